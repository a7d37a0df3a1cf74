/- Walks: hulls and wages held against others, by the reference -/
import Derived.Test.YtclbmlmlhiiaeaaGreatDoorQV3
import Derived.Test.YtclbmlmlhiiaeaaGreatDoorQC6
import Derived.Test.YtclbmlmlhiiaeaaGreatDoorQA7
import Derived.Test.YtclbmlmlhiiaeaaGreatDoorQU1
import Derived.Test.YtclbmlmlhiiaeaaGreatDoorQR7
namespace Go.Proofs.YtclbmlmlhiiaeaaGreatDoor
open Go.RowKit
structure H2 (w:World) (sa ua sb ub:Option Addr) (sn sc un uc sm sd um ud:Nat) (S S':Nat→Sea) (U U':Nat→Sou) (W:World):Prop where
 bel:Below w.heap.size w W
 b0:BoxAt W w.heap.size #[.slice sa sn sc,.slice ua un uc] 25
 b1:BoxAt W (w.heap.size+1) #[.slice sb sm sd,.slice ub um ud] 25
 s0:SeasAt W sa sn S
 u0:SousAt W ua un U
 s1:SeasAt W sb sm S'
 u1:SousAt W ub um U'
 tab:Tab W
theorem H2.grow{w W W':World}{sa ua sb ub:Option Addr}{sn sc un uc sm sd um ud:Nat}{S S':Nat→Sea}{U U':Nat→Sou}(h:H2 w sa ua sb ub sn sc un uc sm sd um ud S S' U U' W)(hb:Below W.heap.size W W'):H2 w sa ua sb ub sn sc un uc sm sd um ud S S' U U' W' :=
 ⟨h.bel.next hb,h.b0.grow hb,h.b1.grow hb,h.s0.grow hb,h.u0.grow hb,h.s1.grow hb,h.u1.grow hb,h.tab.grow hb⟩
theorem H2.cells{w W:World}{sa ua sb ub:Option Addr}{sn sc un uc sm sd um ud:Nat}{S S':Nat→Sea}{U U':Nat→Sou}(h:H2 w sa ua sb ub sn sc un uc sm sd um ud S S' U U' W):W.cell? ⟨w.heap.size,0,none⟩=some (.slice sa sn sc)∧W.cell? ⟨w.heap.size,1,none⟩=some (.slice ua un uc)∧W.cell? ⟨w.heap.size+1,0,none⟩=some (.slice sb sm sd)∧W.cell? ⟨w.heap.size+1,1,none⟩=some (.slice ub um ud) :=
 ⟨cellAt h.b0 0,cellAt h.b0 1,cellAt h.b1 0,cellAt h.b1 1⟩
set_option maxRecDepth 100000 in
set_option maxHeartbeats 1000000 in
theorem sameHulls28_any(sa ua sb ub:Option Addr)(sn sc un uc sm sd um ud:Nat)(S S':Nat→Sea)(U U':Nat→Sou)(w:World)(hS:SeasAt w sa sn S)(hU:SousAt w ua un U)(hS':SeasAt w sb sm S')(hU':SousAt w ub um U')(hok:HullOk S sn U un)(hok':HullOk S' sm U' um)(ht:Tab w) :
  Calls Tryz.prog 28 #[.agg #[.slice sa sn sc,.slice ua un uc],.agg #[.slice sb sm sd,.slice ub um ud]] w fun e w'=>e = .returned (.bool (hullT S sn U un==hullT S' sm U' um))∧Below w.heap.size w w':=by
 obtain⟨z0,z1,-,hB⟩:=blocks2 (show(w.alloc (.cells #[.slice sa sn sc,.slice ua un uc] 25)).alloc (.cells #[.slice sb sm sd,.slice ub um ud] 25)=_ from rfl);have J0:=Lib.hid (show H2 w sa ua sb ub sn sc un uc sm sd um ud S S' U U' ((w.alloc (.cells #[.slice sa sn sc,.slice ua un uc] 25)).alloc (.cells #[.slice sb sm sd,.slice ub um ud] 25)) from⟨hB,z0,z1,hS.grow hB,hU.grow hB,hS'.grow hB,hU'.grow hB,ht.grow hB⟩);have C1:=Lib.hid (fun W (h:H2 w sa ua sb ub sn sc un uc sm sd um ud S S' U U' W)=>hullText_any sa ua sn sc un uc S U W h.s0 h.u0 hok h.tab);have C2:=Lib.hid (fun W (h:H2 w sa ua sb ub sn sc un uc sm sd um ud S S' U U' W)=>hullText_any sb ub sm sd um ud S' U' W h.s1 h.u1 hok' h.tab);clear hS hU hS' hU' ht hok hok' z0 z1 hB;generalize hullT S sn U un=A at *;generalize hullT S' sm U' um=B at *;go_enter Tryz.func28,Tryz.ntmps28;go_upto_region 1 with (fail)
 generalize World.alloc (World.alloc w _) _=W0 at *;refine wp_region_stg (S:=(fun w':World=>w'.cell? ⟨w.heap.size,0,none⟩=some (.slice sa sn sc)∧w'.cell? ⟨w.heap.size,1,none⟩=some (.slice ua un uc)∧w'.cell? ⟨w.heap.size+1,0,none⟩=some (.slice sb sm sd)∧w'.cell? ⟨w.heap.size+1,1,none⟩=some (.slice ub um ud))) (L:=[]) (D:=[]) (by kernel_rfl) (by kernel_rfl) (by have I0:=Lib.hid (J0.out.grow (Below.drew (Below.refl _ _))); exact I0.out.cells) (fun e he=>by cases he) (fun hC0 hH0=>?_);have R1I0:=Lib.hid (J0.out.grow (Below.drew (Below.refl _ _)));clear J0;generalize World.drew W0=R1v0 at *;refine tkA (i:=0) (v:=?_) rfl hC0 (Or.inl ⟨by rfl,?_⟩) hH0 (fun hC1 hH1=>?_);rotate_left
 ·(intro w9 hSw; obtain⟨hSw,hLw⟩:=hSw; clear hLw; (try dsimp only at hSw); (go_split_ands; go_simp); (try with_reducible rfl))
 clear hC0 hH0
 try simp only [Act.put,List.setIfInBounds_toArray,List.set_cons_zero,List.set_cons_succ]
 refine tkA (i:=2) (v:=?_) rfl hC1 (Or.inl ⟨by rfl,?_⟩) hH1 (fun hC2 hH2=>?_);rotate_left
 ·(intro w9 hSw; obtain⟨hSw,hLw⟩:=hSw; clear hLw; (try dsimp only at hSw); (go_split_ands; go_simp); (try with_reducible rfl))
 clear hC1 hH1
 try simp only [Act.put,List.setIfInBounds_toArray,List.set_cons_zero,List.set_cons_succ]
 refine onA (i:=1) rfl hC2 (fun K hK=>?_);clear hC2 hH2;go_simp;refine(C1.out R1v0 R1I0.out).mono ?_;rintro e R1v1 ⟨rfl,hb1⟩;have R1I1:=Lib.hid (R1I0.out.grow hb1);clear hb1 R1I0;go_wp2_with fail;refine hK.out _ _ ?_ (fun hC3 hH3=>?_)
 ·exact⟨R1I1.out.cells,fun e he=>by cases he⟩
 clear hK K
 try simp only [Act.put,List.setIfInBounds_toArray,List.set_cons_zero,List.set_cons_succ]
 refine onA (i:=3) rfl hC3 (fun K hK=>?_);clear hC3 hH3;go_simp;refine(C2.out R1v1 R1I1.out).mono ?_;rintro e R1v2 ⟨rfl,hb2⟩;have R1I2:=Lib.hid (R1I1.out.grow hb2);clear hb2 R1I1;go_wp2_with fail;refine hK.out _ _ ?_ (fun hC4 hH4=>?_)
 ·exact⟨R1I2.out.cells,fun e he=>by cases he⟩
 clear hK K
 try simp only [Act.put,List.setIfInBounds_toArray,List.set_cons_zero,List.set_cons_succ]
 refine tkA (i:=4) (v:=?_) rfl hC4 (Or.inl ⟨by rfl,?_⟩) hH4 (fun hC5 hH5=>?_);rotate_left
 ·(intro w9 hSw; obtain⟨hSw,hLw⟩:=hSw; clear hLw; (try dsimp only at hSw); (go_split_ands; go_simp); (try with_reducible rfl))
 clear hC4 hH4
 try simp only [Act.put,List.setIfInBounds_toArray,List.set_cons_zero,List.set_cons_succ]
 refine tkA (i:=5) (v:=?_) rfl hC5 (Or.inl ⟨by rfl,?_⟩) hH5 (fun hC6 hH6=>?_);rotate_left
 ·(intro w9 hSw; obtain⟨hSw,hLw⟩:=hSw; clear hLw; (try dsimp only at hSw); (go_split_ands; go_simp); (try with_reducible rfl))
 clear hC5 hH5
 try simp only [Act.put,List.setIfInBounds_toArray,List.set_cons_zero,List.set_cons_succ]
 refine wpAnyT_done (by kernel_rfl) ?_ _;clear hC6 hH6;go_wp2_with fail;go_ret;exact⟨rfl,R1I2.out.bel⟩
structure W2 (w:World) (x y:WagesV) (sa ta sb tb:Option Addr) (sc tc sd td:Nat) (W:World):Prop where
 bel:Below w.heap.size w W
 b0:BoxAt W w.heap.size #[.int .i64 x.cr,.slice sa x.sn sc,.slice ta x.tn tc] 38
 b1:BoxAt W (w.heap.size+1) #[.int .i64 y.cr,.slice sb y.sn sd,.slice tb y.tn td] 38
 s0:Row W sa x.sn 2 (fun i j=>.int .i64 (x.S i j:Nat))
 t0:Row W ta x.tn 8 (fun i j=>.int .i64 (x.T i j:Nat))
 s1:Row W sb y.sn 2 (fun i j=>.int .i64 (y.S i j:Nat))
 t1:Row W tb y.tn 8 (fun i j=>.int .i64 (y.T i j:Nat))
theorem W2.grow{w W W':World}{x y:WagesV}{sa ta sb tb:Option Addr}{sc tc sd td:Nat}(h:W2 w x y sa ta sb tb sc tc sd td W)(hb:Below W.heap.size W W'):W2 w x y sa ta sb tb sc tc sd td W' :=
 ⟨h.bel.next hb,h.b0.grow hb,h.b1.grow hb,Row.grow h.s0 hb,Row.grow h.t0 hb,Row.grow h.s1 hb,Row.grow h.t1 hb⟩
theorem W2.cells{w W:World}{x y:WagesV}{sa ta sb tb:Option Addr}{sc tc sd td:Nat}(h:W2 w x y sa ta sb tb sc tc sd td W):W.cell? ⟨w.heap.size,0,none⟩=some (.int .i64 x.cr)∧W.cell? ⟨w.heap.size,1,none⟩=some (.slice sa x.sn sc)∧W.cell? ⟨w.heap.size,2,none⟩=some (.slice ta x.tn tc)∧W.cell? ⟨w.heap.size+1,0,none⟩=some (.int .i64 y.cr)∧W.cell? ⟨w.heap.size+1,1,none⟩=some (.slice sb y.sn sd)∧W.cell? ⟨w.heap.size+1,2,none⟩=some (.slice tb y.tn td) :=
 ⟨cellAt h.b0 0,cellAt h.b0 1,cellAt h.b0 2,cellAt h.b1 0,cellAt h.b1 1,cellAt h.b1 2⟩
theorem book_lt(x:WagesV)(i:Nat):bookB x i<256:=seal_lt (fun _=>pk_lt _ _ _) _ _
set_option maxRecDepth 100000 in
set_option maxHeartbeats 1000000 in
theorem sameWages27_any(x y:WagesV)(sa ta sb tb:Option Addr)(sc tc sd td:Nat)(w:World)(hS:Row w sa x.sn 2 (fun i j=>.int .i64 (x.S i j:Nat)))(hT:Row w ta x.tn 8 (fun i j=>.int .i64 (x.T i j:Nat)))(hS':Row w sb y.sn 2 (fun i j=>.int .i64 (y.S i j:Nat)))(hT':Row w tb y.tn 8 (fun i j=>.int .i64 (y.T i j:Nat)))(hx:SmallW x)(hy:SmallW y) :
  Calls Tryz.prog 27 #[.agg #[.int .i64 x.cr,.slice sa x.sn sc,.slice ta x.tn tc],.agg #[.int .i64 y.cr,.slice sb y.sn sd,.slice tb y.tn td]] w fun e w'=>e = .returned (.bool (eqB (szB (bookN x)) (szB (bookN y)) (bookB x) (bookB y)))∧Below w.heap.size w w':=by
 obtain⟨z0,z1,-,hB⟩:=blocks2 (show(w.alloc (.cells #[.int .i64 x.cr,.slice sa x.sn sc,.slice ta x.tn tc] 38)).alloc (.cells #[.int .i64 y.cr,.slice sb y.sn sd,.slice tb y.tn td] 38)=_ from rfl);have J0:=Lib.hid (show W2 w x y sa ta sb tb sc tc sd td ((w.alloc (.cells #[.int .i64 x.cr,.slice sa x.sn sc,.slice ta x.tn tc] 38)).alloc (.cells #[.int .i64 y.cr,.slice sb y.sn sd,.slice tb y.tn td] 38)) from⟨hB,z0,z1,Row.grow hS hB,Row.grow hT hB,Row.grow hS' hB,Row.grow hT' hB⟩);have C1:=Lib.hid (fun W (h:W2 w x y sa ta sb tb sc tc sd td W)=>wages65_any x sa ta sc tc W h.s0 h.t0 hx);have C2:=Lib.hid (fun W (h:W2 w x y sa ta sb tb sc tc sd td W)=>wages65_any y sb tb sd td W h.s1 h.t1 hy);have K1:=Lib.hid (book_lt x);have K2:=Lib.hid (book_lt y);clear hS hT hS' hT' hx hy z0 z1 hB;generalize szB (bookN x)=n at *;generalize szB (bookN y)=m at *;generalize bookB x=A at *;generalize bookB y=B at *;have C3:=Lib.hid (fun W o1 c1 o2 c2 (h1:BytesAt W o1 n A) (h2:BytesAt W o2 m B)=>bytes_any o1 o2 n c1 m c2 A B W h1 h2 (fun i _=>K1.out i) (fun i _=>K2.out i));clear K1 K2;go_enter Tryz.func27,Tryz.ntmps27;go_upto_region 1 with (fail)
 generalize World.alloc (World.alloc w _) _=W0 at *;refine wp_region_stg (S:=(fun w':World=>w'.cell? ⟨w.heap.size,0,none⟩=some (.int .i64 (x.cr:Nat))∧w'.cell? ⟨w.heap.size,1,none⟩=some (.slice sa x.sn sc)∧w'.cell? ⟨w.heap.size,2,none⟩=some (.slice ta x.tn tc)∧w'.cell? ⟨w.heap.size+1,0,none⟩=some (.int .i64 (y.cr:Nat))∧w'.cell? ⟨w.heap.size+1,1,none⟩=some (.slice sb y.sn sd)∧w'.cell? ⟨w.heap.size+1,2,none⟩=some (.slice tb y.tn td))) (L:=[]) (D:=[]) (by kernel_rfl) (by kernel_rfl) (by have I0:=Lib.hid (J0.out.grow (Below.drew (Below.refl _ _))); exact I0.out.cells) (fun e he=>by cases he) (fun hC0 hH0=>?_);have R2I0:=Lib.hid (J0.out.grow (Below.drew (Below.refl _ _)));clear J0;generalize World.drew W0=R2v0 at *;refine tkA (i:=0) (v:=?_) rfl hC0 (Or.inl ⟨by rfl,?_⟩) hH0 (fun hC1 hH1=>?_);rotate_left
 ·(intro w9 hSw; obtain⟨hSw,hLw⟩:=hSw; clear hLw; (try dsimp only at hSw); (go_split_ands; go_simp); (try with_reducible rfl))
 clear hC0 hH0
 try simp only [Act.put,List.setIfInBounds_toArray,List.set_cons_zero,List.set_cons_succ]
 refine tkA (i:=2) (v:=?_) rfl hC1 (Or.inl ⟨by rfl,?_⟩) hH1 (fun hC2 hH2=>?_);rotate_left
 ·(intro w9 hSw; obtain⟨hSw,hLw⟩:=hSw; clear hLw; (try dsimp only at hSw); (go_split_ands; go_simp); (try with_reducible rfl))
 clear hC1 hH1
 try simp only [Act.put,List.setIfInBounds_toArray,List.set_cons_zero,List.set_cons_succ]
 refine onA (i:=1) rfl hC2 (fun K hK=>?_);clear hC2 hH2;go_simp;refine(C1.out R2v0 R2I0.out).mono ?_;rintro e R2v1 ⟨o1,c1,rfl,hl1,-,-,hb1⟩;have R2I1:=Lib.hid (R2I0.out.grow hb1);have L1:=Lib.hid hl1;clear hb1 R2I0 hl1;go_wp2_with fail;refine hK.out _ _ ?_ (fun hC3 hH3=>?_)
 ·exact⟨R2I1.out.cells,fun e he=>by cases he⟩
 clear hK K
 try simp only [Act.put,List.setIfInBounds_toArray,List.set_cons_zero,List.set_cons_succ]
 refine onA (i:=3) rfl hC3 (fun K hK=>?_);clear hC3 hH3;go_simp;refine(C2.out R2v1 R2I1.out).mono ?_;rintro e R2v2 ⟨o2,c2,rfl,hl2,-,-,hb2⟩;have R2I2:=Lib.hid (R2I1.out.grow hb2);have L2:=Lib.hid (BytesAt.grow L1.out hb2);have L3:=Lib.hid hl2;clear hb2 R2I1 L1 hl2;go_wp2_with fail;refine hK.out _ _ ?_ (fun hC4 hH4=>?_)
 ·exact⟨R2I2.out.cells,fun e he=>by cases he⟩
 clear hK K
 try simp only [Act.put,List.setIfInBounds_toArray,List.set_cons_zero,List.set_cons_succ]
 refine onA (i:=4) rfl hC4 (fun K hK=>?_);clear hC4 hH4;go_simp;refine(C3.out R2v2 _ _ _ _ L2.out L3.out).mono ?_;rintro e R2v3 ⟨rfl,he3⟩; subst he3; have hb3:=Below.refl R2v3.heap.size R2v3;have R2I3:=Lib.hid (R2I2.out.grow hb3);clear hb3 R2I2;go_wp2_with fail;refine hK.out _ _ ?_ (fun hC5 hH5=>?_)
 ·exact⟨R2I3.out.cells,fun e he=>by cases he⟩
 clear hK K
 try simp only [Act.put,List.setIfInBounds_toArray,List.set_cons_zero,List.set_cons_succ]
 refine tkA (i:=5) (v:=?_) rfl hC5 (Or.inl ⟨by rfl,?_⟩) hH5 (fun hC6 hH6=>?_);rotate_left
 ·(intro w9 hSw; obtain⟨hSw,hLw⟩:=hSw; clear hLw; (try dsimp only at hSw); (go_split_ands; go_simp); (try with_reducible rfl))
 clear hC5 hH5
 try simp only [Act.put,List.setIfInBounds_toArray,List.set_cons_zero,List.set_cons_succ]
 refine wpAnyT_done (by kernel_rfl) ?_ _;clear hC6 hH6;go_wp2_with fail;go_ret;exact⟨rfl,R2I3.out.bel⟩
end Go.Proofs.YtclbmlmlhiiaeaaGreatDoor
namespace Go.Proofs.YtclbmlmlhiiaeaaGreatDoor
open Go.RowKit Go.Shelf
structure Shape (σ:Type) where
 At:Nat→Nat→(Nat→Prop)→σ→World→Prop
 keep:∀ {base pb:Nat} {D:Nat→Prop} {x:σ} {A B:World} {C:Nat→Prop},At base pb D x A→Keep C A B→C pb→(∀ g,D g→C g)→At base pb D x B
 lt:∀ {base pb:Nat} {D:Nat→Prop} {x:σ} {W:World} {g:Nat},At base pb D x W→D g→base≤g∧g<W.heap.size
 cells:∀ {base pb:Nat} {D:Nat→Prop} {x:σ} {W:World} {l:Nat} {o:Obj},At base pb D x W→W.heap[l]? = some o→o.isCells=false → ¬ D l
 old:∀ {base pb:Nat} {D:Nat→Prop} {x:σ} {W:World},At base pb D x W→pb<W.heap.size
 cnt:σ→Nat
section
variable {σ:Type} (S:Shape σ)
def TakePost(rb pb base:Nat)(D:Nat→Prop)(R:Option (σ×List UInt8))(w:World)(e:Ending)(w':World):Prop :=
 Keep (fun k=>k<w.heap.size∧k≠rb∧k≠pb ∧ ¬ D k) w w'∧match R with
 | none=>e=err 8
 | some (x,r)=>e = .returned (.tuple #[])∧RdAt w' rb r ∧ ∃ D',S.At base pb D' x w' ∧ ∀ g,D' g→D g∨w.heap.size≤g
structure RdX (F:Array Value) (ft:Nat) (step:σ×Nat→List UInt8→Option (σ×Nat)) (R:Option (σ×Nat)) (w:World) (N nk:Nat) (t:List UInt8) (x:σ) (k:Nat) (D:Nat→Prop) (W:World):Prop where
 bel:Below w.heap.size w W
 f:BoxAt W w.heap.size F ft
 ob:S.At (w.heap.size+4) (w.heap.size+1) D x W
 q:BoxAt W (w.heap.size+2) #[.int .i64 (k:Nat)] 3
 tx:w.heap.size+4≤W.heap.size
 res:linesR step (x,k) t=R
 k2:k≤nk
 len:S.cnt x+t.length≤N
def OffD(s:Nat)(D:Nat→Prop)(W0:World):Nat→Prop:=fun k=>k<W0.heap.size∧k≠s+1∧k≠s+2 ∧ ¬ D k
variable {S} {F:Array Value} {ft:Nat} {step:σ×Nat→List UInt8→Option (σ×Nat)} {R:Option (σ×Nat)} {w:World} {N nk:Nat} {t rest:List UInt8} {x x':σ} {k k':Nat} {D D':Nat→Prop} {W0 W' A B:World}
theorem RdX.keep(h:RdX S F ft step R w N nk t x k D A){C:Nat→Prop}{b:Nat}(hk:Keep C A B)
  (hC:∀ k,k<A.heap.size→k≠b→C k) (hb:w.heap.size+3≤b) (h0:¬ D b):RdX S F ft step R w N nk t x k D B:=by
 have ht:=h.tx;exact⟨h.bel.trans (hk.to_below (fun k hk=>hC k (by omega) (by omega))),hk.box h.f (hC _ (by omega) (by omega)),S.keep h.ob hk (hC _ (by omega) (by omega)) (fun g hg=>hC g (S.lt h.ob hg).2 (fun e=>h0 (e ▸ hg))),hk.box h.q (hC _ (by omega) (by omega)),Nat.le_trans ht hk.size,h.res,h.k2,h.len⟩
theorem RdX.not(h:RdX S F ft step R w N nk t x k D A):∀ g,g<w.heap.size+4 → ¬ D g:=fun g hg hd=>by have:=(S.lt h.ob hd).1; omega
theorem RdX.off(h:RdX S F ft step R w N nk t x k D W0)(hk:Keep (OffD w.heap.size D W0) W0 W'):Below w.heap.size w W'∧KeepsFrom (w.heap.size+4) W0 W':=by
 have ht:=h.tx;refine⟨h.bel.trans (hk.to_below fun k hk=>⟨by omega,by omega,by omega,h.not _ (by omega)⟩),?_⟩;refine keepsFrom_of hk fun k o hB ho hc=>⟨(Array.getElem?_eq_some_iff.1 ho).1,by omega,by omega,S.cells h.ob ho hc⟩
theorem RdX.next(h:RdX S F ft step R w N nk t x k D W0)(hk:Keep (OffD w.heap.size D W0) W0 W')(ob:S.At (w.heap.size+4) (w.heap.size+1) D' x' W')(q:BoxAt W' (w.heap.size+2) #[.int .i64 (k':Nat)] 3)
  (res:linesR step (x',k') rest=R) (k2:k'≤nk) (len:S.cnt x'+rest.length≤N):RdX S F ft step R w N nk rest x' k' D' W':=by
 have ht:=h.tx;exact⟨(h.off hk).1,hk.box h.f ⟨by omega,by omega,by omega,h.not _ (by omega)⟩,ob,q,Nat.le_trans ht hk.size,res,k2,len⟩
theorem RdX.text(h:RdX S F ft step R w N nk t x k D W0)(hk:Keep (OffD w.heap.size D W0) W0 W'){y:Array Value}{ty:Nat}(hb:BoxAt W0 (w.heap.size+3) y ty):BoxAt W' (w.heap.size+3) y ty :=
 hk.box hb ⟨lt_of_heap hb,by omega,by omega,h.not _ (by omega)⟩
structure WhX (S:Shape σ) (s:Nat) (x:σ) (D:Nat→Prop) (W0:World) (line:List UInt8) (j:Nat) (W:World):Prop where
 keep:Keep (OffD s D W0) W0 W
 rd:RdAt W W0.heap.size line
 ob:S.At (s+4) (s+1) D x W
 q:BoxAt W (s+2) #[.int .i64 (j:Nat)] 3
 lt:∀ g,D g→s+4≤g∧g<W0.heap.size
 hs:s+4≤W0.heap.size
variable {s j:Nat} {line:List UInt8} {W:World}
theorem WhX.see(h:WhX S s x D W0 line j W)(u:List UInt8):WhX S s x D W0 u j (W.setCell ⟨W0.heap.size,0,none⟩ (.string ⟨u.toArray⟩)):=by
 have hs:=h.hs;have hk:Keep (fun k=>k≠W0.heap.size) W (W.setCell ⟨W0.heap.size,0,none⟩ (.string ⟨u.toArray⟩)):=Keep.set (Keep.refl _ _) _ _ _ (fun h=>h rfl);exact⟨Keep.set h.keep _ _ _ (fun hh=>by have:=hh.1; omega),h.rd.set u,S.keep h.ob hk (by omega) (fun g hg=>by have:=h.lt g hg; omega),hk.box h.q (by omega),h.lt,hs⟩
theorem WhX.inc(h:WhX S s x D W0 line j W)(j':Nat):WhX S s x D W0 line j' (W.setCell ⟨s+2,0,none⟩ (.int .i64 (j':Nat))):=by
 have hs:=h.hs;have hk:Keep (fun k=>k≠s+2) W (W.setCell ⟨s+2,0,none⟩ (.int .i64 (j':Nat))):=Keep.set (Keep.refl _ _) _ _ _ (fun h=>h rfl);exact⟨Keep.set h.keep _ _ _ (fun hh=>hh.2.2.1 rfl),hk.box h.rd (by omega),S.keep h.ob hk (by omega) (fun g hg=>by have:=h.lt g hg; omega),h.q.store 0 _,h.lt,hs⟩
theorem WhX.took{w3:World}(h:WhX S s x D W0 line j W)(ho:Keep (fun k=>k<W.heap.size∧k≠W0.heap.size∧k≠s+1 ∧ ¬ D k) W w3):Keep (OffD s D W0) W0 w3 :=
 h.keep.trans (Keep.mono ho (fun k hk=>⟨Nat.lt_of_lt_of_le hk.1 h.keep.size,(by have:=hk.1; omega),hk.2.1,hk.2.2.2⟩))
theorem step_bind{once:Nat}{ws:List (List UInt8)}{take:Nat→σ→List UInt8→Option (σ×List UInt8)}{R:Option (σ×Nat)}{J:Nat}{u:List UInt8}(hJ:kindFrom (ws.drop k) k line=J)(h2:J<ws.length)(hu:line.drop (ws.getD J []).length=u)
  (hR:R=(lineStep once ws take (x,k) line).bind fun s'=>linesR step s' rest) :
  R=match take J x u with | none=>none | some (x',r)=>if r = [] then linesR step (x',if J<once then J+1 else J) rest else none:=by
 rw [hR,lineStep_of hJ h2,hu]
 cases take J x u with
 | none=>rfl
 | some p =>
  obtain⟨l,r⟩:=p;by_cases hr:r = []
  ·subst hr; rfl
  ·simp [hr]
end
end Go.Proofs.YtclbmlmlhiiaeaaGreatDoor
namespace Go.Proofs.YtclbmlmlhiiaeaaGreatDoor
open Go.RowKit
theorem sl27:Tryz.prog.underlying 27=some (.slice 147):=by kernel_rfl
theorem info147:∃ i,Tryz.prog.info? 147=some i∧i.zero=some (.agg #[.int .i64 0,.int .i64 0,.int .i64 0])∧i.size=3∧i.bytes=24 :=
 ⟨(Tryz.prog.info? 147).get (by kernel_rfl),by kernel_rfl,by kernel_rfl,by kernel_rfl,by kernel_rfl⟩
def potRd(t:List UInt8):Option ((Int×Int×Int)×List UInt8) :=
 match numP t with
 | none=>none
 | some (d,t1)=>match nextP t1 with
  | none=>none
  | some (l,t2)=>match nextP t2 with
   | none=>none
   | some (m,t3)=>some ((d,l,m),t3)
def PotPost(rb pb base:Nat)(x0 x1 x2 x3 v:Value)(xs:List Value)(n:Nat)(R:Option ((Int×Int×Int)×List UInt8))(w:World)(e:Ending)(w':World):Prop :=
 Keep (fun k=>k<w.heap.size∧k≠rb∧k≠pb∧v.ownBlock≠some k) w w'∧match R with
 | none=>e=err 8
 | some (s,r)=>e = .returned (.tuple #[])∧RdAt w' rb r ∧ ∃ v',BoxAt w' pb #[x0,x1,x2,x3,v'] 29∧w'.ownsRow base 147 3 v' (n+1) (xs ++ [.int .i64 s.1,.int .i64 s.2.1,.int .i64 s.2.2])∧(∀ g,v'.ownBlock=some g→v.ownBlock=some g∨w.heap.size≤g)
theorem nextP_shorter{t r:List UInt8}{n:Int}(h:nextP t=some (n,r)):r.length<t.length:=by
 unfold nextP at h
 split at h
 ·have:=numP_shorter h
  rw [List.length_drop] at this;omega
 ·cases h
set_option maxRecDepth 100000 in
set_option maxHeartbeats 4000000 in
theorem pot111_any(rb pb base:Nat)(x0 x1 x2 x3 v:Value)(xs:List Value)(n:Nat)(t:List UInt8)(w:World)(h:RdAt w rb t)(hp:BoxAt w pb #[x0,x1,x2,x3,v] 29)(hne:pb≠rb)
  (hrb:v.ownBlock≠some rb) (hpb:v.ownBlock≠some pb) (hbase:base≤w.heap.size) (hv:w.ownsRow base 147 3 v n xs) (hn:n≤1000000) (hl:t.length≤2000) :
  Calls Tryz.prog 111 #[bp pb,bp rb] w (PotPost rb pb base x0 x1 x2 x3 v xs n (potRd t) w):=by
 have HS:=Lib.hid (show potRd t=(match numP t with
  | none=>none
  | some (d,t1)=>match nextP t1 with
   | none=>none
   | some (l,t2)=>match nextP t2 with
    | none=>none
    | some (m,t3)=>some ((d,l,m),t3)) from rfl)
 have hrl0:=lt_of_heap h;have ha0:=(Below.refl w.heap.size w).alloc (Nat.le_refl _) (.cells #[bp rb] 155);have O0:=Lib.hid (OffR.below (rb:=rb) ha0);have R0:=Lib.hid (show RdAt (w.alloc (.cells #[bp rb] 155)) rb t from BoxAt.grow h ha0);have N0:=Lib.hid (show BoxAt (w.alloc (.cells #[bp rb] 155)) w.heap.size #[bp rb] 155 from heap_alloc_new _ _);have P0:=Lib.hid hp;have V0:=Lib.hid hv;have hsa:w.heap.size<(w.alloc (.cells #[bp rb] 155)).heap.size:=lt_of_heap N0.out;clear h hp hv ha0;go_enter Tryz.func111,Tryz.ntmps111;go_upto_region 1 with (fail)
 generalize World.alloc w _=w0 at *;have C0:=Lib.hid (number94_any rb t w0 R0.out hl);have c0:=cellAt N0.out 0;have f0:=freeAt N0.out 0;simp only [List.getElem?_toArray,List.getElem?_cons_zero] at c0;go_upto_region 2 with (fail)
 go_wp2_with fail;refine C0.out.mono ?_;intro e w1 hpost;obtain⟨ho,hh⟩:=hpost
 cases hr:numP t with
 | none =>
  rw [hr] at hh;dsimp only at hh;subst hh;simp only [err];exact⟨rfl,(O0.out.trans ho).four,by rw [HS.out,hr]; rfl⟩
 | some p =>
 obtain⟨d,t1⟩:=p;rw [hr] at hh HS;obtain⟨he,hrd⟩:=hh;subst he;dsimp only at HS;have hl1:=numP_shorter hr;have hal:=(Below.refl w1.heap.size w1).alloc (Nat.le_refl _) (.cells #[.int .i64 d,.int .i64 0,.int .i64 0] 147);have O1:=Lib.hid (O0.out.trans ho);have O2:=Lib.hid (O1.out.trans (OffR.below hal));have N2:=Lib.hid ((ho.box N0.out (by omega)).grow hal);have S2:=Lib.hid (show BoxAt (w1.alloc (.cells #[.int .i64 d,.int .i64 0,.int .i64 0] 147)) w1.heap.size #[.int .i64 d,.int .i64 0,.int .i64 0] 147 from heap_alloc_new _ _);have R2:=Lib.hid (show RdAt (w1.alloc (.cells #[.int .i64 d,.int .i64 0,.int .i64 0] 147)) rb t1 from BoxAt.grow hrd hal);have hs1:w.heap.size≤w1.heap.size:=O1.out.size;have hs1':w.heap.size<w1.heap.size:=Nat.lt_of_lt_of_le hsa ho.size;clear ho hrd hal C0 hr c0 f0 O0 R0 N0 O1;go_upto_region 3 with (fail)
 generalize World.alloc w1 _=w2 at *;have C2:=Lib.hid (next112_any w.heap.size rb t1 w2 R2.out N2.out (by omega) (by omega));go_wp2_with fail;refine C2.out.mono ?_;intro e w3 hpost;obtain⟨ho,hh⟩:=hpost
 cases hr:nextP t1 with
 | none =>
  rw [hr] at hh;dsimp only at hh;subst hh;simp only [err];exact⟨rfl,(O2.out.trans ho).four,by rw [HS.out,hr]; rfl⟩
 | some p =>
 obtain⟨l,t2⟩:=p;rw [hr] at hh HS;obtain⟨he,hrd⟩:=hh;subst he;dsimp only at HS;have hl2:=nextP_shorter hr;have S3:=Lib.hid (ho.box S2.out (by omega));have O4:=Lib.hid ((O2.out.trans ho).other w1.heap.size 1 (.int .i64 l) hs1);have N4:=Lib.hid (BoxAt.set (ho.box N2.out (by omega)) ⟨w1.heap.size,1,none⟩ (.int .i64 l) (by dsimp only; omega));have S4:=Lib.hid (show BoxAt (w3.setCell ⟨w1.heap.size,1,none⟩ (.int .i64 l)) w1.heap.size #[.int .i64 d,.int .i64 l,.int .i64 0] 147 from BoxAt.store S3.out 1 _);have R4:=Lib.hid (show RdAt (w3.setCell ⟨w1.heap.size,1,none⟩ (.int .i64 l)) rb t2 from BoxAt.set hrd _ _ (by dsimp only; omega));have s1:=cellAt S3.out 1;have sf:=freeAt S3.out 1;simp only [List.getElem?_toArray,List.getElem?_cons_zero,List.getElem?_cons_succ] at s1;clear ho hrd hr C2 S2 O2 N2 R2;go_upto_region 4 with (fail)
 generalize World.setCell w3 _ _=w4 at *;clear s1 sf S3;have C4:=Lib.hid (next112_any w.heap.size rb t2 w4 R4.out N4.out (by omega) (by omega));go_wp2_with fail;refine C4.out.mono ?_;intro e w7 hpost;obtain⟨ho,hh⟩:=hpost
 cases hr:nextP t2 with
 | none =>
  rw [hr] at hh;dsimp only at hh;subst hh;simp only [err];exact⟨rfl,(O4.out.trans ho).four,by rw [HS.out,hr]; rfl⟩
 | some p =>
 obtain⟨m,t3⟩:=p;rw [hr] at hh HS;obtain⟨he,hrd⟩:=hh;subst he;dsimp only at HS;have HS2:=Lib.hid HS.out;have S7:=Lib.hid (ho.box S4.out (by omega));have O8:=Lib.hid ((O4.out.trans ho).other w1.heap.size 2 (.int .i64 m) hs1);have R8:=Lib.hid (show RdAt (w7.setCell ⟨w1.heap.size,2,none⟩ (.int .i64 m)) rb t3 from BoxAt.set hrd _ _ (by dsimp only; omega));have S8:=Lib.hid (show BoxAt (w7.setCell ⟨w1.heap.size,2,none⟩ (.int .i64 m)) w1.heap.size #[.int .i64 d,.int .i64 l,.int .i64 m] 147 from S7.out.store 2 _);have s2:=cellAt S7.out 2;have sf2:=freeAt S7.out 2;simp only [List.getElem?_toArray,List.getElem?_cons_zero,List.getElem?_cons_succ] at s2;clear ho hrd hr C4 S4 O4 N4 R4 HS;go_upto_region 5 with (fail)
 have hpw:=lt_of_heap P0.out;have P8:=Lib.hid (O8.out.box P0.out hne);have V8:=Lib.hid (O8.out.row V0.out hrb);have hvw:=V0.out.lt;have hs8:=O8.out.size;have K8:=Lib.hid (OffR.four (pb:=pb) (v:=v) O8.out);generalize World.setCell w7 _ _=w8 at *;clear s2 sf2 S7 P0 V0 O8;refine wp_region_stg (S:=(fun _=>True)) (L:=[(10,(fun w':World=>w'.cell? ⟨pb,4,none⟩=some v∧w'.cell? ⟨w1.heap.size,0,none⟩=some (.int .i64 d)∧w'.cell? ⟨w1.heap.size,1,none⟩=some (.int .i64 l)∧w'.cell? ⟨w1.heap.size,2,none⟩=some (.int .i64 m)))]) (D:=[(10,4),(10,5)]) (by kernel_rfl) (by kernel_rfl) trivial (by intro e he; simp only [List.mem_cons,List.mem_nil_iff,or_false] at he; subst he; exact⟨cellAt P8.out 4,cellAt S8.out 0,cellAt S8.out 1,cellAt S8.out 2⟩) (fun hC0 hH0=>?_);have Pd:=Lib.hid (show BoxAt w8.drew pb #[x0,x1,x2,x3,v] 29 from P8.out);have Sd:=Lib.hid (show BoxAt w8.drew w1.heap.size #[.int .i64 d,.int .i64 l,.int .i64 m] 147 from S8.out);have Rd:=Lib.hid (show RdAt w8.drew rb t3 from R8.out);have Vd:=Lib.hid (V8.out.drew);have hk0:Keep (fun k=>k<w.heap.size∧k≠rb∧k≠pb∧v.ownBlock≠some k) w8 w8.drew:=⟨rfl,rfl,rfl,Nat.le_refl _,fun _ _=>rfl⟩
 have Kd:=Lib.hid (K8.out.trans hk0);have hsd:w.heap.size≤w8.drew.heap.size:=hs8;generalize World.drew w8=wd at *;clear P8 S8 R8 V8 K8 hk0 hs8;refine tkA (i:=0) (v:=?_) rfl hC0 (Or.inl ⟨by rfl,?_⟩) hH0 (fun hC1 hH1=>?_);rotate_left
 ·(intro w9 hSw; obtain⟨hSw,hLw⟩:=hSw; clear hLw; (try dsimp only at hSw); (go_split_ands; go_simp); (try with_reducible rfl))
 clear hC0 hH0
 try simp only [Act.put,List.setIfInBounds_toArray,List.set_cons_zero,List.set_cons_succ]
 refine tkA (i:=1) (v:=?_) rfl hC1 (Or.inl ⟨by rfl,?_⟩) hH1 (fun hC2 hH2=>?_);rotate_left
 ·(intro w9 hSw; obtain⟨hSw,hLw⟩:=hSw; clear hLw; (try dsimp only at hSw); (go_split_ands; go_simp); (try with_reducible rfl))
 clear hC1 hH1
 try simp only [Act.put,List.setIfInBounds_toArray,List.set_cons_zero,List.set_cons_succ]
 refine tkA (i:=2) (v:=?_) rfl hC2 (Or.inl ⟨by rfl,?_⟩) hH2 (fun hC3 hH3=>?_);rotate_left
 ·(intro w9 hSw; obtain⟨hSw,hLw⟩:=hSw; clear hLw; (try dsimp only at hSw); (go_split_ands; go_simp); (try with_reducible rfl))
 clear hC2 hH2
 try simp only [Act.put,List.setIfInBounds_toArray,List.set_cons_zero,List.set_cons_succ]
 refine tkA (i:=3) (v:=?_) rfl hC3 (Or.inl ⟨by rfl,?_⟩) hH3 (fun hC4 hH4=>?_);rotate_left
 ·(intro w9 hSw; obtain⟨hSw,hLw⟩:=hSw; clear hLw; (try dsimp only at hSw); (go_split_ands; go_simp); (try with_reducible rfl))
 clear hC3 hH3
 try simp only [Act.put,List.setIfInBounds_toArray,List.set_cons_zero,List.set_cons_succ]
 refine tkA (i:=4) (v:=?_) rfl hC4 (Or.inl ⟨by rfl,?_⟩) hH4 (fun hC5 hH5=>?_);rotate_left
 ·(intro w9 hSw; obtain⟨hSw,hLw⟩:=hSw; have hl10:=hLw _ List.mem_cons_self rfl; dsimp only at hl10; clear hLw; (try dsimp only at hSw); (go_split_ands; go_simp); (try with_reducible rfl))
 clear hC4 hH4
 try simp only [Act.put,List.setIfInBounds_toArray,List.set_cons_zero,List.set_cons_succ]
 refine tkA (i:=5) (v:=?_) rfl hC5 (Or.inl ⟨by rfl,?_⟩) hH5 (fun hC6 hH6=>?_);rotate_left
 ·(intro w9 hSw; obtain⟨hSw,hLw⟩:=hSw; have hl10:=hLw _ List.mem_cons_self rfl; dsimp only at hl10; clear hLw; (try dsimp only at hSw); (go_split_ands; go_simp); (try with_reducible rfl))
 clear hC5 hH5
 try simp only [Act.put,List.setIfInBounds_toArray,List.set_cons_zero,List.set_cons_succ]
 refine onA (i:=6) rfl hC6 (fun K hK=>?_);clear hC6 hH6;have hal:=(Below.refl wd.heap.size wd).alloc (Nat.le_refl _) (.cells #[.int .i64 d,.int .i64 l,.int .i64 m] 147);have P9:=Lib.hid (show BoxAt (wd.alloc (.cells #[.int .i64 d,.int .i64 l,.int .i64 m] 147)) pb #[x0,x1,x2,x3,v] 29 from BoxAt.grow Pd.out hal);have S9:=Lib.hid (show BoxAt (wd.alloc (.cells #[.int .i64 d,.int .i64 l,.int .i64 m] 147)) w1.heap.size #[.int .i64 d,.int .i64 l,.int .i64 m] 147 from BoxAt.grow Sd.out hal);have R9:=Lib.hid (show RdAt (wd.alloc (.cells #[.int .i64 d,.int .i64 l,.int .i64 m] 147)) rb t3 from BoxAt.grow Rd.out hal);have V9:=Lib.hid (Vd.out.alloc (.cells #[.int .i64 d,.int .i64 l,.int .i64 m] 147));have B9:=Lib.hid (show BoxAt (wd.alloc (.cells #[.int .i64 d,.int .i64 l,.int .i64 m] 147)) wd.heap.size #[.int .i64 d,.int .i64 l,.int .i64 m] 147 from heap_alloc_new _ _);have K9:=Lib.hid (Kd.out.trans (Keep.of_below hal fun k (hk:k<w.heap.size∧k≠rb∧k≠pb∧v.ownBlock≠some k)=>Nat.lt_of_lt_of_le hk.1 hsd));have hs9:w.heap.size≤(wd.alloc (.cells #[.int .i64 d,.int .i64 l,.int .i64 m] 147)).heap.size:=Nat.le_trans hsd hal.size;go_simp;go_wp2_with fail;generalize World.alloc wd _=w9 at *;clear Pd Rd Vd Kd Sd hal;refine hK.out _ _ ?_ (fun hC7 hH7=>?_)
 ·exact⟨trivial,fun e he _=>by simp only [List.mem_cons,List.mem_nil_iff,or_false] at he; subst he; exact⟨cellAt P9.out 4,cellAt S9.out 0,cellAt S9.out 1,cellAt S9.out 2⟩⟩
 clear hK K
 try simp only [Act.put,List.setIfInBounds_toArray,List.set_cons_zero,List.set_cons_succ]
 refine onA (i:=7) rfl hC7 (fun K hK=>?_);clear hC7 hH7;obtain⟨i0,hi0,hz0,hz1,hz2⟩:=info147;refine step_appRow (w:=w9) sl27 hi0 hz0 hz1 hz2 (by rfl) (by decide) (by decide) (by rfl) (.tmp 20) (.tmp 22) (by rfl) (v:=v) (xs:=xs) (base:=base) (n:=n) (by rfl) V9.out (b:=wd.heap.size) (us:=[.int .i64 d,.int .i64 l,.int .i64 m]) (by rfl) B9.out (by rfl) (by intro u hu; simp only [List.mem_cons,List.mem_nil_iff,or_false] at hu; rcases hu with rfl | rfl | rfl <;> rfl) hn (Nat.le_trans hbase hs9) ?_;intro g cap wA hw hg hor;have hpv:(some pb:Option Nat)≠v.ownBlock:=fun e=>hpb e.symm;have hrv:(some rb:Option Nat)≠v.ownBlock:=fun e=>hrb e.symm;have hsv:(some w1.heap.size:Option Nat)≠v.ownBlock:=fun e=>by have:=(hvw _ e.symm).2; omega
 have PA:=Lib.hid (P9.out.kept hg hpv);have SA:=Lib.hid (S9.out.kept hg hsv);have RA:=Lib.hid (show RdAt wA rb t3 from BoxAt.kept R9.out hg hrv);have KA:=Lib.hid (K9.out.trans (⟨hg.os,hg.tape,hg.output,hg.size,fun k (hk:k<w.heap.size∧k≠rb∧k≠pb∧v.ownBlock≠some k)=>hg.block k (Nat.lt_of_lt_of_le hk.1 hs9) (fun e=>hk.2.2.2 e.symm)⟩));have VA:=Lib.hid hw;clear hw hg hpv hrv hsv P9 R9 K9 V9 B9 S9;refine hK.out _ _ ?_ (fun hC8 hH8=>?_)
 ·exact⟨trivial,fun e he _=>by simp only [List.mem_cons,List.mem_nil_iff,or_false] at he; subst he; exact⟨cellAt PA.out 4,cellAt SA.out 0,cellAt SA.out 1,cellAt SA.out 2⟩⟩
 clear hK K
 try simp only [Act.put,List.setIfInBounds_toArray,List.set_cons_zero,List.set_cons_succ]
 refine tkA (i:=8) (v:=?_) rfl hC8 (Or.inl ⟨by rfl,?_⟩) hH8 (fun hC9 hH9=>?_);rotate_left
 ·(intro w9 hSw; obtain⟨hSw,hLw⟩:=hSw; clear hLw; (try dsimp only at hSw); (go_split_ands; go_simp); (try with_reducible rfl))
 clear hC8 hH8
 try simp only [Act.put,List.setIfInBounds_toArray,List.set_cons_zero,List.set_cons_succ]
 refine tkA (i:=9) (v:=?_) rfl hC9 (Or.inl ⟨by rfl,?_⟩) hH9 (fun hC10 hH10=>?_);rotate_left
 ·(intro w9 hSw; obtain⟨hSw,hLw⟩:=hSw; clear hLw; (try dsimp only at hSw); (go_split_ands; go_simp); (try with_reducible rfl))
 clear hC9 hH9
 try simp only [Act.put,List.setIfInBounds_toArray,List.set_cons_zero,List.set_cons_succ]
 refine onA (i:=10) rfl hC10 (fun K hK=>?_);clear hC10 hH10;have c0:=cellAt PA.out 4;have f0:=freeAt PA.out 4;simp only [List.getElem?_toArray,List.getElem?_cons_zero,List.getElem?_cons_succ] at c0;go_simp;go_wp2_with fail;refine hK.out _ _ ?_ (fun hC11 hH11=>?_)
 ·exact⟨trivial,fun e he h=>by simp only [List.mem_cons,List.mem_nil_iff,or_false] at he; subst he; exact absurd h (by intro hx; exact Bool.false_ne_true (hx.symm.trans (by kernel_rfl)))⟩
 clear hK K
 try simp only [Act.put]
 refine wpAnyT_done (by kernel_rfl) ?_ _;clear hC11 hH11
 go_end0
 have hsp:OffR pb wA (wA.setCell ⟨pb,4,none⟩ (.slice (some ⟨g,0,none⟩) (n+1) cap)):=Keep.set (Keep.refl _ _) _ _ _ (fun h=>h.2 rfl);unfold PotPost;rw [HS2.out]
 exact⟨Keep.set KA.out _ _ _ (fun hh=>hh.2.2.1 rfl),rfl,BoxAt.set RA.out _ _ hne,_,BoxAt.store PA.out 4 _,hsp.row VA.out (fun e=>by cases e; rcases hor with h | h; exact hpb h; exact absurd (Nat.lt_of_lt_of_le hpw (Nat.le_trans hs9 (Nat.le_of_eq h.symm))) (Nat.lt_irrefl _)),fun g' e=>by
  cases e
  rcases hor with h | h
  ·exact .inl h
  ·exact .inr (Nat.le_trans hs9 (Nat.le_of_eq h.symm))⟩
end Go.Proofs.YtclbmlmlhiiaeaaGreatDoor
