/- Walks: the book of wages. -/
import Derived.Test.YtclbmlmlhiiaeaaGreatDoorQRL
import Derived.Test.YtclbmlmlhiiaeaaGreatDoorG7
import Derived.Test.YtclbmlmlhiiaeaaGreatDoorQA6
import Derived.Deep.CutRange
namespace Go.Proofs.YtclbmlmlhiiaeaaGreatDoor
open Go.RowKit
structure Bk (s:Nat) (w:World) (cr:Nat) (sa ta:Option Addr) (sn sc tn tc:Nat) (S T:Nat→Nat→Nat) (W:World):Prop where
 bx:BoxAt W s #[.int .i64 cr,.slice sa sn sc,.slice ta tn tc] 38
 tp:BoxAt W (s+1) #[.slice none 0 0,.int .i64 0] 118
 ss:Row W sa sn 2 (fun i j=>.int .i64 (S i j:Nat))
 tt:Row W ta tn 8 (fun i j=>.int .i64 (T i j:Nat))
 so:0<sn→blk sa<s
 to_:0<tn→blk ta<s
 bel:Below s w W
 size:s+2≤W.heap.size
theorem Bk.keep{s:Nat}{w:World}{cr:Nat}{sa ta:Option Addr}{sn sc tn tc:Nat}{S T:Nat→Nat→Nat}{W W':World}{C:Nat→Prop}(h:Bk s w cr sa ta sn sc tn tc S T W)(hk:Keep C W W')(hC:∀ k,k<s+2→C k):Bk s w cr sa ta sn sc tn tc S T W' :=
 ⟨hk.box h.bx (hC _ (by omega)),hk.box h.tp (hC _ (by omega)),Row.keep h.ss hk (fun hn=>hC _ (by have:=h.so hn; omega)),Row.keep h.tt hk (fun hn=>hC _ (by have:=h.to_ hn; omega)),h.so,h.to_,h.bel.trans (hk.to_below (fun k hk=>hC k (by omega))),Nat.le_trans h.size hk.size⟩
theorem Bk.grow{s:Nat}{w:World}{cr:Nat}{sa ta:Option Addr}{sn sc tn tc:Nat}{S T:Nat→Nat→Nat}{W W':World}(h:Bk s w cr sa ta sn sc tn tc S T W)(hb:Below W.heap.size W W'):Bk s w cr sa ta sn sc tn tc S T W' :=
 h.keep (Keep.of_below hb (C:=fun k=>k<W.heap.size) fun k hk=>hk) (fun k hk=>by have:=h.size; omega)
theorem Bk.grown{s:Nat}{w:World}{cr:Nat}{sa ta:Option Addr}{sn sc tn tc:Nat}{S T:Nat→Nat→Nat}{W W':World}{g:Nat}(h:Bk s w cr sa ta sn sc tn tc S T W)(hg:W.grownBy W' (some g))(h2:s+2≤g):Bk s w cr sa ta sn sc tn tc S T W' :=
 h.keep (C:=fun k=>k<W.heap.size∧k≠g) ⟨hg.os,hg.tape,hg.output,hg.size,fun k hk=>hg.block k hk.1 (fun e=>hk.2 (by cases e; rfl))⟩ (fun k hk=>by have:=h.size; omega)
def Cur(W:World)(g:Nat)(E:TypeId)(n z:Nat)(X:Nat→Nat→Nat):Prop := ∃ cur,BoxAt W g cur E ∧ ∀ i,i<n → ∀ j,j<z→cur[i * z+j]? = some (.int .i64 (X i j:Nat))
theorem Cur.grow{W W':World}{g n z:Nat}{E:TypeId}{X:Nat→Nat→Nat}(h:Cur W g E n z X)(hb:Below W.heap.size W W'):Cur W' g E n z X:=by
 obtain⟨cur,h1,h2⟩:=h;exact⟨cur,h1.grow hb,h2⟩
theorem Cur.grown{W W':World}{g g' n z:Nat}{E:TypeId}{X:Nat→Nat→Nat}(h:Cur W g E n z X)(hg:W.grownBy W' (some g'))(hne:g≠g'):Cur W' g E n z X:=by
 obtain⟨cur,h1,h2⟩:=h;exact⟨cur,h1.kept hg (fun e=>hne (by cases e; rfl)),h2⟩
theorem Cur.set{W:World}{g p n z:Nat}{E:TypeId}{X:Nat→Nat→Nat}(h:Cur W g E n z X)(o:Nat)(v:Value)(hne:g≠p):Cur (W.setCell ⟨p,o,none⟩ v) g E n z X:=by
 obtain⟨cur,h1,h2⟩:=h;exact⟨cur,h1.set _ _ (fun e=>hne e.symm),h2⟩
def BkEnd(s:Nat)(w:World)(cr sn tn:Nat)(S T:Nat→Nat→Nat)(W:World):Prop := ∃ g1 c1 g2 c2,BoxAt W s #[.int .i64 cr,.slice (some ⟨g1,0,none⟩) sn c1,.slice (some ⟨g2,0,none⟩) tn c2] 38∧BoxAt W (s+1) #[.slice none 0 0,.int .i64 0] 118 ∧
 Cur W g1 126 sn 2 S∧Cur W g2 130 tn 8 T∧s+2≤g1∧s+2≤g2∧g1≠g2∧sn≤c1∧tn≤c2∧Below s w W
def seamBits(x:Nat→Nat):List Bool:=bitsH (x 0) 5++bitsH (x 1) 6
def spanBits(lo hi m:Nat):List Bool:=bitsH lo m++bitsH (hi - lo) 2
def tickBits(x:Nat→Nat):List Bool:=bitsH (x 0) 2++bitsH (x 1) 2++spanBits (x 2) (x 3) 5++spanBits (x 4) (x 5) 5++spanBits (x 6) (x 7) 6
def listBits(f:(Nat→Nat)→List Bool)(X:Nat→Nat→Nat):Nat→List Bool
 | 0=>[]
 | n+1=>listBits f X n++f (X n)
def wageBits(x:WagesV):List Bool:=bitsH x.cr 3++bitsH x.sn 2++listBits seamBits x.S x.sn++bitsH x.tn 3++listBits tickBits x.T x.tn
theorem listBits_len{f:(Nat→Nat)→List Bool}{m:Nat}(hf:∀ x,(f x).length=m)(X:Nat→Nat→Nat):∀ n,(listBits f X n).length=n * m
 | 0=>by simp [listBits]
 | n+1=>by
  show(listBits f X n++f (X n)).length=_
  rw [List.length_append,listBits_len hf X n,hf,Nat.succ_mul]
theorem seamBits_len(x:Nat→Nat):(seamBits x).length=11:=by simp [seamBits,bitsH_len]
theorem tickBits_len(x:Nat→Nat):(tickBits x).length=26:=by simp [tickBits,spanBits,bitsH_len]
theorem wageBits_len(x:WagesV):(wageBits x).length=8+x.sn * 11+x.tn * 26:=by
 unfold wageBits;simp only [List.length_append,bitsH_len,listBits_len seamBits_len,listBits_len tickBits_len];omega
theorem seamE_pen(s:List Bool)(x:Nat→Nat):∃ l,seamE penS s x=some (s++seamBits x,l):=⟨[x 0,x 1],by
 show some ((s++bitsH (x 0) 5)++bitsH (x 1) 6,[x 0,x 1])=_
 rw [List.append_assoc]
 rfl⟩
theorem ticketE_pen(s:List Bool)(x:Nat→Nat):∃ l,ticketE penS s x=some (s++tickBits x,l):=⟨_,by
 show some (((((((((s++bitsH (x 0) 2)++bitsH (x 1) 2)++bitsH (x 2) 5)++bitsH (x 3 - x 2) 2)++bitsH (x 4) 5)++bitsH (x 5 - x 4) 2)++bitsH (x 6) 6)++bitsH (x 7 - x 6) 2),_)=_
 unfold tickBits spanBits;simp only [List.append_assoc]
 rfl⟩
theorem goS_pen{el:List Bool→(Nat→Nat)→Option (List Bool×List Nat)}{f:(Nat→Nat)→List Bool}(he:∀ s x,∃ l,el s x=some (s++f x,l))(s:List Bool)(X:Nat→Nat→Nat):∀ k,∃ X',goS el s X k=some (s++listBits f X k,X') ∧ ∀ i,k≤i→X' i=X i
 | 0=>⟨X,by simp [goS,listBits],fun _ _=>rfl⟩
 | k+1=>by
  obtain⟨X1,h1,h2⟩:=goS_pen he s X k;obtain⟨l,hl⟩:=he (s++listBits f X k) (X1 k);refine⟨fun i=>if i=k then fun j=>l.getD j 0 else X1 i,?_,fun i hi=>?_⟩
  ·simp only [goS,h1,h2 k (Nat.le_refl _),listBits]
   obtain⟨l',hl'⟩:=he (s++listBits f X k) (X k);rw [h2 k (Nat.le_refl _),hl'] at hl
   injection hl with hl
   injection hl with _ hl
   rw [hl',hl];simp
  ·dsimp only
   rw [if_neg (by omega)];exact h2 i (by omega)
theorem wagesS_pen(x:WagesV):∃ x',wagesS penS ([]:List Bool) x=some (wageBits x,x'):=by
 obtain⟨X1,h1,-⟩:=goS_pen seamE_pen (([]++bitsH x.cr 3)++bitsH x.sn 2) x.S x.sn;obtain⟨X2,h2,-⟩:=goS_pen ticketE_pen (((([]++bitsH x.cr 3)++bitsH x.sn 2)++listBits seamBits x.S x.sn)++bitsH x.tn 3) x.T x.tn;refine⟨⟨x.cr,x.sn,X1,x.tn,X2⟩,?_⟩;simp only [List.nil_append] at h1 h2;simp only [wagesS,sevS,penS,List.nil_append,if_true,h1,h2];rfl
def bookN(x:WagesV):Nat:=rowsB (wageBits x).length
def bookG(x:WagesV):Nat→Nat:=pkB (fun i=>(wageBits x).getD i false) (wageBits x).length
def bookB(x:WagesV):Nat→Nat:=sealB (bookG x) (bookN x)
theorem vals_bits(l:List Bool):l.map Value.bool=valsOf (boolV (fun i=>l.getD i false)) l.length:=by
 apply List.ext_getElem?;intro i;by_cases h:i<l.length
 ·rw [valsOf_get _ h]
  simp [boolV,h]
 ·rw [List.getElem?_eq_none (by simp; omega),List.getElem?_eq_none (by rw [valsOf_length]; omega)]
theorem lt_of_cur{W:World}{g n z:Nat}{E:TypeId}{X:Nat→Nat→Nat}(h:Cur W g E n z X):g<W.heap.size:=by
 obtain⟨cur,h1,-⟩:=h;exact lt_of_heap h1
theorem winfo126:∃ i,Tryz.prog.info? 126=some i∧i.zero=some (.agg #[.int .i64 0,.int .i64 0])∧i.size=2∧i.bytes=16 :=
 ⟨(Tryz.prog.info? 126).get (by kernel_rfl),by kernel_rfl,by kernel_rfl,by kernel_rfl,by kernel_rfl⟩
theorem winfo130:∃ i,Tryz.prog.info? 130=some i∧i.zero=some (.agg #[.int .i64 0,.int .i64 0,.int .i64 0,.int .i64 0,.int .i64 0,.int .i64 0,.int .i64 0,.int .i64 0])∧i.size=8∧i.bytes=64 :=
 ⟨(Tryz.prog.info? 130).get (by kernel_rfl),by kernel_rfl,by kernel_rfl,by kernel_rfl,by kernel_rfl⟩
theorem wsl35:Tryz.prog.underlying 35=some (.slice 126):=by kernel_rfl
theorem wsl36:Tryz.prog.underlying 36=some (.slice 130):=by kernel_rfl
set_option maxRecDepth 100000 in
set_option maxHeartbeats 8000000 in
theorem book64_any(x:WagesV)(sa ta:Option Addr)(sc tc:Nat)(w:World)(hS:Row w sa x.sn 2 (fun i j=>.int .i64 (x.S i j:Nat)))(hT:Row w ta x.tn 8 (fun i j=>.int .i64 (x.T i j:Nat)))(hsn:x.sn≤100)(htn:x.tn≤100)(hpre:∀ i,i<x.tn→TPre (x.T i)) :
  Calls Tryz.prog 64 #[.agg #[.int .i64 x.cr,.slice sa x.sn sc,.slice ta x.tn tc]] w (SlicePost (szB (bookN x)) (bookB x) w):=by
 obtain⟨z0,z1,-,hB⟩:=blocks2 (show(w.alloc (.cells #[.int .i64 x.cr,.slice sa x.sn sc,.slice ta x.tn tc] 38)).alloc (.cells #[.slice none 0 0,.int .i64 0] 118)=_ from rfl)
 have I0:=Lib.hid (show Bk w.heap.size w x.cr sa ta x.sn sc x.tn tc x.S x.T ((w.alloc (.cells #[.int .i64 x.cr,.slice sa x.sn sc,.slice ta x.tn tc] 38)).alloc (.cells #[.slice none 0 0,.int .i64 0] 118)) from
  ⟨z0,z1,Row.grow hS hB,Row.grow hT hB,hS.old,hT.old,hB,by simp⟩)
 have HPRE:=Lib.hid hpre;clear z0 z1 hB hS hT hpre;go_enter Tryz.func64,Tryz.ntmps64;go_upto_region 2 with (fail)
 generalize World.alloc (World.alloc w _) _=W at *;go_cut [6] from 6 to 15 (fun v W'=>BkEnd w.heap.size w x.cr x.sn x.tn x.S x.T W')
 case first =>
  rename_i J1 K1 hJ hK1;have HKK:=Lib.hid (fun a' w' h=>hK1 a' w' (Met.intro (hJ a' w' h)));clear hJ hK1;refine wp_region_stg (S:=(fun _=>True)) (L:=[(9,(fun w':World=>w'.cell? ⟨w.heap.size,1,none⟩=some (.slice sa x.sn sc))),(11,(fun w':World=>w'.cell? ⟨w.heap.size,2,none⟩=some (.slice ta x.tn tc)))]) (D:=[(9,2),(11,6)]) (by kernel_rfl) (by kernel_rfl) trivial (by intro e he; simp only [List.mem_cons,List.mem_nil_iff,or_false] at he; rcases he with rfl | rfl; exact cellAt I0.out.bx 1; exact cellAt I0.out.bx 2) (fun hC0 hH0=>?_);have Id:=Lib.hid (I0.out.grow (Below.drew (Below.refl _ _)));clear I0;generalize World.drew W=v0 at *;refine tkA (i:=1) (v:=?_) rfl hC0 (Or.inl ⟨by rfl,?_⟩) hH0 (fun hC1 hH1=>?_);rotate_left
  ·(intro w9 hSw; obtain⟨hSw,hLw⟩:=hSw; clear hLw; (try dsimp only at hSw); (go_split_ands; go_simp); (try with_reducible rfl))
  clear hC0 hH0
  try simp only [Act.put,List.setIfInBounds_toArray,List.set_cons_zero,List.set_cons_succ]
  refine tkA (i:=2) (v:=?_) rfl hC1 (Or.inl ⟨by rfl,?_⟩) hH1 (fun hC2 hH2=>?_);rotate_left
  ·(intro w9 hSw; obtain⟨hSw,hLw⟩:=hSw; have hl9:=hLw _ List.mem_cons_self rfl; dsimp only at hl9; clear hLw; (try dsimp only at hSw); (go_split_ands; go_simp); (try with_reducible rfl))
  clear hC1 hH1
  try simp only [Act.put,List.setIfInBounds_toArray,List.set_cons_zero,List.set_cons_succ]
  refine tkA (i:=5) (v:=?_) rfl hC2 (Or.inl ⟨by rfl,?_⟩) hH2 (fun hC3 hH3=>?_);rotate_left
  ·(intro w9 hSw; obtain⟨hSw,hLw⟩:=hSw; clear hLw; (try dsimp only at hSw); (go_split_ands; go_simp); (try with_reducible rfl))
  clear hC2 hH2
  try simp only [Act.put,List.setIfInBounds_toArray,List.set_cons_zero,List.set_cons_succ]
  refine tkA (i:=6) (v:=?_) rfl hC3 (Or.inl ⟨by rfl,?_⟩) hH3 (fun hC4 hH4=>?_);rotate_left
  ·(intro w9 hSw; obtain⟨hSw,hLw⟩:=hSw; have hl11:=hLw _ (List.mem_cons_of_mem _ List.mem_cons_self) rfl; dsimp only at hl11; clear hLw; (try dsimp only at hSw); (go_split_ands; go_simp); (try with_reducible rfl))
  clear hC3 hH3
  try simp only [Act.put,List.setIfInBounds_toArray,List.set_cons_zero,List.set_cons_succ]
  refine wpAnyT_two (i:=0) (j:=4) (o:={dst:=some 6,op:=Op.buildSlice 35 0 #[],type:=35,pos := "bits.go:142",after:=#[],guard:=none}) (o':={dst:=some 10,op:=Op.buildSlice 36 0 #[],type:=36,pos := "bits.go:142",after:=#[],guard:=none}) (by kernel_rfl) rfl rfl (by kernel_rfl) hC4 (fun K hK=>?_) (fun K hK=>?_)
  ·clear hC4 hH4
   have hal:=(Below.refl v0.heap.size v0).alloc (Nat.le_refl _) (.cells #[] 126);have I1:=Lib.hid (Id.out.grow hal);have XA1:=Lib.hid (show BoxAt (v0.alloc (.cells #[] 126)) v0.heap.size #[] 126 from heap_alloc_new _ _);have hgA1:w.heap.size+2≤v0.heap.size:=Id.out.size;go_simp;go_wp2_with fail;generalize World.alloc v0 _=v1 at *;clear hal Id;generalize v0.heap.size=gA1 at *;refine hK.out _ _ ?_ (fun hC5 hH5=>?_)
   ·exact⟨trivial,fun e he _=>by simp only [List.mem_cons,List.mem_nil_iff,or_false] at he; rcases he with rfl | rfl; exact cellAt I1.out.bx 1; exact cellAt I1.out.bx 2⟩
   clear hK K
   try simp only [Act.put,List.setIfInBounds_toArray,List.set_cons_zero,List.set_cons_succ]
   refine wpAnyT_two (i:=3) (j:=4) (o:={dst:=some 9,op:=Op.call {callee:=Callee.builtin Builtin.append,args:=#[Operand.tmp 6,Operand.tmp 8],argTypes:=#[35,35]},type:=35,pos := "bits.go:142",after:=#[{on:=0,ground:=Ground.data},{on:=2,ground:=Ground.data}],guard:=none}) (o':={dst:=some 10,op:=Op.buildSlice 36 0 #[],type:=36,pos := "bits.go:142",after:=#[],guard:=none}) (by kernel_rfl) rfl rfl (by kernel_rfl) hC5 (fun K hK=>?_) (fun K hK=>?_)
   ·clear hC5 hH5
    obtain⟨i0,hi0,hz0,hz1,hz2⟩:=winfo126;have hsz2:=I1.out.size;refine step_app_fresh (w:=v1) wsl35 hi0 hz0 hz1 hz2 (by rfl) (by decide) (by decide) (by rfl) (.tmp 6) (.tmp 8) (by rfl) (base:=w.heap.size) (g:=gA1) (by rfl) XA1.out (by omega) (by omega) (oa:=sa) (n:=x.sn) (c:=sc) (by rfl) I1.out.ss (fun _ _=>rfl) (by omega) ?_;intro gA2 cA2 v2 hcur hg hor hlt hcapA;have I2:=Lib.hid (I1.out.grown hg (by omega));have XA2:=Lib.hid (show Cur v2 gA2 126 x.sn 2 x.S from hcur);have hgA2:w.heap.size+2≤gA2:=by rcases hor with h | h <;> omega
    clear hcur hg hor hlt hi0 hz0 hz1 hz2 I1 XA1 hsz2;refine hK.out _ _ ?_ (fun hC6 hH6=>?_)
    ·exact⟨trivial,fun e he _=>by simp only [List.mem_cons,List.mem_nil_iff,or_false] at he; rcases he with rfl | rfl; exact cellAt I2.out.bx 1; exact cellAt I2.out.bx 2⟩
    clear hK K
    try simp only [Act.put,List.setIfInBounds_toArray,List.set_cons_zero,List.set_cons_succ]
    refine onA (i:=4) rfl hC6 (fun K hK=>?_);clear hC6 hH6;have hal:=(Below.refl v2.heap.size v2).alloc (Nat.le_refl _) (.cells #[] 130);have I3:=Lib.hid (I2.out.grow hal);have XB3:=Lib.hid (show BoxAt (v2.alloc (.cells #[] 130)) v2.heap.size #[] 130 from heap_alloc_new _ _);have hgB3:w.heap.size+2≤v2.heap.size:=I2.out.size;have hn3:gA2≠v2.heap.size:=Nat.ne_of_lt (lt_of_cur XA2.out);have XA3:=Lib.hid (Cur.grow XA2.out hal);go_simp;go_wp2_with fail;generalize World.alloc v2 _=v3 at *;clear hal I2 XA2;generalize v2.heap.size=gB3 at *;refine hK.out _ _ ?_ (fun hC7 hH7=>?_)
    ·exact⟨trivial,fun e he _=>by simp only [List.mem_cons,List.mem_nil_iff,or_false] at he; rcases he with rfl | rfl; exact cellAt I3.out.bx 1; exact cellAt I3.out.bx 2⟩
    clear hK K
    try simp only [Act.put,List.setIfInBounds_toArray,List.set_cons_zero,List.set_cons_succ]
    refine onA (i:=7) rfl hC7 (fun K hK=>?_);clear hC7 hH7;obtain⟨i0,hi0,hz0,hz1,hz2⟩:=winfo130;have hsz4:=I3.out.size;refine step_app_fresh (w:=v3) wsl36 hi0 hz0 hz1 hz2 (by rfl) (by decide) (by decide) (by rfl) (.tmp 10) (.tmp 12) (by rfl) (base:=w.heap.size) (g:=gB3) (by rfl) XB3.out (by omega) (by omega) (oa:=ta) (n:=x.tn) (c:=tc) (by rfl) I3.out.tt (fun _ _=>rfl) (by omega) ?_;intro gB4 cB4 v4 hcur hg hor hlt hcapB;have I4:=Lib.hid (I3.out.grown hg (by omega));have XB4:=Lib.hid (show Cur v4 gB4 130 x.tn 8 x.T from hcur);have hgB4:w.heap.size+2≤gB4:=by rcases hor with h | h <;> omega
    have hlo:=lt_of_cur XA3.out;have hn4:gA2≠gB4:=by rcases hor with h | h <;> omega
    have XA4:=Lib.hid (Cur.grown XA3.out hg (by omega));clear hlo;clear hcur hg hor hlt hi0 hz0 hz1 hz2 I3 XB3 hsz4 XA3;refine hK.out _ _ ?_ (fun hC8 hH8=>?_)
    ·exact⟨trivial,fun e he _=>by simp only [List.mem_cons,List.mem_nil_iff,or_false] at he; rcases he with rfl | rfl; exact cellAt I4.out.bx 1; exact cellAt I4.out.bx 2⟩
    clear hK K
    try simp only [Act.put,List.setIfInBounds_toArray,List.set_cons_zero,List.set_cons_succ]
    refine tkA (i:=8) (v:=?_) rfl hC8 (Or.inl ⟨by rfl,?_⟩) hH8 (fun hC9 hH9=>?_);rotate_left
    ·(intro w9 hSw; obtain⟨hSw,hLw⟩:=hSw; clear hLw; (try dsimp only at hSw); (go_split_ands; go_simp); (try with_reducible rfl))
    clear hC8 hH8
    try simp only [Act.put,List.setIfInBounds_toArray,List.set_cons_zero,List.set_cons_succ]
    refine onA (i:=9) rfl hC9 (fun K hK=>?_);clear hC9 hH9;have c0:=cellAt I4.out.bx 1;have f0:=freeAt I4.out.bx 1;simp only [List.getElem?_toArray,List.getElem?_cons_zero,List.getElem?_cons_succ] at c0;have P5:=Lib.hid (show BoxAt (v4.setCell ⟨w.heap.size,1,none⟩ (.slice (some ⟨gA2,0,none⟩) x.sn cA2)) w.heap.size #[.int .i64 x.cr,.slice (some ⟨gA2,0,none⟩) x.sn cA2,.slice ta x.tn tc] 38 from BoxAt.store I4.out.bx 1 _);have Q5:=Lib.hid (show BoxAt (v4.setCell ⟨w.heap.size,1,none⟩ (.slice (some ⟨gA2,0,none⟩) x.sn cA2)) (w.heap.size+1) #[.slice none 0 0,.int .i64 0] 118 from BoxAt.set I4.out.tp _ _ (by dsimp only; omega));have XA5:=Lib.hid (Cur.set XA4.out (p:=w.heap.size) 1 (.slice (some ⟨gA2,0,none⟩) x.sn cA2) (by omega));have XB5:=Lib.hid (Cur.set XB4.out (p:=w.heap.size) 1 (.slice (some ⟨gA2,0,none⟩) x.sn cA2) (by omega));have B5:=Lib.hid (I4.out.bel.setCell (p:=⟨w.heap.size,1,none⟩) (Nat.le_refl _) (.slice (some ⟨gA2,0,none⟩) x.sn cA2));go_simp;go_wp2_with fail;clear c0 f0 I4 XA4 XB4;generalize World.setCell v4 _ _=v5 at *;refine hK.out _ _ ?_ (fun hC10 hH10=>?_)
    ·exact⟨trivial,fun e he h=>by simp only [List.mem_cons,List.mem_nil_iff,or_false] at he; rcases he with rfl | rfl; exact absurd h (by intro hx; exact Bool.false_ne_true (hx.symm.trans (by kernel_rfl))); exact cellAt P5.out 2⟩
    clear hK K
    try simp only [Act.put]
    refine tkA (i:=10) (v:=?_) rfl hC10 (Or.inl ⟨by rfl,?_⟩) hH10 (fun hC11 hH11=>?_);rotate_left
    ·(intro w9 hSw; obtain⟨hSw,hLw⟩:=hSw; clear hLw; (try dsimp only at hSw); (go_split_ands; go_simp); (try with_reducible rfl))
    clear hC10 hH10
    try simp only [Act.put,List.setIfInBounds_toArray,List.set_cons_zero,List.set_cons_succ]
    refine onA (i:=11) rfl hC11 (fun K hK=>?_);clear hC11 hH11;have c0:=cellAt P5.out 2;have f0:=freeAt P5.out 2;simp only [List.getElem?_toArray,List.getElem?_cons_zero,List.getElem?_cons_succ] at c0;have P6:=Lib.hid (show BoxAt (v5.setCell ⟨w.heap.size,2,none⟩ (.slice (some ⟨gB4,0,none⟩) x.tn cB4)) w.heap.size #[.int .i64 x.cr,.slice (some ⟨gA2,0,none⟩) x.sn cA2,.slice (some ⟨gB4,0,none⟩) x.tn cB4] 38 from BoxAt.store P5.out 2 _);have Q6:=Lib.hid (show BoxAt (v5.setCell ⟨w.heap.size,2,none⟩ (.slice (some ⟨gB4,0,none⟩) x.tn cB4)) (w.heap.size+1) #[.slice none 0 0,.int .i64 0] 118 from BoxAt.set Q5.out _ _ (by dsimp only; omega));have XA6:=Lib.hid (Cur.set XA5.out (p:=w.heap.size) 2 (.slice (some ⟨gB4,0,none⟩) x.tn cB4) (by omega));have XB6:=Lib.hid (Cur.set XB5.out (p:=w.heap.size) 2 (.slice (some ⟨gB4,0,none⟩) x.tn cB4) (by omega));have B6:=Lib.hid (B5.out.setCell (p:=⟨w.heap.size,2,none⟩) (Nat.le_refl _) (.slice (some ⟨gB4,0,none⟩) x.tn cB4));go_simp;go_wp2_with fail;clear c0 f0 P5 Q5 B5 XA5 XB5;generalize World.setCell v5 _ _=v6 at *;refine hK.out _ _ ?_ (fun hC12 hH12=>?_)
    ·exact⟨trivial,fun e he h=>by simp only [List.mem_cons,List.mem_nil_iff,or_false] at he; rcases he with rfl | rfl; exact absurd h (by intro hx; exact Bool.false_ne_true (hx.symm.trans (by kernel_rfl))); exact absurd h (by intro hx; exact Bool.false_ne_true (hx.symm.trans (by kernel_rfl)))⟩
    clear hK K
    try simp only [Act.put]
    refine wpAnyT_done (by kernel_rfl) ?_ _;clear hC12 hH12;refine HKK.out _ _ ⟨_,_,_,_,_,_,_,_,_,_,?_,rfl⟩;exact⟨gA2,cA2,gB4,cB4,P6.out,Q6.out,XA6.out,XB6.out,by omega,by omega,by omega,hcapA,hcapB,B6.out⟩
   ·clear hC5 hH5
    have hal:=(Below.refl v1.heap.size v1).alloc (Nat.le_refl _) (.cells #[] 130);have I7:=Lib.hid (I1.out.grow hal);have XB7:=Lib.hid (show BoxAt (v1.alloc (.cells #[] 130)) v1.heap.size #[] 130 from heap_alloc_new _ _);have hgB7:w.heap.size+2≤v1.heap.size:=I1.out.size;have hn7:gA1≠v1.heap.size:=Nat.ne_of_lt (lt_of_heap XA1.out);have XA7:=Lib.hid (BoxAt.grow XA1.out hal);go_simp;go_wp2_with fail;generalize World.alloc v1 _=v7 at *;clear hal I1 XA1;generalize v1.heap.size=gB7 at *;refine hK.out _ _ ?_ (fun hC6 hH6=>?_)
    ·exact⟨trivial,fun e he _=>by simp only [List.mem_cons,List.mem_nil_iff,or_false] at he; rcases he with rfl | rfl; exact cellAt I7.out.bx 1; exact cellAt I7.out.bx 2⟩
    clear hK K
    try simp only [Act.put,List.setIfInBounds_toArray,List.set_cons_zero,List.set_cons_succ]
    refine onA (i:=3) rfl hC6 (fun K hK=>?_);clear hC6 hH6;obtain⟨i0,hi0,hz0,hz1,hz2⟩:=winfo126;have hsz8:=I7.out.size;refine step_app_fresh (w:=v7) wsl35 hi0 hz0 hz1 hz2 (by rfl) (by decide) (by decide) (by rfl) (.tmp 6) (.tmp 8) (by rfl) (base:=w.heap.size) (g:=gA1) (by rfl) XA7.out (by omega) (by omega) (oa:=sa) (n:=x.sn) (c:=sc) (by rfl) I7.out.ss (fun _ _=>rfl) (by omega) ?_;intro gA8 cA8 v8 hcur hg hor hlt hcapA;have I8:=Lib.hid (I7.out.grown hg (by omega));have XA8:=Lib.hid (show Cur v8 gA8 126 x.sn 2 x.S from hcur);have hgA8:w.heap.size+2≤gA8:=by rcases hor with h | h <;> omega
    have hlo:=lt_of_heap XB7.out;have hn8:gB7≠gA8:=by rcases hor with h | h <;> omega
    have XB8:=Lib.hid (BoxAt.kept XB7.out hg (fun e=>by cases e; omega));clear hlo;clear hcur hg hor hlt hi0 hz0 hz1 hz2 I7 XA7 hsz8 XB7;refine hK.out _ _ ?_ (fun hC7 hH7=>?_)
    ·exact⟨trivial,fun e he _=>by simp only [List.mem_cons,List.mem_nil_iff,or_false] at he; rcases he with rfl | rfl; exact cellAt I8.out.bx 1; exact cellAt I8.out.bx 2⟩
    clear hK K
    try simp only [Act.put,List.setIfInBounds_toArray,List.set_cons_zero,List.set_cons_succ]
    refine onA (i:=7) rfl hC7 (fun K hK=>?_);clear hC7 hH7;obtain⟨i0,hi0,hz0,hz1,hz2⟩:=winfo130;have hsz9:=I8.out.size;refine step_app_fresh (w:=v8) wsl36 hi0 hz0 hz1 hz2 (by rfl) (by decide) (by decide) (by rfl) (.tmp 10) (.tmp 12) (by rfl) (base:=w.heap.size) (g:=gB7) (by rfl) XB8.out (by omega) (by omega) (oa:=ta) (n:=x.tn) (c:=tc) (by rfl) I8.out.tt (fun _ _=>rfl) (by omega) ?_;intro gB9 cB9 v9 hcur hg hor hlt hcapB;have I9:=Lib.hid (I8.out.grown hg (by omega));have XB9:=Lib.hid (show Cur v9 gB9 130 x.tn 8 x.T from hcur);have hgB9:w.heap.size+2≤gB9:=by rcases hor with h | h <;> omega
    have hlo:=lt_of_cur XA8.out;have hn9:gA8≠gB9:=by rcases hor with h | h <;> omega
    have XA9:=Lib.hid (Cur.grown XA8.out hg (by omega));clear hlo;clear hcur hg hor hlt hi0 hz0 hz1 hz2 I8 XB8 hsz9 XA8;refine hK.out _ _ ?_ (fun hC8 hH8=>?_)
    ·exact⟨trivial,fun e he _=>by simp only [List.mem_cons,List.mem_nil_iff,or_false] at he; rcases he with rfl | rfl; exact cellAt I9.out.bx 1; exact cellAt I9.out.bx 2⟩
    clear hK K
    try simp only [Act.put,List.setIfInBounds_toArray,List.set_cons_zero,List.set_cons_succ]
    refine tkA (i:=8) (v:=?_) rfl hC8 (Or.inl ⟨by rfl,?_⟩) hH8 (fun hC9 hH9=>?_);rotate_left
    ·(intro w9 hSw; obtain⟨hSw,hLw⟩:=hSw; clear hLw; (try dsimp only at hSw); (go_split_ands; go_simp); (try with_reducible rfl))
    clear hC8 hH8
    try simp only [Act.put,List.setIfInBounds_toArray,List.set_cons_zero,List.set_cons_succ]
    refine onA (i:=9) rfl hC9 (fun K hK=>?_);clear hC9 hH9;have c0:=cellAt I9.out.bx 1;have f0:=freeAt I9.out.bx 1;simp only [List.getElem?_toArray,List.getElem?_cons_zero,List.getElem?_cons_succ] at c0;have P10:=Lib.hid (show BoxAt (v9.setCell ⟨w.heap.size,1,none⟩ (.slice (some ⟨gA8,0,none⟩) x.sn cA8)) w.heap.size #[.int .i64 x.cr,.slice (some ⟨gA8,0,none⟩) x.sn cA8,.slice ta x.tn tc] 38 from BoxAt.store I9.out.bx 1 _);have Q10:=Lib.hid (show BoxAt (v9.setCell ⟨w.heap.size,1,none⟩ (.slice (some ⟨gA8,0,none⟩) x.sn cA8)) (w.heap.size+1) #[.slice none 0 0,.int .i64 0] 118 from BoxAt.set I9.out.tp _ _ (by dsimp only; omega));have XA10:=Lib.hid (Cur.set XA9.out (p:=w.heap.size) 1 (.slice (some ⟨gA8,0,none⟩) x.sn cA8) (by omega));have XB10:=Lib.hid (Cur.set XB9.out (p:=w.heap.size) 1 (.slice (some ⟨gA8,0,none⟩) x.sn cA8) (by omega));have B10:=Lib.hid (I9.out.bel.setCell (p:=⟨w.heap.size,1,none⟩) (Nat.le_refl _) (.slice (some ⟨gA8,0,none⟩) x.sn cA8));go_simp;go_wp2_with fail;clear c0 f0 I9 XA9 XB9;generalize World.setCell v9 _ _=v10 at *;refine hK.out _ _ ?_ (fun hC10 hH10=>?_)
    ·exact⟨trivial,fun e he h=>by simp only [List.mem_cons,List.mem_nil_iff,or_false] at he; rcases he with rfl | rfl; exact absurd h (by intro hx; exact Bool.false_ne_true (hx.symm.trans (by kernel_rfl))); exact cellAt P10.out 2⟩
    clear hK K
    try simp only [Act.put]
    refine tkA (i:=10) (v:=?_) rfl hC10 (Or.inl ⟨by rfl,?_⟩) hH10 (fun hC11 hH11=>?_);rotate_left
    ·(intro w9 hSw; obtain⟨hSw,hLw⟩:=hSw; clear hLw; (try dsimp only at hSw); (go_split_ands; go_simp); (try with_reducible rfl))
    clear hC10 hH10
    try simp only [Act.put,List.setIfInBounds_toArray,List.set_cons_zero,List.set_cons_succ]
    refine onA (i:=11) rfl hC11 (fun K hK=>?_);clear hC11 hH11;have c0:=cellAt P10.out 2;have f0:=freeAt P10.out 2;simp only [List.getElem?_toArray,List.getElem?_cons_zero,List.getElem?_cons_succ] at c0;have P11:=Lib.hid (show BoxAt (v10.setCell ⟨w.heap.size,2,none⟩ (.slice (some ⟨gB9,0,none⟩) x.tn cB9)) w.heap.size #[.int .i64 x.cr,.slice (some ⟨gA8,0,none⟩) x.sn cA8,.slice (some ⟨gB9,0,none⟩) x.tn cB9] 38 from BoxAt.store P10.out 2 _);have Q11:=Lib.hid (show BoxAt (v10.setCell ⟨w.heap.size,2,none⟩ (.slice (some ⟨gB9,0,none⟩) x.tn cB9)) (w.heap.size+1) #[.slice none 0 0,.int .i64 0] 118 from BoxAt.set Q10.out _ _ (by dsimp only; omega));have XA11:=Lib.hid (Cur.set XA10.out (p:=w.heap.size) 2 (.slice (some ⟨gB9,0,none⟩) x.tn cB9) (by omega));have XB11:=Lib.hid (Cur.set XB10.out (p:=w.heap.size) 2 (.slice (some ⟨gB9,0,none⟩) x.tn cB9) (by omega));have B11:=Lib.hid (B10.out.setCell (p:=⟨w.heap.size,2,none⟩) (Nat.le_refl _) (.slice (some ⟨gB9,0,none⟩) x.tn cB9));go_simp;go_wp2_with fail;clear c0 f0 P10 Q10 B10 XA10 XB10;generalize World.setCell v10 _ _=v11 at *;refine hK.out _ _ ?_ (fun hC12 hH12=>?_)
    ·exact⟨trivial,fun e he h=>by simp only [List.mem_cons,List.mem_nil_iff,or_false] at he; rcases he with rfl | rfl; exact absurd h (by intro hx; exact Bool.false_ne_true (hx.symm.trans (by kernel_rfl))); exact absurd h (by intro hx; exact Bool.false_ne_true (hx.symm.trans (by kernel_rfl)))⟩
    clear hK K
    try simp only [Act.put]
    refine wpAnyT_done (by kernel_rfl) ?_ _;clear hC12 hH12;refine HKK.out _ _ ⟨_,_,_,_,_,_,_,_,_,_,?_,rfl⟩;exact⟨gA8,cA8,gB9,cB9,P11.out,Q11.out,XA11.out,XB11.out,by omega,by omega,by omega,hcapA,hcapB,B11.out⟩
  ·clear hC4 hH4
   have hal:=(Below.refl v0.heap.size v0).alloc (Nat.le_refl _) (.cells #[] 130);have I12:=Lib.hid (Id.out.grow hal);have XB12:=Lib.hid (show BoxAt (v0.alloc (.cells #[] 130)) v0.heap.size #[] 130 from heap_alloc_new _ _);have hgB12:w.heap.size+2≤v0.heap.size:=Id.out.size;go_simp;go_wp2_with fail;generalize World.alloc v0 _=v12 at *;clear hal Id;generalize v0.heap.size=gB12 at *;refine hK.out _ _ ?_ (fun hC5 hH5=>?_)
   ·exact⟨trivial,fun e he _=>by simp only [List.mem_cons,List.mem_nil_iff,or_false] at he; rcases he with rfl | rfl; exact cellAt I12.out.bx 1; exact cellAt I12.out.bx 2⟩
   clear hK K
   try simp only [Act.put,List.setIfInBounds_toArray,List.set_cons_zero,List.set_cons_succ]
   refine onA (i:=0) rfl hC5 (fun K hK=>?_);clear hC5 hH5;have hal:=(Below.refl v12.heap.size v12).alloc (Nat.le_refl _) (.cells #[] 126);have I13:=Lib.hid (I12.out.grow hal);have XA13:=Lib.hid (show BoxAt (v12.alloc (.cells #[] 126)) v12.heap.size #[] 126 from heap_alloc_new _ _);have hgA13:w.heap.size+2≤v12.heap.size:=I12.out.size;have hn13:gB12≠v12.heap.size:=Nat.ne_of_lt (lt_of_heap XB12.out);have XB13:=Lib.hid (BoxAt.grow XB12.out hal);go_simp;go_wp2_with fail;generalize World.alloc v12 _=v13 at *;clear hal I12 XB12;generalize v12.heap.size=gA13 at *;refine hK.out _ _ ?_ (fun hC6 hH6=>?_)
   ·exact⟨trivial,fun e he _=>by simp only [List.mem_cons,List.mem_nil_iff,or_false] at he; rcases he with rfl | rfl; exact cellAt I13.out.bx 1; exact cellAt I13.out.bx 2⟩
   clear hK K
   try simp only [Act.put,List.setIfInBounds_toArray,List.set_cons_zero,List.set_cons_succ]
   refine onA (i:=3) rfl hC6 (fun K hK=>?_);clear hC6 hH6;obtain⟨i0,hi0,hz0,hz1,hz2⟩:=winfo126;have hsz14:=I13.out.size;refine step_app_fresh (w:=v13) wsl35 hi0 hz0 hz1 hz2 (by rfl) (by decide) (by decide) (by rfl) (.tmp 6) (.tmp 8) (by rfl) (base:=w.heap.size) (g:=gA13) (by rfl) XA13.out (by omega) (by omega) (oa:=sa) (n:=x.sn) (c:=sc) (by rfl) I13.out.ss (fun _ _=>rfl) (by omega) ?_;intro gA14 cA14 v14 hcur hg hor hlt hcapA;have I14:=Lib.hid (I13.out.grown hg (by omega));have XA14:=Lib.hid (show Cur v14 gA14 126 x.sn 2 x.S from hcur);have hgA14:w.heap.size+2≤gA14:=by rcases hor with h | h <;> omega
   have hlo:=lt_of_heap XB13.out;have hn14:gB12≠gA14:=by rcases hor with h | h <;> omega
   have XB14:=Lib.hid (BoxAt.kept XB13.out hg (fun e=>by cases e; omega));clear hlo;clear hcur hg hor hlt hi0 hz0 hz1 hz2 I13 XA13 hsz14 XB13;refine hK.out _ _ ?_ (fun hC7 hH7=>?_)
   ·exact⟨trivial,fun e he _=>by simp only [List.mem_cons,List.mem_nil_iff,or_false] at he; rcases he with rfl | rfl; exact cellAt I14.out.bx 1; exact cellAt I14.out.bx 2⟩
   clear hK K
   try simp only [Act.put,List.setIfInBounds_toArray,List.set_cons_zero,List.set_cons_succ]
   refine onA (i:=7) rfl hC7 (fun K hK=>?_);clear hC7 hH7;obtain⟨i0,hi0,hz0,hz1,hz2⟩:=winfo130;have hsz15:=I14.out.size;refine step_app_fresh (w:=v14) wsl36 hi0 hz0 hz1 hz2 (by rfl) (by decide) (by decide) (by rfl) (.tmp 10) (.tmp 12) (by rfl) (base:=w.heap.size) (g:=gB12) (by rfl) XB14.out (by omega) (by omega) (oa:=ta) (n:=x.tn) (c:=tc) (by rfl) I14.out.tt (fun _ _=>rfl) (by omega) ?_;intro gB15 cB15 v15 hcur hg hor hlt hcapB;have I15:=Lib.hid (I14.out.grown hg (by omega));have XB15:=Lib.hid (show Cur v15 gB15 130 x.tn 8 x.T from hcur);have hgB15:w.heap.size+2≤gB15:=by rcases hor with h | h <;> omega
   have hlo:=lt_of_cur XA14.out;have hn15:gA14≠gB15:=by rcases hor with h | h <;> omega
   have XA15:=Lib.hid (Cur.grown XA14.out hg (by omega));clear hlo;clear hcur hg hor hlt hi0 hz0 hz1 hz2 I14 XB14 hsz15 XA14;refine hK.out _ _ ?_ (fun hC8 hH8=>?_)
   ·exact⟨trivial,fun e he _=>by simp only [List.mem_cons,List.mem_nil_iff,or_false] at he; rcases he with rfl | rfl; exact cellAt I15.out.bx 1; exact cellAt I15.out.bx 2⟩
   clear hK K
   try simp only [Act.put,List.setIfInBounds_toArray,List.set_cons_zero,List.set_cons_succ]
   refine tkA (i:=8) (v:=?_) rfl hC8 (Or.inl ⟨by rfl,?_⟩) hH8 (fun hC9 hH9=>?_);rotate_left
   ·(intro w9 hSw; obtain⟨hSw,hLw⟩:=hSw; clear hLw; (try dsimp only at hSw); (go_split_ands; go_simp); (try with_reducible rfl))
   clear hC8 hH8
   try simp only [Act.put,List.setIfInBounds_toArray,List.set_cons_zero,List.set_cons_succ]
   refine onA (i:=9) rfl hC9 (fun K hK=>?_);clear hC9 hH9;have c0:=cellAt I15.out.bx 1;have f0:=freeAt I15.out.bx 1;simp only [List.getElem?_toArray,List.getElem?_cons_zero,List.getElem?_cons_succ] at c0;have P16:=Lib.hid (show BoxAt (v15.setCell ⟨w.heap.size,1,none⟩ (.slice (some ⟨gA14,0,none⟩) x.sn cA14)) w.heap.size #[.int .i64 x.cr,.slice (some ⟨gA14,0,none⟩) x.sn cA14,.slice ta x.tn tc] 38 from BoxAt.store I15.out.bx 1 _);have Q16:=Lib.hid (show BoxAt (v15.setCell ⟨w.heap.size,1,none⟩ (.slice (some ⟨gA14,0,none⟩) x.sn cA14)) (w.heap.size+1) #[.slice none 0 0,.int .i64 0] 118 from BoxAt.set I15.out.tp _ _ (by dsimp only; omega));have XA16:=Lib.hid (Cur.set XA15.out (p:=w.heap.size) 1 (.slice (some ⟨gA14,0,none⟩) x.sn cA14) (by omega));have XB16:=Lib.hid (Cur.set XB15.out (p:=w.heap.size) 1 (.slice (some ⟨gA14,0,none⟩) x.sn cA14) (by omega));have B16:=Lib.hid (I15.out.bel.setCell (p:=⟨w.heap.size,1,none⟩) (Nat.le_refl _) (.slice (some ⟨gA14,0,none⟩) x.sn cA14));go_simp;go_wp2_with fail;clear c0 f0 I15 XA15 XB15;generalize World.setCell v15 _ _=v16 at *;refine hK.out _ _ ?_ (fun hC10 hH10=>?_)
   ·exact⟨trivial,fun e he h=>by simp only [List.mem_cons,List.mem_nil_iff,or_false] at he; rcases he with rfl | rfl; exact absurd h (by intro hx; exact Bool.false_ne_true (hx.symm.trans (by kernel_rfl))); exact cellAt P16.out 2⟩
   clear hK K
   try simp only [Act.put]
   refine tkA (i:=10) (v:=?_) rfl hC10 (Or.inl ⟨by rfl,?_⟩) hH10 (fun hC11 hH11=>?_);rotate_left
   ·(intro w9 hSw; obtain⟨hSw,hLw⟩:=hSw; clear hLw; (try dsimp only at hSw); (go_split_ands; go_simp); (try with_reducible rfl))
   clear hC10 hH10
   try simp only [Act.put,List.setIfInBounds_toArray,List.set_cons_zero,List.set_cons_succ]
   refine onA (i:=11) rfl hC11 (fun K hK=>?_);clear hC11 hH11;have c0:=cellAt P16.out 2;have f0:=freeAt P16.out 2;simp only [List.getElem?_toArray,List.getElem?_cons_zero,List.getElem?_cons_succ] at c0;have P17:=Lib.hid (show BoxAt (v16.setCell ⟨w.heap.size,2,none⟩ (.slice (some ⟨gB15,0,none⟩) x.tn cB15)) w.heap.size #[.int .i64 x.cr,.slice (some ⟨gA14,0,none⟩) x.sn cA14,.slice (some ⟨gB15,0,none⟩) x.tn cB15] 38 from BoxAt.store P16.out 2 _);have Q17:=Lib.hid (show BoxAt (v16.setCell ⟨w.heap.size,2,none⟩ (.slice (some ⟨gB15,0,none⟩) x.tn cB15)) (w.heap.size+1) #[.slice none 0 0,.int .i64 0] 118 from BoxAt.set Q16.out _ _ (by dsimp only; omega));have XA17:=Lib.hid (Cur.set XA16.out (p:=w.heap.size) 2 (.slice (some ⟨gB15,0,none⟩) x.tn cB15) (by omega));have XB17:=Lib.hid (Cur.set XB16.out (p:=w.heap.size) 2 (.slice (some ⟨gB15,0,none⟩) x.tn cB15) (by omega));have B17:=Lib.hid (B16.out.setCell (p:=⟨w.heap.size,2,none⟩) (Nat.le_refl _) (.slice (some ⟨gB15,0,none⟩) x.tn cB15));go_simp;go_wp2_with fail;clear c0 f0 P16 Q16 B16 XA16 XB16;generalize World.setCell v16 _ _=v17 at *;refine hK.out _ _ ?_ (fun hC12 hH12=>?_)
   ·exact⟨trivial,fun e he h=>by simp only [List.mem_cons,List.mem_nil_iff,or_false] at he; rcases he with rfl | rfl; exact absurd h (by intro hx; exact Bool.false_ne_true (hx.symm.trans (by kernel_rfl))); exact absurd h (by intro hx; exact Bool.false_ne_true (hx.symm.trans (by kernel_rfl)))⟩
   clear hK K
   try simp only [Act.put]
   refine wpAnyT_done (by kernel_rfl) ?_ _;clear hC12 hH12;refine HKK.out _ _ ⟨_,_,_,_,_,_,_,_,_,_,?_,rfl⟩;exact⟨gA14,cA14,gB15,cB15,P17.out,Q17.out,XA17.out,XB17.out,by omega,by omega,by omega,hcapA,hcapB,B17.out⟩
 case rest =>
  obtain⟨g1,c1,g2,c2,hb1,htp,hx1,hx2,hg1,hg2,hne,hc1,hc2,hbel⟩:=hcut;have hl1:=lt_of_cur hx1;have hl2:=lt_of_cur hx2;have hlb:=lt_of_heap htp
  have HPen:=Lib.hid (show PenAt (w.heap.size+1) w.heap.size (fun k=>k<wc.heap.size∧k≠w.heap.size+1) wc [] from
   ⟨Nat.le_succ _,fun h=>h.2 rfl,fun k h=>h.1,fun k h=>⟨by omega,by omega⟩,.slice none 0 0,htp,World.ownsRow_nil _ _ _ _,fun k h=>by cases h⟩)
  have HOwn:=Lib.hid (show OwnW (fun k=>k<wc.heap.size∧k≠w.heap.size+1) wc w.heap.size (some ⟨g1,0,none⟩) (some ⟨g2,0,none⟩) c1 c2 x from
   ⟨hb1,⟨by omega,by omega⟩,fun _=>by obtain⟨cur,h1,h2⟩:=hx1; exact⟨g1,cur,rfl,⟨hl1,by omega⟩,h1,h2⟩,fun _=>by obtain⟨cur,h1,h2⟩:=hx2; exact⟨g2,cur,rfl,⟨hl2,by omega⟩,h1,h2⟩,
    fun _=>(show g1≠w.heap.size by omega),fun _=>(show g2≠w.heap.size by omega),fun _ _=>hne,hc1,hc2⟩)
  obtain⟨x',hx'⟩:=wagesS_pen x;have HX:=Lib.hid hx';have HBel:=Lib.hid hbel;have C3:=Lib.hid (wages69_any (penDoer (w.heap.size+1) w.heap.size) _ [] w.heap.size _ _ c1 c2 x wc HPen.out HOwn.out HPRE.out hsn htn (Nat.zero_le _));have hlb2:=HPen.out.lts;have HG1:=Lib.hid hg1;have HG2:=Lib.hid hg2;clear hb1 htp hx1 hx2 hne hc1 hc2 hbel hx' hg1 hg2;go_wp2_with (go_at_call 69; refine C3.out.mono ?_);intro e w3 hpost;obtain⟨hk3,hh⟩:=hpost;rw [HX.out] at hh;obtain⟨he,C2,sa2,ta2,sc2,tc2,hC2,hpen,hown⟩:=hh;subst he;have B3:=Lib.hid (HBel.out.trans (hk3.to_below (B:=w.heap.size) (fun k hk=>⟨⟨by omega,by omega⟩,by omega,fun _=>(by have:=HG1.out; show k≠g1; omega),fun _=>(by have:=HG2.out; show k≠g2; omega)⟩)));obtain⟨v,hv1,hv2,hv3⟩:=hpen.row;have hlen:(wageBits x).length≤5000:=by rw [wageBits_len]; omega
  have hlen8:8≤(wageBits x).length:=by rw [wageBits_len]; omega
  rw [vals_bits] at hv2;obtain⟨ra,rc,rfl,hrow,-,-⟩:=row_of hv2 (by unfold maxLen; omega);have HR:=Lib.hid (show BoolsAt w3 ra (wageBits x).length (fun i=>(wageBits x).getD i false) from hrow);have V1:=Lib.hid hv1;clear hk3 hC2 hpen hown hv1 hv2 hv3 hrow C3 HPen HOwn HX;have c0:=cellAt V1.out 0;simp only [List.getElem?_toArray,List.getElem?_cons_zero] at c0;have C4:=Lib.hid (packed_any ra (wageBits x).length rc _ w3 HR.out (by omega));go_wp2_with (go_at_call 125; refine C4.out.mono ?_);rintro e w4 ⟨q,qc,hq,rfl,hrow,hb4⟩;have h7:0<rowsB (wageBits x).length:=by unfold rowsB; omega
  have h6:rowsB (wageBits x).length≤100000:=by unfold rowsB; omega
  have B4:=Lib.hid (B3.out.next hb4);have hG8:∀ i,pkB (fun i=>(wageBits x).getD i false) (wageBits x).length i<256:=fun i=>pk_lt _ _ i;have HPost:=Lib.hid (show ∀ e w',SlicePost (szB (rowsB (wageBits x).length)) (sealB (pkB (fun i=>(wageBits x).getD i false) (wageBits x).length) (rowsB (wageBits x).length)) w e w'→SlicePost (szB (bookN x)) (bookB x) w e w' from fun e w' h=>h);generalize rowsB (wageBits x).length=n at *;generalize pkB (fun i=>(wageBits x).getD i false) (wageBits x).length=G at *;have R4:=Lib.hid (show BytesAt w4 (some ⟨q,0,none⟩) n G from hrow);clear hrow hb4 c0 C4;have C5:=Lib.hid (sealed_any _ _ qc G w4 R4.out hG8 h7 h6);clear hG8;go_wp2_with (go_at_call 68; refine C5.out.mono ?_);rintro e w5 ⟨oa,cap,rfl,ho,hge,hcap,hb5⟩;have B5:=Lib.hid (B4.out.next hb5);have HO:=Lib.hid ho;have HGE:=Lib.hid hge;have HCAP:=Lib.hid hcap;clear ho hge hcap hb5 C5;go_wp2_with fail;go_ret;exact HPost.out _ _ ⟨oa,cap,rfl,HO.out,fun h=>Nat.le_trans B4.out.size (HGE.out h),HCAP.out,B5.out⟩
end Go.Proofs.YtclbmlmlhiiaeaaGreatDoor
