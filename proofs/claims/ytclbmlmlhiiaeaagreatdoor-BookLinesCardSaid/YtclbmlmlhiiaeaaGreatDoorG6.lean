/- Walks: a list, by whoever writes or reads it. -/
import Derived.Test.YtclbmlmlhiiaeaaGreatDoorQG4
import Derived.Laws.OwnMore
namespace Go.Proofs.YtclbmlmlhiiaeaaGreatDoor
open Go.RowKit
def WRow(C:Nat→Prop)(W:World)(E:TypeId)(z:Nat)(oa:Option Addr)(n:Nat)(X:Nat→Nat→Nat):Prop :=
 0<n → ∃ g cur,oa=some ⟨g,0,none⟩∧C g∧BoxAt W g cur E ∧ ∀ i,i<n → ∀ j,j<z→cur[i * z+j]? = some (.int .i64 (X i j:Nat))
theorem WRow.keep{C C':Nat→Prop}{W W2:World}{E:TypeId}{z:Nat}{oa:Option Addr}{n:Nat}{X:Nat→Nat→Nat}(h:WRow C W E z oa n X)(hk:Keep C' W W2)(hc:0<n→C' (blk oa))(_hcc:∀ k,C k→C k):WRow C W2 E z oa n X:=fun h0=>by
 obtain⟨g,cur,h1,h2,h3,h4⟩:=h h0;refine⟨g,cur,h1,h2,hk.box h3 ?_,h4⟩;have:=hc h0
 rwa [h1] at this
section
variable {σ:Type} {F:FuncId} {T:TypeId} {rv:Value} {base:Nat} {Tp:(Nat→Prop)→World→σ→Prop} {stp:σ→Nat→Nat→Option (σ×Nat)} {sz:σ→Nat}
def goS(el:σ→(Nat→Nat)→Option (σ×List Nat))(s:σ)(X:Nat→Nat→Nat):Nat→Option (σ×(Nat→Nat→Nat))
 | 0=>some (s,X)
 | k+1=>match goS el s X k with
  | none=>none
  | some (s1,X1)=>match el s1 (X1 k) with
   | none=>none
   | some (s2,l)=>some (s2,fun i=>if i=k then fun j=>l.getD j 0 else X1 i)
theorem goS_none{el:σ→(Nat→Nat)→Option (σ×List Nat)}{s:σ}{X:Nat→Nat→Nat}{k:Nat}(h:goS el s X k=none):∀ d,goS el s X (k+d)=none
 | 0=>h
 | d+1=>by
  show(match goS el s X (k+d) with | none=>none | some (s1,X1)=>match el s1 (X1 (k+d)) with | none=>none | some (s2,l)=>some (s2,fun i=>if i=k+d then fun j=>l.getD j 0 else X1 i))=none
  rw [goS_none h d]
theorem goS_sz{el:σ→(Nat→Nat)→Option (σ×List Nat)}(hel:∀ {s s':σ} {x:Nat→Nat} {l:List Nat},el s x=some (s',l)→sz s'≤sz s+30){s s':σ}{X X':Nat→Nat→Nat}:∀ {k:Nat},goS el s X k=some (s',X')→sz s'≤sz s+30 * k
 | 0,h=>by cases h; omega
 | k+1,h=>by
  have h':(match goS el s X k with | none=>none | some (s1,X1)=>match el s1 (X1 k) with | none=>none | some (s2,l)=>some (s2,fun i=>if i=k then fun j=>l.getD j 0 else X1 i))=some (s',X'):=h
  cases h1:goS el s X k with
  | none=>rw [h1] at h'; cases h'
  | some p =>
   obtain⟨s1,X1⟩:=p;rw [h1] at h';dsimp only at h'
   cases h2:el s1 (X1 k) with
   | none=>rw [h2] at h'; cases h'
   | some q =>
    obtain⟨s2,l⟩:=q;rw [h2] at h'
    cases h'
    have:=goS_sz hel h1;have:=hel h2;omega
theorem goS_rest{el:σ→(Nat→Nat)→Option (σ×List Nat)}{s s':σ}{X X':Nat→Nat→Nat}:∀ {k:Nat},goS el s X k=some (s',X') → ∀ i,k≤i→X' i=X i
 | 0,h,i,_=>by cases h; rfl
 | k+1,h,i,hi=>by
  have h':(match goS el s X k with | none=>none | some (s1,X1)=>match el s1 (X1 k) with | none=>none | some (s2,l)=>some (s2,fun i=>if i=k then fun j=>l.getD j 0 else X1 i))=some (s',X'):=h
  cases h1:goS el s X k with
  | none=>rw [h1] at h'; cases h'
  | some p =>
   obtain⟨s1,X1⟩:=p;rw [h1] at h';dsimp only at h'
   cases h2:el s1 (X1 k) with
   | none=>rw [h2] at h'; cases h'
   | some q =>
    obtain⟨s2,l⟩:=q;rw [h2] at h'
    cases h'
    dsimp only;rw [if_neg (by omega)];exact goS_rest h1 i (by omega)
def sevS(stp:σ→Nat→Nat→Option (σ×Nat))(el:σ→(Nat→Nat)→Option (σ×List Nat))(s:σ)(n:Nat)(X:Nat→Nat→Nat)(m:Nat):Option (σ×Nat×(Nat→Nat→Nat)) :=
 match stp s n m with
 | none=>none
 | some (s1,n')=>match goS el s1 (if n'=n then X else fun _ _=>0) n' with
  | none=>none
  | some (s2,X2)=>some (s2,n',X2)
def SevPost(Tp:(Nat→Prop)→World→σ→Prop)(C:Nat→Prop)(r:Option (σ×Nat×(Nat→Nat→Nat)))(bw ob:Nat)(cw:Array Value)(tw E:TypeId)(z:Nat)(oa:Option Addr)(n:Nat)(w:World)(e:Ending)(w':World):Prop :=
 Keep (fun k=>C k∧k≠bw∧(0<n→k≠blk oa)) w w'∧match r with
 | none=>e=err 8
 | some (s2,n',X2)=>e = .returned (.tuple #[]) ∧ ∃ (C2:Nat→Prop) (oa':Option Addr) (cap':Nat),(∀ k,C k→C2 k)∧Tp C2 w' s2∧BoxAt w' bw (cw.setIfInBounds ob (.slice oa' n' cap')) tw∧WRow C2 w' E z oa' n' X2∧n'≤cap'∧(0<n'→(blk oa'=blk oa∧0<n)∨w.heap.size≤blk oa')
def seamE(stp:σ→Nat→Nat→Option (σ×Nat))(s:σ)(x:Nat→Nat):Option (σ×List Nat):=seamS stp s (x 0) (x 1)
def ticketE(stp:σ→Nat→Nat→Option (σ×Nat))(s:σ)(x:Nat→Nat):Option (σ×List Nat):=ticketS stp s (x 0) (x 1) (x 2) (x 3) (x 4) (x 5) (x 6) (x 7)
def TPre(x:Nat→Nat):Prop:=x 2≤x 3∧x 3≤1000∧x 4≤x 5∧x 5≤1000∧x 6≤x 7∧x 7≤1000
theorem seamE_len{s s':σ}{x:Nat→Nat}{l:List Nat}(h:seamE stp s x=some (s',l)):l.length=2:=by
 unfold seamE seamS at h
 cases h1:stp s (x 0) 5 with
 | none=>rw [h1] at h; cases h
 | some p =>
  obtain⟨s1,a⟩:=p;rw [h1] at h;dsimp only at h
  cases h2:stp s1 (x 1) 6 with
  | none=>rw [h2] at h; cases h
  | some q =>
   obtain⟨s2,b⟩:=q;rw [h2] at h
   cases h
   rfl
theorem ticketE_len{s s':σ}{x:Nat→Nat}{l:List Nat}(h:ticketE stp s x=some (s',l)):l.length=8:=by
 unfold ticketE ticketS at h
 cases h1:stp s (x 0) 2 with
 | none=>rw [h1] at h; cases h
 | some p =>
  obtain⟨s1,a⟩:=p;rw [h1] at h;dsimp only at h
  cases h2:stp s1 (x 1) 2 with
  | none=>rw [h2] at h; cases h
  | some p =>
   obtain⟨s2,b⟩:=p;rw [h2] at h;dsimp only at h
   cases h3:spanS stp s2 (x 2) (x 3) 5 with
   | none=>rw [h3] at h; cases h
   | some p =>
    obtain⟨s3,b3,c3⟩:=p;rw [h3] at h;dsimp only at h
    cases h4:spanS stp s3 (x 4) (x 5) 5 with
    | none=>rw [h4] at h; cases h
    | some p =>
     obtain⟨s4,b4,c4⟩:=p;rw [h4] at h;dsimp only at h
     cases h5:spanS stp s4 (x 6) (x 7) 6 with
     | none=>rw [h5] at h; cases h
     | some p =>
      obtain⟨s5,b5,c5⟩:=p;rw [h5] at h
      cases h
      rfl
theorem seamE_sz(D:Doer σ F T rv base Tp stp sz){s s':σ}{x:Nat→Nat}{l:List Nat}(h:seamE stp s x=some (s',l)):sz s'≤sz s+30:=by
 unfold seamE seamS at h
 cases h1:stp s (x 0) 5 with
 | none=>rw [h1] at h; cases h
 | some p =>
  obtain⟨s1,a⟩:=p;rw [h1] at h;dsimp only at h
  cases h2:stp s1 (x 1) 6 with
  | none=>rw [h2] at h; cases h
  | some q =>
   obtain⟨s2,b⟩:=q;rw [h2] at h
   cases h
   have:=D.szs h1;have:=D.szs h2;omega
theorem ticketE_sz(D:Doer σ F T rv base Tp stp sz){s s':σ}{x:Nat→Nat}{l:List Nat}(h:ticketE stp s x=some (s',l)):sz s'≤sz s+30:=by
 unfold ticketE ticketS at h
 cases h1:stp s (x 0) 2 with
 | none=>rw [h1] at h; cases h
 | some p =>
  obtain⟨s1,a⟩:=p;rw [h1] at h;dsimp only at h
  cases h2:stp s1 (x 1) 2 with
  | none=>rw [h2] at h; cases h
  | some p =>
   obtain⟨s2,b⟩:=p;rw [h2] at h;dsimp only at h
   cases h3:spanS stp s2 (x 2) (x 3) 5 with
   | none=>rw [h3] at h; cases h
   | some p =>
    obtain⟨s3,b3,c3⟩:=p;rw [h3] at h;dsimp only at h
    cases h4:spanS stp s3 (x 4) (x 5) 5 with
    | none=>rw [h4] at h; cases h
    | some p =>
     obtain⟨s4,b4,c4⟩:=p;rw [h4] at h;dsimp only at h
     cases h5:spanS stp s4 (x 6) (x 7) 6 with
     | none=>rw [h5] at h; cases h
     | some p =>
      obtain⟨s5,b5,c5⟩:=p;rw [h5] at h
      cases h
      have:=D.szs h1;have:=D.szs h2;have:=spanS_sz D h3;have:=spanS_sz D h4;have:=spanS_sz D h5;omega
theorem madeAt(z:Array Value)(n i:Nat)(v:Value)(hv:∀ j,j<z.size→z[j]? = some v)(hz:0<z.size)(hi:i<n):(madeCells z n)[i]? = some v:=by
 unfold madeCells;rw [Array.getElem?_map];simp [hi];have:=hv (i % z.size) (Nat.mod_lt _ hz);rw [Array.getElem!_eq_getD,Array.getD_eq_getD_getElem?,this];rfl
theorem made_row{w:World}{base g n:Nat}{E:TypeId}{k:Nat}{z:Array Value}{v:Value}(hv:∀ j,j<z.size→z[j]? = some v)(hz:0<z.size)(h:w.ownsRow base E k (.slice (some ⟨g,0,none⟩) n n) n (madeCells z (n * k)).toList) :
  ∃ cur,BoxAt w g cur E ∧ ∀ i,i<n → ∀ j,j<k→cur[i * k+j]? = some v:=by
 obtain⟨hl,⟨h1,_⟩ | ⟨g',cap,cur,hv2,hb,hg,hle,hm,hs,ht⟩⟩:=h
 ·cases h1
 ·injection hv2 with e1 e2 e3
  injection e1 with e1
  injection e1 with e1 _ _
  subst e1;refine⟨cur,hg,fun i hi j hj=>?_⟩
  have hlt:i * k+j<n * k:=by
   have:(i+1) * k≤n * k:=Nat.mul_le_mul_right k (by omega);rw [Nat.add_mul,Nat.one_mul] at this;omega
  have h2:(List.take (n * k) cur.toList)[i * k+j]? = (madeCells z (n * k)).toList[i * k+j]? := by rw [ht]
  rw [List.getElem?_take,if_pos hlt] at h2;rw [← Array.getElem?_toList,h2,Array.getElem?_toList,madeAt z _ _ v hv hz hlt]
def SevM130(Tp:(Nat→Prop)→World→σ→Prop)(C1 K:Nat→Prop)(T:TypeId)(rv:Value)(bw ob:Nat)(cw:Array Value)(tw:TypeId)(fb:Nat)(E:TypeId)(z:Nat)(oa:Option Addr)(n n':Nat)(w0:World)(s:σ)(X:Nat→Nat→Nat)(W:World):Prop :=
 ∃ (C2:Nat→Prop) (oa':Option Addr) (cap':Nat),(∀ k,C1 k→C2 k)∧Tp C2 W s∧BoxAt W bw (cw.setIfInBounds ob (.slice oa' n' cap')) tw∧BoxAt W fb #[.iface T rv] 185∧WRow C2 W E z oa' n' X∧n'≤cap'∧(0<n'→(blk oa'=blk oa∧0<n)∨w0.heap.size≤blk oa')∧(0<n'→blk oa'≠bw∧blk oa'≠fb)∧Keep K w0 W
structure SL130 (Tp:(Nat→Prop)→World→σ→Prop) (C2 K:Nat→Prop) (T:TypeId) (rv:Value) (bw:Nat) (cw:Array Value) (tw:TypeId) (fb:Nat) (E:TypeId) (z g n:Nat) (w0:World) (s:σ) (X:Nat→Nat→Nat) (W:World):Prop where
 tp:Tp C2 W s
 bx:BoxAt W bw cw tw
 fx:BoxAt W fb #[.iface T rv] 185
 keep:Keep K w0 W
 row:0<n → ∃ cur,BoxAt W g cur E ∧ ∀ i,i<n → ∀ j,j<z→cur[i * z+j]? = some (.int .i64 (X i j:Nat))
theorem info126:∃ i,Tryz.prog.info? 126=some i∧i.zero=some (.agg #[.int .i64 0,.int .i64 0])∧i.size=2∧i.bytes=16:=⟨(Tryz.prog.info? 126).get (by kernel_rfl),by kernel_rfl,by kernel_rfl,by kernel_rfl,by kernel_rfl⟩
theorem el130:Tryz.prog.underlying 35=some (.slice 126):=by kernel_rfl
theorem sz130:(Tryz.prog.info? 126).map (·.size)=some 2:=by kernel_rfl
set_option maxRecDepth 100000 in
set_option maxHeartbeats 8000000 in
theorem several130_any(D:Doer σ F T rv base Tp stp sz)(C:Nat→Prop)(s:σ)(bw ob n cap m fb:Nat)(oa:Option Addr)(cw:Array Value)(tw:TypeId)(X:Nat→Nat→Nat)(w:World)(hp:Tp C w s)(hCw:C bw)(hCf:C fb)(hbf:fb≠bw)(hw:BoxAt w bw cw tw)(hcw:cw[ob]? = some (.slice oa n cap))(hf:BoxAt w fb #[.iface T rv] 185)
  (hrow:WRow C w 126 2 oa n X) (hrb:0<n→blk oa≠bw∧blk oa≠fb) (hn:n≤100) (hcap:n≤cap) (hm:m≤3) (hz:sz s≤20000) :
  Calls Tryz.prog 130 #[.iface T rv,.pointer (some ⟨bw,ob,none⟩),.int .i64 m,.func (.func 131) #[] #[bp fb]] w
   (SevPost Tp C (sevS stp (seamE stp) s n X m) bw ob cw tw 126 2 oa n w):=by
 have hmeth:=D.meth;have hfn:=D.fn;have hahead:=D.ahead;have hos:=(Array.getElem?_eq_some_iff.1 hcw).1;have cw0:=(cellAt hw ob).trans hcw;have hlt:=D.lt hp;obtain⟨C1,eC⟩:∃ C1:Nat→Prop,C1=fun k=>C k∨k=w.heap.size:=⟨_,rfl⟩
 have B1:=(Below.refl w.heap.size w).alloc (Nat.le_refl _) (.cells #[.int .i64 n] 3);have s1:=sizeAlloc w (.cells #[.int .i64 n] 3);have P1:=Lib.hid (D.more (C':=C1) hp B1 (fun k hk=>by rw [eC] at hk; rcases hk with h | h; exact .inl h; exact .inr (by omega)) (fun k hk=>by rw [eC]; exact .inl hk));have HCS:=Lib.hid (show(∀ k,C k→C1 k)∧C1 w.heap.size from⟨fun k hk=>by rw [eC]; exact .inl hk,by rw [eC]; exact .inr rfl⟩);have hnw:w.heap.size≠bw:=by have:=hlt bw hCw; omega
 have hnf:w.heap.size≠fb:=by have:=hlt fb hCf; omega
 skip
 have hno:0<n→w.heap.size≠blk oa:=fun h0=>by
  obtain⟨g,cur,h1,h2,-⟩:=hrow h0;rw [h1];have:=hlt g h2
  show w.heap.size≠g
  omega
 have HLT:=Lib.hid hlt;have HNO:=Lib.hid hno;have HRB:=Lib.hid hrb;have K1:=Lib.hid (Keep.of_below B1 hlt);have Z1:=Lib.hid (show BoxAt (w.alloc (.cells #[.int .i64 n] 3)) w.heap.size #[.int .i64 n] 3 from heap_alloc_new w _);have W1:=Lib.hid (hw.grow B1);have F1:=Lib.hid (hf.grow B1)
 skip
 have R1:=Lib.hid (show WRow C (w.alloc (.cells #[.int .i64 n] 3)) 126 2 oa n X from fun h0=>by
  obtain⟨g,cur,h1,h2,h3,h4⟩:=hrow h0
  exact⟨g,cur,h1,h2,h3.grow B1,h4⟩)
 skip
 clear eC B1 s1 hp hw hf hlt hno hrb hrow;go_enter Tryz.func130,Tryz.ntmps130;go_upto_region 1 with (fail)
 generalize World.alloc _ _=w1 at *;clear cw0;go_wp2_with fail;refine(D.run (m:=m) (v:=n) P1.out HCS.out.2 Z1.out rfl (by omega) (by omega)).mono ?_;intro e w2 hpost;have Y:=hpost.cell Z1.out HCS.out.2;clear hpost;have KN:=Lib.hid (show ∀ k,(C k∧k≠bw∧(0<n→k≠blk oa))→(C1 k∧k≠w.heap.size) from fun k h=>⟨HCS.out.1 k h.1,fun e=>by have:=HLT.out k h.1; omega⟩)
 cases hr:stp s n m with
 | none =>
  rw [hr] at Y;obtain⟨hk,he⟩:=Y;dsimp only [Option.map] at he;subst he;simp only [err];exact⟨rfl,(K1.out.mono fun k h=>h.1).trans (hk.mono KN.out),by simp only [sevS,hr]; rfl⟩
 | some p =>
  obtain⟨s1,n'⟩:=p;rw [hr] at Y;obtain⟨hk,he,ht,hb⟩:=Y;dsimp only at he ht hb;subst he
  have hn':n'≤100:=by
   rcases D.bd hr with h | h
   ·have:2 ^ m≤2 ^ 3:=Nat.pow_le_pow_right (by omega) hm
    omega
   ·omega
  have hz1:sz s1≤20003:=by have:=D.szs hr; omega
  have HSV:=Lib.hid (show sevS stp (seamE stp) s n X m=match goS (seamE stp) s1 (if n'=n then X else fun _ _=>0) n' with
   | none=>none
   | some (s2,X2)=>some (s2,n',X2) from by simp only [sevS,hr])
  have P2:=Lib.hid ht;have Z2:=Lib.hid (show BoxAt w2 w.heap.size #[.int .i64 n'] 3 from hb);have W2:=Lib.hid (hk.box W1.out ⟨HCS.out.1 _ hCw,fun e=>hnw e.symm⟩);have F2:=Lib.hid (hk.box F1.out ⟨HCS.out.1 _ hCf,fun e=>hnf e.symm⟩)
  skip
  have R2:=Lib.hid (show WRow C w2 126 2 oa n X from fun h0=>by
   obtain⟨g,cur,h1,h2,h3,h4⟩:=R1.out h0
   exact⟨g,cur,h1,h2,hk.box h3 ⟨HCS.out.1 _ h2,fun e=>by have:=HLT.out g h2; omega⟩,h4⟩)
  have K2:=Lib.hid ((K1.out.mono fun k h=>h.1).trans (hk.mono KN.out));clear hk ht hb hr P1 Z1 W1 F1 R1 K1;have z0:=cellAt Z2.out 0;have cw0:=(cellAt W2.out ob).trans hcw;simp only [List.getElem?_toArray,List.getElem?_cons_zero] at z0;go_upto_region 2 with (fail)
  go_quiet (fail)
  have bd1:=below_drewN (Below.refl w2.heap.size w2) nq;have P3:=Lib.hid (D.more P2.out bd1 (fun _ h=>.inl h) (fun _ h=>h));have Z3:=Lib.hid (Z2.out.grow bd1);have W3:=Lib.hid (W2.out.grow bd1);have F3:=Lib.hid (F2.out.grow bd1)
  skip
  have R3:=Lib.hid (show WRow C (w2.drewN nq) 126 2 oa n X from fun h0=>by
   obtain⟨g,cur,h1,h2,h3,h4⟩:=R2.out h0
   exact⟨g,cur,h1,h2,h3.grow bd1,h4⟩)
  have K3:=Lib.hid (K2.out.trans ⟨bd1.os,bd1.tape,bd1.output,bd1.size,fun _ _=>rfl⟩);clear bd1 P2 Z2 W2 F2 R2 K2 z0 cw0;generalize World.drewN w2 nq=w3 at *;have cw0:=(cellAt W3.out ob).trans hcw;have cwf:=freeAt W3.out ob;have z0:=cellAt Z3.out 0;simp only [List.getElem?_toArray,List.getElem?_cons_zero] at z0;go_upto_if 22 with (fail)
  go_cut [22] from 17 to 26 (fun v W=>SevM130 Tp C1 (fun k=>C k∧k≠bw∧(0<n→k≠blk oa)) T rv bw ob cw tw fb 126 2 oa n n' w s1 (if n'=n then X else fun _ _=>0) W)
  case first =>
   by_cases hnn:n'=n
   ·subst hnn
    have t0:((n':Int) != n')=false:=by simp
    go_wp2_with fail
    go_meet
    first | rw [if_pos trivial] | rw [if_pos rfl]
    exact⟨C1,oa,cap,fun _ h=>h,P3.out,by rw [set_same hcw]; exact W3.out,F3.out,fun h0=>by
     obtain⟨g,cur,h1,h2,h3,h4⟩:=R3.out h0
     exact⟨g,cur,h1,HCS.out.1 _ h2,h3,h4⟩,hcap,fun h0=>.inl ⟨rfl,h0⟩,fun h0=>HRB.out h0,K3.out⟩
   ·have t0:((n':Int) != n)=true:=by simp; omega
    have t1:(n' != n)=true:=by simp [hnn]
    obtain⟨i0,hi0,hz0,hz1,hz2⟩:=info126;obtain⟨W4,hrun,hown,hgr⟩:=run_make_full (P:=Tryz.prog) w3 w.heap.size 35 126 i0 _ 2 el130 hi0 hz0 hz1 .i64 .i64 n' (by rw [hz2]; omega) (by unfold maxLen; omega) (K3.out.size)
    obtain⟨cur,hrow,hcells⟩:=made_row (v:=.int .i64 0) (fun j hj=>by
     rw [show(Value.agg #[.int .i64 0,.int .i64 0]).cells=Array.replicate 2 (.int .i64 0) from rfl] at hj ⊢;rw [Array.size_replicate] at hj
     rw [Array.getElem?_replicate,if_pos hj]) (by decide) hown
    have HCE:=Lib.hid hcells;have bd1:=Below.grown (Below.refl w3.heap.size w3) hgr (Nat.le_refl _) (fun _ e=>by cases e);have hg3:=K3.out.size;have hbl:=lt_of_heap W3.out;have hfl:=lt_of_heap F3.out;have P4:=Lib.hid (D.more (C':=fun k=>C1 k∨k=w3.heap.size) P3.out bd1 (fun k hk=>by rcases hk with h | h; exact .inl h; exact .inr ⟨by omega,by rw [h]; exact lt_of_heap hrow⟩) (fun k hk=>.inl hk));have W4':=Lib.hid (W3.out.grow bd1);have F4:=Lib.hid (F3.out.grow bd1);have K4:=Lib.hid (K3.out.trans (Keep.of_below bd1 (fun k hk=>by have:=D.lt P3.out k (HCS.out.1 k hk.1); omega)));have RW:=Lib.hid hrow
    skip
    have HN:=Lib.hid hnn;have HRUN:=Lib.hid hrun;clear bd1 hrow hcells hown hgr hi0 hz0 hz1 hz2 hnn cw0 cwf hrun;go_wp2_with fail;rw [HRUN.out];simp only [Result.andThen,Oper.upon_value];have cw0:=(cellAt W4'.out ob).trans hcw;have cwf:=freeAt W4'.out ob;go_wp2_with fail
    go_meet
    first | rw [if_neg HN.out] | rw [if_neg (fun h=>h)]
    exact⟨fun k=>C1 k∨k=w3.heap.size,some ⟨w3.heap.size,0,none⟩,n',fun k h=>.inl h,D.client bw ob _ P4.out (.inl (HCS.out.1 _ hCw)),W4'.out.store ob _,F4.out.set _ _ (fun e=>hbf e.symm),fun _=>⟨w3.heap.size,cur,rfl,.inr rfl,RW.out.set _ _ (by dsimp only; omega),HCE.out⟩,Nat.le_refl _,fun _=>.inr hg3,fun _=>⟨by show w3.heap.size≠bw; omega,by show w3.heap.size≠fb; omega⟩,K4.out.set _ _ _ (fun h=>h.2.1 rfl)⟩
  case rest =>
   obtain⟨C2,oa',cap',hc12,hp2,hw2,hf2,hr2,hcap2,hob,hne,hk2⟩:=hcut;clear P3 Z3 W3 F3 R3 K3 cw0 cwf z0;generalize hX0:(if n'=n then X else fun _ _=>0)=X0 at *
   skip
   clear hX0;generalize hcw2:cw.setIfInBounds ob (.slice oa' n' cap')=cw2 at *;have hcb:cw2[ob]? = some (.slice oa' n' cap'):=by rw [← hcw2]; simp [hos]
   have HW2:=Lib.hid hcw2
   have hgr:0<n'→oa'=some ⟨blk oa',0,none⟩∧C2 (blk oa'):=fun h0=>by
    obtain⟨g,cur,h1,h2,-⟩:=hr2 h0;rw [h1];exact⟨rfl,h2⟩
   have HGR:=Lib.hid hgr;have HNE:=Lib.hid hne;have HCB:=Lib.hid hcb
   have KG:=Lib.hid (show 0<n' → ∀ k,(C k∧k≠bw∧(0<n→k≠blk oa))→(C2 k∧k≠blk oa') from fun h0 k h=>⟨hc12 k (HCS.out.1 k h.1),fun e=>by
    rcases hob h0 with ⟨h1,h2⟩ | h1
    ·exact h.2.2 h2 (e.trans h1)
    ·have:=HLT.out k h.1; omega⟩)
   have I0:=Lib.hid (show SL130 Tp C2 (fun k=>C k∧k≠bw∧(0<n→k≠blk oa)) T rv bw cw2 tw fb 126 2 (blk oa') n' w s1 X0 wc from
    ⟨hp2,hw2,hf2,hk2,fun h0=>by
     obtain⟨g,cur,h1,h2,h3,h4⟩:=hr2 h0;rw [h1]
     exact⟨cur,h3,h4⟩⟩)
   have HC12:=Lib.hid (show ∀ k,C k→C2 k from fun k h=>hc12 k (HCS.out.1 k h));have HOB:=Lib.hid hob;clear hc12 hp2 hw2 hf2 hr2 hob hne hk2 hcw2 hgr hcb;have cb:=(cellAt I0.out.bx ob).trans HCB.out;go_wp2_with fail
   go_loopw [31] (fun i wi => ∃ k:Nat,k≤n'∧i = .int .i64 k ∧ ∃ sk Xk,goS (seamE stp) s1 X0 k=some (sk,Xk)∧SL130 Tp C2 (fun k=>C k∧k≠bw∧(0<n→k≠blk oa)) T rv bw cw2 tw fb 126 2 (blk oa') n' w sk Xk wi) (fun i _=>n' - (intOf i).toNat)
   case atStart=>exact⟨0,Nat.zero_le _,rfl,s1,X0,rfl,I0.out⟩
   case round =>
    clear I0 cb;obtain⟨k,hk,rfl,sk,Xk,hgo,h1⟩:=hrel;have I1:=Lib.hid h1;have HGO:=Lib.hid hgo;clear h1;by_cases hlt:k<n'
    ·obtain⟨cur,hrow,hcells⟩:=I1.out.row (by omega)
     obtain⟨hoa,hCg⟩:=HGR.out (by omega);have hzk:sz sk≤30000:=by have:=goS_sz (sz:=sz) (fun h=>seamE_sz D h) hgo; omega
     have hi:=fun w=>run_indexAt_row (w:=w) (oa:=oa') (n:=n') (cap:=cap') (k:=k) el130 sz130 (by rw [hoa]; rfl) hlt;rw [show ofs oa'=0 from by rw [hoa]; rfl] at hi;simp only [Nat.zero_add] at hi;have cb:=(cellAt I1.out.bx ob).trans HCB.out;have hnb:=(HNE.out (by omega)).1;have hnf2:=(HNE.out (by omega)).2
     skip
     clear hgo hoa;have HCELL:=Lib.hid hcells;go_wp2_with fail;refine(seam131_any D C2 sk (blk oa') (k * 2) (Xk k 0) (Xk k 1) fb cur 126 wr I1.out.tp hCg (HC12.out _ hCf) (fun e=>hnf2 e.symm) hrow I1.out.fx (hcells k hlt 0 (by omega)) (hcells k hlt 1 (by omega)) (by omega)).mono ?_;intro e w5 Y
     cases hr:seamE stp sk (Xk k) with
     | none =>
      rw [show seamS stp sk (Xk k 0) (Xk k 1)=none from hr] at Y;obtain⟨hk,he⟩:=Y;dsimp only [Option.map] at he;subst he;simp only [err]
      have hnone:goS (seamE stp) s1 X0 n'=none:=by
       have h2:goS (seamE stp) s1 X0 (k+1)=none:=by
        show(match goS (seamE stp) s1 X0 k with | none=>none | some (s1,X1)=>match seamE stp s1 (X1 k) with | none=>none | some (s2,l)=>some (s2,fun i=>if i=k then fun j=>l.getD j 0 else X1 i))=none
        rw [HGO.out];dsimp only;rw [hr]
       have:=goS_none h2 (n' - (k+1))
       rwa [show k+1+(n' - (k+1))=n' by omega] at this
      exact⟨rfl,I1.out.keep.trans (hk.mono (KG.out (by omega))),by rw [HSV.out,hnone]; rfl⟩
     | some p =>
      obtain⟨s2,l⟩:=p;rw [show seamS stp sk (Xk k 0) (Xk k 1)=some (s2,l) from hr] at Y;obtain⟨hk,he,ht,hb⟩:=Y;dsimp only at he ht hb;subst he;have hll:=seamE_len hr
      have HG2:=Lib.hid (show goS (seamE stp) s1 X0 (k+1)=some (s2,fun i=>if i=k then fun j=>l.getD j 0 else Xk i) from by
       show(match goS (seamE stp) s1 X0 k with | none=>none | some (s1,X1)=>match seamE stp s1 (X1 k) with | none=>none | some (s2,l)=>some (s2,fun i=>if i=k then fun j=>l.getD j 0 else X1 i))=_
       rw [HGO.out];dsimp only
       rw [hr])
      have hsz0:k * 2+2≤cur.size:=by
       have:=(Array.getElem?_eq_some_iff.1 (HCELL.out k hlt (2 - 1) (by omega))).1;omega
      have I2:=Lib.hid (show SL130 Tp C2 (fun k=>C k∧k≠bw∧(0<n→k≠blk oa)) T rv bw cw2 tw fb 126 2 (blk oa') n' w s2 (fun i=>if i=k then fun j=>l.getD j 0 else Xk i) w5 from
       ⟨ht,hk.box I1.out.bx ⟨HC12.out _ hCw,fun e=>hnb e.symm⟩,hk.box I1.out.fx ⟨HC12.out _ hCf,fun e=>hnf2 e.symm⟩,I1.out.keep.trans (hk.mono (KG.out (by omega))),fun h0=>⟨_,hb,fun i hi j hj=>by
        by_cases e:i=k
        ·subst e
         rw [setL_in _ _ _ _ (by rw [hll]; exact hj) (by rw [hll]; exact hsz0)];simp
        ·rw [setL_out _ _ _ _ (by rw [hll]; rcases Nat.lt_or_gt_of_ne e with h | h; left; have:(i+1) * 2≤k * 2:=Nat.mul_le_mul_right _ h; omega; right; have:(k+1) * 2≤i * 2:=Nat.mul_le_mul_right _ h; omega),HCELL.out i hi j hj]
         simp [e]⟩⟩)
      clear hk ht hb hr I1 HCELL cb hi hcells hrow;go_wp2_with fail;exact⟨⟨k+1,hlt,by go_num,s2,_,HG2.out,I2.out⟩,by simp [intOf]; omega⟩
    ·obtain rfl:k=n':=by omega
     have HF:=Lib.hid (show sevS stp (seamE stp) s n X m=some (sk,k,Xk) from by rw [HSV.out,HGO.out])
     have HR:=Lib.hid (show WRow C2 wr 126 2 oa' k Xk from fun h0=>by
      obtain⟨cur,h3,h4⟩:=I1.out.row h0;obtain⟨h5,h6⟩:=HGR.out h0
      exact⟨blk oa',cur,h5,h6,h3,h4⟩)
     go_wp2_with fail
     go_end0
     rw [HF.out];exact⟨I1.out.keep,rfl,C2,oa',cap',HC12.out,I1.out.tp,by rw [HW2.out]; exact I1.out.bx,HR.out,hcap2,HOB.out⟩
def SevM132(Tp:(Nat→Prop)→World→σ→Prop)(C1 K:Nat→Prop)(T:TypeId)(rv:Value)(bw ob:Nat)(cw:Array Value)(tw:TypeId)(fb sb:Nat)(E:TypeId)(z:Nat)(oa:Option Addr)(n n':Nat)(w0:World)(s:σ)(X:Nat→Nat→Nat)(W:World):Prop :=
 ∃ (C2:Nat→Prop) (oa':Option Addr) (cap':Nat),(∀ k,C1 k→C2 k)∧Tp C2 W s∧BoxAt W bw (cw.setIfInBounds ob (.slice oa' n' cap')) tw∧BoxAt W fb #[.iface T rv] 185∧WRow C2 W E z oa' n' X∧n'≤cap'∧(0<n'→(blk oa'=blk oa∧0<n)∨w0.heap.size≤blk oa')∧(0<n'→blk oa'≠bw∧blk oa'≠fb∧blk oa'≠sb)∧Keep K w0 W∧BoxAt W sb #[.func (.func 129) #[] #[bp fb]] 189
structure SL132 (Tp:(Nat→Prop)→World→σ→Prop) (C2 K:Nat→Prop) (T:TypeId) (rv:Value) (bw:Nat) (cw:Array Value) (tw:TypeId) (fb sb:Nat) (E:TypeId) (z g n:Nat) (w0:World) (s:σ) (X:Nat→Nat→Nat) (W:World):Prop where
 tp:Tp C2 W s
 bx:BoxAt W bw cw tw
 fx:BoxAt W fb #[.iface T rv] 185
 keep:Keep K w0 W
 row:0<n → ∃ cur,BoxAt W g cur E ∧ ∀ i,i<n → ∀ j,j<z→cur[i * z+j]? = some (.int .i64 (X i j:Nat))
 sx:BoxAt W sb #[.func (.func 129) #[] #[bp fb]] 189
theorem info130:∃ i,Tryz.prog.info? 130=some i∧i.zero=some (.agg #[.int .i64 0,.int .i64 0,.int .i64 0,.int .i64 0,.int .i64 0,.int .i64 0,.int .i64 0,.int .i64 0])∧i.size=8∧i.bytes=64:=⟨(Tryz.prog.info? 130).get (by kernel_rfl),by kernel_rfl,by kernel_rfl,by kernel_rfl,by kernel_rfl⟩
theorem el132:Tryz.prog.underlying 36=some (.slice 130):=by kernel_rfl
theorem sz132:(Tryz.prog.info? 130).map (·.size)=some 8:=by kernel_rfl
set_option maxRecDepth 100000 in
set_option maxHeartbeats 8000000 in
theorem several132_any(D:Doer σ F T rv base Tp stp sz)(C:Nat→Prop)(s:σ)(bw ob n cap m fb sb:Nat)(oa:Option Addr)(cw:Array Value)(tw:TypeId)(X:Nat→Nat→Nat)(w:World)(hp:Tp C w s)(hCw:C bw)(hCf:C fb)(hbf:fb≠bw)(hw:BoxAt w bw cw tw)(hcw:cw[ob]? = some (.slice oa n cap))(hf:BoxAt w fb #[.iface T rv] 185)
  (hCs:C sb) (hsb:sb≠bw) (hs:BoxAt w sb #[.func (.func 129) #[] #[bp fb]] 189) (hrow:WRow C w 130 8 oa n X) (hrb:0<n→blk oa≠bw∧blk oa≠fb∧blk oa≠sb) (hpre:∀ i,i<n→TPre (X i)) (hn:n≤100) (hcap:n≤cap) (hm:m≤3) (hz:sz s≤20000) :
  Calls Tryz.prog 132 #[.iface T rv,.pointer (some ⟨bw,ob,none⟩),.int .i64 m,.func (.func 133) #[] #[bp fb,bp sb]] w
   (SevPost Tp C (sevS stp (ticketE stp) s n X m) bw ob cw tw 130 8 oa n w):=by
 have hmeth:=D.meth;have hfn:=D.fn;have hahead:=D.ahead;have hos:=(Array.getElem?_eq_some_iff.1 hcw).1;have cw0:=(cellAt hw ob).trans hcw;have hlt:=D.lt hp;obtain⟨C1,eC⟩:∃ C1:Nat→Prop,C1=fun k=>C k∨k=w.heap.size:=⟨_,rfl⟩
 have B1:=(Below.refl w.heap.size w).alloc (Nat.le_refl _) (.cells #[.int .i64 n] 3);have s1:=sizeAlloc w (.cells #[.int .i64 n] 3);have P1:=Lib.hid (D.more (C':=C1) hp B1 (fun k hk=>by rw [eC] at hk; rcases hk with h | h; exact .inl h; exact .inr (by omega)) (fun k hk=>by rw [eC]; exact .inl hk));have HCS:=Lib.hid (show(∀ k,C k→C1 k)∧C1 w.heap.size from⟨fun k hk=>by rw [eC]; exact .inl hk,by rw [eC]; exact .inr rfl⟩);have hnw:w.heap.size≠bw:=by have:=hlt bw hCw; omega
 have hnf:w.heap.size≠fb:=by have:=hlt fb hCf; omega
 have hns:w.heap.size≠sb:=by have:=hlt sb hCs; omega
 have hno:0<n→w.heap.size≠blk oa:=fun h0=>by
  obtain⟨g,cur,h1,h2,-⟩:=hrow h0;rw [h1];have:=hlt g h2
  show w.heap.size≠g
  omega
 have HLT:=Lib.hid hlt;have HNO:=Lib.hid hno;have HRB:=Lib.hid hrb;have K1:=Lib.hid (Keep.of_below B1 hlt);have Z1:=Lib.hid (show BoxAt (w.alloc (.cells #[.int .i64 n] 3)) w.heap.size #[.int .i64 n] 3 from heap_alloc_new w _);have W1:=Lib.hid (hw.grow B1);have F1:=Lib.hid (hf.grow B1);have S1:=Lib.hid (hs.grow B1)
 have R1:=Lib.hid (show WRow C (w.alloc (.cells #[.int .i64 n] 3)) 130 8 oa n X from fun h0=>by
  obtain⟨g,cur,h1,h2,h3,h4⟩:=hrow h0
  exact⟨g,cur,h1,h2,h3.grow B1,h4⟩)
 have HPRE:=Lib.hid hpre;clear eC B1 s1 hp hw hf hlt hno hrb hrow hs hpre;go_enter Tryz.func132,Tryz.ntmps132;go_upto_region 1 with (fail)
 generalize World.alloc _ _=w1 at *;clear cw0;go_wp2_with fail;refine(D.run (m:=m) (v:=n) P1.out HCS.out.2 Z1.out rfl (by omega) (by omega)).mono ?_;intro e w2 hpost;have Y:=hpost.cell Z1.out HCS.out.2;clear hpost;have KN:=Lib.hid (show ∀ k,(C k∧k≠bw∧(0<n→k≠blk oa))→(C1 k∧k≠w.heap.size) from fun k h=>⟨HCS.out.1 k h.1,fun e=>by have:=HLT.out k h.1; omega⟩)
 cases hr:stp s n m with
 | none =>
  rw [hr] at Y;obtain⟨hk,he⟩:=Y;dsimp only [Option.map] at he;subst he;simp only [err];exact⟨rfl,(K1.out.mono fun k h=>h.1).trans (hk.mono KN.out),by simp only [sevS,hr]; rfl⟩
 | some p =>
  obtain⟨s1,n'⟩:=p;rw [hr] at Y;obtain⟨hk,he,ht,hb⟩:=Y;dsimp only at he ht hb;subst he
  have hn':n'≤100:=by
   rcases D.bd hr with h | h
   ·have:2 ^ m≤2 ^ 3:=Nat.pow_le_pow_right (by omega) hm
    omega
   ·omega
  have hz1:sz s1≤20003:=by have:=D.szs hr; omega
  have HSV:=Lib.hid (show sevS stp (ticketE stp) s n X m=match goS (ticketE stp) s1 (if n'=n then X else fun _ _=>0) n' with
   | none=>none
   | some (s2,X2)=>some (s2,n',X2) from by simp only [sevS,hr])
  have P2:=Lib.hid ht;have Z2:=Lib.hid (show BoxAt w2 w.heap.size #[.int .i64 n'] 3 from hb);have W2:=Lib.hid (hk.box W1.out ⟨HCS.out.1 _ hCw,fun e=>hnw e.symm⟩);have F2:=Lib.hid (hk.box F1.out ⟨HCS.out.1 _ hCf,fun e=>hnf e.symm⟩);have S2:=Lib.hid (hk.box S1.out ⟨HCS.out.1 _ hCs,fun e=>hns e.symm⟩)
  have R2:=Lib.hid (show WRow C w2 130 8 oa n X from fun h0=>by
   obtain⟨g,cur,h1,h2,h3,h4⟩:=R1.out h0
   exact⟨g,cur,h1,h2,hk.box h3 ⟨HCS.out.1 _ h2,fun e=>by have:=HLT.out g h2; omega⟩,h4⟩)
  have K2:=Lib.hid ((K1.out.mono fun k h=>h.1).trans (hk.mono KN.out));clear hk ht hb hr P1 Z1 W1 F1 R1 K1 S1;have z0:=cellAt Z2.out 0;have cw0:=(cellAt W2.out ob).trans hcw;simp only [List.getElem?_toArray,List.getElem?_cons_zero] at z0;go_upto_region 2 with (fail)
  go_quiet (fail)
  have bd1:=below_drewN (Below.refl w2.heap.size w2) nq;have P3:=Lib.hid (D.more P2.out bd1 (fun _ h=>.inl h) (fun _ h=>h));have Z3:=Lib.hid (Z2.out.grow bd1);have W3:=Lib.hid (W2.out.grow bd1);have F3:=Lib.hid (F2.out.grow bd1);have S3:=Lib.hid (S2.out.grow bd1)
  have R3:=Lib.hid (show WRow C (w2.drewN nq) 130 8 oa n X from fun h0=>by
   obtain⟨g,cur,h1,h2,h3,h4⟩:=R2.out h0
   exact⟨g,cur,h1,h2,h3.grow bd1,h4⟩)
  have K3:=Lib.hid (K2.out.trans ⟨bd1.os,bd1.tape,bd1.output,bd1.size,fun _ _=>rfl⟩);clear bd1 P2 Z2 W2 F2 R2 K2 z0 cw0 S2;generalize World.drewN w2 nq=w3 at *;have cw0:=(cellAt W3.out ob).trans hcw;have cwf:=freeAt W3.out ob;have z0:=cellAt Z3.out 0;simp only [List.getElem?_toArray,List.getElem?_cons_zero] at z0;go_upto_if 22 with (fail)
  go_cut [22] from 17 to 26 (fun v W=>SevM132 Tp C1 (fun k=>C k∧k≠bw∧(0<n→k≠blk oa)) T rv bw ob cw tw fb sb 130 8 oa n n' w s1 (if n'=n then X else fun _ _=>0) W)
  case first =>
   by_cases hnn:n'=n
   ·subst hnn
    have t0:((n':Int) != n')=false:=by simp
    go_wp2_with fail
    go_meet
    first | rw [if_pos trivial] | rw [if_pos rfl]
    exact⟨C1,oa,cap,fun _ h=>h,P3.out,by rw [set_same hcw]; exact W3.out,F3.out,fun h0=>by
     obtain⟨g,cur,h1,h2,h3,h4⟩:=R3.out h0
     exact⟨g,cur,h1,HCS.out.1 _ h2,h3,h4⟩,hcap,fun h0=>.inl ⟨rfl,h0⟩,fun h0=>HRB.out h0,K3.out,S3.out⟩
   ·have t0:((n':Int) != n)=true:=by simp; omega
    have t1:(n' != n)=true:=by simp [hnn]
    obtain⟨i0,hi0,hz0,hz1,hz2⟩:=info130;obtain⟨W4,hrun,hown,hgr⟩:=run_make_full (P:=Tryz.prog) w3 w.heap.size 36 130 i0 _ 8 el132 hi0 hz0 hz1 .i64 .i64 n' (by rw [hz2]; omega) (by unfold maxLen; omega) (K3.out.size)
    obtain⟨cur,hrow,hcells⟩:=made_row (v:=.int .i64 0) (fun j hj=>by
     rw [show(Value.agg #[.int .i64 0,.int .i64 0,.int .i64 0,.int .i64 0,.int .i64 0,.int .i64 0,.int .i64 0,.int .i64 0]).cells=Array.replicate 8 (.int .i64 0) from rfl] at hj ⊢;rw [Array.size_replicate] at hj
     rw [Array.getElem?_replicate,if_pos hj]) (by decide) hown
    have HCE:=Lib.hid hcells;have bd1:=Below.grown (Below.refl w3.heap.size w3) hgr (Nat.le_refl _) (fun _ e=>by cases e);have hg3:=K3.out.size;have hbl:=lt_of_heap W3.out;have hfl:=lt_of_heap F3.out;have P4:=Lib.hid (D.more (C':=fun k=>C1 k∨k=w3.heap.size) P3.out bd1 (fun k hk=>by rcases hk with h | h; exact .inl h; exact .inr ⟨by omega,by rw [h]; exact lt_of_heap hrow⟩) (fun k hk=>.inl hk));have W4':=Lib.hid (W3.out.grow bd1);have F4:=Lib.hid (F3.out.grow bd1);have K4:=Lib.hid (K3.out.trans (Keep.of_below bd1 (fun k hk=>by have:=D.lt P3.out k (HCS.out.1 k hk.1); omega)));have RW:=Lib.hid hrow;have S4:=Lib.hid (S3.out.grow bd1);have hsl:=lt_of_heap S3.out;have HN:=Lib.hid hnn;have HRUN:=Lib.hid hrun;clear bd1 hrow hcells hown hgr hi0 hz0 hz1 hz2 hnn cw0 cwf hrun;go_wp2_with fail;rw [HRUN.out];simp only [Result.andThen,Oper.upon_value];have cw0:=(cellAt W4'.out ob).trans hcw;have cwf:=freeAt W4'.out ob;go_wp2_with fail
    go_meet
    first | rw [if_neg HN.out] | rw [if_neg (fun h=>h)]
    exact⟨fun k=>C1 k∨k=w3.heap.size,some ⟨w3.heap.size,0,none⟩,n',fun k h=>.inl h,D.client bw ob _ P4.out (.inl (HCS.out.1 _ hCw)),W4'.out.store ob _,F4.out.set _ _ (fun e=>hbf e.symm),fun _=>⟨w3.heap.size,cur,rfl,.inr rfl,RW.out.set _ _ (by dsimp only; omega),HCE.out⟩,Nat.le_refl _,fun _=>.inr hg3,fun _=>⟨by show w3.heap.size≠bw; omega,by show w3.heap.size≠fb; omega,by show w3.heap.size≠sb; omega⟩,K4.out.set _ _ _ (fun h=>h.2.1 rfl),S4.out.set _ _ (fun e=>hsb e.symm)⟩
  case rest =>
   obtain⟨C2,oa',cap',hc12,hp2,hw2,hf2,hr2,hcap2,hob,hne,hk2,hs2⟩:=hcut;clear P3 Z3 W3 F3 R3 K3 cw0 cwf z0 S3;generalize hX0:(if n'=n then X else fun _ _=>0)=X0 at *
   have HPX:=Lib.hid (show ∀ i,i<n'→TPre (X0 i) from fun i hi=>by
    rw [← hX0]
    split
    ·rename_i e
     exact HPRE.out i (by omega)
    ·exact⟨by simp,by simp,by simp,by simp,by simp,by simp⟩)
   clear hX0;generalize hcw2:cw.setIfInBounds ob (.slice oa' n' cap')=cw2 at *;have hcb:cw2[ob]? = some (.slice oa' n' cap'):=by rw [← hcw2]; simp [hos]
   have HW2:=Lib.hid hcw2
   have hgr:0<n'→oa'=some ⟨blk oa',0,none⟩∧C2 (blk oa'):=fun h0=>by
    obtain⟨g,cur,h1,h2,-⟩:=hr2 h0;rw [h1];exact⟨rfl,h2⟩
   have HGR:=Lib.hid hgr;have HNE:=Lib.hid hne;have HCB:=Lib.hid hcb
   have KG:=Lib.hid (show 0<n' → ∀ k,(C k∧k≠bw∧(0<n→k≠blk oa))→(C2 k∧k≠blk oa') from fun h0 k h=>⟨hc12 k (HCS.out.1 k h.1),fun e=>by
    rcases hob h0 with ⟨h1,h2⟩ | h1
    ·exact h.2.2 h2 (e.trans h1)
    ·have:=HLT.out k h.1; omega⟩)
   have I0:=Lib.hid (show SL132 Tp C2 (fun k=>C k∧k≠bw∧(0<n→k≠blk oa)) T rv bw cw2 tw fb sb 130 8 (blk oa') n' w s1 X0 wc from
    ⟨hp2,hw2,hf2,hk2,fun h0=>by
     obtain⟨g,cur,h1,h2,h3,h4⟩:=hr2 h0;rw [h1]
     exact⟨cur,h3,h4⟩,hs2⟩)
   have HC12:=Lib.hid (show ∀ k,C k→C2 k from fun k h=>hc12 k (HCS.out.1 k h));have HOB:=Lib.hid hob;clear hc12 hp2 hw2 hf2 hr2 hob hne hk2 hcw2 hgr hcb hs2;have cb:=(cellAt I0.out.bx ob).trans HCB.out;go_wp2_with fail
   go_loopw [31] (fun i wi => ∃ k:Nat,k≤n'∧i = .int .i64 k ∧ ∃ sk Xk,goS (ticketE stp) s1 X0 k=some (sk,Xk)∧SL132 Tp C2 (fun k=>C k∧k≠bw∧(0<n→k≠blk oa)) T rv bw cw2 tw fb sb 130 8 (blk oa') n' w sk Xk wi) (fun i _=>n' - (intOf i).toNat)
   case atStart=>exact⟨0,Nat.zero_le _,rfl,s1,X0,rfl,I0.out⟩
   case round =>
    clear I0 cb;obtain⟨k,hk,rfl,sk,Xk,hgo,h1⟩:=hrel;have I1:=Lib.hid h1;have HGO:=Lib.hid hgo;clear h1;by_cases hlt:k<n'
    ·obtain⟨cur,hrow,hcells⟩:=I1.out.row (by omega)
     obtain⟨hoa,hCg⟩:=HGR.out (by omega);have hzk:sz sk≤30000:=by have:=goS_sz (sz:=sz) (fun h=>ticketE_sz D h) hgo; omega
     have hi:=fun w=>run_indexAt_row (w:=w) (oa:=oa') (n:=n') (cap:=cap') (k:=k) el132 sz132 (by rw [hoa]; rfl) hlt;rw [show ofs oa'=0 from by rw [hoa]; rfl] at hi;simp only [Nat.zero_add] at hi;have cb:=(cellAt I1.out.bx ob).trans HCB.out;have hnb:=(HNE.out (by omega)).1;have hnf2:=(HNE.out (by omega)).2.1;have hns2:=(HNE.out (by omega)).2.2;obtain⟨p1,p2,p3,p4,p5,p6⟩:TPre (Xk k):=by rw [goS_rest hgo k (Nat.le_refl _)]; exact HPX.out k hlt
     clear hgo hoa;have HCELL:=Lib.hid hcells;go_wp2_with fail;refine(ticket133_any D C2 sk (blk oa') (k * 8) (Xk k 0) (Xk k 1) (Xk k 2) (Xk k 3) (Xk k 4) (Xk k 5) (Xk k 6) (Xk k 7) fb sb cur 130 wr I1.out.tp hCg (HC12.out _ hCf) (fun e=>hnf2 e.symm) hrow I1.out.fx (HC12.out _ hCs) (fun e=>hns2 e.symm) I1.out.sx p1 p2 p3 p4 p5 p6 (hcells k hlt 0 (by omega)) (hcells k hlt 1 (by omega)) (hcells k hlt 2 (by omega)) (hcells k hlt 3 (by omega)) (hcells k hlt 4 (by omega)) (hcells k hlt 5 (by omega)) (hcells k hlt 6 (by omega)) (hcells k hlt 7 (by omega)) (by omega)).mono ?_;intro e w5 Y
     cases hr:ticketE stp sk (Xk k) with
     | none =>
      rw [show ticketS stp sk (Xk k 0) (Xk k 1) (Xk k 2) (Xk k 3) (Xk k 4) (Xk k 5) (Xk k 6) (Xk k 7)=none from hr] at Y;obtain⟨hk,he⟩:=Y;dsimp only [Option.map] at he;subst he;simp only [err]
      have hnone:goS (ticketE stp) s1 X0 n'=none:=by
       have h2:goS (ticketE stp) s1 X0 (k+1)=none:=by
        show(match goS (ticketE stp) s1 X0 k with | none=>none | some (s1,X1)=>match ticketE stp s1 (X1 k) with | none=>none | some (s2,l)=>some (s2,fun i=>if i=k then fun j=>l.getD j 0 else X1 i))=none
        rw [HGO.out];dsimp only;rw [hr]
       have:=goS_none h2 (n' - (k+1))
       rwa [show k+1+(n' - (k+1))=n' by omega] at this
      exact⟨rfl,I1.out.keep.trans (hk.mono (KG.out (by omega))),by rw [HSV.out,hnone]; rfl⟩
     | some p =>
      obtain⟨s2,l⟩:=p;rw [show ticketS stp sk (Xk k 0) (Xk k 1) (Xk k 2) (Xk k 3) (Xk k 4) (Xk k 5) (Xk k 6) (Xk k 7)=some (s2,l) from hr] at Y;obtain⟨hk,he,ht,hb⟩:=Y;dsimp only at he ht hb;subst he;have hll:=ticketE_len hr
      have HG2:=Lib.hid (show goS (ticketE stp) s1 X0 (k+1)=some (s2,fun i=>if i=k then fun j=>l.getD j 0 else Xk i) from by
       show(match goS (ticketE stp) s1 X0 k with | none=>none | some (s1,X1)=>match ticketE stp s1 (X1 k) with | none=>none | some (s2,l)=>some (s2,fun i=>if i=k then fun j=>l.getD j 0 else X1 i))=_
       rw [HGO.out];dsimp only
       rw [hr])
      have hsz0:k * 8+8≤cur.size:=by
       have:=(Array.getElem?_eq_some_iff.1 (HCELL.out k hlt (8 - 1) (by omega))).1;omega
      have I2:=Lib.hid (show SL132 Tp C2 (fun k=>C k∧k≠bw∧(0<n→k≠blk oa)) T rv bw cw2 tw fb sb 130 8 (blk oa') n' w s2 (fun i=>if i=k then fun j=>l.getD j 0 else Xk i) w5 from
       ⟨ht,hk.box I1.out.bx ⟨HC12.out _ hCw,fun e=>hnb e.symm⟩,hk.box I1.out.fx ⟨HC12.out _ hCf,fun e=>hnf2 e.symm⟩,I1.out.keep.trans (hk.mono (KG.out (by omega))),fun h0=>⟨_,hb,fun i hi j hj=>by
        by_cases e:i=k
        ·subst e
         rw [setL_in _ _ _ _ (by rw [hll]; exact hj) (by rw [hll]; exact hsz0)];simp
        ·rw [setL_out _ _ _ _ (by rw [hll]; rcases Nat.lt_or_gt_of_ne e with h | h; left; have:(i+1) * 8≤k * 8:=Nat.mul_le_mul_right _ h; omega; right; have:(k+1) * 8≤i * 8:=Nat.mul_le_mul_right _ h; omega),HCELL.out i hi j hj]
         simp [e]⟩,hk.box I1.out.sx ⟨HC12.out _ hCs,fun e=>hns2 e.symm⟩⟩)
      clear hk ht hb hr I1 HCELL cb hi hcells hrow;go_wp2_with fail;exact⟨⟨k+1,hlt,by go_num,s2,_,HG2.out,I2.out⟩,by simp [intOf]; omega⟩
    ·obtain rfl:k=n':=by omega
     have HF:=Lib.hid (show sevS stp (ticketE stp) s n X m=some (sk,k,Xk) from by rw [HSV.out,HGO.out])
     have HR:=Lib.hid (show WRow C2 wr 130 8 oa' k Xk from fun h0=>by
      obtain⟨cur,h3,h4⟩:=I1.out.row h0;obtain⟨h5,h6⟩:=HGR.out h0
      exact⟨blk oa',cur,h5,h6,h3,h4⟩)
     go_wp2_with fail
     go_end0
     rw [HF.out];exact⟨I1.out.keep,rfl,C2,oa',cap',HC12.out,I1.out.tp,by rw [HW2.out]; exact I1.out.bx,HR.out,hcap2,HOB.out⟩
end
end Go.Proofs.YtclbmlmlhiiaeaaGreatDoor
