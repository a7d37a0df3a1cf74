/- Walks: a span, a seam and a ticket, by whoever writes or rea -/
import Derived.Test.YtclbmlmlhiiaeaaGreatDoorQV1
namespace Go.Proofs.YtclbmlmlhiiaeaaGreatDoor
open Go.RowKit
section
variable {σ:Type} {F:FuncId} {T:TypeId} {rv:Value} {base:Nat} {Tp:(Nat→Prop)→World→σ→Prop} {stp:σ→Nat→Nat→Option (σ×Nat)} {sz:σ→Nat}
def CellPost(Tp:(Nat→Prop)→World→σ→Prop)(C:Nat→Prop)(r:Option (σ×Array Value))(g:Nat)(t:TypeId)(w:World)(e:Ending)(w':World):Prop :=
 Keep (fun k=>C k∧k≠g) w w'∧match r with
 | none=>e=err 8
 | some (s,cs)=>e = .returned (.tuple #[])∧Tp C w' s∧BoxAt w' g cs t
def spanS(stp:σ→Nat→Nat→Option (σ×Nat))(s:σ)(lo hi m:Nat):Option (σ×Nat×Nat) :=
 match stp s lo m with
 | none=>none
 | some (s1,lo')=>match stp s1 (hi - lo) 2 with
  | none=>none
  | some (s2,wd)=>some (s2,lo',lo'+wd)
theorem DoPost.cell{C:Nat→Prop}{r:Option (σ×Nat)}{g o:Nat}{w w':World}{e:Ending}{cs:Array Value}{t:TypeId}(h:DoPost Tp C r g o w e w')(hg:BoxAt w g cs t)(hC:C g) :
  CellPost Tp C (r.map fun p=>(p.1,cs.setIfInBounds o (.int .i64 p.2))) g t w e w':=by
 cases r with
 | none=>exact⟨h.2,h.1⟩
 | some p =>
  obtain⟨h1,h2,h3⟩:=h;exact⟨⟨h3.os,h3.tape,h3.output,by have:=h3.size; rwa [size_setCell] at this,fun k hk=>(h3.block k hk.1).trans (Below.heap_setCell _ _ _ _ hk.2)⟩,h1,h2,h3.box (hg.store o _) hC⟩
set_option maxRecDepth 100000 in
set_option maxHeartbeats 4000000 in
theorem span129_any(D:Doer σ F T rv base Tp stp sz)(C:Nat→Prop)(s:σ)(g o lo hi m fb:Nat)(cs:Array Value)(t:TypeId)(w:World)(hp:Tp C w s)(hC:C g)(hCf:C fb)(hfg:fb≠g)(hg:BoxAt w g cs t)(hf:BoxAt w fb #[.iface T rv] 185)
  (h0:cs[o]? = some (.int .i64 lo)) (h1:cs[o+1]? = some (.int .i64 hi)) (hle:lo≤hi) (hhi:hi≤1000) (hm:m≤6) (hz:sz s≤90000) :
  Calls Tryz.prog 129 #[.pointer (some ⟨g,o,none⟩),.int .i64 m,bp fb] w
   (CellPost Tp C ((spanS stp s lo hi m).map fun p=>(p.1,(cs.setIfInBounds o (.int .i64 p.2.1)).setIfInBounds (o+1) (.int .i64 p.2.2))) g t w):=by
 have c0:=(cellAt hg o).trans h0;have c1:=(cellAt hg (o+1)).trans h1;have cf:=cellAt hf 0;simp only [List.getElem?_toArray,List.getElem?_cons_zero] at cf;have hmeth:=D.meth;have hfn:=D.fn;have hahead:=D.ahead;obtain⟨wd,ewd⟩:∃ wd,hi - lo=wd:=⟨_,rfl⟩
 have e1:(hi:Int) - lo=wd:=by omega
 have wW:IntKind.i64.wrap (wd:Int)=wd:=IntWalk.i64_in _ (by omega);have EW:=Lib.hid ewd;have hwd:wd≤1000:=by omega
 clear ewd;go_enter Tryz.func129,Tryz.ntmps129;go_upto_region 0 with (fail)
 have hgl:=lt_of_heap hg;have KP:=Lib.hid (fun W' (hb:Below w.heap.size w W')=>(⟨(hb.cell (p:=⟨g,o,none⟩) hgl).trans c0,(hb.cell (p:=⟨g,o+1,none⟩) hgl).trans c1⟩:W'.cell? ⟨g,o,none⟩=some (.int .i64 lo)∧W'.cell? ⟨g,o+1,none⟩=some (.int .i64 hi)));have hbd:=Lib.hid (Below.drew (Below.refl w.heap.size w))
 go_region_held3 (fun W'=>W'.cell? ⟨g,o,none⟩=some (.int .i64 lo)∧W'.cell? ⟨g,o+1,none⟩=some (.int .i64 hi))
  (first | exact KP.out _ hbd.out | exact KP.out _ (((Below.refl _ _).alloc (Nat.le_refl _) _).drew) | exact KP.out _ ((((Below.refl _ _).alloc (Nat.le_refl _) _).setCell (Nat.le_refl _) _).drew) | exact KP.out _ ((((Below.refl _ _).alloc (Nat.le_refl _) _).drew).setCell (Nat.le_refl _) _))
  (fail)
 clear hbd KP c0 c1 cf e1
 -- the client's blocks,and the box of the width
 obtain⟨C',eC⟩:∃ C':Nat→Prop,C'=fun k=>C k∨k=w.heap.size:=⟨_,rfl⟩
 have hlt:=D.lt hp;have B1:Below w.heap.size w (w.alloc (.cells #[.int .i64 wd] 3)).drew:=((Below.refl _ _).alloc (Nat.le_refl _) _).drew;have z1:BoxAt (w.alloc (.cells #[.int .i64 wd] 3)).drew w.heap.size #[.int .i64 wd] 3:=heap_alloc_new w _;have s1:(w.alloc (.cells #[.int .i64 wd] 3)).drew.heap.size=w.heap.size+1:=sizeAlloc w _;have hp1:=D.more (C':=C') hp B1 (fun k hk=>by rw [eC] at hk; rcases hk with h | h; exact .inl h; exact .inr (by omega)) (fun k hk=>by rw [eC]; exact .inl hk);have HCS:=Lib.hid (show(∀ k,C k→C' k)∧C' w.heap.size from⟨fun k hk=>by rw [eC]; exact .inl hk,by rw [eC]; exact .inr rfl⟩);have hng:w.heap.size≠g:=by have:=hlt g hC; omega
 have hnf:w.heap.size≠fb:=by have:=hlt fb hCf; omega
 have K1:=Lib.hid (Keep.of_below B1 hlt);have G1:=Lib.hid (hg.grow B1);have F1:=Lib.hid (hf.grow B1);have Z1:=Lib.hid z1;have P1:=Lib.hid hp1;have HA:=Lib.hid (D.all hp);have HLT:=Lib.hid hlt;clear eC B1 z1 s1 hp1 hg hf hp hlt;generalize World.drew _=w1 at *;have cf:=cellAt F1.out 0;simp only [List.getElem?_toArray,List.getElem?_cons_zero] at cf;go_wp2_with fail
 go_still_tail 8,(by kernel_rfl)
 change wpList _ _ _ _ _ w1.drew;have bd1:=Below.drew (Below.refl w1.heap.size w1);have P2:=Lib.hid (D.more P1.out bd1 (fun _ h=>.inl h) (fun _ h=>h));have G2:=Lib.hid (G1.out.grow bd1);have F2:=Lib.hid (F1.out.grow bd1);have Z2:=Lib.hid (Z1.out.grow bd1);have K2:=Lib.hid (K1.out.below bd1 HLT.out);clear bd1 P1 G1 F1 Z1 K1 cf;generalize World.drew w1=w2 at *;go_wp2_with fail;refine(D.run (m:=m) P2.out (HCS.out.1 _ hC) G2.out h0 (by omega) (by omega)).mono ?_;intro e w3 hpost;have X:=hpost.cell G2.out (HCS.out.1 _ hC);have KS:=Lib.hid (show ∀ k,(C k∧k≠g)→(C' k∧k≠g) from fun k h=>⟨HCS.out.1 k h.1,h.2⟩);have hos1:=(Array.getElem?_eq_some_iff.1 h1).1;have hos0:=(Array.getElem?_eq_some_iff.1 h0).1;clear hpost
 cases hr:stp s lo m with
 | none =>
  rw [hr] at X;obtain⟨hk,he⟩:=X;dsimp only [Option.map] at he;subst he;simp only [err]
  exact⟨rfl,by
   unfold spanS;rw [hr]
   exact⟨(K2.out.mono fun k h=>h.1).trans (hk.mono KS.out),rfl⟩⟩
 | some p =>
  obtain⟨s1,lo'⟩:=p;rw [hr] at X;obtain⟨hk,he,ht,hb⟩:=X;dsimp only at he ht hb;subst he;have HR:=Lib.hid hr;have hz1:sz s1≤90006:=by have:=D.szs hr; omega
  have hlo':lo'≤1000:=by
   rcases D.bd hr with h | h
   ·have:2 ^ m≤2 ^ 6:=Nat.pow_le_pow_right (by omega) hm
    omega
   ·omega
  have P3:=Lib.hid ht;have G3:=Lib.hid hb;have F3:=Lib.hid (hk.box F2.out ⟨HCS.out.1 _ hCf,hfg⟩);have Z3:=Lib.hid (hk.box Z2.out ⟨HCS.out.2,hng⟩);have K3:=Lib.hid ((K2.out.mono fun k h=>h.1).trans (hk.mono KS.out));clear hk ht hb hr P2 G2 F2 Z2 K2;have cf:=cellAt F3.out 0;simp only [List.getElem?_toArray,List.getElem?_cons_zero] at cf;go_wp2_with fail;refine(D.run (m:=2) (v:=wd) P3.out HCS.out.2 Z3.out rfl (by omega) (by omega)).mono ?_;intro e w4 hpost;have X:=hpost.cell Z3.out HCS.out.2;clear hpost
  have HSP:=Lib.hid (show spanS stp s lo hi m=match stp s1 wd 2 with
   | none=>none
   | some (s2,wd')=>some (s2,lo',lo'+wd') from by
    unfold spanS;rw [HR.out];dsimp only
    rw [EW.out])
  have KZ:=Lib.hid (show ∀ k,(C k∧k≠g)→(C' k∧k≠w.heap.size) from fun k h=>⟨HCS.out.1 k h.1,fun e=>by have:=HLT.out k h.1; omega⟩)
  cases hr:stp s1 wd 2 with
  | none =>
   rw [hr] at X;obtain⟨hk,he⟩:=X;dsimp only [Option.map] at he;subst he;simp only [err]
   exact⟨rfl,by
    rw [HSP.out,hr]
    exact⟨K3.out.trans (hk.mono KZ.out),rfl⟩⟩
  | some p =>
   obtain⟨s2,wd'⟩:=p;rw [hr] at X;obtain⟨hk,he,ht,hb⟩:=X;dsimp only at he ht hb;subst he
   have hwd':wd'≤1000:=by
    rcases D.bd hr with h | h
    ·omega
    ·omega
   have P4:=Lib.hid ht;have Z4:=Lib.hid hb;have G4:=Lib.hid (hk.box G3.out ⟨HCS.out.1 _ hC,fun e=>hng e.symm⟩);have K4:=Lib.hid (K3.out.trans (hk.mono KZ.out))
   replace HSP:=Lib.hid (show spanS stp s lo hi m=some (s2,lo',lo'+wd') from by rw [HSP.out,hr])
   clear hk ht hb hr P3 G3 F3 Z3 K3 cf;have nf:=freeAt G4.out (o+1);have n2:=cellAt Z4.out 0;have x0:(cs.setIfInBounds o (.int .i64 lo'))[o]? = some (.int .i64 lo'):=by simp [hos0]
   have x1:(cs.setIfInBounds o (.int .i64 lo'))[o+1]? = some (.int .i64 hi):=by rw [Array.getElem?_setIfInBounds_ne (by omega)]; exact h1
   have n0:=(cellAt G4.out o).trans x0;have n1:=(cellAt G4.out (o+1)).trans x1;have n2':w4.cell? ⟨w.heap.size,0,none⟩=some (.int .i64 wd'):=by simpa using n2
   have e5:IntKind.i64.wrap ((lo':Int)+wd')=((lo'+wd':Nat):Int):=by rw [IntWalk.i64_in _ (by omega)]; omega
   obtain⟨Y,eY⟩:∃ Y,lo'+wd'=Y:=⟨_,rfl⟩
   rw [eY] at e5 HSP;clear eY n2 x0 x1;go_wp2_with fail
   go_still_tail 9,(by kernel_rfl)
   change wpList _ _ _ _ _ w4.drew;have bd1:=Below.drew (Below.refl w4.heap.size w4);have P5:=Lib.hid (D.more P4.out bd1 (fun _ h=>.inl h) (fun _ h=>h));have G5:=Lib.hid (G4.out.grow bd1);have K5:=Lib.hid (K4.out.trans ⟨bd1.os,bd1.tape,bd1.output,bd1.size,fun _ _=>rfl⟩);have n1':w4.drew.cell? ⟨g,o+1,none⟩=some (.int .i64 hi):=n1;have nf':w4.drew.frozen? ⟨g,o+1,none⟩=false:=nf;clear bd1 P4 G4 K4 n0 n1 n2' nf Z4;generalize World.drew w4=w5 at *;go_wp2_with fail
   go_end0
   rw [HSP.out];exact⟨K5.out.set _ _ _ (fun h=>h.2 rfl),rfl,D.less (D.client g (o+1) _ P5.out (HCS.out.1 _ hC)) HCS.out.1 HA.out,G5.out.store (o+1) _⟩
end
def setL(cs:Array Value)(o:Nat):List Nat→Array Value
 | []=>cs
 | v::r=>setL (cs.setIfInBounds o (.int .i64 v)) (o+1) r
theorem setL_out(cs:Array Value)(o:Nat)(l:List Nat)(j:Nat)(h:j<o∨o+l.length≤j):(setL cs o l)[j]? = cs[j]? := by
 induction l generalizing cs o with
 | nil=>rfl
 | cons v r ih =>
  simp only [List.length_cons] at h
  show(setL (cs.setIfInBounds o (.int .i64 v)) (o+1) r)[j]? = _
  rw [ih _ _ (by omega),Array.getElem?_setIfInBounds_ne (by omega)]
theorem setL_in(cs:Array Value)(o:Nat)(l:List Nat)(i:Nat)(hi:i<l.length)(hs:o+l.length≤cs.size):(setL cs o l)[o+i]? = some (.int .i64 (l.getD i 0:Nat)):=by
 induction l generalizing cs o i with
 | nil=>simp at hi
 | cons v r ih =>
  simp only [List.length_cons] at hi hs
  show(setL (cs.setIfInBounds o (.int .i64 v)) (o+1) r)[o+i]? = _
  cases i with
  | zero =>
   rw [setL_out _ _ _ _ (by omega)];rw [Nat.add_zero,Array.getElem?_setIfInBounds_self_of_lt (by omega)];simp
  | succ i =>
   have:=ih (cs.setIfInBounds o (.int .i64 v)) (o+1) i (by omega) (by rw [Array.size_setIfInBounds]; omega);rw [show o+(i+1)=o+1+i by omega,this];simp
theorem at_ne{cs:Array Value}{o j:Nat}{x y:Value}(h:cs[j]? = some y)(hne:o≠j):(cs.setIfInBounds o x)[j]? = some y:=by
 rw [Array.getElem?_setIfInBounds_ne hne];exact h
section
variable {σ:Type} {F:FuncId} {T:TypeId} {rv:Value} {base:Nat} {Tp:(Nat→Prop)→World→σ→Prop} {stp:σ→Nat→Nat→Option (σ×Nat)} {sz:σ→Nat}
def seamS(stp:σ→Nat→Nat→Option (σ×Nat))(s:σ)(f r:Nat):Option (σ×List Nat) :=
 match stp s f 5 with
 | none=>none
 | some (s1,f')=>match stp s1 r 6 with
  | none=>none
  | some (s2,r')=>some (s2,[f',r'])
def ticketS(stp:σ→Nat→Nat→Option (σ×Nat))(s:σ)(c m fl fh tl th dl dh:Nat):Option (σ×List Nat) :=
 match stp s c 2 with
 | none=>none
 | some (s1,c')=>match stp s1 m 2 with
  | none=>none
  | some (s2,m')=>match spanS stp s2 fl fh 5 with
   | none=>none
   | some (s3,fl',fh')=>match spanS stp s3 tl th 5 with
    | none=>none
    | some (s4,tl',th')=>match spanS stp s4 dl dh 6 with
     | none=>none
     | some (s5,dl',dh')=>some (s5,[c',m',fl',fh',tl',th',dl',dh'])
theorem spanS_sz(D:Doer σ F T rv base Tp stp sz){s s':σ}{lo hi m a b:Nat}(h:spanS stp s lo hi m=some (s',a,b)):sz s'≤sz s+m+2:=by
 unfold spanS at h
 cases h1:stp s lo m with
 | none=>rw [h1] at h; cases h
 | some p =>
  obtain⟨s1,x⟩:=p;rw [h1] at h;dsimp only at h
  cases h2:stp s1 (hi - lo) 2 with
  | none=>rw [h2] at h; cases h
  | some q =>
   obtain⟨s2,y⟩:=q;rw [h2] at h
   cases h
   have:=D.szs h1;have:=D.szs h2;omega
set_option maxRecDepth 100000 in
set_option maxHeartbeats 4000000 in
theorem seam131_any(D:Doer σ F T rv base Tp stp sz)(C:Nat→Prop)(s:σ)(g o f r fb:Nat)(cs:Array Value)(t:TypeId)(w:World)(hp:Tp C w s)(hC:C g)(hCf:C fb)(hfg:fb≠g)(hg:BoxAt w g cs t)(hf:BoxAt w fb #[.iface T rv] 185)
  (h0:cs[o]? = some (.int .i64 f)) (h1:cs[o+1]? = some (.int .i64 r)) (hz:sz s≤80000) :
  Calls Tryz.prog 131 #[.pointer (some ⟨g,o,none⟩),bp fb] w
   (CellPost Tp C ((seamS stp s f r).map fun p=>(p.1,setL cs o p.2)) g t w):=by
 have hmeth:=D.meth;have hfn:=D.fn;have hahead:=D.ahead;have P0:=Lib.hid hp;have G0:=Lib.hid hg;have F0:=Lib.hid hf;have K0:=Lib.hid (Keep.refl (fun k=>C k∧k≠g) w);have hz0:sz s≤80000:=hz;have E0:=Lib.hid hC;have hs0:=(Array.getElem?_eq_some_iff.1 h0).1;clear hp hg hf hz;go_enter Tryz.func131,Tryz.ntmps131;have cf:=cellAt F0.out 0;simp only [List.getElem?_toArray,List.getElem?_cons_zero] at cf;go_wp2_with fail
 go_still_tail 7,(by kernel_rfl)
 change wpList _ _ _ _ _ w.drew;have bd1:=Below.drew (Below.refl w.heap.size w);have P:=Lib.hid (D.more P0.out bd1 (fun _ h=>.inl h) (fun _ h=>h));have G:=Lib.hid (G0.out.grow bd1);have FF:=Lib.hid (F0.out.grow bd1);have K:=Lib.hid (K0.out.trans ⟨bd1.os,bd1.tape,bd1.output,bd1.size,fun _ _=>rfl⟩);clear bd1 P0 G0 F0 K0 cf;generalize World.drew w=wd0 at *;go_wp2_with fail;refine(D.run (m:=5) (v:=f) P.out E0.out G.out (o:=o) h0 (by omega) (by omega)).mono ?_;intro e wx0 hpost;have X:=hpost.cell G.out E0.out;clear hpost
 cases hr:stp s f 5 with
 | none =>
  rw [hr] at X;obtain⟨hk,he⟩:=X;dsimp only [Option.map] at he;subst he;simp only [err];exact⟨rfl,K.out.trans hk,by simp only [seamS,hr]; rfl⟩
 | some p =>
  obtain⟨s1,f'⟩:=p;rw [hr] at X;obtain⟨hk,he,ht,hb⟩:=X;dsimp only at he ht hb;subst he;have HR0:=Lib.hid hr;have hz1:sz s1≤80010:=by have:=D.szs hr; omega
  have P1:=Lib.hid ht;have G1:=Lib.hid hb;have F1:=Lib.hid (hk.box FF.out ⟨hCf,hfg⟩);have K1:=Lib.hid (K.out.trans hk)
  replace h1:=(at_ne (o:=o) (x:=.int .i64 (f':Nat)) h1 (by omega))
  clear hk ht hb hr P G FF K h0;have cf:=cellAt F1.out 0;simp only [List.getElem?_toArray,List.getElem?_cons_zero] at cf;go_wp2_with fail
  go_still_tail 7,(by kernel_rfl)
  change wpList _ _ _ _ _ wx0.drew;have bd1:=Below.drew (Below.refl wx0.heap.size wx0);have P:=Lib.hid (D.more P1.out bd1 (fun _ h=>.inl h) (fun _ h=>h));have G:=Lib.hid (G1.out.grow bd1);have FF:=Lib.hid (F1.out.grow bd1);have K:=Lib.hid (K1.out.trans ⟨bd1.os,bd1.tape,bd1.output,bd1.size,fun _ _=>rfl⟩);clear bd1 P1 G1 F1 K1 cf;generalize World.drew wx0=wd1 at *;go_wp2_with fail;refine(D.run (m:=6) (v:=r) P.out E0.out G.out (o:=o+1) h1 (by omega) (by omega)).mono ?_;intro e wx1 hpost;have X:=hpost.cell G.out E0.out;clear hpost
  cases hr:stp s1 r 6 with
  | none =>
   rw [hr] at X;obtain⟨hk,he⟩:=X;dsimp only [Option.map] at he;subst he;simp only [err];exact⟨rfl,K.out.trans hk,by simp only [seamS,HR0.out,hr]; rfl⟩
  | some p =>
   obtain⟨s2,r'⟩:=p;rw [hr] at X;obtain⟨hk,he,ht,hb⟩:=X;dsimp only at he ht hb;subst he;have HR1:=Lib.hid hr;have hz2:sz s2≤80020:=by have:=D.szs hr; omega
   have P2:=Lib.hid ht;have G2:=Lib.hid hb;have F2:=Lib.hid (hk.box FF.out ⟨hCf,hfg⟩);have K2:=Lib.hid (K.out.trans hk);clear hk ht hb hr P G FF K h1;have HF:=Lib.hid (show seamS stp s f r=some (s2,[f',r']) from by simp only [seamS,HR0.out,HR1.out]);go_wp2_with fail
   go_end0
   rw [HF.out];exact⟨K2.out,rfl,P2.out,G2.out⟩
set_option maxRecDepth 100000 in
set_option maxHeartbeats 4000000 in
theorem ticket133_any(D:Doer σ F T rv base Tp stp sz)(C:Nat→Prop)(s:σ)(g o c m fl fh tl th dl dh fb sb:Nat)(cs:Array Value)(t:TypeId)(w:World)(hp:Tp C w s)(hC:C g)(hCf:C fb)(hfg:fb≠g)(hg:BoxAt w g cs t)(hf:BoxAt w fb #[.iface T rv] 185)
  (hCs:C sb) (hsg:sb≠g) (hs:BoxAt w sb #[.func (.func 129) #[] #[bp fb]] 189) (le2:fl≤fh) (hi2:fh≤1000) (le4:tl≤th) (hi4:th≤1000) (le6:dl≤dh) (hi6:dh≤1000) (h0:cs[o]? = some (.int .i64 c)) (h1:cs[o+1]? = some (.int .i64 m)) (h2:cs[o+2]? = some (.int .i64 fl)) (h3:cs[o+3]? = some (.int .i64 fh)) (h4:cs[o+4]? = some (.int .i64 tl)) (h5:cs[o+5]? = some (.int .i64 th)) (h6:cs[o+6]? = some (.int .i64 dl)) (h7:cs[o+7]? = some (.int .i64 dh)) (hz:sz s≤80000) :
  Calls Tryz.prog 133 #[.pointer (some ⟨g,o,none⟩),bp fb,bp sb] w
   (CellPost Tp C ((ticketS stp s c m fl fh tl th dl dh).map fun p=>(p.1,setL cs o p.2)) g t w):=by
 have hmeth:=D.meth;have hfn:=D.fn;have hahead:=D.ahead;have P0:=Lib.hid hp;have G0:=Lib.hid hg;have F0:=Lib.hid hf;have S0:=Lib.hid hs;have K0:=Lib.hid (Keep.refl (fun k=>C k∧k≠g) w);have hz0:sz s≤80000:=hz;have E0:=Lib.hid hC;have hs0:=(Array.getElem?_eq_some_iff.1 h0).1;clear hs;clear hp hg hf hz;go_enter Tryz.func133,Tryz.ntmps133;have cf:=cellAt F0.out 0;simp only [List.getElem?_toArray,List.getElem?_cons_zero] at cf;go_wp2_with fail
 go_still_tail 7,(by kernel_rfl)
 change wpList _ _ _ _ _ w.drew;have bd1:=Below.drew (Below.refl w.heap.size w);have P:=Lib.hid (D.more P0.out bd1 (fun _ h=>.inl h) (fun _ h=>h));have G:=Lib.hid (G0.out.grow bd1);have FF:=Lib.hid (F0.out.grow bd1);have SS:=Lib.hid (S0.out.grow bd1);have K:=Lib.hid (K0.out.trans ⟨bd1.os,bd1.tape,bd1.output,bd1.size,fun _ _=>rfl⟩);clear bd1 P0 G0 F0 S0 K0 cf;generalize World.drew w=wd0 at *;go_wp2_with fail;refine(D.run (m:=2) (v:=c) P.out E0.out G.out (o:=o) h0 (by omega) (by omega)).mono ?_;intro e wx0 hpost;have X:=hpost.cell G.out E0.out;clear hpost
 cases hr:stp s c 2 with
 | none =>
  rw [hr] at X;obtain⟨hk,he⟩:=X;dsimp only [Option.map] at he;subst he;simp only [err];exact⟨rfl,K.out.trans hk,by simp only [ticketS,hr]; rfl⟩
 | some p =>
  obtain⟨s1,c'⟩:=p;rw [hr] at X;obtain⟨hk,he,ht,hb⟩:=X;dsimp only at he ht hb;subst he;have HR0:=Lib.hid hr;have hz1:sz s1≤80010:=by have:=D.szs hr; omega
  have P1:=Lib.hid ht;have G1:=Lib.hid hb;have F1:=Lib.hid (hk.box FF.out ⟨hCf,hfg⟩);have S1:=Lib.hid (hk.box SS.out ⟨hCs,hsg⟩);have K1:=Lib.hid (K.out.trans hk)
  replace h1:=(at_ne (o:=o) (x:=.int .i64 (c':Nat)) h1 (by omega))
  replace h2:=(at_ne (o:=o) (x:=.int .i64 (c':Nat)) h2 (by omega))
  replace h3:=(at_ne (o:=o) (x:=.int .i64 (c':Nat)) h3 (by omega))
  replace h4:=(at_ne (o:=o) (x:=.int .i64 (c':Nat)) h4 (by omega))
  replace h5:=(at_ne (o:=o) (x:=.int .i64 (c':Nat)) h5 (by omega))
  replace h6:=(at_ne (o:=o) (x:=.int .i64 (c':Nat)) h6 (by omega))
  replace h7:=(at_ne (o:=o) (x:=.int .i64 (c':Nat)) h7 (by omega))
  clear hk ht hb hr P G FF K SS h0;have cf:=cellAt F1.out 0;simp only [List.getElem?_toArray,List.getElem?_cons_zero] at cf;go_wp2_with fail
  go_still_tail 7,(by kernel_rfl)
  change wpList _ _ _ _ _ wx0.drew;have bd1:=Below.drew (Below.refl wx0.heap.size wx0);have P:=Lib.hid (D.more P1.out bd1 (fun _ h=>.inl h) (fun _ h=>h));have G:=Lib.hid (G1.out.grow bd1);have FF:=Lib.hid (F1.out.grow bd1);have SS:=Lib.hid (S1.out.grow bd1);have K:=Lib.hid (K1.out.trans ⟨bd1.os,bd1.tape,bd1.output,bd1.size,fun _ _=>rfl⟩);clear bd1 P1 G1 F1 S1 K1 cf;generalize World.drew wx0=wd1 at *;go_wp2_with fail;refine(D.run (m:=2) (v:=m) P.out E0.out G.out (o:=o+1) h1 (by omega) (by omega)).mono ?_;intro e wx1 hpost;have X:=hpost.cell G.out E0.out;clear hpost
  cases hr:stp s1 m 2 with
  | none =>
   rw [hr] at X;obtain⟨hk,he⟩:=X;dsimp only [Option.map] at he;subst he;simp only [err];exact⟨rfl,K.out.trans hk,by simp only [ticketS,HR0.out,hr]; rfl⟩
  | some p =>
   obtain⟨s2,m'⟩:=p;rw [hr] at X;obtain⟨hk,he,ht,hb⟩:=X;dsimp only at he ht hb;subst he;have HR1:=Lib.hid hr;have hz2:sz s2≤80020:=by have:=D.szs hr; omega
   have P2:=Lib.hid ht;have G2:=Lib.hid hb;have F2:=Lib.hid (hk.box FF.out ⟨hCf,hfg⟩);have S2:=Lib.hid (hk.box SS.out ⟨hCs,hsg⟩);have K2:=Lib.hid (K.out.trans hk)
   replace h2:=(at_ne (o:=o+1) (x:=.int .i64 (m':Nat)) h2 (by omega))
   replace h3:=(at_ne (o:=o+1) (x:=.int .i64 (m':Nat)) h3 (by omega))
   replace h4:=(at_ne (o:=o+1) (x:=.int .i64 (m':Nat)) h4 (by omega))
   replace h5:=(at_ne (o:=o+1) (x:=.int .i64 (m':Nat)) h5 (by omega))
   replace h6:=(at_ne (o:=o+1) (x:=.int .i64 (m':Nat)) h6 (by omega))
   replace h7:=(at_ne (o:=o+1) (x:=.int .i64 (m':Nat)) h7 (by omega))
   clear hk ht hb hr P G FF K SS h1;have cf:=cellAt S2.out 0;simp only [List.getElem?_toArray,List.getElem?_cons_zero] at cf;go_wp2_with fail
   go_still_tail 4,(by kernel_rfl)
   change wpList _ _ _ _ _ wx1.drew;have bd1:=Below.drew (Below.refl wx1.heap.size wx1);have P:=Lib.hid (D.more P2.out bd1 (fun _ h=>.inl h) (fun _ h=>h));have G:=Lib.hid (G2.out.grow bd1);have FF:=Lib.hid (F2.out.grow bd1);have SS:=Lib.hid (S2.out.grow bd1);have K:=Lib.hid (K2.out.trans ⟨bd1.os,bd1.tape,bd1.output,bd1.size,fun _ _=>rfl⟩);clear bd1 P2 G2 F2 S2 K2 cf;generalize World.drew wx1=wd2 at *;go_wp2_with fail;refine(span129_any D C s2 g (o+2) fl fh 5 fb _ t wd2 P.out E0.out hCf hfg G.out FF.out h2 h3 le2 hi2 (by omega) (by omega)).mono ?_;intro e wx2 X
   cases hr:spanS stp s2 fl fh 5 with
   | none =>
    rw [hr] at X;obtain⟨hk,he⟩:=X;dsimp only [Option.map] at he;subst he;simp only [err];exact⟨rfl,K.out.trans hk,by simp only [ticketS,HR0.out,HR1.out,hr]; rfl⟩
   | some p =>
    obtain⟨s3,fl',fh'⟩:=p;rw [hr] at X;obtain⟨hk,he,ht,hb⟩:=X;dsimp only at he ht hb;subst he;have HR2:=Lib.hid hr;have hz3:sz s3≤80030:=by have:=spanS_sz D hr; omega
    have P3:=Lib.hid ht;have G3:=Lib.hid hb;have F3:=Lib.hid (hk.box FF.out ⟨hCf,hfg⟩);have S3:=Lib.hid (hk.box SS.out ⟨hCs,hsg⟩);have K3:=Lib.hid (K.out.trans hk)
    replace h4:=(at_ne (o:=o+3) (x:=.int .i64 (fh':Nat)) (at_ne (o:=o+2) (x:=.int .i64 (fl':Nat)) h4 (by omega)) (by omega))
    replace h5:=(at_ne (o:=o+3) (x:=.int .i64 (fh':Nat)) (at_ne (o:=o+2) (x:=.int .i64 (fl':Nat)) h5 (by omega)) (by omega))
    replace h6:=(at_ne (o:=o+3) (x:=.int .i64 (fh':Nat)) (at_ne (o:=o+2) (x:=.int .i64 (fl':Nat)) h6 (by omega)) (by omega))
    replace h7:=(at_ne (o:=o+3) (x:=.int .i64 (fh':Nat)) (at_ne (o:=o+2) (x:=.int .i64 (fl':Nat)) h7 (by omega)) (by omega))
    clear hk ht hb hr P G FF K SS h2 h3;have cf:=cellAt S3.out 0;simp only [List.getElem?_toArray,List.getElem?_cons_zero] at cf;go_wp2_with fail
    go_still_tail 4,(by kernel_rfl)
    change wpList _ _ _ _ _ wx2.drew;have bd1:=Below.drew (Below.refl wx2.heap.size wx2);have P:=Lib.hid (D.more P3.out bd1 (fun _ h=>.inl h) (fun _ h=>h));have G:=Lib.hid (G3.out.grow bd1);have FF:=Lib.hid (F3.out.grow bd1);have SS:=Lib.hid (S3.out.grow bd1);have K:=Lib.hid (K3.out.trans ⟨bd1.os,bd1.tape,bd1.output,bd1.size,fun _ _=>rfl⟩);clear bd1 P3 G3 F3 S3 K3 cf;generalize World.drew wx2=wd3 at *;go_wp2_with fail;refine(span129_any D C s3 g (o+4) tl th 5 fb _ t wd3 P.out E0.out hCf hfg G.out FF.out h4 h5 le4 hi4 (by omega) (by omega)).mono ?_;intro e wx3 X
    cases hr:spanS stp s3 tl th 5 with
    | none =>
     rw [hr] at X;obtain⟨hk,he⟩:=X;dsimp only [Option.map] at he;subst he;simp only [err];exact⟨rfl,K.out.trans hk,by simp only [ticketS,HR0.out,HR1.out,HR2.out,hr]; rfl⟩
    | some p =>
     obtain⟨s4,tl',th'⟩:=p;rw [hr] at X;obtain⟨hk,he,ht,hb⟩:=X;dsimp only at he ht hb;subst he;have HR3:=Lib.hid hr;have hz4:sz s4≤80040:=by have:=spanS_sz D hr; omega
     have P4:=Lib.hid ht;have G4:=Lib.hid hb;have F4:=Lib.hid (hk.box FF.out ⟨hCf,hfg⟩);have S4:=Lib.hid (hk.box SS.out ⟨hCs,hsg⟩);have K4:=Lib.hid (K.out.trans hk)
     replace h6:=(at_ne (o:=o+5) (x:=.int .i64 (th':Nat)) (at_ne (o:=o+4) (x:=.int .i64 (tl':Nat)) h6 (by omega)) (by omega))
     replace h7:=(at_ne (o:=o+5) (x:=.int .i64 (th':Nat)) (at_ne (o:=o+4) (x:=.int .i64 (tl':Nat)) h7 (by omega)) (by omega))
     clear hk ht hb hr P G FF K SS h4 h5;have cf:=cellAt S4.out 0;simp only [List.getElem?_toArray,List.getElem?_cons_zero] at cf;go_wp2_with fail
     go_still_tail 4,(by kernel_rfl)
     change wpList _ _ _ _ _ wx3.drew;have bd1:=Below.drew (Below.refl wx3.heap.size wx3);have P:=Lib.hid (D.more P4.out bd1 (fun _ h=>.inl h) (fun _ h=>h));have G:=Lib.hid (G4.out.grow bd1);have FF:=Lib.hid (F4.out.grow bd1);have SS:=Lib.hid (S4.out.grow bd1);have K:=Lib.hid (K4.out.trans ⟨bd1.os,bd1.tape,bd1.output,bd1.size,fun _ _=>rfl⟩);clear bd1 P4 G4 F4 S4 K4 cf;generalize World.drew wx3=wd4 at *;go_wp2_with fail;refine(span129_any D C s4 g (o+6) dl dh 6 fb _ t wd4 P.out E0.out hCf hfg G.out FF.out h6 h7 le6 hi6 (by omega) (by omega)).mono ?_;intro e wx4 X
     cases hr:spanS stp s4 dl dh 6 with
     | none =>
      rw [hr] at X;obtain⟨hk,he⟩:=X;dsimp only [Option.map] at he;subst he;simp only [err];exact⟨rfl,K.out.trans hk,by simp only [ticketS,HR0.out,HR1.out,HR2.out,HR3.out,hr]; rfl⟩
     | some p =>
      obtain⟨s5,dl',dh'⟩:=p;rw [hr] at X;obtain⟨hk,he,ht,hb⟩:=X;dsimp only at he ht hb;subst he;have HR4:=Lib.hid hr;have hz5:sz s5≤80050:=by have:=spanS_sz D hr; omega
      have P5:=Lib.hid ht;have G5:=Lib.hid hb;have F5:=Lib.hid (hk.box FF.out ⟨hCf,hfg⟩);have S5:=Lib.hid (hk.box SS.out ⟨hCs,hsg⟩);have K5:=Lib.hid (K.out.trans hk);clear hk ht hb hr P G FF K SS h6 h7;have HF:=Lib.hid (show ticketS stp s c m fl fh tl th dl dh=some (s5,[c',m',fl',fh',tl',th',dl',dh']) from by simp only [ticketS,HR0.out,HR1.out,HR2.out,HR3.out,HR4.out]);go_wp2_with fail
      go_end0
      rw [HF.out];exact⟨K5.out,rfl,P5.out,G5.out⟩
end
end Go.Proofs.YtclbmlmlhiiaeaaGreatDoor
