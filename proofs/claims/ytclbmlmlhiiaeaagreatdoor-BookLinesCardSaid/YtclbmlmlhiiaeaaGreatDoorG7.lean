/- Walks: wages, by whoever writes or reads them. -/
import Derived.Test.YtclbmlmlhiiaeaaGreatDoorG6
import Derived.Laws.EntriesVeiled
namespace Go.Proofs.YtclbmlmlhiiaeaaGreatDoor
open Go.RowKit
section
variable {σ:Type} {F:FuncId} {T:TypeId} {rv:Value} {base:Nat} {Tp:(Nat→Prop)→World→σ→Prop} {stp:σ→Nat→Nat→Option (σ×Nat)} {sz:σ→Nat}
structure WagesV where
 cr:Nat
 sn:Nat
 S:Nat→Nat→Nat
 tn:Nat
 T:Nat→Nat→Nat
def wagesS(stp:σ→Nat→Nat→Option (σ×Nat))(s:σ)(x:WagesV):Option (σ×WagesV) :=
 match stp s x.cr 3 with
 | none=>none
 | some (s1,cr)=>match sevS stp (seamE stp) s1 x.sn x.S 2 with
  | none=>none
  | some (s2,sn,S)=>match sevS stp (ticketE stp) s2 x.tn x.T 3 with
   | none=>none
   | some (s3,tn,T)=>some (s3,⟨cr,sn,S,tn,T⟩)
structure OwnW (C:Nat→Prop) (W:World) (bw:Nat) (sa ta:Option Addr) (sc tc:Nat) (x:WagesV):Prop where
 box:BoxAt W bw #[.int .i64 x.cr,.slice sa x.sn sc,.slice ta x.tn tc] 38
 cb:C bw
 ss:WRow C W 126 2 sa x.sn x.S
 tt:WRow C W 130 8 ta x.tn x.T
 sb:0<x.sn→blk sa≠bw
 tb:0<x.tn→blk ta≠bw
 st:0<x.sn→0<x.tn→blk sa≠blk ta
 sc:x.sn≤sc
 tc:x.tn≤tc
def WagesPost(Tp:(Nat→Prop)→World→σ→Prop)(C:Nat→Prop)(r:Option (σ×WagesV))(bw:Nat)(sa ta:Option Addr)(sn tn:Nat)(w:World)(e:Ending)(w':World):Prop :=
 Keep (fun k=>C k∧k≠bw∧(0<sn→k≠blk sa)∧(0<tn→k≠blk ta)) w w'∧match r with
 | none=>e=err 8
 | some (s,x)=>e = .returned (.tuple #[]) ∧ ∃ (C2:Nat→Prop) (sa' ta':Option Addr) (sc' tc':Nat),(∀ k,C k→C2 k)∧Tp C2 w' s∧OwnW C2 w' bw sa' ta' sc' tc' x
theorem sevS_bd(D:Doer σ F T rv base Tp stp sz){el:σ→(Nat→Nat)→Option (σ×List Nat)}(hel:∀ {s s':σ} {x:Nat→Nat} {l:List Nat},el s x=some (s',l)→sz s'≤sz s+30){s s':σ}{n n' m:Nat}{X X':Nat→Nat→Nat}(hm:m≤3)(hn:n≤100)(h:sevS stp el s n X m=some (s',n',X')):sz s'≤sz s+3003∧n'≤100:=by
 unfold sevS at h
 cases h1:stp s n m with
 | none=>rw [h1] at h; cases h
 | some p =>
  obtain⟨s1,a⟩:=p;rw [h1] at h;dsimp only at h;have hb:=D.bd h1;have hz:=D.szs h1
  have ha:a≤100:=by
   rcases hb with h | h
   ·have:2 ^ m≤2 ^ 3:=Nat.pow_le_pow_right (by omega) hm
    omega
   ·omega
  cases h2:goS el s1 (if a=n then X else fun _ _=>0) a with
  | none=>rw [h2] at h; cases h
  | some q =>
   obtain⟨s2,Y⟩:=q;rw [h2] at h
   cases h
   have:=goS_sz (sz:=sz) hel h2;omega
set_option maxRecDepth 100000 in
set_option maxHeartbeats 8000000 in
theorem wages69_any(D:Doer σ F T rv base Tp stp sz)(C:Nat→Prop)(s:σ)(bw:Nat)(sa ta:Option Addr)(sc tc:Nat)(x:WagesV)(w:World)(hp:Tp C w s)(ho:OwnW C w bw sa ta sc tc x)(hpre:∀ i,i<x.tn→TPre (x.T i))(hsn:x.sn≤100)(htn:x.tn≤100)(hz:sz s≤9000) :
  Calls Tryz.prog 69 #[bp bw,.iface T rv] w (WagesPost Tp C (wagesS stp s x) bw sa ta x.sn x.tn w):=by
 have hmeth:=D.meth;have hfn:=D.fn;have hahead:=D.ahead;have hlt:=D.lt hp;have HLT:=Lib.hid hlt;have HO:=Lib.hid ho;have HP:=Lib.hid hp;have HPRE:=Lib.hid hpre;have hbwl:=hlt bw ho.cb;clear hp ho hlt hpre;go_enter Tryz.func69,Tryz.ntmps69;go_upto_region 2 with (fail)
 generalize hW:World.alloc _ _=w1;obtain⟨f0,g0,hs1,B1⟩:=blocks2 hW;obtain⟨C1,eC⟩:∃ C1:Nat→Prop,C1=fun k=>C k∨k=w.heap.size∨k=w.heap.size+1:=⟨_,rfl⟩
 have P1:=Lib.hid (D.more (C':=C1) HP.out B1 (fun k hk=>by rw [eC] at hk; rcases hk with h | h | h; exact .inl h; exact .inr (by omega); exact .inr (by omega)) (fun k hk=>by rw [eC]; exact .inl hk));have HCS:=Lib.hid (show(∀ k,C k→C1 k)∧C1 w.heap.size∧C1 (w.heap.size+1) from⟨fun k hk=>by rw [eC]; exact .inl hk,by rw [eC]; exact .inr (.inl rfl),by rw [eC]; exact .inr (.inr rfl)⟩);have K1:=Lib.hid (Keep.of_below B1 HLT.out);have F1:=Lib.hid (show BoxAt w1 w.heap.size #[.iface T rv] 185 from f0);have S1:=Lib.hid (show BoxAt w1 (w.heap.size+1) #[.func (.func 129) #[] #[bp w.heap.size]] 189 from g0);have W1:=Lib.hid (HO.out.box.grow B1);clear eC hW f0 g0 hs1;have hnb:w.heap.size≠bw∧w.heap.size+1≠bw:=⟨by omega,by omega⟩
 have HRS:=Lib.hid (show WRow C1 w1 126 2 sa x.sn x.S from fun h0=>by
  obtain⟨g,cur,h1,h2,h3,h4⟩:=HO.out.ss h0
  exact⟨g,cur,h1,HCS.out.1 _ h2,h3.grow B1,h4⟩)
 have HRT:=Lib.hid (show WRow C1 w1 130 8 ta x.tn x.T from fun h0=>by
  obtain⟨g,cur,h1,h2,h3,h4⟩:=HO.out.tt h0
  exact⟨g,cur,h1,HCS.out.1 _ h2,h3.grow B1,h4⟩)
 have hsl:0<x.sn→blk sa<w.heap.size:=fun h0=>by
  obtain⟨g,cur,h1,h2,-⟩:=HO.out.ss h0;rw [h1];exact HLT.out g h2
 have htl:0<x.tn→blk ta<w.heap.size:=fun h0=>by
  obtain⟨g,cur,h1,h2,-⟩:=HO.out.tt h0;rw [h1];exact HLT.out g h2
 have HSL:=Lib.hid (And.intro hsl htl);clear B1 hsl htl
 -- the crews
 have cf:=cellAt F1.out 0;simp only [List.getElem?_toArray,List.getElem?_cons_zero] at cf;go_wp2_with fail
 go_still_tail 7,(by kernel_rfl)
 change wpList _ _ _ _ _ w1.drew;have bd1:=Below.drew (Below.refl w1.heap.size w1);have P2:=Lib.hid (D.more P1.out bd1 (fun _ h=>.inl h) (fun _ h=>h));have W2:=Lib.hid (W1.out.grow bd1);have F2:=Lib.hid (F1.out.grow bd1);have S2:=Lib.hid (S1.out.grow bd1);have K2:=Lib.hid (K1.out.trans ⟨bd1.os,bd1.tape,bd1.output,bd1.size,fun _ _=>rfl⟩)
 have HRS2:=Lib.hid (show WRow C1 w1.drew 126 2 sa x.sn x.S from fun h0=>by
  obtain⟨g,cur,h1,h2,h3,h4⟩:=HRS.out h0
  exact⟨g,cur,h1,h2,h3.grow bd1,h4⟩)
 have HRT2:=Lib.hid (show WRow C1 w1.drew 130 8 ta x.tn x.T from fun h0=>by
  obtain⟨g,cur,h1,h2,h3,h4⟩:=HRT.out h0
  exact⟨g,cur,h1,h2,h3.grow bd1,h4⟩)
 clear bd1 P1 W1 F1 S1 K1 HRS HRT cf;generalize World.drew w1=w2 at *;go_wp2_with fail;refine(D.run (m:=3) (v:=x.cr) P2.out (HCS.out.1 _ HO.out.cb) W2.out rfl (by omega) (by omega)).mono ?_;intro e w3 hpost;have Y:=hpost.cell W2.out (HCS.out.1 _ HO.out.cb);clear hpost;have KN:=Lib.hid (show ∀ k,(C k∧k≠bw∧(0<x.sn→k≠blk sa)∧(0<x.tn→k≠blk ta))→(C1 k∧k≠bw) from fun k h=>⟨HCS.out.1 k h.1,h.2.1⟩)
 cases hr:stp s x.cr 3 with
 | none =>
  rw [hr] at Y;obtain⟨hk,he⟩:=Y;dsimp only [Option.map] at he;subst he;simp only [err];exact⟨rfl,(K2.out.mono fun k h=>h.1).trans (hk.mono KN.out),by simp only [wagesS,hr]; rfl⟩
 | some p =>
  obtain⟨s1,cr'⟩:=p;rw [hr] at Y;obtain⟨hk,he,ht,hb⟩:=Y;dsimp only at he ht hb;subst he;have HR1:=Lib.hid hr;have hz1:sz s1≤9003:=by have:=D.szs hr; omega
  have P3:=Lib.hid ht;have W3:=Lib.hid (show BoxAt w3 bw #[.int .i64 cr',.slice sa x.sn sc,.slice ta x.tn tc] 38 from hb);have F3:=Lib.hid (hk.box F2.out ⟨HCS.out.2.1,hnb.1⟩);have S3:=Lib.hid (hk.box S2.out ⟨HCS.out.2.2,hnb.2⟩);have K3:=Lib.hid ((K2.out.mono fun k (h:C k∧k≠bw∧(0<x.sn→k≠blk sa)∧(0<x.tn→k≠blk ta))=>h.1).trans (hk.mono KN.out))
  have HRS3:=Lib.hid (show WRow C1 w3 126 2 sa x.sn x.S from fun h0=>by
   obtain⟨g,cur,h1,h2,h3,h4⟩:=HRS2.out h0
   exact⟨g,cur,h1,h2,hk.box h3 ⟨h2,fun e=>HO.out.sb h0 (by rw [h1]; exact e)⟩,h4⟩)
  have HRT3:=Lib.hid (show WRow C1 w3 130 8 ta x.tn x.T from fun h0=>by
   obtain⟨g,cur,h1,h2,h3,h4⟩:=HRT2.out h0
   exact⟨g,cur,h1,h2,hk.box h3 ⟨h2,fun e=>HO.out.tb h0 (by rw [h1]; exact e)⟩,h4⟩)
  clear hk ht hb hr P2 W2 F2 S2 K2 HRS2 HRT2
  -- the seams
  have cf:=cellAt F3.out 0;simp only [List.getElem?_toArray,List.getElem?_cons_zero] at cf;go_wp2_with fail
  go_still_tail 5,(by kernel_rfl)
  change wpList _ _ _ _ _ w3.drew;have bd1:=Below.drew (Below.refl w3.heap.size w3);have P4:=Lib.hid (D.more P3.out bd1 (fun _ h=>.inl h) (fun _ h=>h));have W4:=Lib.hid (W3.out.grow bd1);have F4:=Lib.hid (F3.out.grow bd1);have S4:=Lib.hid (S3.out.grow bd1);have K4:=Lib.hid (K3.out.trans ⟨bd1.os,bd1.tape,bd1.output,bd1.size,fun _ _=>rfl⟩)
  have HRS4:=Lib.hid (show WRow C1 w3.drew 126 2 sa x.sn x.S from fun h0=>by
   obtain⟨g,cur,h1,h2,h3,h4⟩:=HRS3.out h0
   exact⟨g,cur,h1,h2,h3.grow bd1,h4⟩)
  have HRT4:=Lib.hid (show WRow C1 w3.drew 130 8 ta x.tn x.T from fun h0=>by
   obtain⟨g,cur,h1,h2,h3,h4⟩:=HRT3.out h0
   exact⟨g,cur,h1,h2,h3.grow bd1,h4⟩)
  clear bd1 P3 W3 F3 S3 K3 HRS3 HRT3 cf;generalize World.drew w3=w4 at *;go_wp2_with fail;refine(several130_any D C1 s1 bw 1 x.sn sc 2 w.heap.size sa _ 38 x.S w4 P4.out (HCS.out.1 _ HO.out.cb) HCS.out.2.1 hnb.1 W4.out rfl F4.out HRS4.out (fun h0=>⟨HO.out.sb h0,by have:=HSL.out.1 h0; omega⟩) hsn HO.out.sc (by omega) (by omega)).mono ?_;intro e w5 Y;have KN2:=Lib.hid (show ∀ k,(C k∧k≠bw∧(0<x.sn→k≠blk sa)∧(0<x.tn→k≠blk ta))→(C1 k∧k≠bw∧(0<x.sn→k≠blk sa)) from fun k h=>⟨HCS.out.1 k h.1,h.2.1,h.2.2.1⟩)
  cases hr:sevS stp (seamE stp) s1 x.sn x.S 2 with
  | none =>
   rw [hr] at Y;obtain⟨hk,he⟩:=Y;dsimp only at he;subst he;simp only [err];exact⟨rfl,K4.out.trans (hk.mono KN2.out),by simp only [wagesS,HR1.out,hr]; rfl⟩
  | some p =>
   obtain⟨s2,sn',S'⟩:=p;rw [hr] at Y;obtain⟨hk,he,C2,sa',sc',h12,ht,hb,hrow,hcap',hbl⟩:=Y;subst he;have HR2:=Lib.hid hr;obtain⟨hz2',hsn'⟩:=sevS_bd D (fun h=>seamE_sz D h) (by omega) hsn hr;have hz2:sz s2≤12006:=by omega
   have hsz4:w.heap.size≤w4.heap.size:=K4.out.size;have P5:=Lib.hid ht;have W5:=Lib.hid (show BoxAt w5 bw #[.int .i64 cr',.slice sa' sn' sc',.slice ta x.tn tc] 38 from hb);have F5:=Lib.hid (hk.box F4.out ⟨HCS.out.2.1,hnb.1,fun h0 e=>by have:=HSL.out.1 h0; omega⟩);have S5:=Lib.hid (hk.box S4.out ⟨HCS.out.2.2,hnb.2,fun h0 e=>by have:=HSL.out.1 h0; omega⟩);have K5:=Lib.hid (K4.out.trans (hk.mono KN2.out));have HRS5:=Lib.hid hrow
   have HRT5:=Lib.hid (show WRow C2 w5 130 8 ta x.tn x.T from fun h0=>by
    obtain⟨g,cur,h1,h2,h3,h4⟩:=HRT4.out h0;refine⟨g,cur,h1,h12 _ h2,hk.box h3 ⟨h2,fun e=>HO.out.tb h0 (by rw [h1]; exact e),fun h5 e=>HO.out.st h5 h0 ?_⟩,h4⟩;rw [h1]
    exact e.symm)
   have H12:=Lib.hid h12;have HBL:=Lib.hid hbl;clear hk ht hb hr hrow h12 hbl P4 W4 F4 S4 K4 HRS4 HRT4 hz2'
   -- the tickets
   have cf:=cellAt F5.out 0;have cs0:=cellAt S5.out 0;simp only [List.getElem?_toArray,List.getElem?_cons_zero] at cf;go_wp2_with fail
   go_still_tail 5,(by kernel_rfl)
   change wpList _ _ _ _ _ w5.drew;have bd1:=Below.drew (Below.refl w5.heap.size w5);have P6:=Lib.hid (D.more P5.out bd1 (fun _ h=>.inl h) (fun _ h=>h));have W6:=Lib.hid (W5.out.grow bd1);have F6:=Lib.hid (F5.out.grow bd1);have S6:=Lib.hid (S5.out.grow bd1);have K6:=Lib.hid (K5.out.trans ⟨bd1.os,bd1.tape,bd1.output,bd1.size,fun _ _=>rfl⟩)
   have HRS6:=Lib.hid (show WRow C2 w5.drew 126 2 sa' sn' S' from fun h0=>by
    obtain⟨g,cur,h1,h2,h3,h4⟩:=HRS5.out h0
    exact⟨g,cur,h1,h2,h3.grow bd1,h4⟩)
   have HRT6:=Lib.hid (show WRow C2 w5.drew 130 8 ta x.tn x.T from fun h0=>by
    obtain⟨g,cur,h1,h2,h3,h4⟩:=HRT5.out h0
    exact⟨g,cur,h1,h2,h3.grow bd1,h4⟩)
   clear bd1 P5 W5 F5 S5 K5 HRS5 HRT5 cf cs0;generalize World.drew w5=w6 at *;go_wp2_with fail;refine(several132_any D C2 s2 bw 2 x.tn tc 3 w.heap.size (w.heap.size+1) ta _ 38 x.T w6 P6.out (H12.out _ (HCS.out.1 _ HO.out.cb)) (H12.out _ HCS.out.2.1) hnb.1 W6.out rfl F6.out (H12.out _ HCS.out.2.2) hnb.2 S6.out HRT6.out (fun h0=>⟨HO.out.tb h0,by have:=HSL.out.2 h0; omega,by have:=HSL.out.2 h0; omega⟩) HPRE.out htn HO.out.tc (by omega) (by omega)).mono ?_;intro e w7 Y;have KN3:=Lib.hid (show ∀ k,(C k∧k≠bw∧(0<x.sn→k≠blk sa)∧(0<x.tn→k≠blk ta))→(C2 k∧k≠bw∧(0<x.tn→k≠blk ta)) from fun k h=>⟨H12.out k (HCS.out.1 k h.1),h.2.1,h.2.2.2⟩)
   cases hr:sevS stp (ticketE stp) s2 x.tn x.T 3 with
   | none =>
    rw [hr] at Y;obtain⟨hk,he⟩:=Y;dsimp only at he;subst he;simp only [err];exact⟨rfl,K6.out.trans (hk.mono KN3.out),by simp only [wagesS,HR1.out,HR2.out,hr]; rfl⟩
   | some p =>
    obtain⟨s3,tn',T'⟩:=p;rw [hr] at Y;obtain⟨hk,he,C3,ta',tc',h23,ht,hb,hrow,hcap2,hbl⟩:=Y;subst he;have HF:=Lib.hid (show wagesS stp s x=some (s3,⟨cr',sn',S',tn',T'⟩) from by simp only [wagesS,HR1.out,HR2.out,hr]);have hsz6:w.heap.size≤w6.heap.size:=K6.out.size;have hl6:=D.lt P6.out
    have HX:0<sn'→blk sa'≠bw∧(0<x.tn→blk sa'≠blk ta)∧blk sa'<w6.heap.size:=fun h0=>by
     obtain⟨g,cur,h1,h2,-⟩:=HRS6.out h0;have h3:blk sa'<w6.heap.size:=by rw [h1]; exact hl6 g h2
     rcases HBL.out h0 with ⟨h4,h5⟩ | h4
     ·rw [h4]
      exact⟨HO.out.sb h5,fun h6=>HO.out.st h5 h6,by rw [← h4]; exact h3⟩
     ·exact⟨by omega,fun h6=>by have:=HSL.out.2 h6; omega,h3⟩
    have hS:WRow C3 w7 126 2 sa' sn' S':=fun h0=>by
     obtain⟨g,cur,h1,h2,h3,h4⟩:=HRS6.out h0;have hx:=HX h0;rw [h1] at hx;exact⟨g,cur,h1,h23 _ h2,hk.box h3 ⟨h2,hx.1,hx.2.1⟩,h4⟩
    have HK:=Lib.hid (K6.out.trans (hk.mono KN3.out))
    have HOW:=Lib.hid (show OwnW C3 w7 bw sa' ta' sc' tc' ⟨cr',sn',S',tn',T'⟩ from
     ⟨hb,h23 _ (H12.out _ (HCS.out.1 _ HO.out.cb)),hS,hrow,fun h0=>(HX h0).1,fun h0=>by
      rcases hbl h0 with ⟨h4,h5⟩ | h4
      ·rw [h4]; exact HO.out.tb h5
      ·omega,fun h0 h1=>by
      rcases hbl h1 with ⟨h4,h5⟩ | h4
      ·rw [h4]; exact(HX h0).2.1 h5
      ·have:=(HX h0).2.2; omega,hcap',hcap2⟩)
    have HT:=Lib.hid ht;have HC:=Lib.hid (show ∀ k,C k→C3 k from fun k h=>h23 _ (H12.out _ (HCS.out.1 k h)));clear hk ht hb hr hrow h23 hbl HX hS hl6 P6 W6 F6 S6 K6 HRS6 HRT6;go_wp2_with fail
    go_end0
    rw [HF.out];exact⟨HK.out,rfl,C3,sa',ta',sc',tc',HC.out,HT.out,HOW.out⟩
end
end Go.Proofs.YtclbmlmlhiiaeaaGreatDoor
