/- Walks: ReadWages. -/
import Derived.Test.YtclbmlmlhiiaeaaGreatDoorQD2
import Derived.Test.YtclbmlmlhiiaeaaGreatDoorQU1
import Derived.Test.YtclbmlmlhiiaeaaGreatDoorQA7
namespace Go.Proofs.YtclbmlmlhiiaeaaGreatDoor
open Go.RowKit
def contN(L:Nat):Option Nat:=(List.range (L+1)).find? fun n=>decide (0<n)&&decide (szB n=L)
theorem contN_some{n:Nat}(h:0<n):contN (szB n)=some n:=by
 unfold contN;rw [List.find?_range_eq_some];refine⟨by simp [h],by simp; unfold szB; omega,fun j hj=>?_⟩;simp;exact .inr (fun e=>by have:=szB_inj e; omega)
theorem contN_none{L:Nat}(h:∀ n,0<n→szB n≠L):contN L=none:=by
 unfold contN;rw [List.find?_eq_none];intro n _;simp;exact h n
def zeroW:WagesV:=⟨0,0,fun _ _=>0,0,fun _ _=>0⟩
def castW(X:Nat→Nat→Nat):Nat→Nat→Int:=fun i j=>(X i j:Nat)
def wagesVB(x:WagesV):Bool:=wagesB x.cr (castW x.S) x.sn (castW x.T) x.tn
def bitsW(n:Nat)(g:Nat→Nat):Option ((List Bool×Nat)×WagesV):=wagesS (fun s _ m=>eyeS s m) ((List.range (8 * n)).map (unpB g),0) zeroW
def readW(L:Nat)(g:Nat→Nat):Int×WagesV :=
 if 1000<L then(3,zeroW) else match contN L with
 | none=>(8,zeroW)
 | some n=>if eqB (szB n) L (sealB g n) g then match bitsW n g with
   | none=>(8,zeroW)
   | some (_,x)=>if wagesVB x&&eqB (szB (bookN x)) L (bookB x) g then(0,x) else(8,zeroW)
  else(10,zeroW)
def ReadWPost(R:Int×WagesV)(w:World)(e:Ending)(w':World):Prop :=
 Below w.heap.size w w' ∧ ∃ sa sc ta tc,e = .returned (.tuple #[.agg #[.int .i64 R.2.cr,.slice sa R.2.sn sc,.slice ta R.2.tn tc],.int .i64 R.1])∧NumsAt w' sa R.2.sn 2 (castW R.2.S)∧NumsAt w' ta R.2.tn 8 (castW R.2.T)
theorem ReadWPost.no{R:Int×WagesV}{w w':World}{x:Int}(hR:R=(x,zeroW))(hb:Below w.heap.size w w'):ReadWPost R w (.returned (.tuple #[.agg #[.int .i64 0,.slice none 0 0,.slice none 0 0],.int .i64 x])) w':=by
 subst hR;exact⟨hb,none,0,none,0,rfl,row_none _ _ _,row_none _ _ _⟩
theorem bitsW_small{n:Nat}{g:Nat→Nat}{s:List Bool×Nat}{x:WagesV}(h:bitsW n g=some (s,x)):x.sn≤100∧x.tn≤100:=by
 unfold bitsW wagesS at h
 split at h
 ·cases h
 ·rename_i s1 cr h1
  split at h
  ·cases h
  ·rename_i s2 sn S h2
   split at h
   ·cases h
   ·rename_i s3 tn T h3
    injection h with h
    injection h with _ h
    subst h;exact⟨(sevS_bd (eyeDoer 0 0) (fun h=>seamE_sz (eyeDoer 0 0) h) (by omega) (by show 0≤100; omega) h2).2,(sevS_bd (eyeDoer 0 0) (fun h=>ticketE_sz (eyeDoer 0 0) h) (by omega) (by show 0≤100; omega) h3).2⟩
structure RW (w:World) (oa:Option Addr) (L:Nat) (g:Nat→Nat) (W:World):Prop where
 bel:Below w.heap.size w W
 l:BytesAt W oa L g
 a:BoxAt W w.heap.size #[.int .i64 0,.slice none 0 0,.slice none 0 0] 38
 e:BoxAt W (w.heap.size+1) #[.int .i64 0] 41
 lo:0<L→blk oa<w.heap.size
theorem RW.grow{w W W':World}{oa:Option Addr}{L:Nat}{g:Nat→Nat}(h:RW w oa L g W)(hb:Below W.heap.size W W'):RW w oa L g W':=⟨h.bel.next hb,h.l.grow hb,h.a.grow hb,h.e.grow hb,h.lo⟩
theorem bits_getD(n:Nat)(g:Nat→Nat){i:Nat}(h:i<8 * n):((List.range (8 * n)).map (unpB g)).getD i false=unpB g i:=by
 rw [List.getD_eq_getElem?_getD];simp [h]
theorem WRow.nums{C:Nat→Prop}{W:World}{E:TypeId}{z:Nat}{oa:Option Addr}{n:Nat}{X:Nat→Nat→Nat}(h:WRow C W E z oa n X)(hn:n≤maxLen):NumsAt W oa n z (castW X):=by
 refine⟨fun h0=>?_,fun h0=>?_,hn,fun i hi j hj=>?_⟩
 ·obtain⟨g,cur,rfl,_⟩:=h h0; rfl
 ·obtain⟨g,cur,rfl,_,h3,_⟩:=h h0; exact lt_of_heap h3
 ·obtain⟨g,cur,rfl,_,h3,h4⟩:=h (by omega)
  show W.cell? ⟨g,0+i * z+j,none⟩=_
  rw [Nat.zero_add,cellAt h3];exact h4 i hi j hj
theorem WRow.blk_ne{C:Nat→Prop}{W:World}{E t:TypeId}{z:Nat}{oa:Option Addr}{n b:Nat}{X:Nat→Nat→Nat}{y:Array Value}(h:WRow C W E z oa n X)(hb:BoxAt W b y t)(ht:t≠E)(h0:0<n):blk oa≠b:=by
 obtain⟨g,cur,rfl,_,h3,_⟩:=h h0;intro e;have e':g=b:=e;subst e';have hb':W.heap[g]? = _:=hb;rw [show W.heap[g]? = _ from h3] at hb'
 cases hb'
 exact ht rfl
set_option maxRecDepth 100000 in
set_option maxHeartbeats 8000000 in
theorem readWages23_any(oa:Option Addr)(L nc:Nat)(g:Nat→Nat)(w:World)(hg:BytesAt w oa L g)(h8:∀ i,g i<256)(hcap:L≤nc) :
  Calls Tryz.prog 23 #[.slice oa L nc] w (ReadWPost (readW L g) w):=by
 have I0:=Lib.hid (show RW w oa L g ((w.alloc (.cells #[.int .i64 0,.slice none 0 0,.slice none 0 0] 38)).alloc (.cells #[.int .i64 0] 41)) from by
  obtain⟨z0,z1,-,hB⟩:=blocks2 (show(w.alloc (.cells #[.int .i64 0,.slice none 0 0,.slice none 0 0] 38)).alloc (.cells #[.int .i64 0] 41)=_ from rfl)
  exact⟨hB,hg.grow hB,z0,z1,hg.old⟩)
 have HL:=Lib.hid hg.small;have H8:=Lib.hid h8;clear hg h8
 go_enter_defers Tryz.func23,Tryz.ntmps23
 go_upto_region 2 with (fail)
 generalize World.alloc (World.alloc w _) _=W at *;go_wp2_with (go_at_call 66; refine(content_any L _ HL.out).mono ?_);rintro e w1 ⟨rfl,h⟩;have r0:=cellAt I0.out.e 0;have a0:=cellAt I0.out.a 0;have a1:=cellAt I0.out.a 1;have a2:=cellAt I0.out.a 2;simp only [List.getElem?_toArray,List.getElem?_cons_zero,List.getElem?_cons_succ] at r0 a0 a1 a2;rcases h with ⟨h1,rfl⟩ | ⟨h1,⟨n,hn0,hn,rfl⟩ | ⟨hno,rfl⟩⟩
 ·have HR:=Lib.hid (show readW L g=(3,zeroW) from by unfold readW; rw [if_pos h1])
  clear h1;unfold err;refine leaves_cons (f:=52) (args:=#[bp (w.heap.size+1)]) (by simp) (by simp [go_sem]) ?_;refine(answer_panicking _ 0 3 [] _ I0.out.e).mono ?_;rintro e u' w'' ⟨rfl,rfl,rfl⟩;simp [Leaves,settle,results,Tryz.results23,go_sem,r0,a0,a1,a2];exact ReadWPost.no HR.out (I0.out.bel.setCell (by dsimp only; omega) _)
 ·have HN:=Lib.hid hn
  have hnl:n≤L:=by unfold szB at hn; omega
  have hL0:0<L:=by unfold szB at hn; omega
  have HC:=Lib.hid (show contN L=some n from by rw [← hn]; exact contN_some hn0);have H1:=Lib.hid h1;have hop:=I0.out.l.plain hL0;have s1:=fun W=>run_head (n:=L) (c:=nc) (h:=n) hop (by omega) (by omega) W;have C3:=Lib.hid (sealed_any oa n nc g w1 (I0.out.l.head hnl) H8.out hn0 (by omega));have hn1:n≤1000:=by omega
  clear hn h1 hop;go_wp2_with (go_at_call 68; refine C3.out.mono ?_);rintro e w2 ⟨qa,qc,rfl,hq,hge,hcap2,hb2⟩;have I2:=Lib.hid (I0.out.grow hb2);have C4:=Lib.hid (equal_any qa oa (szB n) qc L nc (sealB g n) g w2 hq I2.out.l (fun i _=>seal_lt H8.out n i) (fun i _=>H8.out i));clear hq hge hcap2 hb2 C3 I0 r0 a0 a1 a2;go_wp2_with (go_at_call 67; refine C4.out.mono ?_);rintro e w' ⟨rfl,rfl⟩;have r0:=cellAt I2.out.e 0;have a0:=cellAt I2.out.a 0;have a1:=cellAt I2.out.a 1;have a2:=cellAt I2.out.a 2;simp only [List.getElem?_toArray,List.getElem?_cons_zero,List.getElem?_cons_succ] at r0 a0 a1 a2
  cases hE:eqB (szB n) L (sealB g n) g with
  | false =>
   have HR:=Lib.hid (show readW L g=(10,zeroW) from by unfold readW; rw [if_neg (by have:=H1.out; omega),HC.out]; dsimp only; rw [hE]; rfl);clear hE C4;go_wp2_with (go_at_call 62; refine(ask_false _ _).mono ?_);rintro e w' ⟨rfl,rfl⟩;refine leaves_cons (f:=52) (args:=#[bp (w.heap.size+1)]) (by simp) (by simp [go_sem]) ?_;refine(answer_panicking _ 0 10 [] _ I2.out.e).mono ?_;rintro e u' w'' ⟨rfl,rfl,rfl⟩;simp [Leaves,settle,results,Tryz.results23,go_sem,r0,a0,a1,a2];exact ReadWPost.no HR.out (I2.out.bel.setCell (by dsimp only; omega) _)
  | true =>
   have HR:=Lib.hid (show readW L g=(match bitsW n g with
    | none=>(8,zeroW)
    | some (_,x)=>if wagesVB x&&eqB (szB (bookN x)) L (bookB x) g then(0,x) else(8,zeroW)) from by unfold readW; rw [if_neg (by have:=H1.out; omega),HC.out]; dsimp only; rw [hE]; rfl)
   clear hE C4;go_wp2_with (go_at_call 62; refine(ask_true _ _).mono ?_);rintro e w9 ⟨rfl,rfl⟩;obtain⟨w3,rfl⟩:∃ w3,w3=w':=⟨_,rfl⟩
   have hal:=(Below.refl w3.heap.size w3).alloc (Nat.le_refl _) (.cells #[.int .i64 0,.slice none 0 0,.slice none 0 0] 38);have I3:=Lib.hid (I2.out.grow hal);have O3:=Lib.hid (show BoxAt (w3.alloc (.cells #[.int .i64 0,.slice none 0 0,.slice none 0 0] 38)) w3.heap.size #[.int .i64 0,.slice none 0 0,.slice none 0 0] 38 from heap_alloc_new _ _);have C5:=Lib.hid (unpacked_any oa n nc g _ (I3.out.l.head hnl) H8.out (by omega));have hwo:w.heap.size+2≤w3.heap.size:=lt_of_heap I2.out.e;clear hal I2 r0 a0 a1 a2;go_wp2_with fail;generalize World.alloc w3 _=w4 at *;generalize w3.heap.size=ob at *;refine C5.out.mono ?_;rintro e w5 ⟨ua,uc,rfl,hu,huge,hb5⟩;have I5:=Lib.hid (I3.out.grow hb5);have O5:=Lib.hid (O3.out.grow hb5);have hal:=(Below.refl w5.heap.size w5).alloc (Nat.le_refl _) (.cells #[.slice ua (8 * n) uc,.int .i64 0] 118);have I6:=Lib.hid (I5.out.grow hal);have O6:=Lib.hid (O5.out.grow hal);have T6:=Lib.hid (show BoxAt (w5.alloc (.cells #[.slice ua (8 * n) uc,.int .i64 0] 118)) w5.heap.size #[.slice ua (8 * n) uc,.int .i64 0] 118 from heap_alloc_new _ _);have U6:=Lib.hid (hu.grow hal);have hlo5:=lt_of_heap O5.out;have hlo3:=lt_of_heap O3.out;have HUL:=Lib.hid (fun h0=>(⟨hu.old h0,Nat.lt_of_lt_of_le hlo3 (huge (by omega))⟩:blk ua<w5.heap.size∧ob<blk ua));clear hal hu huge hb5 I3 O3 I5 O5 C5;go_wp2_with fail;have hsz6:w5.heap.size<(w5.alloc (.cells #[.slice ua (8 * n) uc,.int .i64 0] 118)).heap.size:=lt_of_heap T6.out;generalize World.alloc w5 _=w6 at *;generalize w5.heap.size=tb at *;have hll:((List.range (8 * n)).map (unpB g)).length=8 * n:=by simp
   have HE:=Lib.hid (show EyeAt tb w.heap.size (fun k=>k<w6.heap.size∧k≠tb∧(0<n→k≠blk ua)) w6 ((List.range (8 * n)).map (unpB g),0) from
    ⟨by omega,fun h=>h.2.1 rfl,fun k h=>h.1,fun k h=>⟨by omega,by omega,fun h0=>by have:=HUL.out (by omega); omega⟩,Nat.zero_le _,ua,uc,by rw [hll]; exact T6.out,by
     rw [hll];exact⟨U6.out.plain,U6.out.old,U6.out.small,fun i hi j hj=>(U6.out.cells i hi j hj).trans (congrArg (fun b=>some (Value.bool b)) (bits_getD n g hi).symm)⟩,fun h0=>by
     rw [hll] at h0
     exact⟨fun hc=>hc.2.2 (by omega) rfl,by have:=HUL.out h0; omega⟩⟩)
   have HO:=Lib.hid (show OwnW (fun k=>k<w6.heap.size∧k≠tb∧(0<n→k≠blk ua)) w6 ob none none 0 0 zeroW from
    ⟨O6.out,⟨by omega,by omega,fun h0=>by have:=HUL.out (by omega); omega⟩,fun h=>(by cases h),fun h=>(by cases h),fun h=>(by cases h),fun h=>(by cases h),fun h=>(by cases h),Nat.le_refl _,Nat.le_refl _⟩)
   have C6:=Lib.hid (wages69_any (eyeDoer tb w.heap.size) _ ((List.range (8 * n)).map (unpB g),0) ob none none 0 0 zeroW w6 HE.out HO.out (fun i h=>by cases h) (Nat.zero_le _) (Nat.zero_le _) (by rw [hll]; omega));clear hll HE HO U6 T6 O6;have e0:(wagesS (fun s _ m=>eyeS s m) ((List.range (8 * n)).map (unpB g),0) zeroW)=bitsW n g:=rfl;rw [e0] at C6;clear e0;refine C6.out.mono ?_;intro e w7 hpost;obtain⟨hk7,hh⟩:=hpost;have B7:=Lib.hid (Keep.to_below hk7 (B:=ob) (fun k hk=>⟨⟨by omega,by omega,fun h0=>by have:=HUL.out (by omega); omega⟩,by omega,fun h=>(by cases h),fun h=>(by cases h)⟩));have A7:=Lib.hid (show BoxAt w7 w.heap.size #[.int .i64 0,.slice none 0 0,.slice none 0 0] 38 from(B7.out.block w.heap.size (by omega)).trans I6.out.a);have E7:=Lib.hid (show BoxAt w7 (w.heap.size+1) #[.int .i64 0] 41 from(B7.out.block (w.heap.size+1) (by omega)).trans I6.out.e);have hLob:0<L→blk oa<ob:=fun h=>by have:=I6.out.lo h; omega
   have L7:=Lib.hid (show BytesAt w7 oa L g from Row.below I6.out.l B7.out hLob);have BB7:=Lib.hid (show Below w.heap.size w w7 from I6.out.bel.trans (Below.mono B7.out (by omega)));clear hk7 B7 I6 C6;have r0:=cellAt E7.out 0;have f0:=freeAt E7.out 0;have a0:=cellAt A7.out 0;have a1:=cellAt A7.out 1;have a2:=cellAt A7.out 2;simp only [List.getElem?_toArray,List.getElem?_cons_zero,List.getElem?_cons_succ] at r0 a0 a1 a2
   cases hb:bitsW n g with
   | none =>
    rw [hb] at hh HR;have he:e=err 8:=hh;subst he;have HR2:=Lib.hid (show readW L g=(8,zeroW) from HR.out);clear hb hh HR;unfold err;refine leaves_cons (f:=52) (args:=#[bp (w.heap.size+1)]) (by simp) (by simp [go_sem]) ?_;refine(answer_panicking _ 0 8 [] _ E7.out).mono ?_;rintro e u' w'' ⟨rfl,rfl,rfl⟩;simp [Leaves,settle,results,Tryz.results23,go_sem,r0,a0,a1,a2];exact ReadWPost.no HR2.out (BB7.out.setCell (by dsimp only; omega) _)
   | some p =>
    obtain⟨s',x⟩:=p;rw [hb] at hh HR;obtain⟨he,C2,sa,ta,sc,tc,hC2,hpen,hown⟩:=hh;subst he;dsimp only at HR;have hsm:=bitsW_small hb;have hs1:0<x.sn→blk sa≠w.heap.size:=fun h0=>hown.ss.blk_ne A7.out (by decide) h0;have hs2:0<x.sn→blk sa≠w.heap.size+1:=fun h0=>hown.ss.blk_ne E7.out (by decide) h0;have ht1:0<x.tn→blk ta≠w.heap.size:=fun h0=>hown.tt.blk_ne A7.out (by decide) h0;have ht2:0<x.tn→blk ta≠w.heap.size+1:=fun h0=>hown.tt.blk_ne E7.out (by decide) h0;have S7:=Lib.hid (hown.ss.nums (by unfold maxLen; omega));have T7:=Lib.hid (hown.tt.nums (by unfold maxLen; omega));have O7:=Lib.hid hown.box;have b0:=cellAt hown.box 0;have b1:=cellAt hown.box 1;have b2:=cellAt hown.box 2;simp only [List.getElem?_toArray,List.getElem?_cons_zero,List.getElem?_cons_succ] at b0 b1 b2;have C7:=Lib.hid (isWages_any x.cr sa ta x.sn sc x.tn tc (castW x.S) (castW x.T) w7 S7.out T7.out);have HV:=Lib.hid (show wagesB x.cr (castW x.S) x.sn (castW x.T) x.tn=wagesVB x from rfl);have hSm:=Lib.hid hsm;have HS1:=Lib.hid hs1;have HS2:=Lib.hid hs2;have HT1:=Lib.hid ht1;have HT2:=Lib.hid ht2;clear hb hC2 hpen hown hsm hs1 hs2 ht1 ht2 hLob HUL;go_wp2_with fail;refine C7.out.mono ?_;rintro e w8 ⟨rfl,hb8⟩;have A8:=Lib.hid (A7.out.grow hb8);have E8:=Lib.hid (E7.out.grow hb8);have S8:=Lib.hid (S7.out.grow hb8);have T8:=Lib.hid (T7.out.grow hb8);have O8:=Lib.hid (O7.out.grow hb8);have L8:=Lib.hid (L7.out.grow hb8);have BB8:=Lib.hid (BB7.out.next hb8);clear hb8 A7 E7 S7 T7 O7 L7 BB7 C7 r0 f0 a0 a1 a2 b0 b1 b2;rw [HV.out];have r0:=cellAt E8.out 0;have a0:=cellAt A8.out 0;have a1:=cellAt A8.out 1;have a2:=cellAt A8.out 2;simp only [List.getElem?_toArray,List.getElem?_cons_zero,List.getElem?_cons_succ] at r0 a0 a1 a2
    cases hv:wagesVB x with
    | false =>
     have HR2:=Lib.hid (show readW L g=(8,zeroW) from by rw [HR.out,hv]; rfl);clear hv HR;go_wp2_with fail;refine(ask_false _ _).mono ?_;rintro e w' ⟨rfl,rfl⟩;refine leaves_cons (f:=52) (args:=#[bp (w.heap.size+1)]) (by simp) (by simp [go_sem]) ?_;refine(answer_panicking _ 0 8 [] _ E8.out).mono ?_;rintro e u' w'' ⟨rfl,rfl,rfl⟩;simp [Leaves,settle,results,Tryz.results23,go_sem,r0,a0,a1,a2];exact ReadWPost.no HR2.out (BB8.out.setCell (by dsimp only; omega) _)
    | true =>
     have OK:=wages_ok (HV.out.trans hv);have C8:=Lib.hid (book64_any x sa ta sc tc w8 S8.out T8.out hSm.out.1 hSm.out.2 OK.pre);have HR3:=Lib.hid (show readW L g=(if eqB (szB (bookN x)) L (bookB x) g then(0,x) else(8,zeroW)) from by rw [HR.out,hv]; rfl);have b0:=cellAt O8.out 0;have b1:=cellAt O8.out 1;have b2:=cellAt O8.out 2;simp only [List.getElem?_toArray,List.getElem?_cons_zero,List.getElem?_cons_succ] at b0 b1 b2;clear hv HR OK HV;go_wp2_with fail;refine C8.out.mono ?_;rintro e w9 ⟨qa,qc,rfl,hq,hge,hcap9,hb9⟩;have A9:=Lib.hid (A8.out.grow hb9);have E9:=Lib.hid (E8.out.grow hb9);have S9:=Lib.hid (S8.out.grow hb9);have T9:=Lib.hid (T8.out.grow hb9);have O9:=Lib.hid (O8.out.grow hb9);have BB9:=Lib.hid (BB8.out.next hb9);have C9:=Lib.hid (equal_any qa oa (szB (bookN x)) qc L nc (bookB x) g w9 hq (L8.out.grow hb9) (fun i _=>seal_lt (fun i=>pk_lt _ _ i) _ i) (fun i _=>H8.out i));clear hq hge hcap9 hb9 A8 E8 S8 T8 O8 L8 BB8 C8 r0 a0 a1 a2 b0 b1 b2;generalize eqB (szB (bookN x)) L (bookB x) g=q at *;go_wp2_with fail;refine C9.out.mono ?_;rintro e w10 ⟨rfl,rfl⟩;have r0:=cellAt E9.out 0;have f0:=freeAt E9.out 0;have a0:=cellAt A9.out 0;have a1:=cellAt A9.out 1;have a2:=cellAt A9.out 2;have fa0:=freeAt A9.out 0;have fa1:=freeAt A9.out 1;have fa2:=freeAt A9.out 2;have b0:=cellAt O9.out 0;have b1:=cellAt O9.out 1;have b2:=cellAt O9.out 2;simp only [List.getElem?_toArray,List.getElem?_cons_zero,List.getElem?_cons_succ] at r0 a0 a1 a2 b0 b1 b2;clear C9
     cases q with
     | false =>
      have HR2:=Lib.hid (show readW L g=(8,zeroW) from HR3.out);clear HR3;go_wp2_with fail;refine(ask_false _ _).mono ?_;rintro e w' ⟨rfl,rfl⟩;refine leaves_cons (f:=52) (args:=#[bp (w.heap.size+1)]) (by simp) (by simp [go_sem]) ?_;refine(answer_panicking _ 0 8 [] _ E9.out).mono ?_;rintro e u' w'' ⟨rfl,rfl,rfl⟩;simp [Leaves,settle,results,Tryz.results23,go_sem,r0,a0,a1,a2];exact ReadWPost.no HR2.out (BB9.out.setCell (by dsimp only; omega) _)
     | true =>
      have HR2:=Lib.hid (show readW L g=(0,x) from HR3.out);clear HR3;go_wp2_with fail;refine(ask_true _ _).mono ?_;rintro e w' ⟨rfl,rfl⟩;have hk3:Keep (fun k=>k≠w.heap.size∧k≠w.heap.size+1) w10 ((((w10.setCell ⟨w.heap.size,0,none⟩ (.int .i64 x.cr)).setCell ⟨w.heap.size,1,none⟩ (.slice sa x.sn sc)).setCell ⟨w.heap.size,2,none⟩ (.slice ta x.tn tc)).setCell ⟨w.heap.size+1,0,none⟩ (.int .i64 0)):=Keep.set (Keep.set (Keep.set (Keep.set (Keep.refl _ _) _ _ _ (fun h=>h.1 rfl)) _ _ _ (fun h=>h.1 rfl)) _ _ _ (fun h=>h.1 rfl)) _ _ _ (fun h=>h.2 rfl);have S3:=Lib.hid (Row.keep S9.out hk3 (fun hn=>⟨HS1.out hn,HS2.out hn⟩));have U3:=Lib.hid (Row.keep T9.out hk3 (fun hn=>⟨HT1.out hn,HT2.out hn⟩));have B3:=Lib.hid (show Below w.heap.size w ((((w10.setCell ⟨w.heap.size,0,none⟩ (.int .i64 x.cr)).setCell ⟨w.heap.size,1,none⟩ (.slice sa x.sn sc)).setCell ⟨w.heap.size,2,none⟩ (.slice ta x.tn tc)).setCell ⟨w.heap.size+1,0,none⟩ (.int .i64 0)) from BB9.out.trans (hk3.to_below (fun k hk=>by omega)));have A3:=Lib.hid (show BoxAt ((((w10.setCell ⟨w.heap.size,0,none⟩ (.int .i64 x.cr)).setCell ⟨w.heap.size,1,none⟩ (.slice sa x.sn sc)).setCell ⟨w.heap.size,2,none⟩ (.slice ta x.tn tc)).setCell ⟨w.heap.size+1,0,none⟩ (.int .i64 0)) w.heap.size #[.int .i64 x.cr,.slice sa x.sn sc,.slice ta x.tn tc] 38 from BoxAt.set (((A9.out.store 0 (.int .i64 x.cr)).store 1 (.slice sa x.sn sc)).store 2 (.slice ta x.tn tc)) _ _ (by dsimp only; omega));have E3:=Lib.hid (show BoxAt ((((w10.setCell ⟨w.heap.size,0,none⟩ (.int .i64 x.cr)).setCell ⟨w.heap.size,1,none⟩ (.slice sa x.sn sc)).setCell ⟨w.heap.size,2,none⟩ (.slice ta x.tn tc)).setCell ⟨w.heap.size+1,0,none⟩ (.int .i64 0)) (w.heap.size+1) #[.int .i64 0] 41 from BoxAt.store (BoxAt.set (BoxAt.set (BoxAt.set (E9.out) _ _ (by dsimp only; omega)) _ _ (by dsimp only; omega)) _ _ (by dsimp only; omega)) 0 _);clear hk3;go_wp2_with fail;clear r0 f0 a0 a1 a2 fa0 fa1 fa2 b0 b1 b2 A9 E9 S9 T9 O9 BB9;generalize World.setCell (World.setCell (World.setCell (World.setCell w10 _ _) _ _) _ _) _ _=w11 at *;have r0:=cellAt E3.out 0;have a0:=cellAt A3.out 0;have a1:=cellAt A3.out 1;have a2:=cellAt A3.out 2;simp only [List.getElem?_toArray,List.getElem?_cons_zero,List.getElem?_cons_succ] at r0 a0 a1 a2;refine leaves_cons (f:=52) (args:=#[bp (w.heap.size+1)]) (by simp) (by simp [go_sem]) ?_;refine(answer_idle _ _).mono ?_;rintro e u' w'' ⟨rfl,rfl,rfl⟩;simp [Leaves,settle,results,Tryz.results23,go_sem,r0,a0,a1,a2];refine⟨B3.out,sa,sc,ta,tc,?_⟩;rw [HR2.out];exact⟨rfl,S3.out,U3.out⟩
 ·have HR:=Lib.hid (show readW L g=(8,zeroW) from by unfold readW; rw [if_neg (by omega),contN_none hno])
  clear h1 hno;unfold err;refine leaves_cons (f:=52) (args:=#[bp (w.heap.size+1)]) (by simp) (by simp [go_sem]) ?_;refine(answer_panicking _ 0 8 [] _ I0.out.e).mono ?_;rintro e u' w'' ⟨rfl,rfl,rfl⟩;simp [Leaves,settle,results,Tryz.results23,go_sem,r0,a0,a1,a2];exact ReadWPost.no HR.out (I0.out.bel.setCell (by dsimp only; omega) _)
end Go.Proofs.YtclbmlmlhiiaeaaGreatDoor
