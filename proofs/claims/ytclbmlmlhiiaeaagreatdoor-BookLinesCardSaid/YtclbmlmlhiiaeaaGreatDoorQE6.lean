/- Walks: the text of a pitch, by the program. Walks: the text -/
import Derived.Test.YtclbmlmlhiiaeaaGreatDoorQE4
import Derived.Test.YtclbmlmlhiiaeaaGreatDoorQD2
namespace Go.Proofs.YtclbmlmlhiiaeaaGreatDoor
open Go.RowKit
def hT(x:Int):List UInt8:=hoursT x.toNat 40
def pitHT(hr fr pe:Int):List UInt8:=[112,105,116,99,104,32]++Lib.itoa hr ++ [10,102,114,111,115,116]++hT fr ++ [32,112,101,114,104,97,112,115]++hT pe ++ [10]
def fireT(x:Int):List UInt8:=[102,105,114,101]++hT x ++ [10]
def potT(q:Pot):List UInt8:=[112,111,116,32]++Lib.itoa q.h++(32::Lib.itoa q.f)++(32::Lib.itoa q.b) ++ [10]
def firesT(t:List UInt8)(F:Nat→Int):Nat→List UInt8
 | 0=>t
 | n+1=>firesT t F n++fireT (F n)
def potsT(t:List UInt8)(Q:Nat→Pot):Nat→List UInt8
 | 0=>t
 | n+1=>potsT t Q n++potT (Q n)
def pitchT(hr fr pe:Int)(F:Nat→Int)(fn:Nat)(Q:Nat→Pot)(qn:Nat):List UInt8:=potsT (firesT (pitHT hr fr pe) F fn) Q qn
structure PitOk (hr fr pe:Int) (F:Nat→Int) (fn:Nat) (Q:Nat→Pot) (qn:Nat):Prop where
 h:0≤hr∧hr≤12
 fm:fn≤3
 qm:qn≤4
 fr:0≤fr∧fr<4096
 pe:0≤pe∧pe<4096
 f:∀ i,i<fn→0≤F i∧F i<4096
 q:∀ i,i<qn→(1≤(Q i).h∧(Q i).h≤12)∧(0≤(Q i).f∧(Q i).f≤12)∧0≤(Q i).b∧(Q i).b≤12
theorem setB_bd{h x:Int}(hh:0≤h∧h≤12)(hs:setB h x=true):0≤x∧x<4096:=by
 have:=inB_iff.1 hs;have:=pow_le12 (show h.toNat≤12 by omega);omega
theorem pitch_ok{hr fr pe:Int}{F:Nat→Int}{fn qn:Nat}{Q:Nat→Pot}(h:pitchB hr fr pe F fn Q qn=true):PitOk hr fr pe F fn Q qn:=by
 unfold pitchB headB at h;simp only [Bool.and_eq_true,decide_eq_true_eq,allB_iff] at h;obtain⟨⟨⟨⟨h1,h2⟩,h3⟩,h4⟩,h5⟩:=h;have hh:=inB_iff.1 h1;refine⟨hh,by omega,by omega,setB_bd hh (h4 0 (by omega)),setB_bd hh (h4 1 (by omega)),fun i hi=>?_,fun i hi=>?_⟩
 ·have:=h4 (2+i) (by omega)
  rw [show setsOf fr pe F (2+i)=F i from by unfold setsOf; rw [if_neg (by omega),if_neg (by omega),show 2+i - 2=i by omega]] at this;exact setB_bd hh this
 ·have:=h5 i hi
  unfold okQ at this;simp only [Bool.and_eq_true] at this;have a:=inB_iff.1 this.1.1;have b:=inB_iff.1 this.1.2;have c:=inB_iff.1 this.2;omega
theorem hT_len(x:Int):(hT x).length≤880:=hours_len _ 40 (by omega)
theorem pitHT_len{hr fr pe:Int}(h:0≤hr∧hr≤12):(pitHT hr fr pe).length≤2000:=by
 have h1:=itoa_len hr (by omega);have h2:=hT_len fr;have h3:=hT_len pe;simp only [pitHT,List.length_append,List.length_cons,List.length_nil];omega
theorem fireT_len(x:Int):(fireT x).length≤1000:=by
 have h2:=hT_len x;simp only [fireT,List.length_append,List.length_cons,List.length_nil];omega
theorem potT_len{q:Pot}(h:(1≤q.h∧q.h≤12)∧(0≤q.f∧q.f≤12)∧0≤q.b∧q.b≤12):(potT q).length≤1000:=by
 have h1:=itoa_len q.h (by omega);have h2:=itoa_len q.f (by omega);have h3:=itoa_len q.b (by omega);simp only [potT,List.length_append,List.length_cons,List.length_nil];omega
theorem firesT_len(t:List UInt8)(F:Nat→Int):∀ n,(firesT t F n).length≤t.length+1000 * n
 | 0=>Nat.le_refl _
 | n+1=>by
  have:=firesT_len t F n;have:=fireT_len (F n);simp only [firesT,List.length_append];omega
theorem potsT_len(t:List UInt8)(Q:Nat→Pot):∀ n,(∀ i,i<n→(1≤(Q i).h∧(Q i).h≤12)∧(0≤(Q i).f∧(Q i).f≤12)∧0≤(Q i).b∧(Q i).b≤12)→(potsT t Q n).length≤t.length+1000 * n
 | 0,_=>Nat.le_refl _
 | n+1,h=>by
  have:=potsT_len t Q n (fun i hi=>h i (by omega));have:=potT_len (h n (by omega));simp only [potsT,List.length_append];omega
def pitP(hr fr pe:Int)(i:Nat):Part:=if i=0 then .str [112,105,116,99,104,32] else if i=1 then .int hr else if i=2 then .str [10,102,114,111,115,116] else if i=3 then .hours fr.toNat else if i=4 then .str [32,112,101,114,104,97,112,115] else if i=5 then .hours pe.toNat else .str [10]
def fireP(x:Int)(i:Nat):Part:=if i=0 then .str [102,105,114,101] else if i=1 then .hours x.toNat else .str [10]
def potP(q:Pot)(i:Nat):Part:=if i=0 then .str [112,111,116,32] else if i=1 then .int q.h else if i=2 then .str [32] else if i=3 then .int q.f else if i=4 then .str [32] else if i=5 then .int q.b else .str [10]
theorem pitP_text(hr fr pe:Int):textOf (pitP hr fr pe) 7=pitHT hr fr pe:=by
 simp [textOf,pitP,Part.text,pitHT,hT]
theorem fireP_text(x:Int):textOf (fireP x) 3=fireT x:=by
 simp [textOf,fireP,Part.text,fireT,hT]
theorem potP_text(q:Pot):textOf (potP q) 7=potT q:=by
 simp [textOf,potP,Part.text,potT]
theorem str_ok{s:List UInt8}(h:s.length≤100:=by decide):(Part.str s).ok:=by
 show s.length≤100000
 omega
theorem pitP_ok{hr fr pe:Int}(h1:0≤hr∧hr≤12)(h2:0≤fr∧fr<4096)(h3:0≤pe∧pe<4096)(i:Nat):(pitP hr fr pe i).ok:=by
 have e:4096<2 ^ 40:=by decide
 unfold pitP
 split
 ·exact str_ok
 split
 ·exact⟨by omega,by omega⟩
 split
 ·exact str_ok
 split
 ·show fr.toNat<2 ^ 40; omega
 split
 ·exact str_ok
 split
 ·show pe.toNat<2 ^ 40; omega
 ·exact str_ok
theorem fireP_ok{x:Int}(h:0≤x∧x<4096)(i:Nat):(fireP x i).ok:=by
 have e:4096<2 ^ 40:=by decide
 unfold fireP
 split
 ·exact str_ok
 split
 ·show x.toNat<2 ^ 40; omega
 ·exact str_ok
theorem potP_ok{q:Pot}(h:(1≤q.h∧q.h≤12)∧(0≤q.f∧q.f≤12)∧0≤q.b∧q.b≤12)(i:Nat):(potP q i).ok:=by
 unfold potP
 split
 ·exact str_ok
 split
 ·exact⟨by omega,by omega⟩
 split
 ·exact str_ok
 split
 ·exact⟨by omega,by omega⟩
 split
 ·exact str_ok
 split
 ·exact⟨by omega,by omega⟩
 ·exact str_ok
structure PT (w:World) (hr fr pe:Int) (fa qa:Option Addr) (fn fc qn qc:Nat) (F:Nat→Int) (Q:Nat→Pot) (W:World):Prop where
 inv:PI w hr fr pe fa qa fn fc qn qc F Q W
 tab:Tab W
theorem PT.grow{w W W':World}{hr fr pe:Int}{fa qa:Option Addr}{fn fc qn qc:Nat}{F:Nat→Int}{Q:Nat→Pot}(h:PT w hr fr pe fa qa fn fc qn qc F Q W)(hb:Below W.heap.size W W'):PT w hr fr pe fa qa fn fc qn qc F Q W' :=
 ⟨h.inv.grow hb,h.tab.grow hb⟩
attribute [local go_sem] ba_app List.append_toArray List.length_append
set_option maxRecDepth 100000 in
set_option maxHeartbeats 4000000 in
theorem pitches5_any(hr fr pe:Int)(fa qa:Option Addr)(fn fc qn qc:Nat)(F:Nat→Int)(Q:Nat→Pot)(w:World)(hF:IntsAt w fa fn F)(hQ:PotsAt w qa qn Q)(hok:PitOk hr fr pe F fn Q qn)(ht:Tab w) :
  Calls Tryz.prog 113 #[.agg #[.int .i64 hr,.int .i64 fr,.int .i64 pe,.slice fa fn fc,.slice qa qn qc]] w fun e w'=>e = .returned (.string ⟨(pitchT hr fr pe F fn Q qn).toArray⟩)∧Below w.heap.size w w':=by
 obtain⟨hh,hfm,hqm,hfr,hpe,kf,kq⟩:=hok;have KF:=Lib.hid kf;have KQ:=Lib.hid kq;have hb0:=(Below.refl w.heap.size w).alloc (Nat.le_refl _) (.cells #[.int .i64 hr,.int .i64 fr,.int .i64 pe,.slice fa fn fc,.slice qa qn qc] 29);have I0:=Lib.hid (show PT w hr fr pe fa qa fn fc qn qc F Q (w.alloc (.cells #[.int .i64 hr,.int .i64 fr,.int .i64 pe,.slice fa fn fc,.slice qa qn qc] 29)) from⟨⟨hb0,heap_alloc_new _ _,hF.grow hb0,hQ.grow hb0⟩,ht.grow hb0⟩);clear hF hQ hb0 ht kf kq;have PO:=Lib.hid (pitP_ok hh hfr hpe);obtain⟨fr',rfl⟩:∃ n:Nat,fr=n:=⟨fr.toNat,by omega⟩
 obtain⟨pe',rfl⟩:∃ n:Nat,pe=n:=⟨pe.toNat,by omega⟩
 have hl0:=pitHT_len (fr:=(fr':Int)) (pe:=(pe':Int)) hh;go_enter Tryz.func113,Tryz.ntmps113;go_upto_region 1 with (fail)
 generalize hW:World.alloc _ _=W0 at *;obtain⟨q0,q1,q2,q3,q4⟩:=I0.out.inv.cells;clear hW;have I1:=Lib.hid (I0.out.grow ((Below.refl W0.heap.size W0).alloc (Nat.le_refl _) (.cells (valsOf (fun i=>(pitP hr fr' pe' i).v) 7).toArray 20)));have C1:=Lib.hid (said_any (some ⟨W0.heap.size,0,none⟩) 7 7 (pitP hr fr' pe') (W0.alloc (.cells (valsOf (fun i=>(pitP hr fr' pe' i).v) 7).toArray 20)) (show PartsAt _ _ 7 (pitP hr fr' pe') from row_box (n:=7) (t:=20) (cell:=fun i=>(pitP hr fr' pe' i).v) (heap_alloc_new W0 _) (by unfold maxLen; omega)) (fun i _=>PO.out i) (by omega) I1.out.tab);rw [pitP_text] at C1
 have e7:(valsOf (fun i=>(pitP hr fr' pe' i).v) 7).toArray = #[.iface 9 (.string ⟨#[112,105,116,99,104,32]⟩),.iface 3 (.int .i64 hr),.iface 9 (.string ⟨#[10,102,114,111,115,116]⟩),.iface 174 (.int .i64 fr'),.iface 9 (.string ⟨#[32,112,101,114,104,97,112,115]⟩),.iface 174 (.int .i64 pe'),.iface 9 (.string ⟨#[10]⟩)]:=by
  simp [valsOf,List.range_succ,pitP,Part.v]
 rw [e7] at I1 C1;clear e7;go_wp2_with (go_at_call 101; refine C1.out.mono ?_);rintro e w1 ⟨rfl,hb1⟩;have I2:=Lib.hid (I1.out.grow hb1);clear hb1 q0 q1 q2 q3 q4 C1 I1 I0 PO;obtain⟨q0,q1,q2,q3,q4⟩:=I2.out.inv.cells;have HE:=Lib.hid (show pitchT hr fr' pe' F fn Q qn=potsT (firesT (pitHT hr fr' pe') F fn) Q qn from rfl);generalize pitHT hr fr' pe'=T0 at *;go_wp2_with fail
 go_loopw [3,26] (fun v i wi => ∃ k:Nat,k≤fn∧i = .int .i64 k∧v = .string ⟨(firesT T0 F k).toArray⟩∧PT w hr fr' pe' fa qa fn fc qn qc F Q wi) (fun _ i _=>fn - (intOf i).toNat)
 case atStart=>exact⟨0,Nat.zero_le _,rfl,rfl,I2.out⟩
 case round =>
  clear I2 q0 q1 q2 q3 q4;obtain⟨k,hk,rfl,rfl,h1⟩:=hrel;have I1:=Lib.hid h1;clear h1;by_cases hlt:k<fn
  ·have hi:=fun w=>run_indexAt_row (w:=w) (cap:=fc) ints26 size3 (I1.out.inv.ff.plain (by omega)) hlt
   simp only [Nat.mul_one] at hi;have hc:=I1.out.inv.ff.at hlt;have HK:=Lib.hid (show firesT T0 F (k+1)=firesT T0 F k++fireT (F k) from rfl);have PO:=Lib.hid (fireP_ok (KF.out k hlt));have hkk:=KF.out k hlt;have hlen:=firesT_len T0 F k;have hlf:=fireT_len (F k);generalize F k=x at *;obtain⟨x',rfl⟩:∃ n:Nat,x=n:=⟨x.toNat,by omega⟩
   generalize firesT T0 F k=T at *;have n1:¬ (9223372036854775807<T.length+(fireT x').length):=by omega
   clear hlen hlf hkk;have I2:=Lib.hid (I1.out.grow ((Below.refl wr.heap.size wr).alloc (Nat.le_refl _) (.cells (valsOf (fun i=>(fireP x' i).v) 3).toArray 20)));have C1:=Lib.hid (said_any (some ⟨wr.heap.size,0,none⟩) 3 3 (fireP x') (wr.alloc (.cells (valsOf (fun i=>(fireP x' i).v) 3).toArray 20)) (show PartsAt _ _ 3 (fireP x') from row_box (n:=3) (t:=20) (cell:=fun i=>(fireP x' i).v) (heap_alloc_new wr _) (by unfold maxLen; omega)) (fun i _=>PO.out i) (by omega) I2.out.tab);rw [fireP_text] at C1
   have e3:(valsOf (fun i=>(fireP x' i).v) 3).toArray = #[.iface 9 (.string ⟨#[102,105,114,101]⟩),.iface 174 (.int .i64 x'),.iface 9 (.string ⟨#[10]⟩)]:=by
    simp [valsOf,List.range_succ,fireP,Part.v]
   rw [e3] at I2 C1;clear e3;go_wp2_with (go_at_call 101; refine C1.out.mono ?_);rintro e w4 ⟨rfl,hb1⟩;have I3:=Lib.hid (I2.out.grow hb1);clear hb1 C1;go_wp2_with fail;exact⟨⟨k+1,hlt,by go_num,by rw [HK.out],I3.out⟩,by simp [intOf]; omega⟩
  ·obtain rfl:k=fn:=by omega
   have hlen:=firesT_len T0 F k;obtain⟨q0,q1,q2,q3,q4⟩:=I1.out.inv.cells;generalize firesT T0 F k=T1 at *;go_wp2_with fail
   go_loopw [3,42] (fun v i wi => ∃ j:Nat,j≤qn∧i = .int .i64 j∧v = .string ⟨(potsT T1 Q j).toArray⟩∧PT w hr fr' pe' fa qa k fc qn qc F Q wi) (fun _ i _=>qn - (intOf i).toNat)
   case atStart=>exact⟨0,Nat.zero_le _,rfl,rfl,I1.out⟩
   case round =>
    clear I1 q0 q1 q2 q3 q4;obtain⟨j,hj,rfl,rfl,h1⟩:=hrel;have I1:=Lib.hid h1;clear h1;by_cases hlt:j<qn
    ·have hi:=fun w=>run_indexAt_row (w:=w) (cap:=qc) pots27 size147 (I1.out.inv.qq.plain (by omega)) hlt
     obtain⟨g0,g1,g2⟩:=I1.out.inv.qq.at hlt;have HK:=Lib.hid (show potsT T1 Q (j+1)=potsT T1 Q j++potT (Q j) from rfl);have PO:=Lib.hid (potP_ok (KQ.out j hlt));have hsl:=potT_len (KQ.out j hlt);have hlen2:=potsT_len T1 Q j (fun i hi=>KQ.out i (by omega));generalize Q j=x at *;generalize potsT T1 Q j=V at *;have n1:¬ (9223372036854775807<V.length+(potT x).length):=by omega
     clear hsl hlen2 hlen;go_upto_region 10 with (fail)
     generalize hW:World.alloc _ _=W;obtain⟨z0,hz,hB⟩:=blocks1 hW;have I2:=Lib.hid (I1.out.grow hB);have c0:=cellAt z0 0;have c1:=cellAt z0 1;have c2:=cellAt z0 2;simp only [List.getElem?_toArray,List.getElem?_cons_zero,List.getElem?_cons_succ] at c0 c1 c2;clear hW hz hB z0 I1;generalize wr.heap.size=b at *;have I3:=Lib.hid (I2.out.grow ((Below.refl W.heap.size W).alloc (Nat.le_refl _) (.cells (valsOf (fun i=>(potP x i).v) 7).toArray 20)));have C1:=Lib.hid (said_any (some ⟨W.heap.size,0,none⟩) 7 7 (potP x) (W.alloc (.cells (valsOf (fun i=>(potP x i).v) 7).toArray 20)) (show PartsAt _ _ 7 (potP x) from row_box (n:=7) (t:=20) (cell:=fun i=>(potP x i).v) (heap_alloc_new W _) (by unfold maxLen; omega)) (fun i _=>PO.out i) (by omega) I3.out.tab);rw [potP_text] at C1
     have e7:(valsOf (fun i=>(potP x i).v) 7).toArray = #[.iface 9 (.string ⟨#[112,111,116,32]⟩),.iface 3 (.int .i64 x.h),.iface 9 (.string ⟨#[32]⟩),.iface 3 (.int .i64 x.f),.iface 9 (.string ⟨#[32]⟩),.iface 3 (.int .i64 x.b),.iface 9 (.string ⟨#[10]⟩)]:=by
      simp [valsOf,List.range_succ,potP,Part.v]
     rw [e7] at I3 C1;clear e7;go_wp2_with (go_at_call 101; refine C1.out.mono ?_);rintro e w4 ⟨rfl,hb1⟩;have HJ:=Lib.hid (I3.out.grow hb1);clear hb1 C1;go_wp2_with fail;exact⟨⟨j+1,hlt,by go_num,by rw [HK.out],HJ.out⟩,by simp [intOf]; omega⟩
    ·obtain rfl:j=qn:=by omega
     go_wp2_with fail;go_ret;exact⟨by rw [HE.out]; rfl,I1.out.inv.bel⟩
end Go.Proofs.YtclbmlmlhiiaeaaGreatDoor
namespace Go.Proofs.YtclbmlmlhiiaeaaGreatDoor
open Go.RowKit
def numsT(t:List UInt8)(F:Nat→Int):Nat→List UInt8
 | 0=>t
 | n+1=>numsT t F n++(32::Lib.itoa (F n))
def ownersT(t:List UInt8)(x:IronsV):Nat→List UInt8
 | 0=>t
 | n+1=>numsT (ownersT t x n++([111,119,110,101,114,32]++Lib.itoa (x.most n))) (x.own n) (x.ol n) ++ [10]
def markT(m:IMark):List UInt8:=32::Lib.itoa m.f++(61::spanT m.lo m.hi)
def marksT(t:List UInt8)(M:Nat→IMark):Nat→List UInt8
 | 0=>t
 | n+1=>marksT t M n++markT (M n)
def strakesT(t:List UInt8)(x:IronsV):Nat→List UInt8
 | 0=>t
 | n+1=>marksT (strakesT t x n ++ [115,116,114,97,107,101]) (x.mark n) (x.sl n) ++ [10]
def notT(b:Bool):List UInt8:=if b then [33] else []
def claimT(c:IClaim):List UInt8:=[99,108,97,105,109,32]++Lib.itoa c.s++(32::(notT c.n++Lib.itoa c.o)) ++ [10]
def claimsT(t:List UInt8)(C:Nat→IClaim):Nat→List UInt8
 | 0=>t
 | n+1=>claimsT t C n++claimT (C n)
def ironH(f:Int):List UInt8:=[105,114,111,110,115,32]++Lib.itoa f ++ [10]
def ironsT(x:IronsV):List UInt8:=claimsT (strakesT (ownersT (ironH x.f) x x.on) x x.sn) x.claim x.cn
structure IrOk (x:IronsV):Prop where
 f:0≤x.f∧x.f≤4
 on:x.on≤5
 mn:x.mn=x.on
 sn:x.sn≤6
 cn:x.cn≤8
 ol:∀ i,i<x.on→(x.ol i:Int)=x.f ∧ ∀ j,j<x.ol i→0≤x.own i j∧x.own i j≤9
 most:∀ i,i<x.mn→0≤x.most i∧x.most i≤6
 sl:∀ i,i<x.sn→x.sl i≤6 ∧ ∀ j,j<x.sl i→(0≤(x.mark i j).f∧(x.mark i j).f≤3)∧(0≤(x.mark i j).lo∧(x.mark i j).lo≤(x.mark i j).hi)∧(x.mark i j).hi≤9
 cl:∀ i,i<x.cn→(0≤(x.claim i).s∧(x.claim i).s≤5)∧0≤(x.claim i).o∧(x.claim i).o≤4
theorem irons_ok{x:IronsV}(h:ironsB x=true):IrOk x:=by
 unfold ironsB headI at h;simp only [Bool.and_eq_true,decide_eq_true_eq,beq_iff_eq,allB_iff] at h;obtain⟨⟨⟨⟨⟨⟨⟨⟨h1,h2⟩,h3⟩,h4⟩,h5⟩,ho⟩,hm⟩,hs⟩,hc⟩:=h;have hf:=inB_iff.1 h1;refine⟨hf,by omega,by omega,by omega,by omega,fun i hi=>?_,fun i hi=>inB_iff.1 (hm i hi),fun i hi=>?_,fun i hi=>?_⟩
 ·have:=ho i hi
  unfold okO at this;simp only [Bool.and_eq_true,beq_iff_eq,allB_iff] at this;exact⟨this.1,fun j hj=>inB_iff.1 (this.2 j hj)⟩
 ·have:=hs i hi
  unfold okK at this;simp only [Bool.and_eq_true,decide_eq_true_eq,allB_iff] at this;refine⟨by omega,fun j hj=>?_⟩;have h2:=this.2 j hj;unfold okM spanB at h2;simp only [Bool.and_eq_true,decide_eq_true_eq] at h2;have h3:=inB_iff.1 h2.1;omega
 ·have:=hc i hi
  unfold okC at this;simp only [Bool.and_eq_true] at this;have h2:=inB_iff.1 this.1;have h3:=inB_iff.1 this.2;omega
theorem numsT_len(t:List UInt8)(F:Nat→Int):∀ n,(∀ j,j<n→0≤F j∧F j≤9)→(numsT t F n).length≤t.length+30 * n
 | 0,_=>Nat.le_refl _
 | n+1,h=>by
  have:=numsT_len t F n (fun j hj=>h j (by omega));have:=h n (by omega);have:=itoa_len (F n) (by omega);simp only [numsT,List.length_append,List.length_cons];omega
theorem ownersT_len(t:List UInt8){x:IronsV}(h:IrOk x):∀ n,n≤x.on→(ownersT t x n).length≤t.length+200 * n
 | 0,_=>Nat.le_refl _
 | n+1,hn=>by
  have h1:=ownersT_len t h n (by omega);have h2:=h.ol n (by omega);have h3:=h.most n (by have:=h.mn; omega);have h4:=itoa_len (x.most n) (by omega);have h5:=numsT_len (ownersT t x n++([111,119,110,101,114,32]++Lib.itoa (x.most n))) (x.own n) (x.ol n) h2.2;have:=h.f;simp only [ownersT,List.length_append,List.length_cons,List.length_nil] at h5 ⊢;omega
theorem markT_len{m:IMark}(h:(0≤m.f∧m.f≤3)∧(0≤m.lo∧m.lo≤m.hi)∧m.hi≤9):(markT m).length≤100:=by
 have h1:=itoa_len m.f (by omega);have h2:=spanT_len (lo:=m.lo) (hi:=m.hi) (by omega) (by omega);simp only [markT,List.length_append,List.length_cons];omega
theorem marksT_len(t:List UInt8)(M:Nat→IMark):∀ n,(∀ j,j<n→(0≤(M j).f∧(M j).f≤3)∧(0≤(M j).lo∧(M j).lo≤(M j).hi)∧(M j).hi≤9)→(marksT t M n).length≤t.length+100 * n
 | 0,_=>Nat.le_refl _
 | n+1,h=>by
  have:=marksT_len t M n (fun j hj=>h j (by omega));have:=markT_len (h n (by omega));simp only [marksT,List.length_append];omega
theorem strakesT_len(t:List UInt8){x:IronsV}(h:IrOk x):∀ n,n≤x.sn→(strakesT t x n).length≤t.length+1000 * n
 | 0,_=>Nat.le_refl _
 | n+1,hn=>by
  have h1:=strakesT_len t h n (by omega);have h2:=h.sl n (by omega);have h5:=marksT_len (strakesT t x n ++ [115,116,114,97,107,101]) (x.mark n) (x.sl n) h2.2;simp only [strakesT,List.length_append,List.length_cons,List.length_nil] at h5 ⊢;omega
theorem claimT_len{c:IClaim}(h:(0≤c.s∧c.s≤5)∧0≤c.o∧c.o≤4):(claimT c).length≤100:=by
 have h1:=itoa_len c.s (by omega);have h2:=itoa_len c.o (by omega);have h3:(notT c.n).length≤1:=by unfold notT; split <;> simp
 simp only [claimT,List.length_append,List.length_cons,List.length_nil];omega
theorem claimsT_len(t:List UInt8)(C:Nat→IClaim):∀ n,(∀ j,j<n→(0≤(C j).s∧(C j).s≤5)∧0≤(C j).o∧(C j).o≤4)→(claimsT t C n).length≤t.length+100 * n
 | 0,_=>Nat.le_refl _
 | n+1,h=>by
  have:=claimsT_len t C n (fun j hj=>h j (by omega));have:=claimT_len (h n (by omega));simp only [claimsT,List.length_append];omega
def ironP(f:Int)(i:Nat):Part:=if i=0 then .str [105,114,111,110,115,32] else if i=1 then .int f else .str [10]
def ownerP(m:Int)(i:Nat):Part:=if i=0 then .str [111,119,110,101,114,32] else .int m
def numP2(n:Int)(i:Nat):Part:=if i=0 then .str [32] else .int n
def markP(m:IMark)(i:Nat):Part:=if i=0 then .str [32] else if i=1 then .int m.f else if i=2 then .str [61] else .span m.lo m.hi
def claimP(c:IClaim)(i:Nat):Part:=if i=0 then .str [99,108,97,105,109,32] else if i=1 then .int c.s else if i=2 then .str [32] else if i=3 then .str (notT c.n) else if i=4 then .int c.o else .str [10]
theorem ironP_text(f:Int):textOf (ironP f) 3=ironH f:=by simp [textOf,ironP,Part.text,ironH]
theorem ownerP_text(m:Int):textOf (ownerP m) 2 = [111,119,110,101,114,32]++Lib.itoa m:=by simp [textOf,ownerP,Part.text]
theorem numP2_text(n:Int):textOf (numP2 n) 2=32::Lib.itoa n:=by simp [textOf,numP2,Part.text]
theorem markP_text(m:IMark):textOf (markP m) 4=markT m:=by simp [textOf,markP,Part.text,markT]
theorem claimP_text(c:IClaim):textOf (claimP c) 6=claimT c:=by simp [textOf,claimP,Part.text,claimT]
theorem ironP_ok{f:Int}(h:0≤f∧f≤4)(i:Nat):(ironP f i).ok:=by
 unfold ironP
 split
 ·exact str_ok
 split
 ·exact⟨by omega,by omega⟩
 ·exact str_ok
theorem ownerP_ok{m:Int}(h:0≤m∧m≤6)(i:Nat):(ownerP m i).ok:=by
 unfold ownerP
 split
 ·exact str_ok
 ·exact⟨by omega,by omega⟩
theorem numP2_ok{m:Int}(h:0≤m∧m≤9)(i:Nat):(numP2 m i).ok:=by
 unfold numP2
 split
 ·exact str_ok
 ·exact⟨by omega,by omega⟩
theorem markP_ok{m:IMark}(h:(0≤m.f∧m.f≤3)∧(0≤m.lo∧m.lo≤m.hi)∧m.hi≤9)(i:Nat):(markP m i).ok:=by
 unfold markP
 split
 ·exact str_ok
 split
 ·exact⟨by omega,by omega⟩
 split
 ·exact str_ok
 ·exact⟨⟨by omega,by omega⟩,by omega,by omega⟩
theorem claimP_ok{c:IClaim}(h:(0≤c.s∧c.s≤5)∧0≤c.o∧c.o≤4)(i:Nat):(claimP c i).ok:=by
 unfold claimP
 split
 ·exact str_ok
 split
 ·exact⟨by omega,by omega⟩
 split
 ·exact str_ok
 split
 ·show(notT c.n).length≤100000
  unfold notT
  split <;> simp
 split
 ·exact⟨by omega,by omega⟩
 ·exact str_ok
structure IT (w:World) (x:IronsV) (oa ma sa ca:Option Addr) (oc mc sc cc:Nat) (op sp:Nat→Option Addr) (ok sk:Nat→Nat) (W:World):Prop where
 inv:II w x oa ma sa ca oc mc sc cc op sp ok sk W
 tab:Tab W
theorem IT.grow{w:World}{x:IronsV}{oa ma sa ca:Option Addr}{oc mc sc cc:Nat}{op sp:Nat→Option Addr}{ok sk:Nat→Nat}{W W':World}(h:IT w x oa ma sa ca oc mc sc cc op sp ok sk W)(hb:Below W.heap.size W W'):IT w x oa ma sa ca oc mc sc cc op sp ok sk W' :=
 ⟨h.inv.grow hb,h.tab.grow hb⟩
attribute [local go_sem] ba_app List.append_toArray List.length_append
set_option maxRecDepth 100000 in
set_option maxHeartbeats 8000000 in
theorem irons5_any(x:IronsV)(oa ma sa ca:Option Addr)(oc mc sc cc:Nat)(op sp:Nat→Option Addr)(ok sk:Nat→Nat)(w:World)(hR:IronsAt x oa ma sa ca oc mc sc cc op sp ok sk w)(hok:IrOk x)(ht:Tab w) :
  Calls Tryz.prog 120 #[.agg #[.int .i64 x.f,.slice oa x.on oc,.slice ma x.mn mc,.slice sa x.sn sc,.slice ca x.cn cc]] w fun e w'=>e = .returned (.string ⟨(ironsT x).toArray⟩)∧Below w.heap.size w w':=by
 have OK:=Lib.hid hok;have hb0:=(Below.refl w.heap.size w).alloc (Nat.le_refl _) (.cells #[.int .i64 x.f,.slice oa x.on oc,.slice ma x.mn mc,.slice sa x.sn sc,.slice ca x.cn cc] 34);have I0:=Lib.hid (show IT w x oa ma sa ca oc mc sc cc op sp ok sk (w.alloc (.cells #[.int .i64 x.f,.slice oa x.on oc,.slice ma x.mn mc,.slice sa x.sn sc,.slice ca x.cn cc] 34)) from⟨⟨hb0,heap_alloc_new _ _,hR.grow hb0⟩,ht.grow hb0⟩);clear hR hb0 ht;have PO:=Lib.hid (ironP_ok hok.f);have lon:=hok.on;have lsn:=hok.sn;have lcn:=hok.cn;have hfl:=itoa_len x.f (by have:=hok.f; omega);have hl0:(ironH x.f).length≤100:=by simp only [ironH,List.length_append,List.length_cons,List.length_nil]; omega
 clear hok hfl;go_enter Tryz.func120,Tryz.ntmps120;go_upto_region 1 with (fail)
 generalize hW:World.alloc _ _=W0 at *;obtain⟨q0,q1,q2,q3,q4⟩:=I0.out.inv.cells;clear hW;have I1:=Lib.hid (I0.out.grow ((Below.refl W0.heap.size W0).alloc (Nat.le_refl _) (.cells (valsOf (fun i=>(ironP x.f i).v) 3).toArray 20)));have C1:=Lib.hid (said_any (some ⟨W0.heap.size,0,none⟩) 3 3 (ironP x.f) (W0.alloc (.cells (valsOf (fun i=>(ironP x.f i).v) 3).toArray 20)) (show PartsAt _ _ 3 (ironP x.f) from row_box (n:=3) (t:=20) (cell:=fun i=>(ironP x.f i).v) (heap_alloc_new W0 _) (by unfold maxLen; omega)) (fun i _=>PO.out i) (by omega) I1.out.tab);rw [ironP_text] at C1
 have e7:(valsOf (fun i=>(ironP x.f i).v) 3).toArray = #[.iface 9 (.string ⟨#[105,114,111,110,115,32]⟩),.iface 3 (.int .i64 x.f),.iface 9 (.string ⟨#[10]⟩)]:=by
  simp [valsOf,List.range_succ,ironP,Part.v]
 rw [e7] at I1 C1;clear e7;go_wp2_with (go_at_call 101; refine C1.out.mono ?_);rintro e w1 ⟨rfl,hb1⟩;have I2:=Lib.hid (I1.out.grow hb1);clear hb1 q0 q1 q2 q3 q4 C1 I1 I0 PO;obtain⟨q0,q1,q2,q3,q4⟩:=I2.out.inv.cells;have HE:=Lib.hid (show ironsT x=claimsT (strakesT (ownersT (ironH x.f) x x.on) x x.sn) x.claim x.cn from rfl);generalize ironH x.f=T0 at *;go_wp2_with fail
 go_loopw [3,25] (fun v i wi => ∃ k:Nat,k≤x.on∧i = .int .i64 k∧v = .string ⟨(ownersT T0 x k).toArray⟩∧IT w x oa ma sa ca oc mc sc cc op sp ok sk wi) (fun _ i _=>x.on - (intOf i).toNat)
 case atStart=>exact⟨0,Nat.zero_le _,rfl,rfl,I2.out⟩
 case round =>
  clear I2 q0 q1 q2 q3 q4;obtain⟨k,hk,rfl,rfl,h1⟩:=hrel;have I1:=Lib.hid h1;clear h1;obtain⟨q0,q1,q2,q3,q4⟩:=I1.out.inv.cells;by_cases hlt:k<x.on
  ·have hi:=fun w=>run_indexAt_row (w:=w) (cap:=oc) owners30 size26 (I1.out.inv.rr.o.plain (by omega)) hlt
   have hi2:=fun w=>run_indexAt_row (w:=w) (cap:=mc) (n:=x.mn) (k:=k) ints26 size3 (I1.out.inv.rr.m.plain (by have:=OK.out.mn; omega)) (by have:=OK.out.mn; omega);simp only [Nat.mul_one] at hi hi2;have hc:=I1.out.inv.rr.o.at1 hlt;have hcm:=I1.out.inv.rr.m.at (k:=k) (by have:=OK.out.mn; omega);have HK:=Lib.hid (show ownersT T0 x (k+1)=numsT (ownersT T0 x k++([111,119,110,101,114,32]++Lib.itoa (x.most k))) (x.own k) (x.ol k) ++ [10] from rfl);have PO:=Lib.hid (ownerP_ok (OK.out.most k (by have:=OK.out.mn; omega)));have hmb:=OK.out.most k (by have:=OK.out.mn; omega);have hol:=OK.out.ol k hlt;have hof:=OK.out.f;have hol4:x.ol k≤4:=by omega
   have HOL:=Lib.hid hol.2;have hlen:=ownersT_len T0 OK.out k hk;clear hol hof;have hml:=itoa_len (x.most k) (by omega);generalize x.most k=y at *;generalize ownersT T0 x k=T at *;have I2:=Lib.hid (I1.out.grow ((Below.refl wr.heap.size wr).alloc (Nat.le_refl _) (.cells (valsOf (fun i=>(ownerP y i).v) 2).toArray 20)));have C1:=Lib.hid (said_any (some ⟨wr.heap.size,0,none⟩) 2 2 (ownerP y) (wr.alloc (.cells (valsOf (fun i=>(ownerP y i).v) 2).toArray 20)) (show PartsAt _ _ 2 (ownerP y) from row_box (n:=2) (t:=20) (cell:=fun i=>(ownerP y i).v) (heap_alloc_new wr _) (by unfold maxLen; omega)) (fun i _=>PO.out i) (by omega) I2.out.tab);rw [ownerP_text] at C1
   have e7:(valsOf (fun i=>(ownerP y i).v) 2).toArray = #[.iface 9 (.string ⟨#[111,119,110,101,114,32]⟩),.iface 3 (.int .i64 y)]:=by
    simp [valsOf,List.range_succ,ownerP,Part.v]
   rw [e7] at I2 C1;clear e7;have hl6:([111,119,110,101,114,32]++Lib.itoa y).length≤100:=by simp only [List.length_append,List.length_cons,List.length_nil]; omega
   generalize ([111,119,110,101,114,32]++Lib.itoa y)=U at *;have n1:¬ (9223372036854775807<T.length+U.length):=by omega
   go_wp2_with (go_at_call 101; refine C1.out.mono ?_);rintro e w4 ⟨rfl,hb1⟩;have I3:=Lib.hid (I2.out.grow hb1);clear hb1 C1 I1 I2 PO hml hc hcm hi hi2 q0 q1 q2 q3 q4;obtain⟨V,eV⟩:∃ V,T++U=V:=⟨_,rfl⟩
   have hlV:V.length≤3000:=by rw [← eV,List.length_append]; omega
   rw [eV] at HK;clear hlen hl6;go_wp2_with fail;clear eV
   go_loopw [3,43] (fun v i wi => ∃ j:Nat,j≤x.ol k∧i = .int .i64 j∧v = .string ⟨(numsT V (x.own k) j).toArray⟩∧IT w x oa ma sa ca oc mc sc cc op sp ok sk wi) (fun _ i _=>x.ol k - (intOf i).toNat)
   case atStart=>exact⟨0,Nat.zero_le _,rfl,rfl,I3.out⟩
   case round =>
    clear I3;obtain⟨j,hj,rfl,rfl,h1⟩:=hrel;have I1:=Lib.hid h1;clear h1;by_cases hlj:j<x.ol k
    ·have hi:=fun w=>run_indexAt_row (w:=w) (cap:=ok k) ints26 size3 ((I1.out.inv.rr.oi k hlt).plain (by omega)) hlj
     simp only [Nat.mul_one] at hi;have hc:=(I1.out.inv.rr.oi k hlt).at hlj;have HK2:=Lib.hid (show numsT V (x.own k) (j+1)=numsT V (x.own k) j++(32::Lib.itoa (x.own k j)) from rfl);have PO:=Lib.hid (numP2_ok (HOL.out j hlj));have hnb:=HOL.out j hlj;have hlen:=numsT_len V (x.own k) j (fun i hi=>HOL.out i (by omega));generalize x.own k j=y at *;have hml:=itoa_len y (by omega);generalize numsT V (x.own k) j=T2 at *;have I2:=Lib.hid (I1.out.grow ((Below.refl wr.heap.size wr).alloc (Nat.le_refl _) (.cells (valsOf (fun i=>(numP2 y i).v) 2).toArray 20)));have C1:=Lib.hid (said_any (some ⟨wr.heap.size,0,none⟩) 2 2 (numP2 y) (wr.alloc (.cells (valsOf (fun i=>(numP2 y i).v) 2).toArray 20)) (show PartsAt _ _ 2 (numP2 y) from row_box (n:=2) (t:=20) (cell:=fun i=>(numP2 y i).v) (heap_alloc_new wr _) (by unfold maxLen; omega)) (fun i _=>PO.out i) (by omega) I2.out.tab);rw [numP2_text] at C1
     have e7:(valsOf (fun i=>(numP2 y i).v) 2).toArray = #[.iface 9 (.string ⟨#[32]⟩),.iface 3 (.int .i64 y)]:=by
      simp [valsOf,List.range_succ,numP2,Part.v]
     rw [e7] at I2 C1;clear e7;have n1:¬ (9223372036854775807<T2.length+((Lib.itoa y).length+1)):=by omega
     go_wp2_with (go_at_call 101; refine C1.out.mono ?_);rintro e w4 ⟨rfl,hb1⟩;have I3:=Lib.hid (I2.out.grow hb1);clear hb1 C1 I1 I2 PO hml hc hi hlen;go_wp2_with fail;exact⟨⟨j+1,hlj,by go_num,by rw [HK2.out],I3.out⟩,by simp [intOf]; omega⟩
    ·obtain rfl:x.ol k=j:=by omega
     have hlen:=numsT_len V (x.own k) (x.ol k) (fun i hi=>HOL.out i hi);generalize numsT V (x.own k) (x.ol k)=T2 at *;have n1:¬ (9223372036854775807<T2.length+1):=by omega
     clear hlen;go_wp2_with fail;exact⟨⟨k+1,hlt,by go_num,by rw [HK.out],I1.out⟩,by simp [intOf]; omega⟩
  ·obtain rfl:k=x.on:=by omega
   have hlen:=ownersT_len T0 OK.out x.on (Nat.le_refl _);generalize ownersT T0 x x.on=T1 at *;have hl1:T1.length≤3000:=by omega
   clear hlen;go_wp2_with fail
   go_loopw [3,61] (fun v i wi => ∃ k:Nat,k≤x.sn∧i = .int .i64 k∧v = .string ⟨(strakesT T1 x k).toArray⟩∧IT w x oa ma sa ca oc mc sc cc op sp ok sk wi) (fun _ i _=>x.sn - (intOf i).toNat)
   case atStart=>exact⟨0,Nat.zero_le _,rfl,rfl,I1.out⟩
   case round =>
    clear I1 q0 q1 q2 q3 q4;obtain⟨k,hk,rfl,rfl,h1⟩:=hrel;have I1:=Lib.hid h1;clear h1;obtain⟨q0,q1,q2,q3,q4⟩:=I1.out.inv.cells;by_cases hlt:k<x.sn
    ·have hi:=fun w=>run_indexAt_row (w:=w) (cap:=sc) strakes31 size85 (I1.out.inv.rr.s.plain (by omega)) hlt
     simp only [Nat.mul_one] at hi;have hc:=I1.out.inv.rr.s.at1 hlt;have HK:=Lib.hid (show strakesT T1 x (k+1)=marksT (strakesT T1 x k ++ [115,116,114,97,107,101]) (x.mark k) (x.sl k) ++ [10] from rfl);have hsl:=OK.out.sl k hlt;have HSL:=Lib.hid hsl.2;have hs6:=hsl.1;have hlen:=strakesT_len T1 OK.out k hk;clear hsl;generalize strakesT T1 x k=T at *;have n1:¬ (9223372036854775807<T.length+6):=by omega
     obtain⟨V,eV⟩:∃ V,T ++ [115,116,114,97,107,101]=V:=⟨_,rfl⟩
     have hlV:V.length≤20000:=by rw [← eV]; simp only [List.length_append,List.length_cons,List.length_nil]; omega
     rw [eV] at HK;clear hlen q0 q1 q2 q3 q4;go_wp2_with fail;clear eV
     go_loopw [3,69] (fun v i wi => ∃ j:Nat,j≤x.sl k∧i = .int .i64 j∧v = .string ⟨(marksT V (x.mark k) j).toArray⟩∧IT w x oa ma sa ca oc mc sc cc op sp ok sk wi) (fun _ i _=>x.sl k - (intOf i).toNat)
     case atStart=>exact⟨0,Nat.zero_le _,rfl,rfl,I1.out⟩
     case round =>
      clear I1 hc hi n1;obtain⟨j,hj,rfl,rfl,h1⟩:=hrel;have I0:=Lib.hid h1;clear h1;by_cases hlj:j<x.sl k
      ·have hi:=fun w=>run_indexAt_row (w:=w) (cap:=sk k) marks85 size149 ((I0.out.inv.rr.si k hlt).plain (by omega)) hlj
       obtain⟨g0,g1,g2⟩:=(I0.out.inv.rr.si k hlt).at hlj;have HK2:=Lib.hid (show marksT V (x.mark k) (j+1)=marksT V (x.mark k) j++markT (x.mark k j) from rfl);have PO:=Lib.hid (markP_ok (HSL.out j hlj));have hml:=markT_len (HSL.out j hlj);have hlen:=marksT_len V (x.mark k) j (fun i hi=>HSL.out i (by omega));generalize x.mark k j=y at *;generalize marksT V (x.mark k) j=T2 at *;have n1:¬ (9223372036854775807<T2.length+(markT y).length):=by omega
       clear hml hlen;go_upto_region 20 with (fail)
       generalize hW:World.alloc _ _=W;obtain⟨z0,hz,hB⟩:=blocks1 hW;have I1:=Lib.hid (I0.out.grow hB);have c0:=cellAt z0 0;have c1:=cellAt z0 1;have c2:=cellAt z0 2;simp only [List.getElem?_toArray,List.getElem?_cons_zero,List.getElem?_cons_succ] at c0 c1 c2;clear hW hz hB z0 I0;have I2:=Lib.hid (I1.out.grow ((Below.refl W.heap.size W).alloc (Nat.le_refl _) (.cells (valsOf (fun i=>(markP y i).v) 4).toArray 20)));have C1:=Lib.hid (said_any (some ⟨W.heap.size,0,none⟩) 4 4 (markP y) (W.alloc (.cells (valsOf (fun i=>(markP y i).v) 4).toArray 20)) (show PartsAt _ _ 4 (markP y) from row_box (n:=4) (t:=20) (cell:=fun i=>(markP y i).v) (heap_alloc_new W _) (by unfold maxLen; omega)) (fun i _=>PO.out i) (by omega) I2.out.tab);rw [markP_text] at C1
       have e7:(valsOf (fun i=>(markP y i).v) 4).toArray = #[.iface 9 (.string ⟨#[32]⟩),.iface 3 (.int .i64 y.f),.iface 9 (.string ⟨#[61]⟩),.iface 128 (.agg #[.int .i64 y.lo,.int .i64 y.hi])]:=by
        simp [valsOf,List.range_succ,markP,Part.v]
       rw [e7] at I2 C1;clear e7;go_wp2_with (go_at_call 101; refine C1.out.mono ?_);rintro e w4 ⟨rfl,hb1⟩;have I3:=Lib.hid (I2.out.grow hb1);clear hb1 C1 I1 I2 PO c0 c1 c2;go_wp2_with fail;exact⟨⟨j+1,hlj,by go_num,by rw [HK2.out],I3.out⟩,by simp [intOf]; omega⟩
      ·obtain rfl:x.sl k=j:=by omega
       have hlen:=marksT_len V (x.mark k) (x.sl k) (fun i hi=>HSL.out i hi);generalize marksT V (x.mark k) (x.sl k)=T2 at *;have n1:¬ (9223372036854775807<T2.length+1):=by omega
       clear hlen;go_wp2_with fail;exact⟨⟨k+1,hlt,by go_num,by rw [HK.out],I0.out⟩,by simp [intOf]; omega⟩
    ·obtain rfl:k=x.sn:=by omega
     have hlen:=strakesT_len T1 OK.out x.sn (Nat.le_refl _);generalize strakesT T1 x x.sn=T2 at *;have hl2:T2.length≤20000:=by omega
     clear hlen;have CL:=Lib.hid OK.out.cl;go_wp2_with fail
     go_loopw [3,95] (fun v i wi => ∃ k:Nat,k≤x.cn∧i = .int .i64 k∧v = .string ⟨(claimsT T2 x.claim k).toArray⟩∧IT w x oa ma sa ca oc mc sc cc op sp ok sk wi) (fun _ i _=>x.cn - (intOf i).toNat)
     case atStart=>exact⟨0,Nat.zero_le _,rfl,rfl,I1.out⟩
     case round =>
      clear I1 q0 q1 q2 q3 q4;obtain⟨k,hk,rfl,rfl,h1⟩:=hrel;have I0:=Lib.hid h1;clear h1;by_cases hlt:k<x.cn
      ·have hi:=fun w=>run_indexAt_row (w:=w) (cap:=cc) claims32 size82 (I0.out.inv.rr.c.plain (by omega)) hlt
       obtain⟨g0,g1,g2⟩:=I0.out.inv.rr.c.at hlt;have HK2:=Lib.hid (show claimsT T2 x.claim (k+1)=claimsT T2 x.claim k++claimT (x.claim k) from rfl);have PO:=Lib.hid (claimP_ok (CL.out k hlt));have hml:=claimT_len (CL.out k hlt);have hlen:=claimsT_len T2 x.claim k (fun i hi=>CL.out i (by omega));generalize x.claim k=y at *;generalize claimsT T2 x.claim k=T3 at *;have n1:¬ (9223372036854775807<T3.length+(claimT y).length):=by omega
       clear hml hlen;go_upto_region 28 with (fail)
       generalize hW:World.alloc _ _=W;obtain⟨z0,hz,hB⟩:=blocks1 hW;have I1:=Lib.hid (I0.out.grow hB);have c0:=cellAt z0 0;have c1:=cellAt z0 1;have c2:=cellAt z0 2;simp only [List.getElem?_toArray,List.getElem?_cons_zero,List.getElem?_cons_succ] at c0 c1 c2;clear hW hz hB z0 I0;have I2:=Lib.hid (I1.out.grow ((Below.refl W.heap.size W).alloc (Nat.le_refl _) (.cells (valsOf (fun i=>(claimP y i).v) 6).toArray 20)));have C1:=Lib.hid (said_any (some ⟨W.heap.size,0,none⟩) 6 6 (claimP y) (W.alloc (.cells (valsOf (fun i=>(claimP y i).v) 6).toArray 20)) (show PartsAt _ _ 6 (claimP y) from row_box (n:=6) (t:=20) (cell:=fun i=>(claimP y i).v) (heap_alloc_new W _) (by unfold maxLen; omega)) (fun i _=>PO.out i) (by omega) I2.out.tab);rw [claimP_text] at C1
       have e7:(valsOf (fun i=>(claimP y i).v) 6).toArray = #[.iface 9 (.string ⟨#[99,108,97,105,109,32]⟩),.iface 3 (.int .i64 y.s),.iface 9 (.string ⟨#[32]⟩),.iface 9 (.string ⟨(notT y.n).toArray⟩),.iface 3 (.int .i64 y.o),.iface 9 (.string ⟨#[10]⟩)]:=by
        simp [valsOf,List.range_succ,claimP,Part.v]
       rw [e7] at I2 C1;clear e7;have HNT:=Lib.hid (show notT y.n=if y.n then [33] else [] from rfl);generalize notT y.n=N at *;generalize y.n=b at *
       cases b with
       | true =>
        obtain rfl:N = [33]:=HNT.out;go_wp2_with (go_at_call 101; refine C1.out.mono ?_);rintro e w4 rfl hb1;have I3:=Lib.hid (I2.out.grow (by rw [sizeAlloc]; exact hb1));clear hb1 C1 I1 I2 PO c0 c1 c2;go_wp2_with fail;exact⟨⟨k+1,hlt,by go_num,by rw [HK2.out],I3.out⟩,by simp [intOf]; omega⟩
       | false =>
        obtain rfl:N = []:=HNT.out;go_wp2_with (go_at_call 101; refine C1.out.mono ?_);rintro e w4 ⟨rfl,hb1⟩;have I3:=Lib.hid (I2.out.grow hb1);clear hb1 C1 I1 I2 PO c0 c1 c2;go_wp2_with fail;exact⟨⟨k+1,hlt,by go_num,by rw [HK2.out],I3.out⟩,by simp [intOf]; omega⟩
      ·obtain rfl:k=x.cn:=by omega
       go_wp2_with fail;go_ret;exact⟨by rw [HE.out]; rfl,I0.out.inv.bel⟩
end Go.Proofs.YtclbmlmlhiiaeaaGreatDoor
namespace Go.Proofs.YtclbmlmlhiiaeaaGreatDoor
open Go.RowKit
attribute [local go_sem] ba_app List.append_toArray List.length_append
theorem PT.cells{w W:World}{hr fr pe:Int}{fa qa:Option Addr}{fn fc qn qc:Nat}{F:Nat→Int}{Q:Nat→Pot}(h:PT w hr fr pe fa qa fn fc qn qc F Q W) :
  (W.cell? ⟨w.heap.size,0,none⟩=some (.int .i64 hr)∧W.cell? ⟨w.heap.size,1,none⟩=some (.int .i64 fr)∧W.cell? ⟨w.heap.size,2,none⟩=some (.int .i64 pe))∧PT w hr fr pe fa qa fn fc qn qc F Q W :=
 ⟨⟨h.inv.cells.1,h.inv.cells.2.1,h.inv.cells.2.2.1⟩,h⟩
end Go.Proofs.YtclbmlmlhiiaeaaGreatDoor
