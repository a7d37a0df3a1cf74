/- What a pitch must be; a row that has nothing is appended. Wa -/
import Derived.Test.YtclbmlmlhiiaeaaGreatDoorQC8
import Derived.Laws.AppendOwnNone
namespace Go.Proofs.YtclbmlmlhiiaeaaGreatDoor
open Go.RowKit
theorem run_append_zero{w:World}(base:Nat)(t ty e:TypeId)(i:TypeInfo)(size:Nat)(ht:Tryz.prog.underlying t=some (.slice e))(hi:Tryz.prog.info? e=some i)
  (v:Value) (n:Nat) (xs:List Value) (hown:w.ownsRow base e size v n xs) (oa:Option Addr) (c:Nat) :
  (Builtin.append_ #[t,t] ty #[v,.slice oa 0 c]).run Tryz.prog w = .ok v w:=by
 rcases hown.2 with ⟨rfl,rfl⟩ | ⟨g,cap,cur,rfl,_,_,hnc,_⟩
 ·cases oa <;> simp [Builtin.append_,run_underlying ht,sizeOf,typeInfo,hi,Builtin.lenOf,Builtin.firstCells,loadCells,loadCellsFrom]
 ·cases oa <;> simp [Builtin.append_,run_underlying ht,sizeOf,typeInfo,hi,Builtin.lenOf,Builtin.firstCells,hnc,storeCells,loadCells,loadCellsFrom]
theorem wpList_app0{t E:TypeId}(he:Elem t E){w:World}{ops:Array Oper}{rest:List Oper}{o:Oper}{a:Act}{Q:Exit→Act→World→Prop}(hgd:o.guard=none)(s x:Operand)
  (ho:o.op = .call {callee:=.builtin .append,args:=#[s,x],argTypes:=#[t,t]}) {base n c:Nat} {v:Value} {xs:List Value} (hs:a.eval s=v) (hown:w.ownsRow base E 1 v n xs)
  {oa:Option Addr} (hx:a.eval x = .slice oa 0 c) (h:wpList Tryz.prog ops Q rest (a.put o.dst v) w):wpList Tryz.prog ops Q (o::rest) a w:=by
 obtain⟨i,z,bytes,hi,hz,hsz,hby,hzs,hb8⟩:=he.info;refine wpList_plain hgd fun K hK=>?_;have hrun:=run_append_zero (w:=w) base t o.type E i 1 he.slice hi v n xs hown oa c;unfold Oper.wp;simp [execOp,ho,resolve,invoke,builtin,hs,hx,hrun,Result.andThen];exact hK _ _ h
theorem wpList_appAny{t E:TypeId}(he:Elem t E){ops:Array Oper}{rest:List Oper}{o:Oper}{a:Act}{w:World}{Q:Exit→Act→World→Prop}(hgd:o.guard=none)(s x:Operand)
  (ho:o.op = .call {callee:=.builtin .append,args:=#[s,x],argTypes:=#[t,t]}) {base n m c:Nat} {v:Value} {cell:Nat→Value} (hs:a.eval s=v) (hown:w.ownsRow base E 1 v n (valsOf cell n))
  {oa:Option Addr} {cell':Nat→Value} (hx:a.eval x = .slice oa m c) (hrow:Row w oa m 1 (fun i _=>cell' i)) (h1:∀ i,(cell' i).oneCell'=true)
  (hlim:n+m≤1000000) (hbase:base≤w.heap.size)
  (h:∀ v' w',w'.ownsRow base E 1 v' (n+m) (valsOf (fun i=>if i<n then cell i else cell' (i - n)) (n+m))→w.grownBy w' v.ownBlock→wpList Tryz.prog ops Q rest (a.put o.dst v') w'):wpList Tryz.prog ops Q (o::rest) a w:=by
 rcases Nat.eq_zero_or_pos m with rfl | hm
 ·refine wpList_app0 he hgd s x ho hs hown hx (h v w ?_ ?_)
  ·rw [Nat.add_zero,valsOf_congr (g:=cell) (fun i hi=>by rw [if_pos hi])]
   exact hown
  ·exact World.grownBy.refl _ _
 ·exact wpList_app he hgd s x ho hs hown hx hm hrow h1 hlim hbase h
theorem pow_le12{H:Nat}(h:H≤12):(1:Int)≤2 ^ H∧(2:Int) ^ H≤4096:=by
 have h1:(2:Nat) ^ H≤2 ^ 12:=Nat.pow_le_pow_right (by omega) h;have h2:(1:Nat)≤2 ^ H:=Nat.one_le_two_pow;have h3:(2:Int) ^ H=((2 ^ H:Nat):Int):=by simp
 omega
structure Pot where
 h:Int
 f:Int
 b:Int
def Pot.cell(x:Pot):Nat→Value
 | 0=>.int .i64 x.h
 | 1=>.int .i64 x.f
 | _=>.int .i64 x.b
def PotsAt(w:World)(oa:Option Addr)(n:Nat)(Q:Nat→Pot):Prop:=Row w oa n 3 (fun i j=>(Q i).cell j)
theorem PotsAt.grow{w w':World}{oa:Option Addr}{n:Nat}{Q:Nat→Pot}(h:PotsAt w oa n Q)(hb:Below w.heap.size w w'):PotsAt w' oa n Q:=Row.grow h hb
theorem PotsAt.at{w:World}{oa:Option Addr}{n:Nat}{Q:Nat→Pot}(h:PotsAt w oa n Q){k:Nat}(hk:k<n) :
  w.cell? ⟨blk oa,ofs oa+k * 3,none⟩=some (.int .i64 (Q k).h)∧w.cell? ⟨blk oa,ofs oa+k * 3+1,none⟩=some (.int .i64 (Q k).f)∧w.cell? ⟨blk oa,ofs oa+k * 3+2,none⟩=some (.int .i64 (Q k).b) :=
 ⟨h.cells k hk 0 (by omega),h.cells k hk 1 (by omega),h.cells k hk 2 (by omega)⟩
def setB(h x:Int):Bool:=inB x 0 (2 ^ h.toNat - 1)
def okQ(h:Int)(q:Pot):Bool:=inB q.h 1 12&&inB q.f 0 h&&inB q.b 0 h
def setsOf(fr pe:Int)(F:Nat→Int)(i:Nat):Int:=if i=0 then fr else if i=1 then pe else F (i - 2)
def headB(hr:Int)(fn qn:Nat):Bool:=inB hr 0 12&&decide ((fn:Int)≤3)&&decide ((qn:Int)≤4)
def pitchB(hr fr pe:Int)(F:Nat→Int)(fn:Nat)(Q:Nat→Pot)(qn:Nat):Bool :=
 headB hr fn qn&&allB (fun i=>setB hr (setsOf fr pe F i)) (2+fn)&&allB (fun i=>okQ hr (Q i)) qn
theorem size147:(Tryz.prog.info? 147).map (·.size)=some 3:=by kernel_rfl
theorem ints26:Tryz.prog.underlying 26=some (.slice 3):=by kernel_rfl
theorem pots27:Tryz.prog.underlying 27=some (.slice 147):=by kernel_rfl
structure PI (w:World) (hr fr pe:Int) (fa qa:Option Addr) (fn fc qn qc:Nat) (F:Nat→Int) (Q:Nat→Pot) (W:World):Prop where
 bel:Below w.heap.size w W
 box:BoxAt W w.heap.size #[.int .i64 hr,.int .i64 fr,.int .i64 pe,.slice fa fn fc,.slice qa qn qc] 29
 ff:IntsAt W fa fn F
 qq:PotsAt W qa qn Q
theorem PI.grow{w W W':World}{hr fr pe:Int}{fa qa:Option Addr}{fn fc qn qc:Nat}{F:Nat→Int}{Q:Nat→Pot}(h:PI w hr fr pe fa qa fn fc qn qc F Q W)(hb:Below W.heap.size W W'):PI w hr fr pe fa qa fn fc qn qc F Q W' :=
 ⟨h.bel.next hb,h.box.grow hb,h.ff.grow hb,h.qq.grow hb⟩
theorem PI.cells{w W:World}{hr fr pe:Int}{fa qa:Option Addr}{fn fc qn qc:Nat}{F:Nat→Int}{Q:Nat→Pot}(h:PI w hr fr pe fa qa fn fc qn qc F Q W) :
  W.cell? ⟨w.heap.size,0,none⟩=some (.int .i64 hr)∧W.cell? ⟨w.heap.size,1,none⟩=some (.int .i64 fr)∧W.cell? ⟨w.heap.size,2,none⟩=some (.int .i64 pe)∧W.cell? ⟨w.heap.size,3,none⟩=some (.slice fa fn fc)∧W.cell? ⟨w.heap.size,4,none⟩=some (.slice qa qn qc) :=
 ⟨cellAt h.box 0,cellAt h.box 1,cellAt h.box 2,cellAt h.box 3,cellAt h.box 4⟩
set_option maxRecDepth 100000 in
set_option maxHeartbeats 4000000 in
theorem isPitch_any(hr fr pe:Int)(fa qa:Option Addr)(fn fc qn qc:Nat)(F:Nat→Int)(Q:Nat→Pot)(w:World)(hF:IntsAt w fa fn F)(hQ:PotsAt w qa qn Q) :
  Calls Tryz.prog 114 #[.agg #[.int .i64 hr,.int .i64 fr,.int .i64 pe,.slice fa fn fc,.slice qa qn qc]] w fun e w'=>e = .returned (.bool (pitchB hr fr pe F fn Q qn))∧Below w.heap.size w w':=by
 have hfm:=hF.small;have hqm:=hQ.small;unfold maxLen at hfm hqm;have hb0:=(Below.refl w.heap.size w).alloc (Nat.le_refl _) (.cells #[.int .i64 hr,.int .i64 fr,.int .i64 pe,.slice fa fn fc,.slice qa qn qc] 29);have I0:=Lib.hid (show PI w hr fr pe fa qa fn fc qn qc F Q (w.alloc (.cells #[.int .i64 hr,.int .i64 fr,.int .i64 pe,.slice fa fn fc,.slice qa qn qc] 29)) from⟨hb0,heap_alloc_new _ _,hF.grow hb0,hQ.grow hb0⟩);clear hF hQ hb0;go_enter Tryz.func114,Tryz.ntmps114;go_upto_region 1 with (fail)
 generalize hW:World.alloc _ _=W0 at *;obtain⟨q0,q1,q2,q3,q4⟩:=I0.out.cells;clear hW;by_cases hh:headB hr fn qn=true
 case neg =>
  have HN:=Lib.hid (show false=pitchB hr fr pe F fn Q qn from by unfold pitchB; rw [show headB hr fn qn=false by simpa using hh]; rfl);have hn:inB hr 0 12=true→(fn:Int)≤3 → ¬ (qn:Int)≤4:=fun h1 h2 h3=>hh (by unfold headB; rw [h1]; simp [h2,h3]);clear hh;by_cases h1:inB hr 0 12=true
  ·by_cases h2:(fn:Int)≤3
   ·have h3:=hn h1 h2
    clear hn;go_wp2_with (go_at_call 122; refine(within_any _ _ _ _).mono ?_; rintro e w' ⟨rfl,rfl⟩)
    all_goals (go_ret; exact⟨ret_bool HN.out,I0.out.bel⟩)
   ·clear hn
    go_wp2_with (go_at_call 122; refine(within_any _ _ _ _).mono ?_; rintro e w' ⟨rfl,rfl⟩)
    all_goals (go_ret; exact⟨ret_bool HN.out,I0.out.bel⟩)
  ·clear hn
   go_wp2_with (go_at_call 122; refine(within_any _ _ _ _).mono ?_; rintro e w' ⟨rfl,rfl⟩)
   all_goals (go_ret; exact⟨ret_bool HN.out,I0.out.bel⟩)
 have HH:=Lib.hid hh
 obtain⟨h1,h2,h3⟩:inB hr 0 12=true∧(fn:Int)≤3∧(qn:Int)≤4:=by
  unfold headB at hh;simp only [Bool.and_eq_true,decide_eq_true_eq] at hh;exact⟨hh.1.1,hh.1.2,hh.2⟩
 clear hh;have t2:decide (3<(fn:Int))=false:=decide_eq_false (by omega);have t3:decide (4<(qn:Int))=false:=decide_eq_false (by omega);go_upto_region 4 with (go_at_call 122; refine(within_any _ _ _ _).mono ?_; rintro e w' ⟨rfl,rfl⟩)
 have hb1:=(Below.refl W0.heap.size W0).alloc (Nat.le_refl _) (.cells #[.int .i64 fr,.int .i64 pe] 3);have I1:=Lib.hid (I0.out.grow hb1)
 have O1:=Lib.hid (show(W0.alloc (.cells #[.int .i64 fr,.int .i64 pe] 3)).ownsRow w.heap.size 3 1 (.slice (some ⟨W0.heap.size,0,none⟩) 2 2) 2 (valsOf (intV (setsOf fr pe F)) 2) from
  World.ownsRow_lit W0 #[.int .i64 fr,.int .i64 pe] 2 I0.out.bel.size (by unfold maxLen; omega) rfl)
 obtain⟨r0,r1,r2,r3,r4⟩:=I1.out.cells;clear hb1;go_wp2_with (at_builtin; refine wpList_appAny elem3 rfl (.tmp 28) (.tmp 30) rfl rfl O1.out rfl I1.out.ff (fun _=>rfl) (by omega) I1.out.bel.size ?_);intro v w1 h5 h6;have I2:=Lib.hid (I0.out.grow (((Below.refl W0.heap.size W0).alloc (Nat.le_refl _) (.cells #[.int .i64 fr,.int .i64 pe] 3)).grown h6 (by simp) (fun x e=>by cases e; exact Nat.le_refl _)))
 have h5':w1.ownsRow w.heap.size 3 1 v (2+fn) (valsOf (intV (setsOf fr pe F)) (2+fn)):=by
  rw [valsOf_congr (g:=intV (setsOf fr pe F)) (fun i hi=>by
   by_cases e:i<2
   ·rw [if_pos e]
   ·rw [if_neg e]
    unfold intV setsOf
    rw [if_neg (by omega),if_neg (by omega)])] at h5
  exact h5
 obtain⟨la,lc,rfl,hl,hlo,hlc⟩:=row_of h5' (by unfold maxLen; omega);have L2:=Lib.hid (show IntsAt w1 la (2+fn) (setsOf fr pe F) from hl);have hLB:0<2+fn→blk la<w1.heap.size:=hl.old;obtain⟨H,rfl⟩:∃ H:Nat,hr=H:=⟨hr.toNat,by have:=inB_iff.1 h1; omega⟩
 have hH:H≤12:=by have:=inB_iff.1 h1; omega
 obtain⟨E,hE⟩:∃ E:Int,E=2 ^ H - 1:=⟨_,rfl⟩
 have he:RowKit.wrap64 (RowKit.wrap64 (2 ^ H) - 1)=E:=by
  have:=pow_le12 hH;rw [IntWalk.wrap64_in (2 ^ H) (by omega),IntWalk.wrap64_in (2 ^ H - 1) (by omega),hE]
 have HE:=Lib.hid he;clear he;have HS:=Lib.hid (show ∀ x,setB (H:Int) x=inB x 0 E from fun x=>by unfold setB; rw [hE]; simp);clear hE;clear h5 h5' h6 hl hlo hlc O1 I1 q0 q1 q2 q3 q4 r0 r1 r2 r3 r4 hLB;generalize hN:2+fn=N at *;have hN5:N≤5:=by omega
 have HN:=Lib.hid hN;clear hN;go_wp2_with fail
 go_loopw [3,33] (fun v i wi => ∃ k:Nat,k≤N∧i = .int .i64 k∧v = .bool (allB (fun i=>setB (H:Int) (setsOf fr pe F i)) k)∧PI w (H:Int) fr pe fa qa fn fc qn qc F Q wi∧IntsAt wi la N (setsOf fr pe F)) (fun _ i _=>N - (intOf i).toNat)
 case atStart=>exact⟨0,Nat.zero_le _,rfl,rfl,I2.out,L2.out⟩
 case round =>
  clear I2 L2;obtain⟨k,hk,rfl,rfl,hi2,hl2⟩:=hrel;have I2:=Lib.hid hi2;have L2:=Lib.hid hl2;clear hi2 hl2;obtain⟨r0,r1,r2,r3,r4⟩:=I2.out.cells;have HA:=Lib.hid (show allB (fun i=>setB (H:Int) (setsOf fr pe F i)) (k+1)=(allB (fun i=>setB (H:Int) (setsOf fr pe F i)) k&&setB (H:Int) (setsOf fr pe F k)) from rfl);generalize hA2:allB (fun i=>setB (H:Int) (setsOf fr pe F i)) k=A at *;have HA2:=Lib.hid hA2;clear hA2;by_cases hlt:k<N
  ·have hi:=fun w=>run_indexAt_row (w:=w) (cap:=lc) ints26 size3 (L2.out.plain (by omega)) hlt
   simp only [Nat.mul_one] at hi;have hc:=L2.out.at hlt;generalize setsOf fr pe F k=x at *
   go_upto_block 1 with (fail)
   go_cut [3] from 35 to 45 (fun v wc=>v = .bool (A&&inB x 0 E)∧wc=wr)
   case first =>
    have he:=HE.out;go_wp2_with (go_at_call 122; refine(within_any _ _ _ _).mono ?_; rintro e w' ⟨rfl,rfl⟩)
    all_goals (go_meet; exact⟨by simp_all,rfl⟩)
   case rest =>
    obtain⟨rfl,rfl⟩:=hcut;go_wp2_with fail;exact⟨⟨k+1,hlt,by go_num,by rw [HA.out,HS.out],I2.out,L2.out⟩,by simp [intOf]; omega⟩
  ·obtain rfl:k=N:=by omega
   have HZ:=Lib.hid (show pitchB (H:Int) fr pe F fn Q qn=(A&&allB (fun i=>okQ (H:Int) (Q i)) qn) from by
    unfold pitchB;rw [HH.out,HN.out,HA2.out]
    rfl)
   go_wp2_with fail
   go_loopw [3,50] (fun v i wi => ∃ j:Nat,j≤qn∧i = .int .i64 j∧v = .bool (A&&allB (fun i=>okQ (H:Int) (Q i)) j)∧PI w (H:Int) fr pe fa qa fn fc qn qc F Q wi) (fun _ i _=>qn - (intOf i).toNat)
   case atStart=>exact⟨0,Nat.zero_le _,rfl,by simp [allB],I2.out⟩
   case round =>
    clear I2 L2 r0 r1 r2 r3 r4;obtain⟨j,hj,rfl,rfl,h1⟩:=hrel;have I1:=Lib.hid h1;clear h1;by_cases hlt2:j<qn
    ·have hi:=fun w=>run_indexAt_row (w:=w) (cap:=qc) pots27 size147 (I1.out.qq.plain (by omega)) hlt2
     obtain⟨g0,g1,g2⟩:=I1.out.qq.at hlt2;have HA3:=Lib.hid (show allB (fun i=>okQ (H:Int) (Q i)) (j+1)=(allB (fun i=>okQ (H:Int) (Q i)) j&&okQ (H:Int) (Q j)) from rfl);generalize Q j=x at *;generalize allB (fun i=>okQ (H:Int) (Q i)) j=A2 at *
     go_upto_block 3 with (fail)
     go_cut [3] from 52 to 73 (fun v wc=>v = .bool (A&&A2&&okQ (H:Int) x)∧PI w (H:Int) fr pe fa qa fn fc qn qc F Q wc)
     case first =>
      go_upto_region 12 with (fail)
      generalize hW:World.alloc _ _=W;obtain⟨z0,hz,hB⟩:=blocks1 hW;have I2:=Lib.hid (I1.out.grow hB);obtain⟨p0,p1,p2,p3,p4⟩:=I2.out.cells;have c0:=cellAt z0 0;have c1:=cellAt z0 1;have c2:=cellAt z0 2;simp only [List.getElem?_toArray,List.getElem?_cons_zero,List.getElem?_cons_succ] at c0 c1 c2;clear hW hz hB z0;go_wp2_with (go_at_call 122; refine(within_any _ _ _ _).mono ?_; rintro e w' ⟨rfl,rfl⟩)
      all_goals (go_meet; exact⟨by simp_all [okQ],I2.out⟩)
     case rest =>
      obtain⟨rfl,h2⟩:=hcut;have I2:=Lib.hid h2;clear h2 I1;go_wp2_with fail;exact⟨⟨j+1,hlt2,by go_num,by rw [HA3.out,← Bool.and_assoc],I2.out⟩,by simp [intOf]; omega⟩
    ·obtain rfl:j=qn:=by omega
     go_wp2_with fail;go_ret;exact⟨ret_bool (by rw [HZ.out]),I1.out.bel⟩
structure IMark where
 f:Int
 lo:Int
 hi:Int
structure IClaim where
 s:Int
 o:Int
 n:Bool
def IMark.cell(x:IMark):Nat→Value
 | 0=>.int .i64 x.f
 | 1=>.int .i64 x.lo
 | _=>.int .i64 x.hi
def IClaim.cell(x:IClaim):Nat→Value
 | 0=>.int .i64 x.s
 | 1=>.int .i64 x.o
 | _=>.bool x.n
structure IronsV where
 f:Int
 on:Nat
 ol:Nat→Nat
 own:Nat→Nat→Int
 mn:Nat
 most:Nat→Int
 sn:Nat
 sl:Nat→Nat
 mark:Nat→Nat→IMark
 cn:Nat
 claim:Nat→IClaim
def MarksAt(w:World)(oa:Option Addr)(n:Nat)(M:Nat→IMark):Prop:=Row w oa n 3 (fun i j=>(M i).cell j)
def ClaimsAt(w:World)(oa:Option Addr)(n:Nat)(M:Nat→IClaim):Prop:=Row w oa n 3 (fun i j=>(M i).cell j)
theorem MarksAt.grow{w w':World}{oa:Option Addr}{n:Nat}{M:Nat→IMark}(h:MarksAt w oa n M)(hb:Below w.heap.size w w'):MarksAt w' oa n M:=Row.grow h hb
theorem ClaimsAt.grow{w w':World}{oa:Option Addr}{n:Nat}{M:Nat→IClaim}(h:ClaimsAt w oa n M)(hb:Below w.heap.size w w'):ClaimsAt w' oa n M:=Row.grow h hb
theorem MarksAt.at{w:World}{oa:Option Addr}{n:Nat}{M:Nat→IMark}(h:MarksAt w oa n M){k:Nat}(hk:k<n) :
  w.cell? ⟨blk oa,ofs oa+k * 3,none⟩=some (.int .i64 (M k).f)∧w.cell? ⟨blk oa,ofs oa+k * 3+1,none⟩=some (.int .i64 (M k).lo)∧w.cell? ⟨blk oa,ofs oa+k * 3+2,none⟩=some (.int .i64 (M k).hi) :=
 ⟨h.cells k hk 0 (by omega),h.cells k hk 1 (by omega),h.cells k hk 2 (by omega)⟩
theorem ClaimsAt.at{w:World}{oa:Option Addr}{n:Nat}{M:Nat→IClaim}(h:ClaimsAt w oa n M){k:Nat}(hk:k<n) :
  w.cell? ⟨blk oa,ofs oa+k * 3,none⟩=some (.int .i64 (M k).s)∧w.cell? ⟨blk oa,ofs oa+k * 3+1,none⟩=some (.int .i64 (M k).o)∧w.cell? ⟨blk oa,ofs oa+k * 3+2,none⟩=some (.bool (M k).n) :=
 ⟨h.cells k hk 0 (by omega),h.cells k hk 1 (by omega),h.cells k hk 2 (by omega)⟩
def SlicesAt(w:World)(oa:Option Addr)(n:Nat)(p:Nat→Option Addr)(l c:Nat→Nat):Prop:=Row w oa n 1 (fun i _=>.slice (p i) (l i) (c i))
structure IronsAt (x:IronsV) (oa ma sa ca:Option Addr) (oc mc sc cc:Nat) (op sp:Nat→Option Addr) (ok sk:Nat→Nat) (W:World):Prop where
 o:SlicesAt W oa x.on op x.ol ok
 oi:∀ i,i<x.on→IntsAt W (op i) (x.ol i) (x.own i)
 m:IntsAt W ma x.mn x.most
 s:SlicesAt W sa x.sn sp x.sl sk
 si:∀ i,i<x.sn→MarksAt W (sp i) (x.sl i) (x.mark i)
 c:ClaimsAt W ca x.cn x.claim
theorem IronsAt.grow{x:IronsV}{oa ma sa ca:Option Addr}{oc mc sc cc:Nat}{op sp:Nat→Option Addr}{ok sk:Nat→Nat}{W W':World}(h:IronsAt x oa ma sa ca oc mc sc cc op sp ok sk W)(hb:Below W.heap.size W W'):IronsAt x oa ma sa ca oc mc sc cc op sp ok sk W' :=
 ⟨Row.grow h.o hb,fun i hi=>(h.oi i hi).grow hb,h.m.grow hb,Row.grow h.s hb,fun i hi=>(h.si i hi).grow hb,h.c.grow hb⟩
def headI(x:IronsV):Bool:=inB x.f 0 4&&decide ((x.on:Int)≤5)&&((x.mn:Int)==(x.on:Int))&&decide ((x.sn:Int)≤6)&&decide ((x.cn:Int)≤8)
def okO(x:IronsV)(i:Nat):Bool:=((x.ol i:Int)==x.f)&&allB (fun j=>inB (x.own i j) 0 9) (x.ol i)
def okM(f:Int)(m:IMark):Bool:=inB m.f 0 (f - 1)&&spanB m.lo m.hi 0 9
def okK(x:IronsV)(i:Nat):Bool:=decide ((x.sl i:Int)≤6)&&allB (fun j=>okM x.f (x.mark i j)) (x.sl i)
def okC(sn on:Nat)(c:IClaim):Bool:=inB c.s 0 ((sn:Int) - 1)&&inB c.o 0 ((on:Int) - 1)
def ironsB(x:IronsV):Bool :=
 headI x&&allB (okO x) x.on&&allB (fun i=>inB (x.most i) 0 6) x.mn&&allB (okK x) x.sn&&allB (fun i=>okC x.sn x.on (x.claim i)) x.cn
theorem size26:(Tryz.prog.info? 26).map (·.size)=some 1:=by kernel_rfl
theorem size85:(Tryz.prog.info? 85).map (·.size)=some 1:=by kernel_rfl
theorem size82:(Tryz.prog.info? 82).map (·.size)=some 3:=by kernel_rfl
theorem size149:(Tryz.prog.info? 149).map (·.size)=some 3:=by kernel_rfl
theorem owners30:Tryz.prog.underlying 30=some (.slice 26):=by kernel_rfl
theorem strakes31:Tryz.prog.underlying 31=some (.slice 85):=by kernel_rfl
theorem claims32:Tryz.prog.underlying 32=some (.slice 82):=by kernel_rfl
theorem marks85:Tryz.prog.underlying 85=some (.slice 149):=by kernel_rfl
structure II (w:World) (x:IronsV) (oa ma sa ca:Option Addr) (oc mc sc cc:Nat) (op sp:Nat→Option Addr) (ok sk:Nat→Nat) (W:World):Prop where
 bel:Below w.heap.size w W
 box:BoxAt W w.heap.size #[.int .i64 x.f,.slice oa x.on oc,.slice ma x.mn mc,.slice sa x.sn sc,.slice ca x.cn cc] 34
 rr:IronsAt x oa ma sa ca oc mc sc cc op sp ok sk W
theorem II.grow{w W W':World}{x:IronsV}{oa ma sa ca:Option Addr}{oc mc sc cc:Nat}{op sp:Nat→Option Addr}{ok sk:Nat→Nat}(h:II w x oa ma sa ca oc mc sc cc op sp ok sk W)(hb:Below W.heap.size W W'):II w x oa ma sa ca oc mc sc cc op sp ok sk W' :=
 ⟨h.bel.next hb,h.box.grow hb,h.rr.grow hb⟩
theorem II.cells{w W:World}{x:IronsV}{oa ma sa ca:Option Addr}{oc mc sc cc:Nat}{op sp:Nat→Option Addr}{ok sk:Nat→Nat}(h:II w x oa ma sa ca oc mc sc cc op sp ok sk W) :
  W.cell? ⟨w.heap.size,0,none⟩=some (.int .i64 x.f)∧W.cell? ⟨w.heap.size,1,none⟩=some (.slice oa x.on oc)∧W.cell? ⟨w.heap.size,2,none⟩=some (.slice ma x.mn mc)∧W.cell? ⟨w.heap.size,3,none⟩=some (.slice sa x.sn sc)∧W.cell? ⟨w.heap.size,4,none⟩=some (.slice ca x.cn cc) :=
 ⟨cellAt h.box 0,cellAt h.box 1,cellAt h.box 2,cellAt h.box 3,cellAt h.box 4⟩
set_option maxRecDepth 100000 in
set_option maxHeartbeats 8000000 in
theorem isIrons_any(x:IronsV)(oa ma sa ca:Option Addr)(oc mc sc cc:Nat)(op sp:Nat→Option Addr)(ok sk:Nat→Nat)(w:World)(hR:IronsAt x oa ma sa ca oc mc sc cc op sp ok sk w) :
  Calls Tryz.prog 121 #[.agg #[.int .i64 x.f,.slice oa x.on oc,.slice ma x.mn mc,.slice sa x.sn sc,.slice ca x.cn cc]] w fun e w'=>e = .returned (.bool (ironsB x))∧Below w.heap.size w w':=by
 have l1:=hR.o.small;have l2:=hR.m.small;have l3:=hR.s.small;have l4:=hR.c.small;unfold maxLen at l1 l2 l3 l4;have hb0:=(Below.refl w.heap.size w).alloc (Nat.le_refl _) (.cells #[.int .i64 x.f,.slice oa x.on oc,.slice ma x.mn mc,.slice sa x.sn sc,.slice ca x.cn cc] 34);have I0:=Lib.hid (show II w x oa ma sa ca oc mc sc cc op sp ok sk (w.alloc (.cells #[.int .i64 x.f,.slice oa x.on oc,.slice ma x.mn mc,.slice sa x.sn sc,.slice ca x.cn cc] 34)) from⟨hb0,heap_alloc_new _ _,hR.grow hb0⟩);clear hR hb0;go_enter Tryz.func121,Tryz.ntmps121;go_upto_region 1 with (fail)
 generalize hW:World.alloc _ _=W0 at *;obtain⟨q0,q1,q2,q3,q4⟩:=I0.out.cells;clear hW;go_cut [3] from 16 to 45 (fun v W=>v = .bool (headI x)∧W=W0)
 case first =>
  go_wp2_with (go_at_call 122; refine(within_any _ _ _ _).mono ?_; rintro e w' ⟨rfl,rfl⟩)
  all_goals (go_meet; exact⟨by (simp_all [headI]) <;> omega,rfl⟩)
 case rest =>
  obtain⟨rfl,rfl⟩:=hcut;generalize hG:headI x=G;have HG:=Lib.hid hG;clear hG;clear q0 q1 q2 q3 q4;obtain⟨q0,q1,q2,q3,q4⟩:=I0.out.cells
  have HF:=Lib.hid (show G=true→0≤x.f∧x.f≤4 from fun h=>by
   rw [← HG.out] at h;unfold headI at h;simp only [Bool.and_eq_true] at h
   exact inB_iff.1 h.1.1.1.1)
  go_wp2_with fail
  go_loopw [3,49] (fun v i wi => ∃ k:Nat,k≤x.on∧i = .int .i64 k∧v = .bool (G&&allB (okO x) k)∧II w x oa ma sa ca oc mc sc cc op sp ok sk wi) (fun _ i _=>x.on - (intOf i).toNat)
  case atStart=>exact⟨0,Nat.zero_le _,rfl,by simp [allB],I0.out⟩
  case round =>
   clear I0 q0 q1 q2 q3 q4;obtain⟨k,hk,rfl,rfl,h1⟩:=hrel;have I1:=Lib.hid h1;clear h1;obtain⟨q0,q1,q2,q3,q4⟩:=I1.out.cells;by_cases hlt:k<x.on
   ·have hi:=fun w=>run_indexAt_row (w:=w) (cap:=oc) owners30 size26 (I1.out.rr.o.plain (by omega)) hlt
    simp only [Nat.mul_one] at hi;have hc:=I1.out.rr.o.at1 hlt;have HA:=Lib.hid (show allB (okO x) (k+1)=(allB (okO x) k&&(((x.ol k:Int)==x.f)&&allB (fun j=>inB (x.own k j) 0 9) (x.ol k))) from rfl);have HR:=Lib.hid (I1.out.rr.oi k hlt);have hos:=(I1.out.rr.oi k hlt).small;unfold maxLen at hos;generalize allB (okO x) k=A at *;go_upto_region 5 with (fail)
    go_cut [3] from 53 to 60 (fun v W=>v = .bool (G&&A&&((x.ol k:Int)==x.f))∧W=wr)
    case first =>
     go_wp2_with fail
     all_goals (go_meet; exact⟨by simp_all,rfl⟩)
    case rest =>
     obtain⟨rfl,rfl⟩:=hcut;generalize hB:((x.ol k:Int)==x.f)=B at *;have HB:=Lib.hid hB;clear hB hi hc;go_wp2_with fail
     go_loopw [3,63] (fun v i wi => ∃ j:Nat,j≤x.ol k∧i = .int .i64 j∧v = .bool (G&&A&&B&&allB (fun j=>inB (x.own k j) 0 9) j)∧II w x oa ma sa ca oc mc sc cc op sp ok sk wi) (fun _ i _=>x.ol k - (intOf i).toNat)
     case atStart=>exact⟨0,Nat.zero_le _,rfl,by simp [allB],I1.out⟩
     case round =>
      clear I1 HR q0 q1 q2 q3 q4;obtain⟨j,hj,rfl,rfl,h1⟩:=hrel;have I1:=Lib.hid h1;clear h1;by_cases hlj:j<x.ol k
      ·have hi:=fun w=>run_indexAt_row (w:=w) (cap:=ok k) ints26 size3 ((I1.out.rr.oi k hlt).plain (by omega)) hlj
       simp only [Nat.mul_one] at hi;have hc:=(I1.out.rr.oi k hlt).at hlj;have HC:=Lib.hid (show allB (fun j=>inB (x.own k j) 0 9) (j+1)=(allB (fun j=>inB (x.own k j) 0 9) j&&inB (x.own k j) 0 9) from rfl);generalize allB (fun j=>inB (x.own k j) 0 9) j=C at *;generalize x.own k j=y at *
       go_upto_block 3 with (fail)
       go_cut [3] from 65 to 71 (fun v W=>v = .bool (G&&A&&B&&C&&inB y 0 9)∧W=wr)
       case first =>
        go_wp2_with (go_at_call 122; refine(within_any _ _ _ _).mono ?_; rintro e w' ⟨rfl,rfl⟩)
        all_goals (go_meet; exact⟨by simp_all,rfl⟩)
       case rest =>
        obtain⟨rfl,rfl⟩:=hcut;go_wp2_with fail;exact⟨⟨j+1,hlj,by go_num,by rw [HC.out]; simp only [Bool.and_assoc],I1.out⟩,by simp [intOf]; omega⟩
      ·obtain rfl:x.ol k=j:=by omega
       have HO:=Lib.hid (show(G&&allB (okO x) (k+1))=(G&&A&&B&&allB (fun j=>inB (x.own k j) 0 9) (x.ol k)) from by rw [HA.out]; simp only [Bool.and_assoc]);go_wp2_with fail;exact⟨⟨k+1,hlt,by go_num,by rw [HO.out],I1.out⟩,by simp [intOf]; omega⟩
   ·obtain rfl:k=x.on:=by omega
    generalize hA1:(G&&allB (okO x) x.on)=A1;have HA1:=Lib.hid hA1;clear hA1;have HG1:=Lib.hid (show A1=true→0≤x.f∧x.f≤4 from fun h=>HF.out (by rw [← HA1.out,Bool.and_eq_true] at h; exact h.1));go_wp2_with fail
    go_loopw [3,77] (fun v i wi => ∃ k:Nat,k≤x.mn∧i = .int .i64 k∧v = .bool (A1&&allB (fun i=>inB (x.most i) 0 6) k)∧II w x oa ma sa ca oc mc sc cc op sp ok sk wi) (fun _ i _=>x.mn - (intOf i).toNat)
    case atStart=>exact⟨0,Nat.zero_le _,rfl,by simp [allB],I1.out⟩
    case round =>
     clear I1 q0 q1 q2 q3 q4;obtain⟨k,hk,rfl,rfl,h1⟩:=hrel;have I1:=Lib.hid h1;clear h1;obtain⟨q0,q1,q2,q3,q4⟩:=I1.out.cells;by_cases hlt:k<x.mn
     ·have hi:=fun w=>run_indexAt_row (w:=w) (cap:=mc) ints26 size3 (I1.out.rr.m.plain (by omega)) hlt
      simp only [Nat.mul_one] at hi;have hc:=I1.out.rr.m.at hlt;have HC:=Lib.hid (show allB (fun i=>inB (x.most i) 0 6) (k+1)=(allB (fun i=>inB (x.most i) 0 6) k&&inB (x.most k) 0 6) from rfl);generalize allB (fun i=>inB (x.most i) 0 6) k=C at *;generalize x.most k=y at *
      go_upto_block 5 with (fail)
      go_cut [3] from 79 to 85 (fun v W=>v = .bool (A1&&C&&inB y 0 6)∧W=wr)
      case first =>
       go_wp2_with (go_at_call 122; refine(within_any _ _ _ _).mono ?_; rintro e w' ⟨rfl,rfl⟩)
       all_goals (go_meet; exact⟨by simp_all,rfl⟩)
      case rest =>
       obtain⟨rfl,rfl⟩:=hcut;go_wp2_with fail;exact⟨⟨k+1,hlt,by go_num,by rw [HC.out,Bool.and_assoc],I1.out⟩,by simp [intOf]; omega⟩
     ·obtain rfl:k=x.mn:=by omega
      generalize hA2:(A1&&allB (fun i=>inB (x.most i) 0 6) x.mn)=A2;have HA2:=Lib.hid hA2;clear hA2;have HG2:=Lib.hid (show A2=true→0≤x.f∧x.f≤4 from fun h=>HG1.out (by rw [← HA2.out,Bool.and_eq_true] at h; exact h.1));go_wp2_with fail
      go_loopw [3,90] (fun v i wi => ∃ k:Nat,k≤x.sn∧i = .int .i64 k∧v = .bool (A2&&allB (okK x) k)∧II w x oa ma sa ca oc mc sc cc op sp ok sk wi) (fun _ i _=>x.sn - (intOf i).toNat)
      case atStart=>exact⟨0,Nat.zero_le _,rfl,by simp [allB],I1.out⟩
      case round =>
       clear I1 q0 q1 q2 q3 q4;obtain⟨k,hk,rfl,rfl,h1⟩:=hrel;have I1:=Lib.hid h1;clear h1;obtain⟨q0,q1,q2,q3,q4⟩:=I1.out.cells;by_cases hlt:k<x.sn
       ·have hi:=fun w=>run_indexAt_row (w:=w) (cap:=sc) strakes31 size85 (I1.out.rr.s.plain (by omega)) hlt
        simp only [Nat.mul_one] at hi;have hc:=I1.out.rr.s.at1 hlt;have HA:=Lib.hid (show allB (okK x) (k+1)=(allB (okK x) k&&(decide ((x.sl k:Int)≤6)&&allB (fun j=>okM x.f (x.mark k j)) (x.sl k))) from rfl);have hos:=(I1.out.rr.si k hlt).small;unfold maxLen at hos;generalize allB (okK x) k=A at *;go_upto_region 20 with (fail)
        go_cut [3] from 94 to 99 (fun v W=>v = .bool (A2&&A&&decide ((x.sl k:Int)≤6))∧W=wr)
        case first =>
         go_wp2_with fail
         all_goals (go_meet; exact⟨by simp_all,rfl⟩)
        case rest =>
         obtain⟨rfl,rfl⟩:=hcut;generalize hB:decide ((x.sl k:Int)≤6)=B at *;have HB:=Lib.hid hB;clear hB hi hc;go_wp2_with fail
         go_loopw [3,102] (fun v i wi => ∃ j:Nat,j≤x.sl k∧i = .int .i64 j∧v = .bool (A2&&A&&B&&allB (fun j=>okM x.f (x.mark k j)) j)∧II w x oa ma sa ca oc mc sc cc op sp ok sk wi) (fun _ i _=>x.sl k - (intOf i).toNat)
         case atStart=>exact⟨0,Nat.zero_le _,rfl,by simp [allB],I1.out⟩
         case round =>
          clear I1 q0 q1 q2 q3 q4;obtain⟨j,hj,rfl,rfl,h1⟩:=hrel;have I1:=Lib.hid h1;clear h1;by_cases hlj:j<x.sl k
          ·have hi:=fun w=>run_indexAt_row (w:=w) (cap:=sk k) marks85 size149 ((I1.out.rr.si k hlt).plain (by omega)) hlj
           obtain⟨g0,g1,g2⟩:=(I1.out.rr.si k hlt).at hlj;have HC:=Lib.hid (show allB (fun j=>okM x.f (x.mark k j)) (j+1)=(allB (fun j=>okM x.f (x.mark k j)) j&&okM x.f (x.mark k j)) from rfl);generalize allB (fun j=>okM x.f (x.mark k j)) j=C at *;generalize x.mark k j=y at *;generalize hD:(A2&&A&&B&&C)=D;have HD:=Lib.hid hD;have HG3:=Lib.hid (show D=true→0≤x.f∧x.f≤4 from fun h=>HG2.out (by rw [← hD] at h; simp only [Bool.and_eq_true] at h; exact h.1.1.1));clear hD
           go_upto_block 9 with (fail)
           go_cut [3] from 104 to 122 (fun v wc=>v = .bool (D&&okM x.f y)∧II w x oa ma sa ca oc mc sc cc op sp ok sk wc)
           case first =>
            go_upto_region 24 with (fail)
            generalize hW:World.alloc _ _=W;obtain⟨z0,hz,hB⟩:=blocks1 hW;have I2:=Lib.hid (I1.out.grow hB);obtain⟨q0,q1,q2,q3,q4⟩:=I2.out.cells;have c0:=cellAt z0 0;have c1:=cellAt z0 1;have c2:=cellAt z0 2;simp only [List.getElem?_toArray,List.getElem?_cons_zero,List.getElem?_cons_succ] at c0 c1 c2;clear hW hz hB z0 I1
            cases D with
            | false =>
             go_wp2_with fail
             go_meet
             exact⟨by simp,I2.out⟩
            | true =>
             obtain⟨f0,f1⟩:=HG3.out rfl;go_wp2_with (first | (go_at_call 122; refine(within_any _ _ _ _).mono ?_; rintro e w' ⟨rfl,rfl⟩) | (go_at_call 124; refine(isSpan_any _ _ _ _ _).mono ?_; rintro e w5 ⟨rfl,hb5⟩; have B5:=Lib.hid hb5; clear hb5))
             all_goals (go_meet; exact⟨by simp_all [okM],by first | exact I2.out.grow B5.out | exact I2.out⟩)
           case rest =>
            obtain⟨rfl,h2⟩:=hcut;have I2:=Lib.hid h2;clear h2 I1;go_wp2_with fail;exact⟨⟨j+1,hlj,by go_num,by rw [HC.out,← Bool.and_assoc,HD.out],I2.out⟩,by simp [intOf]; omega⟩
          ·obtain rfl:x.sl k=j:=by omega
           have HO:=Lib.hid (show(A2&&allB (okK x) (k+1))=(A2&&A&&B&&allB (fun j=>okM x.f (x.mark k j)) (x.sl k)) from by rw [HA.out]; simp only [Bool.and_assoc]);go_wp2_with fail;exact⟨⟨k+1,hlt,by go_num,by rw [HO.out],I1.out⟩,by simp [intOf]; omega⟩
       ·obtain rfl:k=x.sn:=by omega
        generalize hA3:(A2&&allB (okK x) x.sn)=A3;have HA3:=Lib.hid hA3;clear hA3
        have HZ:=Lib.hid (show ironsB x=(A3&&allB (fun i=>okC x.sn x.on (x.claim i)) x.cn) from by
         unfold ironsB
         rw [HG.out,HA1.out,HA2.out,HA3.out])
        have w1:RowKit.wrap64 ((x.sn:Int) - 1)=(x.sn:Int) - 1:=IntWalk.wrap64_in _ (by omega);have w2:RowKit.wrap64 ((x.on:Int) - 1)=(x.on:Int) - 1:=IntWalk.wrap64_in _ (by omega);have HW:=Lib.hid (And.intro w1 w2);clear w1 w2;go_wp2_with fail
        go_loopw [3,128] (fun v i wi => ∃ k:Nat,k≤x.cn∧i = .int .i64 k∧v = .bool (A3&&allB (fun i=>okC x.sn x.on (x.claim i)) k)∧II w x oa ma sa ca oc mc sc cc op sp ok sk wi) (fun _ i _=>x.cn - (intOf i).toNat)
        case atStart=>exact⟨0,Nat.zero_le _,rfl,by simp [allB],I1.out⟩
        case round =>
         clear I1 q0 q1 q2 q3 q4;obtain⟨k,hk,rfl,rfl,h1⟩:=hrel;have I1:=Lib.hid h1;clear h1;by_cases hlj:k<x.cn
         ·have hi:=fun w=>run_indexAt_row (w:=w) (cap:=cc) claims32 size82 (I1.out.rr.c.plain (by omega)) hlj
          obtain⟨g0,g1,g2⟩:=I1.out.rr.c.at hlj;have HC:=Lib.hid (show allB (fun i=>okC x.sn x.on (x.claim i)) (k+1)=(allB (fun i=>okC x.sn x.on (x.claim i)) k&&okC x.sn x.on (x.claim k)) from rfl);generalize allB (fun i=>okC x.sn x.on (x.claim i)) k=C at *;generalize x.claim k=y at *;generalize hD:(A3&&C)=D;have HD:=Lib.hid hD;clear hD
          go_upto_block 11 with (fail)
          go_cut [3] from 130 to 150 (fun v wc=>v = .bool (D&&okC x.sn x.on y)∧II w x oa ma sa ca oc mc sc cc op sp ok sk wc)
          case first =>
           go_upto_region 30 with (fail)
           generalize hW:World.alloc _ _=W;obtain⟨z0,hz,hB⟩:=blocks1 hW;have I2:=Lib.hid (I1.out.grow hB);obtain⟨q0,q1,q2,q3,q4⟩:=I2.out.cells;have c0:=cellAt z0 0;have c1:=cellAt z0 1;have c2:=cellAt z0 2;simp only [List.getElem?_toArray,List.getElem?_cons_zero,List.getElem?_cons_succ] at c0 c1 c2;clear hW hz hB z0 I1
           cases D with
           | false =>
            go_wp2_with fail
            go_meet
            exact⟨by simp,I2.out⟩
           | true =>
            obtain⟨w1,w2⟩:=HW.out;go_wp2_with (go_at_call 122; refine(within_any _ _ _ _).mono ?_; rintro e w' ⟨rfl,rfl⟩)
            all_goals (go_meet; exact⟨by simp_all [okC],I2.out⟩)
          case rest =>
           obtain⟨rfl,h2⟩:=hcut;have I2:=Lib.hid h2;clear h2 I1;go_wp2_with fail;exact⟨⟨k+1,hlj,by go_num,by rw [HC.out,← Bool.and_assoc,HD.out],I2.out⟩,by simp [intOf]; omega⟩
         ·obtain rfl:k=x.cn:=by omega
          go_wp2_with fail;go_ret;exact⟨ret_bool (by rw [HZ.out]),I1.out.bel⟩
end Go.Proofs.YtclbmlmlhiiaeaaGreatDoor
