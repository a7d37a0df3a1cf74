/- Walks: BookLines. -/
import Derived.Test.YtclbmlmlhiiaeaaGreatDoorQT22
import Derived.Test.YtclbmlmlhiiaeaaGreatDoorQT1
import Derived.Test.YtclbmlmlhiiaeaaGreatDoorT13
import Derived.Test.YtclbmlmlhiiaeaaGreatDoorQJF
import Derived.Test.YtclbmlmlhiiaeaaGreatDoorQJ1
namespace Go.Proofs.YtclbmlmlhiiaeaaGreatDoor
open Go.RowKit
structure LB (w:World) (h:HullA) (p:PitA) (x:IrA) (W:World):Prop where
 bel:Below w.heap.size w W
 st:Stands W
 b0:BoxAt W (w.heap.size ) #[.slice h.sa h.sn h.sc,.slice h.ua h.un h.uc] 25
 a0:h.At W
 b1:BoxAt W (w.heap.size+1) #[.int .i64 p.hr,.int .i64 p.fr,.int .i64 p.pe,.slice p.fa p.fn p.fc,.slice p.qa p.qn p.qc] 29
 a1:p.At W
 b2:BoxAt W (w.heap.size+1+1) #[.int .i64 x.x.f,.slice x.oa x.x.on x.oc,.slice x.ma x.x.mn x.mc,.slice x.sa x.x.sn x.sc,.slice x.ca x.x.cn x.cc] 34
 a2:x.At W
theorem LB.grow{w W W':World}{h:HullA}{p:PitA}{x:IrA}(z:LB w h p x W)(hb:Below W.heap.size W W'):LB w h p x W' :=
 ⟨z.bel.next hb,z.st.grow hb,z.b0.grow hb,z.a0.grow hb,z.b1.grow hb,z.a1.grow hb,z.b2.grow hb,IronsAt.grow z.a2 hb⟩
theorem sl76':Tryz.prog.underlying 76=some (.slice 41):=by kernel_rfl
theorem sz41':(Tryz.prog.info? 41).map (·.size)=some 1:=by kernel_rfl
theorem sl79':Tryz.prog.underlying 79=some (.slice 78):=by kernel_rfl
theorem sz78':(Tryz.prog.info? 78).map (·.size)=some 1:=by kernel_rfl
theorem sl80':Tryz.prog.underlying 80=some (.slice 9):=by kernel_rfl
theorem sz9':(Tryz.prog.info? 9).map (·.size)=some 1:=by kernel_rfl
theorem sl26':Tryz.prog.underlying 26=some (.slice 3):=by kernel_rfl
theorem sz3':(Tryz.prog.info? 3).map (·.size)=some 1:=by kernel_rfl
structure Own2 (X:IronsV) (ma ca:Option Addr) (lo hi:Nat) (W:World):Prop where
 m:∀ i,i<X.mn→ma=some ⟨blk ma,ofs ma,none⟩∧lo≤blk ma∧blk ma<hi∧Thawed W (blk ma) ∧ ∃ v:Int,W.cell? ⟨blk ma,ofs ma+i,none⟩=some (.int .i64 v)
 c:∀ i,i<X.cn→ca=some ⟨blk ca,ofs ca,none⟩∧lo≤blk ca∧blk ca<hi∧Thawed W (blk ca) ∧ ∃ b:Bool,W.cell? ⟨blk ca,ofs ca+i * 3+2,none⟩=some (.bool b)
theorem Own2.of{X:IronsV}{oa ma sa ca:Option Addr}{oc mc sc cc:Nat}{op sp:Nat→Option Addr}{ok sk:Nat→Nat}{W:World}{lo:Nat}(h:IronsAt X oa ma sa ca oc mc sc cc op sp ok sk W)(hk:IrBlk (fun b=>lo≤b∧Thawed W b) X oa ma sa ca op sp):Own2 X ma ca lo W.heap.size W :=
 ⟨fun i hi=>⟨h.m.plain (by omega),(hk.m (by omega)).1,h.m.old (by omega),(hk.m (by omega)).2,_,h.m.at hi⟩,
  fun i hi=>⟨h.c.plain (by omega),(hk.c (by omega)).1,h.c.old (by omega),(hk.c (by omega)).2,_,(h.c.at hi).2.2⟩⟩
section
variable {X:IronsV} {ma ca:Option Addr} {lo hi p1:Nat} {W W' w8 w12:World} {cs:Array Value} {k:Nat}
theorem Own2.grow(h:Own2 X ma ca lo hi W)(hb:Below W.heap.size W W'):Own2 X ma ca lo hi W' :=
 ⟨fun i hi=>by
  obtain⟨h1,h2,h3,h4,v,h5⟩:=h.m i hi;exact⟨h1,h2,h3,h4.grow hb,v,(hb.cell (p:=⟨blk ma,_,none⟩) (by obtain⟨c,E,e⟩:=h4; exact lt_of_heap e)).trans h5⟩,
  fun i hi=>by
  obtain⟨h1,h2,h3,h4,v,h5⟩:=h.c i hi
  exact⟨h1,h2,h3,h4.grow hb,v,(hb.cell (p:=⟨blk ca,_,none⟩) (by obtain⟨c,E,e⟩:=h4; exact lt_of_heap e)).trans h5⟩⟩
theorem Own2.setM(h:Own2 X ma ca lo hi W)(hk:k<X.mn)(v:Int):Own2 X ma ca lo hi (W.setCell ⟨blk ma,ofs ma+k,none⟩ (.int .i64 v)):=by
 obtain⟨-,-,-,-,u,hu⟩:=h.m k hk;refine⟨fun i hi=>?_,fun i hi=>?_⟩
 ·obtain⟨h1,h2,h3,h4,x,h5⟩:=h.m i hi
  refine⟨h1,h2,h3,h4.set _ _,?_⟩;by_cases e:i=k
  ·subst e
   exact⟨v,World.cell?_setCell_same' _ _ _ (by rw [h5]; rfl)⟩
  ·exact⟨x,(World.cell?_setCell_other _ _ _ _ (by intro h; injection h; omega)).trans h5⟩
 ·obtain⟨h1,h2,h3,h4,x,h5⟩:=h.c i hi
  refine⟨h1,h2,h3,h4.set _ _,x,(World.cell?_setCell_other _ _ _ _ (fun e=>?_)).trans h5⟩;rw [e,h5] at hu
  cases hu
theorem Own2.setC(h:Own2 X ma ca lo hi W)(hk:k<X.cn)(v:Bool):Own2 X ma ca lo hi (W.setCell ⟨blk ca,ofs ca+k * 3+2,none⟩ (.bool v)):=by
 obtain⟨-,-,-,-,u,hu⟩:=h.c k hk;refine⟨fun i hi=>?_,fun i hi=>?_⟩
 ·obtain⟨h1,h2,h3,h4,x,h5⟩:=h.m i hi
  refine⟨h1,h2,h3,h4.set _ _,x,(World.cell?_setCell_other _ _ _ _ (fun e=>?_)).trans h5⟩;rw [e,h5] at hu
  cases hu
 ·obtain⟨h1,h2,h3,h4,x,h5⟩:=h.c i hi
  refine⟨h1,h2,h3,h4.set _ _,?_⟩;by_cases e:i=k
  ·subst e
   exact⟨v,World.cell?_setCell_same' _ _ _ (by rw [h5]; rfl)⟩
  ·exact⟨x,(World.cell?_setCell_other _ _ _ _ (by intro h; injection h; omega)).trans h5⟩
structure LY (B:Nat) (w8:World) (p1:Nat) (w12:World) (X:IronsV) (cs:Array Value) (ma ca:Option Addr) (W:World):Prop where
 bel:Below B w8 W
 keep:Keep (fun b=>p1<b) w12 W
 own:Own2 X ma ca B p1 W
 box:BoxAt W p1 cs 34
theorem LY.setM{B:Nat}(z:LY B w8 p1 w12 X cs ma ca W)(hk:k<X.mn)(v:Int):LY B w8 p1 w12 X cs ma ca (W.setCell ⟨blk ma,ofs ma+k,none⟩ (.int .i64 v)):=by
 obtain⟨-,h2,h3,-⟩:=z.own.m k hk;exact⟨z.bel.setCell (p:=⟨blk ma,ofs ma+k,none⟩) h2 _,z.keep.set _ _ _ (by omega),z.own.setM hk v,z.box.set _ _ (by dsimp only; omega)⟩
theorem LY.setC{B:Nat}(z:LY B w8 p1 w12 X cs ma ca W)(hk:k<X.cn)(v:Bool):LY B w8 p1 w12 X cs ma ca (W.setCell ⟨blk ca,ofs ca+k * 3+2,none⟩ (.bool v)):=by
 obtain⟨-,h2,h3,-⟩:=z.own.c k hk;exact⟨z.bel.setCell (p:=⟨blk ca,ofs ca+k * 3+2,none⟩) h2 _,z.keep.set _ _ _ (by omega),z.own.setC hk v,z.box.set _ _ (by dsimp only; omega)⟩
theorem LY.drew{B:Nat}(z:LY B w8 p1 w12 X cs ma ca W):LY B w8 p1 w12 X cs ma ca W.drew :=
 have hb:Below W.heap.size W W.drew:=Below.drew (Below.refl _ _)
 ⟨z.bel.trans (Below.drew (Below.refl _ _)),Keep.trans z.keep ⟨hb.os,hb.tape,hb.output,hb.size,fun _ _=>rfl⟩,z.own.grow hb,z.box.grow hb⟩
end
theorem seal_right3:∀ k,k<szB 3→sealB sealS 3 k=sealS k:=by decide +kernel
theorem mend_sample{oa:Option Addr}{nc t:Nat}{w:World}(ht:t<40)(hb:BytesAt w oa 5 (flipB sealS t))(hc:5≤nc) :
  Calls Tryz.prog 25 #[.slice oa 5 nc] w fun e w' => ∃ g cap,e = .returned (.tuple #[.slice (some ⟨g,0,none⟩) 5 cap,.int .i64 0])∧w.heap.size≤g∧(∃ F,BoxAt w' g (valsOf F 5).toArray 5)∧Below w.heap.size w w':=by
 refine(mend_box oa 5 nc _ w hb (flip_lt seal_lt8 t) hc).mono ?_;rintro e w' ⟨h1,⟨h2,-⟩ | ⟨-,h2,-⟩ | ⟨n,h0,hn,-,h3⟩⟩
 ·omega
 ·exact absurd (show szB 3=5 by decide) (h2 3 (by omega))
 ·obtain rfl:n=3:=by unfold szB at hn; omega
  have hm:=mend_flip seal_lt8 (n:=3) (t:=t) seal_right3 (by rw [show szB 3=5 by decide]; omega);rcases h3 with ⟨x,hx,-⟩ | ⟨i,g,cap,-,-,-,h4,rfl,h5⟩
  ·rw [hm] at hx; cases hx
  ·exact⟨g,cap,rfl,h4,⟨_,h5⟩,h1⟩
theorem eqB_self(n:Nat)(f:Nat→Nat):eqB n n f f=true:=by unfold eqB; simp
set_option maxRecDepth 100000 in
set_option maxHeartbeats 16000000 in
theorem bookLines11_any(h:HullA)(p:PitA)(x:IrA)(b:UInt8)(w:World)(hh:h.At w)(hp:p.At w)(hx:x.At w)(hst:Stands w) :
  Calls Tryz.prog 11 #[.agg #[.slice h.sa h.sn h.sc,.slice h.ua h.un h.uc],.agg #[.int .i64 p.hr,.int .i64 p.fr,.int .i64 p.pe,.slice p.fa p.fn p.fc,.slice p.qa p.qn p.qc],.agg #[.int .i64 x.x.f,.slice x.oa x.x.on x.oc,.slice x.ma x.x.mn x.mc,.slice x.sa x.x.sn x.sc,.slice x.ca x.x.cn x.cc],.int .u8 b.toNat] w fun e w'=>e = .returned (.bool true)∧Below w.heap.size w w':=by
 obtain⟨s1,e1,k1,l1,H1⟩:=hull_back h.S h.sn h.U h.un;obtain⟨s2,e2,k2,l2,H2⟩:=pit_back p.hr p.fr p.pe p.F p.fn p.Q p.qn;obtain⟨s3,e3,k3,l3,H3⟩:=iron_back x.x;have C12:=Lib.hid (fun W (I:LB w h p x W)=>far12_any h.sa h.ua p.fa p.qa x.oa x.ma x.sa x.ca none none h.sn h.sc h.un h.uc p.fn p.fc p.qn p.qc x.x.on x.oc x.x.mn x.mc x.x.sn x.sc x.x.cn x.cc 0 0 0 0 p.hr p.fr p.pe x.x.f 0 x.op x.sp x.x.ol x.ok x.x.sl x.sk W I.a2.o I.a2.s);have C14:=Lib.hid (fun W (I:LB w h p x W)=>(show Calls Tryz.prog 14 #[.agg #[.slice h.sa h.sn h.sc,.slice h.ua h.un h.uc]] W fun e w'=>e = .returned (.tuple #[.string ⟨s1.toArray⟩,.int .i64 e1])∧Below W.heap.size W w' from by have hc:=writeHull14_any h.sa h.ua h.sn h.sc h.un h.uc h.S h.U W I.a0.s I.a0.u I.st.tab I.st.sides; rw [k1] at hc; exact hc));have C16:=Lib.hid (fun W (I:LB w h p x W)=>(show Calls Tryz.prog 16 #[.agg #[.int .i64 p.hr,.int .i64 p.fr,.int .i64 p.pe,.slice p.fa p.fn p.fc,.slice p.qa p.qn p.qc]] W fun e w'=>e = .returned (.tuple #[.string ⟨s2.toArray⟩,.int .i64 e2])∧Below W.heap.size W w' from by have hc:=writesPitch_any p.hr p.fr p.pe p.fa p.qa p.fn p.fc p.qn p.qc p.F p.Q W ⟨I.a1.f,I.a1.q,I.st.tab⟩; rw [k2] at hc; exact hc));have C18:=Lib.hid (fun W (I:LB w h p x W)=>(show Calls Tryz.prog 18 #[.agg #[.int .i64 x.x.f,.slice x.oa x.x.on x.oc,.slice x.ma x.x.mn x.mc,.slice x.sa x.x.sn x.sc,.slice x.ca x.x.cn x.cc]] W fun e w'=>e = .returned (.tuple #[.string ⟨s3.toArray⟩,.int .i64 e3])∧Below W.heap.size W w' from by have hc:=writesIrons_any x.x x.oa x.ma x.sa x.ca x.oc x.mc x.sc x.cc x.op x.sp x.ok x.sk W ⟨I.a2,I.st.tab⟩; rw [k3] at hc; exact hc))
 have T1:=Lib.hid (show(e1=0∧TextK 0 s1)∨e1=1 from by
  rcases H1 with ⟨hb,h0,-⟩ | ⟨-,h1,-⟩
  ·unfold wroteHull at k1
   rw [if_pos hb] at k1
   injection k1 with k1
   simp only [Array.mk.injEq,List.cons.injEq,Value.string.injEq,ByteArray.mk.injEq,and_true] at k1;exact .inl ⟨h0,by rw [← k1.1]; exact textK_hull hb⟩
  ·exact .inr h1)
 have T2:=Lib.hid (show(e2=0∧TextK 1 s2)∨e2=1 from by
  rcases H2 with ⟨hb,h0,-⟩ | ⟨-,h1,-⟩
  ·unfold wrotePitch at k2
   rw [if_pos hb] at k2
   injection k2 with k2
   simp only [Array.mk.injEq,List.cons.injEq,Value.string.injEq,ByteArray.mk.injEq,and_true] at k2;exact .inl ⟨h0,by rw [← k2.1]; exact textK_pitch hb⟩
  ·exact .inr h1)
 have T3:=Lib.hid (show(e3=0∧TextK 2 s3)∨e3=1 from by
  rcases H3 with ⟨hb,h0,-⟩ | ⟨-,h1,-⟩
  ·unfold wroteIrons at k3
   rw [if_pos hb] at k3
   injection k3 with k3
   simp only [Array.mk.injEq,List.cons.injEq,Value.string.injEq,ByteArray.mk.injEq,and_true] at k3;exact .inl ⟨h0,by rw [← k3.1]; exact textK_irons hb⟩
  ·exact .inr h1)
 have W3:=Lib.hid H3;have LL:=Lib.hid (And.intro l1 (And.intro l2 l3));clear H1 H2 H3 k1 k2 k3 l1 l2 l3;go_enter Tryz.func11,Tryz.ntmps11;go_upto_region 1 with (fail)
 generalize hW:World.alloc _ _=W0;obtain⟨z0,z1,z2,-,hB⟩:=blocks3 hW;have I0:=Lib.hid (show LB w h p x W0 from⟨hB,hst.grow hB,z0,hh.grow hB,z1,hp.grow hB,z2,IronsAt.grow hx hB⟩);clear hW z0 z1 z2 hB hst hh hp hx;have q00:=cellAt I0.out.b0 0;have q01:=cellAt I0.out.b0 1;simp only [List.getElem?_toArray,List.getElem?_cons_zero,List.getElem?_cons_succ] at q00 q01;have q10:=cellAt I0.out.b1 0;have q11:=cellAt I0.out.b1 1;have q12:=cellAt I0.out.b1 2;have q13:=cellAt I0.out.b1 3;have q14:=cellAt I0.out.b1 4;simp only [List.getElem?_toArray,List.getElem?_cons_zero,List.getElem?_cons_succ] at q10 q11 q12 q13 q14;have q20:=cellAt I0.out.b2 0;have q21:=cellAt I0.out.b2 1;have q22:=cellAt I0.out.b2 2;have q23:=cellAt I0.out.b2 3;have q24:=cellAt I0.out.b2 4;simp only [List.getElem?_toArray,List.getElem?_cons_zero,List.getElem?_cons_succ] at q20 q21 q22 q23 q24;go_wp2_with (go_at_call 12; refine(C12.out _ I0.out).mono ?_);rintro e w1 ⟨⟨c,rfl⟩,hb1⟩;have I1:=Lib.hid (I0.out.grow hb1);clear hb1 I0 C12 q00 q01 q10 q11 q12 q13 q14 q20 q21 q22 q23 q24
 cases c with
 | true =>
  go_wp2_with (go_at_call 13; refine(awake_any I1.out.st).mono ?_; rintro e w2 ⟨rfl,hb2⟩);go_ret;exact⟨rfl,I1.out.bel.next hb2⟩
 | false =>
  have q00:=cellAt I1.out.b0 0;have q01:=cellAt I1.out.b0 1;simp only [List.getElem?_toArray,List.getElem?_cons_zero,List.getElem?_cons_succ] at q00 q01;go_upto_region 4 with (go_at_call 14; refine(C14.out _ I1.out).mono ?_; rintro e w2 ⟨rfl,hb⟩)
  have I2:=Lib.hid (I1.out.grow hb);clear hb I1 C14 q00 q01;have q10:=cellAt I2.out.b1 0;have q11:=cellAt I2.out.b1 1;have q12:=cellAt I2.out.b1 2;have q13:=cellAt I2.out.b1 3;have q14:=cellAt I2.out.b1 4;simp only [List.getElem?_toArray,List.getElem?_cons_zero,List.getElem?_cons_succ] at q10 q11 q12 q13 q14;go_upto_region 5 with (go_at_call 16; refine(C16.out _ I2.out).mono ?_; rintro e w3 ⟨rfl,hb⟩)
  have I3:=Lib.hid (I2.out.grow hb);clear hb I2 C16 q10 q11 q12 q13 q14;have q20:=cellAt I3.out.b2 0;have q21:=cellAt I3.out.b2 1;have q22:=cellAt I3.out.b2 2;have q23:=cellAt I3.out.b2 3;have q24:=cellAt I3.out.b2 4;simp only [List.getElem?_toArray,List.getElem?_cons_zero,List.getElem?_cons_succ] at q20 q21 q22 q23 q24;go_upto_region 6 with (go_at_call 18; refine(C18.out _ I3.out).mono ?_; rintro e w4 ⟨rfl,hb⟩)
  have I4:=Lib.hid (I3.out.grow hb);clear hb I3 C18 q20 q21 q22 q23 q24;go_upto_region 6 with (fail)
  have al:=(Below.refl w4.heap.size w4).alloc (Nat.le_refl _) (.cells #[.int .u8 b.toNat] 5);have I5:=Lib.hid (I4.out.grow al)
  have CV:=Lib.hid (show(convert 46 9 (.slice (some ⟨w4.heap.size,0,none⟩) 1 1)).run Tryz.prog (w4.alloc (.cells #[.int .u8 b.toNat] 5)) = .ok (.string ⟨[b].toArray⟩) (w4.alloc (.cells #[.int .u8 b.toNat] 5)) from by
   have hr:BytesAt (w4.alloc (.cells #[.int .u8 b.toNat] 5)) (some ⟨w4.heap.size,0,none⟩) 1 (fun _=>b.toNat):=⟨fun _=>rfl,fun _=>by rw [sizeAlloc]; exact Nat.lt_succ_self _,by unfold maxLen; omega,fun i hi j hj=>by
    obtain rfl:i=0:=by omega
    obtain rfl:j=0:=by omega
    exact cellAt (show BoxAt (w4.alloc (.cells #[.int .u8 b.toNat] 5)) w4.heap.size #[.int .u8 b.toNat] 5 from heap_alloc_new _ _) 0⟩
   rw [run_strB hr]
   simp [strB,strOfNums,numB])
  clear al I4;have cv:=CV.out;go_upto_region 7 with (fail)
  clear cv CV;generalize World.alloc w4 _=w5 at *;have al:=(Below.refl w5.heap.size w5).alloc (Nat.le_refl _) (.cells #[.func (.func 44) #[] #[],.func (.func 45) #[] #[],.func (.func 46) #[] #[]] 78);have I6:=Lib.hid (I5.out.grow al);have F6:=Lib.hid (show BoxAt (w5.alloc (.cells #[.func (.func 44) #[] #[],.func (.func 45) #[] #[],.func (.func 46) #[] #[]] 78)) w5.heap.size #[.func (.func 44) #[] #[],.func (.func 45) #[] #[],.func (.func 46) #[] #[]] 78 from heap_alloc_new _ _);clear al I5;go_upto_region 8 with (fail)
  generalize World.alloc w5 _=w6 at *;generalize w5.heap.size=fp at *;have al:=(Below.refl w6.heap.size w6).alloc (Nat.le_refl _) (.cells #[.string ⟨s1.toArray⟩,.string ⟨s2.toArray⟩,.string ⟨s3.toArray⟩] 9);have I7:=Lib.hid (I6.out.grow al);have F7:=Lib.hid (F6.out.grow al);have X7:=Lib.hid (show BoxAt (w6.alloc (.cells #[.string ⟨s1.toArray⟩,.string ⟨s2.toArray⟩,.string ⟨s3.toArray⟩] 9)) w6.heap.size #[.string ⟨s1.toArray⟩,.string ⟨s2.toArray⟩,.string ⟨s3.toArray⟩] 9 from heap_alloc_new _ _);clear al I6 F6;go_wp2_with fail;generalize World.alloc w6 _=w7 at *;generalize w6.heap.size=tp at *
  go_loopw [64] (fun i W => ∃ k:Nat,k≤3∧i = .int .i64 k∧LB w h p x W∧BoxAt W fp #[.func (.func 44) #[] #[],.func (.func 45) #[] #[],.func (.func 46) #[] #[]] 78∧BoxAt W tp #[.string ⟨s1.toArray⟩,.string ⟨s2.toArray⟩,.string ⟨s3.toArray⟩] 9) (fun i _=>3 - (intOf i).toNat)
  case atStart=>exact⟨0,Nat.zero_le _,rfl,I7.out,F7.out,X7.out⟩
  case round =>
   clear I7 F7 X7;obtain⟨k,hk,rfl,hI,hF,hX⟩:=hrel;have I8:=Lib.hid hI;have F8:=Lib.hid hF;have X8:=Lib.hid hX;clear hI hF hX;by_cases hlt:k<3
   ·have hlt':(k:Int)<3:=by omega
    have hi:=fun W=>run_indexAt_row (w:=W) (oa:=some ⟨tp,0,none⟩) (n:=3) (cap:=3) sl80' sz9' rfl hlt;simp only [blk,ofs,Nat.zero_add,Nat.mul_one] at hi
    obtain⟨sk,ek,hx,hT,hlen,he⟩:∃ sk ek,wr.cell? ⟨tp,k,none⟩=some (.string ⟨sk.toArray⟩)∧((ek=0∧TextK k sk)∨ek=1)∧sk.length≤1000∧(∀ W q,BoxAt W q #[.int .i64 e1,.int .i64 e2,.int .i64 e3] 41→W.cell? ⟨q,k,none⟩=some (.int .i64 ek)):=by
     rcases(show k=0∨k=1∨k=2 by omega) with rfl | rfl | rfl
     ·exact⟨s1,e1,cellAt X8.out 0,T1.out,LL.out.1,fun W q hq=>cellAt hq 0⟩
     ·exact⟨s2,e2,cellAt X8.out 1,T2.out,LL.out.2.1,fun W q hq=>cellAt hq 1⟩
     ·exact⟨s3,e3,cellAt X8.out 2,T3.out,LL.out.2.2,fun W q hq=>cellAt hq 2⟩
    have HEK:=Lib.hid he;have HT:=Lib.hid hT;clear he hT;go_upto_region 11 with (fail)
    clear hi hx;have al:=(Below.refl wr.heap.size wr).alloc (Nat.le_refl _) (.cells #[.int .i64 e1,.int .i64 e2,.int .i64 e3] 41);have I9:=Lib.hid (I8.out.grow al);have F9:=Lib.hid (F8.out.grow al);have X9:=Lib.hid (X8.out.grow al);have hx:=HEK.out (wr.alloc (.cells #[.int .i64 e1,.int .i64 e2,.int .i64 e3] 41)) wr.heap.size (heap_alloc_new _ _);have hi:=fun W=>run_indexAt_row (w:=W) (oa:=some ⟨wr.heap.size,0,none⟩) (n:=3) (cap:=3) sl76' sz41' rfl hlt;simp only [blk,ofs,Nat.zero_add,Nat.mul_one] at hi;clear al I8 F8 X8 HEK;rcases HT.out with ⟨rfl,hK⟩ | rfl
    ·have TK:=Lib.hid hK
     clear hK HT;obtain⟨r,hr⟩:=TK.out.isText.ends TK.out.pre.nil;have hsl:(sk.length:Int) - 1=(r.length:Nat):=by rw [hr]; simp
     have hne:((sk.length:Int)==0)=false:=by rw [hr]; simp; omega
     have HIX:=Lib.hid (show ∀ W,(Instr.index 9 (.string ⟨sk.toArray⟩) (.int .i64 ((sk.length:Int) - 1))).run Tryz.prog W = .ok (.int .u8 10) W from fun W=>by
      have:=str_index sk r.length (by rw [hr]; simp) W;rw [hsl,this,hr]
      simp)
     have HHD:=Lib.hid (show ∀ W,(Instr.sliceAt 9 (.string ⟨sk.toArray⟩) none (some (.int .i64 ((sk.length:Int) - 1))) none).run Tryz.prog W = .ok (.string ⟨sk.dropLast.toArray⟩) W from fun W=>by
      have:=str_head sk r.length (by rw [hr]; simp) W;rw [hsl,this,hr]
      simp)
     have HA1:=Lib.hid (fun W=>str_add sk [b] (by simp; omega) W);have HA2:=Lib.hid (fun W=>str_add [b] sk (by simp; omega) W);have HA3:=Lib.hid (fun W=>str_add sk [48,49,10] (by simp; omega) W);have HA4:=Lib.hid (fun W=>str_add sk [10] (by simp; omega) W);clear hr hsl;go_upto_region 12 with (fail)
     clear hi hx;generalize World.alloc wr _=w9 at *;have i1:=HIX.out;go_upto_region 14 with (fail)
     have i2:=HHD.out;have a1:=HA1.out;have a2:=HA2.out;have a3:=HA3.out;have a4:=HA4.out;clear HIX HHD HA1 HA2 HA3 HA4 i1 hne;have al:=(Below.refl w9.heap.size w9).alloc (Nat.le_refl _) (.cells #[.string ⟨(sk ++ [b]).toArray⟩,.string ⟨(b::sk).toArray⟩,.string ⟨sk.dropLast.toArray⟩,.string ⟨(sk++([48,49,10]:List UInt8)).toArray⟩,.string ⟨(sk++([10]:List UInt8)).toArray⟩] 9);have I10:=Lib.hid (I9.out.grow al);have F10:=Lib.hid (F9.out.grow al);have X10:=Lib.hid (X9.out.grow al);have D10:=Lib.hid (show BoxAt (w9.alloc (.cells #[.string ⟨(sk ++ [b]).toArray⟩,.string ⟨(b::sk).toArray⟩,.string ⟨sk.dropLast.toArray⟩,.string ⟨(sk++([48,49,10]:List UInt8)).toArray⟩,.string ⟨(sk++([10]:List UInt8)).toArray⟩] 9)) w9.heap.size #[.string ⟨(sk ++ [b]).toArray⟩,.string ⟨(b::sk).toArray⟩,.string ⟨sk.dropLast.toArray⟩,.string ⟨(sk++([48,49,10]:List UInt8)).toArray⟩,.string ⟨(sk++([10]:List UInt8)).toArray⟩] 9 from heap_alloc_new _ _);clear al I9 F9 X9;go_wp2_with fail;clear i2 a1 a2 a3 a4;generalize World.alloc w9 _=w10 at *;generalize w9.heap.size=bp' at *
     go_loopw [105] (fun i W => ∃ m:Nat,m≤5∧i = .int .i64 m∧LB w h p x W∧BoxAt W fp #[.func (.func 44) #[] #[],.func (.func 45) #[] #[],.func (.func 46) #[] #[]] 78∧BoxAt W tp #[.string ⟨s1.toArray⟩,.string ⟨s2.toArray⟩,.string ⟨s3.toArray⟩] 9∧BoxAt W bp' #[.string ⟨(sk ++ [b]).toArray⟩,.string ⟨(b::sk).toArray⟩,.string ⟨sk.dropLast.toArray⟩,.string ⟨(sk++([48,49,10]:List UInt8)).toArray⟩,.string ⟨(sk++([10]:List UInt8)).toArray⟩] 9) (fun i _=>5 - (intOf i).toNat)
     case atStart=>exact⟨0,Nat.zero_le _,rfl,I10.out,F10.out,X10.out,D10.out⟩
     case round =>
      clear I10 F10 X10 D10;obtain⟨m,hm,rfl,hI,hF,hX,hD⟩:=hrel;have I11:=Lib.hid hI;have F11:=Lib.hid hF;have X11:=Lib.hid hX;have D11:=Lib.hid hD;clear hI hF hX hD;by_cases hmt:m<5
      ·have hi:=fun W=>run_indexAt_row (w:=W) (oa:=some ⟨bp',0,none⟩) (n:=5) (cap:=5) sl80' sz9' rfl hmt
       simp only [blk,ofs,Nat.zero_add,Nat.mul_one] at hi
       obtain⟨bd,hx,hB⟩:∃ bd,wr.cell? ⟨bp',m,none⟩=some (.string ⟨bd.toArray⟩)∧(bd=sk ++ [b]∨bd = [b]++sk∨bd=sk.dropLast∨bd=sk ++ [48,49,10]∨bd=sk ++ [10]):=by
        rcases(show m=0∨m=1∨m=2∨m=3∨m=4 by omega) with rfl | rfl | rfl | rfl | rfl
        ·exact⟨_,cellAt D11.out 0,.inl rfl⟩
        ·exact⟨_,cellAt D11.out 1,.inr (.inl rfl)⟩
        ·exact⟨_,cellAt D11.out 2,.inr (.inr (.inl rfl))⟩
        ·exact⟨_,cellAt D11.out 3,.inr (.inr (.inr (.inl rfl)))⟩
        ·exact⟨_,cellAt D11.out 4,.inr (.inr (.inr (.inr rfl)))⟩
       have HB:=Lib.hid (TK.out.bad b hB);clear hB;go_upto_region 17 with (fail)
       clear hi hx;by_cases hbl:bd.length≤1000
       ·have hbl':(bd.length:Int)≤1000:=by omega
        have hi:=fun W=>run_indexAt_row (w:=W) (oa:=some ⟨fp,0,none⟩) (n:=3) (cap:=3) sl79' sz78' rfl hlt;simp only [blk,ofs,Nat.zero_add,Nat.mul_one] at hi
        obtain⟨v,hx,hv⟩:∃ v,wr.cell? ⟨fp,k,none⟩=some v∧(v = .func (.func 44) #[] #[]∧k=0∨v = .func (.func 45) #[] #[]∧k=1∨v = .func (.func 46) #[] #[]∧k=2):=by
         rcases(show k=0∨k=1∨k=2 by omega) with rfl | rfl | rfl
         ·exact⟨_,cellAt F11.out 0,.inl ⟨rfl,rfl⟩⟩
         ·exact⟨_,cellAt F11.out 1,.inr (.inl ⟨rfl,rfl⟩)⟩
         ·exact⟨_,cellAt F11.out 2,.inr (.inr ⟨rfl,rfl⟩)⟩
        have HB2:=Lib.hid (HB.out hbl);clear HB hbl;rcases hv with ⟨rfl,hk0⟩ | ⟨rfl,hk0⟩ | ⟨rfl,hk0⟩
        ·have CR:=Lib.hid (read44_any bd wr I11.out.st)
         rw [← hk0,HB2.out] at CR;have HK:=Lib.hid hk0;clear hk0 HB2;go_wp2_with (go_at_call 44; refine CR.out.mono ?_; rintro e w11 ⟨rfl,hb⟩);exact⟨⟨m+1,by omega,by go_num,I11.out.grow hb,F11.out.grow hb,X11.out.grow hb,D11.out.grow hb⟩,by simp [intOf]; omega⟩
        ·have CR:=Lib.hid (read45_any bd wr I11.out.st)
         rw [← hk0,HB2.out] at CR;have HK:=Lib.hid hk0;clear hk0 HB2;go_wp2_with (go_at_call 45; refine CR.out.mono ?_; rintro e w11 ⟨rfl,hb⟩);exact⟨⟨m+1,by omega,by go_num,I11.out.grow hb,F11.out.grow hb,X11.out.grow hb,D11.out.grow hb⟩,by simp [intOf]; omega⟩
        ·have CR:=Lib.hid (read46_any bd wr I11.out.st)
         rw [← hk0,HB2.out] at CR;have HK:=Lib.hid hk0;clear hk0 HB2;go_wp2_with (go_at_call 46; refine CR.out.mono ?_; rintro e w11 ⟨rfl,hb⟩);exact⟨⟨m+1,by omega,by go_num,I11.out.grow hb,F11.out.grow hb,X11.out.grow hb,D11.out.grow hb⟩,by simp [intOf]; omega⟩
       ·have hbl':¬ (bd.length:Int)≤1000:=by omega
        go_wp2_with fail;exact⟨⟨m+1,by omega,by go_num,I11.out,F11.out,X11.out,D11.out⟩,by simp [intOf]; omega⟩
      ·have hm5:¬ (m:Int)<5:=by omega
       clear D11;go_upto_region 20 with (fail)
       go_wp2_with fail
       go_loopw [124] (fun i W => ∃ n:Nat,n≤3∧i = .int .i64 n∧LB w h p x W∧BoxAt W fp #[.func (.func 44) #[] #[],.func (.func 45) #[] #[],.func (.func 46) #[] #[]] 78∧BoxAt W tp #[.string ⟨s1.toArray⟩,.string ⟨s2.toArray⟩,.string ⟨s3.toArray⟩] 9) (fun i _=>3 - (intOf i).toNat)
       case atStart=>exact⟨0,Nat.zero_le _,rfl,I11.out,F11.out,X11.out⟩
       case round =>
        clear I11 F11 X11;obtain⟨n,hn,rfl,hI,hF,hX⟩:=hrel;have I14:=Lib.hid hI;have F14:=Lib.hid hF;have X14:=Lib.hid hX;clear hI hF hX;by_cases hnt:n<3
        ·have hnt':(n:Int)<3:=by omega
         have hi:=fun W=>run_indexAt_row (w:=W) (oa:=some ⟨fp,0,none⟩) (n:=3) (cap:=3) sl79' sz78' rfl hnt;simp only [blk,ofs,Nat.zero_add,Nat.mul_one] at hi;have HRR:=Lib.hid (TK.out.reads hlen hnt)
         obtain⟨v,hx,hv⟩:∃ v,wr.cell? ⟨fp,n,none⟩=some v∧(v = .func (.func 44) #[] #[]∧n=0∨v = .func (.func 45) #[] #[]∧n=1∨v = .func (.func 46) #[] #[]∧n=2):=by
          rcases(show n=0∨n=1∨n=2 by omega) with rfl | rfl | rfl
          ·exact⟨_,cellAt F14.out 0,.inl ⟨rfl,rfl⟩⟩
          ·exact⟨_,cellAt F14.out 1,.inr (.inl ⟨rfl,rfl⟩)⟩
          ·exact⟨_,cellAt F14.out 2,.inr (.inr ⟨rfl,rfl⟩)⟩
         rcases hv with ⟨rfl,hn0⟩ | ⟨rfl,hn0⟩ | ⟨rfl,hn0⟩
         ·have CR:=Lib.hid (read44_any sk wr I14.out.st)
          rw [← hn0,HRR.out] at CR;have HN:=Lib.hid hn0;clear hn0;by_cases hnk:n=k
          ·rw [if_pos hnk] at CR
           subst hnk;go_wp2_with (go_at_call 44; refine CR.out.mono ?_; rintro e w14 ⟨rfl,hb⟩);exact⟨⟨n+1,by omega,by go_num,I14.out.grow hb,F14.out.grow hb,X14.out.grow hb⟩,by simp [intOf]; omega⟩
          ·rw [if_neg hnk] at CR
           have hnk':((n:Int)==(k:Int))=false:=by simp; omega
           go_wp2_with (go_at_call 44; refine CR.out.mono ?_; rintro e w14 ⟨rfl,hb⟩);exact⟨⟨n+1,by omega,by go_num,I14.out.grow hb,F14.out.grow hb,X14.out.grow hb⟩,by simp [intOf]; omega⟩
         ·have CR:=Lib.hid (read45_any sk wr I14.out.st)
          rw [← hn0,HRR.out] at CR;have HN:=Lib.hid hn0;clear hn0;by_cases hnk:n=k
          ·rw [if_pos hnk] at CR
           subst hnk;go_wp2_with (go_at_call 45; refine CR.out.mono ?_; rintro e w14 ⟨rfl,hb⟩);exact⟨⟨n+1,by omega,by go_num,I14.out.grow hb,F14.out.grow hb,X14.out.grow hb⟩,by simp [intOf]; omega⟩
          ·rw [if_neg hnk] at CR
           have hnk':((n:Int)==(k:Int))=false:=by simp; omega
           go_wp2_with (go_at_call 45; refine CR.out.mono ?_; rintro e w14 ⟨rfl,hb⟩);exact⟨⟨n+1,by omega,by go_num,I14.out.grow hb,F14.out.grow hb,X14.out.grow hb⟩,by simp [intOf]; omega⟩
         ·have CR:=Lib.hid (read46_any sk wr I14.out.st)
          rw [← hn0,HRR.out] at CR;have HN:=Lib.hid hn0;clear hn0;by_cases hnk:n=k
          ·rw [if_pos hnk] at CR
           subst hnk;go_wp2_with (go_at_call 46; refine CR.out.mono ?_; rintro e w14 ⟨rfl,hb⟩);exact⟨⟨n+1,by omega,by go_num,I14.out.grow hb,F14.out.grow hb,X14.out.grow hb⟩,by simp [intOf]; omega⟩
          ·rw [if_neg hnk] at CR
           have hnk':((n:Int)==(k:Int))=false:=by simp; omega
           go_wp2_with (go_at_call 46; refine CR.out.mono ?_; rintro e w14 ⟨rfl,hb⟩);exact⟨⟨n+1,by omega,by go_num,I14.out.grow hb,F14.out.grow hb,X14.out.grow hb⟩,by simp [intOf]; omega⟩
        ·have hn3:¬ (n:Int)<3:=by omega
         go_wp2_with fail;exact⟨⟨k+1,by omega,by go_num,I14.out,F14.out,X14.out⟩,by simp [intOf]; omega⟩
    ·go_wp2_with fail
     exact⟨⟨k+1,by omega,by go_num,I9.out,F9.out,X9.out⟩,by simp [intOf]; omega⟩
   ·have hk3:¬ (k:Int)<3:=by omega
    clear LL T1 T2 F8 X8;go_upto_if 140 with (fail)
    clear hk3 hk hlt;go_cut [140] from 139 to 190 (fun v W=>LB w h p x W)
    case first =>
     rcases W3.out with ⟨-,he,hr0,hok,hok',hsame⟩ | ⟨-,he,-,-⟩
     ·subst he
      have HS:=Lib.hid hsame;have OK:=Lib.hid (And.intro hok hok');have HR0:=Lib.hid hr0;have C39:=Lib.hid (fun W (I:LB w h p x W)=>readIrons39_any s3 W I.st.lim I.st.tab I.st.size);unfold ReadIronsPost at C39;generalize (ironRes s3).1=ei at *;generalize toV (ironRes s3).2=xi at *;subst hr0;clear hsame hok hok' HR0;obtain⟨W8,hW8⟩:∃ W8,W8=wr:=⟨_,rfl⟩
      subst hW8;have hmn:xi.mn≤5:=by have:=OK.out.2.mn; have:=OK.out.2.on; omega
      have hcn:xi.cn≤8:=OK.out.2.cn;go_upto_region 29 with (go_at_call 39; refine(C39.out _ I8.out).mono ?_; rintro e w9 ⟨hb1,ya,ym,yr,yc,yac,ymc,yrc,ycc,yop,ysp,yok,ysk,rfl,hA,hK⟩)
      have al:=(Below.refl w9.heap.size w9).alloc (Nat.le_refl _) (.cells #[.int .i64 xi.f,.slice ya xi.on yac,.slice ym xi.mn ymc,.slice yr xi.sn yrc,.slice yc xi.cn ycc] 34);have O10:=Lib.hid ((Own2.of hA hK).grow al);have Y10:=Lib.hid (show BoxAt (w9.alloc (.cells #[.int .i64 xi.f,.slice ya xi.on yac,.slice ym xi.mn ymc,.slice yr xi.sn yrc,.slice yc xi.cn ycc] 34)) w9.heap.size #[.int .i64 xi.f,.slice ya xi.on yac,.slice ym xi.mn ymc,.slice yr xi.sn yrc,.slice yc xi.cn ycc] 34 from heap_alloc_new _ _);have B10:=Lib.hid (hb1.next al);have I10:=Lib.hid (I8.out.grow B10.out);clear hb1 hA hK al;generalize World.alloc w9 _=w10 at *;generalize w9.heap.size=p1 at *;go_upto_region 30 with (go_at_call 39; refine(C39.out _ I10.out).mono ?_; rintro e w11 ⟨hb1,za,zm,zr,zc,zac,zmc,zrc,zcc,zop,zsp,zok,zsk,rfl,hA,hK⟩)
      have al:=(Below.refl w11.heap.size w11).alloc (Nat.le_refl _) (.cells #[.int .i64 xi.f,.slice za xi.on zac,.slice zm xi.mn zmc,.slice zr xi.sn zrc,.slice zc xi.cn zcc] 34);have B12:=Lib.hid (hb1.next al);have S12:=Lib.hid (show LY W8.heap.size W8 p1 (w11.alloc (.cells #[.int .i64 xi.f,.slice za xi.on zac,.slice zm xi.mn zmc,.slice zr xi.sn zrc,.slice zc xi.cn zcc] 34)) xi #[.int .i64 xi.f,.slice ya xi.on yac,.slice ym xi.mn ymc,.slice yr xi.sn yrc,.slice yc xi.cn ycc] ym yc (w11.alloc (.cells #[.int .i64 xi.f,.slice za xi.on zac,.slice zm xi.mn zmc,.slice zr xi.sn zrc,.slice zc xi.cn zcc] 34)) from⟨B10.out.next B12.out,Keep.refl _ _,O10.out.grow B12.out,Y10.out.grow B12.out⟩)
      have HZ:=Lib.hid (show ∀ W,Keep (fun b=>p1<b) (w11.alloc (.cells #[.int .i64 xi.f,.slice za xi.on zac,.slice zm xi.mn zmc,.slice zr xi.sn zrc,.slice zc xi.cn zcc] 34)) W→BoxAt W w11.heap.size #[.int .i64 xi.f,.slice za xi.on zac,.slice zm xi.mn zmc,.slice zr xi.sn zrc,.slice zc xi.cn zcc] 34∧IronsAt xi za zm zr zc zac zmc zrc zcc zop zsp zok zsk W from fun W hk=>by
       have h1:=lt_of_heap Y10.out;have h2:=hb1.size
       exact⟨hk.box (heap_alloc_new _ _) (by omega),(IronsAt.grow hA al).keep hk (hK.imp fun b hb=>by have:=hb.1; omega)⟩)
      have HL:=Lib.hid (fun W (hb:Below W8.heap.size W8 W)=>I8.out.grow hb);have y2:=cellAt S12.out.box 2;simp only [List.getElem?_toArray,List.getElem?_cons_zero,List.getElem?_cons_succ] at y2;clear hb1 hA hK al B10 B12 I10 O10 Y10 C39 I8;generalize World.alloc w11 _=w12 at *;generalize w11.heap.size=p2 at *;go_wp2_with fail;clear y2
      go_loopw [160] (fun i W => ∃ m:Nat,m≤xi.mn∧i = .int .i64 m∧LY W8.heap.size W8 p1 w12 xi #[.int .i64 xi.f,.slice ya xi.on yac,.slice ym xi.mn ymc,.slice yr xi.sn yrc,.slice yc xi.cn ycc] ym yc W) (fun i _=>xi.mn - (intOf i).toNat)
      case atStart=>exact⟨0,Nat.zero_le _,rfl,S12.out⟩
      case round =>
       clear S12;obtain⟨m,hm,rfl,hS⟩:=hrel;have S13:=Lib.hid hS;clear hS;by_cases hmt:m<xi.mn
       ·obtain⟨hpl,-,-,hth,v,hv⟩:=S13.out.own.m m hmt
        have hf:=hth.free (i:=ofs ym+m);have y2:=cellAt S13.out.box 2;simp only [List.getElem?_toArray,List.getElem?_cons_zero,List.getElem?_cons_succ] at y2;have hi:=fun W=>run_indexAt_row (w:=W) (n:=xi.mn) (cap:=ymc) sl26' sz3' hpl hmt;simp only [Nat.mul_one] at hi;clear hpl hth;go_wp2_with fail;exact⟨⟨m+1,by omega,by go_num,S13.out.setM hmt _⟩,by simp [intOf]; omega⟩
       ·have hmt':¬ (m:Int)<xi.mn:=by omega
        have y4:=cellAt S13.out.box 4;simp only [List.getElem?_toArray,List.getElem?_cons_zero,List.getElem?_cons_succ] at y4;go_wp2_with fail;clear y4
        go_loopw [171] (fun i W => ∃ m:Nat,m≤xi.cn∧i = .int .i64 m∧LY W8.heap.size W8 p1 w12 xi #[.int .i64 xi.f,.slice ya xi.on yac,.slice ym xi.mn ymc,.slice yr xi.sn yrc,.slice yc xi.cn ycc] ym yc W) (fun i _=>xi.cn - (intOf i).toNat)
        case atStart=>exact⟨0,Nat.zero_le _,rfl,S13.out⟩
        case round =>
         clear S13 hmt hmt' hm;obtain⟨m,hm,rfl,hS⟩:=hrel;have S14:=Lib.hid hS;clear hS;by_cases hmt:m<xi.cn
         ·obtain⟨hpl,-,-,hth,v,hv⟩:=S14.out.own.c m hmt
          have hf:=hth.free (i:=ofs yc+m * 3+2);have y4:=cellAt S14.out.box 4;simp only [List.getElem?_toArray,List.getElem?_cons_zero,List.getElem?_cons_succ] at y4;have hi:=fun W=>run_indexAt_row (w:=W) (n:=xi.cn) (cap:=ycc) claims32 size82 hpl hmt;clear hpl hth;go_upto_region 40 with (fail)
          go_still_tail 10,(by kernel_rfl)
          change wpList _ _ _ _ _ wr.drew;have S15:=Lib.hid S14.out.drew;clear S14 hf hv y4;generalize World.drew wr=w15 at *;obtain⟨-,-,-,hth,u,hu⟩:=S15.out.own.c m hmt;have hf:=hth.free (i:=ofs yc+m * 3+2);clear hth;go_wp2_with fail;exact⟨⟨m+1,by omega,by go_num,S15.out.setC hmt _⟩,by simp [intOf]; omega⟩
         ·have hmt':¬ (m:Int)<xi.cn:=by omega
          have I14:=Lib.hid (HL.out _ S14.out.bel);obtain⟨hz,hzi⟩:=HZ.out _ S14.out.keep;have D30:=Lib.hid (sameIrons30_any ⟨xi,za,zm,zr,zc,zac,zmc,zrc,zcc,zop,zsp,zok,zsk⟩ x wr hzi I14.out.a2 OK.out.2 OK.out.1 I14.out.st.tab);rw [HS.out] at D30;have q0:=cellAt hz 0;have q1:=cellAt hz 1;have q2:=cellAt hz 2;have q3:=cellAt hz 3;have q4:=cellAt hz 4;have r0:=cellAt I14.out.b2 0;have r1:=cellAt I14.out.b2 1;have r2:=cellAt I14.out.b2 2;have r3:=cellAt I14.out.b2 3;have r4:=cellAt I14.out.b2 4;simp only [List.getElem?_toArray,List.getElem?_cons_zero,List.getElem?_cons_succ] at q0 q1 q2 q3 q4 r0 r1 r2 r3 r4;clear hz hzi S14;go_wp2_with (go_at_call 30; refine D30.out.mono ?_; rintro e w16 ⟨rfl,hb⟩)
          go_meet
          exact I14.out.grow hb
     ·subst he
      go_wp2_with fail
      go_meet
      exact I8.out
    case rest =>
     have I9:=Lib.hid hcut;clear hcut I8 W3;obtain⟨t,ht,htm⟩:∃ t:Nat,t<40∧(b.toNat:Int).tmod 40=t:=⟨b.toNat % 40,Nat.mod_lt _ (by omega),by rw [Int.tmod_eq_emod_of_nonneg (by omega)]; omega⟩
     have hb8:b.toNat<256:=b.toNat_lt;have ew:IntKind.i64.wrap (b.toNat:Int)=b.toNat:=IntWalk.i64_in _ (by omega);have ew2:IntKind.i64.wrap (t:Int)=t:=IntWalk.i64_in _ (by omega)
     go_upto_region 45 with (first
      | (go_at_call 47; refine(seal47_any _).mono ?_; rintro e w16 ⟨p12,pc12,rfl,hB,-,hcp,hb1⟩)
      | (go_at_call 32; refine(flip_any _ 5 _ t sealS _ hB seal_lt8 (by omega) (by omega)).mono ?_; rintro e w17 ⟨fa,fc,rfl,hF,-,hfc,hb2⟩))
     have I10:=Lib.hid ((I9.out.grow hb1).grow hb2);have F10:=Lib.hid hF;have al:=(Below.refl w17.heap.size w17).alloc (Nat.le_refl _) (.cells #[] 5);have I11:=Lib.hid (I10.out.grow al);have F11:=Lib.hid (BytesAt.grow hF al);have HB0:=Lib.hid al;have E0:=Lib.hid (own_empty (B:=w17.heap.size) (heap_alloc_new w17 (.cells #[] 5)) (Nat.le_refl _) (byteV (flipB sealS t)));clear hF hb1 hb2 hB al htm ew ew2 hcp;go_wp2_with (first | (at_builtin; refine wpList_app elem5 rfl (.tmp 196) (.tmp 197) rfl rfl E0.out rfl (by omega) F11.out (fun _=>rfl) (by omega) HB0.out.size ?_) | fail);intro v1 w18 h2 h3;have hbg:=HB0.out.grown h3 HB0.out.size (fun x e=>(E0.out.lt x e).1);have hr:w18.ownsRow w17.heap.size 5 1 v1 5 (valsOf (byteV (flipB sealS t)) 5):=h2;obtain⟨oa,oc,rfl,hR,-,hoc⟩:=row_of hr (by unfold maxLen; omega);have I12:=Lib.hid (I10.out.grow hbg);have F12:=Lib.hid (BytesAt.grow F10.out hbg);have G12:=Lib.hid (show BytesAt w18 oa 5 (flipB sealS t) from hR);clear h2 h3 hbg hr hR HB0 E0 I11 F11 I10 F10 I9;go_upto_region 47 with (go_at_call 25; refine(mend_sample ht F12.out hfc).mono ?_; rintro e w19 ⟨g,gc,rfl,hg,hbx,hb⟩)
     have M19:=Lib.hid (And.intro hb hbx);clear hb hbx;go_wp2_with fail
     go_loopw [206] (fun i W => ∃ m:Nat,m≤5∧i = .int .i64 m∧Below w18.heap.size w18 W ∧ ∃ F,BoxAt W g (valsOf F 5).toArray 5) (fun i _=>5 - (intOf i).toNat)
     case atStart=>exact⟨0,Nat.zero_le _,rfl,M19.out⟩
     case round =>
      clear M19;obtain⟨m,hm,rfl,hb,F,hbx⟩:=hrel;have B20:=Lib.hid hb;have X20:=Lib.hid hbx;clear hb hbx;by_cases hmt:m<5
      ·have hmt':(m:Int)<5:=by omega
       have hi:=fun W=>run_indexAt_row (w:=W) (oa:=some ⟨g,0,none⟩) (n:=5) (cap:=gc) elem5.slice size5 rfl hmt;simp only [blk,ofs,Nat.zero_add,Nat.mul_one] at hi;have c0:=cellAt X20.out m;have f0:=freeAt X20.out m;rw [List.getElem?_toArray,valsOf_get _ hmt] at c0;go_wp2_with fail;exact⟨⟨m+1,by omega,by go_num,B20.out.setCell (p:=⟨g,m,none⟩) hg _,⟨_,box_set X20.out m _⟩⟩,by simp [intOf]; omega⟩
      ·have hmt':¬ (m:Int)<5:=by omega
       have I20:=Lib.hid (I12.out.grow B20.out);have D22:=Lib.hid (bytes_any fa oa 5 fc 5 oc (flipB sealS t) (flipB sealS t) wr (BytesAt.grow F12.out B20.out) (BytesAt.grow G12.out B20.out) (fun i _=>flip_lt seal_lt8 t i) (fun i _=>flip_lt seal_lt8 t i));rw [eqB_self] at D22;clear B20 X20
       go_wp2_with (first
        | (go_at_call 22; refine D22.out.mono ?_; rintro e w21 ⟨rfl,rfl⟩)
        | (go_at_call 13; refine(awake_any I20.out.st).mono ?_; rintro e w22 ⟨rfl,hb⟩))
       go_ret;exact⟨rfl,I20.out.bel.next hb⟩
end Go.Proofs.YtclbmlmlhiiaeaaGreatDoor
