/- Walks: pitches and irons held against others, by the referen -/
import Derived.Test.YtclbmlmlhiiaeaaGreatDoorQT1
namespace Go.Proofs.YtclbmlmlhiiaeaaGreatDoor
open Go.RowKit
structure TwoP (w:World) (a b:PitA) (W:World):Prop where
 bel:Below w.heap.size w W
 b0:BoxAt W w.heap.size #[.int .i64 a.hr,.int .i64 a.fr,.int .i64 a.pe,.slice a.fa a.fn a.fc,.slice a.qa a.qn a.qc] 29
 b1:BoxAt W (w.heap.size+1) #[.int .i64 b.hr,.int .i64 b.fr,.int .i64 b.pe,.slice b.fa b.fn b.fc,.slice b.qa b.qn b.qc] 29
 r0:a.At W
 r1:b.At W
 tab:Tab W
theorem TwoP.grow{w W W':World}{a b:PitA}(h:TwoP w a b W)(hb:Below W.heap.size W W'):TwoP w a b W' :=
 ⟨h.bel.next hb,h.b0.grow hb,h.b1.grow hb,h.r0.grow hb,h.r1.grow hb,h.tab.grow hb⟩
theorem TwoP.cells{w W:World}{a b:PitA}(h:TwoP w a b W):W.cell? ⟨w.heap.size,0,none⟩=some (.int .i64 a.hr)∧W.cell? ⟨w.heap.size,1,none⟩=some (.int .i64 a.fr)∧W.cell? ⟨w.heap.size,2,none⟩=some (.int .i64 a.pe)∧W.cell? ⟨w.heap.size,3,none⟩=some (.slice a.fa a.fn a.fc)∧W.cell? ⟨w.heap.size,4,none⟩=some (.slice a.qa a.qn a.qc)∧W.cell? ⟨w.heap.size+1,0,none⟩=some (.int .i64 b.hr)∧W.cell? ⟨w.heap.size+1,1,none⟩=some (.int .i64 b.fr)∧W.cell? ⟨w.heap.size+1,2,none⟩=some (.int .i64 b.pe)∧W.cell? ⟨w.heap.size+1,3,none⟩=some (.slice b.fa b.fn b.fc)∧W.cell? ⟨w.heap.size+1,4,none⟩=some (.slice b.qa b.qn b.qc) :=
 ⟨cellAt h.b0 0,cellAt h.b0 1,cellAt h.b0 2,cellAt h.b0 3,cellAt h.b0 4,cellAt h.b1 0,cellAt h.b1 1,cellAt h.b1 2,cellAt h.b1 3,cellAt h.b1 4⟩
abbrev PitA.Ok(a:PitA):Prop:=PitOk a.hr a.fr a.pe a.F a.fn a.Q a.qn
abbrev PitA.T(a:PitA):List UInt8:=pitchT a.hr a.fr a.pe a.F a.fn a.Q a.qn
set_option maxRecDepth 100000 in
set_option maxHeartbeats 1000000 in
theorem samePitch29_any(a b:PitA)(w:World)(ha:a.At w)(hb:b.At w)(oa:a.Ok)(ob:b.Ok)(ht:Tab w) :
  Calls Tryz.prog 29 #[.agg #[.int .i64 a.hr,.int .i64 a.fr,.int .i64 a.pe,.slice a.fa a.fn a.fc,.slice a.qa a.qn a.qc],.agg #[.int .i64 b.hr,.int .i64 b.fr,.int .i64 b.pe,.slice b.fa b.fn b.fc,.slice b.qa b.qn b.qc]] w fun e w'=>e = .returned (.bool (a.T==b.T))∧Below w.heap.size w w':=by
 obtain⟨z0,z1,-,hB⟩:=blocks2 (show(w.alloc (.cells #[.int .i64 a.hr,.int .i64 a.fr,.int .i64 a.pe,.slice a.fa a.fn a.fc,.slice a.qa a.qn a.qc] 29)).alloc (.cells #[.int .i64 b.hr,.int .i64 b.fr,.int .i64 b.pe,.slice b.fa b.fn b.fc,.slice b.qa b.qn b.qc] 29)=_ from rfl);have J0:=Lib.hid (show TwoP w a b ((w.alloc (.cells #[.int .i64 a.hr,.int .i64 a.fr,.int .i64 a.pe,.slice a.fa a.fn a.fc,.slice a.qa a.qn a.qc] 29)).alloc (.cells #[.int .i64 b.hr,.int .i64 b.fr,.int .i64 b.pe,.slice b.fa b.fn b.fc,.slice b.qa b.qn b.qc] 29)) from⟨hB,z0,z1,ha.grow hB,hb.grow hB,ht.grow hB⟩);have C1:=Lib.hid (fun W (h:TwoP w a b W)=>pitchText_any a.hr a.fr a.pe a.fa a.qa a.fn a.fc a.qn a.qc a.F a.Q W h.r0.f h.r0.q oa h.tab);have C2:=Lib.hid (fun W (h:TwoP w a b W)=>pitchText_any b.hr b.fr b.pe b.fa b.qa b.fn b.fc b.qn b.qc b.F b.Q W h.r1.f h.r1.q ob h.tab);clear ha hb oa ob ht z0 z1 hB;unfold PitA.T;generalize pitchT a.hr a.fr a.pe a.F a.fn a.Q a.qn=A at *;generalize pitchT b.hr b.fr b.pe b.F b.fn b.Q b.qn=B at *;go_enter Tryz.func29,Tryz.ntmps29;go_upto_region 1 with (fail)
 generalize World.alloc (World.alloc w _) _=W0 at *;refine wp_region_stg (S:=(fun w':World=>w'.cell? ⟨w.heap.size,0,none⟩=some (.int .i64 a.hr)∧w'.cell? ⟨w.heap.size,1,none⟩=some (.int .i64 a.fr)∧w'.cell? ⟨w.heap.size,2,none⟩=some (.int .i64 a.pe)∧w'.cell? ⟨w.heap.size,3,none⟩=some (.slice a.fa a.fn a.fc)∧w'.cell? ⟨w.heap.size,4,none⟩=some (.slice a.qa a.qn a.qc)∧w'.cell? ⟨w.heap.size+1,0,none⟩=some (.int .i64 b.hr)∧w'.cell? ⟨w.heap.size+1,1,none⟩=some (.int .i64 b.fr)∧w'.cell? ⟨w.heap.size+1,2,none⟩=some (.int .i64 b.pe)∧w'.cell? ⟨w.heap.size+1,3,none⟩=some (.slice b.fa b.fn b.fc)∧w'.cell? ⟨w.heap.size+1,4,none⟩=some (.slice b.qa b.qn b.qc))) (L:=[]) (D:=[]) (by kernel_rfl) (by kernel_rfl) (by have I0:=Lib.hid (J0.out.grow (Below.drew (Below.refl _ _))); exact I0.out.cells) (fun e he=>by cases he) (fun hC0 hH0=>?_);have R1I0:=Lib.hid (J0.out.grow (Below.drew (Below.refl _ _)));clear J0;generalize World.drew W0=R1v0 at *;refine tkA (i:=0) (v:=?_) rfl hC0 (Or.inl ⟨by rfl,?_⟩) hH0 (fun hC1 hH1=>?_);rotate_left
 ·(intro w9 hSw; obtain⟨hSw,hLw⟩:=hSw; clear hLw; (try dsimp only at hSw); (go_split_ands; go_simp); (try with_reducible rfl))
 clear hC0 hH0
 try simp only [Act.put,List.setIfInBounds_toArray,List.set_cons_zero,List.set_cons_succ]
 refine tkA (i:=2) (v:=?_) rfl hC1 (Or.inl ⟨by rfl,?_⟩) hH1 (fun hC2 hH2=>?_);rotate_left
 ·(intro w9 hSw; obtain⟨hSw,hLw⟩:=hSw; clear hLw; (try dsimp only at hSw); (go_split_ands; go_simp); (try with_reducible rfl))
 clear hC1 hH1
 try simp only [Act.put,List.setIfInBounds_toArray,List.set_cons_zero,List.set_cons_succ]
 refine onA (i:=1) rfl hC2 (fun K hK=>?_);clear hC2 hH2;go_simp;refine(C1.out R1v0 R1I0.out).mono ?_;rintro e R1v1 ⟨rfl,hb1⟩;have R1I1:=Lib.hid (R1I0.out.grow hb1);clear hb1 R1I0;go_wp2_with fail;refine hK.out _ _ ?_ (fun hC3 hH3=>?_)
 ·exact⟨R1I1.out.cells,fun e he=>by cases he⟩
 clear hK K
 try simp only [Act.put,List.setIfInBounds_toArray,List.set_cons_zero,List.set_cons_succ]
 refine onA (i:=3) rfl hC3 (fun K hK=>?_);clear hC3 hH3;go_simp;refine(C2.out R1v1 R1I1.out).mono ?_;rintro e R1v2 ⟨rfl,hb2⟩;have R1I2:=Lib.hid (R1I1.out.grow hb2);clear hb2 R1I1;go_wp2_with fail;refine hK.out _ _ ?_ (fun hC4 hH4=>?_)
 ·exact⟨R1I2.out.cells,fun e he=>by cases he⟩
 clear hK K
 try simp only [Act.put,List.setIfInBounds_toArray,List.set_cons_zero,List.set_cons_succ]
 refine tkA (i:=4) (v:=?_) rfl hC4 (Or.inl ⟨by rfl,?_⟩) hH4 (fun hC5 hH5=>?_);rotate_left
 ·(intro w9 hSw; obtain⟨hSw,hLw⟩:=hSw; clear hLw; (try dsimp only at hSw); (go_split_ands; go_simp); (try with_reducible rfl))
 clear hC4 hH4
 try simp only [Act.put,List.setIfInBounds_toArray,List.set_cons_zero,List.set_cons_succ]
 refine tkA (i:=5) (v:=?_) rfl hC5 (Or.inl ⟨by rfl,?_⟩) hH5 (fun hC6 hH6=>?_);rotate_left
 ·(intro w9 hSw; obtain⟨hSw,hLw⟩:=hSw; clear hLw; (try dsimp only at hSw); (go_split_ands; go_simp); (try with_reducible rfl))
 clear hC5 hH5
 try simp only [Act.put,List.setIfInBounds_toArray,List.set_cons_zero,List.set_cons_succ]
 refine wpAnyT_done (by kernel_rfl) ?_ _;clear hC6 hH6;go_wp2_with fail;go_ret;exact⟨rfl,R1I2.out.bel⟩
structure TwoI (w:World) (a b:IrA) (W:World):Prop where
 bel:Below w.heap.size w W
 b0:BoxAt W w.heap.size #[.int .i64 a.x.f,.slice a.oa a.x.on a.oc,.slice a.ma a.x.mn a.mc,.slice a.sa a.x.sn a.sc,.slice a.ca a.x.cn a.cc] 34
 b1:BoxAt W (w.heap.size+1) #[.int .i64 b.x.f,.slice b.oa b.x.on b.oc,.slice b.ma b.x.mn b.mc,.slice b.sa b.x.sn b.sc,.slice b.ca b.x.cn b.cc] 34
 r0:a.At W
 r1:b.At W
 tab:Tab W
theorem TwoI.grow{w W W':World}{a b:IrA}(h:TwoI w a b W)(hb:Below W.heap.size W W'):TwoI w a b W' :=
 ⟨h.bel.next hb,h.b0.grow hb,h.b1.grow hb,IronsAt.grow h.r0 hb,IronsAt.grow h.r1 hb,h.tab.grow hb⟩
theorem TwoI.cells{w W:World}{a b:IrA}(h:TwoI w a b W):W.cell? ⟨w.heap.size,0,none⟩=some (.int .i64 a.x.f)∧W.cell? ⟨w.heap.size,1,none⟩=some (.slice a.oa a.x.on a.oc)∧W.cell? ⟨w.heap.size,2,none⟩=some (.slice a.ma a.x.mn a.mc)∧W.cell? ⟨w.heap.size,3,none⟩=some (.slice a.sa a.x.sn a.sc)∧W.cell? ⟨w.heap.size,4,none⟩=some (.slice a.ca a.x.cn a.cc)∧W.cell? ⟨w.heap.size+1,0,none⟩=some (.int .i64 b.x.f)∧W.cell? ⟨w.heap.size+1,1,none⟩=some (.slice b.oa b.x.on b.oc)∧W.cell? ⟨w.heap.size+1,2,none⟩=some (.slice b.ma b.x.mn b.mc)∧W.cell? ⟨w.heap.size+1,3,none⟩=some (.slice b.sa b.x.sn b.sc)∧W.cell? ⟨w.heap.size+1,4,none⟩=some (.slice b.ca b.x.cn b.cc) :=
 ⟨cellAt h.b0 0,cellAt h.b0 1,cellAt h.b0 2,cellAt h.b0 3,cellAt h.b0 4,cellAt h.b1 0,cellAt h.b1 1,cellAt h.b1 2,cellAt h.b1 3,cellAt h.b1 4⟩
def sameI(a b:IronsV):Bool:=decide (a.mn=b.mn)&&decide (a.mn=a.on)&&decide (b.mn=b.on)&&(ironsT a==ironsT b)
set_option maxRecDepth 100000 in
set_option maxHeartbeats 2000000 in
theorem sameIrons30_any(a b:IrA)(w:World)(ha:a.At w)(hb:b.At w)(oa:IrOk a.x)(ob:IrOk b.x)(ht:Tab w) :
  Calls Tryz.prog 30 #[.agg #[.int .i64 a.x.f,.slice a.oa a.x.on a.oc,.slice a.ma a.x.mn a.mc,.slice a.sa a.x.sn a.sc,.slice a.ca a.x.cn a.cc],.agg #[.int .i64 b.x.f,.slice b.oa b.x.on b.oc,.slice b.ma b.x.mn b.mc,.slice b.sa b.x.sn b.sc,.slice b.ca b.x.cn b.cc]] w fun e w'=>e = .returned (.bool (sameI a.x b.x))∧Below w.heap.size w w':=by
 obtain⟨z0,z1,-,hB⟩:=blocks2 (show(w.alloc (.cells #[.int .i64 a.x.f,.slice a.oa a.x.on a.oc,.slice a.ma a.x.mn a.mc,.slice a.sa a.x.sn a.sc,.slice a.ca a.x.cn a.cc] 34)).alloc (.cells #[.int .i64 b.x.f,.slice b.oa b.x.on b.oc,.slice b.ma b.x.mn b.mc,.slice b.sa b.x.sn b.sc,.slice b.ca b.x.cn b.cc] 34)=_ from rfl);have J0:=Lib.hid (show TwoI w a b ((w.alloc (.cells #[.int .i64 a.x.f,.slice a.oa a.x.on a.oc,.slice a.ma a.x.mn a.mc,.slice a.sa a.x.sn a.sc,.slice a.ca a.x.cn a.cc] 34)).alloc (.cells #[.int .i64 b.x.f,.slice b.oa b.x.on b.oc,.slice b.ma b.x.mn b.mc,.slice b.sa b.x.sn b.sc,.slice b.ca b.x.cn b.cc] 34)) from⟨hB,z0,z1,IronsAt.grow ha hB,IronsAt.grow hb hB,ht.grow hB⟩);have C1:=Lib.hid (fun W (h:TwoI w a b W)=>ironsText_any a.x a.oa a.ma a.sa a.ca a.oc a.mc a.sc a.cc a.op a.sp a.ok a.sk W h.r0 oa h.tab);have C2:=Lib.hid (fun W (h:TwoI w a b W)=>ironsText_any b.x b.oa b.ma b.sa b.ca b.oc b.mc b.sc b.cc b.op b.sp b.ok b.sk W h.r1 ob h.tab);have n2:((a.x.mn:Int)==(a.x.on:Int))=true:=beq_iff_eq.2 (by rw [oa.mn]);have n3:((b.x.mn:Int)==(b.x.on:Int))=true:=beq_iff_eq.2 (by rw [ob.mn]);have n4:((a.x.mn:Int) != (a.x.on:Int))=false:=by unfold bne; rw [n2]; rfl
 have n5:((b.x.mn:Int) != (b.x.on:Int))=false:=by unfold bne; rw [n3]; rfl
 have HR:=Lib.hid (show sameI a.x b.x=(decide (a.x.mn=b.x.mn)&&(ironsT a.x==ironsT b.x)) from by unfold sameI; rw [decide_eq_true oa.mn,decide_eq_true ob.mn]; simp);clear ha hb oa ob ht z0 z1 hB;generalize sameI a.x b.x=R at *;generalize ironsT a.x=A at *;generalize ironsT b.x=B at *;by_cases hm:a.x.mn=b.x.mn
 ·have hRT:R=(A==B):=by rw [HR.out,decide_eq_true hm]; simp
  have HRT:=Lib.hid hRT;have n0:((a.x.mn:Int)==(b.x.mn:Int))=true:=beq_iff_eq.2 (by rw [hm]);have n1:((a.x.mn:Int) != (b.x.mn:Int))=false:=by unfold bne; rw [n0]; rfl
  clear hRT HR hm;go_enter Tryz.func30,Tryz.ntmps30;go_upto_region 1 with (fail)
  generalize World.alloc (World.alloc w _) _=W0 at *;obtain⟨q0,q1,q2,q3,q4,q5,q6,q7,q8,q9⟩:=J0.out.cells;go_upto_region 3 with (fail)
  clear q0 q1 q2 q3 q4 q5 q6 q7 q8 q9;refine wp_region_stg (S:=(fun w':World=>w'.cell? ⟨w.heap.size,0,none⟩=some (.int .i64 a.x.f)∧w'.cell? ⟨w.heap.size,1,none⟩=some (.slice a.oa a.x.on a.oc)∧w'.cell? ⟨w.heap.size,2,none⟩=some (.slice a.ma a.x.mn a.mc)∧w'.cell? ⟨w.heap.size,3,none⟩=some (.slice a.sa a.x.sn a.sc)∧w'.cell? ⟨w.heap.size,4,none⟩=some (.slice a.ca a.x.cn a.cc)∧w'.cell? ⟨w.heap.size+1,0,none⟩=some (.int .i64 b.x.f)∧w'.cell? ⟨w.heap.size+1,1,none⟩=some (.slice b.oa b.x.on b.oc)∧w'.cell? ⟨w.heap.size+1,2,none⟩=some (.slice b.ma b.x.mn b.mc)∧w'.cell? ⟨w.heap.size+1,3,none⟩=some (.slice b.sa b.x.sn b.sc)∧w'.cell? ⟨w.heap.size+1,4,none⟩=some (.slice b.ca b.x.cn b.cc))) (L:=[]) (D:=[]) (by kernel_rfl) (by kernel_rfl) (by have I0:=Lib.hid (J0.out.grow (Below.drew (Below.refl _ _))); exact I0.out.cells) (fun e he=>by cases he) (fun hC0 hH0=>?_);have R2I0:=Lib.hid (J0.out.grow (Below.drew (Below.refl _ _)));clear J0;generalize World.drew W0=R2v0 at *;refine tkA (i:=0) (v:=?_) rfl hC0 (Or.inl ⟨by rfl,?_⟩) hH0 (fun hC1 hH1=>?_);rotate_left
  ·(intro w9 hSw; obtain⟨hSw,hLw⟩:=hSw; clear hLw; (try dsimp only at hSw); (go_split_ands; go_simp); (try with_reducible rfl))
  clear hC0 hH0
  try simp only [Act.put,List.setIfInBounds_toArray,List.set_cons_zero,List.set_cons_succ]
  refine tkA (i:=2) (v:=?_) rfl hC1 (Or.inl ⟨by rfl,?_⟩) hH1 (fun hC2 hH2=>?_);rotate_left
  ·(intro w9 hSw; obtain⟨hSw,hLw⟩:=hSw; clear hLw; (try dsimp only at hSw); (go_split_ands; go_simp); (try with_reducible rfl))
  clear hC1 hH1
  try simp only [Act.put,List.setIfInBounds_toArray,List.set_cons_zero,List.set_cons_succ]
  refine onA (i:=1) rfl hC2 (fun K hK=>?_);clear hC2 hH2;go_simp;refine(C1.out R2v0 R2I0.out).mono ?_;rintro e R2v1 ⟨rfl,hb1⟩;have R2I1:=Lib.hid (R2I0.out.grow hb1);clear hb1 R2I0;go_wp2_with fail;refine hK.out _ _ ?_ (fun hC3 hH3=>?_)
  ·exact⟨R2I1.out.cells,fun e he=>by cases he⟩
  clear hK K
  try simp only [Act.put,List.setIfInBounds_toArray,List.set_cons_zero,List.set_cons_succ]
  refine onA (i:=3) rfl hC3 (fun K hK=>?_);clear hC3 hH3;go_simp;refine(C2.out R2v1 R2I1.out).mono ?_;rintro e R2v2 ⟨rfl,hb2⟩;have R2I2:=Lib.hid (R2I1.out.grow hb2);clear hb2 R2I1;go_wp2_with fail;refine hK.out _ _ ?_ (fun hC4 hH4=>?_)
  ·exact⟨R2I2.out.cells,fun e he=>by cases he⟩
  clear hK K
  try simp only [Act.put,List.setIfInBounds_toArray,List.set_cons_zero,List.set_cons_succ]
  refine tkA (i:=4) (v:=?_) rfl hC4 (Or.inl ⟨by rfl,?_⟩) hH4 (fun hC5 hH5=>?_);rotate_left
  ·(intro w9 hSw; obtain⟨hSw,hLw⟩:=hSw; clear hLw; (try dsimp only at hSw); (go_split_ands; go_simp); (try with_reducible rfl))
  clear hC4 hH4
  try simp only [Act.put,List.setIfInBounds_toArray,List.set_cons_zero,List.set_cons_succ]
  refine tkA (i:=5) (v:=?_) rfl hC5 (Or.inl ⟨by rfl,?_⟩) hH5 (fun hC6 hH6=>?_);rotate_left
  ·(intro w9 hSw; obtain⟨hSw,hLw⟩:=hSw; clear hLw; (try dsimp only at hSw); (go_split_ands; go_simp); (try with_reducible rfl))
  clear hC5 hH5
  try simp only [Act.put,List.setIfInBounds_toArray,List.set_cons_zero,List.set_cons_succ]
  refine wpAnyT_done (by kernel_rfl) ?_ _;clear hC6 hH6;go_wp2_with fail;go_ret;exact⟨ret_bool HRT.out.symm,R2I2.out.bel⟩
 ·have hRF:R=false:=by rw [HR.out,decide_eq_false hm]; rfl
  have HRF:=Lib.hid hRF;have n0:((a.x.mn:Int)==(b.x.mn:Int))=false:=beq_eq_false_iff_ne.2 (by omega);have n1:((a.x.mn:Int) != (b.x.mn:Int))=true:=by unfold bne; rw [n0]; rfl
  clear hRF HR hm;go_enter Tryz.func30,Tryz.ntmps30;go_upto_region 1 with (fail)
  generalize World.alloc (World.alloc w _) _=W0 at *;obtain⟨q0,q1,q2,q3,q4,q5,q6,q7,q8,q9⟩:=J0.out.cells;go_wp2_with fail;go_ret;exact⟨ret_bool (by rw [HRF.out]),J0.out.bel⟩
def wsN(t:List UInt8):Nat:=t.count 119
theorem wsN_app(a b:List UInt8):wsN (a++b)=wsN a+wsN b:=List.count_append
theorem wsN_dec(u:Nat):wsN (Lib.decDigits u)=0:=by
 unfold wsN;rw [List.count_eq_zero];intro h;have:=(dec_spec u).1 119 h;exact absurd this (by decide)
theorem wsN_itoa(n:Int):wsN (Lib.itoa n)=0:=by
 by_cases hn:n<0
 ·obtain⟨u,rfl⟩:∃ u:Nat,n = -(u:Int):=⟨n.natAbs,by omega⟩
  rw [Lib.itoa_neg u (by omega)]
  show wsN ([45]++Lib.decDigits u)=0
  rw [wsN_app,wsN_dec];rfl
 ·obtain⟨u,rfl⟩:∃ u:Nat,n=u:=⟨n.toNat,by omega⟩
  rw [Lib.itoa_nonneg];exact wsN_dec u
theorem wsN_nums(t:List UInt8)(F:Nat→Int):∀ n,wsN (numsT t F n)=wsN t
 | 0=>rfl
 | n+1=>by
  show wsN (numsT t F n++([32]++Lib.itoa (F n)))=_
  rw [wsN_app,wsN_nums t F n,wsN_app,wsN_itoa];rfl
theorem wsN_owners(t:List UInt8)(x:IronsV):∀ n,wsN (ownersT t x n)=wsN t+n
 | 0=>rfl
 | n+1=>by
  show wsN (numsT (ownersT t x n++([111,119,110,101,114,32]++Lib.itoa (x.most n))) (x.own n) (x.ol n) ++ [10])=_
  rw [wsN_app,wsN_nums,wsN_app,wsN_app,wsN_itoa,wsN_owners t x n]
  show wsN t+n+(1+0)+0=_
  omega
theorem wsN_span(lo hi:Int):wsN (spanT lo hi)=0:=by
 unfold spanT
 split
 ·exact wsN_itoa lo
 ·show wsN (Lib.itoa lo++([46,46]++Lib.itoa hi))=0
  rw [wsN_app,wsN_itoa,wsN_app,wsN_itoa];rfl
theorem wsN_marks(t:List UInt8)(M:Nat→IMark):∀ n,wsN (marksT t M n)=wsN t
 | 0=>rfl
 | n+1=>by
  show wsN (marksT t M n++(([32]++Lib.itoa (M n).f)++([61]++spanT (M n).lo (M n).hi)))=_
  rw [wsN_app,wsN_marks t M n,wsN_app,wsN_app,wsN_app,wsN_itoa,wsN_span];rfl
theorem wsN_strakes(t:List UInt8)(x:IronsV):∀ n,wsN (strakesT t x n)=wsN t
 | 0=>rfl
 | n+1=>by
  show wsN (marksT (strakesT t x n ++ [115,116,114,97,107,101]) (x.mark n) (x.sl n) ++ [10])=_
  rw [wsN_app,wsN_marks,wsN_app,wsN_strakes t x n];rfl
theorem wsN_claims(t:List UInt8)(C:Nat→IClaim):∀ n,wsN (claimsT t C n)=wsN t
 | 0=>rfl
 | n+1=>by
  show wsN (claimsT t C n++([99,108,97,105,109,32]++Lib.itoa (C n).s++([32]++(notT (C n).n++Lib.itoa (C n).o)) ++ [10]))=_
  simp only [wsN_app,wsN_claims t C n,wsN_itoa]
  cases(C n).n <;> rfl
theorem wsN_irons(x:IronsV):wsN (ironsT x)=x.on:=by
 unfold ironsT ironH;rw [wsN_claims,wsN_strakes,wsN_owners,wsN_app,wsN_app,wsN_itoa]
 show 0+0+0+x.on=x.on
 omega
theorem sameI_text{x y:IronsV}(hx:IrOk x)(hy:IrOk y):sameI x y=(ironsT x==ironsT y):=by
 unfold sameI;rw [decide_eq_true hx.mn,decide_eq_true hy.mn];by_cases h:ironsT x=ironsT y
 ·have e:=wsN_irons x
  rw [h,wsN_irons y] at e;rw [decide_eq_true (show x.mn=y.mn by rw [hx.mn,hy.mn,e])];rfl
 ·rw [show(ironsT x==ironsT y)=false from beq_eq_false_iff_ne.2 h,Bool.and_false]
end Go.Proofs.YtclbmlmlhiiaeaaGreatDoor
