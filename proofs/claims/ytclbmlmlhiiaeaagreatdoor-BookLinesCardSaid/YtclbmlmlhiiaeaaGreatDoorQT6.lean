/- Walks: pitches and irons held against others, by the referen -/
import Derived.Test.YtclbmlmlhiiaeaaGreatDoorQT1
namespace Go.Proofs.YtclbmlmlhiiaeaaGreatDoor
open Go.RowKit
structure TwoP (w:World) (a b:PitA) (W:World):Prop where
 bel:Below w.heap.size w W
 b0:BoxAt W w.heap.size #[.int .i64 a.hr,.int .i64 a.fr,.int .i64 a.pe,.slice a.fa a.fn a.fc,.slice a.qa a.qn a.qc] 29
 b1:BoxAt W (w.heap.size+1) #[.int .i64 b.hr,.int .i64 b.fr,.int .i64 b.pe,.slice b.fa b.fn b.fc,.slice b.qa b.qn b.qc] 29
 r0:a.At W
 r1:b.At W
 tab:Tab W
theorem TwoP.grow{w W W':World}{a b:PitA}(h:TwoP w a b W)(hb:Below W.heap.size W W'):TwoP w a b W' :=
 ⟨h.bel.next hb,h.b0.grow hb,h.b1.grow hb,h.r0.grow hb,h.r1.grow hb,h.tab.grow hb⟩
theorem TwoP.cells{w W:World}{a b:PitA}(h:TwoP w a b W):W.cell? ⟨w.heap.size,0,none⟩=some (.int .i64 a.hr)∧W.cell? ⟨w.heap.size,1,none⟩=some (.int .i64 a.fr)∧W.cell? ⟨w.heap.size,2,none⟩=some (.int .i64 a.pe)∧W.cell? ⟨w.heap.size,3,none⟩=some (.slice a.fa a.fn a.fc)∧W.cell? ⟨w.heap.size,4,none⟩=some (.slice a.qa a.qn a.qc)∧W.cell? ⟨w.heap.size+1,0,none⟩=some (.int .i64 b.hr)∧W.cell? ⟨w.heap.size+1,1,none⟩=some (.int .i64 b.fr)∧W.cell? ⟨w.heap.size+1,2,none⟩=some (.int .i64 b.pe)∧W.cell? ⟨w.heap.size+1,3,none⟩=some (.slice b.fa b.fn b.fc)∧W.cell? ⟨w.heap.size+1,4,none⟩=some (.slice b.qa b.qn b.qc) :=
 ⟨cellAt h.b0 0,cellAt h.b0 1,cellAt h.b0 2,cellAt h.b0 3,cellAt h.b0 4,cellAt h.b1 0,cellAt h.b1 1,cellAt h.b1 2,cellAt h.b1 3,cellAt h.b1 4⟩
abbrev PitA.T(a:PitA):List UInt8:=pitchT a.hr a.fr a.pe a.F a.fn a.Q a.qn
structure TwoI (w:World) (a b:IrA) (W:World):Prop where
 bel:Below w.heap.size w W
 b0:BoxAt W w.heap.size #[.int .i64 a.x.f,.slice a.oa a.x.on a.oc,.slice a.ma a.x.mn a.mc,.slice a.sa a.x.sn a.sc,.slice a.ca a.x.cn a.cc] 34
 b1:BoxAt W (w.heap.size+1) #[.int .i64 b.x.f,.slice b.oa b.x.on b.oc,.slice b.ma b.x.mn b.mc,.slice b.sa b.x.sn b.sc,.slice b.ca b.x.cn b.cc] 34
 r0:a.At W
 r1:b.At W
 tab:Tab W
theorem TwoI.grow{w W W':World}{a b:IrA}(h:TwoI w a b W)(hb:Below W.heap.size W W'):TwoI w a b W' :=
 ⟨h.bel.next hb,h.b0.grow hb,h.b1.grow hb,IronsAt.grow h.r0 hb,IronsAt.grow h.r1 hb,h.tab.grow hb⟩
theorem TwoI.cells{w W:World}{a b:IrA}(h:TwoI w a b W):W.cell? ⟨w.heap.size,0,none⟩=some (.int .i64 a.x.f)∧W.cell? ⟨w.heap.size,1,none⟩=some (.slice a.oa a.x.on a.oc)∧W.cell? ⟨w.heap.size,2,none⟩=some (.slice a.ma a.x.mn a.mc)∧W.cell? ⟨w.heap.size,3,none⟩=some (.slice a.sa a.x.sn a.sc)∧W.cell? ⟨w.heap.size,4,none⟩=some (.slice a.ca a.x.cn a.cc)∧W.cell? ⟨w.heap.size+1,0,none⟩=some (.int .i64 b.x.f)∧W.cell? ⟨w.heap.size+1,1,none⟩=some (.slice b.oa b.x.on b.oc)∧W.cell? ⟨w.heap.size+1,2,none⟩=some (.slice b.ma b.x.mn b.mc)∧W.cell? ⟨w.heap.size+1,3,none⟩=some (.slice b.sa b.x.sn b.sc)∧W.cell? ⟨w.heap.size+1,4,none⟩=some (.slice b.ca b.x.cn b.cc) :=
 ⟨cellAt h.b0 0,cellAt h.b0 1,cellAt h.b0 2,cellAt h.b0 3,cellAt h.b0 4,cellAt h.b1 0,cellAt h.b1 1,cellAt h.b1 2,cellAt h.b1 3,cellAt h.b1 4⟩
def sameI(a b:IronsV):Bool:=decide (a.mn=b.mn)&&decide (a.mn=a.on)&&decide (b.mn=b.on)&&(ironsT a==ironsT b)
set_option maxRecDepth 100000 in
set_option maxHeartbeats 2000000 in
theorem sameIrons30_any(a b:IrA)(w:World)(ha:a.At w)(hb:b.At w)(oa:IrOk a.x)(ob:IrOk b.x)(ht:Tab w) :
  Calls Tryz.prog 30 #[.agg #[.int .i64 a.x.f,.slice a.oa a.x.on a.oc,.slice a.ma a.x.mn a.mc,.slice a.sa a.x.sn a.sc,.slice a.ca a.x.cn a.cc],.agg #[.int .i64 b.x.f,.slice b.oa b.x.on b.oc,.slice b.ma b.x.mn b.mc,.slice b.sa b.x.sn b.sc,.slice b.ca b.x.cn b.cc]] w fun e w'=>e = .returned (.bool (sameI a.x b.x))∧Below w.heap.size w w':=by
 obtain⟨z0,z1,-,hB⟩:=blocks2 (show(w.alloc (.cells #[.int .i64 a.x.f,.slice a.oa a.x.on a.oc,.slice a.ma a.x.mn a.mc,.slice a.sa a.x.sn a.sc,.slice a.ca a.x.cn a.cc] 34)).alloc (.cells #[.int .i64 b.x.f,.slice b.oa b.x.on b.oc,.slice b.ma b.x.mn b.mc,.slice b.sa b.x.sn b.sc,.slice b.ca b.x.cn b.cc] 34)=_ from rfl);have J0:=Lib.hid (show TwoI w a b ((w.alloc (.cells #[.int .i64 a.x.f,.slice a.oa a.x.on a.oc,.slice a.ma a.x.mn a.mc,.slice a.sa a.x.sn a.sc,.slice a.ca a.x.cn a.cc] 34)).alloc (.cells #[.int .i64 b.x.f,.slice b.oa b.x.on b.oc,.slice b.ma b.x.mn b.mc,.slice b.sa b.x.sn b.sc,.slice b.ca b.x.cn b.cc] 34)) from⟨hB,z0,z1,IronsAt.grow ha hB,IronsAt.grow hb hB,ht.grow hB⟩);have C1:=Lib.hid (fun W (h:TwoI w a b W)=>ironsText_any a.x a.oa a.ma a.sa a.ca a.oc a.mc a.sc a.cc a.op a.sp a.ok a.sk W h.r0 oa h.tab);have C2:=Lib.hid (fun W (h:TwoI w a b W)=>ironsText_any b.x b.oa b.ma b.sa b.ca b.oc b.mc b.sc b.cc b.op b.sp b.ok b.sk W h.r1 ob h.tab);have n2:((a.x.mn:Int)==(a.x.on:Int))=true:=beq_iff_eq.2 (by rw [oa.mn]);have n3:((b.x.mn:Int)==(b.x.on:Int))=true:=beq_iff_eq.2 (by rw [ob.mn]);have n4:((a.x.mn:Int) != (a.x.on:Int))=false:=by unfold bne; rw [n2]; rfl
 have n5:((b.x.mn:Int) != (b.x.on:Int))=false:=by unfold bne; rw [n3]; rfl
 have HR:=Lib.hid (show sameI a.x b.x=(decide (a.x.mn=b.x.mn)&&(ironsT a.x==ironsT b.x)) from by unfold sameI; rw [decide_eq_true oa.mn,decide_eq_true ob.mn]; simp);clear ha hb oa ob ht z0 z1 hB;generalize sameI a.x b.x=R at *;generalize ironsT a.x=A at *;generalize ironsT b.x=B at *;by_cases hm:a.x.mn=b.x.mn
 ·have hRT:R=(A==B):=by rw [HR.out,decide_eq_true hm]; simp
  have HRT:=Lib.hid hRT;have n0:((a.x.mn:Int)==(b.x.mn:Int))=true:=beq_iff_eq.2 (by rw [hm]);have n1:((a.x.mn:Int) != (b.x.mn:Int))=false:=by unfold bne; rw [n0]; rfl
  clear hRT HR hm;go_enter Tryz.func30,Tryz.ntmps30;go_upto_region 1 with (fail)
  generalize World.alloc (World.alloc w _) _=W0 at *;obtain⟨q0,q1,q2,q3,q4,q5,q6,q7,q8,q9⟩:=J0.out.cells;go_upto_region 3 with (fail)
  clear q0 q1 q2 q3 q4 q5 q6 q7 q8 q9;refine wp_region_stg (S:=(fun w':World=>w'.cell? ⟨w.heap.size,0,none⟩=some (.int .i64 a.x.f)∧w'.cell? ⟨w.heap.size,1,none⟩=some (.slice a.oa a.x.on a.oc)∧w'.cell? ⟨w.heap.size,2,none⟩=some (.slice a.ma a.x.mn a.mc)∧w'.cell? ⟨w.heap.size,3,none⟩=some (.slice a.sa a.x.sn a.sc)∧w'.cell? ⟨w.heap.size,4,none⟩=some (.slice a.ca a.x.cn a.cc)∧w'.cell? ⟨w.heap.size+1,0,none⟩=some (.int .i64 b.x.f)∧w'.cell? ⟨w.heap.size+1,1,none⟩=some (.slice b.oa b.x.on b.oc)∧w'.cell? ⟨w.heap.size+1,2,none⟩=some (.slice b.ma b.x.mn b.mc)∧w'.cell? ⟨w.heap.size+1,3,none⟩=some (.slice b.sa b.x.sn b.sc)∧w'.cell? ⟨w.heap.size+1,4,none⟩=some (.slice b.ca b.x.cn b.cc))) (L:=[]) (D:=[]) (by kernel_rfl) (by kernel_rfl) (by have I0:=Lib.hid (J0.out.grow (Below.drew (Below.refl _ _))); exact I0.out.cells) (fun e he=>by cases he) (fun hC0 hH0=>?_);have R2I0:=Lib.hid (J0.out.grow (Below.drew (Below.refl _ _)));clear J0;generalize World.drew W0=R2v0 at *;refine tkA (i:=0) (v:=?_) rfl hC0 (Or.inl ⟨by rfl,?_⟩) hH0 (fun hC1 hH1=>?_);rotate_left
  ·(intro w9 hSw; obtain⟨hSw,hLw⟩:=hSw; clear hLw; (try dsimp only at hSw); (go_split_ands; go_simp); (try with_reducible rfl))
  clear hC0 hH0
  try simp only [Act.put,List.setIfInBounds_toArray,List.set_cons_zero,List.set_cons_succ]
  refine tkA (i:=2) (v:=?_) rfl hC1 (Or.inl ⟨by rfl,?_⟩) hH1 (fun hC2 hH2=>?_);rotate_left
  ·(intro w9 hSw; obtain⟨hSw,hLw⟩:=hSw; clear hLw; (try dsimp only at hSw); (go_split_ands; go_simp); (try with_reducible rfl))
  clear hC1 hH1
  try simp only [Act.put,List.setIfInBounds_toArray,List.set_cons_zero,List.set_cons_succ]
  refine onA (i:=1) rfl hC2 (fun K hK=>?_);clear hC2 hH2;go_simp;refine(C1.out R2v0 R2I0.out).mono ?_;rintro e R2v1 ⟨rfl,hb1⟩;have R2I1:=Lib.hid (R2I0.out.grow hb1);clear hb1 R2I0;go_wp2_with fail;refine hK.out _ _ ?_ (fun hC3 hH3=>?_)
  ·exact⟨R2I1.out.cells,fun e he=>by cases he⟩
  clear hK K
  try simp only [Act.put,List.setIfInBounds_toArray,List.set_cons_zero,List.set_cons_succ]
  refine onA (i:=3) rfl hC3 (fun K hK=>?_);clear hC3 hH3;go_simp;refine(C2.out R2v1 R2I1.out).mono ?_;rintro e R2v2 ⟨rfl,hb2⟩;have R2I2:=Lib.hid (R2I1.out.grow hb2);clear hb2 R2I1;go_wp2_with fail;refine hK.out _ _ ?_ (fun hC4 hH4=>?_)
  ·exact⟨R2I2.out.cells,fun e he=>by cases he⟩
  clear hK K
  try simp only [Act.put,List.setIfInBounds_toArray,List.set_cons_zero,List.set_cons_succ]
  refine tkA (i:=4) (v:=?_) rfl hC4 (Or.inl ⟨by rfl,?_⟩) hH4 (fun hC5 hH5=>?_);rotate_left
  ·(intro w9 hSw; obtain⟨hSw,hLw⟩:=hSw; clear hLw; (try dsimp only at hSw); (go_split_ands; go_simp); (try with_reducible rfl))
  clear hC4 hH4
  try simp only [Act.put,List.setIfInBounds_toArray,List.set_cons_zero,List.set_cons_succ]
  refine tkA (i:=5) (v:=?_) rfl hC5 (Or.inl ⟨by rfl,?_⟩) hH5 (fun hC6 hH6=>?_);rotate_left
  ·(intro w9 hSw; obtain⟨hSw,hLw⟩:=hSw; clear hLw; (try dsimp only at hSw); (go_split_ands; go_simp); (try with_reducible rfl))
  clear hC5 hH5
  try simp only [Act.put,List.setIfInBounds_toArray,List.set_cons_zero,List.set_cons_succ]
  refine wpAnyT_done (by kernel_rfl) ?_ _;clear hC6 hH6;go_wp2_with fail;go_ret;exact⟨ret_bool HRT.out.symm,R2I2.out.bel⟩
 ·have hRF:R=false:=by rw [HR.out,decide_eq_false hm]; rfl
  have HRF:=Lib.hid hRF;have n0:((a.x.mn:Int)==(b.x.mn:Int))=false:=beq_eq_false_iff_ne.2 (by omega);have n1:((a.x.mn:Int) != (b.x.mn:Int))=true:=by unfold bne; rw [n0]; rfl
  clear hRF HR hm;go_enter Tryz.func30,Tryz.ntmps30;go_upto_region 1 with (fail)
  generalize World.alloc (World.alloc w _) _=W0 at *;obtain⟨q0,q1,q2,q3,q4,q5,q6,q7,q8,q9⟩:=J0.out.cells;go_wp2_with fail;go_ret;exact⟨ret_bool (by rw [HRF.out]),J0.out.bel⟩
end Go.Proofs.YtclbmlmlhiiaeaaGreatDoor
