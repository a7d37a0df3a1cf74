/- Walks: irons are written, by the program and by the referenc -/
import Derived.Test.YtclbmlmlhiiaeaaGreatDoorQF4
import Derived.Test.YtclbmlmlhiiaeaaGreatDoorQD2
import Derived.Test.YtclbmlmlhiiaeaaGreatDoorQE6
import Derived.Test.YtclbmlmlhiiaeaaGreatDoorQV3
namespace Go.Proofs.YtclbmlmlhiiaeaaGreatDoor
open Go.RowKit
structure RowsIrons (x:IronsV) (oa ma sa ca:Option Addr) (oc mc sc cc:Nat) (op sp:Nat→Option Addr) (ok sk:Nat→Nat) (W:World):Prop where
 rr:IronsAt x oa ma sa ca oc mc sc cc op sp ok sk W
 tab:Tab W
theorem RowsIrons.grow{x:IronsV}{oa ma sa ca:Option Addr}{oc mc sc cc:Nat}{op sp:Nat→Option Addr}{ok sk:Nat→Nat}{W W':World}(h:RowsIrons x oa ma sa ca oc mc sc cc op sp ok sk W)(hb:Below W.heap.size W W'):RowsIrons x oa ma sa ca oc mc sc cc op sp ok sk W' :=
 ⟨h.rr.grow hb,h.tab.grow hb⟩
def wroteIrons(x:IronsV):Value :=
 if ironsB x then .tuple #[.string ⟨(ironsT x).toArray⟩,.int .i64 0] else .tuple #[.string ⟨#[]⟩,.int .i64 1]
structure WIIrons (w:World) (x:IronsV) (oa ma sa ca:Option Addr) (oc mc sc cc:Nat) (op sp:Nat→Option Addr) (ok sk:Nat→Nat) (W:World):Prop where
 bel:Below w.heap.size w W
 bx:BoxAt W w.heap.size #[.int .i64 x.f,.slice oa x.on oc,.slice ma x.mn mc,.slice sa x.sn sc,.slice ca x.cn cc] 34
 rows:RowsIrons x oa ma sa ca oc mc sc cc op sp ok sk W
theorem WIIrons.grow{w:World}{x:IronsV}{oa ma sa ca:Option Addr}{oc mc sc cc:Nat}{op sp:Nat→Option Addr}{ok sk:Nat→Nat}{W W':World}(h:WIIrons w x oa ma sa ca oc mc sc cc op sp ok sk W)(hb:Below W.heap.size W W'):WIIrons w x oa ma sa ca oc mc sc cc op sp ok sk W' :=
 ⟨h.bel.next hb,h.bx.grow hb,h.rows.grow hb⟩
theorem WIIrons.cells{w:World}{x:IronsV}{oa ma sa ca:Option Addr}{oc mc sc cc:Nat}{op sp:Nat→Option Addr}{ok sk:Nat→Nat}{W:World}(h:WIIrons w x oa ma sa ca oc mc sc cc op sp ok sk W):W.cell? ⟨w.heap.size,0,none⟩=some (.int .i64 x.f)∧W.cell? ⟨w.heap.size,1,none⟩=some (.slice oa x.on oc)∧W.cell? ⟨w.heap.size,2,none⟩=some (.slice ma x.mn mc)∧W.cell? ⟨w.heap.size,3,none⟩=some (.slice sa x.sn sc)∧W.cell? ⟨w.heap.size,4,none⟩=some (.slice ca x.cn cc) :=
 ⟨cellAt h.bx 0,cellAt h.bx 1,cellAt h.bx 2,cellAt h.bx 3,cellAt h.bx 4⟩
abbrev fileIrons(la:Option Addr)(ln lc:Nat):Value:=.agg #[.int .i64 1,.slice la ln lc,.func (.func 120) #[] #[],.func (.func 121) #[] #[]]
structure WFIrons (w:World) (la:Option Addr) (ln lc:Nat) (x:IronsV) (oa ma sa ca:Option Addr) (oc mc sc cc:Nat) (op sp:Nat→Option Addr) (ok sk:Nat→Nat) (W:World):Prop where
 bel:Below w.heap.size w W
 b0:BoxAt W w.heap.size #[.int .i64 1,.slice la ln lc,.func (.func 120) #[] #[],.func (.func 121) #[] #[]] 108
 bx:BoxAt W (w.heap.size+1) #[.int .i64 x.f,.slice oa x.on oc,.slice ma x.mn mc,.slice sa x.sn sc,.slice ca x.cn cc] 34
 rows:RowsIrons x oa ma sa ca oc mc sc cc op sp ok sk W
theorem WFIrons.grow{w:World}{la:Option Addr}{ln lc:Nat}{x:IronsV}{oa ma sa ca:Option Addr}{oc mc sc cc:Nat}{op sp:Nat→Option Addr}{ok sk:Nat→Nat}{W W':World}(h:WFIrons w la ln lc x oa ma sa ca oc mc sc cc op sp ok sk W)(hb:Below W.heap.size W W'):WFIrons w la ln lc x oa ma sa ca oc mc sc cc op sp ok sk W' :=
 ⟨h.bel.next hb,h.b0.grow hb,h.bx.grow hb,h.rows.grow hb⟩
theorem WFIrons.cells{w:World}{la:Option Addr}{ln lc:Nat}{x:IronsV}{oa ma sa ca:Option Addr}{oc mc sc cc:Nat}{op sp:Nat→Option Addr}{ok sk:Nat→Nat}{W:World}(h:WFIrons w la ln lc x oa ma sa ca oc mc sc cc op sp ok sk W):W.cell? ⟨w.heap.size,2,none⟩=some (.func (.func 120) #[] #[])∧W.cell? ⟨w.heap.size,3,none⟩=some (.func (.func 121) #[] #[])∧W.cell? ⟨w.heap.size+1,0,none⟩=some (.int .i64 x.f)∧W.cell? ⟨w.heap.size+1,1,none⟩=some (.slice oa x.on oc)∧W.cell? ⟨w.heap.size+1,2,none⟩=some (.slice ma x.mn mc)∧W.cell? ⟨w.heap.size+1,3,none⟩=some (.slice sa x.sn sc)∧W.cell? ⟨w.heap.size+1,4,none⟩=some (.slice ca x.cn cc) :=
 ⟨cellAt h.b0 2,cellAt h.b0 3,cellAt h.bx 0,cellAt h.bx 1,cellAt h.bx 2,cellAt h.bx 3,cellAt h.bx 4⟩
set_option maxRecDepth 100000 in
set_option maxHeartbeats 2000000 in
theorem writeIrons_any(la:Option Addr)(ln lc:Nat)(x:IronsV)(oa ma sa ca:Option Addr)(oc mc sc cc:Nat)(op sp:Nat→Option Addr)(ok sk:Nat→Nat)(w:World)(hR:RowsIrons x oa ma sa ca oc mc sc cc op sp ok sk w) :
  Calls Tryz.prog 59 #[.agg #[.int .i64 1,.slice la ln lc,.func (.func 120) #[] #[],.func (.func 121) #[] #[]],.agg #[.int .i64 x.f,.slice oa x.on oc,.slice ma x.mn mc,.slice sa x.sn sc,.slice ca x.cn cc]] w fun e w' =>
   Below w.heap.size w w'∧e=if ironsB x then .returned (.string ⟨(ironsT x).toArray⟩) else err 1:=by
 go_enter Tryz.func59,Tryz.ntmps59;go_upto_region 1 with (fail)
 generalize hW:World.alloc _ _=W0;obtain⟨z0,z1,-,hB⟩:=blocks2 hW;have I0:=Lib.hid (show WFIrons w la ln lc x oa ma sa ca oc mc sc cc op sp ok sk W0 from⟨hB,z0,z1,hR.grow hB⟩);clear hW z0 z1 hB hR;obtain⟨p0,p1,q0,q1,q2,q3,q4⟩:=I0.out.cells;have C1:=Lib.hid (isIrons_any x oa ma sa ca oc mc sc cc op sp ok sk W0 I0.out.rows.rr)
 cases hB:ironsB x with
 | true =>
  have HO:=Lib.hid (irons_ok hB);go_wp2_with (first | (go_at_call 121; refine C1.out.mono ?_));rintro e w1 ⟨rfl,hb1⟩;have I1:=Lib.hid (I0.out.grow hb1);clear hb1 I0 C1 p0 p1 q0 q1 q2 q3 q4;rw [hB];go_upto_region 2 with (go_at_call 62; refine(ask_true _ _).mono ?_; rintro e w' ⟨rfl,rfl⟩)
  obtain⟨p0,p1,q0,q1,q2,q3,q4⟩:=I1.out.cells;have C2:=Lib.hid (irons5_any x oa ma sa ca oc mc sc cc op sp ok sk w1 I1.out.rows.rr HO.out I1.out.rows.tab);go_wp2_with (first | (go_at_call 120; refine C2.out.mono ?_));rintro e w2 ⟨rfl,hb2⟩;have I2:=Lib.hid (I1.out.grow hb2);clear hb2;go_wp2_with fail;go_ret;exact⟨I2.out.bel,rfl⟩
 | false =>
  go_wp2_with (first | (go_at_call 121; refine C1.out.mono ?_));rintro e w1 ⟨rfl,hb1⟩;have I1:=Lib.hid (I0.out.grow hb1);clear hb1 I0 C1 p0 p1 q0 q1 q2 q3 q4;rw [hB];go_wp2_with (go_at_call 62; refine(ask_false _ _).mono ?_; rintro e w' ⟨rfl,rfl⟩)
  all_goals exact⟨rfl,I1.out.bel,rfl⟩
structure WAIrons (w:World) (x:IronsV) (oa ma sa ca:Option Addr) (oc mc sc cc:Nat) (op sp:Nat→Option Addr) (ok sk:Nat→Nat) (W:World):Prop where
 bel:Below w.heap.size w W
 bx:BoxAt W w.heap.size #[.int .i64 x.f,.slice oa x.on oc,.slice ma x.mn mc,.slice sa x.sn sc,.slice ca x.cn cc] 34
 r:BoxAt W (w.heap.size+1) #[.int .i64 0] 41
 rows:RowsIrons x oa ma sa ca oc mc sc cc op sp ok sk W
theorem WAIrons.grow{w:World}{x:IronsV}{oa ma sa ca:Option Addr}{oc mc sc cc:Nat}{op sp:Nat→Option Addr}{ok sk:Nat→Nat}{W W':World}(h:WAIrons w x oa ma sa ca oc mc sc cc op sp ok sk W)(hb:Below W.heap.size W W'):WAIrons w x oa ma sa ca oc mc sc cc op sp ok sk W' :=
 ⟨h.bel.next hb,h.bx.grow hb,h.r.grow hb,h.rows.grow hb⟩
theorem WAIrons.cells{w:World}{x:IronsV}{oa ma sa ca:Option Addr}{oc mc sc cc:Nat}{op sp:Nat→Option Addr}{ok sk:Nat→Nat}{W:World}(h:WAIrons w x oa ma sa ca oc mc sc cc op sp ok sk W):W.cell? ⟨w.heap.size+1,0,none⟩=some (.int .i64 0)∧W.frozen? ⟨w.heap.size+1,0,none⟩=false∧W.cell? ⟨w.heap.size,0,none⟩=some (.int .i64 x.f)∧W.cell? ⟨w.heap.size,1,none⟩=some (.slice oa x.on oc)∧W.cell? ⟨w.heap.size,2,none⟩=some (.slice ma x.mn mc)∧W.cell? ⟨w.heap.size,3,none⟩=some (.slice sa x.sn sc)∧W.cell? ⟨w.heap.size,4,none⟩=some (.slice ca x.cn cc) :=
 ⟨cellAt h.r 0,freeAt h.r 0,cellAt h.bx 0,cellAt h.bx 1,cellAt h.bx 2,cellAt h.bx 3,cellAt h.bx 4⟩
def KindsIrons(W:World)(b:Nat):Prop:=BoxAt W b #[.string ⟨#[105,114,111,110,115,32]⟩,.func (.func 116) #[] #[bp (b - 1)],.string ⟨#[111,119,110,101,114,32]⟩,.func (.func 117) #[] #[bp (b - 1)],.string ⟨#[115,116,114,97,107,101]⟩,.func (.func 118) #[] #[bp (b - 1)],.string ⟨#[99,108,97,105,109,32]⟩,.func (.func 119) #[] #[bp (b - 1)]] 179∧BoxAt W (b - 1) #[.func (.func 94) #[] #[]] 175∧0<b
set_option maxRecDepth 100000 in
set_option maxHeartbeats 1000000 in
theorem filesIrons_any(w:World) :
  Calls Tryz.prog 60 #[] w fun e w'=>e = .returned (fileIrons (some ⟨w.heap.size+2,0,none⟩) 4 4)∧Below w.heap.size w w'∧KindsIrons w' (w.heap.size+2):=by
 go_enter Tryz.func60,Tryz.ntmps60
 go_wp2
 generalize hW:World.alloc _ _=W;obtain⟨z0,z1,z2,-,hB⟩:=blocks3 hW;clear hW;have c0:=cellAt z0 0;have c1:=cellAt z0 1;have c2:=cellAt z0 2;have c3:=cellAt z0 3;simp only [List.getElem?_toArray,List.getElem?_cons_zero,List.getElem?_cons_succ] at c0 c1 c2 c3;exact bodyPost_ret (v:=fileIrons (some ⟨w.heap.size+2,0,none⟩) 4 4) (by simp [results,Tryz.results60,go_sem,c0,c1,c2,c3]) rfl ⟨rfl,hB,z2,z1,by omega⟩
set_option maxRecDepth 100000 in
set_option maxHeartbeats 4000000 in
theorem writesIrons_any(x:IronsV)(oa ma sa ca:Option Addr)(oc mc sc cc:Nat)(op sp:Nat→Option Addr)(ok sk:Nat→Nat)(w:World)(hR:RowsIrons x oa ma sa ca oc mc sc cc op sp ok sk w) :
  Calls Tryz.prog 18 #[.agg #[.int .i64 x.f,.slice oa x.on oc,.slice ma x.mn mc,.slice sa x.sn sc,.slice ca x.cn cc]] w fun e w'=>e = .returned (wroteIrons x)∧Below w.heap.size w w':=by
 have I0:=Lib.hid (show WAIrons w x oa ma sa ca oc mc sc cc op sp ok sk ((w.alloc (.cells #[.int .i64 x.f,.slice oa x.on oc,.slice ma x.mn mc,.slice sa x.sn sc,.slice ca x.cn cc] 34)).alloc (.cells #[.int .i64 0] 41)) from by
  obtain⟨z0,z1,-,hB⟩:=blocks2 (show(w.alloc (.cells #[.int .i64 x.f,.slice oa x.on oc,.slice ma x.mn mc,.slice sa x.sn sc,.slice ca x.cn cc] 34)).alloc (.cells #[.int .i64 0] 41)=_ from rfl)
  exact⟨hB,z0,z1,hR.grow hB⟩)
 clear hR
 go_enter_defers Tryz.func18,Tryz.ntmps18
 go_upto_region 2 with (fail)
 generalize World.alloc _ _=W at *;obtain⟨r0,f0,b0,b1,b2,b3,b4⟩:=I0.out.cells;have D0:=Lib.hid (I0.out.grow (Below.drew (Below.refl _ _)));have G:=Lib.hid (fun W1 (hb:Below W.drew.heap.size W.drew W1)=>D0.out.grow hb);have CB:=Lib.hid (fun W1 (h:WAIrons w x oa ma sa ca oc mc sc cc op sp ok sk W1)=>h.cells)
 cases hB:ironsB x with
 | true =>
  have HW:=Lib.hid (show wroteIrons x = .tuple #[.string ⟨(ironsT x).toArray⟩,.int .i64 0] from by unfold wroteIrons; rw [if_pos hB]);have C2:=Lib.hid (fun la W1 (h:WAIrons w x oa ma sa ca oc mc sc cc op sp ok sk W1)=>(writeIrons_any la 4 4 x oa ma sa ca oc mc sc cc op sp ok sk W1 h.rows).mono fun e w' hh=>(show e = .returned (.string ⟨(ironsT x).toArray⟩)∧Below W1.heap.size W1 w' from⟨by rw [hh.2,if_pos hB],hh.1⟩));clear hB;refine wp_region_noPanic ?_
  first | go_region_with (first | (go_at_call 60; refine(filesIrons_any _).mono ?_; rintro e w1 ⟨rfl,hb1,hk1⟩; have I1:=Lib.hid (G.out _ hb1); clear hb1 hk1; obtain⟨s0,s1,q0,q1,q2,q3,q4⟩:=CB.out _ I1.out) | (go_at_call 59; refine(C2.out _ _ I1.out).mono ?_; rintro e w2 ⟨rfl,hb2⟩; have I2:=Lib.hid (I1.out.grow hb2); clear hb2; have r2:=cellAt I2.out.r 0; have f2:=freeAt I2.out.r 0; simp only [List.getElem?_toArray,List.getElem?_cons_zero] at r2)) | fail
  all_goals
   refine NoPanic.normal ?_;go_wp2_with fail;refine leaves_cons (f:=52) (args:=#[bp (w.heap.size+1)]) (by simp) (by simp [go_sem]) ?_;refine(answer_idle _ _).mono ?_;rintro e u' w'' ⟨rfl,rfl,rfl⟩;simp [Leaves,settle,results,Tryz.results18,go_sem,r2];exact⟨HW.out.symm,I2.out.bel.setCell (by dsimp only; omega) _⟩
 | false =>
  have HW:=Lib.hid (show wroteIrons x = .tuple #[.string ⟨#[]⟩,.int .i64 1] from by unfold wroteIrons; rw [hB]; rfl);have C2:=Lib.hid (fun la W1 (h:WAIrons w x oa ma sa ca oc mc sc cc op sp ok sk W1)=>(writeIrons_any la 4 4 x oa ma sa ca oc mc sc cc op sp ok sk W1 h.rows).mono fun e w' hh=>(show e=err 1∧WAIrons w x oa ma sa ca oc mc sc cc op sp ok sk w' from⟨by rw [hh.2,hB]; rfl,h.grow hh.1⟩));clear hB
  first | go_region_with (first | (go_at_call 60; refine(filesIrons_any _).mono ?_; rintro e w1 ⟨rfl,hb1,hk1⟩; have I1:=Lib.hid (G.out _ hb1); clear hb1 hk1; obtain⟨s0,s1,q0,q1,q2,q3,q4⟩:=CB.out _ I1.out) | (go_at_call 59; refine Calls.out (.string ⟨#[]⟩) (C2.out _ _ I1.out) ?_ ?_; (intro w2 hb2; have I2:=Lib.hid hb2; have r2:=cellAt I2.out.r 0; simp only [List.getElem?_toArray,List.getElem?_cons_zero] at r2; clear hb2; simp only [err]; go_wp2_with fail; refine leaves_cons (f:=52) (args:=#[bp (w.heap.size+1)]) (by simp) (by simp [go_sem]) ?_; refine(answer_panicking _ 0 1 [] _ I2.out.r).mono ?_; rintro e u' w'' ⟨rfl,rfl,rfl⟩; simp [Leaves,settle,results,Tryz.results18,go_sem,r2]; exact⟨HW.out.symm,I2.out.bel.setCell (by dsimp only; omega) _⟩); intro hF)) | fail
  all_goals exact hF.out.elim
structure RowsPitch (hr fr pe:Int) (fa qa:Option Addr) (fn fc qn qc:Nat) (F:Nat→Int) (Q:Nat→Pot) (W:World):Prop where
 ff:IntsAt W fa fn F
 qq:PotsAt W qa qn Q
 tab:Tab W
theorem RowsPitch.grow{hr fr pe:Int}{fa qa:Option Addr}{fn fc qn qc:Nat}{F:Nat→Int}{Q:Nat→Pot}{W W':World}(h:RowsPitch hr fr pe fa qa fn fc qn qc F Q W)(hb:Below W.heap.size W W'):RowsPitch hr fr pe fa qa fn fc qn qc F Q W' :=
 ⟨h.ff.grow hb,h.qq.grow hb,h.tab.grow hb⟩
def wrotePitch(hr fr pe:Int)(F:Nat→Int)(fn:Nat)(Q:Nat→Pot)(qn:Nat):Value :=
 if pitchB hr fr pe F fn Q qn then .tuple #[.string ⟨(pitchT hr fr pe F fn Q qn).toArray⟩,.int .i64 0] else .tuple #[.string ⟨#[]⟩,.int .i64 1]
structure WIPitch (w:World) (hr fr pe:Int) (fa qa:Option Addr) (fn fc qn qc:Nat) (F:Nat→Int) (Q:Nat→Pot) (W:World):Prop where
 bel:Below w.heap.size w W
 bx:BoxAt W w.heap.size #[.int .i64 hr,.int .i64 fr,.int .i64 pe,.slice fa fn fc,.slice qa qn qc] 29
 rows:RowsPitch hr fr pe fa qa fn fc qn qc F Q W
theorem WIPitch.grow{w:World}{hr fr pe:Int}{fa qa:Option Addr}{fn fc qn qc:Nat}{F:Nat→Int}{Q:Nat→Pot}{W W':World}(h:WIPitch w hr fr pe fa qa fn fc qn qc F Q W)(hb:Below W.heap.size W W'):WIPitch w hr fr pe fa qa fn fc qn qc F Q W' :=
 ⟨h.bel.next hb,h.bx.grow hb,h.rows.grow hb⟩
theorem WIPitch.cells{w:World}{hr fr pe:Int}{fa qa:Option Addr}{fn fc qn qc:Nat}{F:Nat→Int}{Q:Nat→Pot}{W:World}(h:WIPitch w hr fr pe fa qa fn fc qn qc F Q W):W.cell? ⟨w.heap.size,0,none⟩=some (.int .i64 hr)∧W.cell? ⟨w.heap.size,1,none⟩=some (.int .i64 fr)∧W.cell? ⟨w.heap.size,2,none⟩=some (.int .i64 pe)∧W.cell? ⟨w.heap.size,3,none⟩=some (.slice fa fn fc)∧W.cell? ⟨w.heap.size,4,none⟩=some (.slice qa qn qc) :=
 ⟨cellAt h.bx 0,cellAt h.bx 1,cellAt h.bx 2,cellAt h.bx 3,cellAt h.bx 4⟩
abbrev filePitch(la:Option Addr)(ln lc:Nat):Value:=.agg #[.int .i64 2,.slice la ln lc,.func (.func 113) #[] #[],.func (.func 114) #[] #[]]
structure WFPitch (w:World) (la:Option Addr) (ln lc:Nat) (hr fr pe:Int) (fa qa:Option Addr) (fn fc qn qc:Nat) (F:Nat→Int) (Q:Nat→Pot) (W:World):Prop where
 bel:Below w.heap.size w W
 b0:BoxAt W w.heap.size #[.int .i64 2,.slice la ln lc,.func (.func 113) #[] #[],.func (.func 114) #[] #[]] 102
 bx:BoxAt W (w.heap.size+1) #[.int .i64 hr,.int .i64 fr,.int .i64 pe,.slice fa fn fc,.slice qa qn qc] 29
 rows:RowsPitch hr fr pe fa qa fn fc qn qc F Q W
theorem WFPitch.grow{w:World}{la:Option Addr}{ln lc:Nat}{hr fr pe:Int}{fa qa:Option Addr}{fn fc qn qc:Nat}{F:Nat→Int}{Q:Nat→Pot}{W W':World}(h:WFPitch w la ln lc hr fr pe fa qa fn fc qn qc F Q W)(hb:Below W.heap.size W W'):WFPitch w la ln lc hr fr pe fa qa fn fc qn qc F Q W' :=
 ⟨h.bel.next hb,h.b0.grow hb,h.bx.grow hb,h.rows.grow hb⟩
theorem WFPitch.cells{w:World}{la:Option Addr}{ln lc:Nat}{hr fr pe:Int}{fa qa:Option Addr}{fn fc qn qc:Nat}{F:Nat→Int}{Q:Nat→Pot}{W:World}(h:WFPitch w la ln lc hr fr pe fa qa fn fc qn qc F Q W):W.cell? ⟨w.heap.size,2,none⟩=some (.func (.func 113) #[] #[])∧W.cell? ⟨w.heap.size,3,none⟩=some (.func (.func 114) #[] #[])∧W.cell? ⟨w.heap.size+1,0,none⟩=some (.int .i64 hr)∧W.cell? ⟨w.heap.size+1,1,none⟩=some (.int .i64 fr)∧W.cell? ⟨w.heap.size+1,2,none⟩=some (.int .i64 pe)∧W.cell? ⟨w.heap.size+1,3,none⟩=some (.slice fa fn fc)∧W.cell? ⟨w.heap.size+1,4,none⟩=some (.slice qa qn qc) :=
 ⟨cellAt h.b0 2,cellAt h.b0 3,cellAt h.bx 0,cellAt h.bx 1,cellAt h.bx 2,cellAt h.bx 3,cellAt h.bx 4⟩
set_option maxRecDepth 100000 in
set_option maxHeartbeats 2000000 in
theorem writePitch_any(la:Option Addr)(ln lc:Nat)(hr fr pe:Int)(fa qa:Option Addr)(fn fc qn qc:Nat)(F:Nat→Int)(Q:Nat→Pot)(w:World)(hR:RowsPitch hr fr pe fa qa fn fc qn qc F Q w) :
  Calls Tryz.prog 56 #[.agg #[.int .i64 2,.slice la ln lc,.func (.func 113) #[] #[],.func (.func 114) #[] #[]],.agg #[.int .i64 hr,.int .i64 fr,.int .i64 pe,.slice fa fn fc,.slice qa qn qc]] w fun e w' =>
   Below w.heap.size w w'∧e=if pitchB hr fr pe F fn Q qn then .returned (.string ⟨(pitchT hr fr pe F fn Q qn).toArray⟩) else err 1:=by
 go_enter Tryz.func56,Tryz.ntmps56;go_upto_region 1 with (fail)
 generalize hW:World.alloc _ _=W0;obtain⟨z0,z1,-,hB⟩:=blocks2 hW;have I0:=Lib.hid (show WFPitch w la ln lc hr fr pe fa qa fn fc qn qc F Q W0 from⟨hB,z0,z1,hR.grow hB⟩);clear hW z0 z1 hB hR;obtain⟨p0,p1,q0,q1,q2,q3,q4⟩:=I0.out.cells;have C1:=Lib.hid (isPitch_any hr fr pe fa qa fn fc qn qc F Q W0 I0.out.rows.ff I0.out.rows.qq)
 cases hB:pitchB hr fr pe F fn Q qn with
 | true =>
  have HO:=Lib.hid (pitch_ok hB);go_wp2_with (first | (go_at_call 114; refine C1.out.mono ?_));rintro e w1 ⟨rfl,hb1⟩;have I1:=Lib.hid (I0.out.grow hb1);clear hb1 I0 C1 p0 p1 q0 q1 q2 q3 q4;rw [hB];go_upto_region 2 with (go_at_call 62; refine(ask_true _ _).mono ?_; rintro e w' ⟨rfl,rfl⟩)
  obtain⟨p0,p1,q0,q1,q2,q3,q4⟩:=I1.out.cells;have C2:=Lib.hid (pitches5_any hr fr pe fa qa fn fc qn qc F Q w1 I1.out.rows.ff I1.out.rows.qq HO.out I1.out.rows.tab);go_wp2_with (first | (go_at_call 113; refine C2.out.mono ?_));rintro e w2 ⟨rfl,hb2⟩;have I2:=Lib.hid (I1.out.grow hb2);clear hb2;go_wp2_with fail;go_ret;exact⟨I2.out.bel,rfl⟩
 | false =>
  go_wp2_with (first | (go_at_call 114; refine C1.out.mono ?_));rintro e w1 ⟨rfl,hb1⟩;have I1:=Lib.hid (I0.out.grow hb1);clear hb1 I0 C1 p0 p1 q0 q1 q2 q3 q4;rw [hB];go_wp2_with (go_at_call 62; refine(ask_false _ _).mono ?_; rintro e w' ⟨rfl,rfl⟩)
  all_goals exact⟨rfl,I1.out.bel,rfl⟩
structure WAPitch (w:World) (hr fr pe:Int) (fa qa:Option Addr) (fn fc qn qc:Nat) (F:Nat→Int) (Q:Nat→Pot) (W:World):Prop where
 bel:Below w.heap.size w W
 bx:BoxAt W w.heap.size #[.int .i64 hr,.int .i64 fr,.int .i64 pe,.slice fa fn fc,.slice qa qn qc] 29
 r:BoxAt W (w.heap.size+1) #[.int .i64 0] 41
 rows:RowsPitch hr fr pe fa qa fn fc qn qc F Q W
theorem WAPitch.grow{w:World}{hr fr pe:Int}{fa qa:Option Addr}{fn fc qn qc:Nat}{F:Nat→Int}{Q:Nat→Pot}{W W':World}(h:WAPitch w hr fr pe fa qa fn fc qn qc F Q W)(hb:Below W.heap.size W W'):WAPitch w hr fr pe fa qa fn fc qn qc F Q W' :=
 ⟨h.bel.next hb,h.bx.grow hb,h.r.grow hb,h.rows.grow hb⟩
theorem WAPitch.cells{w:World}{hr fr pe:Int}{fa qa:Option Addr}{fn fc qn qc:Nat}{F:Nat→Int}{Q:Nat→Pot}{W:World}(h:WAPitch w hr fr pe fa qa fn fc qn qc F Q W):W.cell? ⟨w.heap.size+1,0,none⟩=some (.int .i64 0)∧W.frozen? ⟨w.heap.size+1,0,none⟩=false∧W.cell? ⟨w.heap.size,0,none⟩=some (.int .i64 hr)∧W.cell? ⟨w.heap.size,1,none⟩=some (.int .i64 fr)∧W.cell? ⟨w.heap.size,2,none⟩=some (.int .i64 pe)∧W.cell? ⟨w.heap.size,3,none⟩=some (.slice fa fn fc)∧W.cell? ⟨w.heap.size,4,none⟩=some (.slice qa qn qc) :=
 ⟨cellAt h.r 0,freeAt h.r 0,cellAt h.bx 0,cellAt h.bx 1,cellAt h.bx 2,cellAt h.bx 3,cellAt h.bx 4⟩
def KindsPitch(W:World)(b:Nat):Prop:=BoxAt W b #[.string ⟨#[112,105,116,99,104,32]⟩,.func (.func 106) #[] #[],.string ⟨#[102,114,111,115,116]⟩,.func (.func 107) #[] #[],.string ⟨#[102,105,114,101]⟩,.func (.func 110) #[] #[],.string ⟨#[112,111,116,32]⟩,.func (.func 111) #[] #[]] 169
set_option maxRecDepth 100000 in
set_option maxHeartbeats 1000000 in
theorem filesPitch_any(w:World) :
  Calls Tryz.prog 57 #[] w fun e w'=>e = .returned (filePitch (some ⟨w.heap.size+1,0,none⟩) 4 4)∧Below w.heap.size w w'∧KindsPitch w' (w.heap.size+1):=by
 go_enter Tryz.func57,Tryz.ntmps57
 go_wp2
 generalize hW:World.alloc _ _=W;obtain⟨z0,z1,-,hB⟩:=blocks2 hW;clear hW;have c0:=cellAt z0 0;have c1:=cellAt z0 1;have c2:=cellAt z0 2;have c3:=cellAt z0 3;simp only [List.getElem?_toArray,List.getElem?_cons_zero,List.getElem?_cons_succ] at c0 c1 c2 c3;exact bodyPost_ret (v:=filePitch (some ⟨w.heap.size+1,0,none⟩) 4 4) (by simp [results,Tryz.results57,go_sem,c0,c1,c2,c3]) rfl ⟨rfl,hB,z1⟩
set_option maxRecDepth 100000 in
set_option maxHeartbeats 4000000 in
theorem writesPitch_any(hr fr pe:Int)(fa qa:Option Addr)(fn fc qn qc:Nat)(F:Nat→Int)(Q:Nat→Pot)(w:World)(hR:RowsPitch hr fr pe fa qa fn fc qn qc F Q w) :
  Calls Tryz.prog 16 #[.agg #[.int .i64 hr,.int .i64 fr,.int .i64 pe,.slice fa fn fc,.slice qa qn qc]] w fun e w'=>e = .returned (wrotePitch hr fr pe F fn Q qn)∧Below w.heap.size w w':=by
 have I0:=Lib.hid (show WAPitch w hr fr pe fa qa fn fc qn qc F Q ((w.alloc (.cells #[.int .i64 hr,.int .i64 fr,.int .i64 pe,.slice fa fn fc,.slice qa qn qc] 29)).alloc (.cells #[.int .i64 0] 41)) from by
  obtain⟨z0,z1,-,hB⟩:=blocks2 (show(w.alloc (.cells #[.int .i64 hr,.int .i64 fr,.int .i64 pe,.slice fa fn fc,.slice qa qn qc] 29)).alloc (.cells #[.int .i64 0] 41)=_ from rfl)
  exact⟨hB,z0,z1,hR.grow hB⟩)
 clear hR
 go_enter_defers Tryz.func16,Tryz.ntmps16
 go_upto_region 2 with (fail)
 generalize World.alloc _ _=W at *;obtain⟨r0,f0,b0,b1,b2,b3,b4⟩:=I0.out.cells;have D0:=Lib.hid (I0.out.grow (Below.drew (Below.refl _ _)));have G:=Lib.hid (fun W1 (hb:Below W.drew.heap.size W.drew W1)=>D0.out.grow hb);have CB:=Lib.hid (fun W1 (h:WAPitch w hr fr pe fa qa fn fc qn qc F Q W1)=>h.cells)
 cases hB:pitchB hr fr pe F fn Q qn with
 | true =>
  have HW:=Lib.hid (show wrotePitch hr fr pe F fn Q qn = .tuple #[.string ⟨(pitchT hr fr pe F fn Q qn).toArray⟩,.int .i64 0] from by unfold wrotePitch; rw [if_pos hB]);have C2:=Lib.hid (fun la W1 (h:WAPitch w hr fr pe fa qa fn fc qn qc F Q W1)=>(writePitch_any la 4 4 hr fr pe fa qa fn fc qn qc F Q W1 h.rows).mono fun e w' hh=>(show e = .returned (.string ⟨(pitchT hr fr pe F fn Q qn).toArray⟩)∧Below W1.heap.size W1 w' from⟨by rw [hh.2,if_pos hB],hh.1⟩));clear hB;refine wp_region_noPanic ?_
  first | go_region_with (first | (go_at_call 57; refine(filesPitch_any _).mono ?_; rintro e w1 ⟨rfl,hb1,hk1⟩; have I1:=Lib.hid (G.out _ hb1); clear hb1 hk1; obtain⟨s0,s1,q0,q1,q2,q3,q4⟩:=CB.out _ I1.out) | (go_at_call 56; refine(C2.out _ _ I1.out).mono ?_; rintro e w2 ⟨rfl,hb2⟩; have I2:=Lib.hid (I1.out.grow hb2); clear hb2; have r2:=cellAt I2.out.r 0; have f2:=freeAt I2.out.r 0; simp only [List.getElem?_toArray,List.getElem?_cons_zero] at r2)) | fail
  all_goals
   refine NoPanic.normal ?_;go_wp2_with fail;refine leaves_cons (f:=52) (args:=#[bp (w.heap.size+1)]) (by simp) (by simp [go_sem]) ?_;refine(answer_idle _ _).mono ?_;rintro e u' w'' ⟨rfl,rfl,rfl⟩;simp [Leaves,settle,results,Tryz.results16,go_sem,r2];exact⟨HW.out.symm,I2.out.bel.setCell (by dsimp only; omega) _⟩
 | false =>
  have HW:=Lib.hid (show wrotePitch hr fr pe F fn Q qn = .tuple #[.string ⟨#[]⟩,.int .i64 1] from by unfold wrotePitch; rw [hB]; rfl);have C2:=Lib.hid (fun la W1 (h:WAPitch w hr fr pe fa qa fn fc qn qc F Q W1)=>(writePitch_any la 4 4 hr fr pe fa qa fn fc qn qc F Q W1 h.rows).mono fun e w' hh=>(show e=err 1∧WAPitch w hr fr pe fa qa fn fc qn qc F Q w' from⟨by rw [hh.2,hB]; rfl,h.grow hh.1⟩));clear hB
  first | go_region_with (first | (go_at_call 57; refine(filesPitch_any _).mono ?_; rintro e w1 ⟨rfl,hb1,hk1⟩; have I1:=Lib.hid (G.out _ hb1); clear hb1 hk1; obtain⟨s0,s1,q0,q1,q2,q3,q4⟩:=CB.out _ I1.out) | (go_at_call 56; refine Calls.out (.string ⟨#[]⟩) (C2.out _ _ I1.out) ?_ ?_; (intro w2 hb2; have I2:=Lib.hid hb2; have r2:=cellAt I2.out.r 0; simp only [List.getElem?_toArray,List.getElem?_cons_zero] at r2; clear hb2; simp only [err]; go_wp2_with fail; refine leaves_cons (f:=52) (args:=#[bp (w.heap.size+1)]) (by simp) (by simp [go_sem]) ?_; refine(answer_panicking _ 0 1 [] _ I2.out.r).mono ?_; rintro e u' w'' ⟨rfl,rfl,rfl⟩; simp [Leaves,settle,results,Tryz.results16,go_sem,r2]; exact⟨HW.out.symm,I2.out.bel.setCell (by dsimp only; omega) _⟩); intro hF)) | fail
  all_goals exact hF.out.elim
def isRowT:TypeDesc→Bool
 | .struct _ | .array _ _=>true
 | _=>false
theorem res_row{P:Program}{fn:Func}{p:Tmp}{ty:TypeId}(h:fn.results = #[.cell p ty])(tmps:Array Value)(w:World)(g:Nat)(t:TypeId)(cs:Array Value)(fr:Nat×Nat)
  (hp:tmps.getD p undef = .pointer (some ⟨g,0,none⟩)) (hg:w.heap[g]? = some (.cells cs t fr)) (hu:(P.underlying ty).any isRowT=true) (hi:(P.info? ty).map (·.size)=some cs.size) :
  (results fn tmps).run P w = .ok (.agg cs) w:=by
 cases hd:P.underlying ty with
 | none=>rw [hd] at hu; cases hu
 | some d=>exact results_cell_row h tmps w g t cs fr d hp hg hd (by rw [hd] at hu; cases d <;> first | rfl | (exact hu)) hi
theorem row_lit{W:World}{g n sz:Nat}{cs:Array Value}{t:TypeId}{cell:Nat→Nat→Value}(h:BoxAt W g cs t)(hn:n≤maxLen)(hc:∀ i,i<n → ∀ j,j<sz→cs[i * sz+j]? = some (cell i j)):Row W (some ⟨g,0,none⟩) n sz cell:=by
 refine⟨fun _=>rfl,fun _=>lt_of_heap h,hn,fun i hi j hj=>?_⟩
 show W.cell? ⟨g,0+i * sz+j,none⟩=_
 rw [Nat.zero_add,cellAt h];exact hc i hi j hj
def sealS(i:Nat):Nat:=#[73,5,0,128,76].getD i 0
theorem seal47_any(w:World):Calls Tryz.prog 47 #[] w (SlicePost 5 sealS w):=by
 go_enter Tryz.func47,Tryz.ntmps47;go_wp2_with fail;go_ret;obtain⟨h1,-,hB⟩:=blocks1 (show w.alloc (.cells #[.int .u8 73,.int .u8 5,.int .u8 0,.int .u8 128,.int .u8 76] 5)=_ from rfl)
 exact⟨_,_,rfl,row_lit h1 (by unfold maxLen; omega) (fun i hi j hj=>by
  obtain rfl:j=0:=by omega
  have:i=0∨i=1∨i=2∨i=3∨i=4:=by omega
  rcases this with rfl | rfl | rfl | rfl | rfl <;> rfl),fun _=>Nat.le_refl _,Nat.le_refl _,hB⟩
theorem span92_any(lo hi:Int)(w:World):Calls Tryz.prog 92 #[.int .i64 lo,.int .i64 hi] w (fun e w'=>e = .returned (.agg #[.int .i64 lo,.int .i64 hi])∧w'=w.alloc (.cells #[.int .i64 lo,.int .i64 hi] 128)):=by
 go_enter Tryz.func92,Tryz.ntmps92;go_wp2_with fail;obtain⟨h1,-,-⟩:=blocks1 (show w.alloc (.cells #[.int .i64 lo,.int .i64 hi] 128)=_ from rfl)
 (try simp only [Exit.inBlock,Exit.then])
 exact bodyPost_ret (res_row rfl _ _ w.heap.size 128 _ _ (by rfl) h1 (by kernel_rfl) (by kernel_rfl)) rfl ⟨rfl,rfl⟩
def payX:WagesV:=⟨2,1,fun _ j=>if j=0 then 4 else 5,0,fun _ _=>0⟩
def PayPost(w:World)(e:Ending)(w':World):Prop := ∃ sa c,e = .returned (.agg #[.int .i64 2,.slice sa 1 c,.slice none 0 0])∧Row w' sa 1 2 (fun i j=>.int .i64 (payX.S i j:Nat))∧Below w.heap.size w w'
theorem pay51_any(w:World):Calls Tryz.prog 51 #[] w (PayPost w):=by
 go_enter Tryz.func51,Tryz.ntmps51;go_wp2_with fail;generalize hW:World.alloc _ _=W;obtain⟨h1,h2,-,hB⟩:=blocks2 hW
 (try simp only [Exit.inBlock,Exit.then])
 refine bodyPost_ret (res_row rfl _ _ w.heap.size 38 _ _ (by rfl) h1 (by kernel_rfl) (by kernel_rfl)) rfl ?_
 exact⟨_,_,rfl,row_lit h2 (by unfold maxLen; omega) (fun i hi j hj=>by
  have:j=0∨j=1:=by omega
  obtain rfl:i=0:=by omega
  rcases this with rfl | rfl <;> rfl),hB⟩
def hullSS(i:Nat):Sea:=if i=0 then⟨2,0,3⟩ else if i=1 then⟨5,-1,2⟩ else⟨5,1,4⟩
def hullSU(i:Nat):Sou:=if i=0 then⟨3,0,1,2⟩ else⟨6,0,4,4⟩
def HullPost(w:World)(e:Ending)(w':World):Prop := ∃ sa sc ua uc,e = .returned (.agg #[.slice sa 3 sc,.slice ua 2 uc])∧SeasAt w' sa 3 hullSS∧SousAt w' ua 2 hullSU∧Below w.heap.size w w'
set_option maxRecDepth 100000 in
set_option maxHeartbeats 1000000 in
theorem hull48_any(w:World):Calls Tryz.prog 48 #[] w (HullPost w):=by
 go_enter Tryz.func48,Tryz.ntmps48;go_wp2_with (go_at_call 92; refine(span92_any _ _ _).mono ?_; rintro e w' ⟨rfl,rfl⟩);generalize hW:World.alloc _ _=W
 (try simp only [Exit.inBlock,Exit.then])
 obtain⟨h0,h1,-,-,h2,-,hB⟩:=blocks5 hW;refine bodyPost_ret (res_row rfl _ _ w.heap.size 25 _ _ (by rfl) h0 (by kernel_rfl) (by kernel_rfl)) rfl ?_;refine⟨_,_,_,_,rfl,row_lit h1 (by unfold maxLen; omega) (fun i hi j hj=>?_),row_lit h2 (by unfold maxLen; omega) (fun i hi j hj=>?_),hB⟩
 ·have h1:i=0∨i=1∨i=2:=by omega
  have h2:j=0∨j=1∨j=2:=by omega
  rcases h1 with rfl | rfl | rfl <;> rcases h2 with rfl | rfl | rfl <;> rfl
 ·have h1:i=0∨i=1:=by omega
  have h2:j=0∨j=1∨j=2∨j=3:=by omega
  rcases h1 with rfl | rfl <;> rcases h2 with rfl | rfl | rfl | rfl <;> rfl
def firesF(i:Nat):Int:=if i=0 then 4 else 0
def firesQ(i:Nat):Pot:=if i=0 then⟨4,0,8⟩ else⟨6,0,8⟩
def FiresPost(w:World)(e:Ending)(w':World):Prop := ∃ fa fc qa qc,e = .returned (.agg #[.int .i64 8,.int .i64 1,.int .i64 16,.slice fa 2 fc,.slice qa 2 qc])∧IntsAt w' fa 2 firesF∧PotsAt w' qa 2 firesQ∧Below w.heap.size w w'
set_option maxRecDepth 100000 in
set_option maxHeartbeats 1000000 in
theorem fires49_any(w:World):Calls Tryz.prog 49 #[] w (FiresPost w):=by
 go_enter Tryz.func49,Tryz.ntmps49;go_wp2_with fail
 (try simp only [Exit.inBlock,Exit.then])
 generalize hW:World.alloc _ _=W;obtain⟨h0,h1,h2,-,hB⟩:=blocks3 hW;refine bodyPost_ret (res_row rfl _ _ w.heap.size 29 _ _ (by rfl) h0 (by kernel_rfl) (by kernel_rfl)) rfl ?_;refine⟨_,_,_,_,rfl,row_lit h1 (by unfold maxLen; omega) (fun i hi j hj=>?_),row_lit h2 (by unfold maxLen; omega) (fun i hi j hj=>?_),hB⟩
 ·have h1:i=0∨i=1:=by omega
  obtain rfl:j=0:=by omega
  rcases h1 with rfl | rfl <;> rfl
 ·have h1:i=0∨i=1:=by omega
  have h2:j=0∨j=1∨j=2:=by omega
  rcases h1 with rfl | rfl <;> rcases h2 with rfl | rfl | rfl <;> rfl
theorem blocks10{w W:World}{a b c d e f g h i j:Obj}(hh:(((((((((w.alloc a).alloc b).alloc c).alloc d).alloc e).alloc f).alloc g).alloc h).alloc i).alloc j=W):W.heap[w.heap.size]? = some a∧W.heap[w.heap.size+1]? = some b∧W.heap[w.heap.size+1+1]? = some c∧W.heap[w.heap.size+1+1+1]? = some d∧W.heap[w.heap.size+1+1+1+1]? = some e∧W.heap[w.heap.size+1+1+1+1+1]? = some f∧W.heap[w.heap.size+1+1+1+1+1+1]? = some g∧W.heap[w.heap.size+1+1+1+1+1+1+1]? = some h∧W.heap[w.heap.size+1+1+1+1+1+1+1+1]? = some i∧W.heap[w.heap.size+1+1+1+1+1+1+1+1+1]? = some j∧Below w.heap.size w W:=by
 subst hh;refine⟨?_,?_,?_,?_,?_,?_,?_,?_,?_,?_,?_⟩
 ·simp only [heapAlloc,sizeAlloc]; repeat (first | rfl | rw [if_pos trivial] | rw [if_neg (by omega)])
 ·simp only [heapAlloc,sizeAlloc]; repeat (first | rfl | rw [if_pos trivial] | rw [if_neg (by omega)])
 ·simp only [heapAlloc,sizeAlloc]; repeat (first | rfl | rw [if_pos trivial] | rw [if_neg (by omega)])
 ·simp only [heapAlloc,sizeAlloc]; repeat (first | rfl | rw [if_pos trivial] | rw [if_neg (by omega)])
 ·simp only [heapAlloc,sizeAlloc]; repeat (first | rfl | rw [if_pos trivial] | rw [if_neg (by omega)])
 ·simp only [heapAlloc,sizeAlloc]; repeat (first | rfl | rw [if_pos trivial] | rw [if_neg (by omega)])
 ·simp only [heapAlloc,sizeAlloc]; repeat (first | rfl | rw [if_pos trivial] | rw [if_neg (by omega)])
 ·simp only [heapAlloc,sizeAlloc]; repeat (first | rfl | rw [if_pos trivial] | rw [if_neg (by omega)])
 ·simp only [heapAlloc,sizeAlloc]; repeat (first | rfl | rw [if_pos trivial] | rw [if_neg (by omega)])
 ·simp only [heapAlloc,sizeAlloc]; repeat (first | rfl | rw [if_pos trivial] | rw [if_neg (by omega)])
 ·repeat (first | exact Below.refl _ _ | refine Below.alloc ?_ (by (try simp only [sizeAlloc]) <;> omega) _)
def marksX:IronsV where
 f:=2
 on:=3
 ol:=fun _=>2
 own:=fun i j=>if i=0 then(if j=0 then 3 else 5) else if i=1 then(if j=0 then 3 else 7) else(if j=0 then 6 else 5)
 mn:=3
 most:=fun i=>if i=0 then 1 else if i=1 then 2 else 1
 sn:=3
 sl:=fun i=>if i=0 then 1 else if i=1 then 1 else 0
 mark:=fun i _=>if i=0 then⟨0,3,3⟩ else⟨1,5,6⟩
 cn:=3
 claim:=fun i=>if i=0 then⟨0,0,false⟩ else if i=1 then⟨1,2,true⟩ else⟨1,2,false⟩
def MarksPost(w:World)(e:Ending)(w':World):Prop := ∃ oa ma sa ca oc mc sc cc op sp ok sk,e = .returned (.agg #[.int .i64 2,.slice oa 3 oc,.slice ma 3 mc,.slice sa 3 sc,.slice ca 3 cc])∧IronsAt marksX oa ma sa ca oc mc sc cc op sp ok sk w'∧Below w.heap.size w w'
set_option maxRecDepth 100000 in
set_option maxHeartbeats 1000000 in
theorem marks50_any(w:World):Calls Tryz.prog 50 #[] w (MarksPost w):=by
 go_enter Tryz.func50,Tryz.ntmps50;go_wp2_with fail
 (try simp only [Exit.inBlock,Exit.then])
 generalize hW:World.alloc _ _=W;obtain⟨h0,h1,h2,h3,h4,h5,h6,h7,h8,h9,hB⟩:=blocks10 hW;refine bodyPost_ret (res_row rfl _ _ w.heap.size 34 _ _ (by rfl) h0 (by kernel_rfl) (by kernel_rfl)) rfl ?_;clear hW h0
 refine⟨_,_,_,_,_,_,_,_,fun i=>if i=0 then some ⟨w.heap.size+1,0,none⟩ else if i=1 then some ⟨w.heap.size+1+1,0,none⟩ else some ⟨w.heap.size+1+1+1,0,none⟩,
  fun i=>if i=0 then some ⟨w.heap.size+1+1+1+1+1+1,0,none⟩ else if i=1 then some ⟨w.heap.size+1+1+1+1+1+1+1,0,none⟩ else none,fun _=>2,marksX.sl,rfl,⟨row_lit h4 (by unfold marksX maxLen; dsimp only; omega) (fun i hi j hj=>?_),fun i hi=>?_,row_lit h5 (by unfold marksX maxLen; dsimp only; omega) (fun i hi j hj=>?_),row_lit h8 (by unfold marksX maxLen; dsimp only; omega) (fun i hi j hj=>?_),fun i hi=>?_,row_lit h9 (by unfold marksX maxLen; dsimp only; omega) (fun i hi j hj=>?_)⟩,hB⟩
 ·have h1:i<3:=hi
  have h1:i=0∨i=1∨i=2:=by omega
  obtain rfl:j=0:=by omega
  rcases h1 with rfl | rfl | rfl <;> rfl
 ·have g1:i<3:=hi
  have g1:i=0∨i=1∨i=2:=by omega
  rcases g1 with rfl | rfl | rfl
  ·refine row_lit (sz:=1) h1 (by unfold marksX maxLen; dsimp only; omega) (fun i hi j hj=>?_)
   have h1:i<2:=hi;have h1:i=0∨i=1:=by omega
   obtain rfl:j=0:=by omega
   rcases h1 with rfl | rfl <;> rfl
  ·refine row_lit (sz:=1) h2 (by unfold marksX maxLen; dsimp only; omega) (fun i hi j hj=>?_)
   have h1:i<2:=hi;have h1:i=0∨i=1:=by omega
   obtain rfl:j=0:=by omega
   rcases h1 with rfl | rfl <;> rfl
  ·refine row_lit (sz:=1) h3 (by unfold marksX maxLen; dsimp only; omega) (fun i hi j hj=>?_)
   have h1:i<2:=hi;have h1:i=0∨i=1:=by omega
   obtain rfl:j=0:=by omega
   rcases h1 with rfl | rfl <;> rfl
 ·have h1:i<3:=hi
  have h1:i=0∨i=1∨i=2:=by omega
  obtain rfl:j=0:=by omega
  rcases h1 with rfl | rfl | rfl <;> rfl
 ·have h1:i<3:=hi
  have h1:i=0∨i=1∨i=2:=by omega
  obtain rfl:j=0:=by omega
  rcases h1 with rfl | rfl | rfl <;> rfl
 ·have g1:i<3:=hi
  have g1:i=0∨i=1∨i=2:=by omega
  rcases g1 with rfl | rfl | rfl
  ·refine row_lit (sz:=3) h6 (by show 1≤maxLen; unfold maxLen; omega) (fun i hi j hj=>?_)
   have h1:i<1:=hi;obtain rfl:i=0:=by omega
   have h1:j=0∨j=1∨j=2:=by omega
   rcases h1 with rfl | rfl | rfl <;> rfl
  ·refine row_lit (sz:=3) h7 (by show 1≤maxLen; unfold maxLen; omega) (fun i hi j hj=>?_)
   have h1:i<1:=hi;obtain rfl:i=0:=by omega
   have h1:j=0∨j=1∨j=2:=by omega
   rcases h1 with rfl | rfl | rfl <;> rfl
  ·exact⟨fun h=>absurd h (by decide),fun h=>absurd h (by decide),by show 0≤maxLen; unfold maxLen; omega,fun i hi=>absurd hi (by show ¬ i<0; omega)⟩
 ·have h1:i<3:=hi
  have h1:i=0∨i=1∨i=2:=by omega
  have h2:j=0∨j=1∨j=2:=by omega
  rcases h1 with rfl | rfl | rfl <;> rcases h2 with rfl | rfl | rfl <;> rfl
end Go.Proofs.YtclbmlmlhiiaeaaGreatDoor
