/- Walks: a hull is written. Walks: WriteHull. Walks: WriteWage -/
import Derived.Test.YtclbmlmlhiiaeaaGreatDoorQV2
import Derived.Deep.RegionWith
import Derived.Laws.EntriesVeiled
import Derived.Test.YtclbmlmlhiiaeaaGreatDoorK2
namespace Go.Proofs.YtclbmlmlhiiaeaaGreatDoor
open Go.RowKit
def fileH(la:Option Addr)(ln lc:Nat):Array Value:=#[.int .i64 1,.slice la ln lc,.func (.func 100) #[] #[],.func (.func 102) #[] #[]]
structure WH (w:World) (la:Option Addr) (ln lc:Nat) (sa ua:Option Addr) (sn sc un uc:Nat) (S:Nat→Sea) (U:Nat→Sou) (W:World):Prop where
 bel:Below w.heap.size w W
 b0:BoxAt W w.heap.size #[.int .i64 1,.slice la ln lc,.func (.func 100) #[] #[],.func (.func 102) #[] #[]] 96
 b1:BoxAt W (w.heap.size+1) #[.slice sa sn sc,.slice ua un uc] 25
 ss:SeasAt W sa sn S
 uu:SousAt W ua un U
 tab:Tab W
 sides:Sides W
theorem WH.grow{w W W':World}{la:Option Addr}{ln lc:Nat}{sa ua:Option Addr}{sn sc un uc:Nat}{S:Nat→Sea}{U:Nat→Sou}(h:WH w la ln lc sa ua sn sc un uc S U W)(hb:Below W.heap.size W W'):WH w la ln lc sa ua sn sc un uc S U W' :=
 ⟨h.bel.next hb,h.b0.grow hb,h.b1.grow hb,h.ss.grow hb,h.uu.grow hb,h.tab.grow hb,h.sides.grow hb⟩
set_option maxRecDepth 100000 in
set_option maxHeartbeats 2000000 in
theorem write53_any(la:Option Addr)(ln lc:Nat)(sa ua:Option Addr)(sn sc un uc:Nat)(S:Nat→Sea)(U:Nat→Sou)(w:World)(hS:SeasAt w sa sn S)(hU:SousAt w ua un U)(ht:Tab w)(hsd:Sides w) :
  Calls Tryz.prog 53 #[.agg #[.int .i64 1,.slice la ln lc,.func (.func 100) #[] #[],.func (.func 102) #[] #[]],.agg #[.slice sa sn sc,.slice ua un uc]] w fun e w' =>
   Below w.heap.size w w'∧e=if hullB S sn U un then .returned (.string ⟨(hullT S sn U un).toArray⟩) else err 1:=by
 go_enter Tryz.func53,Tryz.ntmps53;go_upto_region 1 with (fail)
 generalize hW:World.alloc _ _=W0;obtain⟨z0,z1,-,hB⟩:=blocks2 hW;have I0:=Lib.hid (show WH w la ln lc sa ua sn sc un uc S U W0 from⟨hB,z0,z1,hS.grow hB,hU.grow hB,ht.grow hB,hsd.grow hB⟩);clear hW z0 z1 hB hS hU ht hsd;have q0:=cellAt I0.out.b0 3;have q1:=cellAt I0.out.b1 0;have q2:=cellAt I0.out.b1 1;simp only [List.getElem?_toArray,List.getElem?_cons_zero,List.getElem?_cons_succ] at q0 q1 q2;have C1:=Lib.hid (isHull_any sa ua sn sc un uc S U W0 I0.out.ss I0.out.uu)
 cases hB:hullB S sn U un with
 | true =>
  have HO:=Lib.hid (hull_ok hB);go_wp2_with (first | (go_at_call 102; refine C1.out.mono ?_));rintro e w1 ⟨rfl,hb1⟩;have I1:=Lib.hid (I0.out.grow hb1);clear hb1 I0 C1 q0 q1 q2;rw [hB];go_upto_region 2 with (go_at_call 62; refine(ask_true _ _).mono ?_; rintro e w' ⟨rfl,rfl⟩)
  have q0:=cellAt I1.out.b0 2;have q1:=cellAt I1.out.b1 0;have q2:=cellAt I1.out.b1 1;simp only [List.getElem?_toArray,List.getElem?_cons_zero,List.getElem?_cons_succ] at q0 q1 q2;have C2:=Lib.hid (hulls3_any sa ua sn sc un uc S U w1 I1.out.ss I1.out.uu HO.out I1.out.tab I1.out.sides);go_wp2_with (first | (go_at_call 100; refine C2.out.mono ?_));rintro e w2 ⟨rfl,hb2⟩;have I2:=Lib.hid (I1.out.grow hb2);clear hb2;go_wp2_with fail;go_ret;exact⟨I2.out.bel,rfl⟩
 | false =>
  go_wp2_with (first | (go_at_call 102; refine C1.out.mono ?_));rintro e w1 ⟨rfl,hb1⟩;have I1:=Lib.hid (I0.out.grow hb1);clear hb1 I0 C1 q0 q1 q2;rw [hB];go_wp2_with (go_at_call 62; refine(ask_false _ _).mono ?_; rintro e w' ⟨rfl,rfl⟩)
  all_goals exact⟨rfl,I1.out.bel,rfl⟩
def KindsH(W:World)(b:Nat):Prop:=BoxAt W b #[.string ⟨#[104,117,108,108]⟩,.func (.func 93) #[] #[],.string ⟨#[]⟩,.func (.func 97) #[] #[]] 159
set_option maxRecDepth 100000 in
set_option maxHeartbeats 1000000 in
theorem hulls54_any(w:World) :
  Calls Tryz.prog 54 #[] w fun e w'=>e = .returned (.agg #[.int .i64 1,.slice (some ⟨w.heap.size+1,0,none⟩) 2 2,.func (.func 100) #[] #[],.func (.func 102) #[] #[]])∧Below w.heap.size w w'∧KindsH w' (w.heap.size+1):=by
 go_enter Tryz.func54,Tryz.ntmps54
 go_wp2
 generalize hW:World.alloc _ _=W;obtain⟨z0,z1,-,hB⟩:=blocks2 hW;clear hW;have c0:=cellAt z0 0;have c1:=cellAt z0 1;have c2:=cellAt z0 2;have c3:=cellAt z0 3;simp only [List.getElem?_toArray,List.getElem?_cons_zero,List.getElem?_cons_succ] at c0 c1 c2 c3;exact bodyPost_ret (v:=.agg #[.int .i64 1,.slice (some ⟨w.heap.size+1,0,none⟩) 2 2,.func (.func 100) #[] #[],.func (.func 102) #[] #[]]) (by simp [results,Tryz.results54,go_sem,c0,c1,c2,c3]) rfl ⟨rfl,hB,z1⟩
theorem Calls.out{P:Program}{f:FuncId}{args:Array Value}{w:World}{x:Int}{R:Ending→World→Prop}{B:World→Prop}(v:Value)(h:Calls P f args w fun e w'=>e=err x∧B w')(hp:∀ w',B w'→R (err x) w')(_hk:Hid False→R (.returned v) w):Calls P f args w R :=
 h.mono (by rintro e w' ⟨rfl,hb⟩; exact hp w' hb)
structure WA (w:World) (sa ua:Option Addr) (sn sc un uc:Nat) (S:Nat→Sea) (U:Nat→Sou) (W:World):Prop where
 bel:Below w.heap.size w W
 bx:BoxAt W w.heap.size #[.slice sa sn sc,.slice ua un uc] 25
 r:BoxAt W (w.heap.size+1) #[.int .i64 0] 41
 ss:SeasAt W sa sn S
 uu:SousAt W ua un U
 tab:Tab W
 sides:Sides W
theorem WA.grow{w W W':World}{sa ua:Option Addr}{sn sc un uc:Nat}{S:Nat→Sea}{U:Nat→Sou}(h:WA w sa ua sn sc un uc S U W)(hb:Below W.heap.size W W'):WA w sa ua sn sc un uc S U W' :=
 ⟨h.bel.next hb,h.bx.grow hb,h.r.grow hb,h.ss.grow hb,h.uu.grow hb,h.tab.grow hb,h.sides.grow hb⟩
set_option maxRecDepth 100000 in
set_option maxHeartbeats 4000000 in
theorem writeHull14_any(sa ua:Option Addr)(sn sc un uc:Nat)(S:Nat→Sea)(U:Nat→Sou)(w:World)(hS:SeasAt w sa sn S)(hU:SousAt w ua un U)(ht:Tab w)(hsd:Sides w) :
  Calls Tryz.prog 14 #[.agg #[.slice sa sn sc,.slice ua un uc]] w fun e w'=>e = .returned (wroteHull S sn U un)∧Below w.heap.size w w':=by
 have I0:=Lib.hid (show WA w sa ua sn sc un uc S U ((w.alloc (.cells #[.slice sa sn sc,.slice ua un uc] 25)).alloc (.cells #[.int .i64 0] 41)) from by
  obtain⟨z0,z1,-,hB⟩:=blocks2 (show(w.alloc (.cells #[.slice sa sn sc,.slice ua un uc] 25)).alloc (.cells #[.int .i64 0] 41)=_ from rfl)
  exact⟨hB,z0,z1,hS.grow hB,hU.grow hB,ht.grow hB,hsd.grow hB⟩)
 clear hS hU ht hsd
 go_enter_defers Tryz.func14,Tryz.ntmps14
 go_upto_region 2 with (fail)
 generalize World.alloc _ _=W at *;have b0:=cellAt I0.out.bx 0;have b1:=cellAt I0.out.bx 1;have r0:=cellAt I0.out.r 0;have f0:=freeAt I0.out.r 0;simp only [List.getElem?_toArray,List.getElem?_cons_zero,List.getElem?_cons_succ] at b0 b1 r0;have D0:=Lib.hid (I0.out.grow (Below.drew (Below.refl _ _)));have G:=Lib.hid (fun W1 (hb:Below W.drew.heap.size W.drew W1)=>D0.out.grow hb);have CB:=Lib.hid (fun W1 (h:WA w sa ua sn sc un uc S U W1)=>(show W1.cell? ⟨w.heap.size,0,none⟩=some (.slice sa sn sc)∧W1.cell? ⟨w.heap.size,1,none⟩=some (.slice ua un uc)∧W1.cell? ⟨w.heap.size+1,0,none⟩=some (.int .i64 0)∧W1.frozen? ⟨w.heap.size+1,0,none⟩=false from⟨cellAt h.bx 0,cellAt h.bx 1,cellAt h.r 0,freeAt h.r 0⟩))
 cases hB:hullB S sn U un with
 | true =>
  have HW:=Lib.hid (show wroteHull S sn U un = .tuple #[.string ⟨(hullT S sn U un).toArray⟩,.int .i64 0] from by unfold wroteHull; rw [if_pos hB]);have C2:=Lib.hid (fun la W1 (h:WA w sa ua sn sc un uc S U W1)=>(write53_any la 2 2 sa ua sn sc un uc S U W1 h.ss h.uu h.tab h.sides).mono fun e w' hh=>(show e = .returned (.string ⟨(hullT S sn U un).toArray⟩)∧Below W1.heap.size W1 w' from⟨by rw [hh.2,if_pos hB],hh.1⟩));clear hB;refine wp_region_noPanic ?_
  first | go_region_with (first | (go_at_call 54; refine(hulls54_any _).mono ?_; rintro e w1 ⟨rfl,hb1,hk1⟩; have I1:=Lib.hid (G.out _ hb1); clear hb1 hk1; obtain⟨q0,q1,q2,q3⟩:=CB.out _ I1.out) | (go_at_call 53; refine(C2.out _ _ I1.out).mono ?_; rintro e w2 ⟨rfl,hb2⟩; have I2:=Lib.hid (I1.out.grow hb2); clear hb2; have r2:=cellAt I2.out.r 0; have f2:=freeAt I2.out.r 0; simp only [List.getElem?_toArray,List.getElem?_cons_zero] at r2)) | fail
  all_goals
   refine NoPanic.normal ?_;go_wp2_with fail;refine leaves_cons (f:=52) (args:=#[bp (w.heap.size+1)]) (by simp) (by simp [go_sem]) ?_;refine(answer_idle _ _).mono ?_;rintro e u' w'' ⟨rfl,rfl,rfl⟩;simp [Leaves,settle,results,Tryz.results14,go_sem,r2];exact⟨HW.out.symm,I2.out.bel.setCell (by dsimp only; omega) _⟩
 | false =>
  have HW:=Lib.hid (show wroteHull S sn U un = .tuple #[.string ⟨#[]⟩,.int .i64 1] from by unfold wroteHull; rw [hB]; rfl);have C2:=Lib.hid (fun la W1 (h:WA w sa ua sn sc un uc S U W1)=>(write53_any la 2 2 sa ua sn sc un uc S U W1 h.ss h.uu h.tab h.sides).mono fun e w' hh=>(show e=err 1∧WA w sa ua sn sc un uc S U w' from⟨by rw [hh.2,hB]; rfl,h.grow hh.1⟩));clear hB
  first | go_region_with (first | (go_at_call 54; refine(hulls54_any _).mono ?_; rintro e w1 ⟨rfl,hb1,hk1⟩; have I1:=Lib.hid (G.out _ hb1); clear hb1 hk1; obtain⟨q0,q1,q2,q3⟩:=CB.out _ I1.out) | (go_at_call 53; refine Calls.out (.string ⟨#[]⟩) (C2.out _ _ I1.out) ?_ ?_; (intro w2 hb2; have I2:=Lib.hid hb2; have r2:=cellAt I2.out.r 0; simp only [List.getElem?_toArray,List.getElem?_cons_zero] at r2; clear hb2; simp only [err]; go_wp2_with fail; refine leaves_cons (f:=52) (args:=#[bp (w.heap.size+1)]) (by simp) (by simp [go_sem]) ?_; refine(answer_panicking _ 0 1 [] _ I2.out.r).mono ?_; rintro e u' w'' ⟨rfl,rfl,rfl⟩; simp [Leaves,settle,results,Tryz.results14,go_sem,r2]; exact⟨HW.out.symm,I2.out.bel.setCell (by dsimp only; omega) _⟩); intro hF)) | fail
  all_goals exact hF.out.elim
def wagesV(cr:Int)(S:Nat→Nat→Int)(sn:Nat)(T:Nat→Nat→Int)(tn:Nat):WagesV:=⟨cr.toNat,sn,fun i j=>(S i j).toNat,tn,fun i j=>(T i j).toNat⟩
structure WagesOk (cr:Int) (S:Nat→Nat→Int) (sn:Nat) (T:Nat→Nat→Int) (tn:Nat):Prop where
 hcr:1≤cr∧cr≤4
 hsn:sn≤3
 htn:tn≤6
 s:∀ i,i<sn→(0≤S i 0∧S i 0≤20)∧0≤S i 1∧S i 1≤50
 t:∀ i,i<tn→(0≤T i 0∧T i 0≤cr - 1)∧(0≤T i 1∧T i 1≤(sn:Int) - 1)∧(0≤T i 2∧T i 2≤T i 3∧T i 3 - T i 2≤3∧T i 3≤20)∧(0≤T i 4∧T i 4≤T i 5∧T i 5 - T i 4≤3∧T i 5≤20)∧(0≤T i 6∧T i 6≤T i 7∧T i 7 - T i 6≤3∧T i 7≤40)
theorem near_iff{lo hi high:Int}(h:nearB lo hi high=true):0≤lo∧lo≤hi∧hi - lo≤3∧hi≤high:=by
 unfold nearB spanB at h;simp only [Bool.and_eq_true,decide_eq_true_eq] at h;omega
theorem wages_ok{cr:Int}{S:Nat→Nat→Int}{sn:Nat}{T:Nat→Nat→Int}{tn:Nat}(h:wagesB cr S sn T tn=true):WagesOk cr S sn T tn:=by
 unfold wagesB at h;simp only [Bool.and_eq_true] at h;obtain⟨⟨h1,h2⟩,h3⟩:=h;unfold headW at h1;simp only [Bool.and_eq_true,decide_eq_true_eq] at h1;have hcr:=inB_iff.1 h1.1.1
 have hs:∀ i,i<sn→(0≤S i 0∧S i 0≤20)∧0≤S i 1∧S i 1≤50:=fun i hi=>by
  have:=allB_iff.1 h2 i hi;unfold okSm at this;simp only [Bool.and_eq_true] at this;exact⟨inB_iff.1 this.1,inB_iff.1 this.2⟩
 refine⟨hcr,by omega,by omega,hs,fun i hi=>?_⟩;have:=allB_iff.1 h3 i hi;unfold okTk at this;simp only [Bool.and_eq_true] at this;obtain⟨⟨⟨⟨a,b⟩,c⟩,d⟩,e⟩:=this;have ha:=inB_iff.1 a;have hb:=inB_iff.1 b;have hc:=near_iff c;have hd:=near_iff d;have he:=near_iff e;have hm:=hs (T i 1).toNat (by omega);refine⟨ha,hb,?_,?_,?_⟩ <;> omega
theorem WagesOk.pre{cr:Int}{S:Nat→Nat→Int}{sn:Nat}{T:Nat→Nat→Int}{tn:Nat}(h:WagesOk cr S sn T tn):∀ i,i<tn→TPre ((wagesV cr S sn T tn).T i):=fun i hi=>by
 have:=h.t i hi
 show(T i 2).toNat≤(T i 3).toNat∧(T i 3).toNat≤1000∧(T i 4).toNat≤(T i 5).toNat∧(T i 5).toNat≤1000∧(T i 6).toNat≤(T i 7).toNat∧(T i 7).toNat≤1000
 omega
theorem WagesOk.rows{cr:Int}{S:Nat→Nat→Int}{sn:Nat}{T:Nat→Nat→Int}{tn:Nat}(h:WagesOk cr S sn T tn){w:World}{sa ta:Option Addr}(hS:NumsAt w sa sn 2 S)(hT:NumsAt w ta tn 8 T) :
  Row w sa sn 2 (fun i j=>.int .i64 ((wagesV cr S sn T tn).S i j:Nat))∧Row w ta tn 8 (fun i j=>.int .i64 ((wagesV cr S sn T tn).T i j:Nat)):=by
 refine⟨⟨hS.plain,hS.old,hS.small,fun i hi j hj=>?_⟩,⟨hT.plain,hT.old,hT.small,fun i hi j hj=>?_⟩⟩
 ·have h1:=hS.cells i hi j hj
  have h2:=h.s i hi
  have h3:0≤S i j:=by
   rcases(show j=0∨j=1 by omega) with rfl | rfl <;> omega
  rw [h1]
  show _=some (Value.int .i64 ((S i j).toNat:Int))
  rw [Int.toNat_of_nonneg h3]
 ·have h1:=hT.cells i hi j hj
  have h2:=h.t i hi
  have h3:0≤T i j:=by
   rcases(show j=0∨j=1∨j=2∨j=3∨j=4∨j=5∨j=6∨j=7 by omega) with rfl | rfl | rfl | rfl | rfl | rfl | rfl | rfl <;> omega
  rw [h1]
  show _=some (Value.int .i64 ((T i j).toNat:Int))
  rw [Int.toNat_of_nonneg h3]
def WroteWages(cr:Int)(S:Nat→Nat→Int)(sn:Nat)(T:Nat→Nat→Int)(tn:Nat)(w:World)(e:Ending)(w':World):Prop :=
 Below w.heap.size w w'∧if wagesB cr S sn T tn then ∃ oa cap,e = .returned (.tuple #[.slice oa (szB (bookN (wagesV cr S sn T tn))) cap,.int .i64 0])∧BytesAt w' oa (szB (bookN (wagesV cr S sn T tn))) (bookB (wagesV cr S sn T tn))∧w.heap.size≤blk oa∧szB (bookN (wagesV cr S sn T tn))≤cap
  else e = .returned (.tuple #[.slice none 0 0,.int .i64 1])
structure WW (w:World) (cr:Int) (sa ta:Option Addr) (sn sc tn tc:Nat) (S T:Nat→Nat→Int) (W:World):Prop where
 bel:Below w.heap.size w W
 bx:BoxAt W w.heap.size #[.int .i64 cr,.slice sa sn sc,.slice ta tn tc] 38
 e:BoxAt W (w.heap.size+1) #[.int .i64 0] 41
 ss:NumsAt W sa sn 2 S
 tt:NumsAt W ta tn 8 T
theorem WW.grow{w W W':World}{cr:Int}{sa ta:Option Addr}{sn sc tn tc:Nat}{S T:Nat→Nat→Int}(h:WW w cr sa ta sn sc tn tc S T W)(hb:Below W.heap.size W W'):WW w cr sa ta sn sc tn tc S T W' :=
 ⟨h.bel.next hb,h.bx.grow hb,h.e.grow hb,h.ss.grow hb,h.tt.grow hb⟩
set_option maxRecDepth 100000 in
set_option maxHeartbeats 4000000 in
theorem writeWages20_any(cr:Int)(sa ta:Option Addr)(sn sc tn tc:Nat)(S T:Nat→Nat→Int)(w:World)(hS:NumsAt w sa sn 2 S)(hT:NumsAt w ta tn 8 T) :
  Calls Tryz.prog 20 #[.agg #[.int .i64 cr,.slice sa sn sc,.slice ta tn tc]] w (WroteWages cr S sn T tn w):=by
 have I0:=Lib.hid (show WW w cr sa ta sn sc tn tc S T ((w.alloc (.cells #[.int .i64 cr,.slice sa sn sc,.slice ta tn tc] 38)).alloc (.cells #[.int .i64 0] 41)) from by
  obtain⟨z0,z1,-,hB⟩:=blocks2 (show(w.alloc (.cells #[.int .i64 cr,.slice sa sn sc,.slice ta tn tc] 38)).alloc (.cells #[.int .i64 0] 41)=_ from rfl)
  exact⟨hB,z0,z1,hS.grow hB,hT.grow hB⟩)
 clear hS hT
 go_enter_defers Tryz.func20,Tryz.ntmps20
 go_upto_region 2 with (fail)
 generalize World.alloc _ _=W at *;have b0:=cellAt I0.out.bx 0;have b1:=cellAt I0.out.bx 1;have b2:=cellAt I0.out.bx 2;have r0:=cellAt I0.out.e 0;have f0:=freeAt I0.out.e 0;simp only [List.getElem?_toArray,List.getElem?_cons_zero,List.getElem?_cons_succ] at b0 b1 b2 r0;have C1:=Lib.hid (isWages_any cr sa ta sn sc tn tc S T W I0.out.ss I0.out.tt);go_wp2_with (go_at_call 63; refine C1.out.mono ?_);rintro e w1 ⟨rfl,hb1⟩;have I1:=Lib.hid (I0.out.grow hb1);clear hb1 I0 C1 b0 b1 b2 r0 f0;have b0:=cellAt I1.out.bx 0;have b1:=cellAt I1.out.bx 1;have b2:=cellAt I1.out.bx 2;have r0:=cellAt I1.out.e 0;have f0:=freeAt I1.out.e 0;simp only [List.getElem?_toArray,List.getElem?_cons_zero,List.getElem?_cons_succ] at b0 b1 b2 r0
 cases hB:wagesB cr S sn T tn with
 | false =>
  have HW:=Lib.hid (show ∀ w',Below w.heap.size w w'→WroteWages cr S sn T tn w (.returned (.tuple #[.slice none 0 0,.int .i64 1])) w' from fun w' hb=>⟨hb,by rw [if_neg (by rw [hB]; simp)]⟩);clear hB;go_wp2_with (go_at_call 62; refine(ask_false _ _).mono ?_);rintro e w' ⟨rfl,rfl⟩;refine leaves_cons (f:=52) (args:=#[bp (w.heap.size+1)]) (by simp) (by simp [go_sem]) ?_;refine(answer_panicking _ 0 1 [] _ I1.out.e).mono ?_;rintro e u' w'' ⟨rfl,rfl,rfl⟩;simp [Leaves,settle,results,Tryz.results20,go_sem,r0];exact HW.out _ (I1.out.bel.setCell (by dsimp only; omega) _)
 | true =>
  have OK:=Lib.hid (wages_ok hB);have HW:=Lib.hid (show ∀ oa cap w',Below w.heap.size w w'→BytesAt w' oa (szB (bookN (wagesV cr S sn T tn))) (bookB (wagesV cr S sn T tn))→w.heap.size≤blk oa→szB (bookN (wagesV cr S sn T tn))≤cap→WroteWages cr S sn T tn w (.returned (.tuple #[.slice oa (szB (bookN (wagesV cr S sn T tn))) cap,.int .i64 0])) w' from fun oa cap w' hb h1 h2 h3=>⟨hb,by rw [if_pos hB]; exact⟨oa,cap,rfl,h1,h2,h3⟩⟩);clear hB;have hcr:((wagesV cr S sn T tn).cr:Int)=cr:=Int.toNat_of_nonneg (by have:=OK.out.hcr; omega);have C2:=Lib.hid (book64_any (wagesV cr S sn T tn) sa ta sc tc w1 (OK.out.rows I1.out.ss I1.out.tt).1 (OK.out.rows I1.out.ss I1.out.tt).2 (by have:=OK.out.hsn; show sn≤100; omega) (by have:=OK.out.htn; show tn≤100; omega) OK.out.pre);rw [hcr,show(wagesV cr S sn T tn).sn=sn from rfl,show(wagesV cr S sn T tn).tn=tn from rfl] at C2;clear hcr;have hN:0<szB (bookN (wagesV cr S sn T tn)):=by unfold szB; omega
  generalize wagesV cr S sn T tn=X at *;go_wp2_with (first | (go_at_call 62; refine(ask_true _ _).mono ?_; rintro e w' ⟨rfl,rfl⟩) | (go_at_call 64; refine C2.out.mono ?_));rintro e w2 ⟨oa,cap,rfl,ho,hge,hcap,hb2⟩;have I2:=Lib.hid (I1.out.grow hb2);have HO:=Lib.hid ho;have HGE:=Lib.hid (Nat.le_trans I1.out.bel.size (hge hN));have HCAP:=Lib.hid hcap;have E3:=Lib.hid (show BoxAt (w2.setCell ⟨w.heap.size+1,0,none⟩ (.int .i64 0)) (w.heap.size+1) #[.int .i64 0] 41 from I2.out.e.store 0 _);have B3:=Lib.hid (I2.out.bel.setCell (p:=⟨w.heap.size+1,0,none⟩) (by dsimp only; omega) (.int .i64 0));have hl1:=lt_of_heap I1.out.e;have O3:=Lib.hid (show BytesAt (w2.setCell ⟨w.heap.size+1,0,none⟩ (.int .i64 0)) oa (szB (bookN X)) (bookB X) from Row.set ho ⟨w.heap.size+1,0,none⟩ (.int .i64 0) (fun hn=>by have:=hge hN; dsimp only; omega));clear ho hge hcap hb2 C2 r0 f0 b0 b1 b2;have r0:=cellAt I2.out.e 0;have f0:=freeAt I2.out.e 0;simp only [List.getElem?_toArray,List.getElem?_cons_zero] at r0;go_wp2_with fail;clear r0 f0 I2 HO;generalize World.setCell w2 _ _=w3 at *;have r0:=cellAt E3.out 0;simp only [List.getElem?_toArray,List.getElem?_cons_zero] at r0;refine leaves_cons (f:=52) (args:=#[bp (w.heap.size+1)]) (by simp) (by simp [go_sem]) ?_;refine(answer_idle _ _).mono ?_;rintro e u' w'' ⟨rfl,rfl,rfl⟩;simp [Leaves,settle,results,Tryz.results20,go_sem,r0];exact HW.out _ _ _ B3.out O3.out HGE.out HCAP.out
end Go.Proofs.YtclbmlmlhiiaeaaGreatDoor
