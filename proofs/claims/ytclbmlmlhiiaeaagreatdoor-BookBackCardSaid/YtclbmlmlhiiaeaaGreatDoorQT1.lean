/-
Walks: the reference's word on wages.
-/
import Derived.Test.YtclbmlmlhiiaeaaGreatDoorQV2
import Derived.Test.YtclbmlmlhiiaeaaGreatDoorQE4
import Derived.Lib.MinMax
import Derived.Test.YtclbmlmlhiiaeaaGreatDoorQW6
namespace Go.Proofs.YtclbmlmlhiiaeaaGreatDoor
open Go.RowKit
theorem near_no {lo hi h : Int} (hn : ¬ (0 ≤ lo ∧ lo ≤ hi ∧ hi ≤ h ∧ hi - lo ≤ 3)) : nearB lo hi h = false := by
 rw [← Bool.not_eq_true]
 intro e
 unfold nearB spanB at e
 simp only [Bool.and_eq_true, decide_eq_true_eq] at e
 omega
set_option maxHeartbeats 1000000 in
theorem spanR_any (lo hi h : Int) (w : World) (hh : h ≤ 1000000) :
  Calls Tryz.prog 76 #[.agg #[.int .i64 lo, .int .i64 hi], .int .i64 h] w fun e w' => e = .returned (.bool (nearB lo hi h)) ∧ Below w.heap.size w w' := by
 by_cases c1 : 0 ≤ lo
 ·by_cases c2 : lo ≤ hi
  ·by_cases c3 : hi ≤ h
   ·by_cases c4 : hi - lo ≤ 3
    ·go_enter Tryz.func76, Tryz.ntmps76
     go_wp2
     go_ret
     exact ⟨ret_bool (by simp [nearB, spanB, c1, c2, c3, c4]), (Below.refl _ _).alloc (Nat.le_refl _) _⟩
    ·go_enter Tryz.func76, Tryz.ntmps76
     go_wp2
     go_ret
     exact ⟨ret_bool (near_no (by omega)).symm, (Below.refl _ _).alloc (Nat.le_refl _) _⟩
   ·go_enter Tryz.func76, Tryz.ntmps76
    go_wp2
    go_ret
    exact ⟨ret_bool (near_no (by omega)).symm, (Below.refl _ _).alloc (Nat.le_refl _) _⟩
  ·go_enter Tryz.func76, Tryz.ntmps76
   go_wp2
   go_ret
   exact ⟨ret_bool (near_no (by omega)).symm, (Below.refl _ _).alloc (Nat.le_refl _) _⟩
 ·go_enter Tryz.func76, Tryz.ntmps76
  go_wp2
  go_ret
  exact ⟨ret_bool (near_no (by omega)).symm, (Below.refl _ _).alloc (Nat.le_refl _) _⟩
set_option maxHeartbeats 400000 in
theorem seamR_any (cr : Int) (sa ta : Option Addr) (sn sc tn tc : Nat) (n : Int) (w : World) (hs : sn ≤ maxLen) :
  Calls Tryz.prog 75 #[.agg #[.int .i64 cr, .slice sa sn sc, .slice ta tn tc], .int .i64 n] w fun e w' => e = .returned (.bool (inB n 0 ((sn : Int) - 1))) ∧ Below w.heap.size w w' := by
 unfold maxLen at hs
 go_enter Tryz.func75, Tryz.ntmps75
 go_wp2_with (go_at_call 73; refine (in73_any _ _ _ _).mono ?_; rintro e w' ⟨rfl, rfl⟩)
 go_ret
 exact ⟨rfl, (Below.refl _ _).alloc (Nat.le_refl _) _⟩
set_option maxHeartbeats 400000 in
theorem crewR_any (cr : Int) (sa ta : Option Addr) (sn sc tn tc : Nat) (n : Int) (w : World) (h0 : -1000000 ≤ cr) (h1 : cr ≤ 1000000) :
  Calls Tryz.prog 74 #[.agg #[.int .i64 cr, .slice sa sn sc, .slice ta tn tc], .int .i64 n] w fun e w' => e = .returned (.bool (inB n 0 (cr - 1))) ∧ Below w.heap.size w w' := by
 go_enter Tryz.func74, Tryz.ntmps74
 go_wp2_with (go_at_call 73; refine (in73_any _ _ _ _).mono ?_; rintro e w' ⟨rfl, rfl⟩)
 go_ret
 exact ⟨rfl, (Below.refl _ _).alloc (Nat.le_refl _) _⟩
structure TBx (w : World) (cr : Int) (sa ta : Option Addr) (sn sc tn tc : Nat) (S T : Nat → Nat → Int) (tb : Nat) (t : Nat → Int) (W : World) : Prop where
 wb : WB w cr sa ta sn sc tn tc S T W
 tb : BoxAt W tb #[.int .i64 (t 0), .int .i64 (t 1), .int .i64 (t 2), .int .i64 (t 3), .int .i64 (t 4), .int .i64 (t 5), .int .i64 (t 6), .int .i64 (t 7)] 130
theorem TBx.grow {w W W' : World} {cr : Int} {sa ta : Option Addr} {sn sc tn tc : Nat} {S T : Nat → Nat → Int} {tb : Nat} {t : Nat → Int} (h : TBx w cr sa ta sn sc tn tc S T tb t W) (hb : Below W.heap.size W W') : TBx w cr sa ta sn sc tn tc S T tb t W' :=
 ⟨h.wb.grow hb, h.tb.grow hb⟩
theorem TBx.new {w W : World} {cr : Int} {sa ta : Option Addr} {sn sc tn tc : Nat} {S T : Nat → Nat → Int} (h : WB w cr sa ta sn sc tn tc S T W) (t : Nat → Int) :
  TBx w cr sa ta sn sc tn tc S T W.heap.size t (W.alloc (.cells #[.int .i64 (t 0), .int .i64 (t 1), .int .i64 (t 2), .int .i64 (t 3), .int .i64 (t 4), .int .i64 (t 5), .int .i64 (t 6), .int .i64 (t 7)] 130)) :=
 ⟨h.grow ((Below.refl _ _).alloc (Nat.le_refl _) _), (blocks1 rfl).1⟩
theorem wages_noS {cr : Int} {S T : Nat → Nat → Int} {sn tn k : Nat} (hk : k < sn) (h : okSm (S k) = false) : false = wagesB cr S sn T tn := by
 symm
 rw [← Bool.not_eq_true]
 intro e
 unfold wagesB at e
 simp only [Bool.and_eq_true] at e
 have := allB_iff.1 e.1.2 k hk
 simp [h] at this
theorem wages_yes {cr : Int} {S T : Nat → Nat → Int} {sn tn : Nat} (h1 : headW cr sn tn = true) (h2 : ∀ j, j < sn → okSm (S j) = true) (h3 : ∀ j, j < tn → okTk cr sn S (T j) = true) : true = wagesB cr S sn T tn := by
 unfold wagesB
 rw [h1, allB_iff.2 h2, allB_iff.2 h3]
 rfl
set_option maxRecDepth 100000 in
set_option maxHeartbeats 4000000 in
theorem wages31_any (cr : Int) (sa ta : Option Addr) (sn sc tn tc : Nat) (S T : Nat → Nat → Int) (w : World) (hS : NumsAt w sa sn 2 S) (hT : NumsAt w ta tn 8 T) :
  Calls Tryz.prog 31 #[.agg #[.int .i64 cr, .slice sa sn sc, .slice ta tn tc]] w fun e w' => e = .returned (.bool (wagesB cr S sn T tn)) ∧ Below w.heap.size w w' := by
 have nsl := hS.small
 have ntl := hT.small
 unfold maxLen at nsl ntl
 have hb0 := (Below.refl w.heap.size w).alloc (Nat.le_refl _) (.cells #[.int .i64 cr, .slice sa sn sc, .slice ta tn tc] 38)
 have I0 := Lib.hid (show WB w cr sa ta sn sc tn tc S T (w.alloc (.cells #[.int .i64 cr, .slice sa sn sc, .slice ta tn tc] 38)) from ⟨hb0, heap_alloc_new _ _, hS.grow hb0, hT.grow hb0⟩)
 clear hS hT hb0
 obtain ⟨b0, b1, b2⟩ := I0.out.cells
 have HX := Lib.hid (show headW cr sn tn = (inB cr 1 4 && decide ((sn : Int) ≤ 3) && decide ((tn : Int) ≤ 6)) from rfl)
 have HNO := Lib.hid (show headW cr sn tn = false → false = wagesB cr S sn T tn from fun h => by unfold wagesB; rw [h]; rfl)
 by_cases c1 : inB cr 1 4 = true
 case neg =>
  have c1' : inB cr 1 4 = false := by simpa using c1
  have hnv := Lib.hid (HNO.out (by rw [HX.out, c1']; rfl))
  clear c1
  go_enter Tryz.func31, Tryz.ntmps31
  go_wp2_with (go_at_call 73; refine (in73_any _ _ _ _).mono ?_; rintro e w' ⟨rfl, rfl⟩)
  go_ret
  exact ⟨ret_bool hnv.out, I0.out.bel⟩
 by_cases h2 : (sn : Int) ≤ 3
 case neg =>
  have hnv := Lib.hid (HNO.out (by rw [HX.out, decide_eq_false h2]; simp))
  go_enter Tryz.func31, Tryz.ntmps31
  go_wp2_with (go_at_call 73; refine (in73_any _ _ _ _).mono ?_; rintro e w' ⟨rfl, rfl⟩)
  go_ret
  exact ⟨ret_bool hnv.out, I0.out.bel⟩
 by_cases h3 : (tn : Int) ≤ 6
 case neg =>
  have hnv := Lib.hid (HNO.out (by rw [HX.out, decide_eq_false h3]; simp))
  go_enter Tryz.func31, Tryz.ntmps31
  go_wp2_with (go_at_call 73; refine (in73_any _ _ _ _).mono ?_; rintro e w' ⟨rfl, rfl⟩)
  go_ret
  exact ⟨ret_bool hnv.out, I0.out.bel⟩
 have HY := Lib.hid (show headW cr sn tn = true from by rw [HX.out, c1, decide_eq_true h2, decide_eq_true h3]; rfl)
 obtain ⟨hcr0, hcr1⟩ := inB_iff.1 c1
 clear HX HNO
 go_enter Tryz.func31, Tryz.ntmps31
 go_wp2_with (go_at_call 73; refine (in73_any _ _ _ _).mono ?_; rintro e w' ⟨rfl, rfl⟩)
 clear b0 b1 b2
 generalize hW : World.alloc _ _ = W at *
 clear hW
 go_loopw [3] (fun i wr => ∃ k : Nat, k ≤ sn ∧ i = .int .i64 k ∧ (∀ j, j < k → okSm (S j) = true) ∧ WB w cr sa ta sn sc tn tc S T wr) (fun i _ => sn - (intOf i).toNat)
 case atStart => exact ⟨0, Nat.zero_le _, rfl, fun j hj => by omega, I0.out⟩
 case round =>
  clear I0
  obtain ⟨k, hk, rfl, hok, hinv⟩ := hrel
  have HO := Lib.hid hok
  have HI := Lib.hid hinv
  clear hok hinv
  obtain ⟨-, b1, b2⟩ := HI.out.cells
  by_cases hlt : k < sn
  ·have hi := fun w => run_indexAt_row (w := w) (cap := sc) wseams35 size126 (HI.out.ss.plain (by omega)) hlt
   have g0 := HI.out.ss.cells k hlt 0 (by omega)
   have g1 := HI.out.ss.cells k hlt 1 (by omega)
   simp only [Nat.add_zero] at g0
   have HX := Lib.hid (show okSm (S k) = (inB (S k 0) 0 20 && inB (S k 1) 0 50) from rfl)
   by_cases c2 : inB (S k 0) 0 20 = true
   ·by_cases c3 : inB (S k 1) 0 50 = true
    ·have HZ := Lib.hid (show okSm (S k) = true by rw [HX.out, c2, c3]; rfl)
     go_wp2_with (go_at_call 73; refine (in73_any _ _ _ _).mono ?_; rintro e w' ⟨rfl, rfl⟩)
     refine ⟨⟨k + 1, hlt, by go_num, fun j hj => ?_, HI.out⟩, by simp [intOf]; omega⟩
     by_cases e : j = k
     ·rw [e]; exact HZ.out
     ·exact HO.out j (by omega)
    ·have c3' : inB (S k 1) 0 50 = false := by simpa using c3
     have hnv := Lib.hid (wages_noS (cr := cr) (T := T) (tn := tn) hlt (by rw [HX.out, c3']; simp))
     clear c3
     go_wp2_with (go_at_call 73; refine (in73_any _ _ _ _).mono ?_; rintro e w' ⟨rfl, rfl⟩)
     go_ret
     exact ⟨ret_bool hnv.out, HI.out.bel⟩
   ·have c2' : inB (S k 0) 0 20 = false := by simpa using c2
    have hnv := Lib.hid (wages_noS (cr := cr) (T := T) (tn := tn) hlt (by rw [HX.out, c2']; rfl))
    clear c2
    go_wp2_with (go_at_call 73; refine (in73_any _ _ _ _).mono ?_; rintro e w' ⟨rfl, rfl⟩)
    go_ret
    exact ⟨ret_bool hnv.out, HI.out.bel⟩
  ·obtain rfl : k = sn := by omega
   go_wp2_with fail
   obtain ⟨wo, rfl⟩ : ∃ wo : World, wo = wr := ⟨_, rfl⟩
   go_loopw [4] (fun i wr => ∃ k2 : Nat, k2 ≤ tn ∧ i = .int .i64 k2 ∧ (∀ j, j < k2 → okTk cr k S (T j) = true) ∧ WB w cr sa ta k sc tn tc S T wr) (fun i _ => tn - (intOf i).toNat)
   case atStart => exact ⟨0, Nat.zero_le _, rfl, fun j hj => by omega, HI.out⟩
   case round =>
    clear HI b1 b2
    obtain ⟨i, hi, rfl, hok, hinv⟩ := hrel
    have HO2 := Lib.hid hok
    have HI := Lib.hid hinv
    clear hok hinv
    by_cases hlt2 : i < tn
    ·have hti := fun w => run_indexAt_row (w := w) (cap := tc) wticks36 size130 (HI.out.tt.plain (by omega)) hlt2
     have k0 := HI.out.tt.cells i hlt2 0 (by omega)
     have k1 := HI.out.tt.cells i hlt2 1 (by omega)
     have k2 := HI.out.tt.cells i hlt2 2 (by omega)
     have k3 := HI.out.tt.cells i hlt2 3 (by omega)
     have k4 := HI.out.tt.cells i hlt2 4 (by omega)
     have k5 := HI.out.tt.cells i hlt2 5 (by omega)
     have k6 := HI.out.tt.cells i hlt2 6 (by omega)
     have k7 := HI.out.tt.cells i hlt2 7 (by omega)
     simp only [Nat.add_zero] at k0
     obtain ⟨-, -, b2⟩ := HI.out.cells
     have HB := Lib.hid (TBx.new HI.out (T i))
     have d0 := cellAt HB.out.wb.box 0
     have d1 := cellAt HB.out.wb.box 1
     have d2 := cellAt HB.out.wb.box 2
     have t0 := cellAt HB.out.tb 0
     have t1 := cellAt HB.out.tb 1
     have t2 := cellAt HB.out.tb 2
     have t3 := cellAt HB.out.tb 3
     have t4 := cellAt HB.out.tb 4
     have t5 := cellAt HB.out.tb 5
     have t6 := cellAt HB.out.tb 6
     have t7 := cellAt HB.out.tb 7
     have HX := Lib.hid (show okTk cr k S (T i) = (inB (T i 0) 0 (cr - 1) && inB (T i 1) 0 ((k : Int) - 1) && nearB (T i 2) (T i 3) (S (T i 1).toNat 0) && nearB (T i 4) (T i 5) (S (T i 1).toNat 0) && nearB (T i 6) (T i 7) 40) from rfl)
     have HNO := Lib.hid (fun (h : okTk cr k S (T i) = false) => wages_no (cr := cr) (S := S) (T := T) (sn := k) (tn := tn) hlt2 (fun _ => h))
     have e1 : inB (T i 0) 0 (cr - 1) = true ∨ inB (T i 0) 0 (cr - 1) = false := by cases inB (T i 0) 0 (cr - 1) <;> simp
     have e2 : inB (T i 1) 0 ((k : Int) - 1) = true ∨ inB (T i 1) 0 ((k : Int) - 1) = false := by cases inB (T i 1) 0 ((k : Int) - 1) <;> simp
     have e3 : nearB (T i 6) (T i 7) 40 = true ∨ nearB (T i 6) (T i 7) 40 = false := by cases nearB (T i 6) (T i 7) 40 <;> simp
     rcases e1 with e1 | e1
     case inr =>
      have hnv := Lib.hid (HNO.out (by rw [HX.out, e1]; rfl))
      clear e2 e3
      go_wp2_with (first | (go_at_call 73; refine (in73_any _ _ _ _).mono ?_; rintro e w' ⟨rfl, rfl⟩) | (go_at_call 74; refine (crewR_any _ _ _ _ _ _ _ _ _ (by omega) (by omega)).mono ?_; rintro e w5 ⟨rfl, hb5⟩; replace HB := Lib.hid (HB.out.grow hb5); clear hb5; clear d0 d1 d2 t0 t1 t2 t3 t4 t5 t6 t7; have d0 := cellAt HB.out.wb.box 0; have d1 := cellAt HB.out.wb.box 1; have d2 := cellAt HB.out.wb.box 2; have t0 := cellAt HB.out.tb 0; have t1 := cellAt HB.out.tb 1; have t2 := cellAt HB.out.tb 2; have t3 := cellAt HB.out.tb 3; have t4 := cellAt HB.out.tb 4; have t5 := cellAt HB.out.tb 5; have t6 := cellAt HB.out.tb 6; have t7 := cellAt HB.out.tb 7; skip) | (go_at_call 75; refine (seamR_any _ _ _ _ _ _ _ _ _ (by unfold maxLen; omega)).mono ?_; rintro e w5 ⟨rfl, hb5⟩; replace HB := Lib.hid (HB.out.grow hb5); clear hb5; clear d0 d1 d2 t0 t1 t2 t3 t4 t5 t6 t7; have d0 := cellAt HB.out.wb.box 0; have d1 := cellAt HB.out.wb.box 1; have d2 := cellAt HB.out.wb.box 2; have t0 := cellAt HB.out.tb 0; have t1 := cellAt HB.out.tb 1; have t2 := cellAt HB.out.tb 2; have t3 := cellAt HB.out.tb 3; have t4 := cellAt HB.out.tb 4; have t5 := cellAt HB.out.tb 5; have t6 := cellAt HB.out.tb 6; have t7 := cellAt HB.out.tb 7; skip) | (go_at_call 76; refine (spanR_any _ _ _ _ (by omega)).mono ?_; rintro e w5 ⟨rfl, hb5⟩; replace HB := Lib.hid (HB.out.grow hb5); clear hb5; clear d0 d1 d2 t0 t1 t2 t3 t4 t5 t6 t7; have d0 := cellAt HB.out.wb.box 0; have d1 := cellAt HB.out.wb.box 1; have d2 := cellAt HB.out.wb.box 2; have t0 := cellAt HB.out.tb 0; have t1 := cellAt HB.out.tb 1; have t2 := cellAt HB.out.tb 2; have t3 := cellAt HB.out.tb 3; have t4 := cellAt HB.out.tb 4; have t5 := cellAt HB.out.tb 5; have t6 := cellAt HB.out.tb 6; have t7 := cellAt HB.out.tb 7; skip))
      go_ret
      exact ⟨ret_bool hnv.out, HB.out.wb.bel⟩
     rcases e2 with e2 | e2
     case inr =>
      have hnv := Lib.hid (HNO.out (by rw [HX.out, e2]; simp))
      clear e3
      go_wp2_with (first | (go_at_call 73; refine (in73_any _ _ _ _).mono ?_; rintro e w' ⟨rfl, rfl⟩) | (go_at_call 74; refine (crewR_any _ _ _ _ _ _ _ _ _ (by omega) (by omega)).mono ?_; rintro e w5 ⟨rfl, hb5⟩; replace HB := Lib.hid (HB.out.grow hb5); clear hb5; clear d0 d1 d2 t0 t1 t2 t3 t4 t5 t6 t7; have d0 := cellAt HB.out.wb.box 0; have d1 := cellAt HB.out.wb.box 1; have d2 := cellAt HB.out.wb.box 2; have t0 := cellAt HB.out.tb 0; have t1 := cellAt HB.out.tb 1; have t2 := cellAt HB.out.tb 2; have t3 := cellAt HB.out.tb 3; have t4 := cellAt HB.out.tb 4; have t5 := cellAt HB.out.tb 5; have t6 := cellAt HB.out.tb 6; have t7 := cellAt HB.out.tb 7; skip) | (go_at_call 75; refine (seamR_any _ _ _ _ _ _ _ _ _ (by unfold maxLen; omega)).mono ?_; rintro e w5 ⟨rfl, hb5⟩; replace HB := Lib.hid (HB.out.grow hb5); clear hb5; clear d0 d1 d2 t0 t1 t2 t3 t4 t5 t6 t7; have d0 := cellAt HB.out.wb.box 0; have d1 := cellAt HB.out.wb.box 1; have d2 := cellAt HB.out.wb.box 2; have t0 := cellAt HB.out.tb 0; have t1 := cellAt HB.out.tb 1; have t2 := cellAt HB.out.tb 2; have t3 := cellAt HB.out.tb 3; have t4 := cellAt HB.out.tb 4; have t5 := cellAt HB.out.tb 5; have t6 := cellAt HB.out.tb 6; have t7 := cellAt HB.out.tb 7; skip) | (go_at_call 76; refine (spanR_any _ _ _ _ (by omega)).mono ?_; rintro e w5 ⟨rfl, hb5⟩; replace HB := Lib.hid (HB.out.grow hb5); clear hb5; clear d0 d1 d2 t0 t1 t2 t3 t4 t5 t6 t7; have d0 := cellAt HB.out.wb.box 0; have d1 := cellAt HB.out.wb.box 1; have d2 := cellAt HB.out.wb.box 2; have t0 := cellAt HB.out.tb 0; have t1 := cellAt HB.out.tb 1; have t2 := cellAt HB.out.tb 2; have t3 := cellAt HB.out.tb 3; have t4 := cellAt HB.out.tb 4; have t5 := cellAt HB.out.tb 5; have t6 := cellAt HB.out.tb 6; have t7 := cellAt HB.out.tb 7; skip))
      go_ret
      exact ⟨ret_bool hnv.out, HB.out.wb.bel⟩
     rcases e3 with e3 | e3
     case inr =>
      have hnv := Lib.hid (HNO.out (by rw [HX.out, e3]; simp))
      go_wp2_with (first | (go_at_call 73; refine (in73_any _ _ _ _).mono ?_; rintro e w' ⟨rfl, rfl⟩) | (go_at_call 74; refine (crewR_any _ _ _ _ _ _ _ _ _ (by omega) (by omega)).mono ?_; rintro e w5 ⟨rfl, hb5⟩; replace HB := Lib.hid (HB.out.grow hb5); clear hb5; clear d0 d1 d2 t0 t1 t2 t3 t4 t5 t6 t7; have d0 := cellAt HB.out.wb.box 0; have d1 := cellAt HB.out.wb.box 1; have d2 := cellAt HB.out.wb.box 2; have t0 := cellAt HB.out.tb 0; have t1 := cellAt HB.out.tb 1; have t2 := cellAt HB.out.tb 2; have t3 := cellAt HB.out.tb 3; have t4 := cellAt HB.out.tb 4; have t5 := cellAt HB.out.tb 5; have t6 := cellAt HB.out.tb 6; have t7 := cellAt HB.out.tb 7; skip) | (go_at_call 75; refine (seamR_any _ _ _ _ _ _ _ _ _ (by unfold maxLen; omega)).mono ?_; rintro e w5 ⟨rfl, hb5⟩; replace HB := Lib.hid (HB.out.grow hb5); clear hb5; clear d0 d1 d2 t0 t1 t2 t3 t4 t5 t6 t7; have d0 := cellAt HB.out.wb.box 0; have d1 := cellAt HB.out.wb.box 1; have d2 := cellAt HB.out.wb.box 2; have t0 := cellAt HB.out.tb 0; have t1 := cellAt HB.out.tb 1; have t2 := cellAt HB.out.tb 2; have t3 := cellAt HB.out.tb 3; have t4 := cellAt HB.out.tb 4; have t5 := cellAt HB.out.tb 5; have t6 := cellAt HB.out.tb 6; have t7 := cellAt HB.out.tb 7; skip) | (go_at_call 76; refine (spanR_any _ _ _ _ (by omega)).mono ?_; rintro e w5 ⟨rfl, hb5⟩; replace HB := Lib.hid (HB.out.grow hb5); clear hb5; clear d0 d1 d2 t0 t1 t2 t3 t4 t5 t6 t7; have d0 := cellAt HB.out.wb.box 0; have d1 := cellAt HB.out.wb.box 1; have d2 := cellAt HB.out.wb.box 2; have t0 := cellAt HB.out.tb 0; have t1 := cellAt HB.out.tb 1; have t2 := cellAt HB.out.tb 2; have t3 := cellAt HB.out.tb 3; have t4 := cellAt HB.out.tb 4; have t5 := cellAt HB.out.tb 5; have t6 := cellAt HB.out.tb 6; have t7 := cellAt HB.out.tb 7; skip))
      go_ret
      exact ⟨ret_bool hnv.out, HB.out.wb.bel⟩
     obtain ⟨s0, s1⟩ := inB_iff.1 e2
     have hsi := fun w => run_indexAt_int (w := w) (cap := sc) (k := T i 1) (n := k) wseams35 size126 (HI.out.ss.plain (by omega)) s0 (by omega)
     obtain ⟨q, hq⟩ : ∃ q, (T i 1).toNat = q := ⟨_, rfl⟩
     have hqk : q < k := by omega
     have hfb : S q 0 ≤ 1000000 := by
      have := HO.out q hqk
      unfold okSm at this
      simp only [Bool.and_eq_true] at this
      have := inB_iff.1 this.1
      omega
     rw [hq] at hsi
     obtain ⟨fat, hfat⟩ : ∃ fat, fat = S q 0 := ⟨_, rfl⟩
     have HF := Lib.hid hfat
     rw [← hfat] at hfb
     have HX2 := Lib.hid (show okTk cr k S (T i) = (nearB (T i 2) (T i 3) fat && nearB (T i 4) (T i 5) fat) from by rw [HX.out, e1, e2, e3, hq, ← hfat]; simp)
     clear hq hfat HX
     have g9 := HB.out.wb.ss.cells q hqk 0 (by omega)
     simp only [Nat.add_zero] at g9
     rw [← HF.out] at g9
     have e4 : nearB (T i 2) (T i 3) fat = true ∨ nearB (T i 2) (T i 3) fat = false := by cases nearB (T i 2) (T i 3) fat <;> simp
     have e5 : nearB (T i 4) (T i 5) fat = true ∨ nearB (T i 4) (T i 5) fat = false := by cases nearB (T i 4) (T i 5) fat <;> simp
     rcases e4 with e4 | e4
     case inr =>
      have hnv := Lib.hid (HNO.out (by rw [HX2.out, e4]; rfl))
      clear e5
      go_wp2_with (first | (go_at_call 73; refine (in73_any _ _ _ _).mono ?_; rintro e w' ⟨rfl, rfl⟩) | (go_at_call 74; refine (crewR_any _ _ _ _ _ _ _ _ _ (by omega) (by omega)).mono ?_; rintro e w5 ⟨rfl, hb5⟩; replace HB := Lib.hid (HB.out.grow hb5); clear hb5; clear d0 d1 d2 t0 t1 t2 t3 t4 t5 t6 t7; have d0 := cellAt HB.out.wb.box 0; have d1 := cellAt HB.out.wb.box 1; have d2 := cellAt HB.out.wb.box 2; have t0 := cellAt HB.out.tb 0; have t1 := cellAt HB.out.tb 1; have t2 := cellAt HB.out.tb 2; have t3 := cellAt HB.out.tb 3; have t4 := cellAt HB.out.tb 4; have t5 := cellAt HB.out.tb 5; have t6 := cellAt HB.out.tb 6; have t7 := cellAt HB.out.tb 7; clear g9; have g9 := HB.out.wb.ss.cells q hqk 0 (by omega); simp only [Nat.add_zero] at g9; rw [← HF.out] at g9) | (go_at_call 75; refine (seamR_any _ _ _ _ _ _ _ _ _ (by unfold maxLen; omega)).mono ?_; rintro e w5 ⟨rfl, hb5⟩; replace HB := Lib.hid (HB.out.grow hb5); clear hb5; clear d0 d1 d2 t0 t1 t2 t3 t4 t5 t6 t7; have d0 := cellAt HB.out.wb.box 0; have d1 := cellAt HB.out.wb.box 1; have d2 := cellAt HB.out.wb.box 2; have t0 := cellAt HB.out.tb 0; have t1 := cellAt HB.out.tb 1; have t2 := cellAt HB.out.tb 2; have t3 := cellAt HB.out.tb 3; have t4 := cellAt HB.out.tb 4; have t5 := cellAt HB.out.tb 5; have t6 := cellAt HB.out.tb 6; have t7 := cellAt HB.out.tb 7; clear g9; have g9 := HB.out.wb.ss.cells q hqk 0 (by omega); simp only [Nat.add_zero] at g9; rw [← HF.out] at g9) | (go_at_call 76; refine (spanR_any _ _ _ _ (by omega)).mono ?_; rintro e w5 ⟨rfl, hb5⟩; replace HB := Lib.hid (HB.out.grow hb5); clear hb5; clear d0 d1 d2 t0 t1 t2 t3 t4 t5 t6 t7; have d0 := cellAt HB.out.wb.box 0; have d1 := cellAt HB.out.wb.box 1; have d2 := cellAt HB.out.wb.box 2; have t0 := cellAt HB.out.tb 0; have t1 := cellAt HB.out.tb 1; have t2 := cellAt HB.out.tb 2; have t3 := cellAt HB.out.tb 3; have t4 := cellAt HB.out.tb 4; have t5 := cellAt HB.out.tb 5; have t6 := cellAt HB.out.tb 6; have t7 := cellAt HB.out.tb 7; clear g9; have g9 := HB.out.wb.ss.cells q hqk 0 (by omega); simp only [Nat.add_zero] at g9; rw [← HF.out] at g9))
      go_ret
      exact ⟨ret_bool hnv.out, HB.out.wb.bel⟩
     rcases e5 with e5 | e5
     case inr =>
      have hnv := Lib.hid (HNO.out (by rw [HX2.out, e5]; simp))
      go_wp2_with (first | (go_at_call 73; refine (in73_any _ _ _ _).mono ?_; rintro e w' ⟨rfl, rfl⟩) | (go_at_call 74; refine (crewR_any _ _ _ _ _ _ _ _ _ (by omega) (by omega)).mono ?_; rintro e w5 ⟨rfl, hb5⟩; replace HB := Lib.hid (HB.out.grow hb5); clear hb5; clear d0 d1 d2 t0 t1 t2 t3 t4 t5 t6 t7; have d0 := cellAt HB.out.wb.box 0; have d1 := cellAt HB.out.wb.box 1; have d2 := cellAt HB.out.wb.box 2; have t0 := cellAt HB.out.tb 0; have t1 := cellAt HB.out.tb 1; have t2 := cellAt HB.out.tb 2; have t3 := cellAt HB.out.tb 3; have t4 := cellAt HB.out.tb 4; have t5 := cellAt HB.out.tb 5; have t6 := cellAt HB.out.tb 6; have t7 := cellAt HB.out.tb 7; clear g9; have g9 := HB.out.wb.ss.cells q hqk 0 (by omega); simp only [Nat.add_zero] at g9; rw [← HF.out] at g9) | (go_at_call 75; refine (seamR_any _ _ _ _ _ _ _ _ _ (by unfold maxLen; omega)).mono ?_; rintro e w5 ⟨rfl, hb5⟩; replace HB := Lib.hid (HB.out.grow hb5); clear hb5; clear d0 d1 d2 t0 t1 t2 t3 t4 t5 t6 t7; have d0 := cellAt HB.out.wb.box 0; have d1 := cellAt HB.out.wb.box 1; have d2 := cellAt HB.out.wb.box 2; have t0 := cellAt HB.out.tb 0; have t1 := cellAt HB.out.tb 1; have t2 := cellAt HB.out.tb 2; have t3 := cellAt HB.out.tb 3; have t4 := cellAt HB.out.tb 4; have t5 := cellAt HB.out.tb 5; have t6 := cellAt HB.out.tb 6; have t7 := cellAt HB.out.tb 7; clear g9; have g9 := HB.out.wb.ss.cells q hqk 0 (by omega); simp only [Nat.add_zero] at g9; rw [← HF.out] at g9) | (go_at_call 76; refine (spanR_any _ _ _ _ (by omega)).mono ?_; rintro e w5 ⟨rfl, hb5⟩; replace HB := Lib.hid (HB.out.grow hb5); clear hb5; clear d0 d1 d2 t0 t1 t2 t3 t4 t5 t6 t7; have d0 := cellAt HB.out.wb.box 0; have d1 := cellAt HB.out.wb.box 1; have d2 := cellAt HB.out.wb.box 2; have t0 := cellAt HB.out.tb 0; have t1 := cellAt HB.out.tb 1; have t2 := cellAt HB.out.tb 2; have t3 := cellAt HB.out.tb 3; have t4 := cellAt HB.out.tb 4; have t5 := cellAt HB.out.tb 5; have t6 := cellAt HB.out.tb 6; have t7 := cellAt HB.out.tb 7; clear g9; have g9 := HB.out.wb.ss.cells q hqk 0 (by omega); simp only [Nat.add_zero] at g9; rw [← HF.out] at g9))
      go_ret
      exact ⟨ret_bool hnv.out, HB.out.wb.bel⟩
     have HZ := Lib.hid (show okTk cr k S (T i) = true by rw [HX2.out, e4, e5]; rfl)
     go_wp2_with (first | (go_at_call 73; refine (in73_any _ _ _ _).mono ?_; rintro e w' ⟨rfl, rfl⟩) | (go_at_call 74; refine (crewR_any _ _ _ _ _ _ _ _ _ (by omega) (by omega)).mono ?_; rintro e w5 ⟨rfl, hb5⟩; replace HB := Lib.hid (HB.out.grow hb5); clear hb5; clear d0 d1 d2 t0 t1 t2 t3 t4 t5 t6 t7; have d0 := cellAt HB.out.wb.box 0; have d1 := cellAt HB.out.wb.box 1; have d2 := cellAt HB.out.wb.box 2; have t0 := cellAt HB.out.tb 0; have t1 := cellAt HB.out.tb 1; have t2 := cellAt HB.out.tb 2; have t3 := cellAt HB.out.tb 3; have t4 := cellAt HB.out.tb 4; have t5 := cellAt HB.out.tb 5; have t6 := cellAt HB.out.tb 6; have t7 := cellAt HB.out.tb 7; clear g9; have g9 := HB.out.wb.ss.cells q hqk 0 (by omega); simp only [Nat.add_zero] at g9; rw [← HF.out] at g9) | (go_at_call 75; refine (seamR_any _ _ _ _ _ _ _ _ _ (by unfold maxLen; omega)).mono ?_; rintro e w5 ⟨rfl, hb5⟩; replace HB := Lib.hid (HB.out.grow hb5); clear hb5; clear d0 d1 d2 t0 t1 t2 t3 t4 t5 t6 t7; have d0 := cellAt HB.out.wb.box 0; have d1 := cellAt HB.out.wb.box 1; have d2 := cellAt HB.out.wb.box 2; have t0 := cellAt HB.out.tb 0; have t1 := cellAt HB.out.tb 1; have t2 := cellAt HB.out.tb 2; have t3 := cellAt HB.out.tb 3; have t4 := cellAt HB.out.tb 4; have t5 := cellAt HB.out.tb 5; have t6 := cellAt HB.out.tb 6; have t7 := cellAt HB.out.tb 7; clear g9; have g9 := HB.out.wb.ss.cells q hqk 0 (by omega); simp only [Nat.add_zero] at g9; rw [← HF.out] at g9) | (go_at_call 76; refine (spanR_any _ _ _ _ (by omega)).mono ?_; rintro e w5 ⟨rfl, hb5⟩; replace HB := Lib.hid (HB.out.grow hb5); clear hb5; clear d0 d1 d2 t0 t1 t2 t3 t4 t5 t6 t7; have d0 := cellAt HB.out.wb.box 0; have d1 := cellAt HB.out.wb.box 1; have d2 := cellAt HB.out.wb.box 2; have t0 := cellAt HB.out.tb 0; have t1 := cellAt HB.out.tb 1; have t2 := cellAt HB.out.tb 2; have t3 := cellAt HB.out.tb 3; have t4 := cellAt HB.out.tb 4; have t5 := cellAt HB.out.tb 5; have t6 := cellAt HB.out.tb 6; have t7 := cellAt HB.out.tb 7; clear g9; have g9 := HB.out.wb.ss.cells q hqk 0 (by omega); simp only [Nat.add_zero] at g9; rw [← HF.out] at g9))
     refine ⟨⟨i + 1, hlt2, by go_num, fun j hj => ?_, HB.out.wb⟩, by simp [intOf]; omega⟩
     by_cases e : j = i
     ·rw [e]; exact HZ.out
     ·exact HO2.out j (by omega)
    ·obtain rfl : i = tn := by omega
     have hv := Lib.hid (wages_yes HY.out HO.out HO2.out)
     obtain ⟨-, -, b2⟩ := HI.out.cells
     go_wp2_with fail
     go_ret
     exact ⟨ret_bool hv.out, HI.out.bel⟩
theorem run_max10 {P : Program} (w : World) (ts : Array TypeId) (t : TypeId) (a b c d e f g h i j : Int) :
  (Builtin.max_ ts t #[.int .i64 a, .int .i64 b, .int .i64 c, .int .i64 d, .int .i64 e, .int .i64 f, .int .i64 g, .int .i64 h, .int .i64 i, .int .i64 j]).run P w = .ok (.int .i64 (max (max (max (max (max (max (max (max (max a b) c) d) e) f) g) h) i) j)) w := by
 have k : ∀ x y : Int, (if y > x then y else x) = max x y := fun x y => by
  rw [Int.max_def]
  split <;> split <;> omega
 simp only [gt_iff_lt] at k
 simp [Builtin.max_, Builtin.max2, k]
structure FI (w : World) (b : Nat) (f : Int) (oa ma ka ca : Option Addr) (on oc mn mc kn kc cn cc : Nat) (op sp : Nat → Option Addr) (ol ok sl sk : Nat → Nat) (W : World) : Prop where
 bel : Below w.heap.size w W
 bx : BoxAt W b #[.int .i64 f, .slice oa on oc, .slice ma mn mc, .slice ka kn kc, .slice ca cn cc] 34
 o : SlicesAt W oa on op ol ok
 s : SlicesAt W ka kn sp sl sk
set_option maxRecDepth 100000 in
set_option maxHeartbeats 2000000 in
theorem far12_any (sa ua fa qa oa ma ka ca wa ta : Option Addr) (sn sc un uc fn fc qn qc on oc mn mc kn kc cn cc wn wc tn tc : Nat) (hr fr pe f cr : Int) (op sp : Nat → Option Addr) (ol ok sl sk : Nat → Nat) (w : World) (hO : SlicesAt w oa on op ol ok) (hK : SlicesAt w ka kn sp sl sk) :
  Calls Tryz.prog 12 #[.agg #[.slice sa sn sc, .slice ua un uc], .agg #[.int .i64 hr, .int .i64 fr, .int .i64 pe, .slice fa fn fc, .slice qa qn qc], .agg #[.int .i64 f, .slice oa on oc, .slice ma mn mc, .slice ka kn kc, .slice ca cn cc], .agg #[.int .i64 cr, .slice wa wn wc, .slice ta tn tc]] w fun e w' => (∃ b : Bool, e = .returned (.bool b)) ∧ Below w.heap.size w w' := by
 have ho := hO.small
 have hk := hK.small
 unfold maxLen at ho hk
 obtain ⟨z, hz⟩ : ∃ z : Int, ∀ (W : World) (ts : Array TypeId) (t : TypeId), (Builtin.max_ ts t #[.int .i64 (sn : Nat), .int .i64 (un : Nat), .int .i64 (fn : Nat), .int .i64 (qn : Nat), .int .i64 (on : Nat), .int .i64 (mn : Nat), .int .i64 (kn : Nat), .int .i64 (cn : Nat), .int .i64 (wn : Nat), .int .i64 (tn : Nat)]).run Tryz.prog W = .ok (.int .i64 z) W :=
  ⟨_, fun W ts t => run_max10 (P := Tryz.prog) W ts t (sn : Nat) (un : Nat) (fn : Nat) (qn : Nat) (on : Nat) (mn : Nat) (kn : Nat) (cn : Nat) (wn : Nat) (tn : Nat)⟩
 go_enter Tryz.func12, Tryz.ntmps12
 go_upto_region 1 with (fail)
 generalize hW : World.alloc _ _ = W0
 obtain ⟨z0, z1, z2, z3, -, hB⟩ := blocks4 hW
 have I0 := Lib.hid (show FI w (w.heap.size + 1 + 1) f oa ma ka ca on oc mn mc kn kc cn cc op sp ol ok sl sk W0 from ⟨hB, z2, Row.grow hO hB, Row.grow hK hB⟩)
 have a0 := cellAt z0 0
 have a1 := cellAt z0 1
 have a2 := cellAt z1 3
 have a3 := cellAt z1 4
 have a4 := cellAt z2 1
 have a5 := cellAt z2 2
 have a6 := cellAt z2 3
 have a7 := cellAt z2 4
 have a8 := cellAt z3 1
 have a9 := cellAt z3 2
 simp only [List.getElem?_toArray, List.getElem?_cons_zero, List.getElem?_cons_succ] at a0 a1 a2 a3 a4 a5 a6 a7 a8 a9
 clear hW z0 z1 z2 z3 hB hO hK
 go_upto_region 2 with (fail)
 clear hz a0 a1 a2 a3 a4 a5 a6 a7 a8 a9
 have a4 := cellAt I0.out.bx 1
 simp only [List.getElem?_toArray, List.getElem?_cons_zero, List.getElem?_cons_succ] at a4
 go_wp2_with fail
 go_loop [9, 48] (fun m i => ∃ (k : Nat) (y : Int), k ≤ on ∧ i = .int .i64 k ∧ m = .int .i64 y) (fun _ i => on - (intOf i).toNat)
 case atStart => exact ⟨0, z, Nat.zero_le _, rfl, rfl⟩
 case round =>
  obtain ⟨k, y, hk1, rfl, rfl⟩ := hrel
  by_cases hlt : k < on
  ·have hi := fun W => run_indexAt_row (w := W) (cap := oc) owners30 size26 (I0.out.o.plain (by omega)) hlt
   have c0 := I0.out.o.cells k hlt 0 (by omega)
   simp only [Nat.add_zero, Nat.mul_one] at c0
   go_wp2_with fail
   exact ⟨⟨k + 1, _, hlt, by go_num, rfl⟩, by simp [intOf]; omega⟩
  ·obtain rfl : k = on := by omega
   have a6 := cellAt I0.out.bx 3
   simp only [List.getElem?_toArray, List.getElem?_cons_zero, List.getElem?_cons_succ] at a6
   go_wp2_with fail
   go_loop [9, 60] (fun m i => ∃ (j : Nat) (y : Int), j ≤ kn ∧ i = .int .i64 j ∧ m = .int .i64 y) (fun _ i => kn - (intOf i).toNat)
   case atStart => exact ⟨0, y, Nat.zero_le _, rfl, rfl⟩
   case round =>
    obtain ⟨j, y2, hj, rfl, rfl⟩ := hrel
    by_cases hlt2 : j < kn
    ·have hi := fun W => run_indexAt_row (w := W) (cap := kc) strakes31 size85 (I0.out.s.plain (by omega)) hlt2
     have c0 := I0.out.s.cells j hlt2 0 (by omega)
     simp only [Nat.add_zero, Nat.mul_one] at c0
     go_wp2_with fail
     exact ⟨⟨j + 1, _, hlt2, by go_num, rfl⟩, by simp [intOf]; omega⟩
    ·obtain rfl : j = kn := by omega
     go_wp2_with fail
     exact bodyPost_ret (v := .bool (decide (40 < y2))) (by simp [results, Tryz.results12, go_sem]) rfl ⟨by cases decide (40 < y2) <;> simp, I0.out.bel⟩
theorem WagesOk.small {cr : Int} {S : Nat → Nat → Int} {sn : Nat} {T : Nat → Nat → Int} {tn : Nat} (h : WagesOk cr S sn T tn) : SmallW (wagesV cr S sn T tn) where
 cr := by have := h.hcr; show cr.toNat ≤ 1000; omega
 sn := by have := h.hsn; show sn ≤ 100; omega
 tn := by have := h.htn; show tn ≤ 100; omega
 s := fun i hi => by have := h.s i hi; show (S i 0).toNat ≤ 1000 ∧ (S i 1).toNat ≤ 1000; omega
 t := fun i hi => by have := h.t i hi; have := h.hcr; have := h.hsn; show (T i 0).toNat ≤ 1000 ∧ (T i 1).toNat ≤ 1000; omega
 pre := h.pre
end Go.Proofs.YtclbmlmlhiiaeaaGreatDoor
