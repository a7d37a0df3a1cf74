/-
  Walks: what else the exported functions ask of wages (the closures).
-/
import Derived.Test.YtbpeamppkdmdcaaW11
namespace Go.Proofs.Ytbpeamppkdmdcaa
open Go.RowKit

/-- A box's address. -/
abbrev bp (b : Nat) : Value := .pointer (some ⟨b, 0, none⟩)

/-- Two stretches of a walk. -/
theorem _root_.Go.RowKit.Below.next {a b c : World} (h : Below a.heap.size a b) (k : Below b.heap.size b c) : Below a.heap.size a c := h.trans (k.mono h.size)

set_option maxHeartbeats 400000 in
theorem paid1_any (cr : Int) (sa ta : Option Addr) (sn sc tn tc : Nat) (w : World) :
    Calls Try.prog 69 #[.agg #[.int .i64 cr, .slice sa sn sc, .slice ta tn tc]] w fun e w' => e = .returned (.bool true) ∧ Below w.heap.size w w' := by
  go_enter Try.func69, Try.ntmps69
  go_wp2_with fail
  go_ret
  exact ⟨rfl, (Below.refl _ _).alloc (Nat.le_refl _) _⟩

set_option maxHeartbeats 800000 in
theorem due1_any (cr : Int) (sa ta : Option Addr) (sn sc tn tc : Nat) (c : Int) (b : Nat) (w : World) (h0 : -1000000 ≤ cr) (h1 : cr ≤ 1000000) (hb : BoxAt w b #[.int .i64 c] 3) :
    Calls Try.prog 66 #[.agg #[.int .i64 cr, .slice sa sn sc, .slice ta tn tc], bp b] w fun e w' => e = .returned (.bool (inB c 0 (cr - 1))) ∧ Below w.heap.size w w' := by
  have c0 := cellAt hb 0
  have hlt := lt_of_heap hb
  simp only [List.getElem?_toArray, List.getElem?_cons_zero] at c0
  clear hb
  go_enter Try.func66, Try.ntmps66
  go_wp2_with (go_at_call 49; refine (isCrew_any _ _ _ _ _ _ _ _ _ h0 h1).mono ?_; rintro e w' ⟨rfl, hb⟩)
  go_ret
  exact ⟨rfl, ((Below.refl _ _).alloc (Nat.le_refl _) _).trans (hb.mono (by simp))⟩

set_option maxHeartbeats 800000 in
theorem ask1_any (cr : Int) (sa ta : Option Addr) (sn sc tn tc : Nat) (c : Int) (b : Nat) (w : World) (h0 : -1000000 ≤ cr) (h1 : cr ≤ 1000000) (hb : BoxAt w b #[.int .i64 c] 3) :
    Calls Try.prog 76 #[.agg #[.int .i64 cr, .slice sa sn sc, .slice ta tn tc], bp b] w fun e w' => e = .returned (.bool (inB c 0 (cr - 1))) ∧ Below w.heap.size w w' := by
  have c0 := cellAt hb 0
  have hlt := lt_of_heap hb
  simp only [List.getElem?_toArray, List.getElem?_cons_zero] at c0
  clear hb
  go_enter Try.func76, Try.ntmps76
  go_wp2_with (go_at_call 49; refine (isCrew_any _ _ _ _ _ _ _ _ _ h0 h1).mono ?_; rintro e w' ⟨rfl, hb⟩)
  go_ret
  exact ⟨rfl, ((Below.refl _ _).alloc (Nat.le_refl _) _).trans (hb.mono (by simp))⟩

set_option maxHeartbeats 800000 in
theorem left1_any (cr : Int) (sa ta : Option Addr) (sn sc tn tc : Nat) (c : Int) (b : Nat) (w : World) (hs : sn ≤ maxLen) (hb : BoxAt w b #[.int .i64 c] 3) :
    Calls Try.prog 55 #[.agg #[.int .i64 cr, .slice sa sn sc, .slice ta tn tc], bp b] w fun e w' => e = .returned (.bool (inB c 0 (sn - 1))) ∧ Below w.heap.size w w' := by
  have c0 := cellAt hb 0
  have hlt := lt_of_heap hb
  simp only [List.getElem?_toArray, List.getElem?_cons_zero] at c0
  clear hb
  go_enter Try.func55, Try.ntmps55
  go_wp2_with (go_at_call 48; refine (isSeam_any _ _ _ _ _ _ _ _ _ hs).mono ?_; rintro e w' ⟨rfl, hb⟩)
  go_ret
  exact ⟨rfl, ((Below.refl _ _).alloc (Nat.le_refl _) _).trans (hb.mono (by simp))⟩

set_option maxHeartbeats 1600000 in
theorem fathoms1_any (cr : Int) (sa ta : Option Addr) (sn sc tn tc : Nat) (s c : Int) (b1 b2 : Nat) (w : World) (h0 : -1000000 ≤ cr) (h1 : cr ≤ 1000000) (hs : sn ≤ maxLen) (hb1 : BoxAt w b1 #[.int .i64 s] 3) (hb2 : BoxAt w b2 #[.int .i64 c] 3) :
    Calls Try.prog 47 #[.agg #[.int .i64 cr, .slice sa sn sc, .slice ta tn tc], bp b1, bp b2] w fun e w' => e = .returned (.bool (inB s 0 (sn - 1) && inB c 0 (cr - 1))) ∧ Below w.heap.size w w' := by
  have c0 := cellAt hb1 0
  have hlt := lt_of_heap hb1
  have hlt2 := lt_of_heap hb2
  simp only [List.getElem?_toArray, List.getElem?_cons_zero] at c0
  have H2 := Lib.hid hb2
  clear hb1 hb2
  have hcases : inB s 0 (sn - 1) = true ∨ inB s 0 (sn - 1) = false := by cases inB s 0 (sn - 1) <;> simp
  rcases hcases with x1 | x1
  · go_enter Try.func47, Try.ntmps47
    go_wp2_with fail
    generalize hW : World.alloc _ _ = W
    obtain ⟨q0, hz, hB⟩ := blocks1 hW
    clear hW hz
    have HB := Lib.hid hB
    have HQ := Lib.hid (show BoxAt W w.heap.size #[.int .i64 cr, .slice sa sn sc, .slice ta tn tc] 77 from q0)
    have HD := Lib.hid (H2.out.grow hB)
    clear hB q0
    go_wp2_with (first | (go_at_call 48; refine (isSeam_any _ _ _ _ _ _ _ _ _ hs).mono ?_; rintro e w1 ⟨rfl, hb⟩; have B1 := Lib.hid hb; have d0 := cellAt (HD.out.grow hb) 0; have q0 := cellAt (HQ.out.grow hb) 0; have q1 := cellAt (HQ.out.grow hb) 1; have q2 := cellAt (HQ.out.grow hb) 2; clear hb; simp only [List.getElem?_toArray, List.getElem?_cons_zero, List.getElem?_cons_succ] at d0 q0 q1 q2) | (go_at_call 49; refine (isCrew_any _ _ _ _ _ _ _ _ _ h0 h1).mono ?_; rintro e w2 ⟨rfl, hb3⟩))
    go_ret
    exact ⟨by rw [x1]; rfl, (HB.out.next B1.out).next hb3⟩
  · go_enter Try.func47, Try.ntmps47
    go_wp2_with (first | (go_at_call 48; refine (isSeam_any _ _ _ _ _ _ _ _ _ hs).mono ?_; rintro e w1 ⟨rfl, hb⟩))
    go_ret
    exact ⟨by rw [x1]; rfl, ((Below.refl _ _).alloc (Nat.le_refl _) _).trans (hb.mono (by simp))⟩

end Go.Proofs.Ytbpeamppkdmdcaa
