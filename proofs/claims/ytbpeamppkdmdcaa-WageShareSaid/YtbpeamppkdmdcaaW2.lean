/-
  Walks: comparing, and the insertion sort of the tickets' numbers.
-/
import Derived.Test.YtbpeamppkdmdcaaW1
namespace Go.Proofs.Ytbpeamppkdmdcaa
open Go.RowKit

def cmpI (a b : Int) : Int := if a < b then -1 else if b < a then 1 else 0
theorem cmpI_lt {a b : Int} : cmpI a b < 0 ↔ a < b := by unfold cmpI; split <;> (try split) <;> omega

set_option maxHeartbeats 400000 in
theorem isNaN_any (a : Int) (w : World) : Calls Try.prog 102 #[.int .i64 a] w fun e w' => e = .returned (.bool false) ∧ w = w' := by
  go_enter Try.func102, Try.ntmps102
  go_wp2
  go_ret
  exact ⟨ret_bool (by simp), rfl⟩

set_option maxHeartbeats 400000 in
theorem compare_any (a b : Int) (w : World) : Calls Try.prog 87 #[.int .i64 a, .int .i64 b] w fun e w' => e = .returned (.int .i64 (cmpI a b)) ∧ w = w' := by
  by_cases h : a < b
  · have hx := Lib.hid (show cmpI a b = -1 by simp [cmpI, h])
    go_enter Try.func87, Try.ntmps87
    go_wp2_with (go_at_call 102; refine (isNaN_any _ _).mono ?_; rintro e w' ⟨rfl, rfl⟩)
    go_ret
    exact ⟨ret_int hx.out.symm, rfl⟩
  · by_cases h' : b < a
    · have hx := Lib.hid (show cmpI a b = 1 by simp [cmpI, h, h'])
      go_enter Try.func87, Try.ntmps87
      go_wp2_with (go_at_call 102; refine (isNaN_any _ _).mono ?_; rintro e w' ⟨rfl, rfl⟩)
      go_ret
      exact ⟨ret_int hx.out.symm, rfl⟩
    · have hx := Lib.hid (show cmpI a b = 0 by simp [cmpI, h, h'])
      go_enter Try.func87, Try.ntmps87
      go_wp2_with (go_at_call 102; refine (isNaN_any _ _).mono ?_; rintro e w' ⟨rfl, rfl⟩)
      go_ret
      exact ⟨ret_int hx.out.symm, rfl⟩

/-- The array of known tickets: 6 of 3 cells each, from the block's beginning on; number i has the tide 'k i'. -/
def Tides (w : World) (b : Nat) (k : Nat → Int) : Prop := ∀ i, i < 6 → w.cell? ⟨b, i * 3 + 2, none⟩ = some (.int .i64 (k i))

set_option maxHeartbeats 400000 in
theorem less_any (b : Nat) (k : Nat → Int) (x y : Nat) (hx : x < 6) (hy : y < 6) (w : World) (h : Tides w b k) :
    Calls Try.prog 96 #[.int .i64 x, .int .i64 y, .pointer (some ⟨b, 0, none⟩)] w fun e w' => e = .returned (.int .i64 (cmpI (k x) (k y))) ∧ ∃ n, w' = w.drewN n := by
  have h1 := h x hx
  have h2 := h y hy
  have x0 : (0 : Int) ≤ (x : Int) := by omega
  have y0 : (0 : Int) ≤ (y : Int) := by omega
  have x1 : (x : Int) < 6 := by omega
  have y1 : (y : Int) < 6 := by omega
  go_enter Try.func96, Try.ntmps96
  go_wp2_with fail
  go_quiet ((go_at_call 87; exact Calls.quiet_of_same ((compare_any _ _ _).mono fun _ _ h => ⟨h.1, h.2.symm⟩)))
  go_wp2
  go_ret

  exact ⟨rfl, _, rfl⟩
end Go.Proofs.Ytbpeamppkdmdcaa
