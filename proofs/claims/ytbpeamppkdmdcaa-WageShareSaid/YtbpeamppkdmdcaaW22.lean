/-
  Walks: the library's cmp.Or, at two numbers.
-/
import Derived.Test.YtbpeamppkdmdcaaW20
namespace Go.Proofs.Ytbpeamppkdmdcaa
open Go.RowKit

def or2 (f : Nat → Int) : Int := if f 0 = 0 then f 1 else f 0

def OrR (f : Nat → Int) (w : World) (i : Value) (wr : World) : Prop := ∃ k : Nat, k ≤ 2 ∧ i = .int .i64 k ∧ (∀ j, j < k → f j = 0) ∧ wr = w

set_option maxRecDepth 100000 in
set_option maxHeartbeats 1000000 in
theorem or2_any (oa : Option Addr) (cap : Nat) (f : Nat → Int) (w : World) (hl : IntsAt w oa 2 f) :
    Calls Try.prog 86 #[.slice oa 2 cap] w fun e w' => e = .returned (.int .i64 (or2 f)) ∧ w = w' := by
  have HL := Lib.hid hl
  clear hl
  go_enter Try.func86, Try.ntmps86
  go_wp2_with fail
  go_loopw [8] (OrR f w) (fun i _ => 2 - (intOf i).toNat)
  case atStart => exact ⟨0, Nat.zero_le _, rfl, fun j hj => by omega, rfl⟩
  case round =>
    obtain ⟨k, hk, rfl, hok, rfl⟩ := hrel
    have HO := Lib.hid hok
    clear hok
    by_cases hlt : k < 2
    · have hi := fun w => run_indexAt_row (w := w) (cap := cap) Try.underlying37 size3 (HL.out.plain (by omega)) hlt
      have hc := HL.out.at hlt
      simp only [Nat.mul_one] at hi
      have hz : (f k != 0) = false ∨ (f k != 0) = true := by cases (f k != 0) <;> simp
      rcases hz with z | z
      · go_wp2_with fail
        refine ⟨⟨k + 1, hlt, by go_num, fun j hj => ?_, rfl⟩, by simp [intOf]; omega⟩
        by_cases e : j = k
        · rw [e]; simpa using z
        · exact HO.out j (by omega)
      · have z' : f k ≠ 0 := by simpa using z
        have ho : or2 f = f k := by
          unfold or2
          obtain rfl | rfl : k = 0 ∨ k = 1 := by omega
          · simp [z']
          · rw [if_pos (HO.out 0 (by omega))]
        have HZ := Lib.hid ho
        clear z' ho
        go_wp2_with fail
        go_ret
        exact ⟨by rw [HZ.out]; rfl, rfl⟩
    · obtain rfl : k = 2 := by omega
      have ho : or2 f = 0 := by unfold or2; rw [if_pos (HO.out 0 (by omega))]; exact HO.out 1 (by omega)
      have HZ := Lib.hid ho
      clear ho
      go_wp2_with fail
      go_ret
      exact ⟨by rw [HZ.out]; rfl, rfl⟩
end Go.Proofs.Ytbpeamppkdmdcaa
