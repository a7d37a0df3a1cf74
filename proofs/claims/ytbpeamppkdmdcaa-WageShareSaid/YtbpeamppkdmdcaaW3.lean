/-
  Walks: counting the bits of a set of fathoms.
-/
import Derived.Test.YtbpeamppkdmdcaaW1
import Derived.Test.YtbpeamppkdmdcaaM1
import Derived.KernelRfl
namespace Go.Proofs.Ytbpeamppkdmdcaa
open Go.RowKit

/-- The library's table of bit counts, as the walk meets it: in four pieces. -/
theorem fold_pieces : (⟨(([0, 1, 1, 2, 1, 2, 2, 3, 1, 2, 2, 3, 2, 3, 3, 4, 1, 2, 2, 3, 2, 3, 3, 4, 2, 3, 3, 4, 3, 4, 4, 5, 1, 2, 2, 3, 2, 3, 3, 4, 2, 3, 3, 4, 3, 4, 4, 5, 2, 3, 3, 4, 3, 4, 4, 5, 3, 4, 4, 5, 4, 5, 5, 6].append [1, 2, 2, 3, 2, 3, 3, 4, 2, 3, 3, 4, 3, 4, 4, 5, 2, 3, 3, 4, 3, 4, 4, 5, 3, 4, 4, 5, 4, 5, 5, 6, 2, 3, 3, 4, 3, 4, 4, 5, 3, 4, 4, 5, 4, 5, 5, 6, 3, 4, 4, 5, 4, 5, 5, 6, 4, 5, 5, 6, 5, 6, 6, 7]).append ([1, 2, 2, 3, 2, 3, 3, 4, 2, 3, 3, 4, 3, 4, 4, 5, 2, 3, 3, 4, 3, 4, 4, 5, 3, 4, 4, 5, 4, 5, 5, 6, 2, 3, 3, 4, 3, 4, 4, 5, 3, 4, 4, 5, 4, 5, 5, 6, 3, 4, 4, 5, 4, 5, 5, 6, 4, 5, 5, 6, 5, 6, 6, 7].append [2, 3, 3, 4, 3, 4, 4, 5, 3, 4, 4, 5, 4, 5, 5, 6, 3, 4, 4, 5, 4, 5, 5, 6, 4, 5, 5, 6, 5, 6, 6, 7, 3, 4, 4, 5, 4, 5, 5, 6, 4, 5, 5, 6, 5, 6, 6, 7, 4, 5, 5, 6, 5, 6, 6, 7, 5, 6, 6, 7, 6, 7, 7, 8])).toArray⟩ : ByteArray) = Lib.pop8tab := by kernel_rfl
attribute [local go_sem high] fold_pieces

theorem low8 (a : Int) (h0 : 0 ≤ a) (h1 : a < 4294967296) : ∃ x : Int, bits .and .u32 a 255 = x ∧ 0 ≤ x ∧ x ≤ 255 ∧ x = a % 256 := by
  obtain ⟨a, rfl⟩ := Int.eq_ofNat_of_zero_le h0
  have h := u32_and_nat a 255 (by omega) (by omega)
  refine ⟨_, h, by omega, Int.ofNat_le.2 Nat.and_le_right, ?_⟩
  have : a &&& 255 = a % 256 := Nat.and_two_pow_sub_one_eq_mod a 8
  rw [this]
  omega

set_option maxRecDepth 100000 in
set_option maxHeartbeats 1600000 in
theorem ones_any (m : Nat) (w : World) (hm : m < 1048576) :
    Calls Try.prog 103 #[.int .u32 m] w fun e w' => e = .returned (.int .i64 (popc m)) ∧ ∃ n, w' = w.drewN n := by
  obtain ⟨x0, h0, p0, q0, e0⟩ := low8 (m : Int) (by omega) (by omega)
  obtain ⟨x8, h8, p8, q8, e8⟩ := low8 ((m : Int) / 256) (by omega) (by omega)
  obtain ⟨x16, h16, p16, q16, e16⟩ := low8 ((m : Int) / 65536) (by omega) (by omega)
  have z24 : (m : Int) / 16777216 = 0 := by omega
  go_enter Try.func103, Try.ntmps103
  go_wp2_with fail
  go_quiet (fail)
  go_wp2
  go_ret
  exact ⟨ret_int (popc_bytes m hm), _, rfl⟩

set_option maxHeartbeats 400000 in
theorem count_any (m : Nat) (w : World) (hm : m < 1048576) :
    Calls Try.prog 93 #[.int .u32 m] w fun e w' => e = .returned (.int .i64 (popc m)) ∧ ∃ n, w' = w.drewN n := by
  go_enter Try.func93, Try.ntmps93
  go_wp2_with (go_at_call 103; refine (ones_any _ _ hm).mono ?_; rintro e w' ⟨rfl, n, rfl⟩)
  go_ret
  exact ⟨rfl, _, rfl⟩
end Go.Proofs.Ytbpeamppkdmdcaa
