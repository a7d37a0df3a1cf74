/-
  Plain laws: bounds of coins.
-/
import Derived.Test.YtbpeamppkdmdcaaP4
import Derived.Test.YtbpeamppkdmdcaaG9
namespace Go.Proofs.Ytbpeamppkdmdcaa
open Go.RowKit

theorem coinsOf_bdY {cr : Int} {sn tn : Nat} {S : Nat → Sm} {T : Nat → Tk} (hv : Valid cr sn tn S T) (K : Nat → Kn) (c : Int) {s : Nat} (hs : s ≤ sn) : 0 ≤ coinsOf S T K s tn c ∧ coinsOf S T K s tn c ≤ 3000000 := by
  have h := sumF_bd (fun s => (manyOf S T K tn s c : Int) * (S s).rate) sn (fun i hi => by
    have h1 := many_le (S := S) (T := T) (K := K) (tn := tn) (c := c) (s := i) (hv.fat i hi).1
    have h2 := hv.fat i hi
    have h3 := hv.rate i hi
    have h4 : 0 ≤ (manyOf S T K tn i c : Int) * (S i).rate := Int.mul_nonneg (by omega) h3.1
    have h5 : (manyOf S T K tn i c : Int) * (S i).rate ≤ 20 * 50 := Int.mul_le_mul (by omega) h3.2 h3.1 (by decide)
    omega) s hs
  have := hv.sn3
  unfold coinsOf
  omega
theorem term_bdY {a : Int} {r : Int} (ha : 0 ≤ a ∧ a ≤ 20) (hr : 0 ≤ r ∧ r ≤ 50) : 0 ≤ a * r ∧ a * r ≤ 1000 :=
  ⟨Int.mul_nonneg ha.1 hr.1, Int.le_trans (Int.mul_le_mul ha.2 hr.2 hr.1 (by decide)) (by decide)⟩
theorem sumF_bdMY {F : Nat → Int} {M : Int} (h : ∀ i, 0 ≤ F i ∧ F i ≤ M) : ∀ n : Nat, 0 ≤ sumF F n ∧ sumF F n ≤ M * n
  | 0 => by simp [sumF]
  | n + 1 => by
    have := sumF_bdMY h n
    have := h n
    have e : M * ((n + 1 : Nat) : Int) = M * n + M := by rw [Int.natCast_succ, Int.mul_add, Int.mul_one]
    simp only [sumF]
    omega
end Go.Proofs.Ytbpeamppkdmdcaa
