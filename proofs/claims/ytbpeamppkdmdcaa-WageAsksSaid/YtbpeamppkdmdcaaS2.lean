/-
  Plain law: what is said of coins that are shared out.
-/
import Derived.Test.YtbpeamppkdmdcaaS1
namespace Go.Proofs.Ytbpeamppkdmdcaa
open Go.RowKit

theorem sumF_le {F G : Nat → Int} : ∀ n, (∀ k, k < n → F k ≤ G k) → sumF F n ≤ sumF G n
  | 0, _ => Int.le_refl _
  | n + 1, h => by
    have := sumF_le n (fun k hk => h k (by omega))
    have := h n (by omega)
    simp only [sumF]
    omega
theorem sumF_lt {F G : Nat → Int} {i : Nat} : ∀ n, i < n → (∀ k, k < n → F k ≤ G k) → F i < G i → sumF F n < sumF G n
  | 0, hi, _, _ => by omega
  | n + 1, hi, h, hlt => by
    simp only [sumF]
    by_cases e : i = n
    · subst e
      have := sumF_le i (fun k hk => h k (by omega))
      omega
    · have := sumF_lt n (by omega) (fun k hk => h k (by omega)) hlt
      have := h n (by omega)
      omega
theorem sumF_mul (a : Int) (F : Nat → Int) : ∀ n, sumF (fun k => a * F k) n = a * sumF F n
  | 0 => by simp [sumF]
  | n + 1 => by simp only [sumF]; rw [sumF_mul a F n, Int.mul_add]
theorem sumF_mulr (a : Int) (F : Nat → Int) : ∀ n, sumF (fun k => F k * a) n = sumF F n * a
  | 0 => by simp [sumF]
  | n + 1 => by simp only [sumF]; rw [sumF_mulr a F n, Int.add_mul]
theorem sumF_sub (F G : Nat → Int) : ∀ n, sumF (fun k => F k - G k) n = sumF F n - sumF G n
  | 0 => rfl
  | n + 1 => by simp only [sumF]; rw [sumF_sub F G n]; omega
theorem sumF_nn {F : Nat → Int} : ∀ n, (∀ k, k < n → 0 ≤ F k) → 0 ≤ sumF F n
  | 0, _ => Int.le_refl _
  | n + 1, h => by
    have := sumF_nn n (fun k hk => h k (by omega))
    have := h n (by omega)
    simp only [sumF]
    omega
theorem sumF_pos {F : Nat → Int} {i : Nat} (n : Nat) (hi : i < n) (h : ∀ k, k < n → 0 ≤ F k) (hp : 0 < F i) : 0 < sumF F n := by
  have := sumF_lt (F := fun _ => 0) (G := F) n hi h hp
  rwa [sumF_zero] at this
theorem sumF_allzero {F : Nat → Int} : ∀ n, (∀ k, k < n → F k = 0) → sumF F n = 0
  | 0, _ => rfl
  | n + 1, h => by simp only [sumF]; rw [sumF_allzero n (fun k hk => h k (by omega)), h n (by omega)]; rfl

theorem men_iff {sh : Nat → Int} {n : Nat} (hs : ∀ i, i < n → 0 ≤ sh i) : 0 < (menL sh n).length ↔ 0 < sumF sh n := by
  constructor
  · intro h
    obtain ⟨h1, h2⟩ := menF_mem (sh := sh) (n := n) h
    exact sumF_pos n h1 hs h2
  · intro h
    rcases Nat.eq_zero_or_pos (menL sh n).length with e | e
    · exfalso
      have : sumF sh n = 0 := sumF_allzero n fun k hk => by
        by_cases hp : 0 < sh k
        · obtain ⟨j, hj, _⟩ := menF_onto hk hp
          omega
        · have := hs k hk; omega
      omega
    · exact e

/-- What is said of coins that are shared out: N coins, all shares' sum A. -/
structure Shared (sh : Nat → Int) (n : Nat) (N : Int) (l : Nat → Int) : Prop where
  nn : ∀ i, 0 ≤ l i
  zero : ∀ i, i < n → sh i = 0 → l i = 0
  best : ∀ i k, i < n → k < n → 0 < l i → sh k * l i ≤ sh i * (l k + 1)
  tie : ∀ i k, i < k → k < n → sh i = sh k → l k ≤ l i
  sum : 0 < sumF sh n → sumF l n = N
  none : sumF sh n = 0 → sumF l n = 0
theorem shared_of {sh : Nat → Int} {n : Nat} (hs : ∀ i, i < n → 0 ≤ sh i) (c : Nat) : Shared sh n c (shareF sh n c) := by
  by_cases hm : (menL sh n).length = 0
  · have e : shareF sh n c = fun _ => 0 := by funext i; simp [shareF, hm]
    rw [e]
    refine ⟨fun _ => Int.le_refl _, fun _ _ _ => rfl, fun i k _ _ h => by simp at h, fun _ _ _ _ _ => Int.le_refl _, fun h => ?_, fun _ => sumF_zero n⟩
    have := (men_iff hs).2 h
    omega
  · have e : shareF sh n c = ownK sh n c := by funext i; simp [shareF, hm]
    rw [e]
    have f := fair_own (by omega) hs c
    exact ⟨f.nn, f.zero, f.best, f.tie, fun _ => f.sum, fun h => by have := (men_iff hs).1 (by omega); omega⟩

theorem Shared.more {sh : Nat → Int} {n : Nat} {N : Int} {l : Nat → Int} (h : Shared sh n N l) (hs : ∀ i, i < n → 0 ≤ sh i) {i k : Nat} (hi : i < n) (hk : k < n) (hlt : sh k < sh i) : l k ≤ l i := by
  rcases Int.lt_or_le (l i) (l k) with hh | hh
  · exfalso
    have h1 := h.best k i hk hi (by have := h.nn i; omega)
    have h2 : sh k * (l i + 1) ≤ sh k * l k := Int.mul_le_mul_of_nonneg_left (by omega) (hs k hk)
    have h3 : sh k * l k < sh i * l k := Int.mul_lt_mul_of_pos_right hlt (by have := h.nn i; omega)
    omega
  · exact hh
theorem Shared.near {sh : Nat → Int} {n : Nat} {N : Int} {l : Nat → Int} (h : Shared sh n N l) (hs : ∀ i, i < n → 0 ≤ sh i) {i k : Nat} (hi : i < n) (hk : k < n) (he : sh k = sh i) : l i ≤ l k + 1 := by
  rcases Int.lt_or_le (l k + 1) (l i) with hh | hh
  · exfalso
    have hp : 0 < l i := by have := h.nn k; omega
    have h1 := h.best i k hi hk hp
    rw [he] at h1
    have h0 : 0 < sh i := by
      rcases Int.lt_or_le 0 (sh i) with h0 | h0
      · exact h0
      · have := h.zero i hi (by have := hs i hi; omega); omega
    have := Int.le_of_mul_le_mul_left h1 h0
    omega
  · exact hh
theorem Shared.quota {sh : Nat → Int} {n : Nat} {N : Int} {l : Nat → Int} (h : Shared sh n N l) (hs : ∀ i, i < n → 0 ≤ sh i) {i : Nat} (hi : i < n) (hA : 0 < sumF sh n) : N * sh i / sumF sh n ≤ l i := by
  rcases Int.lt_or_le (l i) (N * sh i / sumF sh n) with hh | hh
  · exfalso
    by_cases h0 : sh i = 0
    · rw [h0, Int.mul_zero, Int.zero_ediv] at hh
      have := h.nn i; omega
    · have hp : 0 < sh i := by have := hs i hi; omega
      have h1 : (l i + 1) * sumF sh n ≤ N * sh i := (Int.le_ediv_iff_mul_le hA).1 (by omega)
      have h2 : sumF (fun k => sh i * l k) n < sumF (fun k => sh k * (l i + 1)) n := by
        refine sumF_lt n hi (fun k hk => ?_) (Int.mul_lt_mul_of_pos_left (by omega) hp)
        rcases Int.lt_or_le 0 (l k) with hk0 | hk0
        · exact h.best k i hk hi hk0
        · have : l k = 0 := by have := h.nn k; omega
          rw [this, Int.mul_zero]
          exact Int.mul_nonneg (hs k hk) (by have := h.nn i; omega)
      rw [sumF_mul, sumF_mulr, h.sum hA, Int.mul_comm (sh i), Int.mul_comm (sumF sh n)] at h2
      omega
  · exact hh

theorem step_share {sh : Nat → Int} {n : Nat} (c i : Nat) : shareF sh n c i ≤ shareF sh n (c + 1) i ∧ shareF sh n (c + 1) i ≤ shareF sh n c i + 1 := by
  unfold shareF
  split
  · omega
  · rw [ownK_succ]
    split <;> omega
theorem grown_share {sh : Nat → Int} {n : Nat} (hs : ∀ i, i < n → 0 ≤ sh i) (c : Nat) : sumF (fun i => shareF sh n (c + 1) i - shareF sh n c i) n = if 0 < sumF sh n then 1 else 0 := by
  rw [sumF_sub]
  have h1 := shared_of hs c
  have h2 := shared_of hs (c + 1)
  split
  · rename_i h
    rw [h1.sum h, h2.sum h]
    omega
  · rename_i h
    have h0 : sumF sh n = 0 := by have := sumF_nn n hs; omega
    rw [h1.none h0, h2.none h0]
    rfl
end Go.Proofs.Ytbpeamppkdmdcaa
