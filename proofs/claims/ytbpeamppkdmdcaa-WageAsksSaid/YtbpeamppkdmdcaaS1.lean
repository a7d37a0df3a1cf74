/-
  Plain law: how coins are shared out.
-/
import Derived.Test.YtbpeamppkdmdcaaG7
namespace Go.Proofs.Ytbpeamppkdmdcaa
open Go.RowKit

theorem cmpI_neg {x y : Int} : cmpI x y < 0 ↔ x < y := by unfold cmpI; split <;> (try split) <;> omega
theorem cmpI_zero {x y : Int} : cmpI x y = 0 ↔ x = y := by unfold cmpI; split <;> (try split) <;> omega

/-- a is before b. -/
def bef (sh own : Nat → Int) (a b : Nat) : Prop := sh b * (own a + 1) < sh a * (own b + 1) ∨ (sh b * (own a + 1) = sh a * (own b + 1) ∧ a < b)
theorem before_iff (sh own : Nat → Int) (a b : Nat) : before sh own a b < 0 ↔ bef sh own a b := by
  unfold before bef
  split
  · rename_i h
    have := cmpI_zero.1 h
    rw [cmpI_neg]
    omega
  · rename_i h
    have : ¬ sh b * (own a + 1) = sh a * (own b + 1) := fun e => h (cmpI_zero.2 e)
    rw [cmpI_neg]
    omega

theorem cross {a b c p q r : Int} (hp : 0 < p) (hq : 0 < q) (hr : 0 < r) (h1 : b * p ≤ a * q) (h2 : c * q ≤ b * r) : c * p ≤ a * r := by
  have e1 : b * p * r ≤ a * q * r := Int.mul_le_mul_of_nonneg_right h1 (by omega)
  have e2 : c * q * p ≤ b * r * p := Int.mul_le_mul_of_nonneg_right h2 (by omega)
  have e3 : (c * p) * q ≤ (a * r) * q := by
    have i1 : c * q * p = (c * p) * q := by rw [Int.mul_assoc, Int.mul_comm q p, ← Int.mul_assoc]
    have i2 : a * q * r = (a * r) * q := by rw [Int.mul_assoc, Int.mul_comm q r, ← Int.mul_assoc]
    have i3 : b * p * r = b * r * p := by rw [Int.mul_assoc, Int.mul_comm p r, ← Int.mul_assoc]
    omega
  exact Int.le_of_mul_le_mul_right e3 hq

/-- Not after: the first is at least as good. -/
theorem notbef_trans {sh own : Nat → Int} {a b c : Nat} (ha : 0 < own a + 1) (hb : 0 < own b + 1) (hc : 0 < own c + 1) (h1 : ¬ bef sh own b a) (h2 : ¬ bef sh own c b) : ¬ bef sh own c a := by
  unfold bef at *
  have g1 : sh b * (own a + 1) ≤ sh a * (own b + 1) := by omega
  have g2 : sh c * (own b + 1) ≤ sh b * (own c + 1) := by omega
  have g3 := cross ha hb hc g1 g2
  intro h
  rcases h with h | ⟨h, hlt⟩
  · omega
  · -- equal: both are equal
    have e1 : sh b * (own a + 1) = sh a * (own b + 1) := by
      have g1' : sh a * (own b + 1) ≤ sh b * (own a + 1) := cross hb hc ha g2 (by omega)
      omega
    have e2 : sh c * (own b + 1) = sh b * (own c + 1) := by
      have g2' : sh b * (own c + 1) ≤ sh c * (own b + 1) := cross (a := sh c) (b := sh a) (c := sh b) hc ha hb (by omega) (by omega)
      omega
    omega

theorem minM_best {sh own : Nat → Int} {f : Nat → Nat} (ho : ∀ i, 0 ≤ own i) : ∀ k, ∀ j, j ≤ k → ¬ bef sh own (f j) (minM sh own f k)
  | 0, j, hj => by
    obtain rfl : j = 0 := by omega
    unfold minM bef
    omega
  | k + 1, j, hj => by
    have hp : ∀ i, 0 < own i + 1 := fun i => by have := ho i; omega
    have ih := minM_best ho (f := f) (sh := sh) k
    unfold minM
    split
    · rename_i h
      have hb := (before_iff _ _ _ _).1 h
      have hnb : ¬ bef sh own (minM sh own f k) (f (k + 1)) := by unfold bef at *; omega
      by_cases e : j = k + 1
      · rw [e]; unfold bef; omega
      · exact notbef_trans (hp _) (hp _) (hp _) hnb (ih j (by omega))
    · rename_i h
      by_cases e : j = k + 1
      · rw [e]; exact fun hh => h ((before_iff _ _ _ _).2 hh)
      · exact ih j (by omega)

def rK (sh : Nat → Int) (n c : Nat) : Nat := minM sh (ownK sh n c) (menF sh n) ((menL sh n).length - 1)
theorem ownK_succ (sh : Nat → Int) (n c i : Nat) : ownK sh n (c + 1) i = if i = rK sh n c then ownK sh n c i + 1 else ownK sh n c i := rfl
theorem minM_mem (sh own : Nat → Int) (f : Nat → Nat) : ∀ k, ∃ j, j ≤ k ∧ minM sh own f k = f j
  | 0 => ⟨0, Nat.le_refl _, rfl⟩
  | k + 1 => by
    unfold minM
    split
    · exact ⟨k + 1, Nat.le_refl _, rfl⟩
    · obtain ⟨j, hj, e⟩ := minM_mem sh own f k
      exact ⟨j, by omega, e⟩
theorem menF_mem {sh : Nat → Int} {n j : Nat} (hj : j < (menL sh n).length) : menF sh n j < n ∧ 0 < sh (menF sh n j) := by
  have e : menF sh n j = (menL sh n)[j] := by simp [menF, List.getD_eq_getElem?_getD, hj]
  have h : (menL sh n)[j] ∈ menL sh n := List.getElem_mem hj
  rw [← e] at h
  have h' : menF sh n j ∈ (List.range n).filter fun i => decide (0 < sh i) := h
  simpa [List.mem_filter] using h'
theorem menF_onto {sh : Nat → Int} {n k : Nat} (hk : k < n) (hp : 0 < sh k) : ∃ j, j < (menL sh n).length ∧ menF sh n j = k := by
  have hm : k ∈ menL sh n := by simp [menL, hk, hp]
  obtain ⟨j, hj, e⟩ := List.mem_iff_getElem.1 hm
  exact ⟨j, hj, by simp [menF, List.getD_eq_getElem?_getD, hj, e]⟩
theorem rK_spec {sh : Nat → Int} {n : Nat} (hm : 0 < (menL sh n).length) (hs : ∀ i, i < n → 0 ≤ sh i) (c : Nat) :
    rK sh n c < n ∧ 0 < sh (rK sh n c) ∧ ∀ k, k < n → ¬ bef sh (ownK sh n c) k (rK sh n c) := by
  have ho := fun i => (ownK_bd sh n c i).1
  obtain ⟨j, hj, e⟩ := minM_mem sh (ownK sh n c) (menF sh n) ((menL sh n).length - 1)
  have hr := menF_mem (sh := sh) (n := n) (j := j) (by omega)
  have er : rK sh n c = menF sh n j := e
  refine ⟨by rw [er]; exact hr.1, by rw [er]; exact hr.2, fun k hk => ?_⟩
  by_cases hp : 0 < sh k
  · obtain ⟨j', hj', e'⟩ := menF_onto hk hp
    have := minM_best (sh := sh) ho (f := menF sh n) ((menL sh n).length - 1) j' (by omega)
    rw [e'] at this
    exact this
  · have h0 : sh k = 0 := by have := hs k hk; omega
    have hp' : 0 < sh (rK sh n c) := by rw [er]; exact hr.2
    have h1 := ho k
    have h2 : 0 < sh (rK sh n c) * (ownK sh n c k + 1) := Int.mul_pos hp' (by omega)
    unfold bef
    rw [h0, Int.zero_mul]
    omega

structure Fair (sh : Nat → Int) (n : Nat) (own : Nat → Int) (c : Int) : Prop where
  nn : ∀ i, 0 ≤ own i
  zero : ∀ i, i < n → sh i = 0 → own i = 0
  best : ∀ i k, i < n → k < n → 0 < own i → sh k * own i ≤ sh i * (own k + 1)
  tie : ∀ i k, i < k → k < n → sh i = sh k → own k ≤ own i
  sum : sumF own n = c

theorem sumF_one (F : Nat → Int) (r : Nat) : ∀ n, r < n → sumF (fun i => if i = r then F i + 1 else F i) n = sumF F n + 1
  | 0, h => by omega
  | n + 1, h => by
    simp only [sumF]
    by_cases e : r = n
    · subst e
      rw [if_pos rfl, sumF_congr r (g := F) (fun i hi => if_neg (by omega))]
      omega
    · rw [sumF_one F r n (by omega), if_neg (fun h => e h.symm)]
      omega
theorem sumF_zero : ∀ n, sumF (fun _ => 0) n = 0
  | 0 => rfl
  | n + 1 => by simp only [sumF, sumF_zero n]; rfl

theorem fair_own {sh : Nat → Int} {n : Nat} (hm : 0 < (menL sh n).length) (hs : ∀ i, i < n → 0 ≤ sh i) : ∀ c : Nat, Fair sh n (ownK sh n c) c
  | 0 => ⟨fun i => (ownK_bd sh n 0 i).1, fun _ _ _ => rfl, fun i k _ _ h => by simp [ownK] at h, fun _ _ _ _ _ => Int.le_refl _, sumF_zero n⟩
  | c + 1 => by
    have ih := fair_own hm hs c
    obtain ⟨hr, hp, hb⟩ := rK_spec hm hs c
    have hr' := fun i => ownK_succ sh n c i
    obtain ⟨r, er⟩ : ∃ r, r = rK sh n c := ⟨_, rfl⟩
    rw [← er] at hr hp hb
    have hs' : ∀ i, ownK sh n (c + 1) i = if i = r then ownK sh n c i + 1 else ownK sh n c i := fun i => by rw [er]; exact hr' i
    generalize ownK sh n (c + 1) = O' at *
    generalize ownK sh n c = O at *
    have hle : ∀ k, O k ≤ O' k := fun k => by rw [hs']; split <;> omega
    refine ⟨fun i => by have := ih.nn i; have := hle i; omega, fun i hi h0 => ?_, fun i k hi hk hpos => ?_, fun i k hik hk he => ?_, ?_⟩
    · rw [hs', if_neg (fun e => by rw [e] at h0; omega)]
      exact ih.zero i hi h0
    · have hk1 : sh i * (O k + 1) ≤ sh i * (O' k + 1) := Int.mul_le_mul_of_nonneg_left (by have := hle k; omega) (hs i hi)
      by_cases e : i = r
      · rw [hs' i, if_pos e]
        have h1 := hb k hk
        unfold bef at h1
        rw [← e] at h1
        omega
      · have e1 : O' i = O i := by rw [hs', if_neg e]
        rw [e1] at hpos ⊢
        exact Int.le_trans (ih.best i k hi hk hpos) hk1
    · have h0 := ih.tie i k hik hk he
      by_cases e : k = r
      · rw [hs' k, if_pos e]
        by_cases e2 : O k = O i
        · -- then the lesser number would be before it
          exfalso
          refine hb i (by omega) (.inr ⟨?_, by omega⟩)
          rw [← e, he, e2]
        · have := hle i; omega
      · rw [hs' k, if_neg e]
        have := hle i; omega
    · rw [sumF_congr n (fun i _ => hs' i), sumF_one O r n hr, ih.sum]
      omega
end Go.Proofs.Ytbpeamppkdmdcaa
