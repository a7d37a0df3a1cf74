/-
  Wages, plain: one ticket for each seam, from its first fathom to its last; the others come later.
-/
import Derived.Test.YtikeihnhkiipgaaGreatWG4
namespace Go.Proofs.YtikeihnhkiipgaaGreat.Wa
open Go.RowKit

structure First (S : Nat → Sm) (T : Nat → Tk) (sn tn : Nat) (to : Nat → Nat) : Prop where
  le : sn ≤ tn
  fat : ∀ s, s < sn → 0 ≤ (S s).fat
  crew : ∀ s, s < sn → (T s).crew = (to s : Nat)
  seam : ∀ s, s < sn → (T s).seam = (s : Nat)
  fl : ∀ s, s < sn → (T s).fl = 0
  fh : ∀ s, s < sn → (T s).fh = 0
  tl : ∀ s, s < sn → (T s).tl = (S s).fat
  th : ∀ s, s < sn → (T s).th = (S s).fat
  dl : ∀ s, s < sn → (T s).dl ≤ 24
  dh : ∀ s, s < sn → (T s).dh ≤ 24
  ld : ∀ i, sn ≤ i → i < tn → 39 ≤ (T i).dl
  lh : ∀ i, sn ≤ i → i < tn → 39 ≤ (T i).dh
/-- What all truths that are asked say of the first tickets. -/
structure FirstK (S : Nat → Sm) (K : Nat → Kn) (sn tn : Nat) : Prop where
  fr : ∀ s, s < sn → (K s).fr = 0
  to : ∀ s, s < sn → (K s).to = (S s).fat
  td : ∀ s, s < sn → (K s).td ≤ 24
  lt : ∀ i, sn ≤ i → i < tn → 39 ≤ (K i).td
section
variable {S : Nat → Sm} {T : Nat → Tk} {sn tn : Nat} {to : Nat → Nat}
theorem First.most (h : First S T sn tn to) (m : Int) : FirstK S (mostK m T) sn tn := by
  refine ⟨fun s hs => ?_, fun s hs => ?_, fun s hs => ?_, fun i h1 h2 => ?_⟩
  · unfold mostK; dsimp only; rw [h.fl s hs, h.fh s hs, ite_self]
  · unfold mostK; dsimp only; rw [h.tl s hs, h.th s hs, ite_self]
  · have := h.dl s hs; have := h.dh s hs; unfold mostK; dsimp only; split <;> assumption
  · have := h.ld i h1 h2; have := h.lh i h1 h2; unfold mostK; dsimp only; split <;> assumption
theorem First.least (h : First S T sn tn to) (m : Int) : FirstK S (leastK m T) sn tn := by
  refine ⟨fun s hs => ?_, fun s hs => ?_, fun s hs => ?_, fun i h1 h2 => ?_⟩
  · unfold leastK; dsimp only; rw [h.fl s hs, h.fh s hs, ite_self]
  · unfold leastK; dsimp only; rw [h.tl s hs, h.th s hs, ite_self]
  · have := h.dl s hs; have := h.dh s hs; unfold leastK; dsimp only; split <;> assumption
  · have := h.ld i h1 h2; have := h.lh i h1 h2; unfold leastK; dsimp only; split <;> assumption
theorem first_owner (h : First S T sn tn to) {K : Nat → Kn} (k : FirstK S K sn tn) {s : Nat} (hs : s < sn) {f : Nat} (hf : (f : Int) < (S s).fat) : ownerOf T K tn s f = (to s : Nat) := by
  have hb : hasB T K (s : Int) f s = true := by
    unfold hasB
    rw [h.seam s hs, k.fr s hs, k.to s hs, decide_eq_true rfl, decide_eq_true (show (0 : Int) ≤ f by omega), decide_eq_true hf]
    rfl
  have hi : IsFirst T K (s : Int) f tn (some s) := ⟨Nat.lt_of_lt_of_le hs h.le, hb, fun j hj hjb => by
    rcases Nat.lt_or_ge j sn with h1 | h1
    · unfold hasB at hjb
      simp only [Bool.and_eq_true, decide_eq_true_eq] at hjb
      have := h.seam j h1
      exact .inl (by omega)
    · exact .inr (.inl (by have := k.td s hs; have := k.lt j h1 hj; show (K s).td < (K j).td; omega))⟩
  unfold ownerOf
  rw [(best_isFirst T K s f tn).unique hi]
  exact h.crew s hs
theorem cntP_all {p : Nat → Bool} : ∀ {n : Nat}, (∀ i, i < n → p i = true) → cntP p n = n
  | 0, _ => rfl
  | n + 1, h => by rw [cntP, cntP_all (fun i hi => h i (by omega)), if_pos (h n (by omega))]
theorem cntP_none {p : Nat → Bool} : ∀ {n : Nat}, (∀ i, i < n → p i = false) → cntP p n = 0
  | 0, _ => rfl
  | n + 1, h => by rw [cntP, cntP_none (fun i hi => h i (by omega)), h n (by omega)]; rfl
theorem first_many (h : First S T sn tn to) {K : Nat → Kn} (k : FirstK S K sn tn) {s : Nat} (hs : s < sn) (c : Int) : ((manyOf S T K tn s c : Nat) : Int) = if ((to s : Nat) : Int) = c then (S s).fat else 0 := by
  have h0 := h.fat s hs
  unfold manyOf
  rw [Int.toNat_natCast]
  by_cases hc : ((to s : Nat) : Int) = c
  · rw [if_pos hc, cntP_all fun i hi => by rw [first_owner h k hs (by omega)]; exact decide_eq_true hc]
    omega
  · rw [if_neg hc, cntP_none fun i hi => by rw [first_owner h k hs (by omega)]; exact decide_eq_false hc]
    rfl
/-- What is due to a crew. -/
def dueF (S : Nat → Sm) (to : Nat → Nat) (c : Int) (s : Nat) : Int := if ((to s : Nat) : Int) = c then (S s).fat * (S s).rate else 0
theorem sumF_congr' {f g : Nat → Int} : ∀ {n : Nat}, (∀ i, i < n → f i = g i) → sumF f n = sumF g n
  | 0, _ => rfl
  | n + 1, h => by rw [sumF, sumF, sumF_congr' (fun i hi => h i (by omega)), h n (by omega)]
theorem first_coins (h : First S T sn tn to) {K : Nat → Kn} (k : FirstK S K sn tn) (c : Int) : coinsOf S T K sn tn c = sumF (dueF S to c) sn := by
  unfold coinsOf
  refine sumF_congr' fun s hs => ?_
  rw [first_many h k hs c]
  unfold dueF
  split
  · rfl
  · rw [Int.zero_mul]
theorem sumF_none {f : Nat → Int} : ∀ {n : Nat}, (∀ i, i < n → f i = 0) → sumF f n = 0
  | 0, _ => rfl
  | n + 1, h => by rw [sumF, sumF_none (fun i hi => h i (by omega)), h n (by omega)]; rfl
theorem due_nobody (S : Nat → Sm) (to : Nat → Nat) (n : Nat) : sumF (dueF S to (-1)) n = 0 :=
  sumF_none fun i _ => by
    unfold dueF
    rw [if_neg (by omega)]
theorem sumF_add (f g : Nat → Int) : ∀ n, sumF (fun i => f i + g i) n = sumF f n + sumF g n
  | 0 => rfl
  | n + 1 => by rw [sumF, sumF, sumF, sumF_add f g n]; omega
theorem sumF_at (x : Int) (k : Nat) : ∀ n, sumF (fun c => if (k : Int) = (c : Int) then x else 0) n = if k < n then x else 0
  | 0 => rfl
  | n + 1 => by
    rw [sumF, sumF_at x k n]
    by_cases h1 : k < n
    · rw [if_pos h1, if_neg (by omega), if_pos (by omega), Int.add_zero]
    · rw [if_neg h1]
      by_cases h2 : k = n
      · rw [if_pos (by omega), if_pos (by omega), Int.zero_add]
      · rw [if_neg (by omega), if_neg (by omega), Int.zero_add]
/-- What is due to all of them is what is paid in all. -/
theorem due_all (S : Nat → Sm) {to : Nat → Nat} {cn : Nat} : ∀ {n : Nat}, (∀ s, s < n → to s < cn) → sumF (fun c => sumF (dueF S to (c : Nat)) n) cn = allOf S n
  | 0, _ => sumF_none fun _ _ => rfl
  | n + 1, h => by
    have e : (fun c : Nat => sumF (dueF S to (c : Nat)) (n + 1)) = fun c => sumF (dueF S to (c : Nat)) n + dueF S to (c : Nat) n := rfl
    rw [e, sumF_add, due_all S (fun s hs => h s (by omega))]
    have e2 : sumF (fun c : Nat => dueF S to (c : Nat) n) cn = (S n).fat * (S n).rate := by
      show sumF (fun c : Nat => if ((to n : Nat) : Int) = (c : Int) then (S n).fat * (S n).rate else 0) cn = _
      rw [sumF_at, if_pos (h n (by omega))]
    rw [e2]
    rfl
end
end Go.Proofs.YtikeihnhkiipgaaGreat.Wa
