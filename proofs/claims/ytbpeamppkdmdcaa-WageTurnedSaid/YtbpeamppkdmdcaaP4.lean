/-
  Plain law: each fathom is one crew's or nobody's: so all that is paid, and the Rates of what is left, are the Rates of all fathoms.
-/
import Derived.Test.YtbpeamppkdmdcaaG4
namespace Go.Proofs.Ytbpeamppkdmdcaa
open Go.RowKit

theorem sumQ_add (f g : Nat → Int) : ∀ n, sumF (fun i => f i + g i) n = sumF f n + sumF g n
  | 0 => rfl
  | n + 1 => by simp only [sumF, sumQ_add f g n]; omega
theorem sumQ_zero : ∀ n, sumF (fun _ => 0) n = 0
  | 0 => rfl
  | n + 1 => by simp only [sumF, sumQ_zero n]; omega
theorem sumQ_mul (f : Nat → Int) (r : Int) : ∀ n, sumF f n * r = sumF (fun i => f i * r) n
  | 0 => by simp [sumF]
  | n + 1 => by simp only [sumF]; rw [Int.add_mul, sumQ_mul f r n]
theorem sumQ_swap (f : Nat → Nat → Int) (m : Nat) : ∀ n, sumF (fun i => sumF (fun j => f i j) m) n = sumF (fun j => sumF (fun i => f i j) n) m
  | 0 => by simp only [sumF]; exact (sumQ_zero m).symm
  | n + 1 => by simp only [sumF]; rw [sumQ_swap f m n, ← sumQ_add]
theorem sumQ_one (x : Int) : ∀ n : Nat, sumF (fun c => if x = (c : Int) then 1 else 0) n = if 0 ≤ x ∧ x < n then 1 else 0
  | 0 => by
    simp only [sumF]
    rw [if_neg (by omega)]
  | n + 1 => by
    simp only [sumF, sumQ_one x n]
    by_cases h : x = (n : Int)
    · subst h
      rw [if_neg (by omega), if_pos rfl, if_pos (by omega)]; rfl
    · rw [if_neg h]
      by_cases h2 : 0 ≤ x ∧ x < n
      · rw [if_pos h2, if_pos (by omega)]; rfl
      · rw [if_neg h2, if_neg (by omega)]; rfl
theorem cnt_part (o : Nat → Int) (cr : Nat) : ∀ n, (∀ f, f < n → -1 ≤ o f ∧ o f < cr) → sumF (fun c => (cntP (fun f => decide (o f = (c : Int))) n : Int)) cr + (cntP (fun f => decide (o f = -1)) n : Int) = n
  | 0, _ => by simp only [cntP]; rw [show (fun c : Nat => ((0 : Nat) : Int)) = fun _ => 0 from rfl, sumQ_zero]; rfl
  | n + 1, h => by
    have ih := cnt_part o cr n fun f hf => h f (by omega)
    have hn := h n (by omega)
    have e : (fun c : Nat => (cntP (fun f => decide (o f = (c : Int))) (n + 1) : Int)) = fun c : Nat => (cntP (fun f => decide (o f = (c : Int))) n : Int) + if o n = (c : Int) then 1 else 0 := by
      funext c
      simp only [cntP, decide_eq_true_eq]
      split <;> omega
    rw [e, sumQ_add, sumQ_one]
    simp only [cntP, decide_eq_true_eq]
    by_cases h0 : o n = -1
    · rw [if_neg (by omega), if_pos h0]; omega
    · rw [if_pos (by omega), if_neg h0]; omega
theorem coins_part {S : Nat → Sm} {T : Nat → Tk} {K : Nat → Kn} {sn tn : Nat} {cr : Nat} (ho : ∀ s f, -1 ≤ ownerOf T K tn s f ∧ ownerOf T K tn s f < cr) (hf : ∀ j, j < sn → 0 ≤ (S j).fat) :
    sumF (fun c => coinsOf S T K sn tn (c : Int)) cr + coinsOf S T K sn tn (-1) = sumF (fun s => (S s).fat * (S s).rate) sn := by
  unfold coinsOf
  rw [sumQ_swap, ← sumQ_add]
  refine sumF_congr sn fun s hs => ?_
  rw [← sumQ_mul, ← Int.add_mul]
  congr 1
  have h := cnt_part (fun f => ownerOf T K tn (s : Int) f) cr (S s).fat.toNat (fun f _ => ho _ f)
  have := hf s hs
  unfold manyOf
  simp only [Int.toNat_natCast]
  omega
theorem many_le {S : Nat → Sm} {T : Nat → Tk} {K : Nat → Kn} {tn : Nat} {c : Int} {s : Nat} (hf : 0 ≤ (S s).fat) : (manyOf S T K tn s c : Int) ≤ (S s).fat := by
  have := cntP_le (fun f => decide (ownerOf T K tn (s : Int) f = c)) (S s).fat.toNat
  unfold manyOf
  simp only [Int.toNat_natCast]
  omega
end Go.Proofs.Ytbpeamppkdmdcaa
