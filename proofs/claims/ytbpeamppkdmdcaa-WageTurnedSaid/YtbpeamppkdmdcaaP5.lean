/-
  Plain law: what the three lists of WageEnds give: both ends of what is told.
-/
import Derived.Test.YtbpeamppkdmdcaaP4
import Derived.Test.YtbpeamppkdmdcaaE1
namespace Go.Proofs.Ytbpeamppkdmdcaa
open Go.RowKit

/-- One of two, by a truth value. -/
def sel {α : Type} (b : Bool) (x y : α) : α := if b then y else x
abbrev wfr (c : Int) (b : Bool) (T : Nat → Tk) (i : Nat) : Int := (withK c b T i).fr
abbrev wto (c : Int) (b : Bool) (T : Nat → Tk) (i : Nat) : Int := (withK c b T i).to
abbrev wtd (c : Int) (b : Bool) (T : Nat → Tk) (i : Nat) : Int := (withK c b T i).td
theorem told_with (c : Int) (b : Bool) (T : Nat → Tk) : toldK (wfr c b T) (wto c b T) (wtd c b T) = withK c b T := rfl
theorem ends_coins (S : Nat → Sm) (T : Nat → Tk) (sn tn : Nat) (c : Int) (b : Bool) : coinsOf S T (withK c b T) sn tn c = sel b (coinsOf S T (leastK c T) sn tn c) (coinsOf S T (mostK c T) sn tn c) := by
  cases b
  · rw [withK_false]; rfl
  · rw [withK_true]; rfl
theorem ends_many (S : Nat → Sm) (T : Nat → Tk) (tn : Nat) (s : Int) (c : Int) (b : Bool) : manyOf S T (withK c b T) tn s c = sel b (manyOf S T (leastK c T) tn s c) (manyOf S T (mostK c T) tn s c) := by
  cases b
  · rw [withK_false]; rfl
  · rw [withK_true]; rfl
theorem ends_ok {cr : Int} {sn tn : Nat} {S : Nat → Sm} {T : Nat → Tk} (hv : Valid cr sn tn S T) (c : Int) (b : Bool) : exB tn tn tn tn T (wfr c b T) (wto c b T) (wtd c b T) = true := by
  unfold exB
  simp only [decide_true, Bool.true_and, List.all_eq_true, List.mem_range]
  intro i hi
  have h := hv.spans hi
  unfold exOk wfr wto wtd withK
  simp only [Bool.and_eq_true, inB_iff]
  by_cases e : ((T i).crew == c) = b
  · simp only [if_pos e]; omega
  · simp only [if_neg e]; omega
/-- All that is paid, if each fathom is one crew's or nobody's. -/
theorem ends_paid {cr n : Nat} {sn tn : Nat} {S : Nat → Sm} {T : Nat → Tk} (hv : Valid cr sn tn S T) (K : Nat → Kn) (hn : n = cr) : sumF (fun j => coinsOf S T K sn tn (j : Int)) n = allOf S sn - coinsOf S T K sn tn (-1) := by
  subst hn
  have h := coins_part (S := S) (T := T) (K := K) (sn := sn) (tn := tn) (cr := n) (fun s f => by
    have h1 := owner_range (K := K) (s := s) (f := f) (cr := (n : Int)) (fun i hi => by have := hv.tk i hi; omega : ∀ i, i < tn → 0 ≤ (T i).crew ∧ (T i).crew ≤ (n : Int) - 1) (by have := hv.cr0; omega)
    omega) (fun j hj => (hv.fat j hj).1)
  unfold allOf
  omega
theorem ends_left (S : Nat → Sm) (T : Nat → Tk) (K : Nat → Kn) (sn tn : Nat) : sumF (fun s => ((S s).fat - (manyOf S T K tn (s : Int) (-1) : Int)) * (S s).rate) sn = allOf S sn - coinsOf S T K sn tn (-1) := by
  unfold allOf coinsOf
  induction sn with
  | zero => rfl
  | succ n ih =>
    simp only [sumF] at ih ⊢
    rw [ih, Int.sub_mul]
    omega
end Go.Proofs.Ytbpeamppkdmdcaa
