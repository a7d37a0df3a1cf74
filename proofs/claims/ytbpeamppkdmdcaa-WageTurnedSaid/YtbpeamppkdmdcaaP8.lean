/-
  Plain law: crews and seams that are numbered otherwise, and tickets in the other order.
-/
import Derived.Test.YtbpeamppkdmdcaaG9
import Derived.Test.YtbpeamppkdmdcaaG10
import Derived.Test.YtbpeamppkdmdcaaP7
namespace Go.Proofs.Ytbpeamppkdmdcaa
open Go.RowKit

def turnS (S : Nat → Sm) (sn : Nat) : Nat → Sm := fun j => S (sn - 1 - j)
def turnT (T : Nat → Tk) (cr : Int) (sn : Nat) : Nat → Tk := fun i => { T i with crew := cr - 1 - (T i).crew, seam := (sn : Int) - 1 - (T i).seam }
def backT (T : Nat → Tk) (n : Nat) : Nat → Tk := fun i => T (n - 1 - i)

theorem turn_valid {cr : Int} {sn tn : Nat} {S : Nat → Sm} {T : Nat → Tk} (hv : Valid cr sn tn S T) : Valid cr sn tn (turnS S sn) (turnT T cr sn) := by
  refine ⟨hv.cr0, hv.cr1, hv.sn3, hv.tn6, fun j hj => hv.fat _ (by omega), fun j hj => hv.rate _ (by omega), fun i hi => ?_, fun i hi => hv.td i hi, fun i hi => ?_, fun i hi => ?_⟩
  · have := hv.tk i hi
    simp only [turnT]
    omega
  all_goals
    have h := hv.tk i hi
    have e : sn - 1 - ((sn : Int) - 1 - (T i).seam).toNat = (T i).seam.toNat := by omega
    simp only [turnT, turnS, e]
  · exact hv.fr i hi
  · exact hv.to i hi
theorem back_valid {cr : Int} {sn tn : Nat} {S : Nat → Sm} {T : Nat → Tk} (hv : Valid cr sn tn S T) : Valid cr sn tn S (backT T tn) :=
  ⟨hv.cr0, hv.cr1, hv.sn3, hv.tn6, hv.fat, hv.rate, fun i hi => hv.tk _ (by omega), fun i hi => hv.td _ (by omega), fun i hi => hv.fr _ (by omega), fun i hi => hv.to _ (by omega)⟩

theorem turn_has (T : Nat → Tk) (cr : Int) (sn : Nat) (K : Nat → Kn) (s : Int) (f i : Nat) : hasB (turnT T cr sn) K ((sn : Int) - 1 - s) f i = hasB T K s f i := by
  unfold hasB
  congr 2
  simp only [turnT]
  exact decide_eq_decide.2 (by omega)
theorem turn_best (T : Nat → Tk) (cr : Int) (sn : Nat) (K : Nat → Kn) (s : Int) (f : Nat) : ∀ n, best (turnT T cr sn) K ((sn : Int) - 1 - s) f n = best T K s f n
  | 0 => rfl
  | n + 1 => by rw [best_succ, best_succ, turn_best T cr sn K s f n, turn_has]
theorem turn_owner {cr : Int} {sn tn : Nat} {T : Nat → Tk} (K : Nat → Kn) (s : Int) (f : Nat) {c : Int} (c0 : 0 ≤ c) (c1 : c < cr) :
    decide (ownerOf (turnT T cr sn) K tn ((sn : Int) - 1 - s) f = cr - 1 - c) = decide (ownerOf T K tn s f = c) := by
  unfold ownerOf
  rw [turn_best]
  cases hb : best T K s f tn with
  | none => exact decide_eq_decide.2 (by simp only [crewOf]; omega)
  | some i => exact decide_eq_decide.2 (by simp only [crewOf, turnT]; omega)
theorem turn_many {cr : Int} {sn tn : Nat} {S : Nat → Sm} {T : Nat → Tk} (K : Nat → Kn) {s : Nat} (hs : s < sn) {c : Int} (c0 : 0 ≤ c) (c1 : c < cr) :
    manyOf (turnS S sn) (turnT T cr sn) K tn ((sn : Int) - 1 - s) (cr - 1 - c) = manyOf S T K tn s c := by
  unfold manyOf
  have e : sn - 1 - ((sn : Int) - 1 - s).toNat = ((s : Int)).toNat := by omega
  simp only [turnS, e]
  exact cntP_congr _ fun f _ => turn_owner K s f c0 c1
theorem sumF_shift (F : Nat → Int) : ∀ n, sumF F (n + 1) = F 0 + sumF (fun i => F (i + 1)) n
  | 0 => by simp [sumF]
  | n + 1 => by
    have ih := sumF_shift F n
    rw [show sumF F (n + 1 + 1) = sumF F (n + 1) + F (n + 1) from rfl, ih]
    simp only [sumF]
    omega
theorem sumF_rev : ∀ (n : Nat) (F : Nat → Int), sumF (fun s => F (n - 1 - s)) n = sumF F n
  | 0, F => rfl
  | n + 1, F => by
    rw [sumF_shift F n, ← sumF_rev n (fun i => F (i + 1))]
    show sumF (fun s => F (n + 1 - 1 - s)) n + F (n + 1 - 1 - n) = _
    rw [show n + 1 - 1 - n = 0 by omega, Int.add_comm]
    congr 1
    exact sumF_congr n fun i hi => by rw [show n + 1 - 1 - i = n - 1 - i + 1 by omega]
theorem turn_coins {cr : Int} {sn tn : Nat} {S : Nat → Sm} {T : Nat → Tk} (K : Nat → Kn) {c : Int} (c0 : 0 ≤ c) (c1 : c < cr) :
    coinsOf (turnS S sn) (turnT T cr sn) K sn tn (cr - 1 - c) = coinsOf S T K sn tn c := by
  unfold coinsOf
  rw [← sumF_rev sn (fun s => (manyOf S T K tn s c : Int) * (S s).rate)]
  refine sumF_congr sn fun s hs => ?_
  have h := turn_many (sn := sn) (tn := tn) (S := S) (T := T) K (s := sn - 1 - s) (by omega) c0 c1
  rw [show ((sn : Int) - 1 - ((sn - 1 - s : Nat) : Int)) = (s : Int) by omega] at h
  simp only [turnS]
  rw [← h]
theorem turn_most {cr : Int} {sn : Nat} {T : Nat → Tk} (c : Int) : mostK (cr - 1 - c) (turnT T cr sn) = mostK c T := by
  funext i
  have e : (cr - 1 - (T i).crew = cr - 1 - c) ↔ ((T i).crew = c) := by omega
  simp only [mostK, turnT, e]
theorem turn_least {cr : Int} {sn : Nat} {T : Nat → Tk} (c : Int) : leastK (cr - 1 - c) (turnT T cr sn) = leastK c T := by
  funext i
  have e : (cr - 1 - (T i).crew = cr - 1 - c) ↔ ((T i).crew = c) := by omega
  simp only [leastK, turnT, e]

/-! The other order. -/
def tieB (T : Nat → Tk) (i o : Nat) : Bool := decide ((T o).crew ≠ (T i).crew) && decide ((T o).seam = (T i).seam) && decide (max (T o).fl (T i).fl < min (T o).th (T i).th) && decide (max (T o).dl (T i).dl ≤ min (T o).dh (T i).dh)
def tieI (T : Nat → Tk) (i n : Nat) : Bool := (List.range n).any (tieB T i)
def tieN (T : Nat → Tk) (n : Nat) : Bool := (List.range n).any fun i => tieI T i i
theorem tieI_succ (T : Nat → Tk) (i n : Nat) : tieI T i (n + 1) = (tieI T i n || tieB T i n) := by simp [tieI, List.range_succ]
theorem tieN_succ (T : Nat → Tk) (n : Nat) : tieN T (n + 1) = (tieN T n || tieI T n n) := by simp [tieN, List.range_succ]
theorem tieN_no {T : Nat → Tk} {n i o : Nat} (h : tieN T n = false) (hi : i < n) (ho : o < i) : tieB T i o = false := by
  unfold tieN tieI at h
  rw [List.any_eq_false] at h
  have h1 := h i (List.mem_range.2 hi)
  rw [Bool.not_eq_true, List.any_eq_false] at h1
  simpa using h1 o (List.mem_range.2 ho)
theorem back_has (T : Nat → Tk) (n : Nat) (K : Nat → Kn) (s : Int) (f i : Nat) : hasB (backT T n) (fun i => K (n - 1 - i)) s f i = hasB T K s f (n - 1 - i) := rfl
theorem back_owner {T : Nat → Tk} {n : Nat} {K : Nat → Kn} (hK : TruthOf T n K) (ht : tieN T n = false) (s : Int) (f : Nat) :
    ownerOf (backT T n) (fun i => K (n - 1 - i)) n s f = ownerOf T K n s f := by
  unfold ownerOf
  have h1 := best_isFirst T K s f n
  have h2 := best_isFirst (backT T n) (fun i => K (n - 1 - i)) s f n
  cases e1 : best T K s f n with
  | none =>
    rw [e1] at h1
    cases e2 : best (backT T n) (fun i => K (n - 1 - i)) s f n with
    | none => rfl
    | some j =>
      rw [e2] at h2
      have := h1 (n - 1 - j) (by have := h2.1; omega)
      rw [← back_has T n K s f j, h2.2.1] at this
      cases this
  | some i =>
    rw [e1] at h1
    obtain ⟨i1, i2, i3⟩ := h1
    have hi' : hasB (backT T n) (fun i => K (n - 1 - i)) s f (n - 1 - i) = true := by rw [back_has, show n - 1 - (n - 1 - i) = i by omega]; exact i2
    cases e2 : best (backT T n) (fun i => K (n - 1 - i)) s f n with
    | none =>
      rw [e2] at h2
      rw [h2 (n - 1 - i) (by omega)] at hi'
      cases hi'
    | some j =>
      rw [e2] at h2
      obtain ⟨j1, j2, j3⟩ := h2
      rw [back_has] at j2
      have k1 := i3 (n - 1 - j) (by omega) j2
      have k2 := j3 (n - 1 - i) (by omega) hi'
      show (T (n - 1 - j)).crew = (T i).crew
      rcases k1 with k1 | k1
      · rw [k1]
      · rcases k2 with k2 | k2
        · rw [show n - 1 - j = i by omega]
        · unfold lexlt at k1 k2
          simp only [show n - 1 - (n - 1 - i) = i by omega] at k1 k2
          have hlt : i < n - 1 - j := by omega
          have htd : (K i).td = (K (n - 1 - j)).td := by omega
          have hb := tieN_no ht (i := n - 1 - j) (o := i) (by omega) hlt
          obtain ⟨a1, a2, a3⟩ := hasB_iff.1 i2
          obtain ⟨b1, b2, b3⟩ := hasB_iff.1 j2
          have t1 := hK i i1
          have t2 := hK (n - 1 - j) (by omega)
          unfold InT at t1 t2
          by_cases hc : (T i).crew = (T (n - 1 - j)).crew
          · exact hc.symm
          · exfalso
            unfold tieB at hb
            have x1 : decide ((T i).crew ≠ (T (n - 1 - j)).crew) = true := decide_eq_true hc
            have x2 : decide ((T i).seam = (T (n - 1 - j)).seam) = true := decide_eq_true (by omega)
            have x3 : decide (max (T i).fl (T (n - 1 - j)).fl < min (T i).th (T (n - 1 - j)).th) = true := decide_eq_true (by omega)
            have x4 : decide (max (T i).dl (T (n - 1 - j)).dl ≤ min (T i).dh (T (n - 1 - j)).dh) = true := decide_eq_true (by omega)
            rw [x1, x2, x3, x4] at hb
            cases hb
theorem back_most (T : Nat → Tk) (n : Nat) (c : Int) : mostK c (backT T n) = fun i => mostK c T (n - 1 - i) := rfl
theorem back_least (T : Nat → Tk) (n : Nat) (c : Int) : leastK c (backT T n) = fun i => leastK c T (n - 1 - i) := rfl
theorem back_many {S : Nat → Sm} {T : Nat → Tk} {n : Nat} {K : Nat → Kn} (hK : TruthOf T n K) (ht : tieN T n = false) (s c : Int) :
    manyOf S (backT T n) (fun i => K (n - 1 - i)) n s c = manyOf S T K n s c := by
  unfold manyOf
  exact cntP_congr _ fun f _ => by rw [back_owner hK ht]
theorem back_coins {S : Nat → Sm} {T : Nat → Tk} {sn n : Nat} {K : Nat → Kn} (hK : TruthOf T n K) (ht : tieN T n = false) (c : Int) :
    coinsOf S (backT T n) (fun i => K (n - 1 - i)) sn n c = coinsOf S T K sn n c := by
  unfold coinsOf
  exact sumF_congr sn fun s _ => by rw [back_many hK ht]
theorem back_none {T : Nat → Tk} {n : Nat} {K : Nat → Kn} (hc : ∀ i, i < n → 0 ≤ (T i).crew) (s : Int) (f : Nat) :
    decide (ownerOf (backT T n) (fun i => K (n - 1 - i)) n s f = -1) = decide (ownerOf T K n s f = -1) := by
  refine decide_eq_decide.2 ?_
  rw [owner_none_iff hc, owner_none_iff (T := backT T n) (fun i hi => hc _ (by omega))]
  constructor
  · intro h i hi
    have := h (n - 1 - i) (by omega)
    rwa [back_has, show n - 1 - (n - 1 - i) = i by omega] at this
  · intro h i hi
    rw [back_has]
    exact h _ (by omega)
theorem back_left {S : Nat → Sm} {T : Nat → Tk} {sn n : Nat} {K : Nat → Kn} (hc : ∀ i, i < n → 0 ≤ (T i).crew) :
    coinsOf S (backT T n) (fun i => K (n - 1 - i)) sn n (-1) = coinsOf S T K sn n (-1) := by
  unfold coinsOf
  refine sumF_congr sn fun s _ => ?_
  unfold manyOf
  rw [cntP_congr _ fun f _ => back_none hc (s : Int) f]
end Go.Proofs.Ytbpeamppkdmdcaa
