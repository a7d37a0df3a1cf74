/-
  Plain laws: wages read with bits that are not there taken as 0 are those read by the book, or none.
-/
import Derived.Test.YtclbmlmlhiiaeaaGreatDoorK4
import Derived.Test.YtclbmlmlhiiaeaaGreatDoorQA7
namespace Go.Proofs.YtclbmlmlhiiaeaaGreatDoor
open Go.RowKit

/-- The number that so many bits are, those that are not there being 0. -/
def valZ (l : List Bool) (a m : Nat) : Nat := valH ((List.range m).map fun i => l.getD (a + i) false)
theorem valZ_take {l : List Bool} {a m : Nat} (h : a + m ≤ l.length) : valH ((l.drop a).take m) = valZ l a m := by
  unfold valZ
  congr 1
  apply List.ext_getElem
  · simp; omega
  · intro i h1 h2
    simp only [List.length_take, List.length_drop] at h1
    rw [List.getElem_take, List.getElem_drop, List.getElem_map, List.getElem_range, List.getD_eq_getElem?_getD, List.getElem?_eq_getElem (by omega)]
    rfl
abbrev eyeT : List Bool × Nat → Nat → Nat → Option ((List Bool × Nat) × Nat) := fun s _ m => eyeS s m
theorem eye_pos {l : List Bool} {a m : Nat} (v : Nat) (h : a + m ≤ l.length) : eyeT (l, a) v m = some ((l, a + m), valZ l a m) := by
  show eyeS (l, a) m = _
  unfold eyeS
  rw [if_pos h, valZ_take h]
theorem eye_neg {l : List Bool} {a m : Nat} (v : Nat) (h : ¬ a + m ≤ l.length) : eyeT (l, a) v m = none := by
  show eyeS (l, a) m = _
  unfold eyeS
  rw [if_neg h]
theorem span_pos {l : List Bool} {a m : Nat} (lo hi : Nat) (h : a + m + 2 ≤ l.length) : spanS eyeT (l, a) lo hi m = some ((l, a + m + 2), valZ l a m, valZ l a m + valZ l (a + m) 2) := by
  unfold spanS
  rw [eye_pos _ (by omega)]
  dsimp only
  rw [eye_pos _ (by omega)]
theorem span_neg {l : List Bool} {a m : Nat} (lo hi : Nat) (h : ¬ a + m + 2 ≤ l.length) : spanS eyeT (l, a) lo hi m = none := by
  unfold spanS
  by_cases h1 : a + m ≤ l.length
  · rw [eye_pos _ h1]
    dsimp only
    rw [eye_neg _ h]
  · rw [eye_neg _ h1]
def seamL (l : List Bool) (a : Nat) : List Nat := [valZ l a 5, valZ l (a + 5) 6]
def tickL (l : List Bool) (a : Nat) : List Nat := [valZ l a 2, valZ l (a + 2) 2, valZ l (a + 4) 5, valZ l (a + 4) 5 + valZ l (a + 9) 2, valZ l (a + 11) 5, valZ l (a + 11) 5 + valZ l (a + 16) 2, valZ l (a + 18) 6, valZ l (a + 18) 6 + valZ l (a + 24) 2]
theorem seam_eye (l : List Bool) (a : Nat) (x : Nat → Nat) : seamE eyeT (l, a) x = if a + 11 ≤ l.length then some ((l, a + 11), seamL l a) else none := by
  unfold seamE seamS
  by_cases h1 : a + 5 ≤ l.length
  · rw [eye_pos _ h1]
    dsimp only
    by_cases h2 : a + 5 + 6 ≤ l.length
    · rw [eye_pos _ h2, if_pos (by omega)]
      rfl
    · rw [eye_neg _ h2, if_neg (by omega)]
  · rw [eye_neg _ h1, if_neg (by omega)]
theorem tick_eye (l : List Bool) (a : Nat) (x : Nat → Nat) : ticketE eyeT (l, a) x = if a + 26 ≤ l.length then some ((l, a + 26), tickL l a) else none := by
  unfold ticketE ticketS
  by_cases h1 : a + 2 ≤ l.length
  case neg => rw [eye_neg _ h1, if_neg (by omega)]
  rw [eye_pos _ h1]
  dsimp only
  by_cases h2 : a + 2 + 2 ≤ l.length
  case neg => rw [eye_neg (a := a + 2) (m := 2) _ h2, if_neg (by omega)]
  rw [eye_pos (a := a + 2) (m := 2) _ h2]
  dsimp only
  by_cases h3 : a + 2 + 2 + 5 + 2 ≤ l.length
  case neg => rw [span_neg (a := a + 2 + 2) (m := 5) _ _ h3, if_neg (by omega)]
  rw [span_pos (a := a + 2 + 2) (m := 5) _ _ h3]
  dsimp only
  by_cases h4 : a + 2 + 2 + 5 + 2 + 5 + 2 ≤ l.length
  case neg => rw [span_neg (a := a + 2 + 2 + 5 + 2) (m := 5) _ _ h4, if_neg (by omega)]
  rw [span_pos (a := a + 2 + 2 + 5 + 2) (m := 5) _ _ h4]
  dsimp only
  by_cases h5 : a + 2 + 2 + 5 + 2 + 5 + 2 + 6 + 2 ≤ l.length
  case neg => rw [span_neg (a := a + 2 + 2 + 5 + 2 + 5 + 2) (m := 6) _ _ h5, if_neg (by omega)]
  rw [span_pos (a := a + 2 + 2 + 5 + 2 + 5 + 2) (m := 6) _ _ h5, if_pos (by omega)]
  rfl
/-- The rows of a list that is read. -/
def rowsL (f : Nat → List Nat) (a d k : Nat) (i : Nat) : Nat → Nat := if i < k then fun j => (f (a + i * d)).getD j 0 else fun _ => 0
theorem goS_eye {el : List Bool × Nat → (Nat → Nat) → Option ((List Bool × Nat) × List Nat)} {l : List Bool} {f : Nat → List Nat} {d : Nat} (hel : ∀ a x, el (l, a) x = if a + d ≤ l.length then some ((l, a + d), f a) else none) {a : Nat} (ha : a ≤ l.length) : ∀ k, goS el (l, a) (fun _ _ => 0) k = if a + k * d ≤ l.length then some ((l, a + k * d), rowsL f a d k) else none
  | 0 => by
    rw [if_pos (by omega)]
    simp only [goS, Nat.zero_mul, Nat.add_zero]
    rfl
  | k + 1 => by
    have e : a + (k + 1) * d = a + k * d + d := by rw [Nat.succ_mul]; omega
    rw [e]
    unfold goS
    rw [goS_eye hel ha k]
    by_cases h : a + k * d ≤ l.length
    · rw [if_pos h]
      dsimp only
      rw [hel]
      by_cases h2 : a + k * d + d ≤ l.length
      · rw [if_pos h2, if_pos h2]
        dsimp only
        congr 2
        funext i
        unfold rowsL
        by_cases c : i = k
        · subst c
          rw [if_pos rfl, if_pos (by omega)]
        · rw [if_neg c]
          by_cases c2 : i < k
          · rw [if_pos c2, if_pos (by omega)]
          · rw [if_neg c2, if_neg (by omega)]
      · rw [if_neg h2, if_neg h2]
    · rw [if_neg h, if_neg (by omega)]
/-- The wages of bits. -/
def refW (l : List Bool) : WagesV := ⟨valZ l 0 3, valZ l 3 2, rowsL (seamL l) 5 11 (valZ l 3 2), valZ l (5 + valZ l 3 2 * 11) 3, rowsL (tickL l) (5 + valZ l 3 2 * 11 + 3) 26 (valZ l (5 + valZ l 3 2 * 11) 3)⟩
theorem wagesS_eye (l : List Bool) : wagesS eyeT (l, 0) zeroW = if 8 + (refW l).sn * 11 + (refW l).tn * 26 ≤ l.length then some ((l, 8 + (refW l).sn * 11 + (refW l).tn * 26), refW l) else none := by
  have e1 : (refW l).sn = valZ l 3 2 := rfl
  have e2 : (refW l).tn = valZ l (5 + valZ l 3 2 * 11) 3 := rfl
  rw [e1, e2]
  unfold wagesS
  by_cases h1 : 0 + 3 ≤ l.length
  case neg => rw [eye_neg _ h1, if_neg (by omega)]
  rw [eye_pos _ h1]
  dsimp only
  unfold sevS
  by_cases h2 : 0 + 3 + 2 ≤ l.length
  case neg => rw [eye_neg _ h2, if_neg (by omega)]
  rw [eye_pos _ h2]
  dsimp only
  rw [show (if valZ l (0 + 3) 2 = zeroW.sn then zeroW.S else fun _ _ => 0) = fun _ _ => 0 from by split <;> rfl, goS_eye (seam_eye l) (by omega)]
  by_cases h3 : 0 + 3 + 2 + valZ l (0 + 3) 2 * 11 ≤ l.length
  case neg => rw [if_neg h3, if_neg (by simp only [Nat.zero_add] at h3; omega)]
  rw [if_pos h3]
  dsimp only
  by_cases h4 : 0 + 3 + 2 + valZ l (0 + 3) 2 * 11 + 3 ≤ l.length
  case neg => rw [eye_neg _ h4, if_neg (by simp only [Nat.zero_add] at h4; omega)]
  rw [eye_pos _ h4]
  dsimp only
  rw [show (if valZ l (0 + 3 + 2 + valZ l (0 + 3) 2 * 11) 3 = zeroW.tn then zeroW.T else fun _ _ => 0) = fun _ _ => 0 from by split <;> rfl, goS_eye (tick_eye l) (by omega)]
  simp only [Nat.zero_add, Nat.reduceAdd] at h4 ⊢
  by_cases h5 : 5 + valZ l 3 2 * 11 + 3 + valZ l (5 + valZ l 3 2 * 11) 3 * 26 ≤ l.length
  case neg => rw [if_neg h5, if_neg (by omega)]
  rw [if_pos h5, if_pos (by omega)]
  dsimp only
  rw [show 5 + valZ l 3 2 * 11 + 3 + valZ l (5 + valZ l 3 2 * 11) 3 * 26 = 8 + valZ l 3 2 * 11 + valZ l (5 + valZ l 3 2 * 11) 3 * 26 by omega]
  rfl
/-- The bits of a content. -/
def bitsL (n : Nat) (g : Nat → Nat) : List Bool := (List.range (8 * n)).map (unpB g)
theorem bitsL_len (n : Nat) (g : Nat → Nat) : (bitsL n g).length = 8 * n := by simp [bitsL]
/-- What is read of a book, bits that are not there being 0. -/
def refReadW (L : Nat) (g : Nat → Nat) : Int × WagesV :=
  if 1000 < L then (3, zeroW) else match contN L with
  | none => (8, zeroW)
  | some n => if eqB (szB n) L (sealB g n) g then
      (if wagesVB (refW (bitsL n g)) && eqB (szB (bookN (refW (bitsL n g)))) L (bookB (refW (bitsL n g))) g then (0, refW (bitsL n g)) else (8, zeroW))
    else (10, zeroW)
theorem contN_sz {L n : Nat} (h : contN L = some n) : 0 < n ∧ szB n = L := by
  unfold contN at h
  have := List.find?_some h
  simpa using this
theorem refRead_eq (L : Nat) (g : Nat → Nat) : refReadW L g = readW L g := by
  unfold refReadW readW
  split
  · rfl
  · cases hc : contN L with
    | none => rfl
    | some n =>
      dsimp only
      split
      · have h := wagesS_eye (bitsL n g)
        have hb : bitsW n g = wagesS eyeT (bitsL n g, 0) zeroW := rfl
        rw [hb, h, bitsL_len]
        by_cases c : 8 + (refW (bitsL n g)).sn * 11 + (refW (bitsL n g)).tn * 26 ≤ 8 * n
        · rw [if_pos c]
        · rw [if_neg c]
          dsimp only
          rw [if_neg]
          intro e
          simp only [Bool.and_eq_true] at e
          have h1 := (eqB_iff.1 e.2).1
          have h2 := (contN_sz hc).2
          unfold bookN rowsB at h1
          rw [wageBits_len] at h1
          unfold szB at h1 h2
          omega
      · rfl
end Go.Proofs.YtclbmlmlhiiaeaaGreatDoor
