/-
Plain laws: what is put right is right: a book of which one.
-/
import Derived.Test.YtclbmlmlhiiaeaaGreatDoorQW6
import Derived.Test.YtclbmlmlhiiaeaaGreatDoorK4
import Derived.Test.YtclbmlmlhiiaeaaGreatDoorQA7
import Derived.Test.YtclbmlmlhiiaeaaGreatDoorQT1
namespace Go.Proofs.YtclbmlmlhiiaeaaGreatDoor
open Go.RowKit
def tmB (r : Nat → Bool) (i k : Nat) : Nat := if i / 8 = k ∧ r i = true then 128 / 2 ^ (i % 8) else 0
theorem xor_pow_fin : ∀ a : Fin 256, ∀ c : Fin 8, a.val % 2 ^ (8 - c.val) = 0 → a.val + 128 / 2 ^ c.val = a.val ^^^ (128 / 2 ^ c.val) := by decide +kernel
theorem pk_xor (r : Nat → Bool) (i k : Nat) : pkB r (i + 1) k = pkB r i k ^^^ tmB r i k := by
 unfold tmB
 show (if i / 8 = k ∧ r i = true then _ else _) = _
 by_cases c : i / 8 = k ∧ r i = true
 ·rw [if_pos c, if_pos c]
  exact xor_pow_fin ⟨pkB r i k, pk_lt r i k⟩ ⟨i % 8, Nat.mod_lt _ (by omega)⟩ ((pk_inv r i k).2.2 c.1)
 ·rw [if_neg c, if_neg c, Nat.xor_zero]
theorem pk_congr {r s : Nat → Bool} : ∀ i k, (∀ j, j < i → r j = s j) → pkB r i k = pkB s i k
 | 0, _, _ => rfl
 | i + 1, k, h => by
  rw [pk_xor, pk_xor, pk_congr i k (fun j hj => h j (by omega))]
  unfold tmB
  rw [h i (by omega)]
theorem col_congr {g h : Nat → Nat} : ∀ n, (∀ j, j < n → g j = h j) → colB g n = colB h n
 | 0, _ => rfl
 | n + 1, e => by simp only [colB]; rw [col_congr n (fun j hj => e j (by omega)), e n (by omega)]
theorem seal_congr {g h : Nat → Nat} {n : Nat} (e : ∀ j, j < n → g j = h j) (k : Nat) : sealB g n k = sealB h n k := by
 unfold sealB rowB
 by_cases c : k < n
 ·rw [if_pos c, if_pos c, e k c]
 ·rw [if_neg c, if_neg c, pk_congr n _ (fun j hj => by rw [e j hj]), col_congr n e]
def valZ (l : List Bool) (a m : Nat) : Nat := valH ((List.range m).map fun i => l.getD (a + i) false)
theorem valZ_take {l : List Bool} {a m : Nat} (h : a + m ≤ l.length) : valH ((l.drop a).take m) = valZ l a m := by
 unfold valZ
 congr 1
 apply List.ext_getElem
 ·simp; omega
 ·intro i h1 h2
  simp only [List.length_take, List.length_drop] at h1
  rw [List.getElem_take, List.getElem_drop, List.getElem_map, List.getElem_range, List.getD_eq_getElem?_getD, List.getElem?_eq_getElem (by omega)]
  rfl
abbrev eyeT : List Bool × Nat → Nat → Nat → Option ((List Bool × Nat) × Nat) := fun s _ m => eyeS s m
theorem eye_pos {l : List Bool} {a m : Nat} (v : Nat) (h : a + m ≤ l.length) : eyeT (l, a) v m = some ((l, a + m), valZ l a m) := by
 show eyeS (l, a) m = _
 unfold eyeS
 rw [if_pos h, valZ_take h]
theorem eye_neg {l : List Bool} {a m : Nat} (v : Nat) (h : ¬ a + m ≤ l.length) : eyeT (l, a) v m = none := by
 show eyeS (l, a) m = _
 unfold eyeS
 rw [if_neg h]
theorem span_pos {l : List Bool} {a m : Nat} (lo hi : Nat) (h : a + m + 2 ≤ l.length) : spanS eyeT (l, a) lo hi m = some ((l, a + m + 2), valZ l a m, valZ l a m + valZ l (a + m) 2) := by
 unfold spanS
 rw [eye_pos _ (by omega)]
 dsimp only
 rw [eye_pos _ (by omega)]
theorem span_neg {l : List Bool} {a m : Nat} (lo hi : Nat) (h : ¬ a + m + 2 ≤ l.length) : spanS eyeT (l, a) lo hi m = none := by
 unfold spanS
 by_cases h1 : a + m ≤ l.length
 ·rw [eye_pos _ h1]
  dsimp only
  rw [eye_neg _ h]
 ·rw [eye_neg _ h1]
def seamL (l : List Bool) (a : Nat) : List Nat := [valZ l a 5, valZ l (a + 5) 6]
def tickL (l : List Bool) (a : Nat) : List Nat := [valZ l a 2, valZ l (a + 2) 2, valZ l (a + 4) 5, valZ l (a + 4) 5 + valZ l (a + 9) 2, valZ l (a + 11) 5, valZ l (a + 11) 5 + valZ l (a + 16) 2, valZ l (a + 18) 6, valZ l (a + 18) 6 + valZ l (a + 24) 2]
theorem seam_eye (l : List Bool) (a : Nat) (x : Nat → Nat) : seamE eyeT (l, a) x = if a + 11 ≤ l.length then some ((l, a + 11), seamL l a) else none := by
 unfold seamE seamS
 by_cases h1 : a + 5 ≤ l.length
 ·rw [eye_pos _ h1]
  dsimp only
  by_cases h2 : a + 5 + 6 ≤ l.length
  ·rw [eye_pos _ h2, if_pos (by omega)]
   rfl
  ·rw [eye_neg _ h2, if_neg (by omega)]
 ·rw [eye_neg _ h1, if_neg (by omega)]
theorem tick_eye (l : List Bool) (a : Nat) (x : Nat → Nat) : ticketE eyeT (l, a) x = if a + 26 ≤ l.length then some ((l, a + 26), tickL l a) else none := by
 unfold ticketE ticketS
 by_cases h1 : a + 2 ≤ l.length
 case neg => rw [eye_neg _ h1, if_neg (by omega)]
 rw [eye_pos _ h1]
 dsimp only
 by_cases h2 : a + 2 + 2 ≤ l.length
 case neg => rw [eye_neg (a := a + 2) (m := 2) _ h2, if_neg (by omega)]
 rw [eye_pos (a := a + 2) (m := 2) _ h2]
 dsimp only
 by_cases h3 : a + 2 + 2 + 5 + 2 ≤ l.length
 case neg => rw [span_neg (a := a + 2 + 2) (m := 5) _ _ h3, if_neg (by omega)]
 rw [span_pos (a := a + 2 + 2) (m := 5) _ _ h3]
 dsimp only
 by_cases h4 : a + 2 + 2 + 5 + 2 + 5 + 2 ≤ l.length
 case neg => rw [span_neg (a := a + 2 + 2 + 5 + 2) (m := 5) _ _ h4, if_neg (by omega)]
 rw [span_pos (a := a + 2 + 2 + 5 + 2) (m := 5) _ _ h4]
 dsimp only
 by_cases h5 : a + 2 + 2 + 5 + 2 + 5 + 2 + 6 + 2 ≤ l.length
 case neg => rw [span_neg (a := a + 2 + 2 + 5 + 2 + 5 + 2) (m := 6) _ _ h5, if_neg (by omega)]
 rw [span_pos (a := a + 2 + 2 + 5 + 2 + 5 + 2) (m := 6) _ _ h5, if_pos (by omega)]
 rfl
def rowsL (f : Nat → List Nat) (a d k : Nat) (i : Nat) : Nat → Nat := if i < k then fun j => (f (a + i * d)).getD j 0 else fun _ => 0
theorem goS_eye {el : List Bool × Nat → (Nat → Nat) → Option ((List Bool × Nat) × List Nat)} {l : List Bool} {f : Nat → List Nat} {d : Nat} (hel : ∀ a x, el (l, a) x = if a + d ≤ l.length then some ((l, a + d), f a) else none) {a : Nat} (ha : a ≤ l.length) : ∀ k, goS el (l, a) (fun _ _ => 0) k = if a + k * d ≤ l.length then some ((l, a + k * d), rowsL f a d k) else none
 | 0 => by
  rw [if_pos (by omega)]
  simp only [goS, Nat.zero_mul, Nat.add_zero]
  rfl
 | k + 1 => by
  have e : a + (k + 1) * d = a + k * d + d := by rw [Nat.succ_mul]; omega
  rw [e]
  unfold goS
  rw [goS_eye hel ha k]
  by_cases h : a + k * d ≤ l.length
  ·rw [if_pos h]
   dsimp only
   rw [hel]
   by_cases h2 : a + k * d + d ≤ l.length
   ·rw [if_pos h2, if_pos h2]
    dsimp only
    congr 2
    funext i
    unfold rowsL
    by_cases c : i = k
    ·subst c
     rw [if_pos rfl, if_pos (by omega)]
    ·rw [if_neg c]
     by_cases c2 : i < k
     ·rw [if_pos c2, if_pos (by omega)]
     ·rw [if_neg c2, if_neg (by omega)]
   ·rw [if_neg h2, if_neg h2]
  ·rw [if_neg h, if_neg (by omega)]
def refW (l : List Bool) : WagesV := ⟨valZ l 0 3, valZ l 3 2, rowsL (seamL l) 5 11 (valZ l 3 2), valZ l (5 + valZ l 3 2 * 11) 3, rowsL (tickL l) (5 + valZ l 3 2 * 11 + 3) 26 (valZ l (5 + valZ l 3 2 * 11) 3)⟩
theorem wagesS_eye (l : List Bool) : wagesS eyeT (l, 0) zeroW = if 8 + (refW l).sn * 11 + (refW l).tn * 26 ≤ l.length then some ((l, 8 + (refW l).sn * 11 + (refW l).tn * 26), refW l) else none := by
 have e1 : (refW l).sn = valZ l 3 2 := rfl
 have e2 : (refW l).tn = valZ l (5 + valZ l 3 2 * 11) 3 := rfl
 rw [e1, e2]
 unfold wagesS
 by_cases h1 : 0 + 3 ≤ l.length
 case neg => rw [eye_neg _ h1, if_neg (by omega)]
 rw [eye_pos _ h1]
 dsimp only
 unfold sevS
 by_cases h2 : 0 + 3 + 2 ≤ l.length
 case neg => rw [eye_neg _ h2, if_neg (by omega)]
 rw [eye_pos _ h2]
 dsimp only
 rw [show (if valZ l (0 + 3) 2 = zeroW.sn then zeroW.S else fun _ _ => 0) = fun _ _ => 0 from by split <;> rfl, goS_eye (seam_eye l) (by omega)]
 by_cases h3 : 0 + 3 + 2 + valZ l (0 + 3) 2 * 11 ≤ l.length
 case neg => rw [if_neg h3, if_neg (by simp only [Nat.zero_add] at h3; omega)]
 rw [if_pos h3]
 dsimp only
 by_cases h4 : 0 + 3 + 2 + valZ l (0 + 3) 2 * 11 + 3 ≤ l.length
 case neg => rw [eye_neg _ h4, if_neg (by simp only [Nat.zero_add] at h4; omega)]
 rw [eye_pos _ h4]
 dsimp only
 rw [show (if valZ l (0 + 3 + 2 + valZ l (0 + 3) 2 * 11) 3 = zeroW.tn then zeroW.T else fun _ _ => 0) = fun _ _ => 0 from by split <;> rfl, goS_eye (tick_eye l) (by omega)]
 simp only [Nat.zero_add, Nat.reduceAdd] at h4 ⊢
 by_cases h5 : 5 + valZ l 3 2 * 11 + 3 + valZ l (5 + valZ l 3 2 * 11) 3 * 26 ≤ l.length
 case neg => rw [if_neg h5, if_neg (by omega)]
 rw [if_pos h5, if_pos (by omega)]
 dsimp only
 rw [show 5 + valZ l 3 2 * 11 + 3 + valZ l (5 + valZ l 3 2 * 11) 3 * 26 = 8 + valZ l 3 2 * 11 + valZ l (5 + valZ l 3 2 * 11) 3 * 26 by omega]
 rfl
def bitsL (n : Nat) (g : Nat → Nat) : List Bool := (List.range (8 * n)).map (unpB g)
theorem bitsL_len (n : Nat) (g : Nat → Nat) : (bitsL n g).length = 8 * n := by simp [bitsL]
def refReadW (L : Nat) (g : Nat → Nat) : Int × WagesV :=
 if 1000 < L then (3, zeroW) else match contN L with
 | none => (8, zeroW)
 | some n => if eqB (szB n) L (sealB g n) g then
   (if wagesVB (refW (bitsL n g)) && eqB (szB (bookN (refW (bitsL n g)))) L (bookB (refW (bitsL n g))) g then (0, refW (bitsL n g)) else (8, zeroW))
  else (10, zeroW)
theorem contN_sz {L n : Nat} (h : contN L = some n) : 0 < n ∧ szB n = L := by
 unfold contN at h
 have := List.find?_some h
 simpa using this
theorem refRead_eq (L : Nat) (g : Nat → Nat) : refReadW L g = readW L g := by
 unfold refReadW readW
 split
 ·rfl
 ·cases hc : contN L with
  | none => rfl
  | some n =>
   dsimp only
   split
   ·have h := wagesS_eye (bitsL n g)
    have hb : bitsW n g = wagesS eyeT (bitsL n g, 0) zeroW := rfl
    rw [hb, h, bitsL_len]
    by_cases c : 8 + (refW (bitsL n g)).sn * 11 + (refW (bitsL n g)).tn * 26 ≤ 8 * n
    ·rw [if_pos c]
    ·rw [if_neg c]
     dsimp only
     rw [if_neg]
     intro e
     simp only [Bool.and_eq_true] at e
     have h1 := (eqB_iff.1 e.2).1
     have h2 := (contN_sz hc).2
     unfold bookN rowsB at h1
     rw [wageBits_len] at h1
     unfold szB at h1 h2
     omega
   ·rfl
theorem refW_is {l : List Bool} {cr sn tn o : Nat} (h1 : valZ l 0 3 = cr) (h2 : valZ l 3 2 = sn) (h3 : valZ l (5 + sn * 11) 3 = tn) (h4 : 8 + sn * 11 = o) : refW l = ⟨cr, sn, rowsL (seamL l) 5 11 sn, tn, rowsL (tickL l) o 26 tn⟩ := by
 unfold refW
 rw [h2, h1, h3, show 5 + sn * 11 + 3 = o by omega]
theorem wagesV_of (x : WagesV) : wagesV x.cr (castW x.S) x.sn (castW x.T) x.tn = x := by
 obtain ⟨cr, sn, S, tn, T⟩ := x
 simp [wagesV, castW]
theorem small_valid {x : WagesV} (h : wagesVB x = true) : SmallW x := by
 have := (wages_ok h).small
 rwa [wagesV_of] at this
theorem valH_fold (l : List Bool) : ∀ n, l.foldl (fun n b => 2 * n + if b then 1 else 0) n = n * 2 ^ l.length + valH l := by
 unfold valH
 induction l with
 | nil => intro n; simp
 | cons b l ih =>
  intro n
  simp only [List.foldl_cons, List.length_cons]
  rw [ih, ih (2 * 0 + if b = true then 1 else 0), Nat.pow_succ]
  have e : (2 * n + if b = true then 1 else 0) * 2 ^ l.length = 2 * (n * 2 ^ l.length) + (if b = true then 1 else 0) * 2 ^ l.length := by rw [Nat.add_mul, Nat.mul_assoc]
  have e2 : n * (2 ^ l.length * 2) = 2 * (n * 2 ^ l.length) := by rw [← Nat.mul_assoc, Nat.mul_comm]
  rw [e, e2, Nat.mul_zero, Nat.zero_add]
  omega
theorem valH_bits (v : Nat) : ∀ m, valH (bitsH v m) = v % 2 ^ m
 | 0 => by simp [bitsH, valH, Nat.mod_one]
 | m + 1 => by
  show (bitsH v m).foldl _ (2 * 0 + if (v / 2 ^ m % 2 == 1) then 1 else 0) = _
  rw [valH_fold, bitsH_len, valH_bits v m, Nat.mod_pow_succ]
  have : (2 * 0 + if (v / 2 ^ m % 2 == 1) = true then 1 else 0) = v / 2 ^ m % 2 := by
   rcases Nat.mod_two_eq_zero_or_one (v / 2 ^ m) with h | h <;> rw [h] <;> rfl
  rw [this, Nat.mul_comm, Nat.add_comm]
theorem valZ_at {l A C : List Bool} {v m a : Nat} (h : l = A ++ (bitsH v m ++ C)) (ha : a = A.length) (hv : v < 2 ^ m) : valZ l a m = v := by
 subst ha
 rw [← valZ_take (by rw [h]; simp only [List.length_append, bitsH_len]; omega), h, List.drop_left, List.take_append_of_le_length (by rw [bitsH_len]; exact Nat.le_refl _), List.take_of_length_le (by rw [bitsH_len]; exact Nat.le_refl _), valH_bits, Nat.mod_eq_of_lt hv]
theorem listBits_split (f : (Nat → Nat) → List Bool) (X : Nat → Nat → Nat) : ∀ {n i : Nat}, i < n → ∃ C, listBits f X n = listBits f X i ++ (f (X i) ++ C)
 | 0, _, h => by omega
 | n + 1, i, h => by
  by_cases e : i = n
  ·subst e
   exact ⟨[], by simp [listBits]⟩
  ·obtain ⟨C, hC⟩ := listBits_split f X (show i < n by omega)
   exact ⟨C ++ f (X n), by simp only [listBits, hC, List.append_assoc]⟩
structure SameW (x y : WagesV) : Prop where
 cr : x.cr = y.cr
 sn : x.sn = y.sn
 tn : x.tn = y.tn
 s : ∀ i, i < y.sn → ∀ j, j < 2 → x.S i j = y.S i j
 t : ∀ i, i < y.tn → ∀ j, j < 8 → x.T i j = y.T i j
theorem listBits_congr {f : (Nat → Nat) → List Bool} {z : Nat} (hf : ∀ x y : Nat → Nat, (∀ j, j < z → x j = y j) → f x = f y) {X Y : Nat → Nat → Nat} : ∀ n, (∀ i, i < n → ∀ j, j < z → X i j = Y i j) → listBits f X n = listBits f Y n
 | 0, _ => rfl
 | n + 1, h => by
  simp only [listBits]
  rw [listBits_congr hf n (fun i hi => h i (by omega)), hf _ _ (h n (by omega))]
theorem SameW.bits {x y : WagesV} (h : SameW x y) : wageBits x = wageBits y := by
 unfold wageBits
 rw [h.cr, h.sn, h.tn, listBits_congr (z := 2) (fun x y e => by unfold seamBits; rw [e 0 (by omega), e 1 (by omega)]) _ h.s,
  listBits_congr (z := 8) (fun x y e => by unfold tickBits; rw [e 0 (by omega), e 1 (by omega), e 2 (by omega), e 3 (by omega), e 4 (by omega), e 5 (by omega), e 6 (by omega), e 7 (by omega)]) _ h.t]
theorem SameW.book {x y : WagesV} (h : SameW x y) : bookN x = bookN y ∧ bookB x = bookB y := by
 unfold bookB bookG bookN
 rw [h.bits]
 exact ⟨rfl, rfl⟩
theorem allB_congr {p q : Nat → Bool} {n : Nat} (h : ∀ i, i < n → p i = q i) : allB p n = allB q n := by
 rw [Bool.eq_iff_iff, allB_iff, allB_iff]
 exact ⟨fun k i hi => by rw [← h i hi]; exact k i hi, fun k i hi => by rw [h i hi]; exact k i hi⟩
theorem SameW.valid {x y : WagesV} (h : SameW x y) (hy : wagesVB y = true) : wagesVB x = true := by
 have ok := wages_ok hy
 unfold wagesVB wagesB at hy ⊢
 rw [h.cr, h.sn, h.tn]
 rw [allB_congr (p := fun i => okSm (castW x.S i)) (q := fun i => okSm (castW y.S i)) (fun i hi => by unfold okSm castW; rw [h.s i hi 0 (by omega), h.s i hi 1 (by omega)]),
  allB_congr (p := fun i => okTk y.cr y.sn (castW x.S) (castW x.T i)) (q := fun i => okTk y.cr y.sn (castW y.S) (castW y.T i)) (fun i hi => by
   have h1 := (ok.t i hi).2.1
   have e1 : x.T i 1 = y.T i 1 := h.t i hi 1 (by omega)
   have e2 : castW x.S (castW x.T i 1).toNat 0 = castW y.S (castW y.T i 1).toNat 0 := by
    unfold castW
    rw [e1]
    have h2 : y.T i 1 < y.sn := by unfold castW at h1; omega
    rw [Int.toNat_natCast, h.s _ h2 0 (by omega)]
   unfold okTk
   rw [e2]
   unfold castW
   rw [h.t i hi 0 (by omega), h.t i hi 1 (by omega), h.t i hi 2 (by omega), h.t i hi 3 (by omega), h.t i hi 4 (by omega), h.t i hi 5 (by omega), h.t i hi 6 (by omega), h.t i hi 7 (by omega)])]
 exact hy
theorem len_bit {c d : Nat} (hc : c < 8) (hd : d < 8) : (128 / 2 ^ c).testBit (7 - d) = decide (d = c) := by
 have key : ∀ c d : Fin 8, (128 / 2 ^ c.val).testBit (7 - d.val) = decide (d.val = c.val) := by decide +kernel
 exact key ⟨c, hc⟩ ⟨d, hd⟩
theorem pk_bit (r : Nat → Bool) (k : Nat) {c : Nat} (hc : c < 8) : ∀ n, (pkB r n k).testBit (7 - c) = (decide (8 * k + c < n) && r (8 * k + c))
 | 0 => by simp [pkB]
 | n + 1 => by
  rw [pk_xor, Nat.testBit_xor, pk_bit r k hc n]
  unfold tmB
  by_cases h : n / 8 = k ∧ r n = true
  ·rw [if_pos h, len_bit (Nat.mod_lt _ (by omega)) hc]
   by_cases e : 8 * k + c = n
   ·rw [e, h.2, decide_eq_false (show ¬ n < n by omega), decide_eq_true (show n < n + 1 by omega), decide_eq_true (show c = n % 8 by omega)]
    rfl
   ·rw [decide_eq_false (show ¬ c = n % 8 by omega), Bool.xor_false]
    congr 1
    exact decide_eq_decide.2 (by omega)
  ·rw [if_neg h, Nat.zero_testBit, Bool.xor_false]
   by_cases e : 8 * k + c = n
   ·have hr : r n = false := by
     cases hr : r n with
     | false => rfl
     | true => exact absurd ⟨by omega, hr⟩ h
    rw [e, hr, Bool.and_false, Bool.and_false]
   ·congr 1
    exact decide_eq_decide.2 (by omega)
theorem unp_pk (r : Nat → Bool) (n i : Nat) : unpB (pkB r n) i = (decide (i < n) && r i) := by
 have := pk_bit r (i / 8) (show i % 8 < 8 by omega) n
 rw [show 8 * (i / 8) + i % 8 = i by omega] at this
 rw [← this, Nat.testBit_eq_decide_div_mod_eq]
 unfold unpB
 rw [Bool.eq_iff_iff, beq_iff_eq, decide_eq_true_eq]
theorem book_head (x : WagesV) {j : Nat} (h : j < bookN x) : bookB x j = bookG x j := by unfold bookB sealB; rw [if_pos h]
theorem bits_book (x : WagesV) : bitsL (bookN x) (bookB x) = wageBits x ++ List.replicate (8 * bookN x - (wageBits x).length) false := by
 have hlen : (wageBits x).length ≤ 8 * bookN x := by unfold bookN rowsB; omega
 apply List.ext_getElem
 ·rw [bitsL_len, List.length_append, List.length_replicate]; omega
 ·intro i h1 h2
  rw [bitsL_len] at h1
  rw [show (bitsL (bookN x) (bookB x))[i] = unpB (bookB x) i from by simp [bitsL]]
  have e : unpB (bookB x) i = unpB (bookG x) i := by unfold unpB; rw [book_head x (show i / 8 < bookN x by omega)]
  rw [e]
  unfold bookG
  rw [unp_pk]
  by_cases c : i < (wageBits x).length
  ·rw [decide_eq_true c, List.getElem_append_left c, List.getD_eq_getElem?_getD, List.getElem?_eq_getElem c]
   rfl
  ·rw [decide_eq_false c, List.getElem_append_right (by omega), List.getElem_replicate]
   rfl
theorem book_seal (x : WagesV) (k : Nat) : sealB (bookB x) (bookN x) k = bookB x k :=
 seal_congr (fun _ hj => book_head x hj) k
theorem wage_at {x : WagesV} {P : List Bool} {A C : List Bool} {v m a : Nat} (h : wageBits x = A ++ (bitsH v m ++ C)) (ha : a = A.length) (hv : v < 2 ^ m) : valZ (wageBits x ++ P) a m = v :=
 valZ_at (C := C ++ P) (by rw [h]; simp only [List.append_assoc]) ha hv
theorem seam_around (x : WagesV) {i : Nat} (h : i < x.sn) : ∃ A C, wageBits x = A ++ (bitsH (x.S i 0) 5 ++ (bitsH (x.S i 1) 6 ++ C)) ∧ A.length = 5 + i * 11 := by
 obtain ⟨C, hC⟩ := listBits_split seamBits x.S h
 refine ⟨bitsH x.cr 3 ++ bitsH x.sn 2 ++ listBits seamBits x.S i, C ++ bitsH x.tn 3 ++ listBits tickBits x.T x.tn, ?_, ?_⟩
 ·unfold wageBits
  rw [hC]
  unfold seamBits
  simp only [List.append_assoc]
 ·simp only [List.length_append, bitsH_len, listBits_len seamBits_len]
theorem tick_around (x : WagesV) {i : Nat} (h : i < x.tn) : ∃ A C, wageBits x = A ++ (bitsH (x.T i 0) 2 ++ (bitsH (x.T i 1) 2 ++ (bitsH (x.T i 2) 5 ++ (bitsH (x.T i 3 - x.T i 2) 2 ++ (bitsH (x.T i 4) 5 ++ (bitsH (x.T i 5 - x.T i 4) 2 ++ (bitsH (x.T i 6) 6 ++ (bitsH (x.T i 7 - x.T i 6) 2 ++ C)))))))) ∧ A.length = 8 + x.sn * 11 + i * 26 := by
 obtain ⟨C, hC⟩ := listBits_split tickBits x.T h
 refine ⟨bitsH x.cr 3 ++ bitsH x.sn 2 ++ listBits seamBits x.S x.sn ++ bitsH x.tn 3 ++ listBits tickBits x.T i, C, ?_, ?_⟩
 ·unfold wageBits
  rw [hC]
  unfold tickBits spanBits
  simp only [List.append_assoc]
 ·simp only [List.length_append, bitsH_len, listBits_len seamBits_len, listBits_len tickBits_len]
  omega
theorem refW_book {x : WagesV} (hv : wagesVB x = true) (P : List Bool) : SameW (refW (wageBits x ++ P)) x := by
 have ok := wages_ok hv
 have o1 := ok.hcr
 have o2 := ok.hsn
 have o3 := ok.htn
 have OS := ok.s
 have OT := ok.t
 clear ok hv
 unfold castW at OS OT
 have ecr : valZ (wageBits x ++ P) 0 3 = x.cr := by
  refine wage_at (A := []) (C := bitsH x.sn 2 ++ listBits seamBits x.S x.sn ++ bitsH x.tn 3 ++ listBits tickBits x.T x.tn) ?_ ?_ ?_
  ·unfold wageBits; simp only [List.append_assoc, List.nil_append]
  ·rfl
  ·omega
 have esn : valZ (wageBits x ++ P) 3 2 = x.sn := by
  refine wage_at (A := bitsH x.cr 3) (C := listBits seamBits x.S x.sn ++ bitsH x.tn 3 ++ listBits tickBits x.T x.tn) ?_ ?_ ?_
  ·unfold wageBits; simp only [List.append_assoc]
  ·rw [bitsH_len]
  ·omega
 have etn : valZ (wageBits x ++ P) (5 + x.sn * 11) 3 = x.tn := by
  refine wage_at (A := bitsH x.cr 3 ++ bitsH x.sn 2 ++ listBits seamBits x.S x.sn) (C := listBits tickBits x.T x.tn) ?_ ?_ ?_
  ·unfold wageBits; simp only [List.append_assoc]
  ·simp only [List.length_append, bitsH_len, listBits_len seamBits_len]
  ·omega
 rw [refW_is ecr esn etn (o := 8 + x.sn * 11) rfl]
 refine ⟨rfl, rfl, rfl, fun i hi j hj => ?_, fun i hi j hj => ?_⟩
 ·dsimp only
  unfold rowsL
  rw [if_pos hi]
  obtain ⟨A, C, hA, hl⟩ := seam_around x hi
  have hs := OS i hi
  have e0 : valZ (wageBits x ++ P) (5 + i * 11) 5 = x.S i 0 := by
   refine wage_at hA hl.symm ?_
   omega
  have e1 : valZ (wageBits x ++ P) (5 + i * 11 + 5) 6 = x.S i 1 := by
   refine wage_at (A := A ++ bitsH (x.S i 0) 5) (C := C) ?_ ?_ ?_
   ·rw [hA]; simp only [List.append_assoc]
   ·rw [List.length_append, bitsH_len, hl]
   ·omega
  rcases (show j = 0 ∨ j = 1 by omega) with rfl | rfl
  all_goals simp only [seamL, List.getD_cons_zero, List.getD_cons_succ]
  ·exact e0
  ·exact e1
 ·dsimp only
  unfold rowsL
  rw [if_pos hi]
  obtain ⟨A, C, hA, hl⟩ := tick_around x hi
  have ht := OT i hi
  obtain ⟨t0, t1, t2, t3, t4⟩ := ht
  obtain ⟨o, ho⟩ : ∃ o, 8 + x.sn * 11 + i * 26 = o := ⟨_, rfl⟩
  have hlo : A.length = o := by omega
  rw [ho]
  have f0 : valZ (wageBits x ++ P) (o) 2 = x.T i 0 := by
   refine wage_at (A := A) hA ?_ ?_
   ·simp only [hlo]
   ·omega
  have f1 : valZ (wageBits x ++ P) (o + 2) 2 = x.T i 1 := by
   refine wage_at (A := A ++ bitsH (x.T i 0) 2) (by rw [hA]; simp only [List.append_assoc]; rfl) ?_ ?_
   ·simp only [List.length_append, bitsH_len, hlo]
   ·omega
  have f2 : valZ (wageBits x ++ P) (o + 4) 5 = x.T i 2 := by
   refine wage_at (A := A ++ bitsH (x.T i 0) 2 ++ bitsH (x.T i 1) 2) (by rw [hA]; simp only [List.append_assoc]; rfl) ?_ ?_
   ·simp only [List.length_append, bitsH_len, hlo]
   ·omega
  have f3 : valZ (wageBits x ++ P) (o + 9) 2 = x.T i 3 - x.T i 2 := by
   refine wage_at (A := A ++ bitsH (x.T i 0) 2 ++ bitsH (x.T i 1) 2 ++ bitsH (x.T i 2) 5) (by rw [hA]; simp only [List.append_assoc]; rfl) ?_ ?_
   ·simp only [List.length_append, bitsH_len, hlo]
   ·omega
  have f4 : valZ (wageBits x ++ P) (o + 11) 5 = x.T i 4 := by
   refine wage_at (A := A ++ bitsH (x.T i 0) 2 ++ bitsH (x.T i 1) 2 ++ bitsH (x.T i 2) 5 ++ bitsH (x.T i 3 - x.T i 2) 2) (by rw [hA]; simp only [List.append_assoc]; rfl) ?_ ?_
   ·simp only [List.length_append, bitsH_len, hlo]
   ·omega
  have f5 : valZ (wageBits x ++ P) (o + 16) 2 = x.T i 5 - x.T i 4 := by
   refine wage_at (A := A ++ bitsH (x.T i 0) 2 ++ bitsH (x.T i 1) 2 ++ bitsH (x.T i 2) 5 ++ bitsH (x.T i 3 - x.T i 2) 2 ++ bitsH (x.T i 4) 5) (by rw [hA]; simp only [List.append_assoc]; rfl) ?_ ?_
   ·simp only [List.length_append, bitsH_len, hlo]
   ·omega
  have f6 : valZ (wageBits x ++ P) (o + 18) 6 = x.T i 6 := by
   refine wage_at (A := A ++ bitsH (x.T i 0) 2 ++ bitsH (x.T i 1) 2 ++ bitsH (x.T i 2) 5 ++ bitsH (x.T i 3 - x.T i 2) 2 ++ bitsH (x.T i 4) 5 ++ bitsH (x.T i 5 - x.T i 4) 2) (by rw [hA]; simp only [List.append_assoc]; rfl) ?_ ?_
   ·simp only [List.length_append, bitsH_len, hlo]
   ·omega
  have f7 : valZ (wageBits x ++ P) (o + 24) 2 = x.T i 7 - x.T i 6 := by
   refine wage_at (A := A ++ bitsH (x.T i 0) 2 ++ bitsH (x.T i 1) 2 ++ bitsH (x.T i 2) 5 ++ bitsH (x.T i 3 - x.T i 2) 2 ++ bitsH (x.T i 4) 5 ++ bitsH (x.T i 5 - x.T i 4) 2 ++ bitsH (x.T i 6) 6) (by rw [hA]; simp only [List.append_assoc]; rfl) ?_ ?_
   ·simp only [List.length_append, bitsH_len, hlo]
   ·omega
  rcases (show j = 0 ∨ j = 1 ∨ j = 2 ∨ j = 3 ∨ j = 4 ∨ j = 5 ∨ j = 6 ∨ j = 7 by omega) with rfl | rfl | rfl | rfl | rfl | rfl | rfl | rfl
  all_goals simp only [tickL, List.getD_cons_zero, List.getD_cons_succ]
  ·exact f0
  ·exact f1
  ·exact f2
  ·rw [f2, f3]; omega
  ·exact f4
  ·rw [f4, f5]; omega
  ·exact f6
  ·rw [f6, f7]; omega
theorem read_book {x : WagesV} (hv : wagesVB x = true) : ∃ y, readW (szB (bookN x)) (bookB x) = (0, y) ∧ SameW y x := by
 have hs := bookN_le (small_valid hv)
 have hb := refW_book hv (List.replicate (8 * bookN x - (wageBits x).length) false)
 rw [← bits_book] at hb
 refine ⟨refW (bitsL (bookN x) (bookB x)), ?_, hb⟩
 have hl : ¬ 1000 < szB (bookN x) := by
  have h1 := (small_valid hv).sn
  have ok := wages_ok hv
  have h2 := ok.hsn
  have h3 := ok.htn
  have h4 := wageBits_len x
  unfold szB bookN rowsB
  omega
 rw [← refRead_eq]
 unfold refReadW
 rw [if_neg hl, contN_some hs.1]
 dsimp only
 rw [if_pos (eqB_iff.2 ⟨rfl, fun k _ => book_seal x k⟩), hb.valid hv, hb.book.1, hb.book.2, eqB_iff.2 ⟨rfl, fun _ _ => rfl⟩]
 rfl
end Go.Proofs.YtclbmlmlhiiaeaaGreatDoor
