/-
  Plain law: each fathom goes to the first ticket that has it, by tides, then by numbers.
-/
import Derived.Test.YtbpeamppkdmdcaaW6
import Derived.Test.YtbpeamppkdmdcaaM1
namespace Go.Proofs.Ytbpeamppkdmdcaa
open Go.RowKit

/-- Does ticket i have the fathom f of seam s? -/
def hasB (T : Nat → Tk) (K : Nat → Kn) (s : Int) (f : Nat) (i : Nat) : Bool := decide ((T i).seam = s) && decide ((K i).fr ≤ f) && decide ((f : Int) < (K i).to)

/-- The first ticket that has it, by tides, then by numbers. -/
def best (T : Nat → Tk) (K : Nat → Kn) (s : Int) (f : Nat) : Nat → Option Nat
  | 0 => none
  | n + 1 =>
    match best T K s f n with
    | none => if hasB T K s f n then some n else none
    | some b => if hasB T K s f n && decide ((K n).td < (K b).td) then some n else some b

/-- The first one in an order. -/
def firstIn (T : Nat → Tk) (K : Nat → Kn) (s : Int) (f : Nat) (g : Nat → Nat) : Nat → Option Nat
  | 0 => none
  | m + 1 =>
    match firstIn T K s f g m with
    | some i => some i
    | none => if hasB T K s f (g m) then some (g m) else none

def crewOf (T : Nat → Tk) : Option Nat → Int
  | none => -1
  | some i => (T i).crew

/-- i is the first of those below n that have it. -/
def IsFirst (T : Nat → Tk) (K : Nat → Kn) (s : Int) (f n : Nat) : Option Nat → Prop
  | none => ∀ j, j < n → hasB T K s f j = false
  | some i => i < n ∧ hasB T K s f i = true ∧ ∀ j, j < n → hasB T K s f j = true → j = i ∨ lexlt (fun i => (K i).td) i j

theorem IsFirst.unique {T : Nat → Tk} {K : Nat → Kn} {s : Int} {f n : Nat} : ∀ {a b : Option Nat}, IsFirst T K s f n a → IsFirst T K s f n b → a = b
  | none, none, _, _ => rfl
  | none, some j, h, k => by have := h j k.1; rw [k.2.1] at this; cases this
  | some i, none, h, k => by have := k i h.1; rw [h.2.1] at this; cases this
  | some i, some j, h, k => by
    have h1 := h.2.2 j k.1 k.2.1
    have h2 := k.2.2 i h.1 h.2.1
    unfold lexlt at h1 h2
    congr 1
    omega

theorem best_isFirst (T : Nat → Tk) (K : Nat → Kn) (s : Int) (f : Nat) : ∀ n, IsFirst T K s f n (best T K s f n)
  | 0 => fun j h => by omega
  | n + 1 => by
    have ih := best_isFirst T K s f n
    unfold best
    cases hb : best T K s f n with
    | none =>
      rw [hb] at ih
      simp only
      by_cases hh : hasB T K s f n = true
      · rw [if_pos hh]
        refine ⟨by omega, hh, fun j hj hhj => ?_⟩
        by_cases e : j = n
        · exact .inl e
        · have := ih j (by omega); rw [hhj] at this; cases this
      · rw [if_neg hh]
        intro j hj
        by_cases e : j = n
        · rw [e]; simpa using hh
        · exact ih j (by omega)
    | some b =>
      rw [hb] at ih
      simp only
      obtain ⟨h1, h2, h3⟩ := ih
      by_cases hh : (hasB T K s f n && decide ((K n).td < (K b).td)) = true
      · rw [if_pos hh]
        simp only [Bool.and_eq_true, decide_eq_true_eq] at hh
        refine ⟨by omega, hh.1, fun j hj hhj => ?_⟩
        by_cases e : j = n
        · exact .inl e
        · have := h3 j (by omega) hhj
          right
          unfold lexlt at *
          rcases this with rfl | h
          · exact .inl hh.2
          · have := hh.2; simp only at h ⊢; omega
      · rw [if_neg hh]
        refine ⟨by omega, h2, fun j hj hhj => ?_⟩
        by_cases e : j = n
        · subst e
          right
          simp only [hhj, Bool.true_and, decide_eq_true_eq] at hh
          unfold lexlt
          have : (K b).td ≤ (K j).td := by omega
          simp only
          omega
        · exact h3 j (by omega) hhj

theorem firstIn_spec (T : Nat → Tk) (K : Nat → Kn) (s : Int) (f : Nat) (g : Nat → Nat) : ∀ m,
    match firstIn T K s f g m with
    | none => ∀ a, a < m → hasB T K s f (g a) = false
    | some i => ∃ a, a < m ∧ i = g a ∧ hasB T K s f i = true ∧ ∀ b, b < a → hasB T K s f (g b) = false
  | 0 => fun a h => by omega
  | m + 1 => by
    have ih := firstIn_spec T K s f g m
    unfold firstIn
    cases hb : firstIn T K s f g m with
    | some i =>
      rw [hb] at ih
      obtain ⟨a, h1, h2⟩ := ih
      exact ⟨a, by omega, h2⟩
    | none =>
      rw [hb] at ih
      simp only at ih ⊢
      by_cases hh : hasB T K s f (g m) = true
      · rw [if_pos hh]
        exact ⟨m, by omega, rfl, hh, fun b hb => ih b hb⟩
      · rw [if_neg hh]
        intro a ha
        by_cases e : a = m
        · rw [e]; simpa using hh
        · exact ih a (by omega)

theorem firstIn_isFirst {T : Nat → Tk} {K : Nat → Kn} {g : Nat → Nat} {n : Nat} (h : Pre (fun i => (K i).td) n n g) (s : Int) (f : Nat) : IsFirst T K s f n (firstIn T K s f g n) := by
  have hs := firstIn_spec T K s f g n
  cases hb : firstIn T K s f g n with
  | none =>
    rw [hb] at hs
    intro j hj
    obtain ⟨a, h1, h2⟩ := h.onto j hj
    rw [← h2]
    exact hs a h1
  | some i =>
    rw [hb] at hs
    obtain ⟨a, h1, h2, h3, h4⟩ := hs
    refine ⟨by rw [h2]; exact h.lt a h1, h3, fun j hj hhj => ?_⟩
    obtain ⟨b, e1, e2⟩ := h.onto j hj
    by_cases e : a = b
    · left; rw [h2, ← e2, e]
    · right
      rcases Nat.lt_or_ge a b with hab | hab
      · rw [h2, ← e2]; exact h.srt a b hab e1
      · have := h4 b (by omega)
        rw [e2, hhj] at this
        cases this

theorem firstIn_best {T : Nat → Tk} {K : Nat → Kn} {g : Nat → Nat} {n : Nat} (h : Pre (fun i => (K i).td) n n g) (s : Int) (f : Nat) : firstIn T K s f g n = best T K s f n :=
  (firstIn_isFirst h s f).unique (best_isFirst T K s f n)

/-! The bits. -/
theorem fmask_bit (a b : Int) (h0 : 0 ≤ a) (h1 : 0 ≤ b) (f : Nat) : (fmask a b).testBit f = (decide (a ≤ f) && decide ((f : Int) < b)) := by
  obtain ⟨a, rfl⟩ := Int.eq_ofNat_of_zero_le h0
  obtain ⟨b, rfl⟩ := Int.eq_ofNat_of_zero_le h1
  unfold fmask
  split
  · rename_i h
    simp
    omega
  · rename_i h
    simp only [Int.toNat_natCast]
    have e : 2 ^ b - 2 ^ a = 2 ^ a * (2 ^ (b - a) - 1) := by
      rw [Nat.mul_sub, ← Nat.pow_add, show a + (b - a) = b by omega, Nat.mul_one]
    rw [e, Nat.testBit_two_pow_mul, Nat.testBit_two_pow_sub_one, Bool.eq_iff_iff]
    simp
    omega
theorem full_bit (n f : Nat) : (2 ^ n - 1).testBit f = decide (f < n) := Nat.testBit_two_pow_sub_one n f
theorem not_bit (n f : Nat) (hn : n < 1048576) (hf : f < 32) : (4294967295 - n).testBit f = !n.testBit f := by
  have e : 4294967295 - n = 2 ^ 32 - (n + 1) := by omega
  rw [e, Nat.testBit_two_pow_sub_succ (by omega)]
  simp [hf]
theorem small_bit (n f : Nat) (hn : n < 1048576) (hf : 32 ≤ f) : n.testBit f = false :=
  Nat.testBit_lt_two_pow (Nat.lt_of_lt_of_le hn (Nat.le_trans (show 1048576 ≤ 2 ^ 32 by decide) (Nat.pow_le_pow_right (by omega) hf)))
theorem but_bit (m n f : Nat) (hm : m < 1048576) (hn : n < 1048576) : (m &&& (4294967295 - n)).testBit f = (m.testBit f && !n.testBit f) := by
  rw [Nat.testBit_and]
  rcases Nat.lt_or_ge f 32 with h | h
  · rw [not_bit n f hn h]
  · rw [small_bit m f hm h]; simp

/-- In a world of m tickets in the order g: whose each fathom is. -/
theorem foldG_bit {S : Nat → Sm} {sn : Nat} {T : Nat → Tk} {K : Nat → Kn} {g : Nat → Nat} {tn : Nat} (hs : ∀ j, j < sn → 0 ≤ (S j).fat ∧ (S j).fat ≤ 20) (hsn : sn ≤ 3)
    (hT : ∀ i, i < tn → TkOk sn (T i)) (hK : ∀ i, i < tn → KnOk (K i)) (hg : ∀ m, m < tn → g m < tn) {s : Int} (s0 : 0 ≤ s) (s1 : s < sn) (c : Int) (hc : -1 ≤ c) (f : Nat) :
    ∀ m, m ≤ tn → (foldG S sn T K g m s c).testBit f = (decide ((f : Int) < (S s.toNat).fat) && decide (crewOf T (firstIn T K s f g m) = c))
  | 0, _ => by
    have h1 := hs s.toNat (by omega)
    unfold foldG firstIn crewOf seamG
    by_cases e : c = -1
    · subst e
      rw [if_pos ⟨rfl, s0, s1⟩, full_bit, Bool.eq_iff_iff]
      simp
    · rw [if_neg (fun h => e h.1)]
      simp
      omega
  | m + 1, hm => by
    have ih := fun c hc => foldG_bit hs hsn hT hK hg s0 s1 c hc f m (by omega)
    have hsm := SmallG.fold S sn T K g hs m
    have hgm := hg m (by omega)
    have ht := hT _ hgm
    have hk := hK _ hgm
    unfold foldG firstIn
    generalize foldG S sn T K g m = G at *
    generalize g m = i at *
    have hown := ownOf_lt hsm T K i
    by_cases es : (T i).seam = s
    · -- the ticket's own seam
      have hb : hasB T K s f i = (decide ((K i).fr ≤ f) && decide ((f : Int) < (K i).to)) := by simp [hasB, es]
      have ho : (ownOf T K i G).testBit f = (hasB T K s f i && (G s (-1)).testBit f) := by
        unfold ownOf
        rw [Nat.testBit_and, fmask_bit _ _ hk.f0 hk.t0, es, hb]
      have hL := ih (-1) (by omega)
      have hC := ih c hc
      have hfs := firstIn_spec T K s f g m
      have hcr := ht.c0
      have hval : (stepG T K i G s c).testBit f = if c = (T i).crew then (G s c).testBit f || (ownOf T K i G).testBit f else if c = -1 then (G s c).testBit f && !(ownOf T K i G).testBit f else (G s c).testBit f := by
        unfold stepG leftG upd
        rw [es]
        by_cases e1 : c = (T i).crew
        · subst e1
          rw [if_pos ⟨rfl, rfl⟩, if_pos rfl, if_neg (fun h => by have := h.2; omega), Nat.testBit_or]
        · rw [if_neg (fun h => e1 h.2), if_neg e1]
          by_cases e2 : c = -1
          · subst e2
            rw [if_pos ⟨rfl, rfl⟩, if_pos rfl, but_bit _ _ _ (hsm _ _) hown]
          · rw [if_neg (fun h => e2 h.2), if_neg e2]
      rw [hval, ho, hC, hL]
      cases hf : firstIn T K s f g m with
      | none =>
        simp only [crewOf]
        cases hh : hasB T K s f i
        · simp
          congr
        · simp only [if_true, Bool.true_and]
          by_cases e1 : c = (T i).crew
          · have : ¬ ((-1 : Int) = (T i).crew) := by omega
            simp [e1, this]
          · rw [if_neg e1]
            have e1' : ¬ (T i).crew = c := fun h => e1 h.symm
            by_cases e2 : c = -1
            · subst e2
              simp [e1']
            · have e2' : ¬ (-1 : Int) = c := fun h => e2 h.symm
              simp [e1', e2, e2']
      | some i0 =>
        rw [hf] at hfs
        obtain ⟨a, ha, ea, _⟩ := hfs
        have h0 := (hT i0 (by rw [ea]; exact hg a (by omega))).c0
        have hn : ¬ (T i0).crew = -1 := by omega
        simp [crewOf, hn]
    · have hb : hasB T K s f i = false := by simp [hasB, es]
      have e1 : stepG T K i G s c = G s c := by
        unfold stepG leftG upd
        rw [if_neg (fun h => es h.1.symm), if_neg (fun h => es h.1.symm)]
      rw [e1, ih c hc]
      cases firstIn T K s f g m <;> simp [hb]

/-- To whom the fathom f of seam s is due: a crew, or nobody (-1). -/
def ownerOf (T : Nat → Tk) (K : Nat → Kn) (tn : Nat) (s : Int) (f : Nat) : Int := crewOf T (best T K s f tn)
/-- How many of the first n numbers are so. -/
def cntP (p : Nat → Bool) : Nat → Nat
  | 0 => 0
  | n + 1 => cntP p n + if p n then 1 else 0
theorem cntP_congr {p q : Nat → Bool} : ∀ n, (∀ i, i < n → p i = q i) → cntP p n = cntP q n
  | 0, _ => rfl
  | n + 1, h => by
    simp only [cntP]
    rw [cntP_congr n (fun i hi => h i (by omega)), h n (by omega)]
theorem bitsum_cntP (n m : Nat) : bitsum n m = cntP (fun i => m.testBit i) n := by
  induction n with
  | zero => rfl
  | succ n ih => simp only [bitsum, cntP, ih]
theorem cntP_cut (p : Nat → Bool) (a : Nat) : ∀ n, a ≤ n → cntP (fun i => decide (i < a) && p i) n = cntP p a
  | 0, h => by
    obtain rfl : a = 0 := by omega
    rfl
  | n + 1, h => by
    simp only [cntP]
    by_cases e : a = n + 1
    · subst e
      simp only [cntP]
      rw [cntP_congr n (q := p) (fun i hi => by simp [show i < n + 1 by omega])]
      simp
    · rw [cntP_cut p a n (by omega)]
      simp [show ¬ n < a by omega]
/-- How many fathoms of seam s are due to crew c (-1: nobody). -/
def manyOf (S : Nat → Sm) (T : Nat → Tk) (K : Nat → Kn) (tn : Nat) (s c : Int) : Nat := cntP (fun f => decide (ownerOf T K tn s f = c)) (S s.toNat).fat.toNat

theorem foldG_bits {S : Nat → Sm} {sn : Nat} {T : Nat → Tk} {K : Nat → Kn} {g : Nat → Nat} {tn : Nat} (hs : ∀ j, j < sn → 0 ≤ (S j).fat ∧ (S j).fat ≤ 20) (hsn : sn ≤ 3)
    (hT : ∀ i, i < tn → TkOk sn (T i)) (hK : ∀ i, i < tn → KnOk (K i)) (hp : Pre (fun i => (K i).td) tn tn g) {s : Int} (s0 : 0 ≤ s) (s1 : s < sn) (c : Int) (hc : -1 ≤ c) (f : Nat) :
    (foldG S sn T K g tn s c).testBit f = (decide ((f : Int) < (S s.toNat).fat) && decide (ownerOf T K tn s f = c)) := by
  rw [foldG_bit hs hsn hT hK hp.lt s0 s1 c hc f tn (Nat.le_refl _), firstIn_best hp]
  rfl
theorem foldG_count {S : Nat → Sm} {sn : Nat} {T : Nat → Tk} {K : Nat → Kn} {g : Nat → Nat} {tn : Nat} (hs : ∀ j, j < sn → 0 ≤ (S j).fat ∧ (S j).fat ≤ 20) (hsn : sn ≤ 3)
    (hT : ∀ i, i < tn → TkOk sn (T i)) (hK : ∀ i, i < tn → KnOk (K i)) (hp : Pre (fun i => (K i).td) tn tn g) {s : Int} (s0 : 0 ≤ s) (s1 : s < sn) (c : Int) (hc : -1 ≤ c) :
    popc (foldG S sn T K g tn s c) = manyOf S T K tn s c := by
  have h1 := hs s.toNat (by omega)
  unfold popc manyOf
  rw [bitsum_cntP, ← cntP_cut _ (S s.toNat).fat.toNat 20 (by omega)]
  refine cntP_congr 20 fun i _ => ?_
  rw [foldG_bits hs hsn hT hK hp s0 s1 c hc i]
  congr 1
  rw [Bool.eq_iff_iff]
  simp
end Go.Proofs.Ytbpeamppkdmdcaa
