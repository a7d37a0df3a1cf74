/-
  Plain law: a ticket more; a ticket that has no fathom; a ticket known better.
-/
import Derived.Test.YtbpeamppkdmdcaaP4
import Derived.Test.YtbpeamppkdmdcaaG9
namespace Go.Proofs.Ytbpeamppkdmdcaa
open Go.RowKit

theorem updT_ne (T : Nat → Tk) (n : Nat) (t : Tk) {i : Nat} (h : i ≠ n) : updT T n t i = T i := by simp [updT, h]
theorem updT_eq (T : Nat → Tk) (n : Nat) (t : Tk) : updT T n t n = t := by simp [updT]
theorem best_succ (T : Nat → Tk) (K : Nat → Kn) (s : Int) (f n : Nat) : best T K s f (n + 1) = match best T K s f n with | none => if hasB T K s f n then some n else none | some b => if hasB T K s f n && decide ((K n).td < (K b).td) then some n else some b := rfl
/-- The best of the first tickets hangs on them alone. -/
theorem best_pre {T T' : Nat → Tk} {K K' : Nat → Kn} {s : Int} {f : Nat} : ∀ n, (∀ i, i < n → T' i = T i ∧ K' i = K i) → best T' K' s f n = best T K s f n
  | 0, _ => rfl
  | n + 1, h => by
    have ih := best_pre (s := s) (f := f) n (fun i hi => h i (by omega))
    have h1 := h n (by omega)
    have hb : hasB T' K' s f n = hasB T K s f n := by unfold hasB; rw [h1.1, h1.2]
    rw [best_succ, best_succ, ih, hb]
    cases hbest : best T K s f n with
    | none => rfl
    | some b =>
      have hl : b < n := best_lt hbest
      dsimp only
      rw [h1.2, (h b (by omega)).2]
theorem owner_add {T : Nat → Tk} {K K1 : Nat → Kn} {tn : Nat} {t : Tk} (hK : ∀ i, i < tn → K1 i = K i) (s : Int) (f : Nat) :
    ownerOf (updT T tn t) K1 (tn + 1) s f = ownerOf T K tn s f ∨ ownerOf (updT T tn t) K1 (tn + 1) s f = t.crew := by
  have hp := best_pre (T := T) (T' := updT T tn t) (K := K) (K' := K1) (s := s) (f := f) tn fun i hi => ⟨updT_ne _ _ _ (by omega), hK i hi⟩
  unfold ownerOf
  rw [best_succ, hp]
  cases hb : best T K s f tn with
  | none =>
    dsimp only
    split
    · right; simp [crewOf, updT]
    · left; rfl
  | some b =>
    have hl : b < tn := best_lt hb
    dsimp only
    split
    · right; simp [crewOf, updT]
    · left; simp only [crewOf]; rw [updT_ne _ _ _ (by omega)]
theorem most_add (c : Int) (T : Nat → Tk) (tn : Nat) (t : Tk) : ∀ i, i < tn → mostK c (updT T tn t) i = mostK c T i := fun i hi => by unfold mostK; rw [updT_ne _ _ _ (by omega)]
theorem least_add (c : Int) (T : Nat → Tk) (tn : Nat) (t : Tk) : ∀ i, i < tn → leastK c (updT T tn t) i = leastK c T i := fun i hi => by unfold leastK; rw [updT_ne _ _ _ (by omega)]
theorem many_own {S : Nat → Sm} {T : Nat → Tk} {K K1 : Nat → Kn} {tn : Nat} {t : Tk} (hK : ∀ i, i < tn → K1 i = K i) (s : Int) : manyOf S T K tn s t.crew ≤ manyOf S (updT T tn t) K1 (tn + 1) s t.crew :=
  cntP_imp _ fun f _ hf => by
    simp only [decide_eq_true_eq] at hf ⊢
    rcases owner_add (T := T) (t := t) hK s f with h | h
    · rw [h, hf]
    · exact h
theorem many_other {S : Nat → Sm} {T : Nat → Tk} {K K1 : Nat → Kn} {tn : Nat} {t : Tk} (hK : ∀ i, i < tn → K1 i = K i) (s : Int) {c : Int} (hc : c ≠ t.crew) : manyOf S (updT T tn t) K1 (tn + 1) s c ≤ manyOf S T K tn s c :=
  cntP_imp _ fun f _ hf => by
    simp only [decide_eq_true_eq] at hf ⊢
    rcases owner_add (T := T) (t := t) hK s f with h | h
    · rw [← h, hf]
    · exact absurd (hf.symm.trans h) hc
theorem coins_mono {S : Nat → Sm} {T T' : Nat → Tk} {K K' : Nat → Kn} {sn tn tn' : Nat} {c : Int} (hr : ∀ j, j < sn → 0 ≤ (S j).rate) (h : ∀ s : Nat, s < sn → manyOf S T K tn s c ≤ manyOf S T' K' tn' s c) : coinsOf S T K sn tn c ≤ coinsOf S T' K' sn tn' c :=
  sumF_mono _ fun s hs => Int.mul_le_mul_of_nonneg_right (by have := h s hs; omega) (hr s hs)
theorem coins_own {S : Nat → Sm} {T : Nat → Tk} {K K1 : Nat → Kn} {sn tn : Nat} {t : Tk} (hr : ∀ j, j < sn → 0 ≤ (S j).rate) (hK : ∀ i, i < tn → K1 i = K i) : coinsOf S T K sn tn t.crew ≤ coinsOf S (updT T tn t) K1 sn (tn + 1) t.crew :=
  coins_mono hr fun s _ => many_own hK s
theorem coins_other {S : Nat → Sm} {T : Nat → Tk} {K K1 : Nat → Kn} {sn tn : Nat} {t : Tk} (hr : ∀ j, j < sn → 0 ≤ (S j).rate) (hK : ∀ i, i < tn → K1 i = K i) {c : Int} (hc : c ≠ t.crew) : coinsOf S (updT T tn t) K1 sn (tn + 1) c ≤ coinsOf S T K sn tn c :=
  coins_mono hr fun s _ => many_other hK s hc

/-- A ticket that has no fathom. -/
def NoneOf (S : Nat → Sm) (t : Tk) : Prop := (S t.seam.toNat).fat ≤ t.fl ∧ (S t.seam.toNat).fat ≤ t.fh ∧ 0 ≤ t.seam
theorem none_has {S : Nat → Sm} {T : Nat → Tk} {K1 : Nat → Kn} {tn : Nat} {t : Tk} (hn : NoneOf S t) (hk : (K1 tn).fr = t.fl ∨ (K1 tn).fr = t.fh) {s f : Nat} (hf : (f : Int) < (S s).fat) : hasB (updT T tn t) K1 s f tn = false := by
  cases h : hasB (updT T tn t) K1 s f tn with
  | false => rfl
  | true =>
    obtain ⟨h1, h2, h3⟩ := hasB_iff.1 h
    rw [updT_eq] at h1
    obtain ⟨n0, n1, n2⟩ := hn
    have e : t.seam.toNat = s := by omega
    rw [e] at n0 n1
    omega
theorem none_owner {S : Nat → Sm} {T : Nat → Tk} {K K1 : Nat → Kn} {tn : Nat} {t : Tk} (hn : NoneOf S t) (hK : ∀ i, i < tn → K1 i = K i) (hk : (K1 tn).fr = t.fl ∨ (K1 tn).fr = t.fh) {s f : Nat} (hf : (f : Int) < (S s).fat) :
    ownerOf (updT T tn t) K1 (tn + 1) s f = ownerOf T K tn s f := by
  have hp := best_pre (T := T) (T' := updT T tn t) (K := K) (K' := K1) (s := s) (f := f) tn fun i hi => ⟨updT_ne _ _ _ (by omega), hK i hi⟩
  have hh := none_has (T := T) hn hk hf
  unfold ownerOf
  rw [best_succ, hp]
  cases hb : best T K s f tn with
  | none => simp [hh, crewOf]
  | some b =>
    have hl : b < tn := best_lt hb
    simp only [hh, Bool.false_and, Bool.false_eq_true, if_false, crewOf]
    rw [updT_ne _ _ _ (by omega)]
theorem most_fr (c : Int) (T : Nat → Tk) (tn : Nat) (t : Tk) : (mostK c (updT T tn t) tn).fr = t.fl ∨ (mostK c (updT T tn t) tn).fr = t.fh := by
  unfold mostK
  rw [updT_eq]
  dsimp only
  split
  · exact .inl rfl
  · exact .inr rfl
theorem least_fr (c : Int) (T : Nat → Tk) (tn : Nat) (t : Tk) : (leastK c (updT T tn t) tn).fr = t.fl ∨ (leastK c (updT T tn t) tn).fr = t.fh := by
  unfold leastK
  rw [updT_eq]
  dsimp only
  split
  · exact .inr rfl
  · exact .inl rfl
theorem none_coins {S : Nat → Sm} {T : Nat → Tk} {K K1 : Nat → Kn} {sn tn : Nat} {t : Tk} (hn : NoneOf S t) (hK : ∀ i, i < tn → K1 i = K i) (hk : (K1 tn).fr = t.fl ∨ (K1 tn).fr = t.fh) (c : Int) : coinsOf S (updT T tn t) K1 sn (tn + 1) c = coinsOf S T K sn tn c := by
  unfold coinsOf
  refine sumF_congr sn fun s _ => ?_
  have e : manyOf S (updT T tn t) K1 (tn + 1) s c = manyOf S T K tn s c := by
    unfold manyOf
    refine cntP_congr _ fun f hf => ?_
    rw [none_owner hn hK hk (by simp only [Int.toNat_natCast] at hf; omega)]
  rw [e]
theorem none_set {S : Nat → Sm} {T : Nat → Tk} {tn : Nat} {t : Tk} (hn : NoneOf S t) {s f : Nat} (hf : (f : Int) < (S s).fat) (n : Nat) : setN (updT T tn t) (tn + 1) s f n = setN T tn s f n := by
  apply Nat.eq_of_testBit_eq
  intro c
  by_cases hc : c < n
  · rw [setN_owner hc, setN_owner hc, none_owner hn (most_add c T tn t) (most_fr c T tn t) hf]
  · rw [setN_bit, setN_bit, decide_eq_false hc, Bool.false_and, Bool.false_and]

/-- A ticket known better. -/
structure Thin (t t' : Tk) : Prop where
  crew : t'.crew = t.crew
  seam : t'.seam = t.seam
  fl : t.fl ≤ t'.fl ∧ t'.fl ≤ t.fh
  fh : t'.fh = t.fh
  th : t.tl ≤ t'.th ∧ t'.th ≤ t.th
  tl : t'.tl = t.tl
  dl : t.dl ≤ t'.dl ∧ t'.dl ≤ t.dh
  dh : t'.dh = t.dh
theorem Thin.same {T : Nat → Tk} {n : Nat} {t' : Tk} (h : Thin (T n) t') : ∀ i, (updT T n t' i).crew = (T i).crew ∧ (updT T n t' i).seam = (T i).seam := fun i => by
  by_cases e : i = n
  · rw [e, updT_eq]; exact ⟨h.crew, h.seam⟩
  · rw [updT_ne _ _ _ e]; exact ⟨rfl, rfl⟩
theorem Thin.valid {cr : Int} {sn tn : Nat} {S : Nat → Sm} {T : Nat → Tk} (hv : Valid cr sn tn S T) {n : Nat} {t' : Tk} (h : Thin (T n) t') : Valid cr sn tn S (updT T n t') := by
  refine ⟨hv.cr0, hv.cr1, hv.sn3, hv.tn6, hv.fat, hv.rate, fun i hi => ?_, fun i hi => ?_, fun i hi => ?_, fun i hi => ?_⟩
  all_goals
    by_cases e : i = n
    · subst e
      rw [updT_eq]
      have h1 := hv.tk i hi
      have h2 := spanB_iff.1 (hv.td i hi)
      have h3 := spanB_iff.1 (hv.fr i hi)
      have h4 := spanB_iff.1 (hv.to i hi)
      have := h.crew; have := h.seam; have := h.fl; have := h.fh; have := h.th; have := h.tl; have := h.dl; have := h.dh
      first
        | (refine ⟨?_, ?_, ?_, ?_⟩ <;> omega)
        | (rw [spanB_iff]; first | omega | (rw [h.seam]; omega))
    · rw [updT_ne _ _ _ e]
      first | exact hv.tk i hi | exact hv.td i hi | exact hv.fr i hi | exact hv.to i hi
theorem Thin.truth {cr : Int} {sn tn : Nat} {S : Nat → Sm} {T : Nat → Tk} (hv : Valid cr sn tn S T) {n : Nat} {t' : Tk} (h : Thin (T n) t') (c : Int) : TruthOf T tn (mostK c (updT T n t')) ∧ TruthOf T tn (leastK c (updT T n t')) := by
  constructor
  all_goals
    intro i hi
    have hs := hv.spans hi
    by_cases e : i = n
    · subst e
      have := h.fl; have := h.fh; have := h.th; have := h.tl; have := h.dl; have := h.dh
      unfold InT
      first | unfold mostK | unfold leastK
      rw [updT_eq]
      dsimp only
      split <;> omega
    · unfold InT
      first | unfold mostK | unfold leastK
      rw [updT_ne _ _ _ e]
      dsimp only
      split <;> omega
theorem thin_coins {cr : Int} {sn tn : Nat} {S : Nat → Sm} {T : Nat → Tk} (hv : Valid cr sn tn S T) {n : Nat} {t' : Tk} (h : Thin (T n) t') (c : Int) :
    coinsOf S T (leastK c T) sn tn c ≤ coinsOf S (updT T n t') (leastK c (updT T n t')) sn tn c ∧ coinsOf S (updT T n t') (mostK c (updT T n t')) sn tn c ≤ coinsOf S T (mostK c T) sn tn c := by
  have hs : ∀ K c, coinsOf S (updT T n t') K sn tn c = coinsOf S T K sn tn c := fun K c => by
    unfold coinsOf manyOf
    simp only [owner_same h.same]
  rw [hs, hs]
  exact ⟨coins_favor (favor_least (h.truth hv c).2) hv.crews (fun j hj => (hv.rate j hj).1), coins_favor (favor_most (h.truth hv c).1) hv.crews (fun j hj => (hv.rate j hj).1)⟩
theorem thin_owner {cr : Int} {sn tn : Nat} {S : Nat → Sm} {T : Nat → Tk} (hv : Valid cr sn tn S T) {n : Nat} {t' : Tk} (h : Thin (T n) t') (c : Int) (s : Int) (f : Nat) (ho : ownerOf (updT T n t') (mostK c (updT T n t')) tn s f = c) : ownerOf T (mostK c T) tn s f = c := by
  rw [owner_same h.same] at ho
  exact owner_favor (favor_most (h.truth hv c).1) hv.crews s f ho
theorem thin_set {cr : Int} {sn tn : Nat} {S : Nat → Sm} {T : Nat → Tk} (hv : Valid cr sn tn S T) {n : Nat} {t' : Tk} (h : Thin (T n) t') (s : Int) (f m : Nat) (c : Nat) (hb : (setN (updT T n t') tn s f m).testBit c = true) : (setN T tn s f m).testBit c = true := by
  by_cases hc : c < m
  · rw [setN_owner hc] at hb ⊢
    exact decide_eq_true (thin_owner hv h c s f (of_decide_eq_true hb))
  · rw [setN_bit, decide_eq_false hc, Bool.false_and] at hb
    cases hb
theorem andNot_sub {a b : Nat} (ha : a < 16) (hb : b < 16) (h : ∀ c, a.testBit c = true → b.testBit c = true) : bits .andNot .i64 (a : Int) (b : Int) = 0 := by
  have h2 : ∀ a : Fin 16, ∀ b : Fin 16, ((∀ c : Fin 4, (a : Nat).testBit c = true → (b : Nat).testBit c = true) → bits .andNot .i64 ((a : Nat) : Int) ((b : Nat) : Int) = 0) := by decide +kernel
  exact h2 ⟨a, ha⟩ ⟨b, hb⟩ fun c hc => h c hc
end Go.Proofs.Ytbpeamppkdmdcaa
