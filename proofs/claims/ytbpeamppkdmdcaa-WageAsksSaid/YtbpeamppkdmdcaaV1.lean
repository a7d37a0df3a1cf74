/-
  Plain laws: the least and the greatest number over all truths are those of the two ends; whose a fathom can be, by all truths.
-/
import Derived.Test.YtbpeamppkdmdcaaU12
import Derived.Test.YtbpeamppkdmdcaaP5
namespace Go.Proofs.Ytbpeamppkdmdcaa
open Go.RowKit

theorem canL_mem {t : Tk} {k : Kn} (h : InT t k) : k ∈ canL t := by
  obtain ⟨fr, t2, td⟩ := k
  unfold InT at h
  simp only at h
  unfold canL aL
  rw [List.mem_flatMap]
  refine ⟨(fr - t.fl).toNat, List.mem_range.2 (by unfold aN; omega), ?_⟩
  unfold bL
  rw [List.mem_flatMap]
  refine ⟨(t2 - t.tl).toNat, List.mem_range.2 (by unfold bN; omega), ?_⟩
  unfold kL
  rw [List.mem_map]
  refine ⟨(td - t.dl).toNat, List.mem_range.2 (by unfold kN; omega), ?_⟩
  rw [show t.fl + ((fr - t.fl).toNat : Int) = fr by omega, show t.tl + ((t2 - t.tl).toNat : Int) = t2 by omega, show t.dl + ((td - t.dl).toNat : Int) = td by omega]

theorem knF_app {l l' : List Kn} {i : Nat} (h : i < l.length) : knF (l ++ l') i = knF l i := by
  unfold knF
  rw [List.getD_eq_getElem?_getD, List.getD_eq_getElem?_getD, List.getElem?_append_left h]
theorem knF_snoc (l : List Kn) (k : Kn) : knF (l ++ [k]) l.length = k := by
  unfold knF
  rw [List.getD_eq_getElem?_getD, List.getElem?_append_right (Nat.le_refl _), Nat.sub_self]
  rfl

theorem ext_pre (T : Nat → Tk) : ∀ d m bl x, x ∈ ext T d m bl → ∀ i, i < bl.length → knF x i = knF bl i
  | 0, m, bl, x, h, i, hi => by simp only [ext, List.mem_singleton] at h; subst h; rfl
  | d + 1, m, bl, x, h, i, hi => by
    simp only [ext, List.mem_flatMap] at h
    obtain ⟨k, _, h⟩ := h
    rw [ext_pre T d (m + 1) (bl ++ [k]) x h i (by simp only [List.length_append, List.length_cons, List.length_nil]; omega)]
    exact knF_app hi
theorem ext_truth (T : Nat → Tk) : ∀ d m bl x, bl.length = m → x ∈ ext T d m bl → ∀ i, m ≤ i → i < m + d → InT (T i) (knF x i)
  | 0, m, bl, x, hl, h, i, h1, h2 => by omega
  | d + 1, m, bl, x, hl, h, i, h1, h2 => by
    simp only [ext, List.mem_flatMap] at h
    obtain ⟨k, hk, h⟩ := h
    by_cases e : i = m
    · subst e
      rw [ext_pre T d (i + 1) (bl ++ [k]) x h i (by simp only [List.length_append, List.length_cons, List.length_nil]; omega)]
      rw [← hl, knF_snoc, hl]
      exact mem_canL hk
    · exact ext_truth T d (m + 1) (bl ++ [k]) x (by simp only [List.length_append, List.length_cons, List.length_nil]; omega) h i (by omega) (by omega)
theorem ext_has (T : Nat → Tk) (K : Nat → Kn) : ∀ d m bl, bl.length = m → (∀ i, m ≤ i → i < m + d → InT (T i) (K i)) → ∃ x, x ∈ ext T d m bl ∧ ∀ i, m ≤ i → i < m + d → knF x i = K i
  | 0, m, bl, _, _ => ⟨bl, by simp only [ext, List.mem_singleton], fun i h1 h2 => by omega⟩
  | d + 1, m, bl, hl, h => by
    obtain ⟨x, hx, hk⟩ := ext_has T K d (m + 1) (bl ++ [K m]) (by simp only [List.length_append, List.length_cons, List.length_nil]; omega) (fun i h1 h2 => h i (by omega) (by omega))
    refine ⟨x, ?_, fun i h1 h2 => ?_⟩
    · simp only [ext, List.mem_flatMap]
      exact ⟨K m, canL_mem (h m (Nat.le_refl _) (by omega)), hx⟩
    · by_cases e : i = m
      · subst e
        rw [ext_pre T d (i + 1) (bl ++ [K i]) x hx i (by simp only [List.length_append, List.length_cons, List.length_nil]; omega), ← hl, knF_snoc, hl]
      · exact hk i (by omega) (by omega)

abbrev trK (T : Nat → Tk) (tn i : Nat) : Nat → Kn := knF ((truthsL T tn).getD i [])
theorem truths_truth {T : Nat → Tk} {tn i : Nat} (hi : i < (truthsL T tn).length) : TruthOf T tn (trK T tn i) := fun j hj => by
  have hm : (truthsL T tn).getD i [] ∈ ext T tn 0 [] := by
    rw [List.getD_eq_getElem?_getD, List.getElem?_eq_getElem hi]
    exact List.getElem_mem hi
  exact ext_truth T tn 0 [] _ rfl hm j (Nat.zero_le _) (by omega)
theorem truths_has {T : Nat → Tk} {tn : Nat} {K : Nat → Kn} (h : TruthOf T tn K) : ∃ i, i < (truthsL T tn).length ∧ ∀ j, j < tn → trK T tn i j = K j := by
  obtain ⟨x, hx, hk⟩ := ext_has T K tn 0 [] rfl (fun i _ h2 => h i (by omega))
  obtain ⟨i, hi, he⟩ := List.mem_iff_getElem.1 hx
  refine ⟨i, hi, fun j hj => ?_⟩
  show knF ((ext T tn 0 []).getD i []) j = K j
  rw [List.getD_eq_getElem?_getD, List.getElem?_eq_getElem hi]
  show knF ((ext T tn 0 [])[i]) j = K j
  rw [he]
  exact hk j (Nat.zero_le _) (by omega)

theorem loF_le (f : Nat → Int) : ∀ n k, k < n → loF f n ≤ f k
  | n + 1, k, h => by
    simp only [loF]
    by_cases e : k = n
    · subst e; split <;> omega
    · have := loF_le f n k (by omega)
      split <;> omega
theorem loF_mem (f : Nat → Int) : ∀ n, 0 < n → ∃ k, k < n ∧ loF f n = f k
  | n + 1, _ => by
    simp only [loF]
    by_cases e : n = 0
    · subst e; exact ⟨0, by omega, by simp [loF]⟩
    · obtain ⟨k, hk, hf⟩ := loF_mem f n (by omega)
      by_cases c : f n < loF f n
      · rw [if_pos c]; exact ⟨n, by omega, rfl⟩
      · rw [if_neg c]; exact ⟨k, by omega, hf⟩
theorem hiF_le (f : Nat → Int) : ∀ n k, k < n → f k ≤ hiF f n
  | n + 1, k, h => by
    simp only [hiF]
    by_cases e : k = n
    · subst e; split <;> omega
    · have := hiF_le f n k (by omega)
      split <;> omega
theorem hiF_mem (f : Nat → Int) : ∀ n, 0 < n → ∃ k, k < n ∧ hiF f n = f k
  | n + 1, _ => by
    simp only [hiF]
    by_cases e : n = 0
    · subst e; exact ⟨0, by omega, by simp [hiF]⟩
    · obtain ⟨k, hk, hf⟩ := hiF_mem f n (by omega)
      by_cases c : hiF f n < f n
      · rw [if_pos c]; exact ⟨n, by omega, rfl⟩
      · rw [if_neg c]; exact ⟨k, by omega, hf⟩
theorem loF_eq {f : Nat → Int} {n : Nat} {a : Int} (h : ∀ k, k < n → a ≤ f k) (k : Nat) (hk : k < n) (he : f k = a) : loF f n = a := by
  have h1 := loF_le f n k hk
  obtain ⟨j, hj, hf⟩ := loF_mem f n (by omega)
  have := h j hj
  omega
theorem hiF_eq {f : Nat → Int} {n : Nat} {a : Int} (h : ∀ k, k < n → f k ≤ a) (k : Nat) (hk : k < n) (he : f k = a) : hiF f n = a := by
  have h1 := hiF_le f n k hk
  obtain ⟨j, hj, hf⟩ := hiF_mem f n (by omega)
  have := h j hj
  omega

theorem many_congr {S : Nat → Sm} {T : Nat → Tk} {K L : Nat → Kn} {tn : Nat} {s c : Int} (h : ∀ i, i < tn → K i = L i) : manyOf S T K tn s c = manyOf S T L tn s c := by
  unfold manyOf
  congr 1
  funext f
  rw [owner_congr h]
theorem coins_congr {S : Nat → Sm} {T : Nat → Tk} {K L : Nat → Kn} {sn tn : Nat} {c : Int} (h : ∀ i, i < tn → K i = L i) : coinsOf S T K sn tn c = coinsOf S T L sn tn c := by
  unfold coinsOf
  congr 1
  funext s
  rw [many_congr h]

section
variable {cr : Int} {sn tn : Nat} {S : Nat → Sm} {T : Nat → Tk}
/-- A number that one end has at the least and the other one at the most: over all truths it is of the ends. -/
theorem ends_span (hv : Valid cr sn tn S T) (c : Int) (F : (Nat → Kn) → Int) (hF : ∀ K L, Favor c T tn K L → F K ≤ F L) (hc : ∀ K L, (∀ i, i < tn → K i = L i) → F K = F L) :
    loF (fun i => F (trK T tn i)) (truthsL T tn).length = F (leastK c T) ∧ hiF (fun i => F (trK T tn i)) (truthsL T tn).length = F (mostK c T) := by
  obtain ⟨i, hi, ei⟩ := truths_has (truth_leastK hv c)
  obtain ⟨j, hj, ej⟩ := truths_has (truth_mostK hv c)
  exact ⟨loF_eq (fun k hk => hF _ _ (favor_least (truths_truth hk))) i hi (hc _ _ ei), hiF_eq (fun k hk => hF _ _ (favor_most (truths_truth hk))) j hj (hc _ _ ej)⟩
theorem many_span (hv : Valid cr sn tn S T) (s c : Int) :
    loF (fun i => (manyOf S T (trK T tn i) tn s c : Int)) (truthsL T tn).length = manyOf S T (leastK c T) tn s c ∧ hiF (fun i => (manyOf S T (trK T tn i) tn s c : Int)) (truthsL T tn).length = manyOf S T (mostK c T) tn s c :=
  ends_span hv c (fun K => (manyOf S T K tn s c : Int)) (fun _ _ h => Int.ofNat_le.2 (many_favor h hv.crews s)) (fun K L h => by show ((manyOf S T K tn s c : Nat) : Int) = _; rw [many_congr h])
theorem coins_span (hv : Valid cr sn tn S T) (c : Int) :
    loF (fun i => coinsOf S T (trK T tn i) sn tn c) (truthsL T tn).length = coinsOf S T (leastK c T) sn tn c ∧ hiF (fun i => coinsOf S T (trK T tn i) sn tn c) (truthsL T tn).length = coinsOf S T (mostK c T) sn tn c :=
  ends_span hv c (fun K => coinsOf S T K sn tn c) (fun _ _ h => coins_favor h hv.crews hv.rates) (fun _ _ h => coins_congr h)
/-- All that is paid: the least where most is left. -/
theorem paid_span (hv : Valid cr sn tn S T) {n : Nat} (hn : (n : Int) = cr) :
    loF (fun i => sumF (fun c : Nat => coinsOf S T (trK T tn i) sn tn c) n) (truthsL T tn).length = allOf S sn - coinsOf S T (mostK (-1) T) sn tn (-1) ∧
    hiF (fun i => sumF (fun c : Nat => coinsOf S T (trK T tn i) sn tn c) n) (truthsL T tn).length = allOf S sn - coinsOf S T (leastK (-1) T) sn tn (-1) := by
  subst hn
  have hp : ∀ K, sumF (fun c : Nat => coinsOf S T K sn tn c) n = allOf S sn - coinsOf S T K sn tn (-1) := fun K => ends_paid hv K rfl
  obtain ⟨i, hi, ei⟩ := truths_has (truth_leastK hv (-1))
  obtain ⟨j, hj, ej⟩ := truths_has (truth_mostK hv (-1))
  constructor
  · refine loF_eq (fun k hk => ?_) j hj ?_
    · rw [hp]
      have := coins_favor (S := S) (sn := sn) (favor_most (c := -1) (truths_truth hk)) hv.crews hv.rates
      show allOf S sn - coinsOf S T (mostK (-1) T) sn tn (-1) ≤ allOf S sn - coinsOf S T (trK T tn k) sn tn (-1)
      omega
    · rw [hp, coins_congr ej]
  · refine hiF_eq (fun k hk => ?_) i hi ?_
    · rw [hp]
      have := coins_favor (S := S) (sn := sn) (favor_least (c := -1) (truths_truth hk)) hv.crews hv.rates
      show allOf S sn - coinsOf S T (trK T tn k) sn tn (-1) ≤ allOf S sn - coinsOf S T (leastK (-1) T) sn tn (-1)
      omega
    · rw [hp, coins_congr ei]

/-- The set of those whose a fathom is in the first truths. -/
def setR (T : Nat → Tk) (tn : Nat) (s : Int) (f : Nat) : Nat → Nat
  | 0 => 0
  | k + 1 => if 0 ≤ ownerOf T (trK T tn k) tn s f ∧ setR T tn s f k / 2 ^ (ownerOf T (trK T tn k) tn s f).toNat % 2 = 0 then setR T tn s f k + 2 ^ (ownerOf T (trK T tn k) tn s f).toNat else setR T tn s f k
def nobR (T : Nat → Tk) (tn : Nat) (s : Int) (f : Nat) (k : Nat) : Bool := (List.range k).any fun i => decide (ownerOf T (trK T tn i) tn s f < 0)
theorem nobR_succ (T : Nat → Tk) (tn : Nat) (s : Int) (f k : Nat) : nobR T tn s f (k + 1) = (nobR T tn s f k || decide (ownerOf T (trK T tn k) tn s f < 0)) := by
  unfold nobR
  rw [List.range_succ, List.any_append]
  simp
theorem add_or : ∀ m : Fin 16, ∀ c : Fin 4, (m.val / 2 ^ c.val % 2 = 0 → m.val + 2 ^ c.val = m.val ||| 2 ^ c.val) ∧ (m.val / 2 ^ c.val % 2 ≠ 0 → m.val = m.val ||| 2 ^ c.val) ∧ m.val ||| 2 ^ c.val < 16 := by decide
theorem setR_step {m c : Nat} (hm : m < 16) (hc : c < 4) : (if m / 2 ^ c % 2 = 0 then m + 2 ^ c else m) = m ||| 2 ^ c ∧ m ||| 2 ^ c < 16 := by
  obtain ⟨h1, h2, h3⟩ := add_or ⟨m, hm⟩ ⟨c, hc⟩
  refine ⟨?_, h3⟩
  by_cases e : m / 2 ^ c % 2 = 0
  · rw [if_pos e]; exact h1 e
  · rw [if_neg e]; exact h2 e
theorem owner_bd (hv : Valid cr sn tn S T) (K : Nat → Kn) (s : Int) (f : Nat) : -1 ≤ ownerOf T K tn s f ∧ ownerOf T K tn s f ≤ 3 := by
  have := owner_range (T := T) (K := K) (tn := tn) (s := s) (f := f) (cr := cr) (fun i hi => by have := hv.tk i hi; omega) hv.cr0
  have := hv.cr1
  omega
theorem setR_lt (hv : Valid cr sn tn S T) (s : Int) (f : Nat) : ∀ k, setR T tn s f k < 16
  | 0 => by simp [setR]
  | k + 1 => by
    have ih := setR_lt hv s f k
    have ho := owner_bd hv (trK T tn k) s f
    obtain ⟨h1, h2⟩ := setR_step ih (c := (ownerOf T (trK T tn k) tn s f).toNat) (by omega)
    simp only [setR]
    split
    · rename_i e; rw [if_pos e.2] at h1; rw [h1]; exact h2
    · exact ih
theorem setR_bit (hv : Valid cr sn tn S T) (s : Int) (f : Nat) : ∀ k c, (setR T tn s f k).testBit c = (List.range k).any fun i => decide (ownerOf T (trK T tn i) tn s f = (c : Int))
  | 0, c => by simp [setR]
  | k + 1, c => by
    have ih := setR_bit hv s f k c
    have ho := owner_bd hv (trK T tn k) s f
    rw [List.range_succ, List.any_append, ← ih]
    simp only [setR, List.any_cons, List.any_nil, Bool.or_false]
    obtain ⟨o, eo⟩ : ∃ o, o = ownerOf T (trK T tn k) tn s f := ⟨_, rfl⟩
    rw [← eo] at ho ⊢
    by_cases h0 : 0 ≤ o
    · obtain ⟨h1, h2⟩ := setR_step (setR_lt hv s f k) (c := o.toNat) (by omega)
      have e : (if 0 ≤ o ∧ setR T tn s f k / 2 ^ o.toNat % 2 = 0 then setR T tn s f k + 2 ^ o.toNat else setR T tn s f k) = setR T tn s f k ||| 2 ^ o.toNat := by
        rw [← h1]
        by_cases e : setR T tn s f k / 2 ^ o.toNat % 2 = 0
        · rw [if_pos e, if_pos ⟨h0, e⟩]
        · rw [if_neg e, if_neg (fun h => e h.2)]
      rw [e, Nat.testBit_or, Nat.testBit_two_pow]
      congr 1
      rw [decide_eq_decide]
      omega
    · rw [if_neg (fun h => h0 h.1)]
      have : decide (o = (c : Int)) = false := by rw [decide_eq_false_iff_not]; omega
      rw [this, Bool.or_false]
/-- Whose a fathom can be: by all truths it is what the two ends say. -/
theorem setR_eq (hv : Valid cr sn tn S T) (s : Int) (f : Nat) : setR T tn s f (truthsL T tn).length = setN T tn s f cr.toNat := by
  have h1 := hv.cr0
  apply Nat.eq_of_testBit_eq
  intro c
  rw [setR_bit hv, setN_bit, Bool.eq_iff_iff]
  simp only [List.any_eq_true, List.mem_range, decide_eq_true_eq, Bool.and_eq_true]
  rw [can_owner (by omega : (0 : Int) ≤ (c : Int))]
  constructor
  · rintro ⟨i, hi, ho⟩
    have hr := owner_range (T := T) (K := trK T tn i) (tn := tn) (s := s) (f := f) (cr := cr) (fun i hi => by have := hv.tk i hi; omega) hv.cr0
    exact ⟨by omega, owner_favor (favor_most (truths_truth hi)) hv.crews s f ho⟩
  · rintro ⟨hc, ho⟩
    obtain ⟨i, hi, he⟩ := truths_has (truth_mostK hv (c : Int))
    exact ⟨i, hi, (owner_congr he).trans ho⟩
theorem nobR_eq (hv : Valid cr sn tn S T) (s : Int) (f : Nat) : nobR T tn s f (truthsL T tn).length = decide (ownerOf T (mostK (-1) T) tn s f = -1) := by
  unfold nobR
  rw [Bool.eq_iff_iff]
  simp only [List.any_eq_true, List.mem_range, decide_eq_true_eq]
  constructor
  · rintro ⟨i, hi, ho⟩
    have hr := owner_bd hv (trK T tn i) s f
    exact owner_favor (favor_most (truths_truth hi)) hv.crews s f (by omega)
  · intro ho
    obtain ⟨i, hi, he⟩ := truths_has (truth_mostK hv (-1))
    exact ⟨i, hi, by rw [owner_congr he, ho]; omega⟩
end
end Go.Proofs.Ytbpeamppkdmdcaa
