/-
  Gangs that the reference calls valid, in plain numbers.
  Pots, plain: how warm one is in a truth; the marks of the best plan, one behind the other; crews in a truth.
  What the law's walk wants: bits, the greatest of four, places as keys, a row of hours.
  The law: gangs that are none, or too long.
-/
import Derived.Test.YtikeihnhkiipgaaQF3
import Derived.Test.YtikeihnhkiipgaaQG6
import Derived.Test.YtikeihnhkiipgaaQF1
namespace Go.Proofs.Ytikeihnhkiipgaa
open Go.RowKit

theorem row_congr {w : World} {oa : Option Addr} {n sz : Nat} {c1 c2 : Nat → Nat → Value} (h : Row w oa n sz c1) (e : ∀ i, i < n → ∀ j, j < sz → c1 i j = c2 i j) : Row w oa n sz c2 :=
  ⟨h.plain, h.old, h.small, fun i hi j hj => by rw [h.cells i hi j hj, e i hi j hj]⟩
def AG.pn (x : AG) : PN := ⟨x.hr.toNat, x.fr.toNat, x.pe.toNat, x.fn, fun i => (x.F i).toNat, x.qn, fun i => (x.Q i).h.toNat, fun i => (x.Q i).f.toNat, fun i => (x.Q i).b.toNat⟩
def AG.gn (x : AG) : GN := ⟨x.sn, fun i => (x.S i).m.toNat, fun i => (x.S i).d.toNat, fun i => (x.S i).l.toNat, fun i => (x.S i).p, x.cn, fun i => (x.C i).lo.toNat, fun i => (x.C i).hi.toNat, fun i => (x.C i).se.toNat, x.pn⟩
theorem setB_nat {h x : Int} (hb : setB h x = true) : ((x.toNat : Nat) : Int) = x ∧ x.toNat < 2 ^ h.toNat := by
  obtain ⟨h1, h2⟩ := inB_iff.1 hb
  have e : (2 : Int) ^ h.toNat = ((2 ^ h.toNat : Nat) : Int) := by simp
  rw [e] at h2
  generalize 2 ^ h.toNat = z at *
  omega
theorem in_nat {n a b : Int} (h : inB n a b = true) (ha : 0 ≤ a) : ((n.toNat : Nat) : Int) = n ∧ a ≤ n ∧ n ≤ b := by
  obtain ⟨h1, h2⟩ := inB_iff.1 h
  omega
theorem ag_ok {x : AG} (h : x.B = true) : x.gn.Ok ∧ x.gn.cs x.a = x.cs ∧ ∀ W, x.At W → x.gn.At x.a W := by
  unfold AG.B AG.hB AG.pB pitchB headB at h
  simp only [Bool.and_eq_true, decide_eq_true_eq] at h
  obtain ⟨⟨⟨⟨⟨⟨⟨⟨h1, h2⟩, h3⟩, h4⟩, h5⟩, h6⟩, h7⟩, h8⟩, h9⟩ := h
  obtain ⟨e1, -, a1⟩ := in_nat h1 (Int.le_refl _)
  have hf := setB_nat (allB_iff.1 h4 0 (by omega))
  have hp := setB_nat (allB_iff.1 h4 1 (by omega))
  have hF : ∀ i, i < x.fn → (((x.F i).toNat : Nat) : Int) = x.F i ∧ (x.F i).toNat < 2 ^ x.hr.toNat := fun i hi => by
    have := setB_nat (allB_iff.1 h4 (i + 2) (by omega))
    have e : setsOf x.fr x.pe x.F (i + 2) = x.F i := by
      unfold setsOf
      rw [if_neg (by omega), if_neg (by omega), show i + 2 - 2 = i by omega]
    rwa [e] at this
  have hQ : ∀ i, i < x.qn → (((x.Q i).h.toNat : Nat) : Int) = (x.Q i).h ∧ (((x.Q i).f.toNat : Nat) : Int) = (x.Q i).f ∧ (((x.Q i).b.toNat : Nat) : Int) = (x.Q i).b ∧ 1 ≤ (x.Q i).h ∧ (x.Q i).h ≤ 12 ∧ (x.Q i).f ≤ x.hr ∧ (x.Q i).b ≤ x.hr := fun i hi => by
    have := allB_iff.1 h5 i hi
    unfold okQ at this
    simp only [Bool.and_eq_true] at this
    have u1 := in_nat this.1.1 (by omega)
    have u2 := in_nat this.1.2 (by omega)
    have u3 := in_nat this.2 (by omega)
    omega
  have hS : ∀ i, i < x.sn → (((x.S i).m.toNat : Nat) : Int) = (x.S i).m ∧ (((x.S i).d.toNat : Nat) : Int) = (x.S i).d ∧ (((x.S i).l.toNat : Nat) : Int) = (x.S i).l ∧ 1 ≤ (x.S i).m ∧ (x.S i).m ≤ 60 ∧ (x.S i).d ≤ 24 ∧ (x.S i).l ≤ 24 ∧ -1 ≤ (x.S i).p ∧ (x.S i).p < x.qn := fun i hi => by
    have := allB_iff.1 h8 i hi
    unfold okSm at this
    simp only [Bool.and_eq_true] at this
    have u1 := in_nat this.1.1.1 (by omega)
    have u2 := in_nat this.1.1.2 (by omega)
    have u3 := in_nat this.1.2 (by omega)
    have u4 := inB_iff.1 this.2
    omega
  have hC : ∀ i, i < x.cn → (((x.C i).lo.toNat : Nat) : Int) = (x.C i).lo ∧ (((x.C i).hi.toNat : Nat) : Int) = (x.C i).hi ∧ (((x.C i).se.toNat : Nat) : Int) = (x.C i).se ∧ 1 ≤ (x.C i).lo ∧ (x.C i).lo ≤ (x.C i).hi ∧ (x.C i).hi ≤ 12 ∧ (x.C i).se.toNat < 2 ^ x.sn := fun i hi => by
    have := allB_iff.1 h9 i hi
    unfold okCw at this
    simp only [Bool.and_eq_true, decide_eq_true_eq] at this
    have u := in_nat this.2 (by omega)
    generalize 2 ^ x.sn = z at *
    omega
  refine ⟨⟨by show x.sn ≤ 5; omega, by show x.cn ≤ 3; omega, fun i hi => ?_, fun i hi => ?_, fun i hi => ?_, fun i hi => ?_, fun i hi => ?_, fun i hi => (hC i hi).2.2.2.2.2.2, ?_⟩, ?_, fun W hW => ⟨?_, ?_, ?_, ?_⟩⟩
  · have := hS i hi; show 1 ≤ (x.S i).m.toNat ∧ (x.S i).m.toNat ≤ 60; omega
  · have := hS i hi; show (x.S i).d.toNat ≤ 24; omega
  · have := hS i hi; show (x.S i).l.toNat ≤ 24; omega
  · have := hS i hi; show -1 ≤ (x.S i).p ∧ (x.S i).p < (x.qn : Int); omega
  · have := hC i hi; show 1 ≤ (x.C i).lo.toNat ∧ (x.C i).lo.toNat ≤ (x.C i).hi.toNat ∧ (x.C i).hi.toNat ≤ 12; omega
  · refine ⟨by show x.hr.toNat ≤ 12; omega, hf.2, hp.2, by show x.fn ≤ 3; omega, fun i hi => (hF i hi).2, by show x.qn ≤ 4; omega, fun i hi => ?_, fun i hi => ?_, fun i hi => ?_⟩
    · have := hQ i hi; show 1 ≤ (x.Q i).h.toNat ∧ (x.Q i).h.toNat ≤ 12; omega
    · have := hQ i hi; show (x.Q i).f.toNat ≤ x.hr.toNat; omega
    · have := hQ i hi; show (x.Q i).b.toNat ≤ x.hr.toNat; omega
  · show #[_, _, Value.int .i64 ((x.hr.toNat : Nat) : Int), .int .i64 ((x.fr.toNat : Nat) : Int), .int .i64 ((x.pe.toNat : Nat) : Int), _, _] = _
    rw [e1, show ((x.fr.toNat : Nat) : Int) = x.fr from hf.1, show ((x.pe.toNat : Nat) : Int) = x.pe from hp.1]
    rfl
  · exact row_congr hW.ss fun i hi j hj => by
      obtain ⟨u1, u2, u3, -⟩ := hS i hi
      rcases (show j = 0 ∨ j = 1 ∨ j = 2 ∨ j = 3 by omega) with rfl | rfl | rfl | rfl
      · show Value.int .i64 _ = .int .i64 (((x.S i).m.toNat : Nat) : Int); rw [u1]
      · show Value.int .i64 _ = .int .i64 (((x.S i).d.toNat : Nat) : Int); rw [u2]
      · show Value.int .i64 _ = .int .i64 (((x.S i).l.toNat : Nat) : Int); rw [u3]
      · rfl
  · exact row_congr hW.cc fun i hi j hj => by
      obtain ⟨u1, u2, u3, -⟩ := hC i hi
      rcases (show j = 0 ∨ j = 1 ∨ j = 2 by omega) with rfl | rfl | rfl
      · show Value.int .i64 _ = .int .i64 (((x.C i).lo.toNat : Nat) : Int); rw [u1]
      · show Value.int .i64 _ = .int .i64 (((x.C i).hi.toNat : Nat) : Int); rw [u2]
      · show Value.int .i64 _ = .int .i64 (((x.C i).se.toNat : Nat) : Int); rw [u3]
  · exact row_congr hW.ff fun i hi j hj => by
      show Value.int .i64 _ = .int .i64 (((x.F i).toNat : Nat) : Int); rw [(hF i hi).1]
  · exact row_congr hW.qq fun i hi j hj => by
      obtain ⟨u1, u2, u3, -⟩ := hQ i hi
      rcases (show j = 0 ∨ j = 1 ∨ j = 2 by omega) with rfl | rfl | rfl
      · show Value.int .i64 _ = .int .i64 (((x.Q i).h.toNat : Nat) : Int); rw [u1]
      · show Value.int .i64 _ = .int .i64 (((x.Q i).f.toNat : Nat) : Int); rw [u2]
      · show Value.int .i64 _ = .int .i64 (((x.Q i).b.toNat : Nat) : Int); rw [u3]
end Go.Proofs.Ytikeihnhkiipgaa

namespace Go.Proofs.Ytikeihnhkiipgaa
open Go.RowKit

theorem str_bit : ∀ (h d i : Nat), (str h (h + d)).testBit i = (decide (h ≤ i) && decide (i < h + d))
  | h, 0, i => by
    unfold str
    rw [Nat.add_zero, Nat.sub_self, Nat.zero_testBit]
    symm
    rw [Bool.and_eq_false_iff, decide_eq_false_iff_not, decide_eq_false_iff_not]
    omega
  | h, d + 1, i => by
    have ih := str_bit h d i
    have e : str h (h + (d + 1)) = str h (h + d) ||| 2 ^ (h + d) := by
      have hl : str h (h + d) < 2 ^ (h + d) := by
        have := Nat.two_pow_pos h
        have := Nat.two_pow_pos (h + d)
        unfold str
        omega
      have hor := Nat.two_pow_add_eq_or_of_lt hl 1
      rw [Nat.mul_one] at hor
      rw [Nat.or_comm, ← hor]
      have h1 : (2 : Nat) ^ h ≤ 2 ^ (h + d) := Nat.pow_le_pow_right (by omega) (by omega)
      have h2 : (2 : Nat) ^ (h + (d + 1)) = 2 ^ (h + d) * 2 := by rw [← Nat.add_assoc, Nat.pow_succ]
      unfold str
      omega
    rw [e, or_bit, ih]
    by_cases h1 : h + d = i
    · subst h1
      simp
    · rw [decide_eq_false h1, Bool.or_false, show decide (i < h + (d + 1)) = decide (i < h + d) from by
        by_cases h2 : i < h + d
        · rw [decide_eq_true h2, decide_eq_true (by omega)]
        · rw [decide_eq_false h2, decide_eq_false (by omega)]]
/-- How much heat a pot has had after so many hours, in a truth. -/
def heat (fr h : Nat) : Nat → Nat
  | 0 => 0
  | d + 1 => heat fr h d + if fr.testBit (h + d) then 1 else 2
theorem heat_le (fr h : Nat) : ∀ d, heat fr h d ≤ 2 * d
  | 0 => Nat.le_refl _
  | d + 1 => by
    unfold heat
    have := heat_le fr h d
    split <;> omega
theorem heat_mono (fr h : Nat) {d : Nat} : ∀ {e : Nat}, d ≤ e → heat fr h d ≤ heat fr h e
  | 0, he => by obtain rfl : d = 0 := by omega
                exact Nat.le_refl _
  | e + 1, he => by
    by_cases h1 : d = e + 1
    · subst h1; exact Nat.le_refl _
    · have := heat_mono fr h (d := d) (e := e) (by omega)
      rw [heat]
      omega
theorem heat_anti {fr fr' : Nat} (hs : ∀ i, fr.testBit i = true → fr'.testBit i = true) (h : Nat) : ∀ d, heat fr' h d ≤ heat fr h d
  | 0 => Nat.le_refl _
  | d + 1 => by
    unfold heat
    have ih := heat_anti hs h d
    by_cases h1 : fr.testBit (h + d) = true
    · rw [if_pos h1, if_pos (hs _ h1)]
      omega
    · rw [if_neg h1]
      split <;> omega
theorem bitsum_one {x y k : Nat} (hy : ∀ i, y.testBit i = (x.testBit i || decide (k = i))) (hk : x.testBit k = false) : ∀ n, bitsum n y = bitsum n x + if k < n then 1 else 0
  | 0 => rfl
  | n + 1 => by
    unfold bitsum
    rw [bitsum_one hy hk n, hy n]
    by_cases e : k = n
    · subst e
      rw [hk, if_neg (Nat.lt_irrefl _), if_pos (Nat.lt_succ_self _)]
      simp
      omega
    · rw [decide_eq_false e, Bool.or_false]
      by_cases h : k < n
      · rw [if_pos h, if_pos (by omega)]; omega
      · rw [if_neg h, if_neg (by omega)]; omega
theorem bitsum_same {x y : Nat} (hy : ∀ i, y.testBit i = x.testBit i) : ∀ n, bitsum n y = bitsum n x
  | 0 => rfl
  | n + 1 => by rw [bitsum, bitsum, bitsum_same hy n, hy n]
theorem bitsum_zero (n : Nat) : bitsum n 0 = 0 := by
  induction n with
  | zero => rfl
  | succ n ih => rw [bitsum, ih, Nat.zero_testBit]; rfl
theorem warm_heat (fr h : Nat) : ∀ d, h + d ≤ 12 → warm fr h (h + d) = heat fr h d ∧ bitsum 12 (str h (h + d)) = d ∧ bitsum 12 (str h (h + d) &&& fr) ≤ d
  | 0, _ => by
    have e : str h (h + 0) = 0 := by unfold str; rw [Nat.add_zero, Nat.sub_self]
    unfold warm
    rw [e, Nat.zero_and, bitsum_zero]
    exact ⟨rfl, rfl, Nat.le_refl _⟩
  | d + 1, hd => by
    obtain ⟨h1, h2, h3⟩ := warm_heat fr h d (by omega)
    have hk : (str h (h + d)).testBit (h + d) = false := by
      rw [str_bit, decide_eq_false (show ¬ h + d < h + d by omega), Bool.and_false]
    have hy : ∀ i, (str h (h + (d + 1))).testBit i = ((str h (h + d)).testBit i || decide (h + d = i)) := fun i => by
      rw [str_bit, str_bit]
      by_cases e : h + d = i
      · subst e
        simp
      · rw [decide_eq_false e, Bool.or_false, show decide (i < h + (d + 1)) = decide (i < h + d) from by
          by_cases h2 : i < h + d
          · rw [decide_eq_true h2, decide_eq_true (by omega)]
          · rw [decide_eq_false h2, decide_eq_false (by omega)]]
    have b1 := bitsum_one hy hk 12
    rw [if_pos (show h + d < 12 by omega), h2] at b1
    unfold warm at h1 ⊢
    rw [b1]
    rw [h2] at h1
    by_cases hf : fr.testBit (h + d) = true
    · have b2 := bitsum_one (x := str h (h + d) &&& fr) (y := str h (h + (d + 1)) &&& fr) (k := h + d) (fun i => by
        rw [Nat.testBit_and, Nat.testBit_and, hy i]
        by_cases e : h + d = i
        · subst e; rw [hf]; simp
        · rw [decide_eq_false e]; simp) (by rw [Nat.testBit_and, hk]; rfl) 12
      rw [if_pos (show h + d < 12 by omega)] at b2
      rw [b2, heat, if_pos hf]
      exact ⟨by omega, rfl, by omega⟩
    · have b2 := bitsum_same (x := str h (h + d) &&& fr) (y := str h (h + (d + 1)) &&& fr) (fun i => by
        rw [Nat.testBit_and, Nat.testBit_and, hy i]
        by_cases e : h + d = i
        · subst e; rw [show fr.testBit (h + d) = false by simpa using hf]; simp
        · rw [decide_eq_false e]; simp) 12
      rw [b2, heat, if_neg hf]
      exact ⟨by omega, rfl, by omega⟩
/-- When it is hot. -/
theorem hotFrom_heat (ht fr h : Nat) : ∀ n j, h + (j + 1) + n ≤ 13 → (∀ i, i < j + 1 → heat fr h i < ht) →
    ∃ d, hotFrom ht fr h n (h + (j + 1)) = h + d ∧ (∀ i, i < d → heat fr h i < ht) ∧ 1 ≤ d ∧ (d ≤ j + n → ht ≤ heat fr h d)
  | 0, j, _, hl => ⟨j + 1, rfl, hl, by omega, fun h => by omega⟩
  | n + 1, j, hb, hl => by
    unfold hotFrom
    rw [(warm_heat fr h (j + 1) (by omega)).1]
    split
    · rename_i hge
      exact ⟨j + 1, rfl, hl, by omega, fun _ => hge⟩
    · rename_i hlt
      obtain ⟨d, h1, h2, h3, h4⟩ := hotFrom_heat ht fr h n (j + 1) (by omega) (fun i hi => by
        by_cases e : i = j + 1
        · subst e; omega
        · exact hl i (by omega))
      exact ⟨d, h1, h2, h3, fun hd => h4 (by omega)⟩
theorem hot_heat {p : PN} (ok : p.Ok) {k h : Nat} (fr : Nat) (hk : k < p.qn) (hh : h < p.H) : ∃ d, p.hot k h fr = h + d ∧ (∀ i, i < d → heat fr h i < p.ht k) ∧ 1 ≤ d ∧ (h + d ≤ p.H → p.ht k ≤ heat fr h d) := by
  have hH := ok.hH
  obtain ⟨d, h1, h2, h3, h4⟩ := hotFrom_heat (p.ht k) fr h (p.H - h) 0 (by omega) (fun i hi => by
    obtain rfl : i = 0 := by omega
    have := (ok.hht k hk).1
    show 0 < p.ht k
    omega)
  exact ⟨d, h1, h2, h3, fun h => h4 (by omega)⟩
/-- With less frost it is hot no later. -/
theorem hot_anti {p : PN} (ok : p.Ok) {k h fr fr' : Nat} (hk : k < p.qn) (hh : h < p.H) (hs : ∀ i, fr.testBit i = true → fr'.testBit i = true) (hle : p.hot k h fr' ≤ p.H) : p.hot k h fr ≤ p.hot k h fr' := by
  obtain ⟨d, h1, h2, h3, h4⟩ := hot_heat ok fr hk hh
  obtain ⟨d', h1', h2', h3', h4'⟩ := hot_heat ok fr' hk hh
  rw [h1, h1']
  rw [h1'] at hle
  have := h4' hle
  have := heat_anti hs h d'
  rcases Nat.lt_or_ge d' d with h5 | h5
  · have := h2 d' h5
    omega
  · omega
/-- The frost in a truth. -/
def PN.tr (p : PN) (f : Nat) : Nat := p.fr ||| (p.pe &&& f)
theorem tr_cold (p : PN) (f i : Nat) (h : p.fr.testBit i = true) : (p.tr f).testBit i = true := by
  unfold PN.tr
  rw [Nat.testBit_or, h, Bool.true_or]
theorem tr_colder (p : PN) (f i : Nat) (h : (p.tr f).testBit i = true) : (p.fr ||| p.pe).testBit i = true := by
  unfold PN.tr at h
  rw [Nat.testBit_or, Nat.testBit_and] at h
  rw [Nat.testBit_or]
  cases hfr : p.fr.testBit i with
  | true => rfl
  | false =>
    rw [hfr, Bool.false_or, Bool.and_eq_true] at h
    rw [h.1]
    rfl
theorem tr_lt {p : PN} (ok : p.Ok) (f : Nat) : p.tr f < 4096 := Nat.lt_of_lt_of_le (Nat.or_lt_two_pow ok.hfr (Nat.lt_of_le_of_lt Nat.and_le_left ok.hpe)) (pow12 ok.hH)
/-- The mark before a pot of the plan. -/
def PSt (p : PN) (n : Int) (L : List Stp) (i : Nat) (m : Mk) : Prop := m.Ok ∧ m.pot = i ∧ ∃ k r, i + k = p.qn ∧ p.end' k m = some r ∧ r ≤ n ∧ ∀ j, L[i + j]? = (p.plan n k m)[j]?
theorem pst_start {p : PN} {n : Int} (h : p.end' p.qn Mk.start = some n) : PSt p n (p.plan n p.qn Mk.start) 0 Mk.start :=
  ⟨start_ok, rfl, p.qn, n, Nat.zero_add _, h, Int.le_refl _, fun j => by rw [Nat.zero_add]⟩
/-- A pot of the plan: its fire, its hours, when it is hot in each truth. -/
structure PotOk (p : PN) (m : Mk) (x : Stp) : Prop where
  hf : x.f < p.fn
  hh : x.h < p.H
  hfm : p.fm m.pot ≤ x.h
  hbt : p.hot m.pot x.h (p.fr ||| p.pe) ≤ p.bt m.pot
  hbh : p.bt m.pot ≤ p.H
  free : ∀ i, x.h ≤ i → i < p.hot m.pot x.h (p.fr ||| p.pe) → (p.F x.f).testBit i = false ∧ (m.b x.f).testBit i = false
  next : ∀ c, c < 3 → ∀ i, (x.m.b c).testBit i = ((m.b c).testBit i || (decide (c = x.f) && (decide (x.h ≤ i) && decide (i < p.hot m.pot x.h (p.fr ||| p.pe)))))
theorem pst_next {p : PN} (ok : p.Ok) {n : Int} {L : List Stp} {i : Nat} {m : Mk} (h : PSt p n L i m) (hi : i < p.qn) : ∃ x, L[i]? = some x ∧ PotOk p m x ∧ PSt p n L (i + 1) x.m := by
  obtain ⟨hm, hp, k, r, hk, he, hr, hL⟩ := h
  obtain ⟨k, rfl⟩ : ∃ k', k = k' + 1 := ⟨k - 1, by omega⟩
  obtain ⟨x, hf, hx, hxo, hxp, r', h1, -, h3⟩ := fits_some ok hm (by omega) he hr
  have hpl : p.plan n (k + 1) m = x :: p.plan n k x.m := by rw [PN.plan, hf]
  obtain ⟨s1, s2, s3, s4, s5, s6⟩ := step_hot hx
  have hb := ok.hbt m.pot (by omega)
  obtain ⟨d, hd, -, hd1, -⟩ := hot_heat ok (k := m.pot) (p.fr ||| p.pe) (by omega) s2
  have htk : ∀ i, (p.takes m.pot x.h).testBit i = (decide (x.h ≤ i) && decide (i < p.hot m.pot x.h (p.fr ||| p.pe))) := fun i => by
    show (str x.h (min p.H (p.hot m.pot x.h (p.fr ||| p.pe)))).testBit i = _
    rw [Nat.min_eq_right (by omega), hd, str_bit]
  refine ⟨x, ?_, ⟨s1, s2, s3, s4, hb, fun i h1 h2 => ?_, fun c hc i => ?_⟩, hxo, by omega, k, r', by omega, h1, h3, fun j => ?_⟩
  · have := hL 0
    rwa [Nat.add_zero, hpl, List.getElem?_cons_zero] at this
  · have t := htk i
    rw [decide_eq_true h1, decide_eq_true h2] at t
    have u5 := congrArg (fun z => z.testBit i) s5
    have u6 := congrArg (fun z => z.testBit i) s6
    simp only [Nat.testBit_and, t, Nat.zero_testBit] at u5 u6
    exact ⟨by simpa using u5, by simpa using u6⟩
  · obtain ⟨-, -, -, e⟩ := mem_steps.1 hx
    rw [e]
    unfold PN.next
    rw [Mk.b_set _ _ (by have := ok.hfn; omega) hc]
    by_cases ec : c = x.f
    · subst ec
      rw [if_pos rfl, Nat.testBit_or, htk i, decide_eq_true rfl, Bool.true_and]
    · rw [if_neg ec, decide_eq_false ec, Bool.false_and, Bool.or_false]
      rfl
  · have := hL (j + 1)
    rw [hpl, List.getElem?_cons_succ] at this
    rw [← this]
    congr 1
    omega
/-- While a pot wants heat it is not later than when it is hot in this truth. -/
theorem pot_wants {p : PN} (ok : p.Ok) {m : Mk} {x : Stp} (h : PotOk p m x) (hk : m.pot < p.qn) (f : Nat) {d : Nat} (hd : x.h + d ≤ p.hot m.pot x.h (p.tr f)) (hw : heat (p.tr f) x.h d < p.ht m.pot) : x.h + d < p.hot m.pot x.h (p.tr f) := by
  have ha := hot_anti ok hk h.hh (tr_colder p f) (Nat.le_trans h.hbt h.hbh)
  obtain ⟨e, h1, h2, h3, h4⟩ := hot_heat ok (k := m.pot) (p.tr f) hk h.hh
  have := h.hbt
  have := h.hbh
  rw [h1] at ha hd ⊢
  have := h4 (by omega)
  by_cases he : d = e
  · subst he; omega
  · omega
theorem pot_done {p : PN} (ok : p.Ok) {m : Mk} {x : Stp} (h : PotOk p m x) (hk : m.pot < p.qn) (f : Nat) {d : Nat} (hd : x.h + d ≤ p.hot m.pot x.h (p.tr f)) (hw : ¬ heat (p.tr f) x.h d < p.ht m.pot) : x.h + d = p.hot m.pot x.h (p.tr f) := by
  obtain ⟨e, h1, h2, h3, h4⟩ := hot_heat ok (k := m.pot) (p.tr f) hk h.hh
  rw [h1] at hd ⊢
  by_cases he : d < e
  · exact absurd (h2 d he) hw
  · omega
theorem pot_hot {p : PN} (ok : p.Ok) {m : Mk} {x : Stp} (h : PotOk p m x) (hk : m.pot < p.qn) (f : Nat) : p.hot m.pot x.h p.fr ≤ p.hot m.pot x.h (p.tr f) ∧ p.hot m.pot x.h (p.tr f) ≤ p.hot m.pot x.h (p.fr ||| p.pe) := by
  have h1 := hot_anti ok hk h.hh (tr_colder p f) (Nat.le_trans h.hbt h.hbh)
  exact ⟨hot_anti ok hk h.hh (tr_cold p f) (Nat.le_trans h1 (Nat.le_trans h.hbt h.hbh)), h1⟩
/-- A faster crew takes no longer. -/
theorem takes_anti {f a b : Nat} (ha : 1 ≤ a) (hab : a ≤ b) : (f + b - 1) / b ≤ (f + a - 1) / a := by
  have h1 : f ≤ (f + a - 1) / a * a := by
    have h := Nat.div_add_mod (f + a - 1) a
    have h2 := Nat.mod_lt (f + a - 1) (show a > 0 by omega)
    rw [Nat.mul_comm] at h
    omega
  have h2 : (f + a - 1) / a * a ≤ (f + a - 1) / a * b := Nat.mul_le_mul_left _ hab
  refine Nat.le_of_lt_succ ((Nat.div_lt_iff_lt_mul (by omega)).2 ?_)
  rw [Nat.succ_mul]
  omega
/-- What a crew in a truth does after a row. -/
def GN.nowT (g : GN) (sp : Nat) : Nat → List Nat → Nat
  | t, [] => t
  | t, n :: l => g.nowT sp (max t (g.rdy n) + (g.fm n + sp - 1) / sp) l
end Go.Proofs.Ytikeihnhkiipgaa

namespace Go.Proofs.Ytikeihnhkiipgaa
open Go.RowKit

theorem run_max4 {P : Program} (w : World) (ts : Array TypeId) (t : TypeId) (a b c d : Int) :
    (Builtin.max_ ts t #[.int .i64 a, .int .i64 b, .int .i64 c, .int .i64 d]).run P w = .ok (.int .i64 (max (max (max a b) c) d)) w := by
  have k : ∀ x y : Int, (if y > x then y else x) = max x y := fun x y => by
    rw [Int.max_def]
    split <;> split <;> omega
  simp only [gt_iff_lt] at k
  simp [Builtin.max_, Builtin.max2, k]
theorem i64_nat (a : Nat) (ha : a < 2147483648) : (BitVec.ofInt 64 (a : Int)).toNat = a := by
  rw [BitVec.ofInt_natCast, BitVec.toNat_ofNat]
  exact Nat.mod_eq_of_lt (by omega)
theorem i64_or (a b : Nat) (ha : a < 2147483648) (hb : b < 2147483648) : bits .or .i64 (a : Int) (b : Int) = ((a ||| b : Nat) : Int) := by
  have hx : a ||| b < 2 ^ 31 := Nat.or_lt_two_pow (by omega) (by omega)
  show IntKind.i64.wrap ((BitVec.ofInt 64 (a : Int) ||| BitVec.ofInt 64 (b : Int)).toNat : Int) = _
  rw [BitVec.toNat_or, i64_nat a ha, i64_nat b hb]
  exact IntWalk.i64_in _ (by omega)
theorem i64_and (a b : Nat) (ha : a < 2147483648) (hb : b < 2147483648) : bits .and .i64 (a : Int) (b : Int) = ((a &&& b : Nat) : Int) := by
  have hx : a &&& b < 2 ^ 31 := Nat.and_lt_two_pow _ (by omega)
  show IntKind.i64.wrap ((BitVec.ofInt 64 (a : Int) &&& BitVec.ofInt 64 (b : Int)).toNat : Int) = _
  rw [BitVec.toNat_and, i64_nat a ha, i64_nat b hb]
  exact IntWalk.i64_in _ (by omega)
set_option maxRecDepth 100000 in
theorem i64_sub (a b : Nat) (ha : a < 32) (hb : b < 32) (h : ∀ c, a.testBit c = true → b.testBit c = true) : bits .andNot .i64 (a : Int) (b : Int) = 0 := by
  have h2 : ∀ a : Fin 32, ∀ b : Fin 32, (∀ c : Fin 5, (a : Nat).testBit c = true → (b : Nat).testBit c = true) → bits .andNot .i64 ((a : Nat) : Int) ((b : Nat) : Int) = 0 := by decide +kernel
  exact h2 ⟨a, ha⟩ ⟨b, hb⟩ fun c hc => h c hc
/-- A bit that is looked at. -/
theorem bit_is (m n : Nat) (hm : m < 4096) : bits .and .i64 ((m : Int) / 2 ^ n) 1 = if m.testBit n then 1 else 0 := by
  have e1 : (m : Int) / 2 ^ n = ((m >>> n : Nat) : Int) := by rw [Nat.shiftRight_eq_div_pow]; simp
  have h1 : m >>> n ≤ m := by rw [Nat.shiftRight_eq_div_pow]; exact Nat.div_le_self _ _
  rw [e1, show (1 : Int) = ((1 : Nat) : Int) from rfl, i64_and _ 1 (by omega) (by omega)]
  have h2 := testBit_and_one m n
  have h3 : m >>> n &&& 1 < 2 := by rw [Nat.and_one_is_mod]; omega
  cases hb : m.testBit n with
  | true =>
    rw [hb, beq_iff_eq] at h2
    rw [h2]
    rfl
  | false =>
    rw [hb] at h2
    have : ¬ m >>> n &&& 1 = 1 := by simpa using h2
    rw [show m >>> n &&& 1 = 0 by omega]
    rfl
theorem lawSpot : WideMaps.KeyLaw Try.prog 44 := deep_law_laid laidOut (m := 4) (by omega) (of_decide_eq_true (by kernel_rfl)) (by kernel_rfl) (by kernel_rfl)
theorem cSpot : Try.prog.cellsOf 44 = 2 := by kernel_rfl
theorem key_spot (f h : Nat) (hf : f < 1000) (hh : h < 1000) : ∃ l, keyOf Try.prog 44 (plV f h) = some l := by
  have w0 := wf_i64 (show f < 4611686018427387904 by omega)
  have w1 := wf_i64 (show h < 4611686018427387904 by omega)
  unfold plV
  generalize (f : Int) = f at *
  generalize (h : Int) = h at *
  refine ⟨.string (keyBytes [.int .i64 f, .int .i64 h]), ?_⟩
  have hl : Try.prog.keyLits (Try.prog.types.size + 1) 44 [.int .i64 f, .int .i64 h] = some [.int .i64 f, .int .i64 h] := by
    show Try.prog.keyLits (Try.prog.types.size + 1) 44 _ = _
    unfold Program.keyLits
    rw [Try.underlying44]
    dsimp only
    obtain ⟨k, hk⟩ : ∃ k, Try.prog.types.size = k + 2 := ⟨Try.prog.types.size - 2, by have : 2 ≤ Try.prog.types.size := of_decide_eq_true (by kernel_rfl); omega⟩
    rw [hk]
    simp [cSpot, c3, kl_int (k + 1) w0, kl_int (k + 1) w1]
  have hf : (Try.prog.keyType 44 && (Value.agg #[.int .i64 f, .int .i64 h]).formed Try.prog 44) = true := by kernel_rfl
  unfold keyOf
  rw [Try.underlying44]
  dsimp only
  rw [if_pos hf]
  show Option.map _ (Try.prog.keyLits (Try.prog.types.size + 1) 44 [.int .i64 f, .int .i64 h]) = _
  rw [hl]
  rfl
theorem zero_bool (w : World) : (zeroValue 4).run Try.prog w = .ok (.bool false) w := by kernel_rfl
section
variable {kt mt et : TypeId} {Ok Ok' : Value → Value → Prop} {B : Nat} {w w' : World} {key v z : Value}
theorem MemoAt.mono (h : MemoAt kt Ok B w) (ho : ∀ k v, Ok k v → Ok' k v) : MemoAt kt Ok' B w := by
  obtain ⟨es, c, hb, he⟩ := h
  exact ⟨es, c, hb, fun e hm => ⟨(he e hm).1, ho _ _ (he e hm).2⟩⟩
/-- What is looked up, without asking whether it is there. -/
theorem MemoAt.look1 (K : WideMaps.KeyLaw Try.prog kt) (hmt : Try.prog.underlying mt = some (.map kt et)) (hz : (zeroValue et).run Try.prog w = .ok z w) (h : MemoAt kt Ok B w) (hk : ∃ l, keyOf Try.prog kt key = some l) (hno : ∀ v, ¬ Ok key v) :
    (Instr.lookup mt (.map (some B)) key false).run Try.prog w = .ok z w := by
  obtain ⟨es, c, hb, he⟩ := h
  obtain ⟨l, hkey⟩ := hk
  rcases K.find w hkey es.toList (fun e h => (he e h).1) with ⟨h1, -⟩ | ⟨j, e, h1, h2, h3⟩
  · simp [Instr.lookup, run_underlying hmt, MapKept.run_getObj_map hb, K.check w _ hkey, h1, Result.andThen, hz]
  · have := (he e (List.mem_of_getElem? h2)).2
    rw [h3] at this
    exact absurd this (hno _)
end
/-- What a truth's pots have taken. -/
def OkT (m : Mk) (f h d : Nat) (key v : Value) : Prop := v = .bool true ∧ ∃ f' h' : Nat, key = plV f' h' ∧ f' < 3 ∧ ((m.b f').testBit h' = true ∨ (f' = f ∧ h ≤ h' ∧ h' < h + d))
theorem plV_inj {f h f' h' : Nat} (e : plV f h = plV f' h') : f = f' ∧ h = h' := by
  simp [plV] at e
  omega
/-- What was not taken is free. -/
theorem okT_no {p : PN} {m : Mk} {x : Stp} (hx : PotOk p m x) {d : Nat} (hd : x.h + d < p.hot m.pot x.h (p.fr ||| p.pe)) (v : Value) : ¬ OkT m x.f x.h d (plV x.f (x.h + d)) v := by
  rintro ⟨-, f', h', e, -, h1 | ⟨-, -, h1⟩⟩
  · obtain ⟨rfl, rfl⟩ := plV_inj e
    have := (hx.free _ (by omega) hd).2
    rw [h1] at this
    cases this
  · obtain ⟨-, rfl⟩ := plV_inj e
    omega
theorem okT_mono {m : Mk} {f h d : Nat} (k v : Value) (ho : OkT m f h d k v) : OkT m f h (d + 1) k v := by
  obtain ⟨h1, f', h', h2, h3, h4⟩ := ho
  exact ⟨h1, f', h', h2, h3, h4.imp id fun ⟨a, b, c⟩ => ⟨a, b, by omega⟩⟩
theorem okT_next {p : PN} {m : Mk} {x : Stp} (hx : PotOk p m x) {d : Nat} (hd : x.h + d ≤ p.hot m.pot x.h (p.fr ||| p.pe)) (k v : Value) (ho : OkT m x.f x.h d k v) : OkT x.m 0 0 0 k v := by
  obtain ⟨h1, f', h', h2, h3, h4⟩ := ho
  refine ⟨h1, f', h', h2, h3, .inl ?_⟩
  rw [hx.next f' h3 h']
  rcases h4 with h4 | ⟨rfl, h5, h6⟩
  · rw [h4, Bool.true_or]
  · rw [decide_eq_true rfl, decide_eq_true h5, decide_eq_true (show h' < _ by omega)]
    simp
theorem okT_start {m : Mk} (f h : Nat) (k v : Value) (ho : OkT m 0 0 0 k v) : OkT m f h 0 k v := by
  obtain ⟨h1, f', h', h2, h3, h4 | ⟨-, -, h4⟩⟩ := ho
  · exact ⟨h1, f', h', h2, h3, .inl h4⟩
  · omega
/-- The hours at which pots are hot. -/
def hotC (n : Nat) (H : Nat → Nat) : Array Value := (rowVals (fun i => ((H i : Nat) : Int)) n).toArray
theorem hotC_at {n : Nat} (H : Nat → Nat) {i : Nat} (h : i < n) : (hotC n H)[i]? = some (.int .i64 (H i)) := by
  unfold hotC
  rw [List.getElem?_toArray, rowVals_get _ _ _ h]
theorem hotC_set (n : Nat) (H : Nat → Nat) (k v : Nat) : (hotC n H).setIfInBounds k (.int .i64 v) = hotC n (updN H k v) := by
  unfold hotC
  rw [List.setIfInBounds_toArray, rowVals_set]
  congr 2
  funext i
  unfold updN
  split <;> rfl
theorem make_hot (w : World) (n : Nat) (hn : n ≤ 4) : (Instr.makeSlice 24 (.int .i64 n) (.int .i64 n)).run Try.prog w = .ok (.slice (some ⟨w.heap.size, 0, none⟩) n n) (w.alloc (.cells (hotC n fun _ => 0) 3)) := by
  obtain ⟨i, hi, hz, hs, hb⟩ := info_parts info_int
  have h := run_make (P := Try.prog) w 24 3 i _ Try.underlying24 hi hz .i64 .i64 n n (by omega) (Int.le_refl _) (by rw [hb]; omega) (by omega)
  simp only [Int.toNat_natCast] at h
  have e : madeCells (Value.int .i64 0).cells (n * 1) = hotC n fun _ => 0 := by
    rcases (show n = 0 ∨ n = 1 ∨ n = 2 ∨ n = 3 ∨ n = 4 by omega) with rfl | rfl | rfl | rfl | rfl <;> kernel_rfl
  rw [h, hs, e]
end Go.Proofs.Ytikeihnhkiipgaa

namespace Go.Proofs.Ytikeihnhkiipgaa
open Go.RowKit

def LawPost (w : World) (e : Ending) (w' : World) : Prop := e = .returned (.bool true) ∧ Below w.heap.size w w'
theorem gi_start {x : AG} {w : World} (h : x.At w) : GI x w (w.alloc (.cells x.cs 29)) :=
  ⟨(Below.refl w.heap.size w).alloc (Nat.le_refl _) _, heap_alloc_new _ _, h.grow ((Below.refl w.heap.size w).alloc (Nat.le_refl _) _)⟩
set_option maxRecDepth 100000 in
set_option maxHeartbeats 4000000 in
theorem caulked_bad (x : AG) (fr : Nat) (sp : Option Addr) (spn spc : Nat) (w : World) (h : x.At w) (hb : 40 < max (max (max x.sn x.cn) x.fn) x.qn ∨ x.B = false) :
    Calls Try.prog 3 #[.agg x.cs, .int .u16 fr, .slice sp spn spc] w (LawPost w) := by
  have I0 := Lib.hid (gi_start h)
  have h1 := h.ss.small
  have h2 := h.cc.small
  have h3 := h.ff.small
  have h4 := h.qq.small
  unfold maxLen at h1 h2 h3 h4
  obtain ⟨z, hz, hz1⟩ : ∃ z : Nat, (∀ (W : World) (ts : Array TypeId) (t : TypeId), (Builtin.max_ ts t #[.int .i64 (x.sn : Nat), .int .i64 (x.cn : Nat), .int .i64 (x.fn : Nat), .int .i64 (x.qn : Nat)]).run Try.prog W = .ok (.int .i64 z) W) ∧ z = max (max (max x.sn x.cn) x.fn) x.qn :=
    ⟨_, fun W ts t => (run_max4 W ts t _ _ _ _).trans (by congr 3; omega), rfl⟩
  rw [← hz1] at hb
  clear hz1 h h1 h2 h3 h4
  unfold AG.cs at *
  go_enter Try.func3, Try.ntmps3
  go_upto_region 1 with (fail)
  generalize World.alloc w _ = w0 at *
  obtain ⟨q0, q1, q2, q3, q4, q5, q6⟩ := I0.out.cells
  by_cases hl : 40 < z
  · have hl' : (40 : Int) < z := by omega
    clear hb
    go_wp2_with (go_at_call 5; refine (awake08_any _).mono ?_; rintro e w' ⟨rfl, hb⟩)
    go_ret
    exact ⟨rfl, I0.out.bel.next hb⟩
  · have hl' : ¬ (40 : Int) < z := by omega
    have hB : x.B = false := hb.resolve_left hl
    have C1 := Lib.hid (gangs8_any x w0 I0.out.at')
    rw [hB] at C1
    unfold AG.cs at C1
    clear hb hB
    go_wp2_with (first
      | (go_at_call 4; refine C1.out.mono ?_; rintro e w1 ⟨rfl, hb1⟩; have B1 := I0.out.bel.next hb1)
      | (go_at_call 5; refine (awake08_any _).mono ?_; rintro e w' ⟨rfl, hb⟩))
    go_ret
    exact ⟨rfl, B1.next hb⟩
end Go.Proofs.Ytikeihnhkiipgaa
