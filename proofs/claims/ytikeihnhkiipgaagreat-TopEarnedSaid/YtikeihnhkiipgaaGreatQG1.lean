/-
  Rows, plain: the first right one; it is there where the table has an hour; the sets of a deal.
  Law: a range over a function that is left by a return in its first round; what the round is handed lies in memory.
-/
import Derived.Test.YtikeihnhkiipgaaGreatE6
import Derived.RangeFuncNested
namespace Go.Proofs.YtikeihnhkiipgaaGreat
open Go.RowKit

/-- A seam that can come next. -/
def GN.cnx (g : GN) (crew some : Nat) (s : St) (n : Nat) : Bool := some.testBit n && !s.s.testBit n && g.kn crew n && decide ((g.nxt s crew n).h ≤ g.fl n)
/-- A row that goes on rightly, and what is done behind it. -/
def GN.goes (g : GN) (crew : Nat) : St → List Nat → Prop
  | _, [] => True
  | s, n :: t => n < g.sn ∧ s.s.testBit n = false ∧ g.kn crew n = true ∧ (g.nxt s crew n).h ≤ g.fl n ∧ g.goes crew (g.nxt s crew n) t
def GN.ends (g : GN) (crew : Nat) : St → List Nat → St
  | s, [] => s
  | s, n :: t => g.ends crew (g.nxt s crew n) t
/-- The first right row that goes on from one. -/
def GN.first (g : GN) (crew some : Nat) : Nat → List Nat → St → Option (List Nat)
  | 0, row, s => if s.s = some then Option.some row else none
  | k + 1, row, s => if s.s = some then Option.some row else (List.range g.sn).findSome? fun n => if g.cnx crew some s n then g.first crew some k (row ++ [n]) (g.nxt s crew n) else none
/-- How many seams are left. -/
def missB (some s : Nat) : Nat → Nat
  | 0 => 0
  | n + 1 => missB some s n + if some.testBit n && !s.testBit n then 1 else 0
theorem missB_zero {some s : Nat} : ∀ {n : Nat}, missB some s n = 0 → ∀ i, i < n → (some.testBit i && !s.testBit i) = false
  | 0, _, i, hi => by omega
  | n + 1, h, i, hi => by
    unfold missB at h
    rcases Nat.lt_or_ge i n with h1 | h1
    · exact missB_zero (by omega) i h1
    · obtain rfl : i = n := by omega
      cases hb : (some.testBit i && !s.testBit i) with
      | false => rfl
      | true => rw [hb] at h; simp at h
theorem missB_le (some s : Nat) : ∀ n, missB some s n ≤ n
  | 0 => Nat.le_refl _
  | n + 1 => by
    unfold missB
    have := missB_le some s n
    split <;> omega
theorem or_bit (s n i : Nat) : (s ||| 2 ^ n).testBit i = (s.testBit i || decide (n = i)) := by rw [Nat.testBit_or, Nat.testBit_two_pow]
theorem missB_out {some s m : Nat} : ∀ {n : Nat}, n ≤ m → missB some (s ||| 2 ^ m) n = missB some s n
  | 0, _ => rfl
  | n + 1, h => by
    unfold missB
    rw [missB_out (by omega), or_bit, show decide (m = n) = false from decide_eq_false (by omega), Bool.or_false]
theorem missB_in {some s m : Nat} (h : (some.testBit m && !s.testBit m) = true) : ∀ {n : Nat}, m < n → missB some (s ||| 2 ^ m) n + 1 = missB some s n
  | 0, hn => by omega
  | n + 1, hn => by
    unfold missB
    rcases Nat.lt_or_ge m n with h1 | h1
    · rw [or_bit, show decide (m = n) = false from decide_eq_false (by omega), Bool.or_false]
      have := missB_in h h1
      omega
    · obtain rfl : m = n := by omega
      rw [missB_out (Nat.le_refl _), or_bit, h]
      simp
theorem cnx_iff {g : GN} {crew some : Nat} {s : St} {n : Nat} : g.cnx crew some s n = true ↔ some.testBit n = true ∧ s.s.testBit n = false ∧ g.kn crew n = true ∧ (g.nxt s crew n).h ≤ g.fl n := by
  unfold GN.cnx
  simp only [Bool.and_eq_true, decide_eq_true_eq, Bool.not_eq_true', and_assoc]
theorem cnx_miss {g : GN} {crew some k : Nat} {s : St} {n : Nat} (h : g.cnx crew some s n = true) (hn : n < g.sn) (hk : missB some s.s g.sn ≤ k + 1) : missB some (g.nxt s crew n).s g.sn ≤ k := by
  have h1 := cnx_iff.1 h
  have h2 := missB_in (some := some) (s := s.s) (m := n) (by rw [h1.1, h1.2.1]; rfl) hn
  show missB some (s.s ||| 2 ^ n) g.sn ≤ k
  omega
/-- How the first one is found. -/
theorem first_here {g : GN} {crew some k : Nat} {row : List Nat} {s : St} (h : s.s = some) : g.first crew some k row s = Option.some row := by
  cases k <;> simp [GN.first, h]
theorem first_hit {g : GN} {crew some k : Nat} {row r : List Nat} {s : St} {n : Nat} (h : s.s ≠ some) (hn : n < g.sn) (h1 : ∀ i, i < n → g.cnx crew some s i = true → g.first crew some k (row ++ [i]) (g.nxt s crew i) = none)
    (h2 : g.cnx crew some s n = true) (h3 : g.first crew some k (row ++ [n]) (g.nxt s crew n) = Option.some r) : g.first crew some (k + 1) row s = Option.some r := by
  rw [GN.first, if_neg h]
  obtain ⟨d, hd⟩ : ∃ d, g.sn = n + (1 + d) := ⟨g.sn - n - 1, by omega⟩
  rw [hd, List.range_eq_range', ← List.range'_append_1, List.findSome?_append, List.findSome?_eq_none_iff.2 (fun i hi => by
    have := List.mem_range'_1.1 hi
    split
    · rename_i hc
      exact h1 i (by omega) hc
    · rfl)]
  rw [show 1 + d = d + 1 by omega, List.range'_succ]
  simp [h2, h3]
theorem first_none {g : GN} {crew some k : Nat} {row : List Nat} {s : St} (h : s.s ≠ some) (h1 : ∀ i, i < g.sn → g.cnx crew some s i = true → g.first crew some k (row ++ [i]) (g.nxt s crew i) = none) : g.first crew some (k + 1) row s = none := by
  rw [GN.first, if_neg h]
  exact List.findSome?_eq_none_iff.2 fun i hi => by
    split
    · rename_i hc
      exact h1 i (List.mem_range.1 hi) hc
    · rfl
/-- What is found is right. -/
theorem first_right {g : GN} {crew some : Nat} : ∀ {k : Nat} {row r : List Nat} {s : St}, g.first crew some k row s = Option.some r → ∃ t, r = row ++ t ∧ g.goes crew s t ∧ (g.ends crew s t).s = some
  | 0, row, r, s, h => by
    rw [GN.first] at h
    split at h
    · rename_i hs
      cases h
      exact ⟨[], by simp, trivial, hs⟩
    · cases h
  | k + 1, row, r, s, h => by
    rw [GN.first] at h
    split at h
    · rename_i hs
      cases h
      exact ⟨[], by simp, trivial, hs⟩
    · obtain ⟨n, hn, h2⟩ := List.exists_of_findSome?_eq_some h
      split at h2
      · rename_i hc
        obtain ⟨t, h3, h4, h5⟩ := first_right h2
        have h6 := cnx_iff.1 hc
        exact ⟨n :: t, by rw [h3]; simp, ⟨List.mem_range.1 hn, h6.2.1, h6.2.2.1, h6.2.2.2, h4⟩, h5⟩
      · cases h2
theorem ends_bit {g : GN} {crew i : Nat} : ∀ {t : List Nat} {s : St}, s.s.testBit i = true → (g.ends crew s t).s.testBit i = true
  | [], _, h => h
  | n :: t, s, h => ends_bit (t := t) (s := g.nxt s crew n) (by
    show (s.s ||| 2 ^ n).testBit i = true
    rw [or_bit, h, Bool.true_or])
/-- What is right is found. -/
theorem first_some {g : GN} {crew some : Nat} : ∀ {k : Nat} {row : List Nat} {s : St}, missB some s.s g.sn ≤ k → g.first crew some k row s = none → ∀ t, g.goes crew s t → (g.ends crew s t).s ≠ some
  | k, row, s, hk, h, [], _, he => by
    rw [first_here (show s.s = some from he)] at h
    cases h
  | k, row, s, hk, h, n :: t, ⟨hn, hb, hkn, hf, hg⟩, he => by
    have hbit : some.testBit n = true := by
      rw [← he]
      exact ends_bit (t := t) (s := g.nxt s crew n) (by
        show (s.s ||| 2 ^ n).testBit n = true
        rw [or_bit, decide_eq_true rfl, Bool.or_true])
    have hc : g.cnx crew some s n = true := cnx_iff.2 ⟨hbit, hb, hkn, hf⟩
    cases k with
    | zero =>
      have := missB_zero (Nat.le_zero.1 hk) n hn
      rw [hbit, hb] at this
      cases this
    | succ k =>
      rw [GN.first] at h
      split at h
      · cases h
      · have h1 := List.findSome?_eq_none_iff.1 h n (List.mem_range.2 hn)
        rw [if_pos hc] at h1
        exact first_some (cnx_miss hc hn hk) h1 t hg he
theorem goes_append {g : GN} {crew n : Nat} : ∀ {t : List Nat} {s : St}, g.goes crew s t → g.goes crew (g.ends crew s t) [n] → g.goes crew s (t ++ [n])
  | [], _, _, h => h
  | _ :: _, _, ⟨a, b, c, d, e⟩, h => ⟨a, b, c, d, goes_append e h⟩
theorem ends_append {g : GN} {crew n : Nat} : ∀ {t : List Nat} {s : St}, g.ends crew s (t ++ [n]) = g.nxt (g.ends crew s t) crew n
  | [], _ => rfl
  | _ :: t, _ => ends_append (t := t)
/-- Each hour of a table is that of a row. -/
def HasRow (g : GN) (crew : Nat) (T : Nat → Nat) (j : Nat) : Prop := T j < 10000 → ∃ t, g.goes crew ⟨0, 0⟩ t ∧ g.ends crew ⟨0, 0⟩ t = ⟨j, T j⟩
set_option maxRecDepth 100000 in
theorem wo_facts : ∀ k : Fin 32, ∀ n : Fin 5, k.val.testBit n.val = true → wo k.val n.val ||| 2 ^ n.val = k.val ∧ wo k.val n.val < k.val ∧ (wo k.val n.val).testBit n.val = false := by decide +kernel
theorem tin_row {g : GN} {crew k : Nat} {T : Nat → Nat} (hk : k < 32) (hs : g.sn ≤ 5) (h : ∀ j, j ≤ k → HasRow g crew T j) : ∀ n, n ≤ g.sn → ∀ j, j ≤ k → HasRow g crew (g.tin crew k T n) j
  | 0, _, j, hj => h j hj
  | n + 1, hn, j, hj => by
    have ih := tin_row hk hs h n (by omega)
    unfold GN.tin
    split
    · rename_i hc
      split
      · rename_i hd
        simp only [Bool.and_eq_true, decide_eq_true_eq] at hc hd
        by_cases hjk : j = k
        · subst hjk
          obtain ⟨w1, w2, w3⟩ := wo_facts ⟨j, hk⟩ ⟨n, by omega⟩ hc.1
          dsimp only at w1 w2 w3
          intro hlt
          rw [show updN (g.tin crew j T n) j (min (g.tin crew j T n j) (g.nxt ⟨wo j n, g.tin crew j T n (wo j n)⟩ crew n).h) j = min (g.tin crew j T n j) (g.nxt ⟨wo j n, g.tin crew j T n (wo j n)⟩ crew n).h from if_pos rfl] at hlt ⊢
          rcases Nat.le_total (g.tin crew j T n j) (g.nxt ⟨wo j n, g.tin crew j T n (wo j n)⟩ crew n).h with hm | hm
          · rw [Nat.min_eq_left hm] at hlt ⊢
            exact ih j (Nat.le_refl _) hlt
          · rw [Nat.min_eq_right hm]
            obtain ⟨t, h1, h2⟩ := ih (wo j n) (by omega) hd.1
            refine ⟨t ++ [n], goes_append h1 ?_, ?_⟩
            · rw [h2]
              exact ⟨by omega, w3, hc.2, hd.2, trivial⟩
            · rw [ends_append, h2]
              show St.mk (wo j n ||| 2 ^ n) _ = _
              rw [w1]
              rfl
        · intro hlt
          rw [show updN (g.tin crew k T n) k (min (g.tin crew k T n k) (g.nxt ⟨wo k n, g.tin crew k T n (wo k n)⟩ crew n).h) j = g.tin crew k T n j from if_neg hjk] at hlt ⊢
          exact ih j hj hlt
      · exact ih j hj
    · exact ih j hj
theorem tab_row {g : GN} {crew : Nat} (hs : g.sn ≤ 5) : ∀ m, m ≤ 32 → ∀ j, j < m → HasRow g crew (g.tab crew m) j
  | 0, _, j, hj => by omega
  | m + 1, hm, j, hj => by
    have ih := tab_row (crew := crew) hs m (by omega)
    unfold GN.tab
    refine tin_row (by omega) hs (fun j hj => ?_) _ (Nat.le_refl _) j (by omega)
    intro hlt
    by_cases hjm : j = m
    · subst hjm
      rw [show updN (g.tab crew j) j (if j = 0 then 0 else 10000) j = (if j = 0 then 0 else 10000) from if_pos rfl] at hlt ⊢
      by_cases h0 : j = 0
      · subst h0
        exact ⟨[], trivial, rfl⟩
      · rw [if_neg h0] at hlt
        omega
    · rw [show updN (g.tab crew m) m (if m = 0 then 0 else 10000) j = g.tab crew m j from if_neg hjm] at hlt ⊢
      exact ih j (by omega) hlt
/-- Where the table has an hour, there is a first right row. -/
theorem tab_first {g : GN} (ok : g.Ok) {crew some : Nat} (hs : some < 2 ^ g.sn) (h : g.tab crew (2 ^ g.sn) some < 10000) : ∃ r, g.first crew some g.sn [] ⟨0, 0⟩ = Option.some r ∧ g.goes crew ⟨0, 0⟩ r ∧ (g.ends crew ⟨0, 0⟩ r).s = some := by
  have hp : 2 ^ g.sn ≤ 2 ^ 5 := Nat.pow_le_pow_right (by omega) ok.hsn
  obtain ⟨t, h1, h2⟩ := tab_row (g := g) (crew := crew) ok.hsn (2 ^ g.sn) (by omega) some hs h
  cases hf : g.first crew some g.sn [] ⟨0, 0⟩ with
  | none => exact absurd (by rw [h2]) (first_some (missB_le _ _ _) hf t h1)
  | some r =>
    obtain ⟨t, h3, h4, h5⟩ := first_right hf
    rw [List.nil_append] at h3
    subst h3
    exact ⟨r, rfl, h4, h5⟩
/-- What is dealt, when the crews are taken in their order. -/
def GN.de (g : GN) (n : Nat) : Nat → Mk → Mk
  | 0, m => m
  | k + 1, m => match g.pick n k m with
    | none => m
    | some c => g.de n k (m.deal c)
theorem Mk.b_set (m : Mk) (v : Nat) {f c : Nat} (hf : f < 3) (hc : c < 3) : (m.set v f).b c = if c = f then v else m.b c := by
  rcases (show f = 0 ∨ f = 1 ∨ f = 2 by omega) with rfl | rfl | rfl <;> rcases (show c = 0 ∨ c = 1 ∨ c = 2 by omega) with rfl | rfl | rfl <;> rfl
theorem deal_bits (m : Mk) {f c : Nat} (hf : f < 3) (hc : c < 3) : (m.deal f).b c = if c = f then m.b c ||| 2 ^ m.pot else m.b c := by
  unfold Mk.deal
  rw [Mk.b_set _ _ hf hc]
  split
  · rename_i e; rw [e]
  · rfl
theorem dl_ends {g : GN} (ok : g.Ok) {n : Nat} (hn : n < 10000) : ∀ {k : Nat} {m : Mk}, m.pot + k = g.sn → g.dv k m = n → (g.dl n k m).length = k ∧ (∀ c ∈ g.dl n k m, c < g.cn) ∧ g.dn (g.de n k m) g.cn = n ∧
    ∀ c, c < 3 → ∀ i, ((g.de n k m).b c).testBit i = ((m.b c).testBit i || (decide (m.pot ≤ i) && decide ((g.dl n k m)[i - m.pot]? = some c)))
  | 0, m, _, h => ⟨rfl, fun c h => (by cases h), h, fun c _ i => by simp [GN.de, GN.dl]⟩
  | k + 1, m, hk, h => by
    obtain ⟨c0, hp, hc0, hd⟩ := pick_some h hn
    obtain ⟨h1, h2, h3, h4⟩ := dl_ends ok hn (k := k) (m := m.deal c0) (by rw [deal_pot]; omega) hd
    have e1 : g.dl n (k + 1) m = c0 :: g.dl n k (m.deal c0) := by rw [GN.dl, hp]
    have e2 : g.de n (k + 1) m = g.de n k (m.deal c0) := by rw [GN.de, hp]
    rw [e1, e2]
    refine ⟨by rw [List.length_cons, h1], fun c hc => ?_, h3, fun c hc i => ?_⟩
    · rcases List.mem_cons.1 hc with rfl | hc
      · exact hc0
      · exact h2 c hc
    · rw [h4 c hc i, deal_pot, deal_bits m (by have := ok.hcn; omega) hc]
      rcases Nat.lt_trichotomy i m.pot with hi | hi | hi
      · rw [show decide (m.pot + 1 ≤ i) = false from decide_eq_false (by omega), show decide (m.pot ≤ i) = false from decide_eq_false (by omega)]
        split
        · rw [or_bit, show decide (m.pot = i) = false from decide_eq_false (by omega)]
          simp
        · rfl
      · subst hi
        rw [show decide (m.pot + 1 ≤ m.pot) = false from decide_eq_false (by omega), Nat.sub_self, List.getElem?_cons_zero]
        by_cases e : c = c0
        · subst e
          rw [if_pos rfl, or_bit]
          simp
        · rw [if_neg e]
          simp [show ¬ c0 = c from fun h => e h.symm]
      · rw [show i - m.pot = (i - (m.pot + 1)) + 1 by omega, List.getElem?_cons_succ, show decide (m.pot + 1 ≤ i) = true from decide_eq_true (by omega), show decide (m.pot ≤ i) = true from decide_eq_true (by omega)]
        split
        · rw [or_bit, show decide (m.pot = i) = false from decide_eq_false (by omega), Bool.or_false]
        · rfl
/-- The set of the seams that a list deals to a crew. -/
def setOf (l : Nat → Nat) (c : Nat) : Nat → Nat
  | 0 => 0
  | n + 1 => if l n = c then setOf l c n ||| 2 ^ n else setOf l c n
theorem setOf_bit (l : Nat → Nat) (c : Nat) : ∀ n i, (setOf l c n).testBit i = (decide (i < n) && decide (l i = c))
  | 0, i => by simp [setOf]
  | n + 1, i => by
    unfold setOf
    have ih := setOf_bit l c n i
    by_cases e : i = n
    · subst e
      by_cases hc : l i = c
      · rw [if_pos hc, or_bit]
        simp [hc]
      · rw [if_neg hc, ih]
        simp [hc]
    · have h1 : decide (i < n + 1) = decide (i < n) := by
        by_cases h : i < n
        · rw [decide_eq_true h, decide_eq_true (by omega)]
        · rw [decide_eq_false h, decide_eq_false (by omega)]
      rw [h1, ← ih]
      split
      · rw [or_bit, show decide (n = i) = false from decide_eq_false (by omega), Bool.or_false]
      · rfl
theorem dn_tab {g : GN} {m : Mk} {n : Nat} : ∀ {k : Nat}, g.dn m k ≤ n → ∀ c, c < k → g.tab c (2 ^ g.sn) (m.b c) ≤ n
  | 0, _, c, hc => by omega
  | k + 1, h, c, hc => by
    unfold GN.dn at h
    rcases Nat.lt_or_ge c k with h1 | h1
    · exact dn_tab (k := k) (by omega) c h1
    · obtain rfl : c = k := by omega
      omega
theorem setOf_lt (l : Nat → Nat) (c n : Nat) : setOf l c n < 2 ^ n := Nat.lt_pow_two_of_testBit _ fun i hi => by
  rw [setOf_bit, decide_eq_false (by omega), Bool.false_and]
/-- The crew that a seam is dealt to. -/
def GN.to (g : GN) (i : Nat) : Nat := (g.dl (g.dv g.sn Mk.start) g.sn Mk.start)[i]?.getD 0
theorem to_lt {g : GN} (ok : g.Ok) (h : g.dv g.sn Mk.start < 10000) {i : Nat} (hi : i < g.sn) : g.to i < g.cn := by
  obtain ⟨h1, h2, -, -⟩ := dl_ends ok h (k := g.sn) (m := Mk.start) (Nat.zero_add _) rfl
  unfold GN.to
  rw [List.getElem?_eq_getElem (by omega)]
  exact h2 _ (List.getElem_mem _)
/-- Each crew has a right row of the seams that it is dealt. -/
theorem deal_rows {g : GN} (ok : g.Ok) (h : g.dv g.sn Mk.start < 10000) {c : Nat} (hc : c < g.cn) : ∃ r, g.first c (setOf g.to c g.sn) g.sn [] ⟨0, 0⟩ = some r ∧ g.goes c ⟨0, 0⟩ r ∧ (g.ends c ⟨0, 0⟩ r).s = setOf g.to c g.sn := by
  obtain ⟨h1, h2, h3, h4⟩ := dl_ends ok h (k := g.sn) (m := Mk.start) (Nat.zero_add _) rfl
  have hc3 : c < 3 := by have := ok.hcn; omega
  have e : (g.de (g.dv g.sn Mk.start) g.sn Mk.start).b c = setOf g.to c g.sn := by
    apply Nat.eq_of_testBit_eq
    intro i
    rw [h4 c hc3 i, setOf_bit]
    have h0 : (Mk.start.b c).testBit i = false := by
      rcases (show c = 0 ∨ c = 1 ∨ c = 2 by omega) with rfl | rfl | rfl <;> exact Nat.zero_testBit i
    rw [h0, Bool.false_or, show Mk.start.pot = 0 from rfl, Nat.sub_zero, decide_eq_true (Nat.zero_le i), Bool.true_and]
    unfold GN.to
    rcases Nat.lt_or_ge i g.sn with hi | hi
    · rw [List.getElem?_eq_getElem (by omega), decide_eq_true hi]
      simp
    · rw [List.getElem?_eq_none (by omega), decide_eq_false (show ¬ i < g.sn by omega)]
      simp
  have h5 := dn_tab (Nat.le_of_eq h3) c hc
  rw [e] at h5
  exact tab_first ok (setOf_lt _ _ _) (by omega)
theorem goes_mem {g : GN} {crew n : Nat} : ∀ {t : List Nat} {s : St}, g.goes crew s t → n ∈ t → n < g.sn ∧ g.kn crew n = true
  | _ :: t, s, ⟨a, b, c, d, e⟩, h => by
    rcases List.mem_cons.1 h with rfl | h
    · exact ⟨a, c⟩
    · exact goes_mem e h
theorem ends_mem {g : GN} {crew i : Nat} : ∀ {t : List Nat} {s : St}, (g.ends crew s t).s.testBit i = (s.s.testBit i || decide (i ∈ t))
  | [], s => by simp [GN.ends]
  | n :: t, s => by
    show (g.ends crew (g.nxt s crew n) t).s.testBit i = _
    rw [ends_mem (t := t) (s := g.nxt s crew n), show (g.nxt s crew n).s = s.s ||| 2 ^ n from rfl, or_bit]
    by_cases e : n = i
    · subst e; simp
    · simp [e, show ¬ i = n from fun h => e h.symm]
theorem goes_nodup {g : GN} {crew : Nat} : ∀ {t : List Nat} {s : St}, g.goes crew s t → t.Nodup ∧ ∀ n ∈ t, s.s.testBit n = false
  | [], _, _ => ⟨List.nodup_nil, fun n h => (by cases h)⟩
  | n :: t, s, ⟨a, b, c, d, e⟩ => by
    obtain ⟨h1, h2⟩ := goes_nodup (t := t) e
    refine ⟨List.nodup_cons.2 ⟨fun h => ?_, h1⟩, fun i hi => ?_⟩
    · have := h2 n h
      rw [show (g.nxt s crew n).s = s.s ||| 2 ^ n from rfl, or_bit, decide_eq_true rfl, Bool.or_true] at this
      cases this
    · rcases List.mem_cons.1 hi with rfl | hi
      · exact b
      · have := h2 i hi
        rw [show (g.nxt s crew n).s = s.s ||| 2 ^ n from rfl, or_bit] at this
        exact (Bool.or_eq_false_iff.1 this).1
/-- A faster crew takes no longer. -/
theorem takes_anti {f a b : Nat} (ha : 1 ≤ a) (hab : a ≤ b) : (f + b - 1) / b ≤ (f + a - 1) / a := by
  have h1 : f ≤ (f + a - 1) / a * a := by
    have h := Nat.div_add_mod (f + a - 1) a
    have h2 := Nat.mod_lt (f + a - 1) (show a > 0 by omega)
    rw [Nat.mul_comm] at h
    omega
  have h2 : (f + a - 1) / a * a ≤ (f + a - 1) / a * b := Nat.mul_le_mul_left _ hab
  refine Nat.le_of_lt_succ ((Nat.div_lt_iff_lt_mul (by omega)).2 ?_)
  rw [Nat.succ_mul]
  omega
end Go.Proofs.YtikeihnhkiipgaaGreat

namespace Go.Proofs.YtikeihnhkiipgaaGreat
open Go.RowKit

section
variable {F : Fence} {n : Nat} {P : Program}
/-- An iterator whose first round says 'no more': E x: what lies where it is handed x; Sp x: what is so of x. -/
def OnceSeq {α : Type} (F : Fence) (n : Nat) (P : Program) (g : Nat) (lb : Array Value) (encs : α → Array Value) (E : α → World → Prop) (w : World) : Prop :=
  ∀ (l : Nat) (J : World → Prop) (Jx : α → World → Prop) (W : World), Below w.heap.size w W → (∀ A B, J A → Below A.heap.size A B → J B) → (∀ x A B, Jx x A → Below A.heap.size A B → Jx x B) →
    (∀ x W1, J W1 → E x W1 → Below W.heap.size W W1 → ∀ m, YieldAt F m P l (encs x) W1 fun e W' => e = .returned (.bool false) ∧ Jx x W') →
    J W → CallsIn F n P g (#[.func (.yield l) #[] #[]] ++ lb) W fun e W' => (∃ v, e = .returned v) ∧ ∃ x, Jx x W'
theorem wpIn_rangeFunc_once {α : Type} {g : Operand} {ps : Array Tmp} {assign body : Code} {Q : Exit → Act → World → Prop} {a : Act} {w : World}
    (hro : F.round = none) (hd : F.depth = none) (h1 : 1 ≤ n) {gf : Nat} {lb : Array Value} (hg : a.eval g = .func (.func gf) #[] lb) (hFg : F.fn gf) (eg : ∀ args w, (callFunc gf args).run P w = .ok (.enter gf args) w)
    {encs : α → Array Value} {E : α → World → Prop} (hseq : OnceSeq F (n - 1) P gf lb encs E w) (hps : ∀ x, (encs x).size = ps.size)
    (Ix : α → World → Prop) (hE : ∀ x A l o o', w.heap.size ≤ l → A.heap[l]? = some o → o.isCells = false → E x A → E x (A.putObj l o'))
    (hIg : ∀ x A B, Ix x A → Below A.heap.size A B → Ix x B) (hIp : ∀ x A l o o', w.heap.size ≤ l → A.heap[l]? = some o → o.isCells = false → Ix x A → Ix x (A.putObj l o')) (a₁ : α → Act)
    (hassign : ∀ (l : Nat) (x : α) (W : World) (K : Act → World → Prop), K (a₁ x) W →
      assign.wpIn (F.inRound l) (n - 1 - 1) P (Exit.then K (fun _ _ _ => False)) { tmps := (ps.zip (encs x)).foldl (fun t (p, v) => t.setIfInBounds p v) a.tmps, defers := [] } W)
    (hbody : ∀ (l : Nat) (x : α) (W : World), Below w.heap.size w W → E x W → body.wpIn (F.inRound l) (n - 1 - 1) P (fun e _ W' => e = .ret ∧ KeepsFrom w.heap.size W W' ∧ Ix x W') (a₁ x) W)
    (hstop : ∀ (D : Nat) (x : α) (W : World), w.heap.size ≤ D → Ix x W → W.heap[D]? = some (.deferred (some [])) → Code.ret.wpIn F n P Q { a with defers := { target := .collected D, args := #[] } :: a.defers } W) :
    (Code.rangeFunc g ps assign body).wpIn F n P Q a w := by
  have hb0 : ∀ A l o o', w.heap.size ≤ l → A.heap[l]? = some o → Below w.heap.size w A → Below w.heap.size w (A.putObj l o') := fun A l o o' hl ho hb =>
    hb.grown (grownBy_putObj' A l o') hb.size (fun k e => by cases e; exact hl)
  refine wpIn_rangeFunc ?_
  intro fn hfn
  rw [hro]
  obtain ⟨rec, hrec⟩ : ∃ rec : LoopState → Option Code → Loop, rec = fun st pe => { state := st, pending := pe, fn, tmps := a.tmps, params := ps, assign, body, defers := w.heap.size } := ⟨_, rfl⟩
  obtain ⟨W1, hW1⟩ : ∃ W1, (w.alloc (.deferred (some []))).alloc (.loop (rec .ready none)) = W1 := ⟨_, rfl⟩
  have hL1 : W1.heap[w.heap.size + 1]? = some (.loop (rec .ready none)) := by
    rw [← hW1]; have := World.alloc_heap_new (w.alloc (.deferred (some []))) (.loop (rec .ready none)); rwa [World.size_alloc] at this
  have hK1 : W1.heap[w.heap.size]? = some (.deferred (some [])) := by
    rw [← hW1]; exact (Below.heap_alloc _ _ _ (by simp)).trans (World.alloc_heap_new w _)
  have hb1 : Below w.heap.size w W1 := by
    rw [← hW1]; exact ((Below.refl _ w).alloc (Nat.le_refl _) _).alloc (by simp) _
  refine ⟨w.heap.size + 1, [{ target := .collected w.heap.size, args := #[] }], W1, { target := .fn (.func gf) lb, args := #[.func (.yield (w.heap.size + 1)) #[] #[]] }, W1, gf,
    #[.func (.yield (w.heap.size + 1)) #[] #[]] ++ lb, W1, ?_, ?_, ?_, ?_, fun _ => h1, ?_⟩
  · rw [← hW1, hrec]; exact run_enterLoop_outer _ _ _ _ _
  · simp only [resolve, hg]
    simp [go_sem]
  · intro f' hf'; simp [Target.leads] at hf'; subst hf'; exact hFg
  · simp [invoke, go_sem, eg]
  · refine (hseq (w.heap.size + 1)
      (fun W => Below w.heap.size w W ∧ W.heap[w.heap.size + 1]? = some (.loop (rec .ready none)) ∧ W.heap[w.heap.size]? = some (.deferred (some [])))
      (fun x W => Ix x W ∧ W.heap[w.heap.size + 1]? = some (.loop (rec .done (some .ret))) ∧ W.heap[w.heap.size]? = some (.deferred (some [])))
      W1 hb1
      (fun A B hs hb => ⟨hs.1.next hb, (hb.block _ (Array.getElem?_eq_some_iff.1 hs.2.1).1).trans hs.2.1, (hb.block _ (Array.getElem?_eq_some_iff.1 hs.2.2).1).trans hs.2.2⟩)
      (fun x A B hs hb => ⟨hIg x A B hs.1 hb, (hb.block _ (Array.getElem?_eq_some_iff.1 hs.2.1).1).trans hs.2.1, (hb.block _ (Array.getElem?_eq_some_iff.1 hs.2.2).1).trans hs.2.2⟩)
      ?_ ⟨hb1, hL1, hK1⟩).mono ?_
    · rintro x W ⟨hbw, hl, hk⟩ hex - m
      have hlt : w.heap.size + 1 < W.heap.size := (Array.getElem?_eq_some_iff.1 hl).1
      have hy := run_yield (P := P) (args := encs x) hl (by rw [hrec]; exact hps x)
      rw [hrec] at hy
      have hroom : ∀ k, F.room k := fun k d h => by rw [hd] at h; cases h
      have hR : RoundIn F (n - 1 - 1) P (w.heap.size + 1) fn ((ps.zip (encs x)).foldl (fun t (p, v) => t.setIfInBounds p v) a.tmps) assign body W fun e W' => e = .returned (.bool false) ∧ Ix x W' ∧ W'.heap[w.heap.size + 1]? = some (.loop (rec .done (some .ret))) ∧ W'.heap[w.heap.size]? = some (.deferred (some [])) := by
        refine roundIn_of_wpIn hfn (hassign _ x W _ ⟨_, run_beginRound hl (by rw [hrec]), ?_⟩)
        have hl2 : (W.putObj (w.heap.size + 1) (.loop { rec .ready none with state := .busy })).heap[w.heap.size + 1]? = some (.loop { rec .ready none with state := .busy }) := World.putObj_heap_same hlt
        have hk2 : (W.putObj (w.heap.size + 1) (.loop { rec .ready none with state := .busy })).heap[w.heap.size]? = some (.deferred (some [])) := (World.putObj_heap_other (by omega)).trans hk
        refine wpIn_mono (hbody _ x _ (hb0 _ _ _ _ (by omega) hl hbw) (hE x _ _ _ _ (by omega) hl rfl hex)) ?_
        rintro e a3 W3 ⟨rfl, hk3, hi3⟩
        have hl3 := hk3.same _ _ (by omega) hl2 rfl
        have he := run_endRound (P := P) (some .ret) hl3
        rw [hrec] at he hl3
        refine ⟨_, _, he, rfl, hIp x _ _ _ _ (by omega) hl3 rfl hi3, ?_, (World.putObj_heap_other (by omega)).trans (hk3.same _ _ (Nat.le_refl _) hk2 rfl)⟩
        rw [hrec]
        exact World.putObj_heap_same (Array.getElem?_eq_some_iff.1 hl3).1
      exact ⟨fn, _, assign, body, hy, hR.1, fun c cs _ => hR.2 c cs (hroom _)⟩
    · rintro e W2 ⟨⟨v, rfl⟩, x, hi, hl, hk⟩
      exact ⟨some .ret, _, by have := run_endLoop (P := P) hl (by rw [hrec]; simp); rw [hrec] at this; exact this, hstop _ x _ (Nat.le_refl _) (hIp x _ _ _ _ (by omega) hl rfl hi) ((World.putObj_heap_other (by omega)).trans hk)⟩
end
end Go.Proofs.YtikeihnhkiipgaaGreat
