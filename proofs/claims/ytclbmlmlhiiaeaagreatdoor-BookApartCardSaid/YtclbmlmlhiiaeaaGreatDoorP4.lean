/-
  Plain laws: irons with the same text have as many owners; what is written, and whether it is valid.
-/
import Derived.Test.YtclbmlmlhiiaeaaGreatDoorT6
namespace Go.Proofs.YtclbmlmlhiiaeaaGreatDoor
open Go.RowKit

/-- How many letters w a text has: one for each owner. -/
def wsN (t : List UInt8) : Nat := t.count 119
theorem wsN_app (a b : List UInt8) : wsN (a ++ b) = wsN a + wsN b := List.count_append
theorem wsN_dec (u : Nat) : wsN (Lib.decDigits u) = 0 := by
  unfold wsN
  rw [List.count_eq_zero]
  intro h
  have := (dec_spec u).1 119 h
  exact absurd this (by decide)
theorem wsN_itoa (n : Int) : wsN (Lib.itoa n) = 0 := by
  by_cases hn : n < 0
  · obtain ⟨u, rfl⟩ : ∃ u : Nat, n = -(u : Int) := ⟨n.natAbs, by omega⟩
    rw [Lib.itoa_neg u (by omega)]
    show wsN ([45] ++ Lib.decDigits u) = 0
    rw [wsN_app, wsN_dec]
    rfl
  · obtain ⟨u, rfl⟩ : ∃ u : Nat, n = u := ⟨n.toNat, by omega⟩
    rw [Lib.itoa_nonneg]
    exact wsN_dec u
theorem wsN_nums (t : List UInt8) (F : Nat → Int) : ∀ n, wsN (numsT t F n) = wsN t
  | 0 => rfl
  | n + 1 => by
    show wsN (numsT t F n ++ ([32] ++ Lib.itoa (F n))) = _
    rw [wsN_app, wsN_nums t F n, wsN_app, wsN_itoa]
    rfl
theorem wsN_owners (t : List UInt8) (x : IronsV) : ∀ n, wsN (ownersT t x n) = wsN t + n
  | 0 => rfl
  | n + 1 => by
    show wsN (numsT (ownersT t x n ++ ([111, 119, 110, 101, 114, 32] ++ Lib.itoa (x.most n))) (x.own n) (x.ol n) ++ [10]) = _
    rw [wsN_app, wsN_nums, wsN_app, wsN_app, wsN_itoa, wsN_owners t x n]
    show wsN t + n + (1 + 0) + 0 = _
    omega
theorem wsN_span (lo hi : Int) : wsN (spanT lo hi) = 0 := by
  unfold spanT
  split
  · exact wsN_itoa lo
  · show wsN (Lib.itoa lo ++ ([46, 46] ++ Lib.itoa hi)) = 0
    rw [wsN_app, wsN_itoa, wsN_app, wsN_itoa]
    rfl
theorem wsN_marks (t : List UInt8) (M : Nat → IMark) : ∀ n, wsN (marksT t M n) = wsN t
  | 0 => rfl
  | n + 1 => by
    show wsN (marksT t M n ++ (([32] ++ Lib.itoa (M n).f) ++ ([61] ++ spanT (M n).lo (M n).hi))) = _
    rw [wsN_app, wsN_marks t M n, wsN_app, wsN_app, wsN_app, wsN_itoa, wsN_span]
    rfl
theorem wsN_strakes (t : List UInt8) (x : IronsV) : ∀ n, wsN (strakesT t x n) = wsN t
  | 0 => rfl
  | n + 1 => by
    show wsN (marksT (strakesT t x n ++ [115, 116, 114, 97, 107, 101]) (x.mark n) (x.sl n) ++ [10]) = _
    rw [wsN_app, wsN_marks, wsN_app, wsN_strakes t x n]
    rfl
theorem wsN_claims (t : List UInt8) (C : Nat → IClaim) : ∀ n, wsN (claimsT t C n) = wsN t
  | 0 => rfl
  | n + 1 => by
    show wsN (claimsT t C n ++ ([99, 108, 97, 105, 109, 32] ++ Lib.itoa (C n).s ++ ([32] ++ (notT (C n).n ++ Lib.itoa (C n).o)) ++ [10])) = _
    simp only [wsN_app, wsN_claims t C n, wsN_itoa]
    cases (C n).n <;> rfl
theorem wsN_irons (x : IronsV) : wsN (ironsT x) = x.on := by
  unfold ironsT ironH
  rw [wsN_claims, wsN_strakes, wsN_owners, wsN_app, wsN_app, wsN_itoa]
  show 0 + 0 + 0 + x.on = x.on
  omega
theorem sameI_text {x y : IronsV} (hx : IrOk x) (hy : IrOk y) : sameI x y = (ironsT x == ironsT y) := by
  unfold sameI
  rw [decide_eq_true hx.mn, decide_eq_true hy.mn]
  by_cases h : ironsT x = ironsT y
  · have e := wsN_irons x
    rw [h, wsN_irons y] at e
    rw [decide_eq_true (show x.mn = y.mn by rw [hx.mn, hy.mn, e])]
    rfl
  · rw [show (ironsT x == ironsT y) = false from beq_eq_false_iff_ne.2 h, Bool.and_false]
theorem wroteHull_ok (S : Nat → Sea) (n : Nat) (U : Nat → Sou) (m : Nat) : ∃ s e, wroteHull S n U m = WroteT s e ∧ (e = 0 → HullOk S n U m ∧ s = hullT S n U m) ∧ (e = 0 ∨ e = 1) := by
  unfold wroteHull
  split
  · rename_i h
    exact ⟨_, 0, rfl, fun _ => ⟨hull_ok h, rfl⟩, .inl rfl⟩
  · exact ⟨[], 1, rfl, (fun h => by cases h), .inr rfl⟩
theorem wrotePitch_ok (hr fr pe : Int) (F : Nat → Int) (fn : Nat) (Q : Nat → Pot) (qn : Nat) : ∃ s e, wrotePitch hr fr pe F fn Q qn = WroteT s e ∧ (e = 0 → PitOk hr fr pe F fn Q qn ∧ s = pitchT hr fr pe F fn Q qn) ∧ (e = 0 ∨ e = 1) := by
  unfold wrotePitch
  split
  · rename_i h
    exact ⟨_, 0, rfl, fun _ => ⟨pitch_ok h, rfl⟩, .inl rfl⟩
  · exact ⟨[], 1, rfl, (fun h => by cases h), .inr rfl⟩
theorem wroteIrons_ok (x : IronsV) : ∃ s e, wroteIrons x = WroteT s e ∧ (e = 0 → IrOk x ∧ s = ironsT x) ∧ (e = 0 ∨ e = 1) := by
  unfold wroteIrons
  split
  · rename_i h
    exact ⟨_, 0, rfl, fun _ => ⟨irons_ok h, rfl⟩, .inl rfl⟩
  · exact ⟨[], 1, rfl, (fun h => by cases h), .inr rfl⟩
/-- Wages that are valid, and their book. -/
structure BookOf (g : WagA) (n : Nat) (B : Nat → Nat) : Prop where
  ok : WagesOk g.cr g.S g.sn g.T g.tn
  n : n = szB (bookN (wagesV g.cr g.S g.sn g.T g.tn))
  b : B = bookB (wagesV g.cr g.S g.sn g.T g.tn)
theorem wroteWages_ok (g : WagA) : ∃ (n : Nat) (B : Nat → Nat) (x : Int), (∀ i, B i < 256) ∧ (∀ {w : World} {e : Ending} {w' : World}, WroteWages g.cr g.S g.sn g.T g.tn w e w' → ∃ oa cap, e = .returned (.tuple #[.slice oa n cap, .int .i64 x]) ∧ BytesAt w' oa n B ∧ Below w.heap.size w w') ∧ (x = 0 → BookOf g n B) ∧ (x = 0 ∨ x = 1) := by
  cases hB : wagesB g.cr g.S g.sn g.T g.tn with
  | true =>
    refine ⟨szB (bookN (wagesV g.cr g.S g.sn g.T g.tn)), bookB (wagesV g.cr g.S g.sn g.T g.tn), 0, book_lt _, fun h => ?_, fun _ => ⟨wages_ok hB, rfl, rfl⟩, .inl rfl⟩
    obtain ⟨hb, h⟩ := h
    rw [if_pos hB] at h
    obtain ⟨oa, cap, e, h1, -, -⟩ := h
    exact ⟨oa, cap, e, h1, hb⟩
  | false =>
    refine ⟨0, fun _ => 0, 1, fun _ => (show (0 : Nat) < 256 by omega), fun h => ?_, (fun h => by cases h), .inr rfl⟩
    obtain ⟨hb, h⟩ := h
    rw [if_neg (by rw [hB]; simp)] at h
    exact ⟨none, 0, h, row_none _ _ _, hb⟩
theorem sameWages_any {g h : WagA} {n m : Nat} {B C : Nat → Nat} {w : World} (hg : BookOf g n B) (hh : BookOf h m C) (ag : g.At w) (ah : h.At w) :
    Calls Tryz.prog 27 #[.agg #[.int .i64 g.cr, .slice g.sa g.sn g.sc, .slice g.ta g.tn g.tc], .agg #[.int .i64 h.cr, .slice h.sa h.sn h.sc, .slice h.ta h.tn h.tc]] w fun e w' => e = .returned (.bool (eqB n m B C)) ∧ Below w.heap.size w w' := by
  obtain ⟨og, rfl, rfl⟩ := hg
  obtain ⟨oh, rfl, rfl⟩ := hh
  have k1 := og.rows ag.s ag.t
  have k2 := oh.rows ah.s ah.t
  have h1 : ((wagesV g.cr g.S g.sn g.T g.tn).cr : Int) = g.cr := Int.toNat_of_nonneg (by have := og.hcr; omega)
  have h2 : ((wagesV h.cr h.S h.sn h.T h.tn).cr : Int) = h.cr := Int.toNat_of_nonneg (by have := oh.hcr; omega)
  have := sameWages27_any (wagesV g.cr g.S g.sn g.T g.tn) (wagesV h.cr h.S h.sn h.T h.tn) g.sa g.ta h.sa h.ta g.sc g.tc h.sc h.tc w k1.1 k1.2 k2.1 k2.2 og.small oh.small
  rw [h1, h2] at this
  exact this
end Go.Proofs.YtclbmlmlhiiaeaaGreatDoor
