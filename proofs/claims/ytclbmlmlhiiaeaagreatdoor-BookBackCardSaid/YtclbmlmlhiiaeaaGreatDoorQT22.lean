/-
Plain laws for BookBack: what is written of a hull and of a.
-/
import Derived.Test.YtclbmlmlhiiaeaaGreatDoorQZ1
import Derived.Test.YtclbmlmlhiiaeaaGreatDoorQT6
import Derived.Test.YtclbmlmlhiiaeaaGreatDoorQP1
namespace Go.Proofs.YtclbmlmlhiiaeaaGreatDoor
open Go.RowKit
theorem hull_back (S : Nat → Sea) (n : Nat) (U : Nat → Sou) (m : Nat) : ∃ s e, wroteHull S n U m = WroteT s e ∧ s.length ≤ 1000 ∧
  ((hullB S n U m = true ∧ e = 0 ∧ (hullRes s).1 = 0 ∧ HullOk S n U m ∧ HullOk (seaOf (hullRes s).2.s) (hullRes s).2.s.length (souOf (hullRes s).2.u) (hullRes s).2.u.length ∧ hullT (seaOf (hullRes s).2.s) (hullRes s).2.s.length (souOf (hullRes s).2.u) (hullRes s).2.u.length = hullT S n U m) ∨ (hullB S n U m = false ∧ e = 1 ∧ s = [] ∧ (hullRes s).1 = 8)) := by
 cases h : hullB S n U m with
 | false =>
  refine ⟨[], 1, by unfold wroteHull; rw [h]; rfl, by decide, .inr ⟨rfl, rfl, rfl, by rw [hullRes_empty]⟩⟩
 | true =>
  refine ⟨hullT S n U m, 0, by unfold wroteHull; rw [h]; rfl, hull_short h, .inl ⟨rfl, rfl, ?_⟩⟩
  rw [hullRes_back h]
  have eS : ∀ i, i < n → seaOf (listN S n) i = S i := fun i hi => listN_get S _ n i hi
  have eU : ∀ i, i < m → souOf (listN U m) i = U i := fun i hi => listN_get U _ m i hi
  dsimp only
  rw [listN_len, listN_len]
  exact ⟨rfl, hull_ok h, hull_ok ((hullB_congr eS eU).trans h), hullT_congr eS eU⟩
theorem pit_back (hr fr pe : Int) (F : Nat → Int) (fn : Nat) (Q : Nat → Pot) (qn : Nat) : ∃ s e, wrotePitch hr fr pe F fn Q qn = WroteT s e ∧ s.length ≤ 1000 ∧
  ((pitchB hr fr pe F fn Q qn = true ∧ e = 0 ∧ (pitRes s).1 = 0 ∧ PitOk hr fr pe F fn Q qn ∧ PitOk (pitRes s).2.hr (pitRes s).2.fr (pitRes s).2.pe (intOf' (pitRes s).2.f) (pitRes s).2.f.length (potOf (pitRes s).2.q) (pitRes s).2.q.length ∧ pitVT (pitRes s).2 = pitchT hr fr pe F fn Q qn) ∨ (pitchB hr fr pe F fn Q qn = false ∧ e = 1 ∧ s = [] ∧ (pitRes s).1 = 8)) := by
 cases h : pitchB hr fr pe F fn Q qn with
 | false =>
  refine ⟨[], 1, by unfold wrotePitch; rw [h]; rfl, by decide, .inr ⟨rfl, rfl, rfl, by rw [pitRes_empty]⟩⟩
 | true =>
  refine ⟨pitchT hr fr pe F fn Q qn, 0, by unfold wrotePitch; rw [h]; rfl, pitch_short h, .inl ⟨rfl, rfl, ?_⟩⟩
  rw [pitRes_back h]
  have eF : ∀ i, i < fn → intOf' (listN F fn) i = F i := fun i hi => listN_get F _ fn i hi
  have eQ : ∀ i, i < qn → potOf (listN Q qn) i = Q i := fun i hi => listN_get Q _ qn i hi
  unfold pitVT
  dsimp only
  rw [listN_len, listN_len]
  exact ⟨rfl, pitch_ok h, pitch_ok ((pitchB_congr eF eQ).trans h), pitchT_congr eF eQ⟩
theorem iron_back (x : IronsV) : ∃ s e, wroteIrons x = WroteT s e ∧ s.length ≤ 1000 ∧
  ((ironsB x = true ∧ e = 0 ∧ (ironRes s).1 = 0 ∧ IrOk x ∧ IrOk (toV (ironRes s).2) ∧ sameI (toV (ironRes s).2) x = true) ∨ (ironsB x = false ∧ e = 1 ∧ s = [] ∧ (ironRes s).1 = 8)) := by
 cases h : ironsB x with
 | false =>
  refine ⟨[], 1, by unfold wroteIrons; rw [h]; rfl, by decide, .inr ⟨rfl, rfl, rfl, by rw [ironRes_empty]⟩⟩
 | true =>
  refine ⟨ironsT x, 0, by unfold wroteIrons; rw [h]; rfl, irons_short h, .inl ⟨rfl, rfl, ?_⟩⟩
  have ok := irons_ok h
  have he := backI_eq ok.mn
  rw [ironRes_back h]
  dsimp only
  refine ⟨rfl, ok, irons_ok ((ironsB_congr he).trans h), ?_⟩
  unfold sameI
  rw [decide_eq_true he.mn, decide_eq_true (he.mn.trans (ok.mn.trans he.on.symm)), decide_eq_true ok.mn, ironsT_congr he ok.mn, beq_self_eq_true]
  rfl
theorem valid_nat {g : WagA} (ok : WagesOk g.cr g.S g.sn g.T g.tn) (h : wagesB g.cr g.S g.sn g.T g.tn = true) : wagesVB (wagesV g.cr g.S g.sn g.T g.tn) = true := by
 unfold wagesVB
 have hc := ok.hcr
 have e1 : ((wagesV g.cr g.S g.sn g.T g.tn).cr : Int) = g.cr := Int.toNat_of_nonneg (by omega)
 have hS : ∀ i, i < g.sn → ∀ j, j < 2 → castW (wagesV g.cr g.S g.sn g.T g.tn).S i j = g.S i j := fun i hi j hj => by
  have := ok.s i hi
  show (((g.S i j).toNat : Nat) : Int) = _
  rcases (show j = 0 ∨ j = 1 by omega) with rfl | rfl <;> exact Int.toNat_of_nonneg (by omega)
 have hT : ∀ i, i < g.tn → ∀ j, j < 8 → castW (wagesV g.cr g.S g.sn g.T g.tn).T i j = g.T i j := fun i hi j hj => by
  have := ok.t i hi
  show (((g.T i j).toNat : Nat) : Int) = _
  rcases (show j = 0 ∨ j = 1 ∨ j = 2 ∨ j = 3 ∨ j = 4 ∨ j = 5 ∨ j = 6 ∨ j = 7 by omega) with rfl | rfl | rfl | rfl | rfl | rfl | rfl | rfl <;> exact Int.toNat_of_nonneg (by omega)
 rw [e1]
 show wagesB g.cr (castW (wagesV g.cr g.S g.sn g.T g.tn).S) g.sn (castW (wagesV g.cr g.S g.sn g.T g.tn).T) g.tn = true
 generalize castW (wagesV g.cr g.S g.sn g.T g.tn).S = S' at *
 generalize castW (wagesV g.cr g.S g.sn g.T g.tn).T = T' at *
 rw [← h]
 unfold wagesB
 rw [allB_congr (p := fun i => okSm (S' i)) (q := fun i => okSm (g.S i)) (fun i hi => by unfold okSm; rw [hS i hi 0 (by omega), hS i hi 1 (by omega)]),
  allB_congr (p := fun i => okTk g.cr g.sn S' (T' i)) (q := fun i => okTk g.cr g.sn g.S (g.T i)) (fun i hi => by
   have h1 := (ok.t i hi).2.1
   unfold okTk
   rw [hT i hi 0 (by omega), hT i hi 1 (by omega), hT i hi 2 (by omega), hT i hi 3 (by omega), hT i hi 4 (by omega), hT i hi 5 (by omega), hT i hi 6 (by omega), hT i hi 7 (by omega), hS _ (show (g.T i 1).toNat < g.sn by omega) 0 (by omega)])]
theorem book_short {x : WagesV} (hv : wagesVB x = true) : szB (bookN x) ≤ 100 := by
 have ok := wages_ok hv
 have h2 := ok.hsn
 have h3 := ok.htn
 have h4 := wageBits_len x
 unfold szB bookN rowsB
 omega
theorem wages_back (g : WagA) : ∃ (n : Nat) (B : Nat → Nat) (e : Int), (∀ i, B i < 256) ∧ n ≤ 1000 ∧ (∀ {w : World} {r : Ending} {w' : World}, WroteWages g.cr g.S g.sn g.T g.tn w r w' → ∃ oa cap, r = .returned (.tuple #[.slice oa n cap, .int .i64 e]) ∧ BytesAt w' oa n B ∧ n ≤ cap ∧ Below w.heap.size w w') ∧
  ((wagesB g.cr g.S g.sn g.T g.tn = true ∧ e = 0 ∧ WagesOk g.cr g.S g.sn g.T g.tn ∧ n = szB (bookN (wagesV g.cr g.S g.sn g.T g.tn)) ∧ B = bookB (wagesV g.cr g.S g.sn g.T g.tn) ∧ (readW n B).1 = 0) ∨ (wagesB g.cr g.S g.sn g.T g.tn = false ∧ e = 1 ∧ n = 0 ∧ (readW n B).1 = 8)) := by
 cases hB : wagesB g.cr g.S g.sn g.T g.tn with
 | true =>
  have ok := wages_ok hB
  have hv := valid_nat ok hB
  have hs := book_short hv
  obtain ⟨y, hy, -⟩ := read_book hv
  refine ⟨szB (bookN (wagesV g.cr g.S g.sn g.T g.tn)), bookB (wagesV g.cr g.S g.sn g.T g.tn), 0, book_lt _, by omega, fun h => ?_, .inl ⟨rfl, rfl, ok, rfl, rfl, by rw [hy]⟩⟩
  obtain ⟨hb, h⟩ := h
  rw [if_pos hB] at h
  obtain ⟨oa, cap, e, h1, -, h3⟩ := h
  exact ⟨oa, cap, e, h1, h3, hb⟩
 | false =>
  refine ⟨0, fun _ => 0, 1, fun _ => (show (0 : Nat) < 256 by omega), by omega, fun h => ?_, .inr ⟨rfl, rfl, rfl, by rw [readW_empty]⟩⟩
  obtain ⟨hb, h⟩ := h
  rw [if_neg (by rw [hB]; simp)] at h
  exact ⟨none, 0, h, row_none _ _ _, Nat.le_refl _, hb⟩
end Go.Proofs.YtclbmlmlhiiaeaaGreatDoor
