/-
  What comes in: gangs, bytes, as rows of memory.
-/
import Derived.Test.YtikeihnhkiipgaaGreatH0
import Derived.WalkKit
import Derived.ProofKit
import Derived.OpenShut
import Derived.ShutString
import Derived.ChangeOld
import Derived.Below
import Derived.Laws.IdiomArrays
import Derived.Deep.Slices
import Derived.Lib.SmallJoins
namespace Go.Proofs.YtikeihnhkiipgaaGreat.fr
open Go.ChangeShapes Go.WideShapes Go.ChangeAt Go.RowKit Go.Proofs.YtikeihnhkiipgaaGreat

theorem row_none (w : World) (sz : Nat) (cell : Nat → Nat → Value) : Row w none 0 sz cell := ⟨fun h => by omega, fun h => by omega, Nat.zero_le _, fun i hi => by omega⟩
theorem addr_plain {w : World} {a : Addr} {v : Value} (h : w.cell? a = some v) : a = ⟨a.block, a.off, none⟩ := by
  obtain ⟨b, o, s⟩ := a
  cases s with
  | none => rfl
  | some k =>
    exfalso
    simp [World.cell?] at h
    split at h <;> cases h
section
variable {H : Type} {enc : TypeId × Value → H} {w : World} {base : Nat} {spare : Nat → Bool} {held : Bool}
theorem row_of {E : Type} (e0 : E) {P : E → Prop} {a : Addr} {len sz : Nat} {cell : E → Nat → Value} (hlen : len ≤ maxLen) (hs : 0 < sz) (hc : ∀ i, i < len → ∃ e : E, (∀ j, j < sz → w.cell? ((a.add (i * sz)).add j) = some (cell e j)) ∧ P e) :
    ∃ F : Nat → E, Row w (some a) len sz (fun i j => cell (F i) j) ∧ ∀ i, i < len → P (F i) := by
  have : ∀ i, ∃ e : E, i < len → (∀ j, j < sz → w.cell? ((a.add (i * sz)).add j) = some (cell e j)) ∧ P e := fun i => by
    by_cases hi : i < len
    · obtain ⟨e, he⟩ := hc i hi
      exact ⟨e, fun _ => he⟩
    · exact ⟨e0, fun h => absurd h hi⟩
  obtain ⟨F, hF⟩ := Classical.axiomOfChoice this
  have hp : 0 < len → a = ⟨a.block, a.off, none⟩ := fun h => by
    have := (hF 0 h).1 0 hs
    simp only [Nat.zero_mul] at this
    exact addr_plain (by simpa [Addr.add] using this)
  refine ⟨F, ⟨fun h => ?_, fun h => ?_, hlen, fun i hi j hj => ?_⟩, fun i hi => (hF i hi).2⟩
  · rw [hp h]; rfl
  · have := (hF 0 h).1 0 hs
    simp only [Nat.zero_mul] at this
    exact World.block_lt_of_cell? w a (by simpa [Addr.add] using this)
  · have h1 := (hF i hi).1 j hj
    have h2 := hp (by omega)
    obtain ⟨b, o, s⟩ := a
    simp only [Addr.mk.injEq, true_and] at h2
    subst h2
    have e : ((⟨b, o, none⟩ : Addr).add (i * sz)).add j = ⟨b, o + i * sz + j, none⟩ := by unfold Addr.add; split <;> split <;> simp <;> omega
    rw [e] at h1
    exact h1
/-- A slice that comes in: its elements, cell by cell. -/
theorem open_rows {E : Type} (e0 : E) {P : E → Prop} {cell : E → Nat → Value} {t e sz : Nat} (ht : Tryz.prog.underlying t = some (.slice e)) (hsz : Tryz.prog.cellsOf e = sz) (h0 : 0 < sz)
    (hel : ∀ {n : Nat} {cs : List Value} {y : DataW H × List MemPlace}, DataW.trod enc Tryz.prog w base spare held n e cs = some y → ∃ x : E, (∀ j, j < sz → cs[j]? = some (cell x j)) ∧ P x)
    {n : Nat} {v : Value} {y : DataW H × List MemPlace} (h : DataW.trod enc Tryz.prog w base spare held n t [v] = some y) : ∃ oa k c, ∃ F : Nat → E, v = .slice oa k c ∧ k ≤ c ∧ Row w oa k sz (fun i j => cell (F i) j) ∧ ∀ i, i < k → P (F i) := by
  rcases Go.Deep.open_slice ht h with ⟨hcs, _⟩ | ⟨a, len, cap, m, k, D, Pl, hcs, _, hl, hm, hmm, _, hi⟩
  · simp only [List.cons.injEq, and_true] at hcs
    exact ⟨none, 0, 0, fun _ => e0, hcs, Nat.le_refl _, row_none _ _ _, fun i hi => by omega⟩
  · simp only [List.cons.injEq, and_true] at hcs
    have hle : len ≤ m := by rw [hmm]; split <;> omega
    obtain ⟨F, hF, hP⟩ := row_of (w := w) (a := a) (len := len) (sz := sz) (cell := cell) (P := P) e0 (by omega) h0 fun i hlt => by
      obtain ⟨cs', hc, ht⟩ := hi i (by omega)
      obtain ⟨x, hx, px⟩ := hel ht
      rw [hsz] at hc
      obtain ⟨_, _, hat⟩ := World.cells?_some hc
      exact ⟨x, fun j hj => (hat j hj).trans (hx j hj), px⟩
    exact ⟨some a, len, cap, F, hcs, hl, hF, hP⟩
theorem one_int {n : Nat} {cs : List Value} {k : Nat} {xs : List (DataW H × List MemPlace)} (hk : k < xs.length) (h : DataW.trod enc Tryz.prog w base spare held n 3 cs = xs[k]?) : ∃ z, cs = [.int .i64 z] := by
  rw [List.getElem?_eq_getElem hk] at h
  obtain ⟨z, hz, _⟩ := DataW.trod_int Tryz.underlying3 h
  exact ⟨z, hz⟩
theorem cSpan : Tryz.prog.cellsOf 50 = 2 := by kernel_rfl
theorem two_ints {n : Nat} {a b : Value} {k : Nat} {xs : List (DataW H × List MemPlace)} (hk : k < xs.length) (h : DataW.trod enc Tryz.prog w base spare held n 50 [a, b] = xs[k]?) : ∃ y z, a = .int .i64 y ∧ b = .int .i64 z := by
  rw [List.getElem?_eq_getElem hk] at h
  obtain ⟨ys, m, _, _, _, hl, hf⟩ := DataW.trod_struct Tryz.underlying50 h
  have h0 := hf 0 _ rfl
  have h1 := hf 1 _ rfl
  simp only [List.getElem_toArray, List.getElem_cons_zero, List.getElem_cons_succ, c3, List.drop_zero, List.drop_succ_cons, List.take_succ_cons, List.take_zero] at h0 h1
  obtain ⟨y, hy⟩ := one_int (by rw [hl]; decide) h0
  obtain ⟨z, hz⟩ := one_int (by rw [hl]; decide) h1
  simp only [List.cons.injEq, and_true] at hy hz
  exact ⟨y, z, hy, hz⟩
theorem int_at {n : Nat} {cs : List Value} {y : DataW H × List MemPlace} (h : DataW.trod enc Tryz.prog w base spare held n 3 cs = some y) : ∃ x : Int, (∀ j, j < 1 → cs[j]? = some ((fun (x : Int) (_ : Nat) => Value.int .i64 x) x j)) ∧ True := by
  obtain ⟨z, hz, _⟩ := DataW.trod_int Tryz.underlying3 h
  subst hz
  exact ⟨z, fun j hj => by obtain rfl : j = 0 := by omega
                           rfl, trivial⟩
theorem u8_wf {n : Int} (h : (Lit.int .u8 n).wf = true) : 0 ≤ n ∧ n ≤ 255 := by
  simp [Lit.wf, IntKind.min, IntKind.max, IntKind.signed, IntKind.bits] at h
  omega
theorem u16_wf {n : Int} (h : (Lit.int .u16 n).wf = true) : 0 ≤ n ∧ n ≤ 65535 := by
  simp [Lit.wf, IntKind.min, IntKind.max, IntKind.signed, IntKind.bits] at h
  omega
theorem u8_at {n : Nat} {cs : List Value} {y : DataW H × List MemPlace} (h : DataW.trod enc Tryz.prog w base spare held n 5 cs = some y) : ∃ x : Nat, (∀ j, j < 1 → cs[j]? = some ((fun (x : Nat) (_ : Nat) => Value.int .u8 (x : Int)) x j)) ∧ x < 256 := by
  obtain ⟨z, hz, _, hw⟩ := DataW.trod_int Tryz.underlying5 h
  subst hz
  have hb := u8_wf hw
  obtain ⟨k, rfl⟩ := Int.eq_ofNat_of_zero_le hb.1
  exact ⟨k, fun j hj => by obtain rfl : j = 0 := by omega
                           rfl, by omega⟩
set_option maxRecDepth 100000 in
theorem sm_at {n : Nat} {cs : List Value} {y : DataW H × List MemPlace} (h : DataW.trod enc Tryz.prog w base spare held n 41 cs = some y) : ∃ x : Sm, (∀ j, j < 4 → cs[j]? = some (Sm.cell x j)) ∧ True := by
  obtain ⟨ys, m, _, _, hcl, hl, hf⟩ := DataW.trod_struct Tryz.underlying41 h
  rw [show Tryz.prog.cellsOf 41 = 4 by kernel_rfl] at hcl
  match cs, hcl with
  | [u0, u1, u2, u3], _ =>
    have h0 := hf 0 _ rfl
    have h1 := hf 1 _ rfl
    have h2 := hf 2 _ rfl
    have h3 := hf 3 _ rfl
    simp only [List.getElem_toArray, List.getElem_cons_zero, List.getElem_cons_succ, c3, List.drop_zero, List.drop_succ_cons, List.take_succ_cons, List.take_zero] at h0 h1 h2 h3
    obtain ⟨x0, e0⟩ := one_int (by rw [hl]; decide) h0
    obtain ⟨x1, e1⟩ := one_int (by rw [hl]; decide) h1
    obtain ⟨x2, e2⟩ := one_int (by rw [hl]; decide) h2
    obtain ⟨x3, e3⟩ := one_int (by rw [hl]; decide) h3
    simp only [List.cons.injEq, and_true] at e0 e1 e2 e3
    subst e0 e1 e2 e3
    refine ⟨⟨x0, x1, x2, x3⟩, fun j hj => ?_, trivial⟩
    obtain rfl | rfl | rfl | rfl : j = 0 ∨ j = 1 ∨ j = 2 ∨ j = 3 := by omega
    all_goals rfl
set_option maxRecDepth 100000 in
theorem cw_at {n : Nat} {cs : List Value} {y : DataW H × List MemPlace} (h : DataW.trod enc Tryz.prog w base spare held n 63 cs = some y) : ∃ x : Cw, (∀ j, j < 3 → cs[j]? = some (Cw.cell x j)) ∧ True := by
  obtain ⟨ys, m, _, _, hcl, hl, hf⟩ := DataW.trod_struct Tryz.underlying63 h
  rw [show Tryz.prog.cellsOf 63 = 3 by kernel_rfl] at hcl
  match cs, hcl with
  | [u0, u1, u2], _ =>
    have h0 := hf 0 _ rfl
    have h1 := hf 1 _ rfl
    simp only [List.getElem_toArray, List.getElem_cons_zero, List.getElem_cons_succ, c3, cSpan, List.drop_zero, List.drop_succ_cons, List.take_succ_cons, List.take_zero] at h0 h1
    obtain ⟨x0, x1, e0, e1⟩ := two_ints (by rw [hl]; decide) h0
    obtain ⟨x2, e2⟩ := one_int (by rw [hl]; decide) h1
    simp only [List.cons.injEq, and_true] at e2
    subst e0 e1 e2
    refine ⟨⟨x0, x1, x2⟩, fun j hj => ?_, trivial⟩
    obtain rfl | rfl | rfl : j = 0 ∨ j = 1 ∨ j = 2 := by omega
    all_goals rfl
set_option maxRecDepth 100000 in
theorem pot_at {n : Nat} {cs : List Value} {y : DataW H × List MemPlace} (h : DataW.trod enc Tryz.prog w base spare held n 111 cs = some y) : ∃ x : Pot, (∀ j, j < 3 → cs[j]? = some (Pot.cell x j)) ∧ True := by
  obtain ⟨ys, m, _, _, hcl, hl, hf⟩ := DataW.trod_struct Tryz.underlying111 h
  rw [show Tryz.prog.cellsOf 111 = 3 by kernel_rfl] at hcl
  match cs, hcl with
  | [u0, u1, u2], _ =>
    have h0 := hf 0 _ rfl
    have h1 := hf 1 _ rfl
    have h2 := hf 2 _ rfl
    simp only [List.getElem_toArray, List.getElem_cons_zero, List.getElem_cons_succ, c3, List.drop_zero, List.drop_succ_cons, List.take_succ_cons, List.take_zero] at h0 h1 h2
    obtain ⟨x0, e0⟩ := one_int (by rw [hl]; decide) h0
    obtain ⟨x1, e1⟩ := one_int (by rw [hl]; decide) h1
    obtain ⟨x2, e2⟩ := one_int (by rw [hl]; decide) h2
    simp only [List.cons.injEq, and_true] at e0 e1 e2
    subst e0 e1 e2
    refine ⟨⟨x0, x1, x2⟩, fun j hj => ?_, trivial⟩
    obtain rfl | rfl | rfl : j = 0 ∨ j = 1 ∨ j = 2 := by omega
    all_goals rfl
theorem list7 {l : List Value} (h : l.length = 7) : ∃ a b c d e f g, l = [a, b, c, d, e, f, g] := by
  match l, h with
  | [a, b, c, d, e, f, g], _ => exact ⟨a, b, c, d, e, f, g, rfl⟩
set_option maxRecDepth 100000 in
theorem pitch_cells {n : Nat} {a0 a1 a2 a3 a4 : Value} {y : DataW H × List MemPlace} (h : DataW.trod enc Tryz.prog w base spare held n 27 [a0, a1, a2, a3, a4] = some y) :
    ∃ hr fr pe fa qa fn fc qn qc F Q, a0 = .int .i64 hr ∧ a1 = .int .i64 fr ∧ a2 = .int .i64 pe ∧ a3 = .slice fa fn fc ∧ a4 = .slice qa qn qc ∧ IntsAt w fa fn F ∧ PotsAt w qa qn Q := by
  obtain ⟨ys, m, _, _, _, hl, hf⟩ := DataW.trod_struct Tryz.underlying27 h
  have h0 := hf 0 _ rfl
  have h1 := hf 1 _ rfl
  have h2 := hf 2 _ rfl
  have h3 := hf 3 _ rfl
  have h4 := hf 4 _ rfl
  simp only [List.getElem_toArray, List.getElem_cons_zero, List.getElem_cons_succ, c3, show Tryz.prog.cellsOf 24 = 1 by kernel_rfl, show Tryz.prog.cellsOf 25 = 1 by kernel_rfl, List.drop_zero, List.drop_succ_cons, List.take_succ_cons, List.take_zero] at h0 h1 h2 h3 h4
  obtain ⟨x0, e0⟩ := one_int (by rw [hl]; decide) h0
  obtain ⟨x1, e1⟩ := one_int (by rw [hl]; decide) h1
  obtain ⟨x2, e2⟩ := one_int (by rw [hl]; decide) h2
  simp only [List.cons.injEq, and_true] at e0 e1 e2
  rw [List.getElem?_eq_getElem (by rw [hl]; decide)] at h3 h4
  obtain ⟨fa, fn, fc, F, e3, -, hF, -⟩ := open_rows (0 : Int) Tryz.underlying24 c3 (by omega) int_at h3
  obtain ⟨qa, qn, qc, Q, e4, -, hQ, -⟩ := open_rows (⟨0, 0, 0⟩ : Pot) Tryz.underlying25 (by kernel_rfl) (by omega) pot_at h4
  exact ⟨x0, x1, x2, fa, qa, fn, fc, qn, qc, F, Q, e0, e1, e2, e3, e4, hF, hQ⟩
set_option maxRecDepth 100000 in
theorem open_gangs {r : Reach} {b0 : Nat} {v : Value} {d : DataW H} {p : List MemPlace} (hv : Value.okWide Tryz.prog w r b0 29 v) (h : DataW.Trod enc Tryz.prog w base spare held 29 v d p) :
    ∃ x : AG, v = .agg x.cs ∧ x.At w := by
  obtain ⟨cs, rfl, hsz⟩ := okWide_struct Tryz.underlying29 hv
  obtain ⟨l⟩ := cs
  obtain ⟨a0, a1, a2, a3, a4, a5, a6, rfl⟩ := list7 (l := l) (by simpa using hsz.trans (by kernel_rfl))
  obtain ⟨fuel, hf0⟩ := h
  obtain ⟨ys, m, _, _, _, hl, hf⟩ := DataW.trod_struct Tryz.underlying29 hf0
  have h0 := hf 0 _ rfl
  have h1 := hf 1 _ rfl
  have h2 := hf 2 _ rfl
  simp only [Value.cells, List.getElem_toArray, List.getElem_cons_zero, List.getElem_cons_succ, show Tryz.prog.cellsOf 22 = 1 by kernel_rfl, show Tryz.prog.cellsOf 23 = 1 by kernel_rfl, show Tryz.prog.cellsOf 27 = 5 by kernel_rfl, List.drop_zero, List.drop_succ_cons, List.take_succ_cons, List.take_zero] at h0 h1 h2
  rw [List.getElem?_eq_getElem (by rw [hl]; decide)] at h0 h1 h2
  obtain ⟨sa, sn, sc, S, rfl, -, hS, -⟩ := open_rows (⟨0, 0, 0, 0⟩ : Sm) Tryz.underlying22 (by kernel_rfl) (by omega) sm_at h0
  obtain ⟨ca, cn, cc, C, rfl, -, hC, -⟩ := open_rows (⟨0, 0, 0⟩ : Cw) Tryz.underlying23 (by kernel_rfl) (by omega) cw_at h1
  obtain ⟨hr, fr, pe, fa, qa, fn, fc, qn, qc, F, Q, rfl, rfl, rfl, rfl, rfl, hF, hQ⟩ := pitch_cells h2
  exact ⟨⟨hr, fr, pe, ⟨sa, sc, ca, cc, fa, fc, qa, qc⟩, sn, cn, fn, qn, S, C, F, Q⟩, rfl, ⟨hS, hC, hF, hQ⟩⟩
set_option maxRecDepth 100000 in
/-- Bytes that come in. -/
theorem open_u8s {r : Reach} {b0 : Nat} {v : Value} {d : DataW H} {p : List MemPlace} (hv : Value.okWide Tryz.prog w r b0 30 v) (h : DataW.Trod enc Tryz.prog w base spare held 30 v d p) :
    ∃ oa n c, ∃ f : Nat → Nat, v = .slice oa n c ∧ Row w oa n 1 (fun i _ => .int .u8 (f i : Nat)) ∧ ∀ i, f i < 256 := by
  obtain ⟨oa, n, c, rfl⟩ := okWide_slice Tryz.underlying30 hv
  obtain ⟨fuel, hf⟩ := h
  obtain ⟨oa', n', c', F, e, -, hR, hP⟩ := open_rows (0 : Nat) Tryz.underlying30 (by kernel_rfl) (by omega) u8_at (v := .slice oa n c) hf
  cases e
  refine ⟨oa, n, c, fun i => if i < n then F i else 0, rfl, row_congr hR fun i hi j _ => by dsimp only; rw [if_pos hi], fun i => ?_⟩
  dsimp only
  split
  · exact hP i (by assumption)
  · omega
end
end Go.Proofs.YtikeihnhkiipgaaGreat.fr
