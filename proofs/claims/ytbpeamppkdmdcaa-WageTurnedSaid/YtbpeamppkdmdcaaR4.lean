/-
  A ticket that comes in; wages that come in, with the capacity of their tickets.
-/
import Derived.Test.YtbpeamppkdmdcaaG9
namespace Go.Proofs.Ytbpeamppkdmdcaa
open Go.ChangeShapes Go.WideShapes Go.ChangeAt Go.RowKit
section
variable {H : Type} {enc : TypeId × Value → H} {w : World} {base : Nat} {spare : Nat → Bool} {held : Bool}
set_option maxRecDepth 100000 in
theorem open_ticket {r : Reach} {b0 : Nat} {v : Value} {d : DataW H} {p : List MemPlace} (hv : Value.okWide Try.prog w r b0 58 v) (h : DataW.Trod enc Try.prog w base spare held 58 v d p) :
    ∃ t : Tk, v = t.v := by
  obtain ⟨cs, rfl, hsz⟩ := okWide_struct Try.underlying58 hv
  obtain ⟨fuel, hf⟩ := h
  obtain ⟨t, ht⟩ := tick_cells hf
  refine ⟨t, ?_⟩
  obtain ⟨l⟩ := cs
  simp only [Value.cells] at ht
  unfold Tk.v
  rw [show l = _ from ht]
theorem open_ticks_cap {n : Nat} {v : Value} {y : DataW H × List MemPlace} (h : DataW.trod enc Try.prog w base spare held n 23 [v] = some y) : ∃ ta tn tc T, v = .slice ta tn tc ∧ tn ≤ tc ∧ TicketsAt w ta tn T := by
  obtain ⟨ta, tn, tc, T, rfl, hT⟩ := open_ticks h
  refine ⟨ta, tn, tc, T, rfl, ?_, hT⟩
  rcases Go.Deep.open_slice Try.underlying23 h with ⟨hcs, _⟩ | ⟨a, len, cap, m, k, D, Pl, hcs, _, hl, hm, hmm, _, hi⟩
  · simp only [List.cons.injEq, and_true, Value.slice.injEq] at hcs
    omega
  · simp only [List.cons.injEq, and_true, Value.slice.injEq] at hcs
    omega
set_option maxRecDepth 100000 in
theorem open_wages_cap {r : Reach} {b0 : Nat} {v : Value} {d : DataW H} {p : List MemPlace} (hv : Value.okWide Try.prog w r b0 25 v) (h : DataW.Trod enc Try.prog w base spare held 25 v d p) :
    ∃ cr sa sn sc S ta tn tc T, v = .agg #[.int .i64 cr, .slice sa sn sc, .slice ta tn tc] ∧ SeamsAt w sa sn S ∧ TicketsAt w ta tn T ∧ tn ≤ tc := by
  obtain ⟨v0, v1, v2, y0, y1, y2, n, rfl, _, _, h0, h1, h2⟩ := Go.Joins.open_agg3 Try.underlying25 (by kernel_rfl) (by kernel_rfl) hv h
  obtain ⟨cr, e0, _⟩ := DataW.trod_int Try.underlying3 h0
  obtain ⟨sa, sn, sc, S, rfl, hS⟩ := open_seams h1
  obtain ⟨ta, tn, tc, T, rfl, hc, hT⟩ := open_ticks_cap h2
  simp only [List.cons.injEq, and_true] at e0
  exact ⟨cr, sa, sn, sc, S, ta, tn, tc, T, by rw [e0], hS, hT, hc⟩
end
end Go.Proofs.Ytbpeamppkdmdcaa
