/-
  A list of 16-bit numbers that comes in, read as a row.
-/
import Derived.Test.YtbpeamppkdmdcaaT1
namespace Go.Proofs.Ytbpeamppkdmdcaa
open Go.ChangeShapes Go.WideShapes Go.ChangeAt Go.RowKit

theorem u16s_of {w : World} {x : Addr} {len cap : Nat} {zs : List Int} (hl : len ≤ cap) (hm : cap ≤ maxLen) (hz : zs.length = cap) (hc : ∀ i, i < zs.length → w.cell? (x.add i) = some (.int .u16 (zs.getD i 0))) : U16At w (some x) len (fun i => zs.getD i 0) := by
  have hp : 0 < len → x = ⟨x.block, x.off, none⟩ := fun h => addr_plain (by have := hc 0 (by omega); simpa [Addr.add] using this)
  refine ⟨fun h => ?_, fun h => ?_, by omega, fun i hi j hj => ?_⟩
  · rw [hp h]; rfl
  · have := hc 0 (by omega)
    exact World.block_lt_of_cell? w x (by simpa [Addr.add] using this)
  · obtain rfl : j = 0 := by omega
    have h1 := hc i (by omega)
    have h2 := hp (by omega)
    obtain ⟨b, o, s⟩ := x
    simp only [Addr.mk.injEq, true_and] at h2
    subst h2
    have e : (⟨b, o, none⟩ : Addr).add i = ⟨b, o + i * 1 + 0, none⟩ := by unfold Addr.add; split <;> simp <;> omega
    rw [e] at h1
    exact h1
theorem u16_bd {n : Int} (h : (Lit.int .u16 n).wf = true) : 0 ≤ n ∧ n ≤ 65535 := by
  simp [Lit.wf, IntKind.min, IntKind.max, IntKind.signed, IntKind.bits] at h
  omega
section
variable {H : Type} {enc : TypeId × Value → H} {w : World} {base : Nat} {held : Bool}
set_option maxRecDepth 100000 in
theorem open_u16sat {r : Reach} {b0 : Nat} {v : Value} {d : DataW H} {p : List MemPlace} (hv : Value.okWide Try.prog w r b0 47 v) (h : DataW.Trod enc Try.prog w base (fun _ => true) held 47 v d p) :
    ∃ oa n c f, v = .slice oa n c ∧ U16At w oa n f ∧ ∀ i, i < n → 0 ≤ f i ∧ f i ≤ 65535 := by
  obtain ⟨a, len, cap, rfl⟩ := okWide_slice Try.underlying47 hv
  obtain ⟨fuel, hf⟩ := h
  rcases open_ints Try.underlying47 Try.underlying132 (by kernel_rfl) hf with ⟨hcs, _⟩ | ⟨x, l, c, zs, hcs, _, hl, hm, hz, _, hcell, hwf⟩
  · simp [Value.cells] at hcs
    obtain ⟨rfl, rfl, rfl⟩ := hcs
    exact ⟨none, 0, 0, fun _ => 0, rfl, ⟨fun h => by omega, fun h => by omega, by unfold maxLen; omega, fun i hi => by omega⟩, fun i hi => by omega⟩
  · simp [Value.cells] at hcs
    obtain ⟨rfl, rfl, rfl⟩ := hcs
    have hz' : zs.length = cap := by simpa using hz
    refine ⟨_, _, _, _, rfl, u16s_of hl hm hz' hcell, fun i hi => ?_⟩
    have hil : i < zs.length := by omega
    rw [List.getD_eq_getElem?_getD, List.getElem?_eq_getElem hil]
    exact u16_bd (hwf _ (List.getElem_mem hil))
end
end Go.Proofs.Ytbpeamppkdmdcaa
