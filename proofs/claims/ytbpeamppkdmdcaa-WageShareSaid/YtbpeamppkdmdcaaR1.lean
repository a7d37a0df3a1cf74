/-
  Rows: what is read as data, as rows of memory.
-/
import Derived.Test.YtbpeamppkdmdcaaD
import Derived.ProofKit
import Derived.OpenShut
import Derived.ShutString
import Derived.ChangeOld
namespace Go.Proofs.Ytbpeamppkdmdcaa
open Go.RowKit

theorem addr_plain {w : World} {x : Addr} {v : Value} (h : w.cell? x = some v) : x = ⟨x.block, x.off, none⟩ := by
  have hs : x.spot = none := World.cell?_spot h
  obtain ⟨b, o, s⟩ := x
  dsimp only at hs
  subst hs
  rfl

theorem ints_of {w : World} {x : Addr} {len cap : Nat} {zs : List Int} (hl : len ≤ cap) (hm : cap ≤ maxLen) (hz : zs.length = cap) (hc : ∀ i, i < zs.length → w.cell? (x.add i) = some (.int .i64 (zs.getD i 0))) : IntsAt w (some x) len (fun i => zs.getD i 0) := by
  have hp : 0 < len → x = ⟨x.block, x.off, none⟩ := fun h => addr_plain (by have := hc 0 (by omega); simpa [Addr.add] using this)
  refine ⟨fun h => ?_, fun h => ?_, by omega, fun i hi j hj => ?_⟩
  · rw [hp h]; rfl
  · have := hc 0 (by omega)
    exact World.block_lt_of_cell? w x (by simpa [Addr.add] using this)
  · obtain rfl : j = 0 := by omega
    have h1 := hc i (by omega)
    have h2 := hp (by omega)
    obtain ⟨b, o, s⟩ := x
    simp only [Addr.mk.injEq, true_and] at h2
    subst h2
    have e : (⟨b, o, none⟩ : Addr).add i = ⟨b, o + i * 1 + 0, none⟩ := by unfold Addr.add; split <;> simp <;> omega
    rw [e] at h1
    exact h1
theorem ints_nil (w : World) (f : Nat → Int) : IntsAt w none 0 f := ⟨fun h => by omega, fun h => by omega, by unfold maxLen; omega, fun i hi => by omega⟩
end Go.Proofs.Ytbpeamppkdmdcaa
