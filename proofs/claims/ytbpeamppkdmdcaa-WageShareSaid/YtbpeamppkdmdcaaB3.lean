/-
  Plain: what is told of the sample wages.
-/
import Derived.Test.YtbpeamppkdmdcaaB2
import Derived.Test.YtbpeamppkdmdcaaA7
import Derived.Test.YtbpeamppkdmdcaaW25
import Derived.Test.YtbpeamppkdmdcaaW21
import Derived.Test.YtbpeamppkdmdcaaW17b
namespace Go.Proofs.Ytbpeamppkdmdcaa
open Go.RowKit

theorem sam_valid : Valid 2 2 3 sS sT := by
  refine ⟨by omega, by omega, by omega, by omega, fun j hj => ?_, fun j hj => ?_, fun i hi => ?_, fun i hi => ?_, fun i hi => ?_, fun i hi => ?_⟩
  · obtain rfl | rfl : j = 0 ∨ j = 1 := by omega
    all_goals simp [sS]
  · obtain rfl | rfl : j = 0 ∨ j = 1 := by omega
    all_goals simp [sS]
  all_goals
    obtain rfl | rfl | rfl : i = 0 ∨ i = 1 ∨ i = 2 := by omega
    all_goals first | decide +kernel | simp [sT]
theorem sam_f0 : manyOf sS sT (leastK 0 sT) 3 0 0 = 4 := by decide +kernel
theorem sam_f1 : manyOf sS sT (mostK 0 sT) 3 0 0 = 6 := by decide +kernel
theorem sam_d0 : coinsOf sS sT (leastK 1 sT) 2 3 1 = 21 := by decide +kernel
theorem sam_d1 : coinsOf sS sT (mostK 1 sT) 2 3 1 = 32 := by decide +kernel
theorem sam_w : setN sT 3 0 4 2 = 3 := by decide +kernel
theorem sam_n : decide (ownerOf sT (mostK (-1) sT) 3 0 4 = -1) = false := by decide +kernel
theorem sam_l0 : manyOf sS sT (leastK (-1) sT) 3 1 (-1) = 0 := by decide +kernel
theorem sam_l1 : manyOf sS sT (mostK (-1) sT) 3 1 (-1) = 1 := by decide +kernel
theorem sam_p0 : allOf sS 2 - coinsOf sS sT (mostK (-1) sT) 2 3 (-1) = 39 := by decide +kernel
theorem sam_p1 : allOf sS 2 - coinsOf sS sT (leastK (-1) sT) 2 3 (-1) = 44 := by decide +kernel
def eF (i : Nat) : Int := if i = 1 then 4 else 0
def eT (i : Nat) : Int := if i = 0 then 5 else if i = 1 then 8 else 4
def eD (i : Nat) : Int := if i = 2 then 5 else 2
theorem sam_eb : exB 3 3 3 3 sT eF eT eD = true := by decide +kernel
theorem sam_e : intsEq 2 2 (fun c => coinsOf sS sT (toldK eF eT eD) 2 3 c) (fun i => if i = 0 then 15 else 29) = true := by decide +kernel
theorem sam_a0 : spreadOf sS sT 2 3 0 ≠ 0 := by decide +kernel
theorem sam_a1 : fewI (wideOf sS sT 2 3 0) 3 = 1 := by decide +kernel
theorem sam_a2 : fewV (wideOf sS sT 2 3 0) 3 = 3 := by decide +kernel
def hF (i : Nat) : Int := if i = 0 then 3 else if i = 1 then 2 else 1
def hG (i : Nat) : Int := if i = 0 then 4 else if i = 1 then 2 else 1
theorem sam_sb : shareOk 7 3 hF = true := by decide +kernel
theorem sam_s : intsEq 3 3 (shareF hF 3 7) hG = true := by decide +kernel
end Go.Proofs.Ytbpeamppkdmdcaa
