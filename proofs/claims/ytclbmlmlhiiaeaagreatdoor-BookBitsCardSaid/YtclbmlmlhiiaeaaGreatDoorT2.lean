/-
  Walks: wages written by the reference.
-/
import Derived.Test.YtclbmlmlhiiaeaaGreatDoorT1
import Derived.Test.YtclbmlmlhiiaeaaGreatDoorQW5
namespace Go.Proofs.YtclbmlmlhiiaeaaGreatDoor
open Go.RowKit

theorem WagesOk.small {cr : Int} {S : Nat → Nat → Int} {sn : Nat} {T : Nat → Nat → Int} {tn : Nat} (h : WagesOk cr S sn T tn) : SmallW (wagesV cr S sn T tn) where
  cr := by have := h.hcr; show cr.toNat ≤ 1000; omega
  sn := by have := h.hsn; show sn ≤ 100; omega
  tn := by have := h.htn; show tn ≤ 100; omega
  s := fun i hi => by have := h.s i hi; show (S i 0).toNat ≤ 1000 ∧ (S i 1).toNat ≤ 1000; omega
  t := fun i hi => by have := h.t i hi; have := h.hcr; have := h.hsn; show (T i 0).toNat ≤ 1000 ∧ (T i 1).toNat ≤ 1000; omega
  pre := h.pre
set_option maxRecDepth 100000 in
set_option maxHeartbeats 2000000 in
theorem refWriteWages21_any (cr : Int) (sa ta : Option Addr) (sn sc tn tc : Nat) (S T : Nat → Nat → Int) (w : World) (hS : NumsAt w sa sn 2 S) (hT : NumsAt w ta tn 8 T) :
    Calls Tryz.prog 21 #[.agg #[.int .i64 cr, .slice sa sn sc, .slice ta tn tc]] w (WroteWages cr S sn T tn w) := by
  have hb0 := (Below.refl w.heap.size w).alloc (Nat.le_refl _) (.cells #[.int .i64 cr, .slice sa sn sc, .slice ta tn tc] 38)
  have I0 := Lib.hid (show WB w cr sa ta sn sc tn tc S T (w.alloc (.cells #[.int .i64 cr, .slice sa sn sc, .slice ta tn tc] 38)) from ⟨hb0, heap_alloc_new _ _, hS.grow hb0, hT.grow hb0⟩)
  clear hS hT hb0
  go_enter Tryz.func21, Tryz.ntmps21
  go_upto_region 1 with (fail)
  generalize hW : World.alloc _ _ = W0 at *
  obtain ⟨q0, q1, q2⟩ := I0.out.cells
  clear hW
  have C1 := Lib.hid (wages31_any cr sa ta sn sc tn tc S T W0 I0.out.ss I0.out.tt)
  cases hB : wagesB cr S sn T tn with
  | true =>
    have OK := Lib.hid (wages_ok hB)
    have HW := Lib.hid (show ∀ oa cap w', Below w.heap.size w w' → BytesAt w' oa (szB (bookN (wagesV cr S sn T tn))) (bookB (wagesV cr S sn T tn)) → w.heap.size ≤ blk oa → szB (bookN (wagesV cr S sn T tn)) ≤ cap → WroteWages cr S sn T tn w (.returned (.tuple #[.slice oa (szB (bookN (wagesV cr S sn T tn))) cap, .int .i64 0])) w' from fun oa cap w' hb h1 h2 h3 => ⟨hb, by rw [if_pos hB]; exact ⟨oa, cap, rfl, h1, h2, h3⟩⟩)
    go_wp2_with (go_at_call 31; refine C1.out.mono ?_)
    rintro e w1 ⟨rfl, hb1⟩
    have I1 := Lib.hid (I0.out.grow hb1)
    clear hb1 I0 C1 q0 q1 q2
    obtain ⟨q0, q1, q2⟩ := I1.out.cells
    rw [hB]
    clear hB
    have hcr : ((wagesV cr S sn T tn).cr : Int) = cr := Int.toNat_of_nonneg (by have := OK.out.hcr; omega)
    have C2 := Lib.hid (wages65_any (wagesV cr S sn T tn) sa ta sc tc w1 (OK.out.rows I1.out.ss I1.out.tt).1 (OK.out.rows I1.out.ss I1.out.tt).2 OK.out.small)
    rw [hcr, show (wagesV cr S sn T tn).sn = sn from rfl, show (wagesV cr S sn T tn).tn = tn from rfl] at C2
    clear hcr
    have hN : 0 < szB (bookN (wagesV cr S sn T tn)) := by unfold szB; omega
    generalize wagesV cr S sn T tn = X at *
    go_wp2_with (go_at_call 65; refine C2.out.mono ?_)
    rintro e w2 ⟨oa, cap, rfl, ho, hge, hcap, hb2⟩
    have HO := Lib.hid ho
    have B2 := Lib.hid (I1.out.bel.next hb2)
    have HGE := Lib.hid (Nat.le_trans I1.out.bel.size (hge hN))
    have HCAP := Lib.hid hcap
    clear ho hge hcap hb2 hN
    go_wp2_with fail
    exact bodyPost_ret (v := .tuple #[.slice oa (szB (bookN X)) cap, .int .i64 0]) (by simp [results, Tryz.results21, go_sem]) rfl (HW.out _ _ _ B2.out HO.out HGE.out HCAP.out)
  | false =>
    have HW := Lib.hid (show ∀ w', Below w.heap.size w w' → WroteWages cr S sn T tn w (.returned (.tuple #[.slice none 0 0, .int .i64 1])) w' from fun w' hb => ⟨hb, by rw [if_neg (by rw [hB]; simp)]⟩)
    go_wp2_with (go_at_call 31; refine C1.out.mono ?_)
    rintro e w1 ⟨rfl, hb1⟩
    have I1 := Lib.hid (I0.out.grow hb1)
    clear hb1
    rw [hB]
    go_wp2_with fail
    exact bodyPost_ret (v := .tuple #[.slice none 0 0, .int .i64 1]) (by simp [results, Tryz.results21, go_sem]) rfl (HW.out _ I1.out.bel)
end Go.Proofs.YtclbmlmlhiiaeaaGreatDoor
