/-
  Walks: the truth that is told by three lists.
-/
import Derived.Test.YtbpeamppkdmdcaaW1
namespace Go.Proofs.Ytbpeamppkdmdcaa
open Go.RowKit

set_option maxHeartbeats 400000 in
theorem told_of_any (oa ob oc : Option Addr) (m1 m2 m3 : Nat) (l1 l2 l3 : Nat → Int) (c1 c2 c3 : Nat) (n : Nat) (cr se fl fh tl th dl dh : Int) (w : World)
    (h1 : IntsAt w oa m1 l1) (h2 : IntsAt w ob m2 l2) (h3 : IntsAt w oc m3 l3) (n1 : n < m1) (n2 : n < m2) (n3 : n < m3) :
    Calls Try.prog 125 #[.agg #[.slice oa m1 c1, .slice ob m2 c2, .slice oc m3 c3], .int .i64 n, .agg #[.int .i64 cr, .int .i64 se, .int .i64 fl, .int .i64 fh, .int .i64 tl, .int .i64 th, .int .i64 dl, .int .i64 dh]] w
      fun e w' => e = .returned (.agg #[.int .i64 (l1 n), .int .i64 (l2 n), .int .i64 (l3 n)]) ∧ Below w.heap.size w w' := by
  have i1 := fun w => run_indexAt_row (w := w) (cap := c1) Try.underlying37 size3 (h1.plain (by omega)) n1
  have i2 := fun w => run_indexAt_row (w := w) (cap := c2) Try.underlying37 size3 (h2.plain (by omega)) n2
  have i3 := fun w => run_indexAt_row (w := w) (cap := c3) Try.underlying37 size3 (h3.plain (by omega)) n3
  have g1 := h1.at n1
  have g2 := h2.at n2
  have g3 := h3.at n3
  simp only [Nat.mul_one] at i1 i2 i3
  have l1' := h1.old (by omega)
  have l2' := h2.old (by omega)
  have l3' := h3.old (by omega)
  go_enter Try.func125, Try.ntmps125
  go_wp2_with fail
  generalize hW : World.alloc _ _ = W
  obtain ⟨q0, _, q2, hz, hB⟩ := blocks3 hW
  clear hW
  have e0 := cellAt q0 0
  have e1 := cellAt q0 1
  have e2 := cellAt q0 2
  have r0 := cellAt q2 0
  have r1 := cellAt q2 1
  have r2 := cellAt q2 2
  have f0 := freeAt q2 0
  have f1 := freeAt q2 1
  have f2 := freeAt q2 2
  simp only [List.getElem?_toArray, List.getElem?_cons_zero, List.getElem?_cons_succ] at e0 e1 e2 r0 r1 r2
  have k1 := (hB.cell (p := ⟨blk oa, ofs oa + n, none⟩) l1').trans g1
  have k2 := (hB.cell (p := ⟨blk ob, ofs ob + n, none⟩) l2').trans g2
  have k3 := (hB.cell (p := ⟨blk oc, ofs oc + n, none⟩) l3').trans g3
  clear q0 q2 g1 g2 g3
  have d0 : w.heap.size + 1 + 1 ≠ w.heap.size := by omega
  have d1 : w.heap.size + 1 + 1 ≠ blk oa := by omega
  have d2 : w.heap.size + 1 + 1 ≠ blk ob := by omega
  have d3 : w.heap.size + 1 + 1 ≠ blk oc := by omega
  go_region_held3 (fun w' => w'.cell? ⟨w.heap.size, 0, none⟩ = some (.slice oa m1 c1) ∧ w'.cell? ⟨w.heap.size, 1, none⟩ = some (.slice ob m2 c2) ∧ w'.cell? ⟨w.heap.size, 2, none⟩ = some (.slice oc m3 c3) ∧
     w'.cell? ⟨blk oa, ofs oa + n, none⟩ = some (.int .i64 (l1 n)) ∧ w'.cell? ⟨blk ob, ofs ob + n, none⟩ = some (.int .i64 (l2 n)) ∧ w'.cell? ⟨blk oc, ofs oc + n, none⟩ = some (.int .i64 (l3 n))) (go_keep) (fail)
  all_goals
    go_wp2
    refine bodyPost_ret (v := .agg #[.int .i64 (l1 n), .int .i64 (l2 n), .int .i64 (l3 n)]) (by simp [results, Try.results125, go_sem, r0, r1, r2]) rfl ⟨rfl, ?_⟩
    exact (((hB.setCell (p := ⟨_, _, none⟩) (by simp; omega) _).setCell (p := ⟨_, _, none⟩) (by simp; omega) _).setCell (p := ⟨_, _, none⟩) (by simp; omega) _).drew
end Go.Proofs.Ytbpeamppkdmdcaa
