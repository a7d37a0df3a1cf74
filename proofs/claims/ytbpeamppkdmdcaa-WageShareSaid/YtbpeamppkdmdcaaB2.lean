/-
  Walks: the sample wages.
-/
import Derived.Test.YtbpeamppkdmdcaaB1
import Derived.Test.YtbpeamppkdmdcaaA4
namespace Go.Proofs.Ytbpeamppkdmdcaa
open Go.RowKit

def sS : Nat → Sm
  | 0 => ⟨10, 3⟩
  | _ => ⟨4, 5⟩
def sT : Nat → Tk
  | 0 => ⟨0, 0, 0, 0, 5, 6, 2, 2⟩
  | 1 => ⟨1, 0, 4, 4, 8, 8, 1, 3⟩
  | _ => ⟨1, 1, 0, 1, 4, 4, 5, 5⟩

theorem box_seams2 {w : World} {g : Nat} {S : Nat → Sm} {t : TypeId} (h : BoxAt w g #[.int .i64 (S 0).fat, .int .i64 (S 0).rate, .int .i64 (S 1).fat, .int .i64 (S 1).rate] t) : SeamsAt w (some ⟨g, 0, none⟩) 2 S := by
  refine ⟨fun _ => rfl, fun _ => lt_of_heap h, by unfold maxLen; omega, fun i hi j hj => ?_⟩
  show w.cell? ⟨g, 0 + i * 2 + j, none⟩ = _
  rw [cellAt h, Nat.zero_add]
  obtain ⟨rfl, rfl⟩ | ⟨rfl, rfl⟩ | ⟨rfl, rfl⟩ | ⟨rfl, rfl⟩ : (i = 0 ∧ j = 0) ∨ (i = 0 ∧ j = 1) ∨ (i = 1 ∧ j = 0) ∨ (i = 1 ∧ j = 1) := by omega
  all_goals rfl

theorem Row.set {w : World} {oa : Option Addr} {n sz : Nat} {cell : Nat → Nat → Value} (h : Row w oa n sz cell) (p : Addr) (v : Value) (hne : 0 < n → p.block ≠ blk oa) : Row (w.setCell p v) oa n sz cell where
  plain := h.plain
  old := fun hn => by rw [size_setCell]; exact h.old hn
  small := h.small
  cells := fun i hi j hj => (World.cell?_setCell_other _ _ _ _ (fun e => hne (by omega) (by rw [e]))).trans (h.cells i hi j hj)
theorem SeamsAt.set {w : World} {oa : Option Addr} {n : Nat} {s : Nat → Sm} (h : SeamsAt w oa n s) (p : Addr) (v : Value) (hne : 0 < n → p.block ≠ blk oa) : SeamsAt (w.setCell p v) oa n s := Row.set h p v hne
theorem TicketsAt.set {w : World} {oa : Option Addr} {n : Nat} {s : Nat → Tk} (h : TicketsAt w oa n s) (p : Addr) (v : Value) (hne : 0 < n → p.block ≠ blk oa) : TicketsAt (w.setCell p v) oa n s := Row.set h p v hne

structure SamS (w : World) (w' : World) : Prop where
  bel : Below w.heap.size w w'
  r : BoxAt w' w.heap.size #[.int .i64 0, .slice none 0 0, .slice none 0 0] 25
  s : BoxAt w' (w.heap.size + 1) #[.int .i64 10, .int .i64 3, .int .i64 4, .int .i64 5] 52
theorem SamS.grow {w w1 w2 : World} (h : SamS w w1) (hb : Below w1.heap.size w1 w2) : SamS w w2 :=
  ⟨h.bel.trans (hb.mono h.bel.size), h.r.grow hb, h.s.grow hb⟩
def SamplePost (w : World) (e : Ending) (w' : World) : Prop :=
  ∃ g1 g2 : Nat, e = .returned (.agg #[.int .i64 2, .slice (some ⟨g1, 0, none⟩) 2 2, .slice (some ⟨g2, 0, none⟩) 3 3]) ∧ SeamsAt w' (some ⟨g1, 0, none⟩) 2 sS ∧ TicketsAt w' (some ⟨g2, 0, none⟩) 3 sT ∧ Below w.heap.size w w'

set_option maxRecDepth 100000 in
set_option maxHeartbeats 4000000 in
theorem sample_any (w : World) : Calls Try.prog 44 #[] w (SamplePost w) := by
  have HX := Lib.hid (show SamS w ((w.alloc (.cells #[.int .i64 0, .slice none 0 0, .slice none 0 0] 25)).alloc (.cells #[.int .i64 10, .int .i64 3, .int .i64 4, .int .i64 5] 52)) from ⟨((Below.refl _ _).alloc (Nat.le_refl _) _).alloc (by simp) _, (blocks2 rfl).1, (blocks2 rfl).2.1⟩)
  go_enter Try.func44, Try.ntmps44
  go_wp2_with (first | (go_at_call 42; refine (span_any _ _ _).mono ?_; rintro e w1 ⟨rfl, hb⟩; replace HX := Lib.hid (HX.out.grow hb); clear hb) | (go_at_call 41; refine (ticket_any _ _ _ _ _ _ _ _ _).mono ?_; rintro e w1 ⟨rfl, hb⟩; replace HX := Lib.hid (HX.out.grow hb); clear hb; (try clear d0 d1 d2 f0 f1 f2); have d0 := fun o => cellAt (HX.out.r.grow ((Below.refl _ _).alloc (Nat.le_refl _) o)) 0; have d1 := fun o => cellAt (HX.out.r.grow ((Below.refl _ _).alloc (Nat.le_refl _) o)) 1; have d2 := fun o => cellAt (HX.out.r.grow ((Below.refl _ _).alloc (Nat.le_refl _) o)) 2; have f0 := fun o => freeAt (HX.out.r.grow ((Below.refl _ _).alloc (Nat.le_refl _) o)) 0; have f1 := fun o => freeAt (HX.out.r.grow ((Below.refl _ _).alloc (Nat.le_refl _) o)) 1; have f2 := fun o => freeAt (HX.out.r.grow ((Below.refl _ _).alloc (Nat.le_refl _) o)) 2))
  have hs1 := HX.out.bel.size
  have hs2 := lt_of_heap HX.out.s
  have IT : TicketsAt (w1.alloc (.cells (tkVals sT 3).toArray 58)) (some ⟨w1.heap.size, 0, none⟩) 3 sT := box_tickets (blocks1 rfl).1 (by unfold maxLen; omega)
  have IX := HX.out.grow ((Below.refl _ _).alloc (Nat.le_refl _) (.cells (tkVals sT 3).toArray 58))
  have IS : SeamsAt (w1.alloc (.cells (tkVals sT 3).toArray 58)) (some ⟨w.heap.size + 1, 0, none⟩) 2 sS := box_seams2 IX.s
  refine bodyPost_ret (v := .agg #[.int .i64 2, .slice (some ⟨w.heap.size + 1, 0, none⟩) 2 2, .slice (some ⟨w1.heap.size, 0, none⟩) 3 3]) (by simp [results, Try.results44, go_sem, d0, d1, d2]) rfl ⟨w.heap.size + 1, w1.heap.size, rfl, ?_, ?_, ?_⟩
  · exact ((IS.set ⟨w.heap.size, 0, none⟩ _ (by simp [blk])).set ⟨w.heap.size, 1, none⟩ _ (by simp [blk])).set ⟨w.heap.size, 2, none⟩ _ (by simp [blk])
  · exact ((IT.set ⟨w.heap.size, 0, none⟩ _ (by simp [blk]; omega)).set ⟨w.heap.size, 1, none⟩ _ (by simp [blk]; omega)).set ⟨w.heap.size, 2, none⟩ _ (by simp [blk]; omega)
  · exact ((IX.bel.setCell (p := ⟨w.heap.size, 0, none⟩) (Nat.le_refl _) _).setCell (p := ⟨w.heap.size, 1, none⟩) (Nat.le_refl _) _).setCell (p := ⟨w.heap.size, 2, none⟩) (Nat.le_refl _) _
end Go.Proofs.Ytbpeamppkdmdcaa
