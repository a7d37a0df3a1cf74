/-
  Walks: all truths of wages.
-/
import Derived.Test.YtbpeamppkdmdcaaU9
namespace Go.Proofs.Ytbpeamppkdmdcaa
open Go.RowKit

def truthsL (T : Nat → Tk) (tn : Nat) : List (List Kn) := ext T tn 0 []
def TruthsPost (tn : Nat) (T : Nat → Tk) (w : World) (e : Ending) (w' : World) : Prop :=
  ∃ v', e = .returned v' ∧ OutAt w.heap.size tn v' (truthsL T tn) w' ∧ Below w.heap.size w w'
set_option maxHeartbeats 400000 in
theorem truthsAll_any (cr : Int) (sa ta : Option Addr) (sn sc tn tc : Nat) (S : Nat → Sm) (T : Nat → Tk) (w : World) (hS : SeamsAt w sa sn S) (hT : TicketsAt w ta tn T) (hsp : ∀ i, i < tn → Spans (T i)) (ht6 : tn ≤ 6) (hc : countT T tn 0 ≤ 100000) :
    Calls Try.prog 63 #[.agg #[.int .i64 cr, .slice sa sn sc, .slice ta tn tc]] w (TruthsPost tn T w) := by
  have hba := ba w (.cells #[.int .i64 cr, .slice sa sn sc, .slice ta tn tc] 25)
  have C := Lib.hid (truthsR_any cr sa ta sn sc tn tc S T w.heap.size hsp ht6 tn none 0 [] (.slice none 0 0) [] (w.alloc (.cells #[.int .i64 cr, .slice sa sn sc, .slice ta tn tc] 25)) (by simp)
    ⟨hS.grow hba, hT.grow hba, ⟨fun h => by simp at h, fun h => by simp at h, by simp [maxLen], fun i hi => by simp at hi⟩, fun _ h => (by cases h), fun _ h => (by cases h), fun _ h => (by cases h)⟩ (OutAt.nil _ _ _) (by rw [sizeAlloc]; omega) (by simpa using hc))
  have HB := Lib.hid hba
  clear hba hS hT
  go_enter Try.func63, Try.ntmps63
  go_wp2_with (go_at_call 98; refine C.out.mono ?_)
  rintro e w1 ⟨v', rfl, ho, hg, hn⟩
  have HO := Lib.hid ho
  have HG := Lib.hid (show Below w.heap.size w w1 from (HB.out.grown hg HB.out.size (fun k e => by cases e)))
  clear ho hg hn
  go_wp2_with fail
  go_ret
  exact ⟨v', rfl, HO.out, HG.out⟩
/-- One of the truths, read. -/
theorem OutAt.at {B tn : Nat} {v : Value} {ts : List (List Kn)} {W : World} (h : OutAt B tn v ts W) {i : Nat} (hi : i < ts.length) :
    ∃ g cap oa c, v = .slice (some ⟨g, 0, none⟩) ts.length cap ∧ g < W.heap.size ∧ W.cell? ⟨g, i, none⟩ = some (.slice oa tn c) ∧ KnAt W oa tn (knF (ts.getD i [])) := by
  obtain ⟨hs, ho, hr⟩ := h.own
  obtain ⟨oa, c, h1, h2, _⟩ := hr i hi
  rcases ho.2 with ⟨_, e⟩ | ⟨g, cap, cur, rfl, hb, hg, _, _, _, ht⟩
  · omega
  · refine ⟨g, cap, oa, c, rfl, lt_of_heap hg, ?_, h2⟩
    rw [← ht, List.getElem?_take, if_pos (by omega)] at h1
    rw [cellAt hg, ← h1, Array.getElem?_toList]
end Go.Proofs.Ytbpeamppkdmdcaa
