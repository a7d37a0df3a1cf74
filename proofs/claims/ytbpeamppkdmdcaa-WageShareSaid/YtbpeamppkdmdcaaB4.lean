/-
  Walks: the results that the document fixes.
-/
import Derived.Test.YtbpeamppkdmdcaaB3
namespace Go.Proofs.Ytbpeamppkdmdcaa
open Go.RowKit

theorem Said.yes {w : World} {V : Prop} {b : Bool} {x x2 x1 : Value} {e : Ending} {w' : World} (h : Said w V b x x2 x1 e w') (hv : V) (hb : b = true) : e = .returned x ∧ Below w.heap.size w w' := by
  obtain ⟨h0, ⟨_, _, h⟩ | ⟨_, h, _⟩ | ⟨h, _⟩⟩ := h
  · exact ⟨h, h0⟩
  · rw [hb] at h; cases h
  · exact absurd hv h

structure Aw (w : World) (g1 g2 b1 : Nat) (w' : World) : Prop where
  bel : Below w.heap.size w w'
  box : BoxAt w' b1 #[.int .i64 2, .slice (some ⟨g1, 0, none⟩) 2 2, .slice (some ⟨g2, 0, none⟩) 3 3] 25
  ss : SeamsAt w' (some ⟨g1, 0, none⟩) 2 sS
  tt : TicketsAt w' (some ⟨g2, 0, none⟩) 3 sT
theorem Aw.grow {w : World} {g1 g2 b1 : Nat} {w1 w2 : World} (h : Aw w g1 g2 b1 w1) (hb : Below w1.heap.size w1 w2) : Aw w g1 g2 b1 w2 :=
  ⟨h.bel.trans (hb.mono h.bel.size), h.box.grow hb, h.ss.grow hb, h.tt.grow hb⟩
section
variable {w W : World} {g1 g2 b1 : Nat}
theorem Aw.c15 (h : Aw w g1 g2 b1 W) : Calls Try.prog 15 #[.agg #[.int .i64 2, .slice (some ⟨g1, 0, none⟩) 2 2, .slice (some ⟨g2, 0, none⟩) 3 3], .int .i64 0, .int .i64 0] W fun e w' => e = .returned (.tuple #[.agg #[.int .i64 4, .int .i64 6], .int .i64 0]) ∧ Below W.heap.size W w' :=
  (fathoms_any 2 _ _ 2 2 3 3 sS sT 0 0 W h.ss h.tt).mono fun e w' k => by have := k.yes sam_valid (by decide); rw [sam_f0, sam_f1] at this; exact this
theorem Aw.c21 (h : Aw w g1 g2 b1 W) : Calls Try.prog 21 #[.agg #[.int .i64 2, .slice (some ⟨g1, 0, none⟩) 2 2, .slice (some ⟨g2, 0, none⟩) 3 3], .int .i64 1] W fun e w' => e = .returned (.tuple #[.agg #[.int .i64 21, .int .i64 32], .int .i64 0]) ∧ Below W.heap.size W w' :=
  (dues_any 2 _ _ 2 2 3 3 sS sT 1 W h.ss h.tt).mono fun e w' k => by have := k.yes sam_valid (by decide); rw [sam_d0, sam_d1] at this; exact this
theorem Aw.c19 (h : Aw w g1 g2 b1 W) : Calls Try.prog 19 #[.agg #[.int .i64 2, .slice (some ⟨g1, 0, none⟩) 2 2, .slice (some ⟨g2, 0, none⟩) 3 3], .int .i64 0, .int .i64 4] W fun e w' => e = .returned (.tuple #[.int .i64 3, .bool false, .int .i64 0]) ∧ Below W.heap.size W w' :=
  (whoses_any 2 _ _ 2 2 3 3 sS sT 0 4 W h.ss h.tt).mono fun e w' ⟨k0, k⟩ => by
    have e1 : setN sT 3 0 (4 : Int).toNat (2 : Int).toNat = 3 := sam_w
    have e2 : decide (ownerOf sT (mostK (-1) sT) 3 0 (4 : Int).toNat = -1) = false := sam_n
    rw [e1, e2] at k
    rcases k with ⟨_, _, h⟩ | ⟨_, h, _⟩ | ⟨h, _⟩
    · exact ⟨h, k0⟩
    · exact absurd h (by decide)
    · exact absurd sam_valid h
theorem Aw.c17 (h : Aw w g1 g2 b1 W) : Calls Try.prog 17 #[.agg #[.int .i64 2, .slice (some ⟨g1, 0, none⟩) 2 2, .slice (some ⟨g2, 0, none⟩) 3 3], .int .i64 1] W fun e w' => e = .returned (.tuple #[.agg #[.int .i64 0, .int .i64 1], .int .i64 0]) ∧ Below W.heap.size W w' :=
  (left_any 2 _ _ 2 2 3 3 sS sT 1 W h.ss h.tt).mono fun e w' k => by have := k.yes sam_valid (by decide); rw [sam_l0, sam_l1] at this; exact this
theorem Aw.c23 (h : Aw w g1 g2 b1 W) : Calls Try.prog 23 #[.agg #[.int .i64 2, .slice (some ⟨g1, 0, none⟩) 2 2, .slice (some ⟨g2, 0, none⟩) 3 3]] W fun e w' => e = .returned (.tuple #[.agg #[.int .i64 39, .int .i64 44], .int .i64 0]) ∧ Below W.heap.size W w' :=
  (paid_any 2 _ _ 2 2 3 3 sS sT W h.ss h.tt).mono fun e w' k => by have := k.yes sam_valid rfl; rw [sam_p0, sam_p1] at this; exact this
theorem Aw.c25 (h : Aw w g1 g2 b1 W) {x1 x2 x3 : Nat} (h1 : IntsAt W (some ⟨x1, 0, none⟩) 3 eF) (h2 : IntsAt W (some ⟨x2, 0, none⟩) 3 eT) (h3 : IntsAt W (some ⟨x3, 0, none⟩) 3 eD) :
    Calls Try.prog 25 #[.agg #[.int .i64 2, .slice (some ⟨g1, 0, none⟩) 2 2, .slice (some ⟨g2, 0, none⟩) 3 3], .slice (some ⟨x1, 0, none⟩) 3 3, .slice (some ⟨x2, 0, none⟩) 3 3, .slice (some ⟨x3, 0, none⟩) 3 3] W
      fun e w' => ∃ g, e = .returned (.tuple #[.slice (some ⟨g, 0, none⟩) 2 2, .int .i64 0]) ∧ IntsAt w' (some ⟨g, 0, none⟩) 2 (fun c => coinsOf sS sT (toldK eF eT eD) 2 3 c) ∧ Below W.heap.size W w' :=
  (exacts_any 2 _ _ 2 2 3 3 sS sT _ _ _ 3 3 3 3 3 3 eF eT eD W h.ss h.tt h1 h2 h3).mono fun e w' ⟨k0, k⟩ => by
    rcases k with ⟨_, _, g, _, h, hg⟩ | ⟨_, h, _⟩ | ⟨h, _⟩
    · exact ⟨g, h, ints_box hg (by unfold maxLen; decide), k0⟩
    · rw [sam_eb] at h; cases h
    · exact absurd sam_valid h
theorem Aw.c28 (h : Aw w g1 g2 b1 W) : Calls Try.prog 28 #[.agg #[.int .i64 2, .slice (some ⟨g1, 0, none⟩) 2 2, .slice (some ⟨g2, 0, none⟩) 3 3], .int .i64 0] W fun e w' => e = .returned (.tuple #[.int .i64 1, .int .i64 3, .int .i64 0]) ∧ Below W.heap.size W w' :=
  (asks_any 2 _ _ 2 2 3 3 sS sT 0 W h.ss h.tt).mono fun e w' ⟨k0, k⟩ => by
    rcases k with ⟨_, _, _, h⟩ | ⟨_, _, h, _⟩ | ⟨_, h, _⟩ | ⟨h, _⟩
    · rw [sam_a1, sam_a2] at h; exact ⟨h, k0⟩
    · exact absurd h sam_a0
    · exact absurd h (by decide)
    · exact absurd sam_valid h
theorem c30 {x1 : Nat} (h1 : IntsAt W (some ⟨x1, 0, none⟩) 3 hF) : Calls Try.prog 30 #[.int .i64 7, .slice (some ⟨x1, 0, none⟩) 3 3] W
      fun e w' => ∃ g, e = .returned (.tuple #[.slice (some ⟨g, 0, none⟩) 3 3, .int .i64 0]) ∧ IntsAt w' (some ⟨g, 0, none⟩) 3 (shareF hF 3 7) ∧ Below W.heap.size W w' :=
  (shares_any 7 _ 3 3 hF W h1).mono fun e w' ⟨k0, k⟩ => by
    rcases k with ⟨_, g, _, h, hg⟩ | ⟨h, _⟩
    · exact ⟨g, h, ints_box hg (by unfold maxLen; decide), k0⟩
    · rw [sam_sb] at h; cases h
end
end Go.Proofs.Ytbpeamppkdmdcaa
