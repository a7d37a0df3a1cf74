/-
  What is told is the same for the program and the reference: plain laws for the laws 3, 4 and 5.
-/
import Derived.Test.YtbpeamppkdmdcaaG10
import Derived.Test.YtbpeamppkdmdcaaV2
namespace Go.Proofs.Ytbpeamppkdmdcaa
open Go.RowKit

theorem Said.fix (V : Prop) (b : Bool) (lo hi : Int) : ∃ a c er : Int, ∀ W e w', Said W V b (.tuple #[.agg #[.int .i64 lo, .int .i64 hi], .int .i64 0]) (.tuple #[.agg #[.int .i64 0, .int .i64 0], .int .i64 2]) (.tuple #[.agg #[.int .i64 0, .int .i64 0], .int .i64 1]) e w' →
    e = .returned (.tuple #[.agg #[.int .i64 a, .int .i64 c], .int .i64 er]) ∧ Below W.heap.size W w' := by
  by_cases hv : V
  · cases b with
    | true => exact ⟨lo, hi, 0, fun W e w' h => by
        rcases h with ⟨h0, h | h | h⟩
        · exact ⟨h.2.2, h0⟩
        · cases h.2.1
        · exact absurd hv h.1⟩
    | false => exact ⟨0, 0, 2, fun W e w' h => by
        rcases h with ⟨h0, h | h | h⟩
        · cases h.2.1
        · exact ⟨h.2.2, h0⟩
        · exact absurd hv h.1⟩
  · exact ⟨0, 0, 1, fun W e w' h => by
      rcases h with ⟨h0, h | h | h⟩
      · exact absurd h.1 hv
      · exact absurd h.1 hv
      · exact ⟨h.2, h0⟩⟩
theorem WhosePost.fix (V : Prop) (b : Bool) (set : Nat) (no : Bool) : ∃ (a : Int) (c : Bool) (er : Int), ∀ W e w', WhosePost W V b set no e w' →
    e = .returned (.tuple #[.int .i64 a, .bool c, .int .i64 er]) ∧ Below W.heap.size W w' := by
  by_cases hv : V
  · cases b with
    | true => exact ⟨set, no, 0, fun W e w' h => by
        rcases h with ⟨h0, h | h | h⟩
        · exact ⟨h.2.2, h0⟩
        · cases h.2.1
        · exact absurd hv h.1⟩
    | false => exact ⟨0, false, 2, fun W e w' h => by
        rcases h with ⟨h0, h | h | h⟩
        · cases h.2.1
        · exact ⟨h.2.2, h0⟩
        · exact absurd hv h.1⟩
  · exact ⟨0, false, 1, fun W e w' h => by
      rcases h with ⟨h0, h | h | h⟩
      · exact absurd h.1 hv
      · exact absurd h.1 hv
      · exact ⟨h.2, h0⟩⟩
/-- The wages, and spans that were told. -/
structure RB (w : World) (cr : Int) (sa ta : Option Addr) (sn sc tn tc : Nat) (S : Nat → Sm) (T : Nat → Tk) (KB : List (Nat × Int × Int)) (W : World) : Prop where
  wb : WB w cr sa ta sn sc tn tc S T w.heap.size W
  bx : ∀ e ∈ KB, BoxAt W e.1 #[.int .i64 e.2.1, .int .i64 e.2.2] 29
section
variable {w : World} {cr : Int} {sa ta : Option Addr} {sn sc tn tc : Nat} {S : Nat → Sm} {T : Nat → Tk} {KB : List (Nat × Int × Int)} {W W2 : World}
theorem RB.grow (h : RB w cr sa ta sn sc tn tc S T KB W) (hb : Below W.heap.size W W2) : RB w cr sa ta sn sc tn tc S T KB W2 := ⟨h.wb.grow hb, fun e he => (h.bx e he).grow hb⟩
theorem RB.new (h : RB w cr sa ta sn sc tn tc S T KB W) (a b : Int) : RB w cr sa ta sn sc tn tc S T ((W.heap.size, a, b) :: KB) (W.alloc (.cells #[.int .i64 a, .int .i64 b] 29)) := by
  have hb := (Below.refl W.heap.size W).alloc (Nat.le_refl _) (.cells #[.int .i64 a, .int .i64 b] 29)
  refine ⟨h.wb.grow hb, fun e he => ?_⟩
  rcases List.mem_cons.1 he with rfl | he
  · exact heap_alloc_new _ _
  · exact (h.bx e he).grow hb
theorem RB.cells (h : RB w cr sa ta sn sc tn tc S T KB W) : W.cell? ⟨w.heap.size, 0, none⟩ = some (.int .i64 cr) ∧ W.cell? ⟨w.heap.size, 1, none⟩ = some (.slice sa sn sc) ∧ W.cell? ⟨w.heap.size, 2, none⟩ = some (.slice ta tn tc) :=
  ⟨cellAt h.wb.box 0, cellAt h.wb.box 1, cellAt h.wb.box 2⟩
theorem RB.span (h : RB w cr sa ta sn sc tn tc S T KB W) {e : Nat × Int × Int} (he : e ∈ KB) : W.cell? ⟨e.1, 0, none⟩ = some (.int .i64 e.2.1) ∧ W.cell? ⟨e.1, 1, none⟩ = some (.int .i64 e.2.2) :=
  ⟨cellAt (h.bx e he) 0, cellAt (h.bx e he) 1⟩
end

theorem same_ints (o1 o2 : Option Addr) (n c1 c2 : Nat) (F : Nat → Int) (w : World) (h1 : IntsAt w o1 n F) (h2 : IntsAt w o2 n F) :
    Calls Try.prog 27 #[.slice o1 n c1, .slice o2 n c2] w fun e w' => e = .returned (.bool true) ∧ Below w.heap.size w w' :=
  (ints_any o1 o2 n n c1 c2 F F w h1 h2).mono fun e w' h => ⟨by rw [h.1, show intsEq n n F F = true from by simp [intsEq]], h.2⟩
end Go.Proofs.Ytbpeamppkdmdcaa
