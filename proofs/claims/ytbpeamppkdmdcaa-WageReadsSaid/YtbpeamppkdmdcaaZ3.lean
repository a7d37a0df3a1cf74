/-
  Walks: the law of what is read: how many fathoms are due, how many are left, and whose a fathom can be, by the program and by the reference.
-/
import Derived.Test.YtbpeamppkdmdcaaG10
import Derived.Test.YtbpeamppkdmdcaaV2
import Derived.Test.YtbpeamppkdmdcaaV4
import Derived.Test.YtbpeamppkdmdcaaV6
namespace Go.Proofs.Ytbpeamppkdmdcaa
open Go.RowKit

theorem Said.fix (V : Prop) (b : Bool) (lo hi : Int) : ∃ a c er : Int, ∀ W e w', Said W V b (.tuple #[.agg #[.int .i64 lo, .int .i64 hi], .int .i64 0]) (.tuple #[.agg #[.int .i64 0, .int .i64 0], .int .i64 2]) (.tuple #[.agg #[.int .i64 0, .int .i64 0], .int .i64 1]) e w' →
    e = .returned (.tuple #[.agg #[.int .i64 a, .int .i64 c], .int .i64 er]) ∧ Below W.heap.size W w' := by
  by_cases hv : V
  · cases b with
    | true => exact ⟨lo, hi, 0, fun W e w' h => by
        rcases h with ⟨h0, h | h | h⟩
        · exact ⟨h.2.2, h0⟩
        · cases h.2.1
        · exact absurd hv h.1⟩
    | false => exact ⟨0, 0, 2, fun W e w' h => by
        rcases h with ⟨h0, h | h | h⟩
        · cases h.2.1
        · exact ⟨h.2.2, h0⟩
        · exact absurd hv h.1⟩
  · exact ⟨0, 0, 1, fun W e w' h => by
      rcases h with ⟨h0, h | h | h⟩
      · exact absurd h.1 hv
      · exact absurd h.1 hv
      · exact ⟨h.2, h0⟩⟩
theorem WhosePost.fix (V : Prop) (b : Bool) (set : Nat) (no : Bool) : ∃ (a : Int) (c : Bool) (er : Int), ∀ W e w', WhosePost W V b set no e w' →
    e = .returned (.tuple #[.int .i64 a, .bool c, .int .i64 er]) ∧ Below W.heap.size W w' := by
  by_cases hv : V
  · cases b with
    | true => exact ⟨set, no, 0, fun W e w' h => by
        rcases h with ⟨h0, h | h | h⟩
        · exact ⟨h.2.2, h0⟩
        · cases h.2.1
        · exact absurd hv h.1⟩
    | false => exact ⟨0, false, 2, fun W e w' h => by
        rcases h with ⟨h0, h | h | h⟩
        · cases h.2.1
        · exact ⟨h.2.2, h0⟩
        · exact absurd hv h.1⟩
  · exact ⟨0, false, 1, fun W e w' h => by
      rcases h with ⟨h0, h | h | h⟩
      · exact absurd h.1 hv
      · exact absurd h.1 hv
      · exact ⟨h.2, h0⟩⟩
/-- The wages, and spans that were told. -/
structure RB (w : World) (cr : Int) (sa ta : Option Addr) (sn sc tn tc : Nat) (S : Nat → Sm) (T : Nat → Tk) (KB : List (Nat × Int × Int)) (W : World) : Prop where
  wb : WB w cr sa ta sn sc tn tc S T w.heap.size W
  bx : ∀ e ∈ KB, BoxAt W e.1 #[.int .i64 e.2.1, .int .i64 e.2.2] 29
section
variable {w : World} {cr : Int} {sa ta : Option Addr} {sn sc tn tc : Nat} {S : Nat → Sm} {T : Nat → Tk} {KB : List (Nat × Int × Int)} {W W2 : World}
theorem RB.grow (h : RB w cr sa ta sn sc tn tc S T KB W) (hb : Below W.heap.size W W2) : RB w cr sa ta sn sc tn tc S T KB W2 := ⟨h.wb.grow hb, fun e he => (h.bx e he).grow hb⟩
theorem RB.new (h : RB w cr sa ta sn sc tn tc S T KB W) (a b : Int) : RB w cr sa ta sn sc tn tc S T ((W.heap.size, a, b) :: KB) (W.alloc (.cells #[.int .i64 a, .int .i64 b] 29)) := by
  have hb := (Below.refl W.heap.size W).alloc (Nat.le_refl _) (.cells #[.int .i64 a, .int .i64 b] 29)
  refine ⟨h.wb.grow hb, fun e he => ?_⟩
  rcases List.mem_cons.1 he with rfl | he
  · exact heap_alloc_new _ _
  · exact (h.bx e he).grow hb
theorem RB.cells (h : RB w cr sa ta sn sc tn tc S T KB W) : W.cell? ⟨w.heap.size, 0, none⟩ = some (.int .i64 cr) ∧ W.cell? ⟨w.heap.size, 1, none⟩ = some (.slice sa sn sc) ∧ W.cell? ⟨w.heap.size, 2, none⟩ = some (.slice ta tn tc) :=
  ⟨cellAt h.wb.box 0, cellAt h.wb.box 1, cellAt h.wb.box 2⟩
theorem RB.span (h : RB w cr sa ta sn sc tn tc S T KB W) {e : Nat × Int × Int} (he : e ∈ KB) : W.cell? ⟨e.1, 0, none⟩ = some (.int .i64 e.2.1) ∧ W.cell? ⟨e.1, 1, none⟩ = some (.int .i64 e.2.2) :=
  ⟨cellAt (h.bx e he) 0, cellAt (h.bx e he) 1⟩
end

set_option maxRecDepth 100000 in
set_option maxHeartbeats 4000000 in
theorem reads_law (cr : Int) (sa ta : Option Addr) (sn sc tn tc : Nat) (S : Nat → Sm) (T : Nat → Tk) (s c f : Int) (w : World) (hS : SeamsAt w sa sn S) (hT : TicketsAt w ta tn T) :
    Calls Try.prog 3 #[.agg #[.int .i64 cr, .slice sa sn sc, .slice ta tn tc], .int .i64 s, .int .i64 c, .int .i64 f] w fun e w' => e = .returned (.bool true) ∧ Below w.heap.size w w' := by
  have I0 := Lib.hid (WB.new (cr := cr) (sc := sc) (tc := tc) hS hT)
  clear hS hT
  have q0 := cellAt I0.out.box 0
  have q1 := cellAt I0.out.box 1
  have q2 := cellAt I0.out.box 2
  simp only [List.getElem?_toArray, List.getElem?_cons_zero, List.getElem?_cons_succ] at q0 q1 q2
  have CH := Lib.hid (fun W (h1 : SeamsAt W sa sn S) (h2 : TicketsAt W ta tn T) => (heavy_any cr sa ta sn sc tn tc S T 2000 none 0 0 _ _ _ W h1 h2 (Hdrs.nil _) : Calls Try.prog 13 #[.agg #[.int .i64 cr, .slice sa sn sc, .slice ta tn tc], .int .i64 2000, .slice none 0 0] W _))
  go_enter Try.func3, Try.ntmps3
  go_wp2_with (go_at_call 13; refine (CH.out _ I0.out.ss I0.out.tt).mono ?_)
  rintro e w1 ⟨b, rfl, hbv, hb1⟩
  have I1 := Lib.hid (show RB w cr sa ta sn sc tn tc S T [] w1 from ⟨I0.out.grow hb1, fun e he => by cases he⟩)
  clear I0 hb1 q0 q1 q2 CH
  cases b with
  | true =>
    clear hbv
    go_wp2_with (go_at_call 14; refine (awake_any _).mono ?_; rintro e w2 ⟨rfl, hb2⟩; have HB := Lib.hid (I1.out.wb.bel.next hb2))
    exact bodyPost_ret (v := .bool true) (by simp [results, Try.results3, go_sem]) rfl ⟨rfl, HB.out⟩
  | false =>
    have HC := Lib.hid (hbv rfl).2
    clear hbv
    obtain ⟨a1, a2, ae, hA⟩ := Said.fix (Valid cr sn tn S T) (inB s 0 (sn - 1) && inB c 0 (cr - 1)) (manyOf S T (leastK c T) tn s c) (manyOf S T (mostK c T) tn s c)
    obtain ⟨b1, b2, be, hB⟩ := Said.fix (Valid cr sn tn S T) (inB s 0 (sn - 1)) (manyOf S T (leastK (-1) T) tn s (-1)) (manyOf S T (mostK (-1) T) tn s (-1))
    obtain ⟨d1, d2, de, hD⟩ := WhosePost.fix (Valid cr sn tn S T) (inB s 0 (sn - 1) && inB f 0 ((S s.toNat).fat - 1)) (setN T tn s f.toNat cr.toNat) (decide (ownerOf T (mostK (-1) T) tn s f.toNat = -1))
    have C15 := Lib.hid (fun W (h1 : SeamsAt W sa sn S) (h2 : TicketsAt W ta tn T) => (fathoms_any cr sa ta sn sc tn tc S T s c W h1 h2).mono fun e w' h => hA W e w' h)
    have C16 := Lib.hid (fun W (h1 : SeamsAt W sa sn S) (h2 : TicketsAt W ta tn T) => (fathomsR_any cr sa ta sn sc tn tc S T s c W h1 h2 HC.out).mono fun e w' h => hA W e w' h)
    have C17 := Lib.hid (fun W (h1 : SeamsAt W sa sn S) (h2 : TicketsAt W ta tn T) => (left_any cr sa ta sn sc tn tc S T s W h1 h2).mono fun e w' h => hB W e w' h)
    have C18 := Lib.hid (fun W (h1 : SeamsAt W sa sn S) (h2 : TicketsAt W ta tn T) => (leftR_any cr sa ta sn sc tn tc S T s W h1 h2 HC.out).mono fun e w' h => hB W e w' h)
    have C19 := Lib.hid (fun W (h1 : SeamsAt W sa sn S) (h2 : TicketsAt W ta tn T) => (whoses_any cr sa ta sn sc tn tc S T s f W h1 h2).mono fun e w' h => hD W e w' h)
    have C20 := Lib.hid (fun W (h1 : SeamsAt W sa sn S) (h2 : TicketsAt W ta tn T) => (whoseR_any cr sa ta sn sc tn tc S T s f W h1 h2 HC.out).mono fun e w' h => hD W e w' h)
    clear hA hB hD HC
    obtain ⟨q0, q1, q2⟩ := I1.out.cells
    go_wp2_with (go_at_call 15; refine (C15.out _ I1.out.wb.ss I1.out.wb.tt).mono ?_)
    rintro e w2 ⟨rfl, hb⟩
    have I2 := Lib.hid ((I1.out.grow hb).new a1 a2)
    clear I1 hb q0 q1 q2 C15
    obtain ⟨q0, q1, q2⟩ := I2.out.cells
    go_wp2_with (go_at_call 16; refine (C16.out _ I2.out.wb.ss I2.out.wb.tt).mono ?_)
    generalize hW : World.alloc _ _ = W2 at *
    generalize w2.heap.size = x2 at *
    clear hW
    rintro e w3 ⟨rfl, hb⟩
    have I3 := Lib.hid ((I2.out.grow hb).new a1 a2)
    clear I2 hb q0 q1 q2 C16
    obtain ⟨q0, q1, q2⟩ := I3.out.cells
    go_wp2_with (go_at_call 17; refine (C17.out _ I3.out.wb.ss I3.out.wb.tt).mono ?_)
    generalize hW : World.alloc _ _ = W3 at *
    generalize w3.heap.size = x3 at *
    clear hW
    rintro e w4 ⟨rfl, hb⟩
    have I4 := Lib.hid ((I3.out.grow hb).new b1 b2)
    clear I3 hb q0 q1 q2 C17
    obtain ⟨q0, q1, q2⟩ := I4.out.cells
    go_wp2_with (go_at_call 18; refine (C18.out _ I4.out.wb.ss I4.out.wb.tt).mono ?_)
    generalize hW : World.alloc _ _ = W4 at *
    generalize w4.heap.size = x4 at *
    clear hW
    rintro e w5 ⟨rfl, hb⟩
    have I5 := Lib.hid ((I4.out.grow hb).new b1 b2)
    clear I4 hb q0 q1 q2 C18
    obtain ⟨q0, q1, q2⟩ := I5.out.cells
    go_wp2_with (go_at_call 19; refine (C19.out _ I5.out.wb.ss I5.out.wb.tt).mono ?_)
    generalize hW : World.alloc _ _ = W5 at *
    generalize w5.heap.size = x5 at *
    clear hW
    rintro e w6 ⟨rfl, hb⟩
    have I6 := Lib.hid (I5.out.grow hb)
    clear I5 hb q0 q1 q2 C19
    obtain ⟨q0, q1, q2⟩ := I6.out.cells
    go_wp2_with (go_at_call 20; refine (C20.out _ I6.out.wb.ss I6.out.wb.tt).mono ?_)
    rintro e w7 ⟨rfl, hb⟩
    have I7 := Lib.hid (I6.out.grow hb)
    clear I6 hb q0 q1 q2 C20
    obtain ⟨q0, q1, q2⟩ := I7.out.cells
    obtain ⟨l0, l1⟩ := I7.out.span (e := (x2, a1, a2)) (by simp)
    obtain ⟨l2, l3⟩ := I7.out.span (e := (x3, a1, a2)) (by simp)
    obtain ⟨l4, l5⟩ := I7.out.span (e := (x4, b1, b2)) (by simp)
    obtain ⟨l6, l7⟩ := I7.out.span (e := (x5, b1, b2)) (by simp)
    go_wp2_with (go_at_call 14; refine (awake_any _).mono ?_; rintro e w2 ⟨rfl, hb2⟩; have HB := Lib.hid (I7.out.wb.bel.next hb2))
    exact bodyPost_ret (v := .bool true) (by simp [results, Try.results3, go_sem]) rfl ⟨rfl, HB.out⟩
end Go.Proofs.Ytbpeamppkdmdcaa
