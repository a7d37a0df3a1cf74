/-
  Walks: the law of coins: how many are due, how many are paid, and what is due by tickets that are known, by the program and by the reference.
-/
import Derived.Test.YtbpeamppkdmdcaaZ0
import Derived.Test.YtbpeamppkdmdcaaV5
import Derived.Test.YtbpeamppkdmdcaaV7
namespace Go.Proofs.Ytbpeamppkdmdcaa
open Go.RowKit

def sel3 {α : Type} (a b c : α) (i : Nat) : α := if i = 0 then a else if i = 1 then b else c
theorem Hdrs.of3 {W : World} {b : Nat} {fa ga ha : Option Addr} {fn fc gn gc hn hc : Nat} (h : BoxAt W b #[.slice fa fn fc, .slice ga gn gc, .slice ha hn hc] 37) (h1 : fn ≤ maxLen) (h2 : gn ≤ maxLen) (h3 : hn ≤ maxLen) :
    Hdrs W (some ⟨b, 0, none⟩) 3 (sel3 fa ga ha) (sel3 fn gn hn) (sel3 fc gc hc) := by
  refine ⟨⟨fun _ => rfl, fun _ => lt_of_heap h, by unfold maxLen; omega, fun i hi j hj => ?_⟩, fun i hi => ?_⟩
  · obtain rfl : j = 0 := by omega
    show W.cell? ⟨b, 0 + i * 1 + 0, none⟩ = _
    rw [cellAt h]
    match i, hi with
    | 0, _ => rfl
    | 1, _ => rfl
    | 2, _ => rfl
  · unfold sel3
    split
    · exact h1
    · split
      · exact h2
      · exact h3
theorem ExactFix (V : Prop) (b : Bool) (F : Nat → Int) (n : Nat) (hn : V → n ≤ maxLen) : ∃ (er : Int) (m : Nat) (G : Nat → Int),
    (∀ W e w', ExactPost W V b F n e w' → ∃ o c, e = .returned (.tuple #[.slice o m c, .int .i64 er]) ∧ IntsAt w' o m G ∧ Below W.heap.size W w') ∧
    (∀ W e w', ExactRP W V b F n e w' → ∃ o c, e = .returned (.tuple #[.slice o m c, .int .i64 er]) ∧ IntsAt w' o m G ∧ Below W.heap.size W w') := by
  by_cases hv : V
  · cases b with
    | true =>
      refine ⟨0, n, F, fun W e w' h => ?_, fun W e w' h => ?_⟩
      · rcases h with ⟨h0, ⟨-, -, g, -, h1, h2⟩ | h | h⟩
        · exact ⟨_, _, h1, ints_box h2 (hn hv), h0⟩
        · cases h.2.1
        · exact absurd hv h.1
      · rcases h with ⟨h0, ⟨-, -, o, c, h1, h2⟩ | h | h⟩
        · exact ⟨_, _, h1, h2, h0⟩
        · cases h.2.1
        · exact absurd hv h.1
    | false =>
      refine ⟨2, 0, fun _ => 0, fun W e w' h => ?_, fun W e w' h => ?_⟩
      · rcases h with ⟨h0, h | h | h⟩
        · cases h.2.1
        · exact ⟨_, _, h.2.2, ints_nil _ _, h0⟩
        · exact absurd hv h.1
      · rcases h with ⟨h0, h | h | h⟩
        · cases h.2.1
        · exact ⟨_, _, h.2.2, ints_nil _ _, h0⟩
        · exact absurd hv h.1
  · refine ⟨1, 0, fun _ => 0, fun W e w' h => ?_, fun W e w' h => ?_⟩
    · rcases h with ⟨h0, h | h | h⟩
      · exact absurd h.1 hv
      · exact absurd h.1 hv
      · exact ⟨_, _, h.2, ints_nil _ _, h0⟩
    · rcases h with ⟨h0, h | h | h⟩
      · exact absurd h.1 hv
      · exact absurd h.1 hv
      · exact ⟨_, _, h.2, ints_nil _ _, h0⟩

set_option maxRecDepth 100000 in
set_option maxHeartbeats 4000000 in
theorem coins_law (cr : Int) (sa ta : Option Addr) (sn sc tn tc : Nat) (S : Nat → Sm) (T : Nat → Tk) (c : Int) (fa ga ha : Option Addr) (fn fc gn gc hn hc : Nat) (f g h : Nat → Int) (w : World) (hS : SeamsAt w sa sn S) (hT : TicketsAt w ta tn T)
    (hf : IntsAt w fa fn f) (hg : IntsAt w ga gn g) (hh : IntsAt w ha hn h) :
    Calls Try.prog 4 #[.agg #[.int .i64 cr, .slice sa sn sc, .slice ta tn tc], .int .i64 c, .slice fa fn fc, .slice ga gn gc, .slice ha hn hc] w fun e w' => e = .returned (.bool true) ∧ Below w.heap.size w w' := by
  have I0 := Lib.hid (WB.new (cr := cr) (sc := sc) (tc := tc) hS hT)
  have LF := Lib.hid (fun W (h : Below w.heap.size w W) => IntsAt.grow hf h)
  have LG := Lib.hid (fun W (h : Below w.heap.size w W) => IntsAt.grow hg h)
  have LH := Lib.hid (fun W (h : Below w.heap.size w W) => IntsAt.grow hh h)
  have HL := Lib.hid (And.intro hf.small (And.intro hg.small hh.small))
  clear hS hT hf hg hh
  have q0 := cellAt I0.out.box 0
  have q1 := cellAt I0.out.box 1
  have q2 := cellAt I0.out.box 2
  simp only [List.getElem?_toArray, List.getElem?_cons_zero, List.getElem?_cons_succ] at q0 q1 q2
  have CH := Lib.hid (fun W oa (h1 : SeamsAt W sa sn S) (h2 : TicketsAt W ta tn T) (h3 : Hdrs W oa 3 (sel3 fa ga ha) (sel3 fn gn hn) (sel3 fc gc hc)) => (heavy_any cr sa ta sn sc tn tc S T 2000 oa 3 3 _ _ _ W h1 h2 h3 : Calls Try.prog 13 #[.agg #[.int .i64 cr, .slice sa sn sc, .slice ta tn tc], .int .i64 2000, .slice oa 3 3] W _))
  have I1 := Lib.hid (I0.out.grow ((Below.refl _ _).alloc (Nat.le_refl _) (.cells #[.slice fa fn fc, .slice ga gn gc, .slice ha hn hc] 37)))
  have HD := Lib.hid (Hdrs.of3 (blocks2 (W := (w.alloc (.cells #[.int .i64 cr, .slice sa sn sc, .slice ta tn tc] 25)).alloc (.cells #[.slice fa fn fc, .slice ga gn gc, .slice ha hn hc] 37)) rfl).2.1 HL.out.1 HL.out.2.1 HL.out.2.2)
  go_enter Try.func4, Try.ntmps4
  go_wp2_with (go_at_call 13; refine (CH.out _ _ I1.out.ss I1.out.tt HD.out).mono ?_)
  rintro e w1 ⟨b, rfl, hbv, hb1⟩
  have I2 := Lib.hid (show RB w cr sa ta sn sc tn tc S T [] w1 from ⟨I1.out.grow hb1, fun e he => by cases he⟩)
  clear I0 I1 hb1 q0 q1 q2 CH HD
  cases b with
  | true =>
    clear hbv
    go_wp2_with (go_at_call 14; refine (awake_any _).mono ?_; rintro e w2 ⟨rfl, hb2⟩; have HB := Lib.hid (I2.out.wb.bel.next hb2))
    exact bodyPost_ret (v := .bool true) (by simp [results, Try.results4, go_sem]) rfl ⟨rfl, HB.out⟩
  | false =>
    have HC := Lib.hid (hbv rfl).2
    clear hbv
    obtain ⟨a1, a2, ae, hA⟩ := Said.fix (Valid cr sn tn S T) (inB c 0 (cr - 1)) (coinsOf S T (leastK c T) sn tn c) (coinsOf S T (mostK c T) sn tn c)
    obtain ⟨b1, b2, be, hB⟩ := Said.fix (Valid cr sn tn S T) true (allOf S sn - coinsOf S T (mostK (-1) T) sn tn (-1)) (allOf S sn - coinsOf S T (leastK (-1) T) sn tn (-1))
    obtain ⟨de, m, G, hD, hE⟩ := ExactFix (Valid cr sn tn S T) (exB fn gn hn tn T f g h) (fun c => coinsOf S T (toldK f g h) sn tn c) cr.toNat (fun hv => by have := hv.cr1; unfold maxLen; omega)
    have C21 := Lib.hid (fun W (h1 : SeamsAt W sa sn S) (h2 : TicketsAt W ta tn T) => (dues_any cr sa ta sn sc tn tc S T c W h1 h2).mono fun e w' h => hA W e w' h)
    have C22 := Lib.hid (fun W (h1 : SeamsAt W sa sn S) (h2 : TicketsAt W ta tn T) => (dueR_any cr sa ta sn sc tn tc S T c W h1 h2 HC.out).mono fun e w' h => hA W e w' h)
    have C23 := Lib.hid (fun W (h1 : SeamsAt W sa sn S) (h2 : TicketsAt W ta tn T) => (paid_any cr sa ta sn sc tn tc S T W h1 h2).mono fun e w' h => hB W e w' h)
    have C24 := Lib.hid (fun W (h1 : SeamsAt W sa sn S) (h2 : TicketsAt W ta tn T) => (paidR_any cr sa ta sn sc tn tc S T W h1 h2 HC.out).mono fun e w' h => hB W e w' h)
    have C25 := Lib.hid (fun W (h1 : SeamsAt W sa sn S) (h2 : TicketsAt W ta tn T) (h3 : Below w.heap.size w W) => (exacts_any cr sa ta sn sc tn tc S T fa ga ha fn fc gn gc hn hc f g h W h1 h2 (LF.out W h3) (LG.out W h3) (LH.out W h3)).mono fun e w' h => hD W e w' h)
    have C26 := Lib.hid (fun W (h1 : SeamsAt W sa sn S) (h2 : TicketsAt W ta tn T) (h3 : Below w.heap.size w W) => (exactR_any cr sa ta sn sc tn tc S T fa ga ha fn fc gn gc hn hc f g h W h1 h2 (LF.out W h3) (LG.out W h3) (LH.out W h3)).mono fun e w' h => hE W e w' h)
    clear hA hB hD hE HC LF LG LH HL
    obtain ⟨q0, q1, q2⟩ := I2.out.cells
    go_wp2_with (go_at_call 21; refine (C21.out _ I2.out.wb.ss I2.out.wb.tt).mono ?_)
    rintro e w3 ⟨rfl, hb⟩
    have I3 := Lib.hid ((I2.out.grow hb).new a1 a2)
    clear I2 hb q0 q1 q2 C21
    obtain ⟨q0, q1, q2⟩ := I3.out.cells
    go_wp2_with (go_at_call 22; refine (C22.out _ I3.out.wb.ss I3.out.wb.tt).mono ?_)
    generalize hW : World.alloc _ _ = W3 at *
    generalize w3.heap.size = x3 at *
    clear hW
    rintro e w4 ⟨rfl, hb⟩
    have I4 := Lib.hid ((I3.out.grow hb).new a1 a2)
    clear I3 hb q0 q1 q2 C22
    obtain ⟨q0, q1, q2⟩ := I4.out.cells
    go_wp2_with (go_at_call 23; refine (C23.out _ I4.out.wb.ss I4.out.wb.tt).mono ?_)
    generalize hW : World.alloc _ _ = W4 at *
    generalize w4.heap.size = x4 at *
    clear hW
    rintro e w5 ⟨rfl, hb⟩
    have I5 := Lib.hid ((I4.out.grow hb).new b1 b2)
    clear I4 hb q0 q1 q2 C23
    obtain ⟨q0, q1, q2⟩ := I5.out.cells
    go_wp2_with (go_at_call 24; refine (C24.out _ I5.out.wb.ss I5.out.wb.tt).mono ?_)
    generalize hW : World.alloc _ _ = W5 at *
    generalize w5.heap.size = x5 at *
    clear hW
    rintro e w6 ⟨rfl, hb⟩
    have I6 := Lib.hid ((I5.out.grow hb).new b1 b2)
    clear I5 hb q0 q1 q2 C24
    obtain ⟨q0, q1, q2⟩ := I6.out.cells
    go_wp2_with (go_at_call 25; refine (C25.out _ I6.out.wb.ss I6.out.wb.tt I6.out.wb.bel).mono ?_)
    generalize hW : World.alloc _ _ = W6 at *
    generalize w6.heap.size = x6 at *
    clear hW
    rintro e w7 ⟨o25, c25, rfl, hi, hb⟩
    have I7 := Lib.hid (I6.out.grow hb)
    have J25 := Lib.hid hi
    clear I6 hb q0 q1 q2 C25 hi
    obtain ⟨q0, q1, q2⟩ := I7.out.cells
    go_wp2_with (go_at_call 26; refine (C26.out _ I7.out.wb.ss I7.out.wb.tt I7.out.wb.bel).mono ?_)
    rintro e w8 ⟨o26, c26, rfl, hi, hb⟩
    have I8 := Lib.hid (I7.out.grow hb)
    have J := Lib.hid (And.intro (IntsAt.grow J25.out hb) hi)
    clear I7 hb q0 q1 q2 C26 hi J25
    obtain ⟨q0, q1, q2⟩ := I8.out.cells
    obtain ⟨l0, l1⟩ := I8.out.span (e := (x3, a1, a2)) (by simp)
    obtain ⟨l2, l3⟩ := I8.out.span (e := (x4, a1, a2)) (by simp)
    obtain ⟨l4, l5⟩ := I8.out.span (e := (x5, b1, b2)) (by simp)
    obtain ⟨l6, l7⟩ := I8.out.span (e := (x6, b1, b2)) (by simp)
    go_wp2_with (go_at_call 27; refine (same_ints _ _ _ _ _ G _ J.out.1 J.out.2).mono ?_)
    rintro e w9 ⟨rfl, hb9⟩
    have HB0 := Lib.hid (I8.out.wb.bel.next hb9)
    go_wp2_with (go_at_call 14; refine (awake_any _).mono ?_; rintro e w2 ⟨rfl, hb2⟩; have HB := Lib.hid (HB0.out.next hb2))
    exact bodyPost_ret (v := .bool true) (by simp [results, Try.results4, go_sem]) rfl ⟨rfl, HB.out⟩
end Go.Proofs.Ytbpeamppkdmdcaa
