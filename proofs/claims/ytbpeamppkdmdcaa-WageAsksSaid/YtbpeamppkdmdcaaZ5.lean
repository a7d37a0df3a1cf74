/-
  Walks: the law of what is asked: the ticket of which one should know more, and how coins are shared out, by the program and by the reference.
-/
import Derived.Test.YtbpeamppkdmdcaaZ0
import Derived.Test.YtbpeamppkdmdcaaV8
import Derived.Test.YtbpeamppkdmdcaaV9
namespace Go.Proofs.Ytbpeamppkdmdcaa
open Go.RowKit

theorem AskSaid.fix (V : Prop) (b : Bool) (S : Nat → Sm) (T : Nat → Tk) (sn tn : Nat) (c : Int) : ∃ a d er : Int, ∀ W e w', AskSaid W V b S T sn tn c e w' → e = .returned (.tuple #[.int .i64 a, .int .i64 d, .int .i64 er]) ∧ Below W.heap.size W w' := by
  by_cases hv : V
  · cases b with
    | true =>
      by_cases hs : spreadOf S T sn tn c = 0
      · exact ⟨0, 0, 11, fun W e w' h => by
          rcases h with ⟨h0, h | h | h | h⟩
          · exact absurd hs h.2.2.1
          · exact ⟨h.2.2.2, h0⟩
          · cases h.2.1
          · exact absurd hv h.1⟩
      · exact ⟨_, _, 0, fun W e w' h => by
          rcases h with ⟨h0, h | h | h | h⟩
          · exact ⟨h.2.2.2, h0⟩
          · exact absurd h.2.2.1 hs
          · cases h.2.1
          · exact absurd hv h.1⟩
    | false => exact ⟨0, 0, 2, fun W e w' h => by
        rcases h with ⟨h0, h | h | h | h⟩
        · cases h.2.1
        · cases h.2.1
        · exact ⟨h.2.2, h0⟩
        · exact absurd hv h.1⟩
  · exact ⟨0, 0, 1, fun W e w' h => by
      rcases h with ⟨h0, h | h | h | h⟩
      · exact absurd h.1 hv
      · exact absurd h.1 hv
      · exact absurd h.1 hv
      · exact ⟨h.2, h0⟩⟩
theorem SharePost.fix (coins : Int) (n : Nat) (sh : Nat → Int) (hn : n ≤ maxLen) : ∃ (er : Int) (m : Nat) (G : Nat → Int), ∀ W e w', SharePost W coins n sh e w' → ∃ o c, e = .returned (.tuple #[.slice o m c, .int .i64 er]) ∧ IntsAt w' o m G ∧ Below W.heap.size W w' := by
  cases hb : shareOk coins n sh with
  | true => exact ⟨0, n, _, fun W e w' h => by
      rcases h with ⟨h0, ⟨-, g, -, h1, h2⟩ | h⟩
      · exact ⟨_, _, h1, ints_box h2 hn, h0⟩
      · rw [hb] at h; cases h.1⟩
  | false => exact ⟨1, 0, fun _ => 0, fun W e w' h => by
      rcases h with ⟨h0, h | h⟩
      · rw [hb] at h; cases h.1
      · exact ⟨_, _, h.2, ints_nil _ _, h0⟩⟩
theorem Hdrs.of1 {W : World} {b : Nat} {fa : Option Addr} {fn fc : Nat} (h : BoxAt W b #[.slice fa fn fc] 37) (h1 : fn ≤ maxLen) :
    Hdrs W (some ⟨b, 0, none⟩) 1 (fun _ => fa) (fun _ => fn) (fun _ => fc) := by
  refine ⟨⟨fun _ => rfl, fun _ => lt_of_heap h, by unfold maxLen; omega, fun i hi j hj => ?_⟩, fun i hi => h1⟩
  obtain rfl : j = 0 := by omega
  obtain rfl : i = 0 := by omega
  exact cellAt h 0

set_option maxRecDepth 100000 in
set_option maxHeartbeats 4000000 in
theorem asks_law (cr : Int) (sa ta : Option Addr) (sn sc tn tc : Nat) (S : Nat → Sm) (T : Nat → Tk) (c n : Int) (fa : Option Addr) (fn fc : Nat) (f : Nat → Int) (w : World) (hS : SeamsAt w sa sn S) (hT : TicketsAt w ta tn T)
    (hf : IntsAt w fa fn f) :
    Calls Try.prog 5 #[.agg #[.int .i64 cr, .slice sa sn sc, .slice ta tn tc], .int .i64 c, .int .i64 n, .slice fa fn fc] w fun e w' => e = .returned (.bool true) ∧ Below w.heap.size w w' := by
  have I0 := Lib.hid (WB.new (cr := cr) (sc := sc) (tc := tc) hS hT)
  have LF := Lib.hid (fun W (h : Below w.heap.size w W) => IntsAt.grow hf h)
  have HL := Lib.hid hf.small
  clear hS hT hf
  have q0 := cellAt I0.out.box 0
  have q1 := cellAt I0.out.box 1
  have q2 := cellAt I0.out.box 2
  simp only [List.getElem?_toArray, List.getElem?_cons_zero, List.getElem?_cons_succ] at q0 q1 q2
  have CH := Lib.hid (fun W oa (h1 : SeamsAt W sa sn S) (h2 : TicketsAt W ta tn T) (h3 : Hdrs W oa 1 (fun _ => fa) (fun _ => fn) (fun _ => fc)) => (heavy_any cr sa ta sn sc tn tc S T 400 oa 1 1 _ _ _ W h1 h2 h3 : Calls Try.prog 13 #[.agg #[.int .i64 cr, .slice sa sn sc, .slice ta tn tc], .int .i64 400, .slice oa 1 1] W _))
  have I1 := Lib.hid (I0.out.grow ((Below.refl _ _).alloc (Nat.le_refl _) (.cells #[.slice fa fn fc] 37)))
  have HD := Lib.hid (Hdrs.of1 (blocks2 (W := (w.alloc (.cells #[.int .i64 cr, .slice sa sn sc, .slice ta tn tc] 25)).alloc (.cells #[.slice fa fn fc] 37)) rfl).2.1 HL.out)
  go_enter Try.func5, Try.ntmps5
  go_wp2_with (go_at_call 13; refine (CH.out _ _ I1.out.ss I1.out.tt HD.out).mono ?_)
  rintro e w1 ⟨b, rfl, hbv, hb1⟩
  have I2 := Lib.hid (show RB w cr sa ta sn sc tn tc S T [] w1 from ⟨I1.out.grow hb1, fun e he => by cases he⟩)
  clear I0 I1 hb1 q0 q1 q2 CH HD
  cases b with
  | true =>
    clear hbv
    go_wp2_with (go_at_call 14; refine (awake_any _).mono ?_; rintro e w2 ⟨rfl, hb2⟩; have HB := Lib.hid (I2.out.wb.bel.next hb2))
    exact bodyPost_ret (v := .bool true) (by simp [results, Try.results5, go_sem]) rfl ⟨rfl, HB.out⟩
  | false =>
    have HC := Lib.hid (fun hv => by have := (hbv rfl).2 hv; omega : Valid cr sn tn S T → countT T tn 0 ≤ 2000)
    clear hbv
    obtain ⟨a1, a2, ae, hA⟩ := AskSaid.fix (Valid cr sn tn S T) (inB c 0 (cr - 1)) S T sn tn c
    obtain ⟨de, m, G, hD⟩ := SharePost.fix n fn f HL.out
    have C28 := Lib.hid (fun W (h1 : SeamsAt W sa sn S) (h2 : TicketsAt W ta tn T) => (asks_any cr sa ta sn sc tn tc S T c W h1 h2).mono fun e w' h => hA W e w' h)
    have C29 := Lib.hid (fun W (h1 : SeamsAt W sa sn S) (h2 : TicketsAt W ta tn T) => (askR_any cr sa ta sn sc tn tc S T c W h1 h2 HC.out).mono fun e w' h => hA W e w' h)
    have C30 := Lib.hid (fun W (h3 : Below w.heap.size w W) => (shares_any n fa fn fc f W (LF.out W h3)).mono fun e w' h => hD W e w' h)
    have C31 := Lib.hid (fun W (h3 : Below w.heap.size w W) => (shareR_any n fa fn fc f W (LF.out W h3)).mono fun e w' h => hD W e w' h)
    clear hA hD HC LF HL
    obtain ⟨q0, q1, q2⟩ := I2.out.cells
    go_wp2_with (go_at_call 28; refine (C28.out _ I2.out.wb.ss I2.out.wb.tt).mono ?_)
    rintro e w3 ⟨rfl, hb⟩
    have I3 := Lib.hid (I2.out.grow hb)
    clear I2 hb q0 q1 q2 C28
    obtain ⟨q0, q1, q2⟩ := I3.out.cells
    go_wp2_with (go_at_call 29; refine (C29.out _ I3.out.wb.ss I3.out.wb.tt).mono ?_)
    rintro e w4 ⟨rfl, hb⟩
    have I4 := Lib.hid (I3.out.grow hb)
    clear I3 hb q0 q1 q2 C29
    go_wp2_with (go_at_call 30; refine (C30.out _ I4.out.wb.bel).mono ?_)
    rintro e w5 ⟨o1, c1, rfl, hi, hb⟩
    have I5 := Lib.hid (I4.out.wb.bel.next hb)
    have J1 := Lib.hid hi
    clear I4 hb hi C30
    go_wp2_with (go_at_call 31; refine (C31.out _ I5.out).mono ?_)
    rintro e w6 ⟨o2, c2, rfl, hi, hb⟩
    have I6 := Lib.hid (I5.out.next hb)
    have J := Lib.hid (And.intro (IntsAt.grow J1.out hb) hi)
    clear I5 hb hi C31 J1
    go_wp2_with (go_at_call 27; refine (same_ints _ _ _ _ _ G _ J.out.1 J.out.2).mono ?_)
    rintro e w9 ⟨rfl, hb9⟩
    have HB0 := Lib.hid (I6.out.next hb9)
    go_wp2_with (go_at_call 14; refine (awake_any _).mono ?_; rintro e w2 ⟨rfl, hb2⟩; have HB := Lib.hid (HB0.out.next hb2))
    exact bodyPost_ret (v := .bool true) (by simp [results, Try.results5, go_sem]) rfl ⟨rfl, HB.out⟩
end Go.Proofs.Ytbpeamppkdmdcaa
