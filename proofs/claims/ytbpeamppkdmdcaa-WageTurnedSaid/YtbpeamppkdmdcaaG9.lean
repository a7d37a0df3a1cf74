/-
  Walks: the document's small words: in, span, crew, seam.
  Walks: the document's word whether wages are valid; whether there is far too much.
  Walks: whether wages are valid and not far too large.
  Walks: to whom a fathom is due, by the words of the chapter.
  Plain law: what favours a crew gives it no less.
  Plain law: which ticket is asked for.
  Plain law: whose a fathom can be is whose it is in the truth that favours the crew most.
  Several slices that are the call's own, each in a block of its own; and 'append' of a number to one of them, wherever it comes up.
  Rows: what is read as data, as rows of memory.
  Reading an argument that is wages: seams and tickets as rows of memory.
-/
import Derived.Test.YtbpeamppkdmdcaaG5
import Derived.Test.YtbpeamppkdmdcaaG2
import Derived.Test.YtbpeamppkdmdcaaG8
import Derived.Test.YtbpeamppkdmdcaaG6
import Derived.Deep.AppendLies
import Derived.Deep.RegionHeld3
import Derived.Test.YtbpeamppkdmdcaaG1
import Derived.ProofKit
import Derived.OpenShut
import Derived.ShutString
import Derived.ChangeOld
import Derived.Deep.Slices
import Derived.Lib.SmallJoins
import Derived.WalkKit

namespace Go.Proofs.Ytbpeamppkdmdcaa
open Go.RowKit

set_option maxHeartbeats 400000 in
theorem in_any (n lo hi : Int) (w : World) :
    Calls Try.prog 88 #[.int .i64 n, .int .i64 lo, .int .i64 hi] w fun e w' => e = .returned (.bool (inB n lo hi)) ∧ w = w' := by
  by_cases h1 : lo ≤ n
  · by_cases h2 : n ≤ hi
    · go_enter Try.func88, Try.ntmps88
      go_wp2
      go_ret
      simp [inB]; omega
    · go_enter Try.func88, Try.ntmps88
      go_wp2
      go_ret
      simp [inB]; omega
  · go_enter Try.func88, Try.ntmps88
    go_wp2
    go_ret
    simp [inB]; omega

set_option maxHeartbeats 1000000 in
theorem span_ref (lo hi h : Int) (w : World) (hh : h ≤ 1000000) :
    Calls Try.prog 90 #[.agg #[.int .i64 lo, .int .i64 hi], .int .i64 h] w fun e w' => e = .returned (.bool (spanB lo hi h)) ∧ Below w.heap.size w w' := by
  by_cases c1 : 0 ≤ lo
  · by_cases c2 : lo ≤ hi
    · by_cases c3 : hi ≤ h
      · by_cases c4 : hi - lo ≤ 3
        · go_enter Try.func90, Try.ntmps90
          go_wp2
          go_ret
          exact ⟨ret_bool (by simp [spanB, c1, c2, c3, c4]), (Below.refl _ _).alloc (Nat.le_refl _) _⟩
        · go_enter Try.func90, Try.ntmps90
          go_wp2
          go_ret
          exact ⟨ret_bool (by simp [spanB, c1, c2, c3, c4]), (Below.refl _ _).alloc (Nat.le_refl _) _⟩
      · go_enter Try.func90, Try.ntmps90
        go_wp2
        go_ret
        exact ⟨ret_bool (spanB_no (by omega)).symm, (Below.refl _ _).alloc (Nat.le_refl _) _⟩
    · go_enter Try.func90, Try.ntmps90
      go_wp2
      go_ret
      exact ⟨ret_bool (spanB_no (by omega)).symm, (Below.refl _ _).alloc (Nat.le_refl _) _⟩
  · go_enter Try.func90, Try.ntmps90
    go_wp2
    go_ret
    exact ⟨ret_bool (spanB_no (by omega)).symm, (Below.refl _ _).alloc (Nat.le_refl _) _⟩

set_option maxHeartbeats 400000 in
theorem seam_ref (cr : Int) (sa ta : Option Addr) (sn sc tn tc : Nat) (n : Int) (w : World) (hs : sn ≤ maxLen) :
    Calls Try.prog 52 #[.agg #[.int .i64 cr, .slice sa sn sc, .slice ta tn tc], .int .i64 n] w fun e w' => e = .returned (.bool (inB n 0 (sn - 1))) ∧ Below w.heap.size w w' := by
  unfold maxLen at hs
  go_enter Try.func52, Try.ntmps52
  go_wp2_with (go_at_call 88; refine (in_any _ _ _ _).mono ?_; rintro e w' ⟨rfl, rfl⟩)
  go_ret
  exact ⟨rfl, (Below.refl _ _).alloc (Nat.le_refl _) _⟩

set_option maxHeartbeats 400000 in
theorem crew_ref (cr : Int) (sa ta : Option Addr) (sn sc tn tc : Nat) (n : Int) (w : World) (h0 : -1000000 ≤ cr) (h1 : cr ≤ 1000000) :
    Calls Try.prog 53 #[.agg #[.int .i64 cr, .slice sa sn sc, .slice ta tn tc], .int .i64 n] w fun e w' => e = .returned (.bool (inB n 0 (cr - 1))) ∧ Below w.heap.size w w' := by
  go_enter Try.func53, Try.ntmps53
  go_wp2_with (go_at_call 88; refine (in_any _ _ _ _).mono ?_; rintro e w' ⟨rfl, rfl⟩)
  go_ret
  exact ⟨rfl, (Below.refl _ _).alloc (Nat.le_refl _) _⟩
end Go.Proofs.Ytbpeamppkdmdcaa

namespace Go.Proofs.Ytbpeamppkdmdcaa
open Go.RowKit

/-- The box of the wages, and the rows that they lead to. -/
structure WB (w : World) (cr : Int) (sa ta : Option Addr) (sn sc tn tc : Nat) (S : Nat → Sm) (T : Nat → Tk) (b : Nat) (wr : World) : Prop where
  bel : Below w.heap.size w wr
  box : BoxAt wr b #[.int .i64 cr, .slice sa sn sc, .slice ta tn tc] 25
  ss : SeamsAt wr sa sn S
  tt : TicketsAt wr ta tn T
theorem WB.grow {w : World} {cr : Int} {sa ta : Option Addr} {sn sc tn tc : Nat} {S : Nat → Sm} {T : Nat → Tk} {b : Nat} {w1 w2 : World} (h : WB w cr sa ta sn sc tn tc S T b w1) (hb : Below w1.heap.size w1 w2) : WB w cr sa ta sn sc tn tc S T b w2 :=
  ⟨h.bel.next hb, h.box.grow hb, h.ss.grow hb, h.tt.grow hb⟩
theorem WB.new {w : World} {cr : Int} {sa ta : Option Addr} {sn sc tn tc : Nat} {S : Nat → Sm} {T : Nat → Tk} (hS : SeamsAt w sa sn S) (hT : TicketsAt w ta tn T) : WB w cr sa ta sn sc tn tc S T w.heap.size (w.alloc (.cells #[.int .i64 cr, .slice sa sn sc, .slice ta tn tc] 25)) :=
  have h := (Below.refl w.heap.size w).alloc (Nat.le_refl _) (.cells #[.int .i64 cr, .slice sa sn sc, .slice ta tn tc] 25)
  ⟨h, (blocks1 rfl).1, hS.grow h, hT.grow h⟩
/-- .. and the box of a ticket. -/
structure TB (w : World) (cr : Int) (sa ta : Option Addr) (sn sc tn tc : Nat) (S : Nat → Sm) (T : Nat → Tk) (b tb : Nat) (t : Tk) (wr : World) : Prop where
  wb : WB w cr sa ta sn sc tn tc S T b wr
  tb : BoxAt wr tb #[.int .i64 t.crew, .int .i64 t.seam, .int .i64 t.fl, .int .i64 t.fh, .int .i64 t.tl, .int .i64 t.th, .int .i64 t.dl, .int .i64 t.dh] 58
theorem TB.grow {w : World} {cr : Int} {sa ta : Option Addr} {sn sc tn tc : Nat} {S : Nat → Sm} {T : Nat → Tk} {b tb : Nat} {t : Tk} {w1 w2 : World} (h : TB w cr sa ta sn sc tn tc S T b tb t w1) (hb : Below w1.heap.size w1 w2) : TB w cr sa ta sn sc tn tc S T b tb t w2 :=
  ⟨h.wb.grow hb, h.tb.grow hb⟩
theorem TB.new {w : World} {cr : Int} {sa ta : Option Addr} {sn sc tn tc : Nat} {S : Nat → Sm} {T : Nat → Tk} {b : Nat} {w1 : World} (h : WB w cr sa ta sn sc tn tc S T b w1) (t : Tk) :
    TB w cr sa ta sn sc tn tc S T b w1.heap.size t (w1.alloc (.cells #[.int .i64 t.crew, .int .i64 t.seam, .int .i64 t.fl, .int .i64 t.fh, .int .i64 t.tl, .int .i64 t.th, .int .i64 t.dl, .int .i64 t.dh] 58)) :=
  ⟨h.grow ((Below.refl _ _).alloc (Nat.le_refl _) _), (blocks1 rfl).1⟩
def WR1 (w : World) (cr : Int) (sa ta : Option Addr) (sn sc tn tc : Nat) (S : Nat → Sm) (T : Nat → Tk) (i : Value) (wr : World) : Prop :=
  ∃ k : Nat, k ≤ sn ∧ i = .int .i64 k ∧ (∀ j, j < k → seamOk (S j) = true) ∧ WB w cr sa ta sn sc tn tc S T w.heap.size wr
def WR2 (w : World) (cr : Int) (sa ta : Option Addr) (sn sc tn tc : Nat) (S : Nat → Sm) (T : Nat → Tk) (i : Value) (wr : World) : Prop :=
  ∃ k : Nat, k ≤ tn ∧ i = .int .i64 k ∧ (∀ j, j < k → tickOk1 cr sn (T j) = true ∧ tickOk2 S (T j) = true) ∧ WB w cr sa ta sn sc tn tc S T w.heap.size wr
def WPost (w : World) (V : Prop) (e : Ending) (w' : World) : Prop :=
  ∃ b : Bool, e = .returned (.bool b) ∧ (b = true ↔ V) ∧ Below w.heap.size w w'

set_option maxRecDepth 100000 in
set_option maxHeartbeats 4000000 in
theorem wages_ref (cr : Int) (sa ta : Option Addr) (sn sc tn tc : Nat) (S : Nat → Sm) (T : Nat → Tk) (w : World) (hS : SeamsAt w sa sn S) (hT : TicketsAt w ta tn T) :
    Calls Try.prog 37 #[.agg #[.int .i64 cr, .slice sa sn sc, .slice ta tn tc]] w (WPost w (Valid cr sn tn S T)) := by
  have nsl := hS.small
  have ntl := hT.small
  unfold maxLen at nsl ntl
  have I0 := Lib.hid (WB.new (cr := cr) (sc := sc) (tc := tc) hS hT)
  clear hS hT
  have b0 := cellAt I0.out.box 0
  have b1 := cellAt I0.out.box 1
  have b2 := cellAt I0.out.box 2
  simp only [List.getElem?_toArray, List.getElem?_cons_zero, List.getElem?_cons_succ] at b0 b1 b2
  have hc1 : inB cr 1 4 = true ∨ inB cr 1 4 = false := by cases inB cr 1 4 <;> simp
  rcases hc1 with c1 | c1
  · by_cases h2 : (sn : Int) ≤ 3
    · by_cases h3 : (tn : Int) ≤ 6
      · obtain ⟨hcr0, hcr1⟩ := inB_iff.1 c1
        go_enter Try.func37, Try.ntmps37
        go_wp2_with (go_at_call 88; refine (in_any _ _ _ _).mono ?_; rintro e w' ⟨rfl, rfl⟩)
        clear b0 b1 b2
        generalize hW : World.alloc _ _ = W at *
        clear hW
        go_loopw [3] (WR1 w cr sa ta sn sc tn tc S T) (fun i _ => sn - (intOf i).toNat)
        case atStart => exact ⟨0, Nat.zero_le _, rfl, fun j hj => by omega, I0.out⟩
        case round =>
          clear I0
          obtain ⟨k, hk, rfl, hok, hinv⟩ := hrel
          have HO := Lib.hid hok
          have HI := Lib.hid hinv
          clear hok hinv
          have b1 := cellAt HI.out.box 1
          have b2 := cellAt HI.out.box 2
          simp only [List.getElem?_toArray, List.getElem?_cons_zero, List.getElem?_cons_succ] at b1 b2
          by_cases hlt : k < sn
          · have hi := fun w => run_indexAt_row (w := w) (cap := sc) Try.underlying22 size52 (HI.out.ss.plain (by omega)) hlt
            obtain ⟨g0, g1⟩ := HI.out.ss.at hlt
            have hf : inB (S k).fat 0 20 = true ∨ inB (S k).fat 0 20 = false := by cases inB (S k).fat 0 20 <;> simp
            have hr : inB (S k).rate 0 50 = true ∨ inB (S k).rate 0 50 = false := by cases inB (S k).rate 0 50 <;> simp
            rcases hf with c2 | c2
            · rcases hr with c3 | c3
              · have HY := Lib.hid (show seamOk (S k) = true by simp [seamOk, c2, c3])
                go_wp2_with (go_at_call 88; refine (in_any _ _ _ _).mono ?_; rintro e w' ⟨rfl, rfl⟩)
                refine ⟨⟨k + 1, hlt, by go_num, fun j hj => ?_, HI.out⟩, by simp [intOf]; omega⟩
                by_cases e : j = k
                · rw [e]; exact HY.out
                · exact HO.out j (by omega)
              · have hnv := Lib.hid (show ¬ Valid cr sn tn S T from fun h => by have := h.seamOk hlt; simp [seamOk, c3] at this)
                go_wp2_with (go_at_call 88; refine (in_any _ _ _ _).mono ?_; rintro e w' ⟨rfl, rfl⟩)
                go_ret
                exact ⟨false, rfl, by simp [hnv.out], HI.out.bel⟩
            · have hnv := Lib.hid (show ¬ Valid cr sn tn S T from fun h => by have := h.seamOk hlt; simp [seamOk, c2] at this)
              clear hr
              go_wp2_with (go_at_call 88; refine (in_any _ _ _ _).mono ?_; rintro e w' ⟨rfl, rfl⟩)
              go_ret
              exact ⟨false, rfl, by simp [hnv.out], HI.out.bel⟩
          · obtain rfl : k = sn := by omega
            go_wp2_with fail
            obtain ⟨wo, rfl⟩ : ∃ wo : World, wo = wr := ⟨_, rfl⟩
            go_loopw [4] (WR2 w cr sa ta k sc tn tc S T) (fun i _ => tn - (intOf i).toNat)
            case atStart => exact ⟨0, Nat.zero_le _, rfl, fun j hj => by omega, HI.out⟩
            case round =>
              clear HI b1 b2
              obtain ⟨i, hi, rfl, hok, hinv⟩ := hrel
              have HO2 := Lib.hid hok
              have HI := Lib.hid hinv
              clear hok hinv
              by_cases hlt2 : i < tn
              · have hti := fun w => run_indexAt_row (w := w) (cap := tc) Try.underlying23 size58 (HI.out.tt.plain (by omega)) hlt2
                obtain ⟨k0, k1, k2, k3, k4, k5, k6, k7⟩ := HI.out.tt.at hlt2
                have b2 := cellAt HI.out.box 2
                simp only [List.getElem?_toArray, List.getElem?_cons_zero, List.getElem?_cons_succ] at b2
                have HB := Lib.hid (TB.new HI.out (T i))
                have d0 := cellAt HB.out.wb.box 0
                have d1 := cellAt HB.out.wb.box 1
                have d2 := cellAt HB.out.wb.box 2
                have t0 := cellAt HB.out.tb 0
                have t1 := cellAt HB.out.tb 1
                have t2 := cellAt HB.out.tb 2
                have t3 := cellAt HB.out.tb 3
                have t4 := cellAt HB.out.tb 4
                have t5 := cellAt HB.out.tb 5
                have t6 := cellAt HB.out.tb 6
                have t7 := cellAt HB.out.tb 7
                have p1 : inB (T i).crew 0 (cr - 1) = true ∨ inB (T i).crew 0 (cr - 1) = false := by cases inB (T i).crew 0 (cr - 1) <;> simp
                have p2 : inB (T i).seam 0 (k - 1) = true ∨ inB (T i).seam 0 (k - 1) = false := by cases inB (T i).seam 0 (k - 1) <;> simp
                have p3 : spanB (T i).dl (T i).dh 40 = true ∨ spanB (T i).dl (T i).dh 40 = false := by cases spanB (T i).dl (T i).dh 40 <;> simp
                rcases p1 with e1 | e1
                · rcases p2 with e2 | e2
                  · rcases p3 with e3 | e3
                    · obtain ⟨s0, s1⟩ := inB_iff.1 e2
                      have hsi := fun w => run_indexAt_int (w := w) (cap := sc) (k := (T i).seam) (n := k) Try.underlying22 size52 (HI.out.ss.plain (by omega)) s0 (by omega)
                      have hfc := fun j hj => inB_iff.1 (show inB (S j).fat 0 20 = true by have := HO.out j hj; simp only [seamOk, Bool.and_eq_true] at this; exact this.1)
                      obtain ⟨fat, hfat⟩ : ∃ fat, fat = (S (T i).seam.toNat).fat := ⟨_, rfl⟩
                      have hfb : fat ≤ 1000000 := by rw [hfat]; have := hfc (T i).seam.toNat (by omega); omega
                      clear hfc
                      have p4 : spanB (T i).fl (T i).fh fat = true ∨ spanB (T i).fl (T i).fh fat = false := by cases spanB (T i).fl (T i).fh fat <;> simp
                      have p5 : spanB (T i).tl (T i).th fat = true ∨ spanB (T i).tl (T i).th fat = false := by cases spanB (T i).tl (T i).th fat <;> simp
                      have HF := Lib.hid hfat
                      clear hfat
                      have g9 := (HB.out.wb.ss.at (k := (T i).seam.toNat) (by omega)).1
                      rw [← HF.out] at g9
                      rcases p4 with e4 | e4
                      · rcases p5 with e5 | e5
                        · have HY := Lib.hid (show tickOk1 cr k (T i) = true ∧ tickOk2 S (T i) = true by rw [HF.out] at e4 e5; simp [tickOk1, tickOk2, e1, e2, e3, e4, e5])
                          go_wp2_with (first | (go_at_call 88; refine (in_any _ _ _ _).mono ?_; rintro e w' ⟨rfl, rfl⟩) | (go_at_call 53; refine (crew_ref _ _ _ _ _ _ _ _ _ (by omega) (by omega)).mono ?_; rintro e w5 ⟨rfl, hb5⟩; replace HB := Lib.hid (HB.out.grow hb5); clear hb5; clear d0 d1 d2 t0 t1 t2 t3 t4 t5 t6 t7; have d0 := cellAt HB.out.wb.box 0; have d1 := cellAt HB.out.wb.box 1; have d2 := cellAt HB.out.wb.box 2; have t0 := cellAt HB.out.tb 0; have t1 := cellAt HB.out.tb 1; have t2 := cellAt HB.out.tb 2; have t3 := cellAt HB.out.tb 3; have t4 := cellAt HB.out.tb 4; have t5 := cellAt HB.out.tb 5; have t6 := cellAt HB.out.tb 6; have t7 := cellAt HB.out.tb 7; clear g9; have g9 := (HB.out.wb.ss.at (k := (T i).seam.toNat) (by omega)).1; rw [← HF.out] at g9) | (go_at_call 52; refine (seam_ref _ _ _ _ _ _ _ _ _ (by unfold maxLen; omega)).mono ?_; rintro e w5 ⟨rfl, hb5⟩; replace HB := Lib.hid (HB.out.grow hb5); clear hb5; clear d0 d1 d2 t0 t1 t2 t3 t4 t5 t6 t7; have d0 := cellAt HB.out.wb.box 0; have d1 := cellAt HB.out.wb.box 1; have d2 := cellAt HB.out.wb.box 2; have t0 := cellAt HB.out.tb 0; have t1 := cellAt HB.out.tb 1; have t2 := cellAt HB.out.tb 2; have t3 := cellAt HB.out.tb 3; have t4 := cellAt HB.out.tb 4; have t5 := cellAt HB.out.tb 5; have t6 := cellAt HB.out.tb 6; have t7 := cellAt HB.out.tb 7; clear g9; have g9 := (HB.out.wb.ss.at (k := (T i).seam.toNat) (by omega)).1; rw [← HF.out] at g9) | (go_at_call 90; refine (span_ref _ _ _ _ (by omega)).mono ?_; rintro e w5 ⟨rfl, hb5⟩; replace HB := Lib.hid (HB.out.grow hb5); clear hb5; clear d0 d1 d2 t0 t1 t2 t3 t4 t5 t6 t7; have d0 := cellAt HB.out.wb.box 0; have d1 := cellAt HB.out.wb.box 1; have d2 := cellAt HB.out.wb.box 2; have t0 := cellAt HB.out.tb 0; have t1 := cellAt HB.out.tb 1; have t2 := cellAt HB.out.tb 2; have t3 := cellAt HB.out.tb 3; have t4 := cellAt HB.out.tb 4; have t5 := cellAt HB.out.tb 5; have t6 := cellAt HB.out.tb 6; have t7 := cellAt HB.out.tb 7; clear g9; have g9 := (HB.out.wb.ss.at (k := (T i).seam.toNat) (by omega)).1; rw [← HF.out] at g9))
                          refine ⟨⟨i + 1, hlt2, by go_num, fun j hj => ?_, HB.out.wb⟩, by simp [intOf]; omega⟩
                          by_cases e : j = i
                          · rw [e]; exact HY.out
                          · exact HO2.out j (by omega)
                        · rw [HF.out] at e5
                          have hnv := Lib.hid (show ¬ Valid cr k tn S T from fun h => by have := h.tick2 hlt2; simp [tickOk2, e5] at this)
                          rw [← HF.out] at e5
                          go_wp2_with (first | (go_at_call 88; refine (in_any _ _ _ _).mono ?_; rintro e w' ⟨rfl, rfl⟩) | (go_at_call 53; refine (crew_ref _ _ _ _ _ _ _ _ _ (by omega) (by omega)).mono ?_; rintro e w5 ⟨rfl, hb5⟩; replace HB := Lib.hid (HB.out.grow hb5); clear hb5; clear d0 d1 d2 t0 t1 t2 t3 t4 t5 t6 t7; have d0 := cellAt HB.out.wb.box 0; have d1 := cellAt HB.out.wb.box 1; have d2 := cellAt HB.out.wb.box 2; have t0 := cellAt HB.out.tb 0; have t1 := cellAt HB.out.tb 1; have t2 := cellAt HB.out.tb 2; have t3 := cellAt HB.out.tb 3; have t4 := cellAt HB.out.tb 4; have t5 := cellAt HB.out.tb 5; have t6 := cellAt HB.out.tb 6; have t7 := cellAt HB.out.tb 7; clear g9; have g9 := (HB.out.wb.ss.at (k := (T i).seam.toNat) (by omega)).1; rw [← HF.out] at g9) | (go_at_call 52; refine (seam_ref _ _ _ _ _ _ _ _ _ (by unfold maxLen; omega)).mono ?_; rintro e w5 ⟨rfl, hb5⟩; replace HB := Lib.hid (HB.out.grow hb5); clear hb5; clear d0 d1 d2 t0 t1 t2 t3 t4 t5 t6 t7; have d0 := cellAt HB.out.wb.box 0; have d1 := cellAt HB.out.wb.box 1; have d2 := cellAt HB.out.wb.box 2; have t0 := cellAt HB.out.tb 0; have t1 := cellAt HB.out.tb 1; have t2 := cellAt HB.out.tb 2; have t3 := cellAt HB.out.tb 3; have t4 := cellAt HB.out.tb 4; have t5 := cellAt HB.out.tb 5; have t6 := cellAt HB.out.tb 6; have t7 := cellAt HB.out.tb 7; clear g9; have g9 := (HB.out.wb.ss.at (k := (T i).seam.toNat) (by omega)).1; rw [← HF.out] at g9) | (go_at_call 90; refine (span_ref _ _ _ _ (by omega)).mono ?_; rintro e w5 ⟨rfl, hb5⟩; replace HB := Lib.hid (HB.out.grow hb5); clear hb5; clear d0 d1 d2 t0 t1 t2 t3 t4 t5 t6 t7; have d0 := cellAt HB.out.wb.box 0; have d1 := cellAt HB.out.wb.box 1; have d2 := cellAt HB.out.wb.box 2; have t0 := cellAt HB.out.tb 0; have t1 := cellAt HB.out.tb 1; have t2 := cellAt HB.out.tb 2; have t3 := cellAt HB.out.tb 3; have t4 := cellAt HB.out.tb 4; have t5 := cellAt HB.out.tb 5; have t6 := cellAt HB.out.tb 6; have t7 := cellAt HB.out.tb 7; clear g9; have g9 := (HB.out.wb.ss.at (k := (T i).seam.toNat) (by omega)).1; rw [← HF.out] at g9))
                          go_ret
                          exact ⟨false, rfl, by simp [hnv.out], HB.out.wb.bel⟩
                      · rw [HF.out] at e4
                        have hnv := Lib.hid (show ¬ Valid cr k tn S T from fun h => by have := h.tick2 hlt2; simp [tickOk2, e4] at this)
                        rw [← HF.out] at e4
                        go_wp2_with (first | (go_at_call 88; refine (in_any _ _ _ _).mono ?_; rintro e w' ⟨rfl, rfl⟩) | (go_at_call 53; refine (crew_ref _ _ _ _ _ _ _ _ _ (by omega) (by omega)).mono ?_; rintro e w5 ⟨rfl, hb5⟩; replace HB := Lib.hid (HB.out.grow hb5); clear hb5; clear d0 d1 d2 t0 t1 t2 t3 t4 t5 t6 t7; have d0 := cellAt HB.out.wb.box 0; have d1 := cellAt HB.out.wb.box 1; have d2 := cellAt HB.out.wb.box 2; have t0 := cellAt HB.out.tb 0; have t1 := cellAt HB.out.tb 1; have t2 := cellAt HB.out.tb 2; have t3 := cellAt HB.out.tb 3; have t4 := cellAt HB.out.tb 4; have t5 := cellAt HB.out.tb 5; have t6 := cellAt HB.out.tb 6; have t7 := cellAt HB.out.tb 7; clear g9; have g9 := (HB.out.wb.ss.at (k := (T i).seam.toNat) (by omega)).1; rw [← HF.out] at g9) | (go_at_call 52; refine (seam_ref _ _ _ _ _ _ _ _ _ (by unfold maxLen; omega)).mono ?_; rintro e w5 ⟨rfl, hb5⟩; replace HB := Lib.hid (HB.out.grow hb5); clear hb5; clear d0 d1 d2 t0 t1 t2 t3 t4 t5 t6 t7; have d0 := cellAt HB.out.wb.box 0; have d1 := cellAt HB.out.wb.box 1; have d2 := cellAt HB.out.wb.box 2; have t0 := cellAt HB.out.tb 0; have t1 := cellAt HB.out.tb 1; have t2 := cellAt HB.out.tb 2; have t3 := cellAt HB.out.tb 3; have t4 := cellAt HB.out.tb 4; have t5 := cellAt HB.out.tb 5; have t6 := cellAt HB.out.tb 6; have t7 := cellAt HB.out.tb 7; clear g9; have g9 := (HB.out.wb.ss.at (k := (T i).seam.toNat) (by omega)).1; rw [← HF.out] at g9) | (go_at_call 90; refine (span_ref _ _ _ _ (by omega)).mono ?_; rintro e w5 ⟨rfl, hb5⟩; replace HB := Lib.hid (HB.out.grow hb5); clear hb5; clear d0 d1 d2 t0 t1 t2 t3 t4 t5 t6 t7; have d0 := cellAt HB.out.wb.box 0; have d1 := cellAt HB.out.wb.box 1; have d2 := cellAt HB.out.wb.box 2; have t0 := cellAt HB.out.tb 0; have t1 := cellAt HB.out.tb 1; have t2 := cellAt HB.out.tb 2; have t3 := cellAt HB.out.tb 3; have t4 := cellAt HB.out.tb 4; have t5 := cellAt HB.out.tb 5; have t6 := cellAt HB.out.tb 6; have t7 := cellAt HB.out.tb 7; clear g9; have g9 := (HB.out.wb.ss.at (k := (T i).seam.toNat) (by omega)).1; rw [← HF.out] at g9))
                        go_ret
                        exact ⟨false, rfl, by simp [hnv.out], HB.out.wb.bel⟩
                    · have hnv := Lib.hid (show ¬ Valid cr k tn S T from fun h => by have := h.tick1 hlt2; simp [tickOk1, e3] at this)
                      go_wp2_with (first | (go_at_call 88; refine (in_any _ _ _ _).mono ?_; rintro e w' ⟨rfl, rfl⟩) | (go_at_call 53; refine (crew_ref _ _ _ _ _ _ _ _ _ (by omega) (by omega)).mono ?_; rintro e w5 ⟨rfl, hb5⟩; replace HB := Lib.hid (HB.out.grow hb5); clear hb5; clear d0 d1 d2 t0 t1 t2 t3 t4 t5 t6 t7; have d0 := cellAt HB.out.wb.box 0; have d1 := cellAt HB.out.wb.box 1; have d2 := cellAt HB.out.wb.box 2; have t0 := cellAt HB.out.tb 0; have t1 := cellAt HB.out.tb 1; have t2 := cellAt HB.out.tb 2; have t3 := cellAt HB.out.tb 3; have t4 := cellAt HB.out.tb 4; have t5 := cellAt HB.out.tb 5; have t6 := cellAt HB.out.tb 6; have t7 := cellAt HB.out.tb 7) | (go_at_call 52; refine (seam_ref _ _ _ _ _ _ _ _ _ (by unfold maxLen; omega)).mono ?_; rintro e w5 ⟨rfl, hb5⟩; replace HB := Lib.hid (HB.out.grow hb5); clear hb5; clear d0 d1 d2 t0 t1 t2 t3 t4 t5 t6 t7; have d0 := cellAt HB.out.wb.box 0; have d1 := cellAt HB.out.wb.box 1; have d2 := cellAt HB.out.wb.box 2; have t0 := cellAt HB.out.tb 0; have t1 := cellAt HB.out.tb 1; have t2 := cellAt HB.out.tb 2; have t3 := cellAt HB.out.tb 3; have t4 := cellAt HB.out.tb 4; have t5 := cellAt HB.out.tb 5; have t6 := cellAt HB.out.tb 6; have t7 := cellAt HB.out.tb 7) | (go_at_call 90; refine (span_ref _ _ _ _ (by omega)).mono ?_; rintro e w5 ⟨rfl, hb5⟩; replace HB := Lib.hid (HB.out.grow hb5); clear hb5; clear d0 d1 d2 t0 t1 t2 t3 t4 t5 t6 t7; have d0 := cellAt HB.out.wb.box 0; have d1 := cellAt HB.out.wb.box 1; have d2 := cellAt HB.out.wb.box 2; have t0 := cellAt HB.out.tb 0; have t1 := cellAt HB.out.tb 1; have t2 := cellAt HB.out.tb 2; have t3 := cellAt HB.out.tb 3; have t4 := cellAt HB.out.tb 4; have t5 := cellAt HB.out.tb 5; have t6 := cellAt HB.out.tb 6; have t7 := cellAt HB.out.tb 7))
                      go_ret
                      exact ⟨false, rfl, by simp [hnv.out], HB.out.wb.bel⟩
                  · have hnv := Lib.hid (show ¬ Valid cr k tn S T from fun h => by have := h.tick1 hlt2; simp [tickOk1, e2] at this)
                    go_wp2_with (first | (go_at_call 88; refine (in_any _ _ _ _).mono ?_; rintro e w' ⟨rfl, rfl⟩) | (go_at_call 53; refine (crew_ref _ _ _ _ _ _ _ _ _ (by omega) (by omega)).mono ?_; rintro e w5 ⟨rfl, hb5⟩; replace HB := Lib.hid (HB.out.grow hb5); clear hb5; clear d0 d1 d2 t0 t1 t2 t3 t4 t5 t6 t7; have d0 := cellAt HB.out.wb.box 0; have d1 := cellAt HB.out.wb.box 1; have d2 := cellAt HB.out.wb.box 2; have t0 := cellAt HB.out.tb 0; have t1 := cellAt HB.out.tb 1; have t2 := cellAt HB.out.tb 2; have t3 := cellAt HB.out.tb 3; have t4 := cellAt HB.out.tb 4; have t5 := cellAt HB.out.tb 5; have t6 := cellAt HB.out.tb 6; have t7 := cellAt HB.out.tb 7) | (go_at_call 52; refine (seam_ref _ _ _ _ _ _ _ _ _ (by unfold maxLen; omega)).mono ?_; rintro e w5 ⟨rfl, hb5⟩; replace HB := Lib.hid (HB.out.grow hb5); clear hb5; clear d0 d1 d2 t0 t1 t2 t3 t4 t5 t6 t7; have d0 := cellAt HB.out.wb.box 0; have d1 := cellAt HB.out.wb.box 1; have d2 := cellAt HB.out.wb.box 2; have t0 := cellAt HB.out.tb 0; have t1 := cellAt HB.out.tb 1; have t2 := cellAt HB.out.tb 2; have t3 := cellAt HB.out.tb 3; have t4 := cellAt HB.out.tb 4; have t5 := cellAt HB.out.tb 5; have t6 := cellAt HB.out.tb 6; have t7 := cellAt HB.out.tb 7) | (go_at_call 90; refine (span_ref _ _ _ _ (by omega)).mono ?_; rintro e w5 ⟨rfl, hb5⟩; replace HB := Lib.hid (HB.out.grow hb5); clear hb5; clear d0 d1 d2 t0 t1 t2 t3 t4 t5 t6 t7; have d0 := cellAt HB.out.wb.box 0; have d1 := cellAt HB.out.wb.box 1; have d2 := cellAt HB.out.wb.box 2; have t0 := cellAt HB.out.tb 0; have t1 := cellAt HB.out.tb 1; have t2 := cellAt HB.out.tb 2; have t3 := cellAt HB.out.tb 3; have t4 := cellAt HB.out.tb 4; have t5 := cellAt HB.out.tb 5; have t6 := cellAt HB.out.tb 6; have t7 := cellAt HB.out.tb 7))
                    go_ret
                    exact ⟨false, rfl, by simp [hnv.out], HB.out.wb.bel⟩
                · have hnv := Lib.hid (show ¬ Valid cr k tn S T from fun h => by have := h.tick1 hlt2; simp [tickOk1, e1] at this)
                  go_wp2_with (first | (go_at_call 88; refine (in_any _ _ _ _).mono ?_; rintro e w' ⟨rfl, rfl⟩) | (go_at_call 53; refine (crew_ref _ _ _ _ _ _ _ _ _ (by omega) (by omega)).mono ?_; rintro e w5 ⟨rfl, hb5⟩; replace HB := Lib.hid (HB.out.grow hb5); clear hb5; clear d0 d1 d2 t0 t1 t2 t3 t4 t5 t6 t7; have d0 := cellAt HB.out.wb.box 0; have d1 := cellAt HB.out.wb.box 1; have d2 := cellAt HB.out.wb.box 2; have t0 := cellAt HB.out.tb 0; have t1 := cellAt HB.out.tb 1; have t2 := cellAt HB.out.tb 2; have t3 := cellAt HB.out.tb 3; have t4 := cellAt HB.out.tb 4; have t5 := cellAt HB.out.tb 5; have t6 := cellAt HB.out.tb 6; have t7 := cellAt HB.out.tb 7) | (go_at_call 52; refine (seam_ref _ _ _ _ _ _ _ _ _ (by unfold maxLen; omega)).mono ?_; rintro e w5 ⟨rfl, hb5⟩; replace HB := Lib.hid (HB.out.grow hb5); clear hb5; clear d0 d1 d2 t0 t1 t2 t3 t4 t5 t6 t7; have d0 := cellAt HB.out.wb.box 0; have d1 := cellAt HB.out.wb.box 1; have d2 := cellAt HB.out.wb.box 2; have t0 := cellAt HB.out.tb 0; have t1 := cellAt HB.out.tb 1; have t2 := cellAt HB.out.tb 2; have t3 := cellAt HB.out.tb 3; have t4 := cellAt HB.out.tb 4; have t5 := cellAt HB.out.tb 5; have t6 := cellAt HB.out.tb 6; have t7 := cellAt HB.out.tb 7) | (go_at_call 90; refine (span_ref _ _ _ _ (by omega)).mono ?_; rintro e w5 ⟨rfl, hb5⟩; replace HB := Lib.hid (HB.out.grow hb5); clear hb5; clear d0 d1 d2 t0 t1 t2 t3 t4 t5 t6 t7; have d0 := cellAt HB.out.wb.box 0; have d1 := cellAt HB.out.wb.box 1; have d2 := cellAt HB.out.wb.box 2; have t0 := cellAt HB.out.tb 0; have t1 := cellAt HB.out.tb 1; have t2 := cellAt HB.out.tb 2; have t3 := cellAt HB.out.tb 3; have t4 := cellAt HB.out.tb 4; have t5 := cellAt HB.out.tb 5; have t6 := cellAt HB.out.tb 6; have t7 := cellAt HB.out.tb 7))
                  go_ret
                  exact ⟨false, rfl, by simp [hnv.out], HB.out.wb.bel⟩
              · obtain rfl : i = tn := by omega
                have hv := Lib.hid (show Valid cr k i S T from valid_of c1 (by omega) (by omega) HO.out HO2.out)
                have b2 := cellAt HI.out.box 2
                simp only [List.getElem?_toArray, List.getElem?_cons_zero, List.getElem?_cons_succ] at b2
                go_wp2_with fail
                go_ret
                exact ⟨true, rfl, by simp [hv.out], HI.out.bel⟩
      · have h3' : (6 : Int) < tn := by omega
        have hnv := Lib.hid (show ¬ Valid cr sn tn S T from fun h => by have := h.tn6; omega)
        go_enter Try.func37, Try.ntmps37
        go_wp2_with (go_at_call 88; refine (in_any _ _ _ _).mono ?_; rintro e w' ⟨rfl, rfl⟩)
        go_ret
        exact ⟨false, rfl, by simp [hnv.out], I0.out.bel⟩
    · have h2' : (3 : Int) < sn := by omega
      have hnv := Lib.hid (show ¬ Valid cr sn tn S T from fun h => by have := h.sn3; omega)
      go_enter Try.func37, Try.ntmps37
      go_wp2_with (go_at_call 88; refine (in_any _ _ _ _).mono ?_; rintro e w' ⟨rfl, rfl⟩)
      go_ret
      exact ⟨false, rfl, by simp [hnv.out], I0.out.bel⟩
  · have hnv := Lib.hid (show ¬ Valid cr sn tn S T from fun h => by have := inB_iff.2 ⟨h.cr0, h.cr1⟩; rw [c1] at this; cases this)
    go_enter Try.func37, Try.ntmps37
    go_wp2_with (go_at_call 88; refine (in_any _ _ _ _).mono ?_; rintro e w' ⟨rfl, rfl⟩)
    go_ret
    exact ⟨false, rfl, by simp [hnv.out], I0.out.bel⟩
end Go.Proofs.Ytbpeamppkdmdcaa

namespace Go.Proofs.Ytbpeamppkdmdcaa
open Go.RowKit

def farB (sn tn : Nat) : Bool := decide (40 < sn) || decide (40 < tn)

def FarR (w : World) (sn tn : Nat) (m i : Value) (wr : World) : Prop :=
  ∃ x : Nat, m = .int .i64 x ∧ i = .int .i64 0 ∧ (40 < x ↔ 40 < sn ∨ 40 < tn) ∧ Below w.heap.size w wr

set_option maxRecDepth 100000 in
set_option maxHeartbeats 1000000 in
theorem far_nil (cr : Int) (sa ta : Option Addr) (sn sc tn tc : Nat) (w : World) (hs : sn ≤ maxLen) (ht : tn ≤ maxLen) :
    Calls Try.prog 36 #[.agg #[.int .i64 cr, .slice sa sn sc, .slice ta tn tc], .slice none 0 0] w fun e w' => e = .returned (.bool (farB sn tn)) ∧ Below w.heap.size w w' := by
  unfold maxLen at hs ht
  by_cases h : sn < tn
  all_goals
    go_enter Try.func36, Try.ntmps36
    go_wp2
    go_loopw [5, 17] (FarR w sn tn) (fun _ _ _ => 0)
    case atStart => exact ⟨_, rfl, rfl, by omega, (Below.refl _ _).alloc (Nat.le_refl _) _⟩
    case round =>
      obtain ⟨x, rfl, rfl, hx, hb⟩ := hrel
      have HX := Lib.hid hx
      clear hx
      go_wp2
      go_ret
      refine ⟨ret_bool ?_, hb⟩
      have := HX.out
      rw [Bool.eq_iff_iff]
      simp only [farB, Bool.or_eq_true, decide_eq_true_eq]
      omega

set_option maxRecDepth 100000 in
set_option maxHeartbeats 1000000 in
theorem fine_any (cr : Int) (sa ta : Option Addr) (sn sc tn tc : Nat) (S : Nat → Sm) (T : Nat → Tk) (w : World) (hS : SeamsAt w sa sn S) (hT : TicketsAt w ta tn T) :
    Calls Try.prog 32 #[.agg #[.int .i64 cr, .slice sa sn sc, .slice ta tn tc]] w (WPost w (Valid cr sn tn S T)) := by
  have nsl := hS.small
  have ntl := hT.small
  have I0 := Lib.hid (WB.new (cr := cr) (sc := sc) (tc := tc) hS hT)
  have hf : farB sn tn = true ∨ farB sn tn = false := by cases farB sn tn <;> simp
  rcases hf with hf | hf
  · have hnv := Lib.hid (show ¬ Valid cr sn tn S T from fun h => by have := h.sn3; have := h.tn6; simp [farB] at hf; omega)
    go_enter Try.func32, Try.ntmps32
    go_wp2_with (go_at_call 36; refine (far_nil _ _ _ _ _ _ _ _ nsl ntl).mono ?_; rintro e w1 ⟨rfl, hb⟩)
    go_ret
    exact ⟨false, rfl, by simp [hnv.out], (I0.out.grow hb).bel⟩
  · go_enter Try.func32, Try.ntmps32
    go_wp2_with (first | (go_at_call 36; refine (far_nil _ _ _ _ _ _ _ _ nsl ntl).mono ?_; rintro e w1 ⟨rfl, hb⟩; have I1 := Lib.hid (I0.out.grow hb); clear hb; have d0 := cellAt I1.out.box 0; have d1 := cellAt I1.out.box 1; have d2 := cellAt I1.out.box 2) | (go_at_call 37; refine (wages_ref _ _ _ _ _ _ _ S T _ I1.out.ss I1.out.tt).mono ?_; rintro e w2 ⟨b, rfl, hv, hb2⟩; have HV := Lib.hid hv; clear hv))
    go_ret
    exact ⟨b, rfl, HV.out, I1.out.bel.next hb2⟩
end Go.Proofs.Ytbpeamppkdmdcaa

namespace Go.Proofs.Ytbpeamppkdmdcaa
open Go.RowKit

def atOf (K : Nat → Kn) : Option Nat → Int
  | none => 0
  | some b => (K b).td

structure OB (w : World) (cr : Int) (sa ta : Option Addr) (sn sc tn tc : Nat) (S : Nat → Sm) (T : Nat → Tk) (b : Nat) (oa ob oc : Option Addr) (f t d : Nat → Int) (wr : World) : Prop where
  wb : WB w cr sa ta sn sc tn tc S T b wr
  f : IntsAt wr oa tn f
  t : IntsAt wr ob tn t
  d : IntsAt wr oc tn d
theorem OB.grow {w : World} {cr : Int} {sa ta : Option Addr} {sn sc tn tc : Nat} {S : Nat → Sm} {T : Nat → Tk} {b : Nat} {oa ob oc : Option Addr} {f t d : Nat → Int} {w1 w2 : World} (h : OB w cr sa ta sn sc tn tc S T b oa ob oc f t d w1) (hb : Below w1.heap.size w1 w2) : OB w cr sa ta sn sc tn tc S T b oa ob oc f t d w2 :=
  ⟨h.wb.grow hb, h.f.grow hb, h.t.grow hb, h.d.grow hb⟩
def OR (w : World) (cr : Int) (sa ta : Option Addr) (sn sc tn tc : Nat) (S : Nat → Sm) (T : Nat → Tk) (oa ob oc : Option Addr) (f t d : Nat → Int) (s : Int) (fm : Nat) (o a i : Value) (wr : World) : Prop :=
  ∃ k : Nat, k ≤ tn ∧ i = .int .i64 k ∧ o = .int .i64 (crewOf T (best T (toldK f t d) s fm k)) ∧ a = .int .i64 (atOf (toldK f t d) (best T (toldK f t d) s fm k)) ∧ OB w cr sa ta sn sc tn tc S T w.heap.size oa ob oc f t d wr

theorem best_lt {T : Nat → Tk} {K : Nat → Kn} {s : Int} {fm : Nat} {n b : Nat} (h : best T K s fm n = some b) : b < n := by
  have := best_isFirst T K s fm n
  rw [h] at this
  exact this.1

set_option maxRecDepth 100000 in
set_option maxHeartbeats 4000000 in
theorem owner_any (cr : Int) (sa ta : Option Addr) (sn sc tn tc : Nat) (S : Nat → Sm) (T : Nat → Tk) (oa ob oc : Option Addr) (fc ec dc : Nat) (f t d : Nat → Int) (s : Int) (fm : Nat) (w : World) (hS : SeamsAt w sa sn S) (hT : TicketsAt w ta tn T) (hf : IntsAt w oa tn f) (ht : IntsAt w ob tn t) (hd : IntsAt w oc tn d) (hc : ∀ i, i < tn → 0 ≤ (T i).crew) (ht6 : tn ≤ 1000) :
    Calls Try.prog 34 #[.agg #[.int .i64 cr, .slice sa sn sc, .slice ta tn tc], .slice oa tn fc, .slice ob tn ec, .slice oc tn dc, .int .i64 s, .int .i64 fm] w
      fun e w' => e = .returned (.int .i64 (ownerOf T (toldK f t d) tn s fm)) ∧ Below w.heap.size w w' := by
  have I0 := Lib.hid (show OB w cr sa ta sn sc tn tc S T w.heap.size oa ob oc f t d _ from ⟨WB.new (cr := cr) (sc := sc) (tc := tc) hS hT, hf.grow (WB.new (cr := cr) (sc := sc) (tc := tc) hS hT).bel, ht.grow (WB.new (cr := cr) (sc := sc) (tc := tc) hS hT).bel, hd.grow (WB.new (cr := cr) (sc := sc) (tc := tc) hS hT).bel⟩)
  have HC := Lib.hid hc
  clear hS hT hf ht hd hc
  go_enter Try.func34, Try.ntmps34
  go_wp2_with fail
  generalize hW : World.alloc _ _ = W at *
  clear hW
  go_loopw [13, 14, 20] (OR w cr sa ta sn sc tn tc S T oa ob oc f t d s fm) (fun _ _ i _ => tn - (intOf i).toNat)
  case atStart => exact ⟨0, Nat.zero_le _, rfl, rfl, rfl, I0.out⟩
  case round =>
    clear I0
    obtain ⟨k, hk, rfl, rfl, rfl, hinv⟩ := hrel
    have HI := Lib.hid hinv
    clear hinv
    obtain ⟨B, hB⟩ : ∃ B, B = best T (toldK f t d) s fm k := ⟨_, rfl⟩
    have hbn : (B = none ∧ crewOf T B < 0) ∨ ∃ b, B = some b ∧ 0 ≤ crewOf T B := by
      cases h : B with
      | none => exact .inl ⟨rfl, by simp [crewOf]⟩
      | some b => exact .inr ⟨b, rfl, HC.out b (by have := best_lt (hB.symm.trans h); omega)⟩
    have HB := Lib.hid hB
    have HBN := Lib.hid hbn
    rw [← hB]
    clear hB hbn
    by_cases hlt : k < tn
    · have hi := fun w => run_indexAt_row (w := w) (cap := tc) Try.underlying23 size58 (HI.out.wb.tt.plain (by omega)) hlt
      have hi1 := fun w => run_indexAt_row (w := w) (cap := fc) Try.underlying37 size3 (HI.out.f.plain (by omega)) hlt
      have hi2 := fun w => run_indexAt_row (w := w) (cap := ec) Try.underlying37 size3 (HI.out.t.plain (by omega)) hlt
      have hi3 := fun w => run_indexAt_row (w := w) (cap := dc) Try.underlying37 size3 (HI.out.d.plain (by omega)) hlt
      obtain ⟨k0, k1, k2, k3, k4, k5, k6, k7⟩ := HI.out.wb.tt.at hlt
      have IA := Lib.hid (HI.out.grow ((Below.refl _ _).alloc (Nat.le_refl _) (.cells #[.int .i64 (T k).crew, .int .i64 (T k).seam, .int .i64 (T k).fl, .int .i64 (T k).fh, .int .i64 (T k).tl, .int .i64 (T k).th, .int .i64 (T k).dl, .int .i64 (T k).dh] 58)))
      have c1 := IA.out.f.at hlt
      have c2 := IA.out.t.at hlt
      have c3 := IA.out.d.at hlt
      simp only [Nat.mul_one] at hi1 hi2 hi3
      obtain ⟨C, hC⟩ : ∃ C, C = crewOf T B := ⟨_, rfl⟩
      obtain ⟨A, hA⟩ : ∃ A, A = atOf (toldK f t d) B := ⟨_, rfl⟩
      rw [← hC, ← hA]
      have HCC := Lib.hid hC
      have HA := Lib.hid hA
      clear hC hA
      -- what the next one is
      have hstep : ∀ b : Bool, (hasB T (toldK f t d) s fm k = b) → (b = false → best T (toldK f t d) s fm (k + 1) = B) ∧ (b = true → C < 0 → best T (toldK f t d) s fm (k + 1) = some k) ∧ (b = true → 0 ≤ C → d k < A → best T (toldK f t d) s fm (k + 1) = some k) ∧ (b = true → 0 ≤ C → ¬ d k < A → best T (toldK f t d) s fm (k + 1) = B) := by
        intro b hb
        have e1 := HB.out
        have e2 := HCC.out
        have e3 := HA.out
        have e4 := HBN.out
        have hu : best T (toldK f t d) s fm (k + 1) = match best T (toldK f t d) s fm k with | none => if hasB T (toldK f t d) s fm k then some k else none | some b => if hasB T (toldK f t d) s fm k && decide ((toldK f t d k).td < (toldK f t d b).td) then some k else some b := rfl
        rw [hu, ← e1, hb]
        rw [← e2] at e4
        rcases e4 with ⟨h1, h2⟩ | ⟨b', h1, h2⟩
        · rw [h1]
          refine ⟨fun h => by simp [h], fun h _ => by simp [h], fun _ h => by omega, fun _ h => by omega⟩
        · rw [h1] at e3 ⊢
          have e5 : A = (toldK f t d b').td := e3
          rw [e5]
          refine ⟨fun h => by simp [h], fun _ h => by omega, fun h _ h3 => ?_, fun h _ h3 => ?_⟩
          · have : (toldK f t d k).td < (toldK f t d b').td := h3
            simp [h, this]
          · have : ¬ (toldK f t d k).td < (toldK f t d b').td := h3
            simp [h, this]
      have HST := Lib.hid hstep
      clear hstep
      have q1 : ((T k).seam == s) = true ∧ (T k).seam = s ∨ ((T k).seam == s) = false ∧ ¬ (T k).seam = s := by by_cases h : (T k).seam = s <;> simp [h]
      rcases q1 with ⟨q1, q1'⟩ | ⟨q1, q1'⟩
      · have Q1 := Lib.hid q1'
        clear q1'
        by_cases q2 : f k ≤ fm
        · by_cases q3 : (fm : Int) < t k
          · have HY := Lib.hid (show hasB T (toldK f t d) s fm k = true by simp [hasB, toldK, Q1.out, q2, q3])
            by_cases q4 : C < 0
            · skip
              have E := Lib.hid (show best T (toldK f t d) s fm (k + 1) = some k from (HST.out true HY.out).2.1 rfl q4)
              go_wp2_with fail
              go_quiet (fail)
              go_wp2_with fail
              exact ⟨⟨k + 1, hlt, by go_num, by rw [E.out]; rfl, by rw [E.out]; rfl, IA.out.grow (below_drewN (Below.refl _ _) _)⟩, by simp [intOf]; omega⟩
            · by_cases q5 : d k < A
              · skip
                have E := Lib.hid (show best T (toldK f t d) s fm (k + 1) = some k from (HST.out true HY.out).2.2.1 rfl (by omega) q5)
                go_wp2_with fail
                go_quiet (fail)
                go_wp2_with fail
                exact ⟨⟨k + 1, hlt, by go_num, by rw [E.out]; rfl, by rw [E.out]; rfl, IA.out.grow (below_drewN (Below.refl _ _) _)⟩, by simp [intOf]; omega⟩
              · skip
                have E := Lib.hid (show best T (toldK f t d) s fm (k + 1) = B from (HST.out true HY.out).2.2.2 rfl (by omega) q5)
                go_wp2_with fail
                exact ⟨⟨k + 1, hlt, by go_num, by rw [E.out, HCC.out], by rw [E.out, HA.out], IA.out⟩, by simp [intOf]; omega⟩
          · skip
            have E := Lib.hid (show best T (toldK f t d) s fm (k + 1) = B from (HST.out false (by simp [hasB, toldK, q3])).1 rfl)
            go_wp2_with fail
            exact ⟨⟨k + 1, hlt, by go_num, by rw [E.out, HCC.out], by rw [E.out, HA.out], IA.out⟩, by simp [intOf]; omega⟩
        · skip
          have E := Lib.hid (show best T (toldK f t d) s fm (k + 1) = B from (HST.out false (by simp [hasB, toldK, q2])).1 rfl)
          go_wp2_with fail
          exact ⟨⟨k + 1, hlt, by go_num, by rw [E.out, HCC.out], by rw [E.out, HA.out], IA.out⟩, by simp [intOf]; omega⟩
      · have Q1 := Lib.hid q1'
        clear q1'
        have E := Lib.hid (show best T (toldK f t d) s fm (k + 1) = B from (HST.out false (by simp [hasB, Q1.out])).1 rfl)
        go_wp2_with fail
        exact ⟨⟨k + 1, hlt, by go_num, by rw [E.out, HCC.out], by rw [E.out, HA.out], IA.out⟩, by simp [intOf]; omega⟩
    · obtain rfl : k = tn := by omega
      go_wp2_with fail
      go_ret
      exact ⟨by rw [HB.out]; rfl, HI.out.wb.bel⟩
end Go.Proofs.Ytbpeamppkdmdcaa

namespace Go.Proofs.Ytbpeamppkdmdcaa
open Go.RowKit

/-- L gives crew c no less than K does: its own tickets have as much, as early; all others as little, as late. -/
def Favor (c : Int) (T : Nat → Tk) (tn : Nat) (K L : Nat → Kn) : Prop :=
  ∀ i, i < tn → ((T i).crew = c → (L i).fr ≤ (K i).fr ∧ (K i).to ≤ (L i).to ∧ (L i).td ≤ (K i).td) ∧ ((T i).crew ≠ c → (K i).fr ≤ (L i).fr ∧ (L i).to ≤ (K i).to ∧ (K i).td ≤ (L i).td)

theorem hasB_iff {T : Nat → Tk} {K : Nat → Kn} {s : Int} {f i : Nat} : hasB T K s f i = true ↔ (T i).seam = s ∧ (K i).fr ≤ f ∧ (f : Int) < (K i).to := by simp [hasB, and_assoc]
theorem best_first (T : Nat → Tk) (K : Nat → Kn) (s : Int) (f n : Nat) : IsFirst T K s f n (best T K s f n) := best_isFirst T K s f n

theorem owner_favor {c : Int} {T : Nat → Tk} {tn : Nat} {K L : Nat → Kn} (h : Favor c T tn K L) (hc : ∀ i, i < tn → 0 ≤ (T i).crew) (s : Int) (f : Nat) (ho : ownerOf T K tn s f = c) : ownerOf T L tn s f = c := by
  have hK := best_first T K s f tn
  have hL := best_first T L s f tn
  unfold ownerOf at ho ⊢
  cases hk : best T K s f tn with
  | none =>
    rw [hk] at hK ho
    cases hl : best T L s f tn with
    | none => exact ho
    | some j =>
      exfalso
      rw [hl] at hL
      obtain ⟨hj, hh, _⟩ := hL
      have hne : (T j).crew ≠ c := by have := hc j hj; simp only [crewOf] at ho; omega
      have h2 := (h j hj).2 hne
      rw [hasB_iff] at hh
      have := hK j hj
      rw [show hasB T K s f j = true from hasB_iff.2 ⟨hh.1, by omega, by omega⟩] at this
      cases this
  | some i =>
    rw [hk] at hK ho
    obtain ⟨hi, hh, hfirst⟩ := hK
    simp only [crewOf] at ho
    have h1 := (h i hi).1 ho
    rw [hasB_iff] at hh
    have hiL : hasB T L s f i = true := hasB_iff.2 ⟨hh.1, by omega, by omega⟩
    cases hl : best T L s f tn with
    | none =>
      rw [hl] at hL
      have := hL i hi
      rw [hiL] at this
      cases this
    | some j =>
      rw [hl] at hL
      obtain ⟨hj, hhj, hlast⟩ := hL
      simp only [crewOf]
      by_cases hcj : (T j).crew = c
      · exact hcj
      · exfalso
        have h2 := (h j hj).2 hcj
        rw [hasB_iff] at hhj
        have hjK : hasB T K s f j = true := hasB_iff.2 ⟨hhj.1, by omega, by omega⟩
        have g1 := hfirst j hj hjK
        have g2 := hlast i hi hiL
        unfold lexlt at g1 g2
        have hne : i ≠ j := fun e => hcj (by rw [← e]; exact ho)
        simp only at g1 g2
        omega

theorem cntP_imp {p q : Nat → Bool} : ∀ n, (∀ i, i < n → p i = true → q i = true) → cntP p n ≤ cntP q n
  | 0, _ => Nat.le_refl _
  | n + 1, h => by
    have := cntP_imp n (fun i hi => h i (by omega))
    have h1 := h n (by omega)
    simp only [cntP]
    by_cases e : p n = true
    · rw [if_pos e, if_pos (h1 e)]; omega
    · rw [if_neg e]; split <;> omega
theorem many_favor {c : Int} {S : Nat → Sm} {T : Nat → Tk} {tn : Nat} {K L : Nat → Kn} (h : Favor c T tn K L) (hc : ∀ i, i < tn → 0 ≤ (T i).crew) (s : Int) : manyOf S T K tn s c ≤ manyOf S T L tn s c :=
  cntP_imp _ fun f _ hf => by
    simp only [decide_eq_true_eq] at hf ⊢
    exact owner_favor h hc s f hf
theorem sumF_mono {F G : Nat → Int} : ∀ n, (∀ k, k < n → F k ≤ G k) → sumF F n ≤ sumF G n
  | 0, _ => Int.le_refl _
  | n + 1, h => by
    have := sumF_mono n (fun k hk => h k (by omega))
    have := h n (by omega)
    simp only [sumF]
    omega
theorem coins_favor {c : Int} {S : Nat → Sm} {T : Nat → Tk} {sn tn : Nat} {K L : Nat → Kn} (h : Favor c T tn K L) (hc : ∀ i, i < tn → 0 ≤ (T i).crew) (hr : ∀ j, j < sn → 0 ≤ (S j).rate) : coinsOf S T K sn tn c ≤ coinsOf S T L sn tn c :=
  sumF_mono sn fun j hj => Int.mul_le_mul_of_nonneg_right (by have := many_favor (S := S) h hc (j : Int); omega) (hr j hj)

/-- A truth: each ticket is one of what it can be. -/
def TruthOf (T : Nat → Tk) (tn : Nat) (K : Nat → Kn) : Prop := ∀ i, i < tn → InT (T i) (K i)
theorem favor_most {c : Int} {T : Nat → Tk} {tn : Nat} {K : Nat → Kn} (h : TruthOf T tn K) : Favor c T tn K (mostK c T) := fun i hi => by
  have := h i hi
  unfold InT at this
  unfold mostK
  constructor
  · intro e; simp only [if_pos e]; omega
  · intro e; simp only [if_neg e]; omega
theorem favor_least {c : Int} {T : Nat → Tk} {tn : Nat} {K : Nat → Kn} (h : TruthOf T tn K) : Favor c T tn (leastK c T) K := fun i hi => by
  have := h i hi
  unfold InT at this
  unfold leastK
  constructor
  · intro e; simp only [if_pos e]; omega
  · intro e; simp only [if_neg e]; omega
theorem truth_mostK {cr : Int} {sn tn : Nat} {S : Nat → Sm} {T : Nat → Tk} (hv : Valid cr sn tn S T) (c : Int) : TruthOf T tn (mostK c T) := fun i hi => by
  have := hv.spans hi
  unfold InT mostK
  by_cases e : (T i).crew = c
  · simp only [if_pos e]; omega
  · simp only [if_neg e]; omega
theorem truth_leastK {cr : Int} {sn tn : Nat} {S : Nat → Sm} {T : Nat → Tk} (hv : Valid cr sn tn S T) (c : Int) : TruthOf T tn (leastK c T) := fun i hi => by
  have := hv.spans hi
  unfold InT leastK
  by_cases e : (T i).crew = c
  · simp only [if_pos e]; omega
  · simp only [if_neg e]; omega
theorem Valid.crews {cr : Int} {sn tn : Nat} {S : Nat → Sm} {T : Nat → Tk} (hv : Valid cr sn tn S T) : ∀ i, i < tn → 0 ≤ (T i).crew := fun i hi => (hv.tk i hi).1
theorem Valid.rates {cr : Int} {sn tn : Nat} {S : Nat → Sm} {T : Nat → Tk} (hv : Valid cr sn tn S T) : ∀ j, j < sn → 0 ≤ (S j).rate := fun j hj => (hv.rate j hj).1
theorem spread_nn {cr : Int} {sn tn : Nat} {S : Nat → Sm} {T : Nat → Tk} (hv : Valid cr sn tn S T) (c : Int) : 0 ≤ spreadOf S T sn tn c := by
  have := coins_favor (S := S) (sn := sn) (favor_most (c := c) (truth_leastK hv c)) hv.crews hv.rates
  unfold spreadOf
  omega

/-- Owners hang on crews and seams of the tickets alone. -/
theorem owner_same {T T' : Nat → Tk} {K : Nat → Kn} {tn : Nat} (h : ∀ i, (T' i).crew = (T i).crew ∧ (T' i).seam = (T i).seam) (s : Int) (f : Nat) : ownerOf T' K tn s f = ownerOf T K tn s f := by
  have hb : ∀ i, hasB T' K s f i = hasB T K s f i := fun i => by simp [hasB, (h i).2]
  have e : ∀ n, best T' K s f n = best T K s f n := by
    intro n
    induction n with
    | zero => rfl
    | succ n ih => unfold best; rw [ih, hb]
  unfold ownerOf
  rw [e]
  cases best T K s f tn with
  | none => rfl
  | some i => exact (h i).1
theorem coins_same {T T' : Nat → Tk} {K : Nat → Kn} {S : Nat → Sm} {sn tn : Nat} (h : ∀ i, (T' i).crew = (T i).crew ∧ (T' i).seam = (T i).seam) (c : Int) : coinsOf S T' K sn tn c = coinsOf S T K sn tn c := by
  unfold coinsOf manyOf
  simp only [owner_same h]
theorem upd_same (T : Nat → Tk) (n : Nat) (k : Kn) : ∀ i, (updT T n ((T n).exact k) i).crew = (T i).crew ∧ (updT T n ((T n).exact k) i).seam = (T i).seam := fun i => by
  unfold updT
  split
  · rename_i e; subst e; exact ⟨rfl, rfl⟩
  · exact ⟨rfl, rfl⟩
theorem truth_fix {T : Nat → Tk} {tn n : Nat} {k : Kn} {K : Nat → Kn} (hn : n < tn) (hk : InT (T n) k) (h : TruthOf (updT T n ((T n).exact k)) tn K) : TruthOf T tn K := fun i hi => by
  have := h i hi
  unfold updT at this
  by_cases e : i = n
  · subst e
    rw [if_pos rfl] at this
    unfold InT Tk.exact at this
    unfold InT at hk ⊢
    simp only at this
    omega
  · rw [if_neg e] at this; exact this
/-- What is known better is told no less exactly. -/
theorem spread_fix {cr : Int} {sn tn : Nat} {S : Nat → Sm} {T : Nat → Tk} (hv : Valid cr sn tn S T) (c : Int) {n : Nat} (hn : n < tn) {k : Kn} (hk : InT (T n) k) : spreadOf S (updT T n ((T n).exact k)) sn tn c ≤ spreadOf S T sn tn c := by
  have hv' := hv.fix hn hk
  have h1 := coins_favor (S := S) (sn := sn) (favor_most (c := c) (truth_fix hn hk (truth_mostK hv' c))) hv.crews hv.rates
  have h2 := coins_favor (S := S) (sn := sn) (favor_least (c := c) (truth_fix hn hk (truth_leastK hv' c))) hv.crews hv.rates
  unfold spreadOf
  rw [coins_same (upd_same T n k), coins_same (upd_same T n k)]
  omega
end Go.Proofs.Ytbpeamppkdmdcaa

namespace Go.Proofs.Ytbpeamppkdmdcaa
open Go.RowKit

theorem few_min (g : Nat → Int) : ∀ n, 0 < n → fewI g n < n ∧ (∀ k, k < n → g (fewI g n) ≤ g k) ∧ ∀ k, k < fewI g n → g (fewI g n) < g k
  | 0, h => by omega
  | n + 1, _ => by
    rcases Nat.eq_zero_or_pos n with rfl | hn
    · simp only [fewI, true_or, if_true]
      exact ⟨by omega, fun k hk => by obtain rfl : k = 0 := by omega
                                      exact Int.le_refl _, fun k hk => by omega⟩
    · obtain ⟨h1, h2, h3⟩ := few_min g n hn
      by_cases h : g n < g (fewI g n)
      · have e : fewI g (n + 1) = n := by unfold fewI; rw [if_pos (.inr h)]
        rw [e]
        refine ⟨by omega, fun k hk => ?_, fun k hk => ?_⟩
        · rcases Nat.lt_or_ge k n with hk' | hk'
          · have := h2 k hk'; omega
          · obtain rfl : k = n := by omega
            exact Int.le_refl _
        · have := h2 k hk; omega
      · have e : fewI g (n + 1) = fewI g n := by rw [fewI, if_neg (by omega)]
        rw [e]
        refine ⟨by omega, fun k hk => ?_, h3⟩
        rcases Nat.lt_or_ge k n with hk' | hk'
        · exact h2 k hk'
        · obtain rfl : k = n := by omega
          omega
theorem foldmax_ge {α : Type} (f : α → Int) : ∀ (l : List α) (z : Int), z ≤ l.foldl (fun m k => max m (f k)) z
  | [], z => Int.le_refl _
  | k :: l, z => by have := foldmax_ge f l (max z (f k)); simp only [List.foldl_cons]; omega
theorem foldmax_le {α : Type} (f : α → Int) (b : Int) : ∀ (l : List α) (z : Int), z ≤ b → (∀ k ∈ l, f k ≤ b) → l.foldl (fun m k => max m (f k)) z ≤ b
  | [], z, h, _ => h
  | k :: l, z, h, hl => foldmax_le f b l _ (by show max z (f k) ≤ b; have := hl k List.mem_cons_self; omega) fun x hx => hl x (List.mem_cons_of_mem _ hx)
theorem wide_nn (S : Nat → Sm) (T : Nat → Tk) (sn tn : Nat) (c : Int) (n : Nat) : 0 ≤ wideOf S T sn tn c n := foldmax_ge _ _ _
theorem wide_le {cr : Int} {sn tn : Nat} {S : Nat → Sm} {T : Nat → Tk} (hv : Valid cr sn tn S T) (c : Int) {n : Nat} (hn : n < tn) : wideOf S T sn tn c n ≤ spreadOf S T sn tn c :=
  foldmax_le _ _ _ _ (spread_nn hv c) fun _ hk => spread_fix hv c hn (mem_canL hk)
theorem spread_none (S : Nat → Sm) (T : Nat → Tk) (sn : Nat) (c : Int) : spreadOf S T sn 0 c = 0 := by
  unfold spreadOf
  have e : ∀ K L, coinsOf S T K sn 0 c = coinsOf S T L sn 0 c := fun K L => rfl
  rw [e (mostK c T) (leastK c T)]
  omega
theorem fewV_eq (g : Nat → Int) {n : Nat} (h : 0 < n) : fewV g n = g (fewI g n) := by unfold fewV; rw [if_neg (by omega)]
end Go.Proofs.Ytbpeamppkdmdcaa

namespace Go.Proofs.Ytbpeamppkdmdcaa
open Go.RowKit

theorem setN_bit (T : Nat → Tk) (tn : Nat) (s : Int) (f : Nat) : ∀ n c, (setN T tn s f n).testBit c = (decide (c < n) && canN T tn (c : Int) s f tn)
  | 0, c => by simp [setN]
  | n + 1, c => by
    have ih := setN_bit T tn s f n c
    simp only [setN]
    by_cases e : c = n
    · subst e
      have h0 : (setN T tn s f c).testBit c = false := by rw [ih]; simp
      split
      · rename_i h; rw [Nat.testBit_or, h0, Nat.testBit_two_pow_self]; simp [h]
      · rename_i h; rw [h0]; simp [h]
    · have h1 : decide (c < n + 1) = decide (c < n) := by rw [decide_eq_decide]; omega
      split
      · rw [Nat.testBit_or, ih, Nat.testBit_two_pow_of_ne (by omega), h1, Bool.or_false]
      · rw [ih, h1]

theorem canN_iff {T : Nat → Tk} {tn : Nat} {c s : Int} {f n : Nat} : canN T tn c s f n = true ↔ ∃ i, i < n ∧ canBy T tn c s f i = true := by
  simp [canN, List.any_eq_true]

theorem canBy_iff {T : Nat → Tk} {tn : Nat} {c s : Int} {f i : Nat} : canBy T tn c s f i = true ↔ (T i).crew = c ∧ hasB T (mostK c T) s f i = true ∧ ∀ k, k < tn → beats T c s f i k = false := by
  simp [canBy, and_assoc]

theorem can_owner {T : Nat → Tk} {tn : Nat} {c s : Int} {f : Nat} (hc : 0 ≤ c) : canN T tn c s f tn = true ↔ ownerOf T (mostK c T) tn s f = c := by
  have hb := best_first T (mostK c T) s f tn
  rw [canN_iff]
  unfold ownerOf
  constructor
  · rintro ⟨i, hi, hcan⟩
    obtain ⟨h1, h2, h3⟩ := canBy_iff.1 hcan
    cases hk : best T (mostK c T) s f tn with
    | none =>
      rw [hk] at hb
      have := hb i hi
      rw [h2] at this
      cases this
    | some b =>
      rw [hk] at hb
      obtain ⟨hbn, hbh, hbf⟩ := hb
      simp only [crewOf]
      by_cases e : (T b).crew = c
      · exact e
      · exfalso
        have h4 := h3 b hbn
        have h5 := hbf i hi h2
        have hne : i ≠ b := fun x => e (by rw [← x]; exact h1)
        have hdl : (mostK c T i).td = (T i).dl := by simp [mostK, h1]
        unfold lexlt at h5
        simp only at h5
        rw [hdl] at h5
        simp only [beats, hbh, Bool.and_true, Bool.and_eq_false_iff, Bool.or_eq_false_iff, decide_eq_false_iff_not] at h4
        rcases h4 with h4 | ⟨h6, h7 | h7⟩
        · exact h4 e
        · omega
        · omega
  · intro h
    cases hk : best T (mostK c T) s f tn with
    | none => rw [hk] at h; simp only [crewOf] at h; omega
    | some b =>
      rw [hk] at hb h
      obtain ⟨hbn, hbh, hbf⟩ := hb
      simp only [crewOf] at h
      refine ⟨b, hbn, canBy_iff.2 ⟨h, hbh, fun k hk => ?_⟩⟩
      cases hbe : beats T c s f b k with
      | false => rfl
      | true =>
        exfalso
        simp only [beats, Bool.and_eq_true, Bool.or_eq_true, decide_eq_true_eq] at hbe
        obtain ⟨⟨h1, h2⟩, h3⟩ := hbe
        have h5 := hbf k hk h2
        have hdl : (mostK c T b).td = (T b).dl := by simp [mostK, h]
        unfold lexlt at h5
        simp only at h5
        rw [hdl] at h5
        have hne : k ≠ b := fun x => h1 (by rw [x]; exact h)
        omega

/-- The bit of a crew. -/
theorem setN_owner {T : Nat → Tk} {tn : Nat} {s : Int} {f n c : Nat} (hc : c < n) : (setN T tn s f n).testBit c = decide (ownerOf T (mostK c T) tn s f = c) := by
  rw [setN_bit, decide_eq_true hc, Bool.true_and, Bool.eq_iff_iff, can_owner (by omega), decide_eq_true_iff]

theorem best_congr {T : Nat → Tk} {K L : Nat → Kn} {s : Int} {f : Nat} : ∀ n, (∀ i, i < n → K i = L i) → best T K s f n = best T L s f n
  | 0, _ => rfl
  | n + 1, h => by
    have ih := best_congr (T := T) (s := s) (f := f) n (fun i hi => h i (by omega))
    unfold best
    rw [ih]
    have hh : hasB T K s f n = hasB T L s f n := by unfold hasB; rw [h n (by omega)]
    rw [hh, h n (by omega)]
    cases hb : best T L s f n with
    | none => rfl
    | some b =>
      have hlt : b < n := by
        have := best_isFirst T L s f n
        rw [hb] at this
        exact this.1
      simp only
      rw [h b (by omega)]
theorem owner_congr {T : Nat → Tk} {K L : Nat → Kn} {s : Int} {f n : Nat} (h : ∀ i, i < n → K i = L i) : ownerOf T K n s f = ownerOf T L n s f := by
  unfold ownerOf; rw [best_congr n h]
theorem owner_none_iff {T : Nat → Tk} {K : Nat → Kn} {tn : Nat} {s : Int} {f : Nat} (hc : ∀ i, i < tn → 0 ≤ (T i).crew) : ownerOf T K tn s f = -1 ↔ ∀ i, i < tn → hasB T K s f i = false := by
  have hb := best_first T K s f tn
  unfold ownerOf
  cases hk : best T K s f tn with
  | none => rw [hk] at hb; exact ⟨fun _ => hb, fun _ => rfl⟩
  | some b =>
    rw [hk] at hb
    simp only [crewOf]
    constructor
    · intro h; have := hc b hb.1; omega
    · intro h; have := h b hb.1; rw [hb.2.1] at this; cases this
theorem owner_range {T : Nat → Tk} {K : Nat → Kn} {tn : Nat} {s : Int} {f : Nat} {cr : Int} (hc : ∀ i, i < tn → 0 ≤ (T i).crew ∧ (T i).crew ≤ cr - 1) (h1 : 1 ≤ cr) : -1 ≤ ownerOf T K tn s f ∧ ownerOf T K tn s f ≤ cr - 1 := by
  have hb := best_first T K s f tn
  unfold ownerOf
  cases hk : best T K s f tn with
  | none => simp only [crewOf]; omega
  | some b =>
    rw [hk] at hb
    simp only [crewOf]
    have := hc b hb.1
    omega
end Go.Proofs.Ytbpeamppkdmdcaa

namespace Go.Proofs.Ytbpeamppkdmdcaa
open Go.RowKit

/-- Boxes that are kept, and slices that are the call's own, each in a block of its own. -/
structure Own (B : Nat) (w0 : World) (KB : List (Nat × Array Value × TypeId)) (VS : List (Value × List Value)) (W : World) : Prop where
  bel : Below B w0 W
  low : B ≤ w0.heap.size
  box : ∀ e ∈ KB, BoxAt W e.1 e.2.1 e.2.2
  own : ∀ e ∈ VS, W.ownsRow B 3 1 e.1 e.2.length e.2
  far : ∀ e ∈ VS, ∀ b ∈ KB, e.1.ownBlock ≠ some b.1
  dis : ∀ (i j : Nat) (e f : Value × List Value), VS[i]? = some e → VS[j]? = some f → i ≠ j → e.1.ownBlock = none ∨ e.1.ownBlock ≠ f.1.ownBlock

section
variable {B : Nat} {w0 W : World} {KB : List (Nat × Array Value × TypeId)} {VS : List (Value × List Value)}
theorem Own.size (h : Own B w0 KB VS W) : B ≤ W.heap.size := Nat.le_trans h.low h.bel.size
theorem Own.lt (h : Own B w0 KB VS W) {e : Value × List Value} (he : e ∈ VS) {k : Nat} (hk : e.1.ownBlock = some k) : B ≤ k ∧ k < W.heap.size := (h.own e he).lt k hk
theorem Own.grow {W2 : World} (h : Own B w0 KB VS W) (hb : Below W.heap.size W W2) : Own B w0 KB VS W2 where
  bel := h.bel.trans (hb.mono h.size)
  low := h.low
  box := fun e he => (h.box e he).grow hb
  own := fun e he => (h.own e he).kept (row := none) ⟨hb.os, hb.tape, hb.output, hb.size, fun k hk _ => hb.block k hk⟩ (by cases e.1.ownBlock <;> simp)
  far := h.far
  dis := h.dis
theorem Own.drew (h : Own B w0 KB VS W) : Own B w0 KB VS W.drew := h.grow (Below.drew (Below.refl _ _))
theorem Own.new (h : Own B w0 KB VS W) (x : Array Value) (t : TypeId) : Own B w0 ((W.heap.size, x, t) :: KB) VS (W.alloc (.cells x t)) := by
  have g := h.grow ((Below.refl W.heap.size W).alloc (Nat.le_refl _) (.cells x t))
  refine ⟨g.bel, g.low, fun e he => ?_, g.own, fun e he b hb => ?_, g.dis⟩
  · rcases List.mem_cons.1 he with rfl | he
    · exact heap_alloc_new W _
    · exact g.box e he
  · rcases List.mem_cons.1 hb with rfl | hb
    · intro hk
      have := (h.lt he hk).2
      dsimp only at this
      omega
    · exact g.far e he b hb
theorem Own.sub {KB' : List (Nat × Array Value × TypeId)} (h : Own B w0 KB VS W) (hs : ∀ e ∈ KB', e ∈ KB) : Own B w0 KB' VS W :=
  ⟨h.bel, h.low, fun e he => h.box e (hs e he), h.own, fun e he b hb => h.far e he b (hs b hb), h.dis⟩

theorem Own.put {W2 : World} (h : Own B w0 KB VS W) {i : Nat} {v : Value} {xs ys : List Value} (hi : VS[i]? = some (v, xs)) {g cap : Nat}
    (hown : W2.ownsRow B 3 1 (.slice (some ⟨g, 0, none⟩) ys.length cap) ys.length ys) (hg : W.grownBy W2 v.ownBlock) (hat : v.ownBlock = some g ∨ g = W.heap.size) :
    Own B w0 KB (VS.set i (.slice (some ⟨g, 0, none⟩) ys.length cap, ys)) W2 := by
  have hmem : (v, xs) ∈ VS := List.mem_of_getElem? hi
  have hil : i < VS.length := (List.getElem?_eq_some_iff.1 hi).1
  have hob : (Value.slice (some ⟨g, 0, none⟩) ys.length cap).ownBlock = some g := rfl
  have hcase : ∀ (j : Nat) (e : Value × List Value), (VS.set i (.slice (some ⟨g, 0, none⟩) ys.length cap, ys))[j]? = some e → (j = i ∧ e = (.slice (some ⟨g, 0, none⟩) ys.length cap, ys)) ∨ (j ≠ i ∧ VS[j]? = some e) := fun j e he => by
    rw [List.getElem?_set] at he
    by_cases hj : i = j
    · rw [if_pos hj, if_pos hil] at he
      exact .inl ⟨hj.symm, (Option.some.inj he).symm⟩
    · rw [if_neg hj] at he
      exact .inr ⟨fun x => hj x.symm, he⟩
  have hmem2 : ∀ e ∈ VS.set i (.slice (some ⟨g, 0, none⟩) ys.length cap, ys), e = (.slice (some ⟨g, 0, none⟩) ys.length cap, ys) ∨ ∃ j, j ≠ i ∧ VS[j]? = some e := fun e he => by
    obtain ⟨j, hj⟩ := List.mem_iff_getElem?.1 he
    rcases hcase j e hj with ⟨_, h1⟩ | ⟨h1, h2⟩
    · exact .inl h1
    · exact .inr ⟨j, h1, h2⟩
  -- the new block is no other slice's
  have hnew : ∀ (j : Nat) (e : Value × List Value), j ≠ i → VS[j]? = some e → e.1.ownBlock ≠ some g := fun j e hj he hk => by
    rcases hat with h1 | h1
    · rcases h.dis j i e (v, xs) he hi hj with h2 | h2
      · rw [h2] at hk; cases hk
      · exact h2 (hk.trans h1.symm)
    · have := (h.lt (List.mem_of_getElem? he) hk).2
      omega
  refine ⟨h.bel.grown hg h.size (fun k hk => (h.lt hmem hk).1), h.low, fun e he => (h.box e he).kept hg (fun x => h.far _ hmem e he x.symm), fun e he => ?_, fun e he b hb => ?_, fun a b e f ha hb hab => ?_⟩
  · rcases hmem2 e he with rfl | ⟨j, hj, hje⟩
    · exact hown
    · refine (h.own e (List.mem_of_getElem? hje)).kept hg ?_
      rcases h.dis j i e (v, xs) hje hi hj with h2 | h2
      · exact .inl h2
      · exact .inr h2
  · rcases hmem2 e he with rfl | ⟨j, hj, hje⟩
    · rw [hob]
      intro hk
      rcases hat with h1 | h1
      · exact h.far _ hmem b hb (h1.trans hk)
      · have h2 := lt_of_heap (h.box b hb)
        simp only [Option.some.injEq] at hk
        omega
    · exact h.far e (List.mem_of_getElem? hje) b hb
  · rcases hcase a e ha with ⟨h1, rfl⟩ | ⟨h1, h2⟩
    · rcases hcase b f hb with ⟨h3, rfl⟩ | ⟨h3, h4⟩
      · omega
      · right
        rw [hob]
        exact fun x => hnew b f h3 h4 x.symm
    · rcases hcase b f hb with ⟨h3, rfl⟩ | ⟨h3, h4⟩
      · right
        rw [hob]
        exact hnew a e h1 h2
      · exact h.dis a b e f h2 h4 hab

/-- 'append' of a number that lies in a box of its own. -/
theorem step_own {ops : Array Oper} {o : Oper} {a : Act} {K : Act → World → Prop} {Q : Exit → Act → World → Prop} {E : Prop} (h : Own B w0 KB VS W) (hgd : o.guard = none) (s x : Operand)
    (ho : o.op = .call { callee := .builtin .append, args := #[s, x], argTypes := #[37, 37] }) (i : Nat) {v : Value} {xs : List Value} (hi : VS[i]? = some (v, xs)) (hs : a.eval s = v)
    {gb : Nat} {y : Value} (hx : a.eval x = .slice (some ⟨gb, 0, none⟩) 1 1) (hb : (gb, #[y], 3) ∈ KB) (hy : y.oneCell' = true) (hn : xs.length ≤ 1000)
    (k : ∀ g cap w', Own B w0 KB (VS.set i (.slice (some ⟨g, 0, none⟩) (xs.length + 1) cap, xs ++ [y])) w' → K (a.put o.dst (.slice (some ⟨g, 0, none⟩) (xs.length + 1) cap)) w') :
    if Region.wanted o (yielded ops a.tmps) = true then Oper.wp Try.prog o a W K Q else E := by
  obtain ⟨i0, hi0, hz0, hz1, hz2⟩ := info_parts info3
  refine step_append_lies W hgd s x 37 ho B 3 i0 _ 1 8 Try.underlying37 hi0 hz0 hz1 hz2 rfl (by omega) v xs.length xs hs (h.own _ (List.mem_of_getElem? hi)) ⟨gb, 0, none⟩ 1 1 [y] hx rfl
    (World.news_of_block (h.box _ hb)) (by simpa using hy) (by omega) (by unfold maxLen; omega) (by omega) h.size _ rfl ?_
  intro g cap w' hown hg hat _
  have hl : (xs ++ [y]).length = xs.length + 1 := by simp
  have := h.put (W2 := w') (ys := xs ++ [y]) hi (by rw [hl]; exact hown) hg hat
  rw [hl] at this
  exact k g cap w' this
end
end Go.Proofs.Ytbpeamppkdmdcaa

namespace Go.Proofs.Ytbpeamppkdmdcaa
open Go.RowKit

theorem addr_plain {w : World} {x : Addr} {v : Value} (h : w.cell? x = some v) : x = ⟨x.block, x.off, none⟩ := by
  have hs : x.spot = none := World.cell?_spot h
  obtain ⟨b, o, s⟩ := x
  dsimp only at hs
  subst hs
  rfl

theorem ints_of {w : World} {x : Addr} {len cap : Nat} {zs : List Int} (hl : len ≤ cap) (hm : cap ≤ maxLen) (hz : zs.length = cap) (hc : ∀ i, i < zs.length → w.cell? (x.add i) = some (.int .i64 (zs.getD i 0))) : IntsAt w (some x) len (fun i => zs.getD i 0) := by
  have hp : 0 < len → x = ⟨x.block, x.off, none⟩ := fun h => addr_plain (by have := hc 0 (by omega); simpa [Addr.add] using this)
  refine ⟨fun h => ?_, fun h => ?_, by omega, fun i hi j hj => ?_⟩
  · rw [hp h]; rfl
  · have := hc 0 (by omega)
    exact World.block_lt_of_cell? w x (by simpa [Addr.add] using this)
  · obtain rfl : j = 0 := by omega
    have h1 := hc i (by omega)
    have h2 := hp (by omega)
    obtain ⟨b, o, s⟩ := x
    simp only [Addr.mk.injEq, true_and] at h2
    subst h2
    have e : (⟨b, o, none⟩ : Addr).add i = ⟨b, o + i * 1 + 0, none⟩ := by unfold Addr.add; split <;> simp <;> omega
    rw [e] at h1
    exact h1
theorem ints_nil (w : World) (f : Nat → Int) : IntsAt w none 0 f := ⟨fun h => by omega, fun h => by omega, by unfold maxLen; omega, fun i hi => by omega⟩
end Go.Proofs.Ytbpeamppkdmdcaa

namespace Go.Proofs.Ytbpeamppkdmdcaa
open Go.ChangeShapes Go.WideShapes Go.ChangeAt Go.RowKit

set_option maxRecDepth 100000
set_option maxHeartbeats 1000000

theorem csize52 : Try.prog.cellsOf 52 = 2 := by kernel_rfl
theorem csize58 : Try.prog.cellsOf 58 = 8 := by kernel_rfl
theorem csize29 : Try.prog.cellsOf 29 = 2 := by kernel_rfl
theorem csize3 : Try.prog.cellsOf 3 = 1 := by kernel_rfl
theorem csize25 : Try.prog.cellsOf 25 = 3 := by kernel_rfl
theorem csize22 : Try.prog.cellsOf 22 = 1 := by kernel_rfl
theorem csize23 : Try.prog.cellsOf 23 = 1 := by kernel_rfl

section
variable {H : Type} {enc : TypeId × Value → H} {w : World} {base : Nat} {spare : Nat → Bool} {held : Bool}
theorem one_int {n : Nat} {cs : List Value} {k : Nat} {xs : List (DataW H × List MemPlace)} (hk : k < xs.length) (h : DataW.trod enc Try.prog w base spare held n 3 cs = xs[k]?) : ∃ z, cs = [.int .i64 z] := by
  rw [List.getElem?_eq_getElem hk] at h
  obtain ⟨z, hz, _⟩ := DataW.trod_int Try.underlying3 h
  exact ⟨z, hz⟩
theorem two_ints {n : Nat} {a b : Value} {k : Nat} {xs : List (DataW H × List MemPlace)} (hk : k < xs.length) (h : DataW.trod enc Try.prog w base spare held n 29 [a, b] = xs[k]?) : ∃ y z, a = .int .i64 y ∧ b = .int .i64 z := by
  rw [List.getElem?_eq_getElem hk] at h
  obtain ⟨ys, m, _, _, _, hl, hf⟩ := DataW.trod_struct Try.underlying29 h
  have h0 := hf 0 _ rfl
  have h1 := hf 1 _ rfl
  simp only [List.getElem_toArray, List.getElem_cons_zero, List.getElem_cons_succ, csize3, List.drop_zero, List.drop_succ_cons, List.take_succ_cons, List.take_zero] at h0 h1
  obtain ⟨y, hy⟩ := one_int (by rw [hl]; decide) h0
  obtain ⟨z, hz⟩ := one_int (by rw [hl]; decide) h1
  simp only [List.cons.injEq, and_true] at hy hz
  exact ⟨y, z, hy, hz⟩
theorem seam_cells {n : Nat} {cs : List Value} {y : DataW H × List MemPlace} (h : DataW.trod enc Try.prog w base spare held n 52 cs = some y) : ∃ s : Sm, cs = [.int .i64 s.fat, .int .i64 s.rate] := by
  obtain ⟨ys, m, _, _, hcl, hl, hf⟩ := DataW.trod_struct Try.underlying52 h
  rw [csize52] at hcl
  match cs, hcl with
  | [a, b], _ =>
    have h0 := hf 0 _ rfl
    have h1 := hf 1 _ rfl
    simp only [List.getElem_toArray, List.getElem_cons_zero, List.getElem_cons_succ, csize3, List.drop_zero, List.drop_succ_cons, List.take_succ_cons, List.take_zero] at h0 h1
    obtain ⟨x, hx⟩ := one_int (by rw [hl]; decide) h0
    obtain ⟨z, hz⟩ := one_int (by rw [hl]; decide) h1
    simp only [List.cons.injEq, and_true] at hx hz
    exact ⟨⟨x, z⟩, by rw [hx, hz]⟩
theorem tick_cells {n : Nat} {cs : List Value} {y : DataW H × List MemPlace} (h : DataW.trod enc Try.prog w base spare held n 58 cs = some y) : ∃ t : Tk, cs = [.int .i64 t.crew, .int .i64 t.seam, .int .i64 t.fl, .int .i64 t.fh, .int .i64 t.tl, .int .i64 t.th, .int .i64 t.dl, .int .i64 t.dh] := by
  obtain ⟨ys, m, _, _, hcl, hl, hf⟩ := DataW.trod_struct Try.underlying58 h
  rw [csize58] at hcl
  match cs, hcl with
  | [c0, c1, c2, c3, c4, c5, c6, c7], _ =>
    have h0 := hf 0 _ rfl
    have h1 := hf 1 _ rfl
    have h2 := hf 2 _ rfl
    have h3 := hf 3 _ rfl
    have h4 := hf 4 _ rfl
    simp only [List.getElem_toArray, List.getElem_cons_zero, List.getElem_cons_succ, csize3, csize29, List.drop_zero, List.drop_succ_cons, List.take_succ_cons, List.take_zero] at h0 h1 h2 h3 h4
    obtain ⟨x0, e0⟩ := one_int (by rw [hl]; decide) h0
    obtain ⟨x1, e1⟩ := one_int (by rw [hl]; decide) h1
    obtain ⟨x2, x3, e2, e3⟩ := two_ints (by rw [hl]; decide) h2
    obtain ⟨x4, x5, e4, e5⟩ := two_ints (by rw [hl]; decide) h3
    obtain ⟨x6, x7, e6, e7⟩ := two_ints (by rw [hl]; decide) h4
    simp only [List.cons.injEq, and_true] at e0 e1
    exact ⟨⟨x0, x1, x2, x3, x4, x5, x6, x7⟩, by rw [e0, e1, e2, e3, e4, e5, e6, e7]⟩
theorem seams_nil (w : World) : SeamsAt w none 0 (fun _ => ⟨0, 0⟩) := ⟨fun h => by omega, fun h => by omega, by unfold maxLen; omega, fun i hi => by omega⟩
theorem ticks_nil (w : World) : TicketsAt w none 0 (fun _ => ⟨0, 0, 0, 0, 0, 0, 0, 0⟩) := ⟨fun h => by omega, fun h => by omega, by unfold maxLen; omega, fun i hi => by omega⟩
/-- A row of elements of sz cells each, read cell by cell. -/
theorem row_of {E : Type} (e0 : E) {a : Addr} {len sz : Nat} {cell : E → Nat → Value} (hlen : len ≤ maxLen) (hs : 0 < sz) (hc : ∀ i, i < len → ∃ e : E, ∀ j, j < sz → w.cell? ((a.add (i * sz)).add j) = some (cell e j)) :
    ∃ F : Nat → E, Row w (some a) len sz (fun i j => cell (F i) j) := by
  have : ∀ i, ∃ e : E, i < len → ∀ j, j < sz → w.cell? ((a.add (i * sz)).add j) = some (cell e j) := fun i => by
    by_cases hi : i < len
    · obtain ⟨e, he⟩ := hc i hi
      exact ⟨e, fun _ => he⟩
    · exact ⟨e0, fun h => absurd h hi⟩
  obtain ⟨F, hF⟩ := Classical.axiomOfChoice this
  have hp : 0 < len → a = ⟨a.block, a.off, none⟩ := fun h => by
    have := hF 0 h 0 hs
    simp only [Nat.zero_mul] at this
    exact addr_plain (by simpa [Addr.add] using this)
  refine ⟨F, fun h => ?_, fun h => ?_, hlen, fun i hi j hj => ?_⟩
  · rw [hp h]; rfl
  · have := hF 0 h 0 hs
    simp only [Nat.zero_mul] at this
    exact World.block_lt_of_cell? w a (by simpa [Addr.add] using this)
  · have h1 := hF i hi j hj
    have h2 := hp (by omega)
    obtain ⟨b, o, s⟩ := a
    simp only [Addr.mk.injEq, true_and] at h2
    subst h2
    have e : ((⟨b, o, none⟩ : Addr).add (i * sz)).add j = ⟨b, o + i * sz + j, none⟩ := by unfold Addr.add; split <;> split <;> simp <;> omega
    rw [e] at h1
    exact h1

theorem open_seams {n : Nat} {v : Value} {y : DataW H × List MemPlace} (h : DataW.trod enc Try.prog w base spare held n 22 [v] = some y) : ∃ sa sn sc S, v = .slice sa sn sc ∧ SeamsAt w sa sn S := by
  rcases Go.Deep.open_slice Try.underlying22 h with ⟨hcs, _⟩ | ⟨a, len, cap, m, k, D, Pl, hcs, _, hl, hm, hmm, _, hi⟩
  · simp only [List.cons.injEq, and_true] at hcs
    exact ⟨none, 0, 0, _, hcs, seams_nil w⟩
  · simp only [List.cons.injEq, and_true] at hcs
    have hle : len ≤ m := by rw [hmm]; split <;> omega
    obtain ⟨S, hS⟩ := row_of (w := w) (a := a) (len := len) (sz := 2) (cell := Sm.cell) ⟨0, 0⟩ (by omega) (by omega) fun i hlt => by
      obtain ⟨cs', hc, ht⟩ := hi i (by omega)
      obtain ⟨s, rfl⟩ := seam_cells ht
      rw [csize52] at hc
      obtain ⟨_, _, hat⟩ := World.cells?_some hc
      refine ⟨s, fun j hj => (hat j (by simpa using hj)).trans ?_⟩
      obtain rfl | rfl : j = 0 ∨ j = 1 := by omega
      all_goals rfl
    exact ⟨some a, len, cap, S, hcs, hS⟩
theorem open_ticks {n : Nat} {v : Value} {y : DataW H × List MemPlace} (h : DataW.trod enc Try.prog w base spare held n 23 [v] = some y) : ∃ ta tn tc T, v = .slice ta tn tc ∧ TicketsAt w ta tn T := by
  rcases Go.Deep.open_slice Try.underlying23 h with ⟨hcs, _⟩ | ⟨a, len, cap, m, k, D, Pl, hcs, _, hl, hm, hmm, _, hi⟩
  · simp only [List.cons.injEq, and_true] at hcs
    exact ⟨none, 0, 0, _, hcs, ticks_nil w⟩
  · simp only [List.cons.injEq, and_true] at hcs
    have hle : len ≤ m := by rw [hmm]; split <;> omega
    obtain ⟨T, hT⟩ := row_of (w := w) (a := a) (len := len) (sz := 8) (cell := Tk.cell) ⟨0, 0, 0, 0, 0, 0, 0, 0⟩ (by omega) (by omega) fun i hlt => by
      obtain ⟨cs', hc, ht⟩ := hi i (by omega)
      obtain ⟨t, rfl⟩ := tick_cells ht
      rw [csize58] at hc
      obtain ⟨_, _, hat⟩ := World.cells?_some hc
      refine ⟨t, fun j hj => (hat j (by simpa using hj)).trans ?_⟩
      obtain rfl | rfl | rfl | rfl | rfl | rfl | rfl | rfl : j = 0 ∨ j = 1 ∨ j = 2 ∨ j = 3 ∨ j = 4 ∨ j = 5 ∨ j = 6 ∨ j = 7 := by omega
      all_goals rfl
    exact ⟨some a, len, cap, T, hcs, hT⟩
/-- Wages that come in. -/
theorem open_wages {r : Reach} {b0 : Nat} {v : Value} {d : DataW H} {p : List MemPlace} (hv : Value.okWide Try.prog w r b0 25 v) (h : DataW.Trod enc Try.prog w base spare held 25 v d p) :
    ∃ cr sa sn sc S ta tn tc T, v = .agg #[.int .i64 cr, .slice sa sn sc, .slice ta tn tc] ∧ SeamsAt w sa sn S ∧ TicketsAt w ta tn T := by
  obtain ⟨v0, v1, v2, y0, y1, y2, n, rfl, _, _, h0, h1, h2⟩ := Go.Joins.open_agg3 Try.underlying25 (by kernel_rfl) (by kernel_rfl) hv h
  obtain ⟨cr, e0, _⟩ := DataW.trod_int Try.underlying3 h0
  obtain ⟨sa, sn, sc, S, rfl, hS⟩ := open_seams h1
  obtain ⟨ta, tn, tc, T, rfl, hT⟩ := open_ticks h2
  simp only [List.cons.injEq, and_true] at e0
  exact ⟨cr, sa, sn, sc, S, ta, tn, tc, T, by rw [e0], hS, hT⟩
/-- A list of integers that comes in. -/
theorem open_intsat {r : Reach} {b0 : Nat} {v : Value} {d : DataW H} {p : List MemPlace} (hv : Value.okWide Try.prog w r b0 37 v) (h : DataW.Trod enc Try.prog w base (fun _ => true) held 37 v d p) :
    ∃ oa n c f, v = .slice oa n c ∧ IntsAt w oa n f := by
  obtain ⟨a, len, cap, rfl⟩ := okWide_slice Try.underlying37 hv
  obtain ⟨fuel, hf⟩ := h
  rcases open_ints Try.underlying37 Try.underlying3 (by kernel_rfl) hf with ⟨hcs, _⟩ | ⟨x, l, c, zs, hcs, _, hl, hm, hz, _, hcell, _⟩
  · simp [Value.cells] at hcs
    obtain ⟨rfl, rfl, rfl⟩ := hcs
    exact ⟨none, 0, 0, fun _ => 0, rfl, ints_nil w _⟩
  · simp [Value.cells] at hcs
    obtain ⟨rfl, rfl, rfl⟩ := hcs
    exact ⟨_, _, _, _, rfl, ints_of hl hm (by simpa using hz) hcell⟩
end
theorem u8_bd {n : Int} (h : (Lit.int .u8 n).wf = true) : 0 ≤ n ∧ n ≤ 255 := by
  simp [Lit.wf, IntKind.min, IntKind.max, IntKind.signed, IntKind.bits] at h
  omega
end Go.Proofs.Ytbpeamppkdmdcaa
