/-
  Walks: the exported functions: of which ticket one should know more.
-/
import Derived.Test.YtbpeamppkdmdcaaA6
namespace Go.Proofs.Ytbpeamppkdmdcaa
open Go.RowKit

def askRet (a b e : Int) : Ending := .returned (.tuple #[.int .i64 a, .int .i64 b, .int .i64 e])
def AskSaid (w : World) (V : Prop) (b : Bool) (S : Nat → Sm) (T : Nat → Tk) (sn tn : Nat) (c : Int) (e : Ending) (w' : World) : Prop :=
  Below w.heap.size w w' ∧ ((V ∧ b = true ∧ spreadOf S T sn tn c ≠ 0 ∧ e = askRet (fewI (wideOf S T sn tn c) tn : Nat) (fewV (wideOf S T sn tn c) tn) 0) ∨ (V ∧ b = true ∧ spreadOf S T sn tn c = 0 ∧ e = askRet 0 0 11) ∨ (V ∧ b = false ∧ e = askRet 0 0 2) ∨ (¬ V ∧ e = askRet 0 0 1))

/-- The boxes: wages that are looked at, the crew, the error. -/
structure Q1 (w : World) (bx : Nat) (x : Array Value) (c : Int) (w' : World) : Prop where
  bel : Below w.heap.size w w'
  box : BoxAt w' bx x 77
  cc : BoxAt w' (w.heap.size + 1) #[.int .i64 c] 3
  r : BoxAt w' (w.heap.size + 1 + 1) #[.int .i64 0] 30
  hi : w.heap.size + 2 < bx
theorem Q1.grow {w : World} {bx : Nat} {x : Array Value} {c : Int} {w1 w2 : World} (h : Q1 w bx x c w1) (hb : Below w1.heap.size w1 w2) : Q1 w bx x c w2 :=
  ⟨h.bel.trans (hb.mono h.bel.size), h.box.grow hb, h.cc.grow hb, h.r.grow hb, h.hi⟩
theorem Q1.below {w : World} {bx : Nat} {x : Array Value} {c : Int} {w1 w2 : World} (h : Q1 w bx x c w1) (hb : Below (bx + 1) w1 w2) : Q1 w bx x c w2 := by
  have := h.hi
  exact ⟨h.bel.trans (hb.mono (by omega)), (hb.block _ (by omega)).trans h.box, (hb.block _ (by omega)).trans h.cc, (hb.block _ (by omega)).trans h.r, h.hi⟩
def QR (w : World) (bx : Nat) (x : Array Value) (c : Int) (tn : Nat) (a i : Value) (wr : World) : Prop :=
  ∃ j : Nat, j ≤ tn ∧ i = .int .i64 j ∧ wr.ownsRow (bx + 1) 3 1 a j (rowVals (fun i => (i : Int)) j) ∧ Q1 w bx x c wr ∧ bx < wr.heap.size

set_option maxRecDepth 100000 in
set_option maxHeartbeats 4000000 in
theorem asks_any (cr : Int) (sa ta : Option Addr) (sn sc tn tc : Nat) (S : Nat → Sm) (T : Nat → Tk) (c : Int) (w : World) (hS : SeamsAt w sa sn S) (hT : TicketsAt w ta tn T) :
    Calls Try.prog 28 #[.agg #[.int .i64 cr, .slice sa sn sc, .slice ta tn tc], .int .i64 c] w (AskSaid w (Valid cr sn tn S T) (inB c 0 (cr - 1)) S T sn tn c) := by
  have HS := Lib.hid hS
  have HT := Lib.hid hT
  clear hS hT
  have hmf : ∀ (fn : Fn) (first cap : Array Value) (w : World), (Instr.makeFunc fn first cap).run Try.prog w = .ok (.func fn first cap) w := fun _ _ _ _ => rfl
  go_enter_defers Try.func28, Try.ntmps28
  go_wp2_with fail
  generalize hW : World.alloc _ _ = W
  obtain ⟨q0, q1, q2, hz, hB⟩ := blocks3 hW
  clear hW hz
  have HB := Lib.hid hB
  have C1 := Lib.hid (show BoxAt W (w.heap.size + 1) #[.int .i64 c] 3 from q1)
  have R1 := Lib.hid (show BoxAt W (w.heap.size + 1 + 1) #[.int .i64 0] 30 from q2)
  clear q0 q1 q2 hB
  have hcf : ∀ W, (callFunc 76 (#[.agg #[.int .i64 cr, .slice sa sn sc, .slice ta tn tc]] ++ #[bp (w.heap.size + 1)])).run Try.prog W = .ok (.enter 76 (#[.agg #[.int .i64 cr, .slice sa sn sc, .slice ta tn tc]] ++ #[bp (w.heap.size + 1)])) W := by intro W1; kernel_rfl
  have HCF := Lib.hid hcf
  clear hcf
  refine (open_any cr sa ta sn sc tn tc S T W (HS.out.grow HB.out) (HT.out.grow HB.out) 76 _ (inB c 0 (cr - 1)) HCF.out ?_).mono ?_
  · intro W1 hb hv
    have h1 := hv.cr0
    have h2 := hv.cr1
    exact ask1_any cr sa ta sn sc tn tc c _ W1 (by omega) (by omega) (C1.out.grow hb)
  rintro e w1 ⟨hb, hD⟩
  have B1 := Lib.hid hb
  have R1' := Lib.hid (R1.out.grow hb)
  have C1' := Lib.hid (C1.out.grow hb)
  have hr1 := lt_of_heap R1'.out
  clear hb
  rcases hD with ⟨hv, hbt, rfl⟩ | ⟨hv, hbf, rfl⟩ | ⟨hnv, rfl⟩
  · have HV := Lib.hid hv
    have HT2 := Lib.hid hbt
    have c0 := (inB_iff.1 hbt).1
    have c1 : c ≤ 3 := by have := (inB_iff.1 hbt).2; have := hv.cr1; omega
    clear hbt hv
    have hal := (Below.refl w1.heap.size w1).alloc (Nat.le_refl _) (.cells #[.int .i64 cr, .slice sa sn sc, .slice ta tn tc] 77)
    obtain ⟨W2, hW2⟩ : ∃ W2, w1.alloc (.cells #[.int .i64 cr, .slice sa sn sc, .slice ta tn tc] 77) = W2 := ⟨_, rfl⟩
    have HW := Lib.hid ((HB.out.next B1.out).next (hW2 ▸ hal))
    have I2 := Lib.hid (show Q1 w w1.heap.size #[.int .i64 cr, .slice sa sn sc, .slice ta tn tc] c W2 from ⟨HW.out, by rw [← hW2]; exact (blocks1 rfl).1, C1'.out.grow (hW2 ▸ hal), R1'.out.grow (hW2 ▸ hal), by omega⟩)
    have CD := Lib.hid (due_any cr sa ta sn sc tn tc S T W2 (HS.out.grow HW.out) (HT.out.grow HW.out) HV.out c (by omega) c1)
    obtain ⟨hi, hhi⟩ : ∃ x, x = coinsOf S T (mostK c T) sn tn c := ⟨_, rfl⟩
    obtain ⟨lo, hlo⟩ : ∃ x, x = coinsOf S T (leastK c T) sn tn c := ⟨_, rfl⟩
    rw [← hhi, ← hlo] at CD
    have HSP := Lib.hid (show spreadOf S T sn tn c = hi - lo by rw [hhi, hlo]; rfl)
    have g0 := cellAt I2.out.box 0
    have g1 := cellAt I2.out.box 1
    have g2 := cellAt I2.out.box 2
    have g3 := cellAt I2.out.cc 0
    have g4 := freeAt I2.out.box 0
    have g5 := freeAt I2.out.box 1
    have g6 := freeAt I2.out.box 2
    simp only [List.getElem?_toArray, List.getElem?_cons_zero, List.getElem?_cons_succ] at g0 g1 g2 g3
    obtain ⟨bx, hbx⟩ : ∃ bx, bx = w1.heap.size := ⟨_, rfl⟩
    have hbw : bx < W2.heap.size := by rw [hbx, ← hW2]; simp
    rw [← hW2] at g0 g1 g2 g3 CD
    have HW2 := Lib.hid hW2
    clear hW2 hhi hlo hal
    by_cases hne : lo = hi
    · have e1 : (lo != hi) = false := by simp [hne]
      have e2 : (lo == hi) = true := by simp [hne]
      have HNE := Lib.hid hne
      clear hne
      go_wp2_with (first | (go_at_call 67; refine CD.out.mono ?_; rintro e w3 ⟨rfl, hb3⟩) | (go_at_call 77; ((with_reducible refine (ask_false _ _).mono ?_); rintro e w' ⟨rfl, rfl⟩)))
      have I4 := Lib.hid ((I2.out.grow (HW2.out ▸ hb3)).grow ((Below.refl _ _).alloc (Nat.le_refl _) (.cells #[.int .i64 lo, .int .i64 hi] 29)))
      refine leaves_cons (f := 45) (args := #[bp (w.heap.size + 1 + 1)]) (by simp) (by simp [go_sem]) ?_
      refine (answer_panicking _ 0 11 [] _ I4.out.r).mono ?_
      rintro e u' w'' ⟨rfl, rfl, rfl⟩
      have r2 := cellAt I4.out.r 0
      simp only [List.getElem?_toArray, List.getElem?_cons_zero] at r2
      simp [Leaves, settle, results, Try.results28, go_sem, r2]
      exact ⟨I4.out.bel.setCell (by dsimp only; omega) _, .inr (.inl ⟨HV.out, HT2.out, by rw [HSP.out, HNE.out]; omega, rfl⟩)⟩
    · have e1 : (lo != hi) = true := by simp [hne]
      have e2 : (lo == hi) = false := by simp [hne]
      have HNE := Lib.hid hne
      clear hne
      obtain ⟨tok, htok⟩ : ∃ tok : Nat, tok = tok := ⟨0, rfl⟩
      clear htok
      go_wp2_with (first | (go_at_call 67; refine CD.out.mono ?_; rintro e w3 ⟨rfl, hb3⟩; have I4 := Lib.hid ((I2.out.grow (HW2.out ▸ hb3)).grow ((Below.refl _ _).alloc (Nat.le_refl _) (.cells #[.int .i64 lo, .int .i64 hi] 29))); have hs3 := hb3.size; clear hb3; have g7 := cellAt I4.out.box 2; simp only [List.getElem?_toArray, List.getElem?_cons_zero, List.getElem?_cons_succ] at g7) | (go_at_call 77; ((with_reducible refine (ask_true _ _).mono ?_); rintro e w' ⟨rfl, rfl⟩)))
      generalize hW4 : World.alloc w3 _ = W4 at *
      have hb4 : bx < W4.heap.size := by have := lt_of_heap I4.out.box; omega
      clear hW4 hs3 g0 g1 g2 g3 g4 g5 g6 g7
      rw [← hbx] at I4 ⊢
      clear hbx
      have ht6 := HV.out.tn6
      go_loopw [9, 29] (QR w bx #[.int .i64 cr, .slice sa sn sc, .slice ta tn tc] c tn) (fun _ i _ => tn - (intOf i).toNat)
      case atStart => exact ⟨0, Nat.zero_le _, rfl, World.ownsRow_nil _ _ _ _, I4.out, hb4⟩
      case round =>
        clear I4 hb4 CD
        obtain ⟨j, hj, rfl, hown, hinv, hlo⟩ := hrel
        have HR := Lib.hid hown
        have HI := Lib.hid hinv
        clear hown hinv
        by_cases hlt : j < tn
        · obtain ⟨i0, hi0, hz0, hz1, hz2⟩ := info_parts info3
          go_wp2_with (at_builtin; refine wpList_append_own _ rfl _ _ 37 rfl (bx + 1) 3 i0 (.int .i64 0) 1 8 Try.underlying37 hi0 hz0 hz1 hz2 rfl (by decide) _ _ _ rfl (HR.out.alloc _) ⟨wr.heap.size, 0, none⟩ 1 1 [.int .i64 j] rfl rfl ?c1 ?c2 ?c3 ?c4 ?c5 ?_)
          case c1 =>
            intro j1 u hj1
            match j1, hj1 with
            | 0, hj1 => simp at hj1; subst hj1; go_simp
            | j1 + 1, hj1 => simp at hj1
          case c2 => intro u hu; simp at hu; subst hu; rfl
          case c3 => unfold maxLen; omega
          case c4 => omega
          case c5 => simp; omega
          intro v' w4 hown' hgrow _
          have HO3 := Lib.hid hown'
          have hb3 := Lib.hid (((Below.refl (bx + 1) wr).alloc (by omega) (.cells #[.int .i64 j] 3)).grown hgrow (by simp; omega) (fun q e => (HR.out.lt q e).1))
          have hz3 := hgrow.size
          clear hown' hgrow hi0 hz0 hz1 hz2
          go_wp2_with fail
          refine ⟨⟨j + 1, hlt, by go_num, ?_, HI.out.below hb3.out, by simp at hz3; omega⟩, by simp [intOf]; omega⟩
          rw [rowVals_succ]
          exact HO3.out
        · obtain rfl : j = tn := by omega
          obtain ⟨ma, mc, rfl, hmen, hmb⟩ := row_ints (f := fun i => (i : Int)) (n := j) (w := wr) (base := bx + 1) HR.out (by unfold maxLen; omega)
          have C := Lib.hid (fewest_any ma j mc bx (w.heap.size + 1) (wideOf S T sn j c) wr hmen (fun i hi W hb => ask2_any cr sa ta sn sc j tc S T W (HS.out.grow (HI.out.bel.next hb)) (HT.out.grow (HI.out.bel.next hb)) HV.out c c0 c1 bx (w.heap.size + 1) i hi (HI.out.box.grow hb) (HI.out.cc.grow hb)))
          clear hmen hmb HR
          go_wp2_with (go_at_call 78; refine C.out.mono ?_; rintro e w5 ⟨rfl, hb5⟩; have HJ := Lib.hid (HI.out.grow hb5); clear hb5; have r2 := cellAt HJ.out.r 0; have f2 := freeAt HJ.out.r 0; simp only [List.getElem?_toArray, List.getElem?_cons_zero] at r2)
          refine leaves_cons (f := 45) (args := #[bp (w.heap.size + 1 + 1)]) (by simp) (by simp [go_sem]) ?_
          refine (answer_idle _ _).mono ?_
          rintro e u' w'' ⟨rfl, rfl, rfl⟩
          simp [Leaves, settle, results, Try.results28, go_sem, r2]
          exact ⟨HJ.out.bel.setCell (by dsimp only; omega) _, .inl ⟨HV.out, HT2.out, by rw [HSP.out]; have := HNE.out; omega, rfl⟩⟩
  · have HV := Lib.hid hv
    have HT2 := Lib.hid hbf
    clear hv hbf
    simp only [err]
    go_wp2_with fail
    refine leaves_cons (f := 45) (args := #[bp (w.heap.size + 1 + 1)]) (by simp) (by simp [go_sem]) ?_
    refine (answer_panicking _ 0 2 [] _ R1'.out).mono ?_
    rintro e u' w'' ⟨rfl, rfl, rfl⟩
    have r2 := cellAt R1'.out 0
    simp only [List.getElem?_toArray, List.getElem?_cons_zero] at r2
    simp [Leaves, settle, results, Try.results28, go_sem, r2]
    exact ⟨(HB.out.next B1.out).setCell (by dsimp only; omega) _, .inr (.inr (.inl ⟨HV.out, HT2.out, rfl⟩))⟩
  · have HV := Lib.hid hnv
    clear hnv
    simp only [err]
    go_wp2_with fail
    refine leaves_cons (f := 45) (args := #[bp (w.heap.size + 1 + 1)]) (by simp) (by simp [go_sem]) ?_
    refine (answer_panicking _ 0 1 [] _ R1'.out).mono ?_
    rintro e u' w'' ⟨rfl, rfl, rfl⟩
    have r2 := cellAt R1'.out 0
    simp only [List.getElem?_toArray, List.getElem?_cons_zero] at r2
    simp [Leaves, settle, results, Try.results28, go_sem, r2]
    exact ⟨(HB.out.next B1.out).setCell (by dsimp only; omega) _, .inr (.inr (.inr ⟨HV.out, rfl⟩))⟩
end Go.Proofs.Ytbpeamppkdmdcaa
