/-
  Walks: the first of some tickets with least of a measure.
-/
import Derived.Test.YtbpeamppkdmdcaaA5
namespace Go.Proofs.Ytbpeamppkdmdcaa
open Go.RowKit

/-- The first of the first j numbers with least g. -/
def fewI (g : Nat → Int) : Nat → Nat
  | 0 => 0
  | j + 1 => if j = 0 ∨ g j < g (fewI g j) then j else fewI g j
def fewV (g : Nat → Int) (j : Nat) : Int := if j = 0 then 0 else g (fewI g j)

structure FewS (w : World) (oa : Option Addr) (tn : Nat) (bw bc : Nat) (b : Nat) (wr : World) : Prop where
  bel : Below w.heap.size w wr
  l : IntsAt wr oa tn (fun i => (i : Int))
  box : BoxAt wr b #[.func (.func 79) #[] #[bp bw, bp bc]] 124
  lt : w.heap.size ≤ b
def FewR (w : World) (oa : Option Addr) (tn : Nat) (bw bc b : Nat) (g : Nat → Int) (x v i : Value) (wr : World) : Prop :=
  ∃ j : Nat, j ≤ tn ∧ i = .int .i64 j ∧ x = .int .i64 (fewI g j : Nat) ∧ v = .int .i64 (fewV g j) ∧ FewS w oa tn bw bc b wr

set_option maxRecDepth 100000 in
set_option maxHeartbeats 4000000 in
theorem fewest_any (oa : Option Addr) (tn cap bw bc : Nat) (g : Nat → Int) (w : World) (hl : IntsAt w oa tn (fun i => (i : Int)))
    (hg : ∀ i, i < tn → ∀ W, Below w.heap.size w W → Calls Try.prog 79 #[.int .i64 i, bp bw, bp bc] W fun e w' => e = .returned (.int .i64 (g i)) ∧ Below W.heap.size W w') :
    Calls Try.prog 78 #[.slice oa tn cap, .agg #[.func (.func 79) #[] #[bp bw, bp bc]]] w fun e w' => e = .returned (.tuple #[.int .i64 (fewI g tn : Nat), .int .i64 (fewV g tn)]) ∧ Below w.heap.size w w' := by
  have nml := hl.small
  unfold maxLen at nml
  have HL := Lib.hid hl
  have HG := Lib.hid hg
  clear hl hg
  go_enter Try.func78, Try.ntmps78
  go_wp2_with fail
  generalize hW : World.alloc _ _ = W
  obtain ⟨q0, hz, hB⟩ := blocks1 hW
  have I0 := Lib.hid (show FewS w oa tn bw bc w.heap.size W from ⟨hB, HL.out.grow hB, q0, Nat.le_refl _⟩)
  clear hW q0 hz hB
  go_loopw [4, 5, 11] (FewR w oa tn bw bc w.heap.size g) (fun _ _ i _ => tn - (intOf i).toNat)
  case atStart => exact ⟨0, Nat.zero_le _, rfl, rfl, rfl, I0.out⟩
  case round =>
    clear I0
    obtain ⟨j, hj, rfl, rfl, rfl, hinv⟩ := hrel
    have HI := Lib.hid hinv
    clear hinv
    by_cases hlt : j < tn
    · have hi := fun w => run_indexAt_row (w := w) (cap := cap) Try.underlying37 size3 (HI.out.l.plain (by omega)) hlt
      have hc := HI.out.l.at hlt
      have b0 := cellAt HI.out.box 0
      simp only [Nat.mul_one] at hi
      simp only [List.getElem?_toArray, List.getElem?_cons_zero] at b0
      have hcf : ∀ w, (callFunc 79 #[.int .i64 j, bp bw, bp bc]).run Try.prog w = .ok (.enter 79 #[.int .i64 j, bp bw, bp bc]) w := fun _ => by kernel_rfl
      have C := Lib.hid (HG.out j hlt wr HI.out.bel)
      by_cases h0 : j = 0
      · have hj0 : ((j : Int) == 0) = true := by simp [h0]
        have E1 := Lib.hid (show fewI g (j + 1) = j from by simp [fewI, h0])
        have E2 := Lib.hid (show fewV g (j + 1) = g j from by simp [fewV, E1.out])
        clear h0
        go_wp2_with (go_at_call 79; refine C.out.mono ?_; rintro e w5 ⟨rfl, hb5⟩; have HJ := Lib.hid (show FewS w oa tn bw bc w.heap.size w5 from ⟨HI.out.bel.trans (hb5.mono HI.out.bel.size), HI.out.l.grow hb5, HI.out.box.grow hb5, HI.out.lt⟩); clear hb5)
        exact ⟨⟨j + 1, hlt, by go_num, by rw [E1.out], by rw [E2.out], HJ.out⟩, by simp [intOf]; omega⟩
      · have hj0 : ((j : Int) == 0) = false := by simp [h0]
        have EV := Lib.hid (show fewV g j = g (fewI g j) from by simp [fewV, h0])
        obtain ⟨v, hv⟩ : ∃ v, v = fewV g j := ⟨_, rfl⟩
        rw [← hv] at EV ⊢
        by_cases hlt2 : g j < v
        · have E1 := Lib.hid (show fewI g (j + 1) = j from by rw [fewI, if_pos (.inr (by rw [← EV.out]; exact hlt2))])
          have E2 := Lib.hid (show fewV g (j + 1) = g j from by simp [fewV, E1.out])
          clear h0 hv
          go_wp2_with (go_at_call 79; refine C.out.mono ?_; rintro e w5 ⟨rfl, hb5⟩; have HJ := Lib.hid (show FewS w oa tn bw bc w.heap.size w5 from ⟨HI.out.bel.trans (hb5.mono HI.out.bel.size), HI.out.l.grow hb5, HI.out.box.grow hb5, HI.out.lt⟩); clear hb5)
          exact ⟨⟨j + 1, hlt, by go_num, by rw [E1.out], by rw [E2.out], HJ.out⟩, by simp [intOf]; omega⟩
        · have E1 := Lib.hid (show fewI g (j + 1) = fewI g j from by rw [fewI, if_neg (by rw [← EV.out]; omega)])
          have E2 := Lib.hid (show fewV g (j + 1) = v from by simp [fewV, E1.out, EV.out])
          clear h0 hv
          go_wp2_with (go_at_call 79; refine C.out.mono ?_; rintro e w5 ⟨rfl, hb5⟩; have HJ := Lib.hid (show FewS w oa tn bw bc w.heap.size w5 from ⟨HI.out.bel.trans (hb5.mono HI.out.bel.size), HI.out.l.grow hb5, HI.out.box.grow hb5, HI.out.lt⟩); clear hb5)
          exact ⟨⟨j + 1, hlt, by go_num, by rw [E1.out], by rw [E2.out], HJ.out⟩, by simp [intOf]; omega⟩
    · obtain rfl : j = tn := by omega
      go_wp2_with fail
      go_ret2
      exact ⟨rfl, HI.out.bel⟩
end Go.Proofs.Ytbpeamppkdmdcaa
