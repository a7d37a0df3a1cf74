/-
  Walks: the exported functions: how many coins are due.
-/
import Derived.Test.YtbpeamppkdmdcaaW17
namespace Go.Proofs.Ytbpeamppkdmdcaa
open Go.RowKit

set_option maxRecDepth 100000 in
set_option maxHeartbeats 4000000 in
theorem dues_any (cr : Int) (sa ta : Option Addr) (sn sc tn tc : Nat) (S : Nat → Sm) (T : Nat → Tk) (c : Int) (w : World) (hS : SeamsAt w sa sn S) (hT : TicketsAt w ta tn T) :
    Calls Try.prog 21 #[.agg #[.int .i64 cr, .slice sa sn sc, .slice ta tn tc], .int .i64 c] w
      (Said w (Valid cr sn tn S T) (inB c 0 (cr - 1)) (.tuple #[.agg #[.int .i64 (coinsOf S T (leastK c T) sn tn c), .int .i64 (coinsOf S T (mostK c T) sn tn c)], .int .i64 0]) (.tuple #[.agg #[.int .i64 0, .int .i64 0], .int .i64 2]) (.tuple #[.agg #[.int .i64 0, .int .i64 0], .int .i64 1])) := by
  have HS := Lib.hid hS
  have HT := Lib.hid hT
  clear hS hT
  have hmf : ∀ (fn : Fn) (first cap : Array Value) (w : World), (Instr.makeFunc fn first cap).run Try.prog w = .ok (.func fn first cap) w := fun _ _ _ _ => rfl
  go_enter_defers Try.func21, Try.ntmps21
  go_wp2_with fail
  generalize hW : World.alloc _ _ = W
  obtain ⟨q0, q1, q2, q3, hz, hB⟩ := blocks4 hW
  clear hW hz
  have I0 := Lib.hid (show F1 w #[.int .i64 cr, .slice sa sn sc, .slice ta tn tc] c W from ⟨hB, q0, q1, q2, q3⟩)
  have HB := Lib.hid hB
  have J0 := Lib.hid (show H1 w cr sa ta sn sc tn tc c W.drew from H1.grow ⟨hB, q0, q1⟩ (Below.drew (Below.refl _ _)))
  have I1 := Lib.hid (I0.out.grow (Below.drew (Below.refl _ _)))
  have hcf : ∀ W, (callFunc 66 (#[.agg #[.int .i64 cr, .slice sa sn sc, .slice ta tn tc]] ++ #[bp (w.heap.size + 1)])).run Try.prog W = .ok (.enter 66 (#[.agg #[.int .i64 cr, .slice sa sn sc, .slice ta tn tc]] ++ #[bp (w.heap.size + 1)])) W := by intro W1; kernel_rfl
  have HCF := Lib.hid hcf
  have hcl : ∀ W1, Below W.drew.heap.size W.drew W1 → Valid cr sn tn S T → Calls Try.prog 66 (#[.agg #[.int .i64 cr, .slice sa sn sc, .slice ta tn tc]] ++ #[bp (w.heap.size + 1)]) W1 fun e w' => e = .returned (.bool (inB c 0 (cr - 1))) ∧ Below W1.heap.size W1 w' := by
    intro W1 hb hv
    exact due1_any cr sa ta sn sc tn tc c _ W1 (by have := hv.cr0; omega) (by have := hv.cr1; omega) (I1.out.s.grow hb)
  have HCL := Lib.hid hcl
  clear hcf hcl q0 q1 q2 q3 hB
  by_cases hv : Valid cr sn tn S T
  · have HV := Lib.hid hv
    have hcases : inB c 0 (cr - 1) = true ∨ inB c 0 (cr - 1) = false := by cases inB c 0 (cr - 1) <;> simp
    rcases hcases with hbt | hbf
    · have HT2 := Lib.hid hbt
      have hbt' := inB_iff.1 hbt
      have c0 : -1 ≤ c := by omega
      have c1 : c ≤ 3 := by have := hv.cr1; omega
      have C2 := Lib.hid (fun W' (hb : Below w.heap.size w W') => due_any cr sa ta sn sc tn tc S T W' (HS.out.grow hb) (HT.out.grow hb) hv c c0 c1)
      have C1 := Lib.hid (open_ok cr sa ta sn sc tn tc S T W.drew (HS.out.grow I1.out.bel) (HT.out.grow I1.out.bel) 66 _ _ hv hbt HCF.out HCL.out)
      clear c0 c1 hbt hbt' hv
      refine wp_region_noPanic ?_
      refine wp_region_held_drew (S := (fun w' => (w'.cell? ⟨w.heap.size, 0, none⟩ = some (.int .i64 cr) ∧ w'.cell? ⟨w.heap.size, 1, none⟩ = some (.slice sa sn sc) ∧ w'.cell? ⟨w.heap.size, 2, none⟩ = some (.slice ta tn tc) ∧ w'.cell? ⟨w.heap.size + 1, 0, none⟩ = some (.int .i64 c)) ∧ H1 w cr sa ta sn sc tn tc c w')) (by kernel_rfl) (H1.cells J0.out) (fun hHeld => ?_)
      refine wpAnyH_take (i := 0) (oi := { dst := some 6, op := Op.load 25 (Operand.tmp 2), type := 25, pos := "wage.go:202", after := #[], guard := none }) (v := ?_) rfl (by kernel_rfl) (by kernel_rfl) (by kernel_rfl) (fun _ _ _ h => h) (Or.inl ⟨by rfl, ?_⟩) (by assumption) ?_
      rotate_left
      · (intro w9 hSw; (try dsimp only at hSw); (go_split_ands; go_simp); (try with_reducible rfl))
      try simp only [Act.put, List.setIfInBounds_toArray, List.set_cons_zero, List.set_cons_succ]
      refine wpAnyH_take (i := 1) (oi := { dst := some 7, op := Op.makeFunc (Fn.func 66) #[] #[Operand.tmp 3], type := 80, pos := "wage.go:202", after := #[], guard := none }) (v := ?_) rfl (by kernel_rfl) (by kernel_rfl) (by kernel_rfl) (fun _ _ _ h => h) (Or.inl ⟨by rfl, ?_⟩) (by assumption) ?_
      rotate_left
      · (intro w9 hSw; (try dsimp only at hSw); (go_split_ands; go_simp); (try with_reducible rfl))
      try simp only [Act.put, List.setIfInBounds_toArray, List.set_cons_zero, List.set_cons_succ]
      refine wpAnyH_take (i := 3) (oi := { dst := some 9, op := Op.load 3 (Operand.tmp 3), type := 3, pos := "wage.go:202", after := #[], guard := none }) (v := ?_) rfl (by kernel_rfl) (by kernel_rfl) (by kernel_rfl) (fun _ _ _ h => h) (Or.inl ⟨by rfl, ?_⟩) (by assumption) ?_
      rotate_left
      · (intro w9 hSw; (try dsimp only at hSw); (go_split_ands; go_simp); (try with_reducible rfl))
      try simp only [Act.put, List.setIfInBounds_toArray, List.set_cons_zero, List.set_cons_succ]
      refine wpAnyH_ready (rs := [2]) (by kernel_rfl) (by simp) ?_
      refine AllReadyH.cons (o := { dst := some 8, op := Op.call { callee := Callee.value (Operand.func 46), args := #[Operand.tmp 6, Operand.tmp 7], argTypes := #[25, 80] }, type := 77, pos := "wage.go:202", after := #[{ on := 0, ground := Ground.data }, { on := 1, ground := Ground.data }], guard := none }) rfl (fun K hK => ?_) AllReadyH.nil
      go_simp
      refine C1.out.mono ?_; rintro e w3 ⟨rfl, hb3⟩; have I2 := Lib.hid (I1.out.grow hb3); have B3 := Lib.hid hb3; clear hb3
      go_wp2_with fail
      refine hK.out _ _ ?_ (fun hHeld => ?_)
      · exact H1.cells (H1.grow J0.out B3.out)
      clear hK K
      try simp only [Act.put, List.setIfInBounds_toArray, List.set_cons_zero, List.set_cons_succ]
      have J1 := Lib.hid hHeld.2
      refine wpAnyH_ready (rs := [4]) (by kernel_rfl) (by simp) ?_
      refine AllReadyH.cons (o := { dst := some 10, op := Op.call { callee := Callee.value (Operand.func 67), args := #[Operand.tmp 8, Operand.tmp 9], argTypes := #[77, 3] }, type := 29, pos := "wage.go:202", after := #[{ on := 2, ground := Ground.data }, { on := 3, ground := Ground.data }, { on := 2, ground := Ground.chain }], guard := none }) rfl (fun K hK => ?_) AllReadyH.nil
      go_simp
      refine (C2.out _ I2.out.bel).mono ?_; rintro e w4 ⟨rfl, hb4⟩; have I3 := Lib.hid (I2.out.grow hb4); have B4 := Lib.hid hb4; clear hb4
      go_wp2_with fail
      refine hK.out _ _ ?_ (fun hHeld => ?_)
      · exact H1.cells (H1.grow J1.out B4.out)
      clear hK K
      try simp only [Act.put, List.setIfInBounds_toArray, List.set_cons_zero, List.set_cons_succ]
      have J2 := Lib.hid hHeld.2
      have r0 := cellAt I3.out.r0 0
      have r1 := cellAt I3.out.r0 1
      have r2 := cellAt I3.out.r1 0
      have f0 := freeAt I3.out.r0 0
      have f1 := freeAt I3.out.r0 1
      have f2 := freeAt I3.out.r1 0
      simp only [List.getElem?_toArray, List.getElem?_cons_zero, List.getElem?_cons_succ] at r0 r1 r2
      refine wpAnyH_ready (rs := [5]) (by kernel_rfl) (by simp) ?_
      refine AllReadyH.cons (o := { dst := none, op := Op.store 29 (Operand.tmp 4) (Operand.tmp 10), type := 0, pos := "wage.go:202", after := #[{ on := 4, ground := Ground.data }, { on := 4, ground := Ground.chain }, { on := 0, ground := Ground.phase }, { on := 1, ground := Ground.phase }, { on := 2, ground := Ground.phase }, { on := 3, ground := Ground.phase }, { on := 4, ground := Ground.phase }], guard := none }) rfl (fun K hK => ?_) AllReadyH.nil
      go_simp
      skip
      go_wp2_with fail
      refine hK.out _ _ ?_ (fun hHeld => ?_)
      · exact H1.cells (H1.set (H1.set J2.out _ _ (by dsimp only; omega)) _ _ (by dsimp only; omega))
      clear hK K
      try simp only [Act.put, List.setIfInBounds_toArray, List.set_cons_zero, List.set_cons_succ]
      have J3 := Lib.hid hHeld.2
      refine wpAnyH_ready (rs := [6]) (by kernel_rfl) (by simp) ?_
      refine AllReadyH.cons (o := { dst := none, op := Op.store 30 (Operand.tmp 5) (Operand.const (Value.int IntKind.i64 0)), type := 0, pos := "wage.go:202", after := #[{ on := 5, ground := Ground.chain }, { on := 0, ground := Ground.phase }, { on := 1, ground := Ground.phase }, { on := 2, ground := Ground.phase }, { on := 3, ground := Ground.phase }, { on := 4, ground := Ground.phase }, { on := 5, ground := Ground.phase }], guard := none }) rfl (fun K hK => ?_) AllReadyH.nil
      go_simp
      skip
      go_wp2_with fail
      refine hK.out _ _ ?_ (fun hHeld => ?_)
      · exact H1.cells (H1.set J3.out _ _ (by dsimp only; omega))
      clear hK K
      try simp only [Act.put, List.setIfInBounds_toArray, List.set_cons_zero, List.set_cons_succ]
      have J4 := Lib.hid hHeld.2
      refine wpAnyH_done (by kernel_rfl) ?_ _
      refine NoPanic.normal ?_
      clear hHeld
      go_wp2_with fail
      refine leaves_cons (f := 45) (args := #[bp (w.heap.size + 1 + 1 + 1)]) (by simp) (by simp [go_sem]) ?_
      refine (answer_idle _ _).mono ?_
      rintro e u' w'' ⟨rfl, rfl, rfl⟩
      simp [Leaves, settle, results, Try.results21, go_sem, r0, r1, r2]
      exact ⟨J4.out.bel, .inl ⟨HV.out, HT2.out, rfl⟩⟩
    · have HT2 := Lib.hid hbf
      have C1 := Lib.hid (open_range cr sa ta sn sc tn tc S T W.drew (HS.out.grow I1.out.bel) (HT.out.grow I1.out.bel) 66 _ _ hv hbf HCF.out HCL.out)
      clear hbf hv
      have b0 := cellAt I0.out.bx 0
      have b1 := cellAt I0.out.bx 1
      have b2 := cellAt I0.out.bx 2
      have b3 := cellAt I0.out.s 0
      have r0 := cellAt I0.out.r0 0
      have r1 := cellAt I0.out.r0 1
      have r2 := cellAt I0.out.r1 0
      have f0 := freeAt I0.out.r0 0
      have f1 := freeAt I0.out.r0 1
      have f2 := freeAt I0.out.r1 0
      simp only [List.getElem?_toArray, List.getElem?_cons_zero, List.getElem?_cons_succ] at b0 b1 b2 b3 r0 r1 r2
      go_region_with (first | (go_at_call 46; refine Calls.out (.agg #[.int .i64 cr, .slice sa sn sc, .slice ta tn tc]) C1.out ?_ ?_; (intro w2 hb2; have I2 := Lib.hid (I1.out.grow hb2); have r0 := cellAt I2.out.r0 0; have r1 := cellAt I2.out.r0 1; have r2 := cellAt I2.out.r1 0; simp only [List.getElem?_toArray, List.getElem?_cons_zero, List.getElem?_cons_succ] at r0 r1 r2; clear hb2; simp only [err]; go_wp2_with fail; refine leaves_cons (f := 45) (args := #[bp (w.heap.size + 1 + 1 + 1)]) (by simp) (by simp [go_sem]) ?_; refine (answer_panicking _ 0 2 [] _ I2.out.r1).mono ?_; rintro e u' w'' ⟨rfl, rfl, rfl⟩; simp [Leaves, settle, results, Try.results21, go_sem, r0, r1, r2]; exact ⟨I2.out.bel.setCell (by dsimp only; omega) _, .inr (.inl ⟨HV.out, HT2.out, rfl⟩)⟩); intro hF) | (go_at_call 67; refine Calls.never (.agg #[.int .i64 0, .int .i64 0]) hF ?_))
      all_goals exact hF.out.elim
  · have HV := Lib.hid hv
    have C1 := Lib.hid (open_arg cr sa ta sn sc tn tc S T W.drew (HS.out.grow I1.out.bel) (HT.out.grow I1.out.bel) 66 _ hv HCF.out)
    clear hv
    have b0 := cellAt I0.out.bx 0
    have b1 := cellAt I0.out.bx 1
    have b2 := cellAt I0.out.bx 2
    have b3 := cellAt I0.out.s 0
    have r0 := cellAt I0.out.r0 0
    have r1 := cellAt I0.out.r0 1
    have r2 := cellAt I0.out.r1 0
    have f0 := freeAt I0.out.r0 0
    have f1 := freeAt I0.out.r0 1
    have f2 := freeAt I0.out.r1 0
    simp only [List.getElem?_toArray, List.getElem?_cons_zero, List.getElem?_cons_succ] at b0 b1 b2 b3 r0 r1 r2
    go_region_with (first | (go_at_call 46; refine Calls.out (.agg #[.int .i64 cr, .slice sa sn sc, .slice ta tn tc]) C1.out ?_ ?_; (intro w2 hb2; have I2 := Lib.hid (I1.out.grow hb2); have r0 := cellAt I2.out.r0 0; have r1 := cellAt I2.out.r0 1; have r2 := cellAt I2.out.r1 0; simp only [List.getElem?_toArray, List.getElem?_cons_zero, List.getElem?_cons_succ] at r0 r1 r2; clear hb2; simp only [err]; go_wp2_with fail; refine leaves_cons (f := 45) (args := #[bp (w.heap.size + 1 + 1 + 1)]) (by simp) (by simp [go_sem]) ?_; refine (answer_panicking _ 0 1 [] _ I2.out.r1).mono ?_; rintro e u' w'' ⟨rfl, rfl, rfl⟩; simp [Leaves, settle, results, Try.results21, go_sem, r0, r1, r2]; exact ⟨I2.out.bel.setCell (by dsimp only; omega) _, .inr (.inr ⟨HV.out, rfl⟩)⟩); intro hF) | (go_at_call 67; refine Calls.never (.agg #[.int .i64 0, .int .i64 0]) hF ?_))
    all_goals exact hF.out.elim
end Go.Proofs.Ytbpeamppkdmdcaa
