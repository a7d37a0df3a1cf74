/-
  Walks: what else 'Whose' asks of wages.
-/
import Derived.Test.YtbpeamppkdmdcaaW12
namespace Go.Proofs.Ytbpeamppkdmdcaa
open Go.RowKit

structure WI (w0 : World) (b1 b2 : Nat) (x : Array Value) (s f : Int) (sa : Option Addr) (sn : Nat) (S : Nat → Sm) (w : World) : Prop where
  bel : Below w0.heap.size w0 w
  bx : BoxAt w w0.heap.size x 77
  s : BoxAt w b1 #[.int .i64 s] 3
  f : BoxAt w b2 #[.int .i64 f] 3
  sm : SeamsAt w sa sn S
theorem WI.grow {w0 : World} {b1 b2 : Nat} {x : Array Value} {s f : Int} {sa : Option Addr} {sn : Nat} {S : Nat → Sm} {w w' : World} (h : WI w0 b1 b2 x s f sa sn S w) (hb : Below w.heap.size w w') : WI w0 b1 b2 x s f sa sn S w' :=
  ⟨h.bel.trans (hb.mono (Nat.le_of_lt (lt_of_heap h.bx))), h.bx.grow hb, h.s.grow hb, h.f.grow hb, h.sm.grow hb⟩

theorem WI.cells {w0 : World} {b1 b2 : Nat} {cr : Int} {sn sc tn tc : Nat} {ta : Option Addr} {s f : Int} {sa : Option Addr} {S : Nat → Sm} {w' : World} (h : WI w0 b1 b2 #[.int .i64 cr, .slice sa sn sc, .slice ta tn tc] s f sa sn S w') (s0 : 0 ≤ s) (s1 : s < sn) :
    (w'.cell? ⟨w0.heap.size, 0, none⟩ = some (.int .i64 cr) ∧ w'.cell? ⟨w0.heap.size, 1, none⟩ = some (.slice sa sn sc) ∧ w'.cell? ⟨w0.heap.size, 2, none⟩ = some (.slice ta tn tc) ∧ w'.cell? ⟨b1, 0, none⟩ = some (.int .i64 s) ∧ w'.cell? ⟨b2, 0, none⟩ = some (.int .i64 f) ∧ w'.cell? ⟨blk sa, ofs sa + s.toNat * 2, none⟩ = some (.int .i64 (S s.toNat).fat)) ∧ WI w0 b1 b2 #[.int .i64 cr, .slice sa sn sc, .slice ta tn tc] s f sa sn S w' :=
  ⟨⟨cellAt h.bx 0, cellAt h.bx 1, cellAt h.bx 2, cellAt h.s 0, cellAt h.f 0, (h.sm.at (by omega)).1⟩, h⟩
theorem WI.cells0 {w0 : World} {b1 b2 : Nat} {cr : Int} {sn sc tn tc : Nat} {ta : Option Addr} {s f : Int} {sa : Option Addr} {S : Nat → Sm} {w' : World} (h : WI w0 b1 b2 #[.int .i64 cr, .slice sa sn sc, .slice ta tn tc] s f sa sn S w') :
    (w'.cell? ⟨w0.heap.size, 0, none⟩ = some (.int .i64 cr) ∧ w'.cell? ⟨w0.heap.size, 1, none⟩ = some (.slice sa sn sc) ∧ w'.cell? ⟨w0.heap.size, 2, none⟩ = some (.slice ta tn tc) ∧ w'.cell? ⟨b1, 0, none⟩ = some (.int .i64 s) ∧ w'.cell? ⟨b2, 0, none⟩ = some (.int .i64 f)) ∧ WI w0 b1 b2 #[.int .i64 cr, .slice sa sn sc, .slice ta tn tc] s f sa sn S w' :=
  ⟨⟨cellAt h.bx 0, cellAt h.bx 1, cellAt h.bx 2, cellAt h.s 0, cellAt h.f 0⟩, h⟩

set_option maxRecDepth 100000 in
set_option maxHeartbeats 2000000 in
theorem whose1_any (cr : Int) (sa ta : Option Addr) (sn sc tn tc : Nat) (S : Nat → Sm) (s f : Int) (b1 b2 : Nat) (w : World) (hs : sn ≤ maxLen) (hf : ∀ j, j < sn → 0 ≤ (S j).fat ∧ (S j).fat ≤ 20) (hS : SeamsAt w sa sn S) (hb1 : BoxAt w b1 #[.int .i64 s] 3) (hb2 : BoxAt w b2 #[.int .i64 f] 3) :
    Calls Try.prog 56 #[.agg #[.int .i64 cr, .slice sa sn sc, .slice ta tn tc], bp b1, bp b2] w fun e w' => e = .returned (.bool (inB s 0 (sn - 1) && inB f 0 ((S s.toNat).fat - 1))) ∧ Below w.heap.size w w' := by
  have H1 := Lib.hid hb1
  have H2 := Lib.hid hb2
  have HS := Lib.hid hS
  have HF := Lib.hid hf
  clear hb1 hb2 hS hf
  have hcases : inB s 0 (sn - 1) = true ∨ inB s 0 (sn - 1) = false := by cases inB s 0 (sn - 1) <;> simp
  rcases hcases with x1 | x1
  · have hsm := inB_iff.1 x1
    have s0 : (0 : Int) ≤ s := hsm.1
    have s1 : s < (sn : Int) := by omega
    clear hsm
    have hix := fun w => run_indexAt_int (w := w) (cap := sc) (k := s) (n := sn) Try.underlying22 size52 (HS.out.plain (by omega)) s0 s1
    have hff := HF.out s.toNat (by omega)
    have hwr : IntKind.i64.wrap ((S s.toNat).fat - 1) = (S s.toNat).fat - 1 := IntWalk.i64_in _ (by omega)
    have HG := Lib.hid hff
    clear hff
    go_enter Try.func56, Try.ntmps56
    go_wp2_with fail
    generalize hW : World.alloc _ _ = W
    obtain ⟨q0, hz, hB⟩ := blocks1 hW
    clear hW hz
    have HB := Lib.hid hB
    have I0 := Lib.hid (show WI w b1 b2 #[.int .i64 cr, .slice sa sn sc, .slice ta tn tc] s f sa sn S W from ⟨hB, q0, H1.out.grow hB, H2.out.grow hB, HS.out.grow hB⟩)
    clear hB q0
    have J0 := Lib.hid ((I0.out.grow (Below.drew (Below.refl _ _))).cells s0 s1)
    obtain ⟨WB, hwb⟩ : ∃ WB, WB = W := ⟨_, rfl⟩
    go_region_held3 (fun w' => (w'.cell? ⟨w.heap.size, 0, none⟩ = some (.int .i64 cr) ∧ w'.cell? ⟨w.heap.size, 1, none⟩ = some (.slice sa sn sc) ∧ w'.cell? ⟨w.heap.size, 2, none⟩ = some (.slice ta tn tc) ∧ w'.cell? ⟨b1, 0, none⟩ = some (.int .i64 s) ∧ w'.cell? ⟨b2, 0, none⟩ = some (.int .i64 f) ∧ w'.cell? ⟨blk sa, ofs sa + s.toNat * 2, none⟩ = some (.int .i64 (S s.toNat).fat)) ∧ WI w b1 b2 #[.int .i64 cr, .slice sa sn sc, .slice ta tn tc] s f sa sn S w')
      (first | exact J0.out | (go_split_ands; exact WI.cells (WI.grow (by assumption) hb1) s0 s1) | (go_split_ands; exact ⟨⟨by assumption, by assumption, by assumption, by assumption, by assumption, by assumption⟩, by assumption⟩))
      (first | (go_at_call 48; refine (isSeam_any _ _ _ _ _ _ _ _ _ hs).mono ?_; rintro e w4 ⟨rfl, hb1⟩) | (go_at_call 57; refine (within_any _ _ _ _).mono ?_; rintro e w' ⟨rfl, rfl⟩))
    obtain ⟨_, J⟩ := ‹_ ∧ WI w b1 b2 #[.int .i64 cr, .slice sa sn sc, .slice ta tn tc] s f sa sn S _›
    have HJ := Lib.hid J
    clear J
    go_wp2_with fail
    go_ret
    exact ⟨by rw [x1]; rfl, HJ.out.bel⟩
  · go_enter Try.func56, Try.ntmps56
    go_wp2_with fail
    generalize hW : World.alloc _ _ = W
    obtain ⟨q0, hz, hB⟩ := blocks1 hW
    clear hW hz
    have HB := Lib.hid hB
    have I0 := Lib.hid (show WI w b1 b2 #[.int .i64 cr, .slice sa sn sc, .slice ta tn tc] s f sa sn S W from ⟨hB, q0, H1.out.grow hB, H2.out.grow hB, HS.out.grow hB⟩)
    clear hB q0
    have J0 := Lib.hid ((I0.out.grow (Below.drew (Below.refl _ _))).cells0)
    refine wp_region_held_drew (S := (fun w' => (w'.cell? ⟨w.heap.size, 0, none⟩ = some (.int .i64 cr) ∧ w'.cell? ⟨w.heap.size, 1, none⟩ = some (.slice sa sn sc) ∧ w'.cell? ⟨w.heap.size, 2, none⟩ = some (.slice ta tn tc) ∧ w'.cell? ⟨b1, 0, none⟩ = some (.int .i64 s) ∧ w'.cell? ⟨b2, 0, none⟩ = some (.int .i64 f)) ∧ WI w b1 b2 #[.int .i64 cr, .slice sa sn sc, .slice ta tn tc] s f sa sn S w')) (by kernel_rfl) J0.out (fun hHeld => ?_)
    refine wpAnyH_take (i := 0) (oi := { dst := some 5, op := Op.load 77 (Operand.tmp 3), type := 77, pos := "wage.go:208", after := #[], guard := none }) (v := ?_) rfl (by kernel_rfl) (by kernel_rfl) (by kernel_rfl) (fun _ _ _ h => h) (Or.inl ⟨by rfl, ?_⟩) (by assumption) ?_
    rotate_left
    · (intro w9 hSw; (try dsimp only at hSw); (go_split_ands; go_simp); (try with_reducible rfl))
    try simp only [Act.put, List.setIfInBounds_toArray, List.set_cons_zero, List.set_cons_succ]
    refine wpAnyH_take (i := 1) (oi := { dst := some 6, op := Op.load 3 (Operand.tmp 1), type := 3, pos := "wage.go:208", after := #[], guard := none }) (v := ?_) rfl (by kernel_rfl) (by kernel_rfl) (by kernel_rfl) (fun _ _ _ h => h) (Or.inl ⟨by rfl, ?_⟩) (by assumption) ?_
    rotate_left
    · (intro w9 hSw; (try dsimp only at hSw); (go_split_ands; go_simp); (try with_reducible rfl))
    try simp only [Act.put, List.setIfInBounds_toArray, List.set_cons_zero, List.set_cons_succ]
    refine wpAnyH_ready (rs := [2]) (by kernel_rfl) (by simp) ?_
    refine AllReadyH.cons (o := { dst := some 7, op := Op.call { callee := Callee.value (Operand.func 48), args := #[Operand.tmp 5, Operand.tmp 6], argTypes := #[77, 3] }, type := 4, pos := "wage.go:208", after := #[{ on := 0, ground := Ground.data }, { on := 1, ground := Ground.data }], guard := none }) rfl (fun K hK => ?_) AllReadyH.nil
    go_simp
    go_at_call 48; refine (isSeam_any _ _ _ _ _ _ _ _ _ hs).mono ?_; rintro e w4 ⟨rfl, hb1⟩
    go_wp2_with fail
    refine hK.out _ _ ?_ (fun hHeld => ?_)
    · exact WI.cells0 (WI.grow (And.right (by assumption)) hb1)
    clear hK K
    try simp only [Act.put, List.setIfInBounds_toArray, List.set_cons_zero, List.set_cons_succ]
    refine wpAnyH_take (i := 3) (oi := { dst := some 8, op := Op.move (Operand.tmp 7), type := 4, pos := "wage.go:208", after := #[{ on := 2, ground := Ground.data }, { on := 2, ground := Ground.chain }], guard := none }) (v := ?_) rfl (by kernel_rfl) (by kernel_rfl) (by kernel_rfl) (fun _ _ _ h => h) (Or.inl ⟨by rfl, ?_⟩) (by assumption) ?_
    rotate_left
    · (intro w9 hSw; (try dsimp only at hSw); (go_split_ands; go_simp); (try with_reducible rfl))
    try simp only [Act.put, List.setIfInBounds_toArray, List.set_cons_zero, List.set_cons_succ]
    refine wpAnyH_take (i := 4) (oi := { dst := some 9, op := Op.load 3 (Operand.tmp 2), type := 3, pos := "wage.go:208", after := #[{ on := 3, ground := Ground.guard }], guard := some (3, true) }) (v := undef) rfl (by kernel_rfl) (by kernel_rfl) (by kernel_rfl) (fun _ _ _ h => h) (Or.inr ⟨by rfl, rfl⟩) (by assumption) ?_
    try simp only [Act.put, List.setIfInBounds_toArray, List.set_cons_zero, List.set_cons_succ]
    refine wpAnyH_take (i := 5) (oi := { dst := some 10, op := Op.fieldAddr 77 (Operand.tmp 3) 0, type := 0, pos := "wage.go:208", after := #[{ on := 3, ground := Ground.guard }], guard := some (3, true) }) (v := undef) rfl (by kernel_rfl) (by kernel_rfl) (by kernel_rfl) (fun _ _ _ h => h) (Or.inr ⟨by rfl, rfl⟩) (by assumption) ?_
    try simp only [Act.put, List.setIfInBounds_toArray, List.set_cons_zero, List.set_cons_succ]
    refine wpAnyH_take (i := 6) (oi := { dst := some 11, op := Op.fieldAddr 25 (Operand.tmp 10) 1, type := 0, pos := "wage.go:208", after := #[{ on := 5, ground := Ground.data }, { on := 3, ground := Ground.guard }], guard := some (3, true) }) (v := undef) rfl (by kernel_rfl) (by kernel_rfl) (by kernel_rfl) (fun _ _ _ h => h) (Or.inr ⟨by rfl, rfl⟩) (by assumption) ?_
    try simp only [Act.put, List.setIfInBounds_toArray, List.set_cons_zero, List.set_cons_succ]
    refine wpAnyH_take (i := 7) (oi := { dst := some 12, op := Op.load 22 (Operand.tmp 11), type := 22, pos := "wage.go:208", after := #[{ on := 6, ground := Ground.data }, { on := 3, ground := Ground.guard }], guard := some (3, true) }) (v := undef) rfl (by kernel_rfl) (by kernel_rfl) (by kernel_rfl) (fun _ _ _ h => h) (Or.inr ⟨by rfl, rfl⟩) (by assumption) ?_
    try simp only [Act.put, List.setIfInBounds_toArray, List.set_cons_zero, List.set_cons_succ]
    refine wpAnyH_take (i := 8) (oi := { dst := some 13, op := Op.load 3 (Operand.tmp 1), type := 3, pos := "wage.go:208", after := #[{ on := 3, ground := Ground.guard }], guard := some (3, true) }) (v := undef) rfl (by kernel_rfl) (by kernel_rfl) (by kernel_rfl) (fun _ _ _ h => h) (Or.inr ⟨by rfl, rfl⟩) (by assumption) ?_
    try simp only [Act.put, List.setIfInBounds_toArray, List.set_cons_zero, List.set_cons_succ]
    refine wpAnyH_take (i := 9) (oi := { dst := some 14, op := Op.indexAddr 22 (Operand.tmp 12) (Operand.tmp 13), type := 0, pos := "wage.go:208", after := #[{ on := 7, ground := Ground.data }, { on := 8, ground := Ground.data }, { on := 3, ground := Ground.guard }], guard := some (3, true) }) (v := undef) rfl (by kernel_rfl) (by kernel_rfl) (by kernel_rfl) (fun _ _ _ h => h) (Or.inr ⟨by rfl, rfl⟩) (by assumption) ?_
    try simp only [Act.put, List.setIfInBounds_toArray, List.set_cons_zero, List.set_cons_succ]
    refine wpAnyH_take (i := 10) (oi := { dst := some 15, op := Op.fieldAddr 52 (Operand.tmp 14) 0, type := 0, pos := "wage.go:208", after := #[{ on := 9, ground := Ground.data }, { on := 3, ground := Ground.guard }], guard := some (3, true) }) (v := undef) rfl (by kernel_rfl) (by kernel_rfl) (by kernel_rfl) (fun _ _ _ h => h) (Or.inr ⟨by rfl, rfl⟩) (by assumption) ?_
    try simp only [Act.put, List.setIfInBounds_toArray, List.set_cons_zero, List.set_cons_succ]
    refine wpAnyH_take (i := 11) (oi := { dst := some 16, op := Op.load 3 (Operand.tmp 15), type := 3, pos := "wage.go:208", after := #[{ on := 10, ground := Ground.data }, { on := 3, ground := Ground.guard }], guard := some (3, true) }) (v := undef) rfl (by kernel_rfl) (by kernel_rfl) (by kernel_rfl) (fun _ _ _ h => h) (Or.inr ⟨by rfl, rfl⟩) (by assumption) ?_
    try simp only [Act.put, List.setIfInBounds_toArray, List.set_cons_zero, List.set_cons_succ]
    refine wpAnyH_take (i := 12) (oi := { dst := some 17, op := Op.binOp BinOp.sub 3 (Operand.tmp 16) (Operand.const (Value.int IntKind.i64 1)) 3, type := 3, pos := "wage.go:208", after := #[{ on := 11, ground := Ground.data }, { on := 3, ground := Ground.guard }], guard := some (3, true) }) (v := undef) rfl (by kernel_rfl) (by kernel_rfl) (by kernel_rfl) (fun _ _ _ h => h) (Or.inr ⟨by rfl, rfl⟩) (by assumption) ?_
    try simp only [Act.put, List.setIfInBounds_toArray, List.set_cons_zero, List.set_cons_succ]
    refine wpAnyH_take (i := 13) (oi := { dst := some 18, op := Op.call { callee := Callee.value (Operand.func 57), args := #[Operand.tmp 9, Operand.const (Value.int IntKind.i64 0), Operand.tmp 17], argTypes := #[3, 3, 3] }, type := 4, pos := "wage.go:208", after := #[{ on := 4, ground := Ground.data }, { on := 12, ground := Ground.data }, { on := 3, ground := Ground.chain }, { on := 3, ground := Ground.guard }], guard := some (3, true) }) (v := undef) rfl (by kernel_rfl) (by kernel_rfl) (by kernel_rfl) (fun _ _ _ h => h) (Or.inr ⟨by rfl, rfl⟩) (by assumption) ?_
    try simp only [Act.put, List.setIfInBounds_toArray, List.set_cons_zero, List.set_cons_succ]
    refine wpAnyH_take (i := 14) (oi := { dst := some 19, op := Op.pick (Operand.tmp 8) (Operand.tmp 18) (Operand.const (Value.bool false)), type := 4, pos := "wage.go:208", after := #[{ on := 3, ground := Ground.data }, { on := 13, ground := Ground.data }], guard := none }) (v := ?_) rfl (by kernel_rfl) (by kernel_rfl) (by kernel_rfl) (fun _ _ _ h => h) (Or.inl ⟨by rfl, ?_⟩) (by assumption) ?_
    rotate_left
    · (intro w9 hSw; (try dsimp only at hSw); (go_split_ands; go_simp); (try with_reducible rfl))
    try simp only [Act.put, List.setIfInBounds_toArray, List.set_cons_zero, List.set_cons_succ]
    refine wpAnyH_take (i := 15) (oi := { dst := some 4, op := Op.assign (Operand.tmp 19), type := 4, pos := "wage.go:208", after := #[{ on := 14, ground := Ground.data }, { on := 13, ground := Ground.chain }, { on := 0, ground := Ground.phase }, { on := 1, ground := Ground.phase }, { on := 2, ground := Ground.phase }, { on := 3, ground := Ground.phase }, { on := 4, ground := Ground.phase }, { on := 5, ground := Ground.phase }, { on := 6, ground := Ground.phase }, { on := 7, ground := Ground.phase }, { on := 8, ground := Ground.phase }, { on := 9, ground := Ground.phase }, { on := 10, ground := Ground.phase }, { on := 11, ground := Ground.phase }, { on := 12, ground := Ground.phase }, { on := 13, ground := Ground.phase }, { on := 14, ground := Ground.phase }], guard := none }) (v := ?_) rfl (by kernel_rfl) (by kernel_rfl) (by kernel_rfl) (fun _ _ _ h => h) (Or.inl ⟨by rfl, ?_⟩) (by assumption) ?_
    rotate_left
    · (intro w9 hSw; (try dsimp only at hSw); (go_split_ands; go_simp); (try with_reducible rfl))
    try simp only [Act.put, List.setIfInBounds_toArray, List.set_cons_zero, List.set_cons_succ]
    refine wpAnyH_done (by kernel_rfl) ?_ _
    have HJ := Lib.hid (And.right hHeld)
    clear hHeld
    go_wp2_with fail
    go_ret
    exact ⟨by rw [x1]; rfl, HJ.out.bel⟩

end Go.Proofs.Ytbpeamppkdmdcaa
