/-
  Walks: the exported functions: how many fathoms are left.
-/
import Derived.Test.YtbpeamppkdmdcaaW15
namespace Go.Proofs.Ytbpeamppkdmdcaa
open Go.RowKit

/-- The boxes of a function with wages and one number: its results' boxes too. -/
structure F1 (w : World) (x : Array Value) (s : Int) (w' : World) : Prop where
  bel : Below w.heap.size w w'
  bx : BoxAt w' w.heap.size x 25
  s : BoxAt w' (w.heap.size + 1) #[.int .i64 s] 3
  r0 : BoxAt w' (w.heap.size + 1 + 1) #[.int .i64 0, .int .i64 0] 29
  r1 : BoxAt w' (w.heap.size + 1 + 1 + 1) #[.int .i64 0] 30
theorem F1.grow {w : World} {x : Array Value} {s : Int} {w1 w2 : World} (h : F1 w x s w1) (hb : Below w1.heap.size w1 w2) : F1 w x s w2 :=
  ⟨h.bel.trans (hb.mono (Nat.le_of_lt (lt_of_heap h.bx))), h.bx.grow hb, h.s.grow hb, h.r0.grow hb, h.r1.grow hb⟩
structure G1 (w : World) (bx : Nat) (x : Array Value) (s : Int) (w' : World) : Prop where
  bel : Below w.heap.size w w'
  box : BoxAt w' bx x 77
  s : BoxAt w' (w.heap.size + 1) #[.int .i64 s] 3
  le : w.heap.size ≤ bx
theorem G1.grow {w : World} {bx : Nat} {x : Array Value} {s : Int} {w1 w2 : World} (h : G1 w bx x s w1) (hb : Below w1.heap.size w1 w2) : G1 w bx x s w2 :=
  ⟨h.bel.trans (hb.mono (by have := lt_of_heap h.s; omega)), h.box.grow hb, h.s.grow hb, h.le⟩
theorem G1.set {w : World} {bx : Nat} {x : Array Value} {s : Int} {w1 : World} (h : G1 w bx x s w1) (p : Addr) (v : Value) (h0 : w.heap.size ≤ p.block) (h1 : p.block ≠ bx) (h2 : p.block ≠ w.heap.size + 1) : G1 w bx x s (w1.setCell p v) :=
  ⟨h.bel.setCell h0 v, h.box.set p v h1, h.s.set p v h2, h.le⟩
theorem G1.cells {w : World} {bx : Nat} {cr : Int} {sa ta : Option Addr} {sn sc tn tc : Nat} {s : Int} {w' : World} (h : G1 w bx #[.int .i64 cr, .slice sa sn sc, .slice ta tn tc] s w') :
    (w'.cell? ⟨bx, 0, none⟩ = some (.int .i64 cr) ∧ w'.cell? ⟨bx, 1, none⟩ = some (.slice sa sn sc) ∧ w'.cell? ⟨bx, 2, none⟩ = some (.slice ta tn tc) ∧ w'.cell? ⟨w.heap.size + 1, 0, none⟩ = some (.int .i64 s)) ∧ G1 w bx #[.int .i64 cr, .slice sa sn sc, .slice ta tn tc] s w' :=
  ⟨⟨cellAt h.box 0, cellAt h.box 1, cellAt h.box 2, cellAt h.s 0⟩, h⟩

set_option maxRecDepth 100000 in
set_option maxHeartbeats 4000000 in
theorem left_any (cr : Int) (sa ta : Option Addr) (sn sc tn tc : Nat) (S : Nat → Sm) (T : Nat → Tk) (s : Int) (w : World) (hS : SeamsAt w sa sn S) (hT : TicketsAt w ta tn T) :
    Calls Try.prog 17 #[.agg #[.int .i64 cr, .slice sa sn sc, .slice ta tn tc], .int .i64 s] w
      (Said w (Valid cr sn tn S T) (inB s 0 (sn - 1)) (.tuple #[.agg #[.int .i64 (manyOf S T (leastK (-1) T) tn s (-1)), .int .i64 (manyOf S T (mostK (-1) T) tn s (-1))], .int .i64 0]) (.tuple #[.agg #[.int .i64 0, .int .i64 0], .int .i64 2]) (.tuple #[.agg #[.int .i64 0, .int .i64 0], .int .i64 1])) := by
  have HS := Lib.hid hS
  have HT := Lib.hid hT
  clear hS hT
  have hmf : ∀ (fn : Fn) (first cap : Array Value) (w : World), (Instr.makeFunc fn first cap).run Try.prog w = .ok (.func fn first cap) w := fun _ _ _ _ => rfl
  go_enter_defers Try.func17, Try.ntmps17
  go_wp2_with fail
  generalize hW : World.alloc _ _ = W
  obtain ⟨q0, q1, q2, q3, hz, hB⟩ := blocks4 hW
  clear hW hz
  have I0 := Lib.hid (show F1 w #[.int .i64 cr, .slice sa sn sc, .slice ta tn tc] s W from ⟨hB, q0, q1, q2, q3⟩)
  have HB := Lib.hid hB
  clear q0 q1 q2 q3 hB
  refine (open_any cr sa ta sn sc tn tc S T W (HS.out.grow HB.out) (HT.out.grow HB.out) 55 #[bp (w.heap.size + 1)] (inB s 0 (sn - 1)) ?_ ?_).mono ?_
  · intro W1; kernel_rfl
  · intro W1 hb hv
    exact left1_any cr sa ta sn sc tn tc s _ W1 (by have := hv.sn3; unfold maxLen; omega) (I0.out.s.grow hb)
  rintro e w1 ⟨hb, h⟩
  have I1 := Lib.hid (I0.out.grow hb)
  clear hb
  rcases h with ⟨hv, hbt, rfl⟩ | ⟨hv, hbf, rfl⟩ | ⟨hnv, rfl⟩
  · have HV := Lib.hid hv
    have HT2 := Lib.hid hbt
    have hbt' := inB_iff.1 hbt
    have s0 : 0 ≤ s := hbt'.1
    have s1 : s < sn := by omega
    clear hbt'
    have C1 := Lib.hid (fun W' (hb : Below w.heap.size w W') => many_any cr sa ta sn sc tn tc S T (leastK (-1) T) W' (HS.out.grow hb) (HT.out.grow hb) HV.out (HV.out.least (-1)) 85 _ 124 (truth_least W' (-1) tn T) s (-1) s0 s1 (by decide) (by decide))
    have C2 := Lib.hid (fun W' (hb : Below w.heap.size w W') => many_any cr sa ta sn sc tn tc S T (mostK (-1) T) W' (HS.out.grow hb) (HT.out.grow hb) HV.out (HV.out.most (-1)) 83 _ 58 (truth_most W' (-1) tn T) s (-1) s0 s1 (by decide) (by decide))
    clear s0 s1 hbt hv
    go_wp2_with fail
    generalize hW2 : World.alloc _ _ = W2
    obtain ⟨q0, hz, hB⟩ := blocks1 hW2
    have I2 := Lib.hid (I1.out.grow hB)
    have I3 := Lib.hid (I2.out.grow (Below.drew (Below.refl _ _)))
    have hlt := lt_of_heap I1.out.r1
    obtain ⟨bx, hbx⟩ : ∃ bx, bx = w1.heap.size := ⟨_, rfl⟩
    rw [← hbx] at q0 hlt ⊢
    have J0 := Lib.hid (show G1 w bx #[.int .i64 cr, .slice sa sn sc, .slice ta tn tc] s W2.drew from G1.grow ⟨I2.out.bel, q0, I2.out.s, by omega⟩ (Below.drew (Below.refl _ _)))
    have n3 : w.heap.size + 1 + 1 ≠ bx := by omega
    have n4 : w.heap.size + 1 + 1 + 1 ≠ bx := by omega
    clear hW2 q0 hz hB hbx hlt
    refine wp_region_noPanic ?_
    refine wp_region_held_drew (S := (fun w' => (w'.cell? ⟨bx, 0, none⟩ = some (.int .i64 cr) ∧ w'.cell? ⟨bx, 1, none⟩ = some (.slice sa sn sc) ∧ w'.cell? ⟨bx, 2, none⟩ = some (.slice ta tn tc) ∧ w'.cell? ⟨w.heap.size + 1, 0, none⟩ = some (.int .i64 s)) ∧ G1 w bx #[.int .i64 cr, .slice sa sn sc, .slice ta tn tc] s w')) (by kernel_rfl) (G1.cells J0.out) (fun hHeld => ?_)
    refine wpAnyH_take (i := 0) (oi := { dst := some 10, op := Op.load 77 (Operand.tmp 6), type := 77, pos := "wage.go:237", after := #[], guard := none }) (v := ?_) rfl (by kernel_rfl) (by kernel_rfl) (by kernel_rfl) (fun _ _ _ h => h) (Or.inl ⟨by rfl, ?_⟩) (by assumption) ?_
    rotate_left
    · (intro w9 hSw; (try dsimp only at hSw); (go_split_ands; go_simp); (try with_reducible rfl))
    try simp only [Act.put, List.setIfInBounds_toArray, List.set_cons_zero, List.set_cons_succ]
    refine wpAnyH_take (i := 1) (oi := { dst := some 11, op := Op.load 3 (Operand.tmp 3), type := 3, pos := "wage.go:237", after := #[], guard := none }) (v := ?_) rfl (by kernel_rfl) (by kernel_rfl) (by kernel_rfl) (fun _ _ _ h => h) (Or.inl ⟨by rfl, ?_⟩) (by assumption) ?_
    rotate_left
    · (intro w9 hSw; (try dsimp only at hSw); (go_split_ands; go_simp); (try with_reducible rfl))
    try simp only [Act.put, List.setIfInBounds_toArray, List.set_cons_zero, List.set_cons_succ]
    refine wpAnyH_take (i := 2) (oi := { dst := some 12, op := Op.build 83 #[(0, Operand.const (Value.int IntKind.i64 (-1)))], type := 83, pos := "wage.go:237", after := #[], guard := none }) (v := ?_) rfl (by kernel_rfl) (by kernel_rfl) (by kernel_rfl) (fun _ _ _ h => h) (Or.inl ⟨by rfl, ?_⟩) (by assumption) ?_
    rotate_left
    · (intro w9 hSw; (try dsimp only at hSw); (go_split_ands; go_simp); (try with_reducible rfl))
    try simp only [Act.put, List.setIfInBounds_toArray, List.set_cons_zero, List.set_cons_succ]
    refine wpAnyH_take (i := 3) (oi := { dst := some 13, op := Op.build 85 #[(0, Operand.tmp 12)], type := 85, pos := "wage.go:237", after := #[{ on := 2, ground := Ground.data }], guard := none }) (v := ?_) rfl (by kernel_rfl) (by kernel_rfl) (by kernel_rfl) (fun _ _ _ h => h) (Or.inl ⟨by rfl, ?_⟩) (by assumption) ?_
    rotate_left
    · (intro w9 hSw; (try dsimp only at hSw); (go_split_ands; go_simp); (try with_reducible rfl))
    try simp only [Act.put, List.setIfInBounds_toArray, List.set_cons_zero, List.set_cons_succ]
    refine wpAnyH_take (i := 4) (oi := { dst := some 14, op := Op.makeInterface 85 (Operand.tmp 13), type := 139, pos := "wage.go:237", after := #[{ on := 3, ground := Ground.data }], guard := none }) (v := ?_) rfl (by kernel_rfl) (by kernel_rfl) (by kernel_rfl) (fun _ _ _ h => h) (Or.inl ⟨by rfl, ?_⟩) (by assumption) ?_
    rotate_left
    · (intro w9 hSw; (try dsimp only at hSw); (go_split_ands; go_simp); (try with_reducible rfl))
    try simp only [Act.put, List.setIfInBounds_toArray, List.set_cons_zero, List.set_cons_succ]
    refine wpAnyH_take (i := 6) (oi := { dst := some 16, op := Op.load 77 (Operand.tmp 6), type := 77, pos := "wage.go:237", after := #[], guard := none }) (v := ?_) rfl (by kernel_rfl) (by kernel_rfl) (by kernel_rfl) (fun _ _ _ h => h) (Or.inl ⟨by rfl, ?_⟩) (by assumption) ?_
    rotate_left
    · (intro w9 hSw; (try dsimp only at hSw); (go_split_ands; go_simp); (try with_reducible rfl))
    try simp only [Act.put, List.setIfInBounds_toArray, List.set_cons_zero, List.set_cons_succ]
    refine wpAnyH_take (i := 7) (oi := { dst := some 17, op := Op.load 3 (Operand.tmp 3), type := 3, pos := "wage.go:237", after := #[], guard := none }) (v := ?_) rfl (by kernel_rfl) (by kernel_rfl) (by kernel_rfl) (fun _ _ _ h => h) (Or.inl ⟨by rfl, ?_⟩) (by assumption) ?_
    rotate_left
    · (intro w9 hSw; (try dsimp only at hSw); (go_split_ands; go_simp); (try with_reducible rfl))
    try simp only [Act.put, List.setIfInBounds_toArray, List.set_cons_zero, List.set_cons_succ]
    refine wpAnyH_take (i := 8) (oi := { dst := some 18, op := Op.build 83 #[(0, Operand.const (Value.int IntKind.i64 (-1)))], type := 83, pos := "wage.go:237", after := #[], guard := none }) (v := ?_) rfl (by kernel_rfl) (by kernel_rfl) (by kernel_rfl) (fun _ _ _ h => h) (Or.inl ⟨by rfl, ?_⟩) (by assumption) ?_
    rotate_left
    · (intro w9 hSw; (try dsimp only at hSw); (go_split_ands; go_simp); (try with_reducible rfl))
    try simp only [Act.put, List.setIfInBounds_toArray, List.set_cons_zero, List.set_cons_succ]
    refine wpAnyH_take (i := 9) (oi := { dst := some 19, op := Op.makeInterface 83 (Operand.tmp 18), type := 139, pos := "wage.go:237", after := #[{ on := 8, ground := Ground.data }], guard := none }) (v := ?_) rfl (by kernel_rfl) (by kernel_rfl) (by kernel_rfl) (fun _ _ _ h => h) (Or.inl ⟨by rfl, ?_⟩) (by assumption) ?_
    rotate_left
    · (intro w9 hSw; (try dsimp only at hSw); (go_split_ands; go_simp); (try with_reducible rfl))
    try simp only [Act.put, List.setIfInBounds_toArray, List.set_cons_zero, List.set_cons_succ]
    refine wpAnyH_ready (rs := [5]) (by kernel_rfl) (by simp) ?_
    refine AllReadyH.cons (o := { dst := some 15, op := Op.call { callee := Callee.value (Operand.func 50), args := #[Operand.tmp 10, Operand.tmp 11, Operand.const (Value.int IntKind.i64 (-1)), Operand.tmp 14], argTypes := #[77, 3, 3, 139] }, type := 3, pos := "wage.go:237", after := #[{ on := 0, ground := Ground.data }, { on := 1, ground := Ground.data }, { on := 4, ground := Ground.data }], guard := none }) rfl (fun K hK => ?_) AllReadyH.nil
    go_simp
    go_at_call 50; refine (C1.out _ I3.out.bel).mono ?_; rintro e w3 ⟨rfl, hb3⟩; have I4 := Lib.hid (I3.out.grow hb3); have B3 := Lib.hid hb3; clear hb3
    go_wp2_with fail
    refine hK.out _ _ ?_ (fun hHeld => ?_)
    · exact G1.cells (G1.grow J0.out B3.out)
    clear hK K
    try simp only [Act.put, List.setIfInBounds_toArray, List.set_cons_zero, List.set_cons_succ]
    have J1 := Lib.hid hHeld.2
    refine wpAnyH_ready (rs := [10]) (by kernel_rfl) (by simp) ?_
    refine AllReadyH.cons (o := { dst := some 20, op := Op.call { callee := Callee.value (Operand.func 50), args := #[Operand.tmp 16, Operand.tmp 17, Operand.const (Value.int IntKind.i64 (-1)), Operand.tmp 19], argTypes := #[77, 3, 3, 139] }, type := 3, pos := "wage.go:237", after := #[{ on := 6, ground := Ground.data }, { on := 7, ground := Ground.data }, { on := 9, ground := Ground.data }, { on := 5, ground := Ground.chain }], guard := none }) rfl (fun K hK => ?_) AllReadyH.nil
    go_simp
    go_at_call 50; refine (C2.out _ I4.out.bel).mono ?_; rintro e w4 ⟨rfl, hb4⟩; have I5 := Lib.hid (I4.out.grow hb4); have B4 := Lib.hid hb4; clear hb4
    go_wp2_with fail
    refine hK.out _ _ ?_ (fun hHeld => ?_)
    · exact G1.cells (G1.grow J1.out B4.out)
    clear hK K
    try simp only [Act.put, List.setIfInBounds_toArray, List.set_cons_zero, List.set_cons_succ]
    have J2 := Lib.hid hHeld.2
    refine wpAnyH_take (i := 11) (oi := { dst := some 21, op := Op.build 29 #[(0, Operand.tmp 15), (1, Operand.tmp 20)], type := 29, pos := "wage.go:237", after := #[{ on := 5, ground := Ground.data }, { on := 10, ground := Ground.data }], guard := none }) (v := ?_) rfl (by kernel_rfl) (by kernel_rfl) (by kernel_rfl) (fun _ _ _ h => h) (Or.inl ⟨by rfl, ?_⟩) (by assumption) ?_
    rotate_left
    · (intro w9 hSw; (try dsimp only at hSw); (go_split_ands; go_simp); (try with_reducible rfl))
    try simp only [Act.put, List.setIfInBounds_toArray, List.set_cons_zero, List.set_cons_succ]
    have r0 := cellAt I5.out.r0 0
    have r1 := cellAt I5.out.r0 1
    have r2 := cellAt I5.out.r1 0
    have f0 := freeAt I5.out.r0 0
    have f1 := freeAt I5.out.r0 1
    have f2 := freeAt I5.out.r1 0
    simp only [List.getElem?_toArray, List.getElem?_cons_zero, List.getElem?_cons_succ] at r0 r1 r2
    refine wpAnyH_ready (rs := [12]) (by kernel_rfl) (by simp) ?_
    refine AllReadyH.cons (o := { dst := none, op := Op.store 29 (Operand.tmp 4) (Operand.tmp 21), type := 0, pos := "wage.go:237", after := #[{ on := 11, ground := Ground.data }, { on := 10, ground := Ground.chain }, { on := 0, ground := Ground.phase }, { on := 1, ground := Ground.phase }, { on := 2, ground := Ground.phase }, { on := 3, ground := Ground.phase }, { on := 4, ground := Ground.phase }, { on := 5, ground := Ground.phase }, { on := 6, ground := Ground.phase }, { on := 7, ground := Ground.phase }, { on := 8, ground := Ground.phase }, { on := 9, ground := Ground.phase }, { on := 10, ground := Ground.phase }, { on := 11, ground := Ground.phase }], guard := none }) rfl (fun K hK => ?_) AllReadyH.nil
    go_simp
    skip
    go_wp2_with fail
    refine hK.out _ _ ?_ (fun hHeld => ?_)
    · exact G1.cells (G1.set (G1.set J2.out _ _ (by dsimp only; omega) (by dsimp only; omega) (by dsimp only; omega)) _ _ (by dsimp only; omega) (by dsimp only; omega) (by dsimp only; omega))
    clear hK K
    try simp only [Act.put, List.setIfInBounds_toArray, List.set_cons_zero, List.set_cons_succ]
    have J3 := Lib.hid hHeld.2
    refine wpAnyH_ready (rs := [13]) (by kernel_rfl) (by simp) ?_
    refine AllReadyH.cons (o := { dst := none, op := Op.store 30 (Operand.tmp 5) (Operand.const (Value.int IntKind.i64 0)), type := 0, pos := "wage.go:237", after := #[{ on := 12, ground := Ground.chain }, { on := 0, ground := Ground.phase }, { on := 1, ground := Ground.phase }, { on := 2, ground := Ground.phase }, { on := 3, ground := Ground.phase }, { on := 4, ground := Ground.phase }, { on := 5, ground := Ground.phase }, { on := 6, ground := Ground.phase }, { on := 7, ground := Ground.phase }, { on := 8, ground := Ground.phase }, { on := 9, ground := Ground.phase }, { on := 10, ground := Ground.phase }, { on := 11, ground := Ground.phase }, { on := 12, ground := Ground.phase }], guard := none }) rfl (fun K hK => ?_) AllReadyH.nil
    go_simp
    skip
    go_wp2_with fail
    refine hK.out _ _ ?_ (fun hHeld => ?_)
    · exact G1.cells (G1.set J3.out _ _ (by dsimp only; omega) (by dsimp only; omega) (by dsimp only; omega))
    clear hK K
    try simp only [Act.put, List.setIfInBounds_toArray, List.set_cons_zero, List.set_cons_succ]
    have J4 := Lib.hid hHeld.2
    refine wpAnyH_done (by kernel_rfl) ?_ _
    refine NoPanic.normal ?_
    clear hHeld
    go_wp2_with fail
    refine leaves_cons (f := 45) (args := #[bp (w.heap.size + 1 + 1 + 1)]) (by simp) (by simp [go_sem]) ?_
    refine (answer_idle _ _).mono ?_
    rintro e u' w'' ⟨rfl, rfl, rfl⟩
    simp [Leaves, settle, results, Try.results17, go_sem, r0, r1, r2]
    exact ⟨J4.out.bel, .inl ⟨HV.out, HT2.out, rfl⟩⟩
  · have HV := Lib.hid hv
    have HT2 := Lib.hid hbf
    clear hv hbf
    simp only [err]
    go_wp2_with fail
    refine leaves_cons (f := 45) (args := #[bp (w.heap.size + 1 + 1 + 1)]) (by simp) (by simp [go_sem]) ?_
    refine (answer_panicking _ 0 2 [] _ I1.out.r1).mono ?_
    rintro e u' w'' ⟨rfl, rfl, rfl⟩
    have r0 := cellAt I1.out.r0 0
    have r1 := cellAt I1.out.r0 1
    have r2 := cellAt I1.out.r1 0
    simp only [List.getElem?_toArray, List.getElem?_cons_zero, List.getElem?_cons_succ] at r0 r1 r2
    simp [Leaves, settle, results, Try.results17, go_sem, r0, r1, r2]
    exact ⟨I1.out.bel.setCell (by dsimp only; omega) _, .inr (.inl ⟨HV.out, HT2.out, rfl⟩)⟩
  · have HV := Lib.hid hnv
    clear hnv
    simp only [err]
    go_wp2_with fail
    refine leaves_cons (f := 45) (args := #[bp (w.heap.size + 1 + 1 + 1)]) (by simp) (by simp [go_sem]) ?_
    refine (answer_panicking _ 0 1 [] _ I1.out.r1).mono ?_
    rintro e u' w'' ⟨rfl, rfl, rfl⟩
    have r0 := cellAt I1.out.r0 0
    have r1 := cellAt I1.out.r0 1
    have r2 := cellAt I1.out.r1 0
    simp only [List.getElem?_toArray, List.getElem?_cons_zero, List.getElem?_cons_succ] at r0 r1 r2
    simp [Leaves, settle, results, Try.results17, go_sem, r0, r1, r2]
    exact ⟨I1.out.bel.setCell (by dsimp only; omega) _, .inr (.inr ⟨HV.out, rfl⟩)⟩
end Go.Proofs.Ytbpeamppkdmdcaa
