/-
  Walks: the exported functions: how many fathoms are due.
-/
import Derived.Test.YtbpeamppkdmdcaaW14
namespace Go.Proofs.Ytbpeamppkdmdcaa
open Go.RowKit

/-- What an exported function says: all is well; what is asked besides is not so; the wages are not valid. -/
def Said (w : World) (V : Prop) (b : Bool) (x x2 x1 : Value) (e : Ending) (w' : World) : Prop :=
  Below w.heap.size w w' ∧ ((V ∧ b = true ∧ e = .returned x) ∨ (V ∧ b = false ∧ e = .returned x2) ∨ (¬ V ∧ e = .returned x1))

structure FI (w : World) (x : Array Value) (s c : Int) (w' : World) : Prop where
  bel : Below w.heap.size w w'
  bx : BoxAt w' w.heap.size x 25
  s : BoxAt w' (w.heap.size + 1) #[.int .i64 s] 3
  c : BoxAt w' (w.heap.size + 1 + 1) #[.int .i64 c] 3
  r0 : BoxAt w' (w.heap.size + 1 + 1 + 1) #[.int .i64 0, .int .i64 0] 29
  r1 : BoxAt w' (w.heap.size + 1 + 1 + 1 + 1) #[.int .i64 0] 30
theorem FI.grow {w : World} {x : Array Value} {s c : Int} {w1 w2 : World} (h : FI w x s c w1) (hb : Below w1.heap.size w1 w2) : FI w x s c w2 :=
  ⟨h.bel.trans (hb.mono (Nat.le_of_lt (lt_of_heap h.bx))), h.bx.grow hb, h.s.grow hb, h.c.grow hb, h.r0.grow hb, h.r1.grow hb⟩

/-- What the last region reads: it stays while the results are stored. -/
structure GI (w : World) (bx : Nat) (x : Array Value) (s c : Int) (w' : World) : Prop where
  bel : Below w.heap.size w w'
  box : BoxAt w' bx x 77
  s : BoxAt w' (w.heap.size + 1) #[.int .i64 s] 3
  c : BoxAt w' (w.heap.size + 1 + 1) #[.int .i64 c] 3
  le : w.heap.size ≤ bx
theorem GI.grow {w : World} {bx : Nat} {x : Array Value} {s c : Int} {w1 w2 : World} (h : GI w bx x s c w1) (hb : Below w1.heap.size w1 w2) : GI w bx x s c w2 :=
  ⟨h.bel.trans (hb.mono (by have := lt_of_heap h.s; omega)), h.box.grow hb, h.s.grow hb, h.c.grow hb, h.le⟩
theorem BoxAt.set {w : World} {b : Nat} {x : Array Value} {t : TypeId} (h : BoxAt w b x t) (p : Addr) (v : Value) (hn : p.block ≠ b) : BoxAt (w.setCell p v) b x t :=
  (Below.heap_setCell w p v b (fun e => hn e.symm)).trans h
theorem GI.set {w : World} {bx : Nat} {x : Array Value} {s c : Int} {w1 : World} (h : GI w bx x s c w1) (p : Addr) (v : Value) (h0 : w.heap.size ≤ p.block) (h1 : p.block ≠ bx) (h2 : p.block ≠ w.heap.size + 1) (h3 : p.block ≠ w.heap.size + 1 + 1) : GI w bx x s c (w1.setCell p v) :=
  ⟨h.bel.setCell h0 v, h.box.set p v h1, h.s.set p v h2, h.c.set p v h3, h.le⟩
theorem GI.cells {w : World} {bx : Nat} {cr : Int} {sa ta : Option Addr} {sn sc tn tc : Nat} {s c : Int} {w' : World} (h : GI w bx #[.int .i64 cr, .slice sa sn sc, .slice ta tn tc] s c w') :
    (w'.cell? ⟨bx, 0, none⟩ = some (.int .i64 cr) ∧ w'.cell? ⟨bx, 1, none⟩ = some (.slice sa sn sc) ∧ w'.cell? ⟨bx, 2, none⟩ = some (.slice ta tn tc) ∧ w'.cell? ⟨w.heap.size + 1, 0, none⟩ = some (.int .i64 s) ∧ w'.cell? ⟨w.heap.size + 1 + 1, 0, none⟩ = some (.int .i64 c)) ∧ GI w bx #[.int .i64 cr, .slice sa sn sc, .slice ta tn tc] s c w' :=
  ⟨⟨cellAt h.box 0, cellAt h.box 1, cellAt h.box 2, cellAt h.s 0, cellAt h.c 0⟩, h⟩

set_option maxRecDepth 100000 in
set_option maxHeartbeats 4000000 in
theorem fathoms_any (cr : Int) (sa ta : Option Addr) (sn sc tn tc : Nat) (S : Nat → Sm) (T : Nat → Tk) (s c : Int) (w : World) (hS : SeamsAt w sa sn S) (hT : TicketsAt w ta tn T) :
    Calls Try.prog 15 #[.agg #[.int .i64 cr, .slice sa sn sc, .slice ta tn tc], .int .i64 s, .int .i64 c] w
      (Said w (Valid cr sn tn S T) (inB s 0 (sn - 1) && inB c 0 (cr - 1)) (.tuple #[.agg #[.int .i64 (manyOf S T (leastK c T) tn s c), .int .i64 (manyOf S T (mostK c T) tn s c)], .int .i64 0]) (.tuple #[.agg #[.int .i64 0, .int .i64 0], .int .i64 2]) (.tuple #[.agg #[.int .i64 0, .int .i64 0], .int .i64 1])) := by
  have HS := Lib.hid hS
  have HT := Lib.hid hT
  clear hS hT
  have hmf : ∀ (fn : Fn) (first cap : Array Value) (w : World), (Instr.makeFunc fn first cap).run Try.prog w = .ok (.func fn first cap) w := fun _ _ _ _ => rfl
  go_enter_defers Try.func15, Try.ntmps15
  go_wp2_with fail
  generalize hW : World.alloc _ _ = W
  obtain ⟨q0, q1, q2, q3, q4, hz, hB⟩ := blocks5 hW
  clear hW hz
  have I0 := Lib.hid (show FI w #[.int .i64 cr, .slice sa sn sc, .slice ta tn tc] s c W from ⟨hB, q0, q1, q2, q3, q4⟩)
  have HB := Lib.hid hB
  clear q0 q1 q2 q3 q4 hB
  refine (open_any cr sa ta sn sc tn tc S T W (HS.out.grow HB.out) (HT.out.grow HB.out) 47 #[bp (w.heap.size + 1), bp (w.heap.size + 1 + 1)] (inB s 0 (sn - 1) && inB c 0 (cr - 1)) ?_ ?_).mono ?_
  · intro W1; kernel_rfl
  · intro W1 hb hv
    exact fathoms1_any cr sa ta sn sc tn tc s c _ _ W1 (by have := hv.cr0; omega) (by have := hv.cr1; omega) (by have := hv.sn3; unfold maxLen; omega) (I0.out.s.grow hb) (I0.out.c.grow hb)
  rintro e w1 ⟨hb, h⟩
  have I1 := Lib.hid (I0.out.grow hb)
  clear hb
  rcases h with ⟨hv, hbt, rfl⟩ | ⟨hv, hbf, rfl⟩ | ⟨hnv, rfl⟩
  · have HV := Lib.hid hv
    have HT2 := Lib.hid hbt
    have hbt' := hbt
    simp only [Bool.and_eq_true, inB_iff] at hbt'
    have s0 : 0 ≤ s := hbt'.1.1
    have s1 : s < sn := by omega
    have c0 : -1 ≤ c := by omega
    have c1 : c ≤ 3 := by have := hv.cr1; omega
    clear hbt'
    have C1 := Lib.hid (fun W' (hb : Below w.heap.size w W') => many_any cr sa ta sn sc tn tc S T (leastK c T) W' (HS.out.grow hb) (HT.out.grow hb) HV.out (HV.out.least c) 85 _ 124 (truth_least W' c tn T) s c s0 s1 c0 c1)
    have C2 := Lib.hid (fun W' (hb : Below w.heap.size w W') => many_any cr sa ta sn sc tn tc S T (mostK c T) W' (HS.out.grow hb) (HT.out.grow hb) HV.out (HV.out.most c) 83 _ 58 (truth_most W' c tn T) s c s0 s1 c0 c1)
    clear s0 s1 c0 c1 hbt hv
    go_wp2_with fail
    generalize hW2 : World.alloc _ _ = W2
    obtain ⟨q0, hz, hB⟩ := blocks1 hW2
    have I2 := Lib.hid (I1.out.grow hB)
    have I3 := Lib.hid (I2.out.grow (Below.drew (Below.refl _ _)))
    have hlt := lt_of_heap I1.out.r1
    obtain ⟨bx, hbx⟩ : ∃ bx, bx = w1.heap.size := ⟨_, rfl⟩
    rw [← hbx] at q0 hlt ⊢
    have J0 := Lib.hid (show GI w bx #[.int .i64 cr, .slice sa sn sc, .slice ta tn tc] s c W2.drew from GI.grow ⟨I2.out.bel, q0, I2.out.s, I2.out.c, by omega⟩ (Below.drew (Below.refl _ _)))
    have n3 : w.heap.size + 1 + 1 + 1 ≠ bx := by omega
    have n4 : w.heap.size + 1 + 1 + 1 + 1 ≠ bx := by omega
    clear hW2 q0 hz hB hbx hlt
    refine wp_region_noPanic ?_
    refine wp_region_held_drew (S := (fun w' => (w'.cell? ⟨bx, 0, none⟩ = some (.int .i64 cr) ∧ w'.cell? ⟨bx, 1, none⟩ = some (.slice sa sn sc) ∧ w'.cell? ⟨bx, 2, none⟩ = some (.slice ta tn tc) ∧ w'.cell? ⟨w.heap.size + 1, 0, none⟩ = some (.int .i64 s) ∧ w'.cell? ⟨w.heap.size + 1 + 1, 0, none⟩ = some (.int .i64 c)) ∧ GI w bx #[.int .i64 cr, .slice sa sn sc, .slice ta tn tc] s c w')) (by kernel_rfl) (GI.cells J0.out) (fun hHeld => ?_)
    refine wpAnyH_take (i := 0) (oi := { dst := some 12, op := Op.load 77 (Operand.tmp 8), type := 77, pos := "wage.go:196", after := #[], guard := none }) (v := ?_) rfl (by kernel_rfl) (by kernel_rfl) (by kernel_rfl) (fun _ _ _ h => h) (Or.inl ⟨by rfl, ?_⟩) (by assumption) ?_
    rotate_left
    · (intro w9 hSw; (try dsimp only at hSw); (go_split_ands; go_simp); (try with_reducible rfl))
    try simp only [Act.put, List.setIfInBounds_toArray, List.set_cons_zero, List.set_cons_succ]
    refine wpAnyH_take (i := 1) (oi := { dst := some 13, op := Op.load 3 (Operand.tmp 4), type := 3, pos := "wage.go:196", after := #[], guard := none }) (v := ?_) rfl (by kernel_rfl) (by kernel_rfl) (by kernel_rfl) (fun _ _ _ h => h) (Or.inl ⟨by rfl, ?_⟩) (by assumption) ?_
    rotate_left
    · (intro w9 hSw; (try dsimp only at hSw); (go_split_ands; go_simp); (try with_reducible rfl))
    try simp only [Act.put, List.setIfInBounds_toArray, List.set_cons_zero, List.set_cons_succ]
    refine wpAnyH_take (i := 2) (oi := { dst := some 14, op := Op.load 3 (Operand.tmp 5), type := 3, pos := "wage.go:196", after := #[], guard := none }) (v := ?_) rfl (by kernel_rfl) (by kernel_rfl) (by kernel_rfl) (fun _ _ _ h => h) (Or.inl ⟨by rfl, ?_⟩) (by assumption) ?_
    rotate_left
    · (intro w9 hSw; (try dsimp only at hSw); (go_split_ands; go_simp); (try with_reducible rfl))
    try simp only [Act.put, List.setIfInBounds_toArray, List.set_cons_zero, List.set_cons_succ]
    refine wpAnyH_take (i := 3) (oi := { dst := some 15, op := Op.load 3 (Operand.tmp 5), type := 3, pos := "wage.go:196", after := #[], guard := none }) (v := ?_) rfl (by kernel_rfl) (by kernel_rfl) (by kernel_rfl) (fun _ _ _ h => h) (Or.inl ⟨by rfl, ?_⟩) (by assumption) ?_
    rotate_left
    · (intro w9 hSw; (try dsimp only at hSw); (go_split_ands; go_simp); (try with_reducible rfl))
    try simp only [Act.put, List.setIfInBounds_toArray, List.set_cons_zero, List.set_cons_succ]
    refine wpAnyH_take (i := 4) (oi := { dst := some 16, op := Op.build 83 #[(0, Operand.tmp 15)], type := 83, pos := "wage.go:196", after := #[{ on := 3, ground := Ground.data }], guard := none }) (v := ?_) rfl (by kernel_rfl) (by kernel_rfl) (by kernel_rfl) (fun _ _ _ h => h) (Or.inl ⟨by rfl, ?_⟩) (by assumption) ?_
    rotate_left
    · (intro w9 hSw; (try dsimp only at hSw); (go_split_ands; go_simp); (try with_reducible rfl))
    try simp only [Act.put, List.setIfInBounds_toArray, List.set_cons_zero, List.set_cons_succ]
    refine wpAnyH_take (i := 5) (oi := { dst := some 17, op := Op.build 85 #[(0, Operand.tmp 16)], type := 85, pos := "wage.go:196", after := #[{ on := 4, ground := Ground.data }], guard := none }) (v := ?_) rfl (by kernel_rfl) (by kernel_rfl) (by kernel_rfl) (fun _ _ _ h => h) (Or.inl ⟨by rfl, ?_⟩) (by assumption) ?_
    rotate_left
    · (intro w9 hSw; (try dsimp only at hSw); (go_split_ands; go_simp); (try with_reducible rfl))
    try simp only [Act.put, List.setIfInBounds_toArray, List.set_cons_zero, List.set_cons_succ]
    refine wpAnyH_take (i := 6) (oi := { dst := some 18, op := Op.makeInterface 85 (Operand.tmp 17), type := 139, pos := "wage.go:196", after := #[{ on := 5, ground := Ground.data }], guard := none }) (v := ?_) rfl (by kernel_rfl) (by kernel_rfl) (by kernel_rfl) (fun _ _ _ h => h) (Or.inl ⟨by rfl, ?_⟩) (by assumption) ?_
    rotate_left
    · (intro w9 hSw; (try dsimp only at hSw); (go_split_ands; go_simp); (try with_reducible rfl))
    try simp only [Act.put, List.setIfInBounds_toArray, List.set_cons_zero, List.set_cons_succ]
    refine wpAnyH_take (i := 8) (oi := { dst := some 20, op := Op.load 77 (Operand.tmp 8), type := 77, pos := "wage.go:196", after := #[], guard := none }) (v := ?_) rfl (by kernel_rfl) (by kernel_rfl) (by kernel_rfl) (fun _ _ _ h => h) (Or.inl ⟨by rfl, ?_⟩) (by assumption) ?_
    rotate_left
    · (intro w9 hSw; (try dsimp only at hSw); (go_split_ands; go_simp); (try with_reducible rfl))
    try simp only [Act.put, List.setIfInBounds_toArray, List.set_cons_zero, List.set_cons_succ]
    refine wpAnyH_take (i := 9) (oi := { dst := some 21, op := Op.load 3 (Operand.tmp 4), type := 3, pos := "wage.go:196", after := #[], guard := none }) (v := ?_) rfl (by kernel_rfl) (by kernel_rfl) (by kernel_rfl) (fun _ _ _ h => h) (Or.inl ⟨by rfl, ?_⟩) (by assumption) ?_
    rotate_left
    · (intro w9 hSw; (try dsimp only at hSw); (go_split_ands; go_simp); (try with_reducible rfl))
    try simp only [Act.put, List.setIfInBounds_toArray, List.set_cons_zero, List.set_cons_succ]
    refine wpAnyH_take (i := 10) (oi := { dst := some 22, op := Op.load 3 (Operand.tmp 5), type := 3, pos := "wage.go:196", after := #[], guard := none }) (v := ?_) rfl (by kernel_rfl) (by kernel_rfl) (by kernel_rfl) (fun _ _ _ h => h) (Or.inl ⟨by rfl, ?_⟩) (by assumption) ?_
    rotate_left
    · (intro w9 hSw; (try dsimp only at hSw); (go_split_ands; go_simp); (try with_reducible rfl))
    try simp only [Act.put, List.setIfInBounds_toArray, List.set_cons_zero, List.set_cons_succ]
    refine wpAnyH_take (i := 11) (oi := { dst := some 23, op := Op.load 3 (Operand.tmp 5), type := 3, pos := "wage.go:196", after := #[], guard := none }) (v := ?_) rfl (by kernel_rfl) (by kernel_rfl) (by kernel_rfl) (fun _ _ _ h => h) (Or.inl ⟨by rfl, ?_⟩) (by assumption) ?_
    rotate_left
    · (intro w9 hSw; (try dsimp only at hSw); (go_split_ands; go_simp); (try with_reducible rfl))
    try simp only [Act.put, List.setIfInBounds_toArray, List.set_cons_zero, List.set_cons_succ]
    refine wpAnyH_take (i := 12) (oi := { dst := some 24, op := Op.build 83 #[(0, Operand.tmp 23)], type := 83, pos := "wage.go:196", after := #[{ on := 11, ground := Ground.data }], guard := none }) (v := ?_) rfl (by kernel_rfl) (by kernel_rfl) (by kernel_rfl) (fun _ _ _ h => h) (Or.inl ⟨by rfl, ?_⟩) (by assumption) ?_
    rotate_left
    · (intro w9 hSw; (try dsimp only at hSw); (go_split_ands; go_simp); (try with_reducible rfl))
    try simp only [Act.put, List.setIfInBounds_toArray, List.set_cons_zero, List.set_cons_succ]
    refine wpAnyH_take (i := 13) (oi := { dst := some 25, op := Op.makeInterface 83 (Operand.tmp 24), type := 139, pos := "wage.go:196", after := #[{ on := 12, ground := Ground.data }], guard := none }) (v := ?_) rfl (by kernel_rfl) (by kernel_rfl) (by kernel_rfl) (fun _ _ _ h => h) (Or.inl ⟨by rfl, ?_⟩) (by assumption) ?_
    rotate_left
    · (intro w9 hSw; (try dsimp only at hSw); (go_split_ands; go_simp); (try with_reducible rfl))
    try simp only [Act.put, List.setIfInBounds_toArray, List.set_cons_zero, List.set_cons_succ]
    refine wpAnyH_ready (rs := [7]) (by kernel_rfl) (by simp) ?_
    refine AllReadyH.cons (o := { dst := some 19, op := Op.call { callee := Callee.value (Operand.func 50), args := #[Operand.tmp 12, Operand.tmp 13, Operand.tmp 14, Operand.tmp 18], argTypes := #[77, 3, 3, 139] }, type := 3, pos := "wage.go:196", after := #[{ on := 0, ground := Ground.data }, { on := 1, ground := Ground.data }, { on := 2, ground := Ground.data }, { on := 6, ground := Ground.data }], guard := none }) rfl (fun K hK => ?_) AllReadyH.nil
    go_simp
    go_at_call 50; refine (C1.out _ I3.out.bel).mono ?_; rintro e w3 ⟨rfl, hb3⟩; have I4 := Lib.hid (I3.out.grow hb3); have B3 := Lib.hid hb3; clear hb3
    go_wp2_with fail
    refine hK.out _ _ ?_ (fun hHeld => ?_)
    · exact GI.cells (GI.grow J0.out B3.out)
    clear hK K
    try simp only [Act.put, List.setIfInBounds_toArray, List.set_cons_zero, List.set_cons_succ]
    have J1 := Lib.hid hHeld.2
    refine wpAnyH_ready (rs := [14]) (by kernel_rfl) (by simp) ?_
    refine AllReadyH.cons (o := { dst := some 26, op := Op.call { callee := Callee.value (Operand.func 50), args := #[Operand.tmp 20, Operand.tmp 21, Operand.tmp 22, Operand.tmp 25], argTypes := #[77, 3, 3, 139] }, type := 3, pos := "wage.go:196", after := #[{ on := 8, ground := Ground.data }, { on := 9, ground := Ground.data }, { on := 10, ground := Ground.data }, { on := 13, ground := Ground.data }, { on := 7, ground := Ground.chain }], guard := none }) rfl (fun K hK => ?_) AllReadyH.nil
    go_simp
    go_at_call 50; refine (C2.out _ I4.out.bel).mono ?_; rintro e w4 ⟨rfl, hb4⟩; have I5 := Lib.hid (I4.out.grow hb4); have B4 := Lib.hid hb4; clear hb4
    go_wp2_with fail
    refine hK.out _ _ ?_ (fun hHeld => ?_)
    · exact GI.cells (GI.grow J1.out B4.out)
    clear hK K
    try simp only [Act.put, List.setIfInBounds_toArray, List.set_cons_zero, List.set_cons_succ]
    have J2 := Lib.hid hHeld.2
    refine wpAnyH_take (i := 15) (oi := { dst := some 27, op := Op.build 29 #[(0, Operand.tmp 19), (1, Operand.tmp 26)], type := 29, pos := "wage.go:196", after := #[{ on := 7, ground := Ground.data }, { on := 14, ground := Ground.data }], guard := none }) (v := ?_) rfl (by kernel_rfl) (by kernel_rfl) (by kernel_rfl) (fun _ _ _ h => h) (Or.inl ⟨by rfl, ?_⟩) (by assumption) ?_
    rotate_left
    · (intro w9 hSw; (try dsimp only at hSw); (go_split_ands; go_simp); (try with_reducible rfl))
    try simp only [Act.put, List.setIfInBounds_toArray, List.set_cons_zero, List.set_cons_succ]
    have r0 := cellAt I5.out.r0 0
    have r1 := cellAt I5.out.r0 1
    have r2 := cellAt I5.out.r1 0
    have f0 := freeAt I5.out.r0 0
    have f1 := freeAt I5.out.r0 1
    have f2 := freeAt I5.out.r1 0
    simp only [List.getElem?_toArray, List.getElem?_cons_zero, List.getElem?_cons_succ] at r0 r1 r2
    refine wpAnyH_ready (rs := [16]) (by kernel_rfl) (by simp) ?_
    refine AllReadyH.cons (o := { dst := none, op := Op.store 29 (Operand.tmp 6) (Operand.tmp 27), type := 0, pos := "wage.go:196", after := #[{ on := 15, ground := Ground.data }, { on := 14, ground := Ground.chain }, { on := 0, ground := Ground.phase }, { on := 1, ground := Ground.phase }, { on := 2, ground := Ground.phase }, { on := 3, ground := Ground.phase }, { on := 4, ground := Ground.phase }, { on := 5, ground := Ground.phase }, { on := 6, ground := Ground.phase }, { on := 7, ground := Ground.phase }, { on := 8, ground := Ground.phase }, { on := 9, ground := Ground.phase }, { on := 10, ground := Ground.phase }, { on := 11, ground := Ground.phase }, { on := 12, ground := Ground.phase }, { on := 13, ground := Ground.phase }, { on := 14, ground := Ground.phase }, { on := 15, ground := Ground.phase }], guard := none }) rfl (fun K hK => ?_) AllReadyH.nil
    go_simp
    skip
    go_wp2_with fail
    refine hK.out _ _ ?_ (fun hHeld => ?_)
    · exact GI.cells (GI.set (GI.set J2.out _ _ (by dsimp only; omega) (by dsimp only; omega) (by dsimp only; omega) (by dsimp only; omega)) _ _ (by dsimp only; omega) (by dsimp only; omega) (by dsimp only; omega) (by dsimp only; omega))
    clear hK K
    try simp only [Act.put, List.setIfInBounds_toArray, List.set_cons_zero, List.set_cons_succ]
    have J3 := Lib.hid hHeld.2
    refine wpAnyH_ready (rs := [17]) (by kernel_rfl) (by simp) ?_
    refine AllReadyH.cons (o := { dst := none, op := Op.store 30 (Operand.tmp 7) (Operand.const (Value.int IntKind.i64 0)), type := 0, pos := "wage.go:196", after := #[{ on := 16, ground := Ground.chain }, { on := 0, ground := Ground.phase }, { on := 1, ground := Ground.phase }, { on := 2, ground := Ground.phase }, { on := 3, ground := Ground.phase }, { on := 4, ground := Ground.phase }, { on := 5, ground := Ground.phase }, { on := 6, ground := Ground.phase }, { on := 7, ground := Ground.phase }, { on := 8, ground := Ground.phase }, { on := 9, ground := Ground.phase }, { on := 10, ground := Ground.phase }, { on := 11, ground := Ground.phase }, { on := 12, ground := Ground.phase }, { on := 13, ground := Ground.phase }, { on := 14, ground := Ground.phase }, { on := 15, ground := Ground.phase }, { on := 16, ground := Ground.phase }], guard := none }) rfl (fun K hK => ?_) AllReadyH.nil
    go_simp
    skip
    go_wp2_with fail
    refine hK.out _ _ ?_ (fun hHeld => ?_)
    · exact GI.cells (GI.set J3.out _ _ (by dsimp only; omega) (by dsimp only; omega) (by dsimp only; omega) (by dsimp only; omega))
    clear hK K
    try simp only [Act.put, List.setIfInBounds_toArray, List.set_cons_zero, List.set_cons_succ]
    have J4 := Lib.hid hHeld.2
    refine wpAnyH_done (by kernel_rfl) ?_ _
    refine NoPanic.normal ?_
    clear hHeld
    go_wp2_with fail
    refine leaves_cons (f := 45) (args := #[bp (w.heap.size + 1 + 1 + 1 + 1)]) (by simp) (by simp [go_sem]) ?_
    refine (answer_idle _ _).mono ?_
    rintro e u' w'' ⟨rfl, rfl, rfl⟩
    simp [Leaves, settle, results, Try.results15, go_sem, r0, r1, r2]
    exact ⟨J4.out.bel, .inl ⟨HV.out, HT2.out, rfl⟩⟩
  · have HV := Lib.hid hv
    have HT2 := Lib.hid hbf
    clear hv hbf
    simp only [err]
    go_wp2_with fail
    refine leaves_cons (f := 45) (args := #[bp (w.heap.size + 1 + 1 + 1 + 1)]) (by simp) (by simp [go_sem]) ?_
    refine (answer_panicking _ 0 2 [] _ I1.out.r1).mono ?_
    rintro e u' w'' ⟨rfl, rfl, rfl⟩
    have r0 := cellAt I1.out.r0 0
    have r1 := cellAt I1.out.r0 1
    have r2 := cellAt I1.out.r1 0
    simp only [List.getElem?_toArray, List.getElem?_cons_zero, List.getElem?_cons_succ] at r0 r1 r2
    simp [Leaves, settle, results, Try.results15, go_sem, r0, r1, r2]
    exact ⟨I1.out.bel.setCell (by dsimp only; omega) _, .inr (.inl ⟨HV.out, HT2.out, rfl⟩)⟩
  · have HV := Lib.hid hnv
    clear hnv
    simp only [err]
    go_wp2_with fail
    refine leaves_cons (f := 45) (args := #[bp (w.heap.size + 1 + 1 + 1 + 1)]) (by simp) (by simp [go_sem]) ?_
    refine (answer_panicking _ 0 1 [] _ I1.out.r1).mono ?_
    rintro e u' w'' ⟨rfl, rfl, rfl⟩
    have r0 := cellAt I1.out.r0 0
    have r1 := cellAt I1.out.r0 1
    have r2 := cellAt I1.out.r1 0
    simp only [List.getElem?_toArray, List.getElem?_cons_zero, List.getElem?_cons_succ] at r0 r1 r2
    simp [Leaves, settle, results, Try.results15, go_sem, r0, r1, r2]
    exact ⟨I1.out.bel.setCell (by dsimp only; omega) _, .inr (.inr ⟨HV.out, rfl⟩)⟩
end Go.Proofs.Ytbpeamppkdmdcaa
