/-
  --DROP
  Walks: the exported functions: how many fathoms are due.
  Walks: the exported functions: how many fathoms are left.
  Walks: wages that are opened, each way by itself; a panic in a region.
  Walks: the exported functions: how many coins are due.
  Walks: the exported functions: how many coins are paid.
-/
import Derived.Test.YtikeihnhkiipgaaGreatWG3
namespace Go.Proofs.YtikeihnhkiipgaaGreat.Wa
open Go.RowKit

/-- What an exported function says: all is well; what is asked besides is not so; the wages are not valid. -/
def Said (w : World) (V : Prop) (b : Bool) (x x2 x1 : Value) (e : Ending) (w' : World) : Prop :=
  Below w.heap.size w w' ∧ ((V ∧ b = true ∧ e = .returned x) ∨ (V ∧ b = false ∧ e = .returned x2) ∨ (¬ V ∧ e = .returned x1))

structure FI (w : World) (x : Array Value) (s c : Int) (w' : World) : Prop where
  bel : Below w.heap.size w w'
  bx : BoxAt w' w.heap.size x 39
  s : BoxAt w' (w.heap.size + 1) #[.int .i64 s] 3
  c : BoxAt w' (w.heap.size + 1 + 1) #[.int .i64 c] 3
  r0 : BoxAt w' (w.heap.size + 1 + 1 + 1) #[.int .i64 0, .int .i64 0] 50
  r1 : BoxAt w' (w.heap.size + 1 + 1 + 1 + 1) #[.int .i64 0] 33
theorem FI.grow {w : World} {x : Array Value} {s c : Int} {w1 w2 : World} (h : FI w x s c w1) (hb : Below w1.heap.size w1 w2) : FI w x s c w2 :=
  ⟨h.bel.trans (hb.mono (Nat.le_of_lt (lt_of_heap h.bx))), h.bx.grow hb, h.s.grow hb, h.c.grow hb, h.r0.grow hb, h.r1.grow hb⟩

/-- What the last region reads: it stays while the results are stored. -/
structure GI (w : World) (bx : Nat) (x : Array Value) (s c : Int) (w' : World) : Prop where
  bel : Below w.heap.size w w'
  box : BoxAt w' bx x 97
  s : BoxAt w' (w.heap.size + 1) #[.int .i64 s] 3
  c : BoxAt w' (w.heap.size + 1 + 1) #[.int .i64 c] 3
  le : w.heap.size ≤ bx
theorem GI.grow {w : World} {bx : Nat} {x : Array Value} {s c : Int} {w1 w2 : World} (h : GI w bx x s c w1) (hb : Below w1.heap.size w1 w2) : GI w bx x s c w2 :=
  ⟨h.bel.trans (hb.mono (by have := lt_of_heap h.s; omega)), h.box.grow hb, h.s.grow hb, h.c.grow hb, h.le⟩
theorem BoxAt.set {w : World} {b : Nat} {x : Array Value} {t : TypeId} (h : BoxAt w b x t) (p : Addr) (v : Value) (hn : p.block ≠ b) : BoxAt (w.setCell p v) b x t :=
  (Below.heap_setCell w p v b (fun e => hn e.symm)).trans h
theorem GI.set {w : World} {bx : Nat} {x : Array Value} {s c : Int} {w1 : World} (h : GI w bx x s c w1) (p : Addr) (v : Value) (h0 : w.heap.size ≤ p.block) (h1 : p.block ≠ bx) (h2 : p.block ≠ w.heap.size + 1) (h3 : p.block ≠ w.heap.size + 1 + 1) : GI w bx x s c (w1.setCell p v) :=
  ⟨h.bel.setCell h0 v, h.box.set p v h1, h.s.set p v h2, h.c.set p v h3, h.le⟩
theorem GI.cells {w : World} {bx : Nat} {cr : Int} {sa ta : Option Addr} {sn sc tn tc : Nat} {s c : Int} {w' : World} (h : GI w bx #[.int .i64 cr, .slice sa sn sc, .slice ta tn tc] s c w') :
    (w'.cell? ⟨bx, 0, none⟩ = some (.int .i64 cr) ∧ w'.cell? ⟨bx, 1, none⟩ = some (.slice sa sn sc) ∧ w'.cell? ⟨bx, 2, none⟩ = some (.slice ta tn tc) ∧ w'.cell? ⟨w.heap.size + 1, 0, none⟩ = some (.int .i64 s) ∧ w'.cell? ⟨w.heap.size + 1 + 1, 0, none⟩ = some (.int .i64 c)) ∧ GI w bx #[.int .i64 cr, .slice sa sn sc, .slice ta tn tc] s c w' :=
  ⟨⟨cellAt h.box 0, cellAt h.box 1, cellAt h.box 2, cellAt h.s 0, cellAt h.c 0⟩, h⟩

end Go.Proofs.YtikeihnhkiipgaaGreat.Wa

namespace Go.Proofs.YtikeihnhkiipgaaGreat.Wa
open Go.RowKit

/-- The boxes of a function with wages and one number: its results' boxes too. -/
structure F1 (w : World) (x : Array Value) (s : Int) (w' : World) : Prop where
  bel : Below w.heap.size w w'
  bx : BoxAt w' w.heap.size x 39
  s : BoxAt w' (w.heap.size + 1) #[.int .i64 s] 3
  r0 : BoxAt w' (w.heap.size + 1 + 1) #[.int .i64 0, .int .i64 0] 50
  r1 : BoxAt w' (w.heap.size + 1 + 1 + 1) #[.int .i64 0] 33
theorem F1.grow {w : World} {x : Array Value} {s : Int} {w1 w2 : World} (h : F1 w x s w1) (hb : Below w1.heap.size w1 w2) : F1 w x s w2 :=
  ⟨h.bel.trans (hb.mono (Nat.le_of_lt (lt_of_heap h.bx))), h.bx.grow hb, h.s.grow hb, h.r0.grow hb, h.r1.grow hb⟩
structure G1 (w : World) (bx : Nat) (x : Array Value) (s : Int) (w' : World) : Prop where
  bel : Below w.heap.size w w'
  box : BoxAt w' bx x 97
  s : BoxAt w' (w.heap.size + 1) #[.int .i64 s] 3
  le : w.heap.size ≤ bx
theorem G1.grow {w : World} {bx : Nat} {x : Array Value} {s : Int} {w1 w2 : World} (h : G1 w bx x s w1) (hb : Below w1.heap.size w1 w2) : G1 w bx x s w2 :=
  ⟨h.bel.trans (hb.mono (by have := lt_of_heap h.s; omega)), h.box.grow hb, h.s.grow hb, h.le⟩
theorem G1.set {w : World} {bx : Nat} {x : Array Value} {s : Int} {w1 : World} (h : G1 w bx x s w1) (p : Addr) (v : Value) (h0 : w.heap.size ≤ p.block) (h1 : p.block ≠ bx) (h2 : p.block ≠ w.heap.size + 1) : G1 w bx x s (w1.setCell p v) :=
  ⟨h.bel.setCell h0 v, h.box.set p v h1, h.s.set p v h2, h.le⟩
theorem G1.cells {w : World} {bx : Nat} {cr : Int} {sa ta : Option Addr} {sn sc tn tc : Nat} {s : Int} {w' : World} (h : G1 w bx #[.int .i64 cr, .slice sa sn sc, .slice ta tn tc] s w') :
    (w'.cell? ⟨bx, 0, none⟩ = some (.int .i64 cr) ∧ w'.cell? ⟨bx, 1, none⟩ = some (.slice sa sn sc) ∧ w'.cell? ⟨bx, 2, none⟩ = some (.slice ta tn tc) ∧ w'.cell? ⟨w.heap.size + 1, 0, none⟩ = some (.int .i64 s)) ∧ G1 w bx #[.int .i64 cr, .slice sa sn sc, .slice ta tn tc] s w' :=
  ⟨⟨cellAt h.box 0, cellAt h.box 1, cellAt h.box 2, cellAt h.s 0⟩, h⟩

set_option maxRecDepth 100000 in
set_option maxHeartbeats 4000000 in
theorem left_any (cr : Int) (sa ta : Option Addr) (sn sc tn tc : Nat) (S : Nat → Sm) (T : Nat → Tk) (s : Int) (w : World) (hS : SeamsAt w sa sn S) (hT : TicketsAt w ta tn T) :
    Calls Tryz.prog 13 #[.agg #[.int .i64 cr, .slice sa sn sc, .slice ta tn tc], .int .i64 s] w
      (Said w (Valid cr sn tn S T) (inB s 0 (sn - 1)) (.tuple #[.agg #[.int .i64 (manyOf S T (leastK (-1) T) tn s (-1)), .int .i64 (manyOf S T (mostK (-1) T) tn s (-1))], .int .i64 0]) (.tuple #[.agg #[.int .i64 0, .int .i64 0], .int .i64 2]) (.tuple #[.agg #[.int .i64 0, .int .i64 0], .int .i64 1])) := by
  have HS := Lib.hid hS
  have HT := Lib.hid hT
  clear hS hT
  have hmf : ∀ (fn : Fn) (first cap : Array Value) (w : World), (Instr.makeFunc fn first cap).run Tryz.prog w = .ok (.func fn first cap) w := fun _ _ _ _ => rfl
  go_enter_defers Tryz.func13, Tryz.ntmps13
  go_wp2_with fail
  generalize hW : World.alloc _ _ = W
  obtain ⟨q0, q1, q2, q3, hz, hB⟩ := blocks4 hW
  clear hW hz
  have I0 := Lib.hid (show F1 w #[.int .i64 cr, .slice sa sn sc, .slice ta tn tc] s W from ⟨hB, q0, q1, q2, q3⟩)
  have HB := Lib.hid hB
  clear q0 q1 q2 q3 hB
  refine (open_any cr sa ta sn sc tn tc S T W (HS.out.grow HB.out) (HT.out.grow HB.out) 46 #[bp (w.heap.size + 1)] (inB s 0 (sn - 1)) ?_ ?_).mono ?_
  · intro W1; kernel_rfl
  · intro W1 hb hv
    exact left1_any cr sa ta sn sc tn tc s _ W1 (by have := hv.sn3; unfold maxLen; omega) (I0.out.s.grow hb)
  rintro e w1 ⟨hb, h⟩
  have I1 := Lib.hid (I0.out.grow hb)
  clear hb
  rcases h with ⟨hv, hbt, rfl⟩ | ⟨hv, hbf, rfl⟩ | ⟨hnv, rfl⟩
  · have HV := Lib.hid hv
    have HT2 := Lib.hid hbt
    have hbt' := inB_iff.1 hbt
    have s0 : 0 ≤ s := hbt'.1
    have s1 : s < sn := by omega
    clear hbt'
    have C1 := Lib.hid (fun W' (hb : Below w.heap.size w W') => many_any cr sa ta sn sc tn tc S T (leastK (-1) T) W' (HS.out.grow hb) (HT.out.grow hb) HV.out (HV.out.least (-1)) 108 _ 133 (truth_least W' (-1) tn T) s (-1) s0 s1 (by decide) (by decide))
    have C2 := Lib.hid (fun W' (hb : Below w.heap.size w W') => many_any cr sa ta sn sc tn tc S T (mostK (-1) T) W' (HS.out.grow hb) (HT.out.grow hb) HV.out (HV.out.most (-1)) 106 _ 132 (truth_most W' (-1) tn T) s (-1) s0 s1 (by decide) (by decide))
    clear s0 s1 hbt hv
    go_wp2_with fail
    generalize hW2 : World.alloc _ _ = W2
    obtain ⟨q0, hz, hB⟩ := blocks1 hW2
    have I2 := Lib.hid (I1.out.grow hB)
    have I3 := Lib.hid (I2.out.grow (Below.drew (Below.refl _ _)))
    have hlt := lt_of_heap I1.out.r1
    obtain ⟨bx, hbx⟩ : ∃ bx, bx = w1.heap.size := ⟨_, rfl⟩
    rw [← hbx] at q0 hlt ⊢
    have J0 := Lib.hid (show G1 w bx #[.int .i64 cr, .slice sa sn sc, .slice ta tn tc] s W2.drew from G1.grow ⟨I2.out.bel, q0, I2.out.s, by omega⟩ (Below.drew (Below.refl _ _)))
    have n3 : w.heap.size + 1 + 1 ≠ bx := by omega
    have n4 : w.heap.size + 1 + 1 + 1 ≠ bx := by omega
    clear hW2 q0 hz hB hbx hlt
    refine wp_region_noPanic ?_
    refine wp_region_held_drew (S := (fun w' => (w'.cell? ⟨bx, 0, none⟩ = some (.int .i64 cr) ∧ w'.cell? ⟨bx, 1, none⟩ = some (.slice sa sn sc) ∧ w'.cell? ⟨bx, 2, none⟩ = some (.slice ta tn tc) ∧ w'.cell? ⟨w.heap.size + 1, 0, none⟩ = some (.int .i64 s)) ∧ G1 w bx #[.int .i64 cr, .slice sa sn sc, .slice ta tn tc] s w')) (by kernel_rfl) (G1.cells J0.out) (fun hHeld => ?_)
    refine wpAnyH_take (i := 0) (oi := { dst := some 10, op := Op.load 97 (Operand.tmp 6), type := 97, pos := "wage.go:237", after := #[], guard := none }) (v := ?_) rfl (by kernel_rfl) (by kernel_rfl) (by kernel_rfl) (fun _ _ _ h => h) (Or.inl ⟨by rfl, ?_⟩) (by assumption) ?_
    rotate_left
    · (intro w9 hSw; (try dsimp only at hSw); (go_split_ands; go_simp); (try with_reducible rfl))
    try simp only [Act.put, List.setIfInBounds_toArray, List.set_cons_zero, List.set_cons_succ]
    refine wpAnyH_take (i := 1) (oi := { dst := some 11, op := Op.load 3 (Operand.tmp 3), type := 3, pos := "wage.go:237", after := #[], guard := none }) (v := ?_) rfl (by kernel_rfl) (by kernel_rfl) (by kernel_rfl) (fun _ _ _ h => h) (Or.inl ⟨by rfl, ?_⟩) (by assumption) ?_
    rotate_left
    · (intro w9 hSw; (try dsimp only at hSw); (go_split_ands; go_simp); (try with_reducible rfl))
    try simp only [Act.put, List.setIfInBounds_toArray, List.set_cons_zero, List.set_cons_succ]
    refine wpAnyH_take (i := 2) (oi := { dst := some 12, op := Op.build 106 #[(0, Operand.const (Value.int IntKind.i64 (-1)))], type := 106, pos := "wage.go:237", after := #[], guard := none }) (v := ?_) rfl (by kernel_rfl) (by kernel_rfl) (by kernel_rfl) (fun _ _ _ h => h) (Or.inl ⟨by rfl, ?_⟩) (by assumption) ?_
    rotate_left
    · (intro w9 hSw; (try dsimp only at hSw); (go_split_ands; go_simp); (try with_reducible rfl))
    try simp only [Act.put, List.setIfInBounds_toArray, List.set_cons_zero, List.set_cons_succ]
    refine wpAnyH_take (i := 3) (oi := { dst := some 13, op := Op.build 108 #[(0, Operand.tmp 12)], type := 108, pos := "wage.go:237", after := #[{ on := 2, ground := Ground.data }], guard := none }) (v := ?_) rfl (by kernel_rfl) (by kernel_rfl) (by kernel_rfl) (fun _ _ _ h => h) (Or.inl ⟨by rfl, ?_⟩) (by assumption) ?_
    rotate_left
    · (intro w9 hSw; (try dsimp only at hSw); (go_split_ands; go_simp); (try with_reducible rfl))
    try simp only [Act.put, List.setIfInBounds_toArray, List.set_cons_zero, List.set_cons_succ]
    refine wpAnyH_take (i := 4) (oi := { dst := some 14, op := Op.makeInterface 108 (Operand.tmp 13), type := 145, pos := "wage.go:237", after := #[{ on := 3, ground := Ground.data }], guard := none }) (v := ?_) rfl (by kernel_rfl) (by kernel_rfl) (by kernel_rfl) (fun _ _ _ h => h) (Or.inl ⟨by rfl, ?_⟩) (by assumption) ?_
    rotate_left
    · (intro w9 hSw; (try dsimp only at hSw); (go_split_ands; go_simp); (try with_reducible rfl))
    try simp only [Act.put, List.setIfInBounds_toArray, List.set_cons_zero, List.set_cons_succ]
    refine wpAnyH_take (i := 6) (oi := { dst := some 16, op := Op.load 97 (Operand.tmp 6), type := 97, pos := "wage.go:237", after := #[], guard := none }) (v := ?_) rfl (by kernel_rfl) (by kernel_rfl) (by kernel_rfl) (fun _ _ _ h => h) (Or.inl ⟨by rfl, ?_⟩) (by assumption) ?_
    rotate_left
    · (intro w9 hSw; (try dsimp only at hSw); (go_split_ands; go_simp); (try with_reducible rfl))
    try simp only [Act.put, List.setIfInBounds_toArray, List.set_cons_zero, List.set_cons_succ]
    refine wpAnyH_take (i := 7) (oi := { dst := some 17, op := Op.load 3 (Operand.tmp 3), type := 3, pos := "wage.go:237", after := #[], guard := none }) (v := ?_) rfl (by kernel_rfl) (by kernel_rfl) (by kernel_rfl) (fun _ _ _ h => h) (Or.inl ⟨by rfl, ?_⟩) (by assumption) ?_
    rotate_left
    · (intro w9 hSw; (try dsimp only at hSw); (go_split_ands; go_simp); (try with_reducible rfl))
    try simp only [Act.put, List.setIfInBounds_toArray, List.set_cons_zero, List.set_cons_succ]
    refine wpAnyH_take (i := 8) (oi := { dst := some 18, op := Op.build 106 #[(0, Operand.const (Value.int IntKind.i64 (-1)))], type := 106, pos := "wage.go:237", after := #[], guard := none }) (v := ?_) rfl (by kernel_rfl) (by kernel_rfl) (by kernel_rfl) (fun _ _ _ h => h) (Or.inl ⟨by rfl, ?_⟩) (by assumption) ?_
    rotate_left
    · (intro w9 hSw; (try dsimp only at hSw); (go_split_ands; go_simp); (try with_reducible rfl))
    try simp only [Act.put, List.setIfInBounds_toArray, List.set_cons_zero, List.set_cons_succ]
    refine wpAnyH_take (i := 9) (oi := { dst := some 19, op := Op.makeInterface 106 (Operand.tmp 18), type := 145, pos := "wage.go:237", after := #[{ on := 8, ground := Ground.data }], guard := none }) (v := ?_) rfl (by kernel_rfl) (by kernel_rfl) (by kernel_rfl) (fun _ _ _ h => h) (Or.inl ⟨by rfl, ?_⟩) (by assumption) ?_
    rotate_left
    · (intro w9 hSw; (try dsimp only at hSw); (go_split_ands; go_simp); (try with_reducible rfl))
    try simp only [Act.put, List.setIfInBounds_toArray, List.set_cons_zero, List.set_cons_succ]
    refine wpAnyH_ready (rs := [5]) (by kernel_rfl) (by simp) ?_
    refine AllReadyH.cons (o := { dst := some 15, op := Op.call { callee := Callee.value (Operand.func 48), args := #[Operand.tmp 10, Operand.tmp 11, Operand.const (Value.int IntKind.i64 (-1)), Operand.tmp 14], argTypes := #[97, 3, 3, 145] }, type := 3, pos := "wage.go:237", after := #[{ on := 0, ground := Ground.data }, { on := 1, ground := Ground.data }, { on := 4, ground := Ground.data }], guard := none }) rfl (fun K hK => ?_) AllReadyH.nil
    go_simp
    go_at_call 48; refine (C1.out _ I3.out.bel).mono ?_; rintro e w3 ⟨rfl, hb3⟩; have I4 := Lib.hid (I3.out.grow hb3); have B3 := Lib.hid hb3; clear hb3
    go_wp2_with fail
    refine hK.out _ _ ?_ (fun hHeld => ?_)
    · exact G1.cells (G1.grow J0.out B3.out)
    clear hK K
    try simp only [Act.put, List.setIfInBounds_toArray, List.set_cons_zero, List.set_cons_succ]
    have J1 := Lib.hid hHeld.2
    refine wpAnyH_ready (rs := [10]) (by kernel_rfl) (by simp) ?_
    refine AllReadyH.cons (o := { dst := some 20, op := Op.call { callee := Callee.value (Operand.func 48), args := #[Operand.tmp 16, Operand.tmp 17, Operand.const (Value.int IntKind.i64 (-1)), Operand.tmp 19], argTypes := #[97, 3, 3, 145] }, type := 3, pos := "wage.go:237", after := #[{ on := 6, ground := Ground.data }, { on := 7, ground := Ground.data }, { on := 9, ground := Ground.data }, { on := 5, ground := Ground.chain }], guard := none }) rfl (fun K hK => ?_) AllReadyH.nil
    go_simp
    go_at_call 48; refine (C2.out _ I4.out.bel).mono ?_; rintro e w4 ⟨rfl, hb4⟩; have I5 := Lib.hid (I4.out.grow hb4); have B4 := Lib.hid hb4; clear hb4
    go_wp2_with fail
    refine hK.out _ _ ?_ (fun hHeld => ?_)
    · exact G1.cells (G1.grow J1.out B4.out)
    clear hK K
    try simp only [Act.put, List.setIfInBounds_toArray, List.set_cons_zero, List.set_cons_succ]
    have J2 := Lib.hid hHeld.2
    refine wpAnyH_take (i := 11) (oi := { dst := some 21, op := Op.build 50 #[(0, Operand.tmp 15), (1, Operand.tmp 20)], type := 50, pos := "wage.go:237", after := #[{ on := 5, ground := Ground.data }, { on := 10, ground := Ground.data }], guard := none }) (v := ?_) rfl (by kernel_rfl) (by kernel_rfl) (by kernel_rfl) (fun _ _ _ h => h) (Or.inl ⟨by rfl, ?_⟩) (by assumption) ?_
    rotate_left
    · (intro w9 hSw; (try dsimp only at hSw); (go_split_ands; go_simp); (try with_reducible rfl))
    try simp only [Act.put, List.setIfInBounds_toArray, List.set_cons_zero, List.set_cons_succ]
    have r0 := cellAt I5.out.r0 0
    have r1 := cellAt I5.out.r0 1
    have r2 := cellAt I5.out.r1 0
    have f0 := freeAt I5.out.r0 0
    have f1 := freeAt I5.out.r0 1
    have f2 := freeAt I5.out.r1 0
    simp only [List.getElem?_toArray, List.getElem?_cons_zero, List.getElem?_cons_succ] at r0 r1 r2
    refine wpAnyH_ready (rs := [12]) (by kernel_rfl) (by simp) ?_
    refine AllReadyH.cons (o := { dst := none, op := Op.store 50 (Operand.tmp 4) (Operand.tmp 21), type := 0, pos := "wage.go:237", after := #[{ on := 11, ground := Ground.data }, { on := 10, ground := Ground.chain }, { on := 0, ground := Ground.phase }, { on := 1, ground := Ground.phase }, { on := 2, ground := Ground.phase }, { on := 3, ground := Ground.phase }, { on := 4, ground := Ground.phase }, { on := 5, ground := Ground.phase }, { on := 6, ground := Ground.phase }, { on := 7, ground := Ground.phase }, { on := 8, ground := Ground.phase }, { on := 9, ground := Ground.phase }, { on := 10, ground := Ground.phase }, { on := 11, ground := Ground.phase }], guard := none }) rfl (fun K hK => ?_) AllReadyH.nil
    go_simp
    skip
    go_wp2_with fail
    refine hK.out _ _ ?_ (fun hHeld => ?_)
    · exact G1.cells (G1.set (G1.set J2.out _ _ (by dsimp only; omega) (by dsimp only; omega) (by dsimp only; omega)) _ _ (by dsimp only; omega) (by dsimp only; omega) (by dsimp only; omega))
    clear hK K
    try simp only [Act.put, List.setIfInBounds_toArray, List.set_cons_zero, List.set_cons_succ]
    have J3 := Lib.hid hHeld.2
    refine wpAnyH_ready (rs := [13]) (by kernel_rfl) (by simp) ?_
    refine AllReadyH.cons (o := { dst := none, op := Op.store 33 (Operand.tmp 5) (Operand.const (Value.int IntKind.i64 0)), type := 0, pos := "wage.go:237", after := #[{ on := 12, ground := Ground.chain }, { on := 0, ground := Ground.phase }, { on := 1, ground := Ground.phase }, { on := 2, ground := Ground.phase }, { on := 3, ground := Ground.phase }, { on := 4, ground := Ground.phase }, { on := 5, ground := Ground.phase }, { on := 6, ground := Ground.phase }, { on := 7, ground := Ground.phase }, { on := 8, ground := Ground.phase }, { on := 9, ground := Ground.phase }, { on := 10, ground := Ground.phase }, { on := 11, ground := Ground.phase }, { on := 12, ground := Ground.phase }], guard := none }) rfl (fun K hK => ?_) AllReadyH.nil
    go_simp
    skip
    go_wp2_with fail
    refine hK.out _ _ ?_ (fun hHeld => ?_)
    · exact G1.cells (G1.set J3.out _ _ (by dsimp only; omega) (by dsimp only; omega) (by dsimp only; omega))
    clear hK K
    try simp only [Act.put, List.setIfInBounds_toArray, List.set_cons_zero, List.set_cons_succ]
    have J4 := Lib.hid hHeld.2
    refine wpAnyH_done (by kernel_rfl) ?_ _
    refine NoPanic.normal ?_
    clear hHeld
    go_wp2_with fail
    refine leaves_cons (f := 33) (args := #[bp (w.heap.size + 1 + 1 + 1)]) (by simp) (by simp [go_sem]) ?_
    refine (answer_idle _ _).mono ?_
    rintro e u' w'' ⟨rfl, rfl, rfl⟩
    simp [Leaves, settle, results, Tryz.results13, go_sem, r0, r1, r2]
    exact ⟨J4.out.bel, .inl ⟨HV.out, HT2.out, rfl⟩⟩
  · have HV := Lib.hid hv
    have HT2 := Lib.hid hbf
    clear hv hbf
    simp only [err]
    go_wp2_with fail
    refine leaves_cons (f := 33) (args := #[bp (w.heap.size + 1 + 1 + 1)]) (by simp) (by simp [go_sem]) ?_
    refine (answer_panicking _ 0 2 [] _ I1.out.r1).mono ?_
    rintro e u' w'' ⟨rfl, rfl, rfl⟩
    have r0 := cellAt I1.out.r0 0
    have r1 := cellAt I1.out.r0 1
    have r2 := cellAt I1.out.r1 0
    simp only [List.getElem?_toArray, List.getElem?_cons_zero, List.getElem?_cons_succ] at r0 r1 r2
    simp [Leaves, settle, results, Tryz.results13, go_sem, r0, r1, r2]
    exact ⟨I1.out.bel.setCell (by dsimp only; omega) _, .inr (.inl ⟨HV.out, HT2.out, rfl⟩)⟩
  · have HV := Lib.hid hnv
    clear hnv
    simp only [err]
    go_wp2_with fail
    refine leaves_cons (f := 33) (args := #[bp (w.heap.size + 1 + 1 + 1)]) (by simp) (by simp [go_sem]) ?_
    refine (answer_panicking _ 0 1 [] _ I1.out.r1).mono ?_
    rintro e u' w'' ⟨rfl, rfl, rfl⟩
    have r0 := cellAt I1.out.r0 0
    have r1 := cellAt I1.out.r0 1
    have r2 := cellAt I1.out.r1 0
    simp only [List.getElem?_toArray, List.getElem?_cons_zero, List.getElem?_cons_succ] at r0 r1 r2
    simp [Leaves, settle, results, Tryz.results13, go_sem, r0, r1, r2]
    exact ⟨I1.out.bel.setCell (by dsimp only; omega) _, .inr (.inr ⟨HV.out, rfl⟩)⟩
end Go.Proofs.YtikeihnhkiipgaaGreat.Wa

namespace Go.Proofs.YtikeihnhkiipgaaGreat.Wa
open Go.RowKit

theorem open_ok (cr : Int) (sa ta : Option Addr) (sn sc tn tc : Nat) (S : Nat → Sm) (T : Nat → Tk) (w : World) (hS : SeamsAt w sa sn S) (hT : TicketsAt w ta tn T)
    (F : FuncId) (caps : Array Value) (b : Bool) (hv : Valid cr sn tn S T) (hb : b = true) (hcf : ∀ W, (callFunc F (#[.agg #[.int .i64 cr, .slice sa sn sc, .slice ta tn tc]] ++ caps)).run Tryz.prog W = .ok (.enter F (#[.agg #[.int .i64 cr, .slice sa sn sc, .slice ta tn tc]] ++ caps)) W) (hcl : ∀ W, Below w.heap.size w W → Valid cr sn tn S T → Calls Tryz.prog F (#[.agg #[.int .i64 cr, .slice sa sn sc, .slice ta tn tc]] ++ caps) W fun e w' => e = .returned (.bool b) ∧ Below W.heap.size W w') :
    Calls Tryz.prog 34 #[.agg #[.int .i64 cr, .slice sa sn sc, .slice ta tn tc], .func (.func F) #[] caps] w fun e w' => e = .returned (.agg #[.int .i64 cr, .slice sa sn sc, .slice ta tn tc]) ∧ Below w.heap.size w w' := by
  refine (open_any cr sa ta sn sc tn tc S T w hS hT F caps b hcf hcl).mono ?_
  rintro e w1 ⟨h0, ⟨_, _, rfl⟩ | ⟨_, h, _⟩ | ⟨h, _⟩⟩
  · exact ⟨rfl, h0⟩
  · rw [hb] at h; cases h
  · exact absurd hv h
theorem open_range (cr : Int) (sa ta : Option Addr) (sn sc tn tc : Nat) (S : Nat → Sm) (T : Nat → Tk) (w : World) (hS : SeamsAt w sa sn S) (hT : TicketsAt w ta tn T)
    (F : FuncId) (caps : Array Value) (b : Bool) (hv : Valid cr sn tn S T) (hb : b = false) (hcf : ∀ W, (callFunc F (#[.agg #[.int .i64 cr, .slice sa sn sc, .slice ta tn tc]] ++ caps)).run Tryz.prog W = .ok (.enter F (#[.agg #[.int .i64 cr, .slice sa sn sc, .slice ta tn tc]] ++ caps)) W) (hcl : ∀ W, Below w.heap.size w W → Valid cr sn tn S T → Calls Tryz.prog F (#[.agg #[.int .i64 cr, .slice sa sn sc, .slice ta tn tc]] ++ caps) W fun e w' => e = .returned (.bool b) ∧ Below W.heap.size W w') :
    Calls Tryz.prog 34 #[.agg #[.int .i64 cr, .slice sa sn sc, .slice ta tn tc], .func (.func F) #[] caps] w fun e w' => e = err 2 ∧ Below w.heap.size w w' := by
  refine (open_any cr sa ta sn sc tn tc S T w hS hT F caps b hcf hcl).mono ?_
  rintro e w1 ⟨h0, ⟨_, h, _⟩ | ⟨_, _, rfl⟩ | ⟨h, _⟩⟩
  · rw [hb] at h; cases h
  · exact ⟨rfl, h0⟩
  · exact absurd hv h
theorem open_arg (cr : Int) (sa ta : Option Addr) (sn sc tn tc : Nat) (S : Nat → Sm) (T : Nat → Tk) (w : World) (hS : SeamsAt w sa sn S) (hT : TicketsAt w ta tn T)
    (F : FuncId) (caps : Array Value) (hv : ¬ Valid cr sn tn S T) (hcf : ∀ W, (callFunc F (#[.agg #[.int .i64 cr, .slice sa sn sc, .slice ta tn tc]] ++ caps)).run Tryz.prog W = .ok (.enter F (#[.agg #[.int .i64 cr, .slice sa sn sc, .slice ta tn tc]] ++ caps)) W) :
    Calls Tryz.prog 34 #[.agg #[.int .i64 cr, .slice sa sn sc, .slice ta tn tc], .func (.func F) #[] caps] w fun e w' => e = err 1 ∧ Below w.heap.size w w' := by
  refine (open_any cr sa ta sn sc tn tc S T w hS hT F caps true hcf (fun _ _ h => absurd h hv)).mono ?_
  rintro e w1 ⟨h0, ⟨h, _, _⟩ | ⟨h, _, _⟩ | ⟨_, rfl⟩⟩
  · exact absurd h hv
  · exact absurd h hv
  · exact ⟨rfl, h0⟩

/-- A call that panics, in a region whose walk bears but one way on: what stands behind it is walked under 'False'. -/
theorem Calls.out {P : Program} {f : FuncId} {args : Array Value} {w : World} {x : Int} {R : Ending → World → Prop} {B : World → Prop} (v : Value) (h : Calls P f args w fun e w' => e = err x ∧ B w') (hp : ∀ w', B w' → R (err x) w') (_hk : Hid False → R (.returned v) w) : Calls P f args w R :=
  h.mono (by rintro e w' ⟨rfl, hb⟩; exact hp w' hb)
theorem Calls.never {P : Program} {f : FuncId} {args : Array Value} {w : World} {R : Ending → World → Prop} (v : Value) (h : Hid False) (_hk : R (.returned v) w) : Calls P f args w R := h.out.elim

structure H1 (w : World) (cr : Int) (sa ta : Option Addr) (sn sc tn tc : Nat) (s : Int) (w' : World) : Prop where
  bel : Below w.heap.size w w'
  bx : BoxAt w' w.heap.size #[.int .i64 cr, .slice sa sn sc, .slice ta tn tc] 39
  s : BoxAt w' (w.heap.size + 1) #[.int .i64 s] 3
theorem H1.grow {w : World} {cr : Int} {sa ta : Option Addr} {sn sc tn tc : Nat} {s : Int} {w1 w2 : World} (h : H1 w cr sa ta sn sc tn tc s w1) (hb : Below w1.heap.size w1 w2) : H1 w cr sa ta sn sc tn tc s w2 :=
  ⟨h.bel.trans (hb.mono (Nat.le_of_lt (lt_of_heap h.bx))), h.bx.grow hb, h.s.grow hb⟩
theorem H1.set {w : World} {cr : Int} {sa ta : Option Addr} {sn sc tn tc : Nat} {s : Int} {w1 : World} (h : H1 w cr sa ta sn sc tn tc s w1) (p : Addr) (v : Value) (h0 : w.heap.size + 1 < p.block) : H1 w cr sa ta sn sc tn tc s (w1.setCell p v) :=
  ⟨h.bel.setCell (by omega) v, h.bx.set p v (by omega), h.s.set p v (by omega)⟩
theorem H1.cells {w : World} {cr : Int} {sa ta : Option Addr} {sn sc tn tc : Nat} {s : Int} {w' : World} (h : H1 w cr sa ta sn sc tn tc s w') :
    (w'.cell? ⟨w.heap.size, 0, none⟩ = some (.int .i64 cr) ∧ w'.cell? ⟨w.heap.size, 1, none⟩ = some (.slice sa sn sc) ∧ w'.cell? ⟨w.heap.size, 2, none⟩ = some (.slice ta tn tc) ∧ w'.cell? ⟨w.heap.size + 1, 0, none⟩ = some (.int .i64 s)) ∧ H1 w cr sa ta sn sc tn tc s w' :=
  ⟨⟨cellAt h.bx 0, cellAt h.bx 1, cellAt h.bx 2, cellAt h.s 0⟩, h⟩

end Go.Proofs.YtikeihnhkiipgaaGreat.Wa

namespace Go.Proofs.YtikeihnhkiipgaaGreat.Wa
open Go.RowKit

set_option maxRecDepth 100000 in
set_option maxHeartbeats 4000000 in
theorem dues_any (cr : Int) (sa ta : Option Addr) (sn sc tn tc : Nat) (S : Nat → Sm) (T : Nat → Tk) (c : Int) (w : World) (hS : SeamsAt w sa sn S) (hT : TicketsAt w ta tn T) :
    Calls Tryz.prog 10 #[.agg #[.int .i64 cr, .slice sa sn sc, .slice ta tn tc], .int .i64 c] w
      (Said w (Valid cr sn tn S T) (inB c 0 (cr - 1)) (.tuple #[.agg #[.int .i64 (coinsOf S T (leastK c T) sn tn c), .int .i64 (coinsOf S T (mostK c T) sn tn c)], .int .i64 0]) (.tuple #[.agg #[.int .i64 0, .int .i64 0], .int .i64 2]) (.tuple #[.agg #[.int .i64 0, .int .i64 0], .int .i64 1])) := by
  have HS := Lib.hid hS
  have HT := Lib.hid hT
  clear hS hT
  have hmf : ∀ (fn : Fn) (first cap : Array Value) (w : World), (Instr.makeFunc fn first cap).run Tryz.prog w = .ok (.func fn first cap) w := fun _ _ _ _ => rfl
  go_enter_defers Tryz.func10, Tryz.ntmps10
  go_wp2_with fail
  generalize hW : World.alloc _ _ = W
  obtain ⟨q0, q1, q2, q3, hz, hB⟩ := blocks4 hW
  clear hW hz
  have I0 := Lib.hid (show F1 w #[.int .i64 cr, .slice sa sn sc, .slice ta tn tc] c W from ⟨hB, q0, q1, q2, q3⟩)
  have HB := Lib.hid hB
  have J0 := Lib.hid (show H1 w cr sa ta sn sc tn tc c W.drew from H1.grow ⟨hB, q0, q1⟩ (Below.drew (Below.refl _ _)))
  have I1 := Lib.hid (I0.out.grow (Below.drew (Below.refl _ _)))
  have hcf : ∀ W, (callFunc 35 (#[.agg #[.int .i64 cr, .slice sa sn sc, .slice ta tn tc]] ++ #[bp (w.heap.size + 1)])).run Tryz.prog W = .ok (.enter 35 (#[.agg #[.int .i64 cr, .slice sa sn sc, .slice ta tn tc]] ++ #[bp (w.heap.size + 1)])) W := by intro W1; kernel_rfl
  have HCF := Lib.hid hcf
  have hcl : ∀ W1, Below W.drew.heap.size W.drew W1 → Valid cr sn tn S T → Calls Tryz.prog 35 (#[.agg #[.int .i64 cr, .slice sa sn sc, .slice ta tn tc]] ++ #[bp (w.heap.size + 1)]) W1 fun e w' => e = .returned (.bool (inB c 0 (cr - 1))) ∧ Below W1.heap.size W1 w' := by
    intro W1 hb hv
    exact due1_any cr sa ta sn sc tn tc c _ W1 (by have := hv.cr0; omega) (by have := hv.cr1; omega) (I1.out.s.grow hb)
  have HCL := Lib.hid hcl
  clear hcf hcl q0 q1 q2 q3 hB
  by_cases hv : Valid cr sn tn S T
  · have HV := Lib.hid hv
    have hcases : inB c 0 (cr - 1) = true ∨ inB c 0 (cr - 1) = false := by cases inB c 0 (cr - 1) <;> simp
    rcases hcases with hbt | hbf
    · have HT2 := Lib.hid hbt
      have hbt' := inB_iff.1 hbt
      have c0 : -1 ≤ c := by omega
      have c1 : c ≤ 3 := by have := hv.cr1; omega
      have C2 := Lib.hid (fun W' (hb : Below w.heap.size w W') => due_any cr sa ta sn sc tn tc S T W' (HS.out.grow hb) (HT.out.grow hb) hv c c0 c1)
      have C1 := Lib.hid (open_ok cr sa ta sn sc tn tc S T W.drew (HS.out.grow I1.out.bel) (HT.out.grow I1.out.bel) 35 _ _ hv hbt HCF.out HCL.out)
      clear c0 c1 hbt hbt' hv
      refine wp_region_noPanic ?_
      refine wp_region_held_drew (S := (fun w' => (w'.cell? ⟨w.heap.size, 0, none⟩ = some (.int .i64 cr) ∧ w'.cell? ⟨w.heap.size, 1, none⟩ = some (.slice sa sn sc) ∧ w'.cell? ⟨w.heap.size, 2, none⟩ = some (.slice ta tn tc) ∧ w'.cell? ⟨w.heap.size + 1, 0, none⟩ = some (.int .i64 c)) ∧ H1 w cr sa ta sn sc tn tc c w')) (by kernel_rfl) (H1.cells J0.out) (fun hHeld => ?_)
      refine wpAnyH_take (i := 0) (oi := { dst := some 6, op := Op.load 39 (Operand.tmp 2), type := 39, pos := "wage.go:202", after := #[], guard := none }) (v := ?_) rfl (by kernel_rfl) (by kernel_rfl) (by kernel_rfl) (fun _ _ _ h => h) (Or.inl ⟨by rfl, ?_⟩) (by assumption) ?_
      rotate_left
      · (intro w9 hSw; (try dsimp only at hSw); (go_split_ands; go_simp); (try with_reducible rfl))
      try simp only [Act.put, List.setIfInBounds_toArray, List.set_cons_zero, List.set_cons_succ]
      refine wpAnyH_take (i := 1) (oi := { dst := some 7, op := Op.makeFunc (Fn.func 35) #[] #[Operand.tmp 3], type := 99, pos := "wage.go:202", after := #[], guard := none }) (v := ?_) rfl (by kernel_rfl) (by kernel_rfl) (by kernel_rfl) (fun _ _ _ h => h) (Or.inl ⟨by rfl, ?_⟩) (by assumption) ?_
      rotate_left
      · (intro w9 hSw; (try dsimp only at hSw); (go_split_ands; go_simp); (try with_reducible rfl))
      try simp only [Act.put, List.setIfInBounds_toArray, List.set_cons_zero, List.set_cons_succ]
      refine wpAnyH_take (i := 3) (oi := { dst := some 9, op := Op.load 3 (Operand.tmp 3), type := 3, pos := "wage.go:202", after := #[], guard := none }) (v := ?_) rfl (by kernel_rfl) (by kernel_rfl) (by kernel_rfl) (fun _ _ _ h => h) (Or.inl ⟨by rfl, ?_⟩) (by assumption) ?_
      rotate_left
      · (intro w9 hSw; (try dsimp only at hSw); (go_split_ands; go_simp); (try with_reducible rfl))
      try simp only [Act.put, List.setIfInBounds_toArray, List.set_cons_zero, List.set_cons_succ]
      refine wpAnyH_ready (rs := [2]) (by kernel_rfl) (by simp) ?_
      refine AllReadyH.cons (o := { dst := some 8, op := Op.call { callee := Callee.value (Operand.func 34), args := #[Operand.tmp 6, Operand.tmp 7], argTypes := #[39, 99] }, type := 97, pos := "wage.go:202", after := #[{ on := 0, ground := Ground.data }, { on := 1, ground := Ground.data }], guard := none }) rfl (fun K hK => ?_) AllReadyH.nil
      go_simp
      refine C1.out.mono ?_; rintro e w3 ⟨rfl, hb3⟩; have I2 := Lib.hid (I1.out.grow hb3); have B3 := Lib.hid hb3; clear hb3
      go_wp2_with fail
      refine hK.out _ _ ?_ (fun hHeld => ?_)
      · exact H1.cells (H1.grow J0.out B3.out)
      clear hK K
      try simp only [Act.put, List.setIfInBounds_toArray, List.set_cons_zero, List.set_cons_succ]
      have J1 := Lib.hid hHeld.2
      refine wpAnyH_ready (rs := [4]) (by kernel_rfl) (by simp) ?_
      refine AllReadyH.cons (o := { dst := some 10, op := Op.call { callee := Callee.value (Operand.func 37), args := #[Operand.tmp 8, Operand.tmp 9], argTypes := #[97, 3] }, type := 50, pos := "wage.go:202", after := #[{ on := 2, ground := Ground.data }, { on := 3, ground := Ground.data }, { on := 2, ground := Ground.chain }], guard := none }) rfl (fun K hK => ?_) AllReadyH.nil
      go_simp
      refine (C2.out _ I2.out.bel).mono ?_; rintro e w4 ⟨rfl, hb4⟩; have I3 := Lib.hid (I2.out.grow hb4); have B4 := Lib.hid hb4; clear hb4
      go_wp2_with fail
      refine hK.out _ _ ?_ (fun hHeld => ?_)
      · exact H1.cells (H1.grow J1.out B4.out)
      clear hK K
      try simp only [Act.put, List.setIfInBounds_toArray, List.set_cons_zero, List.set_cons_succ]
      have J2 := Lib.hid hHeld.2
      have r0 := cellAt I3.out.r0 0
      have r1 := cellAt I3.out.r0 1
      have r2 := cellAt I3.out.r1 0
      have f0 := freeAt I3.out.r0 0
      have f1 := freeAt I3.out.r0 1
      have f2 := freeAt I3.out.r1 0
      simp only [List.getElem?_toArray, List.getElem?_cons_zero, List.getElem?_cons_succ] at r0 r1 r2
      refine wpAnyH_ready (rs := [5]) (by kernel_rfl) (by simp) ?_
      refine AllReadyH.cons (o := { dst := none, op := Op.store 50 (Operand.tmp 4) (Operand.tmp 10), type := 0, pos := "wage.go:202", after := #[{ on := 4, ground := Ground.data }, { on := 4, ground := Ground.chain }, { on := 0, ground := Ground.phase }, { on := 1, ground := Ground.phase }, { on := 2, ground := Ground.phase }, { on := 3, ground := Ground.phase }, { on := 4, ground := Ground.phase }], guard := none }) rfl (fun K hK => ?_) AllReadyH.nil
      go_simp
      skip
      go_wp2_with fail
      refine hK.out _ _ ?_ (fun hHeld => ?_)
      · exact H1.cells (H1.set (H1.set J2.out _ _ (by dsimp only; omega)) _ _ (by dsimp only; omega))
      clear hK K
      try simp only [Act.put, List.setIfInBounds_toArray, List.set_cons_zero, List.set_cons_succ]
      have J3 := Lib.hid hHeld.2
      refine wpAnyH_ready (rs := [6]) (by kernel_rfl) (by simp) ?_
      refine AllReadyH.cons (o := { dst := none, op := Op.store 33 (Operand.tmp 5) (Operand.const (Value.int IntKind.i64 0)), type := 0, pos := "wage.go:202", after := #[{ on := 5, ground := Ground.chain }, { on := 0, ground := Ground.phase }, { on := 1, ground := Ground.phase }, { on := 2, ground := Ground.phase }, { on := 3, ground := Ground.phase }, { on := 4, ground := Ground.phase }, { on := 5, ground := Ground.phase }], guard := none }) rfl (fun K hK => ?_) AllReadyH.nil
      go_simp
      skip
      go_wp2_with fail
      refine hK.out _ _ ?_ (fun hHeld => ?_)
      · exact H1.cells (H1.set J3.out _ _ (by dsimp only; omega))
      clear hK K
      try simp only [Act.put, List.setIfInBounds_toArray, List.set_cons_zero, List.set_cons_succ]
      have J4 := Lib.hid hHeld.2
      refine wpAnyH_done (by kernel_rfl) ?_ _
      refine NoPanic.normal ?_
      clear hHeld
      go_wp2_with fail
      refine leaves_cons (f := 33) (args := #[bp (w.heap.size + 1 + 1 + 1)]) (by simp) (by simp [go_sem]) ?_
      refine (answer_idle _ _).mono ?_
      rintro e u' w'' ⟨rfl, rfl, rfl⟩
      simp [Leaves, settle, results, Tryz.results10, go_sem, r0, r1, r2]
      exact ⟨J4.out.bel, .inl ⟨HV.out, HT2.out, rfl⟩⟩
    · have HT2 := Lib.hid hbf
      have C1 := Lib.hid (open_range cr sa ta sn sc tn tc S T W.drew (HS.out.grow I1.out.bel) (HT.out.grow I1.out.bel) 35 _ _ hv hbf HCF.out HCL.out)
      clear hbf hv
      have b0 := cellAt I0.out.bx 0
      have b1 := cellAt I0.out.bx 1
      have b2 := cellAt I0.out.bx 2
      have b3 := cellAt I0.out.s 0
      have r0 := cellAt I0.out.r0 0
      have r1 := cellAt I0.out.r0 1
      have r2 := cellAt I0.out.r1 0
      have f0 := freeAt I0.out.r0 0
      have f1 := freeAt I0.out.r0 1
      have f2 := freeAt I0.out.r1 0
      simp only [List.getElem?_toArray, List.getElem?_cons_zero, List.getElem?_cons_succ] at b0 b1 b2 b3 r0 r1 r2
      go_region_with (first | (go_at_call 34; refine Calls.out (.agg #[.int .i64 cr, .slice sa sn sc, .slice ta tn tc]) C1.out ?_ ?_; (intro w2 hb2; have I2 := Lib.hid (I1.out.grow hb2); have r0 := cellAt I2.out.r0 0; have r1 := cellAt I2.out.r0 1; have r2 := cellAt I2.out.r1 0; simp only [List.getElem?_toArray, List.getElem?_cons_zero, List.getElem?_cons_succ] at r0 r1 r2; clear hb2; simp only [err]; go_wp2_with fail; refine leaves_cons (f := 33) (args := #[bp (w.heap.size + 1 + 1 + 1)]) (by simp) (by simp [go_sem]) ?_; refine (answer_panicking _ 0 2 [] _ I2.out.r1).mono ?_; rintro e u' w'' ⟨rfl, rfl, rfl⟩; simp [Leaves, settle, results, Tryz.results10, go_sem, r0, r1, r2]; exact ⟨I2.out.bel.setCell (by dsimp only; omega) _, .inr (.inl ⟨HV.out, HT2.out, rfl⟩)⟩); intro hF) | (go_at_call 37; refine Calls.never (.agg #[.int .i64 0, .int .i64 0]) hF ?_))
      all_goals exact hF.out.elim
  · have HV := Lib.hid hv
    have C1 := Lib.hid (open_arg cr sa ta sn sc tn tc S T W.drew (HS.out.grow I1.out.bel) (HT.out.grow I1.out.bel) 35 _ hv HCF.out)
    clear hv
    have b0 := cellAt I0.out.bx 0
    have b1 := cellAt I0.out.bx 1
    have b2 := cellAt I0.out.bx 2
    have b3 := cellAt I0.out.s 0
    have r0 := cellAt I0.out.r0 0
    have r1 := cellAt I0.out.r0 1
    have r2 := cellAt I0.out.r1 0
    have f0 := freeAt I0.out.r0 0
    have f1 := freeAt I0.out.r0 1
    have f2 := freeAt I0.out.r1 0
    simp only [List.getElem?_toArray, List.getElem?_cons_zero, List.getElem?_cons_succ] at b0 b1 b2 b3 r0 r1 r2
    go_region_with (first | (go_at_call 34; refine Calls.out (.agg #[.int .i64 cr, .slice sa sn sc, .slice ta tn tc]) C1.out ?_ ?_; (intro w2 hb2; have I2 := Lib.hid (I1.out.grow hb2); have r0 := cellAt I2.out.r0 0; have r1 := cellAt I2.out.r0 1; have r2 := cellAt I2.out.r1 0; simp only [List.getElem?_toArray, List.getElem?_cons_zero, List.getElem?_cons_succ] at r0 r1 r2; clear hb2; simp only [err]; go_wp2_with fail; refine leaves_cons (f := 33) (args := #[bp (w.heap.size + 1 + 1 + 1)]) (by simp) (by simp [go_sem]) ?_; refine (answer_panicking _ 0 1 [] _ I2.out.r1).mono ?_; rintro e u' w'' ⟨rfl, rfl, rfl⟩; simp [Leaves, settle, results, Tryz.results10, go_sem, r0, r1, r2]; exact ⟨I2.out.bel.setCell (by dsimp only; omega) _, .inr (.inr ⟨HV.out, rfl⟩)⟩); intro hF) | (go_at_call 37; refine Calls.never (.agg #[.int .i64 0, .int .i64 0]) hF ?_))
    all_goals exact hF.out.elim
end Go.Proofs.YtikeihnhkiipgaaGreat.Wa

namespace Go.Proofs.YtikeihnhkiipgaaGreat.Wa
open Go.RowKit

def allOf (S : Nat → Sm) (sn : Nat) : Int := sumF (fun j => (S j).fat * (S j).rate) sn

theorem cntP_le (p : Nat → Bool) : ∀ n, cntP p n ≤ n
  | 0 => by simp [cntP]
  | n + 1 => by have := cntP_le p n; by_cases h : p n = true <;> simp [cntP, h] <;> omega

theorem coinsOf_bd {cr : Int} {sn tn : Nat} {S : Nat → Sm} {T : Nat → Tk} (hv : Valid cr sn tn S T) (K : Nat → Kn) (c : Int) : 0 ≤ coinsOf S T K sn tn c ∧ coinsOf S T K sn tn c ≤ 3000000 := by
  have h := sumF_bd (fun s => (manyOf S T K tn s c : Int) * (S s).rate) sn (fun i hi => by
    have h1 := hv.fat i hi
    have h2 := hv.rate i hi
    have h3 : (manyOf S T K tn (i : Nat) c : Int) ≤ 20 := by
      have := cntP_le (fun f => decide (ownerOf T K tn (i : Nat) f = c)) (S ((i : Nat) : Int).toNat).fat.toNat
      have e : ((i : Nat) : Int).toNat = i := by simp
      rw [e] at this
      unfold manyOf
      rw [e]
      omega
    constructor
    · exact Int.mul_nonneg (by omega) h2.1
    · have := Int.mul_le_mul h3 h2.2 h2.1 (by omega); omega) sn (Nat.le_refl _)
  have := hv.sn3
  unfold coinsOf
  omega
theorem allOf_bd {cr : Int} {sn tn : Nat} {S : Nat → Sm} {T : Nat → Tk} (hv : Valid cr sn tn S T) {n : Nat} (hn : n ≤ sn) : 0 ≤ allOf S n ∧ allOf S n ≤ 3000000 := by
  have h := sumF_bd (fun j => (S j).fat * (S j).rate) sn (fun i hi => by
    have h1 := hv.fat i hi
    have h2 := hv.rate i hi
    constructor
    · exact Int.mul_nonneg (by omega) h2.1
    · have := Int.mul_le_mul h1.2 h2.2 h2.1 (by omega); omega) n hn
  have := hv.sn3
  unfold allOf
  omega

structure P0 (w : World) (bx : Nat) (x : Array Value) (w' : World) : Prop where
  bel : Below w.heap.size w w'
  box : BoxAt w' bx x 97
  r0 : BoxAt w' (w.heap.size + 1) #[.int .i64 0, .int .i64 0] 50
  r1 : BoxAt w' (w.heap.size + 1 + 1) #[.int .i64 0] 33
theorem P0.grow {w : World} {bx : Nat} {x : Array Value} {w1 w2 : World} (h : P0 w bx x w1) (hb : Below w1.heap.size w1 w2) : P0 w bx x w2 :=
  ⟨h.bel.trans (hb.mono (by have := lt_of_heap h.r0; omega)), h.box.grow hb, h.r0.grow hb, h.r1.grow hb⟩

structure Q0 (w : World) (bx : Nat) (x : Array Value) (w' : World) : Prop where
  bel : Below w.heap.size w w'
  box : BoxAt w' bx x 97
  le : w.heap.size ≤ bx
theorem Q0.grow {w : World} {bx : Nat} {x : Array Value} {w1 w2 : World} (h : Q0 w bx x w1) (hb : Below w1.heap.size w1 w2) : Q0 w bx x w2 :=
  ⟨h.bel.trans (hb.mono (by have := lt_of_heap h.box; have := h.le; omega)), h.box.grow hb, h.le⟩
theorem Q0.set {w : World} {bx : Nat} {x : Array Value} {w1 : World} (h : Q0 w bx x w1) (p : Addr) (v : Value) (h0 : w.heap.size ≤ p.block) (h1 : p.block ≠ bx) : Q0 w bx x (w1.setCell p v) :=
  ⟨h.bel.setCell h0 v, h.box.set p v h1, h.le⟩
theorem Q0.cells {w : World} {bx : Nat} {cr : Int} {sa ta : Option Addr} {sn sc tn tc : Nat} {w' : World} (h : Q0 w bx #[.int .i64 cr, .slice sa sn sc, .slice ta tn tc] w') :
    (w'.cell? ⟨bx, 0, none⟩ = some (.int .i64 cr) ∧ w'.cell? ⟨bx, 1, none⟩ = some (.slice sa sn sc) ∧ w'.cell? ⟨bx, 2, none⟩ = some (.slice ta tn tc)) ∧ Q0 w bx #[.int .i64 cr, .slice sa sn sc, .slice ta tn tc] w' :=
  ⟨⟨cellAt h.box 0, cellAt h.box 1, cellAt h.box 2⟩, h⟩
def PR (w : World) (bx : Nat) (x : Array Value) (S : Nat → Sm) (sn : Nat) (a i : Value) (wr : World) : Prop :=
  ∃ k : Nat, k ≤ sn ∧ i = .int .i64 k ∧ a = .int .i64 (allOf S k) ∧ P0 w bx x wr

set_option maxRecDepth 100000 in
set_option maxHeartbeats 4000000 in
theorem paid_any (cr : Int) (sa ta : Option Addr) (sn sc tn tc : Nat) (S : Nat → Sm) (T : Nat → Tk) (w : World) (hS : SeamsAt w sa sn S) (hT : TicketsAt w ta tn T) :
    Calls Tryz.prog 12 #[.agg #[.int .i64 cr, .slice sa sn sc, .slice ta tn tc]] w
      (Said w (Valid cr sn tn S T) true (.tuple #[.agg #[.int .i64 (allOf S sn - coinsOf S T (mostK (-1) T) sn tn (-1)), .int .i64 (allOf S sn - coinsOf S T (leastK (-1) T) sn tn (-1))], .int .i64 0]) (.tuple #[.agg #[.int .i64 0, .int .i64 0], .int .i64 2]) (.tuple #[.agg #[.int .i64 0, .int .i64 0], .int .i64 1])) := by
  have HS := Lib.hid hS
  have HT := Lib.hid hT
  clear hS hT
  go_enter_defers Tryz.func12, Tryz.ntmps12
  go_wp2_with fail
  generalize hW : World.alloc _ _ = W
  obtain ⟨q0, q1, q2, hz, hB⟩ := blocks3 hW
  clear hW hz
  have I0 := Lib.hid (show Below w.heap.size w W ∧ BoxAt W (w.heap.size + 1) #[.int .i64 0, .int .i64 0] 50 ∧ BoxAt W (w.heap.size + 1 + 1) #[.int .i64 0] 33 from ⟨hB, q1, q2⟩)
  have HB := Lib.hid hB
  clear q0 q1 q2 hB
  have hcf : ∀ W, (callFunc 44 (#[.agg #[.int .i64 cr, .slice sa sn sc, .slice ta tn tc]] ++ #[])).run Tryz.prog W = .ok (.enter 44 (#[.agg #[.int .i64 cr, .slice sa sn sc, .slice ta tn tc]] ++ #[])) W := by intro W1; kernel_rfl
  have HCF := Lib.hid hcf
  clear hcf
  by_cases hv : Valid cr sn tn S T
  · have HV := Lib.hid hv
    have C0 := Lib.hid (fun W' (hb : Below w.heap.size w W') => coins_c cr sa ta sn sc tn tc S T (mostK (-1) T) W' (HS.out.grow hb) (HT.out.grow hb) hv (hv.most (-1)) 106 _ 132 (truth_most W' (-1) tn T) (-1) (by decide) (by decide))
    have C1 := Lib.hid (fun W' (hb : Below w.heap.size w W') => coins_c cr sa ta sn sc tn tc S T (leastK (-1) T) W' (HS.out.grow hb) (HT.out.grow hb) hv (hv.least (-1)) 108 _ 133 (truth_least W' (-1) tn T) (-1) (by decide) (by decide))
    obtain ⟨y0, y1⟩ := coinsOf_bd hv (mostK (-1) T) (-1)
    obtain ⟨y2, y3⟩ := coinsOf_bd hv (leastK (-1) T) (-1)
    have HA := Lib.hid (fun n (hn : n ≤ sn) => allOf_bd hv hn)
    have sn3 := hv.sn3
    refine (open_ok cr sa ta sn sc tn tc S T W (HS.out.grow HB.out) (HT.out.grow HB.out) 44 #[] true hv rfl HCF.out (fun W1 _ _ => paid1_any _ _ _ _ _ _ _ W1)).mono ?_
    rintro e w1 ⟨rfl, hb⟩
    have B1 := Lib.hid hb
    clear hv hb
    go_wp2_with fail
    generalize hW2 : World.alloc _ _ = W2
    obtain ⟨q0, hz, hB⟩ := blocks1 hW2
    have hl1 := lt_of_heap (I0.out.2.2.grow B1.out)
    have I2 := Lib.hid (show P0 w w1.heap.size #[.int .i64 cr, .slice sa sn sc, .slice ta tn tc] W2 from ⟨(I0.out.1.next B1.out).trans (hB.mono (by omega)), q0, (I0.out.2.1.grow B1.out).grow hB, (I0.out.2.2.grow B1.out).grow hB⟩)
    obtain ⟨bx, hbx⟩ : ∃ bx, bx = w1.heap.size := ⟨_, rfl⟩
    rw [← hbx] at I2 hl1 ⊢
    clear hW2 q0 hz hB hbx
    have b0 := cellAt I2.out.box 0
    have b1 := cellAt I2.out.box 1
    have b2 := cellAt I2.out.box 2
    simp only [List.getElem?_toArray, List.getElem?_cons_zero, List.getElem?_cons_succ] at b0 b1 b2
    go_wp2_with fail
    clear b0 b1 b2
    go_loopw [5, 14] (PR w bx #[.int .i64 cr, .slice sa sn sc, .slice ta tn tc] S sn) (fun _ i _ => sn - (intOf i).toNat)
    case atStart => exact ⟨0, Nat.zero_le _, rfl, rfl, I2.out⟩
    case round =>
      clear I2
      obtain ⟨k, hk, rfl, rfl, hinv⟩ := hrel
      have HI := Lib.hid hinv
      clear hinv
      obtain ⟨z0, z1⟩ := HA.out k hk
      by_cases hlt : k < sn
      · have hi := fun w => run_indexAt_row (w := w) (cap := sc) Tryz.underlying36 size52 (HS.out.plain (by omega)) hlt
        obtain ⟨g0, g1⟩ := (HS.out.grow HI.out.bel).at hlt
        obtain ⟨v0, v1⟩ := HV.out.fat k hlt
        obtain ⟨v2, v3⟩ := HV.out.rate k hlt
        have m0 : 0 ≤ (S k).fat * (S k).rate := Int.mul_nonneg v0 v2
        have m1 : (S k).fat * (S k).rate ≤ 1000 := Int.mul_le_mul v1 v3 v2 (by decide)
        go_wp2_with fail
        refine ⟨⟨k + 1, hlt, by go_num, ?_, HI.out.grow ((Below.refl _ _).alloc (Nat.le_refl _) _)⟩, by simp [intOf]; omega⟩
        rfl
      · obtain rfl : k = sn := by omega
        have b0 := cellAt HI.out.box 0
        have b1 := cellAt HI.out.box 1
        have b2 := cellAt HI.out.box 2
        simp only [List.getElem?_toArray, List.getElem?_cons_zero, List.getElem?_cons_succ] at b0 b1 b2
        have J0 := Lib.hid (show Q0 w bx #[.int .i64 cr, .slice sa k sc, .slice ta tn tc] wr.drew from ⟨HI.out.bel.drew, HI.out.box.grow (Below.drew (Below.refl _ _)), by omega⟩)
        have I3 := Lib.hid (HI.out.grow (Below.drew (Below.refl _ _)))
        have e1 : IntKind.i64.wrap (allOf S k - coinsOf S T (mostK (-1) T) k tn (-1)) = allOf S k - coinsOf S T (mostK (-1) T) k tn (-1) := IntWalk.i64_in _ (by omega)
        have e2 : IntKind.i64.wrap (allOf S k - coinsOf S T (leastK (-1) T) k tn (-1)) = allOf S k - coinsOf S T (leastK (-1) T) k tn (-1) := IntWalk.i64_in _ (by omega)
        have n1 : w.heap.size + 1 ≠ bx := by omega
        have n2 : w.heap.size + 1 + 1 ≠ bx := by omega
        go_wp2_with fail
        refine wp_region_noPanic ?_
        refine wp_region_held_drew (S := (fun w' => (w'.cell? ⟨bx, 0, none⟩ = some (.int .i64 cr) ∧ w'.cell? ⟨bx, 1, none⟩ = some (.slice sa k sc) ∧ w'.cell? ⟨bx, 2, none⟩ = some (.slice ta tn tc)) ∧ Q0 w bx #[.int .i64 cr, .slice sa k sc, .slice ta tn tc] w')) (by kernel_rfl) (Q0.cells J0.out) (fun hHeld => ?_)
        refine wpAnyH_take (i := 0) (oi := { dst := some 26, op := Op.move (Operand.tmp 5), type := 3, pos := "wage.go:248", after := #[], guard := none }) (v := ?_) rfl (by kernel_rfl) (by kernel_rfl) (by kernel_rfl) (fun _ _ _ h => h) (Or.inl ⟨by rfl, ?_⟩) (by assumption) ?_
        rotate_left
        · (intro w9 hSw; (try dsimp only at hSw); (go_split_ands; go_simp); (try with_reducible rfl))
        try simp only [Act.put, List.setIfInBounds_toArray, List.set_cons_zero, List.set_cons_succ]
        refine wpAnyH_take (i := 1) (oi := { dst := some 27, op := Op.load 97 (Operand.tmp 4), type := 97, pos := "wage.go:248", after := #[], guard := none }) (v := ?_) rfl (by kernel_rfl) (by kernel_rfl) (by kernel_rfl) (fun _ _ _ h => h) (Or.inl ⟨by rfl, ?_⟩) (by assumption) ?_
        rotate_left
        · (intro w9 hSw; (try dsimp only at hSw); (go_split_ands; go_simp); (try with_reducible rfl))
        try simp only [Act.put, List.setIfInBounds_toArray, List.set_cons_zero, List.set_cons_succ]
        refine wpAnyH_take (i := 2) (oi := { dst := some 28, op := Op.build 106 #[(0, Operand.const (Value.int IntKind.i64 (-1)))], type := 106, pos := "wage.go:248", after := #[], guard := none }) (v := ?_) rfl (by kernel_rfl) (by kernel_rfl) (by kernel_rfl) (fun _ _ _ h => h) (Or.inl ⟨by rfl, ?_⟩) (by assumption) ?_
        rotate_left
        · (intro w9 hSw; (try dsimp only at hSw); (go_split_ands; go_simp); (try with_reducible rfl))
        try simp only [Act.put, List.setIfInBounds_toArray, List.set_cons_zero, List.set_cons_succ]
        refine wpAnyH_take (i := 3) (oi := { dst := some 29, op := Op.makeInterface 106 (Operand.tmp 28), type := 145, pos := "wage.go:248", after := #[{ on := 2, ground := Ground.data }], guard := none }) (v := ?_) rfl (by kernel_rfl) (by kernel_rfl) (by kernel_rfl) (fun _ _ _ h => h) (Or.inl ⟨by rfl, ?_⟩) (by assumption) ?_
        rotate_left
        · (intro w9 hSw; (try dsimp only at hSw); (go_split_ands; go_simp); (try with_reducible rfl))
        try simp only [Act.put, List.setIfInBounds_toArray, List.set_cons_zero, List.set_cons_succ]
        refine wpAnyH_take (i := 6) (oi := { dst := some 32, op := Op.move (Operand.tmp 5), type := 3, pos := "wage.go:248", after := #[], guard := none }) (v := ?_) rfl (by kernel_rfl) (by kernel_rfl) (by kernel_rfl) (fun _ _ _ h => h) (Or.inl ⟨by rfl, ?_⟩) (by assumption) ?_
        rotate_left
        · (intro w9 hSw; (try dsimp only at hSw); (go_split_ands; go_simp); (try with_reducible rfl))
        try simp only [Act.put, List.setIfInBounds_toArray, List.set_cons_zero, List.set_cons_succ]
        refine wpAnyH_take (i := 7) (oi := { dst := some 33, op := Op.load 97 (Operand.tmp 4), type := 97, pos := "wage.go:248", after := #[], guard := none }) (v := ?_) rfl (by kernel_rfl) (by kernel_rfl) (by kernel_rfl) (fun _ _ _ h => h) (Or.inl ⟨by rfl, ?_⟩) (by assumption) ?_
        rotate_left
        · (intro w9 hSw; (try dsimp only at hSw); (go_split_ands; go_simp); (try with_reducible rfl))
        try simp only [Act.put, List.setIfInBounds_toArray, List.set_cons_zero, List.set_cons_succ]
        refine wpAnyH_take (i := 8) (oi := { dst := some 34, op := Op.build 106 #[(0, Operand.const (Value.int IntKind.i64 (-1)))], type := 106, pos := "wage.go:248", after := #[], guard := none }) (v := ?_) rfl (by kernel_rfl) (by kernel_rfl) (by kernel_rfl) (fun _ _ _ h => h) (Or.inl ⟨by rfl, ?_⟩) (by assumption) ?_
        rotate_left
        · (intro w9 hSw; (try dsimp only at hSw); (go_split_ands; go_simp); (try with_reducible rfl))
        try simp only [Act.put, List.setIfInBounds_toArray, List.set_cons_zero, List.set_cons_succ]
        refine wpAnyH_take (i := 9) (oi := { dst := some 35, op := Op.build 108 #[(0, Operand.tmp 34)], type := 108, pos := "wage.go:248", after := #[{ on := 8, ground := Ground.data }], guard := none }) (v := ?_) rfl (by kernel_rfl) (by kernel_rfl) (by kernel_rfl) (fun _ _ _ h => h) (Or.inl ⟨by rfl, ?_⟩) (by assumption) ?_
        rotate_left
        · (intro w9 hSw; (try dsimp only at hSw); (go_split_ands; go_simp); (try with_reducible rfl))
        try simp only [Act.put, List.setIfInBounds_toArray, List.set_cons_zero, List.set_cons_succ]
        refine wpAnyH_take (i := 10) (oi := { dst := some 36, op := Op.makeInterface 108 (Operand.tmp 35), type := 145, pos := "wage.go:248", after := #[{ on := 9, ground := Ground.data }], guard := none }) (v := ?_) rfl (by kernel_rfl) (by kernel_rfl) (by kernel_rfl) (fun _ _ _ h => h) (Or.inl ⟨by rfl, ?_⟩) (by assumption) ?_
        rotate_left
        · (intro w9 hSw; (try dsimp only at hSw); (go_split_ands; go_simp); (try with_reducible rfl))
        try simp only [Act.put, List.setIfInBounds_toArray, List.set_cons_zero, List.set_cons_succ]
        refine wpAnyH_ready (rs := [4]) (by kernel_rfl) (by simp) ?_
        refine AllReadyH.cons (o := { dst := some 30, op := Op.call { callee := Callee.value (Operand.func 45), args := #[Operand.tmp 27, Operand.const (Value.int IntKind.i64 (-1)), Operand.tmp 29], argTypes := #[97, 3, 145] }, type := 3, pos := "wage.go:248", after := #[{ on := 1, ground := Ground.data }, { on := 3, ground := Ground.data }], guard := none }) rfl (fun K hK => ?_) AllReadyH.nil
        go_simp
        go_at_call 45; refine (C0.out _ I3.out.bel).mono ?_; rintro e w3 ⟨rfl, hb3⟩; have I4 := Lib.hid (I3.out.grow hb3); have B3 := Lib.hid hb3; clear hb3
        go_wp2_with fail
        refine hK.out _ _ ?_ (fun hHeld => ?_)
        · exact Q0.cells (Q0.grow J0.out B3.out)
        clear hK K
        try simp only [Act.put, List.setIfInBounds_toArray, List.set_cons_zero, List.set_cons_succ]
        have J1 := Lib.hid hHeld.2
        refine wpAnyH_take (i := 5) (oi := { dst := some 31, op := Op.binOp BinOp.sub 3 (Operand.tmp 26) (Operand.tmp 30) 3, type := 3, pos := "wage.go:248", after := #[{ on := 0, ground := Ground.data }, { on := 4, ground := Ground.data }], guard := none }) (v := ?_) rfl (by kernel_rfl) (by kernel_rfl) (by kernel_rfl) (fun _ _ _ h => h) (Or.inl ⟨by rfl, ?_⟩) (by assumption) ?_
        rotate_left
        · (intro w9 hSw; (try dsimp only at hSw); (go_split_ands; go_simp); (try with_reducible rfl))
        try simp only [Act.put, List.setIfInBounds_toArray, List.set_cons_zero, List.set_cons_succ]
        refine wpAnyH_ready (rs := [11]) (by kernel_rfl) (by simp) ?_
        refine AllReadyH.cons (o := { dst := some 37, op := Op.call { callee := Callee.value (Operand.func 45), args := #[Operand.tmp 33, Operand.const (Value.int IntKind.i64 (-1)), Operand.tmp 36], argTypes := #[97, 3, 145] }, type := 3, pos := "wage.go:248", after := #[{ on := 7, ground := Ground.data }, { on := 10, ground := Ground.data }, { on := 4, ground := Ground.chain }], guard := none }) rfl (fun K hK => ?_) AllReadyH.nil
        go_simp
        go_at_call 45; refine (C1.out _ I4.out.bel).mono ?_; rintro e w4 ⟨rfl, hb4⟩; have I5 := Lib.hid (I4.out.grow hb4); have B4 := Lib.hid hb4; clear hb4
        go_wp2_with fail
        refine hK.out _ _ ?_ (fun hHeld => ?_)
        · exact Q0.cells (Q0.grow J1.out B4.out)
        clear hK K
        try simp only [Act.put, List.setIfInBounds_toArray, List.set_cons_zero, List.set_cons_succ]
        have J2 := Lib.hid hHeld.2
        refine wpAnyH_take (i := 12) (oi := { dst := some 38, op := Op.binOp BinOp.sub 3 (Operand.tmp 32) (Operand.tmp 37) 3, type := 3, pos := "wage.go:248", after := #[{ on := 6, ground := Ground.data }, { on := 11, ground := Ground.data }], guard := none }) (v := ?_) rfl (by kernel_rfl) (by kernel_rfl) (by kernel_rfl) (fun _ _ _ h => h) (Or.inl ⟨by rfl, ?_⟩) (by assumption) ?_
        rotate_left
        · (intro w9 hSw; (try dsimp only at hSw); (go_split_ands; go_simp); (try with_reducible rfl))
        try simp only [Act.put, List.setIfInBounds_toArray, List.set_cons_zero, List.set_cons_succ]
        refine wpAnyH_take (i := 13) (oi := { dst := some 39, op := Op.build 50 #[(0, Operand.tmp 31), (1, Operand.tmp 38)], type := 50, pos := "wage.go:248", after := #[{ on := 5, ground := Ground.data }, { on := 12, ground := Ground.data }], guard := none }) (v := ?_) rfl (by kernel_rfl) (by kernel_rfl) (by kernel_rfl) (fun _ _ _ h => h) (Or.inl ⟨by rfl, ?_⟩) (by assumption) ?_
        rotate_left
        · (intro w9 hSw; (try dsimp only at hSw); (go_split_ands; go_simp); (try with_reducible rfl))
        try simp only [Act.put, List.setIfInBounds_toArray, List.set_cons_zero, List.set_cons_succ]
        have r0 := cellAt I5.out.r0 0
        have r1 := cellAt I5.out.r0 1
        have r2 := cellAt I5.out.r1 0
        have f0 := freeAt I5.out.r0 0
        have f1 := freeAt I5.out.r0 1
        have f2 := freeAt I5.out.r1 0
        simp only [List.getElem?_toArray, List.getElem?_cons_zero, List.getElem?_cons_succ] at r0 r1 r2
        refine wpAnyH_ready (rs := [14]) (by kernel_rfl) (by simp) ?_
        refine AllReadyH.cons (o := { dst := none, op := Op.store 50 (Operand.tmp 2) (Operand.tmp 39), type := 0, pos := "wage.go:248", after := #[{ on := 13, ground := Ground.data }, { on := 11, ground := Ground.chain }, { on := 0, ground := Ground.phase }, { on := 1, ground := Ground.phase }, { on := 2, ground := Ground.phase }, { on := 3, ground := Ground.phase }, { on := 4, ground := Ground.phase }, { on := 5, ground := Ground.phase }, { on := 6, ground := Ground.phase }, { on := 7, ground := Ground.phase }, { on := 8, ground := Ground.phase }, { on := 9, ground := Ground.phase }, { on := 10, ground := Ground.phase }, { on := 11, ground := Ground.phase }, { on := 12, ground := Ground.phase }, { on := 13, ground := Ground.phase }], guard := none }) rfl (fun K hK => ?_) AllReadyH.nil
        go_simp
        skip
        go_wp2_with fail
        refine hK.out _ _ ?_ (fun hHeld => ?_)
        · exact Q0.cells (Q0.set (Q0.set J2.out _ _ (by dsimp only; omega) (by dsimp only; omega)) _ _ (by dsimp only; omega) (by dsimp only; omega))
        clear hK K
        try simp only [Act.put, List.setIfInBounds_toArray, List.set_cons_zero, List.set_cons_succ]
        have J3 := Lib.hid hHeld.2
        refine wpAnyH_ready (rs := [15]) (by kernel_rfl) (by simp) ?_
        refine AllReadyH.cons (o := { dst := none, op := Op.store 33 (Operand.tmp 3) (Operand.const (Value.int IntKind.i64 0)), type := 0, pos := "wage.go:248", after := #[{ on := 14, ground := Ground.chain }, { on := 0, ground := Ground.phase }, { on := 1, ground := Ground.phase }, { on := 2, ground := Ground.phase }, { on := 3, ground := Ground.phase }, { on := 4, ground := Ground.phase }, { on := 5, ground := Ground.phase }, { on := 6, ground := Ground.phase }, { on := 7, ground := Ground.phase }, { on := 8, ground := Ground.phase }, { on := 9, ground := Ground.phase }, { on := 10, ground := Ground.phase }, { on := 11, ground := Ground.phase }, { on := 12, ground := Ground.phase }, { on := 13, ground := Ground.phase }, { on := 14, ground := Ground.phase }], guard := none }) rfl (fun K hK => ?_) AllReadyH.nil
        go_simp
        skip
        go_wp2_with fail
        refine hK.out _ _ ?_ (fun hHeld => ?_)
        · exact Q0.cells (Q0.set J3.out _ _ (by dsimp only; omega) (by dsimp only; omega))
        clear hK K
        try simp only [Act.put, List.setIfInBounds_toArray, List.set_cons_zero, List.set_cons_succ]
        have J4 := Lib.hid hHeld.2
        refine wpAnyH_done (by kernel_rfl) ?_ _
        refine NoPanic.normal ?_
        clear hHeld
        go_wp2_with fail
        refine leaves_cons (f := 33) (args := #[bp (w.heap.size + 1 + 1)]) (by simp) (by simp [go_sem]) ?_
        refine (answer_idle _ _).mono ?_
        rintro e u' w'' ⟨rfl, rfl, rfl⟩
        simp [Leaves, settle, results, Tryz.results12, go_sem, r0, r1, r2]
        exact ⟨J4.out.bel, .inl ⟨HV.out, rfl, rfl⟩⟩
  · have HV := Lib.hid hv
    refine (open_arg cr sa ta sn sc tn tc S T W (HS.out.grow HB.out) (HT.out.grow HB.out) 44 _ hv HCF.out).mono ?_
    rintro e w1 ⟨rfl, hb⟩
    have I1 := Lib.hid (I0.out.2.1.grow hb)
    have I2 := Lib.hid (I0.out.2.2.grow hb)
    have B1 := Lib.hid (I0.out.1.next hb)
    clear hv hb
    simp only [err]
    go_wp2_with fail
    refine leaves_cons (f := 33) (args := #[bp (w.heap.size + 1 + 1)]) (by simp) (by simp [go_sem]) ?_
    refine (answer_panicking _ 0 1 [] _ I2.out).mono ?_
    rintro e u' w'' ⟨rfl, rfl, rfl⟩
    have r0 := cellAt I1.out 0
    have r1 := cellAt I1.out 1
    have r2 := cellAt I2.out 0
    simp only [List.getElem?_toArray, List.getElem?_cons_zero, List.getElem?_cons_succ] at r0 r1 r2
    simp [Leaves, settle, results, Tryz.results12, go_sem, r0, r1, r2]
    exact ⟨B1.out.setCell (by dsimp only; omega) _, .inr (.inr ⟨HV.out, rfl⟩)⟩
end Go.Proofs.YtikeihnhkiipgaaGreat.Wa
