/-
  Walks: the exported functions: how many coins are paid.
-/
import Derived.Test.YtbpeamppkdmdcaaW17
namespace Go.Proofs.Ytbpeamppkdmdcaa
open Go.RowKit

def allOf (S : Nat → Sm) (sn : Nat) : Int := sumF (fun j => (S j).fat * (S j).rate) sn

theorem cntP_le (p : Nat → Bool) : ∀ n, cntP p n ≤ n
  | 0 => by simp [cntP]
  | n + 1 => by have := cntP_le p n; by_cases h : p n = true <;> simp [cntP, h] <;> omega

theorem coinsOf_bd {cr : Int} {sn tn : Nat} {S : Nat → Sm} {T : Nat → Tk} (hv : Valid cr sn tn S T) (K : Nat → Kn) (c : Int) : 0 ≤ coinsOf S T K sn tn c ∧ coinsOf S T K sn tn c ≤ 3000000 := by
  have h := sumF_bd (fun s => (manyOf S T K tn s c : Int) * (S s).rate) sn (fun i hi => by
    have h1 := hv.fat i hi
    have h2 := hv.rate i hi
    have h3 : (manyOf S T K tn (i : Nat) c : Int) ≤ 20 := by
      have := cntP_le (fun f => decide (ownerOf T K tn (i : Nat) f = c)) (S ((i : Nat) : Int).toNat).fat.toNat
      have e : ((i : Nat) : Int).toNat = i := by simp
      rw [e] at this
      unfold manyOf
      rw [e]
      omega
    constructor
    · exact Int.mul_nonneg (by omega) h2.1
    · have := Int.mul_le_mul h3 h2.2 h2.1 (by omega); omega) sn (Nat.le_refl _)
  have := hv.sn3
  unfold coinsOf
  omega
theorem allOf_bd {cr : Int} {sn tn : Nat} {S : Nat → Sm} {T : Nat → Tk} (hv : Valid cr sn tn S T) {n : Nat} (hn : n ≤ sn) : 0 ≤ allOf S n ∧ allOf S n ≤ 3000000 := by
  have h := sumF_bd (fun j => (S j).fat * (S j).rate) sn (fun i hi => by
    have h1 := hv.fat i hi
    have h2 := hv.rate i hi
    constructor
    · exact Int.mul_nonneg (by omega) h2.1
    · have := Int.mul_le_mul h1.2 h2.2 h2.1 (by omega); omega) n hn
  have := hv.sn3
  unfold allOf
  omega

structure P0 (w : World) (bx : Nat) (x : Array Value) (w' : World) : Prop where
  bel : Below w.heap.size w w'
  box : BoxAt w' bx x 77
  r0 : BoxAt w' (w.heap.size + 1) #[.int .i64 0, .int .i64 0] 29
  r1 : BoxAt w' (w.heap.size + 1 + 1) #[.int .i64 0] 30
theorem P0.grow {w : World} {bx : Nat} {x : Array Value} {w1 w2 : World} (h : P0 w bx x w1) (hb : Below w1.heap.size w1 w2) : P0 w bx x w2 :=
  ⟨h.bel.trans (hb.mono (by have := lt_of_heap h.r0; omega)), h.box.grow hb, h.r0.grow hb, h.r1.grow hb⟩

structure Q0 (w : World) (bx : Nat) (x : Array Value) (w' : World) : Prop where
  bel : Below w.heap.size w w'
  box : BoxAt w' bx x 77
  le : w.heap.size ≤ bx
theorem Q0.grow {w : World} {bx : Nat} {x : Array Value} {w1 w2 : World} (h : Q0 w bx x w1) (hb : Below w1.heap.size w1 w2) : Q0 w bx x w2 :=
  ⟨h.bel.trans (hb.mono (by have := lt_of_heap h.box; have := h.le; omega)), h.box.grow hb, h.le⟩
theorem Q0.set {w : World} {bx : Nat} {x : Array Value} {w1 : World} (h : Q0 w bx x w1) (p : Addr) (v : Value) (h0 : w.heap.size ≤ p.block) (h1 : p.block ≠ bx) : Q0 w bx x (w1.setCell p v) :=
  ⟨h.bel.setCell h0 v, h.box.set p v h1, h.le⟩
theorem Q0.cells {w : World} {bx : Nat} {cr : Int} {sa ta : Option Addr} {sn sc tn tc : Nat} {w' : World} (h : Q0 w bx #[.int .i64 cr, .slice sa sn sc, .slice ta tn tc] w') :
    (w'.cell? ⟨bx, 0, none⟩ = some (.int .i64 cr) ∧ w'.cell? ⟨bx, 1, none⟩ = some (.slice sa sn sc) ∧ w'.cell? ⟨bx, 2, none⟩ = some (.slice ta tn tc)) ∧ Q0 w bx #[.int .i64 cr, .slice sa sn sc, .slice ta tn tc] w' :=
  ⟨⟨cellAt h.box 0, cellAt h.box 1, cellAt h.box 2⟩, h⟩
def PR (w : World) (bx : Nat) (x : Array Value) (S : Nat → Sm) (sn : Nat) (a i : Value) (wr : World) : Prop :=
  ∃ k : Nat, k ≤ sn ∧ i = .int .i64 k ∧ a = .int .i64 (allOf S k) ∧ P0 w bx x wr

set_option maxRecDepth 100000 in
set_option maxHeartbeats 4000000 in
theorem paid_any (cr : Int) (sa ta : Option Addr) (sn sc tn tc : Nat) (S : Nat → Sm) (T : Nat → Tk) (w : World) (hS : SeamsAt w sa sn S) (hT : TicketsAt w ta tn T) :
    Calls Try.prog 23 #[.agg #[.int .i64 cr, .slice sa sn sc, .slice ta tn tc]] w
      (Said w (Valid cr sn tn S T) true (.tuple #[.agg #[.int .i64 (allOf S sn - coinsOf S T (mostK (-1) T) sn tn (-1)), .int .i64 (allOf S sn - coinsOf S T (leastK (-1) T) sn tn (-1))], .int .i64 0]) (.tuple #[.agg #[.int .i64 0, .int .i64 0], .int .i64 2]) (.tuple #[.agg #[.int .i64 0, .int .i64 0], .int .i64 1])) := by
  have HS := Lib.hid hS
  have HT := Lib.hid hT
  clear hS hT
  go_enter_defers Try.func23, Try.ntmps23
  go_wp2_with fail
  generalize hW : World.alloc _ _ = W
  obtain ⟨q0, q1, q2, hz, hB⟩ := blocks3 hW
  clear hW hz
  have I0 := Lib.hid (show Below w.heap.size w W ∧ BoxAt W (w.heap.size + 1) #[.int .i64 0, .int .i64 0] 29 ∧ BoxAt W (w.heap.size + 1 + 1) #[.int .i64 0] 30 from ⟨hB, q1, q2⟩)
  have HB := Lib.hid hB
  clear q0 q1 q2 hB
  have hcf : ∀ W, (callFunc 69 (#[.agg #[.int .i64 cr, .slice sa sn sc, .slice ta tn tc]] ++ #[])).run Try.prog W = .ok (.enter 69 (#[.agg #[.int .i64 cr, .slice sa sn sc, .slice ta tn tc]] ++ #[])) W := by intro W1; kernel_rfl
  have HCF := Lib.hid hcf
  clear hcf
  by_cases hv : Valid cr sn tn S T
  · have HV := Lib.hid hv
    have C0 := Lib.hid (fun W' (hb : Below w.heap.size w W') => coins_c cr sa ta sn sc tn tc S T (mostK (-1) T) W' (HS.out.grow hb) (HT.out.grow hb) hv (hv.most (-1)) 83 _ 58 (truth_most W' (-1) tn T) (-1) (by decide) (by decide))
    have C1 := Lib.hid (fun W' (hb : Below w.heap.size w W') => coins_c cr sa ta sn sc tn tc S T (leastK (-1) T) W' (HS.out.grow hb) (HT.out.grow hb) hv (hv.least (-1)) 85 _ 124 (truth_least W' (-1) tn T) (-1) (by decide) (by decide))
    obtain ⟨y0, y1⟩ := coinsOf_bd hv (mostK (-1) T) (-1)
    obtain ⟨y2, y3⟩ := coinsOf_bd hv (leastK (-1) T) (-1)
    have HA := Lib.hid (fun n (hn : n ≤ sn) => allOf_bd hv hn)
    have sn3 := hv.sn3
    refine (open_ok cr sa ta sn sc tn tc S T W (HS.out.grow HB.out) (HT.out.grow HB.out) 69 #[] true hv rfl HCF.out (fun W1 _ _ => paid1_any _ _ _ _ _ _ _ W1)).mono ?_
    rintro e w1 ⟨rfl, hb⟩
    have B1 := Lib.hid hb
    clear hv hb
    go_wp2_with fail
    generalize hW2 : World.alloc _ _ = W2
    obtain ⟨q0, hz, hB⟩ := blocks1 hW2
    have hl1 := lt_of_heap (I0.out.2.2.grow B1.out)
    have I2 := Lib.hid (show P0 w w1.heap.size #[.int .i64 cr, .slice sa sn sc, .slice ta tn tc] W2 from ⟨(I0.out.1.next B1.out).trans (hB.mono (by omega)), q0, (I0.out.2.1.grow B1.out).grow hB, (I0.out.2.2.grow B1.out).grow hB⟩)
    obtain ⟨bx, hbx⟩ : ∃ bx, bx = w1.heap.size := ⟨_, rfl⟩
    rw [← hbx] at I2 hl1 ⊢
    clear hW2 q0 hz hB hbx
    have b0 := cellAt I2.out.box 0
    have b1 := cellAt I2.out.box 1
    have b2 := cellAt I2.out.box 2
    simp only [List.getElem?_toArray, List.getElem?_cons_zero, List.getElem?_cons_succ] at b0 b1 b2
    go_wp2_with fail
    clear b0 b1 b2
    go_loopw [5, 14] (PR w bx #[.int .i64 cr, .slice sa sn sc, .slice ta tn tc] S sn) (fun _ i _ => sn - (intOf i).toNat)
    case atStart => exact ⟨0, Nat.zero_le _, rfl, rfl, I2.out⟩
    case round =>
      clear I2
      obtain ⟨k, hk, rfl, rfl, hinv⟩ := hrel
      have HI := Lib.hid hinv
      clear hinv
      obtain ⟨z0, z1⟩ := HA.out k hk
      by_cases hlt : k < sn
      · have hi := fun w => run_indexAt_row (w := w) (cap := sc) Try.underlying22 size52 (HS.out.plain (by omega)) hlt
        obtain ⟨g0, g1⟩ := (HS.out.grow HI.out.bel).at hlt
        obtain ⟨v0, v1⟩ := HV.out.fat k hlt
        obtain ⟨v2, v3⟩ := HV.out.rate k hlt
        have m0 : 0 ≤ (S k).fat * (S k).rate := Int.mul_nonneg v0 v2
        have m1 : (S k).fat * (S k).rate ≤ 1000 := Int.mul_le_mul v1 v3 v2 (by decide)
        go_wp2_with fail
        refine ⟨⟨k + 1, hlt, by go_num, ?_, HI.out.grow ((Below.refl _ _).alloc (Nat.le_refl _) _)⟩, by simp [intOf]; omega⟩
        rfl
      · obtain rfl : k = sn := by omega
        have b0 := cellAt HI.out.box 0
        have b1 := cellAt HI.out.box 1
        have b2 := cellAt HI.out.box 2
        simp only [List.getElem?_toArray, List.getElem?_cons_zero, List.getElem?_cons_succ] at b0 b1 b2
        have J0 := Lib.hid (show Q0 w bx #[.int .i64 cr, .slice sa k sc, .slice ta tn tc] wr.drew from ⟨HI.out.bel.drew, HI.out.box.grow (Below.drew (Below.refl _ _)), by omega⟩)
        have I3 := Lib.hid (HI.out.grow (Below.drew (Below.refl _ _)))
        have e1 : IntKind.i64.wrap (allOf S k - coinsOf S T (mostK (-1) T) k tn (-1)) = allOf S k - coinsOf S T (mostK (-1) T) k tn (-1) := IntWalk.i64_in _ (by omega)
        have e2 : IntKind.i64.wrap (allOf S k - coinsOf S T (leastK (-1) T) k tn (-1)) = allOf S k - coinsOf S T (leastK (-1) T) k tn (-1) := IntWalk.i64_in _ (by omega)
        have n1 : w.heap.size + 1 ≠ bx := by omega
        have n2 : w.heap.size + 1 + 1 ≠ bx := by omega
        go_wp2_with fail
        refine wp_region_noPanic ?_
        refine wp_region_held_drew (S := (fun w' => (w'.cell? ⟨bx, 0, none⟩ = some (.int .i64 cr) ∧ w'.cell? ⟨bx, 1, none⟩ = some (.slice sa k sc) ∧ w'.cell? ⟨bx, 2, none⟩ = some (.slice ta tn tc)) ∧ Q0 w bx #[.int .i64 cr, .slice sa k sc, .slice ta tn tc] w')) (by kernel_rfl) (Q0.cells J0.out) (fun hHeld => ?_)
        refine wpAnyH_take (i := 0) (oi := { dst := some 26, op := Op.move (Operand.tmp 5), type := 3, pos := "wage.go:248", after := #[], guard := none }) (v := ?_) rfl (by kernel_rfl) (by kernel_rfl) (by kernel_rfl) (fun _ _ _ h => h) (Or.inl ⟨by rfl, ?_⟩) (by assumption) ?_
        rotate_left
        · (intro w9 hSw; (try dsimp only at hSw); (go_split_ands; go_simp); (try with_reducible rfl))
        try simp only [Act.put, List.setIfInBounds_toArray, List.set_cons_zero, List.set_cons_succ]
        refine wpAnyH_take (i := 1) (oi := { dst := some 27, op := Op.load 77 (Operand.tmp 4), type := 77, pos := "wage.go:248", after := #[], guard := none }) (v := ?_) rfl (by kernel_rfl) (by kernel_rfl) (by kernel_rfl) (fun _ _ _ h => h) (Or.inl ⟨by rfl, ?_⟩) (by assumption) ?_
        rotate_left
        · (intro w9 hSw; (try dsimp only at hSw); (go_split_ands; go_simp); (try with_reducible rfl))
        try simp only [Act.put, List.setIfInBounds_toArray, List.set_cons_zero, List.set_cons_succ]
        refine wpAnyH_take (i := 2) (oi := { dst := some 28, op := Op.build 83 #[(0, Operand.const (Value.int IntKind.i64 (-1)))], type := 83, pos := "wage.go:248", after := #[], guard := none }) (v := ?_) rfl (by kernel_rfl) (by kernel_rfl) (by kernel_rfl) (fun _ _ _ h => h) (Or.inl ⟨by rfl, ?_⟩) (by assumption) ?_
        rotate_left
        · (intro w9 hSw; (try dsimp only at hSw); (go_split_ands; go_simp); (try with_reducible rfl))
        try simp only [Act.put, List.setIfInBounds_toArray, List.set_cons_zero, List.set_cons_succ]
        refine wpAnyH_take (i := 3) (oi := { dst := some 29, op := Op.makeInterface 83 (Operand.tmp 28), type := 139, pos := "wage.go:248", after := #[{ on := 2, ground := Ground.data }], guard := none }) (v := ?_) rfl (by kernel_rfl) (by kernel_rfl) (by kernel_rfl) (fun _ _ _ h => h) (Or.inl ⟨by rfl, ?_⟩) (by assumption) ?_
        rotate_left
        · (intro w9 hSw; (try dsimp only at hSw); (go_split_ands; go_simp); (try with_reducible rfl))
        try simp only [Act.put, List.setIfInBounds_toArray, List.set_cons_zero, List.set_cons_succ]
        refine wpAnyH_take (i := 6) (oi := { dst := some 32, op := Op.move (Operand.tmp 5), type := 3, pos := "wage.go:248", after := #[], guard := none }) (v := ?_) rfl (by kernel_rfl) (by kernel_rfl) (by kernel_rfl) (fun _ _ _ h => h) (Or.inl ⟨by rfl, ?_⟩) (by assumption) ?_
        rotate_left
        · (intro w9 hSw; (try dsimp only at hSw); (go_split_ands; go_simp); (try with_reducible rfl))
        try simp only [Act.put, List.setIfInBounds_toArray, List.set_cons_zero, List.set_cons_succ]
        refine wpAnyH_take (i := 7) (oi := { dst := some 33, op := Op.load 77 (Operand.tmp 4), type := 77, pos := "wage.go:248", after := #[], guard := none }) (v := ?_) rfl (by kernel_rfl) (by kernel_rfl) (by kernel_rfl) (fun _ _ _ h => h) (Or.inl ⟨by rfl, ?_⟩) (by assumption) ?_
        rotate_left
        · (intro w9 hSw; (try dsimp only at hSw); (go_split_ands; go_simp); (try with_reducible rfl))
        try simp only [Act.put, List.setIfInBounds_toArray, List.set_cons_zero, List.set_cons_succ]
        refine wpAnyH_take (i := 8) (oi := { dst := some 34, op := Op.build 83 #[(0, Operand.const (Value.int IntKind.i64 (-1)))], type := 83, pos := "wage.go:248", after := #[], guard := none }) (v := ?_) rfl (by kernel_rfl) (by kernel_rfl) (by kernel_rfl) (fun _ _ _ h => h) (Or.inl ⟨by rfl, ?_⟩) (by assumption) ?_
        rotate_left
        · (intro w9 hSw; (try dsimp only at hSw); (go_split_ands; go_simp); (try with_reducible rfl))
        try simp only [Act.put, List.setIfInBounds_toArray, List.set_cons_zero, List.set_cons_succ]
        refine wpAnyH_take (i := 9) (oi := { dst := some 35, op := Op.build 85 #[(0, Operand.tmp 34)], type := 85, pos := "wage.go:248", after := #[{ on := 8, ground := Ground.data }], guard := none }) (v := ?_) rfl (by kernel_rfl) (by kernel_rfl) (by kernel_rfl) (fun _ _ _ h => h) (Or.inl ⟨by rfl, ?_⟩) (by assumption) ?_
        rotate_left
        · (intro w9 hSw; (try dsimp only at hSw); (go_split_ands; go_simp); (try with_reducible rfl))
        try simp only [Act.put, List.setIfInBounds_toArray, List.set_cons_zero, List.set_cons_succ]
        refine wpAnyH_take (i := 10) (oi := { dst := some 36, op := Op.makeInterface 85 (Operand.tmp 35), type := 139, pos := "wage.go:248", after := #[{ on := 9, ground := Ground.data }], guard := none }) (v := ?_) rfl (by kernel_rfl) (by kernel_rfl) (by kernel_rfl) (fun _ _ _ h => h) (Or.inl ⟨by rfl, ?_⟩) (by assumption) ?_
        rotate_left
        · (intro w9 hSw; (try dsimp only at hSw); (go_split_ands; go_simp); (try with_reducible rfl))
        try simp only [Act.put, List.setIfInBounds_toArray, List.set_cons_zero, List.set_cons_succ]
        refine wpAnyH_ready (rs := [4]) (by kernel_rfl) (by simp) ?_
        refine AllReadyH.cons (o := { dst := some 30, op := Op.call { callee := Callee.value (Operand.func 70), args := #[Operand.tmp 27, Operand.const (Value.int IntKind.i64 (-1)), Operand.tmp 29], argTypes := #[77, 3, 139] }, type := 3, pos := "wage.go:248", after := #[{ on := 1, ground := Ground.data }, { on := 3, ground := Ground.data }], guard := none }) rfl (fun K hK => ?_) AllReadyH.nil
        go_simp
        go_at_call 70; refine (C0.out _ I3.out.bel).mono ?_; rintro e w3 ⟨rfl, hb3⟩; have I4 := Lib.hid (I3.out.grow hb3); have B3 := Lib.hid hb3; clear hb3
        go_wp2_with fail
        refine hK.out _ _ ?_ (fun hHeld => ?_)
        · exact Q0.cells (Q0.grow J0.out B3.out)
        clear hK K
        try simp only [Act.put, List.setIfInBounds_toArray, List.set_cons_zero, List.set_cons_succ]
        have J1 := Lib.hid hHeld.2
        refine wpAnyH_take (i := 5) (oi := { dst := some 31, op := Op.binOp BinOp.sub 3 (Operand.tmp 26) (Operand.tmp 30) 3, type := 3, pos := "wage.go:248", after := #[{ on := 0, ground := Ground.data }, { on := 4, ground := Ground.data }], guard := none }) (v := ?_) rfl (by kernel_rfl) (by kernel_rfl) (by kernel_rfl) (fun _ _ _ h => h) (Or.inl ⟨by rfl, ?_⟩) (by assumption) ?_
        rotate_left
        · (intro w9 hSw; (try dsimp only at hSw); (go_split_ands; go_simp); (try with_reducible rfl))
        try simp only [Act.put, List.setIfInBounds_toArray, List.set_cons_zero, List.set_cons_succ]
        refine wpAnyH_ready (rs := [11]) (by kernel_rfl) (by simp) ?_
        refine AllReadyH.cons (o := { dst := some 37, op := Op.call { callee := Callee.value (Operand.func 70), args := #[Operand.tmp 33, Operand.const (Value.int IntKind.i64 (-1)), Operand.tmp 36], argTypes := #[77, 3, 139] }, type := 3, pos := "wage.go:248", after := #[{ on := 7, ground := Ground.data }, { on := 10, ground := Ground.data }, { on := 4, ground := Ground.chain }], guard := none }) rfl (fun K hK => ?_) AllReadyH.nil
        go_simp
        go_at_call 70; refine (C1.out _ I4.out.bel).mono ?_; rintro e w4 ⟨rfl, hb4⟩; have I5 := Lib.hid (I4.out.grow hb4); have B4 := Lib.hid hb4; clear hb4
        go_wp2_with fail
        refine hK.out _ _ ?_ (fun hHeld => ?_)
        · exact Q0.cells (Q0.grow J1.out B4.out)
        clear hK K
        try simp only [Act.put, List.setIfInBounds_toArray, List.set_cons_zero, List.set_cons_succ]
        have J2 := Lib.hid hHeld.2
        refine wpAnyH_take (i := 12) (oi := { dst := some 38, op := Op.binOp BinOp.sub 3 (Operand.tmp 32) (Operand.tmp 37) 3, type := 3, pos := "wage.go:248", after := #[{ on := 6, ground := Ground.data }, { on := 11, ground := Ground.data }], guard := none }) (v := ?_) rfl (by kernel_rfl) (by kernel_rfl) (by kernel_rfl) (fun _ _ _ h => h) (Or.inl ⟨by rfl, ?_⟩) (by assumption) ?_
        rotate_left
        · (intro w9 hSw; (try dsimp only at hSw); (go_split_ands; go_simp); (try with_reducible rfl))
        try simp only [Act.put, List.setIfInBounds_toArray, List.set_cons_zero, List.set_cons_succ]
        refine wpAnyH_take (i := 13) (oi := { dst := some 39, op := Op.build 29 #[(0, Operand.tmp 31), (1, Operand.tmp 38)], type := 29, pos := "wage.go:248", after := #[{ on := 5, ground := Ground.data }, { on := 12, ground := Ground.data }], guard := none }) (v := ?_) rfl (by kernel_rfl) (by kernel_rfl) (by kernel_rfl) (fun _ _ _ h => h) (Or.inl ⟨by rfl, ?_⟩) (by assumption) ?_
        rotate_left
        · (intro w9 hSw; (try dsimp only at hSw); (go_split_ands; go_simp); (try with_reducible rfl))
        try simp only [Act.put, List.setIfInBounds_toArray, List.set_cons_zero, List.set_cons_succ]
        have r0 := cellAt I5.out.r0 0
        have r1 := cellAt I5.out.r0 1
        have r2 := cellAt I5.out.r1 0
        have f0 := freeAt I5.out.r0 0
        have f1 := freeAt I5.out.r0 1
        have f2 := freeAt I5.out.r1 0
        simp only [List.getElem?_toArray, List.getElem?_cons_zero, List.getElem?_cons_succ] at r0 r1 r2
        refine wpAnyH_ready (rs := [14]) (by kernel_rfl) (by simp) ?_
        refine AllReadyH.cons (o := { dst := none, op := Op.store 29 (Operand.tmp 2) (Operand.tmp 39), type := 0, pos := "wage.go:248", after := #[{ on := 13, ground := Ground.data }, { on := 11, ground := Ground.chain }, { on := 0, ground := Ground.phase }, { on := 1, ground := Ground.phase }, { on := 2, ground := Ground.phase }, { on := 3, ground := Ground.phase }, { on := 4, ground := Ground.phase }, { on := 5, ground := Ground.phase }, { on := 6, ground := Ground.phase }, { on := 7, ground := Ground.phase }, { on := 8, ground := Ground.phase }, { on := 9, ground := Ground.phase }, { on := 10, ground := Ground.phase }, { on := 11, ground := Ground.phase }, { on := 12, ground := Ground.phase }, { on := 13, ground := Ground.phase }], guard := none }) rfl (fun K hK => ?_) AllReadyH.nil
        go_simp
        skip
        go_wp2_with fail
        refine hK.out _ _ ?_ (fun hHeld => ?_)
        · exact Q0.cells (Q0.set (Q0.set J2.out _ _ (by dsimp only; omega) (by dsimp only; omega)) _ _ (by dsimp only; omega) (by dsimp only; omega))
        clear hK K
        try simp only [Act.put, List.setIfInBounds_toArray, List.set_cons_zero, List.set_cons_succ]
        have J3 := Lib.hid hHeld.2
        refine wpAnyH_ready (rs := [15]) (by kernel_rfl) (by simp) ?_
        refine AllReadyH.cons (o := { dst := none, op := Op.store 30 (Operand.tmp 3) (Operand.const (Value.int IntKind.i64 0)), type := 0, pos := "wage.go:248", after := #[{ on := 14, ground := Ground.chain }, { on := 0, ground := Ground.phase }, { on := 1, ground := Ground.phase }, { on := 2, ground := Ground.phase }, { on := 3, ground := Ground.phase }, { on := 4, ground := Ground.phase }, { on := 5, ground := Ground.phase }, { on := 6, ground := Ground.phase }, { on := 7, ground := Ground.phase }, { on := 8, ground := Ground.phase }, { on := 9, ground := Ground.phase }, { on := 10, ground := Ground.phase }, { on := 11, ground := Ground.phase }, { on := 12, ground := Ground.phase }, { on := 13, ground := Ground.phase }, { on := 14, ground := Ground.phase }], guard := none }) rfl (fun K hK => ?_) AllReadyH.nil
        go_simp
        skip
        go_wp2_with fail
        refine hK.out _ _ ?_ (fun hHeld => ?_)
        · exact Q0.cells (Q0.set J3.out _ _ (by dsimp only; omega) (by dsimp only; omega))
        clear hK K
        try simp only [Act.put, List.setIfInBounds_toArray, List.set_cons_zero, List.set_cons_succ]
        have J4 := Lib.hid hHeld.2
        refine wpAnyH_done (by kernel_rfl) ?_ _
        refine NoPanic.normal ?_
        clear hHeld
        go_wp2_with fail
        refine leaves_cons (f := 45) (args := #[bp (w.heap.size + 1 + 1)]) (by simp) (by simp [go_sem]) ?_
        refine (answer_idle _ _).mono ?_
        rintro e u' w'' ⟨rfl, rfl, rfl⟩
        simp [Leaves, settle, results, Try.results23, go_sem, r0, r1, r2]
        exact ⟨J4.out.bel, .inl ⟨HV.out, rfl, rfl⟩⟩
  · have HV := Lib.hid hv
    refine (open_arg cr sa ta sn sc tn tc S T W (HS.out.grow HB.out) (HT.out.grow HB.out) 69 _ hv HCF.out).mono ?_
    rintro e w1 ⟨rfl, hb⟩
    have I1 := Lib.hid (I0.out.2.1.grow hb)
    have I2 := Lib.hid (I0.out.2.2.grow hb)
    have B1 := Lib.hid (I0.out.1.next hb)
    clear hv hb
    simp only [err]
    go_wp2_with fail
    refine leaves_cons (f := 45) (args := #[bp (w.heap.size + 1 + 1)]) (by simp) (by simp [go_sem]) ?_
    refine (answer_panicking _ 0 1 [] _ I2.out).mono ?_
    rintro e u' w'' ⟨rfl, rfl, rfl⟩
    have r0 := cellAt I1.out 0
    have r1 := cellAt I1.out 1
    have r2 := cellAt I2.out 0
    simp only [List.getElem?_toArray, List.getElem?_cons_zero, List.getElem?_cons_succ] at r0 r1 r2
    simp [Leaves, settle, results, Try.results23, go_sem, r0, r1, r2]
    exact ⟨B1.out.setCell (by dsimp only; omega) _, .inr (.inr ⟨HV.out, rfl⟩)⟩
end Go.Proofs.Ytbpeamppkdmdcaa
