/-
  Walks: who is before another one, when coins are shared out.
-/
import Derived.Test.YtbpeamppkdmdcaaW22
namespace Go.Proofs.Ytbpeamppkdmdcaa
open Go.RowKit

/-- Who is before another one: by the share for one coin more, crosswise; then by the number. -/
def before (sh own : Nat → Int) (a b : Nat) : Int := if cmpI (sh b * (own a + 1)) (sh a * (own b + 1)) = 0 then cmpI a b else cmpI (sh b * (own a + 1)) (sh a * (own b + 1))

structure V1 (w : World) (p2 p3 : Nat) (sa ga : Option Addr) (n sc gc : Nat) (sh own : Nat → Int) (w' : World) : Prop where
  bel : Below w.heap.size w w'
  x2 : BoxAt w' p2 #[.slice sa n sc] 37
  x3 : BoxAt w' p3 #[.slice ga n gc] 37
  l2 : IntsAt w' sa n sh
  l3 : IntsAt w' ga n own

theorem V1.grow {w : World} {p2 p3 : Nat} {sa ga : Option Addr} {n sc gc : Nat} {sh own : Nat → Int} {w1 w2 : World} (h : V1 w p2 p3 sa ga n sc gc sh own w1) (hb : Below w1.heap.size w1 w2) : V1 w p2 p3 sa ga n sc gc sh own w2 :=
  ⟨h.bel.trans (hb.mono h.bel.size), h.x2.grow hb, h.x3.grow hb, h.l2.grow hb, h.l3.grow hb⟩
theorem V1.cells {w : World} {p2 p3 : Nat} {sa ga : Option Addr} {n sc gc : Nat} {sh own : Nat → Int} {w' : World} {a b : Nat} (ha : a < n) (hb : b < n) (h : V1 w p2 p3 sa ga n sc gc sh own w') :
    (w'.cell? ⟨p2, 0, none⟩ = some (.slice sa n sc) ∧ w'.cell? ⟨p3, 0, none⟩ = some (.slice ga n gc) ∧ w'.cell? ⟨blk sa, ofs sa + a, none⟩ = some (.int .i64 (sh a)) ∧ w'.cell? ⟨blk sa, ofs sa + b, none⟩ = some (.int .i64 (sh b)) ∧ w'.cell? ⟨blk ga, ofs ga + a, none⟩ = some (.int .i64 (own a)) ∧ w'.cell? ⟨blk ga, ofs ga + b, none⟩ = some (.int .i64 (own b))) ∧ V1 w p2 p3 sa ga n sc gc sh own w' :=
  ⟨⟨cellAt h.x2 0, cellAt h.x3 0, h.l2.at ha, h.l2.at hb, h.l3.at ha, h.l3.at hb⟩, h⟩
theorem ints2 {w : World} {g : Nat} {x y : Int} {t : TypeId} (h : BoxAt w g #[.int .i64 x, .int .i64 y] t) : IntsAt w (some ⟨g, 0, none⟩) 2 (fun i => if i = 0 then x else y) := by
  refine ⟨fun _ => rfl, fun _ => lt_of_heap h, by unfold maxLen; omega, fun i hi j hj => ?_⟩
  obtain rfl : j = 0 := by omega
  show w.cell? ⟨g, 0 + i * 1 + 0, none⟩ = _
  rw [cellAt h]
  obtain rfl | rfl : i = 0 ∨ i = 1 := by omega
  · rfl
  · rfl

set_option maxRecDepth 100000 in
set_option maxHeartbeats 4000000 in
theorem share1_any (a b p2 p3 : Nat) (sa ga : Option Addr) (n sc gc : Nat) (sh own : Nat → Int) (w : World) (ha : a < n) (hb : b < n) (hs : ∀ i, i < n → 0 ≤ sh i ∧ sh i ≤ 20) (ho : ∀ i, i < n → 0 ≤ own i ∧ own i ≤ 500)
    (x2 : BoxAt w p2 #[.slice sa n sc] 37) (x3 : BoxAt w p3 #[.slice ga n gc] 37) (l2 : IntsAt w sa n sh) (l3 : IntsAt w ga n own) (hn : n ≤ 6) :
    Calls Try.prog 85 #[.int .i64 a, .int .i64 b, bp p2, bp p3] w fun e w' => e = .returned (.int .i64 (before sh own a b)) ∧ Below w.heap.size w w' := by
  have HI := Lib.hid (show V1 w p2 p3 sa ga n sc gc sh own w from ⟨Below.refl _ _, x2, x3, l2, l3⟩)
  have i1 := fun w => run_indexAt_row (w := w) (cap := sc) Try.underlying37 size3 (l2.plain (by omega)) ha
  have i2 := fun w => run_indexAt_row (w := w) (cap := sc) Try.underlying37 size3 (l2.plain (by omega)) hb
  have i3 := fun w => run_indexAt_row (w := w) (cap := gc) Try.underlying37 size3 (l3.plain (by omega)) ha
  have i4 := fun w => run_indexAt_row (w := w) (cap := gc) Try.underlying37 size3 (l3.plain (by omega)) hb
  simp only [Nat.mul_one] at i1 i2 i3 i4
  clear x2 x3 l2 l3
  obtain ⟨y0, y1⟩ := hs a ha
  obtain ⟨y2, y3⟩ := hs b hb
  obtain ⟨y4, y5⟩ := ho a ha
  obtain ⟨y6, y7⟩ := ho b hb
  have z0 : 0 ≤ sh b * (own a + 1) := Int.mul_nonneg y2 (by omega)
  have z1 : sh b * (own a + 1) ≤ 20 * 501 := Int.mul_le_mul y3 (by omega) (by omega) (by omega)
  have z2 : 0 ≤ sh a * (own b + 1) := Int.mul_nonneg y0 (by omega)
  have z3 : sh a * (own b + 1) ≤ 20 * 501 := Int.mul_le_mul y1 (by omega) (by omega) (by omega)
  have e1 : IntKind.i64.wrap (own a + 1) = own a + 1 := IntWalk.i64_in _ (by omega)
  have e2 : IntKind.i64.wrap (own b + 1) = own b + 1 := IntWalk.i64_in _ (by omega)
  have e3 : IntKind.i64.wrap (sh b * (own a + 1)) = sh b * (own a + 1) := IntWalk.i64_in _ (by omega)
  have e4 : IntKind.i64.wrap (sh a * (own b + 1)) = sh a * (own b + 1) := IntWalk.i64_in _ (by omega)
  clear hs ho y0 y1 y2 y3 y4 y5 y6 y7 z0 z1 z2 z3
  have J0 := Lib.hid (HI.out.grow (Below.drew (Below.refl _ _)))
  go_enter Try.func85, Try.ntmps85
  go_wp2_with fail
  refine wp_region_held_drew (S := (fun w' => (w'.cell? ⟨p2, 0, none⟩ = some (.slice sa n sc) ∧ w'.cell? ⟨p3, 0, none⟩ = some (.slice ga n gc) ∧ w'.cell? ⟨blk sa, ofs sa + a, none⟩ = some (.int .i64 (sh a)) ∧ w'.cell? ⟨blk sa, ofs sa + b, none⟩ = some (.int .i64 (sh b)) ∧ w'.cell? ⟨blk ga, ofs ga + a, none⟩ = some (.int .i64 (own a)) ∧ w'.cell? ⟨blk ga, ofs ga + b, none⟩ = some (.int .i64 (own b))) ∧ V1 w p2 p3 sa ga n sc gc sh own w')) (by kernel_rfl) (V1.cells ha hb J0.out) (fun hHeld => ?_)
  refine wpAnyH_take (i := 0) (oi := { dst := some 7, op := Op.load 37 (Operand.tmp 2), type := 37, pos := "wage.go:334", after := #[], guard := none }) (v := ?_) rfl (by kernel_rfl) (by kernel_rfl) (by kernel_rfl) (fun _ _ _ h => h) (Or.inl ⟨by rfl, ?_⟩) (by assumption) ?_
  rotate_left
  · (intro w9 hSw; (try dsimp only at hSw); (go_split_ands; go_simp); (try with_reducible rfl))
  try simp only [Act.put, List.setIfInBounds_toArray, List.set_cons_zero, List.set_cons_succ]
  refine wpAnyH_take (i := 1) (oi := { dst := some 8, op := Op.move (Operand.tmp 1), type := 3, pos := "wage.go:334", after := #[], guard := none }) (v := ?_) rfl (by kernel_rfl) (by kernel_rfl) (by kernel_rfl) (fun _ _ _ h => h) (Or.inl ⟨by rfl, ?_⟩) (by assumption) ?_
  rotate_left
  · (intro w9 hSw; (try dsimp only at hSw); (go_split_ands; go_simp); (try with_reducible rfl))
  try simp only [Act.put, List.setIfInBounds_toArray, List.set_cons_zero, List.set_cons_succ]
  refine wpAnyH_take (i := 2) (oi := { dst := some 9, op := Op.indexAddr 37 (Operand.tmp 7) (Operand.tmp 8), type := 0, pos := "wage.go:334", after := #[{ on := 0, ground := Ground.data }, { on := 1, ground := Ground.data }], guard := none }) (v := ?_) rfl (by kernel_rfl) (by kernel_rfl) (by kernel_rfl) (fun _ _ _ h => h) (Or.inl ⟨by rfl, ?_⟩) (by assumption) ?_
  rotate_left
  · (intro w9 hSw; (try dsimp only at hSw); (go_split_ands; go_simp); (try with_reducible rfl))
  try simp only [Act.put, List.setIfInBounds_toArray, List.set_cons_zero, List.set_cons_succ]
  refine wpAnyH_take (i := 3) (oi := { dst := some 10, op := Op.load 3 (Operand.tmp 9), type := 3, pos := "wage.go:334", after := #[{ on := 2, ground := Ground.data }], guard := none }) (v := ?_) rfl (by kernel_rfl) (by kernel_rfl) (by kernel_rfl) (fun _ _ _ h => h) (Or.inl ⟨by rfl, ?_⟩) (by assumption) ?_
  rotate_left
  · (intro w9 hSw; (try dsimp only at hSw); (go_split_ands; go_simp); (try with_reducible rfl))
  try simp only [Act.put, List.setIfInBounds_toArray, List.set_cons_zero, List.set_cons_succ]
  refine wpAnyH_take (i := 4) (oi := { dst := some 11, op := Op.load 37 (Operand.tmp 3), type := 37, pos := "wage.go:334", after := #[], guard := none }) (v := ?_) rfl (by kernel_rfl) (by kernel_rfl) (by kernel_rfl) (fun _ _ _ h => h) (Or.inl ⟨by rfl, ?_⟩) (by assumption) ?_
  rotate_left
  · (intro w9 hSw; (try dsimp only at hSw); (go_split_ands; go_simp); (try with_reducible rfl))
  try simp only [Act.put, List.setIfInBounds_toArray, List.set_cons_zero, List.set_cons_succ]
  refine wpAnyH_take (i := 5) (oi := { dst := some 12, op := Op.move (Operand.tmp 0), type := 3, pos := "wage.go:334", after := #[], guard := none }) (v := ?_) rfl (by kernel_rfl) (by kernel_rfl) (by kernel_rfl) (fun _ _ _ h => h) (Or.inl ⟨by rfl, ?_⟩) (by assumption) ?_
  rotate_left
  · (intro w9 hSw; (try dsimp only at hSw); (go_split_ands; go_simp); (try with_reducible rfl))
  try simp only [Act.put, List.setIfInBounds_toArray, List.set_cons_zero, List.set_cons_succ]
  refine wpAnyH_take (i := 6) (oi := { dst := some 13, op := Op.indexAddr 37 (Operand.tmp 11) (Operand.tmp 12), type := 0, pos := "wage.go:334", after := #[{ on := 4, ground := Ground.data }, { on := 5, ground := Ground.data }], guard := none }) (v := ?_) rfl (by kernel_rfl) (by kernel_rfl) (by kernel_rfl) (fun _ _ _ h => h) (Or.inl ⟨by rfl, ?_⟩) (by assumption) ?_
  rotate_left
  · (intro w9 hSw; (try dsimp only at hSw); (go_split_ands; go_simp); (try with_reducible rfl))
  try simp only [Act.put, List.setIfInBounds_toArray, List.set_cons_zero, List.set_cons_succ]
  refine wpAnyH_take (i := 7) (oi := { dst := some 14, op := Op.load 3 (Operand.tmp 13), type := 3, pos := "wage.go:334", after := #[{ on := 6, ground := Ground.data }], guard := none }) (v := ?_) rfl (by kernel_rfl) (by kernel_rfl) (by kernel_rfl) (fun _ _ _ h => h) (Or.inl ⟨by rfl, ?_⟩) (by assumption) ?_
  rotate_left
  · (intro w9 hSw; (try dsimp only at hSw); (go_split_ands; go_simp); (try with_reducible rfl))
  try simp only [Act.put, List.setIfInBounds_toArray, List.set_cons_zero, List.set_cons_succ]
  refine wpAnyH_take (i := 8) (oi := { dst := some 15, op := Op.binOp BinOp.add 3 (Operand.tmp 14) (Operand.const (Value.int IntKind.i64 1)) 3, type := 3, pos := "wage.go:334", after := #[{ on := 7, ground := Ground.data }], guard := none }) (v := ?_) rfl (by kernel_rfl) (by kernel_rfl) (by kernel_rfl) (fun _ _ _ h => h) (Or.inl ⟨by rfl, ?_⟩) (by assumption) ?_
  rotate_left
  · (intro w9 hSw; (try dsimp only at hSw); (go_split_ands; go_simp); (try with_reducible rfl))
  try simp only [Act.put, List.setIfInBounds_toArray, List.set_cons_zero, List.set_cons_succ]
  refine wpAnyH_take (i := 9) (oi := { dst := some 16, op := Op.binOp BinOp.mul 3 (Operand.tmp 10) (Operand.tmp 15) 3, type := 3, pos := "wage.go:334", after := #[{ on := 3, ground := Ground.data }, { on := 8, ground := Ground.data }], guard := none }) (v := ?_) rfl (by kernel_rfl) (by kernel_rfl) (by kernel_rfl) (fun _ _ _ h => h) (Or.inl ⟨by rfl, ?_⟩) (by assumption) ?_
  rotate_left
  · (intro w9 hSw; (try dsimp only at hSw); (go_split_ands; go_simp); (try with_reducible rfl))
  try simp only [Act.put, List.setIfInBounds_toArray, List.set_cons_zero, List.set_cons_succ]
  refine wpAnyH_take (i := 10) (oi := { dst := some 17, op := Op.load 37 (Operand.tmp 2), type := 37, pos := "wage.go:334", after := #[], guard := none }) (v := ?_) rfl (by kernel_rfl) (by kernel_rfl) (by kernel_rfl) (fun _ _ _ h => h) (Or.inl ⟨by rfl, ?_⟩) (by assumption) ?_
  rotate_left
  · (intro w9 hSw; (try dsimp only at hSw); (go_split_ands; go_simp); (try with_reducible rfl))
  try simp only [Act.put, List.setIfInBounds_toArray, List.set_cons_zero, List.set_cons_succ]
  refine wpAnyH_take (i := 11) (oi := { dst := some 18, op := Op.move (Operand.tmp 0), type := 3, pos := "wage.go:334", after := #[], guard := none }) (v := ?_) rfl (by kernel_rfl) (by kernel_rfl) (by kernel_rfl) (fun _ _ _ h => h) (Or.inl ⟨by rfl, ?_⟩) (by assumption) ?_
  rotate_left
  · (intro w9 hSw; (try dsimp only at hSw); (go_split_ands; go_simp); (try with_reducible rfl))
  try simp only [Act.put, List.setIfInBounds_toArray, List.set_cons_zero, List.set_cons_succ]
  refine wpAnyH_take (i := 12) (oi := { dst := some 19, op := Op.indexAddr 37 (Operand.tmp 17) (Operand.tmp 18), type := 0, pos := "wage.go:334", after := #[{ on := 10, ground := Ground.data }, { on := 11, ground := Ground.data }], guard := none }) (v := ?_) rfl (by kernel_rfl) (by kernel_rfl) (by kernel_rfl) (fun _ _ _ h => h) (Or.inl ⟨by rfl, ?_⟩) (by assumption) ?_
  rotate_left
  · (intro w9 hSw; (try dsimp only at hSw); (go_split_ands; go_simp); (try with_reducible rfl))
  try simp only [Act.put, List.setIfInBounds_toArray, List.set_cons_zero, List.set_cons_succ]
  refine wpAnyH_take (i := 13) (oi := { dst := some 20, op := Op.load 3 (Operand.tmp 19), type := 3, pos := "wage.go:334", after := #[{ on := 12, ground := Ground.data }], guard := none }) (v := ?_) rfl (by kernel_rfl) (by kernel_rfl) (by kernel_rfl) (fun _ _ _ h => h) (Or.inl ⟨by rfl, ?_⟩) (by assumption) ?_
  rotate_left
  · (intro w9 hSw; (try dsimp only at hSw); (go_split_ands; go_simp); (try with_reducible rfl))
  try simp only [Act.put, List.setIfInBounds_toArray, List.set_cons_zero, List.set_cons_succ]
  refine wpAnyH_take (i := 14) (oi := { dst := some 21, op := Op.load 37 (Operand.tmp 3), type := 37, pos := "wage.go:334", after := #[], guard := none }) (v := ?_) rfl (by kernel_rfl) (by kernel_rfl) (by kernel_rfl) (fun _ _ _ h => h) (Or.inl ⟨by rfl, ?_⟩) (by assumption) ?_
  rotate_left
  · (intro w9 hSw; (try dsimp only at hSw); (go_split_ands; go_simp); (try with_reducible rfl))
  try simp only [Act.put, List.setIfInBounds_toArray, List.set_cons_zero, List.set_cons_succ]
  refine wpAnyH_take (i := 15) (oi := { dst := some 22, op := Op.move (Operand.tmp 1), type := 3, pos := "wage.go:334", after := #[], guard := none }) (v := ?_) rfl (by kernel_rfl) (by kernel_rfl) (by kernel_rfl) (fun _ _ _ h => h) (Or.inl ⟨by rfl, ?_⟩) (by assumption) ?_
  rotate_left
  · (intro w9 hSw; (try dsimp only at hSw); (go_split_ands; go_simp); (try with_reducible rfl))
  try simp only [Act.put, List.setIfInBounds_toArray, List.set_cons_zero, List.set_cons_succ]
  refine wpAnyH_take (i := 16) (oi := { dst := some 23, op := Op.indexAddr 37 (Operand.tmp 21) (Operand.tmp 22), type := 0, pos := "wage.go:334", after := #[{ on := 14, ground := Ground.data }, { on := 15, ground := Ground.data }], guard := none }) (v := ?_) rfl (by kernel_rfl) (by kernel_rfl) (by kernel_rfl) (fun _ _ _ h => h) (Or.inl ⟨by rfl, ?_⟩) (by assumption) ?_
  rotate_left
  · (intro w9 hSw; (try dsimp only at hSw); (go_split_ands; go_simp); (try with_reducible rfl))
  try simp only [Act.put, List.setIfInBounds_toArray, List.set_cons_zero, List.set_cons_succ]
  refine wpAnyH_take (i := 17) (oi := { dst := some 24, op := Op.load 3 (Operand.tmp 23), type := 3, pos := "wage.go:334", after := #[{ on := 16, ground := Ground.data }], guard := none }) (v := ?_) rfl (by kernel_rfl) (by kernel_rfl) (by kernel_rfl) (fun _ _ _ h => h) (Or.inl ⟨by rfl, ?_⟩) (by assumption) ?_
  rotate_left
  · (intro w9 hSw; (try dsimp only at hSw); (go_split_ands; go_simp); (try with_reducible rfl))
  try simp only [Act.put, List.setIfInBounds_toArray, List.set_cons_zero, List.set_cons_succ]
  refine wpAnyH_take (i := 18) (oi := { dst := some 25, op := Op.binOp BinOp.add 3 (Operand.tmp 24) (Operand.const (Value.int IntKind.i64 1)) 3, type := 3, pos := "wage.go:334", after := #[{ on := 17, ground := Ground.data }], guard := none }) (v := ?_) rfl (by kernel_rfl) (by kernel_rfl) (by kernel_rfl) (fun _ _ _ h => h) (Or.inl ⟨by rfl, ?_⟩) (by assumption) ?_
  rotate_left
  · (intro w9 hSw; (try dsimp only at hSw); (go_split_ands; go_simp); (try with_reducible rfl))
  try simp only [Act.put, List.setIfInBounds_toArray, List.set_cons_zero, List.set_cons_succ]
  refine wpAnyH_take (i := 19) (oi := { dst := some 26, op := Op.binOp BinOp.mul 3 (Operand.tmp 20) (Operand.tmp 25) 3, type := 3, pos := "wage.go:334", after := #[{ on := 13, ground := Ground.data }, { on := 18, ground := Ground.data }], guard := none }) (v := ?_) rfl (by kernel_rfl) (by kernel_rfl) (by kernel_rfl) (fun _ _ _ h => h) (Or.inl ⟨by rfl, ?_⟩) (by assumption) ?_
  rotate_left
  · (intro w9 hSw; (try dsimp only at hSw); (go_split_ands; go_simp); (try with_reducible rfl))
  try simp only [Act.put, List.setIfInBounds_toArray, List.set_cons_zero, List.set_cons_succ]
  refine wpAnyH_take (i := 21) (oi := { dst := some 28, op := Op.move (Operand.tmp 0), type := 3, pos := "wage.go:334", after := #[], guard := none }) (v := ?_) rfl (by kernel_rfl) (by kernel_rfl) (by kernel_rfl) (fun _ _ _ h => h) (Or.inl ⟨by rfl, ?_⟩) (by assumption) ?_
  rotate_left
  · (intro w9 hSw; (try dsimp only at hSw); (go_split_ands; go_simp); (try with_reducible rfl))
  try simp only [Act.put, List.setIfInBounds_toArray, List.set_cons_zero, List.set_cons_succ]
  refine wpAnyH_take (i := 22) (oi := { dst := some 29, op := Op.move (Operand.tmp 1), type := 3, pos := "wage.go:334", after := #[], guard := none }) (v := ?_) rfl (by kernel_rfl) (by kernel_rfl) (by kernel_rfl) (fun _ _ _ h => h) (Or.inl ⟨by rfl, ?_⟩) (by assumption) ?_
  rotate_left
  · (intro w9 hSw; (try dsimp only at hSw); (go_split_ands; go_simp); (try with_reducible rfl))
  try simp only [Act.put, List.setIfInBounds_toArray, List.set_cons_zero, List.set_cons_succ]
  refine wpAnyH_ready (rs := [20]) (by kernel_rfl) (by simp) ?_
  refine AllReadyH.cons (o := { dst := some 27, op := Op.call { callee := Callee.value (Operand.func 87), args := #[Operand.tmp 16, Operand.tmp 26], argTypes := #[3, 3] }, type := 3, pos := "wage.go:334", after := #[{ on := 9, ground := Ground.data }, { on := 19, ground := Ground.data }], guard := none }) rfl (fun K hK => ?_) AllReadyH.nil
  go_simp
  go_at_call 87; refine (compare_any _ _ _).mono ?_; rintro e w3 ⟨rfl, rfl⟩
  go_wp2_with fail
  refine hK.out _ _ ?_ (fun hHeld => ?_)
  · assumption
  clear hK K
  try simp only [Act.put, List.setIfInBounds_toArray, List.set_cons_zero, List.set_cons_succ]
  refine wpAnyH_ready (rs := [23]) (by kernel_rfl) (by simp) ?_
  refine AllReadyH.cons (o := { dst := some 30, op := Op.call { callee := Callee.value (Operand.func 87), args := #[Operand.tmp 28, Operand.tmp 29], argTypes := #[3, 3] }, type := 3, pos := "wage.go:334", after := #[{ on := 21, ground := Ground.data }, { on := 22, ground := Ground.data }, { on := 20, ground := Ground.chain }], guard := none }) rfl (fun K hK => ?_) AllReadyH.nil
  go_simp
  go_at_call 87; refine (compare_any _ _ _).mono ?_; rintro e w3 ⟨rfl, rfl⟩
  go_wp2_with fail
  refine hK.out _ _ ?_ (fun hHeld => ?_)
  · assumption
  clear hK K
  try simp only [Act.put, List.setIfInBounds_toArray, List.set_cons_zero, List.set_cons_succ]
  refine wpAnyH_ready (rs := [24]) (by kernel_rfl) (by simp) ?_
  refine AllReadyH.cons (o := { dst := some 31, op := Op.buildSlice 37 2 #[(0, Operand.tmp 27), (1, Operand.tmp 30)], type := 37, pos := "wage.go:334", after := #[{ on := 20, ground := Ground.data }, { on := 23, ground := Ground.data }], guard := none }) rfl (fun K hK => ?_) AllReadyH.nil
  go_simp
  skip
  go_wp2_with fail
  refine hK.out _ _ ?_ (fun hHeld => ?_)
  · exact V1.cells ha hb (V1.grow J0.out ((Below.refl _ _).alloc (Nat.le_refl _) _))
  clear hK K
  try simp only [Act.put, List.setIfInBounds_toArray, List.set_cons_zero, List.set_cons_succ]
  have J1 := Lib.hid hHeld.2
  refine wpAnyH_ready (rs := [25]) (by kernel_rfl) (by simp) ?_
  refine AllReadyH.cons (o := { dst := some 32, op := Op.call { callee := Callee.value (Operand.func 86), args := #[Operand.tmp 31], argTypes := #[37] }, type := 3, pos := "wage.go:334", after := #[{ on := 24, ground := Ground.data }, { on := 23, ground := Ground.chain }], guard := none }) rfl (fun K hK => ?_) AllReadyH.nil
  go_simp
  (go_at_call 86; refine (or2_any _ _ (fun i => if i = 0 then cmpI (sh b * (own a + 1)) (sh a * (own b + 1)) else cmpI a b) _ ?_).mono ?_; exact ints2 (blocks1 rfl).1; rintro e w6 ⟨rfl, rfl⟩)
  go_wp2_with fail
  refine hK.out _ _ ?_ (fun hHeld => ?_)
  · assumption
  clear hK K
  try simp only [Act.put, List.setIfInBounds_toArray, List.set_cons_zero, List.set_cons_succ]
  refine wpAnyH_ready (rs := [26]) (by kernel_rfl) (by simp) ?_
  refine AllReadyH.cons (o := { dst := some 6, op := Op.assign (Operand.tmp 32), type := 3, pos := "wage.go:334", after := #[{ on := 25, ground := Ground.data }, { on := 25, ground := Ground.chain }, { on := 0, ground := Ground.phase }, { on := 1, ground := Ground.phase }, { on := 2, ground := Ground.phase }, { on := 3, ground := Ground.phase }, { on := 4, ground := Ground.phase }, { on := 5, ground := Ground.phase }, { on := 6, ground := Ground.phase }, { on := 7, ground := Ground.phase }, { on := 8, ground := Ground.phase }, { on := 9, ground := Ground.phase }, { on := 10, ground := Ground.phase }, { on := 11, ground := Ground.phase }, { on := 12, ground := Ground.phase }, { on := 13, ground := Ground.phase }, { on := 14, ground := Ground.phase }, { on := 15, ground := Ground.phase }, { on := 16, ground := Ground.phase }, { on := 17, ground := Ground.phase }, { on := 18, ground := Ground.phase }, { on := 19, ground := Ground.phase }, { on := 20, ground := Ground.phase }, { on := 21, ground := Ground.phase }, { on := 22, ground := Ground.phase }, { on := 23, ground := Ground.phase }, { on := 24, ground := Ground.phase }, { on := 25, ground := Ground.phase }], guard := none }) rfl (fun K hK => ?_) AllReadyH.nil
  go_simp
  skip
  go_wp2_with fail
  refine hK.out _ _ ?_ (fun hHeld => ?_)
  · assumption
  clear hK K
  try simp only [Act.put, List.setIfInBounds_toArray, List.set_cons_zero, List.set_cons_succ]
  refine wpAnyH_done (by kernel_rfl) ?_ _
  clear hHeld
  go_wp2_with fail
  go_ret
  exact ⟨rfl, J1.out.bel⟩
end Go.Proofs.Ytbpeamppkdmdcaa
