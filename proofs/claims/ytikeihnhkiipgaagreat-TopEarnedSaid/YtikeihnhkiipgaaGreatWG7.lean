/-
  --DROP
  Walks: the library's cmp.Or, at two numbers.
  Walks: who is before another one, when coins are shared out.
  Walks: the library's slices.MinFunc, at who is before another one.
  Walks: the exported functions: how coins are shared out.
-/
import Derived.Test.YtikeihnhkiipgaaGreatWG4
namespace Go.Proofs.YtikeihnhkiipgaaGreat.Wa
open Go.RowKit

theorem all_no {p : Nat → Bool} {n k : Nat} (hk : k < n) (hp : p k = false) : (List.range n).all p = false := by
  rw [List.all_eq_false]
  exact ⟨k, by simpa using hk, by simp [hp]⟩
theorem BoxAt.store {w : World} {b : Nat} {xs : Array Value} {t : TypeId} (h : BoxAt w b xs t) (i : Nat) (v : Value) : BoxAt (w.setCell ⟨b, i, none⟩ v) b (xs.setIfInBounds i v) t := by
  unfold BoxAt at h ⊢
  simp [World.setCell, Array.getElem?_modify, h]
def exVals (F : Nat → Int) (k n : Nat) : List Value := (List.range n).map fun i => if i < k then .int .i64 (F i) else .int .i64 0
theorem exVals_zero (F : Nat → Int) (n : Nat) : exVals F 0 n = List.replicate n (.int .i64 0) := by
  apply List.ext_getElem (by simp [exVals])
  intro i h1 h2
  simp [exVals]
theorem own_zero {w : World} {base g n : Nat} {F : Nat → Int} (h : w.ownsRow base 3 1 (.slice (some ⟨g, 0, none⟩) n n) n (madeCells (Value.cells (.int .i64 0)) (n * 1)).toList) : BoxAt w g (exVals F 0 n).toArray 3 := by
  obtain ⟨hl, ⟨h1, _⟩ | ⟨g', cap, cur, hv, hb, hg, hle, hm, hs, ht⟩⟩ := h
  · cases h1
  · injection hv with e1 e2 e3
    injection e1 with e1
    injection e1 with e1 _ _
    subst e1 e3
    have : cur.toList = List.replicate n (.int .i64 0) := by
      rw [List.take_of_length_le (by simp; omega)] at ht
      rw [ht]
      apply List.ext_getElem (by simp [madeCells])
      intro i h1 h2
      simp [madeCells, Value.cells, Nat.mod_one]
    rw [exVals_zero, ← this]
    exact hg
def or2 (f : Nat → Int) : Int := if f 0 = 0 then f 1 else f 0

def OrR (f : Nat → Int) (w : World) (i : Value) (wr : World) : Prop := ∃ k : Nat, k ≤ 2 ∧ i = .int .i64 k ∧ (∀ j, j < k → f j = 0) ∧ wr = w

set_option maxRecDepth 100000 in
set_option maxHeartbeats 1000000 in
theorem or2_any (oa : Option Addr) (cap : Nat) (f : Nat → Int) (w : World) (hl : IntsAt w oa 2 f) :
    Calls Tryz.prog 42 #[.slice oa 2 cap] w fun e w' => e = .returned (.int .i64 (or2 f)) ∧ w = w' := by
  have HL := Lib.hid hl
  clear hl
  go_enter Tryz.func42, Tryz.ntmps42
  go_wp2_with fail
  go_loopw [8] (OrR f w) (fun i _ => 2 - (intOf i).toNat)
  case atStart => exact ⟨0, Nat.zero_le _, rfl, fun j hj => by omega, rfl⟩
  case round =>
    obtain ⟨k, hk, rfl, hok, rfl⟩ := hrel
    have HO := Lib.hid hok
    clear hok
    by_cases hlt : k < 2
    · have hi := fun w => run_indexAt_row (w := w) (cap := cap) Tryz.underlying24 size3 (HL.out.plain (by omega)) hlt
      have hc := HL.out.at hlt
      simp only [Nat.mul_one] at hi
      have hz : (f k != 0) = false ∨ (f k != 0) = true := by cases (f k != 0) <;> simp
      rcases hz with z | z
      · go_wp2_with fail
        refine ⟨⟨k + 1, hlt, by go_num, fun j hj => ?_, rfl⟩, by simp [intOf]; omega⟩
        by_cases e : j = k
        · rw [e]; simpa using z
        · exact HO.out j (by omega)
      · have z' : f k ≠ 0 := by simpa using z
        have ho : or2 f = f k := by
          unfold or2
          obtain rfl | rfl : k = 0 ∨ k = 1 := by omega
          · simp [z']
          · rw [if_pos (HO.out 0 (by omega))]
        have HZ := Lib.hid ho
        clear z' ho
        go_wp2_with fail
        go_ret
        exact ⟨by rw [HZ.out]; rfl, rfl⟩
    · obtain rfl : k = 2 := by omega
      have ho : or2 f = 0 := by unfold or2; rw [if_pos (HO.out 0 (by omega))]; exact HO.out 1 (by omega)
      have HZ := Lib.hid ho
      clear ho
      go_wp2_with fail
      go_ret
      exact ⟨by rw [HZ.out]; rfl, rfl⟩
end Go.Proofs.YtikeihnhkiipgaaGreat.Wa

namespace Go.Proofs.YtikeihnhkiipgaaGreat.Wa
open Go.RowKit

/-- Who is before another one: by the share for one coin more, crosswise; then by the number. -/
def before (sh own : Nat → Int) (a b : Nat) : Int := if cmpI (sh b * (own a + 1)) (sh a * (own b + 1)) = 0 then cmpI a b else cmpI (sh b * (own a + 1)) (sh a * (own b + 1))

structure V1 (w : World) (p2 p3 : Nat) (sa ga : Option Addr) (n sc gc : Nat) (sh own : Nat → Int) (w' : World) : Prop where
  bel : Below w.heap.size w w'
  x2 : BoxAt w' p2 #[.slice sa n sc] 24
  x3 : BoxAt w' p3 #[.slice ga n gc] 24
  l2 : IntsAt w' sa n sh
  l3 : IntsAt w' ga n own

theorem V1.grow {w : World} {p2 p3 : Nat} {sa ga : Option Addr} {n sc gc : Nat} {sh own : Nat → Int} {w1 w2 : World} (h : V1 w p2 p3 sa ga n sc gc sh own w1) (hb : Below w1.heap.size w1 w2) : V1 w p2 p3 sa ga n sc gc sh own w2 :=
  ⟨h.bel.trans (hb.mono h.bel.size), h.x2.grow hb, h.x3.grow hb, h.l2.grow hb, h.l3.grow hb⟩
theorem V1.cells {w : World} {p2 p3 : Nat} {sa ga : Option Addr} {n sc gc : Nat} {sh own : Nat → Int} {w' : World} {a b : Nat} (ha : a < n) (hb : b < n) (h : V1 w p2 p3 sa ga n sc gc sh own w') :
    (w'.cell? ⟨p2, 0, none⟩ = some (.slice sa n sc) ∧ w'.cell? ⟨p3, 0, none⟩ = some (.slice ga n gc) ∧ w'.cell? ⟨blk sa, ofs sa + a, none⟩ = some (.int .i64 (sh a)) ∧ w'.cell? ⟨blk sa, ofs sa + b, none⟩ = some (.int .i64 (sh b)) ∧ w'.cell? ⟨blk ga, ofs ga + a, none⟩ = some (.int .i64 (own a)) ∧ w'.cell? ⟨blk ga, ofs ga + b, none⟩ = some (.int .i64 (own b))) ∧ V1 w p2 p3 sa ga n sc gc sh own w' :=
  ⟨⟨cellAt h.x2 0, cellAt h.x3 0, h.l2.at ha, h.l2.at hb, h.l3.at ha, h.l3.at hb⟩, h⟩
theorem ints2 {w : World} {g : Nat} {x y : Int} {t : TypeId} (h : BoxAt w g #[.int .i64 x, .int .i64 y] t) : IntsAt w (some ⟨g, 0, none⟩) 2 (fun i => if i = 0 then x else y) := by
  refine ⟨fun _ => rfl, fun _ => lt_of_heap h, by unfold maxLen; omega, fun i hi j hj => ?_⟩
  obtain rfl : j = 0 := by omega
  show w.cell? ⟨g, 0 + i * 1 + 0, none⟩ = _
  rw [cellAt h]
  obtain rfl | rfl : i = 0 ∨ i = 1 := by omega
  · rfl
  · rfl

set_option maxRecDepth 100000 in
set_option maxHeartbeats 4000000 in
theorem share1_any (a b p2 p3 : Nat) (sa ga : Option Addr) (n sc gc : Nat) (sh own : Nat → Int) (w : World) (ha : a < n) (hb : b < n) (hs : ∀ i, i < n → 0 ≤ sh i ∧ sh i ≤ 20) (ho : ∀ i, i < n → 0 ≤ own i ∧ own i ≤ 500)
    (x2 : BoxAt w p2 #[.slice sa n sc] 24) (x3 : BoxAt w p3 #[.slice ga n gc] 24) (l2 : IntsAt w sa n sh) (l3 : IntsAt w ga n own) (hn : n ≤ 6) :
    Calls Tryz.prog 41 #[.int .i64 a, .int .i64 b, bp p2, bp p3] w fun e w' => e = .returned (.int .i64 (before sh own a b)) ∧ Below w.heap.size w w' := by
  have HI := Lib.hid (show V1 w p2 p3 sa ga n sc gc sh own w from ⟨Below.refl _ _, x2, x3, l2, l3⟩)
  have i1 := fun w => run_indexAt_row (w := w) (cap := sc) Tryz.underlying24 size3 (l2.plain (by omega)) ha
  have i2 := fun w => run_indexAt_row (w := w) (cap := sc) Tryz.underlying24 size3 (l2.plain (by omega)) hb
  have i3 := fun w => run_indexAt_row (w := w) (cap := gc) Tryz.underlying24 size3 (l3.plain (by omega)) ha
  have i4 := fun w => run_indexAt_row (w := w) (cap := gc) Tryz.underlying24 size3 (l3.plain (by omega)) hb
  simp only [Nat.mul_one] at i1 i2 i3 i4
  clear x2 x3 l2 l3
  obtain ⟨y0, y1⟩ := hs a ha
  obtain ⟨y2, y3⟩ := hs b hb
  obtain ⟨y4, y5⟩ := ho a ha
  obtain ⟨y6, y7⟩ := ho b hb
  have z0 : 0 ≤ sh b * (own a + 1) := Int.mul_nonneg y2 (by omega)
  have z1 : sh b * (own a + 1) ≤ 20 * 501 := Int.mul_le_mul y3 (by omega) (by omega) (by omega)
  have z2 : 0 ≤ sh a * (own b + 1) := Int.mul_nonneg y0 (by omega)
  have z3 : sh a * (own b + 1) ≤ 20 * 501 := Int.mul_le_mul y1 (by omega) (by omega) (by omega)
  have e1 : IntKind.i64.wrap (own a + 1) = own a + 1 := IntWalk.i64_in _ (by omega)
  have e2 : IntKind.i64.wrap (own b + 1) = own b + 1 := IntWalk.i64_in _ (by omega)
  have e3 : IntKind.i64.wrap (sh b * (own a + 1)) = sh b * (own a + 1) := IntWalk.i64_in _ (by omega)
  have e4 : IntKind.i64.wrap (sh a * (own b + 1)) = sh a * (own b + 1) := IntWalk.i64_in _ (by omega)
  clear hs ho y0 y1 y2 y3 y4 y5 y6 y7 z0 z1 z2 z3
  have J0 := Lib.hid (HI.out.grow (Below.drew (Below.refl _ _)))
  go_enter Tryz.func41, Tryz.ntmps41
  go_wp2_with fail
  refine wp_region_held_drew (S := (fun w' => (w'.cell? ⟨p2, 0, none⟩ = some (.slice sa n sc) ∧ w'.cell? ⟨p3, 0, none⟩ = some (.slice ga n gc) ∧ w'.cell? ⟨blk sa, ofs sa + a, none⟩ = some (.int .i64 (sh a)) ∧ w'.cell? ⟨blk sa, ofs sa + b, none⟩ = some (.int .i64 (sh b)) ∧ w'.cell? ⟨blk ga, ofs ga + a, none⟩ = some (.int .i64 (own a)) ∧ w'.cell? ⟨blk ga, ofs ga + b, none⟩ = some (.int .i64 (own b))) ∧ V1 w p2 p3 sa ga n sc gc sh own w')) (by kernel_rfl) (V1.cells ha hb J0.out) (fun hHeld => ?_)
  refine wpAnyH_take (i := 0) (oi := { dst := some 7, op := Op.load 24 (Operand.tmp 2), type := 24, pos := "wage.go:334", after := #[], guard := none }) (v := ?_) rfl (by kernel_rfl) (by kernel_rfl) (by kernel_rfl) (fun _ _ _ h => h) (Or.inl ⟨by rfl, ?_⟩) (by assumption) ?_
  rotate_left
  · (intro w9 hSw; (try dsimp only at hSw); (go_split_ands; go_simp); (try with_reducible rfl))
  try simp only [Act.put, List.setIfInBounds_toArray, List.set_cons_zero, List.set_cons_succ]
  refine wpAnyH_take (i := 1) (oi := { dst := some 8, op := Op.move (Operand.tmp 1), type := 3, pos := "wage.go:334", after := #[], guard := none }) (v := ?_) rfl (by kernel_rfl) (by kernel_rfl) (by kernel_rfl) (fun _ _ _ h => h) (Or.inl ⟨by rfl, ?_⟩) (by assumption) ?_
  rotate_left
  · (intro w9 hSw; (try dsimp only at hSw); (go_split_ands; go_simp); (try with_reducible rfl))
  try simp only [Act.put, List.setIfInBounds_toArray, List.set_cons_zero, List.set_cons_succ]
  refine wpAnyH_take (i := 2) (oi := { dst := some 9, op := Op.indexAddr 24 (Operand.tmp 7) (Operand.tmp 8), type := 0, pos := "wage.go:334", after := #[{ on := 0, ground := Ground.data }, { on := 1, ground := Ground.data }], guard := none }) (v := ?_) rfl (by kernel_rfl) (by kernel_rfl) (by kernel_rfl) (fun _ _ _ h => h) (Or.inl ⟨by rfl, ?_⟩) (by assumption) ?_
  rotate_left
  · (intro w9 hSw; (try dsimp only at hSw); (go_split_ands; go_simp); (try with_reducible rfl))
  try simp only [Act.put, List.setIfInBounds_toArray, List.set_cons_zero, List.set_cons_succ]
  refine wpAnyH_take (i := 3) (oi := { dst := some 10, op := Op.load 3 (Operand.tmp 9), type := 3, pos := "wage.go:334", after := #[{ on := 2, ground := Ground.data }], guard := none }) (v := ?_) rfl (by kernel_rfl) (by kernel_rfl) (by kernel_rfl) (fun _ _ _ h => h) (Or.inl ⟨by rfl, ?_⟩) (by assumption) ?_
  rotate_left
  · (intro w9 hSw; (try dsimp only at hSw); (go_split_ands; go_simp); (try with_reducible rfl))
  try simp only [Act.put, List.setIfInBounds_toArray, List.set_cons_zero, List.set_cons_succ]
  refine wpAnyH_take (i := 4) (oi := { dst := some 11, op := Op.load 24 (Operand.tmp 3), type := 24, pos := "wage.go:334", after := #[], guard := none }) (v := ?_) rfl (by kernel_rfl) (by kernel_rfl) (by kernel_rfl) (fun _ _ _ h => h) (Or.inl ⟨by rfl, ?_⟩) (by assumption) ?_
  rotate_left
  · (intro w9 hSw; (try dsimp only at hSw); (go_split_ands; go_simp); (try with_reducible rfl))
  try simp only [Act.put, List.setIfInBounds_toArray, List.set_cons_zero, List.set_cons_succ]
  refine wpAnyH_take (i := 5) (oi := { dst := some 12, op := Op.move (Operand.tmp 0), type := 3, pos := "wage.go:334", after := #[], guard := none }) (v := ?_) rfl (by kernel_rfl) (by kernel_rfl) (by kernel_rfl) (fun _ _ _ h => h) (Or.inl ⟨by rfl, ?_⟩) (by assumption) ?_
  rotate_left
  · (intro w9 hSw; (try dsimp only at hSw); (go_split_ands; go_simp); (try with_reducible rfl))
  try simp only [Act.put, List.setIfInBounds_toArray, List.set_cons_zero, List.set_cons_succ]
  refine wpAnyH_take (i := 6) (oi := { dst := some 13, op := Op.indexAddr 24 (Operand.tmp 11) (Operand.tmp 12), type := 0, pos := "wage.go:334", after := #[{ on := 4, ground := Ground.data }, { on := 5, ground := Ground.data }], guard := none }) (v := ?_) rfl (by kernel_rfl) (by kernel_rfl) (by kernel_rfl) (fun _ _ _ h => h) (Or.inl ⟨by rfl, ?_⟩) (by assumption) ?_
  rotate_left
  · (intro w9 hSw; (try dsimp only at hSw); (go_split_ands; go_simp); (try with_reducible rfl))
  try simp only [Act.put, List.setIfInBounds_toArray, List.set_cons_zero, List.set_cons_succ]
  refine wpAnyH_take (i := 7) (oi := { dst := some 14, op := Op.load 3 (Operand.tmp 13), type := 3, pos := "wage.go:334", after := #[{ on := 6, ground := Ground.data }], guard := none }) (v := ?_) rfl (by kernel_rfl) (by kernel_rfl) (by kernel_rfl) (fun _ _ _ h => h) (Or.inl ⟨by rfl, ?_⟩) (by assumption) ?_
  rotate_left
  · (intro w9 hSw; (try dsimp only at hSw); (go_split_ands; go_simp); (try with_reducible rfl))
  try simp only [Act.put, List.setIfInBounds_toArray, List.set_cons_zero, List.set_cons_succ]
  refine wpAnyH_take (i := 8) (oi := { dst := some 15, op := Op.binOp BinOp.add 3 (Operand.tmp 14) (Operand.const (Value.int IntKind.i64 1)) 3, type := 3, pos := "wage.go:334", after := #[{ on := 7, ground := Ground.data }], guard := none }) (v := ?_) rfl (by kernel_rfl) (by kernel_rfl) (by kernel_rfl) (fun _ _ _ h => h) (Or.inl ⟨by rfl, ?_⟩) (by assumption) ?_
  rotate_left
  · (intro w9 hSw; (try dsimp only at hSw); (go_split_ands; go_simp); (try with_reducible rfl))
  try simp only [Act.put, List.setIfInBounds_toArray, List.set_cons_zero, List.set_cons_succ]
  refine wpAnyH_take (i := 9) (oi := { dst := some 16, op := Op.binOp BinOp.mul 3 (Operand.tmp 10) (Operand.tmp 15) 3, type := 3, pos := "wage.go:334", after := #[{ on := 3, ground := Ground.data }, { on := 8, ground := Ground.data }], guard := none }) (v := ?_) rfl (by kernel_rfl) (by kernel_rfl) (by kernel_rfl) (fun _ _ _ h => h) (Or.inl ⟨by rfl, ?_⟩) (by assumption) ?_
  rotate_left
  · (intro w9 hSw; (try dsimp only at hSw); (go_split_ands; go_simp); (try with_reducible rfl))
  try simp only [Act.put, List.setIfInBounds_toArray, List.set_cons_zero, List.set_cons_succ]
  refine wpAnyH_take (i := 10) (oi := { dst := some 17, op := Op.load 24 (Operand.tmp 2), type := 24, pos := "wage.go:334", after := #[], guard := none }) (v := ?_) rfl (by kernel_rfl) (by kernel_rfl) (by kernel_rfl) (fun _ _ _ h => h) (Or.inl ⟨by rfl, ?_⟩) (by assumption) ?_
  rotate_left
  · (intro w9 hSw; (try dsimp only at hSw); (go_split_ands; go_simp); (try with_reducible rfl))
  try simp only [Act.put, List.setIfInBounds_toArray, List.set_cons_zero, List.set_cons_succ]
  refine wpAnyH_take (i := 11) (oi := { dst := some 18, op := Op.move (Operand.tmp 0), type := 3, pos := "wage.go:334", after := #[], guard := none }) (v := ?_) rfl (by kernel_rfl) (by kernel_rfl) (by kernel_rfl) (fun _ _ _ h => h) (Or.inl ⟨by rfl, ?_⟩) (by assumption) ?_
  rotate_left
  · (intro w9 hSw; (try dsimp only at hSw); (go_split_ands; go_simp); (try with_reducible rfl))
  try simp only [Act.put, List.setIfInBounds_toArray, List.set_cons_zero, List.set_cons_succ]
  refine wpAnyH_take (i := 12) (oi := { dst := some 19, op := Op.indexAddr 24 (Operand.tmp 17) (Operand.tmp 18), type := 0, pos := "wage.go:334", after := #[{ on := 10, ground := Ground.data }, { on := 11, ground := Ground.data }], guard := none }) (v := ?_) rfl (by kernel_rfl) (by kernel_rfl) (by kernel_rfl) (fun _ _ _ h => h) (Or.inl ⟨by rfl, ?_⟩) (by assumption) ?_
  rotate_left
  · (intro w9 hSw; (try dsimp only at hSw); (go_split_ands; go_simp); (try with_reducible rfl))
  try simp only [Act.put, List.setIfInBounds_toArray, List.set_cons_zero, List.set_cons_succ]
  refine wpAnyH_take (i := 13) (oi := { dst := some 20, op := Op.load 3 (Operand.tmp 19), type := 3, pos := "wage.go:334", after := #[{ on := 12, ground := Ground.data }], guard := none }) (v := ?_) rfl (by kernel_rfl) (by kernel_rfl) (by kernel_rfl) (fun _ _ _ h => h) (Or.inl ⟨by rfl, ?_⟩) (by assumption) ?_
  rotate_left
  · (intro w9 hSw; (try dsimp only at hSw); (go_split_ands; go_simp); (try with_reducible rfl))
  try simp only [Act.put, List.setIfInBounds_toArray, List.set_cons_zero, List.set_cons_succ]
  refine wpAnyH_take (i := 14) (oi := { dst := some 21, op := Op.load 24 (Operand.tmp 3), type := 24, pos := "wage.go:334", after := #[], guard := none }) (v := ?_) rfl (by kernel_rfl) (by kernel_rfl) (by kernel_rfl) (fun _ _ _ h => h) (Or.inl ⟨by rfl, ?_⟩) (by assumption) ?_
  rotate_left
  · (intro w9 hSw; (try dsimp only at hSw); (go_split_ands; go_simp); (try with_reducible rfl))
  try simp only [Act.put, List.setIfInBounds_toArray, List.set_cons_zero, List.set_cons_succ]
  refine wpAnyH_take (i := 15) (oi := { dst := some 22, op := Op.move (Operand.tmp 1), type := 3, pos := "wage.go:334", after := #[], guard := none }) (v := ?_) rfl (by kernel_rfl) (by kernel_rfl) (by kernel_rfl) (fun _ _ _ h => h) (Or.inl ⟨by rfl, ?_⟩) (by assumption) ?_
  rotate_left
  · (intro w9 hSw; (try dsimp only at hSw); (go_split_ands; go_simp); (try with_reducible rfl))
  try simp only [Act.put, List.setIfInBounds_toArray, List.set_cons_zero, List.set_cons_succ]
  refine wpAnyH_take (i := 16) (oi := { dst := some 23, op := Op.indexAddr 24 (Operand.tmp 21) (Operand.tmp 22), type := 0, pos := "wage.go:334", after := #[{ on := 14, ground := Ground.data }, { on := 15, ground := Ground.data }], guard := none }) (v := ?_) rfl (by kernel_rfl) (by kernel_rfl) (by kernel_rfl) (fun _ _ _ h => h) (Or.inl ⟨by rfl, ?_⟩) (by assumption) ?_
  rotate_left
  · (intro w9 hSw; (try dsimp only at hSw); (go_split_ands; go_simp); (try with_reducible rfl))
  try simp only [Act.put, List.setIfInBounds_toArray, List.set_cons_zero, List.set_cons_succ]
  refine wpAnyH_take (i := 17) (oi := { dst := some 24, op := Op.load 3 (Operand.tmp 23), type := 3, pos := "wage.go:334", after := #[{ on := 16, ground := Ground.data }], guard := none }) (v := ?_) rfl (by kernel_rfl) (by kernel_rfl) (by kernel_rfl) (fun _ _ _ h => h) (Or.inl ⟨by rfl, ?_⟩) (by assumption) ?_
  rotate_left
  · (intro w9 hSw; (try dsimp only at hSw); (go_split_ands; go_simp); (try with_reducible rfl))
  try simp only [Act.put, List.setIfInBounds_toArray, List.set_cons_zero, List.set_cons_succ]
  refine wpAnyH_take (i := 18) (oi := { dst := some 25, op := Op.binOp BinOp.add 3 (Operand.tmp 24) (Operand.const (Value.int IntKind.i64 1)) 3, type := 3, pos := "wage.go:334", after := #[{ on := 17, ground := Ground.data }], guard := none }) (v := ?_) rfl (by kernel_rfl) (by kernel_rfl) (by kernel_rfl) (fun _ _ _ h => h) (Or.inl ⟨by rfl, ?_⟩) (by assumption) ?_
  rotate_left
  · (intro w9 hSw; (try dsimp only at hSw); (go_split_ands; go_simp); (try with_reducible rfl))
  try simp only [Act.put, List.setIfInBounds_toArray, List.set_cons_zero, List.set_cons_succ]
  refine wpAnyH_take (i := 19) (oi := { dst := some 26, op := Op.binOp BinOp.mul 3 (Operand.tmp 20) (Operand.tmp 25) 3, type := 3, pos := "wage.go:334", after := #[{ on := 13, ground := Ground.data }, { on := 18, ground := Ground.data }], guard := none }) (v := ?_) rfl (by kernel_rfl) (by kernel_rfl) (by kernel_rfl) (fun _ _ _ h => h) (Or.inl ⟨by rfl, ?_⟩) (by assumption) ?_
  rotate_left
  · (intro w9 hSw; (try dsimp only at hSw); (go_split_ands; go_simp); (try with_reducible rfl))
  try simp only [Act.put, List.setIfInBounds_toArray, List.set_cons_zero, List.set_cons_succ]
  refine wpAnyH_take (i := 21) (oi := { dst := some 28, op := Op.move (Operand.tmp 0), type := 3, pos := "wage.go:334", after := #[], guard := none }) (v := ?_) rfl (by kernel_rfl) (by kernel_rfl) (by kernel_rfl) (fun _ _ _ h => h) (Or.inl ⟨by rfl, ?_⟩) (by assumption) ?_
  rotate_left
  · (intro w9 hSw; (try dsimp only at hSw); (go_split_ands; go_simp); (try with_reducible rfl))
  try simp only [Act.put, List.setIfInBounds_toArray, List.set_cons_zero, List.set_cons_succ]
  refine wpAnyH_take (i := 22) (oi := { dst := some 29, op := Op.move (Operand.tmp 1), type := 3, pos := "wage.go:334", after := #[], guard := none }) (v := ?_) rfl (by kernel_rfl) (by kernel_rfl) (by kernel_rfl) (fun _ _ _ h => h) (Or.inl ⟨by rfl, ?_⟩) (by assumption) ?_
  rotate_left
  · (intro w9 hSw; (try dsimp only at hSw); (go_split_ands; go_simp); (try with_reducible rfl))
  try simp only [Act.put, List.setIfInBounds_toArray, List.set_cons_zero, List.set_cons_succ]
  refine wpAnyH_ready (rs := [20]) (by kernel_rfl) (by simp) ?_
  refine AllReadyH.cons (o := { dst := some 27, op := Op.call { callee := Callee.value (Operand.func 43), args := #[Operand.tmp 16, Operand.tmp 26], argTypes := #[3, 3] }, type := 3, pos := "wage.go:334", after := #[{ on := 9, ground := Ground.data }, { on := 19, ground := Ground.data }], guard := none }) rfl (fun K hK => ?_) AllReadyH.nil
  go_simp
  go_at_call 43; refine (compare_any _ _ _).mono ?_; rintro e w3 ⟨rfl, rfl⟩
  go_wp2_with fail
  refine hK.out _ _ ?_ (fun hHeld => ?_)
  · assumption
  clear hK K
  try simp only [Act.put, List.setIfInBounds_toArray, List.set_cons_zero, List.set_cons_succ]
  refine wpAnyH_ready (rs := [23]) (by kernel_rfl) (by simp) ?_
  refine AllReadyH.cons (o := { dst := some 30, op := Op.call { callee := Callee.value (Operand.func 43), args := #[Operand.tmp 28, Operand.tmp 29], argTypes := #[3, 3] }, type := 3, pos := "wage.go:334", after := #[{ on := 21, ground := Ground.data }, { on := 22, ground := Ground.data }, { on := 20, ground := Ground.chain }], guard := none }) rfl (fun K hK => ?_) AllReadyH.nil
  go_simp
  go_at_call 43; refine (compare_any _ _ _).mono ?_; rintro e w3 ⟨rfl, rfl⟩
  go_wp2_with fail
  refine hK.out _ _ ?_ (fun hHeld => ?_)
  · assumption
  clear hK K
  try simp only [Act.put, List.setIfInBounds_toArray, List.set_cons_zero, List.set_cons_succ]
  refine wpAnyH_ready (rs := [24]) (by kernel_rfl) (by simp) ?_
  refine AllReadyH.cons (o := { dst := some 31, op := Op.buildSlice 24 2 #[(0, Operand.tmp 27), (1, Operand.tmp 30)], type := 24, pos := "wage.go:334", after := #[{ on := 20, ground := Ground.data }, { on := 23, ground := Ground.data }], guard := none }) rfl (fun K hK => ?_) AllReadyH.nil
  go_simp
  skip
  go_wp2_with fail
  refine hK.out _ _ ?_ (fun hHeld => ?_)
  · exact V1.cells ha hb (V1.grow J0.out ((Below.refl _ _).alloc (Nat.le_refl _) _))
  clear hK K
  try simp only [Act.put, List.setIfInBounds_toArray, List.set_cons_zero, List.set_cons_succ]
  have J1 := Lib.hid hHeld.2
  refine wpAnyH_ready (rs := [25]) (by kernel_rfl) (by simp) ?_
  refine AllReadyH.cons (o := { dst := some 32, op := Op.call { callee := Callee.value (Operand.func 42), args := #[Operand.tmp 31], argTypes := #[24] }, type := 3, pos := "wage.go:334", after := #[{ on := 24, ground := Ground.data }, { on := 23, ground := Ground.chain }], guard := none }) rfl (fun K hK => ?_) AllReadyH.nil
  go_simp
  (go_at_call 42; refine (or2_any _ _ (fun i => if i = 0 then cmpI (sh b * (own a + 1)) (sh a * (own b + 1)) else cmpI a b) _ ?_).mono ?_; exact ints2 (blocks1 rfl).1; rintro e w6 ⟨rfl, rfl⟩)
  go_wp2_with fail
  refine hK.out _ _ ?_ (fun hHeld => ?_)
  · assumption
  clear hK K
  try simp only [Act.put, List.setIfInBounds_toArray, List.set_cons_zero, List.set_cons_succ]
  refine wpAnyH_ready (rs := [26]) (by kernel_rfl) (by simp) ?_
  refine AllReadyH.cons (o := { dst := some 6, op := Op.assign (Operand.tmp 32), type := 3, pos := "wage.go:334", after := #[{ on := 25, ground := Ground.data }, { on := 25, ground := Ground.chain }, { on := 0, ground := Ground.phase }, { on := 1, ground := Ground.phase }, { on := 2, ground := Ground.phase }, { on := 3, ground := Ground.phase }, { on := 4, ground := Ground.phase }, { on := 5, ground := Ground.phase }, { on := 6, ground := Ground.phase }, { on := 7, ground := Ground.phase }, { on := 8, ground := Ground.phase }, { on := 9, ground := Ground.phase }, { on := 10, ground := Ground.phase }, { on := 11, ground := Ground.phase }, { on := 12, ground := Ground.phase }, { on := 13, ground := Ground.phase }, { on := 14, ground := Ground.phase }, { on := 15, ground := Ground.phase }, { on := 16, ground := Ground.phase }, { on := 17, ground := Ground.phase }, { on := 18, ground := Ground.phase }, { on := 19, ground := Ground.phase }, { on := 20, ground := Ground.phase }, { on := 21, ground := Ground.phase }, { on := 22, ground := Ground.phase }, { on := 23, ground := Ground.phase }, { on := 24, ground := Ground.phase }, { on := 25, ground := Ground.phase }], guard := none }) rfl (fun K hK => ?_) AllReadyH.nil
  go_simp
  skip
  go_wp2_with fail
  refine hK.out _ _ ?_ (fun hHeld => ?_)
  · assumption
  clear hK K
  try simp only [Act.put, List.setIfInBounds_toArray, List.set_cons_zero, List.set_cons_succ]
  refine wpAnyH_done (by kernel_rfl) ?_ _
  clear hHeld
  go_wp2_with fail
  go_ret
  exact ⟨rfl, J1.out.bel⟩
end Go.Proofs.YtikeihnhkiipgaaGreat.Wa

namespace Go.Proofs.YtikeihnhkiipgaaGreat.Wa
open Go.RowKit

/-- The first of the first k + 1 men that is before all others. -/
def minM (sh own : Nat → Int) (f : Nat → Nat) : Nat → Nat
  | 0 => f 0
  | k + 1 => if before sh own (f (k + 1)) (minM sh own f k) < 0 then f (k + 1) else minM sh own f k
theorem minM_lt {sh own : Nat → Int} {f : Nat → Nat} {m n : Nat} (hf : ∀ i, i < m → f i < n) : ∀ k, k < m → minM sh own f k < n
  | 0, h => hf 0 h
  | k + 1, h => by
    simp only [minM]
    split
    · exact hf _ h
    · exact minM_lt hf k (by omega)

structure M1 (w : World) (p2 p3 : Nat) (sa ga oa : Option Addr) (n sc gc m : Nat) (sh own : Nat → Int) (f : Nat → Nat) (w' : World) : Prop where
  v : V1 w p2 p3 sa ga n sc gc sh own w'
  l : IntsAt w' oa m (fun i => (f i : Int))
def MR (w : World) (p2 p3 : Nat) (sa ga oa : Option Addr) (n sc gc m : Nat) (sh own : Nat → Int) (f : Nat → Nat) (a i : Value) (wr : World) : Prop :=
  ∃ k : Nat, k + 1 ≤ m ∧ i = .int .i64 ((k + 1 : Nat) : Int) ∧ a = .int .i64 (minM sh own f k : Nat) ∧ M1 w p2 p3 sa ga oa n sc gc m sh own f wr

set_option maxRecDepth 100000 in
set_option maxHeartbeats 4000000 in
theorem minFunc_any (p2 p3 : Nat) (sa ga oa : Option Addr) (n sc gc m mc : Nat) (sh own : Nat → Int) (f : Nat → Nat) (w : World) (hm : 0 < m) (hm6 : m ≤ 6) (hf : ∀ i, i < m → f i < n) (hs : ∀ i, i < n → 0 ≤ sh i ∧ sh i ≤ 20) (ho : ∀ i, i < n → 0 ≤ own i ∧ own i ≤ 500)
    (x2 : BoxAt w p2 #[.slice sa n sc] 24) (x3 : BoxAt w p3 #[.slice ga n gc] 24) (l2 : IntsAt w sa n sh) (l3 : IntsAt w ga n own) (l : IntsAt w oa m (fun i => (f i : Int))) (hn : n ≤ 6) :
    Calls Tryz.prog 40 #[.slice oa m mc, .func (.func 41) #[] #[bp p2, bp p3]] w fun e w' => e = .returned (.int .i64 (minM sh own f (m - 1) : Nat)) ∧ Below w.heap.size w w' := by
  have HI := Lib.hid (show M1 w p2 p3 sa ga oa n sc gc m sh own f w from ⟨⟨Below.refl _ _, x2, x3, l2, l3⟩, l⟩)
  have HF := Lib.hid hf
  have HS := Lib.hid hs
  have HO := Lib.hid ho
  have i0 := fun w => run_indexAt_row (w := w) (cap := mc) (k := 0) Tryz.underlying24 size3 (l.plain hm) hm
  have c0 := l.at hm
  simp only [Nat.zero_mul, Nat.add_zero, Int.natCast_zero] at i0 c0
  clear x2 x3 l2 l3 l hf hs ho
  go_enter Tryz.func40, Tryz.ntmps40
  go_wp2_with fail
  go_loopw [5, 6] (MR w p2 p3 sa ga oa n sc gc m sh own f) (fun _ i _ => m - (intOf i).toNat)
  case atStart => exact ⟨0, hm, rfl, rfl, HI.out⟩
  case round =>
    clear HI c0 i0
    obtain ⟨k, hk, rfl, rfl, hinv⟩ := hrel
    have HI := Lib.hid hinv
    clear hinv
    simp only [Int.natCast_add, Int.natCast_one] at *
    by_cases hlt : k + 1 < m
    · have hi := fun w => run_indexAt_row (w := w) (cap := mc) (k := k + 1) Tryz.underlying24 size3 (HI.out.l.plain (by omega)) hlt
      have hc := HI.out.l.at hlt
      simp only [Nat.mul_one, Int.natCast_add, Int.natCast_one] at hi
      have hz : decide (before sh own (f (k + 1)) (minM sh own f k) < 0) = true ∨ decide (before sh own (f (k + 1)) (minM sh own f k) < 0) = false := by cases decide (before sh own (f (k + 1)) (minM sh own f k) < 0) <;> simp
      have C := Lib.hid (share1_any (f (k + 1)) (minM sh own f k) p2 p3 sa ga n sc gc sh own wr (HF.out _ hlt) (minM_lt HF.out k (by omega)) HS.out HO.out HI.out.v.x2 HI.out.v.x3 HI.out.v.l2 HI.out.v.l3 hn)
      rcases hz with z | z
      · have E := Lib.hid (show minM sh own f (k + 1) = f (k + 1) from by simp only [minM]; rw [if_pos (by simpa using z)])
        go_wp2_with (first | (go_at_call 41; refine C.out.mono ?_; rintro e w5 ⟨rfl, hb5⟩; have HJ := Lib.hid (show M1 w p2 p3 sa ga oa n sc gc m sh own f w5 from ⟨HI.out.v.grow hb5, HI.out.l.grow hb5⟩); clear hb5; have hc := HJ.out.l.at hlt))
        refine ⟨⟨k + 1, hlt, ?_, by rw [E.out], HJ.out⟩, by simp [intOf]; omega⟩
        congr 1
      · have E := Lib.hid (show minM sh own f (k + 1) = minM sh own f k from by simp only [minM]; rw [if_neg (by simpa using z)])
        go_wp2_with (first | (go_at_call 41; refine C.out.mono ?_; rintro e w5 ⟨rfl, hb5⟩; have HJ := Lib.hid (show M1 w p2 p3 sa ga oa n sc gc m sh own f w5 from ⟨HI.out.v.grow hb5, HI.out.l.grow hb5⟩); clear hb5; have hc := HJ.out.l.at hlt))
        refine ⟨⟨k + 1, hlt, ?_, by rw [E.out], HJ.out⟩, by simp [intOf]; omega⟩
        congr 1
    · obtain rfl : m = k + 1 := by omega
      go_wp2_with fail
      go_ret
      exact ⟨rfl, HI.out.v.bel⟩
end Go.Proofs.YtikeihnhkiipgaaGreat.Wa

namespace Go.Proofs.YtikeihnhkiipgaaGreat.Wa
open Go.RowKit

def shareOk (coins : Int) (n : Nat) (sh : Nat → Int) : Bool := inB coins 0 500 && decide (n ≤ 6) && (List.range n).all fun i => inB (sh i) 0 20
/-- Those who have a share. -/
def menL (sh : Nat → Int) (n : Nat) : List Nat := (List.range n).filter fun i => decide (0 < sh i)
def menF (sh : Nat → Int) (n i : Nat) : Nat := (menL sh n).getD i 0
/-- What they have after k coins. -/
def ownK (sh : Nat → Int) (n : Nat) : Nat → Nat → Int
  | 0, _ => 0
  | k + 1, i => if i = minM sh (ownK sh n k) (menF sh n) ((menL sh n).length - 1) then ownK sh n k i + 1 else ownK sh n k i
def shareF (sh : Nat → Int) (n coins : Nat) (i : Nat) : Int := if (menL sh n).length = 0 then 0 else ownK sh n coins i
def SharePost (w : World) (coins : Int) (n : Nat) (sh : Nat → Int) (e : Ending) (w' : World) : Prop :=
  Below w.heap.size w w' ∧ ((shareOk coins n sh = true ∧ ∃ g, w.heap.size ≤ g ∧ e = .returned (.tuple #[.slice (some ⟨g, 0, none⟩) n n, .int .i64 0]) ∧ BoxAt w' g (rowVals (shareF sh n coins.toNat) n).toArray 3) ∨ (shareOk coins n sh = false ∧ e = .returned (.tuple #[.slice none 0 0, .int .i64 1])))
theorem menL_succ (sh : Nat → Int) (n : Nat) : menL sh (n + 1) = if 0 < sh n then menL sh n ++ [n] else menL sh n := by
  by_cases h : 0 < sh n <;> simp [menL, List.range_succ, List.filter_append, h]
theorem menL_lt {sh : Nat → Int} {n i : Nat} (h : i ∈ menL sh n) : i < n := by
  simp only [menL, List.mem_filter, List.mem_range] at h
  exact h.1
theorem menF_lt {sh : Nat → Int} {n i : Nat} (h : i < (menL sh n).length) : menF sh n i < n := by
  unfold menF
  rw [List.getD_eq_getElem?_getD, List.getElem?_eq_getElem h]
  exact menL_lt (List.getElem_mem h)
theorem ownK_bd (sh : Nat → Int) (n : Nat) : ∀ k i, 0 ≤ ownK sh n k i ∧ ownK sh n k i ≤ k
  | 0, i => by simp [ownK]
  | k + 1, i => by
    have := ownK_bd sh n k i
    simp only [ownK]
    split <;> omega

/-- The boxes: shares, the error. -/
structure S1 (w : World) (oa : Option Addr) (n cap : Nat) (sh : Nat → Int) (w' : World) : Prop where
  bel : Below w.heap.size w w'
  bx : BoxAt w' w.heap.size #[.slice oa n cap] 24
  r1 : BoxAt w' (w.heap.size + 1) #[.int .i64 0] 33
  l : IntsAt w' oa n sh
theorem S1.grow {w : World} {oa : Option Addr} {n cap : Nat} {sh : Nat → Int} {w1 w2 : World} (h : S1 w oa n cap sh w1) (hb : Below w1.heap.size w1 w2) : S1 w oa n cap sh w2 :=
  ⟨h.bel.trans (hb.mono (Nat.le_of_lt (lt_of_heap h.bx))), h.bx.grow hb, h.r1.grow hb, h.l.grow hb⟩
def SR1 (w : World) (oa : Option Addr) (n cap : Nat) (sh : Nat → Int) (i : Value) (wr : World) : Prop :=
  ∃ k : Nat, k ≤ n ∧ i = .int .i64 k ∧ (∀ j, j < k → inB (sh j) 0 20 = true) ∧ S1 w oa n cap sh wr

def menV (sh : Nat → Int) (n : Nat) : List Value := (menL sh n).map fun (x : Nat) => Value.int .i64 x
theorem menV_row (sh : Nat → Int) (n : Nat) : menV sh n = rowVals (fun i => (menF sh n i : Int)) (menL sh n).length := by
  apply List.ext_getElem (by simp [menV, rowVals])
  intro i h1 h2
  have : i < (menL sh n).length := by simpa [menV] using h1
  simp [menV, rowVals, menF, List.getD_eq_getElem?_getD, this]
structure S2 (w : World) (oa : Option Addr) (n cap gb ob : Nat) (sh : Nat → Int) (ow : Nat → Int) (w' : World) : Prop where
  s : S1 w oa n cap sh w'
  g : BoxAt w' gb (rowVals ow n).toArray 3
  o : BoxAt w' ob #[.slice (some ⟨gb, 0, none⟩) n n] 24
  lo : w.heap.size + 1 < gb
  mid : gb < ob
theorem S2.grow {w : World} {oa : Option Addr} {n cap gb ob : Nat} {sh : Nat → Int} {ow : Nat → Int} {w1 w2 : World} (h : S2 w oa n cap gb ob sh ow w1) (hb : Below w1.heap.size w1 w2) : S2 w oa n cap gb ob sh ow w2 :=
  ⟨h.s.grow hb, h.g.grow hb, h.o.grow hb, h.lo, h.mid⟩
theorem S2.below {w : World} {oa : Option Addr} {n cap gb ob : Nat} {sh : Nat → Int} {ow : Nat → Int} {w1 w2 : World} (h : S2 w oa n cap gb ob sh ow w1) (hl : IntsAt w oa n sh) (hb : Below (ob + 1) w1 w2) : S2 w oa n cap gb ob sh ow w2 := by
  have h1 := h.lo
  have h2 := h.mid
  have hw := h.s.bel.trans (hb.mono (by omega))
  exact ⟨⟨hw, (hb.block _ (by omega)).trans h.s.bx, (hb.block _ (by omega)).trans h.s.r1, hl.grow hw⟩, (hb.block _ (by omega)).trans h.g, (hb.block _ (by omega)).trans h.o, h.lo, h.mid⟩
def SR2 (w : World) (oa : Option Addr) (n cap gb ob : Nat) (sh : Nat → Int) (a i : Value) (wr : World) : Prop :=
  ∃ j : Nat, j ≤ n ∧ i = .int .i64 j ∧ wr.ownsRow (ob + 1) 3 1 a (menL sh j).length (menV sh j) ∧ S2 w oa n cap gb ob sh (fun _ => 0) wr ∧ ob < wr.heap.size

def SR3 (w : World) (oa : Option Addr) (n cap gb ob : Nat) (sh : Nat → Int) (ma : Option Addr) (_mc cn : Nat) (i : Value) (wr : World) : Prop :=
  ∃ c : Nat, c ≤ cn ∧ i = .int .i64 c ∧ S2 w oa n cap gb ob sh (ownK sh n c) wr ∧ IntsAt wr ma (menL sh n).length (fun i => (menF sh n i : Int))

theorem ints_box {w : World} {g n : Nat} {F : Nat → Int} {t : TypeId} (h : BoxAt w g (rowVals F n).toArray t) (hn : n ≤ maxLen) : IntsAt w (some ⟨g, 0, none⟩) n F := by
  refine ⟨fun _ => rfl, fun _ => lt_of_heap h, hn, fun i hi j hj => ?_⟩
  obtain rfl : j = 0 := by omega
  show w.cell? ⟨g, 0 + i * 1 + 0, none⟩ = _
  rw [cellAt h]
  simp [rowVals, hi]
theorem rowVals_set (F : Nat → Int) (n r : Nat) (v : Int) : (rowVals F n).set r (.int .i64 v) = rowVals (fun i => if i = r then v else F i) n := by
  apply List.ext_getElem (by simp [rowVals])
  intro i h1 h2
  simp only [List.getElem_set, rowVals, List.getElem_map, List.getElem_range]
  by_cases e : r = i
  · subst e; simp
  · have e' : ¬ i = r := fun h => e h.symm
    simp [e, e']
theorem IntsAt.set {w : World} {oa : Option Addr} {n : Nat} {f : Nat → Int} (h : IntsAt w oa n f) (p : Addr) (v : Value) (hne : 0 < n → p.block ≠ blk oa) : IntsAt (w.setCell p v) oa n f where
  plain := h.plain
  old := fun hn => by rw [size_setCell]; exact h.old hn
  small := h.small
  cells := fun i hi j hj => (World.cell?_setCell_other _ _ _ _ (fun e => hne (by omega) (by rw [e]))).trans (h.cells i hi j hj)
theorem S2.store {w : World} {oa : Option Addr} {n cap gb ob : Nat} {sh : Nat → Int} {F : Nat → Int} {w1 : World} (h : S2 w oa n cap gb ob sh F w1) (hl : IntsAt w oa n sh) (r : Nat) (v : Int) : S2 w oa n cap gb ob sh (fun i => if i = r then v else F i) (w1.setCell ⟨gb, r, none⟩ (.int .i64 v)) := by
  have h1 := h.lo
  have h2 := h.mid
  have hw := h.s.bel.setCell (p := ⟨gb, r, none⟩) (by dsimp only; omega) (.int .i64 v)
  have hg := BoxAt.store h.g r (.int .i64 v)
  rw [List.setIfInBounds_toArray, rowVals_set] at hg
  exact ⟨⟨hw, h.s.bx.set _ _ (by dsimp only; omega), h.s.r1.set _ _ (by dsimp only; omega), hl.grow hw⟩, hg, h.o.set _ _ (by dsimp only; omega), h.lo, h.mid⟩

set_option maxRecDepth 100000 in
set_option maxHeartbeats 4000000 in
theorem shares_any (coins : Int) (oa : Option Addr) (n cap : Nat) (sh : Nat → Int) (w : World) (hl : IntsAt w oa n sh) :
    Calls Tryz.prog 11 #[.int .i64 coins, .slice oa n cap] w (SharePost w coins n sh) := by
  have nml := hl.small
  unfold maxLen at nml
  have HL := Lib.hid hl
  have I0 := Lib.hid (show S1 w oa n cap sh ((w.alloc (.cells #[.slice oa n cap] 24)).alloc (.cells #[.int .i64 0] 33)) from ⟨((Below.refl _ _).alloc (Nat.le_refl _) _).alloc (by simp) _, (blocks2 rfl).1, (blocks2 rfl).2.1, hl.grow (((Below.refl _ _).alloc (Nat.le_refl _) _).alloc (by simp) _)⟩)
  clear hl
  have hmf : ∀ (fn : Fn) (first cap : Array Value) (w : World), (Instr.makeFunc fn first cap).run Tryz.prog w = .ok (.func fn first cap) w := fun _ _ _ _ => rfl
  have r2 := cellAt I0.out.r1 0
  simp only [List.getElem?_toArray, List.getElem?_cons_zero] at r2
  have hc1 : inB coins 0 500 = true ∨ inB coins 0 500 = false := by cases inB coins 0 500 <;> simp
  rcases hc1 with c1 | c1
  · by_cases hn : n ≤ 6
    · have hn' : (n : Int) ≤ 6 := by omega
      go_enter_defers Tryz.func11, Tryz.ntmps11
      go_wp2_with (first | (go_at_call 39; refine (within_any _ _ _ _).mono ?_; rintro e w' ⟨rfl, rfl⟩) | (go_at_call 38; ((with_reducible refine (ask_true _ _).mono ?_); rintro e w' ⟨rfl, rfl⟩)))
      obtain ⟨W, hW⟩ : ∃ W, W = (w.alloc (.cells #[.slice oa n cap] 24)).alloc (.cells #[.int .i64 0] 33) := ⟨_, rfl⟩
      rw [← hW] at I0 ⊢
      clear hW r2
      go_loopw [22] (SR1 w oa n cap sh) (fun i _ => n - (intOf i).toNat)
      case atStart => exact ⟨0, Nat.zero_le _, rfl, fun j hj => by omega, I0.out⟩
      case round =>
        clear I0
        obtain ⟨k, hk, rfl, hok, hinv⟩ := hrel
        have HO := Lib.hid hok
        have HI := Lib.hid hinv
        clear hok hinv
        by_cases hlt : k < n
        · have hi := fun w => run_indexAt_row (w := w) (cap := cap) Tryz.underlying24 size3 (HL.out.plain (by omega)) hlt
          have hc := HI.out.l.at hlt
          simp only [Nat.mul_one] at hi
          have hc2 : inB (sh k) 0 20 = true ∨ inB (sh k) 0 20 = false := by cases inB (sh k) 0 20 <;> simp
          rcases hc2 with c2 | c2
          · go_wp2_with (first | (go_at_call 39; refine (within_any _ _ _ _).mono ?_; rintro e w' ⟨rfl, rfl⟩) | (go_at_call 38; ((with_reducible refine (ask_true _ _).mono ?_); rintro e w' ⟨rfl, rfl⟩)))
            refine ⟨⟨k + 1, hlt, by go_num, fun j hj => ?_, HI.out⟩, by simp [intOf]; omega⟩
            by_cases e : j = k
            · rw [e]; exact c2
            · exact HO.out j (by omega)
          · have hbad := Lib.hid (show shareOk coins n sh = false from by
              have : (List.range n).all (fun i => inB (sh i) 0 20) = false := all_no hlt c2
              simp [shareOk, this])
            have r2 := cellAt HI.out.r1 0
            simp only [List.getElem?_toArray, List.getElem?_cons_zero] at r2
            go_wp2_with (first | (go_at_call 39; refine (within_any _ _ _ _).mono ?_; rintro e w' ⟨rfl, rfl⟩) | (go_at_call 38; ((with_reducible refine (ask_false _ _).mono ?_); rintro e w' ⟨rfl, rfl⟩)))
            refine leaves_cons (f := 33) (args := #[bp (w.heap.size + 1)]) (by simp) (by simp [go_sem]) ?_
            refine (answer_panicking _ 0 1 [] _ HI.out.r1).mono ?_
            rintro e u' w'' ⟨rfl, rfl, rfl⟩
            simp [Leaves, settle, results, Tryz.results11, go_sem, r2]
            exact ⟨HI.out.bel.setCell (by dsimp only; omega) _, .inr ⟨hbad.out, rfl⟩⟩
        · obtain rfl : k = n := by omega
          have b0 := cellAt HI.out.bx 0
          simp only [List.getElem?_toArray, List.getElem?_cons_zero] at b0
          go_wp2_with fail
          obtain ⟨i0, hi0, hz0, hz1, hz2⟩ := info_parts info3
          obtain ⟨W3, hrun, hown, hgr⟩ := run_make_full (P := Tryz.prog) wr w.heap.size 24 3 i0 _ 1 Tryz.underlying24 hi0 hz0 hz1 .i64 .i64 k (by rw [hz2]; omega) (by unfold maxLen; omega) HI.out.bel.size
          rw [hrun]
          simp only [Result.andThen, Oper.upon_value]
          have HG : Hid (BoxAt W3 wr.heap.size (exVals (fun _ => 0) 0 k).toArray 3) := own_zero hown
          have I3 := Lib.hid (HI.out.grow (Below.grown (Below.refl _ _) hgr (Nat.le_refl _) (fun _ e => by cases e)))
          have hg0 := lt_of_heap HI.out.r1
          clear b0 hrun hown hgr hi0 hz0 hz1 hz2
          have b0 := cellAt I3.out.bx 0
          have l0 := lt_of_heap I3.out.bx
          simp only [List.getElem?_toArray, List.getElem?_cons_zero] at b0
          obtain ⟨gb, hgb⟩ : ∃ gb, gb = wr.heap.size := ⟨_, rfl⟩
          rw [← hgb] at HG hg0 ⊢
          clear hgb
          go_wp2_with fail
          generalize hW4 : World.alloc _ _ = W4
          obtain ⟨q0, hz, hB⟩ := blocks1 hW4
          have hgl := lt_of_heap HG.out
          obtain ⟨ob, hob⟩ : ∃ ob, ob = W3.heap.size := ⟨_, rfl⟩
          rw [← hob] at q0 hz hgl ⊢
          have HG2 : BoxAt W3 gb (rowVals (fun _ => (0 : Int)) k).toArray 3 := by have h := HG.out; rw [exVals_zero] at h; rw [show rowVals (fun _ => (0 : Int)) k = List.replicate k (.int .i64 0) from List.ext_getElem (by simp [rowVals]) (by intros; simp [rowVals])]; exact h
          have I4 := Lib.hid (show S2 w oa k cap gb ob sh (fun _ => 0) W4 from ⟨I3.out.grow hB, HG2.grow hB, q0, hg0, hgl⟩)
          have hz4 := Lib.hid (show ob < W4.heap.size by omega)
          clear hW4 q0 hz hB hgl hob HG2 b0 l0
          go_loopw [9, 35] (SR2 w oa k cap gb ob sh) (fun _ i _ => k - (intOf i).toNat)
          case atStart => exact ⟨0, Nat.zero_le _, rfl, World.ownsRow_nil _ _ _ _, I4.out, hz4.out⟩
          case round =>
            clear I4 hz4
            obtain ⟨j, hj, rfl, hown, hinv, hlo⟩ := hrel
            have HR := Lib.hid hown
            have HI := Lib.hid hinv
            clear hown hinv
            by_cases hlt : j < k
            · have hi := fun w => run_indexAt_row (w := w) (cap := cap) Tryz.underlying24 size3 (HL.out.plain (by omega)) hlt
              have hc := HI.out.s.l.at hlt
              simp only [Nat.mul_one] at hi
              by_cases hp : 0 < sh j
              · obtain ⟨i0, hi0, hz0, hz1, hz2⟩ := info_parts info3
                have hml : (menL sh j).length ≤ j := by have := List.length_filter_le (fun i => decide (0 < sh i)) (List.range j); simpa [menL] using this
                go_wp2_with (at_builtin; refine wpList_append_own _ rfl _ _ 24 rfl (ob + 1) 3 i0 (.int .i64 0) 1 8 Tryz.underlying24 hi0 hz0 hz1 hz2 rfl (by decide) _ _ _ rfl (HR.out.alloc _) ⟨wr.heap.size, 0, none⟩ 1 1 [.int .i64 j] rfl rfl ?c1 ?c2 ?c3 ?c4 ?c5 ?_)
                case c1 =>
                  intro j1 u hj1
                  match j1, hj1 with
                  | 0, hj1 => simp at hj1; subst hj1; go_simp
                  | j1 + 1, hj1 => simp at hj1
                case c2 => intro u hu; simp at hu; subst hu; rfl
                case c3 => unfold maxLen; omega
                case c4 => omega
                case c5 => simp; omega
                intro v' w4 hown' hgrow _
                have HO3 := Lib.hid hown'
                have hb3 := Lib.hid (((Below.refl (ob + 1) wr).alloc (by omega) (.cells #[.int .i64 j] 3)).grown hgrow (by simp; omega) (fun q e => (HR.out.lt q e).1))
                have hz3 := hgrow.size
                clear hown' hgrow hi0 hz0 hz1 hz2 hi hc
                have hyes := Lib.hid (show menL sh (j + 1) = menL sh j ++ [j] from by rw [menL_succ, if_pos hp])
                go_wp2_with fail
                refine ⟨⟨j + 1, hlt, by go_num, ?_, HI.out.below HL.out hb3.out, by simp at hz3; omega⟩, by simp [intOf]; omega⟩
                unfold menV
                rw [hyes.out, List.map_append, List.length_append]
                exact HO3.out
              · have hno := Lib.hid (show menL sh (j + 1) = menL sh j from by rw [menL_succ, if_neg hp])
                go_wp2_with fail
                refine ⟨⟨j + 1, hlt, by go_num, ?_, HI.out, hlo⟩, by simp [intOf]; omega⟩
                unfold menV
                rw [hno.out]
                exact HR.out
            · obtain rfl : j = k := by omega
              obtain ⟨ma, mc, rfl, hmen, hmb⟩ := row_ints (f := fun i => (menF sh j i : Int)) (n := (menL sh j).length) (v := u9) (w := wr) (base := ob + 1) (by rw [← menV_row]; exact HR.out) (by have := List.length_filter_le (fun i => decide (0 < sh i)) (List.range j); unfold maxLen; simp [menL] at this ⊢; omega)
              have HM := Lib.hid hmen
              have HMB := Lib.hid hmb
              clear hmen hmb
              by_cases hm0 : (menL sh j).length = 0
              · have hm0' : (((menL sh j).length : Int) == 0) = true := by simp [hm0]
                have o0 := cellAt HI.out.o 0
                have r2 := cellAt HI.out.s.r1 0
                have f2 := freeAt HI.out.s.r1 0
                simp only [List.getElem?_toArray, List.getElem?_cons_zero] at r2 o0
                have hlo2 := HI.out.lo
                have hgood := Lib.hid (show shareOk coins j sh = true from by
                  simp only [shareOk, c1, Bool.true_and, Bool.and_eq_true, decide_eq_true_eq, List.all_eq_true]
                  exact ⟨hn, fun i hi => HO.out i (by simpa using hi)⟩)
                have hF := Lib.hid (show rowVals (shareF sh j coins.toNat) j = rowVals (fun _ => (0 : Int)) j from by simp [rowVals, shareF, hm0])
                clear hm0
                go_wp2_with fail
                refine leaves_cons (f := 33) (args := #[bp (w.heap.size + 1)]) (by simp) (by simp [go_sem]) ?_
                refine (answer_idle _ _).mono ?_
                rintro e u' w'' ⟨rfl, rfl, rfl⟩
                simp [Leaves, settle, results, Tryz.results11, go_sem, r2]
                refine ⟨HI.out.s.bel.setCell (by dsimp only; omega) _, .inl ⟨hgood.out, gb, by omega, rfl, ?_⟩⟩
                rw [hF.out]
                exact HI.out.g.set _ _ (by dsimp only; omega)
              · have hm0' : (((menL sh j).length : Int) == 0) = false := beq_eq_false_iff_ne.2 (by omega)
                obtain ⟨cn, rfl⟩ : ∃ cn : Nat, coins = cn := ⟨coins.toNat, by have := inB_iff.1 c1; omega⟩
                go_wp2_with fail
                go_loopw [52] (SR3 w oa j cap gb ob sh ma mc cn) (fun i _ => cn - (intOf i).toNat)
                case atStart => exact ⟨0, Nat.zero_le _, rfl, HI.out, HM.out⟩
                case round =>
                  clear HI HM HR
                  obtain ⟨c, hc, rfl, hinv, hmen⟩ := hrel
                  have HI := Lib.hid hinv
                  have HM := Lib.hid hmen
                  clear hinv hmen
                  by_cases hlt : c < cn
                  · have hfk := fun i => ownK_bd sh j c i
                    have hc5 : cn ≤ 500 := by have := inB_iff.1 c1; omega
                    have HD := HI.out.grow (Below.drew (Below.refl _ _))
                    have HI2 := Lib.hid HD
                    have HM2 := Lib.hid (HM.out.grow (Below.drew (Below.refl _ _)))
                    have hfl : ∀ i, i < (menL sh j).length → menF sh j i < j := fun i hi => menF_lt hi
                    have hml : (menL sh j).length ≤ j := by have := List.length_filter_le (fun i => decide (0 < sh i)) (List.range j); simpa [menL] using this
                    have C := Lib.hid (minFunc_any w.heap.size ob oa (some ⟨gb, 0, none⟩) ma j cap j (menL sh j).length mc sh (ownK sh j c) (menF sh j) wr.drew (by omega) (by omega) hfl (fun i hi => inB_iff.1 (HO.out i hi)) (fun i _ => ⟨(hfk i).1, by have := (hfk i).2; omega⟩) HI2.out.s.bx HI2.out.o HI2.out.s.l (ints_box HI2.out.g (by unfold maxLen; omega)) HM2.out hn)
                    obtain ⟨r, hr⟩ : ∃ r, r = minM sh (ownK sh j c) (menF sh j) ((menL sh j).length - 1) := ⟨_, rfl⟩
                    have hrj : r < j := by rw [hr]; exact minM_lt hfl _ (by omega)
                    rw [← hr] at C
                    have hu : ownK sh j (c + 1) = fun i => if i = r then ownK sh j c r + 1 else ownK sh j c i := by
                      funext i
                      simp only [ownK]
                      rw [← hr]
                      by_cases e : i = r
                      · simp [e]
                      · simp [e]
                    have HU := Lib.hid hu
                    have e1 : IntKind.i64.wrap (ownK sh j c r + 1) = ownK sh j c r + 1 := IntWalk.i64_in _ (by have := hfk r; omega)
                    have hix := fun w => run_indexAt_row (w := w) (oa := some ⟨gb, 0, none⟩) (cap := j) Tryz.underlying24 size3 rfl hrj
                    simp only [blk, ofs, Nat.zero_add, Nat.mul_one] at hix
                    have hlo3 := HI.out.lo
                    have hmi3 := HI.out.mid
                    clear hfk hfl hr hu HD hml
                    go_wp2_with fail
                    refine wp_region_noPanic ?_
                    refine wp_region_held_drew (S := (fun w' => w'.cell? ⟨ob, 0, none⟩ = some (.slice (some ⟨gb, 0, none⟩) j j) ∧ BoxAt w' ob #[.slice (some ⟨gb, 0, none⟩) j j] 24)) (by kernel_rfl) ⟨cellAt HI2.out.o 0, HI2.out.o⟩ (fun hHeld => ?_)
                    refine wpAnyH_take (i := 0) (oi := { dst := some 54, op := Op.load 24 (Operand.tmp 8), type := 24, pos := "wage.go:333", after := #[], guard := none }) (v := ?_) rfl (by kernel_rfl) (by kernel_rfl) (by kernel_rfl) (fun _ _ _ h => h) (Or.inl ⟨by rfl, ?_⟩) (by assumption) ?_
                    rotate_left
                    · (intro w9 hSw; (try dsimp only at hSw); (go_split_ands; go_simp); (try with_reducible rfl))
                    try simp only [Act.put, List.setIfInBounds_toArray, List.set_cons_zero, List.set_cons_succ]
                    refine wpAnyH_take (i := 1) (oi := { dst := some 55, op := Op.move (Operand.tmp 9), type := 24, pos := "wage.go:333", after := #[], guard := none }) (v := ?_) rfl (by kernel_rfl) (by kernel_rfl) (by kernel_rfl) (fun _ _ _ h => h) (Or.inl ⟨by rfl, ?_⟩) (by assumption) ?_
                    rotate_left
                    · (intro w9 hSw; (try dsimp only at hSw); (go_split_ands; go_simp); (try with_reducible rfl))
                    try simp only [Act.put, List.setIfInBounds_toArray, List.set_cons_zero, List.set_cons_succ]
                    refine wpAnyH_take (i := 2) (oi := { dst := some 56, op := Op.makeFunc (Fn.func 41) #[] #[Operand.tmp 3, Operand.tmp 8], type := 103, pos := "wage.go:333", after := #[], guard := none }) (v := ?_) rfl (by kernel_rfl) (by kernel_rfl) (by kernel_rfl) (fun _ _ _ h => h) (Or.inl ⟨by rfl, ?_⟩) (by assumption) ?_
                    rotate_left
                    · (intro w9 hSw; (try dsimp only at hSw); (go_split_ands; go_simp); (try with_reducible rfl))
                    try simp only [Act.put, List.setIfInBounds_toArray, List.set_cons_zero, List.set_cons_succ]
                    refine wpAnyH_ready (rs := [3]) (by kernel_rfl) (by simp) ?_
                    refine AllReadyH.cons (o := { dst := some 57, op := Op.call { callee := Callee.value (Operand.func 40), args := #[Operand.tmp 55, Operand.tmp 56], argTypes := #[24, 103] }, type := 3, pos := "wage.go:333", after := #[{ on := 1, ground := Ground.data }, { on := 2, ground := Ground.data }], guard := none }) rfl (fun K hK => ?_) AllReadyH.nil
                    go_simp
                    go_at_call 40; refine C.out.mono ?_; rintro e w5 ⟨rfl, hb5⟩; have HJ := Lib.hid (HI2.out.grow hb5); have HMJ := Lib.hid (HM2.out.grow hb5); clear hb5
                    go_wp2_with fail
                    refine hK.out _ _ ?_ (fun hHeld => ?_)
                    · exact ⟨cellAt HJ.out.o 0, HJ.out.o⟩
                    clear hK K
                    try simp only [Act.put, List.setIfInBounds_toArray, List.set_cons_zero, List.set_cons_succ]
                    have gc := cellAt HJ.out.g r
                    have gf := freeAt HJ.out.g r
                    rw [List.getElem?_toArray, rowVals_get _ _ _ hrj] at gc
                    refine wpAnyH_take (i := 4) (oi := { dst := some 58, op := Op.indexAddr 24 (Operand.tmp 54) (Operand.tmp 57), type := 0, pos := "wage.go:333", after := #[{ on := 0, ground := Ground.data }, { on := 3, ground := Ground.data }], guard := none }) (v := ?_) rfl (by kernel_rfl) (by kernel_rfl) (by kernel_rfl) (fun _ _ _ h => h) (Or.inl ⟨by rfl, ?_⟩) (by assumption) ?_
                    rotate_left
                    · (intro w9 hSw; (try dsimp only at hSw); (go_split_ands; go_simp); (try with_reducible rfl))
                    try simp only [Act.put, List.setIfInBounds_toArray, List.set_cons_zero, List.set_cons_succ]
                    refine wpAnyH_ready (rs := [5]) (by kernel_rfl) (by simp) ?_
                    refine AllReadyH.cons (o := { dst := some 59, op := Op.load 3 (Operand.tmp 58), type := 3, pos := "wage.go:333", after := #[{ on := 4, ground := Ground.data }], guard := none }) rfl (fun K hK => ?_) AllReadyH.nil
                    go_simp
                    skip
                    go_wp2_with fail
                    refine hK.out _ _ ?_ (fun hHeld => ?_)
                    · assumption
                    clear hK K
                    try simp only [Act.put, List.setIfInBounds_toArray, List.set_cons_zero, List.set_cons_succ]
                    refine wpAnyH_take (i := 6) (oi := { dst := some 60, op := Op.binOp BinOp.add 3 (Operand.tmp 59) (Operand.const (Value.int IntKind.i64 1)) 3, type := 3, pos := "wage.go:333", after := #[{ on := 5, ground := Ground.data }], guard := none }) (v := ?_) rfl (by kernel_rfl) (by kernel_rfl) (by kernel_rfl) (fun _ _ _ h => h) (Or.inl ⟨by rfl, ?_⟩) (by assumption) ?_
                    rotate_left
                    · (intro w9 hSw; (try dsimp only at hSw); (go_split_ands; go_simp); (try with_reducible rfl))
                    try simp only [Act.put, List.setIfInBounds_toArray, List.set_cons_zero, List.set_cons_succ]
                    refine wpAnyH_take (i := 7) (oi := { dst := some 61, op := Op.indexAddr 24 (Operand.tmp 54) (Operand.tmp 57), type := 0, pos := "wage.go:333", after := #[{ on := 0, ground := Ground.data }, { on := 3, ground := Ground.data }, { on := 0, ground := Ground.phase }, { on := 1, ground := Ground.phase }, { on := 2, ground := Ground.phase }, { on := 3, ground := Ground.phase }, { on := 4, ground := Ground.phase }, { on := 5, ground := Ground.phase }, { on := 6, ground := Ground.phase }], guard := none }) (v := ?_) rfl (by kernel_rfl) (by kernel_rfl) (by kernel_rfl) (fun _ _ _ h => h) (Or.inl ⟨by rfl, ?_⟩) (by assumption) ?_
                    rotate_left
                    · (intro w9 hSw; (try dsimp only at hSw); (go_split_ands; go_simp); (try with_reducible rfl))
                    try simp only [Act.put, List.setIfInBounds_toArray, List.set_cons_zero, List.set_cons_succ]
                    refine wpAnyH_ready (rs := [8]) (by kernel_rfl) (by simp) ?_
                    refine AllReadyH.cons (o := { dst := none, op := Op.store 3 (Operand.tmp 61) (Operand.tmp 60), type := 0, pos := "wage.go:333", after := #[{ on := 7, ground := Ground.data }, { on := 6, ground := Ground.data }, { on := 3, ground := Ground.chain }, { on := 0, ground := Ground.phase }, { on := 1, ground := Ground.phase }, { on := 2, ground := Ground.phase }, { on := 3, ground := Ground.phase }, { on := 4, ground := Ground.phase }, { on := 5, ground := Ground.phase }, { on := 6, ground := Ground.phase }], guard := none }) rfl (fun K hK => ?_) AllReadyH.nil
                    go_simp
                    skip
                    go_wp2_with fail
                    refine hK.out _ _ ?_ (fun hHeld => ?_)
                    · exact ⟨cellAt (HJ.out.o.set _ _ (by dsimp only; omega)) 0, HJ.out.o.set _ _ (by dsimp only; omega)⟩
                    clear hK K
                    try simp only [Act.put, List.setIfInBounds_toArray, List.set_cons_zero, List.set_cons_succ]
                    refine wpAnyH_done (by kernel_rfl) ?_ _
                    refine NoPanic.normal ?_
                    clear hHeld
                    clear gc gf
                    go_wp2_with fail
                    refine ⟨⟨c + 1, hlt, by go_num, ?_, ?_⟩, by simp [intOf]; omega⟩
                    · rw [HU.out]; exact HJ.out.store HL.out r _
                    · exact IntsAt.set HMJ.out _ _ (fun hn => by have := HMB.out hn; dsimp only; omega)
                  · obtain rfl : c = cn := by omega
                    have o0 := cellAt HI.out.o 0
                    have r2 := cellAt HI.out.s.r1 0
                    have f2 := freeAt HI.out.s.r1 0
                    simp only [List.getElem?_toArray, List.getElem?_cons_zero] at r2 o0
                    have hlo2 := HI.out.lo
                    have hgood := Lib.hid (show shareOk (c : Int) j sh = true from by
                      simp only [shareOk, c1, Bool.true_and, Bool.and_eq_true, decide_eq_true_eq, List.all_eq_true]
                      exact ⟨hn, fun i hi => HO.out i (by simpa using hi)⟩)
                    have hF := Lib.hid (show rowVals (shareF sh j (c : Int).toNat) j = rowVals (ownK sh j c) j from by simp [rowVals, shareF, hm0])
                    clear hm0
                    go_wp2_with fail
                    refine leaves_cons (f := 33) (args := #[bp (w.heap.size + 1)]) (by simp) (by simp [go_sem]) ?_
                    refine (answer_idle _ _).mono ?_
                    rintro e u' w'' ⟨rfl, rfl, rfl⟩
                    simp [Leaves, settle, results, Tryz.results11, go_sem, r2]
                    refine ⟨HI.out.s.bel.setCell (by dsimp only; omega) _, .inl ⟨hgood.out, gb, by omega, rfl, ?_⟩⟩
                    rw [hF.out]
                    exact HI.out.g.set _ _ (by dsimp only; omega)
    · have hn' : decide ((n : Int) ≤ 6) = false := by simp; omega
      have hbad := Lib.hid (show shareOk coins n sh = false from by simp [shareOk, hn])
      go_enter_defers Tryz.func11, Tryz.ntmps11
      go_wp2_with (first | (go_at_call 39; refine (within_any _ _ _ _).mono ?_; rintro e w' ⟨rfl, rfl⟩) | (go_at_call 38; ((with_reducible refine (ask_false _ _).mono ?_); rintro e w' ⟨rfl, rfl⟩)))
      refine leaves_cons (f := 33) (args := #[bp (w.heap.size + 1)]) (by simp) (by simp [go_sem]) ?_
      refine (answer_panicking _ 0 1 [] _ I0.out.r1).mono ?_
      rintro e u' w'' ⟨rfl, rfl, rfl⟩
      simp [Leaves, settle, results, Tryz.results11, go_sem]
      exact ⟨((Below.refl _ _).alloc (Nat.le_refl _) _).alloc (by simp) _, .inr ⟨hbad.out, rfl⟩⟩
  · have hbad := Lib.hid (show shareOk coins n sh = false from by simp [shareOk, c1])
    go_enter_defers Tryz.func11, Tryz.ntmps11
    go_wp2_with (first | (go_at_call 39; refine (within_any _ _ _ _).mono ?_; rintro e w' ⟨rfl, rfl⟩) | (go_at_call 38; ((with_reducible refine (ask_false _ _).mono ?_); rintro e w' ⟨rfl, rfl⟩)))
    refine leaves_cons (f := 33) (args := #[bp (w.heap.size + 1)]) (by simp) (by simp [go_sem]) ?_
    refine (answer_panicking _ 0 1 [] _ I0.out.r1).mono ?_
    rintro e u' w'' ⟨rfl, rfl, rfl⟩
    simp [Leaves, settle, results, Tryz.results11, go_sem]
    exact ⟨((Below.refl _ _).alloc (Nat.le_refl _) _).alloc (by simp) _, .inr ⟨hbad.out, rfl⟩⟩
end Go.Proofs.YtikeihnhkiipgaaGreat.Wa
