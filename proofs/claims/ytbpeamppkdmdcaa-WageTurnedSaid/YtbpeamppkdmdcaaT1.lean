/-
  Walks: what tickets truly are, by remainders.
-/
import Derived.Test.YtbpeamppkdmdcaaE1
import Derived.RangeFuncBox
namespace Go.Proofs.Ytbpeamppkdmdcaa
open Go.RowKit

/-- A list of 16-bit numbers. -/
def U16At (w : World) (oa : Option Addr) (n : Nat) (f : Nat → Int) : Prop := Row w oa n 1 (fun i _ => .int .u16 (f i))
theorem U16At.grow {w w' : World} {oa : Option Addr} {n : Nat} {f : Nat → Int} (h : U16At w oa n f) (hb : Below w.heap.size w w') : U16At w' oa n f := Row.grow h hb
theorem U16At.at {w : World} {oa : Option Addr} {n : Nat} {f : Nat → Int} (h : U16At w oa n f) {k : Nat} (hk : k < n) : w.cell? ⟨blk oa, ofs oa + k, none⟩ = some (.int .u16 (f k)) := by
  have := h.cells k hk 0 (by omega)
  simpa using this
theorem size132 : (Try.prog.info? 132).map (·.size) = some 1 := by kernel_rfl

/-- One box is written, another one is new; all else is as it was. -/
theorem grownBy_set {w : World} {p : Nat} (v : Value) (o : Obj) : w.grownBy ((w.setCell ⟨p, 0, none⟩ v).alloc o) (some p) :=
  have h := grownBy_setCell' w p v
  have g := (Below.refl _ (w.setCell ⟨p, 0, none⟩ v)).alloc (Nat.le_refl _) o
  ⟨g.os.trans h.os, g.tape.trans h.tape, g.output.trans h.output, Nat.le_trans h.size g.size, fun k hk hn => (g.block k (Nat.lt_of_lt_of_le hk h.size)).trans (h.block k hk hn)⟩
theorem grownBy_drew {w w1 : World} {row : Option Nat} (h : w.grownBy w1 row) : w.grownBy w1.drew row := ⟨h.os, h.tape, h.output, h.size, h.block⟩

set_option maxHeartbeats 4000000 in
theorem draw_any (lo hi : Int) (at0 : Nat) (oa : Option Addr) (n cap p q : Nat) (bys : Nat → Int) (w : World) (hp : BoxAt w p #[.int .i64 at0] 3) (hq : BoxAt w q #[.slice oa n cap] 47) (hpq : p ≠ q) (hb : U16At w oa n bys) (hbp : 0 < n → blk oa ≠ p) (hbd : ∀ i, i < n → 0 ≤ bys i ∧ bys i ≤ 65535) (h0 : 0 ≤ lo) (h1 : lo ≤ hi) (h2 : hi ≤ 1000) (hat : at0 ≤ 1000) :
    Calls Try.prog 89 #[.agg #[.int .i64 lo, .int .i64 hi], bp p, bp q] w
      fun e w' => ∃ v, lo ≤ v ∧ v ≤ hi ∧ e = .returned (.int .i64 v) ∧ w.grownBy w' (some p) ∧ BoxAt w' p #[.int .i64 ((at0 + 1 : Nat) : Int)] 3 := by
  have hpl := lt_of_heap hp
  have x0 := cellAt hp 0
  have xf := freeAt hp 0
  simp only [List.getElem?_toArray, List.getElem?_cons_zero] at x0
  obtain ⟨W, hW⟩ : ∃ W, W = (w.setCell ⟨p, 0, none⟩ (.int .i64 ((at0 : Int) + 1))).alloc (.cells #[.int .i64 lo, .int .i64 hi] 29) := ⟨_, rfl⟩
  have hsz : (w.setCell ⟨p, 0, none⟩ (.int .i64 ((at0 : Int) + 1))).heap.size = w.heap.size := by simp [World.setCell]
  have hg : w.grownBy W (some p) := hW ▸ grownBy_set _ _
  have bp1 : BoxAt W p #[.int .i64 ((at0 : Int) + 1)] 3 := by
    rw [hW]
    exact BoxAt.grow (one_setCell hp) ((Below.refl _ _).alloc (Nat.le_refl _) _)
  have bq1 : BoxAt W q #[.slice oa n cap] 47 := hq.kept hg (by simpa using fun h => hpq h.symm)
  have bs1 : BoxAt W w.heap.size #[.int .i64 lo, .int .i64 hi] 29 := by
    rw [hW, ← hsz]
    exact heap_alloc_new _ _
  have hb1 : 0 < n → ∀ i, i < n → W.cell? ⟨blk oa, ofs oa + i, none⟩ = some (.int .u16 (bys i)) := fun hn i hi => hg.cell (hb.at hi) (by simpa using hbp hn)
  have x1 := cellAt bp1 0
  have x2 := cellAt bq1 0
  have x3 := cellAt bs1 0
  have x4 := cellAt bs1 1
  simp only [List.getElem?_toArray, List.getElem?_cons_zero, List.getElem?_cons_succ] at x1 x2 x3 x4
  have HG := Lib.hid hg
  have HP1 := Lib.hid bp1
  have HB1 := Lib.hid hb1
  have HPL := Lib.hid hb.plain
  rw [hW] at x1 x2 x3 x4
  clear hp hq hg bp1 bq1 bs1 hb1 hb
  by_cases hn : n = 0
  · subst hn
    go_enter Try.func89, Try.ntmps89
    go_wp2_with fail
    rw [← hW]
    exact bodyPost_ret (v := .int .i64 lo) (by simp [results, Try.results89, go_sem]) rfl ⟨lo, Int.le_refl _, h1, rfl, HG.out, HP1.out⟩
  · have hn0 : ((n : Int) == 0) = false := by simp; omega
    go_enter Try.func89, Try.ntmps89
    go_wp2_with fail
    rw [← hW] at x1 x2 x3 x4 ⊢
    obtain ⟨r, hr, hrl⟩ : ∃ r : Nat, Int.tmod ((at0 : Int) + 1) n = r ∧ r < n := ⟨(at0 + 1) % n, by rw [Int.tmod_eq_emod_of_nonneg (by omega)]; exact_mod_cast rfl, Nat.mod_lt _ (by omega)⟩
    have x5 := HB1.out (by omega) r hrl
    obtain ⟨y0, y1⟩ := hbd r hrl
    have hi' := fun w => run_indexAt_row (w := w) (cap := cap) Try.underlying47 size132 (HPL.out (by omega)) hrl
    obtain ⟨m, hm, hm0, hm1⟩ : ∃ m : Int, Int.tmod (bys r + 41 * ((at0 : Int) + 1)) (hi - lo + 1) = m ∧ 0 ≤ m ∧ m ≤ hi - lo := ⟨_, rfl, by rw [Int.tmod_eq_emod_of_nonneg (by omega)]; exact Int.emod_nonneg _ (by omega), by rw [Int.tmod_eq_emod_of_nonneg (by omega)]; have := Int.emod_lt_of_pos (bys r + 41 * ((at0 : Int) + 1)) (show 0 < hi - lo + 1 by omega); omega⟩
    have e1 : IntKind.i64.wrap (hi - lo) = hi - lo := IntWalk.i64_in _ (by omega)
    have e2 : IntKind.i64.wrap (hi - lo + 1) = hi - lo + 1 := IntWalk.i64_in _ (by omega)
    have e3 : IntKind.i64.wrap (bys r) = bys r := IntWalk.i64_in _ (by omega)
    have e4 : IntKind.i64.wrap (41 * ((at0 : Int) + 1)) = 41 * ((at0 : Int) + 1) := IntWalk.i64_in _ (by omega)
    have e5 : IntKind.i64.wrap (bys r + 41 * ((at0 : Int) + 1)) = bys r + 41 * ((at0 : Int) + 1) := IntWalk.i64_in _ (by omega)
    have e6 : IntKind.i64.wrap (lo + m) = lo + m := IntWalk.i64_in _ (by omega)
    have e7 : ¬ hi - lo + 1 = 0 := by omega
    simp only [Nat.mul_one] at hi'
    refine wp_region_held_drew (S := (fun w' => w'.cell? ⟨p, 0, none⟩ = some (.int .i64 ((at0 : Int) + 1)) ∧ w'.cell? ⟨q, 0, none⟩ = some (.slice oa n cap) ∧ w'.cell? ⟨w.heap.size, 0, none⟩ = some (.int .i64 lo) ∧ w'.cell? ⟨w.heap.size, 1, none⟩ = some (.int .i64 hi) ∧ w'.cell? ⟨blk oa, ofs oa + r, none⟩ = some (.int .u16 (bys r)))) (by kernel_rfl) (by exact ⟨x1, x2, x3, x4, x5⟩) (fun hHeld => ?_)
    refine wpAnyH_take (i := 0) (oi := { dst := some 12, op := Op.fieldAddr 29 (Operand.tmp 3) 0, type := 0, pos := "outright.go:20", after := #[], guard := none }) (v := ?_) rfl (by kernel_rfl) (by kernel_rfl) (by kernel_rfl) (fun _ _ _ h => h) (Or.inl ⟨by rfl, ?_⟩) (by assumption) ?_
    rotate_left
    · (intro w9 hSw; (try dsimp only at hSw); (go_split_ands; go_simp); (try with_reducible rfl))
    try simp only [Act.put, List.setIfInBounds_toArray, List.set_cons_zero, List.set_cons_succ]
    refine wpAnyH_take (i := 1) (oi := { dst := some 13, op := Op.load 3 (Operand.tmp 12), type := 3, pos := "outright.go:20", after := #[{ on := 0, ground := Ground.data }], guard := none }) (v := ?_) rfl (by kernel_rfl) (by kernel_rfl) (by kernel_rfl) (fun _ _ _ h => h) (Or.inl ⟨by rfl, ?_⟩) (by assumption) ?_
    rotate_left
    · (intro w9 hSw; (try dsimp only at hSw); (go_split_ands; go_simp); (try with_reducible rfl))
    try simp only [Act.put, List.setIfInBounds_toArray, List.set_cons_zero, List.set_cons_succ]
    refine wpAnyH_take (i := 2) (oi := { dst := some 14, op := Op.load 47 (Operand.tmp 2), type := 47, pos := "outright.go:20", after := #[], guard := none }) (v := ?_) rfl (by kernel_rfl) (by kernel_rfl) (by kernel_rfl) (fun _ _ _ h => h) (Or.inl ⟨by rfl, ?_⟩) (by assumption) ?_
    rotate_left
    · (intro w9 hSw; (try dsimp only at hSw); (go_split_ands; go_simp); (try with_reducible rfl))
    try simp only [Act.put, List.setIfInBounds_toArray, List.set_cons_zero, List.set_cons_succ]
    refine wpAnyH_take (i := 3) (oi := { dst := some 15, op := Op.load 3 (Operand.tmp 1), type := 3, pos := "outright.go:20", after := #[], guard := none }) (v := ?_) rfl (by kernel_rfl) (by kernel_rfl) (by kernel_rfl) (fun _ _ _ h => h) (Or.inl ⟨by rfl, ?_⟩) (by assumption) ?_
    rotate_left
    · (intro w9 hSw; (try dsimp only at hSw); (go_split_ands; go_simp); (try with_reducible rfl))
    try simp only [Act.put, List.setIfInBounds_toArray, List.set_cons_zero, List.set_cons_succ]
    refine wpAnyH_take (i := 4) (oi := { dst := some 16, op := Op.load 47 (Operand.tmp 2), type := 47, pos := "outright.go:20", after := #[], guard := none }) (v := ?_) rfl (by kernel_rfl) (by kernel_rfl) (by kernel_rfl) (fun _ _ _ h => h) (Or.inl ⟨by rfl, ?_⟩) (by assumption) ?_
    rotate_left
    · (intro w9 hSw; (try dsimp only at hSw); (go_split_ands; go_simp); (try with_reducible rfl))
    try simp only [Act.put, List.setIfInBounds_toArray, List.set_cons_zero, List.set_cons_succ]
    refine wpAnyH_take (i := 5) (oi := { dst := some 17, op := Op.call { callee := Callee.builtin Builtin.len, args := #[Operand.tmp 16], argTypes := #[47] }, type := 3, pos := "outright.go:20", after := #[{ on := 4, ground := Ground.data }], guard := none }) (v := ?_) rfl (by kernel_rfl) (by kernel_rfl) (by kernel_rfl) (fun _ _ _ h => h) (Or.inl ⟨by rfl, ?_⟩) (by assumption) ?_
    rotate_left
    · (intro w9 hSw; (try dsimp only at hSw); (go_split_ands; go_simp); (try with_reducible rfl))
    try simp only [Act.put, List.setIfInBounds_toArray, List.set_cons_zero, List.set_cons_succ]
    refine wpAnyH_take (i := 6) (oi := { dst := some 18, op := Op.binOp BinOp.rem 3 (Operand.tmp 15) (Operand.tmp 17) 3, type := 3, pos := "outright.go:20", after := #[{ on := 3, ground := Ground.data }, { on := 5, ground := Ground.data }], guard := none }) (v := ?_) rfl (by kernel_rfl) (by kernel_rfl) (by kernel_rfl) (fun _ _ _ h => h) (Or.inl ⟨by rfl, ?_⟩) (by assumption) ?_
    rotate_left
    · (intro w9 hSw; (try dsimp only at hSw); (go_split_ands; go_simp); (try with_reducible rfl))
    try simp only [Act.put, List.setIfInBounds_toArray, List.set_cons_zero, List.set_cons_succ]
    refine wpAnyH_take (i := 7) (oi := { dst := some 19, op := Op.indexAddr 47 (Operand.tmp 14) (Operand.tmp 18), type := 0, pos := "outright.go:20", after := #[{ on := 2, ground := Ground.data }, { on := 6, ground := Ground.data }], guard := none }) (v := ?_) rfl (by kernel_rfl) (by kernel_rfl) (by kernel_rfl) (fun _ _ _ h => h) (Or.inl ⟨by rfl, ?_⟩) (by assumption) ?_
    rotate_left
    · (intro w9 hSw; (try dsimp only at hSw); (go_split_ands; go_simp); (try with_reducible rfl))
    try simp only [Act.put, List.setIfInBounds_toArray, List.set_cons_zero, List.set_cons_succ]
    refine wpAnyH_take (i := 8) (oi := { dst := some 20, op := Op.load 132 (Operand.tmp 19), type := 132, pos := "outright.go:20", after := #[{ on := 7, ground := Ground.data }], guard := none }) (v := ?_) rfl (by kernel_rfl) (by kernel_rfl) (by kernel_rfl) (fun _ _ _ h => h) (Or.inl ⟨by rfl, ?_⟩) (by assumption) ?_
    rotate_left
    · (intro w9 hSw; (try dsimp only at hSw); (go_split_ands; go_simp); (try with_reducible rfl))
    try simp only [Act.put, List.setIfInBounds_toArray, List.set_cons_zero, List.set_cons_succ]
    refine wpAnyH_take (i := 9) (oi := { dst := some 21, op := Op.convert 132 3 (Operand.tmp 20), type := 3, pos := "outright.go:20", after := #[{ on := 8, ground := Ground.data }], guard := none }) (v := ?_) rfl (by kernel_rfl) (by kernel_rfl) (by kernel_rfl) (fun _ _ _ h => h) (Or.inl ⟨by rfl, ?_⟩) (by assumption) ?_
    rotate_left
    · (intro w9 hSw; (try dsimp only at hSw); (go_split_ands; go_simp); (try with_reducible rfl))
    try simp only [Act.put, List.setIfInBounds_toArray, List.set_cons_zero, List.set_cons_succ]
    refine wpAnyH_take (i := 10) (oi := { dst := some 22, op := Op.load 3 (Operand.tmp 1), type := 3, pos := "outright.go:20", after := #[], guard := none }) (v := ?_) rfl (by kernel_rfl) (by kernel_rfl) (by kernel_rfl) (fun _ _ _ h => h) (Or.inl ⟨by rfl, ?_⟩) (by assumption) ?_
    rotate_left
    · (intro w9 hSw; (try dsimp only at hSw); (go_split_ands; go_simp); (try with_reducible rfl))
    try simp only [Act.put, List.setIfInBounds_toArray, List.set_cons_zero, List.set_cons_succ]
    refine wpAnyH_take (i := 11) (oi := { dst := some 23, op := Op.binOp BinOp.mul 3 (Operand.const (Value.int IntKind.i64 41)) (Operand.tmp 22) 3, type := 3, pos := "outright.go:20", after := #[{ on := 10, ground := Ground.data }], guard := none }) (v := ?_) rfl (by kernel_rfl) (by kernel_rfl) (by kernel_rfl) (fun _ _ _ h => h) (Or.inl ⟨by rfl, ?_⟩) (by assumption) ?_
    rotate_left
    · (intro w9 hSw; (try dsimp only at hSw); (go_split_ands; go_simp); (try with_reducible rfl))
    try simp only [Act.put, List.setIfInBounds_toArray, List.set_cons_zero, List.set_cons_succ]
    refine wpAnyH_take (i := 12) (oi := { dst := some 24, op := Op.binOp BinOp.add 3 (Operand.tmp 21) (Operand.tmp 23) 3, type := 3, pos := "outright.go:20", after := #[{ on := 9, ground := Ground.data }, { on := 11, ground := Ground.data }], guard := none }) (v := ?_) rfl (by kernel_rfl) (by kernel_rfl) (by kernel_rfl) (fun _ _ _ h => h) (Or.inl ⟨by rfl, ?_⟩) (by assumption) ?_
    rotate_left
    · (intro w9 hSw; (try dsimp only at hSw); (go_split_ands; go_simp); (try with_reducible rfl))
    try simp only [Act.put, List.setIfInBounds_toArray, List.set_cons_zero, List.set_cons_succ]
    refine wpAnyH_take (i := 13) (oi := { dst := some 25, op := Op.fieldAddr 29 (Operand.tmp 3) 1, type := 0, pos := "outright.go:20", after := #[], guard := none }) (v := ?_) rfl (by kernel_rfl) (by kernel_rfl) (by kernel_rfl) (fun _ _ _ h => h) (Or.inl ⟨by rfl, ?_⟩) (by assumption) ?_
    rotate_left
    · (intro w9 hSw; (try dsimp only at hSw); (go_split_ands; go_simp); (try with_reducible rfl))
    try simp only [Act.put, List.setIfInBounds_toArray, List.set_cons_zero, List.set_cons_succ]
    refine wpAnyH_take (i := 14) (oi := { dst := some 26, op := Op.load 3 (Operand.tmp 25), type := 3, pos := "outright.go:20", after := #[{ on := 13, ground := Ground.data }], guard := none }) (v := ?_) rfl (by kernel_rfl) (by kernel_rfl) (by kernel_rfl) (fun _ _ _ h => h) (Or.inl ⟨by rfl, ?_⟩) (by assumption) ?_
    rotate_left
    · (intro w9 hSw; (try dsimp only at hSw); (go_split_ands; go_simp); (try with_reducible rfl))
    try simp only [Act.put, List.setIfInBounds_toArray, List.set_cons_zero, List.set_cons_succ]
    refine wpAnyH_take (i := 15) (oi := { dst := some 27, op := Op.fieldAddr 29 (Operand.tmp 3) 0, type := 0, pos := "outright.go:20", after := #[], guard := none }) (v := ?_) rfl (by kernel_rfl) (by kernel_rfl) (by kernel_rfl) (fun _ _ _ h => h) (Or.inl ⟨by rfl, ?_⟩) (by assumption) ?_
    rotate_left
    · (intro w9 hSw; (try dsimp only at hSw); (go_split_ands; go_simp); (try with_reducible rfl))
    try simp only [Act.put, List.setIfInBounds_toArray, List.set_cons_zero, List.set_cons_succ]
    refine wpAnyH_take (i := 16) (oi := { dst := some 28, op := Op.load 3 (Operand.tmp 27), type := 3, pos := "outright.go:20", after := #[{ on := 15, ground := Ground.data }], guard := none }) (v := ?_) rfl (by kernel_rfl) (by kernel_rfl) (by kernel_rfl) (fun _ _ _ h => h) (Or.inl ⟨by rfl, ?_⟩) (by assumption) ?_
    rotate_left
    · (intro w9 hSw; (try dsimp only at hSw); (go_split_ands; go_simp); (try with_reducible rfl))
    try simp only [Act.put, List.setIfInBounds_toArray, List.set_cons_zero, List.set_cons_succ]
    refine wpAnyH_take (i := 17) (oi := { dst := some 29, op := Op.binOp BinOp.sub 3 (Operand.tmp 26) (Operand.tmp 28) 3, type := 3, pos := "outright.go:20", after := #[{ on := 14, ground := Ground.data }, { on := 16, ground := Ground.data }], guard := none }) (v := ?_) rfl (by kernel_rfl) (by kernel_rfl) (by kernel_rfl) (fun _ _ _ h => h) (Or.inl ⟨by rfl, ?_⟩) (by assumption) ?_
    rotate_left
    · (intro w9 hSw; (try dsimp only at hSw); (go_split_ands; go_simp); (try with_reducible rfl))
    try simp only [Act.put, List.setIfInBounds_toArray, List.set_cons_zero, List.set_cons_succ]
    refine wpAnyH_take (i := 18) (oi := { dst := some 30, op := Op.binOp BinOp.add 3 (Operand.tmp 29) (Operand.const (Value.int IntKind.i64 1)) 3, type := 3, pos := "outright.go:20", after := #[{ on := 17, ground := Ground.data }], guard := none }) (v := ?_) rfl (by kernel_rfl) (by kernel_rfl) (by kernel_rfl) (fun _ _ _ h => h) (Or.inl ⟨by rfl, ?_⟩) (by assumption) ?_
    rotate_left
    · (intro w9 hSw; (try dsimp only at hSw); (go_split_ands; go_simp); (try with_reducible rfl))
    try simp only [Act.put, List.setIfInBounds_toArray, List.set_cons_zero, List.set_cons_succ]
    refine wpAnyH_take (i := 19) (oi := { dst := some 31, op := Op.binOp BinOp.rem 3 (Operand.tmp 24) (Operand.tmp 30) 3, type := 3, pos := "outright.go:20", after := #[{ on := 12, ground := Ground.data }, { on := 18, ground := Ground.data }], guard := none }) (v := ?_) rfl (by kernel_rfl) (by kernel_rfl) (by kernel_rfl) (fun _ _ _ h => h) (Or.inl ⟨by rfl, ?_⟩) (by assumption) ?_
    rotate_left
    · (intro w9 hSw; (try dsimp only at hSw); (go_split_ands; go_simp); (try with_reducible rfl))
    try simp only [Act.put, List.setIfInBounds_toArray, List.set_cons_zero, List.set_cons_succ]
    refine wpAnyH_take (i := 20) (oi := { dst := some 32, op := Op.binOp BinOp.add 3 (Operand.tmp 13) (Operand.tmp 31) 3, type := 3, pos := "outright.go:20", after := #[{ on := 1, ground := Ground.data }, { on := 19, ground := Ground.data }], guard := none }) (v := ?_) rfl (by kernel_rfl) (by kernel_rfl) (by kernel_rfl) (fun _ _ _ h => h) (Or.inl ⟨by rfl, ?_⟩) (by assumption) ?_
    rotate_left
    · (intro w9 hSw; (try dsimp only at hSw); (go_split_ands; go_simp); (try with_reducible rfl))
    try simp only [Act.put, List.setIfInBounds_toArray, List.set_cons_zero, List.set_cons_succ]
    refine wpAnyH_take (i := 21) (oi := { dst := some 4, op := Op.assign (Operand.tmp 32), type := 3, pos := "outright.go:20", after := #[{ on := 20, ground := Ground.data }, { on := 0, ground := Ground.phase }, { on := 1, ground := Ground.phase }, { on := 2, ground := Ground.phase }, { on := 3, ground := Ground.phase }, { on := 4, ground := Ground.phase }, { on := 5, ground := Ground.phase }, { on := 6, ground := Ground.phase }, { on := 7, ground := Ground.phase }, { on := 8, ground := Ground.phase }, { on := 9, ground := Ground.phase }, { on := 10, ground := Ground.phase }, { on := 11, ground := Ground.phase }, { on := 12, ground := Ground.phase }, { on := 13, ground := Ground.phase }, { on := 14, ground := Ground.phase }, { on := 15, ground := Ground.phase }, { on := 16, ground := Ground.phase }, { on := 17, ground := Ground.phase }, { on := 18, ground := Ground.phase }, { on := 19, ground := Ground.phase }, { on := 20, ground := Ground.phase }], guard := none }) (v := ?_) rfl (by kernel_rfl) (by kernel_rfl) (by kernel_rfl) (fun _ _ _ h => h) (Or.inl ⟨by rfl, ?_⟩) (by assumption) ?_
    rotate_left
    · (intro w9 hSw; (try dsimp only at hSw); (go_split_ands; go_simp); (try with_reducible rfl))
    try simp only [Act.put, List.setIfInBounds_toArray, List.set_cons_zero, List.set_cons_succ]
    refine wpAnyH_done (by kernel_rfl) ?_ _
    go_wp2_with fail
    exact bodyPost_ret (v := .int .i64 (lo + m)) (by simp [results, Try.results89, go_sem]) rfl ⟨lo + m, by omega, by omega, rfl, grownBy_drew HG.out, HP1.out⟩

/-- One of the kept boxes is written. -/
theorem Own.touch {B : Nat} {w0 W W2 : World} {KB KB' : List (Nat × Array Value × TypeId)} {VS : List (Value × List Value)} {p : Nat} {x : Array Value} {t : TypeId} (h : Own B w0 KB VS W) (hg : W.grownBy W2 (some p)) (hm : (p, x, t) ∈ KB) (hB : B ≤ p)
    (hs : ∀ e ∈ KB', (e.1 = p ∧ BoxAt W2 e.1 e.2.1 e.2.2) ∨ (e ∈ KB ∧ e.1 ≠ p)) : Own B w0 KB' VS W2 where
  bel := h.bel.grown hg h.size (fun k hk => by cases hk; exact hB)
  low := h.low
  box := fun e he => (hs e he).elim (fun h => h.2) (fun h1 => (h.box e h1.1).kept hg (fun e => h1.2 (Option.some.inj e)))
  own := fun e he => (h.own e he).kept hg (.inr (fun x => h.far e he _ hm x))
  far := fun e he b hb => (hs b hb).elim (fun h1 => by rw [h1.1]; exact h.far e he _ hm) (fun h1 => h.far e he b h1.1)
  dis := h.dis
def extK (K : Nat → Kn) (k : Nat) (x : Kn) : Nat → Kn := fun i => if i = k then x else K i
theorem rowVals_congr {f g : Nat → Int} {k : Nat} (h : ∀ i, i < k → f i = g i) : rowVals f k = rowVals g k := by
  unfold rowVals
  exact List.map_congr_left fun i hi => by rw [h i (List.mem_range.1 hi)]
theorem rowVals_ext (F : Kn → Int) (K : Nat → Kn) (k : Nat) (x : Kn) : rowVals (fun i => F (extK K k x i)) (k + 1) = rowVals (fun i => F (K i)) k ++ [.int .i64 (F x)] := by
  rw [rowVals_succ]
  simp only [extK, if_true]
  rw [rowVals_congr fun i hi => by rw [if_neg (by omega)]]
theorem threeVS_ext {B : Nat} {w0 W : World} {KB : List (Nat × Array Value × TypeId)} {g1 p1 g2 p2 g3 p3 k : Nat} {K : Nat → Kn} {y1 y2 y3 : Int}
    (h : Own B w0 KB [(.slice (some ⟨g1, 0, none⟩) (k + 1) p1, rowVals (fun i => (K i).fr) k ++ [.int .i64 y1]), (.slice (some ⟨g2, 0, none⟩) (k + 1) p2, rowVals (fun i => (K i).to) k ++ [.int .i64 y2]), (.slice (some ⟨g3, 0, none⟩) (k + 1) p3, rowVals (fun i => (K i).td) k ++ [.int .i64 y3])] W) :
    Own B w0 KB (threeVS (.slice (some ⟨g1, 0, none⟩) (k + 1) p1) (.slice (some ⟨g2, 0, none⟩) (k + 1) p2) (.slice (some ⟨g3, 0, none⟩) (k + 1) p3) (extK K k ⟨y1, y2, y3⟩) (k + 1)) W := by
  unfold threeVS
  rw [rowVals_ext (fun x => x.fr), rowVals_ext (fun x => x.to), rowVals_ext (fun x => x.td)]
  exact h

set_option maxRecDepth 100000 in
set_option maxHeartbeats 4000000 in
theorem truly_own (cr : Int) (sa ta : Option Addr) (sn sc tn tc : Nat) (T : Nat → Tk) (oa : Option Addr) (n cap : Nat) (bys : Nat → Int) (w : World) (hT : TicketsAt w ta tn T) (hb : U16At w oa n bys) (hbd : ∀ i, i < n → 0 ≤ bys i ∧ bys i ≤ 65535) (ht6 : tn ≤ 6)
    (hsp : ∀ i, i < tn → 0 ≤ (T i).fl ∧ (T i).fl ≤ (T i).fh ∧ (T i).fh ≤ 20 ∧ 0 ≤ (T i).tl ∧ (T i).tl ≤ (T i).th ∧ (T i).th ≤ 20 ∧ 0 ≤ (T i).dl ∧ (T i).dl ≤ (T i).dh ∧ (T i).dh ≤ 40) :
    Calls Try.prog 33 #[.agg #[.int .i64 cr, .slice sa sn sc, .slice ta tn tc], .slice oa n cap] w
      fun e w' => ∃ v1 v2 v3 K, e = .returned (.tuple #[v1, v2, v3]) ∧ (∀ i, i < tn → InT (T i) (K i)) ∧ Own w.heap.size w [] (threeVS v1 v2 v3 K tn) w' := by
  have HT := Lib.hid hT
  have HU := Lib.hid hb
  have HSP := Lib.hid hsp
  have HBD := Lib.hid hbd
  have hblt : 0 < n → blk oa < w.heap.size := hb.old
  clear hT hb hsp hbd
  go_enter Try.func33, Try.ntmps33
  go_wp2_with fail
  generalize hW : World.alloc (World.alloc (World.alloc _ _) _) _ = W at *
  obtain ⟨y0, y1, y2, y3, hB⟩ := blocks3 hW
  obtain ⟨p, ep⟩ : ∃ p, p = w.heap.size + 1 + 1 := ⟨_, rfl⟩
  obtain ⟨q, eq⟩ : ∃ q, q = w.heap.size + 1 := ⟨_, rfl⟩
  have hpq : p ≠ q := by omega
  have hpl : w.heap.size ≤ p := by omega
  have hbp : 0 < n → blk oa ≠ p := fun h => by have := hblt h; omega
  have O0 := Lib.hid (Own.start (KB := [(p, #[.int .i64 ((3 * 0 : Nat) : Int)], 3), (q, #[.slice oa n cap], 47)]) (VS := threeVS (.slice none 0 0) (.slice none 0 0) (.slice none 0 0) (fun _ => ⟨0, 0, 0⟩) 0) hB (Nat.le_refl _) (fun e he => by
    simp only [List.mem_cons, List.mem_nil_iff, or_false] at he
    rcases he with rfl | rfl
    · rw [ep]; exact y2
    · rw [eq]; exact y1) (fun e he => by
    simp only [threeVS, List.mem_cons, List.mem_nil_iff, or_false] at he
    rcases he with rfl | rfl | rfl <;> rfl))
  rw [← ep, ← eq]
  clear hW y0 y1 y2 y3 hB ep eq hblt
  go_loopw [4, 5, 6, 15] (fun v1 v2 v3 i wr => ∃ k : Nat, k ≤ tn ∧ i = .int .i64 k ∧ ∃ K, (∀ j, j < k → InT (T j) (K j)) ∧ Own w.heap.size w [(p, #[.int .i64 ((3 * k : Nat) : Int)], 3), (q, #[.slice oa n cap], 47)] (threeVS v1 v2 v3 K k) wr) (fun _ _ _ i _ => tn - (intOf i).toNat)
  case atStart => exact ⟨0, Nat.zero_le _, rfl, _, (fun j hj => by omega), O0.out⟩
  case round =>
    clear O0
    obtain ⟨k, hk, rfl, K, hK, hown⟩ := hrel
    have HO := Lib.hid hown
    have HK := Lib.hid hK
    have HTR := Lib.hid (Row.grow HT.out hown.bel : TicketsAt wr ta tn T)
    clear hown hK
    by_cases hlt : k < tn
    · have hi := fun w => run_indexAt_row (w := w) (cap := tc) Try.underlying23 size58 (HTR.out.plain (by omega)) hlt
      obtain ⟨k0, k1, k2, k3, k4, k5, k6, k7⟩ := TicketsAt.at HTR.out hlt
      have HO1 := Lib.hid (HO.out.new (tkCells (T k)) 58)
      have hss := HSP.out k hlt
      go_wp2_with fail
      generalize hW : World.alloc _ _ = W at *
      clear hW k0 k1 k2 k3 k4 k5 k6 k7 hi
      have z2 := cellAt (HO1.out.box _ List.mem_cons_self) 2
      have z3 := cellAt (HO1.out.box _ List.mem_cons_self) 3
      have z4 := cellAt (HO1.out.box _ List.mem_cons_self) 4
      have z5 := cellAt (HO1.out.box _ List.mem_cons_self) 5
      have z6 := cellAt (HO1.out.box _ List.mem_cons_self) 6
      have z7 := cellAt (HO1.out.box _ List.mem_cons_self) 7
      simp only [List.getElem?_toArray, List.getElem?_cons_zero, List.getElem?_cons_succ] at z2 z3 z4 z5 z6 z7
      have HD := Lib.hid (fun (lo hi : Int) (m : Nat) (x : Int) W VS (h : Own w.heap.size w [(wr.heap.size, tkCells (T k), 58), (p, #[.int .i64 x], 3), (q, #[.slice oa n cap], 47)] VS W) (hx : x = (m : Int)) (h0 : 0 ≤ lo) (h1 : lo ≤ hi) (h2 : hi ≤ 1000) (hm : m ≤ 1000) => (draw_any lo hi m oa n cap p q bys W (by rw [← hx]; exact h.box (p, #[.int .i64 x], 3) (by simp)) (h.box (q, #[.slice oa n cap], 47) (by simp)) hpq (Row.grow HU.out h.bel) hbp HBD.out h0 h1 h2 hm).mono fun e w' h' => (show ∃ v, lo ≤ v ∧ v ≤ hi ∧ e = .returned (.int .i64 v) ∧ Own w.heap.size w [(wr.heap.size, tkCells (T k), 58), (p, #[.int .i64 ((m + 1 : Nat) : Int)], 3), (q, #[.slice oa n cap], 47)] VS w' by
        obtain ⟨v, v0, v1, rfl, hg, hp⟩ := h'
        refine ⟨v, v0, v1, rfl, h.touch hg (x := #[.int .i64 x]) (t := 3) (by simp) hpl fun e he => ?_⟩
        simp only [List.mem_cons, List.mem_nil_iff, or_false] at he
        have hwp : wr.heap.size ≠ p := by
          have := lt_of_heap (HO.out.box (p, _, _) List.mem_cons_self)
          dsimp only at this
          omega
        rcases he with rfl | rfl | rfl
        · exact .inr ⟨by simp, hwp⟩
        · exact .inl ⟨rfl, hp⟩
        · exact .inr ⟨by simp, fun e => hpq e.symm⟩))
      refine wp_region_held_drew (S := (fun w' => w'.cell? ⟨wr.heap.size, 2, none⟩ = some (.int .i64 (T k).fl) ∧ w'.cell? ⟨wr.heap.size, 3, none⟩ = some (.int .i64 (T k).fh) ∧ w'.cell? ⟨wr.heap.size, 4, none⟩ = some (.int .i64 (T k).tl) ∧ w'.cell? ⟨wr.heap.size, 5, none⟩ = some (.int .i64 (T k).th) ∧ w'.cell? ⟨wr.heap.size, 6, none⟩ = some (.int .i64 (T k).dl) ∧ w'.cell? ⟨wr.heap.size, 7, none⟩ = some (.int .i64 (T k).dh))) (by kernel_rfl) (by exact ⟨z2, z3, z4, z5, z6, z7⟩) (fun hHeld => ?_)
      have HO2 := Lib.hid HO1.out.drew
      clear HO1 z2 z3 z4 z5 z6 z7
      refine wpAnyH_take (i := 0) (oi := { dst := some 19, op := Op.move (Operand.tmp 4), type := 37, pos := "outright.go:23", after := #[], guard := none }) (v := ?_) rfl (by kernel_rfl) (by kernel_rfl) (by kernel_rfl) (fun _ _ _ h => h) (Or.inl ⟨by rfl, ?_⟩) (by assumption) ?_
      rotate_left
      · (intro w9 hSw; (try dsimp only at hSw); (go_split_ands; go_simp); (try with_reducible rfl))
      try simp only [Act.put, List.setIfInBounds_toArray, List.set_cons_zero, List.set_cons_succ]
      refine wpAnyH_take (i := 1) (oi := { dst := some 20, op := Op.move (Operand.tmp 8), type := 133, pos := "outright.go:23", after := #[], guard := none }) (v := ?_) rfl (by kernel_rfl) (by kernel_rfl) (by kernel_rfl) (fun _ _ _ h => h) (Or.inl ⟨by rfl, ?_⟩) (by assumption) ?_
      rotate_left
      · (intro w9 hSw; (try dsimp only at hSw); (go_split_ands; go_simp); (try with_reducible rfl))
      try simp only [Act.put, List.setIfInBounds_toArray, List.set_cons_zero, List.set_cons_succ]
      refine wpAnyH_take (i := 2) (oi := { dst := some 21, op := Op.fieldAddr 58 (Operand.tmp 10) 2, type := 0, pos := "outright.go:23", after := #[], guard := none }) (v := ?_) rfl (by kernel_rfl) (by kernel_rfl) (by kernel_rfl) (fun _ _ _ h => h) (Or.inl ⟨by rfl, ?_⟩) (by assumption) ?_
      rotate_left
      · (intro w9 hSw; (try dsimp only at hSw); (go_split_ands; go_simp); (try with_reducible rfl))
      try simp only [Act.put, List.setIfInBounds_toArray, List.set_cons_zero, List.set_cons_succ]
      refine wpAnyH_take (i := 3) (oi := { dst := some 22, op := Op.load 29 (Operand.tmp 21), type := 29, pos := "outright.go:23", after := #[{ on := 2, ground := Ground.data }], guard := none }) (v := ?_) rfl (by kernel_rfl) (by kernel_rfl) (by kernel_rfl) (fun _ _ _ h => h) (Or.inl ⟨by rfl, ?_⟩) (by assumption) ?_
      rotate_left
      · (intro w9 hSw; (try dsimp only at hSw); (go_split_ands; go_simp); (try with_reducible rfl))
      try simp only [Act.put, List.setIfInBounds_toArray, List.set_cons_zero, List.set_cons_succ]
      refine wpAnyH_take (i := 7) (oi := { dst := some 26, op := Op.move (Operand.tmp 5), type := 37, pos := "outright.go:23", after := #[], guard := none }) (v := ?_) rfl (by kernel_rfl) (by kernel_rfl) (by kernel_rfl) (fun _ _ _ h => h) (Or.inl ⟨by rfl, ?_⟩) (by assumption) ?_
      rotate_left
      · (intro w9 hSw; (try dsimp only at hSw); (go_split_ands; go_simp); (try with_reducible rfl))
      try simp only [Act.put, List.setIfInBounds_toArray, List.set_cons_zero, List.set_cons_succ]
      refine wpAnyH_take (i := 8) (oi := { dst := some 27, op := Op.move (Operand.tmp 8), type := 133, pos := "outright.go:23", after := #[], guard := none }) (v := ?_) rfl (by kernel_rfl) (by kernel_rfl) (by kernel_rfl) (fun _ _ _ h => h) (Or.inl ⟨by rfl, ?_⟩) (by assumption) ?_
      rotate_left
      · (intro w9 hSw; (try dsimp only at hSw); (go_split_ands; go_simp); (try with_reducible rfl))
      try simp only [Act.put, List.setIfInBounds_toArray, List.set_cons_zero, List.set_cons_succ]
      refine wpAnyH_take (i := 9) (oi := { dst := some 28, op := Op.fieldAddr 58 (Operand.tmp 10) 3, type := 0, pos := "outright.go:23", after := #[], guard := none }) (v := ?_) rfl (by kernel_rfl) (by kernel_rfl) (by kernel_rfl) (fun _ _ _ h => h) (Or.inl ⟨by rfl, ?_⟩) (by assumption) ?_
      rotate_left
      · (intro w9 hSw; (try dsimp only at hSw); (go_split_ands; go_simp); (try with_reducible rfl))
      try simp only [Act.put, List.setIfInBounds_toArray, List.set_cons_zero, List.set_cons_succ]
      refine wpAnyH_take (i := 10) (oi := { dst := some 29, op := Op.load 29 (Operand.tmp 28), type := 29, pos := "outright.go:23", after := #[{ on := 9, ground := Ground.data }], guard := none }) (v := ?_) rfl (by kernel_rfl) (by kernel_rfl) (by kernel_rfl) (fun _ _ _ h => h) (Or.inl ⟨by rfl, ?_⟩) (by assumption) ?_
      rotate_left
      · (intro w9 hSw; (try dsimp only at hSw); (go_split_ands; go_simp); (try with_reducible rfl))
      try simp only [Act.put, List.setIfInBounds_toArray, List.set_cons_zero, List.set_cons_succ]
      refine wpAnyH_take (i := 14) (oi := { dst := some 33, op := Op.move (Operand.tmp 6), type := 37, pos := "outright.go:23", after := #[], guard := none }) (v := ?_) rfl (by kernel_rfl) (by kernel_rfl) (by kernel_rfl) (fun _ _ _ h => h) (Or.inl ⟨by rfl, ?_⟩) (by assumption) ?_
      rotate_left
      · (intro w9 hSw; (try dsimp only at hSw); (go_split_ands; go_simp); (try with_reducible rfl))
      try simp only [Act.put, List.setIfInBounds_toArray, List.set_cons_zero, List.set_cons_succ]
      refine wpAnyH_take (i := 15) (oi := { dst := some 34, op := Op.move (Operand.tmp 8), type := 133, pos := "outright.go:23", after := #[], guard := none }) (v := ?_) rfl (by kernel_rfl) (by kernel_rfl) (by kernel_rfl) (fun _ _ _ h => h) (Or.inl ⟨by rfl, ?_⟩) (by assumption) ?_
      rotate_left
      · (intro w9 hSw; (try dsimp only at hSw); (go_split_ands; go_simp); (try with_reducible rfl))
      try simp only [Act.put, List.setIfInBounds_toArray, List.set_cons_zero, List.set_cons_succ]
      refine wpAnyH_take (i := 16) (oi := { dst := some 35, op := Op.fieldAddr 58 (Operand.tmp 10) 4, type := 0, pos := "outright.go:23", after := #[], guard := none }) (v := ?_) rfl (by kernel_rfl) (by kernel_rfl) (by kernel_rfl) (fun _ _ _ h => h) (Or.inl ⟨by rfl, ?_⟩) (by assumption) ?_
      rotate_left
      · (intro w9 hSw; (try dsimp only at hSw); (go_split_ands; go_simp); (try with_reducible rfl))
      try simp only [Act.put, List.setIfInBounds_toArray, List.set_cons_zero, List.set_cons_succ]
      refine wpAnyH_take (i := 17) (oi := { dst := some 36, op := Op.load 29 (Operand.tmp 35), type := 29, pos := "outright.go:23", after := #[{ on := 16, ground := Ground.data }], guard := none }) (v := ?_) rfl (by kernel_rfl) (by kernel_rfl) (by kernel_rfl) (fun _ _ _ h => h) (Or.inl ⟨by rfl, ?_⟩) (by assumption) ?_
      rotate_left
      · (intro w9 hSw; (try dsimp only at hSw); (go_split_ands; go_simp); (try with_reducible rfl))
      try simp only [Act.put, List.setIfInBounds_toArray, List.set_cons_zero, List.set_cons_succ]
      refine wpAnyH_ready (rs := [4]) (by kernel_rfl) (by simp) ?_
      refine AllReadyH.cons (o := { dst := some 23, op := Op.call { callee := Callee.value (Operand.tmp 20), args := #[Operand.tmp 22], argTypes := #[29] }, type := 3, pos := "outright.go:23", after := #[{ on := 1, ground := Ground.data }, { on := 3, ground := Ground.data }], guard := none }) rfl (fun K hK => ?_) AllReadyH.nil
      go_simp
      refine (HD.out (T k).fl (T k).fh (3 * k) _ _ _ HO2.out rfl (by omega) (by omega) (by omega) (by omega)).mono ?_
      rintro e w4 ⟨xa, xaa, xab, rfl, ho4⟩
      have HO4 := Lib.hid ho4
      clear ho4
      go_wp2_with fail
      refine hK.out _ _ ?_ (fun hHeld => ?_)
      · have hb := HO4.out.box _ (List.mem_cons_self)
        exact ⟨cellAt hb 2, cellAt hb 3, cellAt hb 4, cellAt hb 5, cellAt hb 6, cellAt hb 7⟩
      clear hK K
      try simp only [Act.put, List.setIfInBounds_toArray, List.set_cons_zero, List.set_cons_succ]
      refine wpAnyH_ready (rs := [5]) (by kernel_rfl) (by simp) ?_
      refine AllReadyH.cons (o := { dst := some 24, op := Op.buildSlice 37 1 #[(0, Operand.tmp 23)], type := 37, pos := "outright.go:23", after := #[{ on := 4, ground := Ground.data }], guard := none }) rfl (fun K hK => ?_) AllReadyH.nil
      refine step_box HO4.out rfl (.tmp 23) rfl rfl (fun g5 w5 ho5 => ?_)
      have HO5 := Lib.hid ho5
      refine hK.out _ _ ?_ (fun hHeld => ?_)
      · have hb := ho5.box (wr.heap.size, tkCells (T k), 58) (by simp)
        exact ⟨cellAt hb 2, cellAt hb 3, cellAt hb 4, cellAt hb 5, cellAt hb 6, cellAt hb 7⟩
      clear ho5 hK K
      try simp only [Act.put, List.setIfInBounds_toArray, List.set_cons_zero, List.set_cons_succ]
      refine wpAnyH_ready (rs := [6]) (by kernel_rfl) (by simp) ?_
      refine AllReadyH.cons (o := { dst := some 25, op := Op.call { callee := Callee.builtin Builtin.append, args := #[Operand.tmp 19, Operand.tmp 24], argTypes := #[37, 37] }, type := 37, pos := "outright.go:23", after := #[{ on := 0, ground := Ground.data }, { on := 5, ground := Ground.data }, { on := 4, ground := Ground.chain }], guard := none }) rfl (fun K hK => ?_) AllReadyH.nil
      refine step_own_n HO5.out rfl (.tmp 19) (.tmp 24) rfl 0 k rfl rfl rfl List.mem_cons_self rfl (rowVals_length _ _) (by omega) (fun h6 p6 w6 ho6 => ?_)
      have HO6 := Lib.hid (ho6.sub (KB' := [(wr.heap.size, tkCells (T k), 58), (p, _, 3), (q, #[.slice oa n cap], 47)]) (fun e he => List.mem_cons_of_mem _ he))
      refine hK.out _ _ ?_ (fun hHeld => ?_)
      · have hb := HO6.out.box _ (List.mem_cons_self)
        exact ⟨cellAt hb 2, cellAt hb 3, cellAt hb 4, cellAt hb 5, cellAt hb 6, cellAt hb 7⟩
      clear ho6 hK K
      try simp only [Act.put, List.setIfInBounds_toArray, List.set_cons_zero, List.set_cons_succ]
      refine wpAnyH_ready (rs := [11]) (by kernel_rfl) (by simp) ?_
      refine AllReadyH.cons (o := { dst := some 30, op := Op.call { callee := Callee.value (Operand.tmp 27), args := #[Operand.tmp 29], argTypes := #[29] }, type := 3, pos := "outright.go:23", after := #[{ on := 8, ground := Ground.data }, { on := 10, ground := Ground.data }, { on := 6, ground := Ground.chain }], guard := none }) rfl (fun K hK => ?_) AllReadyH.nil
      go_simp
      refine (HD.out (T k).tl (T k).th (3 * k + 1) _ _ _ HO6.out rfl (by omega) (by omega) (by omega) (by omega)).mono ?_
      rintro e w11 ⟨xb, xba, xbb, rfl, ho11⟩
      have HO11 := Lib.hid ho11
      clear ho11
      go_wp2_with fail
      refine hK.out _ _ ?_ (fun hHeld => ?_)
      · have hb := HO11.out.box _ (List.mem_cons_self)
        exact ⟨cellAt hb 2, cellAt hb 3, cellAt hb 4, cellAt hb 5, cellAt hb 6, cellAt hb 7⟩
      clear hK K
      try simp only [Act.put, List.setIfInBounds_toArray, List.set_cons_zero, List.set_cons_succ]
      refine wpAnyH_ready (rs := [12]) (by kernel_rfl) (by simp) ?_
      refine AllReadyH.cons (o := { dst := some 31, op := Op.buildSlice 37 1 #[(0, Operand.tmp 30)], type := 37, pos := "outright.go:23", after := #[{ on := 11, ground := Ground.data }], guard := none }) rfl (fun K hK => ?_) AllReadyH.nil
      refine step_box HO11.out rfl (.tmp 30) rfl rfl (fun g12 w12 ho12 => ?_)
      have HO12 := Lib.hid ho12
      refine hK.out _ _ ?_ (fun hHeld => ?_)
      · have hb := ho12.box (wr.heap.size, tkCells (T k), 58) (by simp)
        exact ⟨cellAt hb 2, cellAt hb 3, cellAt hb 4, cellAt hb 5, cellAt hb 6, cellAt hb 7⟩
      clear ho12 hK K
      try simp only [Act.put, List.setIfInBounds_toArray, List.set_cons_zero, List.set_cons_succ]
      refine wpAnyH_ready (rs := [13]) (by kernel_rfl) (by simp) ?_
      refine AllReadyH.cons (o := { dst := some 32, op := Op.call { callee := Callee.builtin Builtin.append, args := #[Operand.tmp 26, Operand.tmp 31], argTypes := #[37, 37] }, type := 37, pos := "outright.go:23", after := #[{ on := 7, ground := Ground.data }, { on := 12, ground := Ground.data }, { on := 11, ground := Ground.chain }], guard := none }) rfl (fun K hK => ?_) AllReadyH.nil
      refine step_own_n HO12.out rfl (.tmp 26) (.tmp 31) rfl 1 k rfl rfl rfl List.mem_cons_self rfl (rowVals_length _ _) (by omega) (fun h13 p13 w13 ho13 => ?_)
      have HO13 := Lib.hid (ho13.sub (KB' := [(wr.heap.size, tkCells (T k), 58), (p, _, 3), (q, #[.slice oa n cap], 47)]) (fun e he => List.mem_cons_of_mem _ he))
      refine hK.out _ _ ?_ (fun hHeld => ?_)
      · have hb := HO13.out.box _ (List.mem_cons_self)
        exact ⟨cellAt hb 2, cellAt hb 3, cellAt hb 4, cellAt hb 5, cellAt hb 6, cellAt hb 7⟩
      clear ho13 hK K
      try simp only [Act.put, List.setIfInBounds_toArray, List.set_cons_zero, List.set_cons_succ]
      refine wpAnyH_ready (rs := [18]) (by kernel_rfl) (by simp) ?_
      refine AllReadyH.cons (o := { dst := some 37, op := Op.call { callee := Callee.value (Operand.tmp 34), args := #[Operand.tmp 36], argTypes := #[29] }, type := 3, pos := "outright.go:23", after := #[{ on := 15, ground := Ground.data }, { on := 17, ground := Ground.data }, { on := 13, ground := Ground.chain }], guard := none }) rfl (fun K hK => ?_) AllReadyH.nil
      go_simp
      refine (HD.out (T k).dl (T k).dh (3 * k + 1 + 1) _ _ _ HO13.out rfl (by omega) (by omega) (by omega) (by omega)).mono ?_
      rintro e w18 ⟨xc, xca, xcb, rfl, ho18⟩
      have HO18 := Lib.hid ho18
      clear ho18
      go_wp2_with fail
      refine hK.out _ _ ?_ (fun hHeld => ?_)
      · have hb := HO18.out.box _ (List.mem_cons_self)
        exact ⟨cellAt hb 2, cellAt hb 3, cellAt hb 4, cellAt hb 5, cellAt hb 6, cellAt hb 7⟩
      clear hK K
      try simp only [Act.put, List.setIfInBounds_toArray, List.set_cons_zero, List.set_cons_succ]
      refine wpAnyH_ready (rs := [19]) (by kernel_rfl) (by simp) ?_
      refine AllReadyH.cons (o := { dst := some 38, op := Op.buildSlice 37 1 #[(0, Operand.tmp 37)], type := 37, pos := "outright.go:23", after := #[{ on := 18, ground := Ground.data }], guard := none }) rfl (fun K hK => ?_) AllReadyH.nil
      refine step_box HO18.out rfl (.tmp 37) rfl rfl (fun g19 w19 ho19 => ?_)
      have HO19 := Lib.hid ho19
      refine hK.out _ _ ?_ (fun hHeld => ?_)
      · have hb := ho19.box (wr.heap.size, tkCells (T k), 58) (by simp)
        exact ⟨cellAt hb 2, cellAt hb 3, cellAt hb 4, cellAt hb 5, cellAt hb 6, cellAt hb 7⟩
      clear ho19 hK K
      try simp only [Act.put, List.setIfInBounds_toArray, List.set_cons_zero, List.set_cons_succ]
      refine wpAnyH_ready (rs := [20]) (by kernel_rfl) (by simp) ?_
      refine AllReadyH.cons (o := { dst := some 39, op := Op.call { callee := Callee.builtin Builtin.append, args := #[Operand.tmp 33, Operand.tmp 38], argTypes := #[37, 37] }, type := 37, pos := "outright.go:23", after := #[{ on := 14, ground := Ground.data }, { on := 19, ground := Ground.data }, { on := 18, ground := Ground.chain }], guard := none }) rfl (fun K hK => ?_) AllReadyH.nil
      refine step_own_n HO19.out rfl (.tmp 33) (.tmp 38) rfl 2 k rfl rfl rfl List.mem_cons_self rfl (rowVals_length _ _) (by omega) (fun h20 p20 w20 ho20 => ?_)
      have HO20 := Lib.hid (ho20.sub (KB' := [(wr.heap.size, tkCells (T k), 58), (p, _, 3), (q, #[.slice oa n cap], 47)]) (fun e he => List.mem_cons_of_mem _ he))
      refine hK.out _ _ ?_ (fun hHeld => ?_)
      · have hb := HO20.out.box _ (List.mem_cons_self)
        exact ⟨cellAt hb 2, cellAt hb 3, cellAt hb 4, cellAt hb 5, cellAt hb 6, cellAt hb 7⟩
      clear ho20 hK K
      try simp only [Act.put, List.setIfInBounds_toArray, List.set_cons_zero, List.set_cons_succ]
      refine wpAnyH_take (i := 21) (oi := { dst := some 4, op := Op.assign (Operand.tmp 25), type := 37, pos := "outright.go:23", after := #[{ on := 6, ground := Ground.data }, { on := 20, ground := Ground.chain }, { on := 0, ground := Ground.phase }, { on := 1, ground := Ground.phase }, { on := 2, ground := Ground.phase }, { on := 3, ground := Ground.phase }, { on := 4, ground := Ground.phase }, { on := 5, ground := Ground.phase }, { on := 6, ground := Ground.phase }, { on := 7, ground := Ground.textOnly Departure.lateStores }, { on := 8, ground := Ground.textOnly Departure.lateStores }, { on := 9, ground := Ground.textOnly Departure.lateStores }, { on := 10, ground := Ground.textOnly Departure.lateStores }, { on := 11, ground := Ground.textOnly Departure.lateStoresUnsure }, { on := 12, ground := Ground.textOnly Departure.lateStores }, { on := 13, ground := Ground.textOnly Departure.lateStoresUnsure }, { on := 14, ground := Ground.textOnly Departure.lateStores }, { on := 15, ground := Ground.textOnly Departure.lateStores }, { on := 16, ground := Ground.textOnly Departure.lateStores }, { on := 17, ground := Ground.textOnly Departure.lateStores }, { on := 18, ground := Ground.textOnly Departure.lateStoresUnsure }, { on := 19, ground := Ground.textOnly Departure.lateStores }, { on := 20, ground := Ground.textOnly Departure.lateStoresUnsure }], guard := none }) (v := ?_) rfl (by kernel_rfl) (by kernel_rfl) (by kernel_rfl) (fun _ _ _ h => h) (Or.inl ⟨by rfl, ?_⟩) (by assumption) ?_
      rotate_left
      · (intro w9 hSw; (try dsimp only at hSw); (go_split_ands; go_simp); (try with_reducible rfl))
      try simp only [Act.put, List.setIfInBounds_toArray, List.set_cons_zero, List.set_cons_succ]
      refine wpAnyH_take (i := 22) (oi := { dst := some 5, op := Op.assign (Operand.tmp 32), type := 37, pos := "outright.go:23", after := #[{ on := 13, ground := Ground.data }, { on := 21, ground := Ground.chain }, { on := 0, ground := Ground.phase }, { on := 1, ground := Ground.phase }, { on := 2, ground := Ground.phase }, { on := 3, ground := Ground.phase }, { on := 4, ground := Ground.phase }, { on := 5, ground := Ground.phase }, { on := 6, ground := Ground.phase }, { on := 7, ground := Ground.phase }, { on := 8, ground := Ground.phase }, { on := 9, ground := Ground.phase }, { on := 10, ground := Ground.phase }, { on := 11, ground := Ground.phase }, { on := 12, ground := Ground.phase }, { on := 13, ground := Ground.phase }, { on := 14, ground := Ground.textOnly Departure.lateStores }, { on := 15, ground := Ground.textOnly Departure.lateStores }, { on := 16, ground := Ground.textOnly Departure.lateStores }, { on := 17, ground := Ground.textOnly Departure.lateStores }, { on := 18, ground := Ground.textOnly Departure.lateStoresUnsure }, { on := 19, ground := Ground.textOnly Departure.lateStores }, { on := 20, ground := Ground.textOnly Departure.lateStoresUnsure }, { on := 21, ground := Ground.phase }], guard := none }) (v := ?_) rfl (by kernel_rfl) (by kernel_rfl) (by kernel_rfl) (fun _ _ _ h => h) (Or.inl ⟨by rfl, ?_⟩) (by assumption) ?_
      rotate_left
      · (intro w9 hSw; (try dsimp only at hSw); (go_split_ands; go_simp); (try with_reducible rfl))
      try simp only [Act.put, List.setIfInBounds_toArray, List.set_cons_zero, List.set_cons_succ]
      refine wpAnyH_take (i := 23) (oi := { dst := some 6, op := Op.assign (Operand.tmp 39), type := 37, pos := "outright.go:23", after := #[{ on := 20, ground := Ground.data }, { on := 22, ground := Ground.chain }, { on := 0, ground := Ground.phase }, { on := 1, ground := Ground.phase }, { on := 2, ground := Ground.phase }, { on := 3, ground := Ground.phase }, { on := 4, ground := Ground.phase }, { on := 5, ground := Ground.phase }, { on := 6, ground := Ground.phase }, { on := 7, ground := Ground.phase }, { on := 8, ground := Ground.phase }, { on := 9, ground := Ground.phase }, { on := 10, ground := Ground.phase }, { on := 11, ground := Ground.phase }, { on := 12, ground := Ground.phase }, { on := 13, ground := Ground.phase }, { on := 14, ground := Ground.phase }, { on := 15, ground := Ground.phase }, { on := 16, ground := Ground.phase }, { on := 17, ground := Ground.phase }, { on := 18, ground := Ground.phase }, { on := 19, ground := Ground.phase }, { on := 20, ground := Ground.phase }, { on := 21, ground := Ground.phase }, { on := 22, ground := Ground.phase }], guard := none }) (v := ?_) rfl (by kernel_rfl) (by kernel_rfl) (by kernel_rfl) (fun _ _ _ h => h) (Or.inl ⟨by rfl, ?_⟩) (by assumption) ?_
      rotate_left
      · (intro w9 hSw; (try dsimp only at hSw); (go_split_ands; go_simp); (try with_reducible rfl))
      try simp only [Act.put, List.setIfInBounds_toArray, List.set_cons_zero, List.set_cons_succ]
      refine wpAnyH_done (by kernel_rfl) ?_ _
      clear hHeld
      have HZ := Lib.hid (threeVS_ext (HO20.out.sub (KB' := [(p, #[.int .i64 ((3 * (k + 1) : Nat) : Int)], 3), (q, #[.slice oa n cap], 47)]) (fun e he => List.mem_cons_of_mem _ he)))
      go_wp2_with fail
      exact ⟨⟨k + 1, hlt, by go_num, extK K k ⟨xa, xb, xc⟩, fun j hj => (by
        unfold extK
        split
        · rename_i e; subst e; exact ⟨xaa, xab, xba, xbb, xca, xcb⟩
        · exact HK.out j (by omega)), HZ.out⟩, by simp [intOf]; omega⟩
    · obtain rfl : k = tn := by omega
      go_wp2_with fail
      refine bodyPost_ret (v := .tuple #[u4, u5, u6]) (by simp [results, Try.results33, go_sem]) rfl ⟨_, _, _, K, rfl, HK.out, HO.out.sub (KB' := []) (fun e he => by cases he)⟩
end Go.Proofs.Ytbpeamppkdmdcaa
