/-
  What the walks stand on: rows, boxes, what is kept.
  Walks: within, ask, answer, of pitch and of gang.
  Walks: sets of hours, of seams, of crews, as bits.
  Walks: what is done with sets: a stretch, joined, meets; has, with, without, every.
  Walks: joined; a pitch that is looked at.
-/
import Derived.WalkKit
import Derived.WalkSpells
import Derived.Lib.Hide
import Derived.OwnWalkIn
import Derived.OrdersIn
import Derived.Deep.RegionHeld3
import Derived.Test.YtikeihnhkiipgaaGreatProg
import Derived.WalkLawsBesides
import Derived.Deep.QuietTactic
import Derived.BigQuiet
import Derived.Deep.DrawnRows
import Derived.Laws.BitsAllLaws
import Derived.Laws.ShiftsVarLaws
import Derived.Lib.BitFns
import Derived.KernelRfl
import Derived.Laws.AppendOwn
import Derived.BigRegion
import Derived.RegionTactic
import Derived.Defers
import Derived.Recover
import Derived.IntWalk
import Derived.StillTailTactics
import Derived.Deep.CutRange
import Derived.Deep.AppendLies
import Derived.Deep.RegionLaw
import Derived.Laws.Bits128
namespace Go.Proofs.YtikeihnhkiipgaaGreat
open Go.RowKit

def blk : Option Addr → Nat
  | some a => a.block
  | none => 0
def ofs : Option Addr → Nat
  | some a => a.off
  | none => 0
/-- The slice at oa has n elements of sz cells each, that hold 'cell i j'; all of it lies in the world. -/
structure Row (w : World) (oa : Option Addr) (n sz : Nat) (cell : Nat → Nat → Value) : Prop where
  plain : 0 < n → oa = some ⟨blk oa, ofs oa, none⟩
  old : 0 < n → blk oa < w.heap.size
  small : n ≤ maxLen
  cells : ∀ i, i < n → ∀ j, j < sz → w.cell? ⟨blk oa, ofs oa + i * sz + j, none⟩ = some (cell i j)
theorem Row.below {B : Nat} {w w' : World} {oa : Option Addr} {n sz : Nat} {cell : Nat → Nat → Value} (h : Row w oa n sz cell) (hb : Below B w w') (hB : 0 < n → blk oa < B) : Row w' oa n sz cell where
  plain := h.plain
  old := fun hn => Nat.lt_of_lt_of_le (h.old hn) hb.size
  small := h.small
  cells := fun i hi j hj => (hb.cell (p := ⟨blk oa, _, none⟩) (hB (by omega))).trans (h.cells i hi j hj)
theorem Row.grow {w w' : World} {oa : Option Addr} {n sz : Nat} {cell : Nat → Nat → Value} (h : Row w oa n sz cell) (hb : Below w.heap.size w w') : Row w' oa n sz cell :=
  h.below hb h.old
theorem run_indexAt_row {P : Program} {t e : TypeId} {sz : Nat} {w : World} {oa : Option Addr} {n cap k : Nat} (ht : P.underlying t = some (.slice e)) (hs : (P.info? e).map (·.size) = some sz) (hoa : oa = some ⟨blk oa, ofs oa, none⟩) (hk : k < n) :
    (Instr.indexAt t (.slice oa n cap) (.int .i64 k)).run P w = .ok (.pointer (some ⟨blk oa, ofs oa + k * sz, none⟩)) w := by
  rw [hoa]
  obtain ⟨i, hi, hz⟩ := Option.map_eq_some_iff.1 hs
  simp [Instr.indexAt, go_sem, run_underlying ht, asIntOf, hk, sizeOf, typeInfo, hi, hz, Addr.add, blk, ofs]
theorem heapAlloc (w : World) (o : Obj) (i : Nat) : (w.alloc o).heap[i]? = if i = w.heap.size then some o else w.heap[i]? := by
  show (w.heap.push o)[i]? = _
  rw [Array.getElem?_push]
theorem sizeAlloc (w : World) (o : Obj) : (w.alloc o).heap.size = w.heap.size + 1 := by
  show (w.heap.push o).size = _
  simp
theorem blocks1 {w W : World} {a : Obj} (h : w.alloc a = W) : W.heap[w.heap.size]? = some a ∧ W.heap.size = w.heap.size + 1 ∧ Below w.heap.size w W := by
  subst h
  exact ⟨by simp only [heapAlloc, if_true], by simp only [sizeAlloc], (Below.refl _ _).alloc (Nat.le_refl _) _⟩
theorem blocks2 {w W : World} {a b : Obj} (h : (w.alloc a).alloc b = W) : W.heap[w.heap.size]? = some a ∧ W.heap[w.heap.size + 1]? = some b ∧ W.heap.size = w.heap.size + 2 ∧ Below w.heap.size w W := by
  subst h
  refine ⟨?_, ?_, by simp only [sizeAlloc], ((Below.refl _ _).alloc (Nat.le_refl _) _).alloc (by simp) _⟩
  · simp only [heapAlloc, sizeAlloc]; repeat (first | rfl | rw [if_pos trivial] | rw [if_neg (by omega)])
  · simp only [heapAlloc, sizeAlloc]; repeat (first | rfl | rw [if_pos trivial] | rw [if_neg (by omega)])
theorem blocks3 {w W : World} {a b c : Obj} (h : ((w.alloc a).alloc b).alloc c = W) : W.heap[w.heap.size]? = some a ∧ W.heap[w.heap.size + 1]? = some b ∧ W.heap[w.heap.size + 1 + 1]? = some c ∧ W.heap.size = w.heap.size + 3 ∧ Below w.heap.size w W := by
  subst h
  refine ⟨?_, ?_, ?_, by simp only [sizeAlloc], (((Below.refl _ _).alloc (Nat.le_refl _) _).alloc (by simp) _).alloc (by simp; omega) _⟩
  · simp only [heapAlloc, sizeAlloc]; repeat (first | rfl | rw [if_pos trivial] | rw [if_neg (by omega)])
  · simp only [heapAlloc, sizeAlloc]; repeat (first | rfl | rw [if_pos trivial] | rw [if_neg (by omega)])
  · simp only [heapAlloc, sizeAlloc]; repeat (first | rfl | rw [if_pos trivial] | rw [if_neg (by omega)])
theorem blocks4 {w W : World} {a b c d : Obj} (h : (((w.alloc a).alloc b).alloc c).alloc d = W) : W.heap[w.heap.size]? = some a ∧ W.heap[w.heap.size + 1]? = some b ∧ W.heap[w.heap.size + 1 + 1]? = some c ∧ W.heap[w.heap.size + 1 + 1 + 1]? = some d ∧ W.heap.size = w.heap.size + 4 ∧ Below w.heap.size w W := by
  subst h
  refine ⟨?_, ?_, ?_, ?_, by simp only [sizeAlloc], ((((Below.refl _ _).alloc (Nat.le_refl _) _).alloc (by simp) _).alloc (by simp; omega) _).alloc (by simp; omega) _⟩
  · simp only [heapAlloc, sizeAlloc]; repeat (first | rfl | rw [if_pos trivial] | rw [if_neg (by omega)])
  · simp only [heapAlloc, sizeAlloc]; repeat (first | rfl | rw [if_pos trivial] | rw [if_neg (by omega)])
  · simp only [heapAlloc, sizeAlloc]; repeat (first | rfl | rw [if_pos trivial] | rw [if_neg (by omega)])
  · simp only [heapAlloc, sizeAlloc]; repeat (first | rfl | rw [if_pos trivial] | rw [if_neg (by omega)])
theorem blocks5 {w W : World} {a b c d e : Obj} (h : ((((w.alloc a).alloc b).alloc c).alloc d).alloc e = W) : W.heap[w.heap.size]? = some a ∧ W.heap[w.heap.size + 1]? = some b ∧ W.heap[w.heap.size + 1 + 1]? = some c ∧ W.heap[w.heap.size + 1 + 1 + 1]? = some d ∧ W.heap[w.heap.size + 1 + 1 + 1 + 1]? = some e ∧ W.heap.size = w.heap.size + 5 ∧ Below w.heap.size w W := by
  subst h
  refine ⟨?_, ?_, ?_, ?_, ?_, by simp only [sizeAlloc], (((((Below.refl _ _).alloc (Nat.le_refl _) _).alloc (by simp) _).alloc (by simp; omega) _).alloc (by simp; omega) _).alloc (by simp; omega) _⟩
  · simp only [heapAlloc, sizeAlloc]; repeat (first | rfl | rw [if_pos trivial] | rw [if_neg (by omega)])
  · simp only [heapAlloc, sizeAlloc]; repeat (first | rfl | rw [if_pos trivial] | rw [if_neg (by omega)])
  · simp only [heapAlloc, sizeAlloc]; repeat (first | rfl | rw [if_pos trivial] | rw [if_neg (by omega)])
  · simp only [heapAlloc, sizeAlloc]; repeat (first | rfl | rw [if_pos trivial] | rw [if_neg (by omega)])
  · simp only [heapAlloc, sizeAlloc]; repeat (first | rfl | rw [if_pos trivial] | rw [if_neg (by omega)])
theorem cellAt {w : World} {b : Nat} {cs : Array Value} {t : TypeId} {fr : Nat × Nat} (h : w.heap[b]? = some (.cells cs t fr)) (i : Nat) : w.cell? ⟨b, i, none⟩ = cs[i]? := by simp [World.cell?, h]
theorem freeAt {w : World} {b : Nat} {cs : Array Value} {t : TypeId} (h : w.heap[b]? = some (.cells cs t (0, 0))) (i : Nat) : w.frozen? ⟨b, i, none⟩ = false := by simp [World.frozen?, h]
theorem Below.heapAt {B : Nat} {w w' : World} (h : Below B w w') {b : Nat} (hb : b < B) : w'.heap[b]? = w.heap[b]? := h.block b hb
theorem lt_of_heap {w : World} {b : Nat} {o : Obj} (h : w.heap[b]? = some o) : b < w.heap.size := (Array.getElem?_eq_some_iff.1 h).1
def IntsAt (w : World) (oa : Option Addr) (n : Nat) (f : Nat → Int) : Prop := Row w oa n 1 (fun i _ => .int .i64 (f i))
theorem IntsAt.grow {w w' : World} {oa : Option Addr} {n : Nat} {f : Nat → Int} (h : IntsAt w oa n f) (hb : Below w.heap.size w w') : IntsAt w' oa n f := Row.grow h hb
theorem IntsAt.at {w : World} {oa : Option Addr} {n : Nat} {f : Nat → Int} (h : IntsAt w oa n f) {k : Nat} (hk : k < n) : w.cell? ⟨blk oa, ofs oa + k, none⟩ = some (.int .i64 (f k)) := by
  have := h.cells k hk 0 (by omega)
  simpa using this
def inB (n lo hi : Int) : Bool := decide (lo ≤ n) && decide (n ≤ hi)
theorem inB_iff {n lo hi : Int} : inB n lo hi = true ↔ lo ≤ n ∧ n ≤ hi := by simp [inB]
theorem ret_bool {a b : Bool} (h : a = b) : Ending.returned (.bool a) = .returned (.bool b) := by rw [h]
theorem ret_int {k : IntKind} {a b : Int} (h : a = b) : Ending.returned (.int k a) = .returned (.int k b) := by rw [h]
/-- Three boxes above the start. -/
theorem below3 (w : World) (a b c : Obj) : Below w.heap.size w (((w.alloc a).alloc b).alloc c) :=
  (((Below.refl _ _).alloc (Nat.le_refl _) _).alloc (by simp) _).alloc (by simp; omega) _
theorem below_drewN {B : Nat} {a w : World} (h : Below B a w) (n : Nat) : Below B a (w.drewN n) := ⟨h.os, h.tape, h.output, h.size, h.block⟩
theorem size3 : (Tryz.prog.info? 3).map (·.size) = some 1 := by kernel_rfl
theorem size_setCell (w : World) (a : Addr) (v : Value) : (w.setCell a v).heap.size = w.heap.size := by simp [World.setCell]
theorem testBit_and_one (m n : Nat) : ((m >>> n) &&& 1 == 1) = m.testBit n := by
  simp only [Nat.testBit]
  rw [Nat.and_comm]
  have : 1 &&& m >>> n < 2 := Nat.lt_of_le_of_lt Nat.and_le_left (by omega)
  generalize 1 &&& m >>> n = x at *
  have : x = 0 ∨ x = 1 := by omega
  rcases this with rfl | rfl <;> rfl
/-- The box of the wages: its three cells. -/
def BoxAt (wr : World) (b : Nat) (x : Array Value) (t : TypeId) : Prop := wr.heap[b]? = some (.cells x t (0, 0))
theorem BoxAt.kept {w w' : World} {b : Nat} {x : Array Value} {t : TypeId} {row : Option Nat} (h : BoxAt w b x t) (hg : w.grownBy w' row) (hne : some b ≠ row) : BoxAt w' b x t :=
  (hg.block b (lt_of_heap h) hne).trans h
theorem BoxAt.grow {w w' : World} {b : Nat} {x : Array Value} {t : TypeId} (h : BoxAt w b x t) (hb : Below w.heap.size w w') : BoxAt w' b x t :=
  (hb.block b (lt_of_heap h)).trans h
/-- A box's address. -/
abbrev bp (b : Nat) : Value := .pointer (some ⟨b, 0, none⟩)
theorem run_indexAt_int {P : Program} {t e : TypeId} {sz : Nat} {w : World} {oa : Option Addr} {n cap : Nat} {k : Int} (ht : P.underlying t = some (.slice e)) (hs : (P.info? e).map (·.size) = some sz) (hoa : oa = some ⟨blk oa, ofs oa, none⟩) (h0 : 0 ≤ k) (h1 : k < n) :
    (Instr.indexAt t (.slice oa n cap) (.int .i64 k)).run P w = .ok (.pointer (some ⟨blk oa, ofs oa + k.toNat * sz, none⟩)) w := by
  have h := run_indexAt_row (w := w) (cap := cap) (k := k.toNat) (n := n) ht hs hoa (by omega)
  rw [Int.toNat_of_nonneg h0] at h
  exact h
/-- Two stretches of a walk. -/
theorem _root_.Go.RowKit.Below.next {a b c : World} (h : Below a.heap.size a b) (k : Below b.heap.size b c) : Below a.heap.size a c := h.trans (k.mono h.size)
theorem BoxAt.set {w : World} {b : Nat} {x : Array Value} {t : TypeId} (h : BoxAt w b x t) (p : Addr) (v : Value) (hn : p.block ≠ b) : BoxAt (w.setCell p v) b x t :=
  (Below.heap_setCell w p v b (fun e => hn e.symm)).trans h
theorem BoxAt.store {w : World} {b : Nat} {xs : Array Value} {t : TypeId} (h : BoxAt w b xs t) (i : Nat) (v : Value) : BoxAt (w.setCell ⟨b, i, none⟩ v) b (xs.setIfInBounds i v) t := by
  unfold BoxAt at h ⊢
  simp [World.setCell, Array.getElem?_modify, h]
/-- The blocks of C are as they were. -/
structure Keep (C : Nat → Prop) (w w' : World) : Prop where
  os : w'.os = w.os
  tape : w'.tape = w.tape
  output : w'.output = w.output
  size : w.heap.size ≤ w'.heap.size
  block : ∀ k, C k → w'.heap[k]? = w.heap[k]?
section
variable {C : Nat → Prop} {w w1 w2 : World}
theorem Keep.refl (C : Nat → Prop) (w : World) : Keep C w w := ⟨rfl, rfl, rfl, Nat.le_refl _, fun _ _ => rfl⟩
theorem Keep.trans (h : Keep C w w1) (k : Keep C w1 w2) : Keep C w w2 :=
  ⟨k.os.trans h.os, k.tape.trans h.tape, k.output.trans h.output, Nat.le_trans h.size k.size, fun b hb => (k.block b hb).trans (h.block b hb)⟩
theorem Keep.below (h : Keep C w w1) (hb : Below w1.heap.size w1 w2) (hC : ∀ k, C k → k < w.heap.size) : Keep C w w2 :=
  ⟨hb.os.trans h.os, hb.tape.trans h.tape, hb.output.trans h.output, Nat.le_trans h.size hb.size, fun k hk => (hb.block k (by have := h.size; have := hC k hk; omega)).trans (h.block k hk)⟩
theorem Keep.grown {row : Option Nat} (h : Keep C w w1) (hg : w1.grownBy w2 row) (hr : ∀ k, row = some k → ¬ C k) (hC : ∀ k, C k → k < w.heap.size) : Keep C w w2 :=
  ⟨hg.os.trans h.os, hg.tape.trans h.tape, hg.output.trans h.output, Nat.le_trans h.size hg.size, fun k hk => (hg.block k (by have := h.size; have := hC k hk; omega) (fun e => hr k e.symm hk)).trans (h.block k hk)⟩
theorem Keep.set (h : Keep C w w1) (p i : Nat) (v : Value) (hp : ¬ C p) : Keep C w (w1.setCell ⟨p, i, none⟩ v) :=
  ⟨h.os, h.tape, h.output, by rw [size_setCell]; exact h.size, fun k hk => (Below.heap_setCell w1 ⟨p, i, none⟩ v k (fun e => hp (by subst e; exact hk))).trans (h.block k hk)⟩
theorem Keep.mono {C' : Nat → Prop} (h : Keep C w w1) (hc : ∀ k, C' k → C k) : Keep C' w w1 := ⟨h.os, h.tape, h.output, h.size, fun k hk => h.block k (hc k hk)⟩
theorem Keep.cell (h : Keep C w w1) {p : Addr} (hp : C p.block) : w1.cell? p = w.cell? p := World.cell?_of_block (h.block _ hp)
theorem Keep.box (h : Keep C w w1) {b : Nat} {x : Array Value} {t : TypeId} (hx : BoxAt w b x t) (hp : C b) : BoxAt w1 b x t := (h.block _ hp).trans hx
theorem Keep.to_below (h : Keep C w w1) {B : Nat} (hB : ∀ k, k < B → C k) : Below B w w1 := ⟨h.os, h.tape, h.output, h.size, fun k hk => h.block k (hB k hk)⟩
theorem Keep.of_below {B : Nat} (h : Below B w w1) (hC : ∀ k, C k → k < B) : Keep C w w1 := ⟨h.os, h.tape, h.output, h.size, fun k hk => h.block k (hC k hk)⟩
end
end Go.Proofs.YtikeihnhkiipgaaGreat

namespace Go.Proofs.YtikeihnhkiipgaaGreat
open Go.RowKit
namespace Pi
set_option maxHeartbeats 400000 in
theorem within_any (n lo hi : Int) (w : World) :
    Calls Tryz.prog 94 #[.int .i64 n, .int .i64 lo, .int .i64 hi] w fun e w' => e = .returned (.bool (inB n lo hi)) ∧ w = w' := by
  go_enter Tryz.func94, Tryz.ntmps94
  go_wp2
  all_goals
    go_ret
    simp [inB]
    omega
set_option maxHeartbeats 400000 in
theorem ask_true (x : Int) (w : World) :
    Calls Tryz.prog 80 #[.bool true, .int .i64 x] w fun e w' => e = .returned (.tuple #[]) ∧ w = w' := by
  go_enter Tryz.func80, Tryz.ntmps80
  go_wp2
  go_end0
  exact ⟨rfl, rfl⟩
set_option maxHeartbeats 400000 in
theorem ask_false (x : Int) (w : World) :
    Calls Tryz.prog 80 #[.bool false, .int .i64 x] w fun e w' => e = .panicked [{ v := .iface 185 (.int .i64 x), recovered := false }] ∧ w = w' := by
  go_enter Tryz.func80, Tryz.ntmps80
  go_wp2
  exact ⟨rfl, rfl, rfl⟩
/-- 'ask': where it is not so, a panic with the error. -/
def AskPost (b : Bool) (x : Int) (w : World) (e : Ending) (w' : World) : Prop :=
  (e = if b then .returned (.tuple #[]) else .panicked [{ v := .iface 185 (.int .i64 x), recovered := false }]) ∧ w = w'
theorem ask_any (b : Bool) (x : Int) (w : World) : Calls Tryz.prog 80 #[.bool b, .int .i64 x] w (AskPost b x w) := by
  cases b
  · exact (ask_false x w).mono fun e w' h => ⟨by simpa using h.1, h.2⟩
  · exact (ask_true x w).mono fun e w' h => ⟨by simpa using h.1, h.2⟩
def err (x : Int) : Ending := .panicked [{ v := .iface 185 (.int .i64 x), recovered := false }]
set_option maxRecDepth 100000 in
set_option maxHeartbeats 800000 in
theorem answer_idle (b : Nat) (w : World) :
    CallsD Tryz.prog 73 #[bp b] .returning w fun e u' w' => e = .returned (.tuple #[]) ∧ u' = .returning ∧ w' = w := by
  refine callsD_of_wpS Tryz.func73 rfl fun c₀ cs hu => ?_
  apply wpS_seq
  apply wpS_region
  simp [wpOpsS, go_sem, recoverD, hu, Tryz.ntmps73, Exit.thenS]
  have hq : ∀ w, (binOp .neq 20 .nilIface .nilIface).run Tryz.prog w = .ok (.bool false) w := fun _ => by kernel_rfl
  apply wpS_seq
  apply wpS_region
  simp [wpOpsS, go_sem, recoverD, hu, hq, Exit.thenS]
  refine wpS_cond (t := false) (by simp [Act.eval, Array.replicate]) ?_
  simp only [Bool.false_eq_true, if_false]
  refine wpS_of_wp (wp_skip ?_)
  cases c₀
  simp_all [bodyPostS, results]
set_option maxRecDepth 100000 in
set_option maxHeartbeats 800000 in
theorem answer_panicking (b : Nat) (y x : Int) (older : List PanicEntry) (w : World) (hb : BoxAt w b #[.int .i64 y] 33) :
    CallsD Tryz.prog 73 #[bp b] (.panicking ({ v := .iface 185 (.int .i64 x), recovered := false } :: older)) w fun e u' w' =>
      e = .returned (.tuple #[]) ∧ u' = .panicking ({ v := .iface 185 (.int .i64 x), recovered := true } :: older) ∧ w' = w.setCell ⟨b, 0, none⟩ (.int .i64 x) := by
  have c0 := cellAt hb 0
  have f0 := freeAt hb 0
  simp only [List.getElem?_toArray, List.getElem?_cons_zero] at c0
  refine callsD_of_wpS Tryz.func73 rfl fun c₀ cs hu => ?_
  apply wpS_seq
  apply wpS_region
  simp [wpOpsS, go_sem, recoverD, hu, Tryz.ntmps73, Exit.thenS]
  have hq : ∀ w, (binOp .neq 20 (.iface 185 (.int .i64 x)) .nilIface).run Tryz.prog w = .ok (.bool true) w := fun _ => by kernel_rfl
  apply wpS_seq
  apply wpS_region
  simp [wpOpsS, go_sem, recoverD, hq, Exit.thenS]
  refine wpS_cond (t := true) (by simp [Act.eval, Array.replicate]) ?_
  simp only [if_true]
  refine wpS_of_wp ?_
  have hr : Array.replicate 18 undef = #[undef, undef, undef, undef, undef, undef, undef, undef, undef, undef, undef, undef, undef, undef, undef, undef, undef, undef] := rfl
  simp only [hr, List.setIfInBounds_toArray, List.set_cons_zero, List.set_cons_succ, List.append_toArray, List.cons_append, List.nil_append]
  clear hr hq
  have hta : ∀ w, (Instr.typeAssert (.iface 185 (.int .i64 x)) 20 185 true).run Tryz.prog w = .ok (.tuple #[.int .i64 x, .bool true]) w := fun _ => by kernel_rfl
  go_wp2
  refine ⟨rfl, ?_⟩
  cases c₀
  simp_all [results, Tryz.results73]
end Pi
namespace Ga
set_option maxHeartbeats 400000 in
theorem within_any (n lo hi : Int) (w : World) :
    Calls Tryz.prog 29 #[.int .i64 n, .int .i64 lo, .int .i64 hi] w fun e w' => e = .returned (.bool (inB n lo hi)) ∧ w = w' := by
  go_enter Tryz.func29, Tryz.ntmps29
  go_wp2
  all_goals
    go_ret
    simp [inB]
    omega
set_option maxHeartbeats 400000 in
theorem ask_true (x : Int) (w : World) :
    Calls Tryz.prog 25 #[.bool true, .int .i64 x] w fun e w' => e = .returned (.tuple #[]) ∧ w = w' := by
  go_enter Tryz.func25, Tryz.ntmps25
  go_wp2
  go_end0
  exact ⟨rfl, rfl⟩
set_option maxHeartbeats 400000 in
theorem ask_false (x : Int) (w : World) :
    Calls Tryz.prog 25 #[.bool false, .int .i64 x] w fun e w' => e = .panicked [{ v := .iface 116 (.int .i64 x), recovered := false }] ∧ w = w' := by
  go_enter Tryz.func25, Tryz.ntmps25
  go_wp2
  exact ⟨rfl, rfl, rfl⟩
/-- 'ask': where it is not so, a panic with the error. -/
def AskPost (b : Bool) (x : Int) (w : World) (e : Ending) (w' : World) : Prop :=
  (e = if b then .returned (.tuple #[]) else .panicked [{ v := .iface 116 (.int .i64 x), recovered := false }]) ∧ w = w'
theorem ask_any (b : Bool) (x : Int) (w : World) : Calls Tryz.prog 25 #[.bool b, .int .i64 x] w (AskPost b x w) := by
  cases b
  · exact (ask_false x w).mono fun e w' h => ⟨by simpa using h.1, h.2⟩
  · exact (ask_true x w).mono fun e w' h => ⟨by simpa using h.1, h.2⟩
def err (x : Int) : Ending := .panicked [{ v := .iface 116 (.int .i64 x), recovered := false }]
set_option maxRecDepth 100000 in
set_option maxHeartbeats 800000 in
theorem answer_idle (b : Nat) (w : World) :
    CallsD Tryz.prog 19 #[bp b] .returning w fun e u' w' => e = .returned (.tuple #[]) ∧ u' = .returning ∧ w' = w := by
  refine callsD_of_wpS Tryz.func19 rfl fun c₀ cs hu => ?_
  apply wpS_seq
  apply wpS_region
  simp [wpOpsS, go_sem, recoverD, hu, Tryz.ntmps19, Exit.thenS]
  have hq : ∀ w, (binOp .neq 20 .nilIface .nilIface).run Tryz.prog w = .ok (.bool false) w := fun _ => by kernel_rfl
  apply wpS_seq
  apply wpS_region
  simp [wpOpsS, go_sem, recoverD, hu, hq, Exit.thenS]
  refine wpS_cond (t := false) (by simp [Act.eval, Array.replicate]) ?_
  simp only [Bool.false_eq_true, if_false]
  refine wpS_of_wp (wp_skip ?_)
  cases c₀
  simp_all [bodyPostS, results]
set_option maxRecDepth 100000 in
set_option maxHeartbeats 800000 in
theorem answer_panicking (b : Nat) (y x : Int) (older : List PanicEntry) (w : World) (hb : BoxAt w b #[.int .i64 y] 33) :
    CallsD Tryz.prog 19 #[bp b] (.panicking ({ v := .iface 116 (.int .i64 x), recovered := false } :: older)) w fun e u' w' =>
      e = .returned (.tuple #[]) ∧ u' = .panicking ({ v := .iface 116 (.int .i64 x), recovered := true } :: older) ∧ w' = w.setCell ⟨b, 0, none⟩ (.int .i64 x) := by
  have c0 := cellAt hb 0
  have f0 := freeAt hb 0
  simp only [List.getElem?_toArray, List.getElem?_cons_zero] at c0
  refine callsD_of_wpS Tryz.func19 rfl fun c₀ cs hu => ?_
  apply wpS_seq
  apply wpS_region
  simp [wpOpsS, go_sem, recoverD, hu, Tryz.ntmps19, Exit.thenS]
  have hq : ∀ w, (binOp .neq 20 (.iface 116 (.int .i64 x)) .nilIface).run Tryz.prog w = .ok (.bool true) w := fun _ => by kernel_rfl
  apply wpS_seq
  apply wpS_region
  simp [wpOpsS, go_sem, recoverD, hq, Exit.thenS]
  refine wpS_cond (t := true) (by simp [Act.eval, Array.replicate]) ?_
  simp only [if_true]
  refine wpS_of_wp ?_
  have hr : Array.replicate 18 undef = #[undef, undef, undef, undef, undef, undef, undef, undef, undef, undef, undef, undef, undef, undef, undef, undef, undef, undef] := rfl
  simp only [hr, List.setIfInBounds_toArray, List.set_cons_zero, List.set_cons_succ, List.append_toArray, List.cons_append, List.nil_append]
  clear hr hq
  have hta : ∀ w, (Instr.typeAssert (.iface 116 (.int .i64 x)) 20 116 true).run Tryz.prog w = .ok (.tuple #[.int .i64 x, .bool true]) w := fun _ => by kernel_rfl
  go_wp2
  refine ⟨rfl, ?_⟩
  cases c₀
  simp_all [results, Tryz.results19]
end Ga
end Go.Proofs.YtikeihnhkiipgaaGreat

namespace Go.Proofs.YtikeihnhkiipgaaGreat
open Go.RowKit

/-- How many of the first n bits are set. -/
def bitsum : Nat → Nat → Nat
  | 0, _ => 0
  | n + 1, m => (m.testBit n).toNat + bitsum n m
theorem bitsum_le (n m : Nat) : bitsum n m ≤ n := by
  induction n with
  | zero => exact Nat.le_refl 0
  | succ n ih => unfold bitsum; have : (m.testBit n).toNat ≤ 1 := Bool.toNat_le _; omega
def oA (m : Nat) : Nat := (m / 2 &&& 6148914691236517205) + (m &&& 6148914691236517205)
def oB (m : Nat) : Nat := (m / 4 &&& 3689348814741910323) + (m &&& 3689348814741910323)
def oC (m : Nat) : Nat := (m / 16 + m) &&& 1085102592571150095
def oD (m : Nat) : Nat := m + m / 256
def oE (m : Nat) : Nat := m + m / 65536
def oF (m : Nat) : Nat := m + m / 4294967296
def onesOk (m : Nat) : Prop := oA m < 4096 ∧ oB (oA m) < 4096 ∧ oC (oB (oA m)) < 4096 ∧ oD (oC (oB (oA m))) < 4096 ∧ oE (oD (oC (oB (oA m)))) < 4096 ∧ oF (oE (oD (oC (oB (oA m))))) < 4096 ∧ oF (oE (oD (oC (oB (oA m))))) % 128 = bitsum 12 m
theorem ones_fin64 : ∀ a b : Fin 64, (let m := a.val * 64 + b.val; oA m < 4096 ∧ oB (oA m) < 4096 ∧ oC (oB (oA m)) < 4096 ∧ oD (oC (oB (oA m))) < 4096 ∧ oE (oD (oC (oB (oA m)))) < 4096 ∧ oF (oE (oD (oC (oB (oA m))))) < 4096 ∧ oF (oE (oD (oC (oB (oA m))))) % 128 = bitsum 12 m) := by decide +kernel
theorem ones_fin (m : Nat) (hm : m < 4096) : onesOk m := by
  have h := ones_fin64 ⟨m / 64, by omega⟩ ⟨m % 64, by omega⟩
  dsimp only at h
  rwa [show m / 64 * 64 + m % 64 = m by omega] at h
theorem and64 {a : Int} {n : Nat} (h : a = n) (hn : n < 18446744073709551616) (b : Nat) (hb : b < 18446744073709551616) : bits .and .u64 a b = ((n &&& b : Nat) : Int) := by
  rw [h]; exact u64_and_nat n b hn hb
theorem wrap64u {a : Int} {n : Nat} (h : a = n) (hn : n < 18446744073709551616) : IntKind.u64.wrap a = n := by
  rw [h]; exact IntWalk.u64_in _ (by omega)
set_option maxRecDepth 100000 in
set_option maxHeartbeats 1600000 in
theorem ones64_any (m : Nat) (w : World) (hm : m < 4096) :
    Calls Tryz.prog 111 #[.int .u64 m] w fun e w' => e = .returned (.int .i64 (bitsum 12 m)) ∧ w = w' := by
  obtain ⟨h1, h2, h3, h4, h5, h6, h7⟩ := ones_fin m hm
  have x1 : bits .and .u64 ((m : Int) / 2) 6148914691236517205 = ((m / 2 &&& 6148914691236517205 : Nat) : Int) := and64 (by omega) (by omega) 6148914691236517205 (by omega)
  have y1 : bits .and .u64 (m : Int) 6148914691236517205 = ((m &&& 6148914691236517205 : Nat) : Int) := and64 rfl (by omega) 6148914691236517205 (by omega)
  have z1 : IntKind.u64.wrap (((m / 2 &&& 6148914691236517205 : Nat) : Int) + ((m &&& 6148914691236517205 : Nat) : Int)) = (oA m : Nat) := wrap64u (by unfold oA; omega) (by omega)
  generalize m / 2 &&& 6148914691236517205 = X1 at *
  generalize m &&& 6148914691236517205 = Y1 at *
  generalize oA m = s1 at *
  have x2 : bits .and .u64 ((s1 : Int) / 4) 3689348814741910323 = ((s1 / 4 &&& 3689348814741910323 : Nat) : Int) := and64 (by omega) (by omega) 3689348814741910323 (by omega)
  have y2 : bits .and .u64 (s1 : Int) 3689348814741910323 = ((s1 &&& 3689348814741910323 : Nat) : Int) := and64 rfl (by omega) 3689348814741910323 (by omega)
  have z2 : IntKind.u64.wrap (((s1 / 4 &&& 3689348814741910323 : Nat) : Int) + ((s1 &&& 3689348814741910323 : Nat) : Int)) = (oB s1 : Nat) := wrap64u (by unfold oB; omega) (by omega)
  generalize s1 / 4 &&& 3689348814741910323 = X2 at *
  generalize s1 &&& 3689348814741910323 = Y2 at *
  generalize oB s1 = s2 at *
  have x3 : IntKind.u64.wrap ((s2 : Int) / 16 + (s2 : Int)) = ((s2 / 16 + s2 : Nat) : Int) := wrap64u (by omega) (by omega)
  have z3 : bits .and .u64 ((s2 / 16 + s2 : Nat) : Int) 1085102592571150095 = (oC s2 : Nat) := and64 rfl (by omega) 1085102592571150095 (by omega)
  generalize s2 / 16 + s2 = X3 at *
  generalize oC s2 = s3 at *
  have z4 : IntKind.u64.wrap ((s3 : Int) + (s3 : Int) / 256) = (oD s3 : Nat) := wrap64u (by unfold oD; omega) (by omega)
  generalize oD s3 = s4 at *
  have z5 : IntKind.u64.wrap ((s4 : Int) + (s4 : Int) / 65536) = (oE s4 : Nat) := wrap64u (by unfold oE; omega) (by omega)
  generalize oE s4 = s5 at *
  have z6 : IntKind.u64.wrap ((s5 : Int) + (s5 : Int) / 4294967296) = (oF s5 : Nat) := wrap64u (by unfold oF; omega) (by omega)
  generalize oF s5 = s6 at *
  have z7 : IntKind.i64.wrap (s6 : Int) = s6 := IntWalk.i64_in _ (by omega)
  have z8 : bits .and .i64 (s6 : Int) 127 = ((s6 % 128 : Nat) : Int) := by rw [i64_and127]; omega
  go_enter Tryz.func111, Tryz.ntmps111
  go_wp2
  go_ret
  exact ⟨rfl, rfl⟩
theorem ones_any (m : Nat) (w : World) (hm : m < 4096) :
    Calls Tryz.prog 107 #[.int .u64 m] w fun e w' => e = .returned (.int .i64 (bitsum 12 m)) ∧ w = w' := by
  go_enter Tryz.func107, Tryz.ntmps107
  go_wp2_with (go_at_call 111; refine (ones64_any m _ hm).mono ?_; rintro e w' ⟨rfl, rfl⟩)
  go_ret
  exact ⟨rfl, rfl⟩
theorem count_any (m : Nat) (w : World) (hm : m < 4096) :
    Calls Tryz.prog 97 #[.int .u64 m] w fun e w' => e = .returned (.int .i64 (bitsum 12 m)) ∧ w = w' := by
  go_enter Tryz.func97, Tryz.ntmps97
  go_wp2_with (go_at_call 107; refine (ones_any m _ hm).mono ?_; rintro e w' ⟨rfl, rfl⟩)
  go_ret
  exact ⟨rfl, rfl⟩
end Go.Proofs.YtikeihnhkiipgaaGreat

namespace Go.Proofs.YtikeihnhkiipgaaGreat
open Go.RowKit

theorem testBit_and_one' (m n : Nat) : ((m >>> n) &&& 1 == 1) = m.testBit n := testBit_and_one m n
theorem pow2_cast (n : Nat) : ((2 : Int) ^ n) = ((2 ^ n : Nat) : Int) := by simp
theorem pow2_lt {a b : Nat} (h : a ≤ b) : 2 ^ a ≤ 2 ^ b := Nat.pow_le_pow_right (by omega) h
theorem pow2_lt64 {a : Nat} (h : a ≤ 60) : 2 ^ a < 18446744073709551616 := Nat.lt_of_le_of_lt (pow2_lt h) (by decide)
theorem wrap_pow {a : Nat} (h : a ≤ 60) : IntKind.u64.wrap ((2 : Int) ^ a) = ((2 ^ a : Nat) : Int) := by
  rw [pow2_cast]
  exact wrap64u rfl (pow2_lt64 h)
/-- The hours from one on, to another one. -/
def str (f t : Nat) : Nat := 2 ^ t - 2 ^ f
theorem stretch_any (f t : Nat) (w : World) (h : f ≤ t) (ht : t ≤ 60) :
    Calls Tryz.prog 98 #[.int .i64 f, .int .i64 t] w fun e w' => e = .returned (.int .u64 (str f t)) ∧ ∃ j, w' = w.drewN j := by
  have hp := pow2_lt h
  have hq := pow2_lt64 ht
  have hx := Lib.hid (show IntKind.u64.wrap (((2 ^ t : Nat) : Int) - ((2 ^ f : Nat) : Int)) = (str f t : Nat) from wrap64u (by unfold str; rw [Int.natCast_sub hp]) (by unfold str; exact Nat.lt_of_le_of_lt (Nat.sub_le _ _) hq))
  have e1 := Lib.hid (wrap_pow ht)
  have e2 := Lib.hid (wrap_pow (show f ≤ 60 by omega))
  clear hp hq
  go_enter Tryz.func98, Tryz.ntmps98
  go_wp2_with fail
  go_quiet (fail)
  go_wp2
  go_ret
  refine ⟨ret_int ?_, _, rfl⟩
  have h1 := e1.out
  have h2 := e2.out
  have h3 := hx.out
  rw [IntKind.wrap_u64] at h1 h2 h3
  show ((2 : Int) ^ t % 18446744073709551616 - 2 ^ f % 18446744073709551616) % 18446744073709551616 = _
  rw [h1, h2, h3]
set_option maxHeartbeats 400000 in
theorem meets_any (m n : Nat) (w : World) (hm : m < 18446744073709551616) (hn : n < 18446744073709551616) :
    Calls Tryz.prog 103 #[.int .u64 m, .int .u64 n] w fun e w' => e = .returned (.bool (m &&& n != 0)) ∧ w = w' := by
  have e := u64_and_nat m n hm hn
  generalize m &&& n = x at *
  have hb : ((x : Int) != 0) = (x != 0) := by rw [Bool.eq_iff_iff]; simp
  have HB := Lib.hid hb
  clear hb
  go_enter Tryz.func103, Tryz.ntmps103
  go_wp2
  go_ret
  exact ⟨ret_bool HB.out, rfl⟩
set_option maxHeartbeats 400000 in
theorem has_any (m n : Nat) (w : World) (hm : m < 18446744073709551616) (hn : n ≤ 60) :
    Calls Tryz.prog 57 #[.int .u64 m, .int .i64 n] w fun e w' => e = .returned (.bool (m.testBit n)) ∧ w = w' := by
  go_enter Tryz.func57, Tryz.ntmps57
  go_wp2
  go_ret
  refine ⟨ret_bool ?_, rfl⟩
  have e2 : ((m : Int) / 2 ^ n) = ((m >>> n : Nat) : Int) := by rw [Nat.shiftRight_eq_div_pow]; simp
  have e3 : m >>> n < 18446744073709551616 := by rw [Nat.shiftRight_eq_div_pow]; exact Nat.lt_of_le_of_lt (Nat.div_le_self _ _) hm
  rw [e2]
  have e4 := u64_and_nat (m >>> n) 1 e3 (by omega)
  simp only [Int.natCast_one] at e4
  rw [e4, ← testBit_and_one, Bool.eq_iff_iff, beq_iff_eq, beq_iff_eq]
  omega
set_option maxHeartbeats 400000 in
theorem with_any (m n : Nat) (w : World) (hm : m < 18446744073709551616) (hn : n ≤ 60) :
    Calls Tryz.prog 26 #[.int .u64 m, .int .i64 n] w fun e w' => e = .returned (.int .u64 (m ||| 2 ^ n : Nat)) ∧ w = w' := by
  have e1 := wrap_pow hn
  have e2 := u64_or_nat m (2 ^ n) hm (pow2_lt64 hn)
  have E1 := Lib.hid e1
  have E2 := Lib.hid e2
  clear e1 e2
  go_enter Tryz.func26, Tryz.ntmps26
  go_wp2
  go_ret
  refine ⟨ret_int ?_, rfl⟩
  have h1 := E1.out
  rw [IntKind.wrap_u64] at h1
  show bits .or .u64 (m : Int) ((2 : Int) ^ n % 18446744073709551616) = _
  rw [h1, E2.out]
set_option maxHeartbeats 400000 in
theorem without_any (m n : Nat) (w : World) (hm : m < 18446744073709551616) (hn : n < 18446744073709551616) :
    Calls Tryz.prog 63 #[.int .u64 m, .int .u64 n] w fun e w' => e = .returned (.int .u64 ((m &&& (18446744073709551615 - n) : Nat) : Int)) ∧ w = w' := by
  have E := Lib.hid (u64_andNot_nat m n hm hn)
  go_enter Tryz.func63, Tryz.ntmps63
  go_wp2
  go_ret
  exact ⟨ret_int E.out, rfl⟩
set_option maxHeartbeats 400000 in
theorem every_any (n : Nat) (w : World) (hn : n ≤ 60) :
    Calls Tryz.prog 23 #[.int .i64 n] w fun e w' => e = .returned (.int .u64 (2 ^ n - 1 : Nat)) ∧ w = w' := by
  have E1 := Lib.hid (wrap_pow hn)
  have E2 := Lib.hid (show IntKind.u64.wrap (((2 ^ n : Nat) : Int) - 1) = ((2 ^ n - 1 : Nat) : Int) from wrap64u (by have := Nat.two_pow_pos n; omega) (by have := pow2_lt64 hn; omega))
  go_enter Tryz.func23, Tryz.ntmps23
  go_wp2
  go_ret
  refine ⟨ret_int ?_, rfl⟩
  have h1 := E1.out
  have h2 := E2.out
  rw [IntKind.wrap_u64] at h1 h2
  show ((2 : Int) ^ n % 18446744073709551616 - 1) % 18446744073709551616 = _
  rw [h1, h2]
end Go.Proofs.YtikeihnhkiipgaaGreat

namespace Go.Proofs.YtikeihnhkiipgaaGreat
open Go.RowKit

theorem size_hours : (Tryz.prog.info? 158).map (·.size) = some 1 := by kernel_rfl
theorem size_int : (Tryz.prog.info? 3).map (·.size) = some 1 := by kernel_rfl
theorem size_pot : (Tryz.prog.info? 111).map (·.size) = some 3 := by kernel_rfl
theorem or_lt64 {a b : Nat} (ha : a < 18446744073709551616) (hb : b < 18446744073709551616) : a ||| b < 18446744073709551616 := Nat.or_lt_two_pow (n := 64) ha hb
/-- Two sets, one behind the other. -/
def TwoAt (w : World) (oa : Option Addr) (a b : Nat) : Prop := Row w oa 2 1 (fun i _ => .int .u64 ((if i = 0 then a else b : Nat) : Int))
theorem row_lit {W : World} {g n sz : Nat} {cs : Array Value} {t : TypeId} {cell : Nat → Nat → Value} (h : BoxAt W g cs t) (hn : n ≤ maxLen) (hc : ∀ i, i < n → ∀ j, j < sz → cs[i * sz + j]? = some (cell i j)) : Row W (some ⟨g, 0, none⟩) n sz cell := by
  refine ⟨fun _ => rfl, fun _ => lt_of_heap h, hn, fun i hi j hj => ?_⟩
  show W.cell? ⟨g, 0 + i * sz + j, none⟩ = _
  rw [cellAt h, Nat.zero_add]
  exact hc i hi j hj
theorem two_lit {W : World} {g a b : Nat} {t : TypeId} (h : BoxAt W g #[.int .u64 a, .int .u64 b] t) : TwoAt W (some ⟨g, 0, none⟩) a b :=
  row_lit h (by unfold maxLen; omega) fun i hi j hj => by
    obtain rfl : j = 0 := by omega
    rcases (show i = 0 ∨ i = 1 by omega) with rfl | rfl <;> rfl
theorem joined_any (oa : Option Addr) (cap a b : Nat) (w : World) (h : TwoAt w oa a b) (ha : a < 18446744073709551616) (hb : b < 18446744073709551616) :
    Calls Tryz.prog 96 #[.slice oa 2 cap] w fun e w' => e = .returned (.int .u64 (a ||| b : Nat)) ∧ w = w' := by
  have hi := fun k (hk : k < 2) => run_indexAt_row (w := w) (cap := cap) (n := 2) Tryz.underlying198 size_hours (h.plain (by omega)) hk
  have c0 := h.cells 0 (by omega) 0 (by omega)
  have c1 := h.cells 1 (by omega) 0 (by omega)
  simp only [Nat.zero_mul, Nat.one_mul, Nat.add_zero, if_true, if_neg (show ¬ (1 : Nat) = 0 by omega)] at c0 c1
  have i0 := hi 0 (by omega)
  have i1 := hi 1 (by omega)
  simp only [Nat.zero_mul, Nat.one_mul, Nat.add_zero, Int.natCast_zero, Int.natCast_one] at i0 i1
  have e0 := u64_or_nat 0 a (by omega) ha
  have e1 := u64_or_nat a b ha hb
  rw [Nat.zero_or, Int.natCast_zero] at e0
  clear hi h
  go_enter Tryz.func96, Tryz.ntmps96
  go_wp2_with fail
  refine wp_loop_rounds 3 ?_
  rw [rounds_succ]
  go_wp2_with fail
  rw [rounds_succ]
  go_wp2_with fail
  rw [rounds_succ]
  go_wp2_with fail
  go_ret
  exact ⟨rfl, rfl⟩
end Go.Proofs.YtikeihnhkiipgaaGreat
