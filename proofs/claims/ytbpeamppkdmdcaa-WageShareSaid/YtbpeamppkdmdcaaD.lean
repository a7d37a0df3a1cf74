/-
  Rows of memory that a slice points at, whether or not the slice is nil; no program in sight.
-/
import Derived.WalkKit
import Derived.WalkSpells
import Derived.Lib.Hide
namespace Go.Proofs.Ytbpeamppkdmdcaa
open Go.RowKit

def blk : Option Addr → Nat
  | some a => a.block
  | none => 0
def ofs : Option Addr → Nat
  | some a => a.off
  | none => 0

/-- The slice at oa has n elements of sz cells each, that hold 'cell i j'; all of it lies in the world. -/
structure Row (w : World) (oa : Option Addr) (n sz : Nat) (cell : Nat → Nat → Value) : Prop where
  plain : 0 < n → oa = some ⟨blk oa, ofs oa, none⟩
  old : 0 < n → blk oa < w.heap.size
  small : n ≤ maxLen
  cells : ∀ i, i < n → ∀ j, j < sz → w.cell? ⟨blk oa, ofs oa + i * sz + j, none⟩ = some (cell i j)

theorem Row.below {B : Nat} {w w' : World} {oa : Option Addr} {n sz : Nat} {cell : Nat → Nat → Value} (h : Row w oa n sz cell) (hb : Below B w w') (hB : 0 < n → blk oa < B) : Row w' oa n sz cell where
  plain := h.plain
  old := fun hn => Nat.lt_of_lt_of_le (h.old hn) hb.size
  small := h.small
  cells := fun i hi j hj => (hb.cell (p := ⟨blk oa, _, none⟩) (hB (by omega))).trans (h.cells i hi j hj)

theorem Row.grow {w w' : World} {oa : Option Addr} {n sz : Nat} {cell : Nat → Nat → Value} (h : Row w oa n sz cell) (hb : Below w.heap.size w w') : Row w' oa n sz cell :=
  h.below hb h.old

theorem run_indexAt_row {P : Program} {t e : TypeId} {sz : Nat} {w : World} {oa : Option Addr} {n cap k : Nat} (ht : P.underlying t = some (.slice e)) (hs : (P.info? e).map (·.size) = some sz) (hoa : oa = some ⟨blk oa, ofs oa, none⟩) (hk : k < n) :
    (Instr.indexAt t (.slice oa n cap) (.int .i64 k)).run P w = .ok (.pointer (some ⟨blk oa, ofs oa + k * sz, none⟩)) w := by
  rw [hoa]
  obtain ⟨i, hi, hz⟩ := Option.map_eq_some_iff.1 hs
  simp [Instr.indexAt, go_sem, run_underlying ht, asIntOf, hk, sizeOf, typeInfo, hi, hz, Addr.add, blk, ofs]

/-! Worlds under one name: what lies in the blocks that were just made. -/
theorem heapAlloc (w : World) (o : Obj) (i : Nat) : (w.alloc o).heap[i]? = if i = w.heap.size then some o else w.heap[i]? := by
  show (w.heap.push o)[i]? = _
  rw [Array.getElem?_push]
theorem sizeAlloc (w : World) (o : Obj) : (w.alloc o).heap.size = w.heap.size + 1 := by
  show (w.heap.push o).size = _
  simp
theorem blocks1 {w W : World} {a : Obj} (h : w.alloc a = W) : W.heap[w.heap.size]? = some a ∧ W.heap.size = w.heap.size + 1 ∧ Below w.heap.size w W := by
  subst h
  exact ⟨by simp only [heapAlloc, if_true], by simp only [sizeAlloc], (Below.refl _ _).alloc (Nat.le_refl _) _⟩
theorem blocks2 {w W : World} {a b : Obj} (h : (w.alloc a).alloc b = W) : W.heap[w.heap.size]? = some a ∧ W.heap[w.heap.size + 1]? = some b ∧ W.heap.size = w.heap.size + 2 ∧ Below w.heap.size w W := by
  subst h
  refine ⟨?_, ?_, by simp only [sizeAlloc], ((Below.refl _ _).alloc (Nat.le_refl _) _).alloc (by simp) _⟩
  · simp only [heapAlloc, sizeAlloc]; repeat (first | rfl | rw [if_pos trivial] | rw [if_neg (by omega)])
  · simp only [heapAlloc, sizeAlloc]; repeat (first | rfl | rw [if_pos trivial] | rw [if_neg (by omega)])
theorem blocks3 {w W : World} {a b c : Obj} (h : ((w.alloc a).alloc b).alloc c = W) : W.heap[w.heap.size]? = some a ∧ W.heap[w.heap.size + 1]? = some b ∧ W.heap[w.heap.size + 1 + 1]? = some c ∧ W.heap.size = w.heap.size + 3 ∧ Below w.heap.size w W := by
  subst h
  refine ⟨?_, ?_, ?_, by simp only [sizeAlloc], (((Below.refl _ _).alloc (Nat.le_refl _) _).alloc (by simp) _).alloc (by simp; omega) _⟩
  · simp only [heapAlloc, sizeAlloc]; repeat (first | rfl | rw [if_pos trivial] | rw [if_neg (by omega)])
  · simp only [heapAlloc, sizeAlloc]; repeat (first | rfl | rw [if_pos trivial] | rw [if_neg (by omega)])
  · simp only [heapAlloc, sizeAlloc]; repeat (first | rfl | rw [if_pos trivial] | rw [if_neg (by omega)])
theorem blocks4 {w W : World} {a b c d : Obj} (h : (((w.alloc a).alloc b).alloc c).alloc d = W) : W.heap[w.heap.size]? = some a ∧ W.heap[w.heap.size + 1]? = some b ∧ W.heap[w.heap.size + 1 + 1]? = some c ∧ W.heap[w.heap.size + 1 + 1 + 1]? = some d ∧ W.heap.size = w.heap.size + 4 ∧ Below w.heap.size w W := by
  subst h
  refine ⟨?_, ?_, ?_, ?_, by simp only [sizeAlloc], ((((Below.refl _ _).alloc (Nat.le_refl _) _).alloc (by simp) _).alloc (by simp; omega) _).alloc (by simp; omega) _⟩
  · simp only [heapAlloc, sizeAlloc]; repeat (first | rfl | rw [if_pos trivial] | rw [if_neg (by omega)])
  · simp only [heapAlloc, sizeAlloc]; repeat (first | rfl | rw [if_pos trivial] | rw [if_neg (by omega)])
  · simp only [heapAlloc, sizeAlloc]; repeat (first | rfl | rw [if_pos trivial] | rw [if_neg (by omega)])
  · simp only [heapAlloc, sizeAlloc]; repeat (first | rfl | rw [if_pos trivial] | rw [if_neg (by omega)])
theorem blocks5 {w W : World} {a b c d e : Obj} (h : ((((w.alloc a).alloc b).alloc c).alloc d).alloc e = W) : W.heap[w.heap.size]? = some a ∧ W.heap[w.heap.size + 1]? = some b ∧ W.heap[w.heap.size + 1 + 1]? = some c ∧ W.heap[w.heap.size + 1 + 1 + 1]? = some d ∧ W.heap[w.heap.size + 1 + 1 + 1 + 1]? = some e ∧ W.heap.size = w.heap.size + 5 ∧ Below w.heap.size w W := by
  subst h
  refine ⟨?_, ?_, ?_, ?_, ?_, by simp only [sizeAlloc], (((((Below.refl _ _).alloc (Nat.le_refl _) _).alloc (by simp) _).alloc (by simp; omega) _).alloc (by simp; omega) _).alloc (by simp; omega) _⟩
  · simp only [heapAlloc, sizeAlloc]; repeat (first | rfl | rw [if_pos trivial] | rw [if_neg (by omega)])
  · simp only [heapAlloc, sizeAlloc]; repeat (first | rfl | rw [if_pos trivial] | rw [if_neg (by omega)])
  · simp only [heapAlloc, sizeAlloc]; repeat (first | rfl | rw [if_pos trivial] | rw [if_neg (by omega)])
  · simp only [heapAlloc, sizeAlloc]; repeat (first | rfl | rw [if_pos trivial] | rw [if_neg (by omega)])
  · simp only [heapAlloc, sizeAlloc]; repeat (first | rfl | rw [if_pos trivial] | rw [if_neg (by omega)])

theorem cellAt {w : World} {b : Nat} {cs : Array Value} {t : TypeId} {fr : Nat × Nat} (h : w.heap[b]? = some (.cells cs t fr)) (i : Nat) : w.cell? ⟨b, i, none⟩ = cs[i]? := by simp [World.cell?, h]
theorem freeAt {w : World} {b : Nat} {cs : Array Value} {t : TypeId} (h : w.heap[b]? = some (.cells cs t (0, 0))) (i : Nat) : w.frozen? ⟨b, i, none⟩ = false := by simp [World.frozen?, h]
theorem Below.heapAt {B : Nat} {w w' : World} (h : Below B w w') {b : Nat} (hb : b < B) : w'.heap[b]? = w.heap[b]? := h.block b hb
theorem lt_of_heap {w : World} {b : Nat} {o : Obj} (h : w.heap[b]? = some o) : b < w.heap.size := (Array.getElem?_eq_some_iff.1 h).1

/-! What lies in the rows: integers, seams (two cells), tickets (eight cells). -/
def IntsAt (w : World) (oa : Option Addr) (n : Nat) (f : Nat → Int) : Prop := Row w oa n 1 (fun i _ => .int .i64 (f i))
theorem IntsAt.grow {w w' : World} {oa : Option Addr} {n : Nat} {f : Nat → Int} (h : IntsAt w oa n f) (hb : Below w.heap.size w w') : IntsAt w' oa n f := Row.grow h hb
theorem IntsAt.at {w : World} {oa : Option Addr} {n : Nat} {f : Nat → Int} (h : IntsAt w oa n f) {k : Nat} (hk : k < n) : w.cell? ⟨blk oa, ofs oa + k, none⟩ = some (.int .i64 (f k)) := by
  have := h.cells k hk 0 (by omega)
  simpa using this

structure Sm where
  fat : Int
  rate : Int
structure Tk where
  crew : Int
  seam : Int
  fl : Int
  fh : Int
  tl : Int
  th : Int
  dl : Int
  dh : Int
def Sm.cell (s : Sm) : Nat → Value
  | 0 => .int .i64 s.fat
  | _ => .int .i64 s.rate
def Tk.cell (t : Tk) : Nat → Value
  | 0 => .int .i64 t.crew
  | 1 => .int .i64 t.seam
  | 2 => .int .i64 t.fl
  | 3 => .int .i64 t.fh
  | 4 => .int .i64 t.tl
  | 5 => .int .i64 t.th
  | 6 => .int .i64 t.dl
  | _ => .int .i64 t.dh
def SeamsAt (w : World) (oa : Option Addr) (n : Nat) (s : Nat → Sm) : Prop := Row w oa n 2 (fun i j => (s i).cell j)
def TicketsAt (w : World) (oa : Option Addr) (n : Nat) (t : Nat → Tk) : Prop := Row w oa n 8 (fun i j => (t i).cell j)
theorem SeamsAt.grow {w w' : World} {oa : Option Addr} {n : Nat} {s : Nat → Sm} (h : SeamsAt w oa n s) (hb : Below w.heap.size w w') : SeamsAt w' oa n s := Row.grow h hb
theorem TicketsAt.grow {w w' : World} {oa : Option Addr} {n : Nat} {t : Nat → Tk} (h : TicketsAt w oa n t) (hb : Below w.heap.size w w') : TicketsAt w' oa n t := Row.grow h hb
theorem SeamsAt.at {w : World} {oa : Option Addr} {n : Nat} {s : Nat → Sm} (h : SeamsAt w oa n s) {k : Nat} (hk : k < n) :
    w.cell? ⟨blk oa, ofs oa + k * 2, none⟩ = some (.int .i64 (s k).fat) ∧ w.cell? ⟨blk oa, ofs oa + k * 2 + 1, none⟩ = some (.int .i64 (s k).rate) :=
  ⟨h.cells k hk 0 (by omega), h.cells k hk 1 (by omega)⟩
theorem TicketsAt.at {w : World} {oa : Option Addr} {n : Nat} {t : Nat → Tk} (h : TicketsAt w oa n t) {k : Nat} (hk : k < n) :
    w.cell? ⟨blk oa, ofs oa + k * 8, none⟩ = some (.int .i64 (t k).crew) ∧ w.cell? ⟨blk oa, ofs oa + k * 8 + 1, none⟩ = some (.int .i64 (t k).seam) ∧
    w.cell? ⟨blk oa, ofs oa + k * 8 + 2, none⟩ = some (.int .i64 (t k).fl) ∧ w.cell? ⟨blk oa, ofs oa + k * 8 + 3, none⟩ = some (.int .i64 (t k).fh) ∧
    w.cell? ⟨blk oa, ofs oa + k * 8 + 4, none⟩ = some (.int .i64 (t k).tl) ∧ w.cell? ⟨blk oa, ofs oa + k * 8 + 5, none⟩ = some (.int .i64 (t k).th) ∧
    w.cell? ⟨blk oa, ofs oa + k * 8 + 6, none⟩ = some (.int .i64 (t k).dl) ∧ w.cell? ⟨blk oa, ofs oa + k * 8 + 7, none⟩ = some (.int .i64 (t k).dh) :=
  ⟨h.cells k hk 0 (by omega), h.cells k hk 1 (by omega), h.cells k hk 2 (by omega), h.cells k hk 3 (by omega), h.cells k hk 4 (by omega), h.cells k hk 5 (by omega), h.cells k hk 6 (by omega), h.cells k hk 7 (by omega)⟩
end Go.Proofs.Ytbpeamppkdmdcaa
