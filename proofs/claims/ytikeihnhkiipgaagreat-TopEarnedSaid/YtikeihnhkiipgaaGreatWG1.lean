/-
  --DROP
  Rows of memory that a slice points at, whether or not the slice is nil; no program in sight.
  A region that draws its order, in the round of a range over a function: what is shown of it outside a round holds there. No program in sight.
  Walks: the small functions of package wage.
  Walks: the truth that is told by three lists.
  Walks: comparing, and the insertion sort of the tickets' numbers.
  Plain law: sets of fathoms as bits; how many there are.
  Plain law: an insertion sort by a key that keeps the order of equal ones.
  Walks: counting the bits of a set of fathoms.
  Walks: the library's insertion sort, at the tickets' numbers.
  Walks: the library's stable sort of at most six numbers.
  The map of what is owned: by place (seam and crew), in words that a walk can use.
  The array of known tickets in memory; the row of their numbers; who is asked for the truth.
-/
import Derived.WalkKit
import Derived.WalkSpells
import Derived.Lib.Hide
import Derived.RangeFuncCalls
import Derived.OwnWalkIn
import Derived.OrdersIn
import Derived.Deep.RegionHeld3
import Derived.Test.YtikeihnhkiipgaaGreatProg
import Derived.WalkLawsBesides
import Derived.Deep.QuietTactic
import Derived.BigQuiet
import Derived.Deep.DrawnRows
import Derived.Laws.BitsAllLaws
import Derived.Laws.ShiftsVarLaws
import Derived.Lib.BitFns
import Derived.KernelRfl
import Derived.Laws.AppendOwn
import Derived.BigRegion
import Derived.RegionTactic
import Derived.Maps.Own
import Derived.Maps.Views
import Derived.WideKeyEntry
import Derived.DeepKeys4
namespace Go.Proofs.YtikeihnhkiipgaaGreat.Wa
open Go.RowKit

def blk : Option Addr → Nat
  | some a => a.block
  | none => 0
def ofs : Option Addr → Nat
  | some a => a.off
  | none => 0

/-- The slice at oa has n elements of sz cells each, that hold 'cell i j'; all of it lies in the world. -/
structure Row (w : World) (oa : Option Addr) (n sz : Nat) (cell : Nat → Nat → Value) : Prop where
  plain : 0 < n → oa = some ⟨blk oa, ofs oa, none⟩
  old : 0 < n → blk oa < w.heap.size
  small : n ≤ maxLen
  cells : ∀ i, i < n → ∀ j, j < sz → w.cell? ⟨blk oa, ofs oa + i * sz + j, none⟩ = some (cell i j)

theorem Row.below {B : Nat} {w w' : World} {oa : Option Addr} {n sz : Nat} {cell : Nat → Nat → Value} (h : Row w oa n sz cell) (hb : Below B w w') (hB : 0 < n → blk oa < B) : Row w' oa n sz cell where
  plain := h.plain
  old := fun hn => Nat.lt_of_lt_of_le (h.old hn) hb.size
  small := h.small
  cells := fun i hi j hj => (hb.cell (p := ⟨blk oa, _, none⟩) (hB (by omega))).trans (h.cells i hi j hj)

theorem Row.grow {w w' : World} {oa : Option Addr} {n sz : Nat} {cell : Nat → Nat → Value} (h : Row w oa n sz cell) (hb : Below w.heap.size w w') : Row w' oa n sz cell :=
  h.below hb h.old

theorem run_indexAt_row {P : Program} {t e : TypeId} {sz : Nat} {w : World} {oa : Option Addr} {n cap k : Nat} (ht : P.underlying t = some (.slice e)) (hs : (P.info? e).map (·.size) = some sz) (hoa : oa = some ⟨blk oa, ofs oa, none⟩) (hk : k < n) :
    (Instr.indexAt t (.slice oa n cap) (.int .i64 k)).run P w = .ok (.pointer (some ⟨blk oa, ofs oa + k * sz, none⟩)) w := by
  rw [hoa]
  obtain ⟨i, hi, hz⟩ := Option.map_eq_some_iff.1 hs
  simp [Instr.indexAt, go_sem, run_underlying ht, asIntOf, hk, sizeOf, typeInfo, hi, hz, Addr.add, blk, ofs]

/-! Worlds under one name: what lies in the blocks that were just made. -/
theorem heapAlloc (w : World) (o : Obj) (i : Nat) : (w.alloc o).heap[i]? = if i = w.heap.size then some o else w.heap[i]? := by
  show (w.heap.push o)[i]? = _
  rw [Array.getElem?_push]
theorem sizeAlloc (w : World) (o : Obj) : (w.alloc o).heap.size = w.heap.size + 1 := by
  show (w.heap.push o).size = _
  simp
theorem blocks1 {w W : World} {a : Obj} (h : w.alloc a = W) : W.heap[w.heap.size]? = some a ∧ W.heap.size = w.heap.size + 1 ∧ Below w.heap.size w W := by
  subst h
  exact ⟨by simp only [heapAlloc, if_true], by simp only [sizeAlloc], (Below.refl _ _).alloc (Nat.le_refl _) _⟩
theorem blocks2 {w W : World} {a b : Obj} (h : (w.alloc a).alloc b = W) : W.heap[w.heap.size]? = some a ∧ W.heap[w.heap.size + 1]? = some b ∧ W.heap.size = w.heap.size + 2 ∧ Below w.heap.size w W := by
  subst h
  refine ⟨?_, ?_, by simp only [sizeAlloc], ((Below.refl _ _).alloc (Nat.le_refl _) _).alloc (by simp) _⟩
  · simp only [heapAlloc, sizeAlloc]; repeat (first | rfl | rw [if_pos trivial] | rw [if_neg (by omega)])
  · simp only [heapAlloc, sizeAlloc]; repeat (first | rfl | rw [if_pos trivial] | rw [if_neg (by omega)])
theorem blocks3 {w W : World} {a b c : Obj} (h : ((w.alloc a).alloc b).alloc c = W) : W.heap[w.heap.size]? = some a ∧ W.heap[w.heap.size + 1]? = some b ∧ W.heap[w.heap.size + 1 + 1]? = some c ∧ W.heap.size = w.heap.size + 3 ∧ Below w.heap.size w W := by
  subst h
  refine ⟨?_, ?_, ?_, by simp only [sizeAlloc], (((Below.refl _ _).alloc (Nat.le_refl _) _).alloc (by simp) _).alloc (by simp; omega) _⟩
  · simp only [heapAlloc, sizeAlloc]; repeat (first | rfl | rw [if_pos trivial] | rw [if_neg (by omega)])
  · simp only [heapAlloc, sizeAlloc]; repeat (first | rfl | rw [if_pos trivial] | rw [if_neg (by omega)])
  · simp only [heapAlloc, sizeAlloc]; repeat (first | rfl | rw [if_pos trivial] | rw [if_neg (by omega)])
theorem blocks4 {w W : World} {a b c d : Obj} (h : (((w.alloc a).alloc b).alloc c).alloc d = W) : W.heap[w.heap.size]? = some a ∧ W.heap[w.heap.size + 1]? = some b ∧ W.heap[w.heap.size + 1 + 1]? = some c ∧ W.heap[w.heap.size + 1 + 1 + 1]? = some d ∧ W.heap.size = w.heap.size + 4 ∧ Below w.heap.size w W := by
  subst h
  refine ⟨?_, ?_, ?_, ?_, by simp only [sizeAlloc], ((((Below.refl _ _).alloc (Nat.le_refl _) _).alloc (by simp) _).alloc (by simp; omega) _).alloc (by simp; omega) _⟩
  · simp only [heapAlloc, sizeAlloc]; repeat (first | rfl | rw [if_pos trivial] | rw [if_neg (by omega)])
  · simp only [heapAlloc, sizeAlloc]; repeat (first | rfl | rw [if_pos trivial] | rw [if_neg (by omega)])
  · simp only [heapAlloc, sizeAlloc]; repeat (first | rfl | rw [if_pos trivial] | rw [if_neg (by omega)])
  · simp only [heapAlloc, sizeAlloc]; repeat (first | rfl | rw [if_pos trivial] | rw [if_neg (by omega)])
theorem blocks5 {w W : World} {a b c d e : Obj} (h : ((((w.alloc a).alloc b).alloc c).alloc d).alloc e = W) : W.heap[w.heap.size]? = some a ∧ W.heap[w.heap.size + 1]? = some b ∧ W.heap[w.heap.size + 1 + 1]? = some c ∧ W.heap[w.heap.size + 1 + 1 + 1]? = some d ∧ W.heap[w.heap.size + 1 + 1 + 1 + 1]? = some e ∧ W.heap.size = w.heap.size + 5 ∧ Below w.heap.size w W := by
  subst h
  refine ⟨?_, ?_, ?_, ?_, ?_, by simp only [sizeAlloc], (((((Below.refl _ _).alloc (Nat.le_refl _) _).alloc (by simp) _).alloc (by simp; omega) _).alloc (by simp; omega) _).alloc (by simp; omega) _⟩
  · simp only [heapAlloc, sizeAlloc]; repeat (first | rfl | rw [if_pos trivial] | rw [if_neg (by omega)])
  · simp only [heapAlloc, sizeAlloc]; repeat (first | rfl | rw [if_pos trivial] | rw [if_neg (by omega)])
  · simp only [heapAlloc, sizeAlloc]; repeat (first | rfl | rw [if_pos trivial] | rw [if_neg (by omega)])
  · simp only [heapAlloc, sizeAlloc]; repeat (first | rfl | rw [if_pos trivial] | rw [if_neg (by omega)])
  · simp only [heapAlloc, sizeAlloc]; repeat (first | rfl | rw [if_pos trivial] | rw [if_neg (by omega)])

theorem cellAt {w : World} {b : Nat} {cs : Array Value} {t : TypeId} {fr : Nat × Nat} (h : w.heap[b]? = some (.cells cs t fr)) (i : Nat) : w.cell? ⟨b, i, none⟩ = cs[i]? := by simp [World.cell?, h]
theorem freeAt {w : World} {b : Nat} {cs : Array Value} {t : TypeId} (h : w.heap[b]? = some (.cells cs t (0, 0))) (i : Nat) : w.frozen? ⟨b, i, none⟩ = false := by simp [World.frozen?, h]
theorem Below.heapAt {B : Nat} {w w' : World} (h : Below B w w') {b : Nat} (hb : b < B) : w'.heap[b]? = w.heap[b]? := h.block b hb
theorem lt_of_heap {w : World} {b : Nat} {o : Obj} (h : w.heap[b]? = some o) : b < w.heap.size := (Array.getElem?_eq_some_iff.1 h).1

/-! What lies in the rows: integers, seams (two cells), tickets (eight cells). -/
def IntsAt (w : World) (oa : Option Addr) (n : Nat) (f : Nat → Int) : Prop := Row w oa n 1 (fun i _ => .int .i64 (f i))
theorem IntsAt.grow {w w' : World} {oa : Option Addr} {n : Nat} {f : Nat → Int} (h : IntsAt w oa n f) (hb : Below w.heap.size w w') : IntsAt w' oa n f := Row.grow h hb
theorem IntsAt.at {w : World} {oa : Option Addr} {n : Nat} {f : Nat → Int} (h : IntsAt w oa n f) {k : Nat} (hk : k < n) : w.cell? ⟨blk oa, ofs oa + k, none⟩ = some (.int .i64 (f k)) := by
  have := h.cells k hk 0 (by omega)
  simpa using this

structure Sm where
  fat : Int
  rate : Int
structure Tk where
  crew : Int
  seam : Int
  fl : Int
  fh : Int
  tl : Int
  th : Int
  dl : Int
  dh : Int
def Sm.cell (s : Sm) : Nat → Value
  | 0 => .int .i64 s.fat
  | _ => .int .i64 s.rate
def Tk.cell (t : Tk) : Nat → Value
  | 0 => .int .i64 t.crew
  | 1 => .int .i64 t.seam
  | 2 => .int .i64 t.fl
  | 3 => .int .i64 t.fh
  | 4 => .int .i64 t.tl
  | 5 => .int .i64 t.th
  | 6 => .int .i64 t.dl
  | _ => .int .i64 t.dh
def SeamsAt (w : World) (oa : Option Addr) (n : Nat) (s : Nat → Sm) : Prop := Row w oa n 2 (fun i j => (s i).cell j)
def TicketsAt (w : World) (oa : Option Addr) (n : Nat) (t : Nat → Tk) : Prop := Row w oa n 8 (fun i j => (t i).cell j)
theorem SeamsAt.grow {w w' : World} {oa : Option Addr} {n : Nat} {s : Nat → Sm} (h : SeamsAt w oa n s) (hb : Below w.heap.size w w') : SeamsAt w' oa n s := Row.grow h hb
theorem TicketsAt.grow {w w' : World} {oa : Option Addr} {n : Nat} {t : Nat → Tk} (h : TicketsAt w oa n t) (hb : Below w.heap.size w w') : TicketsAt w' oa n t := Row.grow h hb
theorem SeamsAt.at {w : World} {oa : Option Addr} {n : Nat} {s : Nat → Sm} (h : SeamsAt w oa n s) {k : Nat} (hk : k < n) :
    w.cell? ⟨blk oa, ofs oa + k * 2, none⟩ = some (.int .i64 (s k).fat) ∧ w.cell? ⟨blk oa, ofs oa + k * 2 + 1, none⟩ = some (.int .i64 (s k).rate) :=
  ⟨h.cells k hk 0 (by omega), h.cells k hk 1 (by omega)⟩
theorem TicketsAt.at {w : World} {oa : Option Addr} {n : Nat} {t : Nat → Tk} (h : TicketsAt w oa n t) {k : Nat} (hk : k < n) :
    w.cell? ⟨blk oa, ofs oa + k * 8, none⟩ = some (.int .i64 (t k).crew) ∧ w.cell? ⟨blk oa, ofs oa + k * 8 + 1, none⟩ = some (.int .i64 (t k).seam) ∧
    w.cell? ⟨blk oa, ofs oa + k * 8 + 2, none⟩ = some (.int .i64 (t k).fl) ∧ w.cell? ⟨blk oa, ofs oa + k * 8 + 3, none⟩ = some (.int .i64 (t k).fh) ∧
    w.cell? ⟨blk oa, ofs oa + k * 8 + 4, none⟩ = some (.int .i64 (t k).tl) ∧ w.cell? ⟨blk oa, ofs oa + k * 8 + 5, none⟩ = some (.int .i64 (t k).th) ∧
    w.cell? ⟨blk oa, ofs oa + k * 8 + 6, none⟩ = some (.int .i64 (t k).dl) ∧ w.cell? ⟨blk oa, ofs oa + k * 8 + 7, none⟩ = some (.int .i64 (t k).dh) :=
  ⟨h.cells k hk 0 (by omega), h.cells k hk 1 (by omega), h.cells k hk 2 (by omega), h.cells k hk 3 (by omega), h.cells k hk 4 (by omega), h.cells k hk 5 (by omega), h.cells k hk 6 (by omega), h.cells k hk 7 (by omega)⟩
end Go.Proofs.YtikeihnhkiipgaaGreat.Wa

namespace Go.Proofs.YtikeihnhkiipgaaGreat.Wa
open Go.RowKit

def noDefer (ops : Array Oper) : Bool := ops.all fun o => match o.op with | .defer _ => false | _ => true
theorem noDefer_at {ops : Array Oper} (h : noDefer ops = true) {i : Nat} {o : Oper} (hi : ops[i]? = some o) : ∀ c, o.op ≠ .defer c := by
  intro c hc
  obtain ⟨hlt, rfl⟩ := Array.getElem?_eq_some_iff.1 hi
  have := Array.all_eq_true.1 h i hlt
  rw [hc] at this
  cases this

theorem calls_round {l n : Nat} {P : Program} {f : FuncId} {args : Array Value} {w : World} {R : Ending → World → Prop} (h : Calls P f args w R) : CallsIn (Fence.wide.inRound l) n P f args w R :=
  CallsIn.inRound l (callsIn_wide.2 h)

theorem rows_round {l n : Nat} {P : Program} {row : String} {args : Array Value} {w : World} {R : Value → World → Prop} (h : Rows P row args w R) : RowsIn (Fence.wide.inRound l) n P row args w R :=
  fun c cs _ => let ⟨v, w', r, s⟩ := h c cs; ⟨v, w', r, stepsIn_wide.2 s⟩

theorem upon_round {l n : Nat} {P : Program} {o : Oper} {a : Act} {next : Act → World → Prop} {Q : Exit → Act → World → Prop} (r : Result Next) (h : o.upon P a next Q r) : o.uponIn (Fence.wide.inRound l) n P a next Q r := by
  match r, h with
  | .ok (.value v) w', h => exact h
  | .ok .skip w', h => exact h
  | .ok (.defer d) w', h => exact h
  | .ok (.enter f args) w', h => exact ⟨fun hd => (by simp [Fence.wide] at hd), calls_round h⟩
  | .ok (.row row args) w', h => exact ⟨fun hd => (by simp [Fence.wide] at hd), rows_round h⟩
  | .halt (.panic v) w', h => exact h

theorem wp_round {l n : Nat} {P : Program} {o : Oper} {a : Act} {w : World} {next : Act → World → Prop} {Q : Exit → Act → World → Prop} (hd : ∀ c, o.op ≠ .defer c) (h : o.wp P a w next Q) : o.wpIn (Fence.wide.inRound l) n P a w next Q :=
  ⟨fun _ _ => trivial, by rw [Oper.semAt_eq _ _ _ hd]; exact upon_round _ h⟩

theorem wpOp_round {l n : Nat} {P : Program} {ops : Array Oper} {Q : Exit → Act → World → Prop} (hnd : noDefer ops = true) (hQ : ¬ LetsOut Q) {i : Nat} {K : Act → World → Prop} {a : Act} {w : World} (h : wpOp P ops Q i K a w) : wpOpIn (Fence.wide.inRound l) n P ops Q i K a w := by
  unfold wpOp at h
  unfold wpOpIn
  split
  · rename_i ho; simp only [ho] at h; exact h
  · rename_i o ho
    simp only [ho] at h
    split
    · rename_i hw
      simp only [hw, if_true] at h
      exact wp_round (noDefer_at hnd ho) (h.resolve_right fun hh => hQ hh.2)
    · rename_i hw
      simp only [hw] at h
      exact ⟨fun _ _ => trivial, h⟩

theorem wpAny_round {l n : Nat} {P : Program} {md : Region.Mode} {ops : Array Oper} {Q : Exit → Act → World → Prop} (hnd : noDefer ops = true) (hQ : ¬ LetsOut Q) :
    ∀ (fuel : Nat) (listed : Array Bool) (a : Act) (w : World), wpAny P md ops Q fuel listed a w → wpAnyIn (Fence.wide.inRound l) n P md ops Q fuel listed a w
  | 0, _, _, _, h => h
  | fuel + 1, _, _, _, h => ⟨h.1, fun i hi => wpOpIn_mono (fun a' w' h' => wpAny_round hnd hQ fuel _ a' w' h') (wpOp_round hnd hQ (h.2 i hi))⟩

/-- A drawn region in a round, by a held walk. -/
theorem wp_region_held_round {l n : Nat} {P : Program} {ops : Array Oper} {Q : Exit → Act → World → Prop} {S : World → Prop} {id : Nat} {a : Act} {w : World} (hm : P.follows .mixedOrders = true) (hnd : noDefer ops = true) (hQ : ¬ LetsOut Q) (hS : S w.drew)
    (h : S w.drew → wpAnyH P .any ops Q S ops.size (Array.replicate ops.size false) a w.drew) : (Code.region id ops true).wpIn (Fence.wide.inRound l) n P Q a w :=
  wpIn_region_any hm (wpAny_round hnd hQ _ _ _ _ (wpAny_of_held _ _ _ _ (h hS)))

theorem wpList_round {l n : Nat} {P : Program} {ops : Array Oper} {Q : Exit → Act → World → Prop} (hQ : ¬ LetsOut Q) : ∀ (L : List Oper) (a : Act) (w : World), (∀ o ∈ L, ∀ c, o.op ≠ .defer c) → wpList P ops Q L a w → wpListIn (Fence.wide.inRound l) n P ops Q L a w
  | [], _, _, _, h => h
  | o :: rest, a, w, hd, h => by
    unfold wpListIn
    unfold wpList at h
    split
    · rename_i hw
      rw [if_pos hw] at h
      exact Oper.wpIn_mono (fun a' w' h' => wpList_round hQ rest a' w' (fun o' ho' => hd o' (List.mem_cons_of_mem _ ho')) h') (wp_round (hd o List.mem_cons_self) (h.resolve_right fun hh => hQ hh.2))
    · rename_i hw
      rw [if_neg hw] at h
      exact ⟨fun _ _ => trivial, wpList_round hQ rest _ w (fun o' ho' => hd o' (List.mem_cons_of_mem _ ho')) h⟩

/-- A region in text order, in a round, by a plain walk. -/
theorem wp_region_round {l n : Nat} {P : Program} {ops : Array Oper} {Q : Exit → Act → World → Prop} {id : Nat} {a : Act} {w : World} (hnd : noDefer ops = true) (hQ : ¬ LetsOut Q)
    (h : wpList P ops Q ops.toList a w) : (Code.region id ops false).wpIn (Fence.wide.inRound l) n P Q a w :=
  wpIn_region_list (wpList_round hQ _ _ _ (fun o ho => by
    obtain ⟨i, hi⟩ := List.mem_iff_getElem?.1 ho
    exact noDefer_at hnd (i := i) (by simpa using hi)) h)
end Go.Proofs.YtikeihnhkiipgaaGreat.Wa

namespace Go.Proofs.YtikeihnhkiipgaaGreat.Wa
open Go.RowKit

def inB (n lo hi : Int) : Bool := decide (lo ≤ n) && decide (n ≤ hi)
theorem inB_iff {n lo hi : Int} : inB n lo hi = true ↔ lo ≤ n ∧ n ≤ hi := by simp [inB]

set_option maxHeartbeats 400000 in
theorem within_any (n lo hi : Int) (w : World) :
    Calls Tryz.prog 39 #[.int .i64 n, .int .i64 lo, .int .i64 hi] w fun e w' => e = .returned (.bool (inB n lo hi)) ∧ w = w' := by
  go_enter Tryz.func39, Tryz.ntmps39
  go_wp2
  all_goals
    go_ret
    simp [inB]
    omega

set_option maxHeartbeats 400000 in
theorem ask_true (x : Int) (w : World) :
    Calls Tryz.prog 38 #[.bool true, .int .i64 x] w fun e w' => e = .returned (.tuple #[]) ∧ w = w' := by
  go_enter Tryz.func38, Tryz.ntmps38
  go_wp2
  go_end0
  exact ⟨rfl, rfl⟩

set_option maxHeartbeats 400000 in
theorem ask_false (x : Int) (w : World) :
    Calls Tryz.prog 38 #[.bool false, .int .i64 x] w fun e w' => e = .panicked [{ v := .iface 141 (.int .i64 x), recovered := false }] ∧ w = w' := by
  go_enter Tryz.func38, Tryz.ntmps38
  go_wp2
  exact ⟨rfl, rfl, rfl⟩

/-- 'ask': where it is not so, a panic with the error. -/
def AskPost (b : Bool) (x : Int) (w : World) (e : Ending) (w' : World) : Prop :=
  (e = if b then .returned (.tuple #[]) else .panicked [{ v := .iface 141 (.int .i64 x), recovered := false }]) ∧ w = w'
theorem ask_any (b : Bool) (x : Int) (w : World) : Calls Tryz.prog 38 #[.bool b, .int .i64 x] w (AskPost b x w) := by
  cases b
  · exact (ask_false x w).mono fun e w' h => ⟨by simpa using h.1, h.2⟩
  · exact (ask_true x w).mono fun e w' h => ⟨by simpa using h.1, h.2⟩

def spanB (lo hi h : Int) : Bool := decide (0 ≤ lo) && decide (lo ≤ hi) && decide (hi ≤ h) && decide (hi - lo ≤ 3)
theorem spanB_iff {lo hi h : Int} : spanB lo hi h = true ↔ 0 ≤ lo ∧ lo ≤ hi ∧ hi ≤ h ∧ hi - lo ≤ 3 := by simp [spanB, and_assoc]
theorem spanB_no {lo hi h : Int} (c : ¬ (0 ≤ lo ∧ lo ≤ hi ∧ hi ≤ h ∧ hi - lo ≤ 3)) : spanB lo hi h = false := by
  rw [← Bool.not_eq_true, spanB_iff]; exact c

theorem ret_bool {a b : Bool} (h : a = b) : Ending.returned (.bool a) = .returned (.bool b) := by rw [h]
theorem ret_int {k : IntKind} {a b : Int} (h : a = b) : Ending.returned (.int k a) = .returned (.int k b) := by rw [h]

set_option maxHeartbeats 400000 in
theorem isSpan_any (lo hi h : Int) (w : World) (hh : h ≤ 1000000) :
    Calls Tryz.prog 68 #[.agg #[.int .i64 lo, .int .i64 hi], .int .i64 h] w fun e w' => e = .returned (.bool (spanB lo hi h)) ∧ Below w.heap.size w w' := by
  by_cases c1 : 0 ≤ lo
  · by_cases c2 : lo ≤ hi
    · by_cases c3 : hi ≤ h
      · go_enter Tryz.func68, Tryz.ntmps68
        go_wp2
        go_ret
        exact ⟨by simp [spanB, c1, c2, c3], (Below.refl _ _).alloc (Nat.le_refl _) _⟩
      · go_enter Tryz.func68, Tryz.ntmps68
        go_wp2
        go_ret
        exact ⟨ret_bool (spanB_no (by omega)).symm, (Below.refl _ _).alloc (Nat.le_refl _) _⟩
    · go_enter Tryz.func68, Tryz.ntmps68
      go_wp2
      go_ret
      exact ⟨ret_bool (spanB_no (by omega)).symm, (Below.refl _ _).alloc (Nat.le_refl _) _⟩
  · go_enter Tryz.func68, Tryz.ntmps68
    go_wp2
    go_ret
    exact ⟨ret_bool (spanB_no (by omega)).symm, (Below.refl _ _).alloc (Nat.le_refl _) _⟩

set_option maxHeartbeats 400000 in
theorem isSeam_any (cr : Int) (sa ta : Option Addr) (sn sc tn tc : Nat) (n : Int) (w : World) (hs : sn ≤ maxLen) :
    Calls Tryz.prog 47 #[.agg #[.int .i64 cr, .slice sa sn sc, .slice ta tn tc], .int .i64 n] w fun e w' => e = .returned (.bool (inB n 0 (sn - 1))) ∧ Below w.heap.size w w' := by
  unfold maxLen at hs
  go_enter Tryz.func47, Tryz.ntmps47
  go_wp2_with (go_at_call 39; refine (within_any _ _ _ _).mono ?_; rintro e w' ⟨rfl, rfl⟩)
  go_ret
  exact ⟨rfl, (Below.refl _ _).alloc (Nat.le_refl _) _⟩

set_option maxHeartbeats 400000 in
theorem isCrew_any (cr : Int) (sa ta : Option Addr) (sn sc tn tc : Nat) (n : Int) (w : World) (h0 : -1000000 ≤ cr) (h1 : cr ≤ 1000000) :
    Calls Tryz.prog 36 #[.agg #[.int .i64 cr, .slice sa sn sc, .slice ta tn tc], .int .i64 n] w fun e w' => e = .returned (.bool (inB n 0 (cr - 1))) ∧ Below w.heap.size w w' := by
  go_enter Tryz.func36, Tryz.ntmps36
  go_wp2_with (go_at_call 39; refine (within_any _ _ _ _).mono ?_; rintro e w' ⟨rfl, rfl⟩)
  go_ret
  exact ⟨rfl, (Below.refl _ _).alloc (Nat.le_refl _) _⟩

/-- Three boxes above the start. -/
theorem below3 (w : World) (a b c : Obj) : Below w.heap.size w (((w.alloc a).alloc b).alloc c) :=
  (((Below.refl _ _).alloc (Nat.le_refl _) _).alloc (by simp) _).alloc (by simp; omega) _

set_option maxHeartbeats 400000 in
theorem most_of_any (m n cr se fl fh tl th dl dh : Int) (w : World) :
    Calls Tryz.prog 132 #[.agg #[.int .i64 m], .int .i64 n, .agg #[.int .i64 cr, .int .i64 se, .int .i64 fl, .int .i64 fh, .int .i64 tl, .int .i64 th, .int .i64 dl, .int .i64 dh]] w
      fun e w' => e = .returned (.agg #[.int .i64 (if cr = m then fl else fh), .int .i64 (if cr = m then th else tl), .int .i64 (if cr = m then dl else dh)]) ∧ Below w.heap.size w w' := by
  by_cases c : cr = m
  · subst c
    simp only [if_true]
    go_enter Tryz.func132, Tryz.ntmps132
    go_wp2
    exact bodyPost_ret (v := .agg #[.int .i64 fl, .int .i64 th, .int .i64 dl]) (by simp [results, Tryz.results132, go_sem]) rfl ⟨rfl, below3 _ _ _ _⟩
  · have c' : (cr == m) = false := by simp [c]
    simp only [if_neg c]
    go_enter Tryz.func132, Tryz.ntmps132
    go_wp2
    exact bodyPost_ret (v := .agg #[.int .i64 fh, .int .i64 tl, .int .i64 dh]) (by simp [results, Tryz.results132, go_sem]) rfl ⟨rfl, below3 _ _ _ _⟩

set_option maxHeartbeats 400000 in
theorem least_of_any (m n cr se fl fh tl th dl dh : Int) (w : World) :
    Calls Tryz.prog 133 #[.agg #[.int .i64 m], .int .i64 n, .agg #[.int .i64 cr, .int .i64 se, .int .i64 fl, .int .i64 fh, .int .i64 tl, .int .i64 th, .int .i64 dl, .int .i64 dh]] w
      fun e w' => e = .returned (.agg #[.int .i64 (if cr = m then fh else fl), .int .i64 (if cr = m then tl else th), .int .i64 (if cr = m then dh else dl)]) ∧ Below w.heap.size w w' := by
  by_cases c : cr = m
  · subst c
    simp only [if_true]
    go_enter Tryz.func133, Tryz.ntmps133
    go_wp2
    exact bodyPost_ret (v := .agg #[.int .i64 fh, .int .i64 tl, .int .i64 dh]) (by simp [results, Tryz.results133, go_sem]) rfl ⟨rfl, below3 _ _ _ _⟩
  · have c' : (cr == m) = false := by simp [c]
    simp only [if_neg c]
    go_enter Tryz.func133, Tryz.ntmps133
    go_wp2
    exact bodyPost_ret (v := .agg #[.int .i64 fl, .int .i64 th, .int .i64 dl]) (by simp [results, Tryz.results133, go_sem]) rfl ⟨rfl, below3 _ _ _ _⟩

theorem size3 : (Tryz.prog.info? 3).map (·.size) = some 1 := by kernel_rfl

theorem testBit_and_one (m n : Nat) : ((m >>> n) &&& 1 == 1) = m.testBit n := by
  simp only [Nat.testBit]
  rw [Nat.and_comm]
  have : 1 &&& m >>> n < 2 := Nat.lt_of_le_of_lt Nat.and_le_left (by omega)
  generalize 1 &&& m >>> n = x at *
  have : x = 0 ∨ x = 1 := by omega
  rcases this with rfl | rfl <;> rfl

set_option maxHeartbeats 400000 in
theorem but_any (m n : Nat) (w : World) (hm : m < 4294967296) (hn : n < 4294967296) :
    Calls Tryz.prog 92 #[.int .u32 m, .int .u32 n] w fun e w' => e = .returned (.int .u32 ((m &&& (4294967295 - n) : Nat) : Int)) ∧ w = w' := by
  have e4 := u32_andNot_nat m n hm hn
  have E := Lib.hid e4
  clear e4
  go_enter Tryz.func92, Tryz.ntmps92
  go_wp2
  go_ret
  exact ⟨ret_int E.out, rfl⟩

/-- The fathoms of a known ticket, as bits. -/
def fmask (f t : Int) : Nat := if t ≤ f then 0 else 2 ^ t.toNat - 2 ^ f.toNat
theorem fmask_lt (f t : Int) (ht : t ≤ 20) : fmask f t < 1048576 := by
  unfold fmask
  split
  · omega
  · have : 2 ^ t.toNat ≤ 2 ^ 20 := Nat.pow_le_pow_right (by omega) (by omega)
    have : 0 < 2 ^ f.toNat := Nat.two_pow_pos _
    omega

theorem below_drewN {B : Nat} {a w : World} (h : Below B a w) (n : Nat) : Below B a (w.drewN n) := ⟨h.os, h.tape, h.output, h.size, h.block⟩

set_option maxHeartbeats 400000 in
theorem known_fathoms_any (f t d : Int) (w : World) (hf0 : 0 ≤ f) (hf : f ≤ 20) (ht0 : 0 ≤ t) (ht : t ≤ 20) :
    Calls Tryz.prog 91 #[.agg #[.int .i64 f, .int .i64 t, .int .i64 d]] w fun e w' => e = .returned (.int .u32 (fmask f t)) ∧ Below w.heap.size w w' := by
  by_cases c : t ≤ f
  · have hx := Lib.hid (show fmask f t = 0 by simp [fmask, c])
    go_enter Tryz.func91, Tryz.ntmps91
    go_wp2
    go_ret
    exact ⟨by rw [hx.out]; rfl, (Below.refl _ _).alloc (Nat.le_refl _) _⟩
  · obtain ⟨f, rfl⟩ := Int.eq_ofNat_of_zero_le hf0
    obtain ⟨t, rfl⟩ := Int.eq_ofNat_of_zero_le ht0
    have hx : (fmask f t : Int) = (2 : Int) ^ t - 2 ^ f := by
      have : 2 ^ f ≤ 2 ^ t := Nat.pow_le_pow_right (by omega) (by omega)
      simp only [fmask, if_neg c, Int.toNat_natCast]
      rw [Int.natCast_sub this]
      simp
    have hx' := Lib.hid hx
    have hl := Lib.hid (fmask_lt f t ht)
    clear hx
    go_enter Tryz.func91, Tryz.ntmps91
    go_wp2_with fail
    go_quiet (fail)
    go_wp2
    go_ret
    refine ⟨ret_int ?_, below_drewN ((Below.refl _ _).alloc (Nat.le_refl _) _) _⟩
    show ((2 : Int) ^ t % 4294967296 - 2 ^ f % 4294967296) % 4294967296 = _
    have h1 := hx'.out
    have h2 := hl.out
    have h3 : (2 : Int) ^ f < 4294967296 := by
      have : 2 ^ f ≤ 2 ^ 20 := Nat.pow_le_pow_right (by omega) (by omega)
      have h : ((2 ^ f : Nat) : Int) ≤ ((2 ^ 20 : Nat) : Int) := by exact_mod_cast this
      simp at h
      omega
    have h4 : (2 : Int) ^ t < 4294967296 := by
      have : 2 ^ t ≤ 2 ^ 20 := Nat.pow_le_pow_right (by omega) (by omega)
      have h : ((2 ^ t : Nat) : Int) ≤ ((2 ^ 20 : Nat) : Int) := by exact_mod_cast this
      simp at h
      omega
    have h5 : (0 : Int) < 2 ^ f := Int.pow_pos (by omega)
    have h6 : (0 : Int) < 2 ^ t := Int.pow_pos (by omega)
    rw [Int.emod_eq_of_lt (Int.le_of_lt h5) h3, Int.emod_eq_of_lt (Int.le_of_lt h6) h4, ← h1]
    omega

end Go.Proofs.YtikeihnhkiipgaaGreat.Wa

namespace Go.Proofs.YtikeihnhkiipgaaGreat.Wa
open Go.RowKit

end Go.Proofs.YtikeihnhkiipgaaGreat.Wa

namespace Go.Proofs.YtikeihnhkiipgaaGreat.Wa
open Go.RowKit

def cmpI (a b : Int) : Int := if a < b then -1 else if b < a then 1 else 0
theorem cmpI_lt {a b : Int} : cmpI a b < 0 ↔ a < b := by unfold cmpI; split <;> (try split) <;> omega

set_option maxHeartbeats 400000 in
theorem isNaN_any (a : Int) (w : World) : Calls Tryz.prog 69 #[.int .i64 a] w fun e w' => e = .returned (.bool false) ∧ w = w' := by
  go_enter Tryz.func69, Tryz.ntmps69
  go_wp2
  go_ret
  exact ⟨ret_bool (by simp), rfl⟩

set_option maxHeartbeats 400000 in
theorem compare_any (a b : Int) (w : World) : Calls Tryz.prog 43 #[.int .i64 a, .int .i64 b] w fun e w' => e = .returned (.int .i64 (cmpI a b)) ∧ w = w' := by
  by_cases h : a < b
  · have hx := Lib.hid (show cmpI a b = -1 by simp [cmpI, h])
    go_enter Tryz.func43, Tryz.ntmps43
    go_wp2_with (go_at_call 69; refine (isNaN_any _ _).mono ?_; rintro e w' ⟨rfl, rfl⟩)
    go_ret
    exact ⟨ret_int hx.out.symm, rfl⟩
  · by_cases h' : b < a
    · have hx := Lib.hid (show cmpI a b = 1 by simp [cmpI, h, h'])
      go_enter Tryz.func43, Tryz.ntmps43
      go_wp2_with (go_at_call 69; refine (isNaN_any _ _).mono ?_; rintro e w' ⟨rfl, rfl⟩)
      go_ret
      exact ⟨ret_int hx.out.symm, rfl⟩
    · have hx := Lib.hid (show cmpI a b = 0 by simp [cmpI, h, h'])
      go_enter Tryz.func43, Tryz.ntmps43
      go_wp2_with (go_at_call 69; refine (isNaN_any _ _).mono ?_; rintro e w' ⟨rfl, rfl⟩)
      go_ret
      exact ⟨ret_int hx.out.symm, rfl⟩

/-- The array of known tickets: 6 of 3 cells each, from the block's beginning on; number i has the tide 'k i'. -/
def Tides (w : World) (b : Nat) (k : Nat → Int) : Prop := ∀ i, i < 6 → w.cell? ⟨b, i * 3 + 2, none⟩ = some (.int .i64 (k i))

set_option maxHeartbeats 400000 in
theorem less_any (b : Nat) (k : Nat → Int) (x y : Nat) (hx : x < 6) (hy : y < 6) (w : World) (h : Tides w b k) :
    Calls Tryz.prog 90 #[.int .i64 x, .int .i64 y, .pointer (some ⟨b, 0, none⟩)] w fun e w' => e = .returned (.int .i64 (cmpI (k x) (k y))) ∧ ∃ n, w' = w.drewN n := by
  have h1 := h x hx
  have h2 := h y hy
  have x0 : (0 : Int) ≤ (x : Int) := by omega
  have y0 : (0 : Int) ≤ (y : Int) := by omega
  have x1 : (x : Int) < 6 := by omega
  have y1 : (y : Int) < 6 := by omega
  go_enter Tryz.func90, Tryz.ntmps90
  go_wp2_with fail
  go_quiet ((go_at_call 43; exact Calls.quiet_of_same ((compare_any _ _ _).mono fun _ _ h => ⟨h.1, h.2.symm⟩)))
  go_wp2
  go_ret

  exact ⟨rfl, _, rfl⟩
end Go.Proofs.YtikeihnhkiipgaaGreat.Wa

namespace Go.Proofs.YtikeihnhkiipgaaGreat.Wa

/-- How many of the first n bits are set. -/
def bitsum : Nat → Nat → Nat
  | 0, _ => 0
  | n + 1, m => bitsum n m + if m.testBit n then 1 else 0
def popc (m : Nat) : Nat := bitsum 20 m

theorem bitsum_le (n m : Nat) : bitsum n m ≤ n := by
  induction n with
  | zero => exact Nat.le_refl _
  | succ n ih => simp only [bitsum]; split <;> omega
theorem bitsum_add (a b m : Nat) : bitsum (a + b) m = bitsum a m + bitsum b (m / 2 ^ a) := by
  induction b with
  | zero => rfl
  | succ b ih =>
    show bitsum (a + b) m + (if m.testBit (a + b) then 1 else 0) = bitsum a m + (bitsum b (m / 2 ^ a) + if (m / 2 ^ a).testBit b then 1 else 0)
    rw [ih, Nat.testBit_div_two_pow, Nat.add_comm b a]
    omega
theorem bitsum_mod (a m : Nat) : ∀ n, n ≤ a → bitsum n (m % 2 ^ a) = bitsum n m := by
  intro n
  induction n with
  | zero => intro _; rfl
  | succ n ih =>
    intro h
    simp only [bitsum]
    rw [ih (by omega), Nat.testBit_mod_two_pow]
    simp [show n < a by omega]
theorem pop8_bitsum : ∀ n : Fin 256, Lib.pop8 (n.val : Int) = (bitsum 8 n.val : Int) := by decide +kernel
theorem pop8_byte (m : Nat) : Lib.pop8 ((m : Int) % 256) = (bitsum 8 m : Int) := by
  have h := pop8_bitsum ⟨m % 256, by omega⟩
  simp only at h
  have e : ((m % 256 : Nat) : Int) = (m : Int) % 256 := by omega
  rw [e] at h
  rw [h]
  exact congrArg _ (bitsum_mod 8 m 8 (Nat.le_refl _))
theorem bitsum_zero (n m : Nat) (h : m = 0) : bitsum n m = 0 := by
  subst h
  induction n with
  | zero => rfl
  | succ n ih => simp [bitsum, ih]
/-- The sum of the bytes' counts. -/
theorem popc_bytes (m : Nat) (hm : m < 1048576) :
    (Lib.pop8 0 + Lib.pop8 ((m : Int) / 65536 % 256) + Lib.pop8 ((m : Int) / 256 % 256) + Lib.pop8 ((m : Int) % 256)) % 256 = (popc m : Int) := by
  have h0 : Lib.pop8 0 = 0 := by decide +kernel
  have e1 : ((m : Int) / 65536) = ((m / 65536 : Nat) : Int) := by omega
  have e2 : ((m : Int) / 256) = ((m / 256 : Nat) : Int) := by omega
  rw [h0, e1, e2, pop8_byte, pop8_byte, pop8_byte]
  have a1 := bitsum_add 8 8 m
  have a2 := bitsum_add 16 8 m
  have a3 := bitsum_add 20 4 m
  have z := bitsum_zero 4 (m / 2 ^ 20) (by omega)
  have l := bitsum_le 20 m
  simp only [popc, Nat.reduceAdd, Nat.reducePow] at *
  omega
theorem popc_le (m : Nat) : popc m ≤ 20 := bitsum_le 20 m
end Go.Proofs.YtikeihnhkiipgaaGreat.Wa

namespace Go.Proofs.YtikeihnhkiipgaaGreat.Wa

def lexlt (k : Nat → Int) (a b : Nat) : Prop := k a < k b ∨ (k a = k b ∧ a < b)

structure Pre (k : Nat → Int) (n i : Nat) (g : Nat → Nat) : Prop where
  lt : ∀ m, m < i → g m < i
  onto : ∀ v, v < i → ∃ m, m < i ∧ g m = v
  rest : ∀ m, i ≤ m → m < n → g m = m
  srt : ∀ a b, a < b → b < i → lexlt k (g a) (g b)

structure Ins (k : Nat → Int) (n i j : Nat) (g : Nat → Nat) : Prop where
  hj : j ≤ i
  atj : g j = i
  lt : ∀ m, m ≤ i → m ≠ j → g m < i
  onto : ∀ v, v ≤ i → ∃ m, m ≤ i ∧ g m = v
  rest : ∀ m, i < m → m < n → g m = m
  srt : ∀ a b, a < b → b ≤ i → a ≠ j → b ≠ j → lexlt k (g a) (g b)
  big : ∀ b, j < b → b ≤ i → k i < k (g b)

def swp (g : Nat → Nat) (j : Nat) : Nat → Nat := fun m => if m = j + 1 then g j else if m = j then g (j + 1) else g m

theorem Pre.start (k : Nat → Int) (n : Nat) : Pre k n 1 (fun m => m) where
  lt := fun m h => h
  onto := fun v h => ⟨v, h, rfl⟩
  rest := fun _ _ _ => rfl
  srt := fun a b _ _ => by omega

theorem Ins.start {k : Nat → Int} {n i : Nat} {g : Nat → Nat} (h : Pre k n i g) (hi : i < n) : Ins k n i i g where
  hj := Nat.le_refl _
  atj := h.rest i (Nat.le_refl _) hi
  lt := fun m h1 h2 => h.lt m (by omega)
  onto := fun v hv => by
    by_cases e : v = i
    · exact ⟨i, Nat.le_refl _, by rw [e]; exact h.rest i (Nat.le_refl _) hi⟩
    · obtain ⟨m, h1, h2⟩ := h.onto v (by omega)
      exact ⟨m, by omega, h2⟩
  rest := fun m h1 h2 => h.rest m (by omega) h2
  srt := fun a b h1 h2 _ h4 => h.srt a b h1 (by omega)
  big := fun b h1 h2 => by omega

theorem Ins.step {k : Nat → Int} {n i j : Nat} {g : Nat → Nat} (h : Ins k n i (j + 1) g) (hk : k (g (j + 1)) < k (g j)) : Ins k n i j (swp g j) := by
  have hj := h.hj
  have hat := h.atj
  refine ⟨by omega, by simp [swp, hat], ?_, ?_, ?_, ?_, ?_⟩
  · intro m h1 h2
    by_cases e : m = j + 1
    · simpa [swp, e] using h.lt j (by omega) (by omega)
    · simpa [swp, e, h2] using h.lt m h1 e
  · intro v hv
    obtain ⟨m, h1, h2⟩ := h.onto v hv
    by_cases e : m = j + 1
    · exact ⟨j, by omega, by simp [swp, ← h2, e]⟩
    · by_cases e' : m = j
      · exact ⟨j + 1, by omega, by simp [swp, ← h2, e']⟩
      · exact ⟨m, h1, by simp [swp, e, e', h2]⟩
  · intro m h1 h2
    simpa [swp, show m ≠ j + 1 by omega, show m ≠ j by omega] using h.rest m h1 h2
  · intro a b h1 h2 h3 h4
    by_cases ea : a = j + 1
    · have hb : b ≠ j + 1 := by omega
      subst ea
      simpa [swp, hb, h4] using h.srt j b (by omega) h2 (by omega) hb
    · by_cases eb : b = j + 1
      · subst eb
        simpa [swp, ea, h3] using h.srt a j (by omega) (by omega) ea (by omega)
      · simpa [swp, ea, eb, h3, h4] using h.srt a b h1 h2 ea eb
  · intro b h1 h2
    by_cases e : b = j + 1
    · rw [hat] at hk
      simpa [swp, e] using hk
    · simpa [swp, e, show b ≠ j by omega] using h.big b (by omega) h2

theorem Ins.done {k : Nat → Int} {n i j : Nat} {g : Nat → Nat} (h : Ins k n i j g) (hk : j = 0 ∨ ¬ k (g j) < k (g (j - 1))) : Pre k n (i + 1) g := by
  have hj := h.hj
  have hat := h.atj
  have before : ∀ a, a < j → lexlt k (g a) i := by
    intro a ha
    have hk' : ¬ k (g j) < k (g (j - 1)) := hk.resolve_left (by omega)
    rw [hat] at hk'
    have l1 := h.lt (j - 1) (by omega) (by omega)
    have base : lexlt k (g (j - 1)) i := by
      by_cases e : k (g (j - 1)) < k i
      · exact .inl e
      · exact .inr ⟨by omega, l1⟩
    by_cases e : a = j - 1
    · rw [e]; exact base
    · have := h.srt a (j - 1) (by omega) (by omega) (by omega) (by omega)
      unfold lexlt at *
      omega
  refine ⟨?_, ?_, fun m h1 h2 => h.rest m (by omega) h2, ?_⟩
  · intro m hm
    by_cases e : m = j
    · rw [e, hat]; omega
    · have := h.lt m (by omega) e; omega
  · intro v hv
    obtain ⟨m, h1, h2⟩ := h.onto v (by omega)
    exact ⟨m, by omega, h2⟩
  · intro a b h1 h2
    by_cases ea : a = j
    · rw [ea, hat]
      exact .inl (h.big b (by omega) (by omega))
    · by_cases eb : b = j
      · rw [eb, hat]; exact before a (by omega)
      · exact h.srt a b h1 (by omega) ea eb

theorem Pre.congr {k k' : Nat → Int} {n : Nat} {g : Nat → Nat} (h : Pre k n n g) (e : ∀ i, i < n → k i = k' i) : Pre k' n n g where
  lt := h.lt
  onto := h.onto
  rest := h.rest
  srt := fun a b h1 h2 => by
    have := h.srt a b h1 h2
    unfold lexlt at *
    rw [e _ (h.lt a (by omega)), e _ (h.lt b h2)] at this
    exact this
end Go.Proofs.YtikeihnhkiipgaaGreat.Wa

namespace Go.Proofs.YtikeihnhkiipgaaGreat.Wa
open Go.RowKit

/-- The library's table of bit counts, as the walk meets it: in four pieces. -/
theorem fold_pieces : (⟨(([0, 1, 1, 2, 1, 2, 2, 3, 1, 2, 2, 3, 2, 3, 3, 4, 1, 2, 2, 3, 2, 3, 3, 4, 2, 3, 3, 4, 3, 4, 4, 5, 1, 2, 2, 3, 2, 3, 3, 4, 2, 3, 3, 4, 3, 4, 4, 5, 2, 3, 3, 4, 3, 4, 4, 5, 3, 4, 4, 5, 4, 5, 5, 6].append [1, 2, 2, 3, 2, 3, 3, 4, 2, 3, 3, 4, 3, 4, 4, 5, 2, 3, 3, 4, 3, 4, 4, 5, 3, 4, 4, 5, 4, 5, 5, 6, 2, 3, 3, 4, 3, 4, 4, 5, 3, 4, 4, 5, 4, 5, 5, 6, 3, 4, 4, 5, 4, 5, 5, 6, 4, 5, 5, 6, 5, 6, 6, 7]).append ([1, 2, 2, 3, 2, 3, 3, 4, 2, 3, 3, 4, 3, 4, 4, 5, 2, 3, 3, 4, 3, 4, 4, 5, 3, 4, 4, 5, 4, 5, 5, 6, 2, 3, 3, 4, 3, 4, 4, 5, 3, 4, 4, 5, 4, 5, 5, 6, 3, 4, 4, 5, 4, 5, 5, 6, 4, 5, 5, 6, 5, 6, 6, 7].append [2, 3, 3, 4, 3, 4, 4, 5, 3, 4, 4, 5, 4, 5, 5, 6, 3, 4, 4, 5, 4, 5, 5, 6, 4, 5, 5, 6, 5, 6, 6, 7, 3, 4, 4, 5, 4, 5, 5, 6, 4, 5, 5, 6, 5, 6, 6, 7, 4, 5, 5, 6, 5, 6, 6, 7, 5, 6, 6, 7, 6, 7, 7, 8])).toArray⟩ : ByteArray) = Lib.pop8tab := by kernel_rfl
attribute [local go_sem high] fold_pieces

theorem low8 (a : Int) (h0 : 0 ≤ a) (h1 : a < 4294967296) : ∃ x : Int, bits .and .u32 a 255 = x ∧ 0 ≤ x ∧ x ≤ 255 ∧ x = a % 256 := by
  obtain ⟨a, rfl⟩ := Int.eq_ofNat_of_zero_le h0
  have h := u32_and_nat a 255 (by omega) (by omega)
  refine ⟨_, h, by omega, Int.ofNat_le.2 Nat.and_le_right, ?_⟩
  have : a &&& 255 = a % 256 := Nat.and_two_pow_sub_one_eq_mod a 8
  rw [this]
  omega

set_option maxRecDepth 100000 in
set_option maxHeartbeats 1600000 in
theorem ones_any (m : Nat) (w : World) (hm : m < 1048576) :
    Calls Tryz.prog 93 #[.int .u32 m] w fun e w' => e = .returned (.int .i64 (popc m)) ∧ ∃ n, w' = w.drewN n := by
  obtain ⟨x0, h0, p0, q0, e0⟩ := low8 (m : Int) (by omega) (by omega)
  obtain ⟨x8, h8, p8, q8, e8⟩ := low8 ((m : Int) / 256) (by omega) (by omega)
  obtain ⟨x16, h16, p16, q16, e16⟩ := low8 ((m : Int) / 65536) (by omega) (by omega)
  have z24 : (m : Int) / 16777216 = 0 := by omega
  go_enter Tryz.func93, Tryz.ntmps93
  go_wp2_with fail
  go_quiet (fail)
  go_wp2
  go_ret
  exact ⟨ret_int (popc_bytes m hm), _, rfl⟩

set_option maxHeartbeats 400000 in
theorem count_any (m : Nat) (w : World) (hm : m < 1048576) :
    Calls Tryz.prog 71 #[.int .u32 m] w fun e w' => e = .returned (.int .i64 (popc m)) ∧ ∃ n, w' = w.drewN n := by
  go_enter Tryz.func71, Tryz.ntmps71
  go_wp2_with (go_at_call 93; refine (ones_any _ _ hm).mono ?_; rintro e w' ⟨rfl, n, rfl⟩)
  go_ret
  exact ⟨rfl, _, rfl⟩
end Go.Proofs.YtikeihnhkiipgaaGreat.Wa

namespace Go.Proofs.YtikeihnhkiipgaaGreat.Wa
open Go.RowKit

/-- The cells of the numbers, n of them, hold g; they can be written. -/
structure Nums (w : World) (b o n : Nat) (g : Nat → Nat) : Prop where
  cell : ∀ i, i < n → w.cell? ⟨b, o + i, none⟩ = some (.int .i64 (g i))
  free : ∀ i, i < n → w.frozen? ⟨b, o + i, none⟩ = false

theorem Nums.swap {w : World} {b o n : Nat} {g : Nat → Nat} (h : Nums w b o n g) {j : Nat} (hj : j + 1 < n) :
    Nums ((w.setCell ⟨b, o + (j + 1), none⟩ (.int .i64 (g j))).setCell ⟨b, o + j, none⟩ (.int .i64 (g (j + 1)))) b o n (swp g j) where
  cell := fun i hi => by
    have c1 := h.cell (j + 1) hj
    have c0 := h.cell j (by omega)
    have ci := h.cell i hi
    by_cases e1 : i = j
    · subst e1
      rw [World.cell?_setCell_same' _ _ _ (by rw [World.cell?_setCell_other _ _ _ _ (by simp), c0]; rfl)]
      simp [swp]
    · rw [World.cell?_setCell_other _ _ _ _ (by simp <;> omega)]
      by_cases e2 : i = j + 1
      · subst e2
        rw [World.cell?_setCell_same' _ _ _ (by rw [c1]; rfl)]
        simp [swp]
      · rw [World.cell?_setCell_other _ _ _ _ (by simp <;> omega), ci]
        simp [swp, e1, e2]
  free := fun i hi => by
    rw [World.frozen?_setCell, World.frozen?_setCell]
    exact h.free i hi

/-- The block of a row that is not empty. -/
def rowOf (n b : Nat) : Option Nat := if n = 0 then none else some b
theorem rowOf_pos {n b : Nat} (h : 0 < n) : rowOf n b = some b := by simp [rowOf]; omega
def SortPost (w : World) (b o n : Nat) (k : Nat → Int) (e : Ending) (w' : World) : Prop :=
  e = .returned (.tuple #[]) ∧ ∃ g, Pre k n n g ∧ Nums w' b o n g ∧ w.grownBy w' (rowOf n b)

theorem grown_swap {a w : World} {b : Nat} (h : a.grownBy w (some b)) (o1 o2 : Nat) (u v : Value) : a.grownBy ((w.setCell ⟨b, o1, none⟩ u).setCell ⟨b, o2, none⟩ v) (some b) := by
  refine ⟨h.os, h.tape, h.output, by simpa [World.setCell] using h.size, fun i hi hne => ?_⟩
  rw [Below.heap_setCell _ _ _ _ (fun e => hne (by rw [e])), Below.heap_setCell _ _ _ _ (fun e => hne (by rw [e]))]
  exact h.block i hi hne

theorem Tides.kept {w w' : World} {b bl : Nat} {k : Nat → Int} (h : Tides w bl k) (hg : w.grownBy w' (some b)) (hne : bl ≠ b) : Tides w' bl k := by
  intro i hi
  have hc := h i hi
  have hlt := World.block_lt_of_cell? w _ hc
  exact (World.cell?_of_block (a := ⟨bl, i * 3 + 2, none⟩) (hg.block bl hlt (fun e => hne (by injection e)))).trans hc

theorem Nums.drewN {w : World} {b o n : Nat} {g : Nat → Nat} (h : Nums w b o n g) (m : Nat) : Nums (w.drewN m) b o n g := ⟨h.cell, h.free⟩
theorem Nums.drew {w : World} {b o n : Nat} {g : Nat → Nat} (h : Nums w b o n g) : Nums w.drew b o n g := ⟨h.cell, h.free⟩
theorem Tides.drew {w : World} {b : Nat} {k : Nat → Int} (h : Tides w b k) : Tides w.drew b k := h
theorem grownBy_drewN {a w : World} {row : Option Nat} (h : a.grownBy w row) (n : Nat) : a.grownBy (w.drewN n) row := ⟨h.os, h.tape, h.output, h.size, h.block⟩
theorem Tides.drewN {w : World} {b : Nat} {k : Nat → Int} (h : Tides w b k) (m : Nat) : Tides (w.drewN m) b k := h

def OutR (w : World) (b o n bl : Nat) (k : Nat → Int) (v : Value) (wr : World) : Prop :=
  ∃ i : Nat, 1 ≤ i ∧ (i ≤ n ∨ i = 1) ∧ v = .int .i64 i ∧ ∃ g, Pre k n i g ∧ Nums wr b o n g ∧ w.grownBy wr (rowOf n b) ∧ Tides wr bl k
def InR (w : World) (b o n bl i : Nat) (k : Nat → Int) (v : Value) (wr : World) : Prop :=
  ∃ j : Nat, v = .int .i64 j ∧ ∃ g, Ins k n i j g ∧ Nums wr b o n g ∧ w.grownBy wr (rowOf n b) ∧ Tides wr bl k

set_option maxRecDepth 100000 in
set_option maxHeartbeats 1000000 in
theorem insertion_any (oa : Option Addr) (n cap bl : Nat) (k : Nat → Int) (w : World) (hn : n ≤ 6) (hp : 0 < n → oa = some ⟨blk oa, ofs oa, none⟩) (h : Tides w bl k) (hs : Nums w (blk oa) (ofs oa) n (fun m => m)) (hne : 0 < n → bl ≠ blk oa) :
    Calls Tryz.prog 109 #[.slice oa n cap, .int .i64 0, .int .i64 n, .func (.func 90) #[] #[.pointer (some ⟨bl, 0, none⟩)]] w (SortPost w (blk oa) (ofs oa) n k) := by
  have HP := Lib.hid hp
  clear hp
  go_enter Tryz.func109, Tryz.ntmps109
  go_wp2_with fail
  go_loopw [8] (OutR w (blk oa) (ofs oa) n bl k) (fun i _ => n - (intOf i).toNat)
  case atStart => exact ⟨1, Nat.le_refl _, .inr rfl, rfl, _, Pre.start k n, hs, World.grownBy.refl _ _, h⟩
  case round =>
    obtain ⟨i, hi1, hi2, rfl, g, hpre, hnum, hgr, htid⟩ := hrel
    by_cases hlt : i < n
    · go_wp2_with fail
      obtain ⟨wo, rfl⟩ : ∃ wo : World, wo = wr := ⟨_, rfl⟩
      go_loopw [9] (InR w (blk oa) (ofs oa) n bl i k) (fun j _ => (intOf j).toNat)
      case atStart => exact ⟨i, rfl, g, Ins.start hpre hlt, hnum, hgr, htid⟩
      case round =>
        clear hpre hnum hgr htid
        obtain ⟨j, rfl, g, hins, hnum, hgr, htid⟩ := hrel
        have hji := hins.hj
        have hp' := Lib.hid (HP.out (by omega))
        cases j with
        | zero =>
          have hd : decide ((0 : Int) < ((0 : Nat) : Int)) = false := by decide
          go_wp2_with fail
          go_quiet (fail)
          go_wp2_with fail
          exact ⟨⟨i + 1, by omega, .inl (by omega), by go_num, g, hins.done (.inl rfl), hnum.drewN _, grownBy_drewN hgr _, htid.drewN _⟩, by simp [intOf]; omega⟩
        | succ j =>
          have c1 := hnum.cell (j + 1) (by omega)
          have c0 := hnum.cell j (by omega)
          have f1 := hnum.free (j + 1) (by omega)
          have f0 := hnum.free j (by omega)
          have hd : decide ((0 : Int) < ((j + 1 : Nat) : Int)) = true := by simp
          have hi1 := fun w => run_indexAt_row (w := w) (cap := cap) (k := j + 1) (n := n) Tryz.underlying24 size3 hp'.out (by omega)
          have hi0 := fun w => run_indexAt_row (w := w) (cap := cap) (k := j) (n := n) Tryz.underlying24 size3 hp'.out (by omega)
          simp only [Nat.mul_one, Int.natCast_add, Int.natCast_one] at hi1 hi0 hd ⊢
          have l1 : g (j + 1) < 6 := by rw [hins.atj]; omega
          have l0 : g j < 6 := by have := hins.lt j (by omega) (by omega); omega
          by_cases hk : k (g (j + 1)) < k (g j)
          · have hcm : decide (cmpI (k (g (j + 1))) (k (g j)) < 0) = true := by simpa [cmpI_lt] using hk
            go_wp2_with fail
            have hwr : IntKind.i64.wrap (j : Int) = j := IntWalk.i64_in _ (by omega)
            go_quiet ((go_at_call 90; exact Calls.quiet_of (less_any _ _ _ _ l1 l0 _ (Tides.drewN htid _))))
            clear hwr
            go_wp2_with fail
            have C1 : (wr.drewN nq).cell? ⟨blk oa, ofs oa + (j + 1), none⟩ = some (.int .i64 (g (j + 1))) := c1
            have C0 : (wr.drewN nq).cell? ⟨blk oa, ofs oa + j, none⟩ = some (.int .i64 (g j)) := c0
            have F1 : (wr.drewN nq).frozen? ⟨blk oa, ofs oa + (j + 1), none⟩ = false := f1
            have F0 : (wr.drewN nq).frozen? ⟨blk oa, ofs oa + j, none⟩ = false := f0
            have HN : Hid (Nums (wr.drewN nq) (blk oa) (ofs oa) n g) := ⟨hnum.cell, hnum.free⟩
            have HG : Hid (w.grownBy (wr.drewN nq) (some (blk oa))) := by rw [rowOf_pos (by omega)] at hgr; exact ⟨hgr.os, hgr.tape, hgr.output, hgr.size, hgr.block⟩
            have HT : Hid (Tides (wr.drewN nq) bl k) := Tides.drewN htid _
            clear c1 c0 f1 f0 hnum hgr htid
            generalize wr.drewN nq = W at *
            have hwr : IntKind.i64.wrap (j : Int) = j := IntWalk.i64_in _ (by omega)
            go_region
            clear hwr
            go_wp2_with fail
            exact ⟨⟨j, rfl, swp g j, hins.step hk, (HN.out.swap (by omega)).drew, by rw [rowOf_pos (by omega)]; exact grownBy_drewN (grown_swap HG.out _ _ _ _) 1, ((HT.out.kept (grown_swap (World.grownBy.refl _ _) _ _ _ _) (hne (by omega)))).drew⟩, by simp [intOf]⟩
          · have hcm : decide (cmpI (k (g (j + 1))) (k (g j)) < 0) = false := by simpa [cmpI_lt] using hk
            go_wp2_with fail
            have hwr : IntKind.i64.wrap (j : Int) = j := IntWalk.i64_in _ (by omega)
            go_quiet ((go_at_call 90; exact Calls.quiet_of (less_any _ _ _ _ l1 l0 _ (Tides.drewN htid _))))
            clear hwr
            go_wp2_with fail
            exact ⟨⟨i + 1, by omega, .inl (by omega), by go_num, g, hins.done (.inr (by simpa using hk)), hnum.drewN _, grownBy_drewN hgr _, htid.drewN _⟩, by simp [intOf]; omega⟩
    · go_wp2_with fail
      go_end0
      refine ⟨rfl, g, ?_, hnum, hgr⟩
      by_cases e : i = n
      · rw [e] at hpre; exact hpre
      · obtain rfl : n = 0 := by omega
        exact ⟨fun m h => by omega, fun v h => by omega, fun m h1 h2 => by omega, fun a b h1 h2 => by omega⟩
end Go.Proofs.YtikeihnhkiipgaaGreat.Wa

namespace Go.Proofs.YtikeihnhkiipgaaGreat.Wa
open Go.RowKit

set_option maxRecDepth 100000 in
set_option maxHeartbeats 1000000 in
theorem stable_any (oa : Option Addr) (n cap bl : Nat) (k : Nat → Int) (w : World) (hn : n ≤ 6) (hp : 0 < n → oa = some ⟨blk oa, ofs oa, none⟩) (h : Tides w bl k) (hs : Nums w (blk oa) (ofs oa) n (fun m => m)) (hne : 0 < n → bl ≠ blk oa) :
    Calls Tryz.prog 106 #[.slice oa n cap, .int .i64 n, .func (.func 90) #[] #[.pointer (some ⟨bl, 0, none⟩)]] w (SortPost w (blk oa) (ofs oa) n k) := by
  have c := insertion_any oa n cap bl k w hn hp h hs hne
  have C := Lib.hid c
  have d1 : decide ((20 : Int) ≤ (n : Int)) = false := by simp; omega
  have d2 : decide ((20 : Int) < (n : Int)) = false := by simp; omega
  clear c hp h hs hne
  go_enter Tryz.func106, Tryz.ntmps106
  go_wp2_with fail
  refine wp_loop_rounds 1 ?_
  rw [rounds_succ]
  go_wp2_with fail
  refine C.out.mono ?_
  rintro e w' ⟨rfl, HX⟩
  have HX' := Lib.hid HX
  clear HX
  go_wp2_with fail
  refine wp_loop_rounds 1 ?_
  rw [rounds_succ]
  go_wp2_with fail
  go_end0
  exact ⟨rfl, HX'.out⟩

set_option maxHeartbeats 400000 in
theorem sortStable_any (oa : Option Addr) (n cap bl : Nat) (k : Nat → Int) (w : World) (hn : n ≤ 6) (hp : 0 < n → oa = some ⟨blk oa, ofs oa, none⟩) (h : Tides w bl k) (hs : Nums w (blk oa) (ofs oa) n (fun m => m)) (hne : 0 < n → bl ≠ blk oa) :
    Calls Tryz.prog 89 #[.slice oa n cap, .func (.func 90) #[] #[.pointer (some ⟨bl, 0, none⟩)]] w (SortPost w (blk oa) (ofs oa) n k) := by
  have C := Lib.hid (stable_any oa n cap bl k w hn hp h hs hne)
  clear hp h hs hne
  go_enter Tryz.func89, Tryz.ntmps89
  go_wp2_with fail
  refine C.out.mono ?_
  rintro e w' ⟨rfl, HX⟩
  have HX' := Lib.hid HX
  clear HX
  go_wp2_with fail
  go_end0
  exact ⟨rfl, HX'.out⟩
end Go.Proofs.YtikeihnhkiipgaaGreat.Wa

namespace Go.Proofs.YtikeihnhkiipgaaGreat.Wa
open Go.RowKit

theorem laidOut : laidOutB Tryz.prog = true := by kernel_rfl
theorem rowPlace : (151 : TypeId) < Tryz.prog.types.size := of_decide_eq_true (by kernel_rfl)
theorem deepPlace : Tryz.prog.keyTypeAt 3 151 = true := by kernel_rfl
theorem lawPlace : WideMaps.KeyLaw Tryz.prog 151 := deep_law_laid laidOut (m := 3) (by omega) rowPlace deepPlace (by kernel_rfl)
theorem keyedPlace : Maps.Keyed Tryz.prog 151 := Maps.Keyed.of_law lawPlace
theorem zero91 (w : World) : (zeroValue 149).run Tryz.prog w = .ok (.int .u32 0) w := by kernel_rfl

def pkey (s c : Int) : Value := .agg #[.int .i64 s, .int .i64 c]
def pdom (s c : Int) : Prop := 0 ≤ s ∧ s ≤ 2 ∧ -1 ≤ c ∧ c ≤ 3
def pbytes (s c : Int) : List UInt8 := keyBytes [.int .i64 s, .int .i64 c]
def pkl (s c : Int) : Lit := .string (pbytes s c)

theorem dom_cases {s c : Int} (h : pdom s c) : (s = 0 ∨ s = 1 ∨ s = 2) ∧ (c = -1 ∨ c = 0 ∨ c = 1 ∨ c = 2 ∨ c = 3) := by unfold pdom at h; omega
theorem keyOf_place {s c : Int} (h : pdom s c) : keyOf Tryz.prog 151 (pkey s c) = some (pkl s c) := by
  obtain ⟨hs, hc⟩ := dom_cases h
  rcases hs with rfl | rfl | rfl <;> rcases hc with rfl | rfl | rfl | rfl | rfl <;> kernel_rfl
theorem pkl_fin : ∀ (a a' : Fin 3) (b b' : Fin 5), pbytes (a.val : Int) ((b.val : Int) - 1) = pbytes (a'.val : Int) ((b'.val : Int) - 1) → a = a' ∧ b = b' := by decide +kernel
theorem pkl_inj {s c s' c' : Int} (h : pdom s c) (h' : pdom s' c') (e : pkl s c = pkl s' c') : s = s' ∧ c = c' := by
  simp only [pkl, Lit.string.injEq] at e
  obtain ⟨h1, h2, h3, h4⟩ := h
  obtain ⟨h1', h2', h3', h4'⟩ := h'
  have := pkl_fin ⟨s.toNat, by omega⟩ ⟨s'.toNat, by omega⟩ ⟨(c + 1).toNat, by omega⟩ ⟨(c' + 1).toNat, by omega⟩ (by
    have e1 : ((s.toNat : Nat) : Int) = s := by omega
    have e2 : ((s'.toNat : Nat) : Int) = s' := by omega
    have e3 : (((c + 1).toNat : Nat) : Int) - 1 = c := by omega
    have e4 : (((c' + 1).toNat : Nat) : Int) - 1 = c' := by omega
    simp only [e1, e2, e3, e4, e])
  simp only [Fin.mk.injEq] at this
  omega

def MapAt (w : World) (B n : Nat) (G : Int → Int → Nat) : Prop :=
  ∃ D : DataW Unit, w.ownsMap Tryz.prog 151 (plainElem Tryz.prog 149) B n D ∧ ∀ s c, pdom s c → D.atKey (pkl s c) (.lit (.int .u32 0)) = .lit (.int .u32 (G s c))
def upd (G : Int → Int → Nat) (s c : Int) (v : Nat) : Int → Int → Nat := fun s' c' => if s' = s ∧ c' = c then v else G s' c'

theorem MapAt.made (w : World) : MapAt (w.alloc (.map #[] 0)) w.heap.size 0 (fun _ _ => 0) :=
  ⟨.map [], World.ownsMap_made _ _ _ _, fun _ _ _ => rfl⟩
theorem MapAt.lt {w : World} {B n : Nat} {G : Int → Int → Nat} (h : MapAt w B n G) : B < w.heap.size := by
  obtain ⟨D, h, _⟩ := h; exact h.lt
theorem MapAt.below {w w' : World} {B n C : Nat} {G : Int → Int → Nat} (h : MapAt w B n G) (hb : Below C w w') (hB : B < C) : MapAt w' B n G := by
  obtain ⟨D, ⟨es, clock, hh, F, hs, hD⟩, h2⟩ := h
  exact ⟨D, ⟨es, clock, (hb.block B hB).trans hh, F, hs, hD⟩, h2⟩
theorem MapAt.grow {w w' : World} {B n : Nat} {G : Int → Int → Nat} (h : MapAt w B n G) (hb : Below w.heap.size w w') : MapAt w' B n G := h.below hb h.lt
theorem MapAt.kept {w w' : World} {B n : Nat} {G : Int → Int → Nat} {row : Option Nat} (h : MapAt w B n G) (hg : w.grownBy w' row) (hne : some B ≠ row) : MapAt w' B n G := by
  obtain ⟨D, h1, h2⟩ := h
  exact ⟨D, h1.kept hg hne, h2⟩
theorem MapAt.drew {w : World} {B n : Nat} {G : Int → Int → Nat} (h : MapAt w B n G) : MapAt w.drew B n G := h
theorem MapAt.drewN {w : World} {B n : Nat} {G : Int → Int → Nat} (h : MapAt w B n G) (m : Nat) : MapAt (w.drewN m) B n G := h

theorem MapAt.look {w : World} {B n : Nat} {G : Int → Int → Nat} (h : MapAt w B n G) {s c : Int} (hd : pdom s c) :
    (Instr.lookup 146 (.map (some B)) (.agg #[.int .i64 s, .int .i64 c]) false).run Tryz.prog w = .ok (.int .u32 (G s c)) w := by
  obtain ⟨D, h1, h2⟩ := h
  obtain ⟨x, hrun, hat, _⟩ := h1.lookup_int keyedPlace Tryz.underlying146 Tryz.underlying149 (zero91 w) (keyOf_place hd)
  rw [h2 s c hd] at hat
  simp only [DataW.lit.injEq, Lit.int.injEq] at hat
  rw [hat.2]
  exact hrun

theorem wf_u32 (v : Nat) (h : v < 4294967296) : (Lit.int .u32 (v : Int)).wf = true := by
  simp [Lit.wf, IntKind.min, IntKind.max, IntKind.signed, IntKind.bits]
  omega

theorem isKey_pkl (s c : Int) : WideAt.IsKeyLit (pkl s c) := by simp [pkl, WideAt.IsKeyLit]

theorem MapAt.store {w : World} {B n : Nat} {G : Int → Int → Nat} (h : MapAt w B n G) {s c : Int} (hd : pdom s c) {v : Nat} (hv : v < 4294967296) (hn : n < maxLen) :
    ∃ w', (Instr.mapUpdate 146 (.map (some B)) (.agg #[.int .i64 s, .int .i64 c]) (.int .u32 v)).run Tryz.prog w = .ok () w' ∧ MapAt w' B (n + 1) (upd G s c v) ∧ w.grownBy w' (some B) := by
  obtain ⟨D, h1, h2⟩ := h
  obtain ⟨w', r1, r2, r3⟩ := h1.update keyedPlace Tryz.underlying146 hn (keyOf_place hd) (plainElem_int Tryz.underlying149 (wf_u32 v hv))
  refine ⟨w', r1, ⟨_, r2, fun s' c' hd' => ?_⟩, r3⟩
  obtain ⟨es, clock, _, _, _, hD⟩ := h1
  by_cases e : s' = s ∧ c' = c
  · obtain ⟨rfl, rfl⟩ := e
    rw [Maps.atKey_put_same ⟨_, hD⟩ (isKey_pkl _ _)]
    simp [upd]
  · rw [Maps.atKey_put_other (fun e' => e (pkl_inj hd' hd e')), h2 s' c' hd']
    simp [upd, e]

/-- What 'm[k] op= v' does: the entry is made or found, the look-up still reads the same, and the store behind it is the map's update. -/
theorem MapAt.entry {w : World} {B n : Nat} {G : Int → Int → Nat} (h : MapAt w B n G) {s c : Int} (hd : pdom s c) {v : Nat} (hv : v < 4294967296) (hn : n < maxLen) :
    ∃ (v0 : Value) (st : Nat) (w1 w2 : World),
      (Instr.mapEntry 146 (.map (some B)) (.agg #[.int .i64 s, .int .i64 c])).run Tryz.prog w = .ok (.tuple #[v0, goInt st]) w1 ∧
      (Instr.lookup 146 (.map (some B)) (.agg #[.int .i64 s, .int .i64 c]) false).run Tryz.prog w1 = .ok (.int .u32 (G s c)) w1 ∧
      (Instr.entryStore 146 (.map (some B)) (goInt st) (.int .u32 v)).run Tryz.prog w1 = .ok () w2 ∧
      MapAt w2 B (n + 1) (upd G s c v) ∧ w.grownBy w1 (some B) ∧ w.grownBy w2 (some B) := by
  have h0 := h
  have hl := h.look hd
  obtain ⟨w0, q1, q2, q3⟩ := h.store hd (v := 0) (by omega) hn
  obtain ⟨D, ⟨es, clock, hb, F, hs, hD⟩, h2⟩ := h
  have hkey := keyOf_place hd
  rcases lawPlace.find w hkey es.toList F.keys with ⟨h1, h3⟩ | ⟨j, e0, h1, h3, h4⟩
  · -- the key is new: its entry is made as a store of zero makes it
    have hm : (Instr.mapEntry 146 (.map (some B)) (pkey s c)).run Tryz.prog w = .ok (.tuple #[.int .u32 0, goInt clock]) (ChangeMaps.setBlock w B (.map (es.push ⟨pkey s c, .int .u32 0, clock⟩) (clock + 1))) := by
      simp [Instr.mapEntry, run_underlying Tryz.underlying146, MapKept.run_getObj_map hb, lawPlace.check w false hkey, h1, MapKept.run_setObj_map _ hb, Result.andThen, ChangeMaps.setBlock]
    have hu : (Instr.mapUpdate 146 (.map (some B)) (pkey s c) (.int .u32 ((0 : Nat) : Int))).run Tryz.prog w = .ok () (ChangeMaps.setBlock w B (.map (es.push ⟨pkey s c, .int .u32 0, clock⟩) (clock + 1))) := by
      simp [Instr.mapUpdate, run_underlying Tryz.underlying146, MapKept.run_getObj_map hb, lawPlace.check w false hkey, h1, MapKept.run_setObj_map _ hb, Result.andThen, ChangeMaps.setBlock]
    have e0 : w0 = ChangeMaps.setBlock w B (.map (es.push ⟨pkey s c, .int .u32 0, clock⟩) (clock + 1)) := by
      have := q1.symm.trans hu
      simpa using this
    have g0 : G s c = 0 := by
      have hlk : (Instr.lookup 146 (.map (some B)) (pkey s c) false).run Tryz.prog w = .ok (.int .u32 0) w := by
        simp [Instr.lookup, run_underlying Tryz.underlying146, MapKept.run_getObj_map hb, lawPlace.check w _ hkey, h1, Result.andThen]
      have := hl.symm.trans hlk
      simpa using this
    have hG : upd G s c 0 = G := by
      funext s' c'
      unfold upd
      split
      · rename_i e; rw [e.1, e.2, g0]
      · rfl
    rw [hG] at q2
    obtain ⟨v0, st, es1, clock1, e1, _, e3⟩ := WideElems.entry_then_store lawPlace Tryz.underlying146 zero91 hb F hkey
    obtain ⟨w', r1, r2, r3⟩ := h0.store hd hv hn
    rw [hm] at e1
    simp only [Result.ok.injEq] at e1
    obtain ⟨ev, ew⟩ := e1
    have hb1 : w0.heap[B]? = some (.map es1 clock1) := by rw [e0, ew]; exact ChangeMaps.heap_setBlock_same hb _
    obtain ⟨es', clock', s1, s2⟩ := e3 w0 (.int .u32 v) hb1
    have hw' : w' = ChangeMaps.setBlock w B (.map es' clock') := by
      have := r1.symm.trans s2
      simpa using this
    have hst : goInt clock = goInt st := by simp at ev; exact ev.2
    refine ⟨_, clock, w0, ChangeMaps.setBlock w0 B (.map es' clock'), by rw [e0]; exact hm, q2.look hd, by rw [hst]; exact s1, ?_, q3, ?_⟩
    · have : ChangeMaps.setBlock w0 B (.map es' clock') = w' := by rw [hw', e0]; simp [ChangeMaps.setBlock]
      rw [this]; exact r2
    · have : ChangeMaps.setBlock w0 B (.map es' clock') = w' := by rw [hw', e0]; simp [ChangeMaps.setBlock]
      rw [this]; exact r3
  · -- the key is there: nothing turns
    have hj : es[j]? = some e0 := by simpa using h3
    have hsame : es.modify j (fun e => { e with key := pkey s c }) = es := by
      apply Array.ext'
      rw [Array.toList_modify, ChangeMaps.modify_eq_set _ _ _ _ h3]
      have : ({ e0 with key := pkey s c } : MapEntry) = e0 := by rw [← h4]
      rw [this]
      exact WideElems.set_self _ _ _ h3
    have hm : (Instr.mapEntry 146 (.map (some B)) (pkey s c)).run Tryz.prog w = .ok (.tuple #[e0.val, goInt e0.born]) (ChangeMaps.setBlock w B (.map es clock)) := by
      simp [Instr.mapEntry, run_underlying Tryz.underlying146, MapKept.run_getObj_map hb, lawPlace.check w false hkey, h1, hj, h4, lawPlace.stays w hkey, hsame, MapKept.run_setObj_map _ hb, Result.andThen, ChangeMaps.setBlock]
    have hw : ChangeMaps.setBlock w B (.map es clock) = w := by
      have hlt : B < w.heap.size := lt_of_heap hb
      have : w.heap.setIfInBounds B (.map es clock) = w.heap := by
        apply Array.ext_getElem?
        intro i
        by_cases e : B = i
        · subst e
          rw [Array.getElem?_setIfInBounds_self_of_lt hlt, hb]
        · rw [Array.getElem?_setIfInBounds_ne e]
      unfold ChangeMaps.setBlock
      rw [this]
    rw [hw] at hm
    obtain ⟨v0, st, es1, clock1, e1, _, e3⟩ := WideElems.entry_then_store lawPlace Tryz.underlying146 zero91 hb F hkey
    obtain ⟨w', r1, r2, r3⟩ := h0.store hd hv hn
    rw [hm] at e1
    simp only [Result.ok.injEq] at e1
    obtain ⟨ev, ew⟩ := e1
    have hb1 : w.heap[B]? = some (.map es1 clock1) := by
      have := ChangeMaps.heap_setBlock_same hb (.map es1 clock1)
      rw [← ew] at this
      exact this
    obtain ⟨es', clock', s1, s2⟩ := e3 w (.int .u32 v) hb1
    have hw' : w' = ChangeMaps.setBlock w B (.map es' clock') := by
      have := r1.symm.trans s2
      simpa using this
    have hst : goInt e0.born = goInt st := by simp at ev; exact ev.2
    exact ⟨_, e0.born, w, ChangeMaps.setBlock w B (.map es' clock'), hm, hl, by rw [hst]; exact s1, by rw [← hw']; exact r2, World.grownBy.refl _ _, by rw [← hw']; exact r3⟩
end Go.Proofs.YtikeihnhkiipgaaGreat.Wa

namespace Go.Proofs.YtikeihnhkiipgaaGreat.Wa
open Go.RowKit

structure Kn where
  fr : Int
  to : Int
  td : Int
def Kn.v (k : Kn) : Value := .agg #[.int .i64 k.fr, .int .i64 k.to, .int .i64 k.td]
def Tk.v (t : Tk) : Value := .agg #[.int .i64 t.crew, .int .i64 t.seam, .int .i64 t.fl, .int .i64 t.fh, .int .i64 t.tl, .int .i64 t.th, .int .i64 t.dl, .int .i64 t.dh]

/-- Block b holds six known tickets; it can be written. -/
structure Larr (w : World) (b : Nat) (f : Nat → Kn) : Prop where
  lt : b < w.heap.size
  fr : ∀ i, i < 6 → w.cell? ⟨b, i * 3, none⟩ = some (.int .i64 (f i).fr)
  to : ∀ i, i < 6 → w.cell? ⟨b, i * 3 + 1, none⟩ = some (.int .i64 (f i).to)
  td : ∀ i, i < 6 → w.cell? ⟨b, i * 3 + 2, none⟩ = some (.int .i64 (f i).td)
  free : ∀ i, i < 18 → w.frozen? ⟨b, i, none⟩ = false

theorem Larr.kept {w w' : World} {b : Nat} {f : Nat → Kn} {row : Option Nat} (h : Larr w b f) (hg : w.grownBy w' row) (hne : some b ≠ row) : Larr w' b f := by
  have e := hg.block b h.lt hne
  have c : ∀ o, w'.cell? ⟨b, o, none⟩ = w.cell? ⟨b, o, none⟩ := fun o => World.cell?_of_block (a := ⟨b, o, none⟩) e
  have d : ∀ o, w'.frozen? ⟨b, o, none⟩ = w.frozen? ⟨b, o, none⟩ := fun o => World.frozen?_of_block (a := ⟨b, o, none⟩) e
  exact ⟨Nat.lt_of_lt_of_le h.lt hg.size, fun i hi => (c _).trans (h.fr i hi), fun i hi => (c _).trans (h.to i hi), fun i hi => (c _).trans (h.td i hi), fun i hi => (d _).trans (h.free i hi)⟩
theorem Larr.grow {w w' : World} {b : Nat} {f : Nat → Kn} (h : Larr w b f) (hb : Below w.heap.size w w') : Larr w' b f := by
  have e := hb.block b h.lt
  have c : ∀ o, w'.cell? ⟨b, o, none⟩ = w.cell? ⟨b, o, none⟩ := fun o => World.cell?_of_block (a := ⟨b, o, none⟩) e
  have d : ∀ o, w'.frozen? ⟨b, o, none⟩ = w.frozen? ⟨b, o, none⟩ := fun o => World.frozen?_of_block (a := ⟨b, o, none⟩) e
  exact ⟨Nat.lt_of_lt_of_le h.lt hb.size, fun i hi => (c _).trans (h.fr i hi), fun i hi => (c _).trans (h.to i hi), fun i hi => (c _).trans (h.td i hi), fun i hi => (d _).trans (h.free i hi)⟩
theorem Larr.tides {w : World} {b : Nat} {f : Nat → Kn} (h : Larr w b f) : Tides w b (fun i => (f i).td) := h.td

def setk (f : Nat → Kn) (k : Nat) (x : Kn) : Nat → Kn := fun i => if i = k then x else f i

theorem size_setCell (w : World) (a : Addr) (v : Value) : (w.setCell a v).heap.size = w.heap.size := by simp [World.setCell]

/-- A cell behind three stores into one block. -/
theorem Larr.set {w : World} {b : Nat} {f : Nat → Kn} (h : Larr w b f) {k : Nat} (hk : k < 6) (x : Kn) :
    Larr (((w.setCell ⟨b, k * 3, none⟩ (.int .i64 x.fr)).setCell ⟨b, k * 3 + 1, none⟩ (.int .i64 x.to)).setCell ⟨b, k * 3 + 2, none⟩ (.int .i64 x.td)) b (setk f k x) where
  lt := by simp only [size_setCell]; exact h.lt
  fr := fun i hi => by
    rw [World.cell?_setCell_other _ _ _ _ (by simp <;> omega), World.cell?_setCell_other _ _ _ _ (by simp <;> omega)]
    by_cases e : i = k
    · subst e; rw [World.cell?_setCell_same' _ _ _ (by rw [h.fr i hi]; rfl)]; simp [setk]
    · rw [World.cell?_setCell_other _ _ _ _ (by simp <;> omega), h.fr i hi]; simp [setk, e]
  to := fun i hi => by
    rw [World.cell?_setCell_other _ _ _ _ (by simp <;> omega)]
    by_cases e : i = k
    · subst e; rw [World.cell?_setCell_same' _ _ _ (by rw [World.cell?_setCell_other _ _ _ _ (by simp <;> omega), h.to i hi]; rfl)]; simp [setk]
    · rw [World.cell?_setCell_other _ _ _ _ (by simp <;> omega), World.cell?_setCell_other _ _ _ _ (by simp <;> omega), h.to i hi]; simp [setk, e]
  td := fun i hi => by
    by_cases e : i = k
    · subst e; rw [World.cell?_setCell_same' _ _ _ (by rw [World.cell?_setCell_other _ _ _ _ (by simp <;> omega), World.cell?_setCell_other _ _ _ _ (by simp <;> omega), h.td i hi]; rfl)]; simp [setk]
    · rw [World.cell?_setCell_other _ _ _ _ (by simp <;> omega), World.cell?_setCell_other _ _ _ _ (by simp <;> omega), World.cell?_setCell_other _ _ _ _ (by simp <;> omega), h.td i hi]; simp [setk, e]
  free := fun i hi => by rw [World.frozen?_setCell, World.frozen?_setCell, World.frozen?_setCell]; exact h.free i hi

theorem grown3 (w : World) (b o1 o2 o3 : Nat) (u v x : Value) : w.grownBy (((w.setCell ⟨b, o1, none⟩ u).setCell ⟨b, o2, none⟩ v).setCell ⟨b, o3, none⟩ x) (some b) :=
  ⟨rfl, rfl, rfl, by simp only [size_setCell]; exact Nat.le_refl _, fun i _ hne => by
    rw [Below.heap_setCell _ _ _ _ (fun e => hne (by rw [e])), Below.heap_setCell _ _ _ _ (fun e => hne (by rw [e])), Below.heap_setCell _ _ _ _ (fun e => hne (by rw [e]))]⟩

def numVals (k : Nat) : List Value := (List.range k).map fun (i : Nat) => Value.int .i64 (i : Int)
theorem numVals_succ (k : Nat) : numVals (k + 1) = numVals k ++ [.int .i64 (k : Int)] := by simp [numVals, List.range_succ]
theorem numVals_get (k i : Nat) (h : i < k) : (numVals k)[i]? = some (.int .i64 (i : Int)) := by simp [numVals, h]

/-- The row of the first n numbers, as a slice that may be nil. -/
theorem row_nums {w : World} {base n : Nat} {v : Value} (h : w.ownsRow base 3 1 v n (numVals n)) :
    ∃ oa cap, v = .slice oa n cap ∧ (0 < n → oa = some ⟨blk oa, ofs oa, none⟩) ∧ Nums w (blk oa) (ofs oa) n (fun m => m) ∧ (0 < n → base ≤ blk oa ∧ blk oa < w.heap.size) ∧ (∀ b, b < base → 0 < n → b ≠ blk oa) := by
  rcases h.2 with ⟨rfl, rfl⟩ | ⟨g, cap, cur, rfl, hb, hg, hle, hm, hs, ht⟩
  · exact ⟨none, 0, rfl, fun h => by omega, ⟨fun i hi => by omega, fun i hi => by omega⟩, fun h => by omega, fun _ _ h => by omega⟩
  · refine ⟨some ⟨g, 0, none⟩, cap, rfl, fun _ => rfl, ⟨fun i hi => ?_, fun i hi => ?_⟩, fun _ => ⟨hb, lt_of_heap hg⟩, fun b hb' _ e => ?_⟩
    · show w.cell? ⟨g, 0 + i, none⟩ = _
      rw [cellAt hg, Nat.zero_add]
      have h1 := numVals_get n i hi
      rw [← ht] at h1
      rw [List.getElem?_take] at h1
      split at h1
      · rw [← Array.getElem?_toList]; exact h1
      · cases h1
    · exact freeAt hg _
    · simp only [blk] at e; omega
end Go.Proofs.YtikeihnhkiipgaaGreat.Wa
