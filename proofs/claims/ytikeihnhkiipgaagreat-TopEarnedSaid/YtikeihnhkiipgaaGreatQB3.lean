/-
  Maps that remember: what every entry says; a mark as a key.
  The iterator over steps, as a range over a function takes it; what is told of the plans from a mark on.
-/
import Derived.Test.YtikeihnhkiipgaaGreatQB1
import Derived.Maps.Own
import Derived.Maps.Views
import Derived.WideKeyEntry
import Derived.DeepKeys4
namespace Go.Proofs.YtikeihnhkiipgaaGreat
open Go.RowKit

/-- Block B is a map of which every entry is as Ok says. -/
def MemoAt (kt : TypeId) (Ok : Value → Value → Prop) (B : Nat) (w : World) : Prop :=
  ∃ es clock, w.heap[B]? = some (.map es clock) ∧ ∀ e ∈ es.toList, (∃ l, keyOf Tryz.prog kt e.key = some l) ∧ Ok e.key e.val
section
variable {kt mt et : TypeId} {Ok : Value → Value → Prop} {B : Nat} {w w' : World} {key v z : Value}
theorem MemoAt.made (kt : TypeId) (Ok : Value → Value → Prop) (w : World) : MemoAt kt Ok w.heap.size (w.alloc (.map #[] 0)) :=
  ⟨#[], 0, World.alloc_heap_new _ _, fun e he => by cases he⟩
theorem MemoAt.lt (h : MemoAt kt Ok B w) : B < w.heap.size := by
  obtain ⟨es, c, hb, -⟩ := h
  exact lt_of_heap hb
theorem MemoAt.same (h : MemoAt kt Ok B w) (hs : w'.heap[B]? = w.heap[B]?) : MemoAt kt Ok B w' := by
  obtain ⟨es, c, hb, he⟩ := h
  exact ⟨es, c, hs.trans hb, he⟩
theorem MemoAt.grow (h : MemoAt kt Ok B w) (hb : Below w.heap.size w w') : MemoAt kt Ok B w' := h.same (hb.block B h.lt)
theorem MemoAt.look (K : WideMaps.KeyLaw Tryz.prog kt) (hmt : Tryz.prog.underlying mt = some (.map kt et)) (hz : (zeroValue et).run Tryz.prog w = .ok z w) (h : MemoAt kt Ok B w) (hk : ∃ l, keyOf Tryz.prog kt key = some l) :
    (Instr.lookup mt (.map (some B)) key true).run Tryz.prog w = .ok (.tuple #[z, .bool false]) w ∨ ∃ v, Ok key v ∧ (Instr.lookup mt (.map (some B)) key true).run Tryz.prog w = .ok (.tuple #[v, .bool true]) w := by
  obtain ⟨es, c, hb, he⟩ := h
  obtain ⟨l, hkey⟩ := hk
  rcases K.find w hkey es.toList (fun e h => (he e h).1) with ⟨h1, -⟩ | ⟨j, e, h1, h2, h3⟩
  · refine .inl ?_
    simp [Instr.lookup, run_underlying hmt, MapKept.run_getObj_map hb, K.check w _ hkey, h1, Result.andThen, hz]
  · refine .inr ⟨e.val, ?_, ?_⟩
    · have := (he e (List.mem_of_getElem? h2)).2
      rwa [h3] at this
    · simp [Instr.lookup, run_underlying hmt, MapKept.run_getObj_map hb, K.check w _ hkey, h1, Result.andThen]
theorem grown_block {es : Array MapEntry} {c : Nat} (hb : w.heap[B]? = some (.map es c)) (o : Obj) : w.grownBy (ChangeMaps.setBlock w B o) (some B) :=
  ⟨rfl, rfl, rfl, by simp [ChangeMaps.setBlock], fun k _ hk => ChangeMaps.heap_setBlock_other hb _ (fun e => hk (by rw [e]))⟩
theorem MemoAt.store (K : WideMaps.KeyLaw Tryz.prog kt) (hmt : Tryz.prog.underlying mt = some (.map kt et)) (h : MemoAt kt Ok B w) (hk : ∃ l, keyOf Tryz.prog kt key = some l) (hv : Ok key v) :
    ∃ w', (Instr.mapUpdate mt (.map (some B)) key v).run Tryz.prog w = .ok () w' ∧ MemoAt kt Ok B w' ∧ w.grownBy w' (some B) := by
  obtain ⟨es, c, hb, he⟩ := h
  obtain ⟨l, hkey⟩ := hk
  rcases K.find w hkey es.toList (fun e h => (he e h).1) with ⟨h1, -⟩ | ⟨j, e, h1, h2, h3⟩
  · refine ⟨ChangeMaps.setBlock w B (.map (es.push ⟨key, v, c⟩) (c + 1)), ?_, ?_, ?_⟩
    · simp [Instr.mapUpdate, run_underlying hmt, MapKept.run_getObj_map hb, K.check w false hkey, h1, MapKept.run_setObj_map _ hb, Result.andThen, ChangeMaps.setBlock]
    · refine ⟨_, _, ChangeMaps.heap_setBlock_same hb _, fun x hx => ?_⟩
      rw [Array.toList_push, List.mem_append] at hx
      rcases hx with hx | hx
      · exact he x hx
      · rw [List.mem_singleton] at hx
        subst hx
        exact ⟨⟨l, hkey⟩, hv⟩
    · exact grown_block hb _
  · have hst : (Instr.keyThatStays (((es[j]?).map (·.key)).getD key) key).run Tryz.prog w = .ok key w := by
      rw [← Array.getElem?_toList, h2]
      show (Instr.keyThatStays e.key key).run Tryz.prog w = _
      rw [h3]
      exact K.stays w hkey
    refine ⟨ChangeMaps.setBlock w B (.map (es.modify j fun e => { e with key := key, val := v }) c), ?_, ?_, grown_block hb _⟩
    · simp [Instr.mapUpdate, run_underlying hmt, MapKept.run_getObj_map hb, K.check w false hkey, h1, hst, MapKept.run_setObj_map _ hb, Result.andThen, ChangeMaps.setBlock]
    · refine ⟨_, _, ChangeMaps.heap_setBlock_same hb _, fun x hx => ?_⟩
      rw [Array.toList_modify] at hx
      obtain ⟨i, hi⟩ := List.mem_iff_getElem?.1 hx
      rw [List.getElem?_modify] at hi
      obtain ⟨y, hy, rfl⟩ := Option.map_eq_some_iff.1 hi
      have h0 := he y (List.mem_of_getElem? hy)
      by_cases eij : j = i
      · rw [if_pos eij]
        exact ⟨⟨l, hkey⟩, hv⟩
      · rw [if_neg eij]
        exact h0
end
theorem laidOut : laidOutB Tryz.prog = true := by kernel_rfl
theorem lawMark : WideMaps.KeyLaw Tryz.prog 169 := deep_law_laid laidOut (m := 4) (by omega) (of_decide_eq_true (by kernel_rfl)) (by kernel_rfl) (by kernel_rfl)
theorem wf_i64 {n : Nat} (h : n < 4611686018427387904) : (Lit.int .i64 (n : Int)).wf = true := by
  simp [Lit.wf, IntKind.min, IntKind.max, IntKind.signed, IntKind.bits]
  omega
theorem wf_u64 {n : Nat} (h : n < 4611686018427387904) : (Lit.int .u64 (n : Int)).wf = true := by
  simp [Lit.wf, IntKind.min, IntKind.max, IntKind.signed, IntKind.bits]
  omega
theorem c85 : Tryz.prog.cellsOf 158 = 1 := by kernel_rfl
theorem c96 : Tryz.prog.cellsOf 167 = 3 := by kernel_rfl
theorem c98 : Tryz.prog.cellsOf 169 = 4 := by kernel_rfl
theorem c3 : Tryz.prog.cellsOf 3 = 1 := by kernel_rfl
theorem kl_int (d : Nat) {n : Int} (h : (Lit.int .i64 n).wf = true) : Tryz.prog.keyLits (d + 1) 3 [.int .i64 n] = some [.int .i64 n] := by
  unfold Program.keyLits
  rw [Tryz.underlying3]
  simp [h]
theorem kl_hours (d : Nat) {n : Int} (h : (Lit.int .u64 n).wf = true) : Tryz.prog.keyLits (d + 1) 158 [.int .u64 n] = some [.int .u64 n] := by
  unfold Program.keyLits
  rw [Tryz.underlying158]
  simp [h]
theorem kl_board (d : Nat) {b c e : Int} (h1 : (Lit.int .u64 b).wf = true) (h2 : (Lit.int .u64 c).wf = true) (h3 : (Lit.int .u64 e).wf = true) :
    Tryz.prog.keyLits (d + 2) 167 [.int .u64 b, .int .u64 c, .int .u64 e] = some [.int .u64 b, .int .u64 c, .int .u64 e] := by
  unfold Program.keyLits
  rw [Tryz.underlying167]
  dsimp only
  rw [c96, c85, show List.range 3 = [0, 1, 2] from rfl]
  simp [kl_hours d h1, kl_hours d h2, kl_hours d h3]
theorem key_mark (m : Mk) (hm : m.Ok) (hp : m.pot < 1000) : ∃ l, keyOf Tryz.prog 169 m.v = some l := by
  obtain ⟨a, b, c, d⟩ := m
  obtain ⟨h1, h2, h3⟩ := hm
  dsimp only at h1 h2 h3 hp
  have w0 := wf_i64 (show a < 4611686018427387904 by omega)
  have w1 := wf_u64 (show b < 4611686018427387904 by omega)
  have w2 := wf_u64 (show c < 4611686018427387904 by omega)
  have w3 := wf_u64 (show d < 4611686018427387904 by omega)
  unfold Mk.v Mk.cs
  dsimp only
  generalize (a : Int) = a at *
  generalize (b : Int) = b at *
  generalize (c : Int) = c at *
  generalize (d : Int) = d at *
  refine ⟨.string (keyBytes [.int .i64 a, .int .u64 b, .int .u64 c, .int .u64 d]), ?_⟩
  have hl : Tryz.prog.keyLits (Tryz.prog.types.size + 1) 169 [.int .i64 a, .int .u64 b, .int .u64 c, .int .u64 d] = some [.int .i64 a, .int .u64 b, .int .u64 c, .int .u64 d] := by
    show Tryz.prog.keyLits (Tryz.prog.types.size + 1) 169 _ = _
    unfold Program.keyLits
    rw [Tryz.underlying169]
    dsimp only
    obtain ⟨k, hk⟩ : ∃ k, Tryz.prog.types.size = k + 2 := ⟨Tryz.prog.types.size - 2, by have : 2 ≤ Tryz.prog.types.size := of_decide_eq_true (by kernel_rfl); omega⟩
    rw [hk]
    simp [c98, c3, c96, kl_int (k + 1) w0, kl_board k w1 w2 w3]
  have hf : (Tryz.prog.keyType 169 && (Value.agg #[.int .i64 a, .int .u64 b, .int .u64 c, .int .u64 d]).formed Tryz.prog 169) = true := by kernel_rfl
  unfold keyOf
  rw [Tryz.underlying169]
  dsimp only
  rw [if_pos hf]
  show Option.map _ (Tryz.prog.keyLits (Tryz.prog.types.size + 1) 169 [.int .i64 a, .int .u64 b, .int .u64 c, .int .u64 d]) = _
  rw [hl]
  rfl
end Go.Proofs.YtikeihnhkiipgaaGreat

namespace Go.Proofs.YtikeihnhkiipgaaGreat
open Go.RowKit

abbrev StpIn (p : PN) (m : Mk) := {x : Stp // x ∈ p.steps m}
theorem abides_below {β : Type} {B : Nat} {J : β → World → Prop} (h : AbidesFrom B J) {s : β} {A W : World} (hJ : J s A) (hb : Below A.heap.size A W) : J s W :=
  h s A W none hJ ⟨hb.os, hb.tape, hb.output, hb.size, fun k hk _ => hb.block k hk⟩ (fun _ e => by cases e)
theorem steps_stops (n : Nat) (p : PN) (ok : p.Ok) (fa qa : Option Addr) (fc qc b c1 c2 : Nat) (m : Mk) (hm : m.Ok) (hp : m.pot < p.qn) (w : World) (hS : StW p fa qa fc qc b c1 c2 m w) :
    SeqStopsK Fence.wide n Tryz.prog 100 #[bp c1, bp c2] (fun x : StpIn p m => x.1.vs) (KpC (StC p fa qa b c1 c2)) (fun ys => ys.map (·.1) = p.steps m) (fun pre => ∃ s, pre.map (·.1) ++ s = p.steps m) (p.steps m).length w := by
  intro l J Jx W hW hJ hJx hY h0
  refine (steps1_in n l p ok fa qa fc qc b c1 c2 m hm hp (fun pre W => ∃ l : List (StpIn p m), l.map (·.1) = pre ∧ J l W) (fun pre W => ∃ l : List (StpIn p m), l.map (·.1) = pre ∧ Jx l W) ?_ ?_ W (hS.grow hW) ⟨[], rfl, h0⟩).mono ?_
  · rintro pre A B ⟨l, rfl, hl⟩ hb
    exact ⟨l, rfl, abides_below hJ hl hb⟩
  · rintro pre x W1 hx ⟨l, rfl, hl⟩ hlen -
    refine YieldAt.mono (hY l ⟨x, hx⟩ W1 hl (by simpa using hlen)) ?_
    rintro e W' (⟨he, hJ', hs⟩ | ⟨he, hJ'⟩)
    · exact .inl ⟨he, ⟨_, by simp, hJ'⟩, hs⟩
    · exact .inr ⟨he, ⟨_, by simp, hJ'⟩⟩
  · rintro e W' ⟨hv, ⟨ys, rfl, l, hl, hJ⟩ | ⟨pre, hs, l, rfl, hJ⟩⟩
    · exact ⟨hv, .inl ⟨l, hl, hJ⟩⟩
    · exact ⟨hv, .inr ⟨l, hs, hJ⟩⟩
theorem steps_any (b : Nat) (m : Mk) (w : World) :
    Calls Tryz.prog 81 #[bp b, m.v] w fun e w' => e = .returned (.func (.func 100) #[] #[bp w.heap.size, bp (w.heap.size + 1)]) ∧ w' = (w.alloc (.cells #[bp b] 154)).alloc (.cells m.cs 169) := by
  obtain ⟨x0, x1, x2, x3⟩ := m
  unfold Mk.v Mk.cs
  dsimp only
  go_enter Tryz.func81, Tryz.ntmps81
  go_wp2
  go_ret
  exact ⟨rfl, rfl⟩
def accPut (join : Int → Int → Int) (acc : Option Int) (y : Int) : Option Int := match acc with
  | none => some y
  | some a => some (join a y)
/-- One step more. -/
def tellStep (more : Nat → Nat → Nat → Int → Int) (join : Int → Int → Int) (T : Mk → Option Int) (pot : Nat) (acc : Option Int) (x : Stp) : Option Int :=
  match T x.m with
  | none => acc
  | some r => accPut join acc (more pot x.f x.h r)
/-- What is told of all right plans from a mark on, n pots before the end. -/
def PN.tell (p : PN) (more : Nat → Nat → Nat → Int → Int) (join : Int → Int → Int) (z : Int) : Nat → Mk → Option Int
  | 0, _ => some z
  | n + 1, m => (p.steps m).foldl (tellStep more join (p.tell more join z n) m.pot) none
/-- As it is kept. -/
def knownC : Option Int → Array Value
  | none => #[.int .i64 0, .bool false]
  | some a => #[.int .i64 a, .bool true]
def knownX (o : Option Int) : Int := o.getD 0
theorem knownC_eq (o : Option Int) : knownC o = #[.int .i64 (knownX o), .bool o.isSome] := by cases o <;> rfl
/-- What an entry of the map says. -/
def OkM (p : PN) (T : Nat → Mk → Option Int) (key v : Value) : Prop := ∃ m : Mk, key = m.v ∧ v = .agg (knownC (T (p.qn - m.pot) m))
theorem mark_inj {m m' : Mk} (h : m.v = m'.v) : m = m' := by
  obtain ⟨a, b, c, d⟩ := m
  obtain ⟨a', b', c', d'⟩ := m'
  simp [Mk.v, Mk.cs] at h
  obtain ⟨h1, h2, h3, h4⟩ := h
  have : a = a' := by omega
  have : b = b' := by omega
  have : c = c' := by omega
  have : d = d' := by omega
  subst_vars
  rfl
/-- All that lay, but block k, lies as it lay. -/
abbrev KeepX (k : Nat) (A B : World) : Prop := Keep (fun i => i < A.heap.size ∧ i ≠ k) A B
theorem KeepX.trans {k : Nat} {A B D : World} (h : KeepX k A B) (g : KeepX k B D) : KeepX k A D := Keep.trans h (g.mono fun _ hi => ⟨Nat.lt_of_lt_of_le hi.1 h.size, hi.2⟩)
theorem KeepX.below {k : Nat} {A B : World} (h : Below A.heap.size A B) : KeepX k A B := Keep.of_below h fun _ hi => hi.1
end Go.Proofs.YtikeihnhkiipgaaGreat
