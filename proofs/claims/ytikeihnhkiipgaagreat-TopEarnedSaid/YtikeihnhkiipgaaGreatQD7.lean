/-
  always; a table stored into a fresh box.
  The deals: what they come to; a place as a key.
  deals' closure.
  Walks: deals' closure.
-/
import Derived.Test.YtikeihnhkiipgaaGreatD6
import Derived.Test.YtikeihnhkiipgaaGreatD5
import Derived.Test.YtikeihnhkiipgaaGreatB5
import Derived.Laws.Rows
namespace Go.Proofs.YtikeihnhkiipgaaGreat
open Go.RowKit

set_option maxHeartbeats 400000 in
theorem galways_any (b : Nat) (W : World) : Calls Tryz.prog 21 #[bp b] W fun e W' => e = .returned (.bool true) ∧ Below W.heap.size W W' := by
  go_enter Tryz.func21, Tryz.ntmps21
  go_wp2
  go_ret
  exact ⟨rfl, Below.refl _ _⟩
theorem blocks3' {w W : World} {a b c : Obj} (h : ((w.alloc a).alloc b).alloc c = W) : W.heap[w.heap.size]? = some a ∧ W.heap[w.heap.size + 1]? = some b ∧ W.heap[w.heap.size + 2]? = some c ∧ Below w.heap.size w W := by
  subst h
  have e1 : (w.alloc a).heap.size = w.heap.size + 1 := sizeAlloc _ _
  have e2 : ((w.alloc a).alloc b).heap.size = w.heap.size + 2 := by rw [sizeAlloc, e1]
  refine ⟨?_, ?_, ?_, ((((Below.refl _ _).alloc (Nat.le_refl _) _).alloc (by omega) _).alloc (by omega) _)⟩
  · rw [heapAlloc, if_neg (by omega), heapAlloc, if_neg (by omega)]; exact heap_alloc_new w a
  · rw [heapAlloc, if_neg (by omega), ← e1]; exact heap_alloc_new _ b
  · rw [← e2]; exact heap_alloc_new _ c
/-- A table is stored into a fresh box. -/
theorem store_tab (w : World) {X : Array Value} (hX : X.size = 32) (h1 : X.all (·.oneCell') = true) : ∃ W, (storeCells ⟨w.heap.size, 0, none⟩ X.toList).run Tryz.prog (w.alloc (.cells #[.int .i64 0, .int .i64 0, .int .i64 0, .int .i64 0, .int .i64 0, .int .i64 0, .int .i64 0, .int .i64 0, .int .i64 0, .int .i64 0, .int .i64 0, .int .i64 0, .int .i64 0, .int .i64 0, .int .i64 0, .int .i64 0, .int .i64 0, .int .i64 0, .int .i64 0, .int .i64 0, .int .i64 0, .int .i64 0, .int .i64 0, .int .i64 0, .int .i64 0, .int .i64 0, .int .i64 0, .int .i64 0, .int .i64 0, .int .i64 0, .int .i64 0, .int .i64 0] 125)) = .ok () W ∧ BoxAt W w.heap.size X 125 ∧ Below w.heap.size w W := by
  have h := run_storeCells_at Tryz.prog w.heap.size 0 125 X.toList 0 #[.int .i64 0, .int .i64 0, .int .i64 0, .int .i64 0, .int .i64 0, .int .i64 0, .int .i64 0, .int .i64 0, .int .i64 0, .int .i64 0, .int .i64 0, .int .i64 0, .int .i64 0, .int .i64 0, .int .i64 0, .int .i64 0, .int .i64 0, .int .i64 0, .int .i64 0, .int .i64 0, .int .i64 0, .int .i64 0, .int .i64 0, .int .i64 0, .int .i64 0, .int .i64 0, .int .i64 0, .int .i64 0, .int .i64 0, .int .i64 0, .int .i64 0, .int .i64 0] (w.alloc (.cells #[.int .i64 0, .int .i64 0, .int .i64 0, .int .i64 0, .int .i64 0, .int .i64 0, .int .i64 0, .int .i64 0, .int .i64 0, .int .i64 0, .int .i64 0, .int .i64 0, .int .i64 0, .int .i64 0, .int .i64 0, .int .i64 0, .int .i64 0, .int .i64 0, .int .i64 0, .int .i64 0, .int .i64 0, .int .i64 0, .int .i64 0, .int .i64 0, .int .i64 0, .int .i64 0, .int .i64 0, .int .i64 0, .int .i64 0, .int .i64 0, .int .i64 0, .int .i64 0] 125)) (heap_alloc_new _ _) (by simp [hX]) (fun v hv => Array.all_eq_true_iff_forall_mem.1 h1 v (Array.mem_toList_iff.1 hv))
  refine ⟨_, h, ?_, below_setRow ((Below.refl _ _).alloc (Nat.le_refl _) _) (Nat.le_refl _) _⟩
  have h2 := setRow_heap (w.alloc (.cells #[.int .i64 0, .int .i64 0, .int .i64 0, .int .i64 0, .int .i64 0, .int .i64 0, .int .i64 0, .int .i64 0, .int .i64 0, .int .i64 0, .int .i64 0, .int .i64 0, .int .i64 0, .int .i64 0, .int .i64 0, .int .i64 0, .int .i64 0, .int .i64 0, .int .i64 0, .int .i64 0, .int .i64 0, .int .i64 0, .int .i64 0, .int .i64 0, .int .i64 0, .int .i64 0, .int .i64 0, .int .i64 0, .int .i64 0, .int .i64 0, .int .i64 0, .int .i64 0] 125)) w.heap.size #[.int .i64 0, .int .i64 0, .int .i64 0, .int .i64 0, .int .i64 0, .int .i64 0, .int .i64 0, .int .i64 0, .int .i64 0, .int .i64 0, .int .i64 0, .int .i64 0, .int .i64 0, .int .i64 0, .int .i64 0, .int .i64 0, .int .i64 0, .int .i64 0, .int .i64 0, .int .i64 0, .int .i64 0, .int .i64 0, .int .i64 0, .int .i64 0, .int .i64 0, .int .i64 0, .int .i64 0, .int .i64 0, .int .i64 0, .int .i64 0, .int .i64 0, .int .i64 0] X 125 (0, 0) (heap_alloc_new _ _)
  have e : ((#[.int .i64 0, .int .i64 0, .int .i64 0, .int .i64 0, .int .i64 0, .int .i64 0, .int .i64 0, .int .i64 0, .int .i64 0, .int .i64 0, .int .i64 0, .int .i64 0, .int .i64 0, .int .i64 0, .int .i64 0, .int .i64 0, .int .i64 0, .int .i64 0, .int .i64 0, .int .i64 0, .int .i64 0, .int .i64 0, .int .i64 0, .int .i64 0, .int .i64 0, .int .i64 0, .int .i64 0, .int .i64 0, .int .i64 0, .int .i64 0, .int .i64 0, .int .i64 0] : Array Value).toList.take (0 + 0) ++ X.toList ++ (#[.int .i64 0, .int .i64 0, .int .i64 0, .int .i64 0, .int .i64 0, .int .i64 0, .int .i64 0, .int .i64 0, .int .i64 0, .int .i64 0, .int .i64 0, .int .i64 0, .int .i64 0, .int .i64 0, .int .i64 0, .int .i64 0, .int .i64 0, .int .i64 0, .int .i64 0, .int .i64 0, .int .i64 0, .int .i64 0, .int .i64 0, .int .i64 0, .int .i64 0, .int .i64 0, .int .i64 0, .int .i64 0, .int .i64 0, .int .i64 0, .int .i64 0, .int .i64 0] : Array Value).toList.drop (0 + 0 + X.toList.length)).toArray = X := by
    rw [Array.length_toList, hX]
    simp
  rw [e]
  exact h2
end Go.Proofs.YtikeihnhkiipgaaGreat

namespace Go.Proofs.YtikeihnhkiipgaaGreat
open Go.RowKit

/-- Its board is one of sets of at most five seams. -/
def Mk.Sm (m : Mk) : Prop := m.b0 < 4096 ∧ m.b1 < 4096 ∧ m.b2 < 4096
/-- One seam more for a crew. -/
def Mk.deal (m : Mk) (c : Nat) : Mk := ({ m with pot := m.pot + 1 } : Mk).set (m.b c ||| 2 ^ m.pot) c
/-- When a deal of all seams is done. -/
def GN.dn (g : GN) (m : Mk) : Nat → Nat
  | 0 => 0
  | c + 1 => max (g.dn m c) (g.tab c (2 ^ g.sn) (m.b c))
/-- When the best deal of the other seams is done. -/
def GN.dv (g : GN) : Nat → Mk → Nat
  | 0, m => g.dn m g.cn
  | k + 1, m => (List.range g.cn).foldl (fun acc c => min acc (g.dv k (m.deal c))) 10000
def GN.df (g : GN) (k : Nat) (m : Mk) (c : Nat) : Nat := (List.range c).foldl (fun acc c => min acc (g.dv k (m.deal c))) 10000
theorem df_succ (g : GN) (k : Nat) (m : Mk) (c : Nat) : g.df k m (c + 1) = min (g.df k m c) (g.dv k (m.deal c)) := by
  simp [GN.df, List.range_succ]
theorem dn_le (g : GN) (m : Mk) : ∀ c, g.dn m c ≤ 10000
  | 0 => Nat.zero_le _
  | c + 1 => by
    unfold GN.dn
    have := dn_le g m c
    have := tab_le g c (2 ^ g.sn) (m.b c)
    omega
theorem dv_le (g : GN) : ∀ k m, g.dv k m ≤ 10000
  | 0, m => dn_le g m _
  | k + 1, m => by
    show g.df k m g.cn ≤ 10000
    generalize g.cn = c
    induction c with
    | zero => exact Nat.le_refl _
    | succ c ih => rw [df_succ]; omega
def OkD (g : GN) (key v : Value) : Prop := ∃ m : Mk, key = m.v ∧ v = .int .i64 (g.dv (g.sn - m.pot) m)
theorem lawPlace : WideMaps.KeyLaw Tryz.prog 128 := deep_law_laid laidOut (m := 4) (by omega) (of_decide_eq_true (by kernel_rfl)) (by kernel_rfl) (by kernel_rfl)
theorem cDealt : Tryz.prog.cellsOf 81 = 3 := by kernel_rfl
theorem cSet : Tryz.prog.cellsOf 74 = 1 := by kernel_rfl
theorem cPlace : Tryz.prog.cellsOf 128 = 4 := by kernel_rfl
theorem kl_set (d : Nat) {n : Int} (h : (Lit.int .u64 n).wf = true) : Tryz.prog.keyLits (d + 1) 74 [.int .u64 n] = some [.int .u64 n] := by
  unfold Program.keyLits
  rw [Tryz.underlying74]
  simp [h]
theorem kl_dealt (d : Nat) {b c e : Int} (h1 : (Lit.int .u64 b).wf = true) (h2 : (Lit.int .u64 c).wf = true) (h3 : (Lit.int .u64 e).wf = true) :
    Tryz.prog.keyLits (d + 2) 81 [.int .u64 b, .int .u64 c, .int .u64 e] = some [.int .u64 b, .int .u64 c, .int .u64 e] := by
  unfold Program.keyLits
  rw [Tryz.underlying81]
  dsimp only
  rw [cDealt, cSet, show List.range 3 = [0, 1, 2] from rfl]
  simp [kl_set d h1, kl_set d h2, kl_set d h3]
theorem key_place (m : Mk) (hm : m.Sm) (hp : m.pot < 1000) : ∃ l, keyOf Tryz.prog 128 m.v = some l := by
  obtain ⟨a, b, c, d⟩ := m
  obtain ⟨h1, h2, h3⟩ := hm
  dsimp only at h1 h2 h3 hp
  have w0 := wf_i64 (show a < 4611686018427387904 by omega)
  have w1 := wf_u64 (show b < 4611686018427387904 by omega)
  have w2 := wf_u64 (show c < 4611686018427387904 by omega)
  have w3 := wf_u64 (show d < 4611686018427387904 by omega)
  unfold Mk.v Mk.cs
  dsimp only
  generalize (a : Int) = a at *
  generalize (b : Int) = b at *
  generalize (c : Int) = c at *
  generalize (d : Int) = d at *
  refine ⟨.string (keyBytes [.int .i64 a, .int .u64 b, .int .u64 c, .int .u64 d]), ?_⟩
  have hl : Tryz.prog.keyLits (Tryz.prog.types.size + 1) 128 [.int .i64 a, .int .u64 b, .int .u64 c, .int .u64 d] = some [.int .i64 a, .int .u64 b, .int .u64 c, .int .u64 d] := by
    show Tryz.prog.keyLits (Tryz.prog.types.size + 1) 128 _ = _
    unfold Program.keyLits
    rw [Tryz.underlying128]
    dsimp only
    obtain ⟨k, hk⟩ : ∃ k, Tryz.prog.types.size = k + 2 := ⟨Tryz.prog.types.size - 2, by have : 2 ≤ Tryz.prog.types.size := of_decide_eq_true (by kernel_rfl); omega⟩
    rw [hk]
    simp [cPlace, c3, cDealt, kl_int (k + 1) w0, kl_dealt k w1 w2 w3]
  have hf : (Tryz.prog.keyType 128 && (Value.agg #[.int .i64 a, .int .u64 b, .int .u64 c, .int .u64 d]).formed Tryz.prog 128) = true := by kernel_rfl
  unfold keyOf
  rw [Tryz.underlying128]
  dsimp only
  rw [if_pos hf]
  show Option.map _ (Tryz.prog.keyLits (Tryz.prog.types.size + 1) 128 [.int .i64 a, .int .u64 b, .int .u64 c, .int .u64 d]) = _
  rw [hl]
  rfl
theorem zero_int (w : World) : (zeroValue 3).run Tryz.prog w = .ok (.int .i64 0) w := by kernel_rfl
end Go.Proofs.YtikeihnhkiipgaaGreat

namespace Go.Proofs.YtikeihnhkiipgaaGreat
open Go.RowKit

/-- A load of many cells. -/
theorem wp_load_cells {P : Program} {o : Oper} {a : Act} {w : World} {K : Act → World → Prop} {Q : Exit → Act → World → Prop} (ty : TypeId) (x : Operand) (ho : o.op = .load ty x)
    (ad : Addr) (hx : a.eval x = .pointer (some ad)) (cs : Array Value) (d : TypeDesc) (hc : ∀ j v, cs.toList[j]? = some v → w.cell? (ad.add j) = some v)
    (hu : P.underlying ty = some d) (hd : (match d with | .struct _ | .array _ _ => true | _ => false) = true) (hi : (P.info? ty).map (·.size) = some cs.size)
    (h : K (a.put o.dst (.agg cs)) w) : o.wp P a w K Q := by
  have hl : (loadCells ad cs.toList.length).run P w = .ok cs.toList.toArray w := run_loadCells_list (P := P) w ad cs.toList hc
  have hr : (loadVar ty ad).run P w = .ok (.agg cs) w := by
    cases hq : P.info? ty with
    | none => simp [hq] at hi
    | some i =>
      have hs : i.size = cs.size := by simpa [hq] using hi
      have hagg : (isAgg ty).run P w = .ok true w := by
        unfold isAgg
        rw [Sem.run_bind, run_underlying hu w]
        cases d <;> simp_all
      simp only [Array.length_toList, Array.toArray_toList] at hl
      simp [loadVar, Sem.run_bind, hagg, sizeOf, typeInfo, hq, hs, hl]
  unfold Oper.wp execOp
  simp only [ho, hx, Instr.loadAt, Instr.sureAddr, Sem.run_bind, Sem.run_pure, Result.andThen_ok, hr]
  exact h
theorem wpList_load_cells {P : Program} {ops : Array Oper} {rest : List Oper} {o : Oper} {a : Act} {w : World} {Q : Exit → Act → World → Prop} (hgd : o.guard = none) (ty : TypeId) (x : Operand) (ho : o.op = .load ty x)
    (ad : Addr) (hx : a.eval x = .pointer (some ad)) (cs : Array Value) (d : TypeDesc) (hc : ∀ j v, cs.toList[j]? = some v → w.cell? (ad.add j) = some v)
    (hu : P.underlying ty = some d) (hd : (match d with | .struct _ | .array _ _ => true | _ => false) = true) (hi : (P.info? ty).map (·.size) = some cs.size)
    (h : wpList P ops Q rest (a.put o.dst (.agg cs)) w) : wpList P ops Q (o :: rest) a w :=
  wpList_plain hgd fun _ hK => wp_load_cells ty x ho ad hx cs d hc hu hd hi (hK _ _ h)
/-- The closure's value. -/
def onD (s : Nat) : Value := .func (.func 56) #[] #[bp s, bp (s + 3), bp (s + 1), bp (s + 6), bp (s + 5), bp (s + 2)]
/-- What the closure reads. -/
structure DW (g : GN) (a : GA) (b : Nat) (r : Option Addr) (rc : Nat) (la : Option Addr) (lc s : Nat) (W : World) : Prop where
  gp : BoxAt W s #[bp b] 68
  sb : BoxAt W (s + 1) #[.int .u64 (2 ^ g.sn - 1 : Nat)] 74
  cb : BoxAt W (s + 2) #[.int .u64 (2 ^ g.cn - 1 : Nat)] 74
  lb : BoxAt W (s + 3) #[.slice la g.cn lc] 78
  kp : BoxAt W (s + 5) #[.map (some (s + 4))] 123
  on : BoxAt W (s + 6) #[onD s] 71
  gw : GW g a b r rc W
  lr : Row W la g.cn 32 (fun c j => .int .i64 (g.tab c (2 ^ g.sn) j))
  memo : MemoAt 128 (OkD g) (s + 4) W
section
variable {g : GN} {a : GA} {b : Nat} {r : Option Addr} {rc : Nat} {la : Option Addr} {lc s : Nat} {A B : World}
theorem cell_ne {kt : TypeId} {Ok : Value → Value → Prop} {kb x i : Nat} {v : Value} (hm : MemoAt kt Ok kb A) (hc : A.cell? ⟨x, i, none⟩ = some v) : x ≠ kb := by
  intro e
  subst e
  obtain ⟨es, c, hb, -⟩ := hm
  simp [World.cell?, hb] at hc
theorem row_keepX {kt : TypeId} {Ok : Value → Value → Prop} {kb n sz : Nat} {oa : Option Addr} {cell : Nat → Nat → Value} (h : Row A oa n sz cell) (hs : 0 < sz) (hm : MemoAt kt Ok kb A) (hk : KeepX kb A B) : Row B oa n sz cell :=
  h.keep hk fun hn => ⟨h.old hn, cell_ne hm (h.cells 0 hn 0 hs)⟩
theorem box_keepX {kt : TypeId} {Ok : Value → Value → Prop} {kb x : Nat} {cs : Array Value} {t : TypeId} (h : BoxAt A x cs t) (hm : MemoAt kt Ok kb A) (hk : KeepX kb A B) : BoxAt B x cs t :=
  hk.box h ⟨lt_of_heap h, fun e => by
    subst e
    obtain ⟨es, c, hb, -⟩ := hm
    unfold BoxAt at h
    rw [hb] at h
    cases h⟩
theorem DW.keep (h : DW g a b r rc la lc s A) (hk : KeepX (s + 4) A B) (hm : MemoAt 128 (OkD g) (s + 4) B) : DW g a b r rc la lc s B where
  gp := box_keepX h.gp h.memo hk
  sb := box_keepX h.sb h.memo hk
  cb := box_keepX h.cb h.memo hk
  lb := box_keepX h.lb h.memo hk
  kp := box_keepX h.kp h.memo hk
  on := box_keepX h.on h.memo hk
  gw := ⟨box_keepX h.gw.bx h.memo hk, ⟨row_keepX h.gw.at'.s (by decide) h.memo hk, row_keepX h.gw.at'.c (by decide) h.memo hk, ⟨row_keepX h.gw.at'.p.f (by decide) h.memo hk, row_keepX h.gw.at'.p.q (by decide) h.memo hk⟩⟩, row_keepX h.gw.rd (by decide) h.memo hk⟩
  lr := row_keepX h.lr (by decide) h.memo hk
  memo := hm
theorem DW.grow (h : DW g a b r rc la lc s A) (hb : Below A.heap.size A B) : DW g a b r rc la lc s B := h.keep (KeepX.below hb) (h.memo.grow hb)
end
end Go.Proofs.YtikeihnhkiipgaaGreat

namespace Go.Proofs.YtikeihnhkiipgaaGreat
open Go.RowKit

def Mk.ds (m : Mk) : Array Value := #[.int .u64 m.b0, .int .u64 m.b1, .int .u64 m.b2]
theorem ds_at (m : Mk) {c : Nat} (hc : c < 3) : m.ds[c]? = some (.int .u64 (m.b c)) := by
  rcases (show c = 0 ∨ c = 1 ∨ c = 2 by omega) with rfl | rfl | rfl <;> rfl
def DPost (g : GN) (s : Nat) (v : Nat) (W : World) (e : Ending) (W' : World) : Prop := e = .returned (.int .i64 v) ∧ KeepX (s + 4) W W' ∧ MemoAt 128 (OkD g) (s + 4) W'
/-- What stands in it. -/
structure DI (g : GN) (a : GA) (b : Nat) (r : Option Addr) (rc : Nat) (la : Option Addr) (lc s : Nat) (m : Mk) (W0 : World) (W : World) : Prop where
  dw : DW g a b r rc la lc s W
  d : BoxAt W W0.heap.size m.ds 81
  keep : KeepX (s + 4) W0 W
theorem DI.keepX {g : GN} {a : GA} {b : Nat} {r : Option Addr} {rc : Nat} {la : Option Addr} {lc s : Nat} {m : Mk} {W0 A B : World} (h : DI g a b r rc la lc s m W0 A) (hk : KeepX (s + 4) A B) (hm : MemoAt 128 (OkD g) (s + 4) B) : DI g a b r rc la lc s m W0 B :=
  ⟨h.dw.keep hk hm, box_keepX h.d h.dw.memo hk, h.keep.trans hk⟩
theorem DI.grow {g : GN} {a : GA} {b : Nat} {r : Option Addr} {rc : Nat} {la : Option Addr} {lc s : Nat} {m : Mk} {W0 A B : World} (h : DI g a b r rc la lc s m W0 A) (hb : Below A.heap.size A B) : DI g a b r rc la lc s m W0 B := h.keepX (KeepX.below hb) (h.dw.memo.grow hb)
theorem pot_lt {g : GN} (ok : g.Ok) {m : Mk} {k : Nat} (hk : m.pot + k = g.sn) (hb : ∀ c, m.b c < 2 ^ m.pot) (c : Nat) : m.b c < 32 := by
  have h1 := hb c
  have h2 : 2 ^ m.pot ≤ 2 ^ 5 := Nat.pow_le_pow_right (by omega) (by have := ok.hsn; omega)
  omega
section
variable (g : GN) (ok : g.Ok) (a : GA) (b : Nat) (r : Option Addr) (rc : Nat) (la : Option Addr) (lc s : Nat)
include ok
set_option maxRecDepth 100000 in
set_option maxHeartbeats 2000000 in
theorem deals1_zero (m : Mk) (w : World) (hk : m.pot = g.sn) (hb : ∀ c, m.b c < 2 ^ m.pot) (h : DW g a b r rc la lc s w) :
    Calls Tryz.prog 56 #[.int .i64 m.pot, .agg m.ds, bp s, bp (s + 3), bp (s + 1), bp (s + 6), bp (s + 5), bp (s + 2)] w (DPost g s (g.dv 0 m) w) := by
  have al := (Below.refl w.heap.size w).alloc (Nat.le_refl _) (.cells m.ds 81)
  have I0 := Lib.hid (show DI g a b r rc la lc s m w (w.alloc (.cells m.ds 81)) from ⟨h.grow al, heap_alloc_new _ _, KeepX.below al⟩)
  have OK := Lib.hid ok
  have HP := Lib.hid (fun c => pot_lt ok (k := 0) hk hb c)
  have HV := Lib.hid (show g.dv 0 m = g.dn m g.cn from rfl)
  have hpi : (m.pot : Int) = g.sn := by rw [hk]
  rw [hpi]
  clear h al ok hk hb hpi
  unfold Mk.ds at *
  go_enter Tryz.func56, Tryz.ntmps56
  go_upto_region 1 with (fail)
  generalize World.alloc w _ = w0 at *
  have q0 := I0.out.dw.gw.cells.1
  have g0 := cellAt I0.out.dw.gp 0
  have l0 := cellAt I0.out.dw.lb 0
  simp only [List.getElem?_toArray, List.getElem?_cons_zero] at g0 l0
  go_wp2_with fail
  clear q0 g0 l0
  go_loopw [11, 29] (fun v i W => ∃ c : Nat, c ≤ g.cn ∧ i = .int .i64 c ∧ v = .int .i64 (g.dn m c) ∧ DI g a b r rc la lc s m w W) (fun _ i _ => g.cn - (intOf i).toNat)
  case atStart => exact ⟨0, Nat.zero_le _, rfl, rfl, I0.out⟩
  case round =>
    clear I0
    obtain ⟨c, hc, rfl, rfl, hI⟩ := hrel
    have I1 := Lib.hid hI
    clear hI
    by_cases hlt : c < g.cn
    · have hlt' : (c : Int) < g.cn := by omega
      have hmeas : g.cn - (c + 1) < g.cn - c := by omega
      have hc3 : c < 3 := by have := OK.out.hcn; omega
      have hc3' : (c : Int) < 3 := by omega
      have hc0 : (0 : Int) ≤ (c : Int) := by omega
      have hi := fun W => run_indexAt_row (w := W) (cap := lc) Tryz.underlying78 size_tab (I1.out.dw.lr.plain (by omega)) hlt
      have HN := Lib.hid (show g.dn m (c + 1) = max (g.dn m c) (g.tab c (2 ^ g.sn) (m.b c)) from rfl)
      have hx : ∀ j v, (tabC (g.tab c (2 ^ g.sn))).toList[j]? = some v → wr.cell? ((⟨blk la, ofs la + c * 32, none⟩ : Addr).add j) = some v := fun j v hj => by
        have hj2 : j < 32 := by
          have := (List.getElem?_eq_some_iff.1 hj).1
          rwa [Array.length_toList, tabC_len] at this
        rw [Array.getElem?_toList, tabC_at _ hj2] at hj
        cases hj
        have ea : (⟨blk la, ofs la + c * 32, none⟩ : Addr).add j = ⟨blk la, ofs la + c * 32 + j, none⟩ := by
          unfold Addr.add
          split
          all_goals (simp <;> omega)
        rw [ea]
        exact I1.out.dw.lr.cells c hlt j hj2
      have HX := Lib.hid hx
      have XB := Lib.hid (tabC_at (g.tab c (2 ^ g.sn)) (HP.out c))
      have XS := Lib.hid (tabC_len (g.tab c (2 ^ g.sn)))
      have X1 := Lib.hid (tabC_one (g.tab c (2 ^ g.sn)))
      have XZ := Lib.hid (tabC_size (g.tab c (2 ^ g.sn)))
      generalize g.tab c (2 ^ g.sn) (m.b c) = y at *
      clear hx
      generalize tabC (g.tab c (2 ^ g.sn)) = X at *
      obtain ⟨w3, hs3, hx3, hb3⟩ := store_tab wr XS.out X1.out
      go_upto_region 5 with (fail)
      refine wp_region_lit ?_
      refine wpList_plain rfl fun K hK => ?_
      go_simp
      refine hK _ _ ?_
      clear hK K
      refine wpList_plain rfl fun K hK => ?_
      go_simp
      refine hK _ _ ?_
      clear hK K
      try simp only [Act.put, List.setIfInBounds_toArray, List.set_cons_zero, List.set_cons_succ]
      refine wpList_load_cells rfl 125 _ rfl ⟨blk la, ofs la + c * 32, none⟩ rfl X _ HX.out Tryz.underlying125 rfl XZ.out ?_
      try simp only [Act.put, List.setIfInBounds_toArray, List.set_cons_zero, List.set_cons_succ]
      go_upto_region 6 with (fail)
      have I3 := Lib.hid (I1.out.grow hb3)
      have B3 := Lib.hid hx3
      clear hs3 hx3 hb3 hi HX XS X1 XZ
      generalize wr.heap.size = t13 at *
      have d0 := (cellAt I3.out.d c).trans (ds_at m hc3)
      have y0 := (cellAt B3.out (m.b c)).trans XB.out
      have hb32 : ((m.b c : Nat) : Int) < 32 := by have := HP.out c; omega
      have hbp : (0 : Int) ≤ ((m.b c : Nat) : Int) := by omega
      clear XB
      generalize m.b c = bc at *
      have C5 := Lib.hid (later_any (some ⟨w3.heap.size, 0, none⟩) 2 (g.dn m c) y (w3.alloc (.cells #[.int .i64 (g.dn m c), .int .i64 y] 3)) (twoI_lit (show BoxAt _ _ _ 3 from heap_alloc_new w3 _)))
      have I4 := Lib.hid (I3.out.grow ((Below.refl w3.heap.size w3).alloc (Nat.le_refl _) (.cells #[.int .i64 (g.dn m c), .int .i64 y] 3)))
      go_wp2_with (go_at_call 55; refine C5.out.mono ?_; rintro e w4 ⟨rfl, rfl⟩)
      rw [show ((c : Int) + 1) = ((c + 1 : Nat) : Int) from rfl, max_nat]
      exact ⟨⟨c + 1, hlt, rfl, by rw [HN.out], I4.out⟩, hmeas⟩
    · have hlt' : ¬ (c : Int) < g.cn := by omega
      obtain rfl : c = g.cn := by omega
      go_wp2_with fail
      go_ret
      exact ⟨by rw [HV.out]; rfl, I1.out.keep, I1.out.dw.memo⟩
end
end Go.Proofs.YtikeihnhkiipgaaGreat
