/-
  What stands between two pots of the best plan.
  A slice of places is made and filled; the marks of rounds that were left.
-/
import Derived.Test.YtikeihnhkiipgaaGreatQB6
import Derived.Test.YtikeihnhkiipgaaGreatQA8
import Derived.Laws.MakeOwn
import Derived.Laws.CopyRow
import Derived.Laws.CopyOwn
import Derived.RangeFuncLeaves
import Derived.RangeFuncRecord
namespace Go.Proofs.YtikeihnhkiipgaaGreat
open Go.RowKit

/-- The blocks of cells that its closure reads. -/
theorem foot_ptr (c b : Nat) : Foot (fun W => BoxAt W c #[bp b] 154) (fun k => k = c) := ⟨fun _ _ h k => (k.2 c rfl).trans h, fun _ _ h e => by subst e; exact box_isCells h⟩
theorem CI.keepX {w A B : World} {p : PN} {fa qa : Option Addr} {fc qc k : Nat} {T : Nat → Mk → Option Int} (h : CI w p fa qa fc qc A) (hm : MemoAt 169 (OkM p T) k A) (hk : KeepX k A B) (hw : w.heap.size ≤ k) (hA : p.At fa qa B) : CI w p fa qa fc qc B :=
  ⟨h.bel.trans (keepX_below hk hw hm.lt), TW.box_keep' h.box hm hk, TW.box_keep' h.e hm hk, hA⟩
/-- A list of places, as the array of four that holds it. -/
def pC (L : List Stp) (i j : Nat) : Value := match L[i]? with
  | some x => if j = 0 then .int .i64 x.f else .int .i64 x.h
  | none => .int .i64 0
def listC (L : List Stp) : Array Value := #[pC L 0 0, pC L 0 1, pC L 1 0, pC L 1 1, pC L 2 0, pC L 2 1, pC L 3 0, pC L 3 1]
theorem listC_put (L : List Stp) (x : Stp) (h : L.length < 4) : ((listC L).setIfInBounds (L.length * 2) (.int .i64 x.f)).setIfInBounds (L.length * 2 + 1) (.int .i64 x.h) = listC (L ++ [x]) := by
  match L, h with
  | [], _ => rfl
  | [_], _ => rfl
  | [_, _], _ => rfl
  | [_, _, _], _ => rfl
theorem listC_at (L : List Stp) {i j : Nat} (hi : i < 4) (hj : j < 2) : (listC L)[i * 2 + j]? = some (pC L i j) := by
  rcases (show i = 0 ∨ i = 1 ∨ i = 2 ∨ i = 3 by omega) with rfl | rfl | rfl | rfl <;> rcases (show j = 0 ∨ j = 1 by omega) with rfl | rfl <;> rfl
/-- What stands: the numbers of the blocks in one. -/
structure LN where
  b : Nat
  s : Nat
  c5 : Nat
  c6 : Nat
  c7 : Nat
  c8 : Nat
  ca : Nat
  cb : Nat
structure LI (p : PN) (fa qa : Option Addr) (fc qc : Nat) (k : LN) (n : Int) (w : World) (L : List Stp) (m : Mk) (Ds : List Nat) (W : World) : Prop where
  ci : CI w p fa qa fc qc W
  tw : TW p p.end' fa qa fc qc k.b k.s (k.s + 1) (k.s + 3) (k.s + 4) (k.s + 2) (.func (.func 76) #[] #[bp k.c5]) (.func (.func 79) #[] #[]) 0 (fun W => BoxAt W k.c5 #[bp k.b] 154) W
  fn : BoxAt W k.c6 #[.func (.func 76) #[] #[bp k.c5]] 161
  of : BoxAt W k.c7 #[onV k.s] 162
  n' : BoxAt W k.c8 #[.int .i64 n] 3
  list : BoxAt W k.ca (listC L) 170
  mk' : BoxAt W k.cb m.cs 169
  ds : ∀ D ∈ Ds, k.cb < D ∧ W.heap[D]? = some (.deferred (some []))
section
variable {p : PN} {fa qa : Option Addr} {fc qc : Nat} {k : LN} {n : Int} {w A B : World} {L : List Stp} {m : Mk} {Ds : List Nat}
theorem LI.keepX (h : LI p fa qa fc qc k n w L m Ds A) (hw : w.heap.size ≤ k.s + 2) (hk : KeepX (k.s + 2) A B) (hm : MemoAt 169 (OkM p p.end') (k.s + 2) B) : LI p fa qa fc qc k n w L m Ds B :=
  have ht := h.tw.keep (foot_ptr k.c5 k.b) hk hm
  ⟨h.ci.keepX h.tw.memo hk hw ht.at', ht, TW.box_keep' h.fn h.tw.memo hk, TW.box_keep' h.of h.tw.memo hk, TW.box_keep' h.n' h.tw.memo hk, TW.box_keep' h.list h.tw.memo hk, TW.box_keep' h.mk' h.tw.memo hk,
   fun D hD => ⟨(h.ds D hD).1, (hk.block D ⟨lt_of_heap (h.ds D hD).2, fun e => by
    subst e
    obtain ⟨es, c, hb, -⟩ := h.tw.memo
    have h1 := (h.ds _ hD).2
    rw [hb] at h1
    cases h1⟩).trans (h.ds D hD).2⟩⟩
theorem LI.grow (h : LI p fa qa fc qc k n w L m Ds A) (hw : w.heap.size ≤ k.s + 2) (hb : Below A.heap.size A B) : LI p fa qa fc qc k n w L m Ds B := h.keepX hw (KeepX.below hb) (h.tw.memo.grow hb)
theorem ci_own {N : Nat} (h : CI w p fa qa fc qc A) (hN : w.heap.size ≤ N) (hA : p.At fa qa B) {row : Option Nat} (hg : A.grownBy B row) (hr : ∀ r, row = some r → N ≤ r ∧ ∃ o : Obj, A.heap[r]? = some o ∧ o.isCells = false) : CI w p fa qa fc qc B :=
  ⟨⟨hg.os.trans h.bel.os, hg.tape.trans h.bel.tape, hg.output.trans h.bel.output, Nat.le_trans h.bel.size hg.size, fun i hi => (hg.block i (Nat.lt_of_lt_of_le hi h.bel.size) (fun e => by have := (hr i e.symm).1; omega)).trans (h.bel.block i hi)⟩, own_box h.box hg hr, own_box h.e hg hr, hA⟩
theorem LI.own {N : Nat} (h : LI p fa qa fc qc k n w L m Ds A) (hN : w.heap.size ≤ N) (hk : k.s + 2 < N) (hD : ∀ D ∈ Ds, D < N) {row : Option Nat} (hg : A.grownBy B row) (hr : ∀ r, row = some r → N ≤ r ∧ ∃ o : Obj, A.heap[r]? = some o ∧ o.isCells = false) : LI p fa qa fc qc k n w L m Ds B :=
  have ht := h.tw.own (foot_ptr k.c5 k.b) hk hg hr
  ⟨ci_own h.ci hN ht.at' hg hr, ht, own_box h.fn hg hr, own_box h.of hg hr, own_box h.n' hg hr, own_box h.list hg hr, own_box h.mk' hg hr,
   fun D hd => ⟨(h.ds D hd).1, (hg.block D (lt_of_heap (h.ds D hd).2) (fun e => by have := (hr D e.symm).1; have := hD D hd; omega)).trans (h.ds D hd).2⟩⟩
/-- What is written at the list and at the mark. -/
theorem LI.write {L' : List Stp} {m' : Mk} (h : LI p fa qa fc qc k n w L m Ds A) (hA : p.At fa qa w) (hk : Keep (fun i => i < k.ca) A B)
    (hc : w.heap.size + 1 < k.ca ∧ k.b < k.ca ∧ k.s + 4 < k.ca ∧ k.c5 < k.ca ∧ k.c6 < k.ca ∧ k.c7 < k.ca ∧ k.c8 < k.ca) (hl : BoxAt B k.ca (listC L') 170) (hm : BoxAt B k.cb m'.cs 169) (hD : ∀ D, k.cb < D → B.heap[D]? = A.heap[D]?) : LI p fa qa fc qc k n w L' m' Ds B :=
  have hb : Below w.heap.size w B := h.ci.bel.trans (hk.to_below fun i hi => by omega)
  have ha := hA.grow hb
  ⟨⟨hb, hk.box h.ci.box (by omega), hk.box h.ci.e (by omega), ha⟩,
   ⟨hk.box h.tw.ptr (by omega), hk.box h.tw.tal (by omega), hk.box h.tw.kept (by omega), hk.box h.tw.on (by omega), hk.box h.tw.box (by omega), ha, hk.box (show BoxAt A k.c5 #[bp k.b] 154 from h.tw.mi) (by omega), h.tw.memo.same (hk.block _ (by omega))⟩,
   hk.box h.fn (by omega), hk.box h.of (by omega), hk.box h.n' (by omega), hl, hm, fun D hd => ⟨(h.ds D hd).1, (hD D (h.ds D hd).1).trans (h.ds D hd).2⟩⟩
/-- One mark more. -/
theorem LI.mark (h : LI p fa qa fc qc k n w L m Ds A) {D : Nat} (h1 : k.cb < D) (h2 : A.heap[D]? = some (.deferred (some []))) : LI p fa qa fc qc k n w L m (D :: Ds) A :=
  ⟨h.ci, h.tw, h.fn, h.of, h.n', h.list, h.mk', fun E hE => by
    rcases List.mem_cons.1 hE with rfl | hE
    · exact ⟨h1, h2⟩
    · exact h.ds E hE⟩
end
end Go.Proofs.YtikeihnhkiipgaaGreat

namespace Go.Proofs.YtikeihnhkiipgaaGreat
open Go.RowKit

theorem info_parts {P : Program} {t : TypeId} {z : Value} {s b : Nat} (h : (P.info? t).map (fun i => (i.zero, i.size, i.bytes)) = some (some z, s, b)) : ∃ i, P.info? t = some i ∧ i.zero = some z ∧ i.size = s ∧ i.bytes = b := by
  obtain ⟨i, hi, he⟩ := Option.map_eq_some_iff.1 h
  simp only [Prod.mk.injEq] at he
  exact ⟨i, hi, he.1, he.2.1, he.2.2⟩
theorem info_place : (Tryz.prog.info? 122).map (fun i => (i.zero, i.size, i.bytes)) = some (some (.agg #[.int .i64 0, .int .i64 0]), 2, 16) := by kernel_rfl
/-- A slice of places is made. -/
theorem make_places (w : World) (n : Nat) (hn : n ≤ 4) : ∃ cs : Array Value, cs.size = n * 2 ∧ (Instr.makeSlice 113 (.int .i64 n) (.int .i64 n)).run Tryz.prog w = .ok (.slice (some ⟨w.heap.size, 0, none⟩) n n) (w.alloc (.cells cs 122)) := by
  obtain ⟨i, hi, hz, hs, hb⟩ := info_parts info_place
  have h := run_make (P := Tryz.prog) w 113 122 i _ Tryz.underlying113 hi hz .i64 .i64 n n (by omega) (Int.le_refl _) (by rw [hb]; omega) (by omega)
  simp only [Int.toNat_natCast] at h
  exact ⟨_, by rw [size_madeCells, hs], h⟩
/-- copy of whole elements onto the head of a row. -/
theorem run_copy_row_sz {P : Program} (w : World) (dT sT ty elem : TypeId) (g dLen dCap : Nat) (a : Addr) (sLen sCap sz : Nat) (cur : Array Value) (t : TypeId) (cs : List Value)
    (hu : P.underlying dT = some (.slice elem)) (hs : (P.info? elem).map (·.size) = some sz)
    (hg : w.heap[g]? = some (.cells cur t (0, 0))) (hn : cs.length = Nat.min sLen dLen * sz)
    (hsrc : ∀ j v, cs[j]? = some v → w.cell? (a.add j) = some v) (hfit : cs.length ≤ cur.size) (h1 : ∀ v ∈ cs, v.oneCell' = true) :
    (Builtin.copy_ #[dT, sT] ty #[.slice (some ⟨g, 0, none⟩) dLen dCap, .slice (some a) sLen sCap]).run P w =
      .ok (goInt (Nat.min sLen dLen)) (w.setRow g (cs ++ cur.toList.drop cs.length).toArray) := by
  have hl := run_loadCells_list (P := P) w a cs hsrc
  have hst := run_storeCells_at P g 0 t cs 0 cur w hg (by simpa using hfit) h1
  cases hq : P.info? elem with
  | none => simp [hq] at hs
  | some i =>
    have hi : i.size = sz := by simpa [hq] using hs
    simp [Builtin.copy_, run_underlying hu, Builtin.lenOf, Builtin.firstCells, sizeOf, typeInfo, hq, hi, ← hn, hl, hst]
theorem size_place : (Tryz.prog.info? 122).map (·.size) = some 2 := by kernel_rfl
/-- The places of a list are copied. -/
theorem copy_places {w : World} {g ca n : Nat} {L : List Stp} {cur : Array Value} (hg : BoxAt w g cur 122) (hc : cur.size = n * 2) (hL : BoxAt w ca (listC L) 170) (hn : n ≤ 4) (ty : TypeId) :
    ∃ w', (Builtin.copy_ #[113, 113] ty #[.slice (some ⟨g, 0, none⟩) n n, .slice (some ⟨ca, 0, none⟩) 4 4]).run Tryz.prog w = .ok (.int .i64 n) w' ∧ Row w' (some ⟨g, 0, none⟩) n 2 (pC L) ∧ ∀ B w0, Below B w0 w → B ≤ g → Below B w0 w' := by
  have hlen : ((listC L).toList.take (n * 2)).length = n * 2 := by simp [listC]; omega
  have h := run_copy_row_sz (P := Tryz.prog) w 113 113 ty 122 g n n ⟨ca, 0, none⟩ 4 4 2 cur 122 ((listC L).toList.take (n * 2)) Tryz.underlying113 size_place hg
    (by rw [hlen]; simp [Nat.min_eq_right hn]) (fun j v hj => by
      have hj2 := (List.getElem?_eq_some_iff.1 hj).1
      rw [hlen] at hj2
      rw [List.getElem?_take_of_lt hj2] at hj
      have ea : (⟨ca, 0, none⟩ : Addr).add j = ⟨ca, j, none⟩ := by
        unfold Addr.add
        split <;> simp_all
      rw [ea, cellAt hL, ← hj]
      simp) (by rw [hlen, hc]; exact Nat.le_refl _) (by
      intro v hv
      have hv := List.mem_of_mem_take hv
      simp only [listC] at hv
      have hp : ∀ i j, (pC L i j).oneCell' = true := fun i j => by
        unfold pC
        split
        · split <;> rfl
        · rfl
      simp at hv
      rcases hv with rfl | rfl | rfl | rfl | rfl | rfl | rfl | rfl <;> exact hp _ _)
  have ed : cur.toList.drop ((listC L).toList.take (n * 2)).length = [] := List.drop_eq_nil_of_le (by rw [hlen, Array.length_toList, hc]; exact Nat.le_refl _)
  rw [ed, List.append_nil, show Nat.min 4 n = n from Nat.min_eq_right hn] at h
  have hb := setRow_heap w g cur ((listC L).toList.take (n * 2)).toArray 122 (0, 0) hg
  refine ⟨_, h, ⟨fun _ => rfl, fun _ => lt_of_heap hb, by unfold maxLen; omega, fun i hi j hj => ?_⟩, fun B w0 hb hB => below_setRow hb hB _⟩
  have e2 := cellAt hb (i * 2 + j)
  rw [List.getElem?_toArray, List.getElem?_take_of_lt (by omega)] at e2
  have e3 := listC_at L (show i < 4 by omega) hj
  show World.cell? _ ⟨g, 0 + i * 2 + j, none⟩ = _
  rw [Nat.zero_add, e2, Array.getElem?_toList, e3]
theorem Row.keep {C : Nat → Prop} {w w' : World} {oa : Option Addr} {n sz : Nat} {cell : Nat → Nat → Value} (h : Row w oa n sz cell) (hk : Keep C w w') (hC : 0 < n → C (blk oa)) : Row w' oa n sz cell where
  plain := h.plain
  old := fun hn => Nat.lt_of_lt_of_le (h.old hn) hk.size
  small := h.small
  cells := fun i hi j hj => (hk.cell (p := ⟨blk oa, _, none⟩) (hC (by omega))).trans (h.cells i hi j hj)
/-- The marks of rounds that were left are taken. -/
theorem leaves_marks {F : Fence} {n : Nat} {P : Program} {fn : Func} {tmps : Array Value} {R : Ending → World → Prop} {rest : List Deferred} {u : FrameMode} (hu : u ≠ .run) : ∀ (Ds : List Nat) (W : World), Ds.Nodup → (∀ D ∈ Ds, W.heap[D]? = some (.deferred (some []))) →
    (∀ W', Keep (fun i => i ∉ Ds) W W' → LeavesInM F n P fn tmps R rest u W') → LeavesInM F n P fn tmps R (Ds.map (fun D => { target := .collected D, args := #[] }) ++ rest) u W
  | [], W, _, _, h => h W (Keep.refl _ _)
  | D :: Ds, W, hn, hd, h => by
    obtain ⟨h1, h2⟩ := List.nodup_cons.1 hn
    refine ⟨hu, .inl ⟨D, _, rfl, run_takeDeferred (hd D (by simp)), ?_⟩⟩
    refine leaves_marks hu Ds _ h2 (fun E hE => ?_) (fun W' hk => h W' ?_)
    · rw [World.putObj_heap_other (fun e => h1 (by subst e; exact hE))]
      exact hd E (by simp [hE])
    · refine ⟨hk.os, hk.tape, hk.output, ?_, fun k hk' => ?_⟩
      · have := hk.size
        unfold World.putObj at this
        simpa using this
      · rw [hk.block k (fun hE => hk' (by simp [hE])), World.putObj_heap_other (fun e => hk' (by simp [e]))]
end Go.Proofs.YtikeihnhkiipgaaGreat
