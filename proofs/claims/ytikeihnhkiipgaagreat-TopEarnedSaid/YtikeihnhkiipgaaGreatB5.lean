/-
  Walks: what tells of each mark what is so of all right plans from it on.
-/
import Derived.Test.YtikeihnhkiipgaaGreatQB3
import Derived.Sort.QuietIn
import Derived.Shelf.Abstract
namespace Go.Proofs.YtikeihnhkiipgaaGreat
open Go.RowKit Go.Shelf

attribute [local go_sem] Oper.semAt_some

theorem calls_round {l n : Nat} {P : Program} {f : FuncId} {args : Array Value} {w : World} {R : Ending → World → Prop} (h : Calls P f args w R) : CallsIn (Fence.wide.inRound l) n P f args w R :=
  CallsIn.inRound l (callsIn_wide.2 h)

theorem box_ne {W : World} {x k : Nat} {cs : Array Value} {t kt : TypeId} {Ok : Value → Value → Prop} (h : BoxAt W x cs t) (hm : MemoAt kt Ok k W) : x ≠ k := by
  rintro rfl
  obtain ⟨es, c, hb, -⟩ := hm
  have h' : W.heap[x]? = some (.cells cs t (0, 0)) := h
  rw [hb] at h'
  cases h'
theorem row_ne {W : World} {oa : Option Addr} {n sz k : Nat} {cell : Nat → Nat → Value} {kt : TypeId} {Ok : Value → Value → Prop} (h : Row W oa n (sz + 1) cell) (hn : 0 < n) (hm : MemoAt kt Ok k W) : blk oa ≠ k := by
  rintro rfl
  obtain ⟨es, c, hb, -⟩ := hm
  obtain ⟨o, ho, hc⟩ := cells_of_cell (h.cells 0 hn 0 (by omega))
  dsimp only at ho
  rw [hb] at ho
  cases ho
  cases hc
/-- What the closure reads, and the map that it fills. -/
structure TW (p : PN) (T : Nat → Mk → Option Int) (fa qa : Option Addr) (fc qc b t1 t2 t3 t4 kb : Nat) (vm vj : Value) (z : Int) (MI : World → Prop) (W : World) : Prop where
  ptr : BoxAt W t1 #[bp b] 154
  tal : BoxAt W t2 #[.int .i64 z, vm, vj] 165
  kept : BoxAt W t3 #[.map (some kb)] 190
  on : BoxAt W t4 #[.func (.func 99) #[] #[bp t1, bp t2, bp t3, bp t4]] 162
  box : BoxAt W b (p.box fa qa fc qc) 160
  at' : p.At fa qa W
  mi : MI W
  memo : MemoAt 169 (OkM p T) kb W
section
variable {p : PN} {T : Nat → Mk → Option Int} {fa qa : Option Addr} {fc qc b t1 t2 t3 t4 kb : Nat} {vm vj : Value} {z : Int} {MI : World → Prop} {A B : World}
/-- The blocks of cells that it reads. -/
def TwC (p : PN) (fa qa : Option Addr) (b t1 t2 t3 t4 : Nat) (MC : Nat → Prop) (k : Nat) : Prop := k = t1 ∨ k = t2 ∨ k = t3 ∨ k = t4 ∨ k = b ∨ (0 < p.fn ∧ k = blk fa) ∨ (0 < p.qn ∧ k = blk qa) ∨ MC k
/-- What a caller's own condition owes: it hangs on blocks of cells alone. -/
structure Foot (MI : World → Prop) (MC : Nat → Prop) : Prop where
  keep : ∀ A B, MI A → KpC MC A B → MI B
  cells : ∀ A k, MI A → MC k → ∃ o, A.heap[k]? = some o ∧ o.isCells = true
variable {MC : Nat → Prop}
theorem box_isCells {x : Nat} {cs : Array Value} {t : TypeId} (h : BoxAt A x cs t) : ∃ o, A.heap[x]? = some o ∧ o.isCells = true := ⟨_, h, rfl⟩
theorem row_isCells {oa : Option Addr} {n sz : Nat} {cell : Nat → Nat → Value} (h : Row A oa n (sz + 1) cell) (hn : 0 < n) : ∃ o, A.heap[blk oa]? = some o ∧ o.isCells = true := cells_of_cell (h.cells 0 hn 0 (by omega))
theorem TW.cells (hF : Foot MI MC) (h : TW p T fa qa fc qc b t1 t2 t3 t4 kb vm vj z MI A) {k : Nat} (hk : TwC p fa qa b t1 t2 t3 t4 MC k) : ∃ o, A.heap[k]? = some o ∧ o.isCells = true := by
  rcases hk with rfl | rfl | rfl | rfl | rfl | ⟨h0, rfl⟩ | ⟨h0, rfl⟩ | hk
  · exact box_isCells h.ptr
  · exact box_isCells h.tal
  · exact box_isCells h.kept
  · exact box_isCells h.on
  · exact box_isCells h.box
  · exact row_isCells h.at'.f h0
  · exact row_isCells h.at'.q h0
  · exact hF.cells _ _ h.mi hk
theorem TW.kp (hF : Foot MI MC) (h : TW p T fa qa fc qc b t1 t2 t3 t4 kb vm vj z MI A) (hk : KpC (TwC p fa qa b t1 t2 t3 t4 MC) A B) (hm : MemoAt 169 (OkM p T) kb B) : TW p T fa qa fc qc b t1 t2 t3 t4 kb vm vj z MI B :=
  ⟨(hk.2 _ (.inl rfl)).trans h.ptr, (hk.2 _ (.inr (.inl rfl))).trans h.tal, (hk.2 _ (.inr (.inr (.inl rfl)))).trans h.kept, (hk.2 _ (.inr (.inr (.inr (.inl rfl))))).trans h.on, (hk.2 _ (.inr (.inr (.inr (.inr (.inl rfl)))))).trans h.box,
   ⟨row_keep h.at'.f hk.1 (fun h0 => hk.2 _ (.inr (.inr (.inr (.inr (.inr (.inl ⟨h0, rfl⟩))))))), row_keep h.at'.q hk.1 (fun h0 => hk.2 _ (.inr (.inr (.inr (.inr (.inr (.inr (.inl ⟨h0, rfl⟩))))))))⟩,
   hF.keep _ _ h.mi ⟨hk.1, fun _ h => hk.2 _ (.inr (.inr (.inr (.inr (.inr (.inr (.inr h)))))))⟩, hm⟩
theorem TW.box_keep' {x : Nat} {cs : Array Value} {t : TypeId} (h : BoxAt A x cs t) (hm : MemoAt 169 (OkM p T) kb A) (hk : KeepX kb A B) : BoxAt B x cs t :=
  (hk.block _ ⟨lt_of_heap h, box_ne h hm⟩).trans h
theorem cells_ne {k : Nat} {o : Obj} (h : A.heap[k]? = some o) (hc : o.isCells = true) (hm : MemoAt 169 (OkM p T) kb A) : k ≠ kb := by
  rintro rfl
  obtain ⟨es, c, hb, -⟩ := hm
  rw [hb] at h
  cases h
  cases hc
theorem TW.keep (hF : Foot MI MC) (h : TW p T fa qa fc qc b t1 t2 t3 t4 kb vm vj z MI A) (hk : KeepX kb A B) (hm : MemoAt 169 (OkM p T) kb B) : TW p T fa qa fc qc b t1 t2 t3 t4 kb vm vj z MI B :=
  h.kp hF ⟨hk.size, fun _ hC => by
    obtain ⟨o, ho, hc⟩ := h.cells hF hC
    exact hk.block _ ⟨lt_of_heap ho, cells_ne ho hc h.memo⟩⟩ hm
theorem TW.grow (hF : Foot MI MC) (h : TW p T fa qa fc qc b t1 t2 t3 t4 kb vm vj z MI A) (hb : Below A.heap.size A B) : TW p T fa qa fc qc b t1 t2 t3 t4 kb vm vj z MI B :=
  h.keep hF (KeepX.below hb) (h.memo.grow hb)
theorem grown_cells {row : Option Nat} {n k : Nat} {o : Obj} (ho : A.heap[k]? = some o) (hc : o.isCells = true) (hg : A.grownBy B row) (hr : ∀ r, row = some r → n ≤ r ∧ ∃ o : Obj, A.heap[r]? = some o ∧ o.isCells = false) : B.heap[k]? = A.heap[k]? :=
  hg.block k (lt_of_heap ho) (fun e => by
    obtain ⟨-, o', ho', hc'⟩ := hr k e.symm
    rw [ho] at ho'
    cases ho'
    rw [hc] at hc'
    cases hc')
theorem TW.own (hF : Foot MI MC) (h : TW p T fa qa fc qc b t1 t2 t3 t4 kb vm vj z MI A) {row : Option Nat} {n : Nat} (hn : kb < n) (hg : A.grownBy B row) (hr : ∀ r, row = some r → n ≤ r ∧ ∃ o : Obj, A.heap[r]? = some o ∧ o.isCells = false) : TW p T fa qa fc qc b t1 t2 t3 t4 kb vm vj z MI B :=
  h.kp hF ⟨hg.size, fun _ hC => by
    obtain ⟨o, ho, hc⟩ := h.cells hF hC
    exact grown_cells ho hc hg hr⟩ (h.memo.same (hg.block kb h.memo.lt (fun e => by have := (hr kb e.symm).1; omega)))
theorem own_box {x n : Nat} {cs : Array Value} {t : TypeId} {row : Option Nat} (h : BoxAt A x cs t) (hg : A.grownBy B row) (hr : ∀ r, row = some r → n ≤ r ∧ ∃ o : Obj, A.heap[r]? = some o ∧ o.isCells = false) : BoxAt B x cs t :=
  (grown_cells h rfl hg hr).trans h
theorem KeepX.own {w : World} {n : Nat} {row : Option Nat} (h : KeepX kb w A) (hw : w.heap.size ≤ n) (hg : A.grownBy B row) (hr : ∀ r, row = some r → n ≤ r ∧ ∃ o : Obj, A.heap[r]? = some o ∧ o.isCells = false) : KeepX kb w B :=
  ⟨hg.os.trans h.os, hg.tape.trans h.tape, hg.output.trans h.output, Nat.le_trans h.size hg.size, fun k hk => (hg.block k (Nat.lt_of_lt_of_le hk.1 h.size) (fun e => by have := (hr k e.symm).1; omega)).trans (h.block k hk)⟩
end
theorem zero_known (w : World) : (zeroValue 192).run Tryz.prog w = .ok (.agg #[.int .i64 0, .bool false]) w := by kernel_rfl
/-- Between two rounds: what has been told of the steps so far. -/
structure TellI (p : PN) (T : Nat → Mk → Option Int) (fa qa : Option Addr) (fc qc b t1 t2 t3 t4 kb : Nat) (vm vj : Value) (z : Int) (MI : World → Prop) (s1 t5 t10 : Nat) (m : Mk) (w : World) (acc : Option Int) (W : World) : Prop where
  tw : TW p T fa qa fc qc b t1 t2 t3 t4 kb vm vj z MI W
  mk' : BoxAt W t5 m.cs 169
  kn : BoxAt W t10 (knownC acc) 192
  st : StW p fa qa fc qc b s1 (s1 + 1) m W
  keep : KeepX kb w W
section
variable {p : PN} {T : Nat → Mk → Option Int} {fa qa : Option Addr} {fc qc b t1 t2 t3 t4 kb s1 t5 t10 : Nat} {vm vj : Value} {z : Int} {MI : World → Prop} {MC : Nat → Prop} {m : Mk} {w A B : World} {acc : Option Int}
theorem StW.cells (h : StW p fa qa fc qc b s1 t10 m A) {k : Nat} (hk : StC p fa qa b s1 t10 k) : ∃ o, A.heap[k]? = some o ∧ o.isCells = true := by
  rcases hk with rfl | rfl | rfl | ⟨h0, rfl⟩ | ⟨h0, rfl⟩
  · exact box_isCells h.ptr
  · exact box_isCells h.mark
  · exact box_isCells h.box
  · exact row_isCells h.at'.f h0
  · exact row_isCells h.at'.q h0
theorem TellI.own (hF : Foot MI MC) (h : TellI p T fa qa fc qc b t1 t2 t3 t4 kb vm vj z MI s1 t5 t10 m w acc A) {row : Option Nat} {n : Nat} (hn : kb < n) (hw : w.heap.size ≤ n) (hg : A.grownBy B row) (hr : ∀ r, row = some r → n ≤ r ∧ ∃ o : Obj, A.heap[r]? = some o ∧ o.isCells = false) : TellI p T fa qa fc qc b t1 t2 t3 t4 kb vm vj z MI s1 t5 t10 m w acc B :=
  ⟨h.tw.own hF hn hg hr, own_box h.mk' hg hr, own_box h.kn hg hr, h.st.keep ⟨hg.size, fun _ hC => by
    obtain ⟨o, ho, hc⟩ := h.st.cells hC
    exact grown_cells ho hc hg hr⟩, h.keep.own hw hg hr⟩
/-- Whatever lay, but the map, lies as it lay. -/
theorem TellI.keepX (hF : Foot MI MC) (h : TellI p T fa qa fc qc b t1 t2 t3 t4 kb vm vj z MI s1 t5 t10 m w acc A) (hk : KeepX kb A B) (hm : MemoAt 169 (OkM p T) kb B) : TellI p T fa qa fc qc b t1 t2 t3 t4 kb vm vj z MI s1 t5 t10 m w acc B :=
  ⟨h.tw.keep hF hk hm, TW.box_keep' h.mk' h.tw.memo hk, TW.box_keep' h.kn h.tw.memo hk, h.st.keep ⟨hk.size, fun _ hC => by
    obtain ⟨o, ho, hc⟩ := h.st.cells hC
    exact hk.block _ ⟨lt_of_heap ho, cells_ne ho hc h.tw.memo⟩⟩, h.keep.trans hk⟩
theorem TellI.grow (hF : Foot MI MC) (h : TellI p T fa qa fc qc b t1 t2 t3 t4 kb vm vj z MI s1 t5 t10 m w acc A) (hb : Below A.heap.size A B) : TellI p T fa qa fc qc b t1 t2 t3 t4 kb vm vj z MI s1 t5 t10 m w acc B :=
  h.keepX hF (KeepX.below hb) (h.tw.memo.grow hb)
theorem TellI.kpc (h : TellI p T fa qa fc qc b t1 t2 t3 t4 kb vm vj z MI s1 t5 t10 m w acc A) (hk : KeepX kb A B) : KpC (StC p fa qa b s1 (s1 + 1)) A B := ⟨hk.size, fun _ hC => by
    obtain ⟨o, ho, hc⟩ := h.st.cells hC
    exact hk.block _ ⟨lt_of_heap ho, cells_ne ho hc h.tw.memo⟩⟩
theorem keepsFrom_of {n : Nat} (hk : KeepX kb A B) (hn : kb < n) : KeepsFrom n A B := ⟨hk.size, fun k _ hB ho _ => (hk.block k ⟨lt_of_heap ho, by omega⟩).trans ho⟩
theorem KeepX.setCell {x i : Nat} {v : Value} (hk : KeepX kb A B) (hx : A.heap.size ≤ x) : KeepX kb A (B.setCell ⟨x, i, none⟩ v) := Keep.set hk _ _ _ (fun h => by omega)
theorem kpC_set (x i : Nat) (v : Value) (A : World) : KpC (fun k => k ≠ x) A (A.setCell ⟨x, i, none⟩ v) := ⟨by rw [size_setCell]; exact Nat.le_refl _, fun k hk => Below.heap_setCell A ⟨x, i, none⟩ v k (fun e => hk e)⟩
theorem KpC.imp {C D : Nat → Prop} (h : KpC C A B) (f : ∀ k, D k → C k) : KpC D A B := ⟨h.1, fun k hk => h.2 k (f k hk)⟩
theorem KeepX.putObj (h : KeepX kb A B) {D : Nat} (hD : A.heap.size ≤ D) (o : Obj) : KeepX kb A (B.putObj D o) :=
  ⟨h.os, h.tape, h.output, by unfold World.putObj; simpa using h.size, fun k hk => (World.putObj_heap_other (by have := hk.1; omega)).trans (h.block k hk)⟩
theorem KeepX.drewN (h : KeepX kb A B) (n : Nat) : KeepX kb A (B.drewN n) := ⟨h.os, h.tape, h.output, h.size, h.block⟩
/-- What is told is put down. -/
theorem TellI.put (hF : Foot MI MC) (h : TellI p T fa qa fc qc b t1 t2 t3 t4 kb vm vj z MI s1 t5 t10 m w acc A) {acc' : Option Int} (hk : KpC (fun k => k ≠ t10) A B) (hb : BoxAt B t10 (knownC acc') 192) (hX : KeepX kb w B)
    (n1 : ∀ k, TwC p fa qa b t1 t2 t3 t4 MC k → k ≠ t10) (n2 : ∀ k, StC p fa qa b s1 (s1 + 1) k → k ≠ t10) (n3 : t5 ≠ t10) : TellI p T fa qa fc qc b t1 t2 t3 t4 kb vm vj z MI s1 t5 t10 m w acc' B :=
  ⟨h.tw.kp hF ⟨hk.1, fun k hC => hk.2 k (n1 k hC)⟩ (h.tw.memo.same (hk.2 kb (fun e => box_ne h.kn h.tw.memo e.symm))), (hk.2 t5 n3).trans h.mk', hb, h.st.keep ⟨hk.1, fun k hC => hk.2 k (n2 k hC)⟩, hX⟩
end
/-- What the closure hands back. -/
def TellPost (p : PN) (T : Nat → Mk → Option Int) (kb : Nat) (o : Option Int) (W : World) (e : Ending) (W' : World) : Prop :=
  e = .returned (.tuple #[.int .i64 (knownX o), .bool o.isSome]) ∧ KeepX kb W W' ∧ MemoAt 169 (OkM p T) kb W'
set_option maxRecDepth 100000 in
set_option maxHeartbeats 8000000 in
theorem tell1_any (p : PN) (ok : p.Ok) (fa qa : Option Addr) (fc qc b t1 t2 t3 t4 kb gm gj : Nat) (lm lj : Array Value) (z : Int) (more : Nat → Nat → Nat → Int → Int) (join : Int → Int → Int) (MI : World → Prop) (MC : Nat → Prop)
    (hF : Foot MI MC)
    (em : ∀ args W, (callFunc gm args).run Tryz.prog W = .ok (.enter gm args) W) (ej : ∀ args W, (callFunc gj args).run Tryz.prog W = .ok (.enter gj args) W)
    (hmore : ∀ W pot f h r, MI W → p.At fa qa W → BoxAt W b (p.box fa qa fc qc) 160 → pot < p.qn → f < p.fn → h < p.H → Calls Tryz.prog gm (#[.int .i64 pot, plV f h, .int .i64 r] ++ lm) W fun e W' => e = .returned (.int .i64 (more pot f h r)) ∧ Below W.heap.size W W')
    (hjoin : ∀ W x y, Calls Tryz.prog gj (#[.int .i64 x, .int .i64 y] ++ lj) W fun e W' => e = .returned (.int .i64 (join x y)) ∧ W = W') :
    ∀ n (m : Mk) (W : World), m.pot + n = p.qn → m.Ok → TW p (p.tell more join z) fa qa fc qc b t1 t2 t3 t4 kb (.func (.func gm) #[] lm) (.func (.func gj) #[] lj) z MI W →
      Calls Tryz.prog 99 #[m.v, bp t1, bp t2, bp t3, bp t4] W (TellPost p (p.tell more join z) kb (p.tell more join z n m) W) := by
  intro n
  induction n with
  | zero =>
    intro m w hn hm hT
    have al := (Below.refl w.heap.size w).alloc (Nat.le_refl _) (.cells m.cs 169)
    have T0 := Lib.hid (hT.grow hF al)
    have M0 := Lib.hid (show BoxAt (w.alloc (.cells m.cs 169)) w.heap.size m.cs 169 from heap_alloc_new _ _)
    have K0 := Lib.hid (show KeepX kb w (w.alloc (.cells m.cs 169)) from KeepX.below al)
    have HT := Lib.hid (show p.tell more join z 0 m = some z from rfl)
    have e0 : ((m.pot : Int) == (p.qn : Int)) = true := beq_iff_eq.2 (by omega)
    generalize p.tell more join z = T at *
    clear hT al hmore hjoin
    unfold Mk.v
    unfold Mk.cs at *
    go_enter Tryz.func99, Tryz.ntmps99
    go_upto_region 1 with (fail)
    generalize World.alloc w _ = w0 at *
    have c0 := cellAt M0.out 0
    have c1 := cellAt T0.out.ptr 0
    obtain ⟨q0, q1, q2, q3, q4, q5, q6⟩ := box_cells T0.out.box
    have d0 := cellAt T0.out.tal 0
    simp only [List.getElem?_toArray, List.getElem?_cons_zero] at c0 c1 d0
    go_quiet (fail)
    go_wp2_with fail
    refine bodyPost_ret (v := .tuple #[.int .i64 z, .bool true]) (by simp [results, Tryz.results99, go_sem]) rfl ?_
    have hd := below_drewN (Below.refl w0.heap.size w0) nq
    exact ⟨by rw [HT.out]; rfl, K0.out.trans (KeepX.below hd), T0.out.memo.grow hd⟩
  | succ n ih =>
    intro m w hn hm hT
    have al := (Below.refl w.heap.size w).alloc (Nat.le_refl _) (.cells m.cs 169)
    have T0 := Lib.hid (hT.grow hF al)
    have M0 := Lib.hid (show BoxAt (w.alloc (.cells m.cs 169)) w.heap.size m.cs 169 from heap_alloc_new _ _)
    have K0 := Lib.hid (show KeepX kb w (w.alloc (.cells m.cs 169)) from KeepX.below al)
    have HT := Lib.hid (show p.tell more join z (n + 1) m = (p.steps m).foldl (tellStep more join (p.tell more join z n) m.pot) none from rfl)
    have e0 : ((m.pot : Int) == (p.qn : Int)) = false := beq_eq_false_iff_ne.2 (by omega)
    have hp : m.pot < p.qn := by omega
    have hq := ok.hqn
    have IH := Lib.hid ih
    have HMO := Lib.hid hmore
    have HJO := Lib.hid hjoin
    have HF := Lib.hid hF
    have HM := Lib.hid hm
    have OK := Lib.hid ok
    have HN := Lib.hid hn
    have hkey := Lib.hid (key_mark m hm (by omega))
    have hkb := hT.memo.lt
    clear hT al hmore hjoin ih hF hm ok hn
    unfold Mk.v
    refine (callsIn_wide (n := 9)).1 ?_
    refine callsIn_of_wp_marks Tryz.func99 rfl trivial ?_ rfl
    simp only [Tryz.ntmps99, List.size_toArray, List.length_cons, List.length_nil, Nat.reduceAdd, Nat.reduceSub, Array.replicate_succ, Array.replicate_zero, List.push_toArray, List.append_toArray, List.nil_append, List.cons_append]
    unfold Mk.cs at *
    gi_upto_region 1 with (fail)
    generalize World.alloc w _ = w0 at *
    generalize w.heap.size = t5 at *
    have c0 := cellAt M0.out 0
    have c1 := cellAt T0.out.ptr 0
    obtain ⟨q0, q1, q2, q3, q4, q5, q6⟩ := box_cells T0.out.box
    simp only [List.getElem?_toArray, List.getElem?_cons_zero] at c0 c1
    gi_quiet (fail)
    have hd := below_drewN (Below.refl w0.heap.size w0) nq
    have T1 := Lib.hid (T0.out.grow HF.out hd)
    have M1 := Lib.hid (M0.out.grow hd)
    have K1 := Lib.hid (K0.out.trans (KeepX.below hd))
    clear T0 M0 K0 hd c0 c1 q0 q1 q2 q3 q4 q5 q6
    generalize World.drewN w0 nq = w1 at *
    have hl := T1.out.memo.look lawMark Tryz.underlying190 (zero_known w1) hkey.out
    unfold Mk.v Mk.cs at hl
    have c0 := cellAt M1.out 0
    have c1 := cellAt M1.out 1
    have c2 := cellAt M1.out 2
    have c3 := cellAt M1.out 3
    have d0 := cellAt T1.out.kept 0
    simp only [List.getElem?_toArray, List.getElem?_cons_zero, List.getElem?_cons_succ] at c0 c1 c2 c3 d0
    rcases hl with hrun | ⟨v, ⟨m', hm', rfl⟩, hrun⟩
    · gi_upto_region 7 with (fail)
      have al := ((Below.refl w1.heap.size w1).alloc (Nat.le_refl _) (.cells #[.int .i64 0, .bool false] 192)).alloc (by simp) (.cells #[.int .i64 0, .bool false] 192)
      have T2 := Lib.hid (T1.out.grow HF.out al)
      have M2 := Lib.hid (M1.out.grow al)
      have K2 := Lib.hid (K1.out.trans (KeepX.below al))
      have O2 := Lib.hid (show BoxAt ((w1.alloc (.cells #[.int .i64 0, .bool false] 192)).alloc (.cells #[.int .i64 0, .bool false] 192)) (w1.heap.size + 1) (knownC none) 192 from by
        have h := heap_alloc_new (w1.alloc (.cells #[.int .i64 0, .bool false] 192)) (.cells #[.int .i64 0, .bool false] 192)
        rwa [sizeAlloc] at h)
      have NE1 := Lib.hid (show ∀ k, TwC p fa qa b t1 t2 t3 t4 MC k → k < w1.heap.size from fun k hk => by
        obtain ⟨o, ho, -⟩ := T1.out.cells HF.out hk
        exact lt_of_heap ho)
      have NE3 := Lib.hid (lt_of_heap M1.out)
      have NW0 := Lib.hid K1.out.size
      clear hrun c0 c1 c2 c3 d0 T1 M1 K1 al
      generalize World.alloc (World.alloc w1 _) _ = w2 at *
      generalize w1.heap.size = t8 at *
      generalize ht10 : t8 + 1 = t10 at *
      have hlt10 : t8 < t10 := by omega
      have NX1 := Lib.hid (show ∀ k, TwC p fa qa b t1 t2 t3 t4 MC k → k ≠ t10 from fun k hk => by have := NE1.out k hk; omega)
      have NX3 := Lib.hid (show t5 ≠ t10 from by have := NE3.out; omega)
      have hts := lt_of_heap O2.out
      have NX2 := Lib.hid (show ∀ k, StC p fa qa b w2.heap.size (w2.heap.size + 1) k → k ≠ t10 from by
        rintro k (hk | hk | hk | hk | hk)
        · exact fun e => by omega
        · exact fun e => by omega
        · have := NE1.out k (.inr (.inr (.inr (.inr (.inl hk)))))
          omega
        · have := NE1.out k (.inr (.inr (.inr (.inr (.inr (.inl hk))))))
          omega
        · have := NE1.out k (.inr (.inr (.inr (.inr (.inr (.inr (.inl hk)))))))
          omega)
      have NW := Lib.hid (show w.heap.size ≤ t10 from by have := NW0.out; omega)
      clear NE1 NE3 NW0 ht10
      have c0 := cellAt M2.out 0
      have c1 := cellAt M2.out 1
      have c2 := cellAt M2.out 2
      have c3 := cellAt M2.out 3
      have d1 := cellAt T2.out.ptr 0
      simp only [List.getElem?_toArray, List.getElem?_cons_zero, List.getElem?_cons_succ] at c0 c1 c2 c3 d1
      have CS := Lib.hid (steps_any b m w2)
      unfold Mk.v Mk.cs at CS
      gi_wp2
      refine ⟨trivial, ?_⟩
      refine (callsIn_wide.2 CS.out).mono ?_
      rintro e w3 ⟨rfl, hw3⟩
      obtain ⟨x0, x1, -, hB⟩ := blocks2 hw3.symm
      have S3 := Lib.hid (show StW p fa qa fc qc b w2.heap.size (w2.heap.size + 1) m w3 from ⟨x0, x1, T2.out.box.grow hB, T2.out.at'.grow hB⟩)
      have T3 := Lib.hid (T2.out.grow HF.out hB)
      have M3 := Lib.hid (M2.out.grow hB)
      have K3 := Lib.hid (K2.out.trans (KeepX.below hB))
      have O3 := Lib.hid (O2.out.grow hB)
      have hls := lt_of_heap x1
      have hkb3 : kb < w3.heap.size := T3.out.memo.lt
      clear hw3 x0 x1 hB T2 M2 K2 O2 c0 c1 c2 c3 d1 CS
      generalize w2.heap.size = s1 at *
      gi_wp2
      generalize hA : Act.mk _ _ = A0
      refine wpIn_rangeFunc_ownH (w := w3) rfl (by omega) (gf := 100) (lb := #[bp s1, bp (s1 + 1)]) (by rw [← hA]; rfl) trivial (enters_of Tryz.func100 (by kernel_rfl) rfl)
        (steps_stops 8 p OK.out fa qa fc qc b s1 (s1 + 1) m HM.out hp w3 S3.out) (fun h k => KpC.trans h k) (kpC_b S3.out.lt) (Below.refl _ _) (fun _ => rfl)
        (fun (pre : List (StpIn p m)) W => TellI p (p.tell more join z) fa qa fc qc b t1 t2 t3 t4 kb (.func (.func gm) #[] lm) (.func (.func gj) #[] lj) z MI s1 t5 t10 m w ((pre.map Subtype.val).foldl (tellStep more join (p.tell more join z n) m.pot) none) W) (fun _ _ _ => False)
        (fun _ _ _ _ hs hg hr => TellI.own HF.out hs hkb3 (by have := K3.out.size; omega) hg hr) (fun _ _ _ _ _ hs _ _ => hs) ⟨T3.out, M3.out, O3.out, S3.out, K3.out⟩
        (fun x a' W => ∃ Bx By, BoxAt W Bx #[.int .i64 x.1.f, .int .i64 x.1.h] 122 ∧ BoxAt W By x.1.m.cs 169 ∧ Bx ≠ t10 ∧ By ≠ t10 ∧ a' = { tmps := (((A0.tmps.setIfInBounds 41 (plV x.1.f x.1.h)).setIfInBounds 42 x.1.m.v).setIfInBounds 11 (bp Bx)).setIfInBounds 12 (bp By), defers := [] })
        (fun x a' s A B row hs hg hr => by obtain ⟨Bx, By, h1, h2, h3, h4, h5⟩ := hs; exact ⟨Bx, By, own_box h1 hg hr, own_box h2 hg hr, h3, h4, h5⟩) ?assign ?body ?done ?stop
      case assign =>
        subst hA
        intro l pre x W K hi hK
        obtain ⟨⟨xf, xh, xm⟩, hx⟩ := x
        have HI := Lib.hid hi
        have HX := Lib.hid hK
        clear hi hK
        simp only [Stp.vs, plV, Mk.v, Mk.cs] at *
        gi_wp2
        have hlt := lt_of_heap HI.out.kn
        have al := ((Below.refl W.heap.size W).alloc (Nat.le_refl _) (.cells #[.int .i64 xf, .int .i64 xh] 122)).alloc (by simp) (.cells #[.int .i64 xm.pot, .int .u64 xm.b0, .int .u64 xm.b1, .int .u64 xm.b2] 169)
        obtain ⟨z0, z1, -, -⟩ := blocks2 (w := W) (a := .cells #[.int .i64 xf, .int .i64 xh] 122) (b := .cells #[.int .i64 xm.pot, .int .u64 xm.b0, .int .u64 xm.b1, .int .u64 xm.b2] 169) rfl
        exact HX.out _ _ (((KeepsOthers.alloc _ _).trans (KeepsOthers.alloc _ _)).from _) (KpC.below al HI.out.st.lt) (HI.out.grow HF.out al) ⟨W.heap.size, W.heap.size + 1, z0, z1, by omega, by omega, rfl⟩
      case body =>
        subst hA
        rintro l pre ⟨⟨xf, xh, xm⟩, hx⟩ a' W hl _ hi ⟨Bx, By, hbx, hby, nx, ny, rfl⟩ _
        obtain ⟨h1, h2, h3, h4⟩ := mem_steps.1 hx
        dsimp only at h1 h2 h3 h4
        have hno := next_ok OK.out HM.out xf xh
        rw [← h4] at hno
        have HI := Lib.hid hi
        have PX := Lib.hid hbx
        have PY := Lib.hid hby
        have CR := Lib.hid (IH.out xm W (by have := HN.out; have := hno.2; omega) hno.1 HI.out.tw)
        have HAP := Lib.hid (show ((pre ++ [(⟨⟨xf, xh, xm⟩, hx⟩ : StpIn p m)]).map Subtype.val).foldl (tellStep more join (p.tell more join z n) m.pot) none = tellStep more join (p.tell more join z n) m.pot ((pre.map Subtype.val).foldl (tellStep more join (p.tell more join z n) m.pot) none) ⟨xf, xh, xm⟩ from by simp)
        clear hi hbx hby h3 h4 hno
        have d0 := cellAt HI.out.tw.on 0
        have y0 := cellAt PY.out 0
        have y1 := cellAt PY.out 1
        have y2 := cellAt PY.out 2
        have y3 := cellAt PY.out 3
        unfold Mk.v at CR
        simp only [Mk.cs, Mk.v, plV, List.getElem?_toArray, List.getElem?_cons_zero, List.getElem?_cons_succ, List.setIfInBounds_toArray, List.set_cons_zero, List.set_cons_succ] at d0 y0 y1 y2 y3 CR ⊢
        gi_wp2
        refine ⟨trivial, ?_⟩
        refine (calls_round CR.out).mono ?_
        rintro e w5 ⟨rfl, hk5, hm5⟩
        have I5 := Lib.hid (HI.out.keepX HF.out hk5 hm5)
        have X5 := Lib.hid (TW.box_keep' PX.out HI.out.tw.memo hk5)
        have KP5 := Lib.hid (HI.out.kpc hk5)
        have KF5 := Lib.hid (keepsFrom_of hk5 hkb3)
        clear hk5 hm5 HI PX PY CR d0 y0 y1 y2 y3
        generalize hacc : (pre.map Subtype.val).foldl (tellStep more join (p.tell more join z n) m.pot) none = acc at *
        generalize hto : p.tell more join z n xm = o at *
        cases o with
        | none =>
          have HAP2 := Lib.hid (show _ = acc from HAP.out.trans (by unfold tellStep; dsimp only; rw [hto]))
          clear hto
          simp only [knownX, Option.getD, Option.isSome]
          gi_wp2
          exact ⟨KF5.out, KP5.out, by dsimp only; rw [HAP2.out]; exact I5.out⟩
        | some r =>
          have CM := HMO.out w5 m.pot xf xh r I5.out.tw.mi I5.out.tw.at' I5.out.tw.box hp h1 h2
          unfold plV at CM
          have HCM := Lib.hid CM
          have d1 := cellAt I5.out.tw.tal 1
          have c0 := cellAt I5.out.mk' 0
          have x0 := cellAt X5.out 0
          have x1 := cellAt X5.out 1
          simp only [Mk.cs, List.getElem?_toArray, List.getElem?_cons_zero, List.getElem?_cons_succ] at d1 c0 x0 x1
          clear CM
          simp only [knownX, Option.getD, Option.isSome]
          gi_wp2
          refine ⟨trivial, ?_⟩
          refine (calls_round HCM.out).mono ?_
          rintro e w6 ⟨rfl, hb6⟩
          have I6 := Lib.hid (I5.out.grow HF.out hb6)
          have KP6 := Lib.hid (KP5.out.trans (KpC.below hb6 I5.out.st.lt))
          have KF6 := Lib.hid (KF5.out.trans (keepsFrom_of (KeepX.below hb6) hkb3))
          have HAP2 := Lib.hid (show _ = accPut join acc (more m.pot xf xh r) from HAP.out.trans (by unfold tellStep; dsimp only; rw [hto]))
          clear HAP hto hb6 HCM d1 c0 x0 x1 I5 KP5 KF5 X5
          generalize more m.pot xf xh r = y at *
          have k0 := cellAt I6.out.kn 0
          have k1 := cellAt I6.out.kn 1
          have f0 := freeAt I6.out.kn 0
          have f1 := freeAt I6.out.kn 1
          cases acc with
          | none =>
            simp only [knownC, List.getElem?_toArray, List.getElem?_cons_zero, List.getElem?_cons_succ] at k0 k1
            gi_wp2
            have hkp := Lib.hid ((kpC_set t10 0 (.int .i64 y) w6).trans (kpC_set t10 1 (.bool true) _))
            refine ⟨KF6.out.trans (((KeepsOthers.setCell _ _ _).trans (KeepsOthers.setCell _ _ _)).from _), KP6.out.trans (hkp.out.imp NX2.out), ?_⟩
            dsimp only
            rw [HAP2.out]
            exact I6.out.put HF.out hkp.out ((I6.out.kn.store 0 _).store 1 _) (KeepX.setCell (KeepX.setCell I6.out.keep NW.out) NW.out) NX1.out NX2.out NX3.out
          | some a =>
            have CJ := Lib.hid (HJO.out w6 a y)
            have d2 := cellAt I6.out.tw.tal 2
            simp only [knownC, List.getElem?_toArray, List.getElem?_cons_zero, List.getElem?_cons_succ] at k0 k1 d2
            gi_wp2
            refine ⟨trivial, ?_⟩
            refine (calls_round CJ.out).mono ?_
            rintro e w7 ⟨rfl, rfl⟩
            gi_wp2
            have hkp := Lib.hid (kpC_set t10 0 (.int .i64 (join a y)) w6)
            refine ⟨KF6.out.trans ((KeepsOthers.setCell _ _ _).from _), KP6.out.trans (hkp.out.imp NX2.out), ?_⟩
            dsimp only
            rw [HAP2.out]
            exact I6.out.put HF.out hkp.out (I6.out.kn.store 0 _) (KeepX.setCell I6.out.keep NW.out) NX1.out NX2.out NX3.out
      case done =>
        subst hA
        rintro D ys W hD hys hi hK
        have hi2 : TellI p (p.tell more join z) fa qa fc qc b t1 t2 t3 t4 kb (.func (.func gm) #[] lm) (.func (.func gj) #[] lj) z MI s1 t5 t10 m w (p.tell more join z (n + 1) m) W := by
          have h : TellI p (p.tell more join z) fa qa fc qc b t1 t2 t3 t4 kb (.func (.func gm) #[] lm) (.func (.func gj) #[] lj) z MI s1 t5 t10 m w ((ys.map Subtype.val).foldl (tellStep more join (p.tell more join z n) m.pot) none) W := hi
          rw [show ys.map Subtype.val = p.steps m from hys] at h
          rw [HT.out]
          exact h
        have HI := Lib.hid hi2
        have hst := HI.out.tw.memo.store lawMark Tryz.underlying190 hkey.out (v := .agg (knownC (p.tell more join z (n + 1) m))) ⟨m, rfl, by rw [show p.qn - m.pot = n + 1 by have := HN.out; omega]⟩
        obtain ⟨w8, hrun, hm8, hg8⟩ := hst
        have hkn := HI.out.kn
        generalize p.tell more join z (n + 1) m = o at *
        rw [knownC_eq] at hrun hkn
        unfold Mk.v Mk.cs at hrun
        have n10 := box_ne HI.out.kn HI.out.tw.memo
        have KN8 := Lib.hid (BoxAt.kept hkn hg8 (fun e => n10 (Option.some.inj e)))
        have HK8 := Lib.hid ((hg8.block D (lt_of_heap hK) (fun e => by have := Option.some.inj e; omega)).trans hK)
        have X8 := Lib.hid (show KeepX kb w w8 from ⟨hg8.os.trans HI.out.keep.os, hg8.tape.trans HI.out.keep.tape, hg8.output.trans HI.out.keep.output, Nat.le_trans HI.out.keep.size hg8.size, fun k hk => (hg8.block k (Nat.lt_of_lt_of_le hk.1 HI.out.keep.size) (fun e => hk.2 (Option.some.inj e))).trans (HI.out.keep.block k hk)⟩)
        have M8 := Lib.hid hm8
        have d3 := cellAt HI.out.tw.kept 0
        have c0 := cellAt HI.out.mk' 0
        have c1 := cellAt HI.out.mk' 1
        have c2 := cellAt HI.out.mk' 2
        have c3 := cellAt HI.out.mk' 3
        have k0 := cellAt hkn 0
        have k1 := cellAt hkn 1
        have j0 := cellAt KN8.out 0
        have j1 := cellAt KN8.out 1
        simp only [Mk.cs, List.getElem?_toArray, List.getElem?_cons_zero, List.getElem?_cons_succ] at d3 c0 c1 c2 c3 k0 k1 j0 j1
        have HD := Lib.hid hD
        have K3s := Lib.hid K3.out.size
        clear hi hi2 hys hK hm8 hg8 hkn n10
        gi_upto_region 17 with (fail)
        clear hrun d3 c0 c1 c2 c3 k0 k1
        gi_quiet (fail)
        gi_wp2
        refine ⟨by simp, .inl ⟨_, _, rfl, run_takeDeferred (show (w8.drewN nq).heap[D]? = some (.deferred (some [])) from HK8.out), ?_⟩⟩
        exact ⟨.tuple #[.int .i64 (knownX o), .bool o.isSome], by simp [results, Tryz.results99, go_sem], rfl, (X8.out.drewN nq).putObj (by have := K3s.out; have := HD.out; omega) _, M8.out.same (World.putObj_heap_other (by have := HD.out; omega))⟩
      case stop =>
        rintro D c pre W _ _ h _
        exact h.elim
    · have hmm : m = m' := mark_inj hm'
      clear hm'
      subst hmm
      rw [show p.qn - m.pot = n + 1 by have := HN.out; omega, knownC_eq] at hrun
      generalize p.tell more join z (n + 1) m = o at *
      gi_upto_region 5 with (fail)
      have al := (Below.refl w1.heap.size w1).alloc (Nat.le_refl _) (.cells #[.int .i64 (knownX o), .bool o.isSome] 192)
      have K2 := Lib.hid (K1.out.trans (KeepX.below al))
      have M2 := Lib.hid (T1.out.memo.grow al)
      have O2 := Lib.hid (show BoxAt (w1.alloc (.cells #[.int .i64 (knownX o), .bool o.isSome] 192)) w1.heap.size #[.int .i64 (knownX o), .bool o.isSome] 192 from heap_alloc_new _ _)
      clear al hrun c0 c1 c2 c3 d0
      generalize World.alloc w1 _ = w2 at *
      generalize w1.heap.size = t8 at *
      have k0 := cellAt O2.out 0
      have k1 := cellAt O2.out 1
      simp only [List.getElem?_toArray, List.getElem?_cons_zero, List.getElem?_cons_succ] at k0 k1
      gi_quiet (fail)
      gi_wp2
      exact ⟨.tuple #[.int .i64 (knownX o), .bool o.isSome], by simp [results, Tryz.results99, go_sem], rfl, K2.out.drewN nq, M2.out.same rfl⟩
end Go.Proofs.YtikeihnhkiipgaaGreat
