/-
The frame of the laws' cards; what comes in, as rows of memo.
-/
import Derived.Test.YtclbmlmlhiiaeaaGreatDoorRows
import Derived.Test.YtclbmlmlhiiaeaaGreatDoorQW6
import Derived.WalkKit
import Derived.ProofKit
import Derived.Handy
import Derived.Lay
import Derived.SevenTiedAt
import Derived.OpenShut
import Derived.ShutString
import Derived.ChangeOld
import Derived.Below
import Derived.HandedShaped
import Derived.Shelf.Vars
import Derived.Laws.IdiomArrays
import Derived.Lib.LaidTab
import Derived.Deep.Slices
import Derived.Lib.SmallJoins
namespace Go.Proofs.YtclbmlmlhiiaeaaGreatDoor.fr
open Go.ChangeShapes Go.WideShapes Go.ChangeAt Go.RowKit Go.Proofs.YtclbmlmlhiiaeaaGreatDoor
theorem returns_shaped {H : Type} {enc : TypeId × Value → H} {a : Assume} {C : Checked} {os : Os} {f : FuncId} {fn : Func} {s : ChangeSpec} {conds : List PathCond} {apart fresh handsOn again : Bool} {X : World → Array Value → Prop}
  (hX : ∀ (w w' : World) (args : Array Value), w.heap = w'.heap → X w args → X w' args)
  (own : ownKnob C.prog.godebug = none) (started : os.Started) (noInit : C.prog.inits.idxOf? f = none) (hfn : C.prog.funcs[f]? = some fn)
  (witness : ∃ (w : World) (tape : Tape) (i : Input), w.os = os ∧ (w.forCall tape i).Shaped C.prog ∧ i.vars = [] ∧ Input.okWide C.prog (w.forCall tape i) .any w.heap.size f i ∧
   ((s.pre enc C.prog fn conds apart (w.forCall tape i).memory i.args ∧ X (w.forCall tape i).memory i.args) ∧ sizedMet enc C.prog fn (OpenSpec.ofChange s) apart (w.forCall tape i).memory i.args) ∧ a.holds C.prog (lone (Frame.enter C.prog f i.args .normal) [] (w.forCall tape i)))
  (contract : ∀ (W : World) (base : Nat) (args : Array Value) (ds gs : List (DataW H)) (before : List MemPlace),
   (∀ (j : Nat) t v, fn.params[j]? = some t → args[j]? = some v → Value.okWide C.prog W .any base t v) →
   DataW.Whole enc C.prog fn.params.toList s.vars apart W args.toList ds gs before → X W args → W.ShapedOpen C.prog →
   Calls C.prog f args W fun e W' => ∃ v, e = .returned v ∧ s.post enc C.prog fn apart fresh handsOn again W args v W') :
  ReturnsInHanded a C os f .any (fun w args => (s.pre enc C.prog fn conds apart w args ∧ X w args) ∧ sizedMet enc C.prog fn (OpenSpec.ofChange s) apart w args) (s.post enc C.prog fn apart fresh handsOn again) := by
 refine returnsInHanded_of_calls own started noInit witness ?_
 intro w tape i _ hsh _ hok hpre hholds
 obtain ⟨_, _, _, fn', hfn', _, _, _, _, hval⟩ := hok
 have e : fn' = fn := Option.some.inj (hfn'.symm.trans hfn)
 subst e
 obtain ⟨⟨⟨ds, gs, before, hw, hc⟩, hx⟩, hz⟩ := hpre
 have hw' := DataW.Whole.of_heap (w' := w.forCall tape i) (by rfl) hw
 refine (contract (w.forCall tape i) w.heap.size i.args ds gs before hval hw' (hX _ _ _ (by rfl) hx) hsh).mono fun e W' ⟨v, he, hp⟩ => ?_
 subst he
 exact ChangeSpec.post_blind hp
theorem addr_plain {w : World} {x : Addr} {v : Value} (h : w.cell? x = some v) : x = ⟨x.block, x.off, none⟩ := by
 have hs : x.spot = none := World.cell?_spot h
 obtain ⟨b, o, s⟩ := x
 dsimp only at hs
 subst hs
 rfl
def laid : List (String × DataW Unit) := Rows.bookMendRow.laid
theorem own : ownKnob Tryz.prog.godebug = none := by kernel_rfl
theorem laidOut : laidOutB Tryz.prog = true := by kernel_rfl
theorem g1 : (Tryz.prog.globals[1]?).map (·.type) = some 3 := by kernel_rfl
theorem lim_of {W : World} (h : W.ShapedOpen Tryz.prog) : Lim W :=
 cell_of_shapedOpen_int (t := 3) (zero := #[.int .i64 0]) h (of_decide_eq_true (by kernel_rfl)) (by kernel_rfl) rfl (by kernel_rfl) (by kernel_rfl) (by kernel_rfl)
theorem size_of {W : World} (h : W.ShapedOpen Tryz.prog) : 1 < W.heap.size := by
 obtain ⟨m, hm⟩ := lim_of h
 exact World.block_lt_of_cell? W ⟨1, 0, none⟩ hm
theorem tab_of {W : World} (h : laidMetH Tryz.prog laid W) : Tab W := by
 rw [MakeChecks.laidMetH_plain _ _ _ (by kernel_rfl)] at h
 obtain ⟨ps, ⟨g0, t0, cs0, f0, p0, q0, hg0, ht0, hv0, hd0, ⟨g1, t1, cs1, f1, p1, q1, hg1, ht1, hv1, hd1, ⟨g2, t2, cs2, f2, p2, q2, hg2, ht2, hv2, hd2, ⟨g3, t3, cs3, f3, p3, q3, hg3, ht3, hv3, hd3, _, _⟩, _⟩, _⟩, _⟩, _⟩ := h
 obtain rfl := Option.some.inj ((show Tryz.prog.globalNamed "internal/strconv.uint64pow10" = some 2 by kernel_rfl).symm.trans hg2)
 obtain rfl := Option.some.inj ((show (Tryz.prog.globals[2]?).map (·.type) = some 245 by kernel_rfl).symm.trans ht2)
 have hd : DataW.trod (fun _ => ()) Tryz.prog W 0 (fun _ => true) false f2 245 cs2.toList = some (Lib.tabData .u64 Lib.pow10Tab, p2) := hd2
 have hc := Lib.cells_of_tab (n := 20) Tryz.underlying245 Tryz.underlying236 (by kernel_rfl) (by kernel_rfl) hd
 unfold Tab Lib.TabIs
 rw [hv2, ← hc]
theorem sides_of {W : World} (h : laidMetH Tryz.prog laid W) : Sides W := by
 rw [MakeChecks.laidMetH_plain _ _ _ (by kernel_rfl)] at h
 obtain ⟨ps, ⟨g0, t0, cs0, f0, p0, q0, hg0, ht0, hv0, hd0, ⟨g1, t1, cs1, f1, p1, q1, hg1, ht1, hv1, hd1, ⟨g2, t2, cs2, f2, p2, q2, hg2, ht2, hv2, hd2, ⟨g3, t3, cs3, f3, p3, q3, hg3, ht3, hv3, hd3, _, _⟩, _⟩, _⟩, _⟩, _⟩ := h
 obtain rfl := Option.some.inj ((show Tryz.prog.globalNamed "caulkworks/book.sides" = some 0 by kernel_rfl).symm.trans hg3)
 obtain rfl := Option.some.inj ((show (Tryz.prog.globals[0]?).map (·.type) = some 163 by kernel_rfl).symm.trans ht3)
 obtain ⟨xs, m, -, -, hl, -, -⟩ := DataW.trod_array Tryz.underlying163 hd3
 rw [show Tryz.prog.cellsOf 163 = 3 by kernel_rfl] at hl
 unfold Sides
 rw [hv3]
 obtain ⟨l⟩ := cs3
 match l, hl with
 | [c0, c1, c2], _ =>
  obtain ⟨y0, y1, y2, n, hx, h0, h1, h2⟩ := trod_array3 Tryz.underlying163 (by kernel_rfl) hd3
  obtain ⟨s0, e0, x0, -⟩ := DataW.trod_string Tryz.underlying9 h0
  obtain ⟨s1, e1, x1, -⟩ := DataW.trod_string Tryz.underlying9 h1
  obtain ⟨s2, e2, x2, -⟩ := DataW.trod_string Tryz.underlying9 h2
  subst x0 x1 x2
  simp only [Rows.laid_caulkworks_book_sides, Prod.mk.injEq, DataW.agg.injEq, List.cons.injEq, DataW.lit.injEq, Lit.string.injEq, and_true] at hx e0 e1 e2
  subst e0 e1 e2
  obtain ⟨⟨z0, z1, z2⟩, -⟩ := hx
  obtain ⟨⟨s0⟩⟩ := s0
  obtain ⟨⟨s1⟩⟩ := s1
  obtain ⟨⟨s2⟩⟩ := s2
  simp only at z0 z1 z2
  subst z0 z1 z2
  rfl
theorem c3 : Tryz.prog.cellsOf 3 = 1 := by kernel_rfl
theorem c4 : Tryz.prog.cellsOf 4 = 1 := by kernel_rfl
theorem c128 : Tryz.prog.cellsOf 128 = 2 := by kernel_rfl
section
variable {H : Type} {enc : TypeId × Value → H} {w : World} {base : Nat} {spare : Nat → Bool} {held : Bool}
theorem row_of {E : Type} (e0 : E) {P : E → Prop} {a : Addr} {len sz : Nat} {cell : E → Nat → Value} (hlen : len ≤ maxLen) (hs : 0 < sz) (hc : ∀ i, i < len → ∃ e : E, (∀ j, j < sz → w.cell? ((a.add (i * sz)).add j) = some (cell e j)) ∧ P e) :
  ∃ F : Nat → E, Row w (some a) len sz (fun i j => cell (F i) j) ∧ ∀ i, i < len → P (F i) := by
 have : ∀ i, ∃ e : E, i < len → (∀ j, j < sz → w.cell? ((a.add (i * sz)).add j) = some (cell e j)) ∧ P e := fun i => by
  by_cases hi : i < len
  ·obtain ⟨e, he⟩ := hc i hi
   exact ⟨e, fun _ => he⟩
  ·exact ⟨e0, fun h => absurd h hi⟩
 obtain ⟨F, hF⟩ := Classical.axiomOfChoice this
 have hp : 0 < len → a = ⟨a.block, a.off, none⟩ := fun h => by
  have := (hF 0 h).1 0 hs
  simp only [Nat.zero_mul] at this
  exact addr_plain (by simpa [Addr.add] using this)
 refine ⟨F, ⟨fun h => ?_, fun h => ?_, hlen, fun i hi j hj => ?_⟩, fun i hi => (hF i hi).2⟩
 ·rw [hp h]; rfl
 ·have := (hF 0 h).1 0 hs
  simp only [Nat.zero_mul] at this
  exact World.block_lt_of_cell? w a (by simpa [Addr.add] using this)
 ·have h1 := (hF i hi).1 j hj
  have h2 := hp (by omega)
  obtain ⟨b, o, s⟩ := a
  simp only [Addr.mk.injEq, true_and] at h2
  subst h2
  have e : ((⟨b, o, none⟩ : Addr).add (i * sz)).add j = ⟨b, o + i * sz + j, none⟩ := by unfold Addr.add; split <;> split <;> simp <;> omega
  rw [e] at h1
  exact h1
theorem open_rows {E : Type} (e0 : E) {P : E → Prop} {cell : E → Nat → Value} {t e sz : Nat} (ht : Tryz.prog.underlying t = some (.slice e)) (hsz : Tryz.prog.cellsOf e = sz) (h0 : 0 < sz)
  (hel : ∀ {n : Nat} {cs : List Value} {y : DataW H × List MemPlace}, DataW.trod enc Tryz.prog w base spare held n e cs = some y → ∃ x : E, (∀ j, j < sz → cs[j]? = some (cell x j)) ∧ P x)
  {n : Nat} {v : Value} {y : DataW H × List MemPlace} (h : DataW.trod enc Tryz.prog w base spare held n t [v] = some y) : ∃ oa k c, ∃ F : Nat → E, v = .slice oa k c ∧ k ≤ c ∧ Row w oa k sz (fun i j => cell (F i) j) ∧ ∀ i, i < k → P (F i) := by
 rcases Go.Deep.open_slice ht h with ⟨hcs, _⟩ | ⟨a, len, cap, m, k, D, Pl, hcs, _, hl, hm, hmm, _, hi⟩
 ·simp only [List.cons.injEq, and_true] at hcs
  exact ⟨none, 0, 0, fun _ => e0, hcs, Nat.le_refl _, row_none _ _ _, fun i hi => by omega⟩
 ·simp only [List.cons.injEq, and_true] at hcs
  have hle : len ≤ m := by rw [hmm]; split <;> omega
  obtain ⟨F, hF, hP⟩ := row_of (w := w) (a := a) (len := len) (sz := sz) (cell := cell) (P := P) e0 (by omega) h0 fun i hlt => by
   obtain ⟨cs', hc, ht⟩ := hi i (by omega)
   obtain ⟨x, hx, px⟩ := hel ht
   rw [hsz] at hc
   obtain ⟨_, _, hat⟩ := World.cells?_some hc
   exact ⟨x, fun j hj => (hat j hj).trans (hx j hj), px⟩
  exact ⟨some a, len, cap, F, hcs, hl, hF, hP⟩
theorem one_int {n : Nat} {cs : List Value} {k : Nat} {xs : List (DataW H × List MemPlace)} (hk : k < xs.length) (h : DataW.trod enc Tryz.prog w base spare held n 3 cs = xs[k]?) : ∃ z, cs = [.int .i64 z] := by
 rw [List.getElem?_eq_getElem hk] at h
 obtain ⟨z, hz, _⟩ := DataW.trod_int Tryz.underlying3 h
 exact ⟨z, hz⟩
theorem one_bool {n : Nat} {cs : List Value} {k : Nat} {xs : List (DataW H × List MemPlace)} (hk : k < xs.length) (h : DataW.trod enc Tryz.prog w base spare held n 4 cs = xs[k]?) : ∃ z, cs = [.bool z] := by
 rw [List.getElem?_eq_getElem hk] at h
 obtain ⟨z, hz, _⟩ := DataW.trod_bool Tryz.underlying4 h
 exact ⟨z, hz⟩
theorem two_ints {n : Nat} {a b : Value} {k : Nat} {xs : List (DataW H × List MemPlace)} (hk : k < xs.length) (h : DataW.trod enc Tryz.prog w base spare held n 128 [a, b] = xs[k]?) : ∃ y z, a = .int .i64 y ∧ b = .int .i64 z := by
 rw [List.getElem?_eq_getElem hk] at h
 obtain ⟨ys, m, _, _, _, hl, hf⟩ := DataW.trod_struct Tryz.underlying128 h
 have h0 := hf 0 _ rfl
 have h1 := hf 1 _ rfl
 simp only [List.getElem_toArray, List.getElem_cons_zero, List.getElem_cons_succ, c3, List.drop_zero, List.drop_succ_cons, List.take_succ_cons, List.take_zero] at h0 h1
 obtain ⟨y, hy⟩ := one_int (by rw [hl]; decide) h0
 obtain ⟨z, hz⟩ := one_int (by rw [hl]; decide) h1
 simp only [List.cons.injEq, and_true] at hy hz
 exact ⟨y, z, hy, hz⟩
theorem int_at {n : Nat} {cs : List Value} {y : DataW H × List MemPlace} (h : DataW.trod enc Tryz.prog w base spare held n 3 cs = some y) : ∃ x : Int, (∀ j, j < 1 → cs[j]? = some ((fun (x : Int) (_ : Nat) => Value.int .i64 x) x j)) ∧ True := by
 obtain ⟨z, hz, _⟩ := DataW.trod_int Tryz.underlying3 h
 subst hz
 exact ⟨z, fun j hj => by obtain rfl : j = 0 := (by omega); rfl, trivial⟩
set_option maxRecDepth 100000 in
theorem sea_at {n : Nat} {cs : List Value} {y : DataW H × List MemPlace} (h : DataW.trod enc Tryz.prog w base spare held n 142 cs = some y) : ∃ x : Sea, (∀ j, j < 3 → cs[j]? = some (Sea.cell x j)) ∧ True := by
 obtain ⟨ys, m, _, _, hcl, hl, hf⟩ := DataW.trod_struct Tryz.underlying142 h
 rw [show Tryz.prog.cellsOf 142 = 3 by kernel_rfl] at hcl
 match cs, hcl with
 | [u0, u1, u2], _ =>
  have h0 := hf 0 _ rfl
  have h1 := hf 1 _ rfl
  have h2 := hf 2 _ rfl
  simp only [List.getElem_toArray, List.getElem_cons_zero, List.getElem_cons_succ, c3, List.drop_zero, List.drop_succ_cons, List.take_succ_cons, List.take_zero] at h0 h1 h2
  obtain ⟨x0, e0⟩ := one_int (by rw [hl]; decide) h0
  simp only [List.cons.injEq, and_true] at e0
  obtain ⟨x1, e1⟩ := one_int (by rw [hl]; decide) h1
  simp only [List.cons.injEq, and_true] at e1
  obtain ⟨x2, e2⟩ := one_int (by rw [hl]; decide) h2
  simp only [List.cons.injEq, and_true] at e2
  subst e0 e1 e2
  refine ⟨⟨x0, x1, x2⟩, fun j hj => ?_, trivial⟩
  obtain rfl | rfl | rfl : j = 0 ∨ j = 1 ∨ j = 2 := by omega
  all_goals rfl
set_option maxRecDepth 100000 in
theorem sou_at {n : Nat} {cs : List Value} {y : DataW H × List MemPlace} (h : DataW.trod enc Tryz.prog w base spare held n 144 cs = some y) : ∃ x : Sou, (∀ j, j < 4 → cs[j]? = some (Sou.cell x j)) ∧ True := by
 obtain ⟨ys, m, _, _, hcl, hl, hf⟩ := DataW.trod_struct Tryz.underlying144 h
 rw [show Tryz.prog.cellsOf 144 = 4 by kernel_rfl] at hcl
 match cs, hcl with
 | [u0, u1, u2, u3], _ =>
  have h0 := hf 0 _ rfl
  have h1 := hf 1 _ rfl
  have h2 := hf 2 _ rfl
  simp only [List.getElem_toArray, List.getElem_cons_zero, List.getElem_cons_succ, c3, c128, List.drop_zero, List.drop_succ_cons, List.take_succ_cons, List.take_zero] at h0 h1 h2
  obtain ⟨x0, e0⟩ := one_int (by rw [hl]; decide) h0
  simp only [List.cons.injEq, and_true] at e0
  obtain ⟨x1, e1⟩ := one_int (by rw [hl]; decide) h1
  simp only [List.cons.injEq, and_true] at e1
  obtain ⟨x2, x3, e2, e3⟩ := two_ints (by rw [hl]; decide) h2
  subst e0 e1 e2 e3
  refine ⟨⟨x0, x1, x2, x3⟩, fun j hj => ?_, trivial⟩
  obtain rfl | rfl | rfl | rfl : j = 0 ∨ j = 1 ∨ j = 2 ∨ j = 3 := by omega
  all_goals rfl
set_option maxRecDepth 100000 in
theorem pot_at {n : Nat} {cs : List Value} {y : DataW H × List MemPlace} (h : DataW.trod enc Tryz.prog w base spare held n 147 cs = some y) : ∃ x : Pot, (∀ j, j < 3 → cs[j]? = some (Pot.cell x j)) ∧ True := by
 obtain ⟨ys, m, _, _, hcl, hl, hf⟩ := DataW.trod_struct Tryz.underlying147 h
 rw [show Tryz.prog.cellsOf 147 = 3 by kernel_rfl] at hcl
 match cs, hcl with
 | [u0, u1, u2], _ =>
  have h0 := hf 0 _ rfl
  have h1 := hf 1 _ rfl
  have h2 := hf 2 _ rfl
  simp only [List.getElem_toArray, List.getElem_cons_zero, List.getElem_cons_succ, c3, List.drop_zero, List.drop_succ_cons, List.take_succ_cons, List.take_zero] at h0 h1 h2
  obtain ⟨x0, e0⟩ := one_int (by rw [hl]; decide) h0
  simp only [List.cons.injEq, and_true] at e0
  obtain ⟨x1, e1⟩ := one_int (by rw [hl]; decide) h1
  simp only [List.cons.injEq, and_true] at e1
  obtain ⟨x2, e2⟩ := one_int (by rw [hl]; decide) h2
  simp only [List.cons.injEq, and_true] at e2
  subst e0 e1 e2
  refine ⟨⟨x0, x1, x2⟩, fun j hj => ?_, trivial⟩
  obtain rfl | rfl | rfl : j = 0 ∨ j = 1 ∨ j = 2 := by omega
  all_goals rfl
set_option maxRecDepth 100000 in
theorem mark_at {n : Nat} {cs : List Value} {y : DataW H × List MemPlace} (h : DataW.trod enc Tryz.prog w base spare held n 149 cs = some y) : ∃ x : IMark, (∀ j, j < 3 → cs[j]? = some (IMark.cell x j)) ∧ True := by
 obtain ⟨ys, m, _, _, hcl, hl, hf⟩ := DataW.trod_struct Tryz.underlying149 h
 rw [show Tryz.prog.cellsOf 149 = 3 by kernel_rfl] at hcl
 match cs, hcl with
 | [u0, u1, u2], _ =>
  have h0 := hf 0 _ rfl
  have h1 := hf 1 _ rfl
  have h2 := hf 2 _ rfl
  simp only [List.getElem_toArray, List.getElem_cons_zero, List.getElem_cons_succ, c3, List.drop_zero, List.drop_succ_cons, List.take_succ_cons, List.take_zero] at h0 h1 h2
  obtain ⟨x0, e0⟩ := one_int (by rw [hl]; decide) h0
  simp only [List.cons.injEq, and_true] at e0
  obtain ⟨x1, e1⟩ := one_int (by rw [hl]; decide) h1
  simp only [List.cons.injEq, and_true] at e1
  obtain ⟨x2, e2⟩ := one_int (by rw [hl]; decide) h2
  simp only [List.cons.injEq, and_true] at e2
  subst e0 e1 e2
  refine ⟨⟨x0, x1, x2⟩, fun j hj => ?_, trivial⟩
  obtain rfl | rfl | rfl : j = 0 ∨ j = 1 ∨ j = 2 := by omega
  all_goals rfl
set_option maxRecDepth 100000 in
theorem claim_at {n : Nat} {cs : List Value} {y : DataW H × List MemPlace} (h : DataW.trod enc Tryz.prog w base spare held n 82 cs = some y) : ∃ x : IClaim, (∀ j, j < 3 → cs[j]? = some (IClaim.cell x j)) ∧ True := by
 obtain ⟨ys, m, _, _, hcl, hl, hf⟩ := DataW.trod_struct Tryz.underlying82 h
 rw [show Tryz.prog.cellsOf 82 = 3 by kernel_rfl] at hcl
 match cs, hcl with
 | [u0, u1, u2], _ =>
  have h0 := hf 0 _ rfl
  have h1 := hf 1 _ rfl
  have h2 := hf 2 _ rfl
  simp only [List.getElem_toArray, List.getElem_cons_zero, List.getElem_cons_succ, c3, c4, List.drop_zero, List.drop_succ_cons, List.take_succ_cons, List.take_zero] at h0 h1 h2
  obtain ⟨x0, e0⟩ := one_int (by rw [hl]; decide) h0
  simp only [List.cons.injEq, and_true] at e0
  obtain ⟨x1, e1⟩ := one_int (by rw [hl]; decide) h1
  simp only [List.cons.injEq, and_true] at e1
  obtain ⟨x2, e2⟩ := one_bool (by rw [hl]; decide) h2
  simp only [List.cons.injEq, and_true] at e2
  subst e0 e1 e2
  refine ⟨⟨x0, x1, x2⟩, fun j hj => ?_, trivial⟩
  obtain rfl | rfl | rfl : j = 0 ∨ j = 1 ∨ j = 2 := by omega
  all_goals rfl
set_option maxRecDepth 100000 in
theorem wseam_at {n : Nat} {cs : List Value} {y : DataW H × List MemPlace} (h : DataW.trod enc Tryz.prog w base spare held n 126 cs = some y) : ∃ x : (Nat → Int), (∀ j, j < 2 → cs[j]? = some ((fun x j => Value.int .i64 (x j)) x j)) ∧ True := by
 obtain ⟨ys, m, _, _, hcl, hl, hf⟩ := DataW.trod_struct Tryz.underlying126 h
 rw [show Tryz.prog.cellsOf 126 = 2 by kernel_rfl] at hcl
 match cs, hcl with
 | [u0, u1], _ =>
  have h0 := hf 0 _ rfl
  have h1 := hf 1 _ rfl
  simp only [List.getElem_toArray, List.getElem_cons_zero, List.getElem_cons_succ, c3, List.drop_zero, List.drop_succ_cons, List.take_succ_cons, List.take_zero] at h0 h1
  obtain ⟨x0, e0⟩ := one_int (by rw [hl]; decide) h0
  simp only [List.cons.injEq, and_true] at e0
  obtain ⟨x1, e1⟩ := one_int (by rw [hl]; decide) h1
  simp only [List.cons.injEq, and_true] at e1
  subst e0 e1
  refine ⟨fun j => if j = 0 then x0 else x1, fun j hj => ?_, trivial⟩
  obtain rfl | rfl : j = 0 ∨ j = 1 := by omega
  all_goals rfl
set_option maxRecDepth 100000 in
theorem wtick_at {n : Nat} {cs : List Value} {y : DataW H × List MemPlace} (h : DataW.trod enc Tryz.prog w base spare held n 130 cs = some y) : ∃ x : (Nat → Int), (∀ j, j < 8 → cs[j]? = some ((fun x j => Value.int .i64 (x j)) x j)) ∧ True := by
 obtain ⟨ys, m, _, _, hcl, hl, hf⟩ := DataW.trod_struct Tryz.underlying130 h
 rw [show Tryz.prog.cellsOf 130 = 8 by kernel_rfl] at hcl
 match cs, hcl with
 | [u0, u1, u2, u3, u4, u5, u6, u7], _ =>
  have h0 := hf 0 _ rfl
  have h1 := hf 1 _ rfl
  have h2 := hf 2 _ rfl
  have h3 := hf 3 _ rfl
  have h4 := hf 4 _ rfl
  simp only [List.getElem_toArray, List.getElem_cons_zero, List.getElem_cons_succ, c3, c128, List.drop_zero, List.drop_succ_cons, List.take_succ_cons, List.take_zero] at h0 h1 h2 h3 h4
  obtain ⟨x0, e0⟩ := one_int (by rw [hl]; decide) h0
  simp only [List.cons.injEq, and_true] at e0
  obtain ⟨x1, e1⟩ := one_int (by rw [hl]; decide) h1
  simp only [List.cons.injEq, and_true] at e1
  obtain ⟨x2, x3, e2, e3⟩ := two_ints (by rw [hl]; decide) h2
  obtain ⟨x4, x5, e4, e5⟩ := two_ints (by rw [hl]; decide) h3
  obtain ⟨x6, x7, e6, e7⟩ := two_ints (by rw [hl]; decide) h4
  subst e0 e1 e2 e3 e4 e5 e6 e7
  refine ⟨fun j => if j = 0 then x0 else if j = 1 then x1 else if j = 2 then x2 else if j = 3 then x3 else if j = 4 then x4 else if j = 5 then x5 else if j = 6 then x6 else x7, fun j hj => ?_, trivial⟩
  obtain rfl | rfl | rfl | rfl | rfl | rfl | rfl | rfl : j = 0 ∨ j = 1 ∨ j = 2 ∨ j = 3 ∨ j = 4 ∨ j = 5 ∨ j = 6 ∨ j = 7 := by omega
  all_goals rfl
structure Sl (E : Type) where
 p : Option Addr
 l : Nat
 c : Nat
 F : Nat → E
theorem ints_at {n : Nat} {cs : List Value} {y : DataW H × List MemPlace} (h : DataW.trod enc Tryz.prog w base spare held n 26 cs = some y) : ∃ x : Sl Int, (∀ j, j < 1 → cs[j]? = some ((fun (x : Sl Int) (_ : Nat) => Value.slice x.p x.l x.c) x j)) ∧ IntsAt w x.p x.l x.F := by
 obtain ⟨v, rfl⟩ : ∃ v, cs = [v] := by
  rcases Go.Deep.open_slice Tryz.underlying26 h with ⟨hcs, _⟩ | ⟨a, len, cap, m, k, D, Pl, hcs, _⟩
  ·exact ⟨_, hcs⟩
  ·exact ⟨_, hcs⟩
 obtain ⟨oa, k, c, F, rfl, hc, hR, -⟩ := open_rows (0 : Int) Tryz.underlying26 c3 (by omega) int_at h
 exact ⟨⟨oa, k, c, F⟩, fun j hj => by obtain rfl : j = 0 := (by omega); rfl, hR⟩
theorem marks_at {n : Nat} {cs : List Value} {y : DataW H × List MemPlace} (h : DataW.trod enc Tryz.prog w base spare held n 85 cs = some y) : ∃ x : Sl IMark, (∀ j, j < 1 → cs[j]? = some ((fun (x : Sl IMark) (_ : Nat) => Value.slice x.p x.l x.c) x j)) ∧ MarksAt w x.p x.l x.F := by
 obtain ⟨v, rfl⟩ : ∃ v, cs = [v] := by
  rcases Go.Deep.open_slice Tryz.underlying85 h with ⟨hcs, _⟩ | ⟨a, len, cap, m, k, D, Pl, hcs, _⟩
  ·exact ⟨_, hcs⟩
  ·exact ⟨_, hcs⟩
 obtain ⟨oa, k, c, F, rfl, hc, hR, -⟩ := open_rows (⟨0, 0, 0⟩ : IMark) Tryz.underlying85 (by kernel_rfl) (by omega) mark_at h
 exact ⟨⟨oa, k, c, F⟩, fun j hj => by obtain rfl : j = 0 := (by omega); rfl, hR⟩
set_option maxRecDepth 100000 in
theorem open_hull {r : Reach} {b0 : Nat} {v : Value} {d : DataW H} {p : List MemPlace} (hv : Value.okWide Tryz.prog w r b0 25 v) (h : DataW.Trod enc Tryz.prog w base spare held 25 v d p) :
  ∃ sa sn sc ua un uc S U, v = .agg #[.slice sa sn sc, .slice ua un uc] ∧ SeasAt w sa sn S ∧ SousAt w ua un U := by
 obtain ⟨v0, v1, y0, y1, n, rfl, _, _, h0, h1⟩ := Go.Joins.open_agg2 Tryz.underlying25 (by kernel_rfl) (by kernel_rfl) hv h
 obtain ⟨sa, sn, sc, S, rfl, -, hS, -⟩ := open_rows (⟨0, 0, 0⟩ : Sea) Tryz.underlying22 (by kernel_rfl) (by omega) sea_at h0
 obtain ⟨ua, un, uc, U, rfl, -, hU, -⟩ := open_rows (⟨0, 0, 0, 0⟩ : Sou) Tryz.underlying23 (by kernel_rfl) (by omega) sou_at h1
 exact ⟨sa, sn, sc, ua, un, uc, S, U, rfl, hS, hU⟩
set_option maxRecDepth 100000 in
theorem u8_bd {n : Int} (h : (Lit.int .u8 n).wf = true) : 0 ≤ n ∧ n ≤ 255 := by
  simp [Lit.wf, IntKind.min, IntKind.max, IntKind.signed, IntKind.bits] at h
  omega
set_option maxRecDepth 100000 in
theorem open_wages {r : Reach} {b0 : Nat} {v : Value} {d : DataW H} {p : List MemPlace} (hv : Value.okWide Tryz.prog w r b0 38 v) (h : DataW.Trod enc Tryz.prog w base spare held 38 v d p) :
  ∃ cr sa sn sc ta tn tc S T, v = .agg #[.int .i64 cr, .slice sa sn sc, .slice ta tn tc] ∧ NumsAt w sa sn 2 S ∧ NumsAt w ta tn 8 T := by
 obtain ⟨v0, v1, v2, y0, y1, y2, n, rfl, _, _, h0, h1, h2⟩ := Go.Joins.open_agg3 Tryz.underlying38 (by kernel_rfl) (by kernel_rfl) hv h
 obtain ⟨cr, e0, _⟩ := DataW.trod_int Tryz.underlying3 h0
 obtain ⟨sa, sn, sc, S, rfl, -, hS, -⟩ := open_rows (fun _ => 0 : Nat → Int) Tryz.underlying35 (by kernel_rfl) (by omega) wseam_at h1
 obtain ⟨ta, tn, tc, T, rfl, -, hT, -⟩ := open_rows (fun _ => 0 : Nat → Int) Tryz.underlying36 (by kernel_rfl) (by omega) wtick_at h2
 simp only [List.cons.injEq, and_true] at e0
 exact ⟨cr, sa, sn, sc, ta, tn, tc, S, T, by rw [e0], hS, hT⟩
theorem array5 {cs : Array Value} (h : cs.size = 5) : ∃ a b c d e, cs = #[a, b, c, d, e] := by
 obtain ⟨l⟩ := cs
 match l, h with
 | [a, b, c, d, e], _ => exact ⟨a, b, c, d, e, rfl⟩
set_option maxRecDepth 100000 in
theorem open_pitch {r : Reach} {b0 : Nat} {v : Value} {d : DataW H} {p : List MemPlace} (hv : Value.okWide Tryz.prog w r b0 29 v) (h : DataW.Trod enc Tryz.prog w base spare held 29 v d p) :
  ∃ hr fr pe fa qa fn fc qn qc F Q, v = .agg #[.int .i64 hr, .int .i64 fr, .int .i64 pe, .slice fa fn fc, .slice qa qn qc] ∧ IntsAt w fa fn F ∧ PotsAt w qa qn Q := by
 obtain ⟨cs, rfl, hsz⟩ := okWide_struct Tryz.underlying29 hv
 obtain ⟨a0, a1, a2, a3, a4, rfl⟩ := array5 (hsz.trans (by kernel_rfl))
 obtain ⟨fuel, hf0⟩ := h
 obtain ⟨ys, m, _, _, _, hl, hf⟩ := DataW.trod_struct Tryz.underlying29 hf0
 have h0 := hf 0 _ rfl
 have h1 := hf 1 _ rfl
 have h2 := hf 2 _ rfl
 have h3 := hf 3 _ rfl
 have h4 := hf 4 _ rfl
 simp only [Value.cells, List.getElem_toArray, List.getElem_cons_zero, List.getElem_cons_succ, c3, show Tryz.prog.cellsOf 26 = 1 by kernel_rfl, show Tryz.prog.cellsOf 27 = 1 by kernel_rfl, List.drop_zero, List.drop_succ_cons, List.take_succ_cons, List.take_zero] at h0 h1 h2 h3 h4
 obtain ⟨x0, e0⟩ := one_int (by rw [hl]; decide) h0
 obtain ⟨x1, e1⟩ := one_int (by rw [hl]; decide) h1
 obtain ⟨x2, e2⟩ := one_int (by rw [hl]; decide) h2
 simp only [List.cons.injEq, and_true] at e0 e1 e2
 subst e0 e1 e2
 rw [List.getElem?_eq_getElem (by rw [hl]; decide)] at h3 h4
 obtain ⟨fa, fn, fc, F, rfl, -, hF, -⟩ := open_rows (0 : Int) Tryz.underlying26 c3 (by omega) int_at h3
 obtain ⟨qa, qn, qc, Q, rfl, -, hQ, -⟩ := open_rows (⟨0, 0, 0⟩ : Pot) Tryz.underlying27 (by kernel_rfl) (by omega) pot_at h4
 exact ⟨x0, x1, x2, fa, qa, fn, fc, qn, qc, F, Q, rfl, hF, hQ⟩
set_option maxRecDepth 100000 in
theorem open_irons {r : Reach} {b0 : Nat} {v : Value} {d : DataW H} {p : List MemPlace} (hv : Value.okWide Tryz.prog w r b0 34 v) (h : DataW.Trod enc Tryz.prog w base spare held 34 v d p) :
  ∃ x oa ma sa ca oc mc sc cc op sp ok sk, v = .agg #[.int .i64 x.f, .slice oa x.on oc, .slice ma x.mn mc, .slice sa x.sn sc, .slice ca x.cn cc] ∧ IronsAt x oa ma sa ca oc mc sc cc op sp ok sk w := by
 obtain ⟨cs, rfl, hsz⟩ := okWide_struct Tryz.underlying34 hv
 obtain ⟨a0, a1, a2, a3, a4, rfl⟩ := array5 (hsz.trans (by kernel_rfl))
 obtain ⟨fuel, hf0⟩ := h
 obtain ⟨ys, m, _, _, _, hl, hf⟩ := DataW.trod_struct Tryz.underlying34 hf0
 have h0 := hf 0 _ rfl
 have h1 := hf 1 _ rfl
 have h2 := hf 2 _ rfl
 have h3 := hf 3 _ rfl
 have h4 := hf 4 _ rfl
 simp only [Value.cells, List.getElem_toArray, List.getElem_cons_zero, List.getElem_cons_succ, c3, show Tryz.prog.cellsOf 26 = 1 by kernel_rfl, show Tryz.prog.cellsOf 30 = 1 by kernel_rfl, show Tryz.prog.cellsOf 31 = 1 by kernel_rfl, show Tryz.prog.cellsOf 32 = 1 by kernel_rfl, List.drop_zero, List.drop_succ_cons, List.take_succ_cons, List.take_zero] at h0 h1 h2 h3 h4
 obtain ⟨x0, e0⟩ := one_int (by rw [hl]; decide) h0
 simp only [List.cons.injEq, and_true] at e0
 subst e0
 rw [List.getElem?_eq_getElem (by rw [hl]; decide)] at h1 h2 h3 h4
 obtain ⟨oa, on, oc, O, rfl, -, hO, pO⟩ := open_rows (P := fun x : Sl Int => IntsAt w x.p x.l x.F) (⟨none, 0, 0, fun _ => 0⟩ : Sl Int) Tryz.underlying30 (by kernel_rfl) (by omega) ints_at h1
 obtain ⟨ma, mn, mc, M, rfl, -, hM, -⟩ := open_rows (0 : Int) Tryz.underlying26 c3 (by omega) int_at h2
 obtain ⟨sa, sn, sc, K, rfl, -, hK, pK⟩ := open_rows (P := fun x : Sl IMark => MarksAt w x.p x.l x.F) (⟨none, 0, 0, fun _ => ⟨0, 0, 0⟩⟩ : Sl IMark) Tryz.underlying31 (by kernel_rfl) (by omega) marks_at h3
 obtain ⟨ca, cn, cc, D, rfl, -, hD, -⟩ := open_rows (⟨0, 0, false⟩ : IClaim) Tryz.underlying32 (by kernel_rfl) (by omega) claim_at h4
 exact ⟨⟨x0, on, fun i => (O i).l, fun i => (O i).F, mn, M, sn, fun i => (K i).l, fun i => (K i).F, cn, D⟩, oa, ma, sa, ca, oc, mc, sc, cc, fun i => (O i).p, fun i => (K i).p, fun i => (O i).c, fun i => (K i).c, rfl, ⟨hO, pO, hM, hK, pK, hD⟩⟩
end
end Go.Proofs.YtclbmlmlhiiaeaaGreatDoor.fr
