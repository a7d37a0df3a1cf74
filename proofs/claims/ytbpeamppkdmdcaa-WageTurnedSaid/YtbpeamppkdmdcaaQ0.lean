/-
  Several rows of structs that the call has made, beside boxes that it writes.
-/
import Derived.Test.YtbpeamppkdmdcaaG10
import Derived.Test.YtbpeamppkdmdcaaE1
import Derived.Deep.CutRange
import Derived.Deep.AppendLies
namespace Go.Proofs.Ytbpeamppkdmdcaa
open Go.RowKit

/-- All that was there is as it was, but for some blocks. -/
structure Out (D : List Nat) (w w' : World) : Prop where
  os : w'.os = w.os
  tape : w'.tape = w.tape
  output : w'.output = w.output
  size : w.heap.size ≤ w'.heap.size
  block : ∀ k, k < w.heap.size → k ∉ D → w'.heap[k]? = w.heap[k]?
section
variable {D : List Nat} {w w1 w2 : World}
theorem Out.refl (D : List Nat) (w : World) : Out D w w := ⟨rfl, rfl, rfl, Nat.le_refl _, fun _ _ _ => rfl⟩
theorem Out.below (h : Out D w w1) (hb : Below w1.heap.size w1 w2) : Out D w w2 :=
  ⟨hb.os.trans h.os, hb.tape.trans h.tape, hb.output.trans h.output, Nat.le_trans h.size hb.size, fun k hk hd => (hb.block k (by have := h.size; omega)).trans (h.block k hk hd)⟩
theorem grownBy_cell (w : World) (p : Nat) (i : Nat) (v : Value) : w.grownBy (w.setCell ⟨p, i, none⟩ v) (some p) :=
  ⟨rfl, rfl, rfl, by rw [size_setCell]; exact Nat.le_refl _, fun k _ hne => Below.heap_setCell _ _ _ _ (fun e => hne (by rw [e]))⟩
theorem Out.grown {row : Option Nat} (h : Out D w w1) (hg : w1.grownBy w2 row) (hr : ∀ k, row = some k → k ∈ D ∨ w.heap.size ≤ k) : Out D w w2 :=
  ⟨hg.os.trans h.os, hg.tape.trans h.tape, hg.output.trans h.output, Nat.le_trans h.size hg.size, fun k hk hd => (hg.block k (by have := h.size; omega) (fun e => by rcases hr k e.symm with h1 | h1; exact hd h1; omega)).trans (h.block k hk hd)⟩
theorem Out.set (h : Out D w w1) (p i : Nat) (v : Value) (hp : p ∈ D ∨ w.heap.size ≤ p) : Out D w (w1.setCell ⟨p, i, none⟩ v) :=
  h.grown (grownBy_cell _ _ _ _) (fun k e => by cases e; exact hp)
theorem Out.to_below (h : Out D w w1) {B : Nat} (hB : ∀ d ∈ D, B ≤ d) (hs : B ≤ w.heap.size) : Below B w w1 :=
  ⟨h.os, h.tape, h.output, h.size, fun k hk => h.block k (by omega) (fun e => by have := hB k e; omega)⟩
theorem Row.out {oa : Option Addr} {n sz : Nat} {cell : Nat → Nat → Value} (h : Row w oa n sz cell) (ho : Out D w w1) (hd : 0 < n → blk oa ∉ D) : Row w1 oa n sz cell :=
  ⟨h.plain, fun hn => Nat.lt_of_lt_of_le (h.old hn) ho.size, h.small, fun i hi j hj => (World.cell?_of_block (ho.block _ (h.old (by omega)) (hd (by omega)))).trans (h.cells i hi j hj)⟩
theorem BoxAt.out {b : Nat} {x : Array Value} {t : TypeId} (h : BoxAt w b x t) (ho : Out D w w1) (hd : b ∉ D) : BoxAt w1 b x t :=
  (ho.block _ (lt_of_heap h) hd).trans h
end

structure OwnT (E : TypeId) (sz : Nat) (D : List Nat) (w0 : World) (KB : List (Nat × Array Value × TypeId)) (VS : List (Value × Nat × List Value)) (W : World) : Prop where
  out : Out D w0 W
  box : ∀ e ∈ KB, BoxAt W e.1 e.2.1 e.2.2
  own : ∀ e ∈ VS, W.ownsRow w0.heap.size E sz e.1 e.2.1 e.2.2
  far : ∀ e ∈ VS, ∀ b ∈ KB, e.1.ownBlock ≠ some b.1
  dis : ∀ (i j : Nat) (e f : Value × Nat × List Value), VS[i]? = some e → VS[j]? = some f → i ≠ j → e.1.ownBlock = none ∨ e.1.ownBlock ≠ f.1.ownBlock

section
variable {E : TypeId} {sz : Nat} {D : List Nat} {w0 W W2 : World} {KB KB' : List (Nat × Array Value × TypeId)} {VS : List (Value × Nat × List Value)}
theorem OwnT.lt (h : OwnT E sz D w0 KB VS W) {e : Value × Nat × List Value} (he : e ∈ VS) {k : Nat} (hk : e.1.ownBlock = some k) : w0.heap.size ≤ k ∧ k < W.heap.size := (h.own e he).lt k hk
theorem OwnT.grow (h : OwnT E sz D w0 KB VS W) (hb : Below W.heap.size W W2) : OwnT E sz D w0 KB VS W2 where
  out := h.out.below hb
  box := fun e he => (h.box e he).grow hb
  own := fun e he => (h.own e he).kept (row := none) ⟨hb.os, hb.tape, hb.output, hb.size, fun k hk _ => hb.block k hk⟩ (by cases e.1.ownBlock <;> simp)
  far := h.far
  dis := h.dis
theorem OwnT.drew (h : OwnT E sz D w0 KB VS W) : OwnT E sz D w0 KB VS W.drew := h.grow (Below.drew (Below.refl _ _))
theorem OwnT.new (h : OwnT E sz D w0 KB VS W) (x : Array Value) (t : TypeId) : OwnT E sz D w0 ((W.heap.size, x, t) :: KB) VS (W.alloc (.cells x t)) := by
  have g := h.grow ((Below.refl W.heap.size W).alloc (Nat.le_refl _) (.cells x t))
  refine ⟨g.out, fun e he => ?_, g.own, fun e he b hb => ?_, g.dis⟩
  · rcases List.mem_cons.1 he with rfl | he
    · exact heap_alloc_new W _
    · exact g.box e he
  · rcases List.mem_cons.1 hb with rfl | hb
    · intro hk
      have := (h.lt he hk).2
      dsimp only at this
      omega
    · exact g.far e he b hb
theorem OwnT.sub (h : OwnT E sz D w0 KB VS W) (hs : ∀ e ∈ KB', e ∈ KB) : OwnT E sz D w0 KB' VS W :=
  ⟨h.out, fun e he => h.box e (hs e he), h.own, fun e he b hb => h.far e he b (hs b hb), h.dis⟩
/-- A cell of a box is written. -/
theorem OwnT.set {b : Nat} {x : Array Value} {t : TypeId} (h : OwnT E sz D w0 ((b, x, t) :: KB) VS W) (i : Nat) (v : Value) (hb : b ∈ D ∨ w0.heap.size ≤ b) (hne : ∀ e ∈ KB, e.1 ≠ b) :
    OwnT E sz D w0 ((b, x.setIfInBounds i v, t) :: KB) VS (W.setCell ⟨b, i, none⟩ v) where
  out := h.out.set b i v hb
  box := fun e he => by
    rcases List.mem_cons.1 he with rfl | he
    · exact (h.box (b, x, t) List.mem_cons_self).store i v
    · exact (h.box e (List.mem_cons_of_mem _ he)).set _ _ (fun e1 => hne e he e1.symm)
  own := fun e he => (h.own e he).kept (grownBy_cell _ _ _ _) (.inr (h.far e he (b, x, t) List.mem_cons_self))
  far := fun e he b' hb' => by
    rcases List.mem_cons.1 hb' with rfl | hb'
    · exact h.far e he (b, x, t) List.mem_cons_self
    · exact h.far e he b' (List.mem_cons_of_mem _ hb')
  dis := h.dis
theorem OwnT.put (h : OwnT E sz D w0 KB VS W) {i n m : Nat} {v : Value} {xs ys : List Value} (hi : VS[i]? = some (v, n, xs)) {g cap : Nat}
    (hown : W2.ownsRow w0.heap.size E sz (.slice (some ⟨g, 0, none⟩) m cap) m ys) (hg : W.grownBy W2 v.ownBlock) (hat : v.ownBlock = some g ∨ g = W.heap.size) :
    OwnT E sz D w0 KB (VS.set i (.slice (some ⟨g, 0, none⟩) m cap, m, ys)) W2 := by
  have hmem : (v, n, xs) ∈ VS := List.mem_of_getElem? hi
  have hil : i < VS.length := (List.getElem?_eq_some_iff.1 hi).1
  have hob : (Value.slice (some ⟨g, 0, none⟩) m cap).ownBlock = some g := rfl
  have hcase : ∀ (j : Nat) (e : Value × Nat × List Value), (VS.set i (.slice (some ⟨g, 0, none⟩) m cap, m, ys))[j]? = some e → (j = i ∧ e = (.slice (some ⟨g, 0, none⟩) m cap, m, ys)) ∨ (j ≠ i ∧ VS[j]? = some e) := fun j e he => by
    rw [List.getElem?_set] at he
    by_cases hj : i = j
    · rw [if_pos hj, if_pos hil] at he
      exact .inl ⟨hj.symm, (Option.some.inj he).symm⟩
    · rw [if_neg hj] at he
      exact .inr ⟨fun x => hj x.symm, he⟩
  have hmem2 : ∀ e ∈ VS.set i (.slice (some ⟨g, 0, none⟩) m cap, m, ys), e = (.slice (some ⟨g, 0, none⟩) m cap, m, ys) ∨ ∃ j, j ≠ i ∧ VS[j]? = some e := fun e he => by
    obtain ⟨j, hj⟩ := List.mem_iff_getElem?.1 he
    rcases hcase j e hj with ⟨_, h1⟩ | ⟨h1, h2⟩
    · exact .inl h1
    · exact .inr ⟨j, h1, h2⟩
  have hnew : ∀ (j : Nat) (e : Value × Nat × List Value), j ≠ i → VS[j]? = some e → e.1.ownBlock ≠ some g := fun j e hj he hk => by
    rcases hat with h1 | h1
    · rcases h.dis j i e (v, n, xs) he hi hj with h2 | h2
      · rw [h2] at hk; cases hk
      · exact h2 (hk.trans h1.symm)
    · have := (h.lt (List.mem_of_getElem? he) hk).2
      omega
  refine ⟨h.out.grown hg (fun k hk => .inr (h.lt hmem hk).1), fun e he => (h.box e he).kept hg (fun x => h.far _ hmem e he x.symm), fun e he => ?_, fun e he b hb => ?_, fun a b e f ha hb hab => ?_⟩
  · rcases hmem2 e he with rfl | ⟨j, hj, hje⟩
    · exact hown
    · refine (h.own e (List.mem_of_getElem? hje)).kept hg ?_
      rcases h.dis j i e (v, n, xs) hje hi hj with h2 | h2
      · exact .inl h2
      · exact .inr h2
  · rcases hmem2 e he with rfl | ⟨j, hj, hje⟩
    · rw [hob]
      intro hk
      have hk := Option.some.inj hk
      rcases hat with h1 | h1
      · exact h.far _ hmem b hb (by rw [h1, hk])
      · have := lt_of_heap (h.box b hb)
        omega
    · exact h.far e (List.mem_of_getElem? hje) b hb
  · rcases hcase a e ha with ⟨rfl, rfl⟩ | ⟨ha1, ha2⟩
    · rcases hcase b f hb with ⟨rfl, rfl⟩ | ⟨hb1, hb2⟩
      · exact absurd rfl hab
      · right
        rw [hob]
        exact fun x => hnew b f hb1 hb2 x.symm
    · rcases hcase b f hb with ⟨rfl, rfl⟩ | ⟨hb1, hb2⟩
      · right
        rw [hob]
        exact hnew a e ha1 ha2
      · exact h.dis a b e f ha2 hb2 hab
/-- At the start: none of the rows has anything. -/
theorem OwnT.start (hbox : ∀ e ∈ KB, BoxAt w0 e.1 e.2.1 e.2.2) (hv : ∀ e ∈ VS, e = (.slice none 0 0, 0, [])) : OwnT E sz D w0 KB VS w0 :=
  ⟨Out.refl _ _, hbox, fun e he => by rw [hv e he]; exact World.ownsRow_nil w0 w0.heap.size E sz, fun e he b _ => by rw [hv e he]; simp [Value.ownBlock], fun i j e f he _ _ => .inl (by rw [hv e (List.mem_of_getElem? he)]; rfl)⟩
/-- 'append' of one element, which lies in a box, to one of the rows: a step of a drawn region. -/
theorem step_ownT {t : TypeId} {i0 : TypeInfo} {z : Value} {bytes : Nat} (hu : Try.prog.underlying t = some (.slice E)) (hi0 : Try.prog.info? E = some i0) (hz0 : i0.zero = some z) (hz1 : i0.size = sz) (hz2 : i0.bytes = bytes) (hz3 : z.cells.size = sz) (hsz : 0 < sz) (hby : bytes ≤ 64)
    {ops : Array Oper} {o : Oper} {a : Act} {K : Act → World → Prop} {Q : Exit → Act → World → Prop} {F : Prop} (h : OwnT E sz D w0 KB VS W) (hgd : o.guard = none) (s x : Operand)
    (ho : o.op = .call { callee := .builtin .append, args := #[s, x], argTypes := #[t, t] }) (i n : Nat) {v : Value} {xs : List Value} (hi : VS[i]? = some (v, n, xs)) (hs : a.eval s = v)
    {gb : Nat} {ys : Array Value} (hx : a.eval x = .slice (some ⟨gb, 0, none⟩) 1 1) (hb : (gb, ys, E) ∈ KB) (hl : ys.toList.length = sz) (hy : ∀ y ∈ ys.toList, y.oneCell' = true) (hn : n ≤ 1000)
    (k : ∀ g cap w', OwnT E sz D w0 KB (VS.set i (.slice (some ⟨g, 0, none⟩) (n + 1) cap, n + 1, xs ++ ys.toList)) w' → K (a.put o.dst (.slice (some ⟨g, 0, none⟩) (n + 1) cap)) w') :
    if Region.wanted o (yielded ops a.tmps) = true then Oper.wp Try.prog o a W K Q else F := by
  refine step_append_lies W hgd s x t ho w0.heap.size E i0 z sz bytes hu hi0 hz0 hz1 hz2 hz3 hsz v n xs hs (h.own _ (List.mem_of_getElem? hi)) ⟨gb, 0, none⟩ 1 1 ys.toList hx (by rw [hl]; omega)
    (World.news_of_block (h.box _ hb)) hy (by omega) (by unfold maxLen; omega) (by have := Nat.mul_le_mul (show n + 1 ≤ 1001 by omega) hby; omega) h.out.size _ rfl ?_
  intro g cap w' hown hg hat _
  exact k g cap w' (h.put (W2 := w') hi hown hg hat)
theorem wpList_ownT {t : TypeId} {i0 : TypeInfo} {z : Value} {bytes : Nat} (hu : Try.prog.underlying t = some (.slice E)) (hi0 : Try.prog.info? E = some i0) (hz0 : i0.zero = some z) (hz1 : i0.size = sz) (hz2 : i0.bytes = bytes) (hz3 : z.cells.size = sz) (hsz : 0 < sz) (hby : bytes ≤ 64)
    {ops : Array Oper} {rest : List Oper} {o : Oper} {a : Act} {Q : Exit → Act → World → Prop} (h : OwnT E sz D w0 KB VS W) (hgd : o.guard = none) (s x : Operand)
    (ho : o.op = .call { callee := .builtin .append, args := #[s, x], argTypes := #[t, t] }) (i n : Nat) {v : Value} {xs : List Value} (hi : VS[i]? = some (v, n, xs)) (hs : a.eval s = v)
    {gb : Nat} {ys : Array Value} (hx : a.eval x = .slice (some ⟨gb, 0, none⟩) 1 1) (hb : (gb, ys, E) ∈ KB) (hl : ys.toList.length = sz) (hy : ∀ y ∈ ys.toList, y.oneCell' = true) (hn : n ≤ 1000)
    (k : ∀ g cap w', OwnT E sz D w0 KB (VS.set i (.slice (some ⟨g, 0, none⟩) (n + 1) cap, n + 1, xs ++ ys.toList)) w' → wpList Try.prog ops Q rest (a.put o.dst (.slice (some ⟨g, 0, none⟩) (n + 1) cap)) w') :
    wpList Try.prog ops Q (o :: rest) a W :=
  wpList_plain hgd fun K hK => by
    have hw : Region.wanted o (yielded ops a.tmps) = true := by simp [Region.wanted, hgd]
    have h := step_ownT (ops := ops) (o := o) (a := a) (K := K) (Q := Q) (F := True) hu hi0 hz0 hz1 hz2 hz3 hsz hby h hgd s x ho i n hi hs hx hb hl hy hn fun g cap w' h1 => hK _ _ (k g cap w' h1)
    rwa [if_pos hw] at h
end

/-! Seams and tickets. -/
def Sm.cells (s : Sm) : Array Value := #[.int .i64 s.fat, .int .i64 s.rate]
def smVals (S : Nat → Sm) (n : Nat) : List Value := (List.range n).flatMap fun (i : Nat) => (S i).cells.toList
theorem smVals_succ (S : Nat → Sm) (n : Nat) : smVals S (n + 1) = smVals S n ++ (S n).cells.toList := by simp [smVals, List.range_succ]
theorem smVals_len (S : Nat → Sm) (n : Nat) : (smVals S n).length = n * 2 := by
  induction n with
  | zero => rfl
  | succ n ih => rw [smVals_succ, List.length_append, ih]; simp [Sm.cells]; omega
theorem Sm.cells_get (s : Sm) (j : Nat) (hj : j < 2) : s.cells.toList[j]? = some (s.cell j) := by
  obtain rfl | rfl : j = 0 ∨ j = 1 := by omega
  all_goals rfl
theorem smVals_get (S : Nat → Sm) (n : Nat) {i j : Nat} (hi : i < n) (hj : j < 2) : (smVals S n)[i * 2 + j]? = some ((S i).cell j) := by
  induction n with
  | zero => omega
  | succ n ih =>
    rw [smVals_succ]
    by_cases e : i = n
    · subst e
      rw [List.getElem?_append_right (by rw [smVals_len]; omega), smVals_len, show i * 2 + j - i * 2 = j by omega]
      exact (S i).cells_get j hj
    · rw [List.getElem?_append_left (by rw [smVals_len]; omega)]
      exact ih (by omega)
theorem own_seams {W : World} {base n : Nat} {v : Value} {S : Nat → Sm} (h : W.ownsRow base 52 2 v n (smVals S n)) (hn : n ≤ maxLen) : ∃ oa cap, v = .slice oa n cap ∧ SeamsAt W oa n S ∧ (0 < n → base ≤ blk oa) := by
  rcases h.2 with ⟨rfl, rfl⟩ | ⟨g, cap, cur, rfl, hb, hg, _, _, _, ht⟩
  · exact ⟨none, 0, rfl, ⟨fun h => by omega, fun h => by omega, hn, fun i hi => by omega⟩, fun h => by omega⟩
  · refine ⟨some ⟨g, 0, none⟩, cap, rfl, ⟨fun _ => rfl, fun _ => lt_of_heap hg, hn, fun i hi j hj => ?_⟩, fun _ => hb⟩
    show W.cell? ⟨g, 0 + i * 2 + j, none⟩ = _
    have h := smVals_get S n hi hj
    rw [← ht, List.getElem?_take, if_pos (by omega)] at h
    rw [cellAt hg, Nat.zero_add, ← h, Array.getElem?_toList]
theorem own_ticks {W : World} {base n : Nat} {v : Value} {T : Nat → Tk} (h : W.ownsRow base 58 8 v n (tkVals T n)) (hn : n ≤ maxLen) : ∃ oa cap, v = .slice oa n cap ∧ TicketsAt W oa n T ∧ (0 < n → base ≤ blk oa) := by
  rcases h.2 with ⟨rfl, rfl⟩ | ⟨g, cap, cur, rfl, hb, hg, _, _, _, ht⟩
  · exact ⟨none, 0, rfl, ⟨fun h => by omega, fun h => by omega, hn, fun i hi => by omega⟩, fun h => by omega⟩
  · refine ⟨some ⟨g, 0, none⟩, cap, rfl, ⟨fun _ => rfl, fun _ => lt_of_heap hg, hn, fun i hi j hj => ?_⟩, fun _ => hb⟩
    show W.cell? ⟨g, 0 + i * 8 + j, none⟩ = _
    have h := tkVals_get T n hi hj
    rw [← ht, List.getElem?_take, if_pos (by omega)] at h
    rw [cellAt hg, Nat.zero_add, ← h, Array.getElem?_toList]
theorem info52' : ∃ i, Try.prog.info? 52 = some i ∧ i.zero = some (.agg #[.int .i64 0, .int .i64 0]) ∧ i.size = 2 ∧ i.bytes = 16 := by
  have h : (Try.prog.info? 52).map (fun i => (i.zero, i.size, i.bytes)) = some (some (.agg #[.int .i64 0, .int .i64 0]), 2, 16) := by kernel_rfl
  cases hi : Try.prog.info? 52 with
  | none => rw [hi] at h; cases h
  | some i =>
    rw [hi] at h
    simp only [Option.map_some, Option.some.injEq, Prod.mk.injEq] at h
    exact ⟨i, rfl, h.1, h.2.1, h.2.2⟩
theorem Tk.cells_one (t : Tk) : ∀ y ∈ t.cells.toList, y.oneCell' = true := by
  intro y hy
  simp [Tk.cells] at hy
  rcases hy with rfl | rfl | rfl | rfl | rfl | rfl | rfl | rfl <;> rfl
theorem Sm.cells_one (s : Sm) : ∀ y ∈ s.cells.toList, y.oneCell' = true := by
  intro y hy
  simp [Sm.cells] at hy
  rcases hy with rfl | rfl <;> rfl
end Go.Proofs.Ytbpeamppkdmdcaa
