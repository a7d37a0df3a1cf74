/-
  Walks: wages with a ticket more.
-/
import Derived.Test.YtbpeamppkdmdcaaG10
import Derived.Test.YtbpeamppkdmdcaaT1
import Derived.Deep.CutRange
import Derived.Deep.AppendLies
namespace Go.Proofs.Ytbpeamppkdmdcaa
open Go.RowKit

theorem info58' : ∃ i, Try.prog.info? 58 = some i ∧ i.zero = some (.agg #[.int .i64 0, .int .i64 0, .int .i64 0, .int .i64 0, .int .i64 0, .int .i64 0, .int .i64 0, .int .i64 0]) ∧ i.size = 8 ∧ i.bytes = 64 := by
  obtain ⟨i, h, h1, h2, h3⟩ := info_parts info58
  exact ⟨i, h, h1, h2, h3⟩
theorem run_append_zero (g cap : Nat) (oa : Option Addr) (c : Nat) (ty : TypeId) (w : World) : (Builtin.append_ #[23, 23] ty #[.slice (some ⟨g, 0, none⟩) 0 cap, .slice oa 0 c]).run Try.prog w = .ok (.slice (some ⟨g, 0, none⟩) 0 cap) w := by
  obtain ⟨i, hi, _⟩ := info58'
  cases oa <;> simp [Builtin.append_, run_underlying Try.underlying23, sizeOf, typeInfo, hi, Builtin.lenOf, Builtin.firstCells, storeCells, loadCells, go_sem]
/-- 'append' of tickets that lie in memory to a row of the call's own. -/
theorem step_tks {W : World} {ops : Array Oper} {o : Oper} {a : Act} {K : Act → World → Prop} {Q : Exit → Act → World → Prop} {E : Prop} {B : Nat} (hgd : o.guard = none) (s x : Operand)
    (ho : o.op = .call { callee := .builtin .append, args := #[s, x], argTypes := #[23, 23] }) {g0 cap0 n : Nat} {xs : List Value} (hs : a.eval s = .slice (some ⟨g0, 0, none⟩) n cap0) (hown : W.ownsRow B 58 8 (.slice (some ⟨g0, 0, none⟩) n cap0) n xs)
    {oa : Option Addr} {m c : Nat} {T : Nat → Tk} (hx : a.eval x = .slice oa m c) (hT : TicketsAt W oa m T) (hm : n + m ≤ 1000) (hz : n = 0 ∨ 0 < m) (hB : B ≤ W.heap.size)
    (k : ∀ g cap w', w'.ownsRow B 58 8 (.slice (some ⟨g, 0, none⟩) (n + m) cap) (n + m) (xs ++ tkVals T m) → W.grownBy w' (some g0) → (g0 = g ∨ g = W.heap.size) → K (a.put o.dst (.slice (some ⟨g, 0, none⟩) (n + m) cap)) w') :
    if Region.wanted o (yielded ops a.tmps) = true then Oper.wp Try.prog o a W K Q else E := by
  by_cases h0 : 0 < m
  · obtain ⟨i0, hi0, hz0, hz1, hz2⟩ := info58'
    have hp := hT.plain h0
    refine step_append_lies W hgd s x 23 ho B 58 i0 _ 8 64 Try.underlying23 hi0 hz0 hz1 hz2 rfl (by omega) _ n xs hs hown ⟨blk oa, ofs oa, none⟩ m c (tkVals T m) (by rw [hx, hp]; rfl) (tkVals_len T m) (tickets_src hT) (tkVals_one T m) h0 (by unfold maxLen; omega) (by omega) hB _ rfl ?_
    intro g cap w' hown' hg hat _
    exact k g cap w' hown' hg (hat.imp (fun e => Option.some.inj e) id)
  · obtain rfl : m = 0 := by omega
    obtain rfl : n = 0 := by omega
    have hw : Region.wanted o (yielded ops a.tmps) = true := by simp [Region.wanted, hgd]
    rw [if_pos hw]
    have hxs : xs = [] := List.eq_nil_of_length_eq_zero (by simpa using hown.1)
    subst hxs
    unfold Oper.wp execOp
    simp only [ho, resolve, invoke, builtin, Sem.run_bind, Sem.run_pure, Result.andThen_ok, List.map_toArray, List.map_cons, List.map_nil, hs, hx, run_append_zero]
    exact k g0 cap0 W (by simpa [tkVals] using hown) (World.grownBy.refl _ _) (.inl rfl)

/-- What the walk of 'with' keeps. -/
structure A40 (w : World) (p : Nat) (cr : Int) (sa ta : Option Addr) (sn sc tn tc : Nat) (T : Nat → Tk) (t : Tk) (W : World) : Prop where
  bel : Below w.heap.size w W
  bp : BoxAt W p #[.int .i64 cr, .slice sa sn sc, .slice ta tn tc] 25
  pl : p < w.heap.size
  tb : BoxAt W w.heap.size (tkCells t) 58
  rb : BoxAt W (w.heap.size + 1) #[.int .i64 0, .slice none 0 0, .slice none 0 0] 25
  xb : BoxAt W (w.heap.size + 1 + 1) #[.int .i64 cr, .slice sa sn sc, .slice ta tn tc] 25
  tt : TicketsAt W ta tn T
  ol : 0 < tn → blk ta < w.heap.size
  le : w.heap.size + 3 ≤ W.heap.size
section
variable {w W W2 : World} {p : Nat} {cr : Int} {sa ta : Option Addr} {sn sc tn tc : Nat} {T : Nat → Tk} {t : Tk}
theorem A40.grow (h : A40 w p cr sa ta sn sc tn tc T t W) (hb : Below W.heap.size W W2) : A40 w p cr sa ta sn sc tn tc T t W2 :=
  ⟨h.bel.next hb, h.bp.grow hb, h.pl, h.tb.grow hb, h.rb.grow hb, h.xb.grow hb, h.tt.grow hb, h.ol, Nat.le_trans h.le hb.size⟩
theorem A40.own {r : Nat} (h : A40 w p cr sa ta sn sc tn tc T t W) (hg : W.grownBy W2 (some r)) (hr : w.heap.size + 3 ≤ r) : A40 w p cr sa ta sn sc tn tc T t W2 :=
  have hb := h.bel.grown hg h.bel.size (fun k e => by cases e; omega)
  have hpl := h.pl
  ⟨hb, h.bp.kept hg (by simp; omega), h.pl, h.tb.kept hg (by simp; omega), h.rb.kept hg (by simp; omega), h.xb.kept hg (by simp; omega),
    ⟨h.tt.plain, fun hn => Nat.lt_of_lt_of_le (h.tt.old hn) hg.size, h.tt.small, fun i hi j hj => (World.cell?_of_block (hg.block _ (h.tt.old (by omega)) (by have := h.ol (by omega); simp; omega))).trans (h.tt.cells i hi j hj)⟩, h.ol, Nat.le_trans h.le hg.size⟩
theorem own_grow {base n : Nat} {v : Value} {xs : List Value} (h : W.ownsRow base 58 8 v n xs) (hb : Below W.heap.size W W2) : W2.ownsRow base 58 8 v n xs :=
  h.kept (row := none) ⟨hb.os, hb.tape, hb.output, hb.size, fun k hk _ => hb.block k hk⟩ (by cases v.ownBlock <;> simp)
theorem own_nilbox {g B : Nat} (h : BoxAt W g #[] 58) (hB : B ≤ g) : W.ownsRow B 58 8 (.slice (some ⟨g, 0, none⟩) 0 0) 0 [] :=
  ⟨rfl, .inr ⟨g, 0, #[], rfl, hB, h, Nat.le_refl _, by unfold maxLen; omega, rfl, rfl⟩⟩
theorem tk_one (t : Tk) : tkVals (fun _ => t) 1 = t.cells.toList := by simp [tkVals, List.range_succ]
theorem box_one {g : Nat} {t : Tk} (h : BoxAt W g (tkCells t) 58) : TicketsAt W (some ⟨g, 0, none⟩) 1 (fun _ => t) :=
  box_tickets (by rw [tk_one]; exact h) (by unfold maxLen; omega)
theorem updT_ne' {T : Nat → Tk} {n : Nat} {t : Tk} {i : Nat} (h : i ≠ n) : updT T n t i = T i := by simp [updT, h]
theorem tkVals_congr {T T' : Nat → Tk} : ∀ n, (∀ i, i < n → T i = T' i) → tkVals T n = tkVals T' n
  | 0, _ => rfl
  | n + 1, h => by rw [tkVals_succ, tkVals_succ, tkVals_congr n fun i hi => h i (by omega), h n (by omega)]
theorem tkVals_add (T : Nat → Tk) (n : Nat) (t : Tk) : tkVals T n ++ tkVals (fun _ => t) 1 = tkVals (updT T n t) (n + 1) := by
  rw [tkVals_succ (updT T n t), tk_one, tkVals_congr n (T' := updT T n t) fun i hi => (updT_ne' (by omega)).symm]
  simp [updT]
theorem tickets_set {oa : Option Addr} {n : Nat} (h : TicketsAt W oa n T) (q : Addr) (v : Value) (hne : 0 < n → blk oa ≠ q.block) : TicketsAt (W.setCell q v) oa n T :=
  ⟨h.plain, fun hn => by rw [show (W.setCell q v).heap.size = W.heap.size by simp [World.setCell]]; exact h.old hn, h.small, fun i hi j hj => (World.cell?_of_block (Below.heap_setCell _ _ _ _ (by exact hne (by omega)))).trans (h.cells i hi j hj)⟩
theorem own_tickets {base n g cap : Nat} {T : Nat → Tk} (h : W.ownsRow base 58 8 (.slice (some ⟨g, 0, none⟩) n cap) n (tkVals T n)) (hn : n ≤ maxLen) : TicketsAt W (some ⟨g, 0, none⟩) n T := by
  rcases h.2 with ⟨h, _⟩ | ⟨g', cap', cur, hv, _, hg, _, _, _, ht⟩
  · cases h
  · cases hv
    refine ⟨fun _ => rfl, fun _ => lt_of_heap hg, hn, fun i hi j hj => ?_⟩
    show W.cell? ⟨g, 0 + i * 8 + j, none⟩ = _
    have h := tkVals_get T n hi hj
    rw [← ht, List.getElem?_take, if_pos (by omega)] at h
    rw [cellAt hg, Nat.zero_add, ← h, Array.getElem?_toList]
end
def AddPost (w : World) (cr : Int) (sa : Option Addr) (sn sc tn : Nat) (T : Nat → Tk) (t : Tk) (e : Ending) (w' : World) : Prop :=
  ∃ g cap, w.heap.size ≤ g ∧ e = .returned (.agg #[.int .i64 cr, .slice sa sn sc, .slice (some ⟨g, 0, none⟩) (tn + 1) cap]) ∧ TicketsAt w' (some ⟨g, 0, none⟩) (tn + 1) (updT T tn t) ∧ Below w.heap.size w w'
def AddR (w : World) (cr : Int) (sa : Option Addr) (sn sc tn : Nat) (T : Nat → Tk) (t : Tk) (W : World) : Prop :=
  ∃ g cap, w.heap.size + 3 ≤ g ∧ BoxAt W (w.heap.size + 1) #[.int .i64 0, .slice none 0 0, .slice none 0 0] 25 ∧ BoxAt W (w.heap.size + 1 + 1) #[.int .i64 cr, .slice sa sn sc, .slice (some ⟨g, 0, none⟩) (tn + 1) cap] 25 ∧ TicketsAt W (some ⟨g, 0, none⟩) (tn + 1) (updT T tn t) ∧ Below w.heap.size w W

set_option maxRecDepth 100000 in
set_option maxHeartbeats 4000000 in
theorem add_any (cr : Int) (sa ta : Option Addr) (sn sc tn tc : Nat) (T : Nat → Tk) (t : Tk) (p : Nat) (w : World) (hx : BoxAt w p #[.int .i64 cr, .slice sa sn sc, .slice ta tn tc] 25) (hT : TicketsAt w ta tn T) (ht6 : tn ≤ 6) :
    Calls Try.prog 40 #[t.v, bp p] w (AddPost w cr sa sn sc tn T t) := by
  have hpl := lt_of_heap hx
  have x0 := fun o => cellAt (hx.grow ((Below.refl _ _).alloc (Nat.le_refl _) o)) 0
  have x1 := fun o => cellAt (hx.grow ((Below.refl _ _).alloc (Nat.le_refl _) o)) 1
  have x2 := fun o => cellAt (hx.grow ((Below.refl _ _).alloc (Nat.le_refl _) o)) 2
  simp only [List.getElem?_toArray, List.getElem?_cons_zero, List.getElem?_cons_succ] at x0 x1 x2
  have HX := Lib.hid hx
  have HT := Lib.hid hT
  clear hx hT
  unfold Tk.v
  go_enter Try.func40, Try.ntmps40
  go_wp2_with fail
  generalize hW : World.alloc _ _ = W
  obtain ⟨y0, y1, y2, hz, hB⟩ := blocks3 hW
  have A1 := Lib.hid (show A40 w p cr sa ta sn sc tn tc T t W from ⟨hB, HX.out.grow hB, hpl, y0, y1, y2, HT.out.grow hB, HT.out.old, by omega⟩)
  have A0 := Lib.hid (A1.out.grow (Below.drew (Below.refl _ _)))
  clear hW y0 y1 y2 hz hB x0 x1 x2 HX HT hpl A1
  go_cut [] from 6 to 14 (fun W' => AddR w cr sa sn sc tn T t W')
  case rest =>
    obtain ⟨g, cap, hg, hr, hx, ht, hb⟩ := hcut
    have y0 := cellAt hx 0
    have y1 := cellAt hx 1
    have y2 := cellAt hx 2
    have f0 := freeAt hr 0
    have f1 := freeAt hr 1
    have f2 := freeAt hr 2
    have r0 := cellAt hr 0
    have r1 := cellAt hr 1
    have r2 := cellAt hr 2
    simp only [List.getElem?_toArray, List.getElem?_cons_zero, List.getElem?_cons_succ] at y0 y1 y2 r0 r1 r2
    have HT := Lib.hid ht
    have HB := Lib.hid hb
    have HR := Lib.hid hr
    clear hx hr ht hb A0
    go_wp2_with fail
    generalize hW : World.setCell (World.setCell (World.setCell _ _ _) _ _) _ _ = W2
    have hst := ((HR.out.store 0 (.int .i64 cr)).store 1 (.slice sa sn sc)).store 2 (.slice (some ⟨g, 0, none⟩) (tn + 1) cap)
    rw [hW] at hst
    have z0 := cellAt hst 0
    have z1 := cellAt hst 1
    have z2 := cellAt hst 2
    simp at z0 z1 z2
    refine bodyPost_ret (v := .agg #[.int .i64 cr, .slice sa sn sc, .slice (some ⟨g, 0, none⟩) (tn + 1) cap]) (by simp [results, Try.results40, go_sem, z0, z1, z2]) rfl ⟨g, cap, by omega, rfl, ?_, ?_⟩
    · rw [← hW]
      exact tickets_set (tickets_set (tickets_set HT.out _ _ (fun _ => by simp only [blk]; omega)) _ _ (fun _ => by simp only [blk]; omega)) _ _ (fun _ => by simp only [blk]; omega)
    · rw [← hW]
      exact ((HB.out.setCell (by dsimp only; omega) _).setCell (by dsimp only; omega) _).setCell (by dsimp only; omega) _
  case first =>
    refine wp_region_held_drew (S := (fun w' => w'.cell? ⟨p, 2, none⟩ = some (.slice ta tn tc) ∧ w'.cell? ⟨w.heap.size, 0, none⟩ = some (.int .i64 t.crew) ∧ w'.cell? ⟨w.heap.size, 1, none⟩ = some (.int .i64 t.seam) ∧ w'.cell? ⟨w.heap.size, 2, none⟩ = some (.int .i64 t.fl) ∧ w'.cell? ⟨w.heap.size, 3, none⟩ = some (.int .i64 t.fh) ∧ w'.cell? ⟨w.heap.size, 4, none⟩ = some (.int .i64 t.tl) ∧ w'.cell? ⟨w.heap.size, 5, none⟩ = some (.int .i64 t.th) ∧ w'.cell? ⟨w.heap.size, 6, none⟩ = some (.int .i64 t.dl) ∧ w'.cell? ⟨w.heap.size, 7, none⟩ = some (.int .i64 t.dh))) (by kernel_rfl) (by exact ⟨cellAt A0.out.bp 2, cellAt A0.out.tb 0, cellAt A0.out.tb 1, cellAt A0.out.tb 2, cellAt A0.out.tb 3, cellAt A0.out.tb 4, cellAt A0.out.tb 5, cellAt A0.out.tb 6, cellAt A0.out.tb 7⟩) (fun hHeld => ?_)
    generalize World.drew W = V0 at *
    refine wpAnyH_take (i := 1) (oi := { dst := some 7, op := Op.fieldAddr 25 (Operand.tmp 1) 2, type := 0, pos := "outright.go:298", after := #[], guard := none }) (v := ?_) rfl (by kernel_rfl) (by kernel_rfl) (by kernel_rfl) (fun _ _ _ h => h) (Or.inl ⟨by rfl, ?_⟩) (by assumption) ?_
    rotate_left
    · (intro w9 hSw; (try dsimp only at hSw); (go_split_ands; go_simp); (try with_reducible rfl))
    try simp only [Act.put, List.setIfInBounds_toArray, List.set_cons_zero, List.set_cons_succ]
    refine wpAnyH_take (i := 2) (oi := { dst := some 8, op := Op.load 23 (Operand.tmp 7), type := 23, pos := "outright.go:298", after := #[{ on := 1, ground := Ground.data }], guard := none }) (v := ?_) rfl (by kernel_rfl) (by kernel_rfl) (by kernel_rfl) (fun _ _ _ h => h) (Or.inl ⟨by rfl, ?_⟩) (by assumption) ?_
    rotate_left
    · (intro w9 hSw; (try dsimp only at hSw); (go_split_ands; go_simp); (try with_reducible rfl))
    try simp only [Act.put, List.setIfInBounds_toArray, List.set_cons_zero, List.set_cons_succ]
    refine wpAnyH_take (i := 4) (oi := { dst := some 10, op := Op.load 58 (Operand.tmp 2), type := 58, pos := "outright.go:298", after := #[], guard := none }) (v := ?_) rfl (by kernel_rfl) (by kernel_rfl) (by kernel_rfl) (fun _ _ _ h => h) (Or.inl ⟨by rfl, ?_⟩) (by assumption) ?_
    rotate_left
    · (intro w9 hSw; (try dsimp only at hSw); (go_split_ands; go_simp); (try with_reducible rfl))
    try simp only [Act.put, List.setIfInBounds_toArray, List.set_cons_zero, List.set_cons_succ]
    refine wpAnyH_ready (rs := [0, 5]) (by kernel_rfl) (by simp) ?_
    refine AllReadyH.cons (o := { dst := some 6, op := Op.buildSlice 23 0 #[], type := 23, pos := "outright.go:298", after := #[], guard := none }) rfl (fun K hK => ?_) (AllReadyH.cons (o := { dst := some 11, op := Op.buildSlice 23 1 #[(0, Operand.tmp 10)], type := 23, pos := "outright.go:298", after := #[{ on := 4, ground := Ground.data }], guard := none }) rfl (fun K hK => ?_) (AllReadyH.nil))
    · clear hHeld
      go_simp
      go_wp2_with fail
      generalize hW : World.alloc _ _ = W1 at *
      obtain ⟨n1, z1, b1⟩ := blocks1 hW
      have d1 : V0.heap.size < W1.heap.size := by omega
      have l1 : w.heap.size + 3 ≤ V0.heap.size := A0.out.le
      have H1 := Lib.hid b1
      clear hW b1 z1
      have A1 := Lib.hid (A0.out.grow H1.out)
      have E1 := Lib.hid (show BoxAt W1 V0.heap.size #[] 58 from n1)
      clear n1
      refine hK.out _ _ ?_ (fun hHeld => ?_)
      · exact ⟨cellAt A1.out.bp 2, cellAt A1.out.tb 0, cellAt A1.out.tb 1, cellAt A1.out.tb 2, cellAt A1.out.tb 3, cellAt A1.out.tb 4, cellAt A1.out.tb 5, cellAt A1.out.tb 6, cellAt A1.out.tb 7⟩
      clear hK K
      try simp only [Act.put, List.setIfInBounds_toArray, List.set_cons_zero, List.set_cons_succ]
      refine wpAnyH_ready (rs := [3, 5]) (by kernel_rfl) (by simp) ?_
      refine AllReadyH.cons (o := { dst := some 9, op := Op.call { callee := Callee.builtin Builtin.append, args := #[Operand.tmp 6, Operand.tmp 8], argTypes := #[23, 23] }, type := 23, pos := "outright.go:298", after := #[{ on := 0, ground := Ground.data }, { on := 2, ground := Ground.data }], guard := none }) rfl (fun K hK => ?_) (AllReadyH.cons (o := { dst := some 11, op := Op.buildSlice 23 1 #[(0, Operand.tmp 10)], type := 23, pos := "outright.go:298", after := #[{ on := 4, ground := Ground.data }], guard := none }) rfl (fun K hK => ?_) (AllReadyH.nil))
      · refine step_tks rfl (.tmp 6) (.tmp 8) rfl (n := 0) rfl (own_nilbox (B := w.heap.size + 3) E1.out l1) rfl A1.out.tt (by omega) (.inl rfl) A1.out.le (fun g2 cap2 W2 ho2 hg2 ht2 => ?_)
        simp only [Nat.zero_add, List.nil_append] at ho2 ⊢
        have R2 := Lib.hid ho2
        have A2 := Lib.hid (A1.out.own hg2 l1)
        clear ho2 hg2 ht2
        refine hK.out _ _ ?_ (fun hHeld => ?_)
        · exact ⟨cellAt A2.out.bp 2, cellAt A2.out.tb 0, cellAt A2.out.tb 1, cellAt A2.out.tb 2, cellAt A2.out.tb 3, cellAt A2.out.tb 4, cellAt A2.out.tb 5, cellAt A2.out.tb 6, cellAt A2.out.tb 7⟩
        clear hK K
        try simp only [Act.put, List.setIfInBounds_toArray, List.set_cons_zero, List.set_cons_succ]
        refine wpAnyH_ready (rs := [5]) (by kernel_rfl) (by simp) ?_
        refine AllReadyH.cons (o := { dst := some 11, op := Op.buildSlice 23 1 #[(0, Operand.tmp 10)], type := 23, pos := "outright.go:298", after := #[{ on := 4, ground := Ground.data }], guard := none }) rfl (fun K hK => ?_) (AllReadyH.nil)
        clear hHeld
        go_simp
        go_wp2_with fail
        generalize hW : World.alloc _ _ = W3 at *
        obtain ⟨n3, z3, b3⟩ := blocks1 hW
        have d3 : W2.heap.size < W3.heap.size := by omega
        have l3 : w.heap.size + 3 ≤ W2.heap.size := A2.out.le
        have H3 := Lib.hid b3
        clear hW b3 z3
        have A3 := Lib.hid (A2.out.grow H3.out)
        have R3 := Lib.hid (own_grow R2.out H3.out)
        have B3 := Lib.hid (show BoxAt W3 W2.heap.size (tkCells t) 58 from n3)
        clear n3
        refine hK.out _ _ ?_ (fun hHeld => ?_)
        · exact ⟨cellAt A3.out.bp 2, cellAt A3.out.tb 0, cellAt A3.out.tb 1, cellAt A3.out.tb 2, cellAt A3.out.tb 3, cellAt A3.out.tb 4, cellAt A3.out.tb 5, cellAt A3.out.tb 6, cellAt A3.out.tb 7⟩
        clear hK K
        try simp only [Act.put, List.setIfInBounds_toArray, List.set_cons_zero, List.set_cons_succ]
        refine wpAnyH_ready (rs := [6]) (by kernel_rfl) (by simp) ?_
        refine AllReadyH.cons (o := { dst := some 12, op := Op.call { callee := Callee.builtin Builtin.append, args := #[Operand.tmp 9, Operand.tmp 11], argTypes := #[23, 23] }, type := 23, pos := "outright.go:298", after := #[{ on := 3, ground := Ground.data }, { on := 5, ground := Ground.data }, { on := 3, ground := Ground.chain }], guard := none }) rfl (fun K hK => ?_) (AllReadyH.nil)
        refine step_tks rfl (.tmp 9) (.tmp 11) rfl (n := tn) rfl R3.out rfl (box_one B3.out) (by omega) (.inr (by omega)) A3.out.le (fun g4 cap4 W4 ho4 hg4 ht4 => ?_)
        rw [tkVals_add] at ho4
        have R4 := Lib.hid ho4
        have lg4 := (ho4.lt _ rfl).1
        have A4 := Lib.hid (A3.out.own hg4 (R3.out.lt _ rfl).1)
        clear ho4 hg4 ht4
        refine hK.out _ _ ?_ (fun hHeld => ?_)
        · exact ⟨cellAt A4.out.bp 2, cellAt A4.out.tb 0, cellAt A4.out.tb 1, cellAt A4.out.tb 2, cellAt A4.out.tb 3, cellAt A4.out.tb 4, cellAt A4.out.tb 5, cellAt A4.out.tb 6, cellAt A4.out.tb 7⟩
        clear hK K
        try simp only [Act.put, List.setIfInBounds_toArray, List.set_cons_zero, List.set_cons_succ]
        refine wpAnyH_take (i := 7) (oi := { dst := some 13, op := Op.fieldAddr 25 (Operand.tmp 4) 2, type := 0, pos := "outright.go:298", after := #[{ on := 0, ground := Ground.phase }, { on := 1, ground := Ground.phase }, { on := 2, ground := Ground.phase }, { on := 3, ground := Ground.phase }, { on := 4, ground := Ground.phase }, { on := 5, ground := Ground.phase }, { on := 6, ground := Ground.phase }], guard := none }) (v := ?_) rfl (by kernel_rfl) (by kernel_rfl) (by kernel_rfl) (fun _ _ _ h => h) (Or.inl ⟨by rfl, ?_⟩) (by assumption) ?_
        rotate_left
        · (intro w9 hSw; (try dsimp only at hSw); (go_split_ands; go_simp); (try with_reducible rfl))
        try simp only [Act.put, List.setIfInBounds_toArray, List.set_cons_zero, List.set_cons_succ]
        refine wpAnyH_ready (rs := [8]) (by kernel_rfl) (by simp) ?_
        refine AllReadyH.cons (o := { dst := none, op := Op.store 23 (Operand.tmp 13) (Operand.tmp 12), type := 0, pos := "outright.go:298", after := #[{ on := 7, ground := Ground.data }, { on := 6, ground := Ground.data }, { on := 6, ground := Ground.chain }, { on := 0, ground := Ground.phase }, { on := 1, ground := Ground.phase }, { on := 2, ground := Ground.phase }, { on := 3, ground := Ground.phase }, { on := 4, ground := Ground.phase }, { on := 5, ground := Ground.phase }, { on := 6, ground := Ground.phase }], guard := none }) rfl (fun K hK => ?_) (AllReadyH.nil)
        clear hHeld
        have y5 := cellAt A4.out.xb 2
        have f5 := freeAt A4.out.xb 2
        simp only [List.getElem?_toArray, List.getElem?_cons_zero, List.getElem?_cons_succ] at y5
        go_simp
        go_wp2_with fail
        generalize hW : World.setCell _ _ _ = W5 at *
        have X5 := Lib.hid (show AddR w cr sa sn sc tn T t W5 by
          rw [← hW]
          exact ⟨g4, cap4, lg4, A4.out.rb.set _ _ (by dsimp only; omega), A4.out.xb.store 2 _, tickets_set (own_tickets R4.out (by unfold maxLen; omega)) _ _ (fun _ => by simp only [blk]; omega), A4.out.bel.setCell (by dsimp only; omega) _⟩)
        have YP5 := Lib.hid (show BoxAt W5 p #[.int .i64 cr, .slice sa sn sc, .slice ta tn tc] 25 by rw [← hW]; exact A4.out.bp.set _ _ (by have := A4.out.pl; dsimp only; omega))
        have YT5 := Lib.hid (show BoxAt W5 w.heap.size (tkCells t) 58 by rw [← hW]; exact A4.out.tb.set _ _ (by dsimp only; omega))
        clear y5 f5 hW
        refine hK.out _ _ ?_ (fun hHeld => ?_)
        · exact ⟨cellAt YP5.out 2, cellAt YT5.out 0, cellAt YT5.out 1, cellAt YT5.out 2, cellAt YT5.out 3, cellAt YT5.out 4, cellAt YT5.out 5, cellAt YT5.out 6, cellAt YT5.out 7⟩
        clear hK K
        try simp only [Act.put]
        refine wpAnyH_done (by kernel_rfl) ?_ _
        go_wp2_with fail
        go_meet
        case rel => exact X5.out
      · clear hHeld
        go_simp
        go_wp2_with fail
        generalize hW : World.alloc _ _ = W6 at *
        obtain ⟨n6, z6, b6⟩ := blocks1 hW
        have d6 : W1.heap.size < W6.heap.size := by omega
        have l6 : w.heap.size + 3 ≤ W1.heap.size := A1.out.le
        have H6 := Lib.hid b6
        clear hW b6 z6
        have A6 := Lib.hid (A1.out.grow H6.out)
        have E6 := Lib.hid (BoxAt.grow E1.out H6.out)
        have B6 := Lib.hid (show BoxAt W6 W1.heap.size (tkCells t) 58 from n6)
        clear n6
        refine hK.out _ _ ?_ (fun hHeld => ?_)
        · exact ⟨cellAt A6.out.bp 2, cellAt A6.out.tb 0, cellAt A6.out.tb 1, cellAt A6.out.tb 2, cellAt A6.out.tb 3, cellAt A6.out.tb 4, cellAt A6.out.tb 5, cellAt A6.out.tb 6, cellAt A6.out.tb 7⟩
        clear hK K
        try simp only [Act.put, List.setIfInBounds_toArray, List.set_cons_zero, List.set_cons_succ]
        refine wpAnyH_ready (rs := [3]) (by kernel_rfl) (by simp) ?_
        refine AllReadyH.cons (o := { dst := some 9, op := Op.call { callee := Callee.builtin Builtin.append, args := #[Operand.tmp 6, Operand.tmp 8], argTypes := #[23, 23] }, type := 23, pos := "outright.go:298", after := #[{ on := 0, ground := Ground.data }, { on := 2, ground := Ground.data }], guard := none }) rfl (fun K hK => ?_) (AllReadyH.nil)
        refine step_tks rfl (.tmp 6) (.tmp 8) rfl (n := 0) rfl (own_nilbox (B := w.heap.size + 3) E6.out l1) rfl A6.out.tt (by omega) (.inl rfl) A6.out.le (fun g7 cap7 W7 ho7 hg7 ht7 => ?_)
        simp only [Nat.zero_add, List.nil_append] at ho7 ⊢
        have R7 := Lib.hid ho7
        have A7 := Lib.hid (A6.out.own hg7 l1)
        have B7 := Lib.hid (BoxAt.kept B6.out hg7 (by simp; omega))
        clear ho7 hg7 ht7
        refine hK.out _ _ ?_ (fun hHeld => ?_)
        · exact ⟨cellAt A7.out.bp 2, cellAt A7.out.tb 0, cellAt A7.out.tb 1, cellAt A7.out.tb 2, cellAt A7.out.tb 3, cellAt A7.out.tb 4, cellAt A7.out.tb 5, cellAt A7.out.tb 6, cellAt A7.out.tb 7⟩
        clear hK K
        try simp only [Act.put, List.setIfInBounds_toArray, List.set_cons_zero, List.set_cons_succ]
        refine wpAnyH_ready (rs := [6]) (by kernel_rfl) (by simp) ?_
        refine AllReadyH.cons (o := { dst := some 12, op := Op.call { callee := Callee.builtin Builtin.append, args := #[Operand.tmp 9, Operand.tmp 11], argTypes := #[23, 23] }, type := 23, pos := "outright.go:298", after := #[{ on := 3, ground := Ground.data }, { on := 5, ground := Ground.data }, { on := 3, ground := Ground.chain }], guard := none }) rfl (fun K hK => ?_) (AllReadyH.nil)
        refine step_tks rfl (.tmp 9) (.tmp 11) rfl (n := tn) rfl R7.out rfl (box_one B7.out) (by omega) (.inr (by omega)) A7.out.le (fun g8 cap8 W8 ho8 hg8 ht8 => ?_)
        rw [tkVals_add] at ho8
        have R8 := Lib.hid ho8
        have lg8 := (ho8.lt _ rfl).1
        have A8 := Lib.hid (A7.out.own hg8 (R7.out.lt _ rfl).1)
        clear ho8 hg8 ht8
        refine hK.out _ _ ?_ (fun hHeld => ?_)
        · exact ⟨cellAt A8.out.bp 2, cellAt A8.out.tb 0, cellAt A8.out.tb 1, cellAt A8.out.tb 2, cellAt A8.out.tb 3, cellAt A8.out.tb 4, cellAt A8.out.tb 5, cellAt A8.out.tb 6, cellAt A8.out.tb 7⟩
        clear hK K
        try simp only [Act.put, List.setIfInBounds_toArray, List.set_cons_zero, List.set_cons_succ]
        refine wpAnyH_take (i := 7) (oi := { dst := some 13, op := Op.fieldAddr 25 (Operand.tmp 4) 2, type := 0, pos := "outright.go:298", after := #[{ on := 0, ground := Ground.phase }, { on := 1, ground := Ground.phase }, { on := 2, ground := Ground.phase }, { on := 3, ground := Ground.phase }, { on := 4, ground := Ground.phase }, { on := 5, ground := Ground.phase }, { on := 6, ground := Ground.phase }], guard := none }) (v := ?_) rfl (by kernel_rfl) (by kernel_rfl) (by kernel_rfl) (fun _ _ _ h => h) (Or.inl ⟨by rfl, ?_⟩) (by assumption) ?_
        rotate_left
        · (intro w9 hSw; (try dsimp only at hSw); (go_split_ands; go_simp); (try with_reducible rfl))
        try simp only [Act.put, List.setIfInBounds_toArray, List.set_cons_zero, List.set_cons_succ]
        refine wpAnyH_ready (rs := [8]) (by kernel_rfl) (by simp) ?_
        refine AllReadyH.cons (o := { dst := none, op := Op.store 23 (Operand.tmp 13) (Operand.tmp 12), type := 0, pos := "outright.go:298", after := #[{ on := 7, ground := Ground.data }, { on := 6, ground := Ground.data }, { on := 6, ground := Ground.chain }, { on := 0, ground := Ground.phase }, { on := 1, ground := Ground.phase }, { on := 2, ground := Ground.phase }, { on := 3, ground := Ground.phase }, { on := 4, ground := Ground.phase }, { on := 5, ground := Ground.phase }, { on := 6, ground := Ground.phase }], guard := none }) rfl (fun K hK => ?_) (AllReadyH.nil)
        clear hHeld
        have y9 := cellAt A8.out.xb 2
        have f9 := freeAt A8.out.xb 2
        simp only [List.getElem?_toArray, List.getElem?_cons_zero, List.getElem?_cons_succ] at y9
        go_simp
        go_wp2_with fail
        generalize hW : World.setCell _ _ _ = W9 at *
        have X9 := Lib.hid (show AddR w cr sa sn sc tn T t W9 by
          rw [← hW]
          exact ⟨g8, cap8, lg8, A8.out.rb.set _ _ (by dsimp only; omega), A8.out.xb.store 2 _, tickets_set (own_tickets R8.out (by unfold maxLen; omega)) _ _ (fun _ => by simp only [blk]; omega), A8.out.bel.setCell (by dsimp only; omega) _⟩)
        have YP9 := Lib.hid (show BoxAt W9 p #[.int .i64 cr, .slice sa sn sc, .slice ta tn tc] 25 by rw [← hW]; exact A8.out.bp.set _ _ (by have := A8.out.pl; dsimp only; omega))
        have YT9 := Lib.hid (show BoxAt W9 w.heap.size (tkCells t) 58 by rw [← hW]; exact A8.out.tb.set _ _ (by dsimp only; omega))
        clear y9 f9 hW
        refine hK.out _ _ ?_ (fun hHeld => ?_)
        · exact ⟨cellAt YP9.out 2, cellAt YT9.out 0, cellAt YT9.out 1, cellAt YT9.out 2, cellAt YT9.out 3, cellAt YT9.out 4, cellAt YT9.out 5, cellAt YT9.out 6, cellAt YT9.out 7⟩
        clear hK K
        try simp only [Act.put]
        refine wpAnyH_done (by kernel_rfl) ?_ _
        go_wp2_with fail
        go_meet
        case rel => exact X9.out
    · clear hHeld
      go_simp
      go_wp2_with fail
      generalize hW : World.alloc _ _ = W10 at *
      obtain ⟨n10, z10, b10⟩ := blocks1 hW
      have d10 : V0.heap.size < W10.heap.size := by omega
      have l10 : w.heap.size + 3 ≤ V0.heap.size := A0.out.le
      have H10 := Lib.hid b10
      clear hW b10 z10
      have A10 := Lib.hid (A0.out.grow H10.out)
      have B10 := Lib.hid (show BoxAt W10 V0.heap.size (tkCells t) 58 from n10)
      clear n10
      refine hK.out _ _ ?_ (fun hHeld => ?_)
      · exact ⟨cellAt A10.out.bp 2, cellAt A10.out.tb 0, cellAt A10.out.tb 1, cellAt A10.out.tb 2, cellAt A10.out.tb 3, cellAt A10.out.tb 4, cellAt A10.out.tb 5, cellAt A10.out.tb 6, cellAt A10.out.tb 7⟩
      clear hK K
      try simp only [Act.put, List.setIfInBounds_toArray, List.set_cons_zero, List.set_cons_succ]
      refine wpAnyH_ready (rs := [0]) (by kernel_rfl) (by simp) ?_
      refine AllReadyH.cons (o := { dst := some 6, op := Op.buildSlice 23 0 #[], type := 23, pos := "outright.go:298", after := #[], guard := none }) rfl (fun K hK => ?_) (AllReadyH.nil)
      clear hHeld
      go_simp
      go_wp2_with fail
      generalize hW : World.alloc _ _ = W11 at *
      obtain ⟨n11, z11, b11⟩ := blocks1 hW
      have d11 : W10.heap.size < W11.heap.size := by omega
      have l11 : w.heap.size + 3 ≤ W10.heap.size := A10.out.le
      have H11 := Lib.hid b11
      clear hW b11 z11
      have A11 := Lib.hid (A10.out.grow H11.out)
      have B11 := Lib.hid (BoxAt.grow B10.out H11.out)
      have E11 := Lib.hid (show BoxAt W11 W10.heap.size #[] 58 from n11)
      clear n11
      refine hK.out _ _ ?_ (fun hHeld => ?_)
      · exact ⟨cellAt A11.out.bp 2, cellAt A11.out.tb 0, cellAt A11.out.tb 1, cellAt A11.out.tb 2, cellAt A11.out.tb 3, cellAt A11.out.tb 4, cellAt A11.out.tb 5, cellAt A11.out.tb 6, cellAt A11.out.tb 7⟩
      clear hK K
      try simp only [Act.put, List.setIfInBounds_toArray, List.set_cons_zero, List.set_cons_succ]
      refine wpAnyH_ready (rs := [3]) (by kernel_rfl) (by simp) ?_
      refine AllReadyH.cons (o := { dst := some 9, op := Op.call { callee := Callee.builtin Builtin.append, args := #[Operand.tmp 6, Operand.tmp 8], argTypes := #[23, 23] }, type := 23, pos := "outright.go:298", after := #[{ on := 0, ground := Ground.data }, { on := 2, ground := Ground.data }], guard := none }) rfl (fun K hK => ?_) (AllReadyH.nil)
      refine step_tks rfl (.tmp 6) (.tmp 8) rfl (n := 0) rfl (own_nilbox (B := w.heap.size + 3) E11.out l11) rfl A11.out.tt (by omega) (.inl rfl) A11.out.le (fun g12 cap12 W12 ho12 hg12 ht12 => ?_)
      simp only [Nat.zero_add, List.nil_append] at ho12 ⊢
      have R12 := Lib.hid ho12
      have A12 := Lib.hid (A11.out.own hg12 l11)
      have B12 := Lib.hid (BoxAt.kept B11.out hg12 (by simp; omega))
      clear ho12 hg12 ht12
      refine hK.out _ _ ?_ (fun hHeld => ?_)
      · exact ⟨cellAt A12.out.bp 2, cellAt A12.out.tb 0, cellAt A12.out.tb 1, cellAt A12.out.tb 2, cellAt A12.out.tb 3, cellAt A12.out.tb 4, cellAt A12.out.tb 5, cellAt A12.out.tb 6, cellAt A12.out.tb 7⟩
      clear hK K
      try simp only [Act.put, List.setIfInBounds_toArray, List.set_cons_zero, List.set_cons_succ]
      refine wpAnyH_ready (rs := [6]) (by kernel_rfl) (by simp) ?_
      refine AllReadyH.cons (o := { dst := some 12, op := Op.call { callee := Callee.builtin Builtin.append, args := #[Operand.tmp 9, Operand.tmp 11], argTypes := #[23, 23] }, type := 23, pos := "outright.go:298", after := #[{ on := 3, ground := Ground.data }, { on := 5, ground := Ground.data }, { on := 3, ground := Ground.chain }], guard := none }) rfl (fun K hK => ?_) (AllReadyH.nil)
      refine step_tks rfl (.tmp 9) (.tmp 11) rfl (n := tn) rfl R12.out rfl (box_one B12.out) (by omega) (.inr (by omega)) A12.out.le (fun g13 cap13 W13 ho13 hg13 ht13 => ?_)
      rw [tkVals_add] at ho13
      have R13 := Lib.hid ho13
      have lg13 := (ho13.lt _ rfl).1
      have A13 := Lib.hid (A12.out.own hg13 (R12.out.lt _ rfl).1)
      clear ho13 hg13 ht13
      refine hK.out _ _ ?_ (fun hHeld => ?_)
      · exact ⟨cellAt A13.out.bp 2, cellAt A13.out.tb 0, cellAt A13.out.tb 1, cellAt A13.out.tb 2, cellAt A13.out.tb 3, cellAt A13.out.tb 4, cellAt A13.out.tb 5, cellAt A13.out.tb 6, cellAt A13.out.tb 7⟩
      clear hK K
      try simp only [Act.put, List.setIfInBounds_toArray, List.set_cons_zero, List.set_cons_succ]
      refine wpAnyH_take (i := 7) (oi := { dst := some 13, op := Op.fieldAddr 25 (Operand.tmp 4) 2, type := 0, pos := "outright.go:298", after := #[{ on := 0, ground := Ground.phase }, { on := 1, ground := Ground.phase }, { on := 2, ground := Ground.phase }, { on := 3, ground := Ground.phase }, { on := 4, ground := Ground.phase }, { on := 5, ground := Ground.phase }, { on := 6, ground := Ground.phase }], guard := none }) (v := ?_) rfl (by kernel_rfl) (by kernel_rfl) (by kernel_rfl) (fun _ _ _ h => h) (Or.inl ⟨by rfl, ?_⟩) (by assumption) ?_
      rotate_left
      · (intro w9 hSw; (try dsimp only at hSw); (go_split_ands; go_simp); (try with_reducible rfl))
      try simp only [Act.put, List.setIfInBounds_toArray, List.set_cons_zero, List.set_cons_succ]
      refine wpAnyH_ready (rs := [8]) (by kernel_rfl) (by simp) ?_
      refine AllReadyH.cons (o := { dst := none, op := Op.store 23 (Operand.tmp 13) (Operand.tmp 12), type := 0, pos := "outright.go:298", after := #[{ on := 7, ground := Ground.data }, { on := 6, ground := Ground.data }, { on := 6, ground := Ground.chain }, { on := 0, ground := Ground.phase }, { on := 1, ground := Ground.phase }, { on := 2, ground := Ground.phase }, { on := 3, ground := Ground.phase }, { on := 4, ground := Ground.phase }, { on := 5, ground := Ground.phase }, { on := 6, ground := Ground.phase }], guard := none }) rfl (fun K hK => ?_) (AllReadyH.nil)
      clear hHeld
      have y14 := cellAt A13.out.xb 2
      have f14 := freeAt A13.out.xb 2
      simp only [List.getElem?_toArray, List.getElem?_cons_zero, List.getElem?_cons_succ] at y14
      go_simp
      go_wp2_with fail
      generalize hW : World.setCell _ _ _ = W14 at *
      have X14 := Lib.hid (show AddR w cr sa sn sc tn T t W14 by
        rw [← hW]
        exact ⟨g13, cap13, lg13, A13.out.rb.set _ _ (by dsimp only; omega), A13.out.xb.store 2 _, tickets_set (own_tickets R13.out (by unfold maxLen; omega)) _ _ (fun _ => by simp only [blk]; omega), A13.out.bel.setCell (by dsimp only; omega) _⟩)
      have YP14 := Lib.hid (show BoxAt W14 p #[.int .i64 cr, .slice sa sn sc, .slice ta tn tc] 25 by rw [← hW]; exact A13.out.bp.set _ _ (by have := A13.out.pl; dsimp only; omega))
      have YT14 := Lib.hid (show BoxAt W14 w.heap.size (tkCells t) 58 by rw [← hW]; exact A13.out.tb.set _ _ (by dsimp only; omega))
      clear y14 f14 hW
      refine hK.out _ _ ?_ (fun hHeld => ?_)
      · exact ⟨cellAt YP14.out 2, cellAt YT14.out 0, cellAt YT14.out 1, cellAt YT14.out 2, cellAt YT14.out 3, cellAt YT14.out 4, cellAt YT14.out 5, cellAt YT14.out 6, cellAt YT14.out 7⟩
      clear hK K
      try simp only [Act.put]
      refine wpAnyH_done (by kernel_rfl) ?_ _
      go_wp2_with fail
      go_meet
      case rel => exact X14.out
end Go.Proofs.Ytbpeamppkdmdcaa
