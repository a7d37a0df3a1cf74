/-
  Walks: the span of what is due, by the reference: over all truths.
-/
import Derived.Test.YtbpeamppkdmdcaaU10
import Derived.Test.YtbpeamppkdmdcaaU4
import Derived.Test.YtbpeamppkdmdcaaU6
import Derived.Test.YtbpeamppkdmdcaaH0
namespace Go.Proofs.Ytbpeamppkdmdcaa
open Go.RowKit
attribute [local go_sem ↓] Go.wp_at_zero Go.wp_at_succ

theorem countT_pos {T : Nat → Tk} {tn : Nat} (hsp : ∀ i, i < tn → Spans (T i)) : ∀ d m, m + d ≤ tn → 0 < countT T d m
  | 0, _, _ => Nat.one_pos
  | d + 1, m, h => Nat.mul_pos (canL_len (hsp m (by omega))).2 (countT_pos hsp d (m + 1) (by omega))
theorem Valid.allSpans {cr : Int} {sn tn : Nat} {S : Nat → Sm} {T : Nat → Tk} (hv : Valid cr sn tn S T) : ∀ i, i < tn → Spans (T i) := fun i hi => by
  have h1 := spanB_iff.1 (hv.td i hi)
  have h2 := spanB_iff.1 (hv.fr i hi)
  have h3 := spanB_iff.1 (hv.to i hi)
  have h4 := hv.tk i hi
  have h5 := hv.fat (T i).seam.toNat (by omega)
  unfold Spans
  omega
theorem size104 : (Try.prog.info? 104).map (·.size) = some 1 := by kernel_rfl
section
variable {B : Nat} {w0 W : World} {KB : List (Nat × Array Value × TypeId)} {VS : List (Value × List Value)}
/-- 'append' of a number, for longer lists. -/
theorem step_own_m {ops : Array Oper} {o : Oper} {a : Act} {K : Act → World → Prop} {Q : Exit → Act → World → Prop} {E : Prop} (h : Own B w0 KB VS W) (hgd : o.guard = none) (s x : Operand)
    (ho : o.op = .call { callee := .builtin .append, args := #[s, x], argTypes := #[37, 37] }) (i n : Nat) {v : Value} {xs : List Value} (hi : VS[i]? = some (v, xs)) (hs : a.eval s = v)
    {gb : Nat} {y : Value} (hx : a.eval x = .slice (some ⟨gb, 0, none⟩) 1 1) (hb : (gb, #[y], 3) ∈ KB) (hy : y.oneCell' = true) (hl : xs.length = n) (hn : n ≤ 100000)
    (k : ∀ g cap w', Own B w0 KB (VS.set i (.slice (some ⟨g, 0, none⟩) (n + 1) cap, xs ++ [y])) w' → K (a.put o.dst (.slice (some ⟨g, 0, none⟩) (n + 1) cap)) w') :
    if Region.wanted o (yielded ops a.tmps) = true then Oper.wp Try.prog o a W K Q else E := by
  subst hl
  obtain ⟨i0, hi0, hz0, hz1, hz2⟩ := info_parts info3
  refine step_append_lies W hgd s x 37 ho B 3 i0 _ 1 8 Try.underlying37 hi0 hz0 hz1 hz2 rfl (by omega) v xs.length xs hs (h.own _ (List.mem_of_getElem? hi)) ⟨gb, 0, none⟩ 1 1 [y] hx rfl
    (World.news_of_block (h.box _ hb)) (by simpa using hy) (by omega) (by unfold maxLen; omega) (by omega) h.size _ rfl ?_
  intro g cap w' hown hg hat _
  have hl : (xs ++ [y]).length = xs.length + 1 := by simp
  have := h.put (W2 := w') (ys := xs ++ [y]) hi (by rw [hl]; exact hown) hg hat
  rw [hl] at this
  exact k g cap w' this
end
/-- What holds beside the list that is collected. -/
structure MI (w : World) (cr : Int) (sa ta : Option Addr) (sn sc tn tc : Nat) (S : Nat → Sm) (T : Nat → Tk) (B : Nat) (v : Value) (W : World) : Prop where
  wb : WB w cr sa ta sn sc tn tc S T w.heap.size W
  r : BoxAt W (w.heap.size + 1) #[.int .i64 0, .int .i64 0] 29
  out : OutAt B tn v (truthsL T tn) W
theorem MI.grow {w : World} {cr : Int} {sa ta : Option Addr} {sn sc tn tc : Nat} {S : Nat → Sm} {T : Nat → Tk} {B : Nat} {v : Value} {W W2 : World} (h : MI w cr sa ta sn sc tn tc S T B v W) (hb : Below W.heap.size W W2) : MI w cr sa ta sn sc tn tc S T B v W2 := ⟨h.wb.grow hb, h.r.grow hb, h.out.grow hb⟩

set_option maxRecDepth 100000 in
set_option maxHeartbeats 4000000 in
theorem manysR_any (cr : Int) (sa ta : Option Addr) (sn sc tn tc : Nat) (S : Nat → Sm) (T : Nat → Tk) (s : Nat) (c : Int) (w : World) (hv : Valid cr sn tn S T) (hS : SeamsAt w sa sn S) (hT : TicketsAt w ta tn T) (hs : s < sn) (hc : countT T tn 0 ≤ 2000) :
    Calls Try.prog 54 #[.agg #[.int .i64 cr, .slice sa sn sc, .slice ta tn tc], .int .i64 s, .int .i64 c] w
      fun e w' => e = .returned (.agg #[.int .i64 (loF (fun i => (manyOf S T (knF ((truthsL T tn).getD i [])) tn s c : Int)) (truthsL T tn).length), .int .i64 (hiF (fun i => (manyOf S T (knF ((truthsL T tn).getD i [])) tn s c : Int)) (truthsL T tn).length)]) ∧ Below w.heap.size w w' := by
  have hlen : (truthsL T tn).length = countT T tn 0 := ext_count T tn 0 []
  have hpos := countT_pos (hv.allSpans) tn 0 (by omega)
  have HV := Lib.hid hv
  have hft := hv.fat s hs
  have htn6 := hv.tn6
  obtain ⟨N, eN⟩ : ∃ N, N = (truthsL T tn).length := ⟨_, rfl⟩
  rw [← eN] at hlen ⊢
  rw [← hlen] at hpos hc
  obtain ⟨F, eF⟩ : ∃ F : Nat → Int, F = fun i => (manyOf S T (knF ((truthsL T tn).getD i [])) tn s c : Int) := ⟨_, rfl⟩
  rw [← eF]
  have HF := Lib.hid eF
  have HN := Lib.hid eN
  have HL := Lib.hid hlen
  have hb0 := ba w (.cells #[.int .i64 cr, .slice sa sn sc, .slice ta tn tc] 25)
  have hb1 := ba (w.alloc (.cells #[.int .i64 cr, .slice sa sn sc, .slice ta tn tc] 25)) (.cells #[.int .i64 0, .int .i64 0] 29)
  have I1 := Lib.hid ((WB.new (cr := cr) (sc := sc) (tc := tc) hS hT).grow hb1)
  have hr := heap_alloc_new (w.alloc (.cells #[.int .i64 cr, .slice sa sn sc, .slice ta tn tc] 25)) (.cells #[.int .i64 0, .int .i64 0] 29)
  rw [sizeAlloc] at hr
  have R1 := Lib.hid (show BoxAt ((w.alloc (.cells #[.int .i64 cr, .slice sa sn sc, .slice ta tn tc] 25)).alloc (.cells #[.int .i64 0, .int .i64 0] 29)) (w.heap.size + 1) #[.int .i64 0, .int .i64 0] 29 from hr)
  clear hS hT eF eN hlen hb0 hb1 hr hv
  go_enter Try.func54, Try.ntmps54
  go_wp2_with (go_at_call 63; refine (truthsAll_any cr sa ta sn sc tn tc S T _ I1.out.ss I1.out.tt HV.out.allSpans htn6 (by rw [← HL.out]; omega)).mono ?_)
  rintro e w1 ⟨v', rfl, ho, hb⟩
  have M1 := Lib.hid (show MI w cr sa ta sn sc tn tc S T _ v' w1 from ⟨I1.out.grow hb, R1.out.grow hb, ho⟩)
  have MW := Lib.hid (fun W (h : Below w1.heap.size w1 W) => M1.out.grow h)
  have AT := Lib.hid (fun W (h : Below w1.heap.size w1 W) (i : Nat) (hi : i < N) => (M1.out.grow h).out.at (i := i) (by rw [← HN.out]; exact hi))
  obtain ⟨g, gc, oa0, c0, hv', -⟩ := AT.out _ (Below.refl _ _) 0 hpos
  rw [← HN.out] at hv'
  subst hv'
  have O1 := Lib.hid (Own.start (B := w1.heap.size) (w0 := w1) (W := w1) (KB := []) (VS := [(.slice none 0 0, rowVals F 0)]) (Below.refl _ _) (Nat.le_refl _) (fun e he => by cases he) (fun e he => by simpa [rowVals] using he))
  clear I1 R1 ho hb M1
  go_wp2_with fail
  go_loopw [7, 9] (fun lv i W => ∃ k : Nat, k ≤ N ∧ i = .int .i64 k ∧ Own w1.heap.size w1 [] [(lv, rowVals F k)] W) (fun _ i _ => N - (intOf i).toNat)
  case atStart => exact ⟨0, Nat.zero_le _, rfl, O1.out⟩
  case round =>
    clear O1
    obtain ⟨k, hk, rfl, ho⟩ := hrel
    have O2 := Lib.hid ho
    clear ho
    by_cases hlt : k < N
    · have hix := fun w => run_indexAt_row (w := w) (oa := some ⟨g, 0, none⟩) (cap := gc) Try.underlying101 size104 rfl hlt
      simp only [blk, ofs, Nat.zero_add, Nat.mul_one] at hix
      obtain ⟨g', gc', oa, oc, hv2, hgl, hcell, hkn⟩ := AT.out _ (Below.refl _ _) k hlt
      simp only [Value.slice.injEq, Option.some.injEq, Addr.mk.injEq] at hv2
      obtain ⟨⟨rfl, -, -⟩, -, rfl⟩ := hv2
      have AC := Lib.hid (fun W2 (h : Below w1.heap.size w1 W2) => (⟨(h.cell (p := ⟨g, k, none⟩) hgl).trans hcell, KnAt.grow hkn h⟩ : W2.cell? ⟨g, k, none⟩ = some (.slice oa tn oc) ∧ KnAt W2 oa tn (knF ((truthsL T tn).getD k []))))
      clear hcell hkn
      have hfk : F k = (manyOf S T (knF ((truthsL T tn).getD k [])) tn s c : Int) := by rw [HF.out]
      have HFK := Lib.hid hfk
      clear hfk
      go_wp2_with fail
      have O3 := Lib.hid O2.out.drew
      refine wp_region_held_drew (S := (fun w' => w'.cell? ⟨w.heap.size, 0, none⟩ = some (.int .i64 cr) ∧ w'.cell? ⟨w.heap.size, 1, none⟩ = some (.slice sa sn sc) ∧ w'.cell? ⟨w.heap.size, 2, none⟩ = some (.slice ta tn tc) ∧ w'.cell? ⟨g, k, none⟩ = some (.slice oa tn oc))) (by kernel_rfl) (by exact (by have hm := (MW.out _ O3.out.bel).wb.box; exact ⟨cellAt hm 0, cellAt hm 1, cellAt hm 2, (AC.out _ O3.out.bel).1⟩)) (fun hHeld => ?_)
      refine wpAnyH_take (i := 0) (oi := { dst := some 18, op := Op.move (Operand.tmp 7), type := 37, pos := "ref.go:161", after := #[], guard := none }) (v := ?_) rfl (by kernel_rfl) (by kernel_rfl) (by kernel_rfl) (fun _ _ _ h => h) (Or.inl ⟨by rfl, ?_⟩) (by assumption) ?_
      rotate_left
      · (intro w9 hSw; (try dsimp only at hSw); (go_split_ands; go_simp); (try with_reducible rfl))
      try simp only [Act.put, List.setIfInBounds_toArray, List.set_cons_zero, List.set_cons_succ]
      refine wpAnyH_take (i := 1) (oi := { dst := some 19, op := Op.load 25 (Operand.tmp 3), type := 25, pos := "ref.go:161", after := #[], guard := none }) (v := ?_) rfl (by kernel_rfl) (by kernel_rfl) (by kernel_rfl) (fun _ _ _ h => h) (Or.inl ⟨by rfl, ?_⟩) (by assumption) ?_
      rotate_left
      · (intro w9 hSw; (try dsimp only at hSw); (go_split_ands; go_simp); (try with_reducible rfl))
      try simp only [Act.put, List.setIfInBounds_toArray, List.set_cons_zero, List.set_cons_succ]
      refine wpAnyH_take (i := 2) (oi := { dst := some 20, op := Op.move (Operand.tmp 8), type := 101, pos := "ref.go:161", after := #[], guard := none }) (v := ?_) rfl (by kernel_rfl) (by kernel_rfl) (by kernel_rfl) (fun _ _ _ h => h) (Or.inl ⟨by rfl, ?_⟩) (by assumption) ?_
      rotate_left
      · (intro w9 hSw; (try dsimp only at hSw); (go_split_ands; go_simp); (try with_reducible rfl))
      try simp only [Act.put, List.setIfInBounds_toArray, List.set_cons_zero, List.set_cons_succ]
      refine wpAnyH_take (i := 3) (oi := { dst := some 21, op := Op.move (Operand.tmp 9), type := 3, pos := "ref.go:161", after := #[], guard := none }) (v := ?_) rfl (by kernel_rfl) (by kernel_rfl) (by kernel_rfl) (fun _ _ _ h => h) (Or.inl ⟨by rfl, ?_⟩) (by assumption) ?_
      rotate_left
      · (intro w9 hSw; (try dsimp only at hSw); (go_split_ands; go_simp); (try with_reducible rfl))
      try simp only [Act.put, List.setIfInBounds_toArray, List.set_cons_zero, List.set_cons_succ]
      refine wpAnyH_take (i := 4) (oi := { dst := some 22, op := Op.indexAddr 101 (Operand.tmp 20) (Operand.tmp 21), type := 0, pos := "ref.go:161", after := #[{ on := 2, ground := Ground.data }, { on := 3, ground := Ground.data }], guard := none }) (v := ?_) rfl (by kernel_rfl) (by kernel_rfl) (by kernel_rfl) (fun _ _ _ h => h) (Or.inl ⟨by rfl, ?_⟩) (by assumption) ?_
      rotate_left
      · (intro w9 hSw; (try dsimp only at hSw); (go_split_ands; go_simp); (try with_reducible rfl))
      try simp only [Act.put, List.setIfInBounds_toArray, List.set_cons_zero, List.set_cons_succ]
      refine wpAnyH_take (i := 5) (oi := { dst := some 23, op := Op.load 104 (Operand.tmp 22), type := 104, pos := "ref.go:161", after := #[{ on := 4, ground := Ground.data }], guard := none }) (v := ?_) rfl (by kernel_rfl) (by kernel_rfl) (by kernel_rfl) (fun _ _ _ h => h) (Or.inl ⟨by rfl, ?_⟩) (by assumption) ?_
      rotate_left
      · (intro w9 hSw; (try dsimp only at hSw); (go_split_ands; go_simp); (try with_reducible rfl))
      try simp only [Act.put, List.setIfInBounds_toArray, List.set_cons_zero, List.set_cons_succ]
      refine wpAnyH_take (i := 6) (oi := { dst := some 24, op := Op.move (Operand.tmp 1), type := 3, pos := "ref.go:161", after := #[], guard := none }) (v := ?_) rfl (by kernel_rfl) (by kernel_rfl) (by kernel_rfl) (fun _ _ _ h => h) (Or.inl ⟨by rfl, ?_⟩) (by assumption) ?_
      rotate_left
      · (intro w9 hSw; (try dsimp only at hSw); (go_split_ands; go_simp); (try with_reducible rfl))
      try simp only [Act.put, List.setIfInBounds_toArray, List.set_cons_zero, List.set_cons_succ]
      refine wpAnyH_take (i := 7) (oi := { dst := some 25, op := Op.move (Operand.tmp 2), type := 3, pos := "ref.go:161", after := #[], guard := none }) (v := ?_) rfl (by kernel_rfl) (by kernel_rfl) (by kernel_rfl) (fun _ _ _ h => h) (Or.inl ⟨by rfl, ?_⟩) (by assumption) ?_
      rotate_left
      · (intro w9 hSw; (try dsimp only at hSw); (go_split_ands; go_simp); (try with_reducible rfl))
      try simp only [Act.put, List.setIfInBounds_toArray, List.set_cons_zero, List.set_cons_succ]
      refine wpAnyH_ready (rs := [8]) (by kernel_rfl) (by simp) ?_
      refine AllReadyH.cons (o := { dst := some 26, op := Op.call { callee := Callee.value (Operand.func 94), args := #[Operand.tmp 19, Operand.tmp 23, Operand.tmp 24, Operand.tmp 25], argTypes := #[25, 104, 3, 3] }, type := 3, pos := "ref.go:161", after := #[{ on := 1, ground := Ground.data }, { on := 5, ground := Ground.data }, { on := 6, ground := Ground.data }, { on := 7, ground := Ground.data }], guard := none }) rfl (fun K hK => ?_) (AllReadyH.nil)
      clear hHeld
      have M4 := MW.out _ O3.out.bel
      have CM := Lib.hid (manyR_any cr sa ta sn sc tn tc S T oa oc (knF ((truthsL T tn).getD k [])) s c _ M4.wb.ss M4.wb.tt (AC.out _ O3.out.bel).2 (by omega) hs hft)
      rw [← HFK.out] at CM
      clear M4
      go_simp
      refine CM.out.mono ?_
      rintro e W1 ⟨rfl, hb1⟩
      have O4 := Lib.hid (O3.out.grow hb1)
      clear hb1 CM
      go_wp2_with fail
      refine hK.out _ _ ?_ (fun hHeld => ?_)
      · exact (by have hm := (MW.out _ O4.out.bel).wb.box; exact ⟨cellAt hm 0, cellAt hm 1, cellAt hm 2, (AC.out _ O4.out.bel).1⟩)
      clear hK K
      try simp only [Act.put, List.setIfInBounds_toArray, List.set_cons_zero, List.set_cons_succ]
      refine wpAnyH_ready (rs := [9]) (by kernel_rfl) (by simp) ?_
      refine AllReadyH.cons (o := { dst := some 27, op := Op.buildSlice 37 1 #[(0, Operand.tmp 26)], type := 37, pos := "ref.go:161", after := #[{ on := 8, ground := Ground.data }], guard := none }) rfl (fun K hK => ?_) (AllReadyH.nil)
      clear hHeld
      refine step_box O4.out (by rfl) (.tmp 26) (by rfl) (y := F k) (by rfl) ?_
      intro gb W2 hO
      have O5 := Lib.hid hO
      clear hO
      refine hK.out _ _ ?_ (fun hHeld => ?_)
      · (have hm := (MW.out _ O5.out.bel); exact ⟨cellAt hm.wb.box 0, cellAt hm.wb.box 1, cellAt hm.wb.box 2, (AC.out _ O5.out.bel).1⟩)
      clear hK K
      try simp only [Act.put, List.setIfInBounds_toArray, List.set_cons_zero, List.set_cons_succ]
      refine wpAnyH_ready (rs := [10]) (by kernel_rfl) (by simp) ?_
      refine AllReadyH.cons (o := { dst := some 28, op := Op.call { callee := Callee.builtin Builtin.append, args := #[Operand.tmp 18, Operand.tmp 27], argTypes := #[37, 37] }, type := 37, pos := "ref.go:161", after := #[{ on := 0, ground := Ground.data }, { on := 9, ground := Ground.data }, { on := 8, ground := Ground.chain }], guard := none }) rfl (fun K hK => ?_) (AllReadyH.nil)
      clear hHeld
      refine step_own_m O5.out (by rfl) (.tmp 18) (.tmp 27) (by rfl) 0 k (by rfl) (by rfl) (gb := gb) (y := .int .i64 (F k)) (by rfl) List.mem_cons_self (by rfl) (rowVals_length _ _) (by omega) ?_
      intro g6 p6 W3 hO
      rw [← rowVals_succ] at hO
      have O6 := Lib.hid (hO.sub (KB' := []) (fun e he => by cases he))
      clear hO
      refine hK.out _ _ ?_ (fun hHeld => ?_)
      · (have hm := (MW.out _ O6.out.bel); exact ⟨cellAt hm.wb.box 0, cellAt hm.wb.box 1, cellAt hm.wb.box 2, (AC.out _ O6.out.bel).1⟩)
      clear hK K
      try simp only [Act.put, List.setIfInBounds_toArray, List.set_cons_zero, List.set_cons_succ]
      refine wpAnyH_take (i := 11) (oi := { dst := some 7, op := Op.assign (Operand.tmp 28), type := 37, pos := "ref.go:161", after := #[{ on := 10, ground := Ground.data }, { on := 10, ground := Ground.chain }, { on := 0, ground := Ground.phase }, { on := 1, ground := Ground.phase }, { on := 2, ground := Ground.phase }, { on := 3, ground := Ground.phase }, { on := 4, ground := Ground.phase }, { on := 5, ground := Ground.phase }, { on := 6, ground := Ground.phase }, { on := 7, ground := Ground.phase }, { on := 8, ground := Ground.phase }, { on := 9, ground := Ground.phase }, { on := 10, ground := Ground.phase }], guard := none }) (v := ?_) rfl (by kernel_rfl) (by kernel_rfl) (by kernel_rfl) (fun _ _ _ h => h) (Or.inl ⟨by rfl, ?_⟩) (by assumption) ?_
      rotate_left
      · (intro w9 hSw; (try dsimp only at hSw); (go_split_ands; go_simp); (try with_reducible rfl))
      try simp only [Act.put, List.setIfInBounds_toArray, List.set_cons_zero, List.set_cons_succ]
      refine wpAnyH_done (by kernel_rfl) ?_ _
      go_wp2_with fail
      exact ⟨⟨k + 1, hlt, by go_num, O6.out⟩, by simp [intOf]; omega⟩
    · obtain rfl : N = k := by omega
      obtain ⟨oa, cap, rfl, hI, -⟩ := O2.out.ints (v := u7) (f := F) (k := N) (by simp) (by unfold maxLen; omega)
      have MM := Lib.hid (MW.out _ O2.out.bel)
      have HI := Lib.hid hI
      clear hI
      go_wp2_with (go_at_call 72; refine (hullR_any oa N cap F _ HI.out hpos).mono ?_)
      rintro e w3 ⟨rfl, hb3⟩
      have M3 := Lib.hid (MM.out.grow hb3)
      have r0 := cellAt M3.out.r 0
      have r1 := cellAt M3.out.r 1
      have f0 := freeAt M3.out.r 0
      have f1 := freeAt M3.out.r 1
      simp only [List.getElem?_toArray, List.getElem?_cons_zero, List.getElem?_cons_succ] at r0 r1
      clear hb3 MM
      go_wp2_with fail
      have hst := ((M3.out.r.store 0 (.int .i64 (loF F N))).store 1 (.int .i64 (hiF F N)))
      have z0 := cellAt hst 0
      have z1 := cellAt hst 1
      simp at z0 z1
      refine bodyPost_ret (v := .agg #[.int .i64 (loF F N), .int .i64 (hiF F N)]) (by simp [results, Try.results54, go_sem, z0, z1]) rfl ⟨rfl, ?_⟩
      exact (M3.out.wb.bel.setCell (by dsimp only; omega) _).setCell (by dsimp only; omega) _
end Go.Proofs.Ytbpeamppkdmdcaa
