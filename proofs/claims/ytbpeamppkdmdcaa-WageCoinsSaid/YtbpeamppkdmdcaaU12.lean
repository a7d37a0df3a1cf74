/-
  Walks: the span of the coins that are due, by the reference: over all truths.
-/
import Derived.Test.YtbpeamppkdmdcaaU11
namespace Go.Proofs.Ytbpeamppkdmdcaa
open Go.RowKit
attribute [local go_sem ↓] Go.wp_at_zero Go.wp_at_succ

set_option maxRecDepth 100000 in
set_option maxHeartbeats 4000000 in
theorem duesR_any (cr : Int) (sa ta : Option Addr) (sn sc tn tc : Nat) (S : Nat → Sm) (T : Nat → Tk) (c : Int) (w : World) (hv : Valid cr sn tn S T) (hS : SeamsAt w sa sn S) (hT : TicketsAt w ta tn T) (hc : countT T tn 0 ≤ 2000) :
    Calls Try.prog 68 #[.agg #[.int .i64 cr, .slice sa sn sc, .slice ta tn tc], .int .i64 c] w
      fun e w' => e = .returned (.agg #[.int .i64 (loF (fun i => coinsOf S T (knF ((truthsL T tn).getD i [])) sn tn c) (truthsL T tn).length), .int .i64 (hiF (fun i => coinsOf S T (knF ((truthsL T tn).getD i [])) sn tn c) (truthsL T tn).length)]) ∧ Below w.heap.size w w' := by
  have hlen : (truthsL T tn).length = countT T tn 0 := ext_count T tn 0 []
  have hpos := countT_pos (hv.allSpans) tn 0 (by omega)
  have HV := Lib.hid hv
  have htn6 := hv.tn6
  obtain ⟨N, eN⟩ : ∃ N, N = (truthsL T tn).length := ⟨_, rfl⟩
  rw [← eN] at hlen ⊢
  rw [← hlen] at hpos hc
  obtain ⟨F, eF⟩ : ∃ F : Nat → Int, F = fun i => coinsOf S T (knF ((truthsL T tn).getD i [])) sn tn c := ⟨_, rfl⟩
  rw [← eF]
  have HF := Lib.hid eF
  have HN := Lib.hid eN
  have HL := Lib.hid hlen
  have hb0 := ba w (.cells #[.int .i64 cr, .slice sa sn sc, .slice ta tn tc] 25)
  have hb1 := ba (w.alloc (.cells #[.int .i64 cr, .slice sa sn sc, .slice ta tn tc] 25)) (.cells #[.int .i64 0, .int .i64 0] 29)
  have I1 := Lib.hid ((WB.new (cr := cr) (sc := sc) (tc := tc) hS hT).grow hb1)
  have hr := heap_alloc_new (w.alloc (.cells #[.int .i64 cr, .slice sa sn sc, .slice ta tn tc] 25)) (.cells #[.int .i64 0, .int .i64 0] 29)
  rw [sizeAlloc] at hr
  have R1 := Lib.hid (show BoxAt ((w.alloc (.cells #[.int .i64 cr, .slice sa sn sc, .slice ta tn tc] 25)).alloc (.cells #[.int .i64 0, .int .i64 0] 29)) (w.heap.size + 1) #[.int .i64 0, .int .i64 0] 29 from hr)
  clear hS hT eF eN hlen hb0 hb1 hr hv
  go_enter Try.func68, Try.ntmps68
  go_wp2_with (go_at_call 63; refine (truthsAll_any cr sa ta sn sc tn tc S T _ I1.out.ss I1.out.tt HV.out.allSpans htn6 (by rw [← HL.out]; omega)).mono ?_)
  rintro e w1 ⟨v', rfl, ho, hb⟩
  have M1 := Lib.hid (show MI w cr sa ta sn sc tn tc S T _ v' w1 from ⟨I1.out.grow hb, R1.out.grow hb, ho⟩)
  have MW := Lib.hid (fun W (h : Below w1.heap.size w1 W) => M1.out.grow h)
  have AT := Lib.hid (fun W (h : Below w1.heap.size w1 W) (i : Nat) (hi : i < N) => (M1.out.grow h).out.at (i := i) (by rw [← HN.out]; exact hi))
  obtain ⟨g, gc, oa0, c0, hv', -⟩ := AT.out _ (Below.refl _ _) 0 hpos
  rw [← HN.out] at hv'
  subst hv'
  have O1 := Lib.hid (Own.start (B := w1.heap.size) (w0 := w1) (W := w1) (KB := []) (VS := [(.slice none 0 0, rowVals F 0)]) (Below.refl _ _) (Nat.le_refl _) (fun e he => by cases he) (fun e he => by simpa [rowVals] using he))
  clear I1 R1 ho hb M1
  go_wp2_with fail
  go_loopw [5, 7] (fun lv i W => ∃ k : Nat, k ≤ N ∧ i = .int .i64 k ∧ Own w1.heap.size w1 [] [(lv, rowVals F k)] W) (fun _ i _ => N - (intOf i).toNat)
  case atStart => exact ⟨0, Nat.zero_le _, rfl, O1.out⟩
  case round =>
    clear O1
    obtain ⟨k, hk, rfl, ho⟩ := hrel
    have O2 := Lib.hid ho
    clear ho
    by_cases hlt : k < N
    · have hix := fun w => run_indexAt_row (w := w) (oa := some ⟨g, 0, none⟩) (cap := gc) Try.underlying101 size104 rfl hlt
      simp only [blk, ofs, Nat.zero_add, Nat.mul_one] at hix
      obtain ⟨g', gc', oa, oc, hv2, hgl, hcell, hkn⟩ := AT.out _ (Below.refl _ _) k hlt
      simp only [Value.slice.injEq, Option.some.injEq, Addr.mk.injEq] at hv2
      obtain ⟨⟨rfl, -, -⟩, -, rfl⟩ := hv2
      have AC := Lib.hid (fun W2 (h : Below w1.heap.size w1 W2) => (⟨(h.cell (p := ⟨g, k, none⟩) hgl).trans hcell, KnAt.grow hkn h⟩ : W2.cell? ⟨g, k, none⟩ = some (.slice oa tn oc) ∧ KnAt W2 oa tn (knF ((truthsL T tn).getD k []))))
      clear hcell hkn
      have hfk : F k = coinsOf S T (knF ((truthsL T tn).getD k [])) sn tn c := by rw [HF.out]
      have HFK := Lib.hid hfk
      clear hfk
      go_wp2_with fail
      have O3 := Lib.hid O2.out.drew
      refine wp_region_held_drew (S := (fun w' => w'.cell? ⟨w.heap.size, 0, none⟩ = some (.int .i64 cr) ∧ w'.cell? ⟨w.heap.size, 1, none⟩ = some (.slice sa sn sc) ∧ w'.cell? ⟨w.heap.size, 2, none⟩ = some (.slice ta tn tc) ∧ w'.cell? ⟨g, k, none⟩ = some (.slice oa tn oc))) (by kernel_rfl) (by exact (by have hm := (MW.out _ O3.out.bel).wb.box; exact ⟨cellAt hm 0, cellAt hm 1, cellAt hm 2, (AC.out _ O3.out.bel).1⟩)) (fun hHeld => ?_)
      refine wpAnyH_take (i := 0) (oi := { dst := some 16, op := Op.move (Operand.tmp 5), type := 37, pos := "ref.go:189", after := #[], guard := none }) (v := ?_) rfl (by kernel_rfl) (by kernel_rfl) (by kernel_rfl) (fun _ _ _ h => h) (Or.inl ⟨by rfl, ?_⟩) (by assumption) ?_
      rotate_left
      · (intro w9 hSw; (try dsimp only at hSw); (go_split_ands; go_simp); (try with_reducible rfl))
      try simp only [Act.put, List.setIfInBounds_toArray, List.set_cons_zero, List.set_cons_succ]
      refine wpAnyH_take (i := 1) (oi := { dst := some 17, op := Op.load 25 (Operand.tmp 2), type := 25, pos := "ref.go:189", after := #[], guard := none }) (v := ?_) rfl (by kernel_rfl) (by kernel_rfl) (by kernel_rfl) (fun _ _ _ h => h) (Or.inl ⟨by rfl, ?_⟩) (by assumption) ?_
      rotate_left
      · (intro w9 hSw; (try dsimp only at hSw); (go_split_ands; go_simp); (try with_reducible rfl))
      try simp only [Act.put, List.setIfInBounds_toArray, List.set_cons_zero, List.set_cons_succ]
      refine wpAnyH_take (i := 2) (oi := { dst := some 18, op := Op.move (Operand.tmp 6), type := 101, pos := "ref.go:189", after := #[], guard := none }) (v := ?_) rfl (by kernel_rfl) (by kernel_rfl) (by kernel_rfl) (fun _ _ _ h => h) (Or.inl ⟨by rfl, ?_⟩) (by assumption) ?_
      rotate_left
      · (intro w9 hSw; (try dsimp only at hSw); (go_split_ands; go_simp); (try with_reducible rfl))
      try simp only [Act.put, List.setIfInBounds_toArray, List.set_cons_zero, List.set_cons_succ]
      refine wpAnyH_take (i := 3) (oi := { dst := some 19, op := Op.move (Operand.tmp 7), type := 3, pos := "ref.go:189", after := #[], guard := none }) (v := ?_) rfl (by kernel_rfl) (by kernel_rfl) (by kernel_rfl) (fun _ _ _ h => h) (Or.inl ⟨by rfl, ?_⟩) (by assumption) ?_
      rotate_left
      · (intro w9 hSw; (try dsimp only at hSw); (go_split_ands; go_simp); (try with_reducible rfl))
      try simp only [Act.put, List.setIfInBounds_toArray, List.set_cons_zero, List.set_cons_succ]
      refine wpAnyH_take (i := 4) (oi := { dst := some 20, op := Op.indexAddr 101 (Operand.tmp 18) (Operand.tmp 19), type := 0, pos := "ref.go:189", after := #[{ on := 2, ground := Ground.data }, { on := 3, ground := Ground.data }], guard := none }) (v := ?_) rfl (by kernel_rfl) (by kernel_rfl) (by kernel_rfl) (fun _ _ _ h => h) (Or.inl ⟨by rfl, ?_⟩) (by assumption) ?_
      rotate_left
      · (intro w9 hSw; (try dsimp only at hSw); (go_split_ands; go_simp); (try with_reducible rfl))
      try simp only [Act.put, List.setIfInBounds_toArray, List.set_cons_zero, List.set_cons_succ]
      refine wpAnyH_take (i := 5) (oi := { dst := some 21, op := Op.load 104 (Operand.tmp 20), type := 104, pos := "ref.go:189", after := #[{ on := 4, ground := Ground.data }], guard := none }) (v := ?_) rfl (by kernel_rfl) (by kernel_rfl) (by kernel_rfl) (fun _ _ _ h => h) (Or.inl ⟨by rfl, ?_⟩) (by assumption) ?_
      rotate_left
      · (intro w9 hSw; (try dsimp only at hSw); (go_split_ands; go_simp); (try with_reducible rfl))
      try simp only [Act.put, List.setIfInBounds_toArray, List.set_cons_zero, List.set_cons_succ]
      refine wpAnyH_take (i := 6) (oi := { dst := some 22, op := Op.move (Operand.tmp 1), type := 3, pos := "ref.go:189", after := #[], guard := none }) (v := ?_) rfl (by kernel_rfl) (by kernel_rfl) (by kernel_rfl) (fun _ _ _ h => h) (Or.inl ⟨by rfl, ?_⟩) (by assumption) ?_
      rotate_left
      · (intro w9 hSw; (try dsimp only at hSw); (go_split_ands; go_simp); (try with_reducible rfl))
      try simp only [Act.put, List.setIfInBounds_toArray, List.set_cons_zero, List.set_cons_succ]
      refine wpAnyH_ready (rs := [7]) (by kernel_rfl) (by simp) ?_
      refine AllReadyH.cons (o := { dst := some 23, op := Op.call { callee := Callee.value (Operand.func 75), args := #[Operand.tmp 17, Operand.tmp 21, Operand.tmp 22], argTypes := #[25, 104, 3] }, type := 3, pos := "ref.go:189", after := #[{ on := 1, ground := Ground.data }, { on := 5, ground := Ground.data }, { on := 6, ground := Ground.data }], guard := none }) rfl (fun K hK => ?_) (AllReadyH.nil)
      clear hHeld
      have M4 := MW.out _ O3.out.bel
      have CM := Lib.hid (coinsR_any cr sa ta sn sc tn tc S T oa oc (knF ((truthsL T tn).getD k [])) c _ HV.out M4.wb.ss M4.wb.tt (AC.out _ O3.out.bel).2)
      rw [← HFK.out] at CM
      clear M4
      go_simp
      refine CM.out.mono ?_
      rintro e W1 ⟨rfl, hb1⟩
      have O4 := Lib.hid (O3.out.grow hb1)
      clear hb1 CM
      go_wp2_with fail
      refine hK.out _ _ ?_ (fun hHeld => ?_)
      · exact (by have hm := (MW.out _ O4.out.bel).wb.box; exact ⟨cellAt hm 0, cellAt hm 1, cellAt hm 2, (AC.out _ O4.out.bel).1⟩)
      clear hK K
      try simp only [Act.put, List.setIfInBounds_toArray, List.set_cons_zero, List.set_cons_succ]
      refine wpAnyH_ready (rs := [8]) (by kernel_rfl) (by simp) ?_
      refine AllReadyH.cons (o := { dst := some 24, op := Op.buildSlice 37 1 #[(0, Operand.tmp 23)], type := 37, pos := "ref.go:189", after := #[{ on := 7, ground := Ground.data }], guard := none }) rfl (fun K hK => ?_) (AllReadyH.nil)
      clear hHeld
      refine step_box O4.out (by rfl) (.tmp 23) (by rfl) (y := F k) (by rfl) ?_
      intro gb W2 hO
      have O5 := Lib.hid hO
      clear hO
      refine hK.out _ _ ?_ (fun hHeld => ?_)
      · (have hm := (MW.out _ O5.out.bel); exact ⟨cellAt hm.wb.box 0, cellAt hm.wb.box 1, cellAt hm.wb.box 2, (AC.out _ O5.out.bel).1⟩)
      clear hK K
      try simp only [Act.put, List.setIfInBounds_toArray, List.set_cons_zero, List.set_cons_succ]
      refine wpAnyH_ready (rs := [9]) (by kernel_rfl) (by simp) ?_
      refine AllReadyH.cons (o := { dst := some 25, op := Op.call { callee := Callee.builtin Builtin.append, args := #[Operand.tmp 16, Operand.tmp 24], argTypes := #[37, 37] }, type := 37, pos := "ref.go:189", after := #[{ on := 0, ground := Ground.data }, { on := 8, ground := Ground.data }, { on := 7, ground := Ground.chain }], guard := none }) rfl (fun K hK => ?_) (AllReadyH.nil)
      clear hHeld
      refine step_own_m O5.out (by rfl) (.tmp 16) (.tmp 24) (by rfl) 0 k (by rfl) (by rfl) (gb := gb) (y := .int .i64 (F k)) (by rfl) List.mem_cons_self (by rfl) (rowVals_length _ _) (by omega) ?_
      intro g6 p6 W3 hO
      rw [← rowVals_succ] at hO
      have O6 := Lib.hid (hO.sub (KB' := []) (fun e he => by cases he))
      clear hO
      refine hK.out _ _ ?_ (fun hHeld => ?_)
      · (have hm := (MW.out _ O6.out.bel); exact ⟨cellAt hm.wb.box 0, cellAt hm.wb.box 1, cellAt hm.wb.box 2, (AC.out _ O6.out.bel).1⟩)
      clear hK K
      try simp only [Act.put, List.setIfInBounds_toArray, List.set_cons_zero, List.set_cons_succ]
      refine wpAnyH_take (i := 10) (oi := { dst := some 5, op := Op.assign (Operand.tmp 25), type := 37, pos := "ref.go:189", after := #[{ on := 9, ground := Ground.data }, { on := 9, ground := Ground.chain }, { on := 0, ground := Ground.phase }, { on := 1, ground := Ground.phase }, { on := 2, ground := Ground.phase }, { on := 3, ground := Ground.phase }, { on := 4, ground := Ground.phase }, { on := 5, ground := Ground.phase }, { on := 6, ground := Ground.phase }, { on := 7, ground := Ground.phase }, { on := 8, ground := Ground.phase }, { on := 9, ground := Ground.phase }], guard := none }) (v := ?_) rfl (by kernel_rfl) (by kernel_rfl) (by kernel_rfl) (fun _ _ _ h => h) (Or.inl ⟨by rfl, ?_⟩) (by assumption) ?_
      rotate_left
      · (intro w9 hSw; (try dsimp only at hSw); (go_split_ands; go_simp); (try with_reducible rfl))
      try simp only [Act.put, List.setIfInBounds_toArray, List.set_cons_zero, List.set_cons_succ]
      refine wpAnyH_done (by kernel_rfl) ?_ _
      go_wp2_with fail
      exact ⟨⟨k + 1, hlt, by go_num, O6.out⟩, by simp [intOf]; omega⟩
    · obtain rfl : N = k := by omega
      obtain ⟨oa, cap, rfl, hI, -⟩ := O2.out.ints (v := u5) (f := F) (k := N) (by simp) (by unfold maxLen; omega)
      have MM := Lib.hid (MW.out _ O2.out.bel)
      have HI := Lib.hid hI
      clear hI
      go_wp2_with (go_at_call 72; refine (hullR_any oa N cap F _ HI.out hpos).mono ?_)
      rintro e w3 ⟨rfl, hb3⟩
      have M3 := Lib.hid (MM.out.grow hb3)
      have r0 := cellAt M3.out.r 0
      have r1 := cellAt M3.out.r 1
      have f0 := freeAt M3.out.r 0
      have f1 := freeAt M3.out.r 1
      simp only [List.getElem?_toArray, List.getElem?_cons_zero, List.getElem?_cons_succ] at r0 r1
      clear hb3 MM
      go_wp2_with fail
      have hst := ((M3.out.r.store 0 (.int .i64 (loF F N))).store 1 (.int .i64 (hiF F N)))
      have z0 := cellAt hst 0
      have z1 := cellAt hst 1
      simp at z0 z1
      refine bodyPost_ret (v := .agg #[.int .i64 (loF F N), .int .i64 (hiF F N)]) (by simp [results, Try.results68, go_sem, z0, z1]) rfl ⟨rfl, ?_⟩
      exact (M3.out.wb.bel.setCell (by dsimp only; omega) _).setCell (by dsimp only; omega) _
end Go.Proofs.Ytbpeamppkdmdcaa
