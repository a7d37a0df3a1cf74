/-
  span04; the wage's rows out of ours; awake12.
  The law: gangs that are none, or too many; no deal.
-/
import Derived.Test.YtikeihnhkiipgaaGreatI6
import Derived.Test.YtikeihnhkiipgaaGreatQF1
import Derived.Test.YtikeihnhkiipgaaGreatWP
import Derived.Test.YtikeihnhkiipgaaGreatWG7
import Derived.Test.YtikeihnhkiipgaaGreatH0
namespace Go.Proofs.YtikeihnhkiipgaaGreat
open Go.RowKit

set_option maxHeartbeats 400000 in
theorem span_any (lo hi : Int) (w : World) :
    Calls Tryz.prog 9 #[.int .i64 lo, .int .i64 hi] w fun e w' => e = .returned (.agg #[.int .i64 lo, .int .i64 hi]) ∧ Below w.heap.size w w' := by
  have al := (Below.refl w.heap.size w).alloc (Nat.le_refl _) (.cells #[.int .i64 lo, .int .i64 hi] 50)
  have X := Lib.hid (show BoxAt (w.alloc (.cells #[.int .i64 lo, .int .i64 hi] 50)) w.heap.size #[.int .i64 lo, .int .i64 hi] 50 from heap_alloc_new _ _)
  have c0 := cellAt X.out 0
  have c1 := cellAt X.out 1
  simp only [List.getElem?_toArray, List.getElem?_cons_zero, List.getElem?_cons_succ] at c0 c1
  go_enter Tryz.func9, Tryz.ntmps9
  go_wp2_with fail
  exact bodyPost_ret (v := .agg #[.int .i64 lo, .int .i64 hi]) (by simp [results, Tryz.results9, go_sem, c0, c1]) rfl ⟨rfl, al⟩
theorem wa_row {W : World} {oa : Option Addr} {n sz : Nat} {cell : Nat → Nat → Value} (h : Row W oa n sz cell) : Wa.Row W oa n sz cell := by
  obtain ⟨h1, h2, h3, h4⟩ := h
  cases oa with
  | none => exact ⟨h1, h2, h3, h4⟩
  | some x => exact ⟨h1, h2, h3, h4⟩
theorem of_wa_row {W : World} {oa : Option Addr} {n sz : Nat} {cell : Nat → Nat → Value} (h : Wa.Row W oa n sz cell) : Row W oa n sz cell := by
  obtain ⟨h1, h2, h3, h4⟩ := h
  cases oa with
  | none => exact ⟨h1, h2, h3, h4⟩
  | some x => exact ⟨h1, h2, h3, h4⟩
def S12 : Nat → Wa.Sm := fun _ => ⟨4, 5⟩
def T12 : Nat → Wa.Tk := fun _ => ⟨1, 0, 0, 1, 4, 4, 5, 5⟩
theorem v12 : Wa.Valid 2 1 1 S12 T12 := ⟨by decide, by decide, by decide, by decide, fun _ _ => (show (0 : Int) ≤ 4 ∧ (4 : Int) ≤ 20 from by decide), fun _ _ => (show (0 : Int) ≤ 5 ∧ (5 : Int) ≤ 50 from by decide), fun _ _ => (show (0 : Int) ≤ 1 ∧ (1 : Int) < 2 ∧ (0 : Int) ≤ 0 ∧ (0 : Int) < (1 : Nat) from by decide), fun _ _ => (show Wa.spanB 5 5 40 = true from by decide), fun _ _ => (show Wa.spanB 0 1 4 = true from by decide), fun _ _ => (show Wa.spanB 4 4 4 = true from by decide)⟩
theorem due12 : Wa.coinsOf S12 T12 (Wa.leastK 1 T12) 1 1 1 = 15 ∧ Wa.coinsOf S12 T12 (Wa.mostK 1 T12) 1 1 1 = 20 := by decide +kernel
def sh12 : Nat → Int := fun i => if i = 0 then 3 else if i = 1 then 2 else 1
theorem share12 : Wa.shareOk 7 3 sh12 = true ∧ Wa.rowVals (Wa.shareF sh12 3 7) 3 = [.int .i64 4, .int .i64 2, .int .i64 1] := by
  refine ⟨by decide +kernel, ?_⟩
  have h : Wa.shareF sh12 3 7 0 = 4 ∧ Wa.shareF sh12 3 7 1 = 2 ∧ Wa.shareF sh12 3 7 2 = 1 := by decide +kernel
  simp only [Wa.rowVals, List.range_succ, List.range_zero, List.nil_append, List.map_append, List.map_cons, List.map_nil, h.1, h.2.1, h.2.2]
  rfl
set_option maxRecDepth 100000 in
set_option maxHeartbeats 2000000 in
theorem awake12_any (w : World) : Calls Tryz.prog 5 #[] w fun e w' => e = .returned (.bool true) ∧ Below w.heap.size w w' := by
  go_enter Tryz.func5, Tryz.ntmps5
  go_upto_region 2 with (go_at_call 9; refine (span_any _ _ _).mono ?_; rintro e w1 ⟨rfl, hb1⟩)
  rename_i wa hba wb hbb K9 hK9
  have al0 := (Below.refl w.heap.size w).alloc (Nat.le_refl _) (.cells #[.int .i64 4, .int .i64 5] 43)
  have HB := ((al0.next hba).next hbb).next hb1
  have xs := (((show BoxAt (w.alloc (.cells #[.int .i64 4, .int .i64 5] 43)) w.heap.size #[.int .i64 4, .int .i64 5] 43 from heap_alloc_new _ _).grow hba).grow hbb).grow hb1
  generalize hW : (w1.alloc (.cells #[.int .i64 1, .int .i64 0, .int .i64 0, .int .i64 1, .int .i64 4, .int .i64 4, .int .i64 5, .int .i64 5] 53)).alloc _ = W
  obtain ⟨z0, z1, -, hB⟩ := blocks2 hW
  have HBW := Lib.hid (HB.next hB)
  have XW := Lib.hid (show BoxAt W (w1.heap.size + 1) #[.int .i64 2, .slice (some ⟨w.heap.size, 0, none⟩) 1 1, .slice (some ⟨w1.heap.size, 0, none⟩) 1 1] 39 from z1)
  have HS := Lib.hid (show Wa.SeamsAt W (some ⟨w.heap.size, 0, none⟩) 1 S12 from wa_row (row_lit (xs.grow hB) (by unfold maxLen; omega) (fun i hi j hj => by
    obtain rfl : i = 0 := by omega
    match j, hj with
    | 0, _ => rfl
    | 1, _ => rfl)))
  have HT := Lib.hid (show Wa.TicketsAt W (some ⟨w1.heap.size, 0, none⟩) 1 T12 from wa_row (row_lit (show BoxAt W w1.heap.size _ 53 from z0) (by unfold maxLen; omega) (fun i hi j hj => by
    obtain rfl : i = 0 := by omega
    match j, hj with
    | 0, _ => rfl
    | 1, _ => rfl
    | 2, _ => rfl
    | 3, _ => rfl
    | 4, _ => rfl
    | 5, _ => rfl
    | 6, _ => rfl
    | 7, _ => rfl)))
  clear z0 z1 hB hW HB xs al0 hb1 hba hbb
  generalize w1.heap.size = x1 at *
  generalize hsa : w.heap.size = sa at *
  have C1 := Lib.hid (show Calls Tryz.prog 10 #[.agg #[.int .i64 2, .slice (some ⟨sa, 0, none⟩) 1 1, .slice (some ⟨x1, 0, none⟩) 1 1], .int .i64 1] W fun e w' => e = .returned (.tuple #[.agg #[.int .i64 15, .int .i64 20], .int .i64 0]) ∧ Below W.heap.size W w' from
    (Wa.dues_any 2 (some ⟨sa, 0, none⟩) (some ⟨x1, 0, none⟩) 1 1 1 1 S12 T12 1 W HS.out HT.out).mono fun e w' h => by
      obtain ⟨hb, ⟨-, -, h⟩ | ⟨-, h, -⟩ | ⟨h, -⟩⟩ := h
      · rw [due12.1, due12.2] at h
        exact ⟨h, hb⟩
      · exact absurd h (by decide)
      · exact absurd v12 h)
  have c0 := cellAt XW.out 0
  have c1 := cellAt XW.out 1
  have c2 := cellAt XW.out 2
  simp only [List.getElem?_toArray, List.getElem?_cons_zero, List.getElem?_cons_succ] at c0 c1 c2
  go_upto_region 3 with (go_at_call 10; refine C1.out.mono ?_; rintro e w2 ⟨rfl, hb2⟩)
  clear c0 c1 c2 C1
  have HS2 := Lib.hid (HBW.out.trans (hb2.mono (by have := HBW.out.size; omega)))
  generalize hW3 : w2.alloc (.cells #[.int .i64 15, .int .i64 20] 50) = w3 at *
  have X3 := Lib.hid (show BoxAt w3 w2.heap.size #[.int .i64 15, .int .i64 20] 50 from by rw [← hW3]; exact heap_alloc_new _ _)
  have B3 := Lib.hid (show Below sa w w3 from by rw [← hW3]; exact HS2.out.alloc (by have := HS2.out.size; omega) _)
  clear hW3 HS2 hb2 XW HT HS HBW
  have al := (Below.refl w3.heap.size w3).alloc (Nat.le_refl _) (.cells #[.int .i64 3, .int .i64 2, .int .i64 1] 3)
  have C2 := Lib.hid (show Calls Tryz.prog 11 #[.int .i64 7, .slice (some ⟨w3.heap.size, 0, none⟩) 3 3] (w3.alloc (.cells #[.int .i64 3, .int .i64 2, .int .i64 1] 3)) fun e w' => ∃ g, e = .returned (.tuple #[.slice (some ⟨g, 0, none⟩) 3 3, .int .i64 0]) ∧ BoxAt w' g #[.int .i64 4, .int .i64 2, .int .i64 1] 3 ∧ Below w3.heap.size w3 w' from
    (Wa.shares_any 7 (some ⟨w3.heap.size, 0, none⟩) 3 3 sh12 _ (wa_row (row_lit (heap_alloc_new w3 _) (by unfold maxLen; omega) (fun i hi j hj => by
      obtain rfl : j = 0 := by omega
      rcases (show i = 0 ∨ i = 1 ∨ i = 2 by omega) with rfl | rfl | rfl <;> rfl)))).mono fun e w' h => by
      obtain ⟨hb, ⟨-, g, -, he, hg⟩ | ⟨h, -⟩⟩ := h
      · rw [show (7 : Int).toNat = 7 from rfl, share12.2] at hg
        exact ⟨g, he, hg, al.next hb⟩
      · rw [share12.1] at h; cases h)
  clear al
  go_upto_region 4 with (go_at_call 11; refine C2.out.mono ?_; rintro e w4 ⟨gs, rfl, hgs, hb4⟩)
  have GS := Lib.hid hgs
  have X4 := Lib.hid (X3.out.grow hb4)
  have B4 := Lib.hid (show Below sa w w4 from B3.out.trans (hb4.mono (by have := B3.out.size; omega)))
  clear hgs hb4 C2 X3 B3
  generalize w2.heap.size = x2 at *
  have D0 := (Below.refl w4.heap.size w4).drew
  refine wp_region_stg (S := (fun w' : World => w'.cell? ⟨x2, 0, none⟩ = some (.int .i64 15) ∧ w'.cell? ⟨x2, 1, none⟩ = some (.int .i64 20))) (L := []) (D := []) (by kernel_rfl) (by kernel_rfl) ⟨cellAt (X4.out.grow D0) 0, cellAt (X4.out.grow D0) 1⟩ (by intro e he; cases he) (fun hC0 hH0 => ?_)
  have X5 := Lib.hid (X4.out.grow D0)
  have G5 := Lib.hid (GS.out.grow D0)
  have B5 := Lib.hid (show Below sa w w4.drew from B4.out.trans (D0.mono (by have := B4.out.size; omega)))
  clear X4 GS B4 D0
  generalize w4.drew = w5 at *
  refine wpAnyT_take (i := 0) (oi := _) (v := ?_) rfl (by kernel_rfl) (by kernel_rfl) (by kernel_rfl) (fun _ _ _ h => h) (by kernel_rfl) (by rfl) hC0 (Or.inl ⟨by rfl, ?_⟩) hH0 (fun hC1 hH1 => ?_)
  rotate_left
  · (intro w9 hSw; obtain ⟨hSw, hLw⟩ := hSw; clear hLw; (try dsimp only at hSw); (go_split_ands; go_simp); (try with_reducible rfl))
  clear hC0 hH0
  try simp only [Act.put, List.setIfInBounds_toArray]
  refine wpAnyT_one (i := 1) (o := _) (by kernel_rfl) rfl (by kernel_rfl) hC1 (fun K hK => ?_)
  clear hC1 hH1
  go_simp
  (with_reducible refine (span_any _ _ _).mono ?_)
  rintro e w6 ⟨rfl, hb6⟩
  have X6 := Lib.hid (X5.out.grow hb6)
  have G6 := Lib.hid (G5.out.grow hb6)
  have B6 := Lib.hid (show Below sa w w6 from B5.out.trans (hb6.mono (by have := B5.out.size; omega)))
  clear X5 G5 B5 hb6
  go_wp2_with fail
  refine hK.out _ _ ?_ (fun hC2 hH2 => ?_)
  · exact ⟨⟨cellAt X6.out 0, cellAt X6.out 1⟩, fun e he => by cases he⟩
  clear hK K
  try simp only [Act.put, List.setIfInBounds_toArray, List.set_cons_zero, List.set_cons_succ]
  refine wpAnyT_take (i := 2) (oi := _) (v := ?_) rfl (by kernel_rfl) (by kernel_rfl) (by kernel_rfl) (fun _ _ _ h => h) (by kernel_rfl) (by rfl) hC2 (Or.inl ⟨by rfl, ?_⟩) hH2 (fun hC3 hH3 => ?_)
  rotate_left
  · (intro w9 hSw; obtain ⟨hSw, hLw⟩ := hSw; clear hLw; (try dsimp only at hSw); (go_split_ands; go_simp); (try with_reducible rfl))
  clear hC2 hH2
  try simp only [Act.put, List.setIfInBounds_toArray]
  refine wpAnyT_take (i := 3) (oi := _) (v := ?_) rfl (by kernel_rfl) (by kernel_rfl) (by kernel_rfl) (fun _ _ _ h => h) (by kernel_rfl) (by rfl) hC3 (Or.inl ⟨by rfl, ?_⟩) hH3 (fun hC4 hH4 => ?_)
  rotate_left
  · (intro w9 hSw; obtain ⟨hSw, hLw⟩ := hSw; clear hLw; (try dsimp only at hSw); (go_split_ands; go_simp); (try with_reducible rfl))
  clear hC3 hH3
  try simp only [Act.put]
  refine wpAnyT_take (i := 4) (oi := _) (v := ?_) rfl (by kernel_rfl) (by kernel_rfl) (by kernel_rfl) (fun _ _ _ h => h) (by kernel_rfl) (by rfl) hC4 (Or.inl ⟨by rfl, ?_⟩) hH4 (fun hC5 hH5 => ?_)
  rotate_left
  · (intro w9 hSw; obtain ⟨hSw, hLw⟩ := hSw; clear hLw; (try dsimp only at hSw); (go_split_ands; go_simp); (try with_reducible rfl))
  clear hC4 hH4
  try simp only [Act.put]
  refine wpAnyT_take (i := 5) (oi := _) (v := ?_) rfl (by kernel_rfl) (by kernel_rfl) (by kernel_rfl) (fun _ _ _ h => h) (by kernel_rfl) (by rfl) hC5 (Or.inl ⟨by rfl, ?_⟩) hH5 (fun hC6 hH6 => ?_)
  rotate_left
  · (intro w9 hSw; obtain ⟨hSw, hLw⟩ := hSw; clear hLw; (try dsimp only at hSw); (go_split_ands; go_simp); (try with_reducible rfl))
  clear hC5 hH5
  try simp only [Act.put]
  refine wpAnyT_take (i := 6) (oi := _) (v := ?_) rfl (by kernel_rfl) (by kernel_rfl) (by kernel_rfl) (fun _ _ _ h => h) (by kernel_rfl) (by rfl) hC6 (Or.inl ⟨by rfl, ?_⟩) hH6 (fun hC7 hH7 => ?_)
  rotate_left
  · (intro w9 hSw; obtain ⟨hSw, hLw⟩ := hSw; clear hLw; (try dsimp only at hSw); (go_split_ands; go_simp); (try with_reducible rfl))
  clear hC6 hH6
  try simp only [Act.put]
  refine wpAnyT_take (i := 7) (oi := _) (v := ?_) rfl (by kernel_rfl) (by kernel_rfl) (by kernel_rfl) (fun _ _ _ h => h) (by kernel_rfl) (by rfl) hC7 (Or.inl ⟨by rfl, ?_⟩) hH7 (fun hC8 hH8 => ?_)
  rotate_left
  · (intro w9 hSw; obtain ⟨hSw, hLw⟩ := hSw; clear hLw; (try dsimp only at hSw); (go_split_ands; go_simp); (try with_reducible rfl))
  clear hC7 hH7
  try simp only [Act.put]
  refine wpAnyT_take (i := 8) (oi := _) (v := ?_) rfl (by kernel_rfl) (by kernel_rfl) (by kernel_rfl) (fun _ _ _ h => h) (by kernel_rfl) (by rfl) hC8 (Or.inl ⟨by rfl, ?_⟩) hH8 (fun hC9 hH9 => ?_)
  rotate_left
  · (intro w9 hSw; obtain ⟨hSw, hLw⟩ := hSw; clear hLw; (try dsimp only at hSw); (go_split_ands; go_simp); (try with_reducible rfl))
  clear hC8 hH8
  try simp only [Act.put]
  have al := (Below.refl w6.heap.size w6).alloc (Nat.le_refl _) (.cells #[.int .i64 4, .int .i64 2, .int .i64 1] 3)
  have X7 := Lib.hid (X6.out.grow al)
  have G7 := Lib.hid (G6.out.grow al)
  have B7 := Lib.hid (show Below sa w (w6.alloc (.cells #[.int .i64 4, .int .i64 2, .int .i64 1] 3)) from B6.out.trans (al.mono (by have := B6.out.size; omega)))
  have N7 := Lib.hid (show BoxAt (w6.alloc (.cells #[.int .i64 4, .int .i64 2, .int .i64 1] 3)) w6.heap.size #[.int .i64 4, .int .i64 2, .int .i64 1] 3 from heap_alloc_new _ _)
  clear al X6 G6 B6
  refine wpAnyT_one (i := 9) (o := _) (by kernel_rfl) rfl (by kernel_rfl) hC9 (fun K hK => ?_)
  clear hC9 hH9
  go_simp
  refine hK.out _ _ ?_ (fun hC10 hH10 => ?_)
  · exact ⟨⟨cellAt X7.out 0, cellAt X7.out 1⟩, fun e he => by cases he⟩
  clear hK K
  try simp only [Act.put, List.setIfInBounds_toArray, List.set_cons_zero, List.set_cons_succ]
  generalize World.alloc w6 _ = w7 at *
  generalize w6.heap.size = x6 at *
  have C3 := Lib.hid (ints_eq (some ⟨gs, 0, none⟩) (some ⟨x6, 0, none⟩) 3 3 3 (fun i => if i = 0 then 4 else if i = 1 then 2 else 1) w7 (by decide) (row_lit G7.out (by unfold maxLen; omega) (fun i hi j hj => by
    obtain rfl : j = 0 := by omega
    rcases (show i = 0 ∨ i = 1 ∨ i = 2 by omega) with rfl | rfl | rfl <;> rfl)) (row_lit N7.out (by unfold maxLen; omega) (fun i hi j hj => by
    obtain rfl : j = 0 := by omega
    rcases (show i = 0 ∨ i = 1 ∨ i = 2 by omega) with rfl | rfl | rfl <;> rfl)))
  refine wpAnyT_one (i := 10) (o := _) (by kernel_rfl) rfl (by kernel_rfl) hC10 (fun K hK => ?_)
  clear hC10 hH10
  go_simp
  (with_reducible refine C3.out.mono ?_)
  rintro e w8 ⟨rfl, j, hw8⟩
  have hb8 : Below w7.heap.size w7 w8 := by rw [hw8]; exact below_drewN (Below.refl _ _) j
  have X8 := Lib.hid (X7.out.grow hb8)
  have B8 := Lib.hid (show Below sa w w8 from B7.out.trans (hb8.mono (by have := B7.out.size; omega)))
  clear X7 G7 B7 N7 hb8 hw8 C3
  go_wp2_with fail
  refine hK.out _ _ ?_ (fun hC11 hH11 => ?_)
  · exact ⟨⟨cellAt X8.out 0, cellAt X8.out 1⟩, fun e he => by cases he⟩
  clear hK K
  try simp only [Act.put, List.setIfInBounds_toArray, List.set_cons_zero, List.set_cons_succ]
  refine wpAnyT_take (i := 11) (oi := _) (v := ?_) rfl (by kernel_rfl) (by kernel_rfl) (by kernel_rfl) (fun _ _ _ h => h) (by kernel_rfl) (by rfl) hC11 (Or.inl ⟨by rfl, ?_⟩) hH11 (fun hC12 hH12 => ?_)
  rotate_left
  · (intro w9 hSw; obtain ⟨hSw, hLw⟩ := hSw; clear hLw; (try dsimp only at hSw); (go_split_ands; go_simp); (try with_reducible rfl))
  clear hC11 hH11
  try simp only [Act.put, List.setIfInBounds_toArray]
  refine wpAnyT_take (i := 12) (oi := _) (v := ?_) rfl (by kernel_rfl) (by kernel_rfl) (by kernel_rfl) (fun _ _ _ h => h) (by kernel_rfl) (by rfl) hC12 (Or.inl ⟨by rfl, ?_⟩) hH12 (fun hC13 hH13 => ?_)
  rotate_left
  · (intro w9 hSw; obtain ⟨hSw, hLw⟩ := hSw; clear hLw; (try dsimp only at hSw); (go_split_ands; go_simp); (try with_reducible rfl))
  clear hC12 hH12
  try simp only [Act.put]
  refine wpAnyT_take (i := 13) (oi := _) (v := ?_) rfl (by kernel_rfl) (by kernel_rfl) (by kernel_rfl) (fun _ _ _ h => h) (by kernel_rfl) (by rfl) hC13 (Or.inl ⟨by rfl, ?_⟩) hH13 (fun hC14 hH14 => ?_)
  rotate_left
  · (intro w9 hSw; obtain ⟨hSw, hLw⟩ := hSw; clear hLw; (try dsimp only at hSw); (go_split_ands; go_simp); (try with_reducible rfl))
  clear hC13 hH13
  try simp only [Act.put]
  refine wpAnyT_take (i := 14) (oi := _) (v := ?_) rfl (by kernel_rfl) (by kernel_rfl) (by kernel_rfl) (fun _ _ _ h => h) (by kernel_rfl) (by rfl) hC14 (Or.inl ⟨by rfl, ?_⟩) hH14 (fun hC15 hH15 => ?_)
  rotate_left
  · (intro w9 hSw; obtain ⟨hSw, hLw⟩ := hSw; clear hLw; (try dsimp only at hSw); (go_split_ands; go_simp); (try with_reducible rfl))
  clear hC14 hH14
  try simp only [Act.put]
  refine wpAnyT_take (i := 15) (oi := _) (v := ?_) rfl (by kernel_rfl) (by kernel_rfl) (by kernel_rfl) (fun _ _ _ h => h) (by kernel_rfl) (by rfl) hC15 (Or.inl ⟨by rfl, ?_⟩) hH15 (fun hC16 hH16 => ?_)
  rotate_left
  · (intro w9 hSw; obtain ⟨hSw, hLw⟩ := hSw; clear hLw; (try dsimp only at hSw); (go_split_ands; go_simp); (try with_reducible rfl))
  clear hC15 hH15
  try simp only [Act.put]
  refine wpAnyT_take (i := 16) (oi := _) (v := ?_) rfl (by kernel_rfl) (by kernel_rfl) (by kernel_rfl) (fun _ _ _ h => h) (by kernel_rfl) (by rfl) hC16 (Or.inl ⟨by rfl, ?_⟩) hH16 (fun hC17 hH17 => ?_)
  rotate_left
  · (intro w9 hSw; obtain ⟨hSw, hLw⟩ := hSw; clear hLw; (try dsimp only at hSw); (go_split_ands; go_simp); (try with_reducible rfl))
  clear hC16 hH16
  try simp only [Act.put]
  refine wpAnyT_one (i := 17) (o := _) (by kernel_rfl) rfl (by kernel_rfl) hC17 (fun K hK => ?_)
  clear hC17 hH17
  go_simp
  (with_reducible refine (awake08_any _).mono ?_)
  rintro e w9 ⟨rfl, hb9⟩
  have X9 := Lib.hid (X8.out.grow hb9)
  have B9 := Lib.hid (show Below sa w w9 from B8.out.trans (hb9.mono (by have := B8.out.size; omega)))
  clear X8 B8 hb9
  go_wp2_with fail
  refine hK.out _ _ ?_ (fun hC18 hH18 => ?_)
  · exact ⟨⟨cellAt X9.out 0, cellAt X9.out 1⟩, fun e he => by cases he⟩
  clear hK K
  try simp only [Act.put, List.setIfInBounds_toArray, List.set_cons_zero, List.set_cons_succ]
  refine wpAnyT_take (i := 18) (oi := { dst := some 42, op := Op.pick (Operand.tmp 40) (Operand.tmp 41) (Operand.const (Value.bool false)), type := 4, pos := "top12.go:15", after := #[{ on := 16, ground := Ground.data }, { on := 17, ground := Ground.data }], guard := none }) (v := ?_) rfl (by kernel_rfl) (by kernel_rfl) (by kernel_rfl) (fun _ _ _ h => h) (by kernel_rfl) (by rfl) hC18 (Or.inl ⟨by rfl, ?_⟩) hH18 (fun hC19 hH19 => ?_)
  rotate_left
  · (intro w9 hSw; obtain ⟨hSw, hLw⟩ := hSw; clear hLw; (try dsimp only at hSw); (go_split_ands; go_simp); (try with_reducible rfl))
  clear hC18 hH18
  try simp only [Act.put, List.setIfInBounds_toArray]
  refine wpAnyT_take (i := 19) (oi := { dst := some 0, op := Op.assign (Operand.tmp 42), type := 4, pos := "top12.go:15", after := #[{ on := 18, ground := Ground.data }, { on := 17, ground := Ground.chain }, { on := 0, ground := Ground.phase }, { on := 1, ground := Ground.phase }, { on := 2, ground := Ground.phase }, { on := 3, ground := Ground.phase }, { on := 4, ground := Ground.phase }, { on := 5, ground := Ground.phase }, { on := 6, ground := Ground.phase }, { on := 7, ground := Ground.phase }, { on := 8, ground := Ground.phase }, { on := 9, ground := Ground.phase }, { on := 10, ground := Ground.phase }, { on := 11, ground := Ground.phase }, { on := 12, ground := Ground.phase }, { on := 13, ground := Ground.phase }, { on := 14, ground := Ground.phase }, { on := 15, ground := Ground.phase }, { on := 16, ground := Ground.phase }, { on := 17, ground := Ground.phase }, { on := 18, ground := Ground.phase }], guard := none }) (v := ?_) rfl (by kernel_rfl) (by kernel_rfl) (by kernel_rfl) (fun _ _ _ h => h) (by kernel_rfl) (by rfl) hC19 (Or.inl ⟨by rfl, ?_⟩) hH19 (fun hC20 hH20 => ?_)
  rotate_left
  · (intro w9 hSw; obtain ⟨hSw, hLw⟩ := hSw; clear hLw; (try dsimp only at hSw); (go_split_ands; go_simp); (try with_reducible rfl))
  clear hC19 hH19
  try simp only [Act.put]
  refine wpAnyT_done (by kernel_rfl) ?_ _
  clear hC20 hH20
  go_wp2_with fail
  go_ret
  exact ⟨rfl, by rw [hsa]; exact B9.out⟩
end Go.Proofs.YtikeihnhkiipgaaGreat

namespace Go.Proofs.YtikeihnhkiipgaaGreat
open Go.RowKit

theorem run_max4 {P : Program} (w : World) (ts : Array TypeId) (t : TypeId) (a b c d : Int) :
    (Builtin.max_ ts t #[.int .i64 a, .int .i64 b, .int .i64 c, .int .i64 d]).run P w = .ok (.int .i64 (max (max (max a b) c) d)) w := by
  have k : ∀ x y : Int, (if y > x then y else x) = max x y := fun x y => by
    rw [Int.max_def]
    split <;> split <;> omega
  simp only [gt_iff_lt] at k
  simp [Builtin.max_, Builtin.max2, k]
theorem deal_out {g : GN} {w w' : World} {e : Ending} (h : DealPost g w e w') : ∃ (n : Int) (oa : Option Addr) (m c : Nat) (ee : Int), e = .returned (.tuple #[.int .i64 n, .slice oa m c, .int .i64 ee]) ∧ Below w.heap.size w w' ∧
    (ee = 0 → g.dv g.sn Mk.start < 10000) ∧ (ee = 0 ∨ ee = 4) ∧ (g.dv g.sn Mk.start < 10000 → ee = 0 ∧ n = (g.dv g.sn Mk.start : Nat) ∧ m = g.sn ∧ IntsAt w' oa g.sn (fun i => ((g.to i : Nat) : Int))) := by
  obtain ⟨hb, h⟩ := h
  by_cases hn : g.dv g.sn Mk.start < 10000
  · rw [if_pos hn] at h
    obtain ⟨oa, c, he, hr⟩ := h
    exact ⟨_, oa, _, c, 0, he, hb, fun _ => hn, .inl rfl, fun _ => ⟨rfl, rfl, rfl, hr⟩⟩
  · rw [if_neg hn] at h
    exact ⟨0, none, 0, 0, 4, h, hb, fun h => absurd h (by decide), .inr rfl, fun h => absurd h hn⟩
def LawPost (w : World) (e : Ending) (w' : World) : Prop := e = .returned (.bool true) ∧ Below w.heap.size w w'
theorem gi_start {x : AG} {w : World} (h : x.At w) : GI x w (w.alloc (.cells x.cs 29)) :=
  ⟨(Below.refl w.heap.size w).alloc (Nat.le_refl _) _, heap_alloc_new _ _, h.grow ((Below.refl w.heap.size w).alloc (Nat.le_refl _) _)⟩
theorem oi_start {g : GN} {a : GA} {w : World} (h : g.At a w) : OI g a w (w.alloc (.cells (g.cs a) 29)) :=
  ⟨(Below.refl w.heap.size w).alloc (Nat.le_refl _) _, heap_alloc_new _ _, h.grow ((Below.refl w.heap.size w).alloc (Nat.le_refl _) _)⟩
set_option maxRecDepth 100000 in
set_option maxHeartbeats 4000000 in
theorem earned_bad (x : AG) (ra : Option Addr) (rn rc : Nat) (sa : Option Addr) (sn sc : Nat) (ot : Nat) (w : World) (h : x.At w) (hb : 40 < max (max (max x.sn x.cn) x.fn) x.qn ∨ x.B = false) :
    Calls Tryz.prog 3 #[.agg x.cs, .slice ra rn rc, .slice sa sn sc, .int .u8 ot] w (LawPost w) := by
  have I0 := Lib.hid (gi_start h)
  have h1 := h.ss.small
  have h2 := h.cc.small
  have h3 := h.ff.small
  have h4 := h.qq.small
  unfold maxLen at h1 h2 h3 h4
  obtain ⟨z, hz, hz1⟩ : ∃ z : Nat, (∀ (W : World) (ts : Array TypeId) (t : TypeId), (Builtin.max_ ts t #[.int .i64 (x.sn : Nat), .int .i64 (x.cn : Nat), .int .i64 (x.fn : Nat), .int .i64 (x.qn : Nat)]).run Tryz.prog W = .ok (.int .i64 z) W) ∧ z = max (max (max x.sn x.cn) x.fn) x.qn :=
    ⟨_, fun W ts t => (run_max4 W ts t _ _ _ _).trans (by congr 3; omega), rfl⟩
  rw [← hz1] at hb
  clear hz1 h h1 h2 h3 h4
  unfold AG.cs at *
  go_enter Tryz.func3, Tryz.ntmps3
  go_upto_region 1 with (fail)
  generalize World.alloc w _ = w0 at *
  obtain ⟨q0, q1, q2, q3, q4, q5, q6⟩ := I0.out.cells
  by_cases hl : 40 < z
  · have hl' : (40 : Int) < z := by omega
    clear hb
    go_wp2_with (go_at_call 5; refine (awake12_any _).mono ?_; rintro e w' ⟨rfl, hb⟩)
    go_ret
    exact ⟨rfl, I0.out.bel.next hb⟩
  · have hl' : ¬ (40 : Int) < z := by omega
    have hB : x.B = false := hb.resolve_left hl
    have C1 := Lib.hid (gangs8_any x w0 I0.out.at')
    rw [hB] at C1
    unfold AG.cs at C1
    clear hb hB
    go_wp2_with (first
      | (go_at_call 4; refine C1.out.mono ?_; rintro e w1 ⟨rfl, hb1⟩; have B1 := I0.out.bel.next hb1)
      | (go_at_call 5; refine (awake12_any _).mono ?_; rintro e w' ⟨rfl, hb⟩))
    go_ret
    exact ⟨rfl, B1.next hb⟩
set_option maxRecDepth 100000 in
set_option maxHeartbeats 4000000 in
theorem earned_out (g : GN) (a : GA) (ra : Option Addr) (rn rc : Nat) (sa : Option Addr) (sn sc : Nat) (ot : Nat) (w : World) (h : g.At a w) (hl : max (max (max g.sn g.cn) g.p.fn) g.p.qn ≤ 40)
    (CG : ∀ W, Below w.heap.size w W → Calls Tryz.prog 4 #[.agg (g.cs a)] W fun e w' => e = .returned (.bool true) ∧ Below W.heap.size W w')
    (hout : 3 < g.sn ∨ g.cn = 0) :
    Calls Tryz.prog 3 #[.agg (g.cs a), .slice ra rn rc, .slice sa sn sc, .int .u8 ot] w (LawPost w) := by
  have I0 := Lib.hid (oi_start h)
  obtain ⟨z, hz, hz1⟩ : ∃ z : Nat, (∀ (W : World) (ts : Array TypeId) (t : TypeId), (Builtin.max_ ts t #[.int .i64 (g.sn : Nat), .int .i64 (g.cn : Nat), .int .i64 (g.p.fn : Nat), .int .i64 (g.p.qn : Nat)]).run Tryz.prog W = .ok (.int .i64 z) W) ∧ z ≤ 40 :=
    ⟨_, fun W ts t => (run_max4 W ts t _ _ _ _).trans (by congr 3; omega), hl⟩
  have hl' : ¬ (40 : Int) < z := by omega
  have C1 := Lib.hid (CG _ I0.out.bel)
  clear h hl CG hz1
  unfold GN.cs at *
  go_enter Tryz.func3, Tryz.ntmps3
  go_upto_region 1 with (fail)
  generalize World.alloc w _ = w0 at *
  obtain ⟨q0, q1, q2, q3, q4, q5, q6⟩ := I0.out.cells
  by_cases h3 : 3 < g.sn
  · have h3' : (3 : Int) < g.sn := by omega
    clear hout
    go_wp2_with (first
      | (go_at_call 4; refine C1.out.mono ?_; rintro e w1 ⟨rfl, hb1⟩; have I1 := Lib.hid (I0.out.grow hb1); clear q0 q1 q2 q3 q4 q5 q6; obtain ⟨q0, q1, q2, q3, q4, q5, q6⟩ := I1.out.cells)
      | (go_at_call 5; refine (awake12_any _).mono ?_; rintro e w' ⟨rfl, hb⟩))
    go_ret
    exact ⟨rfl, I1.out.bel.next hb⟩
  · have h3' : ¬ (3 : Int) < g.sn := by omega
    have h0 : ((g.cn : Int) == 0) = true := by rw [hout.resolve_left h3]; rfl
    clear hout
    go_wp2_with (first
      | (go_at_call 4; refine C1.out.mono ?_; rintro e w1 ⟨rfl, hb1⟩; have I1 := Lib.hid (I0.out.grow hb1); clear q0 q1 q2 q3 q4 q5 q6; obtain ⟨q0, q1, q2, q3, q4, q5, q6⟩ := I1.out.cells)
      | (go_at_call 5; refine (awake12_any _).mono ?_; rintro e w' ⟨rfl, hb⟩))
    go_ret
    exact ⟨rfl, I1.out.bel.next hb⟩
set_option maxRecDepth 100000 in
set_option maxHeartbeats 4000000 in
theorem earned_none (g : GN) (ok : g.Ok) (a : GA) (ra : Option Addr) (rn rc : Nat) (sa : Option Addr) (sn sc : Nat) (ot : Nat) (w : World) (h : g.At a w) (hl : max (max (max g.sn g.cn) g.p.fn) g.p.qn ≤ 40)
    (CG : ∀ W, Below w.heap.size w W → Calls Tryz.prog 4 #[.agg (g.cs a)] W fun e w' => e = .returned (.bool true) ∧ Below W.heap.size W w')
    (h3 : ¬ 3 < g.sn) (h0 : ¬ g.cn = 0) (hno : ¬ g.dv g.sn Mk.start < 10000) :
    Calls Tryz.prog 3 #[.agg (g.cs a), .slice ra rn rc, .slice sa sn sc, .int .u8 ot] w (LawPost w) := by
  have I0 := Lib.hid (oi_start h)
  obtain ⟨z, hz, hz1⟩ : ∃ z : Nat, (∀ (W : World) (ts : Array TypeId) (t : TypeId), (Builtin.max_ ts t #[.int .i64 (g.sn : Nat), .int .i64 (g.cn : Nat), .int .i64 (g.p.fn : Nat), .int .i64 (g.p.qn : Nat)]).run Tryz.prog W = .ok (.int .i64 z) W) ∧ z ≤ 40 :=
    ⟨_, fun W ts t => (run_max4 W ts t _ _ _ _).trans (by congr 3; omega), hl⟩
  have hl' : ¬ (40 : Int) < z := by omega
  have C1 := Lib.hid (CG _ I0.out.bel)
  have C2 := Lib.hid (fun W (h : g.At a W) => (show Calls Tryz.prog 6 #[.agg (g.cs a)] W fun e w' => e = .returned (.tuple #[.int .i64 0, .slice none 0 0, .int .i64 4]) ∧ Below W.heap.size W w' from (deal_any g ok a W h).mono fun e w' hd => by
    obtain ⟨hb, hd⟩ := hd
    rw [if_neg hno] at hd
    exact ⟨hd, hb⟩))
  have h3' : ¬ (3 : Int) < g.sn := by omega
  have h0' : ((g.cn : Int) == 0) = false := by
    have : ¬ (g.cn : Int) = 0 := by omega
    simpa using this
  clear h hl CG hz1 ok hno h3 h0
  unfold GN.cs at *
  go_enter Tryz.func3, Tryz.ntmps3
  go_upto_region 1 with (fail)
  generalize World.alloc w _ = w0 at *
  obtain ⟨q0, q1, q2, q3, q4, q5, q6⟩ := I0.out.cells
  go_upto_region 3 with (go_at_call 4; refine C1.out.mono ?_; rintro e w1 ⟨rfl, hb1⟩; have I1 := Lib.hid (I0.out.grow hb1); clear q0 q1 q2 q3 q4 q5 q6; obtain ⟨q0, q1, q2, q3, q4, q5, q6⟩ := I1.out.cells)
  go_wp2_with (first
    | (go_at_call 6; (with_reducible refine (C2.out _ I1.out.at').mono ?_); rintro e w2 ⟨rfl, hb2⟩)
    | (go_at_call 5; refine (awake12_any _).mono ?_; rintro e w' ⟨rfl, hb⟩))
  go_ret
  exact ⟨rfl, (I1.out.bel.next hb2).next hb⟩
end Go.Proofs.YtikeihnhkiipgaaGreat
