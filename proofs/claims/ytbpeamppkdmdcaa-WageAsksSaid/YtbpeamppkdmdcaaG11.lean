/-
  Walks: wages in which a ticket is known.
  Walks: wages in which a ticket is known: the law's own words for it.
  Walks: how well it is known what is due to a crew, at worst, if a ticket is known.
  Walks: the law of what is asked for.
-/
import Derived.Test.YtbpeamppkdmdcaaG8
import Derived.Deep.CutRange
import Derived.Lib.SmallJoins
import Derived.Deep.AppendLies
import Derived.Deep.RegionHeld3
import Derived.Test.YtbpeamppkdmdcaaG9
import Derived.Test.YtbpeamppkdmdcaaG10

namespace Go.Proofs.Ytbpeamppkdmdcaa
open Go.RowKit

theorem BoxAt.off {w : World} {b c o : Nat} {xs : Array Value} {t : TypeId} {v : Value} (h : BoxAt w b xs t) (hc : c ≠ b) : BoxAt (w.setCell ⟨c, o, none⟩ v) b xs t := h.set _ _ hc
theorem Below.off {w w' : World} {n c o : Nat} {v : Value} (h : Below n w w') (hc : n ≤ c) : Below n w (w'.setCell ⟨c, o, none⟩ v) := h.setCell hc _
theorem BoxAt.drewn {w : World} {b : Nat} {xs : Array Value} {t : TypeId} (h : BoxAt w b xs t) : BoxAt w.drew b xs t := h
theorem cells3 {w : World} {b : Nat} {x y z : Value} {t : TypeId} (h : BoxAt w b #[x, y, z] t) : w.cell? ⟨b, 0, none⟩ = some x ∧ w.cell? ⟨b, 1, none⟩ = some y ∧ w.cell? ⟨b, 2, none⟩ = some z := ⟨cellAt h 0, cellAt h 1, cellAt h 2⟩
theorem tk_row {w : World} {g n : Nat} {T : Nat → Tk} {ty : TypeId} {cur : Array Value} (hcur : ∀ i, i < n → ∀ j, j < 8 → cur[i * 8 + j]? = some ((T i).cell j)) (hn : n ≤ maxLen) (h : BoxAt w g cur ty) : TicketsAt w (some ⟨g, 0, none⟩) n T := by
  refine ⟨fun _ => rfl, fun _ => lt_of_heap h, hn, fun i hi j hj => ?_⟩
  show w.cell? ⟨g, 0 + i * 8 + j, none⟩ = _
  rw [cellAt h, Nat.zero_add]
  exact hcur i hi j hj
theorem tk_store' {w : World} {g n k : Nat} {T : Nat → Tk} {ty : TypeId} {cur : Array Value} (hcur : ∀ i, i < n → ∀ j, j < 8 → cur[i * 8 + j]? = some ((T i).cell j)) (t : Tk) (hk : k < n) (hn : n ≤ maxLen)
    (h : BoxAt w g ((((((((cur.setIfInBounds (k * 8) (.int .i64 t.crew)).setIfInBounds (k * 8 + 1) (.int .i64 t.seam)).setIfInBounds (k * 8 + 2) (.int .i64 t.fl)).setIfInBounds (k * 8 + 3) (.int .i64 t.fh)).setIfInBounds (k * 8 + 4) (.int .i64 t.tl)).setIfInBounds (k * 8 + 5) (.int .i64 t.th)).setIfInBounds (k * 8 + 6) (.int .i64 t.dl)).setIfInBounds (k * 8 + 7) (.int .i64 t.dh)) ty) :
    TicketsAt w (some ⟨g, 0, none⟩) n (updT T k t) := by
  refine ⟨fun _ => rfl, fun _ => lt_of_heap h, hn, fun i hi j hj => ?_⟩
  show w.cell? ⟨g, 0 + i * 8 + j, none⟩ = _
  rw [cellAt h, Nat.zero_add]
  have hl := (Array.getElem?_eq_some_iff.1 (hcur k hk 7 (by omega))).1
  have hg := hcur i hi j hj
  unfold updT
  by_cases e : i = k
  · subst e
    rw [if_pos rfl]
    obtain rfl | rfl | rfl | rfl | rfl | rfl | rfl | rfl : j = 0 ∨ j = 1 ∨ j = 2 ∨ j = 3 ∨ j = 4 ∨ j = 5 ∨ j = 6 ∨ j = 7 := by omega
    all_goals simp only [Nat.add_zero, Array.getElem?_setIfInBounds, Array.size_setIfInBounds]
    all_goals simp [Tk.cell]
    all_goals omega
  · rw [if_neg e]
    simp only [Array.getElem?_setIfInBounds]
    repeat rw [if_neg (by omega)]
    exact hg

set_option maxRecDepth 100000 in
set_option maxHeartbeats 2000000 in
theorem fixed_ref (cr : Int) (sa ta : Option Addr) (sn sc tn tc : Nat) (T : Nat → Tk) (w : World) (hT : TicketsAt w ta tn T) (h6 : tn ≤ 6) (n : Nat) (hn : n < tn) (k : Kn) :
    Calls Try.prog 83 #[.agg #[.int .i64 cr, .slice sa sn sc, .slice ta tn tc], .int .i64 n, k.v] w fun e w' => ∃ g cap, w.heap.size ≤ g ∧ e = .returned (.agg #[.int .i64 cr, .slice sa sn sc, .slice (some ⟨g, 0, none⟩) tn cap]) ∧ TicketsAt w' (some ⟨g, 0, none⟩) tn (updT T n ((T n).exact k)) ∧ Below w.heap.size w w' := by
  obtain ⟨fr, tt, td⟩ := k
  obtain ⟨bt, ot, rfl⟩ : ∃ bt ot, ta = some ⟨bt, ot, none⟩ := ⟨_, _, hT.plain (by omega)⟩
  unfold Kn.v
  dsimp only
  go_enter Try.func83, Try.ntmps83
  go_upto_region 2 with (fail)
  generalize hW : World.alloc _ _ = W
  obtain ⟨q0, q1, q2, q3, hz, hB⟩ := blocks4 hW
  clear hW
  have HB := Lib.hid hB
  have HZ := Lib.hid hz
  have H0 := Lib.hid (show BoxAt W w.heap.size #[.int .i64 cr, .slice sa sn sc, .slice (some ⟨bt, ot, none⟩) tn tc] 25 from q0)
  have H1 := Lib.hid (show BoxAt W (w.heap.size + 1) #[.int .i64 fr, .int .i64 tt, .int .i64 td] 128 from q1)
  have H2 := Lib.hid (show BoxAt W (w.heap.size + 1 + 1) #[.int .i64 0, .slice none 0 0, .slice none 0 0] 25 from q2)
  have H3 := Lib.hid (show BoxAt W (w.heap.size + 1 + 1 + 1) #[.int .i64 cr, .slice sa sn sc, .slice (some ⟨bt, ot, none⟩) tn tc] 25 from q3)
  have HT := Lib.hid (hT.grow hB)
  have hm : tn ≤ maxLen := by unfold maxLen; omega
  have hb : tn * 64 ≤ 140737488355328 := by omega
  clear q0 q1 q2 q3 hB hT hz
  obtain ⟨i0, hi0, hz0, hz1, hz2⟩ := info_parts info58
  have ha := fun o => cellAt (H0.out.grow ((Below.refl _ _).alloc (Nat.le_refl _) o)) 2
  have hc := cellAt H0.out 2
  simp only [List.getElem?_toArray, List.getElem?_cons_zero, List.getElem?_cons_succ] at ha hc
  go_upto_region 3 with (at_builtin; refine wpList_append_lies _ rfl (.tmp 10) (.tmp 12) 23 rfl W.heap.size 58 i0 _ 8 64 Try.underlying23 hi0 hz0 hz1 hz2 rfl (by omega) (.slice (some ⟨W.heap.size, 0, none⟩) 0 0) 0 [] rfl ?c0 ⟨bt, ot, none⟩ tn tc (tkVals T tn) rfl (tkVals_len T tn) ?c1 (tkVals_one T tn) (by omega) (by omega) (by omega) ?c2 (W.heap.size + 1) ?c3 ?_)
  case c0 => exact World.ownsRow_made W #[] 0 (Nat.le_refl _) (by unfold maxLen; omega) rfl
  case c1 => exact tickets_src (HT.out.grow ((Below.refl _ _).alloc (Nat.le_refl _) _))
  case c2 => simp
  case c3 => simp
  intro g cap W1 hown hgr hat hlt
  have hg0 := (hown.lt g rfl).1
  obtain ⟨cur, hg1, hc1⟩ : ∃ cur, BoxAt W1 g cur 58 ∧ ∀ i, i < tn → ∀ j, j < 8 → cur[i * 8 + j]? = some ((T i).cell j) := by
    rcases hown.2 with ⟨h, _⟩ | ⟨g', cap', cur, hv, _, hg, _, _, _, ht⟩
    · cases h
    · cases hv
      refine ⟨cur, hg, fun i hi j hj => ?_⟩
      have h := tkVals_get T tn hi hj
      rw [← ht, List.getElem?_take, if_pos (by omega)] at h
      rw [← h, Array.getElem?_toList]
  have hal := (Below.refl W.heap.size W).alloc (Nat.le_refl _) (.cells #[] 58)
  have hb1 : Below W.heap.size W W1 := hal.grown hgr (by simp) (fun k e => by cases e; exact Nat.le_refl _)
  have J0 := Lib.hid (H0.out.grow hb1)
  have J1 := Lib.hid (H1.out.grow hb1)
  have J2 := Lib.hid (H2.out.grow hb1)
  have J3 := Lib.hid (H3.out.grow hb1)
  have JB := Lib.hid (HB.out.trans (hb1.mono HB.out.size))
  have JG := Lib.hid hg1
  have JC := Lib.hid hc1
  have JZ := Lib.hid (show w.heap.size + 4 ≤ g ∧ W.heap.size ≤ W1.heap.size by have := HZ.out; have := hb1.size; omega)
  have hs3 : ∃ v, W1.cell? ⟨w.heap.size + 1 + 1 + 1, 2, none⟩ = some v := ⟨_, cellAt J3.out 2⟩
  have hf3 := freeAt J3.out 2
  have hq3 := cellAt J3.out 2
  simp only [List.getElem?_toArray, List.getElem?_cons_zero, List.getElem?_cons_succ] at hq3
  clear hown hgr hat hg1 hc1 hal hb1 hi0 hz0 hz1 hz2 ha hc hs3 hb
  clear H0 H1 H2 H3 HB HT HZ
  go_upto_region 3 with fail
  generalize hW2 : World.setCell _ _ _ = W2
  have K0 := Lib.hid (show BoxAt W2 w.heap.size _ _ by rw [← hW2]; exact J0.out.set _ _ (show w.heap.size + 1 + 1 + 1 ≠ w.heap.size by omega))
  have K1 := Lib.hid (show BoxAt W2 (w.heap.size + 1) _ _ by rw [← hW2]; exact J1.out.set _ _ (show w.heap.size + 1 + 1 + 1 ≠ w.heap.size + 1 by omega))
  have K2 := Lib.hid (show BoxAt W2 (w.heap.size + 1 + 1) _ _ by rw [← hW2]; exact J2.out.set _ _ (show w.heap.size + 1 + 1 + 1 ≠ w.heap.size + 1 + 1 by omega))
  have K3 := Lib.hid (show BoxAt W2 (w.heap.size + 1 + 1 + 1) #[.int .i64 cr, .slice sa sn sc, .slice (some ⟨g, 0, none⟩) tn cap] 25 by rw [← hW2]; exact J3.out.store 2 _)
  have KG := Lib.hid (show BoxAt W2 g cur 58 by rw [← hW2]; exact JG.out.set _ _ (show w.heap.size + 1 + 1 + 1 ≠ g by have := JZ.out; omega))
  have KB := Lib.hid (show Below w.heap.size w W2 by rw [← hW2]; exact JB.out.setCell (by simp; omega) _)
  have KZ := Lib.hid (show w.heap.size + 4 ≤ g ∧ g < W2.heap.size from ⟨JZ.out.1, lt_of_heap KG.out⟩)
  clear hW2 hlt J0 J1 J2 J3 JB JG JZ hf3 hq3 W1
  have c3 := cellAt K3.out 2
  simp only [List.getElem?_toArray, List.getElem?_cons_zero, List.getElem?_cons_succ] at c3
  obtain ⟨k0, k1, k2, k3, k4, k5, k6, k7⟩ := (tk_row JC.out hm KG.out).at hn
  simp only [blk, ofs, Nat.zero_add] at k0 k1 k2 k3 k4 k5 k6 k7
  have hix := fun w => run_indexAt_row (w := w) (oa := some ⟨g, 0, none⟩) (cap := cap) Try.underlying23 size8 rfl hn
  simp only [blk, ofs, Nat.zero_add] at hix
  go_upto_region 4 with fail
  clear k0 k1 k2 k3 k4 k5 k6 k7 c3 hix
  generalize hW3 : World.alloc _ _ = W3
  have q0 := (blocks1 hW3).1
  have hal := (blocks1 hW3).2.2
  clear hW3
  have hal2 := Below.drew hal
  have hd0 : w.heap.size ≤ W2.heap.size := by have := KZ.out; omega
  have hd1 : W2.heap.size ≠ w.heap.size + 1 := by have := KZ.out; omega
  have hd2 : W2.heap.size ≠ w.heap.size + 1 + 1 := by have := KZ.out; omega
  have hd3 : W2.heap.size ≠ w.heap.size + 1 + 1 + 1 := by have := KZ.out; omega
  have hdg : W2.heap.size ≠ g := by have := KZ.out; omega
  have MD := Lib.hid (K1.out.grow hal2)
  have M1 := Lib.hid (K1.out.grow hal)
  have M2 := Lib.hid (K2.out.grow hal)
  have M3 := Lib.hid (K3.out.grow hal)
  have MG := Lib.hid (KG.out.grow hal)
  have MB := Lib.hid (KB.out.trans (hal.mono KB.out.size))
  have MS := Lib.hid (show BoxAt W3 W2.heap.size #[.int .i64 (T n).crew, .int .i64 (T n).seam, .int .i64 (T n).fl, .int .i64 (T n).fh, .int .i64 (T n).tl, .int .i64 (T n).th, .int .i64 (T n).dl, .int .i64 (T n).dh] 58 from q0)
  clear q0
  clear hal hal2 K0 K1 K2 K3 KG KB
  have r2 := cellAt MS.out 2
  have r3 := cellAt MS.out 3
  have r4 := cellAt MS.out 4
  have r5 := cellAt MS.out 5
  have r6 := cellAt MS.out 6
  have r7 := cellAt MS.out 7
  have f2 := freeAt MS.out 2
  have f3 := freeAt MS.out 3
  have f4 := freeAt MS.out 4
  have f5 := freeAt MS.out 5
  have f6 := freeAt MS.out 6
  have f7 := freeAt MS.out 7
  simp only [List.getElem?_toArray, List.getElem?_cons_zero, List.getElem?_cons_succ] at r2 r3 r4 r5 r6 r7
  refine wp_region_held_drew (S := (fun w' => w'.cell? ⟨w.heap.size + 1, 0, none⟩ = some (.int .i64 fr) ∧ w'.cell? ⟨w.heap.size + 1, 1, none⟩ = some (.int .i64 tt) ∧ w'.cell? ⟨w.heap.size + 1, 2, none⟩ = some (.int .i64 td))) (by kernel_rfl) (by exact cells3 MD.out) (fun hHeld => ?_)
  refine wpAnyH_take (i := 0) (oi := { dst := some 20, op := Op.fieldAddr 128 (Operand.tmp 5) 0, type := 0, pos := "ref.go:283", after := #[], guard := none }) (v := ?_) rfl (by kernel_rfl) (by kernel_rfl) (by kernel_rfl) (fun _ _ _ h => h) (Or.inl ⟨by rfl, ?_⟩) (by assumption) ?_
  rotate_left
  · (intro w9 hSw; (try dsimp only at hSw); (go_split_ands; go_simp); (try with_reducible rfl))
  try simp only [Act.put, List.setIfInBounds_toArray, List.set_cons_zero, List.set_cons_succ]
  refine wpAnyH_take (i := 1) (oi := { dst := some 21, op := Op.load 3 (Operand.tmp 20), type := 3, pos := "ref.go:283", after := #[{ on := 0, ground := Ground.data }], guard := none }) (v := ?_) rfl (by kernel_rfl) (by kernel_rfl) (by kernel_rfl) (fun _ _ _ h => h) (Or.inl ⟨by rfl, ?_⟩) (by assumption) ?_
  rotate_left
  · (intro w9 hSw; (try dsimp only at hSw); (go_split_ands; go_simp); (try with_reducible rfl))
  try simp only [Act.put, List.setIfInBounds_toArray, List.set_cons_zero, List.set_cons_succ]
  refine wpAnyH_take (i := 2) (oi := { dst := some 22, op := Op.fieldAddr 128 (Operand.tmp 5) 0, type := 0, pos := "ref.go:283", after := #[], guard := none }) (v := ?_) rfl (by kernel_rfl) (by kernel_rfl) (by kernel_rfl) (fun _ _ _ h => h) (Or.inl ⟨by rfl, ?_⟩) (by assumption) ?_
  rotate_left
  · (intro w9 hSw; (try dsimp only at hSw); (go_split_ands; go_simp); (try with_reducible rfl))
  try simp only [Act.put, List.setIfInBounds_toArray, List.set_cons_zero, List.set_cons_succ]
  refine wpAnyH_take (i := 3) (oi := { dst := some 23, op := Op.load 3 (Operand.tmp 22), type := 3, pos := "ref.go:283", after := #[{ on := 2, ground := Ground.data }], guard := none }) (v := ?_) rfl (by kernel_rfl) (by kernel_rfl) (by kernel_rfl) (fun _ _ _ h => h) (Or.inl ⟨by rfl, ?_⟩) (by assumption) ?_
  rotate_left
  · (intro w9 hSw; (try dsimp only at hSw); (go_split_ands; go_simp); (try with_reducible rfl))
  try simp only [Act.put, List.setIfInBounds_toArray, List.set_cons_zero, List.set_cons_succ]
  refine wpAnyH_take (i := 4) (oi := { dst := some 24, op := Op.build 29 #[(0, Operand.tmp 21), (1, Operand.tmp 23)], type := 29, pos := "ref.go:283", after := #[{ on := 1, ground := Ground.data }, { on := 3, ground := Ground.data }], guard := none }) (v := ?_) rfl (by kernel_rfl) (by kernel_rfl) (by kernel_rfl) (fun _ _ _ h => h) (Or.inl ⟨by rfl, ?_⟩) (by assumption) ?_
  rotate_left
  · (intro w9 hSw; (try dsimp only at hSw); (go_split_ands; go_simp); (try with_reducible rfl))
  try simp only [Act.put, List.setIfInBounds_toArray, List.set_cons_zero, List.set_cons_succ]
  refine wpAnyH_take (i := 5) (oi := { dst := some 25, op := Op.fieldAddr 128 (Operand.tmp 5) 1, type := 0, pos := "ref.go:283", after := #[{ on := 16, ground := Ground.gcOnly Departure.lateStores }], guard := none }) (v := ?_) rfl (by kernel_rfl) (by kernel_rfl) (by kernel_rfl) (fun _ _ _ h => h) (Or.inl ⟨by rfl, ?_⟩) (by assumption) ?_
  rotate_left
  · (intro w9 hSw; (try dsimp only at hSw); (go_split_ands; go_simp); (try with_reducible rfl))
  try simp only [Act.put, List.setIfInBounds_toArray, List.set_cons_zero, List.set_cons_succ]
  refine wpAnyH_take (i := 6) (oi := { dst := some 26, op := Op.load 3 (Operand.tmp 25), type := 3, pos := "ref.go:283", after := #[{ on := 5, ground := Ground.data }, { on := 16, ground := Ground.gcOnly Departure.lateStores }], guard := none }) (v := ?_) rfl (by kernel_rfl) (by kernel_rfl) (by kernel_rfl) (fun _ _ _ h => h) (Or.inl ⟨by rfl, ?_⟩) (by assumption) ?_
  rotate_left
  · (intro w9 hSw; (try dsimp only at hSw); (go_split_ands; go_simp); (try with_reducible rfl))
  try simp only [Act.put, List.setIfInBounds_toArray, List.set_cons_zero, List.set_cons_succ]
  refine wpAnyH_take (i := 7) (oi := { dst := some 27, op := Op.fieldAddr 128 (Operand.tmp 5) 1, type := 0, pos := "ref.go:283", after := #[{ on := 16, ground := Ground.gcOnly Departure.lateStores }], guard := none }) (v := ?_) rfl (by kernel_rfl) (by kernel_rfl) (by kernel_rfl) (fun _ _ _ h => h) (Or.inl ⟨by rfl, ?_⟩) (by assumption) ?_
  rotate_left
  · (intro w9 hSw; (try dsimp only at hSw); (go_split_ands; go_simp); (try with_reducible rfl))
  try simp only [Act.put, List.setIfInBounds_toArray, List.set_cons_zero, List.set_cons_succ]
  refine wpAnyH_take (i := 8) (oi := { dst := some 28, op := Op.load 3 (Operand.tmp 27), type := 3, pos := "ref.go:283", after := #[{ on := 7, ground := Ground.data }, { on := 16, ground := Ground.gcOnly Departure.lateStores }], guard := none }) (v := ?_) rfl (by kernel_rfl) (by kernel_rfl) (by kernel_rfl) (fun _ _ _ h => h) (Or.inl ⟨by rfl, ?_⟩) (by assumption) ?_
  rotate_left
  · (intro w9 hSw; (try dsimp only at hSw); (go_split_ands; go_simp); (try with_reducible rfl))
  try simp only [Act.put, List.setIfInBounds_toArray, List.set_cons_zero, List.set_cons_succ]
  refine wpAnyH_take (i := 9) (oi := { dst := some 29, op := Op.build 29 #[(0, Operand.tmp 26), (1, Operand.tmp 28)], type := 29, pos := "ref.go:283", after := #[{ on := 6, ground := Ground.data }, { on := 8, ground := Ground.data }, { on := 16, ground := Ground.gcOnly Departure.lateStores }], guard := none }) (v := ?_) rfl (by kernel_rfl) (by kernel_rfl) (by kernel_rfl) (fun _ _ _ h => h) (Or.inl ⟨by rfl, ?_⟩) (by assumption) ?_
  rotate_left
  · (intro w9 hSw; (try dsimp only at hSw); (go_split_ands; go_simp); (try with_reducible rfl))
  try simp only [Act.put, List.setIfInBounds_toArray, List.set_cons_zero, List.set_cons_succ]
  refine wpAnyH_take (i := 10) (oi := { dst := some 30, op := Op.fieldAddr 128 (Operand.tmp 5) 2, type := 0, pos := "ref.go:283", after := #[{ on := 18, ground := Ground.gcOnly Departure.lateStores }], guard := none }) (v := ?_) rfl (by kernel_rfl) (by kernel_rfl) (by kernel_rfl) (fun _ _ _ h => h) (Or.inl ⟨by rfl, ?_⟩) (by assumption) ?_
  rotate_left
  · (intro w9 hSw; (try dsimp only at hSw); (go_split_ands; go_simp); (try with_reducible rfl))
  try simp only [Act.put, List.setIfInBounds_toArray, List.set_cons_zero, List.set_cons_succ]
  refine wpAnyH_take (i := 11) (oi := { dst := some 31, op := Op.load 3 (Operand.tmp 30), type := 3, pos := "ref.go:283", after := #[{ on := 10, ground := Ground.data }, { on := 18, ground := Ground.gcOnly Departure.lateStores }], guard := none }) (v := ?_) rfl (by kernel_rfl) (by kernel_rfl) (by kernel_rfl) (fun _ _ _ h => h) (Or.inl ⟨by rfl, ?_⟩) (by assumption) ?_
  rotate_left
  · (intro w9 hSw; (try dsimp only at hSw); (go_split_ands; go_simp); (try with_reducible rfl))
  try simp only [Act.put, List.setIfInBounds_toArray, List.set_cons_zero, List.set_cons_succ]
  refine wpAnyH_take (i := 12) (oi := { dst := some 32, op := Op.fieldAddr 128 (Operand.tmp 5) 2, type := 0, pos := "ref.go:283", after := #[{ on := 18, ground := Ground.gcOnly Departure.lateStores }], guard := none }) (v := ?_) rfl (by kernel_rfl) (by kernel_rfl) (by kernel_rfl) (fun _ _ _ h => h) (Or.inl ⟨by rfl, ?_⟩) (by assumption) ?_
  rotate_left
  · (intro w9 hSw; (try dsimp only at hSw); (go_split_ands; go_simp); (try with_reducible rfl))
  try simp only [Act.put, List.setIfInBounds_toArray, List.set_cons_zero, List.set_cons_succ]
  refine wpAnyH_take (i := 13) (oi := { dst := some 33, op := Op.load 3 (Operand.tmp 32), type := 3, pos := "ref.go:283", after := #[{ on := 12, ground := Ground.data }, { on := 18, ground := Ground.gcOnly Departure.lateStores }], guard := none }) (v := ?_) rfl (by kernel_rfl) (by kernel_rfl) (by kernel_rfl) (fun _ _ _ h => h) (Or.inl ⟨by rfl, ?_⟩) (by assumption) ?_
  rotate_left
  · (intro w9 hSw; (try dsimp only at hSw); (go_split_ands; go_simp); (try with_reducible rfl))
  try simp only [Act.put, List.setIfInBounds_toArray, List.set_cons_zero, List.set_cons_succ]
  refine wpAnyH_take (i := 14) (oi := { dst := some 34, op := Op.build 29 #[(0, Operand.tmp 31), (1, Operand.tmp 33)], type := 29, pos := "ref.go:283", after := #[{ on := 11, ground := Ground.data }, { on := 13, ground := Ground.data }, { on := 18, ground := Ground.gcOnly Departure.lateStores }], guard := none }) (v := ?_) rfl (by kernel_rfl) (by kernel_rfl) (by kernel_rfl) (fun _ _ _ h => h) (Or.inl ⟨by rfl, ?_⟩) (by assumption) ?_
  rotate_left
  · (intro w9 hSw; (try dsimp only at hSw); (go_split_ands; go_simp); (try with_reducible rfl))
  try simp only [Act.put, List.setIfInBounds_toArray, List.set_cons_zero, List.set_cons_succ]
  refine wpAnyH_take (i := 15) (oi := { dst := some 35, op := Op.fieldAddr 58 (Operand.tmp 8) 2, type := 0, pos := "ref.go:283", after := #[{ on := 0, ground := Ground.phase }, { on := 1, ground := Ground.phase }, { on := 2, ground := Ground.phase }, { on := 3, ground := Ground.phase }, { on := 4, ground := Ground.phase }, { on := 5, ground := Ground.textOnly Departure.lateStores }, { on := 6, ground := Ground.textOnly Departure.lateStores }, { on := 7, ground := Ground.textOnly Departure.lateStores }, { on := 8, ground := Ground.textOnly Departure.lateStores }, { on := 9, ground := Ground.textOnly Departure.lateStores }, { on := 10, ground := Ground.textOnly Departure.lateStores }, { on := 11, ground := Ground.textOnly Departure.lateStores }, { on := 12, ground := Ground.textOnly Departure.lateStores }, { on := 13, ground := Ground.textOnly Departure.lateStores }, { on := 14, ground := Ground.textOnly Departure.lateStores }], guard := none }) (v := ?_) rfl (by kernel_rfl) (by kernel_rfl) (by kernel_rfl) (fun _ _ _ h => h) (Or.inl ⟨by rfl, ?_⟩) (by assumption) ?_
  rotate_left
  · (intro w9 hSw; (try dsimp only at hSw); (go_split_ands; go_simp); (try with_reducible rfl))
  try simp only [Act.put, List.setIfInBounds_toArray, List.set_cons_zero, List.set_cons_succ]
  refine wpAnyH_ready (rs := [16]) (by kernel_rfl) (by simp) ?_
  refine AllReadyH.cons (o := { dst := none, op := Op.store 29 (Operand.tmp 35) (Operand.tmp 24), type := 0, pos := "ref.go:283", after := #[{ on := 15, ground := Ground.data }, { on := 4, ground := Ground.data }, { on := 0, ground := Ground.phase }, { on := 1, ground := Ground.phase }, { on := 2, ground := Ground.phase }, { on := 3, ground := Ground.phase }, { on := 4, ground := Ground.phase }, { on := 5, ground := Ground.textOnly Departure.lateStores }, { on := 6, ground := Ground.textOnly Departure.lateStores }, { on := 7, ground := Ground.textOnly Departure.lateStores }, { on := 8, ground := Ground.textOnly Departure.lateStores }, { on := 9, ground := Ground.textOnly Departure.lateStores }, { on := 10, ground := Ground.textOnly Departure.lateStores }, { on := 11, ground := Ground.textOnly Departure.lateStores }, { on := 12, ground := Ground.textOnly Departure.lateStores }, { on := 13, ground := Ground.textOnly Departure.lateStores }, { on := 14, ground := Ground.textOnly Departure.lateStores }], guard := none }) rfl (fun K hK => ?_) AllReadyH.nil
  go_simp
  skip
  go_wp2_with fail
  refine hK.out _ _ ?_ (fun hHeld => ?_)
  · exact cells3 (BoxAt.drewn (BoxAt.off (BoxAt.off M1.out hd1) hd1))
  clear hK K
  try simp only [Act.put]
  refine wpAnyH_take (i := 17) (oi := { dst := some 36, op := Op.fieldAddr 58 (Operand.tmp 8) 3, type := 0, pos := "ref.go:283", after := #[{ on := 0, ground := Ground.phase }, { on := 1, ground := Ground.phase }, { on := 2, ground := Ground.phase }, { on := 3, ground := Ground.phase }, { on := 4, ground := Ground.phase }, { on := 5, ground := Ground.phase }, { on := 6, ground := Ground.phase }, { on := 7, ground := Ground.phase }, { on := 8, ground := Ground.phase }, { on := 9, ground := Ground.phase }, { on := 10, ground := Ground.textOnly Departure.lateStores }, { on := 11, ground := Ground.textOnly Departure.lateStores }, { on := 12, ground := Ground.textOnly Departure.lateStores }, { on := 13, ground := Ground.textOnly Departure.lateStores }, { on := 14, ground := Ground.textOnly Departure.lateStores }, { on := 15, ground := Ground.phase }, { on := 16, ground := Ground.phase }], guard := none }) (v := ?_) rfl (by kernel_rfl) (by kernel_rfl) (by kernel_rfl) (fun _ _ _ h => h) (Or.inl ⟨by rfl, ?_⟩) (by assumption) ?_
  rotate_left
  · (intro w9 hSw; (try dsimp only at hSw); (go_split_ands; go_simp); (try with_reducible rfl))
  try simp only [Act.put, List.setIfInBounds_toArray, List.set_cons_zero, List.set_cons_succ]
  refine wpAnyH_ready (rs := [18]) (by kernel_rfl) (by simp) ?_
  refine AllReadyH.cons (o := { dst := none, op := Op.store 29 (Operand.tmp 36) (Operand.tmp 29), type := 0, pos := "ref.go:283", after := #[{ on := 17, ground := Ground.data }, { on := 9, ground := Ground.data }, { on := 16, ground := Ground.chain }, { on := 0, ground := Ground.phase }, { on := 1, ground := Ground.phase }, { on := 2, ground := Ground.phase }, { on := 3, ground := Ground.phase }, { on := 4, ground := Ground.phase }, { on := 5, ground := Ground.phase }, { on := 6, ground := Ground.phase }, { on := 7, ground := Ground.phase }, { on := 8, ground := Ground.phase }, { on := 9, ground := Ground.phase }, { on := 10, ground := Ground.textOnly Departure.lateStores }, { on := 11, ground := Ground.textOnly Departure.lateStores }, { on := 12, ground := Ground.textOnly Departure.lateStores }, { on := 13, ground := Ground.textOnly Departure.lateStores }, { on := 14, ground := Ground.textOnly Departure.lateStores }, { on := 15, ground := Ground.phase }, { on := 16, ground := Ground.phase }], guard := none }) rfl (fun K hK => ?_) AllReadyH.nil
  go_simp
  skip
  go_wp2_with fail
  refine hK.out _ _ ?_ (fun hHeld => ?_)
  · exact cells3 (BoxAt.drewn (BoxAt.off (BoxAt.off (BoxAt.off (BoxAt.off M1.out hd1) hd1) hd1) hd1))
  clear hK K
  try simp only [Act.put]
  refine wpAnyH_take (i := 19) (oi := { dst := some 37, op := Op.fieldAddr 58 (Operand.tmp 8) 4, type := 0, pos := "ref.go:283", after := #[{ on := 0, ground := Ground.phase }, { on := 1, ground := Ground.phase }, { on := 2, ground := Ground.phase }, { on := 3, ground := Ground.phase }, { on := 4, ground := Ground.phase }, { on := 5, ground := Ground.phase }, { on := 6, ground := Ground.phase }, { on := 7, ground := Ground.phase }, { on := 8, ground := Ground.phase }, { on := 9, ground := Ground.phase }, { on := 10, ground := Ground.phase }, { on := 11, ground := Ground.phase }, { on := 12, ground := Ground.phase }, { on := 13, ground := Ground.phase }, { on := 14, ground := Ground.phase }, { on := 15, ground := Ground.phase }, { on := 16, ground := Ground.phase }, { on := 17, ground := Ground.phase }, { on := 18, ground := Ground.phase }], guard := none }) (v := ?_) rfl (by kernel_rfl) (by kernel_rfl) (by kernel_rfl) (fun _ _ _ h => h) (Or.inl ⟨by rfl, ?_⟩) (by assumption) ?_
  rotate_left
  · (intro w9 hSw; (try dsimp only at hSw); (go_split_ands; go_simp); (try with_reducible rfl))
  try simp only [Act.put, List.setIfInBounds_toArray, List.set_cons_zero, List.set_cons_succ]
  refine wpAnyH_ready (rs := [20]) (by kernel_rfl) (by simp) ?_
  refine AllReadyH.cons (o := { dst := none, op := Op.store 29 (Operand.tmp 37) (Operand.tmp 34), type := 0, pos := "ref.go:283", after := #[{ on := 19, ground := Ground.data }, { on := 14, ground := Ground.data }, { on := 18, ground := Ground.chain }, { on := 0, ground := Ground.phase }, { on := 1, ground := Ground.phase }, { on := 2, ground := Ground.phase }, { on := 3, ground := Ground.phase }, { on := 4, ground := Ground.phase }, { on := 5, ground := Ground.phase }, { on := 6, ground := Ground.phase }, { on := 7, ground := Ground.phase }, { on := 8, ground := Ground.phase }, { on := 9, ground := Ground.phase }, { on := 10, ground := Ground.phase }, { on := 11, ground := Ground.phase }, { on := 12, ground := Ground.phase }, { on := 13, ground := Ground.phase }, { on := 14, ground := Ground.phase }, { on := 15, ground := Ground.phase }, { on := 16, ground := Ground.phase }, { on := 17, ground := Ground.phase }, { on := 18, ground := Ground.phase }], guard := none }) rfl (fun K hK => ?_) AllReadyH.nil
  go_simp
  skip
  go_wp2_with fail
  refine hK.out _ _ ?_ (fun hHeld => ?_)
  · exact cells3 (BoxAt.drewn (BoxAt.off (BoxAt.off (BoxAt.off (BoxAt.off (BoxAt.off (BoxAt.off M1.out hd1) hd1) hd1) hd1) hd1) hd1))
  clear hK K
  try simp only [Act.put]
  refine wpAnyH_done (by kernel_rfl) ?_ _
  generalize hW7 : World.setCell _ _ _ = W7
  have Q2 := Lib.hid (show BoxAt W7 (w.heap.size + 1 + 1) _ _ by rw [← hW7]; exact (BoxAt.off (BoxAt.off (BoxAt.off (BoxAt.off (BoxAt.off (BoxAt.off M2.out hd2) hd2) hd2) hd2) hd2) hd2))
  have Q3 := Lib.hid (show BoxAt W7 (w.heap.size + 1 + 1 + 1) _ _ by rw [← hW7]; exact (BoxAt.off (BoxAt.off (BoxAt.off (BoxAt.off (BoxAt.off (BoxAt.off M3.out hd3) hd3) hd3) hd3) hd3) hd3))
  have QG := Lib.hid (show BoxAt W7 g _ _ by rw [← hW7]; exact (BoxAt.off (BoxAt.off (BoxAt.off (BoxAt.off (BoxAt.off (BoxAt.off MG.out hdg) hdg) hdg) hdg) hdg) hdg))
  have QS := Lib.hid (show BoxAt W7 W2.heap.size #[.int .i64 (T n).crew, .int .i64 (T n).seam, .int .i64 fr, .int .i64 fr, .int .i64 tt, .int .i64 tt, .int .i64 td, .int .i64 td] 58 by rw [← hW7]; exact (((((MS.out.store 2 _).store 3 _).store 4 _).store 5 _).store 6 _).store 7 _)
  have QB := Lib.hid (show Below w.heap.size w W7 by rw [← hW7]; exact (Below.off (Below.off (Below.off (Below.off (Below.off (Below.off MB.out hd0) hd0) hd0) hd0) hd0) hd0))
  clear hW7 hHeld MD M1 M2 M3 MG MB MS r2 f2 r3 f3 r4 f4 r5 f5 r6 f6 r7 f7
  have hkz := KZ.out
  have hsz := (Array.getElem?_eq_some_iff.1 (JC.out n hn 7 (by omega))).1
  have r0 := cellAt QS.out 0
  have r1 := cellAt QS.out 1
  have r2 := cellAt QS.out 2
  have r3 := cellAt QS.out 3
  have r4 := cellAt QS.out 4
  have r5 := cellAt QS.out 5
  have r6 := cellAt QS.out 6
  have r7 := cellAt QS.out 7
  have f0 := freeAt QG.out (n * 8 + 0)
  have f1 := freeAt QG.out (n * 8 + 1)
  have f2 := freeAt QG.out (n * 8 + 2)
  have f3 := freeAt QG.out (n * 8 + 3)
  have f4 := freeAt QG.out (n * 8 + 4)
  have f5 := freeAt QG.out (n * 8 + 5)
  have f6 := freeAt QG.out (n * 8 + 6)
  have f7 := freeAt QG.out (n * 8 + 7)
  have g0 := (cellAt QG.out (n * 8 + 0)).trans (JC.out n hn 0 (by omega))
  have g1 := (cellAt QG.out (n * 8 + 1)).trans (JC.out n hn 1 (by omega))
  have g2 := (cellAt QG.out (n * 8 + 2)).trans (JC.out n hn 2 (by omega))
  have g3 := (cellAt QG.out (n * 8 + 3)).trans (JC.out n hn 3 (by omega))
  have g4 := (cellAt QG.out (n * 8 + 4)).trans (JC.out n hn 4 (by omega))
  have g5 := (cellAt QG.out (n * 8 + 5)).trans (JC.out n hn 5 (by omega))
  have g6 := (cellAt QG.out (n * 8 + 6)).trans (JC.out n hn 6 (by omega))
  have g7 := (cellAt QG.out (n * 8 + 7)).trans (JC.out n hn 7 (by omega))
  have z0 := cellAt Q3.out 0
  have z1 := cellAt Q3.out 1
  have z2 := cellAt Q3.out 2
  have y0 := cellAt Q2.out 0
  have y1 := cellAt Q2.out 1
  have y2 := cellAt Q2.out 2
  have x0 := freeAt Q2.out 0
  have x1 := freeAt Q2.out 1
  have x2 := freeAt Q2.out 2
  simp only [List.getElem?_toArray, List.getElem?_cons_zero, List.getElem?_cons_succ, Nat.add_zero, Tk.cell] at r0 g0 f0 r1 g1 f1 r2 g2 f2 r3 g3 f3 r4 g4 f4 r5 g5 f5 r6 g6 f6 r7 g7 f7 z0 z1 z2 y0 y1 y2
  have hix := fun w => run_indexAt_row (w := w) (oa := some ⟨g, 0, none⟩) (cap := cap) Try.underlying23 size8 rfl hn
  simp only [blk, ofs, Nat.zero_add] at hix
  have hne : ¬ g = w.heap.size + 1 + 1 + 1 := by omega
  have hne2 : ¬ g = w.heap.size + 1 + 1 := by omega
  have hne3 : ¬ w.heap.size + 1 + 1 = g := by omega
  have hne4 : ¬ w.heap.size + 1 + 1 + 1 = g := by omega
  have hnes : ¬ g = W2.heap.size := by omega
  have hnes2 : ¬ W2.heap.size = g := by omega
  clear hkz hsz hd0 hd1 hd2 hd3 hdg
  go_wp2_with fail
  refine bodyPost_ret (v := .agg #[.int .i64 cr, .slice sa sn sc, .slice (some ⟨g, 0, none⟩) tn cap]) (by simp [results, Try.results83, go_sem, y0, y1, y2]) rfl ⟨g, cap, by have := KZ.out; omega, rfl, ?_, ?_⟩
  · exact tk_store' JC.out ((T n).exact ⟨fr, tt, td⟩) hn hm (BoxAt.drewn (BoxAt.off (BoxAt.off (BoxAt.off ((((((((QG.out.store (n * 8) _).store (n * 8 + 1) _).store (n * 8 + 2) _).store (n * 8 + 3) _).store (n * 8 + 4) _).store (n * 8 + 5) _).store (n * 8 + 6) _).store (n * 8 + 7) _) hne3) hne3) hne3))
  · have hg0 : w.heap.size ≤ g := by have := KZ.out; omega
    have hg1 : w.heap.size ≤ w.heap.size + 1 + 1 := by omega
    exact Below.drew ((Below.off (Below.off (Below.off (Below.off (Below.off (Below.off (Below.off (Below.off (Below.off (Below.off (Below.off QB.out hg0) hg0) hg0) hg0) hg0) hg0) hg0) hg0) hg1) hg1) hg1))
end Go.Proofs.Ytbpeamppkdmdcaa

namespace Go.Proofs.Ytbpeamppkdmdcaa
open Go.RowKit

theorem TicketsAt.off {w : World} {oa : Option Addr} {n c o : Nat} {T : Nat → Tk} {v : Value} (h : TicketsAt w oa n T) (hc : c ≠ blk oa) : TicketsAt (w.setCell ⟨c, o, none⟩ v) oa n T :=
  ⟨h.plain, fun hn => by rw [size_setCell]; exact h.old hn, h.small, fun i hi j hj => (World.cell?_setCell_other _ _ _ _ (fun e => by have e' := congrArg Addr.block e; dsimp only at e'; omega)).trans (h.cells i hi j hj)⟩

set_option maxHeartbeats 1000000 in
theorem fixed_any (cr : Int) (sa ta : Option Addr) (sn sc tn tc : Nat) (T : Nat → Tk) (w : World) (hT : TicketsAt w ta tn T) (h6 : tn ≤ 6) (n : Nat) (hn : n < tn) (fr tt td : Int) :
    Calls Try.prog 91 #[.agg #[.int .i64 cr, .slice sa sn sc, .slice ta tn tc], .int .i64 n, .int .i64 fr, .int .i64 tt, .int .i64 td] w fun e w' => ∃ g cap, w.heap.size ≤ g ∧ e = .returned (.agg #[.int .i64 cr, .slice sa sn sc, .slice (some ⟨g, 0, none⟩) tn cap]) ∧ TicketsAt w' (some ⟨g, 0, none⟩) tn (updT T n ((T n).exact ⟨fr, tt, td⟩)) ∧ Below w.heap.size w w' := by
  have C := fun W' (hb : Below w.heap.size w W') => fixed_ref cr sa ta sn sc tn tc T W' (hT.grow hb) h6 n hn ⟨fr, tt, td⟩
  simp only [Kn.v] at C
  clear hT
  go_enter Try.func91, Try.ntmps91
  go_wp2_with (go_at_call 83; refine (C _ (((Below.refl _ _).alloc (Nat.le_refl _) _).alloc (by simp) _)).mono ?_)
  generalize hW : World.alloc _ _ = W
  obtain ⟨q0, q1, hz, hB⟩ := blocks2 hW
  clear hW C
  rintro e w1 ⟨g, cap, hg, rfl, hT1, hb1⟩
  have BO := Lib.hid (show BoxAt W (w.heap.size + 1) #[.int .i64 0, .slice none 0 0, .slice none 0 0] 25 from q1)
  have B1 := Lib.hid (BO.out.grow hb1)
  have HB := Lib.hid (hB.trans (hb1.mono hB.size))
  have HT := Lib.hid hT1
  have HG := Lib.hid (show w.heap.size + 1 < g by omega)
  clear hg hT1 hb1 hB q0 q1 hz BO
  have y0 := cellAt B1.out 0
  have y1 := cellAt B1.out 1
  have y2 := cellAt B1.out 2
  have x0 := freeAt B1.out 0
  have x1 := freeAt B1.out 1
  have x2 := freeAt B1.out 2
  simp only [List.getElem?_toArray, List.getElem?_cons_zero, List.getElem?_cons_succ] at y0 y1 y2
  go_wp2_with fail
  refine bodyPost_ret (v := .agg #[.int .i64 cr, .slice sa sn sc, .slice (some ⟨g, 0, none⟩) tn cap]) (by simp [results, Try.results91, go_sem, y0, y1, y2]) rfl ⟨g, cap, by have := HG.out; omega, rfl, ?_, ?_⟩
  · have hne : w.heap.size + 1 ≠ blk (some ⟨g, 0, none⟩) := by have := HG.out; simp only [blk]; omega
    exact ((HT.out.off hne).off hne).off hne
  · have h : w.heap.size ≤ w.heap.size + 1 := by omega
    exact Below.off (Below.off (Below.off HB.out h) h) h
end Go.Proofs.Ytbpeamppkdmdcaa

namespace Go.Proofs.Ytbpeamppkdmdcaa
open Go.RowKit

/-- .. from minus one. -/
def worstM (S : Nat → Sm) (T : Nat → Tk) (sn tn : Nat) (c : Int) (n : Nat) (l : List Kn) : Int := l.foldl (fun m k => max m (spreadOf S (updT T n ((T n).exact k)) sn tn c)) (-1)
theorem max_if (x y : Int) : max x y = if x < y then y else x := by split <;> omega
theorem worstM_snoc (S : Nat → Sm) (T : Nat → Tk) (sn tn : Nat) (c : Int) (n : Nat) (l : List Kn) (k : Kn) :
    worstM S T sn tn c n (l ++ [k]) = max (worstM S T sn tn c n l) (spreadOf S (updT T n ((T n).exact k)) sn tn c) := by simp [worstM]
theorem worstM_wide {cr : Int} {sn tn : Nat} {S : Nat → Sm} {T : Nat → Tk} (hv : Valid cr sn tn S T) (c : Int) {n : Nat} (hn : n < tn) : worstM S T sn tn c n (canL (T n)) = wideOf S T sn tn c n := by
  have hsp := hv.spans hn
  have hlen : 0 < (canL (T n)).length := by
    unfold canL
    rw [aL_len]
    exact Nat.mul_pos (by unfold aN; omega) (Nat.mul_pos (by unfold bN; omega) (by unfold kN; omega))
  unfold wideOf worst worstM
  cases hl : canL (T n) with
  | nil => rw [hl] at hlen; cases hlen
  | cons k l =>
    have hk : InT (T n) k := mem_canL (by rw [hl]; exact List.mem_cons_self)
    have h0 := spread_nn (hv.fix hn hk) c
    simp only [List.foldl_cons]
    rw [show max (-1 : Int) (spreadOf S (updT T n ((T n).exact k)) sn tn c) = max 0 (spreadOf S (updT T n ((T n).exact k)) sn tn c) by omega]

def XI (w : World) (cr : Int) (sa ta : Option Addr) (sn sc tn tc : Nat) (S : Nat → Sm) (T : Nat → Tk) (n : Nat) (c : Int) (l : List Kn) (o : Value) (wr : World) : Prop :=
  o = .int .i64 (worstM S T sn tn c n l) ∧ TB w cr sa ta sn sc tn tc S T w.heap.size (w.heap.size + 1) (T n) wr

set_option maxRecDepth 100000 in
set_option maxHeartbeats 4000000 in
theorem wide_any (cr : Int) (sa ta : Option Addr) (sn sc tn tc : Nat) (S : Nat → Sm) (T : Nat → Tk) (w : World) (hS : SeamsAt w sa sn S) (hT : TicketsAt w ta tn T) (hv : Valid cr sn tn S T) (c : Int) (c0 : 0 ≤ c) (c1 : c ≤ cr - 1) (n : Nat) (hn : n < tn) :
    Calls Try.prog 39 #[.agg #[.int .i64 cr, .slice sa sn sc, .slice ta tn tc], .int .i64 n, .int .i64 c] w fun e w' => e = .returned (.int .i64 (wideOf S T sn tn c n)) ∧ Below w.heap.size w w' := by
  have H0 := Lib.hid (WB.new (cr := cr) (sc := sc) (tc := tc) hS hT)
  have hix := fun w => run_indexAt_row (w := w) (cap := tc) Try.underlying23 size8 (hT.plain (by omega)) hn
  have tk := (H0.out.tt).at hn
  have hsp := hv.spans hn
  rw [← worstM_wide hv c hn]
  have C := Lib.hid (fun W' (h : TicketsAt W' ta tn T) (k : Kn) => fixed_any cr sa ta sn sc tn tc T W' h hv.tn6 n hn k.fr k.to k.td)
  have D := Lib.hid (fun W' (h : SeamsAt W' sa sn S) g cap (k : Kn) (hk : InT (T n) k) (h2 : TicketsAt W' (some ⟨g, 0, none⟩) tn (updT T n ((T n).exact k))) =>
    (dues_any cr sa (some ⟨g, 0, none⟩) sn sc tn cap S _ c W' h h2).mono fun e w' h => h.yes (hv.fix hn hk) (by unfold inB; simp; omega))
  clear hS hT
  go_enter Try.func39, Try.ntmps39
  go_wp2_with fail
  have I0 := Lib.hid (TB.new H0.out (T n))
  clear H0 tk hix
  go_loopw [8, 9] (fun o a wr => ∃ i : Nat, i ≤ aN (T n) ∧ a = .int .i64 ((T n).fl + i) ∧ XI w cr sa ta sn sc tn tc S T n c (aL (T n) i) o wr) (fun _ a _ => ((T n).fh + 1 - intOf a).toNat)
  case atStart => exact ⟨0, Nat.zero_le _, by simp, rfl, by have h := I0.out; simpa using h⟩
  case round =>
    clear I0
    obtain ⟨i, hi, rfl, rfl, hI⟩ := hrel
    have HI := Lib.hid hI
    have c3 := cellAt hI.tb 3
    have c4 := cellAt hI.tb 4
    simp only [List.getElem?_toArray, List.getElem?_cons_zero, List.getElem?_cons_succ] at c3 c4
    clear hI
    simp only [aN] at hi
    by_cases hlt : (T n).fl + i ≤ (T n).fh
    · go_wp2_with fail
      clear c3 c4
      obtain ⟨wo, rfl⟩ : ∃ wo : World, wo = wr := ⟨_, rfl⟩
      go_loopw [8, 10] (fun o b wr => ∃ j : Nat, j ≤ bN (T n) ∧ b = .int .i64 ((T n).tl + j) ∧ XI w cr sa ta sn sc tn tc S T n c (aL (T n) i ++ bL (T n) ((T n).fl + i) j) o wr) (fun _ b _ => ((T n).th + 1 - intOf b).toNat)
      case atStart => exact ⟨0, Nat.zero_le _, by simp, by simp [bL], HI.out⟩
      case round =>
        clear HI
        obtain ⟨j, hj, rfl, rfl, hI⟩ := hrel
        have HI := Lib.hid hI
        have c5 := cellAt hI.tb 5
        have c6 := cellAt hI.tb 6
        simp only [List.getElem?_toArray, List.getElem?_cons_zero, List.getElem?_cons_succ] at c5 c6
        clear hI
        simp only [bN] at hj
        by_cases hlt2 : (T n).tl + j ≤ (T n).th
        · go_wp2_with fail
          clear c5 c6
          obtain ⟨wo, rfl⟩ : ∃ wo : World, wo = wr := ⟨_, rfl⟩
          go_loopw [8, 11] (fun o b wr => ∃ k : Nat, k ≤ kN (T n) ∧ b = .int .i64 ((T n).dl + k) ∧ XI w cr sa ta sn sc tn tc S T n c (aL (T n) i ++ bL (T n) ((T n).fl + i) j ++ kL (T n) ((T n).fl + i) ((T n).tl + j) k) o wr) (fun _ b _ => ((T n).dh + 1 - intOf b).toNat)
          case atStart => exact ⟨0, Nat.zero_le _, by simp, by simp [kL], HI.out⟩
          case round =>
            clear HI
            obtain ⟨k, hk, rfl, rfl, hI⟩ := hrel
            have HI := Lib.hid hI
            have c7 := cellAt hI.tb 7
            have b0 := cellAt hI.wb.box 0
            have b1 := cellAt hI.wb.box 1
            have b2 := cellAt hI.wb.box 2
            simp only [List.getElem?_toArray, List.getElem?_cons_zero, List.getElem?_cons_succ] at c7 b0 b1 b2
            clear hI
            simp only [kN] at hk
            by_cases hlt3 : (T n).dl + k ≤ (T n).dh
            · go_wp2_with (go_at_call 91; refine (C.out _ HI.out.wb.tt ⟨(T n).fl + i, (T n).tl + j, (T n).dl + k⟩).mono ?_)
              rintro e w1 g hg cap rfl hT1 hb1
              have hk : InT (T n) ⟨(T n).fl + i, (T n).tl + j, (T n).dl + k⟩ := by unfold InT; dsimp only; omega
              have HJ := Lib.hid (HI.out.grow hb1)
              have DD := Lib.hid (D.out w1 HJ.out.wb.ss g cap _ hk hT1)
              have hbd := coinsOf_bd (hv.fix hn hk) (mostK c (updT T n ((T n).exact ⟨(T n).fl + i, (T n).tl + j, (T n).dl + k⟩))) c
              have hbd2 := coinsOf_bd (hv.fix hn hk) (leastK c (updT T n ((T n).exact ⟨(T n).fl + i, (T n).tl + j, (T n).dl + k⟩))) c
              have hwr : IntKind.i64.wrap (coinsOf S (updT T n ((T n).exact ⟨(T n).fl + i, (T n).tl + j, (T n).dl + k⟩)) (mostK c (updT T n ((T n).exact ⟨(T n).fl + i, (T n).tl + j, (T n).dl + k⟩))) sn tn c - coinsOf S (updT T n ((T n).exact ⟨(T n).fl + i, (T n).tl + j, (T n).dl + k⟩)) (leastK c (updT T n ((T n).exact ⟨(T n).fl + i, (T n).tl + j, (T n).dl + k⟩))) sn tn c) = spreadOf S (updT T n ((T n).exact ⟨(T n).fl + i, (T n).tl + j, (T n).dl + k⟩)) sn tn c := IntWalk.i64_in _ (by omega)
              clear hbd hbd2 hg hT1 hb1 c7 b0 b1 b2 HI
              go_wp2_with (go_at_call 21; refine DD.out.mono ?_; rintro e w2 ⟨rfl, hb2⟩; have HK := Lib.hid (HJ.out.grow hb2))
              refine ⟨⟨k + 1, by simp only [kN]; omega, by congr 1; omega, ?_, HK.out.grow ((Below.refl _ _).alloc (Nat.le_refl _) _)⟩, by simp [intOf]; omega⟩
              have e := worstM_snoc S T sn tn c n (aL (T n) i ++ bL (T n) ((T n).fl + i) j ++ kL (T n) ((T n).fl + i) ((T n).tl + j) k) ⟨(T n).fl + i, (T n).tl + j, (T n).dl + k⟩
              rw [List.append_assoc _ (kL _ _ _ _), ← kL_succ] at e
              rw [e, max_if]
              simp only [List.append_assoc]
            · have e := Lib.hid (show k = kN (T n) by simp only [kN]; omega)
              go_wp2_with fail
              exact ⟨⟨j + 1, by simp only [bN]; omega, by congr 1; omega, by rw [bL_succ, ← List.append_assoc, ← e.out], HI.out⟩, by simp [intOf]; omega⟩
        · have e := Lib.hid (show j = bN (T n) by simp only [bN]; omega)
          go_wp2_with fail
          exact ⟨⟨i + 1, by simp only [aN]; omega, by congr 1; omega, by rw [aL_succ, ← e.out], HI.out⟩, by simp [intOf]; omega⟩
    · have e := Lib.hid (show i = aN (T n) by simp only [aN]; omega)
      go_wp2_with fail
      refine bodyPost_ret (v := .int .i64 (worstM S T sn tn c n (aL (T n) i))) (by simp [results, Try.results39, go_sem]) rfl ⟨by rw [e.out]; rfl, HI.out.wb.bel⟩
end Go.Proofs.Ytbpeamppkdmdcaa

namespace Go.Proofs.Ytbpeamppkdmdcaa
open Go.RowKit

set_option maxRecDepth 100000 in
set_option maxHeartbeats 4000000 in
theorem ask_law (cr : Int) (sa ta : Option Addr) (sn sc tn tc : Nat) (S : Nat → Sm) (T : Nat → Tk) (who which : Int) (hw : 0 ≤ who ∧ who ≤ 255) (hk : 0 ≤ which ∧ which ≤ 255) (w : World) (hS : SeamsAt w sa sn S) (hT : TicketsAt w ta tn T) :
    Calls Try.prog 9 #[.agg #[.int .i64 cr, .slice sa sn sc, .slice ta tn tc], .int .u8 who, .int .u8 which] w fun e w' => e = .returned (.bool true) ∧ Below w.heap.size w w' := by
  have I0 := Lib.hid (WB.new (cr := cr) (sc := sc) (tc := tc) hS hT)
  have q0 := cellAt I0.out.box 0
  have q1 := cellAt I0.out.box 1
  have q2 := cellAt I0.out.box 2
  simp only [List.getElem?_toArray, List.getElem?_cons_zero, List.getElem?_cons_succ] at q0 q1 q2
  clear hS hT
  go_enter Try.func9, Try.ntmps9
  go_wp2_with (first | (go_at_call 32; refine (fine_any cr sa ta sn sc tn tc S T _ I0.out.ss I0.out.tt).mono ?_))
  rintro e w1 ⟨b, rfl, hbv, hb1⟩
  have I1 := Lib.hid (I0.out.grow hb1)
  clear I0 hb1 q0 q1 q2
  have q0 := cellAt I1.out.box 0
  have q1 := cellAt I1.out.box 1
  have q2 := cellAt I1.out.box 2
  simp only [List.getElem?_toArray, List.getElem?_cons_zero, List.getElem?_cons_succ] at q0 q1 q2
  cases b with
  | false =>
    clear hbv q0 q1 q2
    go_wp2_with (go_at_call 14; refine (awake_any _).mono ?_; rintro e w2 ⟨rfl, hb2⟩; have HB := Lib.hid (I1.out.bel.next hb2))
    exact bodyPost_ret (v := .bool true) (by simp [results, Try.results9, go_sem]) rfl ⟨rfl, HB.out⟩
  | true =>
    have HV := Lib.hid (hbv.1 rfl)
    clear hbv
    have hcr := Lib.hid (show 1 ≤ cr ∧ cr ≤ 4 by have := HV.out.cr0; have := HV.out.cr1; omega)
    have hcr1 := hcr.out
    obtain ⟨c, hr, hrl⟩ : ∃ c : Nat, Int.tmod who cr = c ∧ (c : Int) < cr := ⟨(who % cr).toNat, by rw [Int.tmod_eq_emod_of_nonneg hw.1]; have := Int.emod_nonneg who (show cr ≠ 0 by omega); omega, by have := Int.emod_nonneg who (show cr ≠ 0 by omega); have := Int.emod_lt_of_pos who (show 0 < cr by omega); omega⟩
    have hib : inB (c : Int) 0 (cr - 1) = true := inB_iff.2 ⟨by omega, by omega⟩
    have CA := Lib.hid (fun W h1 h2 => asks_any cr sa ta sn sc tn tc S T c W h1 h2)
    have CD := Lib.hid (fun W h1 h2 => (dues_any cr sa ta sn sc tn tc S T c W h1 h2).mono fun e w' h => h.yes HV.out hib)
    have CW := Lib.hid (fun W (n : Nat) (hn : n < tn) h1 h2 => wide_any cr sa ta sn sc tn tc S T W h1 h2 HV.out c (by omega) (by omega) n hn)
    have hsp : spreadOf S T sn tn c = coinsOf S T (mostK c T) sn tn c - coinsOf S T (leastK c T) sn tn c := rfl
    have hlo := coinsOf_bd HV.out (leastK c T) c
    have hhi := coinsOf_bd HV.out (mostK c T) c
    obtain ⟨lo, elo⟩ : ∃ x, x = coinsOf S T (leastK c T) sn tn c := ⟨_, rfl⟩
    obtain ⟨hi, ehi⟩ : ∃ x, x = coinsOf S T (mostK c T) sn tn c := ⟨_, rfl⟩
    rw [← elo] at CD hsp hlo
    rw [← ehi] at CD hsp hhi
    have HSP := Lib.hid hsp
    have HIB := Lib.hid hib
    clear hsp elo ehi hib
    go_wp2_with (go_at_call 28; refine (CA.out _ I1.out.ss I1.out.tt).mono ?_)
    rintro e w2 ⟨hb2, h | h | h | h⟩
    · obtain ⟨-, -, hne, rfl⟩ := h
      have I2 := Lib.hid (I1.out.grow hb2)
      clear I1 hb2 q0 q1 q2 CA hw hr
      have q0 := cellAt I2.out.box 0
      have q1 := cellAt I2.out.box 1
      have q2 := cellAt I2.out.box 2
      simp only [List.getElem?_toArray, List.getElem?_cons_zero, List.getElem?_cons_succ] at q0 q1 q2
      have htn : 0 < tn := Nat.pos_of_ne_zero fun h0 => hne (by rw [h0]; exact spread_none S T sn c)
      obtain ⟨hn1, hn2, hn3⟩ := few_min (wideOf S T sn tn c) tn htn
      have hfv := fewV_eq (wideOf S T sn tn c) htn
      unfold askRet
      rw [hfv]
      obtain ⟨n, en⟩ : ∃ n, n = fewI (wideOf S T sn tn c) tn := ⟨_, rfl⟩
      rw [← en] at hn1 hn2 hn3 ⊢
      have hw0 := wide_nn S T sn tn c n
      have hw1 := wide_le HV.out c hn1
      have HN2 := Lib.hid hn2
      have HN3 := Lib.hid hn3
      have CN := Lib.hid (fun W h1 h2 => CW.out W n hn1 h1 h2)
      have EM : Hid (∀ k, wideOf S T sn tn c k = wideOf S T sn tn c k) := Lib.hid fun _ => rfl
      obtain ⟨M, eM⟩ : ∃ M, M = wideOf S T sn tn c n := ⟨_, rfl⟩
      rw [← eM] at hw0 hw1 HN2 HN3 CN ⊢
      rw [HSP.out] at hne hw1
      obtain ⟨k, hkr, hkl⟩ : ∃ k : Nat, Int.tmod which tn = k ∧ k < tn := ⟨(which % tn).toNat, by rw [Int.tmod_eq_emod_of_nonneg hk.1]; have := Int.emod_nonneg which (show (tn : Int) ≠ 0 by omega); omega, by have := Int.emod_nonneg which (show (tn : Int) ≠ 0 by omega); have := Int.emod_lt_of_pos which (show 0 < (tn : Int) by omega); omega⟩
      have g1 := HN2.out k hkl
      have g2 := HN3.out k
      have CK := Lib.hid (fun W h1 h2 => CW.out W k hkl h1 h2)
      obtain ⟨X, eX⟩ : ∃ X, X = wideOf S T sn tn c k := ⟨_, rfl⟩
      rw [← eX] at g1 g2 CK
      have G2 := Lib.hid g2
      have hlh : (lo == hi) = false := by simp; omega
      clear hfv en eM eX hn2 hn3 CW HN2 HN3 EM g2 hne
      have hwr : IntKind.i64.wrap (hi - lo) = hi - lo := IntWalk.i64_in _ (by omega)
      go_wp2_with (go_at_call 21; refine (CD.out _ I2.out.ss I2.out.tt).mono ?_; rintro e w3 ⟨rfl, hb3⟩; have I3 := Lib.hid (I2.out.grow hb3); have I4 := Lib.hid (I3.out.grow ((Below.refl _ _).alloc (Nat.le_refl _) (.cells #[.int .i64 lo, .int .i64 hi] 29))); clear hb3 q0 q1 q2; have q0 := fun o => cellAt (I3.out.grow ((Below.refl _ _).alloc (Nat.le_refl _) o)).box 0; have q1 := fun o => cellAt (I3.out.grow ((Below.refl _ _).alloc (Nat.le_refl _) o)).box 1; have q2 := fun o => cellAt (I3.out.grow ((Below.refl _ _).alloc (Nat.le_refl _) o)).box 2; simp only [List.getElem?_toArray, List.getElem?_cons_zero, List.getElem?_cons_succ] at q0 q1 q2)
      refine (CN.out _ I4.out.ss I4.out.tt).mono ?_
      generalize hW : World.alloc _ _ = W at *
      rintro e w5 ⟨rfl, hb5⟩
      have BS := Lib.hid (show BoxAt w5 w3.heap.size #[.int .i64 lo, .int .i64 hi] 29 from BoxAt.grow (blocks1 hW).1 hb5)
      have I5 := Lib.hid (I4.out.grow hb5)
      clear hW hb5 I3 I4 q0 q1 q2
      have q0 := cellAt I5.out.box 0
      have q1 := cellAt I5.out.box 1
      have q2 := cellAt I5.out.box 2
      have s0 := cellAt BS.out 0
      have s1 := cellAt BS.out 1
      simp only [List.getElem?_toArray, List.getElem?_cons_zero, List.getElem?_cons_succ] at q0 q1 q2 s0 s1
      go_wp2_with (go_at_call 39; refine (CK.out _ I5.out.ss I5.out.tt).mono ?_; rintro e w6 ⟨rfl, hb6⟩; have I6 := Lib.hid (I5.out.grow hb6); clear hb6)
      all_goals first | (exfalso; have := G2.out; omega) | skip
      all_goals
        refine (awake_any _).mono ?_
        rintro e w7 ⟨rfl, hb7⟩
        have I7 := Lib.hid (I6.out.bel.next hb7)
        go_wp2_with fail
        exact bodyPost_ret (v := .bool true) (by simp [results, Try.results9, go_sem]) rfl ⟨rfl, I7.out⟩
    · obtain ⟨-, -, hz, rfl⟩ := h
      have I2 := Lib.hid (I1.out.grow hb2)
      clear I1 hb2 q0 q1 q2 CA CW hw hr
      have q0 := cellAt I2.out.box 0
      have q1 := cellAt I2.out.box 1
      have q2 := cellAt I2.out.box 2
      simp only [List.getElem?_toArray, List.getElem?_cons_zero, List.getElem?_cons_succ] at q0 q1 q2
      rw [HSP.out] at hz
      obtain rfl : lo = hi := by omega
      clear hz
      unfold askRet
      go_wp2_with (go_at_call 21; refine (CD.out _ I2.out.ss I2.out.tt).mono ?_; rintro e w3 ⟨rfl, hb3⟩; have I3 := Lib.hid (I2.out.grow hb3); clear hb3)
      refine (awake_any _).mono ?_
      rintro e w4 ⟨rfl, hb4⟩
      have I4 := Lib.hid ((I3.out.grow ((Below.refl _ _).alloc (Nat.le_refl _) (.cells #[.int .i64 lo, .int .i64 lo] 29))).bel.next hb4)
      go_wp2_with fail
      exact bodyPost_ret (v := .bool true) (by simp [results, Try.results9, go_sem]) rfl ⟨rfl, I4.out⟩
    · exact absurd h.2.1 (by rw [HIB.out]; simp)
    · exact absurd HV.out h.1
end Go.Proofs.Ytbpeamppkdmdcaa
