/-
  Walks: a ticket of which all is known.
  Walks: all that a ticket can be, one after another (a range over a function).
  Rows of tickets that the call makes: copied, and one of them written anew.
  Walks: how well it is known what is due to a crew, at worst, if a ticket is known.
  Walks: the first of some tickets with least of a measure.
  Walks: the exported functions: of which ticket one should know more.
-/
import Derived.Test.YtbpeamppkdmdcaaG5
import Derived.RangeFuncNested
import Derived.RangeFuncBound
import Derived.RangeFuncCalls
import Derived.RangeFuncLeaves
import Derived.Shelf.Abstract
import Derived.Shelf.RegionOpen
import Derived.OwnWalkIn
import Derived.TacticsInMore
import Derived.LoopNIn
import Derived.LoopIn
import Derived.Laws.CopyOwn
import Derived.Test.YtbpeamppkdmdcaaG1

namespace Go.Proofs.Ytbpeamppkdmdcaa
open Go.RowKit

set_option maxHeartbeats 400000 in
theorem one_any (n : Int) (w : World) :
    Calls Try.prog 101 #[.int .i64 n] w fun e w' => e = .returned (.agg #[.int .i64 n, .int .i64 n]) ∧ Below w.heap.size w w' := by
  go_enter Try.func101, Try.ntmps101
  go_wp2
  exact bodyPost_ret (v := .agg #[.int .i64 n, .int .i64 n]) (by simp [results, Try.results101, go_sem]) rfl ⟨rfl, (Below.refl _ _).alloc (Nat.le_refl _) _⟩

def Tk.exact (t : Tk) (k : Kn) : Tk := ⟨t.crew, t.seam, k.fr, k.fr, k.to, k.to, k.td, k.td⟩

set_option maxRecDepth 100000 in
set_option maxHeartbeats 2000000 in
theorem exact_any (k : Kn) (t : Tk) (w : World) :
    Calls Try.prog 81 #[k.v, t.v] w fun e w' => e = .returned (t.exact k).v ∧ Below w.heap.size w w' := by
  obtain ⟨fr, to, td⟩ := k
  obtain ⟨cr, se, fl, fh, tl, th, dl, dh⟩ := t
  unfold Kn.v Tk.v Tk.exact
  dsimp only
  go_enter Try.func81, Try.ntmps81
  go_wp2_with fail
  generalize hW : World.alloc _ _ = W
  obtain ⟨q0, q1, q2, hz, hB⟩ := blocks3 hW
  clear hW
  have HB := Lib.hid hB
  have hsz : w.heap.size + 3 ≤ W.heap.size := by omega
  have H0 := Lib.hid (show BoxAt W w.heap.size #[.int .i64 fr, .int .i64 to, .int .i64 td] 93 from q0)
  have H1 := Lib.hid (show BoxAt W (w.heap.size + 1) #[.int .i64 cr, .int .i64 se, .int .i64 fl, .int .i64 fh, .int .i64 tl, .int .i64 th, .int .i64 dl, .int .i64 dh] 58 from q1)
  have H2 := Lib.hid (show BoxAt W (w.heap.size + 1 + 1) #[.int .i64 0, .int .i64 0, .int .i64 0, .int .i64 0, .int .i64 0, .int .i64 0, .int .i64 0, .int .i64 0] 58 from q2)
  clear q0 q1 q2 hz hB
  go_wp2_with fail
  go_wp2_with fail
  have hd := Below.drew (Below.refl W.heap.size W)
  have X0 := Lib.hid (H0.out.grow hd)
  have Y0 := Lib.hid (H1.out.grow hd)
  have Z0 := Lib.hid (H2.out.grow hd)
  have B0 := Lib.hid (HB.out.trans (hd.mono (by omega)))
  clear hd H0 H1 H2 HB
  refine wp_region_held_drew (S := (fun w' => w'.cell? ⟨w.heap.size, 0, none⟩ = some (.int .i64 fr) ∧ w'.cell? ⟨w.heap.size, 1, none⟩ = some (.int .i64 to) ∧ w'.cell? ⟨w.heap.size, 2, none⟩ = some (.int .i64 td))) (by kernel_rfl) (by exact ⟨cellAt X0.out 0, cellAt X0.out 1, cellAt X0.out 2⟩) (fun hHeld => ?_)
  refine wpAnyH_take (i := 0) (oi := { dst := some 6, op := Op.move (Operand.tmp 5), type := 106, pos := "wage.go:71", after := #[], guard := none }) (v := ?_) rfl (by kernel_rfl) (by kernel_rfl) (by kernel_rfl) (fun _ _ _ h => h) (Or.inl ⟨by rfl, ?_⟩) (by assumption) ?_
  rotate_left
  · (intro w9 hSw; (try dsimp only at hSw); (go_split_ands; go_simp); (try with_reducible rfl))
  try simp only [Act.put, List.setIfInBounds_toArray, List.set_cons_zero, List.set_cons_succ]
  refine wpAnyH_take (i := 1) (oi := { dst := some 7, op := Op.fieldAddr 93 (Operand.tmp 2) 0, type := 0, pos := "wage.go:71", after := #[], guard := none }) (v := ?_) rfl (by kernel_rfl) (by kernel_rfl) (by kernel_rfl) (fun _ _ _ h => h) (Or.inl ⟨by rfl, ?_⟩) (by assumption) ?_
  rotate_left
  · (intro w9 hSw; (try dsimp only at hSw); (go_split_ands; go_simp); (try with_reducible rfl))
  try simp only [Act.put, List.setIfInBounds_toArray, List.set_cons_zero, List.set_cons_succ]
  refine wpAnyH_take (i := 2) (oi := { dst := some 8, op := Op.load 3 (Operand.tmp 7), type := 3, pos := "wage.go:71", after := #[{ on := 1, ground := Ground.data }], guard := none }) (v := ?_) rfl (by kernel_rfl) (by kernel_rfl) (by kernel_rfl) (fun _ _ _ h => h) (Or.inl ⟨by rfl, ?_⟩) (by assumption) ?_
  rotate_left
  · (intro w9 hSw; (try dsimp only at hSw); (go_split_ands; go_simp); (try with_reducible rfl))
  try simp only [Act.put, List.setIfInBounds_toArray, List.set_cons_zero, List.set_cons_succ]
  refine wpAnyH_take (i := 4) (oi := { dst := some 10, op := Op.move (Operand.tmp 5), type := 106, pos := "wage.go:71", after := #[], guard := none }) (v := ?_) rfl (by kernel_rfl) (by kernel_rfl) (by kernel_rfl) (fun _ _ _ h => h) (Or.inl ⟨by rfl, ?_⟩) (by assumption) ?_
  rotate_left
  · (intro w9 hSw; (try dsimp only at hSw); (go_split_ands; go_simp); (try with_reducible rfl))
  try simp only [Act.put, List.setIfInBounds_toArray, List.set_cons_zero, List.set_cons_succ]
  refine wpAnyH_take (i := 5) (oi := { dst := some 11, op := Op.fieldAddr 93 (Operand.tmp 2) 1, type := 0, pos := "wage.go:71", after := #[], guard := none }) (v := ?_) rfl (by kernel_rfl) (by kernel_rfl) (by kernel_rfl) (fun _ _ _ h => h) (Or.inl ⟨by rfl, ?_⟩) (by assumption) ?_
  rotate_left
  · (intro w9 hSw; (try dsimp only at hSw); (go_split_ands; go_simp); (try with_reducible rfl))
  try simp only [Act.put, List.setIfInBounds_toArray, List.set_cons_zero, List.set_cons_succ]
  refine wpAnyH_take (i := 6) (oi := { dst := some 12, op := Op.load 3 (Operand.tmp 11), type := 3, pos := "wage.go:71", after := #[{ on := 5, ground := Ground.data }], guard := none }) (v := ?_) rfl (by kernel_rfl) (by kernel_rfl) (by kernel_rfl) (fun _ _ _ h => h) (Or.inl ⟨by rfl, ?_⟩) (by assumption) ?_
  rotate_left
  · (intro w9 hSw; (try dsimp only at hSw); (go_split_ands; go_simp); (try with_reducible rfl))
  try simp only [Act.put, List.setIfInBounds_toArray, List.set_cons_zero, List.set_cons_succ]
  refine wpAnyH_take (i := 8) (oi := { dst := some 14, op := Op.move (Operand.tmp 5), type := 106, pos := "wage.go:71", after := #[], guard := none }) (v := ?_) rfl (by kernel_rfl) (by kernel_rfl) (by kernel_rfl) (fun _ _ _ h => h) (Or.inl ⟨by rfl, ?_⟩) (by assumption) ?_
  rotate_left
  · (intro w9 hSw; (try dsimp only at hSw); (go_split_ands; go_simp); (try with_reducible rfl))
  try simp only [Act.put, List.setIfInBounds_toArray, List.set_cons_zero, List.set_cons_succ]
  refine wpAnyH_take (i := 9) (oi := { dst := some 15, op := Op.fieldAddr 93 (Operand.tmp 2) 2, type := 0, pos := "wage.go:71", after := #[], guard := none }) (v := ?_) rfl (by kernel_rfl) (by kernel_rfl) (by kernel_rfl) (fun _ _ _ h => h) (Or.inl ⟨by rfl, ?_⟩) (by assumption) ?_
  rotate_left
  · (intro w9 hSw; (try dsimp only at hSw); (go_split_ands; go_simp); (try with_reducible rfl))
  try simp only [Act.put, List.setIfInBounds_toArray, List.set_cons_zero, List.set_cons_succ]
  refine wpAnyH_take (i := 10) (oi := { dst := some 16, op := Op.load 3 (Operand.tmp 15), type := 3, pos := "wage.go:71", after := #[{ on := 9, ground := Ground.data }], guard := none }) (v := ?_) rfl (by kernel_rfl) (by kernel_rfl) (by kernel_rfl) (fun _ _ _ h => h) (Or.inl ⟨by rfl, ?_⟩) (by assumption) ?_
  rotate_left
  · (intro w9 hSw; (try dsimp only at hSw); (go_split_ands; go_simp); (try with_reducible rfl))
  try simp only [Act.put, List.setIfInBounds_toArray, List.set_cons_zero, List.set_cons_succ]
  refine wpAnyH_ready (rs := [3]) (by kernel_rfl) (by simp) ?_
  refine AllReadyH.cons (o := { dst := some 9, op := Op.call { callee := Callee.value (Operand.tmp 6), args := #[Operand.tmp 8], argTypes := #[3] }, type := 29, pos := "wage.go:71", after := #[{ on := 0, ground := Ground.data }, { on := 2, ground := Ground.data }], guard := none }) rfl (fun K hK => ?_) AllReadyH.nil
  go_simp
  refine (one_any _ _).mono ?_; rintro e w1 ⟨rfl, hb1⟩; have X1 := Lib.hid (X0.out.grow hb1); have Y1 := Lib.hid (Y0.out.grow hb1); have Z1 := Lib.hid (Z0.out.grow hb1); have B1 := Lib.hid (B0.out.trans (hb1.mono B0.out.size)); clear hb1
  go_wp2_with fail
  refine hK.out _ _ ?_ (fun hHeld => ?_)
  · exact ⟨cellAt X1.out 0, cellAt X1.out 1, cellAt X1.out 2⟩
  clear hK K
  try simp only [Act.put, List.setIfInBounds_toArray, List.set_cons_zero, List.set_cons_succ]
  refine wpAnyH_take (i := 12) (oi := { dst := some 18, op := Op.fieldAddr 58 (Operand.tmp 3) 2, type := 0, pos := "wage.go:71", after := #[{ on := 0, ground := Ground.phase }, { on := 1, ground := Ground.phase }, { on := 2, ground := Ground.phase }, { on := 3, ground := Ground.phase }, { on := 4, ground := Ground.textOnly Departure.lateStores }, { on := 5, ground := Ground.textOnly Departure.lateStores }, { on := 6, ground := Ground.textOnly Departure.lateStores }, { on := 7, ground := Ground.textOnly Departure.lateStoresUnsure }, { on := 8, ground := Ground.textOnly Departure.lateStores }, { on := 9, ground := Ground.textOnly Departure.lateStores }, { on := 10, ground := Ground.textOnly Departure.lateStores }, { on := 11, ground := Ground.textOnly Departure.lateStoresUnsure }], guard := none }) (v := ?_) rfl (by kernel_rfl) (by kernel_rfl) (by kernel_rfl) (fun _ _ _ h => h) (Or.inl ⟨by rfl, ?_⟩) (by assumption) ?_
  rotate_left
  · (intro w9 hSw; (try dsimp only at hSw); (go_split_ands; go_simp); (try with_reducible rfl))
  try simp only [Act.put, List.setIfInBounds_toArray, List.set_cons_zero, List.set_cons_succ]
  refine wpAnyH_ready (rs := [7]) (by kernel_rfl) (by simp) ?_
  refine AllReadyH.cons (o := { dst := some 13, op := Op.call { callee := Callee.value (Operand.tmp 10), args := #[Operand.tmp 12], argTypes := #[3] }, type := 29, pos := "wage.go:71", after := #[{ on := 4, ground := Ground.data }, { on := 6, ground := Ground.data }, { on := 3, ground := Ground.chain }], guard := none }) rfl (fun K hK => ?_) AllReadyH.nil
  go_simp
  refine (one_any _ _).mono ?_; rintro e w2 ⟨rfl, hb2⟩; have X2 := Lib.hid (X1.out.grow hb2); have Y2 := Lib.hid (Y1.out.grow hb2); have Z2 := Lib.hid (Z1.out.grow hb2); have B2 := Lib.hid (B1.out.trans (hb2.mono B1.out.size)); clear hb2
  go_wp2_with fail
  refine hK.out _ _ ?_ (fun hHeld => ?_)
  · exact ⟨cellAt X2.out 0, cellAt X2.out 1, cellAt X2.out 2⟩
  clear hK K
  try simp only [Act.put, List.setIfInBounds_toArray, List.set_cons_zero, List.set_cons_succ]
  refine wpAnyH_ready (rs := [11]) (by kernel_rfl) (by simp) ?_
  refine AllReadyH.cons (o := { dst := some 17, op := Op.call { callee := Callee.value (Operand.tmp 14), args := #[Operand.tmp 16], argTypes := #[3] }, type := 29, pos := "wage.go:71", after := #[{ on := 8, ground := Ground.data }, { on := 10, ground := Ground.data }, { on := 7, ground := Ground.chain }], guard := none }) rfl (fun K hK => ?_) AllReadyH.nil
  go_simp
  refine (one_any _ _).mono ?_; rintro e w3 ⟨rfl, hb3⟩; have X3 := Lib.hid (X2.out.grow hb3); have Y3 := Lib.hid (Y2.out.grow hb3); have Z3 := Lib.hid (Z2.out.grow hb3); have B3 := Lib.hid (B2.out.trans (hb3.mono B2.out.size)); clear hb3
  go_wp2_with fail
  refine hK.out _ _ ?_ (fun hHeld => ?_)
  · exact ⟨cellAt X3.out 0, cellAt X3.out 1, cellAt X3.out 2⟩
  clear hK K
  try simp only [Act.put, List.setIfInBounds_toArray, List.set_cons_zero, List.set_cons_succ]
  have r0 := cellAt Y3.out 0
  have r1 := cellAt Y3.out 1
  have r2 := cellAt Y3.out 2
  have r3 := cellAt Y3.out 3
  have r4 := cellAt Y3.out 4
  have r5 := cellAt Y3.out 5
  have r6 := cellAt Y3.out 6
  have r7 := cellAt Y3.out 7
  have f0 := freeAt Y3.out 0
  have f1 := freeAt Y3.out 1
  have f2 := freeAt Y3.out 2
  have f3 := freeAt Y3.out 3
  have f4 := freeAt Y3.out 4
  have f5 := freeAt Y3.out 5
  have f6 := freeAt Y3.out 6
  have f7 := freeAt Y3.out 7
  refine wpAnyH_ready (rs := [13]) (by kernel_rfl) (by simp) ?_
  refine AllReadyH.cons (o := { dst := none, op := Op.store 29 (Operand.tmp 18) (Operand.tmp 9), type := 0, pos := "wage.go:71", after := #[{ on := 12, ground := Ground.data }, { on := 3, ground := Ground.data }, { on := 11, ground := Ground.chain }, { on := 0, ground := Ground.phase }, { on := 1, ground := Ground.phase }, { on := 2, ground := Ground.phase }, { on := 3, ground := Ground.phase }, { on := 4, ground := Ground.textOnly Departure.lateStores }, { on := 5, ground := Ground.textOnly Departure.lateStores }, { on := 6, ground := Ground.textOnly Departure.lateStores }, { on := 7, ground := Ground.textOnly Departure.lateStoresUnsure }, { on := 8, ground := Ground.textOnly Departure.lateStores }, { on := 9, ground := Ground.textOnly Departure.lateStores }, { on := 10, ground := Ground.textOnly Departure.lateStores }, { on := 11, ground := Ground.textOnly Departure.lateStoresUnsure }], guard := none }) rfl (fun K hK => ?_) AllReadyH.nil
  go_simp
  skip
  go_wp2_with fail
  refine hK.out _ _ ?_ (fun hHeld => ?_)
  · exact ⟨cellAt (BoxAt.set (BoxAt.set (X3.out) _ _ (by simp)) _ _ (by simp)) 0, cellAt (BoxAt.set (BoxAt.set (X3.out) _ _ (by simp)) _ _ (by simp)) 1, cellAt (BoxAt.set (BoxAt.set (X3.out) _ _ (by simp)) _ _ (by simp)) 2⟩
  clear hK K
  try simp only [Act.put, List.setIfInBounds_toArray, List.set_cons_zero, List.set_cons_succ]
  refine wpAnyH_take (i := 14) (oi := { dst := some 19, op := Op.fieldAddr 58 (Operand.tmp 3) 3, type := 0, pos := "wage.go:71", after := #[{ on := 0, ground := Ground.phase }, { on := 1, ground := Ground.phase }, { on := 2, ground := Ground.phase }, { on := 3, ground := Ground.phase }, { on := 4, ground := Ground.phase }, { on := 5, ground := Ground.phase }, { on := 6, ground := Ground.phase }, { on := 7, ground := Ground.phase }, { on := 8, ground := Ground.textOnly Departure.lateStores }, { on := 9, ground := Ground.textOnly Departure.lateStores }, { on := 10, ground := Ground.textOnly Departure.lateStores }, { on := 11, ground := Ground.textOnly Departure.lateStoresUnsure }, { on := 12, ground := Ground.phase }, { on := 13, ground := Ground.phase }], guard := none }) (v := ?_) rfl (by kernel_rfl) (by kernel_rfl) (by kernel_rfl) (fun _ _ _ h => h) (Or.inl ⟨by rfl, ?_⟩) (by assumption) ?_
  rotate_left
  · (intro w9 hSw; (try dsimp only at hSw); (go_split_ands; go_simp); (try with_reducible rfl))
  try simp only [Act.put, List.setIfInBounds_toArray, List.set_cons_zero, List.set_cons_succ]
  refine wpAnyH_ready (rs := [15]) (by kernel_rfl) (by simp) ?_
  refine AllReadyH.cons (o := { dst := none, op := Op.store 29 (Operand.tmp 19) (Operand.tmp 13), type := 0, pos := "wage.go:71", after := #[{ on := 14, ground := Ground.data }, { on := 7, ground := Ground.data }, { on := 13, ground := Ground.chain }, { on := 0, ground := Ground.phase }, { on := 1, ground := Ground.phase }, { on := 2, ground := Ground.phase }, { on := 3, ground := Ground.phase }, { on := 4, ground := Ground.phase }, { on := 5, ground := Ground.phase }, { on := 6, ground := Ground.phase }, { on := 7, ground := Ground.phase }, { on := 8, ground := Ground.textOnly Departure.lateStores }, { on := 9, ground := Ground.textOnly Departure.lateStores }, { on := 10, ground := Ground.textOnly Departure.lateStores }, { on := 11, ground := Ground.textOnly Departure.lateStoresUnsure }, { on := 12, ground := Ground.phase }, { on := 13, ground := Ground.phase }], guard := none }) rfl (fun K hK => ?_) AllReadyH.nil
  go_simp
  skip
  go_wp2_with fail
  refine hK.out _ _ ?_ (fun hHeld => ?_)
  · exact ⟨cellAt (BoxAt.set (BoxAt.set ((BoxAt.set (BoxAt.set (X3.out) _ _ (by simp)) _ _ (by simp))) _ _ (by simp)) _ _ (by simp)) 0, cellAt (BoxAt.set (BoxAt.set ((BoxAt.set (BoxAt.set (X3.out) _ _ (by simp)) _ _ (by simp))) _ _ (by simp)) _ _ (by simp)) 1, cellAt (BoxAt.set (BoxAt.set ((BoxAt.set (BoxAt.set (X3.out) _ _ (by simp)) _ _ (by simp))) _ _ (by simp)) _ _ (by simp)) 2⟩
  clear hK K
  try simp only [Act.put, List.setIfInBounds_toArray, List.set_cons_zero, List.set_cons_succ]
  refine wpAnyH_take (i := 16) (oi := { dst := some 20, op := Op.fieldAddr 58 (Operand.tmp 3) 4, type := 0, pos := "wage.go:71", after := #[{ on := 0, ground := Ground.phase }, { on := 1, ground := Ground.phase }, { on := 2, ground := Ground.phase }, { on := 3, ground := Ground.phase }, { on := 4, ground := Ground.phase }, { on := 5, ground := Ground.phase }, { on := 6, ground := Ground.phase }, { on := 7, ground := Ground.phase }, { on := 8, ground := Ground.phase }, { on := 9, ground := Ground.phase }, { on := 10, ground := Ground.phase }, { on := 11, ground := Ground.phase }, { on := 12, ground := Ground.phase }, { on := 13, ground := Ground.phase }, { on := 14, ground := Ground.phase }, { on := 15, ground := Ground.phase }], guard := none }) (v := ?_) rfl (by kernel_rfl) (by kernel_rfl) (by kernel_rfl) (fun _ _ _ h => h) (Or.inl ⟨by rfl, ?_⟩) (by assumption) ?_
  rotate_left
  · (intro w9 hSw; (try dsimp only at hSw); (go_split_ands; go_simp); (try with_reducible rfl))
  try simp only [Act.put, List.setIfInBounds_toArray, List.set_cons_zero, List.set_cons_succ]
  refine wpAnyH_ready (rs := [17]) (by kernel_rfl) (by simp) ?_
  refine AllReadyH.cons (o := { dst := none, op := Op.store 29 (Operand.tmp 20) (Operand.tmp 17), type := 0, pos := "wage.go:71", after := #[{ on := 16, ground := Ground.data }, { on := 11, ground := Ground.data }, { on := 15, ground := Ground.chain }, { on := 0, ground := Ground.phase }, { on := 1, ground := Ground.phase }, { on := 2, ground := Ground.phase }, { on := 3, ground := Ground.phase }, { on := 4, ground := Ground.phase }, { on := 5, ground := Ground.phase }, { on := 6, ground := Ground.phase }, { on := 7, ground := Ground.phase }, { on := 8, ground := Ground.phase }, { on := 9, ground := Ground.phase }, { on := 10, ground := Ground.phase }, { on := 11, ground := Ground.phase }, { on := 12, ground := Ground.phase }, { on := 13, ground := Ground.phase }, { on := 14, ground := Ground.phase }, { on := 15, ground := Ground.phase }], guard := none }) rfl (fun K hK => ?_) AllReadyH.nil
  go_simp
  skip
  go_wp2_with fail
  refine hK.out _ _ ?_ (fun hHeld => ?_)
  · exact ⟨cellAt (BoxAt.set (BoxAt.set ((BoxAt.set (BoxAt.set ((BoxAt.set (BoxAt.set (X3.out) _ _ (by simp)) _ _ (by simp))) _ _ (by simp)) _ _ (by simp))) _ _ (by simp)) _ _ (by simp)) 0, cellAt (BoxAt.set (BoxAt.set ((BoxAt.set (BoxAt.set ((BoxAt.set (BoxAt.set (X3.out) _ _ (by simp)) _ _ (by simp))) _ _ (by simp)) _ _ (by simp))) _ _ (by simp)) _ _ (by simp)) 1, cellAt (BoxAt.set (BoxAt.set ((BoxAt.set (BoxAt.set ((BoxAt.set (BoxAt.set (X3.out) _ _ (by simp)) _ _ (by simp))) _ _ (by simp)) _ _ (by simp))) _ _ (by simp)) _ _ (by simp)) 2⟩
  clear hK K
  try simp only [Act.put, List.setIfInBounds_toArray, List.set_cons_zero, List.set_cons_succ]
  refine wpAnyH_done (by kernel_rfl) ?_ _
  generalize hW7 : World.setCell _ _ _ = W7
  have RY : BoxAt W7 (w.heap.size + 1) #[.int .i64 cr, .int .i64 se, .int .i64 fr, .int .i64 fr, .int .i64 to, .int .i64 to, .int .i64 td, .int .i64 td] 58 := by
    rw [← hW7]
    exact (((((Y3.out.store 2 _).store 3 _).store 4 _).store 5 _).store 6 _).store 7 _
  have RZ : BoxAt W7 (w.heap.size + 1 + 1) #[.int .i64 0, .int .i64 0, .int .i64 0, .int .i64 0, .int .i64 0, .int .i64 0, .int .i64 0, .int .i64 0] 58 := by
    rw [← hW7]
    exact (((((Z3.out.set _ _ (by simp)).set _ _ (by simp)).set _ _ (by simp)).set _ _ (by simp)).set _ _ (by simp)).set _ _ (by simp)
  have RB : Below w.heap.size w W7 := by
    rw [← hW7]
    exact (((((B3.out.setCell (by simp) _).setCell (by simp) _).setCell (by simp) _).setCell (by simp) _).setCell (by simp) _).setCell (by simp) _
  have HRB := Lib.hid RB
  clear hW7 hHeld RB X0 X1 X2 X3 Y0 Y1 Y2 Y3 Z0 Z1 Z2 Z3 B0 B1 B2 B3 r0 r1 r2 r3 r4 r5 r6 r7 f0 f1 f2 f3 f4 f5 f6 f7
  have r0 := cellAt RY 0
  have r1 := cellAt RY 1
  have r2 := cellAt RY 2
  have r3 := cellAt RY 3
  have r4 := cellAt RY 4
  have r5 := cellAt RY 5
  have r6 := cellAt RY 6
  have r7 := cellAt RY 7
  have f0 := freeAt RZ 0
  have f1 := freeAt RZ 1
  have f2 := freeAt RZ 2
  have f3 := freeAt RZ 3
  have f4 := freeAt RZ 4
  have f5 := freeAt RZ 5
  have f6 := freeAt RZ 6
  have f7 := freeAt RZ 7
  have z0 := cellAt RZ 0
  have z1 := cellAt RZ 1
  have z2 := cellAt RZ 2
  have z3 := cellAt RZ 3
  have z4 := cellAt RZ 4
  have z5 := cellAt RZ 5
  have z6 := cellAt RZ 6
  have z7 := cellAt RZ 7
  simp only [List.getElem?_toArray, List.getElem?_cons_zero, List.getElem?_cons_succ] at r0 r1 r2 r3 r4 r5 r6 r7 z0 z1 z2 z3 z4 z5 z6 z7
  clear RY RZ
  go_wp2_with fail
  refine bodyPost_ret (v := .agg #[.int .i64 cr, .int .i64 se, .int .i64 fr, .int .i64 fr, .int .i64 to, .int .i64 to, .int .i64 td, .int .i64 td]) (by simp [results, Try.results81, go_sem, z0, z1, z2, z3, z4, z5, z6, z7]) rfl ⟨rfl, ?_⟩
  exact (((((((HRB.out.setCell (by simp; omega) _).setCell (by simp; omega) _).setCell (by simp; omega) _).setCell (by simp; omega) _).setCell (by simp; omega) _).setCell (by simp; omega) _).setCell (by simp; omega) _).setCell (by simp; omega) _
end Go.Proofs.Ytbpeamppkdmdcaa

namespace Go.Proofs.Ytbpeamppkdmdcaa
open Go.RowKit Go.Shelf

attribute [local go_sem] Oper.semAt_some

def kL (t : Tk) (a b : Int) (n : Nat) : List Kn := (List.range n).map fun (i : Nat) => ⟨a, b, t.dl + i⟩
def kN (t : Tk) : Nat := (t.dh - t.dl + 1).toNat
def bL (t : Tk) (a : Int) (n : Nat) : List Kn := (List.range n).flatMap fun (j : Nat) => kL t a (t.tl + j) (kN t)
def bN (t : Tk) : Nat := (t.th - t.tl + 1).toNat
def aL (t : Tk) (n : Nat) : List Kn := (List.range n).flatMap fun (i : Nat) => bL t (t.fl + i) (bN t)
def aN (t : Tk) : Nat := (t.fh - t.fl + 1).toNat
/-- All that a ticket can be. -/
def canL (t : Tk) : List Kn := aL t (aN t)
theorem kL_succ (t : Tk) (a b : Int) (n : Nat) : kL t a b (n + 1) = kL t a b n ++ [⟨a, b, t.dl + n⟩] := by simp [kL, List.range_succ]
theorem bL_succ (t : Tk) (a : Int) (n : Nat) : bL t a (n + 1) = bL t a n ++ kL t a (t.tl + n) (kN t) := by simp [bL, List.range_succ]
theorem aL_succ (t : Tk) (n : Nat) : aL t (n + 1) = aL t n ++ bL t (t.fl + n) (bN t) := by simp [aL, List.range_succ]
theorem kL_len (t : Tk) (a b : Int) (n : Nat) : (kL t a b n).length = n := by simp [kL]
theorem bL_len (t : Tk) (a : Int) (n : Nat) : (bL t a n).length = n * kN t := by
  induction n with
  | zero => simp [bL]
  | succ n ih => rw [bL_succ, List.length_append, ih, kL_len, Nat.succ_mul]
theorem aL_len (t : Tk) (n : Nat) : (aL t n).length = n * (bN t * kN t) := by
  induction n with
  | zero => simp [aL]
  | succ n ih => rw [aL_succ, List.length_append, ih, bL_len, Nat.succ_mul]
theorem pre_lt (t : Tk) (a b : Int) {i j k : Nat} (hi : i < aN t) (hj : j < bN t) (hk : k < kN t) : (aL t i ++ bL t a j ++ kL t a b k).length < (canL t).length := by
  simp only [canL, List.length_append, aL_len, bL_len, kL_len]
  have h1 : (i + 1) * (bN t * kN t) ≤ aN t * (bN t * kN t) := Nat.mul_le_mul_right _ hi
  have h2 : (j + 1) * kN t ≤ bN t * kN t := Nat.mul_le_mul_right _ hj
  rw [Nat.succ_mul] at h1 h2
  omega
/-- What a ticket can be. -/
def InT (t : Tk) (k : Kn) : Prop := t.fl ≤ k.fr ∧ k.fr ≤ t.fh ∧ t.tl ≤ k.to ∧ k.to ≤ t.th ∧ t.dl ≤ k.td ∧ k.td ≤ t.dh
theorem mem_canL {t : Tk} {k : Kn} (h : k ∈ canL t) : t.fl ≤ k.fr ∧ k.fr ≤ t.fh ∧ t.tl ≤ k.to ∧ k.to ≤ t.th ∧ t.dl ≤ k.td ∧ k.td ≤ t.dh := by
  simp only [canL, aL, bL, kL, List.mem_flatMap, List.mem_map, List.mem_range, aN, bN, kN] at h
  obtain ⟨i, hi, j, hj, m, hm, rfl⟩ := h
  dsimp only
  omega

def Tk.cells (t : Tk) : Array Value := #[.int .i64 t.crew, .int .i64 t.seam, .int .i64 t.fl, .int .i64 t.fh, .int .i64 t.tl, .int .i64 t.th, .int .i64 t.dl, .int .i64 t.dh]

theorem can_any (t : Tk) (w : World) :
    Calls Try.prog 80 #[t.v] w fun e w' => e = .returned (.func (.func 100) #[] #[.pointer (some ⟨w.heap.size, 0, none⟩)]) ∧ w.alloc (.cells t.cells 58) = w' := by
  unfold Tk.v Tk.cells
  go_enter Try.func80, Try.ntmps80
  go_wp2
  go_ret
  exact ⟨rfl, rfl⟩

/-- Block b lies as it lay. -/
def Same (b : Nat) (W W' : World) : Prop := W'.heap[b]? = W.heap[b]?
theorem Same.then {b : Nat} {A B C : World} (h : Same b A B) (k : Same b B C) : Same b A C := Eq.trans k h
theorem Same.of_below {b n : Nat} {A B : World} (h : Below n A B) (hb : b < n) : Same b A B := h.block b hb
theorem same_b {b : Nat} {w : World} (hn : b < w.heap.size) (W : World) (l : Nat) (o o' : Obj) (hl : w.heap.size ≤ l) (_h : W.heap[l]? = some o) (_ : o.isCells = false) (_ : o.isWalk = false) : Same b W (W.putObj l o') := World.putObj_heap_other (by omega)

set_option maxRecDepth 100000 in
set_option maxHeartbeats 2000000 in
theorem can1_in (F : Fence) (n : Nat) (hf : F.fn 100) (hro : F.round = none) (hn : 1 ≤ n) (l B : Nat) (t : Tk) (J Jx : List Kn → World → Prop)
    (h1 : 0 ≤ t.fl ∧ t.fl ≤ t.fh ∧ t.fh ≤ 20 ∧ 0 ≤ t.tl ∧ t.tl ≤ t.th ∧ t.th ≤ 20 ∧ 0 ≤ t.dl ∧ t.dl ≤ t.dh ∧ t.dh ≤ 40)
    (hY : ∀ pre x W, InT t x → J pre W → pre.length < (canL t).length → YieldAt F (n - 1) Try.prog l #[x.v] W fun e W' =>
      (e = .returned (.bool true) ∧ J (pre ++ [x]) W' ∧ Same B W W') ∨ (e = .returned (.bool false) ∧ Jx (pre ++ [x]) W'))
    (W : World) (hb : BoxAt W B t.cells 58) (h0 : J [] W) :
    CallsIn F n Try.prog 100 #[.func (.yield l) #[] #[], .pointer (some ⟨B, 0, none⟩)] W fun e W' => (∃ v, e = .returned v) ∧
      ((∃ ys, ys = canL t ∧ J ys W') ∨ (∃ pre, True ∧ Jx pre W')) := by
  obtain ⟨cr, se, fl, fh, tl, th, dl, dh⟩ := t
  dsimp only at h1
  obtain ⟨a0, a1, a2, b0, b1, b2, d0, d1, d2⟩ := h1
  refine callsIn_of_wp Try.func100 rfl hf ?_ hro
  simp only [Try.ntmps100, List.size_toArray, List.length_cons, List.length_nil, Nat.reduceAdd, Nat.reduceSub, Array.replicate_succ, Array.replicate_zero, List.push_toArray, List.append_toArray, List.nil_append, List.cons_append]
  have HB := Lib.hid hb
  have c2 := cellAt hb 2
  simp only [Tk.cells, List.getElem?_toArray, List.getElem?_cons_zero, List.getElem?_cons_succ] at c2
  clear hb
  gi_wp2
  gi_loopw [3] (fun a wr => ∃ i : Nat, i ≤ aN ⟨cr, se, fl, fh, tl, th, dl, dh⟩ ∧ a = .int .i64 (fl + i) ∧ J (aL ⟨cr, se, fl, fh, tl, th, dl, dh⟩ i) wr ∧ Same B W wr) (fun a _ => (fh + 1 - intOf a).toNat)
  case atStart => exact ⟨0, Nat.zero_le _, by simp, h0, rfl⟩
  case round =>
    clear h0 c2
    obtain ⟨i, hi, rfl, hJ, hnx⟩ := hrel
    have c3 := hnx.trans HB.out
    have c4 := cellAt c3 4
    have cc3 := cellAt c3 3
    simp only [Tk.cells, List.getElem?_toArray, List.getElem?_cons_zero, List.getElem?_cons_succ] at cc3 c4
    clear c3
    simp only [aN] at hi
    by_cases hlt : fl + i ≤ fh
    · have HJ := Lib.hid hJ
      have HN := Lib.hid hnx
      clear hJ hnx
      gi_wp2
      obtain ⟨wo, rfl⟩ : ∃ wo : World, wo = wr := ⟨_, rfl⟩
      gi_loopw [4, 5] (fun b _ wr => ∃ j : Nat, j ≤ bN ⟨cr, se, fl, fh, tl, th, dl, dh⟩ ∧ b = .int .i64 (tl + j) ∧ J (aL ⟨cr, se, fl, fh, tl, th, dl, dh⟩ i ++ bL ⟨cr, se, fl, fh, tl, th, dl, dh⟩ (fl + i) j) wr ∧ Same B W wr) (fun b _ _ => (th + 1 - intOf b).toNat)
      case atStart => exact ⟨0, Nat.zero_le _, by simp, by simp [bL]; exact HJ.out, HN.out⟩
      case round =>
        clear HJ HN cc3 c4
        obtain ⟨j, hj, rfl, hJ, hnx⟩ := hrel
        have c3 := hnx.trans HB.out
        have c5 := cellAt c3 5
        have c6 := cellAt c3 6
        have cc3 := cellAt c3 3
        simp only [Tk.cells, List.getElem?_toArray, List.getElem?_cons_zero, List.getElem?_cons_succ] at cc3 c5 c6
        clear c3
        simp only [bN] at hj
        by_cases hlt2 : tl + j ≤ th
        · have HJ := Lib.hid hJ
          have HN := Lib.hid hnx
          clear hJ hnx
          gi_wp2
          obtain ⟨wo2, rfl⟩ : ∃ wo : World, wo = wr := ⟨_, rfl⟩
          gi_loopw [5] (fun b wr => ∃ k : Nat, k ≤ kN ⟨cr, se, fl, fh, tl, th, dl, dh⟩ ∧ b = .int .i64 (dl + k) ∧ J (aL ⟨cr, se, fl, fh, tl, th, dl, dh⟩ i ++ bL ⟨cr, se, fl, fh, tl, th, dl, dh⟩ (fl + i) j ++ kL ⟨cr, se, fl, fh, tl, th, dl, dh⟩ (fl + i) (tl + j) k) wr ∧ Same B W wr) (fun b _ => (dh + 1 - intOf b).toNat)
          case atStart => exact ⟨0, Nat.zero_le _, by simp, by simp [kL]; exact HJ.out, HN.out⟩
          case round =>
            clear HJ HN c5 c6 cc3
            obtain ⟨k, hk, rfl, hJ, hnx⟩ := hrel
            have c3 := hnx.trans HB.out
            have c7 := cellAt c3 7
            simp only [Tk.cells, List.getElem?_toArray, List.getElem?_cons_zero, List.getElem?_cons_succ] at c7
            clear c3
            simp only [kN] at hk
            by_cases hlt3 : dl + k ≤ dh
            · obtain ⟨fn, tmps, assign, body, hy, hR⟩ := hY _ ⟨fl + i, tl + j, dl + k⟩ wr (by simp only [InT]; omega) hJ (pre_lt _ _ _ (by simp only [aN]; omega) (by simp only [bN]; omega) (by simp only [kN]; omega))
              simp only [Kn.v] at hy
              have HN := Lib.hid hnx
              have HR := Lib.hid hR
              clear hnx hJ hR
              gi_wp2
              refine HR.out.mono ?_
              rintro e W3 (⟨rfl, hJ3, hk3⟩ | ⟨rfl, hJx3⟩)
              · have HJ3 := Lib.hid hJ3
                have HK3 := Lib.hid hk3
                clear hJ3 hk3
                gi_wp2
                refine ⟨⟨k + 1, by simp only [kN]; omega, by congr 1; omega, by rw [kL_succ, ← List.append_assoc]; exact HJ3.out, HN.out.then HK3.out⟩, by simp [intOf]; omega⟩
              · have HJx := Lib.hid hJx3
                clear hJx3
                gi_wp2
                refine bodyPost_ret (results_none rfl _ _ _) rfl ?_
                exact ⟨⟨_, rfl⟩, .inr ⟨_, trivial, HJx.out⟩⟩
            · have e := Lib.hid (show k = kN ⟨cr, se, fl, fh, tl, th, dl, dh⟩ by simp only [kN]; omega)
              have HJ := Lib.hid hJ
              have HN := Lib.hid hnx
              clear hJ hnx
              gi_wp2
              refine ⟨⟨j + 1, by simp only [bN]; omega, by congr 1; omega, by rw [bL_succ, ← List.append_assoc]; rw [← e.out]; exact HJ.out, HN.out⟩, by simp [intOf]; omega⟩
        · have e := Lib.hid (show j = bN ⟨cr, se, fl, fh, tl, th, dl, dh⟩ by simp only [bN]; omega)
          have HJ := Lib.hid hJ
          have HN := Lib.hid hnx
          clear hJ hnx
          gi_wp2
          refine ⟨⟨i + 1, by simp only [aN]; omega, by congr 1; omega, by rw [aL_succ, ← e.out]; exact HJ.out, HN.out⟩, by simp [intOf]; omega⟩
    · have e := Lib.hid (show i = aN ⟨cr, se, fl, fh, tl, th, dl, dh⟩ by simp only [aN]; omega)
      gi_wp2
      go_end0
      exact ⟨⟨_, rfl⟩, .inl (by unfold canL; rw [← e.out]; exact hJ)⟩

abbrev KIn (t : Tk) := {k : Kn // InT t k}

theorem can_stops (F : Fence) (n : Nat) (hf : F.fn 100) (hro : F.round = none) (hn : 1 ≤ n) (B : Nat) (t : Tk) (w : World) (hb : BoxAt w B t.cells 58)
    (h1 : 0 ≤ t.fl ∧ t.fl ≤ t.fh ∧ t.fh ≤ 20 ∧ 0 ≤ t.tl ∧ t.tl ≤ t.th ∧ t.th ≤ 20 ∧ 0 ≤ t.dl ∧ t.dl ≤ t.dh ∧ t.dh ≤ 40) :
    SeqStopsK F n Try.prog 100 #[.pointer (some ⟨B, 0, none⟩)] (fun x : KIn t => #[x.1.v]) (Same B) (fun ys => ys.map (·.1) = canL t) (fun _ => True) (canL t).length w := fun l J Jx W hW _ _ hY h0 => by
  refine (can1_in F n hf hro hn l B t (fun pre W => ∃ l : List (KIn t), l.map (·.1) = pre ∧ J l W) (fun pre W => ∃ l : List (KIn t), l.map (·.1) = pre ∧ Jx l W) h1 ?_ W ((hW.block B (lt_of_heap hb)).trans hb) ⟨[], rfl, h0⟩).mono ?_
  · rintro pre x W hx ⟨l, rfl, hJ⟩ hlen
    refine YieldAt.mono (hY l ⟨x, hx⟩ W hJ (by simpa using hlen)) ?_
    rintro e W' (⟨he, hJ', hs⟩ | ⟨he, hJ'⟩)
    · exact .inl ⟨he, ⟨_, by simp, hJ'⟩, hs⟩
    · exact .inr ⟨he, ⟨_, by simp, hJ'⟩⟩
  · rintro e W' ⟨hv, ⟨ys, rfl, l, hl, hJ⟩ | ⟨pre, _, l, _, hJ⟩⟩
    · exact ⟨hv, .inl ⟨l, hl, hJ⟩⟩
    · exact ⟨hv, .inr ⟨l, trivial, hJ⟩⟩
end Go.Proofs.Ytbpeamppkdmdcaa

namespace Go.Proofs.Ytbpeamppkdmdcaa
open Go.RowKit

/-- copy of whole elements onto the head of a row. -/
theorem run_copy_row_sz {P : Program} (w : World) (dT sT ty elem : TypeId) (g dLen dCap : Nat) (a : Addr) (sLen sCap sz : Nat) (cur : Array Value) (t : TypeId) (cs : List Value)
    (hu : P.underlying dT = some (.slice elem)) (hs : (P.info? elem).map (·.size) = some sz)
    (hg : w.heap[g]? = some (.cells cur t (0, 0))) (hn : cs.length = Nat.min sLen dLen * sz)
    (hsrc : ∀ j v, cs[j]? = some v → w.cell? (a.add j) = some v) (hfit : cs.length ≤ cur.size) (h1 : ∀ v ∈ cs, v.oneCell' = true) :
    (Builtin.copy_ #[dT, sT] ty #[.slice (some ⟨g, 0, none⟩) dLen dCap, .slice (some a) sLen sCap]).run P w =
      .ok (goInt (Nat.min sLen dLen)) (w.setRow g (cs ++ cur.toList.drop cs.length).toArray) := by
  have hl := run_loadCells_list (P := P) w a cs hsrc
  have hst := run_storeCells_at P g 0 t cs 0 cur w hg (by simpa using hfit) h1
  cases hq : P.info? elem with
  | none => simp [hq] at hs
  | some i =>
    have hi : i.size = sz := by simpa [hq] using hs
    simp [Builtin.copy_, run_underlying hu, Builtin.lenOf, Builtin.firstCells, sizeOf, typeInfo, hq, hi, ← hn, hl, hst]

def tkVals (T : Nat → Tk) (n : Nat) : List Value := (List.range n).flatMap fun (i : Nat) => (T i).cells.toList
theorem tkVals_succ (T : Nat → Tk) (n : Nat) : tkVals T (n + 1) = tkVals T n ++ (T n).cells.toList := by simp [tkVals, List.range_succ]
theorem tkVals_len (T : Nat → Tk) (n : Nat) : (tkVals T n).length = n * 8 := by
  induction n with
  | zero => rfl
  | succ n ih => rw [tkVals_succ, List.length_append, ih]; simp [Tk.cells]; omega
theorem Tk.cells_get (t : Tk) (j : Nat) (hj : j < 8) : t.cells.toList[j]? = some (t.cell j) := by
  obtain rfl | rfl | rfl | rfl | rfl | rfl | rfl | rfl : j = 0 ∨ j = 1 ∨ j = 2 ∨ j = 3 ∨ j = 4 ∨ j = 5 ∨ j = 6 ∨ j = 7 := by omega
  all_goals rfl
theorem tkVals_get (T : Nat → Tk) (n : Nat) {i j : Nat} (hi : i < n) (hj : j < 8) : (tkVals T n)[i * 8 + j]? = some ((T i).cell j) := by
  induction n with
  | zero => omega
  | succ n ih =>
    rw [tkVals_succ]
    by_cases e : i = n
    · subst e
      rw [List.getElem?_append_right (by rw [tkVals_len]; omega), tkVals_len, show i * 8 + j - i * 8 = j by omega]
      exact (T i).cells_get j hj
    · rw [List.getElem?_append_left (by rw [tkVals_len]; omega)]
      exact ih (by omega)
theorem tkVals_one (T : Nat → Tk) (n : Nat) : ∀ v ∈ tkVals T n, v.oneCell' = true := by
  intro v hv
  simp only [tkVals, List.mem_flatMap, Tk.cells] at hv
  obtain ⟨i, _, h⟩ := hv
  simp at h
  rcases h with rfl | rfl | rfl | rfl | rfl | rfl | rfl | rfl
  all_goals rfl
theorem box_tickets {w : World} {g n : Nat} {T : Nat → Tk} {t : TypeId} (h : BoxAt w g (tkVals T n).toArray t) (hn : n ≤ maxLen) : TicketsAt w (some ⟨g, 0, none⟩) n T := by
  refine ⟨fun _ => rfl, fun _ => lt_of_heap h, hn, fun i hi j hj => ?_⟩
  show w.cell? ⟨g, 0 + i * 8 + j, none⟩ = _
  rw [cellAt h, Nat.zero_add, List.getElem?_toArray]
  exact tkVals_get T n hi hj
theorem tickets_src {w : World} {oa : Option Addr} {n : Nat} {T : Nat → Tk} (h : TicketsAt w oa n T) : ∀ j v, (tkVals T n)[j]? = some v → w.cell? ((⟨blk oa, ofs oa, none⟩ : Addr).add j) = some v := by
  intro j v hj
  have hlt : j < n * 8 := by rw [← tkVals_len T n]; exact (List.getElem?_eq_some_iff.1 hj).1
  have e : j = j / 8 * 8 + j % 8 := by omega
  rw [e, tkVals_get T n (by omega) (by omega)] at hj
  have := h.cells (j / 8) (by omega) (j % 8) (by omega)
  have ea : (⟨blk oa, ofs oa, none⟩ : Addr).add j = ⟨blk oa, ofs oa + j / 8 * 8 + j % 8, none⟩ := by
    unfold Addr.add
    split
    all_goals (simp <;> omega)
  rw [ea, this, ← hj]

theorem size8 : (Try.prog.info? 58).map (·.size) = some 8 := by kernel_rfl

theorem run_copy_tickets {w : World} {g n cap : Nat} {oa : Option Addr} {T : Nat → Tk} {cur : Array Value} (hg : BoxAt w g cur 58) (hc : cur.size = n * 8) (hT : TicketsAt w oa n T) (hn : 0 < n) (ty : TypeId) :
    (Builtin.copy_ #[23, 23] ty #[.slice (some ⟨g, 0, none⟩) n n, .slice oa n cap]).run Try.prog w = .ok (goInt n) (w.setRow g (tkVals T n).toArray) := by
  have h := run_copy_row_sz (P := Try.prog) w 23 23 ty 58 g n n ⟨blk oa, ofs oa, none⟩ n cap 8 cur 58 (tkVals T n) Try.underlying23 size8 hg (by rw [tkVals_len]; simp) (tickets_src hT) (by rw [tkVals_len, hc]; exact Nat.le_refl _) (tkVals_one T n)
  rw [hT.plain hn]
  have ed : cur.toList.drop (tkVals T n).length = [] := List.drop_eq_nil_of_le (by rw [tkVals_len, Array.length_toList, hc]; exact Nat.le_refl _)
  rw [ed, List.append_nil] at h
  simpa [blk, ofs] using h

def updT (T : Nat → Tk) (k : Nat) (t : Tk) : Nat → Tk := fun i => if i = k then t else T i
theorem tk_store {w : World} {g n k : Nat} {T : Nat → Tk} {ty : TypeId} (t : Tk) (hk : k < n) (hn : n ≤ maxLen)
    (h : BoxAt w g (((((((((tkVals T n).toArray.setIfInBounds (k * 8) (.int .i64 t.crew)).setIfInBounds (k * 8 + 1) (.int .i64 t.seam)).setIfInBounds (k * 8 + 2) (.int .i64 t.fl)).setIfInBounds (k * 8 + 3) (.int .i64 t.fh)).setIfInBounds (k * 8 + 4) (.int .i64 t.tl)).setIfInBounds (k * 8 + 5) (.int .i64 t.th)).setIfInBounds (k * 8 + 6) (.int .i64 t.dl)).setIfInBounds (k * 8 + 7) (.int .i64 t.dh)) ty) :
    TicketsAt w (some ⟨g, 0, none⟩) n (updT T k t) := by
  refine ⟨fun _ => rfl, fun _ => lt_of_heap h, hn, fun i hi j hj => ?_⟩
  show w.cell? ⟨g, 0 + i * 8 + j, none⟩ = _
  rw [cellAt h, Nat.zero_add]
  have hl := tkVals_len T n
  have hg := tkVals_get T n hi hj
  unfold updT
  by_cases e : i = k
  · subst e
    rw [if_pos rfl]
    obtain rfl | rfl | rfl | rfl | rfl | rfl | rfl | rfl : j = 0 ∨ j = 1 ∨ j = 2 ∨ j = 3 ∨ j = 4 ∨ j = 5 ∨ j = 6 ∨ j = 7 := by omega
    all_goals simp only [Nat.add_zero, Array.getElem?_setIfInBounds, Array.size_setIfInBounds, List.size_toArray, hl]
    all_goals simp [Tk.cell]
    all_goals omega
  · rw [if_neg e]
    simp only [Array.getElem?_setIfInBounds, List.getElem?_toArray]
    repeat rw [if_neg (by omega)]
    exact hg
end Go.Proofs.Ytbpeamppkdmdcaa

namespace Go.Proofs.Ytbpeamppkdmdcaa
open Go.RowKit Go.Shelf

attribute [local go_sem] Oper.semAt_some

/-- How well it is known what is due to a crew. -/
def spreadOf (S : Nat → Sm) (T : Nat → Tk) (sn tn : Nat) (c : Int) : Int := coinsOf S T (mostK c T) sn tn c - coinsOf S T (leastK c T) sn tn c
/-- .. at worst, of some of what a ticket can be. -/
def worst (S : Nat → Sm) (T : Nat → Tk) (sn tn : Nat) (c : Int) (n : Nat) (l : List Kn) : Int := l.foldl (fun m k => max m (spreadOf S (updT T n ((T n).exact k)) sn tn c)) 0
theorem worst_snoc (S : Nat → Sm) (T : Nat → Tk) (sn tn : Nat) (c : Int) (n : Nat) (l : List Kn) (k : Kn) :
    worst S T sn tn c n (l ++ [k]) = max (worst S T sn tn c n l) (spreadOf S (updT T n ((T n).exact k)) sn tn c) := by simp [worst]
def wideOf (S : Nat → Sm) (T : Nat → Tk) (sn tn : Nat) (c : Int) (n : Nat) : Int := worst S T sn tn c n (canL (T n))

/-- Between two rounds: the number, how wide it is so far. -/
structure AskI (S : Nat → Sm) (T : Nat → Tk) (w : World) (sn tn : Nat) (c : Int) (n : Nat) (pre : List (KIn (T n))) (W : World) : Prop where
  x : BoxAt W w.heap.size #[.int .i64 n] 3
  wide : BoxAt W (w.heap.size + 1) #[.int .i64 (worst S T sn tn c n (pre.map (·.1)))] 3
  bel : Below w.heap.size w W
  lt : w.heap.size + 2 < W.heap.size
theorem own_box {A B : World} {b : Nat} {xs : Array Value} {t : TypeId} {row : Option Nat} {n : Nat} (h : BoxAt A b xs t) (hg : A.grownBy B row) (hr : ∀ r, row = some r → n ≤ r ∧ ∃ o : Obj, A.heap[r]? = some o ∧ o.isCells = false) : BoxAt B b xs t :=
  h.kept hg (fun e => by
    obtain ⟨_, o, ho, hc⟩ := hr b e.symm
    have h' : A.heap[b]? = some (.cells xs t (0, 0)) := h
    rw [h'] at ho
    cases ho
    cases hc)
theorem AskI.grow {S : Nat → Sm} {T : Nat → Tk} {w : World} {sn tn : Nat} {c : Int} {n : Nat} {pre : List (KIn (T n))} {W W' : World} (h : AskI S T w sn tn c n pre W) (hb : Below W.heap.size W W') : AskI S T w sn tn c n pre W' :=
  ⟨h.x.grow hb, h.wide.grow hb, h.bel.trans (hb.mono h.bel.size), Nat.lt_of_lt_of_le h.lt hb.size⟩
theorem AskI.own {S : Nat → Sm} {T : Nat → Tk} {w : World} {sn tn : Nat} {c : Int} {n : Nat} (B : Nat) (hB : w.heap.size ≤ B) : OwnFrom B (fun (pre : List (KIn (T n))) W => AskI S T w sn tn c n pre W) := fun _ _ _ _ hs hg hr =>
  ⟨own_box hs.x hg hr, own_box hs.wide hg hr, hs.bel.grown hg hs.bel.size (fun k e => Nat.le_trans hB (hr k e).1), Nat.lt_of_lt_of_le hs.lt hg.size⟩

theorem Valid.fix {cr : Int} {sn tn : Nat} {S : Nat → Sm} {T : Nat → Tk} (h : Valid cr sn tn S T) {n : Nat} (hn : n < tn) {k : Kn} (hk : InT (T n) k) : Valid cr sn tn S (updT T n ((T n).exact k)) := by
  have e1 : ∀ i, (updT T n ((T n).exact k) i).crew = (T i).crew ∧ (updT T n ((T n).exact k) i).seam = (T i).seam := fun i => by
    unfold updT
    split
    · rename_i e; subst e; exact ⟨rfl, rfl⟩
    · exact ⟨rfl, rfl⟩
  have hk' := hk
  unfold InT at hk'
  have h1 := spanB_iff.1 (h.td n hn)
  have h2 := spanB_iff.1 (h.fr n hn)
  have h3 := spanB_iff.1 (h.to n hn)
  refine ⟨h.cr0, h.cr1, h.sn3, h.tn6, h.fat, h.rate, fun i hi => ?_, fun i hi => ?_, fun i hi => ?_, fun i hi => ?_⟩
  · rw [(e1 i).1, (e1 i).2]; exact h.tk i hi
  · by_cases e : i = n
    · subst e; simp only [updT, if_true, Tk.exact]; exact spanB_iff.2 (by omega)
    · simp only [updT, if_neg e]; exact h.td i hi
  · rw [(e1 i).2]
    by_cases e : i = n
    · subst e; simp only [updT, if_true, Tk.exact]; exact spanB_iff.2 (by omega)
    · simp only [updT, if_neg e]; exact h.fr i hi
  · rw [(e1 i).2]
    by_cases e : i = n
    · subst e; simp only [updT, if_true, Tk.exact]; exact spanB_iff.2 (by omega)
    · simp only [updT, if_neg e]; exact h.to i hi

/-- What the region reads: all but the tickets that are written. -/
structure A5S (w : World) (s bw Bx : Nat) (sa ta : Option Addr) (sn sc tn tc : Nat) (cr fr to td : Int) (T : Nat → Tk) (n : Nat) (W' : World) : Prop where
  own : BoxAt W' s #[.int .i64 cr, .slice sa sn sc, .slice (some ⟨s + 1, 0, none⟩) tn tn] 77
  num : BoxAt W' w.heap.size #[.int .i64 n] 3
  kn : BoxAt W' Bx #[.int .i64 fr, .int .i64 to, .int .i64 td] 93
  wag : BoxAt W' bw #[.int .i64 cr, .slice sa sn sc, .slice ta tn tc] 77
  tkt : TicketsAt W' ta tn T
  lt : w.heap.size < s ∧ bw < s ∧ Bx < s
structure A5R (w : World) (s bw Bx : Nat) (sa ta : Option Addr) (sn sc tn tc : Nat) (cr fr to td : Int) (T : Nat → Tk) (n : Nat) (W' : World) : Prop extends A5S w s bw Bx sa ta sn sc tn tc cr fr to td T n W' where
  row : BoxAt W' (s + 1) (tkVals T tn).toArray 58
section
variable {w : World} {s bw Bx : Nat} {sa ta : Option Addr} {sn sc tn tc : Nat} {cr fr to td : Int} {T : Nat → Tk} {n : Nat} {W1 W2 : World}
theorem A5S.far (h : A5S w s bw Bx sa ta sn sc tn tc cr fr to td T n W1) (p : Addr) (v : Value) (hp : p.block = s + 1) (ht : blk ta < s) : A5S w s bw Bx sa ta sn sc tn tc cr fr to td T n (W1.setCell p v) := by
  have := h.lt
  exact ⟨h.own.set _ _ (by omega), h.num.set _ _ (by omega), h.kn.set _ _ (by omega), h.wag.set _ _ (by omega), ⟨h.tkt.plain, fun hn => by rw [size_setCell]; exact h.tkt.old hn, h.tkt.small, fun i hi j hj => (World.cell?_setCell_other _ _ _ _ (fun e => by have e' := congrArg Addr.block e; dsimp only at e'; omega)).trans (h.tkt.cells i hi j hj)⟩, h.lt⟩
theorem A5R.grow (h : A5R w s bw Bx sa ta sn sc tn tc cr fr to td T n W1) (hb : Below W1.heap.size W1 W2) : A5R w s bw Bx sa ta sn sc tn tc cr fr to td T n W2 :=
  ⟨⟨h.own.grow hb, h.num.grow hb, h.kn.grow hb, h.wag.grow hb, h.tkt.grow hb, h.lt⟩, h.row.grow hb⟩
end

theorem own_made {w : World} {base g n : Nat} {xs : List Value} (h : w.ownsRow base 58 8 (.slice (some ⟨g, 0, none⟩) n n) n xs) : ∃ cur, BoxAt w g cur 58 ∧ cur.size = n * 8 := by
  rcases h.2 with ⟨h', _⟩ | ⟨g', cap, cur, h', hb, hg, hle, hm, hs, ht⟩
  · cases h'
  · cases h'
    exact ⟨cur, hg, hs⟩
theorem A5end {S : Nat → Sm} {T : Nat → Tk} {w : World} {sn tn : Nat} {c : Int} {n : Nat} {pre : List (KIn (T n))} {W W9 : World} {k : KIn (T n)} {B : Nat} {a : Act} {x : Int} (hb : Below W.heap.size W W9) (J : AskI S T w sn tn c n pre W9)
    (hx : x = max (worst S T sn tn c n (pre.map (·.1))) (spreadOf S (updT T n ((T n).exact k.1)) sn tn c)) (hlt : w.heap.size + 2 < W.heap.size) :
    ownPostG B (Same (w.heap.size + 1 + 1)) (fun pre W => AskI S T w sn tn c n pre W) (fun _ _ _ => False) (pre ++ [k]) W .normal a (W9.setCell ⟨w.heap.size + 1, 0, none⟩ (.int .i64 x)) := by
  refine ⟨KeepsFrom.trans ⟨hb.size, fun i o _ hi _ => (hb.block i (Array.getElem?_eq_some_iff.1 hi).1).trans hi⟩ ((KeepsOthers.setCell _ _ _).from _), Same.then (Same.of_below hb (by omega)) (Below.heap_setCell _ _ _ _ (by dsimp only; omega)), ?_⟩
  refine ⟨J.x.set _ _ (by dsimp only; omega), ?_, J.bel.setCell (by dsimp only; omega) _, by rw [size_setCell]; exact J.lt⟩
  have := BoxAt.store J.wide 0 (.int .i64 x)
  rw [List.map_append, List.map_cons, List.map_nil, worst_snoc, ← hx]
  exact this
theorem info58 : (Try.prog.info? 58).map (fun i => (i.zero, i.size, i.bytes)) = some (some (.agg #[.int .i64 0, .int .i64 0, .int .i64 0, .int .i64 0, .int .i64 0, .int .i64 0, .int .i64 0, .int .i64 0]), 8, 64) := by kernel_rfl

set_option maxRecDepth 100000 in
set_option maxHeartbeats 4000000 in
theorem ask2_any (cr : Int) (sa ta : Option Addr) (sn sc tn tc : Nat) (S : Nat → Sm) (T : Nat → Tk) (w : World) (hS : SeamsAt w sa sn S) (hT : TicketsAt w ta tn T) (hv : Valid cr sn tn S T) (c : Int) (c0 : 0 ≤ c) (c1 : c ≤ 3)
    (bw bc n : Nat) (hn : n < tn) (xw : BoxAt w bw #[.int .i64 cr, .slice sa sn sc, .slice ta tn tc] 77) (xc : BoxAt w bc #[.int .i64 c] 3) :
    Calls Try.prog 79 #[.int .i64 n, bp bw, bp bc] w fun e w' => e = .returned (.int .i64 (wideOf S T sn tn c n)) ∧ Below w.heap.size w w' := by
  have hi := fun w => run_indexAt_row (w := w) (cap := tc) Try.underlying23 size8 (hT.plain (by omega)) hn
  have HS := Lib.hid hS
  have HT := Lib.hid hT
  have HV := Lib.hid hv
  have lw := lt_of_heap xw
  have lc := lt_of_heap xc
  obtain ⟨k0, k1, k2, k3, k4, k5, k6, k7⟩ := hT.at hn
  have w2 := cellAt xw 2
  simp only [List.getElem?_toArray, List.getElem?_cons_zero, List.getElem?_cons_succ] at w2
  have HXW := Lib.hid xw
  have HXC := Lib.hid xc
  have lt := hT.old (by omega)
  clear hS hT hv xw xc
  refine (callsIn_wide (n := 9)).1 ?_
  refine callsIn_of_wp_marks Try.func79 rfl trivial ?_ rfl
  simp only [Try.ntmps79, List.size_toArray, List.length_cons, List.length_nil, Nat.reduceAdd, Nat.reduceSub, Array.replicate_succ, Array.replicate_zero, List.push_toArray, List.append_toArray, List.nil_append, List.cons_append]
  gi_wp2_with (refine ⟨trivial, ?_⟩; gi_at_call 80; refine (callsIn_wide.2 (can_any (T n) _)).mono ?_; rintro e w' ⟨rfl, rfl⟩)
  generalize hW : World.alloc _ _ = W0
  obtain ⟨q0, q1, q2, hz, hB⟩ := blocks3 hW
  clear hW
  have HB := Lib.hid hB
  have hz' : W0.heap.size = w.heap.size + 3 := hz
  have H0 := Lib.hid (show BoxAt W0 w.heap.size #[.int .i64 n] 3 from q0)
  have H1 := Lib.hid (show BoxAt W0 (w.heap.size + 1) #[.int .i64 0] 3 from q1)
  have H2 := Lib.hid (show BoxAt W0 (w.heap.size + 1 + 1) (T n).cells 58 from q2)
  have hsp := HV.out.spans hn
  have HZ := Lib.hid hz'
  clear q0 q1 q2 hz hB hz'
  refine wpIn_rangeFunc_ownH (w := W0) rfl (by omega) (gf := 100) (lb := #[.pointer (some ⟨w.heap.size + 1 + 1, 0, none⟩)]) rfl trivial (enters_of Try.func100 (by kernel_rfl) rfl)
    (can_stops Fence.wide 8 trivial rfl (by omega) (w.heap.size + 1 + 1) (T n) W0 H2.out hsp) (fun h k => Same.then h k) (same_b (by have := HZ.out; omega)) (Below.refl _ _) (fun _ => rfl)
    (fun pre W => AskI S T w sn tn c n pre W) (fun _ _ _ => False) (AskI.own _ (by have := HZ.out; omega)) (fun _ _ _ _ _ hs _ _ => hs) ⟨H0.out, H1.out, HB.out, by have := HZ.out; omega⟩
    (fun x a' W => ∃ Bx, w.heap.size + 1 + 1 < Bx ∧ BoxAt W Bx #[.int .i64 x.1.fr, .int .i64 x.1.to, .int .i64 x.1.td] 93 ∧ a' = { tmps := #[.int .i64 n, bp bw, bp bc, bp w.heap.size, .int .i64 0, bp (w.heap.size + 1), bp Bx, undef, undef, bp bw, .pointer (some ⟨bw, 2, none⟩), .slice ta tn tc, .int .i64 n, .pointer (some ⟨blk ta, ofs ta + n * 8, none⟩), (T n).v, .func (.func 100) #[] #[bp (w.heap.size + 1 + 1)], .agg #[.int .i64 x.1.fr, .int .i64 x.1.to, .int .i64 x.1.td], undef, undef, undef, undef, undef, undef, undef, undef, undef, undef, undef, undef, undef, undef, undef, undef, undef, undef, undef, undef, undef, undef, undef, undef, undef, undef, undef, undef, undef, undef, undef, undef, undef, undef, undef, undef, undef, undef, undef], defers := [] })
    (fun x a' s A B row hs hg hr => by obtain ⟨Bx, h1, h2, h3⟩ := hs; exact ⟨Bx, h1, own_box h2 hg hr, h3⟩) ?assign ?body ?done ?stop
  case assign =>
    intro l pre x W K hi hK
    obtain ⟨⟨fr, to, td⟩, hx⟩ := x
    simp only [Kn.v] at *
    have HI := Lib.hid hi
    have HX := Lib.hid hK
    clear hi hK
    gi_wp2
    exact HX.out _ _ ((KeepsOthers.alloc _ _).from _) (Same.of_below ((Below.refl _ _).alloc (Nat.le_refl _) _) (by have := HI.out.lt; omega)) (HI.out.grow ((Below.refl _ _).alloc (Nat.le_refl _) _)) ⟨W.heap.size, by have := HI.out.lt; omega, (blocks1 rfl).1, rfl⟩
  case body =>
    rintro l pre ⟨⟨fr, to, td⟩, hx⟩ a' W hl _ hi ⟨Bx, hBx, hbx, rfl⟩ _
    have HI := Lib.hid hi
    have HX := Lib.hid hx
    have lx := lt_of_heap hbx
    have HBX := Lib.hid (show BoxAt W Bx #[.int .i64 fr, .int .i64 to, .int .i64 td] 93 from hbx)
    dsimp only [Tk.v]
    have hlt := hi.lt
    have hxw := HXW.out.grow hi.bel
    have hxt := HT.out.grow hi.bel
    have hxs := HS.out.grow hi.bel
    have w0 := cellAt hxw 0
    have w1 := cellAt hxw 1
    have w2 := cellAt hxw 2
    simp only [List.getElem?_toArray, List.getElem?_cons_zero, List.getElem?_cons_succ] at w0 w1 w2
    clear hi hbx k0 k1 k2 k3 k4 k5 k6 k7
    have hbs := lt_of_heap hxw
    have hne1 : ¬ bw = W.heap.size := by omega
    have hal := (Below.refl W.heap.size W).alloc (Nat.le_refl _) (.cells #[.int .i64 cr, .slice sa sn sc, .slice ta tn tc] 77)
    obtain ⟨i0, hi0, hz0, hz1, hz2⟩ := info_parts info58
    obtain ⟨W3, hrun, hown, hgr⟩ := run_make_full (P := Try.prog) (W.alloc (.cells #[.int .i64 cr, .slice sa sn sc, .slice ta tn tc] 77)) W.heap.size 23 58 i0 _ 8 Try.underlying23 hi0 hz0 hz1 .i64 .i64 tn (by rw [hz2]; have := HV.out.tn6; omega) (by have := HV.out.tn6; unfold maxLen; omega) (by simp)
    have hb3 := hal.grown hgr (by simp) (fun _ e => by cases e)
    simp only [sizeAlloc] at hrun hown
    have o3 : BoxAt W3 W.heap.size #[.int .i64 cr, .slice sa sn sc, .slice ta tn tc] 77 := BoxAt.kept (blocks1 (w := W) rfl).1 hgr (fun e => by cases e)
    obtain ⟨cur, hg3, hcur⟩ := own_made hown
    obtain ⟨W4, hW4⟩ : ∃ W4, W3.setCell ⟨W.heap.size, 2, none⟩ (.slice (some ⟨W.heap.size + 1, 0, none⟩) tn tn) = W4 := ⟨_, rfl⟩
    have g4 : BoxAt W4 (W.heap.size + 1) cur 58 := by rw [← hW4]; exact BoxAt.set hg3 _ _ (by simp)
    have o4 : BoxAt W4 W.heap.size #[.int .i64 cr, .slice sa sn sc, .slice (some ⟨W.heap.size + 1, 0, none⟩) tn tn] 77 := by rw [← hW4]; exact BoxAt.store o3 2 _
    have hb4 : Below W.heap.size W W4 := by rw [← hW4]; exact hb3.setCell (Nat.le_refl _) _
    have hcp := run_copy_tickets g4 hcur (hxt.grow hb4) (cap := tc) (by omega) 3
    have f3 := freeAt o3 2
    have y3 := cellAt o3 2
    have y4 := cellAt (hxw.grow hb4) 2
    have z4 := cellAt o4 2
    simp only [List.getElem?_toArray, List.getElem?_cons_zero, List.getElem?_cons_succ] at y3 y4 z4
    rw [← hW4] at hcp y4 z4
    have HO3 := Lib.hid o4
    have HG4 := Lib.hid g4
    have HB4 := Lib.hid hb4
    have HW4 := Lib.hid hW4
    have HC := Lib.hid hcur
    have w3 := cellAt (hxw.grow hal) 2
    simp only [List.getElem?_toArray, List.getElem?_cons_zero, List.getElem?_cons_succ] at w3
    clear o3 o4 g4 hb4 hb3 hal hW4 hcur hg3 hown hgr hi0 hz0 hz1 hz2
    gi_wp2
    have HXT := Lib.hid (hxt.grow HB4.out)
    generalize hW5 : World.setRow _ _ _ = W5
    have hg5 : W4.grownBy W5 (some (W.heap.size + 1)) := by rw [← hW5, HW4.out]; exact ⟨rfl, rfl, rfl, by simp [World.setRow], fun k _ hk => setRow_other W4 _ k _ (fun e => hk (by rw [e]))⟩
    have hg5' : BoxAt W5 (W.heap.size + 1) (tkVals T tn).toArray 58 := by rw [← hW5, HW4.out]; exact setRow_heap W4 _ cur _ 58 _ HG4.out
    have hb5 : Below W.heap.size W W5 := HB4.out.grown hg5 HB4.out.size (fun k e => by cases e; omega)
    have HI5 := Lib.hid (HI.out.grow hb5)
    have R0 := Lib.hid (show A5R w W.heap.size bw Bx sa ta sn sc tn tc cr fr to td T n W5 from ⟨⟨HO3.out.kept hg5 (fun e => by simp at e), HI5.out.x, HBX.out.grow hb5, hxw.grow hb5, hxt.grow hb5, ⟨by omega, by omega, by omega⟩⟩, hg5'⟩)
    have HB5 := Lib.hid hb5
    clear hW5 hg5 hg5' hb5 HB4 HG4 HW4 HO3 hcp f3 y3 y4 z4 w3 hrun w0 w1 w2
    have hta : blk ta < W.heap.size := hxt.old (by omega)
    have hms : w.heap.size < W.heap.size := by omega
    have hal : (Fence.wide.inRound l).round = some l := rfl
    clear hal
    have R1 := Lib.hid (R0.out.grow (Below.drew (Below.refl _ _)))
    have HB6 := Lib.hid (HB5.out.drew)
    have CE := fun W => exact_any ⟨fr, to, td⟩ (T n) W
    simp only [Kn.v, Tk.v, Tk.exact] at CE
    have hix := fun w => run_indexAt_row (w := w) (oa := some ⟨W.heap.size + 1, 0, none⟩) (cap := tn) Try.underlying23 size8 rfl hn
    simp only [blk, ofs, Nat.zero_add] at hix
    refine wp_region_held_round (S := (fun w' => (w'.cell? ⟨W.heap.size, 2, none⟩ = some (.slice (some ⟨W.heap.size + 1, 0, none⟩) tn tn) ∧ w'.cell? ⟨w.heap.size, 0, none⟩ = some (.int .i64 n) ∧ (w'.cell? ⟨Bx, 0, none⟩ = some (.int .i64 fr) ∧ w'.cell? ⟨Bx, 1, none⟩ = some (.int .i64 to) ∧ w'.cell? ⟨Bx, 2, none⟩ = some (.int .i64 td)) ∧ w'.cell? ⟨bw, 2, none⟩ = some (.slice ta tn tc) ∧ (w'.cell? ⟨blk ta, ofs ta + n * 8, none⟩ = some (.int .i64 (T n).crew) ∧ w'.cell? ⟨blk ta, ofs ta + n * 8 + 1, none⟩ = some (.int .i64 (T n).seam) ∧ w'.cell? ⟨blk ta, ofs ta + n * 8 + 2, none⟩ = some (.int .i64 (T n).fl) ∧ w'.cell? ⟨blk ta, ofs ta + n * 8 + 3, none⟩ = some (.int .i64 (T n).fh) ∧ w'.cell? ⟨blk ta, ofs ta + n * 8 + 4, none⟩ = some (.int .i64 (T n).tl) ∧ w'.cell? ⟨blk ta, ofs ta + n * 8 + 5, none⟩ = some (.int .i64 (T n).th) ∧ w'.cell? ⟨blk ta, ofs ta + n * 8 + 6, none⟩ = some (.int .i64 (T n).dl) ∧ w'.cell? ⟨blk ta, ofs ta + n * 8 + 7, none⟩ = some (.int .i64 (T n).dh))))) (by kernel_rfl) (by kernel_rfl) (fun ⟨_, _, h⟩ => h) (by exact ⟨cellAt R1.out.own 2, cellAt R1.out.num 0, ⟨cellAt R1.out.kn 0, cellAt R1.out.kn 1, cellAt R1.out.kn 2⟩, cellAt R1.out.wag 2, R1.out.tkt.at hn⟩) (fun hHeld => ?_)
    refine wpAnyH_take (i := 0) (oi := { dst := some 32, op := Op.fieldAddr 77 (Operand.tmp 7) 0, type := 0, pos := "wage.go:305", after := #[], guard := none }) (v := ?_) rfl (by kernel_rfl) (by kernel_rfl) (by kernel_rfl) (fun _ _ _ h => h) (Or.inl ⟨by rfl, ?_⟩) (by assumption) ?_
    rotate_left
    · (intro w9 hSw; (try dsimp only at hSw); (go_split_ands; go_simp); (try with_reducible rfl))
    try simp only [Act.put, List.setIfInBounds_toArray, List.set_cons_zero, List.set_cons_succ]
    refine wpAnyH_take (i := 1) (oi := { dst := some 33, op := Op.fieldAddr 25 (Operand.tmp 32) 2, type := 0, pos := "wage.go:305", after := #[{ on := 0, ground := Ground.data }], guard := none }) (v := ?_) rfl (by kernel_rfl) (by kernel_rfl) (by kernel_rfl) (fun _ _ _ h => h) (Or.inl ⟨by rfl, ?_⟩) (by assumption) ?_
    rotate_left
    · (intro w9 hSw; (try dsimp only at hSw); (go_split_ands; go_simp); (try with_reducible rfl))
    try simp only [Act.put, List.setIfInBounds_toArray, List.set_cons_zero, List.set_cons_succ]
    refine wpAnyH_take (i := 2) (oi := { dst := some 34, op := Op.load 23 (Operand.tmp 33), type := 23, pos := "wage.go:305", after := #[{ on := 1, ground := Ground.data }], guard := none }) (v := ?_) rfl (by kernel_rfl) (by kernel_rfl) (by kernel_rfl) (fun _ _ _ h => h) (Or.inl ⟨by rfl, ?_⟩) (by assumption) ?_
    rotate_left
    · (intro w9 hSw; (try dsimp only at hSw); (go_split_ands; go_simp); (try with_reducible rfl))
    try simp only [Act.put, List.setIfInBounds_toArray, List.set_cons_zero, List.set_cons_succ]
    refine wpAnyH_take (i := 3) (oi := { dst := some 35, op := Op.load 3 (Operand.tmp 3), type := 3, pos := "wage.go:305", after := #[], guard := none }) (v := ?_) rfl (by kernel_rfl) (by kernel_rfl) (by kernel_rfl) (fun _ _ _ h => h) (Or.inl ⟨by rfl, ?_⟩) (by assumption) ?_
    rotate_left
    · (intro w9 hSw; (try dsimp only at hSw); (go_split_ands; go_simp); (try with_reducible rfl))
    try simp only [Act.put, List.setIfInBounds_toArray, List.set_cons_zero, List.set_cons_succ]
    refine wpAnyH_take (i := 4) (oi := { dst := some 36, op := Op.load 93 (Operand.tmp 6), type := 93, pos := "wage.go:305", after := #[], guard := none }) (v := ?_) rfl (by kernel_rfl) (by kernel_rfl) (by kernel_rfl) (fun _ _ _ h => h) (Or.inl ⟨by rfl, ?_⟩) (by assumption) ?_
    rotate_left
    · (intro w9 hSw; (try dsimp only at hSw); (go_split_ands; go_simp); (try with_reducible rfl))
    try simp only [Act.put, List.setIfInBounds_toArray, List.set_cons_zero, List.set_cons_succ]
    refine wpAnyH_take (i := 5) (oi := { dst := some 37, op := Op.fieldAddr 77 (Operand.tmp 1) 0, type := 0, pos := "wage.go:305", after := #[], guard := none }) (v := ?_) rfl (by kernel_rfl) (by kernel_rfl) (by kernel_rfl) (fun _ _ _ h => h) (Or.inl ⟨by rfl, ?_⟩) (by assumption) ?_
    rotate_left
    · (intro w9 hSw; (try dsimp only at hSw); (go_split_ands; go_simp); (try with_reducible rfl))
    try simp only [Act.put, List.setIfInBounds_toArray, List.set_cons_zero, List.set_cons_succ]
    refine wpAnyH_take (i := 6) (oi := { dst := some 38, op := Op.fieldAddr 25 (Operand.tmp 37) 2, type := 0, pos := "wage.go:305", after := #[{ on := 5, ground := Ground.data }], guard := none }) (v := ?_) rfl (by kernel_rfl) (by kernel_rfl) (by kernel_rfl) (fun _ _ _ h => h) (Or.inl ⟨by rfl, ?_⟩) (by assumption) ?_
    rotate_left
    · (intro w9 hSw; (try dsimp only at hSw); (go_split_ands; go_simp); (try with_reducible rfl))
    try simp only [Act.put, List.setIfInBounds_toArray, List.set_cons_zero, List.set_cons_succ]
    refine wpAnyH_take (i := 7) (oi := { dst := some 39, op := Op.load 23 (Operand.tmp 38), type := 23, pos := "wage.go:305", after := #[{ on := 6, ground := Ground.data }], guard := none }) (v := ?_) rfl (by kernel_rfl) (by kernel_rfl) (by kernel_rfl) (fun _ _ _ h => h) (Or.inl ⟨by rfl, ?_⟩) (by assumption) ?_
    rotate_left
    · (intro w9 hSw; (try dsimp only at hSw); (go_split_ands; go_simp); (try with_reducible rfl))
    try simp only [Act.put, List.setIfInBounds_toArray, List.set_cons_zero, List.set_cons_succ]
    refine wpAnyH_take (i := 8) (oi := { dst := some 40, op := Op.load 3 (Operand.tmp 3), type := 3, pos := "wage.go:305", after := #[], guard := none }) (v := ?_) rfl (by kernel_rfl) (by kernel_rfl) (by kernel_rfl) (fun _ _ _ h => h) (Or.inl ⟨by rfl, ?_⟩) (by assumption) ?_
    rotate_left
    · (intro w9 hSw; (try dsimp only at hSw); (go_split_ands; go_simp); (try with_reducible rfl))
    try simp only [Act.put, List.setIfInBounds_toArray, List.set_cons_zero, List.set_cons_succ]
    refine wpAnyH_take (i := 9) (oi := { dst := some 41, op := Op.indexAddr 23 (Operand.tmp 39) (Operand.tmp 40), type := 0, pos := "wage.go:305", after := #[{ on := 7, ground := Ground.data }, { on := 8, ground := Ground.data }], guard := none }) (v := ?_) rfl (by kernel_rfl) (by kernel_rfl) (by kernel_rfl) (fun _ _ _ h => h) (Or.inl ⟨by rfl, ?_⟩) (by assumption) ?_
    rotate_left
    · (intro w9 hSw; (try dsimp only at hSw); (go_split_ands; go_simp); (try with_reducible rfl))
    try simp only [Act.put, List.setIfInBounds_toArray, List.set_cons_zero, List.set_cons_succ]
    refine wpAnyH_take (i := 10) (oi := { dst := some 42, op := Op.load 58 (Operand.tmp 41), type := 58, pos := "wage.go:305", after := #[{ on := 9, ground := Ground.data }], guard := none }) (v := ?_) rfl (by kernel_rfl) (by kernel_rfl) (by kernel_rfl) (fun _ _ _ h => h) (Or.inl ⟨by rfl, ?_⟩) (by assumption) ?_
    rotate_left
    · (intro w9 hSw; (try dsimp only at hSw); (go_split_ands; go_simp); (try with_reducible rfl))
    try simp only [Act.put, List.setIfInBounds_toArray, List.set_cons_zero, List.set_cons_succ]
    refine wpAnyH_ready (rs := [11]) (by kernel_rfl) (by simp) ?_
    refine AllReadyH.cons (o := { dst := some 43, op := Op.call { callee := Callee.value (Operand.func 81), args := #[Operand.tmp 36, Operand.tmp 42], argTypes := #[93, 58] }, type := 58, pos := "wage.go:305", after := #[{ on := 4, ground := Ground.data }, { on := 10, ground := Ground.data }], guard := none }) rfl (fun K hK => ?_) AllReadyH.nil
    go_simp
    refine (CE _).mono ?_; rintro e w6 ⟨rfl, hb6⟩; have R2 := Lib.hid (R1.out.grow hb6); have HB7 := Lib.hid (HB6.out.trans (hb6.mono HB6.out.size)); clear hb6
    go_wp2_with fail
    refine hK.out _ _ ?_ (fun hHeld => ?_)
    · exact ⟨cellAt R2.out.own 2, cellAt R2.out.num 0, ⟨cellAt R2.out.kn 0, cellAt R2.out.kn 1, cellAt R2.out.kn 2⟩, cellAt R2.out.wag 2, R2.out.tkt.at hn⟩
    clear hK K
    try simp only [Act.put, List.setIfInBounds_toArray, List.set_cons_zero, List.set_cons_succ]
    refine wpAnyH_take (i := 12) (oi := { dst := some 44, op := Op.indexAddr 23 (Operand.tmp 34) (Operand.tmp 35), type := 0, pos := "wage.go:305", after := #[{ on := 2, ground := Ground.data }, { on := 3, ground := Ground.data }, { on := 0, ground := Ground.phase }, { on := 1, ground := Ground.phase }, { on := 2, ground := Ground.phase }, { on := 3, ground := Ground.phase }, { on := 4, ground := Ground.phase }, { on := 5, ground := Ground.phase }, { on := 6, ground := Ground.phase }, { on := 7, ground := Ground.phase }, { on := 8, ground := Ground.phase }, { on := 9, ground := Ground.phase }, { on := 10, ground := Ground.phase }, { on := 11, ground := Ground.phase }], guard := none }) (v := ?_) rfl (by kernel_rfl) (by kernel_rfl) (by kernel_rfl) (fun _ _ _ h => h) (Or.inl ⟨by rfl, ?_⟩) (by assumption) ?_
    rotate_left
    · (intro w9 hSw; (try dsimp only at hSw); (go_split_ands; go_simp); (try with_reducible rfl))
    try simp only [Act.put, List.setIfInBounds_toArray, List.set_cons_zero, List.set_cons_succ]
    have gc0 : w6.cell? ⟨W.heap.size + 1, n * 8 + 0, none⟩ = some ((T n).cell 0) := by rw [cellAt R2.out.row, List.getElem?_toArray]; exact tkVals_get T tn hn (by omega)
    have gc1 : w6.cell? ⟨W.heap.size + 1, n * 8 + 1, none⟩ = some ((T n).cell 1) := by rw [cellAt R2.out.row, List.getElem?_toArray]; exact tkVals_get T tn hn (by omega)
    have gc2 : w6.cell? ⟨W.heap.size + 1, n * 8 + 2, none⟩ = some ((T n).cell 2) := by rw [cellAt R2.out.row, List.getElem?_toArray]; exact tkVals_get T tn hn (by omega)
    have gc3 : w6.cell? ⟨W.heap.size + 1, n * 8 + 3, none⟩ = some ((T n).cell 3) := by rw [cellAt R2.out.row, List.getElem?_toArray]; exact tkVals_get T tn hn (by omega)
    have gc4 : w6.cell? ⟨W.heap.size + 1, n * 8 + 4, none⟩ = some ((T n).cell 4) := by rw [cellAt R2.out.row, List.getElem?_toArray]; exact tkVals_get T tn hn (by omega)
    have gc5 : w6.cell? ⟨W.heap.size + 1, n * 8 + 5, none⟩ = some ((T n).cell 5) := by rw [cellAt R2.out.row, List.getElem?_toArray]; exact tkVals_get T tn hn (by omega)
    have gc6 : w6.cell? ⟨W.heap.size + 1, n * 8 + 6, none⟩ = some ((T n).cell 6) := by rw [cellAt R2.out.row, List.getElem?_toArray]; exact tkVals_get T tn hn (by omega)
    have gc7 : w6.cell? ⟨W.heap.size + 1, n * 8 + 7, none⟩ = some ((T n).cell 7) := by rw [cellAt R2.out.row, List.getElem?_toArray]; exact tkVals_get T tn hn (by omega)
    have gf0 := freeAt R2.out.row (n * 8 + 0)
    have gf1 := freeAt R2.out.row (n * 8 + 1)
    have gf2 := freeAt R2.out.row (n * 8 + 2)
    have gf3 := freeAt R2.out.row (n * 8 + 3)
    have gf4 := freeAt R2.out.row (n * 8 + 4)
    have gf5 := freeAt R2.out.row (n * 8 + 5)
    have gf6 := freeAt R2.out.row (n * 8 + 6)
    have gf7 := freeAt R2.out.row (n * 8 + 7)
    simp only [Nat.add_zero] at gc0 gf0
    refine wpAnyH_ready (rs := [13]) (by kernel_rfl) (by simp) ?_
    refine AllReadyH.cons (o := { dst := none, op := Op.store 58 (Operand.tmp 44) (Operand.tmp 43), type := 0, pos := "wage.go:305", after := #[{ on := 12, ground := Ground.data }, { on := 11, ground := Ground.data }, { on := 11, ground := Ground.chain }, { on := 0, ground := Ground.phase }, { on := 1, ground := Ground.phase }, { on := 2, ground := Ground.phase }, { on := 3, ground := Ground.phase }, { on := 4, ground := Ground.phase }, { on := 5, ground := Ground.phase }, { on := 6, ground := Ground.phase }, { on := 7, ground := Ground.phase }, { on := 8, ground := Ground.phase }, { on := 9, ground := Ground.phase }, { on := 10, ground := Ground.phase }, { on := 11, ground := Ground.phase }], guard := none }) rfl (fun K hK => ?_) AllReadyH.nil
    go_simp
    skip
    go_wp2_with fail
    refine hK.out _ _ ?_ (fun hHeld => ?_)
    · exact ⟨cellAt ((((((((R2.out.toA5S.far _ _ rfl hta).far _ _ rfl hta).far _ _ rfl hta).far _ _ rfl hta).far _ _ rfl hta).far _ _ rfl hta).far _ _ rfl hta).far _ _ rfl hta).own 2, cellAt ((((((((R2.out.toA5S.far _ _ rfl hta).far _ _ rfl hta).far _ _ rfl hta).far _ _ rfl hta).far _ _ rfl hta).far _ _ rfl hta).far _ _ rfl hta).far _ _ rfl hta).num 0, ⟨cellAt ((((((((R2.out.toA5S.far _ _ rfl hta).far _ _ rfl hta).far _ _ rfl hta).far _ _ rfl hta).far _ _ rfl hta).far _ _ rfl hta).far _ _ rfl hta).far _ _ rfl hta).kn 0, cellAt ((((((((R2.out.toA5S.far _ _ rfl hta).far _ _ rfl hta).far _ _ rfl hta).far _ _ rfl hta).far _ _ rfl hta).far _ _ rfl hta).far _ _ rfl hta).far _ _ rfl hta).kn 1, cellAt ((((((((R2.out.toA5S.far _ _ rfl hta).far _ _ rfl hta).far _ _ rfl hta).far _ _ rfl hta).far _ _ rfl hta).far _ _ rfl hta).far _ _ rfl hta).far _ _ rfl hta).kn 2⟩, cellAt ((((((((R2.out.toA5S.far _ _ rfl hta).far _ _ rfl hta).far _ _ rfl hta).far _ _ rfl hta).far _ _ rfl hta).far _ _ rfl hta).far _ _ rfl hta).far _ _ rfl hta).wag 2, ((((((((R2.out.toA5S.far _ _ rfl hta).far _ _ rfl hta).far _ _ rfl hta).far _ _ rfl hta).far _ _ rfl hta).far _ _ rfl hta).far _ _ rfl hta).far _ _ rfl hta).tkt.at hn⟩
    clear hK K
    try simp only [Act.put, List.setIfInBounds_toArray, List.set_cons_zero, List.set_cons_succ]
    refine wpAnyH_done (by kernel_rfl) ?_ _
    generalize hW7 : World.setCell _ _ _ = W7
    have hb7 : Below W.heap.size W W7 := by rw [← hW7]; exact ((((((((HB7.out).setCell (by dsimp only; omega) _).setCell (by dsimp only; omega) _).setCell (by dsimp only; omega) _).setCell (by dsimp only; omega) _).setCell (by dsimp only; omega) _).setCell (by dsimp only; omega) _).setCell (by dsimp only; omega) _).setCell (by dsimp only; omega) _
    have ho7 : BoxAt W7 W.heap.size #[.int .i64 cr, .slice sa sn sc, .slice (some ⟨W.heap.size + 1, 0, none⟩) tn tn] 77 := by rw [← hW7]; exact ((((((((R2.out.toA5S.far _ _ rfl hta).far _ _ rfl hta).far _ _ rfl hta).far _ _ rfl hta).far _ _ rfl hta).far _ _ rfl hta).far _ _ rfl hta).far _ _ rfl hta).own
    have ht7 : TicketsAt W7 (some ⟨W.heap.size + 1, 0, none⟩) tn (updT T n ((T n).exact ⟨fr, to, td⟩)) := tk_store (ty := 58) ((T n).exact ⟨fr, to, td⟩) hn (by have := HV.out.tn6; unfold maxLen; omega) (by rw [← hW7]; exact (((((((R2.out.row.store _ _).store _ _).store _ _).store _ _).store _ _).store _ _).store _ _).store _ _)
    have HI7 := Lib.hid (HI.out.grow hb7)
    have hc7 := (HXC.out.grow HI.out.bel).grow hb7
    have CD := Lib.hid (due_any cr sa (some ⟨W.heap.size + 1, 0, none⟩) sn sc tn tn S (updT T n ((T n).exact ⟨fr, to, td⟩)) W7 (hxs.grow hb7) ht7 (HV.out.fix hn HX.out) c (by omega) c1)
    have hbd1 := coinsOf_bd (HV.out.fix hn HX.out) (leastK c (updT T n ((T n).exact ⟨fr, to, td⟩))) c
    have hbd2 := coinsOf_bd (HV.out.fix hn HX.out) (mostK c (updT T n ((T n).exact ⟨fr, to, td⟩))) c
    obtain ⟨hi, hhi⟩ : ∃ x, x = coinsOf S (updT T n ((T n).exact ⟨fr, to, td⟩)) (mostK c (updT T n ((T n).exact ⟨fr, to, td⟩))) sn tn c := ⟨_, rfl⟩
    obtain ⟨lo, hlo⟩ : ∃ x, x = coinsOf S (updT T n ((T n).exact ⟨fr, to, td⟩)) (leastK c (updT T n ((T n).exact ⟨fr, to, td⟩))) sn tn c := ⟨_, rfl⟩
    rw [← hhi] at CD hbd2
    rw [← hlo] at CD hbd1
    have hsp2 : spreadOf S (updT T n ((T n).exact ⟨fr, to, td⟩)) sn tn c = hi - lo := by rw [hhi, hlo]; rfl
    have HSP := Lib.hid hsp2
    obtain ⟨wv, hwv⟩ : ∃ wv, wv = worst S T sn tn c n (pre.map (·.1)) := ⟨_, rfl⟩
    have HWV := Lib.hid hwv
    have HO7 := Lib.hid ho7
    have HB7' := Lib.hid hb7
    have p0 := cellAt ho7 0
    have p1 := cellAt ho7 1
    have p2 := cellAt ho7 2
    have p3 := cellAt hc7 0
    simp only [List.getElem?_toArray, List.getElem?_cons_zero, List.getElem?_cons_succ] at p0 p1 p2 p3
    clear hwv hW7 hb7 ho7 ht7 hsp2 hhi hlo R0 R1 R2 HB5 HB6 HB7 hHeld gc0 gf0 gc1 gf1 gc2 gf2 gc3 gf3 gc4 gf4 gc5 gf5 gc6 gf6 gc7 gf7 CE hix HBX HXT
    gi_wp2_with (refine ⟨trivial, ?_⟩; gi_at_call 67; refine (calls_round CD.out).mono ?_; rintro e w8 ⟨rfl, hb8⟩; have HB8 := Lib.hid (hb8.trans ((Below.refl _ w8).alloc (Nat.le_refl _) (.cells #[.int .i64 lo, .int .i64 hi] 29) |>.mono hb8.size)); have J8 := Lib.hid (HI7.out.grow HB8.out); have v1 := cellAt J8.out.wide 0; have v2 := freeAt J8.out.wide 0; simp only [List.getElem?_toArray, List.getElem?_cons_zero] at v1; rw [← HWV.out] at v1; clear hb8)
    all_goals refine A5end (HB7'.out.trans (HB8.out.mono HB7'.out.size)) J8.out ?_ (by have := HI.out.lt; omega)
    all_goals rw [← HWV.out, HSP.out]
    all_goals omega
  case done =>
    rintro D ys W hD hys hi hK
    have v1 := cellAt hi.wide 0
    simp only [List.getElem?_toArray, List.getElem?_cons_zero] at v1
    have HI := Lib.hid hi
    have HY := Lib.hid hys
    have HZ2 := HZ.out
    rw [hys] at v1
    obtain ⟨wv, hwv⟩ : ∃ wv, wv = worst S T sn tn c n (canL (T n)) := ⟨_, rfl⟩
    rw [← hwv] at v1
    have HWV := Lib.hid hwv
    clear hi hys hwv k0 k1 k2 k3 k4 k5 k6 k7 w2
    gi_wp2
    refine ⟨by simp, .inl ⟨_, _, rfl, run_takeDeferred hK, ?_⟩⟩
    exact ⟨_, results_tmp rfl _ _ _, by rw [HWV.out]; rfl, HI.out.bel.trans (belowK_b (w := w) (Nat.le_refl _) W D _ _ (by omega) hK rfl rfl)⟩
  case stop =>
    rintro D c pre W _ _ h _
    exact h.elim
end Go.Proofs.Ytbpeamppkdmdcaa

namespace Go.Proofs.Ytbpeamppkdmdcaa
open Go.RowKit

/-- The first of the first j numbers with least g. -/
def fewI (g : Nat → Int) : Nat → Nat
  | 0 => 0
  | j + 1 => if j = 0 ∨ g j < g (fewI g j) then j else fewI g j
def fewV (g : Nat → Int) (j : Nat) : Int := if j = 0 then 0 else g (fewI g j)

structure FewS (w : World) (oa : Option Addr) (tn : Nat) (bw bc : Nat) (b : Nat) (wr : World) : Prop where
  bel : Below w.heap.size w wr
  l : IntsAt wr oa tn (fun i => (i : Int))
  box : BoxAt wr b #[.func (.func 79) #[] #[bp bw, bp bc]] 124
  lt : w.heap.size ≤ b
def FewR (w : World) (oa : Option Addr) (tn : Nat) (bw bc b : Nat) (g : Nat → Int) (x v i : Value) (wr : World) : Prop :=
  ∃ j : Nat, j ≤ tn ∧ i = .int .i64 j ∧ x = .int .i64 (fewI g j : Nat) ∧ v = .int .i64 (fewV g j) ∧ FewS w oa tn bw bc b wr

set_option maxRecDepth 100000 in
set_option maxHeartbeats 4000000 in
theorem fewest_any (oa : Option Addr) (tn cap bw bc : Nat) (g : Nat → Int) (w : World) (hl : IntsAt w oa tn (fun i => (i : Int)))
    (hg : ∀ i, i < tn → ∀ W, Below w.heap.size w W → Calls Try.prog 79 #[.int .i64 i, bp bw, bp bc] W fun e w' => e = .returned (.int .i64 (g i)) ∧ Below W.heap.size W w') :
    Calls Try.prog 78 #[.slice oa tn cap, .agg #[.func (.func 79) #[] #[bp bw, bp bc]]] w fun e w' => e = .returned (.tuple #[.int .i64 (fewI g tn : Nat), .int .i64 (fewV g tn)]) ∧ Below w.heap.size w w' := by
  have nml := hl.small
  unfold maxLen at nml
  have HL := Lib.hid hl
  have HG := Lib.hid hg
  clear hl hg
  go_enter Try.func78, Try.ntmps78
  go_wp2_with fail
  generalize hW : World.alloc _ _ = W
  obtain ⟨q0, hz, hB⟩ := blocks1 hW
  have I0 := Lib.hid (show FewS w oa tn bw bc w.heap.size W from ⟨hB, HL.out.grow hB, q0, Nat.le_refl _⟩)
  clear hW q0 hz hB
  go_loopw [4, 5, 11] (FewR w oa tn bw bc w.heap.size g) (fun _ _ i _ => tn - (intOf i).toNat)
  case atStart => exact ⟨0, Nat.zero_le _, rfl, rfl, rfl, I0.out⟩
  case round =>
    clear I0
    obtain ⟨j, hj, rfl, rfl, rfl, hinv⟩ := hrel
    have HI := Lib.hid hinv
    clear hinv
    by_cases hlt : j < tn
    · have hi := fun w => run_indexAt_row (w := w) (cap := cap) Try.underlying37 size3 (HI.out.l.plain (by omega)) hlt
      have hc := HI.out.l.at hlt
      have b0 := cellAt HI.out.box 0
      simp only [Nat.mul_one] at hi
      simp only [List.getElem?_toArray, List.getElem?_cons_zero] at b0
      have hcf : ∀ w, (callFunc 79 #[.int .i64 j, bp bw, bp bc]).run Try.prog w = .ok (.enter 79 #[.int .i64 j, bp bw, bp bc]) w := fun _ => by kernel_rfl
      have C := Lib.hid (HG.out j hlt wr HI.out.bel)
      by_cases h0 : j = 0
      · have hj0 : ((j : Int) == 0) = true := by simp [h0]
        have E1 := Lib.hid (show fewI g (j + 1) = j from by simp [fewI, h0])
        have E2 := Lib.hid (show fewV g (j + 1) = g j from by simp [fewV, E1.out])
        clear h0
        go_wp2_with (go_at_call 79; refine C.out.mono ?_; rintro e w5 ⟨rfl, hb5⟩; have HJ := Lib.hid (show FewS w oa tn bw bc w.heap.size w5 from ⟨HI.out.bel.trans (hb5.mono HI.out.bel.size), HI.out.l.grow hb5, HI.out.box.grow hb5, HI.out.lt⟩); clear hb5)
        exact ⟨⟨j + 1, hlt, by go_num, by rw [E1.out], by rw [E2.out], HJ.out⟩, by simp [intOf]; omega⟩
      · have hj0 : ((j : Int) == 0) = false := by simp [h0]
        have EV := Lib.hid (show fewV g j = g (fewI g j) from by simp [fewV, h0])
        obtain ⟨v, hv⟩ : ∃ v, v = fewV g j := ⟨_, rfl⟩
        rw [← hv] at EV ⊢
        by_cases hlt2 : g j < v
        · have E1 := Lib.hid (show fewI g (j + 1) = j from by rw [fewI, if_pos (.inr (by rw [← EV.out]; exact hlt2))])
          have E2 := Lib.hid (show fewV g (j + 1) = g j from by simp [fewV, E1.out])
          clear h0 hv
          go_wp2_with (go_at_call 79; refine C.out.mono ?_; rintro e w5 ⟨rfl, hb5⟩; have HJ := Lib.hid (show FewS w oa tn bw bc w.heap.size w5 from ⟨HI.out.bel.trans (hb5.mono HI.out.bel.size), HI.out.l.grow hb5, HI.out.box.grow hb5, HI.out.lt⟩); clear hb5)
          exact ⟨⟨j + 1, hlt, by go_num, by rw [E1.out], by rw [E2.out], HJ.out⟩, by simp [intOf]; omega⟩
        · have E1 := Lib.hid (show fewI g (j + 1) = fewI g j from by rw [fewI, if_neg (by rw [← EV.out]; omega)])
          have E2 := Lib.hid (show fewV g (j + 1) = v from by simp [fewV, E1.out, EV.out])
          clear h0 hv
          go_wp2_with (go_at_call 79; refine C.out.mono ?_; rintro e w5 ⟨rfl, hb5⟩; have HJ := Lib.hid (show FewS w oa tn bw bc w.heap.size w5 from ⟨HI.out.bel.trans (hb5.mono HI.out.bel.size), HI.out.l.grow hb5, HI.out.box.grow hb5, HI.out.lt⟩); clear hb5)
          exact ⟨⟨j + 1, hlt, by go_num, by rw [E1.out], by rw [E2.out], HJ.out⟩, by simp [intOf]; omega⟩
    · obtain rfl : j = tn := by omega
      go_wp2_with fail
      go_ret2
      exact ⟨rfl, HI.out.bel⟩
end Go.Proofs.Ytbpeamppkdmdcaa

namespace Go.Proofs.Ytbpeamppkdmdcaa
open Go.RowKit

def askRet (a b e : Int) : Ending := .returned (.tuple #[.int .i64 a, .int .i64 b, .int .i64 e])
def AskSaid (w : World) (V : Prop) (b : Bool) (S : Nat → Sm) (T : Nat → Tk) (sn tn : Nat) (c : Int) (e : Ending) (w' : World) : Prop :=
  Below w.heap.size w w' ∧ ((V ∧ b = true ∧ spreadOf S T sn tn c ≠ 0 ∧ e = askRet (fewI (wideOf S T sn tn c) tn : Nat) (fewV (wideOf S T sn tn c) tn) 0) ∨ (V ∧ b = true ∧ spreadOf S T sn tn c = 0 ∧ e = askRet 0 0 11) ∨ (V ∧ b = false ∧ e = askRet 0 0 2) ∨ (¬ V ∧ e = askRet 0 0 1))

/-- The boxes: wages that are looked at, the crew, the error. -/
structure Q1 (w : World) (bx : Nat) (x : Array Value) (c : Int) (w' : World) : Prop where
  bel : Below w.heap.size w w'
  box : BoxAt w' bx x 77
  cc : BoxAt w' (w.heap.size + 1) #[.int .i64 c] 3
  r : BoxAt w' (w.heap.size + 1 + 1) #[.int .i64 0] 30
  hi : w.heap.size + 2 < bx
theorem Q1.grow {w : World} {bx : Nat} {x : Array Value} {c : Int} {w1 w2 : World} (h : Q1 w bx x c w1) (hb : Below w1.heap.size w1 w2) : Q1 w bx x c w2 :=
  ⟨h.bel.trans (hb.mono h.bel.size), h.box.grow hb, h.cc.grow hb, h.r.grow hb, h.hi⟩
theorem Q1.below {w : World} {bx : Nat} {x : Array Value} {c : Int} {w1 w2 : World} (h : Q1 w bx x c w1) (hb : Below (bx + 1) w1 w2) : Q1 w bx x c w2 := by
  have := h.hi
  exact ⟨h.bel.trans (hb.mono (by omega)), (hb.block _ (by omega)).trans h.box, (hb.block _ (by omega)).trans h.cc, (hb.block _ (by omega)).trans h.r, h.hi⟩
def QR (w : World) (bx : Nat) (x : Array Value) (c : Int) (tn : Nat) (a i : Value) (wr : World) : Prop :=
  ∃ j : Nat, j ≤ tn ∧ i = .int .i64 j ∧ wr.ownsRow (bx + 1) 3 1 a j (rowVals (fun i => (i : Int)) j) ∧ Q1 w bx x c wr ∧ bx < wr.heap.size

set_option maxRecDepth 100000 in
set_option maxHeartbeats 4000000 in
theorem asks_any (cr : Int) (sa ta : Option Addr) (sn sc tn tc : Nat) (S : Nat → Sm) (T : Nat → Tk) (c : Int) (w : World) (hS : SeamsAt w sa sn S) (hT : TicketsAt w ta tn T) :
    Calls Try.prog 28 #[.agg #[.int .i64 cr, .slice sa sn sc, .slice ta tn tc], .int .i64 c] w (AskSaid w (Valid cr sn tn S T) (inB c 0 (cr - 1)) S T sn tn c) := by
  have HS := Lib.hid hS
  have HT := Lib.hid hT
  clear hS hT
  have hmf : ∀ (fn : Fn) (first cap : Array Value) (w : World), (Instr.makeFunc fn first cap).run Try.prog w = .ok (.func fn first cap) w := fun _ _ _ _ => rfl
  go_enter_defers Try.func28, Try.ntmps28
  go_wp2_with fail
  generalize hW : World.alloc _ _ = W
  obtain ⟨q0, q1, q2, hz, hB⟩ := blocks3 hW
  clear hW hz
  have HB := Lib.hid hB
  have C1 := Lib.hid (show BoxAt W (w.heap.size + 1) #[.int .i64 c] 3 from q1)
  have R1 := Lib.hid (show BoxAt W (w.heap.size + 1 + 1) #[.int .i64 0] 30 from q2)
  clear q0 q1 q2 hB
  have hcf : ∀ W, (callFunc 76 (#[.agg #[.int .i64 cr, .slice sa sn sc, .slice ta tn tc]] ++ #[bp (w.heap.size + 1)])).run Try.prog W = .ok (.enter 76 (#[.agg #[.int .i64 cr, .slice sa sn sc, .slice ta tn tc]] ++ #[bp (w.heap.size + 1)])) W := by intro W1; kernel_rfl
  have HCF := Lib.hid hcf
  clear hcf
  refine (open_any cr sa ta sn sc tn tc S T W (HS.out.grow HB.out) (HT.out.grow HB.out) 76 _ (inB c 0 (cr - 1)) HCF.out ?_).mono ?_
  · intro W1 hb hv
    have h1 := hv.cr0
    have h2 := hv.cr1
    exact ask1_any cr sa ta sn sc tn tc c _ W1 (by omega) (by omega) (C1.out.grow hb)
  rintro e w1 ⟨hb, hD⟩
  have B1 := Lib.hid hb
  have R1' := Lib.hid (R1.out.grow hb)
  have C1' := Lib.hid (C1.out.grow hb)
  have hr1 := lt_of_heap R1'.out
  clear hb
  rcases hD with ⟨hv, hbt, rfl⟩ | ⟨hv, hbf, rfl⟩ | ⟨hnv, rfl⟩
  · have HV := Lib.hid hv
    have HT2 := Lib.hid hbt
    have c0 := (inB_iff.1 hbt).1
    have c1 : c ≤ 3 := by have := (inB_iff.1 hbt).2; have := hv.cr1; omega
    clear hbt hv
    have hal := (Below.refl w1.heap.size w1).alloc (Nat.le_refl _) (.cells #[.int .i64 cr, .slice sa sn sc, .slice ta tn tc] 77)
    obtain ⟨W2, hW2⟩ : ∃ W2, w1.alloc (.cells #[.int .i64 cr, .slice sa sn sc, .slice ta tn tc] 77) = W2 := ⟨_, rfl⟩
    have HW := Lib.hid ((HB.out.next B1.out).next (hW2 ▸ hal))
    have I2 := Lib.hid (show Q1 w w1.heap.size #[.int .i64 cr, .slice sa sn sc, .slice ta tn tc] c W2 from ⟨HW.out, by rw [← hW2]; exact (blocks1 rfl).1, C1'.out.grow (hW2 ▸ hal), R1'.out.grow (hW2 ▸ hal), by omega⟩)
    have CD := Lib.hid (due_any cr sa ta sn sc tn tc S T W2 (HS.out.grow HW.out) (HT.out.grow HW.out) HV.out c (by omega) c1)
    obtain ⟨hi, hhi⟩ : ∃ x, x = coinsOf S T (mostK c T) sn tn c := ⟨_, rfl⟩
    obtain ⟨lo, hlo⟩ : ∃ x, x = coinsOf S T (leastK c T) sn tn c := ⟨_, rfl⟩
    rw [← hhi, ← hlo] at CD
    have HSP := Lib.hid (show spreadOf S T sn tn c = hi - lo by rw [hhi, hlo]; rfl)
    have g0 := cellAt I2.out.box 0
    have g1 := cellAt I2.out.box 1
    have g2 := cellAt I2.out.box 2
    have g3 := cellAt I2.out.cc 0
    have g4 := freeAt I2.out.box 0
    have g5 := freeAt I2.out.box 1
    have g6 := freeAt I2.out.box 2
    simp only [List.getElem?_toArray, List.getElem?_cons_zero, List.getElem?_cons_succ] at g0 g1 g2 g3
    obtain ⟨bx, hbx⟩ : ∃ bx, bx = w1.heap.size := ⟨_, rfl⟩
    have hbw : bx < W2.heap.size := by rw [hbx, ← hW2]; simp
    rw [← hW2] at g0 g1 g2 g3 CD
    have HW2 := Lib.hid hW2
    clear hW2 hhi hlo hal
    by_cases hne : lo = hi
    · have e1 : (lo != hi) = false := by simp [hne]
      have e2 : (lo == hi) = true := by simp [hne]
      have HNE := Lib.hid hne
      clear hne
      go_wp2_with (first | (go_at_call 67; refine CD.out.mono ?_; rintro e w3 ⟨rfl, hb3⟩) | (go_at_call 77; ((with_reducible refine (ask_false _ _).mono ?_); rintro e w' ⟨rfl, rfl⟩)))
      have I4 := Lib.hid ((I2.out.grow (HW2.out ▸ hb3)).grow ((Below.refl _ _).alloc (Nat.le_refl _) (.cells #[.int .i64 lo, .int .i64 hi] 29)))
      refine leaves_cons (f := 45) (args := #[bp (w.heap.size + 1 + 1)]) (by simp) (by simp [go_sem]) ?_
      refine (answer_panicking _ 0 11 [] _ I4.out.r).mono ?_
      rintro e u' w'' ⟨rfl, rfl, rfl⟩
      have r2 := cellAt I4.out.r 0
      simp only [List.getElem?_toArray, List.getElem?_cons_zero] at r2
      simp [Leaves, settle, results, Try.results28, go_sem, r2]
      exact ⟨I4.out.bel.setCell (by dsimp only; omega) _, .inr (.inl ⟨HV.out, HT2.out, by rw [HSP.out, HNE.out]; omega, rfl⟩)⟩
    · have e1 : (lo != hi) = true := by simp [hne]
      have e2 : (lo == hi) = false := by simp [hne]
      have HNE := Lib.hid hne
      clear hne
      obtain ⟨tok, htok⟩ : ∃ tok : Nat, tok = tok := ⟨0, rfl⟩
      clear htok
      go_wp2_with (first | (go_at_call 67; refine CD.out.mono ?_; rintro e w3 ⟨rfl, hb3⟩; have I4 := Lib.hid ((I2.out.grow (HW2.out ▸ hb3)).grow ((Below.refl _ _).alloc (Nat.le_refl _) (.cells #[.int .i64 lo, .int .i64 hi] 29))); have hs3 := hb3.size; clear hb3; have g7 := cellAt I4.out.box 2; simp only [List.getElem?_toArray, List.getElem?_cons_zero, List.getElem?_cons_succ] at g7) | (go_at_call 77; ((with_reducible refine (ask_true _ _).mono ?_); rintro e w' ⟨rfl, rfl⟩)))
      generalize hW4 : World.alloc w3 _ = W4 at *
      have hb4 : bx < W4.heap.size := by have := lt_of_heap I4.out.box; omega
      clear hW4 hs3 g0 g1 g2 g3 g4 g5 g6 g7
      rw [← hbx] at I4 ⊢
      clear hbx
      have ht6 := HV.out.tn6
      go_loopw [9, 29] (QR w bx #[.int .i64 cr, .slice sa sn sc, .slice ta tn tc] c tn) (fun _ i _ => tn - (intOf i).toNat)
      case atStart => exact ⟨0, Nat.zero_le _, rfl, World.ownsRow_nil _ _ _ _, I4.out, hb4⟩
      case round =>
        clear I4 hb4 CD
        obtain ⟨j, hj, rfl, hown, hinv, hlo⟩ := hrel
        have HR := Lib.hid hown
        have HI := Lib.hid hinv
        clear hown hinv
        by_cases hlt : j < tn
        · obtain ⟨i0, hi0, hz0, hz1, hz2⟩ := info_parts info3
          go_wp2_with (at_builtin; refine wpList_append_own _ rfl _ _ 37 rfl (bx + 1) 3 i0 (.int .i64 0) 1 8 Try.underlying37 hi0 hz0 hz1 hz2 rfl (by decide) _ _ _ rfl (HR.out.alloc _) ⟨wr.heap.size, 0, none⟩ 1 1 [.int .i64 j] rfl rfl ?c1 ?c2 ?c3 ?c4 ?c5 ?_)
          case c1 =>
            intro j1 u hj1
            match j1, hj1 with
            | 0, hj1 => simp at hj1; subst hj1; go_simp
            | j1 + 1, hj1 => simp at hj1
          case c2 => intro u hu; simp at hu; subst hu; rfl
          case c3 => unfold maxLen; omega
          case c4 => omega
          case c5 => simp; omega
          intro v' w4 hown' hgrow _
          have HO3 := Lib.hid hown'
          have hb3 := Lib.hid (((Below.refl (bx + 1) wr).alloc (by omega) (.cells #[.int .i64 j] 3)).grown hgrow (by simp; omega) (fun q e => (HR.out.lt q e).1))
          have hz3 := hgrow.size
          clear hown' hgrow hi0 hz0 hz1 hz2
          go_wp2_with fail
          refine ⟨⟨j + 1, hlt, by go_num, ?_, HI.out.below hb3.out, by simp at hz3; omega⟩, by simp [intOf]; omega⟩
          rw [rowVals_succ]
          exact HO3.out
        · obtain rfl : j = tn := by omega
          obtain ⟨ma, mc, rfl, hmen, hmb⟩ := row_ints (f := fun i => (i : Int)) (n := j) (w := wr) (base := bx + 1) HR.out (by unfold maxLen; omega)
          have C := Lib.hid (fewest_any ma j mc bx (w.heap.size + 1) (wideOf S T sn j c) wr hmen (fun i hi W hb => ask2_any cr sa ta sn sc j tc S T W (HS.out.grow (HI.out.bel.next hb)) (HT.out.grow (HI.out.bel.next hb)) HV.out c c0 c1 bx (w.heap.size + 1) i hi (HI.out.box.grow hb) (HI.out.cc.grow hb)))
          clear hmen hmb HR
          go_wp2_with (go_at_call 78; refine C.out.mono ?_; rintro e w5 ⟨rfl, hb5⟩; have HJ := Lib.hid (HI.out.grow hb5); clear hb5; have r2 := cellAt HJ.out.r 0; have f2 := freeAt HJ.out.r 0; simp only [List.getElem?_toArray, List.getElem?_cons_zero] at r2)
          refine leaves_cons (f := 45) (args := #[bp (w.heap.size + 1 + 1)]) (by simp) (by simp [go_sem]) ?_
          refine (answer_idle _ _).mono ?_
          rintro e u' w'' ⟨rfl, rfl, rfl⟩
          simp [Leaves, settle, results, Try.results28, go_sem, r2]
          exact ⟨HJ.out.bel.setCell (by dsimp only; omega) _, .inl ⟨HV.out, HT2.out, by rw [HSP.out]; have := HNE.out; omega, rfl⟩⟩
  · have HV := Lib.hid hv
    have HT2 := Lib.hid hbf
    clear hv hbf
    simp only [err]
    go_wp2_with fail
    refine leaves_cons (f := 45) (args := #[bp (w.heap.size + 1 + 1)]) (by simp) (by simp [go_sem]) ?_
    refine (answer_panicking _ 0 2 [] _ R1'.out).mono ?_
    rintro e u' w'' ⟨rfl, rfl, rfl⟩
    have r2 := cellAt R1'.out 0
    simp only [List.getElem?_toArray, List.getElem?_cons_zero] at r2
    simp [Leaves, settle, results, Try.results28, go_sem, r2]
    exact ⟨(HB.out.next B1.out).setCell (by dsimp only; omega) _, .inr (.inr (.inl ⟨HV.out, HT2.out, rfl⟩))⟩
  · have HV := Lib.hid hnv
    clear hnv
    simp only [err]
    go_wp2_with fail
    refine leaves_cons (f := 45) (args := #[bp (w.heap.size + 1 + 1)]) (by simp) (by simp [go_sem]) ?_
    refine (answer_panicking _ 0 1 [] _ R1'.out).mono ?_
    rintro e u' w'' ⟨rfl, rfl, rfl⟩
    have r2 := cellAt R1'.out 0
    simp only [List.getElem?_toArray, List.getElem?_cons_zero] at r2
    simp [Leaves, settle, results, Try.results28, go_sem, r2]
    exact ⟨(HB.out.next B1.out).setCell (by dsimp only; omega) _, .inr (.inr (.inr ⟨HV.out, rfl⟩))⟩
end Go.Proofs.Ytbpeamppkdmdcaa
