/-
  Walks: a ticket of which all is known.
-/
import Derived.Test.YtbpeamppkdmdcaaW20
namespace Go.Proofs.Ytbpeamppkdmdcaa
open Go.RowKit

set_option maxHeartbeats 400000 in
theorem one_any (n : Int) (w : World) :
    Calls Try.prog 101 #[.int .i64 n] w fun e w' => e = .returned (.agg #[.int .i64 n, .int .i64 n]) ∧ Below w.heap.size w w' := by
  go_enter Try.func101, Try.ntmps101
  go_wp2
  exact bodyPost_ret (v := .agg #[.int .i64 n, .int .i64 n]) (by simp [results, Try.results101, go_sem]) rfl ⟨rfl, (Below.refl _ _).alloc (Nat.le_refl _) _⟩

def Tk.exact (t : Tk) (k : Kn) : Tk := ⟨t.crew, t.seam, k.fr, k.fr, k.to, k.to, k.td, k.td⟩

set_option maxRecDepth 100000 in
set_option maxHeartbeats 2000000 in
theorem exact_any (k : Kn) (t : Tk) (w : World) :
    Calls Try.prog 81 #[k.v, t.v] w fun e w' => e = .returned (t.exact k).v ∧ Below w.heap.size w w' := by
  obtain ⟨fr, to, td⟩ := k
  obtain ⟨cr, se, fl, fh, tl, th, dl, dh⟩ := t
  unfold Kn.v Tk.v Tk.exact
  dsimp only
  go_enter Try.func81, Try.ntmps81
  go_wp2_with fail
  generalize hW : World.alloc _ _ = W
  obtain ⟨q0, q1, q2, hz, hB⟩ := blocks3 hW
  clear hW
  have HB := Lib.hid hB
  have hsz : w.heap.size + 3 ≤ W.heap.size := by omega
  have H0 := Lib.hid (show BoxAt W w.heap.size #[.int .i64 fr, .int .i64 to, .int .i64 td] 93 from q0)
  have H1 := Lib.hid (show BoxAt W (w.heap.size + 1) #[.int .i64 cr, .int .i64 se, .int .i64 fl, .int .i64 fh, .int .i64 tl, .int .i64 th, .int .i64 dl, .int .i64 dh] 58 from q1)
  have H2 := Lib.hid (show BoxAt W (w.heap.size + 1 + 1) #[.int .i64 0, .int .i64 0, .int .i64 0, .int .i64 0, .int .i64 0, .int .i64 0, .int .i64 0, .int .i64 0] 58 from q2)
  clear q0 q1 q2 hz hB
  go_wp2_with fail
  go_wp2_with fail
  have hd := Below.drew (Below.refl W.heap.size W)
  have X0 := Lib.hid (H0.out.grow hd)
  have Y0 := Lib.hid (H1.out.grow hd)
  have Z0 := Lib.hid (H2.out.grow hd)
  have B0 := Lib.hid (HB.out.trans (hd.mono (by omega)))
  clear hd H0 H1 H2 HB
  refine wp_region_held_drew (S := (fun w' => w'.cell? ⟨w.heap.size, 0, none⟩ = some (.int .i64 fr) ∧ w'.cell? ⟨w.heap.size, 1, none⟩ = some (.int .i64 to) ∧ w'.cell? ⟨w.heap.size, 2, none⟩ = some (.int .i64 td))) (by kernel_rfl) (by exact ⟨cellAt X0.out 0, cellAt X0.out 1, cellAt X0.out 2⟩) (fun hHeld => ?_)
  refine wpAnyH_take (i := 0) (oi := { dst := some 6, op := Op.move (Operand.tmp 5), type := 106, pos := "wage.go:71", after := #[], guard := none }) (v := ?_) rfl (by kernel_rfl) (by kernel_rfl) (by kernel_rfl) (fun _ _ _ h => h) (Or.inl ⟨by rfl, ?_⟩) (by assumption) ?_
  rotate_left
  · (intro w9 hSw; (try dsimp only at hSw); (go_split_ands; go_simp); (try with_reducible rfl))
  try simp only [Act.put, List.setIfInBounds_toArray, List.set_cons_zero, List.set_cons_succ]
  refine wpAnyH_take (i := 1) (oi := { dst := some 7, op := Op.fieldAddr 93 (Operand.tmp 2) 0, type := 0, pos := "wage.go:71", after := #[], guard := none }) (v := ?_) rfl (by kernel_rfl) (by kernel_rfl) (by kernel_rfl) (fun _ _ _ h => h) (Or.inl ⟨by rfl, ?_⟩) (by assumption) ?_
  rotate_left
  · (intro w9 hSw; (try dsimp only at hSw); (go_split_ands; go_simp); (try with_reducible rfl))
  try simp only [Act.put, List.setIfInBounds_toArray, List.set_cons_zero, List.set_cons_succ]
  refine wpAnyH_take (i := 2) (oi := { dst := some 8, op := Op.load 3 (Operand.tmp 7), type := 3, pos := "wage.go:71", after := #[{ on := 1, ground := Ground.data }], guard := none }) (v := ?_) rfl (by kernel_rfl) (by kernel_rfl) (by kernel_rfl) (fun _ _ _ h => h) (Or.inl ⟨by rfl, ?_⟩) (by assumption) ?_
  rotate_left
  · (intro w9 hSw; (try dsimp only at hSw); (go_split_ands; go_simp); (try with_reducible rfl))
  try simp only [Act.put, List.setIfInBounds_toArray, List.set_cons_zero, List.set_cons_succ]
  refine wpAnyH_take (i := 4) (oi := { dst := some 10, op := Op.move (Operand.tmp 5), type := 106, pos := "wage.go:71", after := #[], guard := none }) (v := ?_) rfl (by kernel_rfl) (by kernel_rfl) (by kernel_rfl) (fun _ _ _ h => h) (Or.inl ⟨by rfl, ?_⟩) (by assumption) ?_
  rotate_left
  · (intro w9 hSw; (try dsimp only at hSw); (go_split_ands; go_simp); (try with_reducible rfl))
  try simp only [Act.put, List.setIfInBounds_toArray, List.set_cons_zero, List.set_cons_succ]
  refine wpAnyH_take (i := 5) (oi := { dst := some 11, op := Op.fieldAddr 93 (Operand.tmp 2) 1, type := 0, pos := "wage.go:71", after := #[], guard := none }) (v := ?_) rfl (by kernel_rfl) (by kernel_rfl) (by kernel_rfl) (fun _ _ _ h => h) (Or.inl ⟨by rfl, ?_⟩) (by assumption) ?_
  rotate_left
  · (intro w9 hSw; (try dsimp only at hSw); (go_split_ands; go_simp); (try with_reducible rfl))
  try simp only [Act.put, List.setIfInBounds_toArray, List.set_cons_zero, List.set_cons_succ]
  refine wpAnyH_take (i := 6) (oi := { dst := some 12, op := Op.load 3 (Operand.tmp 11), type := 3, pos := "wage.go:71", after := #[{ on := 5, ground := Ground.data }], guard := none }) (v := ?_) rfl (by kernel_rfl) (by kernel_rfl) (by kernel_rfl) (fun _ _ _ h => h) (Or.inl ⟨by rfl, ?_⟩) (by assumption) ?_
  rotate_left
  · (intro w9 hSw; (try dsimp only at hSw); (go_split_ands; go_simp); (try with_reducible rfl))
  try simp only [Act.put, List.setIfInBounds_toArray, List.set_cons_zero, List.set_cons_succ]
  refine wpAnyH_take (i := 8) (oi := { dst := some 14, op := Op.move (Operand.tmp 5), type := 106, pos := "wage.go:71", after := #[], guard := none }) (v := ?_) rfl (by kernel_rfl) (by kernel_rfl) (by kernel_rfl) (fun _ _ _ h => h) (Or.inl ⟨by rfl, ?_⟩) (by assumption) ?_
  rotate_left
  · (intro w9 hSw; (try dsimp only at hSw); (go_split_ands; go_simp); (try with_reducible rfl))
  try simp only [Act.put, List.setIfInBounds_toArray, List.set_cons_zero, List.set_cons_succ]
  refine wpAnyH_take (i := 9) (oi := { dst := some 15, op := Op.fieldAddr 93 (Operand.tmp 2) 2, type := 0, pos := "wage.go:71", after := #[], guard := none }) (v := ?_) rfl (by kernel_rfl) (by kernel_rfl) (by kernel_rfl) (fun _ _ _ h => h) (Or.inl ⟨by rfl, ?_⟩) (by assumption) ?_
  rotate_left
  · (intro w9 hSw; (try dsimp only at hSw); (go_split_ands; go_simp); (try with_reducible rfl))
  try simp only [Act.put, List.setIfInBounds_toArray, List.set_cons_zero, List.set_cons_succ]
  refine wpAnyH_take (i := 10) (oi := { dst := some 16, op := Op.load 3 (Operand.tmp 15), type := 3, pos := "wage.go:71", after := #[{ on := 9, ground := Ground.data }], guard := none }) (v := ?_) rfl (by kernel_rfl) (by kernel_rfl) (by kernel_rfl) (fun _ _ _ h => h) (Or.inl ⟨by rfl, ?_⟩) (by assumption) ?_
  rotate_left
  · (intro w9 hSw; (try dsimp only at hSw); (go_split_ands; go_simp); (try with_reducible rfl))
  try simp only [Act.put, List.setIfInBounds_toArray, List.set_cons_zero, List.set_cons_succ]
  refine wpAnyH_ready (rs := [3]) (by kernel_rfl) (by simp) ?_
  refine AllReadyH.cons (o := { dst := some 9, op := Op.call { callee := Callee.value (Operand.tmp 6), args := #[Operand.tmp 8], argTypes := #[3] }, type := 29, pos := "wage.go:71", after := #[{ on := 0, ground := Ground.data }, { on := 2, ground := Ground.data }], guard := none }) rfl (fun K hK => ?_) AllReadyH.nil
  go_simp
  refine (one_any _ _).mono ?_; rintro e w1 ⟨rfl, hb1⟩; have X1 := Lib.hid (X0.out.grow hb1); have Y1 := Lib.hid (Y0.out.grow hb1); have Z1 := Lib.hid (Z0.out.grow hb1); have B1 := Lib.hid (B0.out.trans (hb1.mono B0.out.size)); clear hb1
  go_wp2_with fail
  refine hK.out _ _ ?_ (fun hHeld => ?_)
  · exact ⟨cellAt X1.out 0, cellAt X1.out 1, cellAt X1.out 2⟩
  clear hK K
  try simp only [Act.put, List.setIfInBounds_toArray, List.set_cons_zero, List.set_cons_succ]
  refine wpAnyH_take (i := 12) (oi := { dst := some 18, op := Op.fieldAddr 58 (Operand.tmp 3) 2, type := 0, pos := "wage.go:71", after := #[{ on := 0, ground := Ground.phase }, { on := 1, ground := Ground.phase }, { on := 2, ground := Ground.phase }, { on := 3, ground := Ground.phase }, { on := 4, ground := Ground.textOnly Departure.lateStores }, { on := 5, ground := Ground.textOnly Departure.lateStores }, { on := 6, ground := Ground.textOnly Departure.lateStores }, { on := 7, ground := Ground.textOnly Departure.lateStoresUnsure }, { on := 8, ground := Ground.textOnly Departure.lateStores }, { on := 9, ground := Ground.textOnly Departure.lateStores }, { on := 10, ground := Ground.textOnly Departure.lateStores }, { on := 11, ground := Ground.textOnly Departure.lateStoresUnsure }], guard := none }) (v := ?_) rfl (by kernel_rfl) (by kernel_rfl) (by kernel_rfl) (fun _ _ _ h => h) (Or.inl ⟨by rfl, ?_⟩) (by assumption) ?_
  rotate_left
  · (intro w9 hSw; (try dsimp only at hSw); (go_split_ands; go_simp); (try with_reducible rfl))
  try simp only [Act.put, List.setIfInBounds_toArray, List.set_cons_zero, List.set_cons_succ]
  refine wpAnyH_ready (rs := [7]) (by kernel_rfl) (by simp) ?_
  refine AllReadyH.cons (o := { dst := some 13, op := Op.call { callee := Callee.value (Operand.tmp 10), args := #[Operand.tmp 12], argTypes := #[3] }, type := 29, pos := "wage.go:71", after := #[{ on := 4, ground := Ground.data }, { on := 6, ground := Ground.data }, { on := 3, ground := Ground.chain }], guard := none }) rfl (fun K hK => ?_) AllReadyH.nil
  go_simp
  refine (one_any _ _).mono ?_; rintro e w2 ⟨rfl, hb2⟩; have X2 := Lib.hid (X1.out.grow hb2); have Y2 := Lib.hid (Y1.out.grow hb2); have Z2 := Lib.hid (Z1.out.grow hb2); have B2 := Lib.hid (B1.out.trans (hb2.mono B1.out.size)); clear hb2
  go_wp2_with fail
  refine hK.out _ _ ?_ (fun hHeld => ?_)
  · exact ⟨cellAt X2.out 0, cellAt X2.out 1, cellAt X2.out 2⟩
  clear hK K
  try simp only [Act.put, List.setIfInBounds_toArray, List.set_cons_zero, List.set_cons_succ]
  refine wpAnyH_ready (rs := [11]) (by kernel_rfl) (by simp) ?_
  refine AllReadyH.cons (o := { dst := some 17, op := Op.call { callee := Callee.value (Operand.tmp 14), args := #[Operand.tmp 16], argTypes := #[3] }, type := 29, pos := "wage.go:71", after := #[{ on := 8, ground := Ground.data }, { on := 10, ground := Ground.data }, { on := 7, ground := Ground.chain }], guard := none }) rfl (fun K hK => ?_) AllReadyH.nil
  go_simp
  refine (one_any _ _).mono ?_; rintro e w3 ⟨rfl, hb3⟩; have X3 := Lib.hid (X2.out.grow hb3); have Y3 := Lib.hid (Y2.out.grow hb3); have Z3 := Lib.hid (Z2.out.grow hb3); have B3 := Lib.hid (B2.out.trans (hb3.mono B2.out.size)); clear hb3
  go_wp2_with fail
  refine hK.out _ _ ?_ (fun hHeld => ?_)
  · exact ⟨cellAt X3.out 0, cellAt X3.out 1, cellAt X3.out 2⟩
  clear hK K
  try simp only [Act.put, List.setIfInBounds_toArray, List.set_cons_zero, List.set_cons_succ]
  have r0 := cellAt Y3.out 0
  have r1 := cellAt Y3.out 1
  have r2 := cellAt Y3.out 2
  have r3 := cellAt Y3.out 3
  have r4 := cellAt Y3.out 4
  have r5 := cellAt Y3.out 5
  have r6 := cellAt Y3.out 6
  have r7 := cellAt Y3.out 7
  have f0 := freeAt Y3.out 0
  have f1 := freeAt Y3.out 1
  have f2 := freeAt Y3.out 2
  have f3 := freeAt Y3.out 3
  have f4 := freeAt Y3.out 4
  have f5 := freeAt Y3.out 5
  have f6 := freeAt Y3.out 6
  have f7 := freeAt Y3.out 7
  refine wpAnyH_ready (rs := [13]) (by kernel_rfl) (by simp) ?_
  refine AllReadyH.cons (o := { dst := none, op := Op.store 29 (Operand.tmp 18) (Operand.tmp 9), type := 0, pos := "wage.go:71", after := #[{ on := 12, ground := Ground.data }, { on := 3, ground := Ground.data }, { on := 11, ground := Ground.chain }, { on := 0, ground := Ground.phase }, { on := 1, ground := Ground.phase }, { on := 2, ground := Ground.phase }, { on := 3, ground := Ground.phase }, { on := 4, ground := Ground.textOnly Departure.lateStores }, { on := 5, ground := Ground.textOnly Departure.lateStores }, { on := 6, ground := Ground.textOnly Departure.lateStores }, { on := 7, ground := Ground.textOnly Departure.lateStoresUnsure }, { on := 8, ground := Ground.textOnly Departure.lateStores }, { on := 9, ground := Ground.textOnly Departure.lateStores }, { on := 10, ground := Ground.textOnly Departure.lateStores }, { on := 11, ground := Ground.textOnly Departure.lateStoresUnsure }], guard := none }) rfl (fun K hK => ?_) AllReadyH.nil
  go_simp
  skip
  go_wp2_with fail
  refine hK.out _ _ ?_ (fun hHeld => ?_)
  · exact ⟨cellAt (BoxAt.set (BoxAt.set (X3.out) _ _ (by simp)) _ _ (by simp)) 0, cellAt (BoxAt.set (BoxAt.set (X3.out) _ _ (by simp)) _ _ (by simp)) 1, cellAt (BoxAt.set (BoxAt.set (X3.out) _ _ (by simp)) _ _ (by simp)) 2⟩
  clear hK K
  try simp only [Act.put, List.setIfInBounds_toArray, List.set_cons_zero, List.set_cons_succ]
  refine wpAnyH_take (i := 14) (oi := { dst := some 19, op := Op.fieldAddr 58 (Operand.tmp 3) 3, type := 0, pos := "wage.go:71", after := #[{ on := 0, ground := Ground.phase }, { on := 1, ground := Ground.phase }, { on := 2, ground := Ground.phase }, { on := 3, ground := Ground.phase }, { on := 4, ground := Ground.phase }, { on := 5, ground := Ground.phase }, { on := 6, ground := Ground.phase }, { on := 7, ground := Ground.phase }, { on := 8, ground := Ground.textOnly Departure.lateStores }, { on := 9, ground := Ground.textOnly Departure.lateStores }, { on := 10, ground := Ground.textOnly Departure.lateStores }, { on := 11, ground := Ground.textOnly Departure.lateStoresUnsure }, { on := 12, ground := Ground.phase }, { on := 13, ground := Ground.phase }], guard := none }) (v := ?_) rfl (by kernel_rfl) (by kernel_rfl) (by kernel_rfl) (fun _ _ _ h => h) (Or.inl ⟨by rfl, ?_⟩) (by assumption) ?_
  rotate_left
  · (intro w9 hSw; (try dsimp only at hSw); (go_split_ands; go_simp); (try with_reducible rfl))
  try simp only [Act.put, List.setIfInBounds_toArray, List.set_cons_zero, List.set_cons_succ]
  refine wpAnyH_ready (rs := [15]) (by kernel_rfl) (by simp) ?_
  refine AllReadyH.cons (o := { dst := none, op := Op.store 29 (Operand.tmp 19) (Operand.tmp 13), type := 0, pos := "wage.go:71", after := #[{ on := 14, ground := Ground.data }, { on := 7, ground := Ground.data }, { on := 13, ground := Ground.chain }, { on := 0, ground := Ground.phase }, { on := 1, ground := Ground.phase }, { on := 2, ground := Ground.phase }, { on := 3, ground := Ground.phase }, { on := 4, ground := Ground.phase }, { on := 5, ground := Ground.phase }, { on := 6, ground := Ground.phase }, { on := 7, ground := Ground.phase }, { on := 8, ground := Ground.textOnly Departure.lateStores }, { on := 9, ground := Ground.textOnly Departure.lateStores }, { on := 10, ground := Ground.textOnly Departure.lateStores }, { on := 11, ground := Ground.textOnly Departure.lateStoresUnsure }, { on := 12, ground := Ground.phase }, { on := 13, ground := Ground.phase }], guard := none }) rfl (fun K hK => ?_) AllReadyH.nil
  go_simp
  skip
  go_wp2_with fail
  refine hK.out _ _ ?_ (fun hHeld => ?_)
  · exact ⟨cellAt (BoxAt.set (BoxAt.set ((BoxAt.set (BoxAt.set (X3.out) _ _ (by simp)) _ _ (by simp))) _ _ (by simp)) _ _ (by simp)) 0, cellAt (BoxAt.set (BoxAt.set ((BoxAt.set (BoxAt.set (X3.out) _ _ (by simp)) _ _ (by simp))) _ _ (by simp)) _ _ (by simp)) 1, cellAt (BoxAt.set (BoxAt.set ((BoxAt.set (BoxAt.set (X3.out) _ _ (by simp)) _ _ (by simp))) _ _ (by simp)) _ _ (by simp)) 2⟩
  clear hK K
  try simp only [Act.put, List.setIfInBounds_toArray, List.set_cons_zero, List.set_cons_succ]
  refine wpAnyH_take (i := 16) (oi := { dst := some 20, op := Op.fieldAddr 58 (Operand.tmp 3) 4, type := 0, pos := "wage.go:71", after := #[{ on := 0, ground := Ground.phase }, { on := 1, ground := Ground.phase }, { on := 2, ground := Ground.phase }, { on := 3, ground := Ground.phase }, { on := 4, ground := Ground.phase }, { on := 5, ground := Ground.phase }, { on := 6, ground := Ground.phase }, { on := 7, ground := Ground.phase }, { on := 8, ground := Ground.phase }, { on := 9, ground := Ground.phase }, { on := 10, ground := Ground.phase }, { on := 11, ground := Ground.phase }, { on := 12, ground := Ground.phase }, { on := 13, ground := Ground.phase }, { on := 14, ground := Ground.phase }, { on := 15, ground := Ground.phase }], guard := none }) (v := ?_) rfl (by kernel_rfl) (by kernel_rfl) (by kernel_rfl) (fun _ _ _ h => h) (Or.inl ⟨by rfl, ?_⟩) (by assumption) ?_
  rotate_left
  · (intro w9 hSw; (try dsimp only at hSw); (go_split_ands; go_simp); (try with_reducible rfl))
  try simp only [Act.put, List.setIfInBounds_toArray, List.set_cons_zero, List.set_cons_succ]
  refine wpAnyH_ready (rs := [17]) (by kernel_rfl) (by simp) ?_
  refine AllReadyH.cons (o := { dst := none, op := Op.store 29 (Operand.tmp 20) (Operand.tmp 17), type := 0, pos := "wage.go:71", after := #[{ on := 16, ground := Ground.data }, { on := 11, ground := Ground.data }, { on := 15, ground := Ground.chain }, { on := 0, ground := Ground.phase }, { on := 1, ground := Ground.phase }, { on := 2, ground := Ground.phase }, { on := 3, ground := Ground.phase }, { on := 4, ground := Ground.phase }, { on := 5, ground := Ground.phase }, { on := 6, ground := Ground.phase }, { on := 7, ground := Ground.phase }, { on := 8, ground := Ground.phase }, { on := 9, ground := Ground.phase }, { on := 10, ground := Ground.phase }, { on := 11, ground := Ground.phase }, { on := 12, ground := Ground.phase }, { on := 13, ground := Ground.phase }, { on := 14, ground := Ground.phase }, { on := 15, ground := Ground.phase }], guard := none }) rfl (fun K hK => ?_) AllReadyH.nil
  go_simp
  skip
  go_wp2_with fail
  refine hK.out _ _ ?_ (fun hHeld => ?_)
  · exact ⟨cellAt (BoxAt.set (BoxAt.set ((BoxAt.set (BoxAt.set ((BoxAt.set (BoxAt.set (X3.out) _ _ (by simp)) _ _ (by simp))) _ _ (by simp)) _ _ (by simp))) _ _ (by simp)) _ _ (by simp)) 0, cellAt (BoxAt.set (BoxAt.set ((BoxAt.set (BoxAt.set ((BoxAt.set (BoxAt.set (X3.out) _ _ (by simp)) _ _ (by simp))) _ _ (by simp)) _ _ (by simp))) _ _ (by simp)) _ _ (by simp)) 1, cellAt (BoxAt.set (BoxAt.set ((BoxAt.set (BoxAt.set ((BoxAt.set (BoxAt.set (X3.out) _ _ (by simp)) _ _ (by simp))) _ _ (by simp)) _ _ (by simp))) _ _ (by simp)) _ _ (by simp)) 2⟩
  clear hK K
  try simp only [Act.put, List.setIfInBounds_toArray, List.set_cons_zero, List.set_cons_succ]
  refine wpAnyH_done (by kernel_rfl) ?_ _
  generalize hW7 : World.setCell _ _ _ = W7
  have RY : BoxAt W7 (w.heap.size + 1) #[.int .i64 cr, .int .i64 se, .int .i64 fr, .int .i64 fr, .int .i64 to, .int .i64 to, .int .i64 td, .int .i64 td] 58 := by
    rw [← hW7]
    exact (((((Y3.out.store 2 _).store 3 _).store 4 _).store 5 _).store 6 _).store 7 _
  have RZ : BoxAt W7 (w.heap.size + 1 + 1) #[.int .i64 0, .int .i64 0, .int .i64 0, .int .i64 0, .int .i64 0, .int .i64 0, .int .i64 0, .int .i64 0] 58 := by
    rw [← hW7]
    exact (((((Z3.out.set _ _ (by simp)).set _ _ (by simp)).set _ _ (by simp)).set _ _ (by simp)).set _ _ (by simp)).set _ _ (by simp)
  have RB : Below w.heap.size w W7 := by
    rw [← hW7]
    exact (((((B3.out.setCell (by simp) _).setCell (by simp) _).setCell (by simp) _).setCell (by simp) _).setCell (by simp) _).setCell (by simp) _
  have HRB := Lib.hid RB
  clear hW7 hHeld RB X0 X1 X2 X3 Y0 Y1 Y2 Y3 Z0 Z1 Z2 Z3 B0 B1 B2 B3 r0 r1 r2 r3 r4 r5 r6 r7 f0 f1 f2 f3 f4 f5 f6 f7
  have r0 := cellAt RY 0
  have r1 := cellAt RY 1
  have r2 := cellAt RY 2
  have r3 := cellAt RY 3
  have r4 := cellAt RY 4
  have r5 := cellAt RY 5
  have r6 := cellAt RY 6
  have r7 := cellAt RY 7
  have f0 := freeAt RZ 0
  have f1 := freeAt RZ 1
  have f2 := freeAt RZ 2
  have f3 := freeAt RZ 3
  have f4 := freeAt RZ 4
  have f5 := freeAt RZ 5
  have f6 := freeAt RZ 6
  have f7 := freeAt RZ 7
  have z0 := cellAt RZ 0
  have z1 := cellAt RZ 1
  have z2 := cellAt RZ 2
  have z3 := cellAt RZ 3
  have z4 := cellAt RZ 4
  have z5 := cellAt RZ 5
  have z6 := cellAt RZ 6
  have z7 := cellAt RZ 7
  simp only [List.getElem?_toArray, List.getElem?_cons_zero, List.getElem?_cons_succ] at r0 r1 r2 r3 r4 r5 r6 r7 z0 z1 z2 z3 z4 z5 z6 z7
  clear RY RZ
  go_wp2_with fail
  refine bodyPost_ret (v := .agg #[.int .i64 cr, .int .i64 se, .int .i64 fr, .int .i64 fr, .int .i64 to, .int .i64 to, .int .i64 td, .int .i64 td]) (by simp [results, Try.results81, go_sem, z0, z1, z2, z3, z4, z5, z6, z7]) rfl ⟨rfl, ?_⟩
  exact (((((((HRB.out.setCell (by simp; omega) _).setCell (by simp; omega) _).setCell (by simp; omega) _).setCell (by simp; omega) _).setCell (by simp; omega) _).setCell (by simp; omega) _).setCell (by simp; omega) _).setCell (by simp; omega) _
end Go.Proofs.Ytbpeamppkdmdcaa
