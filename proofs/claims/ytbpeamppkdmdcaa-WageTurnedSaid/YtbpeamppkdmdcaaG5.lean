/-
  Walks: what else 'Exact' asks of wages.
  Walks: the exported functions: what is due by tickets that are known.
-/
import Derived.Test.YtbpeamppkdmdcaaG4

namespace Go.Proofs.Ytbpeamppkdmdcaa
open Go.RowKit

def exOk (T : Nat → Tk) (f g h : Nat → Int) (i : Nat) : Bool := inB (f i) (T i).fl (T i).fh && inB (g i) (T i).tl (T i).th && inB (h i) (T i).dl (T i).dh
def exB (fn gn hn tn : Nat) (T : Nat → Tk) (f g h : Nat → Int) : Bool := decide (fn = tn) && decide (gn = tn) && decide (hn = tn) && (List.range tn).all (exOk T f g h)

structure E1 (w : World) (b1 b2 b3 : Nat) (cr : Int) (sa ta : Option Addr) (sn sc tn tc : Nat) (T : Nat → Tk) (fa ga ha : Option Addr) (fn fc gn gc hn hc : Nat) (f g h : Nat → Int) (w' : World) : Prop where
  bel : Below w.heap.size w w'
  bx : BoxAt w' w.heap.size #[.int .i64 cr, .slice sa sn sc, .slice ta tn tc] 77
  x1 : BoxAt w' b1 #[.slice fa fn fc] 37
  x2 : BoxAt w' b2 #[.slice ga gn gc] 37
  x3 : BoxAt w' b3 #[.slice ha hn hc] 37
  tk : TicketsAt w' ta tn T
  l1 : IntsAt w' fa fn f
  l2 : IntsAt w' ga gn g
  l3 : IntsAt w' ha hn h
theorem E1.grow {w : World} {b1 b2 b3 : Nat} {cr : Int} {sa ta : Option Addr} {sn sc tn tc : Nat} {T : Nat → Tk} {fa ga ha : Option Addr} {fn fc gn gc hn hc : Nat} {f g h : Nat → Int} {w1 w2 : World} (H : E1 w b1 b2 b3 cr sa ta sn sc tn tc T fa ga ha fn fc gn gc hn hc f g h w1) (hb : Below w1.heap.size w1 w2) : E1 w b1 b2 b3 cr sa ta sn sc tn tc T fa ga ha fn fc gn gc hn hc f g h w2 :=
  ⟨H.bel.trans (hb.mono (Nat.le_of_lt (lt_of_heap H.bx))), H.bx.grow hb, H.x1.grow hb, H.x2.grow hb, H.x3.grow hb, H.tk.grow hb, H.l1.grow hb, H.l2.grow hb, H.l3.grow hb⟩

def ER (w : World) (b1 b2 b3 : Nat) (cr : Int) (sa ta : Option Addr) (sn sc tn tc : Nat) (T : Nat → Tk) (fa ga ha : Option Addr) (fn fc gn gc hn hc : Nat) (f g h : Nat → Int) (i : Value) (wr : World) : Prop :=
  ∃ k : Nat, k ≤ tn ∧ i = .int .i64 k ∧ (∀ j, j < k → exOk T f g h j = true) ∧ E1 w b1 b2 b3 cr sa ta sn sc tn tc T fa ga ha fn fc gn gc hn hc f g h wr

theorem E1.cells {w : World} {b1 b2 b3 : Nat} {cr : Int} {sa ta : Option Addr} {sn sc tn tc : Nat} {T : Nat → Tk} {fa ga ha : Option Addr} {fc gc hc : Nat} {f g h : Nat → Int} {w' : World} {k tb : Nat} (H : E1 w b1 b2 b3 cr sa ta sn sc tn tc T fa ga ha tn fc tn gc tn hc f g h w') (hk : k < tn) (ht : BoxAt w' tb #[.int .i64 (T k).crew, .int .i64 (T k).seam, .int .i64 (T k).fl, .int .i64 (T k).fh, .int .i64 (T k).tl, .int .i64 (T k).th, .int .i64 (T k).dl, .int .i64 (T k).dh] 58) :
    (w'.cell? ⟨b1, 0, none⟩ = some (.slice fa tn fc) ∧ w'.cell? ⟨b2, 0, none⟩ = some (.slice ga tn gc) ∧ w'.cell? ⟨b3, 0, none⟩ = some (.slice ha tn hc) ∧ w'.cell? ⟨blk fa, ofs fa + k, none⟩ = some (.int .i64 (f k)) ∧ w'.cell? ⟨blk ga, ofs ga + k, none⟩ = some (.int .i64 (g k)) ∧ w'.cell? ⟨blk ha, ofs ha + k, none⟩ = some (.int .i64 (h k)) ∧ w'.cell? ⟨tb, 2, none⟩ = some (.int .i64 (T k).fl) ∧ w'.cell? ⟨tb, 3, none⟩ = some (.int .i64 (T k).fh) ∧ w'.cell? ⟨tb, 4, none⟩ = some (.int .i64 (T k).tl) ∧ w'.cell? ⟨tb, 5, none⟩ = some (.int .i64 (T k).th) ∧ w'.cell? ⟨tb, 6, none⟩ = some (.int .i64 (T k).dl) ∧ w'.cell? ⟨tb, 7, none⟩ = some (.int .i64 (T k).dh)) :=
  ⟨cellAt H.x1 0, cellAt H.x2 0, cellAt H.x3 0, H.l1.at hk, H.l2.at hk, H.l3.at hk, cellAt ht 2, cellAt ht 3, cellAt ht 4, cellAt ht 5, cellAt ht 6, cellAt ht 7⟩
theorem all_no {p : Nat → Bool} {n k : Nat} (hk : k < n) (hp : p k = false) : (List.range n).all p = false := by
  rw [List.all_eq_false]
  exact ⟨k, by simpa using hk, by simp [hp]⟩

set_option maxRecDepth 100000 in
set_option maxHeartbeats 4000000 in
theorem exact1_any (cr : Int) (sa ta : Option Addr) (sn sc tn tc : Nat) (T : Nat → Tk) (fa ga ha : Option Addr) (fn fc gn gc hn hc : Nat) (f g h : Nat → Int) (b1 b2 b3 : Nat) (w : World) (ht : tn ≤ 6)
    (hT : TicketsAt w ta tn T) (hf : IntsAt w fa fn f) (hg : IntsAt w ga gn g) (hh : IntsAt w ha hn h) (x1 : BoxAt w b1 #[.slice fa fn fc] 37) (x2 : BoxAt w b2 #[.slice ga gn gc] 37) (x3 : BoxAt w b3 #[.slice ha hn hc] 37) :
    Calls Try.prog 73 #[.agg #[.int .i64 cr, .slice sa sn sc, .slice ta tn tc], bp b1, bp b2, bp b3] w fun e w' => e = .returned (.bool (exB fn gn hn tn T f g h)) ∧ Below w.heap.size w w' := by
  have ft : fn ≤ maxLen := hf.small
  have gt : gn ≤ maxLen := hg.small
  have hht : hn ≤ maxLen := hh.small
  unfold maxLen at ft gt hht
  have H0 := Lib.hid (fun W (hB : Below w.heap.size w W) (q0 : BoxAt W w.heap.size #[.int .i64 cr, .slice sa sn sc, .slice ta tn tc] 77) => (show E1 w b1 b2 b3 cr sa ta sn sc tn tc T fa ga ha fn fc gn gc hn hc f g h W from ⟨hB, q0, x1.grow hB, x2.grow hB, x3.grow hB, hT.grow hB, hf.grow hB, hg.grow hB, hh.grow hB⟩))
  clear hT hf hg hh x1 x2 x3
  have I0 := Lib.hid (H0.out (w.alloc (.cells #[.int .i64 cr, .slice sa sn sc, .slice ta tn tc] 77)) ((Below.refl _ _).alloc (Nat.le_refl _) _) (blocks1 rfl).1)
  have b0 := cellAt I0.out.x1 0
  have b1' := cellAt I0.out.x2 0
  have b2' := cellAt I0.out.x3 0
  have b4 := cellAt I0.out.bx 2
  have l1 := lt_of_heap I0.out.x1
  have l2 := lt_of_heap I0.out.x2
  have l3 := lt_of_heap I0.out.x3
  simp only [List.getElem?_toArray, List.getElem?_cons_zero, List.getElem?_cons_succ] at b0 b1' b2' b4
  by_cases e1 : fn = tn
  · by_cases e2 : gn = tn
    · by_cases e3 : hn = tn
      · replace e1 := e1.symm; subst e1
        replace e2 := e2.symm; subst e2
        replace e3 := e3.symm; subst e3
        go_enter Try.func73, Try.ntmps73
        go_wp2_with fail
        obtain ⟨W, hW⟩ : ∃ W, W = w.alloc (.cells #[.int .i64 cr, .slice sa sn sc, .slice ta tn tc] 77) := ⟨_, rfl⟩
        rw [← hW] at I0 ⊢
        clear hW b0 b1' b2' b4 l1 l2 l3 H0
        go_loopw [33] (ER w b1 b2 b3 cr sa ta sn sc tn tc T fa ga ha tn fc tn gc tn hc f g h) (fun i _ => tn - (intOf i).toNat)
        case atStart => exact ⟨0, Nat.zero_le _, rfl, fun j hj => by omega, I0.out⟩
        case round =>
          clear I0
          obtain ⟨k, hk, rfl, hok, hinv⟩ := hrel
          have HI := Lib.hid hinv
          have HO := Lib.hid hok
          clear hinv hok
          by_cases hlt : k < tn
          · have hi := fun w => run_indexAt_row (w := w) (cap := tc) Try.underlying23 size58 (HI.out.tk.plain (by omega)) hlt
            have hi1 := fun w => run_indexAt_row (w := w) (cap := fc) Try.underlying37 size3 (HI.out.l1.plain (by omega)) hlt
            have hi2 := fun w => run_indexAt_row (w := w) (cap := gc) Try.underlying37 size3 (HI.out.l2.plain (by omega)) hlt
            have hi3 := fun w => run_indexAt_row (w := w) (cap := hc) Try.underlying37 size3 (HI.out.l3.plain (by omega)) hlt
            simp only [Nat.mul_one] at hi1 hi2 hi3
            obtain ⟨g0, g1, g2, g3, g4, g5, g6, g7⟩ := HI.out.tk.at hlt
            have E0 := Lib.hid (fun W2 (h0 : BoxAt W2 wr.heap.size #[.int .i64 (T k).crew, .int .i64 (T k).seam, .int .i64 (T k).fl, .int .i64 (T k).fh, .int .i64 (T k).tl, .int .i64 (T k).th, .int .i64 (T k).dl, .int .i64 (T k).dh] 58) (hb : Below wr.heap.size wr W2) => (show (W2.cell? ⟨b1, 0, none⟩ = some (.slice fa tn fc) ∧ W2.cell? ⟨b2, 0, none⟩ = some (.slice ga tn gc) ∧ W2.cell? ⟨b3, 0, none⟩ = some (.slice ha tn hc) ∧ W2.cell? ⟨blk fa, ofs fa + k, none⟩ = some (.int .i64 (f k)) ∧ W2.cell? ⟨blk ga, ofs ga + k, none⟩ = some (.int .i64 (g k)) ∧ W2.cell? ⟨blk ha, ofs ha + k, none⟩ = some (.int .i64 (h k)) ∧ W2.cell? ⟨wr.heap.size, 2, none⟩ = some (.int .i64 (T k).fl) ∧ W2.cell? ⟨wr.heap.size, 3, none⟩ = some (.int .i64 (T k).fh) ∧ W2.cell? ⟨wr.heap.size, 4, none⟩ = some (.int .i64 (T k).tl) ∧ W2.cell? ⟨wr.heap.size, 5, none⟩ = some (.int .i64 (T k).th) ∧ W2.cell? ⟨wr.heap.size, 6, none⟩ = some (.int .i64 (T k).dl) ∧ W2.cell? ⟨wr.heap.size, 7, none⟩ = some (.int .i64 (T k).dh)) from E1.cells (HI.out.grow hb) hlt h0))
            go_wp2_with fail
            generalize hW : World.alloc _ _ = W2
            obtain ⟨q0, hz, hB⟩ := blocks1 hW
            have HB := Lib.hid hB
            have D0 := Lib.hid (E0.out W2.drew (BoxAt.grow (t := 58) q0 (Below.drew (Below.refl _ _))) hB.drew)
            clear hW q0 hz hB g0 g1 g2 g3 g4 g5 g6 g7
            have hc1 : inB (f k) (T k).fl (T k).fh = true ∨ inB (f k) (T k).fl (T k).fh = false := by cases inB (f k) (T k).fl (T k).fh <;> simp
            have hc2 : inB (g k) (T k).tl (T k).th = true ∨ inB (g k) (T k).tl (T k).th = false := by cases inB (g k) (T k).tl (T k).th <;> simp
            have hc3 : inB (h k) (T k).dl (T k).dh = true ∨ inB (h k) (T k).dl (T k).dh = false := by cases inB (h k) (T k).dl (T k).dh <;> simp
            rcases hc1 with c1 | c1
            · rcases hc2 with c2 | c2
              · rcases hc3 with c3 | c3
                · refine wp_region_held_drew (S := (fun w' => (w'.cell? ⟨b1, 0, none⟩ = some (.slice fa tn fc) ∧ w'.cell? ⟨b2, 0, none⟩ = some (.slice ga tn gc) ∧ w'.cell? ⟨b3, 0, none⟩ = some (.slice ha tn hc) ∧ w'.cell? ⟨blk fa, ofs fa + k, none⟩ = some (.int .i64 (f k)) ∧ w'.cell? ⟨blk ga, ofs ga + k, none⟩ = some (.int .i64 (g k)) ∧ w'.cell? ⟨blk ha, ofs ha + k, none⟩ = some (.int .i64 (h k)) ∧ w'.cell? ⟨wr.heap.size, 2, none⟩ = some (.int .i64 (T k).fl) ∧ w'.cell? ⟨wr.heap.size, 3, none⟩ = some (.int .i64 (T k).fh) ∧ w'.cell? ⟨wr.heap.size, 4, none⟩ = some (.int .i64 (T k).tl) ∧ w'.cell? ⟨wr.heap.size, 5, none⟩ = some (.int .i64 (T k).th) ∧ w'.cell? ⟨wr.heap.size, 6, none⟩ = some (.int .i64 (T k).dl) ∧ w'.cell? ⟨wr.heap.size, 7, none⟩ = some (.int .i64 (T k).dh)))) (by kernel_rfl) D0.out (fun hHeld => ?_)
                  refine wpAnyH_take (i := 0) (oi := { dst := some 38, op := Op.load 37 (Operand.tmp 1), type := 37, pos := "wage.go:260", after := #[], guard := none }) (v := ?_) rfl (by kernel_rfl) (by kernel_rfl) (by kernel_rfl) (fun _ _ _ h => h) (Or.inl ⟨by rfl, ?_⟩) (by assumption) ?_
                  rotate_left
                  · (intro w9 hSw; (try dsimp only at hSw); (go_split_ands; go_simp); (try with_reducible rfl))
                  try simp only [Act.put, List.setIfInBounds_toArray, List.set_cons_zero, List.set_cons_succ]
                  refine wpAnyH_take (i := 1) (oi := { dst := some 39, op := Op.move (Operand.tmp 7), type := 3, pos := "wage.go:260", after := #[], guard := none }) (v := ?_) rfl (by kernel_rfl) (by kernel_rfl) (by kernel_rfl) (fun _ _ _ h => h) (Or.inl ⟨by rfl, ?_⟩) (by assumption) ?_
                  rotate_left
                  · (intro w9 hSw; (try dsimp only at hSw); (go_split_ands; go_simp); (try with_reducible rfl))
                  try simp only [Act.put, List.setIfInBounds_toArray, List.set_cons_zero, List.set_cons_succ]
                  refine wpAnyH_take (i := 2) (oi := { dst := some 40, op := Op.indexAddr 37 (Operand.tmp 38) (Operand.tmp 39), type := 0, pos := "wage.go:260", after := #[{ on := 0, ground := Ground.data }, { on := 1, ground := Ground.data }], guard := none }) (v := ?_) rfl (by kernel_rfl) (by kernel_rfl) (by kernel_rfl) (fun _ _ _ h => h) (Or.inl ⟨by rfl, ?_⟩) (by assumption) ?_
                  rotate_left
                  · (intro w9 hSw; (try dsimp only at hSw); (go_split_ands; go_simp); (try with_reducible rfl))
                  try simp only [Act.put, List.setIfInBounds_toArray, List.set_cons_zero, List.set_cons_succ]
                  refine wpAnyH_take (i := 3) (oi := { dst := some 41, op := Op.load 3 (Operand.tmp 40), type := 3, pos := "wage.go:260", after := #[{ on := 2, ground := Ground.data }], guard := none }) (v := ?_) rfl (by kernel_rfl) (by kernel_rfl) (by kernel_rfl) (fun _ _ _ h => h) (Or.inl ⟨by rfl, ?_⟩) (by assumption) ?_
                  rotate_left
                  · (intro w9 hSw; (try dsimp only at hSw); (go_split_ands; go_simp); (try with_reducible rfl))
                  try simp only [Act.put, List.setIfInBounds_toArray, List.set_cons_zero, List.set_cons_succ]
                  refine wpAnyH_take (i := 4) (oi := { dst := some 42, op := Op.fieldAddr 58 (Operand.tmp 8) 2, type := 0, pos := "wage.go:260", after := #[], guard := none }) (v := ?_) rfl (by kernel_rfl) (by kernel_rfl) (by kernel_rfl) (fun _ _ _ h => h) (Or.inl ⟨by rfl, ?_⟩) (by assumption) ?_
                  rotate_left
                  · (intro w9 hSw; (try dsimp only at hSw); (go_split_ands; go_simp); (try with_reducible rfl))
                  try simp only [Act.put, List.setIfInBounds_toArray, List.set_cons_zero, List.set_cons_succ]
                  refine wpAnyH_take (i := 5) (oi := { dst := some 43, op := Op.fieldAddr 29 (Operand.tmp 42) 0, type := 0, pos := "wage.go:260", after := #[{ on := 4, ground := Ground.data }], guard := none }) (v := ?_) rfl (by kernel_rfl) (by kernel_rfl) (by kernel_rfl) (fun _ _ _ h => h) (Or.inl ⟨by rfl, ?_⟩) (by assumption) ?_
                  rotate_left
                  · (intro w9 hSw; (try dsimp only at hSw); (go_split_ands; go_simp); (try with_reducible rfl))
                  try simp only [Act.put, List.setIfInBounds_toArray, List.set_cons_zero, List.set_cons_succ]
                  refine wpAnyH_take (i := 6) (oi := { dst := some 44, op := Op.load 3 (Operand.tmp 43), type := 3, pos := "wage.go:260", after := #[{ on := 5, ground := Ground.data }], guard := none }) (v := ?_) rfl (by kernel_rfl) (by kernel_rfl) (by kernel_rfl) (fun _ _ _ h => h) (Or.inl ⟨by rfl, ?_⟩) (by assumption) ?_
                  rotate_left
                  · (intro w9 hSw; (try dsimp only at hSw); (go_split_ands; go_simp); (try with_reducible rfl))
                  try simp only [Act.put, List.setIfInBounds_toArray, List.set_cons_zero, List.set_cons_succ]
                  refine wpAnyH_take (i := 7) (oi := { dst := some 45, op := Op.fieldAddr 58 (Operand.tmp 8) 2, type := 0, pos := "wage.go:260", after := #[], guard := none }) (v := ?_) rfl (by kernel_rfl) (by kernel_rfl) (by kernel_rfl) (fun _ _ _ h => h) (Or.inl ⟨by rfl, ?_⟩) (by assumption) ?_
                  rotate_left
                  · (intro w9 hSw; (try dsimp only at hSw); (go_split_ands; go_simp); (try with_reducible rfl))
                  try simp only [Act.put, List.setIfInBounds_toArray, List.set_cons_zero, List.set_cons_succ]
                  refine wpAnyH_take (i := 8) (oi := { dst := some 46, op := Op.fieldAddr 29 (Operand.tmp 45) 1, type := 0, pos := "wage.go:260", after := #[{ on := 7, ground := Ground.data }], guard := none }) (v := ?_) rfl (by kernel_rfl) (by kernel_rfl) (by kernel_rfl) (fun _ _ _ h => h) (Or.inl ⟨by rfl, ?_⟩) (by assumption) ?_
                  rotate_left
                  · (intro w9 hSw; (try dsimp only at hSw); (go_split_ands; go_simp); (try with_reducible rfl))
                  try simp only [Act.put, List.setIfInBounds_toArray, List.set_cons_zero, List.set_cons_succ]
                  refine wpAnyH_take (i := 9) (oi := { dst := some 47, op := Op.load 3 (Operand.tmp 46), type := 3, pos := "wage.go:260", after := #[{ on := 8, ground := Ground.data }], guard := none }) (v := ?_) rfl (by kernel_rfl) (by kernel_rfl) (by kernel_rfl) (fun _ _ _ h => h) (Or.inl ⟨by rfl, ?_⟩) (by assumption) ?_
                  rotate_left
                  · (intro w9 hSw; (try dsimp only at hSw); (go_split_ands; go_simp); (try with_reducible rfl))
                  try simp only [Act.put, List.setIfInBounds_toArray, List.set_cons_zero, List.set_cons_succ]
                  refine wpAnyH_ready (rs := [10]) (by kernel_rfl) (by simp) ?_
                  refine AllReadyH.cons (o := { dst := some 48, op := Op.call { callee := Callee.value (Operand.func 57), args := #[Operand.tmp 41, Operand.tmp 44, Operand.tmp 47], argTypes := #[3, 3, 3] }, type := 4, pos := "wage.go:260", after := #[{ on := 3, ground := Ground.data }, { on := 6, ground := Ground.data }, { on := 9, ground := Ground.data }], guard := none }) rfl (fun K hK => ?_) AllReadyH.nil
                  go_simp
                  go_at_call 57; refine (within_any _ _ _ _).mono ?_; rintro e w3 ⟨rfl, rfl⟩
                  go_wp2_with fail
                  refine hK.out _ _ ?_ (fun hHeld => ?_)
                  · assumption
                  clear hK K
                  try simp only [Act.put, List.setIfInBounds_toArray, List.set_cons_zero, List.set_cons_succ]
                  refine wpAnyH_take (i := 11) (oi := { dst := some 49, op := Op.unOp UnOp.not 4 (Operand.tmp 48), type := 4, pos := "wage.go:260", after := #[{ on := 10, ground := Ground.data }], guard := none }) (v := ?_) rfl (by kernel_rfl) (by kernel_rfl) (by kernel_rfl) (fun _ _ _ h => h) (Or.inl ⟨by rfl, ?_⟩) (by assumption) ?_
                  rotate_left
                  · (intro w9 hSw; (try dsimp only at hSw); (go_split_ands; go_simp); (try with_reducible rfl))
                  try simp only [Act.put, List.setIfInBounds_toArray, List.set_cons_zero, List.set_cons_succ]
                  refine wpAnyH_take (i := 12) (oi := { dst := some 50, op := Op.move (Operand.tmp 49), type := 4, pos := "wage.go:260", after := #[{ on := 11, ground := Ground.data }, { on := 10, ground := Ground.chain }], guard := none }) (v := ?_) rfl (by kernel_rfl) (by kernel_rfl) (by kernel_rfl) (fun _ _ _ h => h) (Or.inl ⟨by rfl, ?_⟩) (by assumption) ?_
                  rotate_left
                  · (intro w9 hSw; (try dsimp only at hSw); (go_split_ands; go_simp); (try with_reducible rfl))
                  try simp only [Act.put, List.setIfInBounds_toArray, List.set_cons_zero, List.set_cons_succ]
                  refine wpAnyH_take (i := 13) (oi := { dst := some 51, op := Op.load 37 (Operand.tmp 2), type := 37, pos := "wage.go:260", after := #[{ on := 12, ground := Ground.guard }], guard := some (12, false) }) (v := ?_) rfl (by kernel_rfl) (by kernel_rfl) (by kernel_rfl) (fun _ _ _ h => h) (Or.inl ⟨by rfl, ?_⟩) (by assumption) ?_
                  rotate_left
                  · (intro w9 hSw; (try dsimp only at hSw); (go_split_ands; go_simp); (try with_reducible rfl))
                  try simp only [Act.put, List.setIfInBounds_toArray, List.set_cons_zero, List.set_cons_succ]
                  refine wpAnyH_take (i := 14) (oi := { dst := some 52, op := Op.move (Operand.tmp 7), type := 3, pos := "wage.go:260", after := #[{ on := 12, ground := Ground.guard }], guard := some (12, false) }) (v := ?_) rfl (by kernel_rfl) (by kernel_rfl) (by kernel_rfl) (fun _ _ _ h => h) (Or.inl ⟨by rfl, ?_⟩) (by assumption) ?_
                  rotate_left
                  · (intro w9 hSw; (try dsimp only at hSw); (go_split_ands; go_simp); (try with_reducible rfl))
                  try simp only [Act.put, List.setIfInBounds_toArray, List.set_cons_zero, List.set_cons_succ]
                  refine wpAnyH_take (i := 15) (oi := { dst := some 53, op := Op.indexAddr 37 (Operand.tmp 51) (Operand.tmp 52), type := 0, pos := "wage.go:260", after := #[{ on := 13, ground := Ground.data }, { on := 14, ground := Ground.data }, { on := 12, ground := Ground.guard }], guard := some (12, false) }) (v := ?_) rfl (by kernel_rfl) (by kernel_rfl) (by kernel_rfl) (fun _ _ _ h => h) (Or.inl ⟨by rfl, ?_⟩) (by assumption) ?_
                  rotate_left
                  · (intro w9 hSw; (try dsimp only at hSw); (go_split_ands; go_simp); (try with_reducible rfl))
                  try simp only [Act.put, List.setIfInBounds_toArray, List.set_cons_zero, List.set_cons_succ]
                  refine wpAnyH_take (i := 16) (oi := { dst := some 54, op := Op.load 3 (Operand.tmp 53), type := 3, pos := "wage.go:260", after := #[{ on := 15, ground := Ground.data }, { on := 12, ground := Ground.guard }], guard := some (12, false) }) (v := ?_) rfl (by kernel_rfl) (by kernel_rfl) (by kernel_rfl) (fun _ _ _ h => h) (Or.inl ⟨by rfl, ?_⟩) (by assumption) ?_
                  rotate_left
                  · (intro w9 hSw; (try dsimp only at hSw); (go_split_ands; go_simp); (try with_reducible rfl))
                  try simp only [Act.put, List.setIfInBounds_toArray, List.set_cons_zero, List.set_cons_succ]
                  refine wpAnyH_take (i := 17) (oi := { dst := some 55, op := Op.fieldAddr 58 (Operand.tmp 8) 3, type := 0, pos := "wage.go:260", after := #[{ on := 12, ground := Ground.guard }], guard := some (12, false) }) (v := ?_) rfl (by kernel_rfl) (by kernel_rfl) (by kernel_rfl) (fun _ _ _ h => h) (Or.inl ⟨by rfl, ?_⟩) (by assumption) ?_
                  rotate_left
                  · (intro w9 hSw; (try dsimp only at hSw); (go_split_ands; go_simp); (try with_reducible rfl))
                  try simp only [Act.put, List.setIfInBounds_toArray, List.set_cons_zero, List.set_cons_succ]
                  refine wpAnyH_take (i := 18) (oi := { dst := some 56, op := Op.fieldAddr 29 (Operand.tmp 55) 0, type := 0, pos := "wage.go:260", after := #[{ on := 17, ground := Ground.data }, { on := 12, ground := Ground.guard }], guard := some (12, false) }) (v := ?_) rfl (by kernel_rfl) (by kernel_rfl) (by kernel_rfl) (fun _ _ _ h => h) (Or.inl ⟨by rfl, ?_⟩) (by assumption) ?_
                  rotate_left
                  · (intro w9 hSw; (try dsimp only at hSw); (go_split_ands; go_simp); (try with_reducible rfl))
                  try simp only [Act.put, List.setIfInBounds_toArray, List.set_cons_zero, List.set_cons_succ]
                  refine wpAnyH_take (i := 19) (oi := { dst := some 57, op := Op.load 3 (Operand.tmp 56), type := 3, pos := "wage.go:260", after := #[{ on := 18, ground := Ground.data }, { on := 12, ground := Ground.guard }], guard := some (12, false) }) (v := ?_) rfl (by kernel_rfl) (by kernel_rfl) (by kernel_rfl) (fun _ _ _ h => h) (Or.inl ⟨by rfl, ?_⟩) (by assumption) ?_
                  rotate_left
                  · (intro w9 hSw; (try dsimp only at hSw); (go_split_ands; go_simp); (try with_reducible rfl))
                  try simp only [Act.put, List.setIfInBounds_toArray, List.set_cons_zero, List.set_cons_succ]
                  refine wpAnyH_take (i := 20) (oi := { dst := some 58, op := Op.fieldAddr 58 (Operand.tmp 8) 3, type := 0, pos := "wage.go:260", after := #[{ on := 12, ground := Ground.guard }], guard := some (12, false) }) (v := ?_) rfl (by kernel_rfl) (by kernel_rfl) (by kernel_rfl) (fun _ _ _ h => h) (Or.inl ⟨by rfl, ?_⟩) (by assumption) ?_
                  rotate_left
                  · (intro w9 hSw; (try dsimp only at hSw); (go_split_ands; go_simp); (try with_reducible rfl))
                  try simp only [Act.put, List.setIfInBounds_toArray, List.set_cons_zero, List.set_cons_succ]
                  refine wpAnyH_take (i := 21) (oi := { dst := some 59, op := Op.fieldAddr 29 (Operand.tmp 58) 1, type := 0, pos := "wage.go:260", after := #[{ on := 20, ground := Ground.data }, { on := 12, ground := Ground.guard }], guard := some (12, false) }) (v := ?_) rfl (by kernel_rfl) (by kernel_rfl) (by kernel_rfl) (fun _ _ _ h => h) (Or.inl ⟨by rfl, ?_⟩) (by assumption) ?_
                  rotate_left
                  · (intro w9 hSw; (try dsimp only at hSw); (go_split_ands; go_simp); (try with_reducible rfl))
                  try simp only [Act.put, List.setIfInBounds_toArray, List.set_cons_zero, List.set_cons_succ]
                  refine wpAnyH_take (i := 22) (oi := { dst := some 60, op := Op.load 3 (Operand.tmp 59), type := 3, pos := "wage.go:260", after := #[{ on := 21, ground := Ground.data }, { on := 12, ground := Ground.guard }], guard := some (12, false) }) (v := ?_) rfl (by kernel_rfl) (by kernel_rfl) (by kernel_rfl) (fun _ _ _ h => h) (Or.inl ⟨by rfl, ?_⟩) (by assumption) ?_
                  rotate_left
                  · (intro w9 hSw; (try dsimp only at hSw); (go_split_ands; go_simp); (try with_reducible rfl))
                  try simp only [Act.put, List.setIfInBounds_toArray, List.set_cons_zero, List.set_cons_succ]
                  refine wpAnyH_ready (rs := [23]) (by kernel_rfl) (by simp) ?_
                  refine AllReadyH.cons (o := { dst := some 61, op := Op.call { callee := Callee.value (Operand.func 57), args := #[Operand.tmp 54, Operand.tmp 57, Operand.tmp 60], argTypes := #[3, 3, 3] }, type := 4, pos := "wage.go:260", after := #[{ on := 16, ground := Ground.data }, { on := 19, ground := Ground.data }, { on := 22, ground := Ground.data }, { on := 12, ground := Ground.chain }, { on := 12, ground := Ground.guard }], guard := some (12, false) }) rfl (fun K hK => ?_) AllReadyH.nil
                  go_simp
                  go_at_call 57; refine (within_any _ _ _ _).mono ?_; rintro e w3 ⟨rfl, rfl⟩
                  go_wp2_with fail
                  refine hK.out _ _ ?_ (fun hHeld => ?_)
                  · assumption
                  clear hK K
                  try simp only [Act.put, List.setIfInBounds_toArray, List.set_cons_zero, List.set_cons_succ]
                  refine wpAnyH_take (i := 24) (oi := { dst := some 62, op := Op.unOp UnOp.not 4 (Operand.tmp 61), type := 4, pos := "wage.go:260", after := #[{ on := 23, ground := Ground.data }, { on := 12, ground := Ground.guard }], guard := some (12, false) }) (v := ?_) rfl (by kernel_rfl) (by kernel_rfl) (by kernel_rfl) (fun _ _ _ h => h) (Or.inl ⟨by rfl, ?_⟩) (by assumption) ?_
                  rotate_left
                  · (intro w9 hSw; (try dsimp only at hSw); (go_split_ands; go_simp); (try with_reducible rfl))
                  try simp only [Act.put, List.setIfInBounds_toArray, List.set_cons_zero, List.set_cons_succ]
                  refine wpAnyH_take (i := 25) (oi := { dst := some 63, op := Op.pick (Operand.tmp 50) (Operand.const (Value.bool true)) (Operand.tmp 62), type := 4, pos := "wage.go:260", after := #[{ on := 12, ground := Ground.data }, { on := 24, ground := Ground.data }], guard := none }) (v := ?_) rfl (by kernel_rfl) (by kernel_rfl) (by kernel_rfl) (fun _ _ _ h => h) (Or.inl ⟨by rfl, ?_⟩) (by assumption) ?_
                  rotate_left
                  · (intro w9 hSw; (try dsimp only at hSw); (go_split_ands; go_simp); (try with_reducible rfl))
                  try simp only [Act.put, List.setIfInBounds_toArray, List.set_cons_zero, List.set_cons_succ]
                  refine wpAnyH_take (i := 26) (oi := { dst := some 64, op := Op.move (Operand.tmp 63), type := 4, pos := "wage.go:260", after := #[{ on := 25, ground := Ground.data }, { on := 23, ground := Ground.chain }], guard := none }) (v := ?_) rfl (by kernel_rfl) (by kernel_rfl) (by kernel_rfl) (fun _ _ _ h => h) (Or.inl ⟨by rfl, ?_⟩) (by assumption) ?_
                  rotate_left
                  · (intro w9 hSw; (try dsimp only at hSw); (go_split_ands; go_simp); (try with_reducible rfl))
                  try simp only [Act.put, List.setIfInBounds_toArray, List.set_cons_zero, List.set_cons_succ]
                  refine wpAnyH_take (i := 27) (oi := { dst := some 65, op := Op.load 37 (Operand.tmp 3), type := 37, pos := "wage.go:260", after := #[{ on := 26, ground := Ground.guard }], guard := some (26, false) }) (v := ?_) rfl (by kernel_rfl) (by kernel_rfl) (by kernel_rfl) (fun _ _ _ h => h) (Or.inl ⟨by rfl, ?_⟩) (by assumption) ?_
                  rotate_left
                  · (intro w9 hSw; (try dsimp only at hSw); (go_split_ands; go_simp); (try with_reducible rfl))
                  try simp only [Act.put, List.setIfInBounds_toArray, List.set_cons_zero, List.set_cons_succ]
                  refine wpAnyH_take (i := 28) (oi := { dst := some 66, op := Op.move (Operand.tmp 7), type := 3, pos := "wage.go:260", after := #[{ on := 26, ground := Ground.guard }], guard := some (26, false) }) (v := ?_) rfl (by kernel_rfl) (by kernel_rfl) (by kernel_rfl) (fun _ _ _ h => h) (Or.inl ⟨by rfl, ?_⟩) (by assumption) ?_
                  rotate_left
                  · (intro w9 hSw; (try dsimp only at hSw); (go_split_ands; go_simp); (try with_reducible rfl))
                  try simp only [Act.put, List.setIfInBounds_toArray, List.set_cons_zero, List.set_cons_succ]
                  refine wpAnyH_take (i := 29) (oi := { dst := some 67, op := Op.indexAddr 37 (Operand.tmp 65) (Operand.tmp 66), type := 0, pos := "wage.go:260", after := #[{ on := 27, ground := Ground.data }, { on := 28, ground := Ground.data }, { on := 26, ground := Ground.guard }], guard := some (26, false) }) (v := ?_) rfl (by kernel_rfl) (by kernel_rfl) (by kernel_rfl) (fun _ _ _ h => h) (Or.inl ⟨by rfl, ?_⟩) (by assumption) ?_
                  rotate_left
                  · (intro w9 hSw; (try dsimp only at hSw); (go_split_ands; go_simp); (try with_reducible rfl))
                  try simp only [Act.put, List.setIfInBounds_toArray, List.set_cons_zero, List.set_cons_succ]
                  refine wpAnyH_take (i := 30) (oi := { dst := some 68, op := Op.load 3 (Operand.tmp 67), type := 3, pos := "wage.go:260", after := #[{ on := 29, ground := Ground.data }, { on := 26, ground := Ground.guard }], guard := some (26, false) }) (v := ?_) rfl (by kernel_rfl) (by kernel_rfl) (by kernel_rfl) (fun _ _ _ h => h) (Or.inl ⟨by rfl, ?_⟩) (by assumption) ?_
                  rotate_left
                  · (intro w9 hSw; (try dsimp only at hSw); (go_split_ands; go_simp); (try with_reducible rfl))
                  try simp only [Act.put, List.setIfInBounds_toArray, List.set_cons_zero, List.set_cons_succ]
                  refine wpAnyH_take (i := 31) (oi := { dst := some 69, op := Op.fieldAddr 58 (Operand.tmp 8) 4, type := 0, pos := "wage.go:260", after := #[{ on := 26, ground := Ground.guard }], guard := some (26, false) }) (v := ?_) rfl (by kernel_rfl) (by kernel_rfl) (by kernel_rfl) (fun _ _ _ h => h) (Or.inl ⟨by rfl, ?_⟩) (by assumption) ?_
                  rotate_left
                  · (intro w9 hSw; (try dsimp only at hSw); (go_split_ands; go_simp); (try with_reducible rfl))
                  try simp only [Act.put, List.setIfInBounds_toArray, List.set_cons_zero, List.set_cons_succ]
                  refine wpAnyH_take (i := 32) (oi := { dst := some 70, op := Op.fieldAddr 29 (Operand.tmp 69) 0, type := 0, pos := "wage.go:260", after := #[{ on := 31, ground := Ground.data }, { on := 26, ground := Ground.guard }], guard := some (26, false) }) (v := ?_) rfl (by kernel_rfl) (by kernel_rfl) (by kernel_rfl) (fun _ _ _ h => h) (Or.inl ⟨by rfl, ?_⟩) (by assumption) ?_
                  rotate_left
                  · (intro w9 hSw; (try dsimp only at hSw); (go_split_ands; go_simp); (try with_reducible rfl))
                  try simp only [Act.put, List.setIfInBounds_toArray, List.set_cons_zero, List.set_cons_succ]
                  refine wpAnyH_take (i := 33) (oi := { dst := some 71, op := Op.load 3 (Operand.tmp 70), type := 3, pos := "wage.go:260", after := #[{ on := 32, ground := Ground.data }, { on := 26, ground := Ground.guard }], guard := some (26, false) }) (v := ?_) rfl (by kernel_rfl) (by kernel_rfl) (by kernel_rfl) (fun _ _ _ h => h) (Or.inl ⟨by rfl, ?_⟩) (by assumption) ?_
                  rotate_left
                  · (intro w9 hSw; (try dsimp only at hSw); (go_split_ands; go_simp); (try with_reducible rfl))
                  try simp only [Act.put, List.setIfInBounds_toArray, List.set_cons_zero, List.set_cons_succ]
                  refine wpAnyH_take (i := 34) (oi := { dst := some 72, op := Op.fieldAddr 58 (Operand.tmp 8) 4, type := 0, pos := "wage.go:260", after := #[{ on := 26, ground := Ground.guard }], guard := some (26, false) }) (v := ?_) rfl (by kernel_rfl) (by kernel_rfl) (by kernel_rfl) (fun _ _ _ h => h) (Or.inl ⟨by rfl, ?_⟩) (by assumption) ?_
                  rotate_left
                  · (intro w9 hSw; (try dsimp only at hSw); (go_split_ands; go_simp); (try with_reducible rfl))
                  try simp only [Act.put, List.setIfInBounds_toArray, List.set_cons_zero, List.set_cons_succ]
                  refine wpAnyH_take (i := 35) (oi := { dst := some 73, op := Op.fieldAddr 29 (Operand.tmp 72) 1, type := 0, pos := "wage.go:260", after := #[{ on := 34, ground := Ground.data }, { on := 26, ground := Ground.guard }], guard := some (26, false) }) (v := ?_) rfl (by kernel_rfl) (by kernel_rfl) (by kernel_rfl) (fun _ _ _ h => h) (Or.inl ⟨by rfl, ?_⟩) (by assumption) ?_
                  rotate_left
                  · (intro w9 hSw; (try dsimp only at hSw); (go_split_ands; go_simp); (try with_reducible rfl))
                  try simp only [Act.put, List.setIfInBounds_toArray, List.set_cons_zero, List.set_cons_succ]
                  refine wpAnyH_take (i := 36) (oi := { dst := some 74, op := Op.load 3 (Operand.tmp 73), type := 3, pos := "wage.go:260", after := #[{ on := 35, ground := Ground.data }, { on := 26, ground := Ground.guard }], guard := some (26, false) }) (v := ?_) rfl (by kernel_rfl) (by kernel_rfl) (by kernel_rfl) (fun _ _ _ h => h) (Or.inl ⟨by rfl, ?_⟩) (by assumption) ?_
                  rotate_left
                  · (intro w9 hSw; (try dsimp only at hSw); (go_split_ands; go_simp); (try with_reducible rfl))
                  try simp only [Act.put, List.setIfInBounds_toArray, List.set_cons_zero, List.set_cons_succ]
                  refine wpAnyH_ready (rs := [37]) (by kernel_rfl) (by simp) ?_
                  refine AllReadyH.cons (o := { dst := some 75, op := Op.call { callee := Callee.value (Operand.func 57), args := #[Operand.tmp 68, Operand.tmp 71, Operand.tmp 74], argTypes := #[3, 3, 3] }, type := 4, pos := "wage.go:260", after := #[{ on := 30, ground := Ground.data }, { on := 33, ground := Ground.data }, { on := 36, ground := Ground.data }, { on := 26, ground := Ground.chain }, { on := 26, ground := Ground.guard }], guard := some (26, false) }) rfl (fun K hK => ?_) AllReadyH.nil
                  go_simp
                  go_at_call 57; refine (within_any _ _ _ _).mono ?_; rintro e w3 ⟨rfl, rfl⟩
                  go_wp2_with fail
                  refine hK.out _ _ ?_ (fun hHeld => ?_)
                  · assumption
                  clear hK K
                  try simp only [Act.put, List.setIfInBounds_toArray, List.set_cons_zero, List.set_cons_succ]
                  refine wpAnyH_take (i := 38) (oi := { dst := some 76, op := Op.unOp UnOp.not 4 (Operand.tmp 75), type := 4, pos := "wage.go:260", after := #[{ on := 37, ground := Ground.data }, { on := 26, ground := Ground.guard }], guard := some (26, false) }) (v := ?_) rfl (by kernel_rfl) (by kernel_rfl) (by kernel_rfl) (fun _ _ _ h => h) (Or.inl ⟨by rfl, ?_⟩) (by assumption) ?_
                  rotate_left
                  · (intro w9 hSw; (try dsimp only at hSw); (go_split_ands; go_simp); (try with_reducible rfl))
                  try simp only [Act.put, List.setIfInBounds_toArray, List.set_cons_zero, List.set_cons_succ]
                  refine wpAnyH_take (i := 39) (oi := { dst := some 77, op := Op.pick (Operand.tmp 64) (Operand.const (Value.bool true)) (Operand.tmp 76), type := 4, pos := "wage.go:260", after := #[{ on := 26, ground := Ground.data }, { on := 38, ground := Ground.data }], guard := none }) (v := ?_) rfl (by kernel_rfl) (by kernel_rfl) (by kernel_rfl) (fun _ _ _ h => h) (Or.inl ⟨by rfl, ?_⟩) (by assumption) ?_
                  rotate_left
                  · (intro w9 hSw; (try dsimp only at hSw); (go_split_ands; go_simp); (try with_reducible rfl))
                  try simp only [Act.put, List.setIfInBounds_toArray, List.set_cons_zero, List.set_cons_succ]
                  refine wpAnyH_done (by kernel_rfl) ?_ _
                  go_wp2_with fail
                  refine ⟨⟨k + 1, hlt, by go_num, fun j hj => ?_, HI.out.grow HB.out.drew⟩, by simp [intOf]; omega⟩
                  by_cases e : j = k
                  · rw [e]; simp [exOk, c1, c2, c3]
                  · exact HO.out j (by omega)
                · refine wp_region_held_drew (S := (fun w' => (w'.cell? ⟨b1, 0, none⟩ = some (.slice fa tn fc) ∧ w'.cell? ⟨b2, 0, none⟩ = some (.slice ga tn gc) ∧ w'.cell? ⟨b3, 0, none⟩ = some (.slice ha tn hc) ∧ w'.cell? ⟨blk fa, ofs fa + k, none⟩ = some (.int .i64 (f k)) ∧ w'.cell? ⟨blk ga, ofs ga + k, none⟩ = some (.int .i64 (g k)) ∧ w'.cell? ⟨blk ha, ofs ha + k, none⟩ = some (.int .i64 (h k)) ∧ w'.cell? ⟨wr.heap.size, 2, none⟩ = some (.int .i64 (T k).fl) ∧ w'.cell? ⟨wr.heap.size, 3, none⟩ = some (.int .i64 (T k).fh) ∧ w'.cell? ⟨wr.heap.size, 4, none⟩ = some (.int .i64 (T k).tl) ∧ w'.cell? ⟨wr.heap.size, 5, none⟩ = some (.int .i64 (T k).th) ∧ w'.cell? ⟨wr.heap.size, 6, none⟩ = some (.int .i64 (T k).dl) ∧ w'.cell? ⟨wr.heap.size, 7, none⟩ = some (.int .i64 (T k).dh)))) (by kernel_rfl) D0.out (fun hHeld => ?_)
                  refine wpAnyH_take (i := 0) (oi := { dst := some 38, op := Op.load 37 (Operand.tmp 1), type := 37, pos := "wage.go:260", after := #[], guard := none }) (v := ?_) rfl (by kernel_rfl) (by kernel_rfl) (by kernel_rfl) (fun _ _ _ h => h) (Or.inl ⟨by rfl, ?_⟩) (by assumption) ?_
                  rotate_left
                  · (intro w9 hSw; (try dsimp only at hSw); (go_split_ands; go_simp); (try with_reducible rfl))
                  try simp only [Act.put, List.setIfInBounds_toArray, List.set_cons_zero, List.set_cons_succ]
                  refine wpAnyH_take (i := 1) (oi := { dst := some 39, op := Op.move (Operand.tmp 7), type := 3, pos := "wage.go:260", after := #[], guard := none }) (v := ?_) rfl (by kernel_rfl) (by kernel_rfl) (by kernel_rfl) (fun _ _ _ h => h) (Or.inl ⟨by rfl, ?_⟩) (by assumption) ?_
                  rotate_left
                  · (intro w9 hSw; (try dsimp only at hSw); (go_split_ands; go_simp); (try with_reducible rfl))
                  try simp only [Act.put, List.setIfInBounds_toArray, List.set_cons_zero, List.set_cons_succ]
                  refine wpAnyH_take (i := 2) (oi := { dst := some 40, op := Op.indexAddr 37 (Operand.tmp 38) (Operand.tmp 39), type := 0, pos := "wage.go:260", after := #[{ on := 0, ground := Ground.data }, { on := 1, ground := Ground.data }], guard := none }) (v := ?_) rfl (by kernel_rfl) (by kernel_rfl) (by kernel_rfl) (fun _ _ _ h => h) (Or.inl ⟨by rfl, ?_⟩) (by assumption) ?_
                  rotate_left
                  · (intro w9 hSw; (try dsimp only at hSw); (go_split_ands; go_simp); (try with_reducible rfl))
                  try simp only [Act.put, List.setIfInBounds_toArray, List.set_cons_zero, List.set_cons_succ]
                  refine wpAnyH_take (i := 3) (oi := { dst := some 41, op := Op.load 3 (Operand.tmp 40), type := 3, pos := "wage.go:260", after := #[{ on := 2, ground := Ground.data }], guard := none }) (v := ?_) rfl (by kernel_rfl) (by kernel_rfl) (by kernel_rfl) (fun _ _ _ h => h) (Or.inl ⟨by rfl, ?_⟩) (by assumption) ?_
                  rotate_left
                  · (intro w9 hSw; (try dsimp only at hSw); (go_split_ands; go_simp); (try with_reducible rfl))
                  try simp only [Act.put, List.setIfInBounds_toArray, List.set_cons_zero, List.set_cons_succ]
                  refine wpAnyH_take (i := 4) (oi := { dst := some 42, op := Op.fieldAddr 58 (Operand.tmp 8) 2, type := 0, pos := "wage.go:260", after := #[], guard := none }) (v := ?_) rfl (by kernel_rfl) (by kernel_rfl) (by kernel_rfl) (fun _ _ _ h => h) (Or.inl ⟨by rfl, ?_⟩) (by assumption) ?_
                  rotate_left
                  · (intro w9 hSw; (try dsimp only at hSw); (go_split_ands; go_simp); (try with_reducible rfl))
                  try simp only [Act.put, List.setIfInBounds_toArray, List.set_cons_zero, List.set_cons_succ]
                  refine wpAnyH_take (i := 5) (oi := { dst := some 43, op := Op.fieldAddr 29 (Operand.tmp 42) 0, type := 0, pos := "wage.go:260", after := #[{ on := 4, ground := Ground.data }], guard := none }) (v := ?_) rfl (by kernel_rfl) (by kernel_rfl) (by kernel_rfl) (fun _ _ _ h => h) (Or.inl ⟨by rfl, ?_⟩) (by assumption) ?_
                  rotate_left
                  · (intro w9 hSw; (try dsimp only at hSw); (go_split_ands; go_simp); (try with_reducible rfl))
                  try simp only [Act.put, List.setIfInBounds_toArray, List.set_cons_zero, List.set_cons_succ]
                  refine wpAnyH_take (i := 6) (oi := { dst := some 44, op := Op.load 3 (Operand.tmp 43), type := 3, pos := "wage.go:260", after := #[{ on := 5, ground := Ground.data }], guard := none }) (v := ?_) rfl (by kernel_rfl) (by kernel_rfl) (by kernel_rfl) (fun _ _ _ h => h) (Or.inl ⟨by rfl, ?_⟩) (by assumption) ?_
                  rotate_left
                  · (intro w9 hSw; (try dsimp only at hSw); (go_split_ands; go_simp); (try with_reducible rfl))
                  try simp only [Act.put, List.setIfInBounds_toArray, List.set_cons_zero, List.set_cons_succ]
                  refine wpAnyH_take (i := 7) (oi := { dst := some 45, op := Op.fieldAddr 58 (Operand.tmp 8) 2, type := 0, pos := "wage.go:260", after := #[], guard := none }) (v := ?_) rfl (by kernel_rfl) (by kernel_rfl) (by kernel_rfl) (fun _ _ _ h => h) (Or.inl ⟨by rfl, ?_⟩) (by assumption) ?_
                  rotate_left
                  · (intro w9 hSw; (try dsimp only at hSw); (go_split_ands; go_simp); (try with_reducible rfl))
                  try simp only [Act.put, List.setIfInBounds_toArray, List.set_cons_zero, List.set_cons_succ]
                  refine wpAnyH_take (i := 8) (oi := { dst := some 46, op := Op.fieldAddr 29 (Operand.tmp 45) 1, type := 0, pos := "wage.go:260", after := #[{ on := 7, ground := Ground.data }], guard := none }) (v := ?_) rfl (by kernel_rfl) (by kernel_rfl) (by kernel_rfl) (fun _ _ _ h => h) (Or.inl ⟨by rfl, ?_⟩) (by assumption) ?_
                  rotate_left
                  · (intro w9 hSw; (try dsimp only at hSw); (go_split_ands; go_simp); (try with_reducible rfl))
                  try simp only [Act.put, List.setIfInBounds_toArray, List.set_cons_zero, List.set_cons_succ]
                  refine wpAnyH_take (i := 9) (oi := { dst := some 47, op := Op.load 3 (Operand.tmp 46), type := 3, pos := "wage.go:260", after := #[{ on := 8, ground := Ground.data }], guard := none }) (v := ?_) rfl (by kernel_rfl) (by kernel_rfl) (by kernel_rfl) (fun _ _ _ h => h) (Or.inl ⟨by rfl, ?_⟩) (by assumption) ?_
                  rotate_left
                  · (intro w9 hSw; (try dsimp only at hSw); (go_split_ands; go_simp); (try with_reducible rfl))
                  try simp only [Act.put, List.setIfInBounds_toArray, List.set_cons_zero, List.set_cons_succ]
                  refine wpAnyH_ready (rs := [10]) (by kernel_rfl) (by simp) ?_
                  refine AllReadyH.cons (o := { dst := some 48, op := Op.call { callee := Callee.value (Operand.func 57), args := #[Operand.tmp 41, Operand.tmp 44, Operand.tmp 47], argTypes := #[3, 3, 3] }, type := 4, pos := "wage.go:260", after := #[{ on := 3, ground := Ground.data }, { on := 6, ground := Ground.data }, { on := 9, ground := Ground.data }], guard := none }) rfl (fun K hK => ?_) AllReadyH.nil
                  go_simp
                  go_at_call 57; refine (within_any _ _ _ _).mono ?_; rintro e w3 ⟨rfl, rfl⟩
                  go_wp2_with fail
                  refine hK.out _ _ ?_ (fun hHeld => ?_)
                  · assumption
                  clear hK K
                  try simp only [Act.put, List.setIfInBounds_toArray, List.set_cons_zero, List.set_cons_succ]
                  refine wpAnyH_take (i := 11) (oi := { dst := some 49, op := Op.unOp UnOp.not 4 (Operand.tmp 48), type := 4, pos := "wage.go:260", after := #[{ on := 10, ground := Ground.data }], guard := none }) (v := ?_) rfl (by kernel_rfl) (by kernel_rfl) (by kernel_rfl) (fun _ _ _ h => h) (Or.inl ⟨by rfl, ?_⟩) (by assumption) ?_
                  rotate_left
                  · (intro w9 hSw; (try dsimp only at hSw); (go_split_ands; go_simp); (try with_reducible rfl))
                  try simp only [Act.put, List.setIfInBounds_toArray, List.set_cons_zero, List.set_cons_succ]
                  refine wpAnyH_take (i := 12) (oi := { dst := some 50, op := Op.move (Operand.tmp 49), type := 4, pos := "wage.go:260", after := #[{ on := 11, ground := Ground.data }, { on := 10, ground := Ground.chain }], guard := none }) (v := ?_) rfl (by kernel_rfl) (by kernel_rfl) (by kernel_rfl) (fun _ _ _ h => h) (Or.inl ⟨by rfl, ?_⟩) (by assumption) ?_
                  rotate_left
                  · (intro w9 hSw; (try dsimp only at hSw); (go_split_ands; go_simp); (try with_reducible rfl))
                  try simp only [Act.put, List.setIfInBounds_toArray, List.set_cons_zero, List.set_cons_succ]
                  refine wpAnyH_take (i := 13) (oi := { dst := some 51, op := Op.load 37 (Operand.tmp 2), type := 37, pos := "wage.go:260", after := #[{ on := 12, ground := Ground.guard }], guard := some (12, false) }) (v := ?_) rfl (by kernel_rfl) (by kernel_rfl) (by kernel_rfl) (fun _ _ _ h => h) (Or.inl ⟨by rfl, ?_⟩) (by assumption) ?_
                  rotate_left
                  · (intro w9 hSw; (try dsimp only at hSw); (go_split_ands; go_simp); (try with_reducible rfl))
                  try simp only [Act.put, List.setIfInBounds_toArray, List.set_cons_zero, List.set_cons_succ]
                  refine wpAnyH_take (i := 14) (oi := { dst := some 52, op := Op.move (Operand.tmp 7), type := 3, pos := "wage.go:260", after := #[{ on := 12, ground := Ground.guard }], guard := some (12, false) }) (v := ?_) rfl (by kernel_rfl) (by kernel_rfl) (by kernel_rfl) (fun _ _ _ h => h) (Or.inl ⟨by rfl, ?_⟩) (by assumption) ?_
                  rotate_left
                  · (intro w9 hSw; (try dsimp only at hSw); (go_split_ands; go_simp); (try with_reducible rfl))
                  try simp only [Act.put, List.setIfInBounds_toArray, List.set_cons_zero, List.set_cons_succ]
                  refine wpAnyH_take (i := 15) (oi := { dst := some 53, op := Op.indexAddr 37 (Operand.tmp 51) (Operand.tmp 52), type := 0, pos := "wage.go:260", after := #[{ on := 13, ground := Ground.data }, { on := 14, ground := Ground.data }, { on := 12, ground := Ground.guard }], guard := some (12, false) }) (v := ?_) rfl (by kernel_rfl) (by kernel_rfl) (by kernel_rfl) (fun _ _ _ h => h) (Or.inl ⟨by rfl, ?_⟩) (by assumption) ?_
                  rotate_left
                  · (intro w9 hSw; (try dsimp only at hSw); (go_split_ands; go_simp); (try with_reducible rfl))
                  try simp only [Act.put, List.setIfInBounds_toArray, List.set_cons_zero, List.set_cons_succ]
                  refine wpAnyH_take (i := 16) (oi := { dst := some 54, op := Op.load 3 (Operand.tmp 53), type := 3, pos := "wage.go:260", after := #[{ on := 15, ground := Ground.data }, { on := 12, ground := Ground.guard }], guard := some (12, false) }) (v := ?_) rfl (by kernel_rfl) (by kernel_rfl) (by kernel_rfl) (fun _ _ _ h => h) (Or.inl ⟨by rfl, ?_⟩) (by assumption) ?_
                  rotate_left
                  · (intro w9 hSw; (try dsimp only at hSw); (go_split_ands; go_simp); (try with_reducible rfl))
                  try simp only [Act.put, List.setIfInBounds_toArray, List.set_cons_zero, List.set_cons_succ]
                  refine wpAnyH_take (i := 17) (oi := { dst := some 55, op := Op.fieldAddr 58 (Operand.tmp 8) 3, type := 0, pos := "wage.go:260", after := #[{ on := 12, ground := Ground.guard }], guard := some (12, false) }) (v := ?_) rfl (by kernel_rfl) (by kernel_rfl) (by kernel_rfl) (fun _ _ _ h => h) (Or.inl ⟨by rfl, ?_⟩) (by assumption) ?_
                  rotate_left
                  · (intro w9 hSw; (try dsimp only at hSw); (go_split_ands; go_simp); (try with_reducible rfl))
                  try simp only [Act.put, List.setIfInBounds_toArray, List.set_cons_zero, List.set_cons_succ]
                  refine wpAnyH_take (i := 18) (oi := { dst := some 56, op := Op.fieldAddr 29 (Operand.tmp 55) 0, type := 0, pos := "wage.go:260", after := #[{ on := 17, ground := Ground.data }, { on := 12, ground := Ground.guard }], guard := some (12, false) }) (v := ?_) rfl (by kernel_rfl) (by kernel_rfl) (by kernel_rfl) (fun _ _ _ h => h) (Or.inl ⟨by rfl, ?_⟩) (by assumption) ?_
                  rotate_left
                  · (intro w9 hSw; (try dsimp only at hSw); (go_split_ands; go_simp); (try with_reducible rfl))
                  try simp only [Act.put, List.setIfInBounds_toArray, List.set_cons_zero, List.set_cons_succ]
                  refine wpAnyH_take (i := 19) (oi := { dst := some 57, op := Op.load 3 (Operand.tmp 56), type := 3, pos := "wage.go:260", after := #[{ on := 18, ground := Ground.data }, { on := 12, ground := Ground.guard }], guard := some (12, false) }) (v := ?_) rfl (by kernel_rfl) (by kernel_rfl) (by kernel_rfl) (fun _ _ _ h => h) (Or.inl ⟨by rfl, ?_⟩) (by assumption) ?_
                  rotate_left
                  · (intro w9 hSw; (try dsimp only at hSw); (go_split_ands; go_simp); (try with_reducible rfl))
                  try simp only [Act.put, List.setIfInBounds_toArray, List.set_cons_zero, List.set_cons_succ]
                  refine wpAnyH_take (i := 20) (oi := { dst := some 58, op := Op.fieldAddr 58 (Operand.tmp 8) 3, type := 0, pos := "wage.go:260", after := #[{ on := 12, ground := Ground.guard }], guard := some (12, false) }) (v := ?_) rfl (by kernel_rfl) (by kernel_rfl) (by kernel_rfl) (fun _ _ _ h => h) (Or.inl ⟨by rfl, ?_⟩) (by assumption) ?_
                  rotate_left
                  · (intro w9 hSw; (try dsimp only at hSw); (go_split_ands; go_simp); (try with_reducible rfl))
                  try simp only [Act.put, List.setIfInBounds_toArray, List.set_cons_zero, List.set_cons_succ]
                  refine wpAnyH_take (i := 21) (oi := { dst := some 59, op := Op.fieldAddr 29 (Operand.tmp 58) 1, type := 0, pos := "wage.go:260", after := #[{ on := 20, ground := Ground.data }, { on := 12, ground := Ground.guard }], guard := some (12, false) }) (v := ?_) rfl (by kernel_rfl) (by kernel_rfl) (by kernel_rfl) (fun _ _ _ h => h) (Or.inl ⟨by rfl, ?_⟩) (by assumption) ?_
                  rotate_left
                  · (intro w9 hSw; (try dsimp only at hSw); (go_split_ands; go_simp); (try with_reducible rfl))
                  try simp only [Act.put, List.setIfInBounds_toArray, List.set_cons_zero, List.set_cons_succ]
                  refine wpAnyH_take (i := 22) (oi := { dst := some 60, op := Op.load 3 (Operand.tmp 59), type := 3, pos := "wage.go:260", after := #[{ on := 21, ground := Ground.data }, { on := 12, ground := Ground.guard }], guard := some (12, false) }) (v := ?_) rfl (by kernel_rfl) (by kernel_rfl) (by kernel_rfl) (fun _ _ _ h => h) (Or.inl ⟨by rfl, ?_⟩) (by assumption) ?_
                  rotate_left
                  · (intro w9 hSw; (try dsimp only at hSw); (go_split_ands; go_simp); (try with_reducible rfl))
                  try simp only [Act.put, List.setIfInBounds_toArray, List.set_cons_zero, List.set_cons_succ]
                  refine wpAnyH_ready (rs := [23]) (by kernel_rfl) (by simp) ?_
                  refine AllReadyH.cons (o := { dst := some 61, op := Op.call { callee := Callee.value (Operand.func 57), args := #[Operand.tmp 54, Operand.tmp 57, Operand.tmp 60], argTypes := #[3, 3, 3] }, type := 4, pos := "wage.go:260", after := #[{ on := 16, ground := Ground.data }, { on := 19, ground := Ground.data }, { on := 22, ground := Ground.data }, { on := 12, ground := Ground.chain }, { on := 12, ground := Ground.guard }], guard := some (12, false) }) rfl (fun K hK => ?_) AllReadyH.nil
                  go_simp
                  go_at_call 57; refine (within_any _ _ _ _).mono ?_; rintro e w3 ⟨rfl, rfl⟩
                  go_wp2_with fail
                  refine hK.out _ _ ?_ (fun hHeld => ?_)
                  · assumption
                  clear hK K
                  try simp only [Act.put, List.setIfInBounds_toArray, List.set_cons_zero, List.set_cons_succ]
                  refine wpAnyH_take (i := 24) (oi := { dst := some 62, op := Op.unOp UnOp.not 4 (Operand.tmp 61), type := 4, pos := "wage.go:260", after := #[{ on := 23, ground := Ground.data }, { on := 12, ground := Ground.guard }], guard := some (12, false) }) (v := ?_) rfl (by kernel_rfl) (by kernel_rfl) (by kernel_rfl) (fun _ _ _ h => h) (Or.inl ⟨by rfl, ?_⟩) (by assumption) ?_
                  rotate_left
                  · (intro w9 hSw; (try dsimp only at hSw); (go_split_ands; go_simp); (try with_reducible rfl))
                  try simp only [Act.put, List.setIfInBounds_toArray, List.set_cons_zero, List.set_cons_succ]
                  refine wpAnyH_take (i := 25) (oi := { dst := some 63, op := Op.pick (Operand.tmp 50) (Operand.const (Value.bool true)) (Operand.tmp 62), type := 4, pos := "wage.go:260", after := #[{ on := 12, ground := Ground.data }, { on := 24, ground := Ground.data }], guard := none }) (v := ?_) rfl (by kernel_rfl) (by kernel_rfl) (by kernel_rfl) (fun _ _ _ h => h) (Or.inl ⟨by rfl, ?_⟩) (by assumption) ?_
                  rotate_left
                  · (intro w9 hSw; (try dsimp only at hSw); (go_split_ands; go_simp); (try with_reducible rfl))
                  try simp only [Act.put, List.setIfInBounds_toArray, List.set_cons_zero, List.set_cons_succ]
                  refine wpAnyH_take (i := 26) (oi := { dst := some 64, op := Op.move (Operand.tmp 63), type := 4, pos := "wage.go:260", after := #[{ on := 25, ground := Ground.data }, { on := 23, ground := Ground.chain }], guard := none }) (v := ?_) rfl (by kernel_rfl) (by kernel_rfl) (by kernel_rfl) (fun _ _ _ h => h) (Or.inl ⟨by rfl, ?_⟩) (by assumption) ?_
                  rotate_left
                  · (intro w9 hSw; (try dsimp only at hSw); (go_split_ands; go_simp); (try with_reducible rfl))
                  try simp only [Act.put, List.setIfInBounds_toArray, List.set_cons_zero, List.set_cons_succ]
                  refine wpAnyH_take (i := 27) (oi := { dst := some 65, op := Op.load 37 (Operand.tmp 3), type := 37, pos := "wage.go:260", after := #[{ on := 26, ground := Ground.guard }], guard := some (26, false) }) (v := ?_) rfl (by kernel_rfl) (by kernel_rfl) (by kernel_rfl) (fun _ _ _ h => h) (Or.inl ⟨by rfl, ?_⟩) (by assumption) ?_
                  rotate_left
                  · (intro w9 hSw; (try dsimp only at hSw); (go_split_ands; go_simp); (try with_reducible rfl))
                  try simp only [Act.put, List.setIfInBounds_toArray, List.set_cons_zero, List.set_cons_succ]
                  refine wpAnyH_take (i := 28) (oi := { dst := some 66, op := Op.move (Operand.tmp 7), type := 3, pos := "wage.go:260", after := #[{ on := 26, ground := Ground.guard }], guard := some (26, false) }) (v := ?_) rfl (by kernel_rfl) (by kernel_rfl) (by kernel_rfl) (fun _ _ _ h => h) (Or.inl ⟨by rfl, ?_⟩) (by assumption) ?_
                  rotate_left
                  · (intro w9 hSw; (try dsimp only at hSw); (go_split_ands; go_simp); (try with_reducible rfl))
                  try simp only [Act.put, List.setIfInBounds_toArray, List.set_cons_zero, List.set_cons_succ]
                  refine wpAnyH_take (i := 29) (oi := { dst := some 67, op := Op.indexAddr 37 (Operand.tmp 65) (Operand.tmp 66), type := 0, pos := "wage.go:260", after := #[{ on := 27, ground := Ground.data }, { on := 28, ground := Ground.data }, { on := 26, ground := Ground.guard }], guard := some (26, false) }) (v := ?_) rfl (by kernel_rfl) (by kernel_rfl) (by kernel_rfl) (fun _ _ _ h => h) (Or.inl ⟨by rfl, ?_⟩) (by assumption) ?_
                  rotate_left
                  · (intro w9 hSw; (try dsimp only at hSw); (go_split_ands; go_simp); (try with_reducible rfl))
                  try simp only [Act.put, List.setIfInBounds_toArray, List.set_cons_zero, List.set_cons_succ]
                  refine wpAnyH_take (i := 30) (oi := { dst := some 68, op := Op.load 3 (Operand.tmp 67), type := 3, pos := "wage.go:260", after := #[{ on := 29, ground := Ground.data }, { on := 26, ground := Ground.guard }], guard := some (26, false) }) (v := ?_) rfl (by kernel_rfl) (by kernel_rfl) (by kernel_rfl) (fun _ _ _ h => h) (Or.inl ⟨by rfl, ?_⟩) (by assumption) ?_
                  rotate_left
                  · (intro w9 hSw; (try dsimp only at hSw); (go_split_ands; go_simp); (try with_reducible rfl))
                  try simp only [Act.put, List.setIfInBounds_toArray, List.set_cons_zero, List.set_cons_succ]
                  refine wpAnyH_take (i := 31) (oi := { dst := some 69, op := Op.fieldAddr 58 (Operand.tmp 8) 4, type := 0, pos := "wage.go:260", after := #[{ on := 26, ground := Ground.guard }], guard := some (26, false) }) (v := ?_) rfl (by kernel_rfl) (by kernel_rfl) (by kernel_rfl) (fun _ _ _ h => h) (Or.inl ⟨by rfl, ?_⟩) (by assumption) ?_
                  rotate_left
                  · (intro w9 hSw; (try dsimp only at hSw); (go_split_ands; go_simp); (try with_reducible rfl))
                  try simp only [Act.put, List.setIfInBounds_toArray, List.set_cons_zero, List.set_cons_succ]
                  refine wpAnyH_take (i := 32) (oi := { dst := some 70, op := Op.fieldAddr 29 (Operand.tmp 69) 0, type := 0, pos := "wage.go:260", after := #[{ on := 31, ground := Ground.data }, { on := 26, ground := Ground.guard }], guard := some (26, false) }) (v := ?_) rfl (by kernel_rfl) (by kernel_rfl) (by kernel_rfl) (fun _ _ _ h => h) (Or.inl ⟨by rfl, ?_⟩) (by assumption) ?_
                  rotate_left
                  · (intro w9 hSw; (try dsimp only at hSw); (go_split_ands; go_simp); (try with_reducible rfl))
                  try simp only [Act.put, List.setIfInBounds_toArray, List.set_cons_zero, List.set_cons_succ]
                  refine wpAnyH_take (i := 33) (oi := { dst := some 71, op := Op.load 3 (Operand.tmp 70), type := 3, pos := "wage.go:260", after := #[{ on := 32, ground := Ground.data }, { on := 26, ground := Ground.guard }], guard := some (26, false) }) (v := ?_) rfl (by kernel_rfl) (by kernel_rfl) (by kernel_rfl) (fun _ _ _ h => h) (Or.inl ⟨by rfl, ?_⟩) (by assumption) ?_
                  rotate_left
                  · (intro w9 hSw; (try dsimp only at hSw); (go_split_ands; go_simp); (try with_reducible rfl))
                  try simp only [Act.put, List.setIfInBounds_toArray, List.set_cons_zero, List.set_cons_succ]
                  refine wpAnyH_take (i := 34) (oi := { dst := some 72, op := Op.fieldAddr 58 (Operand.tmp 8) 4, type := 0, pos := "wage.go:260", after := #[{ on := 26, ground := Ground.guard }], guard := some (26, false) }) (v := ?_) rfl (by kernel_rfl) (by kernel_rfl) (by kernel_rfl) (fun _ _ _ h => h) (Or.inl ⟨by rfl, ?_⟩) (by assumption) ?_
                  rotate_left
                  · (intro w9 hSw; (try dsimp only at hSw); (go_split_ands; go_simp); (try with_reducible rfl))
                  try simp only [Act.put, List.setIfInBounds_toArray, List.set_cons_zero, List.set_cons_succ]
                  refine wpAnyH_take (i := 35) (oi := { dst := some 73, op := Op.fieldAddr 29 (Operand.tmp 72) 1, type := 0, pos := "wage.go:260", after := #[{ on := 34, ground := Ground.data }, { on := 26, ground := Ground.guard }], guard := some (26, false) }) (v := ?_) rfl (by kernel_rfl) (by kernel_rfl) (by kernel_rfl) (fun _ _ _ h => h) (Or.inl ⟨by rfl, ?_⟩) (by assumption) ?_
                  rotate_left
                  · (intro w9 hSw; (try dsimp only at hSw); (go_split_ands; go_simp); (try with_reducible rfl))
                  try simp only [Act.put, List.setIfInBounds_toArray, List.set_cons_zero, List.set_cons_succ]
                  refine wpAnyH_take (i := 36) (oi := { dst := some 74, op := Op.load 3 (Operand.tmp 73), type := 3, pos := "wage.go:260", after := #[{ on := 35, ground := Ground.data }, { on := 26, ground := Ground.guard }], guard := some (26, false) }) (v := ?_) rfl (by kernel_rfl) (by kernel_rfl) (by kernel_rfl) (fun _ _ _ h => h) (Or.inl ⟨by rfl, ?_⟩) (by assumption) ?_
                  rotate_left
                  · (intro w9 hSw; (try dsimp only at hSw); (go_split_ands; go_simp); (try with_reducible rfl))
                  try simp only [Act.put, List.setIfInBounds_toArray, List.set_cons_zero, List.set_cons_succ]
                  refine wpAnyH_ready (rs := [37]) (by kernel_rfl) (by simp) ?_
                  refine AllReadyH.cons (o := { dst := some 75, op := Op.call { callee := Callee.value (Operand.func 57), args := #[Operand.tmp 68, Operand.tmp 71, Operand.tmp 74], argTypes := #[3, 3, 3] }, type := 4, pos := "wage.go:260", after := #[{ on := 30, ground := Ground.data }, { on := 33, ground := Ground.data }, { on := 36, ground := Ground.data }, { on := 26, ground := Ground.chain }, { on := 26, ground := Ground.guard }], guard := some (26, false) }) rfl (fun K hK => ?_) AllReadyH.nil
                  go_simp
                  go_at_call 57; refine (within_any _ _ _ _).mono ?_; rintro e w3 ⟨rfl, rfl⟩
                  go_wp2_with fail
                  refine hK.out _ _ ?_ (fun hHeld => ?_)
                  · assumption
                  clear hK K
                  try simp only [Act.put, List.setIfInBounds_toArray, List.set_cons_zero, List.set_cons_succ]
                  refine wpAnyH_take (i := 38) (oi := { dst := some 76, op := Op.unOp UnOp.not 4 (Operand.tmp 75), type := 4, pos := "wage.go:260", after := #[{ on := 37, ground := Ground.data }, { on := 26, ground := Ground.guard }], guard := some (26, false) }) (v := ?_) rfl (by kernel_rfl) (by kernel_rfl) (by kernel_rfl) (fun _ _ _ h => h) (Or.inl ⟨by rfl, ?_⟩) (by assumption) ?_
                  rotate_left
                  · (intro w9 hSw; (try dsimp only at hSw); (go_split_ands; go_simp); (try with_reducible rfl))
                  try simp only [Act.put, List.setIfInBounds_toArray, List.set_cons_zero, List.set_cons_succ]
                  refine wpAnyH_take (i := 39) (oi := { dst := some 77, op := Op.pick (Operand.tmp 64) (Operand.const (Value.bool true)) (Operand.tmp 76), type := 4, pos := "wage.go:260", after := #[{ on := 26, ground := Ground.data }, { on := 38, ground := Ground.data }], guard := none }) (v := ?_) rfl (by kernel_rfl) (by kernel_rfl) (by kernel_rfl) (fun _ _ _ h => h) (Or.inl ⟨by rfl, ?_⟩) (by assumption) ?_
                  rotate_left
                  · (intro w9 hSw; (try dsimp only at hSw); (go_split_ands; go_simp); (try with_reducible rfl))
                  try simp only [Act.put, List.setIfInBounds_toArray, List.set_cons_zero, List.set_cons_succ]
                  refine wpAnyH_done (by kernel_rfl) ?_ _
                  go_wp2_with fail
                  go_ret
                  exact ⟨by rw [show exB tn tn tn tn T f g h = false from by simp only [exB, decide_true, Bool.true_and]; exact all_no hlt (by simp [exOk, c1, c2, c3])]; rfl, HI.out.bel.trans (HB.out.drew.mono (Nat.le_of_lt (lt_of_heap HI.out.bx)))⟩
              · refine wp_region_held_drew (S := (fun w' => (w'.cell? ⟨b1, 0, none⟩ = some (.slice fa tn fc) ∧ w'.cell? ⟨b2, 0, none⟩ = some (.slice ga tn gc) ∧ w'.cell? ⟨b3, 0, none⟩ = some (.slice ha tn hc) ∧ w'.cell? ⟨blk fa, ofs fa + k, none⟩ = some (.int .i64 (f k)) ∧ w'.cell? ⟨blk ga, ofs ga + k, none⟩ = some (.int .i64 (g k)) ∧ w'.cell? ⟨blk ha, ofs ha + k, none⟩ = some (.int .i64 (h k)) ∧ w'.cell? ⟨wr.heap.size, 2, none⟩ = some (.int .i64 (T k).fl) ∧ w'.cell? ⟨wr.heap.size, 3, none⟩ = some (.int .i64 (T k).fh) ∧ w'.cell? ⟨wr.heap.size, 4, none⟩ = some (.int .i64 (T k).tl) ∧ w'.cell? ⟨wr.heap.size, 5, none⟩ = some (.int .i64 (T k).th) ∧ w'.cell? ⟨wr.heap.size, 6, none⟩ = some (.int .i64 (T k).dl) ∧ w'.cell? ⟨wr.heap.size, 7, none⟩ = some (.int .i64 (T k).dh)))) (by kernel_rfl) D0.out (fun hHeld => ?_)
                refine wpAnyH_take (i := 0) (oi := { dst := some 38, op := Op.load 37 (Operand.tmp 1), type := 37, pos := "wage.go:260", after := #[], guard := none }) (v := ?_) rfl (by kernel_rfl) (by kernel_rfl) (by kernel_rfl) (fun _ _ _ h => h) (Or.inl ⟨by rfl, ?_⟩) (by assumption) ?_
                rotate_left
                · (intro w9 hSw; (try dsimp only at hSw); (go_split_ands; go_simp); (try with_reducible rfl))
                try simp only [Act.put, List.setIfInBounds_toArray, List.set_cons_zero, List.set_cons_succ]
                refine wpAnyH_take (i := 1) (oi := { dst := some 39, op := Op.move (Operand.tmp 7), type := 3, pos := "wage.go:260", after := #[], guard := none }) (v := ?_) rfl (by kernel_rfl) (by kernel_rfl) (by kernel_rfl) (fun _ _ _ h => h) (Or.inl ⟨by rfl, ?_⟩) (by assumption) ?_
                rotate_left
                · (intro w9 hSw; (try dsimp only at hSw); (go_split_ands; go_simp); (try with_reducible rfl))
                try simp only [Act.put, List.setIfInBounds_toArray, List.set_cons_zero, List.set_cons_succ]
                refine wpAnyH_take (i := 2) (oi := { dst := some 40, op := Op.indexAddr 37 (Operand.tmp 38) (Operand.tmp 39), type := 0, pos := "wage.go:260", after := #[{ on := 0, ground := Ground.data }, { on := 1, ground := Ground.data }], guard := none }) (v := ?_) rfl (by kernel_rfl) (by kernel_rfl) (by kernel_rfl) (fun _ _ _ h => h) (Or.inl ⟨by rfl, ?_⟩) (by assumption) ?_
                rotate_left
                · (intro w9 hSw; (try dsimp only at hSw); (go_split_ands; go_simp); (try with_reducible rfl))
                try simp only [Act.put, List.setIfInBounds_toArray, List.set_cons_zero, List.set_cons_succ]
                refine wpAnyH_take (i := 3) (oi := { dst := some 41, op := Op.load 3 (Operand.tmp 40), type := 3, pos := "wage.go:260", after := #[{ on := 2, ground := Ground.data }], guard := none }) (v := ?_) rfl (by kernel_rfl) (by kernel_rfl) (by kernel_rfl) (fun _ _ _ h => h) (Or.inl ⟨by rfl, ?_⟩) (by assumption) ?_
                rotate_left
                · (intro w9 hSw; (try dsimp only at hSw); (go_split_ands; go_simp); (try with_reducible rfl))
                try simp only [Act.put, List.setIfInBounds_toArray, List.set_cons_zero, List.set_cons_succ]
                refine wpAnyH_take (i := 4) (oi := { dst := some 42, op := Op.fieldAddr 58 (Operand.tmp 8) 2, type := 0, pos := "wage.go:260", after := #[], guard := none }) (v := ?_) rfl (by kernel_rfl) (by kernel_rfl) (by kernel_rfl) (fun _ _ _ h => h) (Or.inl ⟨by rfl, ?_⟩) (by assumption) ?_
                rotate_left
                · (intro w9 hSw; (try dsimp only at hSw); (go_split_ands; go_simp); (try with_reducible rfl))
                try simp only [Act.put, List.setIfInBounds_toArray, List.set_cons_zero, List.set_cons_succ]
                refine wpAnyH_take (i := 5) (oi := { dst := some 43, op := Op.fieldAddr 29 (Operand.tmp 42) 0, type := 0, pos := "wage.go:260", after := #[{ on := 4, ground := Ground.data }], guard := none }) (v := ?_) rfl (by kernel_rfl) (by kernel_rfl) (by kernel_rfl) (fun _ _ _ h => h) (Or.inl ⟨by rfl, ?_⟩) (by assumption) ?_
                rotate_left
                · (intro w9 hSw; (try dsimp only at hSw); (go_split_ands; go_simp); (try with_reducible rfl))
                try simp only [Act.put, List.setIfInBounds_toArray, List.set_cons_zero, List.set_cons_succ]
                refine wpAnyH_take (i := 6) (oi := { dst := some 44, op := Op.load 3 (Operand.tmp 43), type := 3, pos := "wage.go:260", after := #[{ on := 5, ground := Ground.data }], guard := none }) (v := ?_) rfl (by kernel_rfl) (by kernel_rfl) (by kernel_rfl) (fun _ _ _ h => h) (Or.inl ⟨by rfl, ?_⟩) (by assumption) ?_
                rotate_left
                · (intro w9 hSw; (try dsimp only at hSw); (go_split_ands; go_simp); (try with_reducible rfl))
                try simp only [Act.put, List.setIfInBounds_toArray, List.set_cons_zero, List.set_cons_succ]
                refine wpAnyH_take (i := 7) (oi := { dst := some 45, op := Op.fieldAddr 58 (Operand.tmp 8) 2, type := 0, pos := "wage.go:260", after := #[], guard := none }) (v := ?_) rfl (by kernel_rfl) (by kernel_rfl) (by kernel_rfl) (fun _ _ _ h => h) (Or.inl ⟨by rfl, ?_⟩) (by assumption) ?_
                rotate_left
                · (intro w9 hSw; (try dsimp only at hSw); (go_split_ands; go_simp); (try with_reducible rfl))
                try simp only [Act.put, List.setIfInBounds_toArray, List.set_cons_zero, List.set_cons_succ]
                refine wpAnyH_take (i := 8) (oi := { dst := some 46, op := Op.fieldAddr 29 (Operand.tmp 45) 1, type := 0, pos := "wage.go:260", after := #[{ on := 7, ground := Ground.data }], guard := none }) (v := ?_) rfl (by kernel_rfl) (by kernel_rfl) (by kernel_rfl) (fun _ _ _ h => h) (Or.inl ⟨by rfl, ?_⟩) (by assumption) ?_
                rotate_left
                · (intro w9 hSw; (try dsimp only at hSw); (go_split_ands; go_simp); (try with_reducible rfl))
                try simp only [Act.put, List.setIfInBounds_toArray, List.set_cons_zero, List.set_cons_succ]
                refine wpAnyH_take (i := 9) (oi := { dst := some 47, op := Op.load 3 (Operand.tmp 46), type := 3, pos := "wage.go:260", after := #[{ on := 8, ground := Ground.data }], guard := none }) (v := ?_) rfl (by kernel_rfl) (by kernel_rfl) (by kernel_rfl) (fun _ _ _ h => h) (Or.inl ⟨by rfl, ?_⟩) (by assumption) ?_
                rotate_left
                · (intro w9 hSw; (try dsimp only at hSw); (go_split_ands; go_simp); (try with_reducible rfl))
                try simp only [Act.put, List.setIfInBounds_toArray, List.set_cons_zero, List.set_cons_succ]
                refine wpAnyH_ready (rs := [10]) (by kernel_rfl) (by simp) ?_
                refine AllReadyH.cons (o := { dst := some 48, op := Op.call { callee := Callee.value (Operand.func 57), args := #[Operand.tmp 41, Operand.tmp 44, Operand.tmp 47], argTypes := #[3, 3, 3] }, type := 4, pos := "wage.go:260", after := #[{ on := 3, ground := Ground.data }, { on := 6, ground := Ground.data }, { on := 9, ground := Ground.data }], guard := none }) rfl (fun K hK => ?_) AllReadyH.nil
                go_simp
                go_at_call 57; refine (within_any _ _ _ _).mono ?_; rintro e w3 ⟨rfl, rfl⟩
                go_wp2_with fail
                refine hK.out _ _ ?_ (fun hHeld => ?_)
                · assumption
                clear hK K
                try simp only [Act.put, List.setIfInBounds_toArray, List.set_cons_zero, List.set_cons_succ]
                refine wpAnyH_take (i := 11) (oi := { dst := some 49, op := Op.unOp UnOp.not 4 (Operand.tmp 48), type := 4, pos := "wage.go:260", after := #[{ on := 10, ground := Ground.data }], guard := none }) (v := ?_) rfl (by kernel_rfl) (by kernel_rfl) (by kernel_rfl) (fun _ _ _ h => h) (Or.inl ⟨by rfl, ?_⟩) (by assumption) ?_
                rotate_left
                · (intro w9 hSw; (try dsimp only at hSw); (go_split_ands; go_simp); (try with_reducible rfl))
                try simp only [Act.put, List.setIfInBounds_toArray, List.set_cons_zero, List.set_cons_succ]
                refine wpAnyH_take (i := 12) (oi := { dst := some 50, op := Op.move (Operand.tmp 49), type := 4, pos := "wage.go:260", after := #[{ on := 11, ground := Ground.data }, { on := 10, ground := Ground.chain }], guard := none }) (v := ?_) rfl (by kernel_rfl) (by kernel_rfl) (by kernel_rfl) (fun _ _ _ h => h) (Or.inl ⟨by rfl, ?_⟩) (by assumption) ?_
                rotate_left
                · (intro w9 hSw; (try dsimp only at hSw); (go_split_ands; go_simp); (try with_reducible rfl))
                try simp only [Act.put, List.setIfInBounds_toArray, List.set_cons_zero, List.set_cons_succ]
                refine wpAnyH_take (i := 13) (oi := { dst := some 51, op := Op.load 37 (Operand.tmp 2), type := 37, pos := "wage.go:260", after := #[{ on := 12, ground := Ground.guard }], guard := some (12, false) }) (v := ?_) rfl (by kernel_rfl) (by kernel_rfl) (by kernel_rfl) (fun _ _ _ h => h) (Or.inl ⟨by rfl, ?_⟩) (by assumption) ?_
                rotate_left
                · (intro w9 hSw; (try dsimp only at hSw); (go_split_ands; go_simp); (try with_reducible rfl))
                try simp only [Act.put, List.setIfInBounds_toArray, List.set_cons_zero, List.set_cons_succ]
                refine wpAnyH_take (i := 14) (oi := { dst := some 52, op := Op.move (Operand.tmp 7), type := 3, pos := "wage.go:260", after := #[{ on := 12, ground := Ground.guard }], guard := some (12, false) }) (v := ?_) rfl (by kernel_rfl) (by kernel_rfl) (by kernel_rfl) (fun _ _ _ h => h) (Or.inl ⟨by rfl, ?_⟩) (by assumption) ?_
                rotate_left
                · (intro w9 hSw; (try dsimp only at hSw); (go_split_ands; go_simp); (try with_reducible rfl))
                try simp only [Act.put, List.setIfInBounds_toArray, List.set_cons_zero, List.set_cons_succ]
                refine wpAnyH_take (i := 15) (oi := { dst := some 53, op := Op.indexAddr 37 (Operand.tmp 51) (Operand.tmp 52), type := 0, pos := "wage.go:260", after := #[{ on := 13, ground := Ground.data }, { on := 14, ground := Ground.data }, { on := 12, ground := Ground.guard }], guard := some (12, false) }) (v := ?_) rfl (by kernel_rfl) (by kernel_rfl) (by kernel_rfl) (fun _ _ _ h => h) (Or.inl ⟨by rfl, ?_⟩) (by assumption) ?_
                rotate_left
                · (intro w9 hSw; (try dsimp only at hSw); (go_split_ands; go_simp); (try with_reducible rfl))
                try simp only [Act.put, List.setIfInBounds_toArray, List.set_cons_zero, List.set_cons_succ]
                refine wpAnyH_take (i := 16) (oi := { dst := some 54, op := Op.load 3 (Operand.tmp 53), type := 3, pos := "wage.go:260", after := #[{ on := 15, ground := Ground.data }, { on := 12, ground := Ground.guard }], guard := some (12, false) }) (v := ?_) rfl (by kernel_rfl) (by kernel_rfl) (by kernel_rfl) (fun _ _ _ h => h) (Or.inl ⟨by rfl, ?_⟩) (by assumption) ?_
                rotate_left
                · (intro w9 hSw; (try dsimp only at hSw); (go_split_ands; go_simp); (try with_reducible rfl))
                try simp only [Act.put, List.setIfInBounds_toArray, List.set_cons_zero, List.set_cons_succ]
                refine wpAnyH_take (i := 17) (oi := { dst := some 55, op := Op.fieldAddr 58 (Operand.tmp 8) 3, type := 0, pos := "wage.go:260", after := #[{ on := 12, ground := Ground.guard }], guard := some (12, false) }) (v := ?_) rfl (by kernel_rfl) (by kernel_rfl) (by kernel_rfl) (fun _ _ _ h => h) (Or.inl ⟨by rfl, ?_⟩) (by assumption) ?_
                rotate_left
                · (intro w9 hSw; (try dsimp only at hSw); (go_split_ands; go_simp); (try with_reducible rfl))
                try simp only [Act.put, List.setIfInBounds_toArray, List.set_cons_zero, List.set_cons_succ]
                refine wpAnyH_take (i := 18) (oi := { dst := some 56, op := Op.fieldAddr 29 (Operand.tmp 55) 0, type := 0, pos := "wage.go:260", after := #[{ on := 17, ground := Ground.data }, { on := 12, ground := Ground.guard }], guard := some (12, false) }) (v := ?_) rfl (by kernel_rfl) (by kernel_rfl) (by kernel_rfl) (fun _ _ _ h => h) (Or.inl ⟨by rfl, ?_⟩) (by assumption) ?_
                rotate_left
                · (intro w9 hSw; (try dsimp only at hSw); (go_split_ands; go_simp); (try with_reducible rfl))
                try simp only [Act.put, List.setIfInBounds_toArray, List.set_cons_zero, List.set_cons_succ]
                refine wpAnyH_take (i := 19) (oi := { dst := some 57, op := Op.load 3 (Operand.tmp 56), type := 3, pos := "wage.go:260", after := #[{ on := 18, ground := Ground.data }, { on := 12, ground := Ground.guard }], guard := some (12, false) }) (v := ?_) rfl (by kernel_rfl) (by kernel_rfl) (by kernel_rfl) (fun _ _ _ h => h) (Or.inl ⟨by rfl, ?_⟩) (by assumption) ?_
                rotate_left
                · (intro w9 hSw; (try dsimp only at hSw); (go_split_ands; go_simp); (try with_reducible rfl))
                try simp only [Act.put, List.setIfInBounds_toArray, List.set_cons_zero, List.set_cons_succ]
                refine wpAnyH_take (i := 20) (oi := { dst := some 58, op := Op.fieldAddr 58 (Operand.tmp 8) 3, type := 0, pos := "wage.go:260", after := #[{ on := 12, ground := Ground.guard }], guard := some (12, false) }) (v := ?_) rfl (by kernel_rfl) (by kernel_rfl) (by kernel_rfl) (fun _ _ _ h => h) (Or.inl ⟨by rfl, ?_⟩) (by assumption) ?_
                rotate_left
                · (intro w9 hSw; (try dsimp only at hSw); (go_split_ands; go_simp); (try with_reducible rfl))
                try simp only [Act.put, List.setIfInBounds_toArray, List.set_cons_zero, List.set_cons_succ]
                refine wpAnyH_take (i := 21) (oi := { dst := some 59, op := Op.fieldAddr 29 (Operand.tmp 58) 1, type := 0, pos := "wage.go:260", after := #[{ on := 20, ground := Ground.data }, { on := 12, ground := Ground.guard }], guard := some (12, false) }) (v := ?_) rfl (by kernel_rfl) (by kernel_rfl) (by kernel_rfl) (fun _ _ _ h => h) (Or.inl ⟨by rfl, ?_⟩) (by assumption) ?_
                rotate_left
                · (intro w9 hSw; (try dsimp only at hSw); (go_split_ands; go_simp); (try with_reducible rfl))
                try simp only [Act.put, List.setIfInBounds_toArray, List.set_cons_zero, List.set_cons_succ]
                refine wpAnyH_take (i := 22) (oi := { dst := some 60, op := Op.load 3 (Operand.tmp 59), type := 3, pos := "wage.go:260", after := #[{ on := 21, ground := Ground.data }, { on := 12, ground := Ground.guard }], guard := some (12, false) }) (v := ?_) rfl (by kernel_rfl) (by kernel_rfl) (by kernel_rfl) (fun _ _ _ h => h) (Or.inl ⟨by rfl, ?_⟩) (by assumption) ?_
                rotate_left
                · (intro w9 hSw; (try dsimp only at hSw); (go_split_ands; go_simp); (try with_reducible rfl))
                try simp only [Act.put, List.setIfInBounds_toArray, List.set_cons_zero, List.set_cons_succ]
                refine wpAnyH_ready (rs := [23]) (by kernel_rfl) (by simp) ?_
                refine AllReadyH.cons (o := { dst := some 61, op := Op.call { callee := Callee.value (Operand.func 57), args := #[Operand.tmp 54, Operand.tmp 57, Operand.tmp 60], argTypes := #[3, 3, 3] }, type := 4, pos := "wage.go:260", after := #[{ on := 16, ground := Ground.data }, { on := 19, ground := Ground.data }, { on := 22, ground := Ground.data }, { on := 12, ground := Ground.chain }, { on := 12, ground := Ground.guard }], guard := some (12, false) }) rfl (fun K hK => ?_) AllReadyH.nil
                go_simp
                go_at_call 57; refine (within_any _ _ _ _).mono ?_; rintro e w3 ⟨rfl, rfl⟩
                go_wp2_with fail
                refine hK.out _ _ ?_ (fun hHeld => ?_)
                · assumption
                clear hK K
                try simp only [Act.put, List.setIfInBounds_toArray, List.set_cons_zero, List.set_cons_succ]
                refine wpAnyH_take (i := 24) (oi := { dst := some 62, op := Op.unOp UnOp.not 4 (Operand.tmp 61), type := 4, pos := "wage.go:260", after := #[{ on := 23, ground := Ground.data }, { on := 12, ground := Ground.guard }], guard := some (12, false) }) (v := ?_) rfl (by kernel_rfl) (by kernel_rfl) (by kernel_rfl) (fun _ _ _ h => h) (Or.inl ⟨by rfl, ?_⟩) (by assumption) ?_
                rotate_left
                · (intro w9 hSw; (try dsimp only at hSw); (go_split_ands; go_simp); (try with_reducible rfl))
                try simp only [Act.put, List.setIfInBounds_toArray, List.set_cons_zero, List.set_cons_succ]
                refine wpAnyH_take (i := 25) (oi := { dst := some 63, op := Op.pick (Operand.tmp 50) (Operand.const (Value.bool true)) (Operand.tmp 62), type := 4, pos := "wage.go:260", after := #[{ on := 12, ground := Ground.data }, { on := 24, ground := Ground.data }], guard := none }) (v := ?_) rfl (by kernel_rfl) (by kernel_rfl) (by kernel_rfl) (fun _ _ _ h => h) (Or.inl ⟨by rfl, ?_⟩) (by assumption) ?_
                rotate_left
                · (intro w9 hSw; (try dsimp only at hSw); (go_split_ands; go_simp); (try with_reducible rfl))
                try simp only [Act.put, List.setIfInBounds_toArray, List.set_cons_zero, List.set_cons_succ]
                refine wpAnyH_take (i := 26) (oi := { dst := some 64, op := Op.move (Operand.tmp 63), type := 4, pos := "wage.go:260", after := #[{ on := 25, ground := Ground.data }, { on := 23, ground := Ground.chain }], guard := none }) (v := ?_) rfl (by kernel_rfl) (by kernel_rfl) (by kernel_rfl) (fun _ _ _ h => h) (Or.inl ⟨by rfl, ?_⟩) (by assumption) ?_
                rotate_left
                · (intro w9 hSw; (try dsimp only at hSw); (go_split_ands; go_simp); (try with_reducible rfl))
                try simp only [Act.put, List.setIfInBounds_toArray, List.set_cons_zero, List.set_cons_succ]
                refine wpAnyH_take (i := 27) (oi := { dst := some 65, op := Op.load 37 (Operand.tmp 3), type := 37, pos := "wage.go:260", after := #[{ on := 26, ground := Ground.guard }], guard := some (26, false) }) (v := undef) rfl (by kernel_rfl) (by kernel_rfl) (by kernel_rfl) (fun _ _ _ h => h) (Or.inr ⟨by rfl, rfl⟩) (by assumption) ?_
                try simp only [Act.put, List.setIfInBounds_toArray, List.set_cons_zero, List.set_cons_succ]
                refine wpAnyH_take (i := 28) (oi := { dst := some 66, op := Op.move (Operand.tmp 7), type := 3, pos := "wage.go:260", after := #[{ on := 26, ground := Ground.guard }], guard := some (26, false) }) (v := undef) rfl (by kernel_rfl) (by kernel_rfl) (by kernel_rfl) (fun _ _ _ h => h) (Or.inr ⟨by rfl, rfl⟩) (by assumption) ?_
                try simp only [Act.put, List.setIfInBounds_toArray, List.set_cons_zero, List.set_cons_succ]
                refine wpAnyH_take (i := 29) (oi := { dst := some 67, op := Op.indexAddr 37 (Operand.tmp 65) (Operand.tmp 66), type := 0, pos := "wage.go:260", after := #[{ on := 27, ground := Ground.data }, { on := 28, ground := Ground.data }, { on := 26, ground := Ground.guard }], guard := some (26, false) }) (v := undef) rfl (by kernel_rfl) (by kernel_rfl) (by kernel_rfl) (fun _ _ _ h => h) (Or.inr ⟨by rfl, rfl⟩) (by assumption) ?_
                try simp only [Act.put, List.setIfInBounds_toArray, List.set_cons_zero, List.set_cons_succ]
                refine wpAnyH_take (i := 30) (oi := { dst := some 68, op := Op.load 3 (Operand.tmp 67), type := 3, pos := "wage.go:260", after := #[{ on := 29, ground := Ground.data }, { on := 26, ground := Ground.guard }], guard := some (26, false) }) (v := undef) rfl (by kernel_rfl) (by kernel_rfl) (by kernel_rfl) (fun _ _ _ h => h) (Or.inr ⟨by rfl, rfl⟩) (by assumption) ?_
                try simp only [Act.put, List.setIfInBounds_toArray, List.set_cons_zero, List.set_cons_succ]
                refine wpAnyH_take (i := 31) (oi := { dst := some 69, op := Op.fieldAddr 58 (Operand.tmp 8) 4, type := 0, pos := "wage.go:260", after := #[{ on := 26, ground := Ground.guard }], guard := some (26, false) }) (v := undef) rfl (by kernel_rfl) (by kernel_rfl) (by kernel_rfl) (fun _ _ _ h => h) (Or.inr ⟨by rfl, rfl⟩) (by assumption) ?_
                try simp only [Act.put, List.setIfInBounds_toArray, List.set_cons_zero, List.set_cons_succ]
                refine wpAnyH_take (i := 32) (oi := { dst := some 70, op := Op.fieldAddr 29 (Operand.tmp 69) 0, type := 0, pos := "wage.go:260", after := #[{ on := 31, ground := Ground.data }, { on := 26, ground := Ground.guard }], guard := some (26, false) }) (v := undef) rfl (by kernel_rfl) (by kernel_rfl) (by kernel_rfl) (fun _ _ _ h => h) (Or.inr ⟨by rfl, rfl⟩) (by assumption) ?_
                try simp only [Act.put, List.setIfInBounds_toArray, List.set_cons_zero, List.set_cons_succ]
                refine wpAnyH_take (i := 33) (oi := { dst := some 71, op := Op.load 3 (Operand.tmp 70), type := 3, pos := "wage.go:260", after := #[{ on := 32, ground := Ground.data }, { on := 26, ground := Ground.guard }], guard := some (26, false) }) (v := undef) rfl (by kernel_rfl) (by kernel_rfl) (by kernel_rfl) (fun _ _ _ h => h) (Or.inr ⟨by rfl, rfl⟩) (by assumption) ?_
                try simp only [Act.put, List.setIfInBounds_toArray, List.set_cons_zero, List.set_cons_succ]
                refine wpAnyH_take (i := 34) (oi := { dst := some 72, op := Op.fieldAddr 58 (Operand.tmp 8) 4, type := 0, pos := "wage.go:260", after := #[{ on := 26, ground := Ground.guard }], guard := some (26, false) }) (v := undef) rfl (by kernel_rfl) (by kernel_rfl) (by kernel_rfl) (fun _ _ _ h => h) (Or.inr ⟨by rfl, rfl⟩) (by assumption) ?_
                try simp only [Act.put, List.setIfInBounds_toArray, List.set_cons_zero, List.set_cons_succ]
                refine wpAnyH_take (i := 35) (oi := { dst := some 73, op := Op.fieldAddr 29 (Operand.tmp 72) 1, type := 0, pos := "wage.go:260", after := #[{ on := 34, ground := Ground.data }, { on := 26, ground := Ground.guard }], guard := some (26, false) }) (v := undef) rfl (by kernel_rfl) (by kernel_rfl) (by kernel_rfl) (fun _ _ _ h => h) (Or.inr ⟨by rfl, rfl⟩) (by assumption) ?_
                try simp only [Act.put, List.setIfInBounds_toArray, List.set_cons_zero, List.set_cons_succ]
                refine wpAnyH_take (i := 36) (oi := { dst := some 74, op := Op.load 3 (Operand.tmp 73), type := 3, pos := "wage.go:260", after := #[{ on := 35, ground := Ground.data }, { on := 26, ground := Ground.guard }], guard := some (26, false) }) (v := undef) rfl (by kernel_rfl) (by kernel_rfl) (by kernel_rfl) (fun _ _ _ h => h) (Or.inr ⟨by rfl, rfl⟩) (by assumption) ?_
                try simp only [Act.put, List.setIfInBounds_toArray, List.set_cons_zero, List.set_cons_succ]
                refine wpAnyH_take (i := 37) (oi := { dst := some 75, op := Op.call { callee := Callee.value (Operand.func 57), args := #[Operand.tmp 68, Operand.tmp 71, Operand.tmp 74], argTypes := #[3, 3, 3] }, type := 4, pos := "wage.go:260", after := #[{ on := 30, ground := Ground.data }, { on := 33, ground := Ground.data }, { on := 36, ground := Ground.data }, { on := 26, ground := Ground.chain }, { on := 26, ground := Ground.guard }], guard := some (26, false) }) (v := undef) rfl (by kernel_rfl) (by kernel_rfl) (by kernel_rfl) (fun _ _ _ h => h) (Or.inr ⟨by rfl, rfl⟩) (by assumption) ?_
                try simp only [Act.put, List.setIfInBounds_toArray, List.set_cons_zero, List.set_cons_succ]
                refine wpAnyH_take (i := 38) (oi := { dst := some 76, op := Op.unOp UnOp.not 4 (Operand.tmp 75), type := 4, pos := "wage.go:260", after := #[{ on := 37, ground := Ground.data }, { on := 26, ground := Ground.guard }], guard := some (26, false) }) (v := undef) rfl (by kernel_rfl) (by kernel_rfl) (by kernel_rfl) (fun _ _ _ h => h) (Or.inr ⟨by rfl, rfl⟩) (by assumption) ?_
                try simp only [Act.put, List.setIfInBounds_toArray, List.set_cons_zero, List.set_cons_succ]
                refine wpAnyH_take (i := 39) (oi := { dst := some 77, op := Op.pick (Operand.tmp 64) (Operand.const (Value.bool true)) (Operand.tmp 76), type := 4, pos := "wage.go:260", after := #[{ on := 26, ground := Ground.data }, { on := 38, ground := Ground.data }], guard := none }) (v := ?_) rfl (by kernel_rfl) (by kernel_rfl) (by kernel_rfl) (fun _ _ _ h => h) (Or.inl ⟨by rfl, ?_⟩) (by assumption) ?_
                rotate_left
                · (intro w9 hSw; (try dsimp only at hSw); (go_split_ands; go_simp); (try with_reducible rfl))
                try simp only [Act.put, List.setIfInBounds_toArray, List.set_cons_zero, List.set_cons_succ]
                refine wpAnyH_done (by kernel_rfl) ?_ _
                go_wp2_with fail
                go_ret
                exact ⟨by rw [show exB tn tn tn tn T f g h = false from by simp only [exB, decide_true, Bool.true_and]; exact all_no hlt (by simp [exOk, c1, c2])]; rfl, HI.out.bel.trans (HB.out.drew.mono (Nat.le_of_lt (lt_of_heap HI.out.bx)))⟩
            · refine wp_region_held_drew (S := (fun w' => (w'.cell? ⟨b1, 0, none⟩ = some (.slice fa tn fc) ∧ w'.cell? ⟨b2, 0, none⟩ = some (.slice ga tn gc) ∧ w'.cell? ⟨b3, 0, none⟩ = some (.slice ha tn hc) ∧ w'.cell? ⟨blk fa, ofs fa + k, none⟩ = some (.int .i64 (f k)) ∧ w'.cell? ⟨blk ga, ofs ga + k, none⟩ = some (.int .i64 (g k)) ∧ w'.cell? ⟨blk ha, ofs ha + k, none⟩ = some (.int .i64 (h k)) ∧ w'.cell? ⟨wr.heap.size, 2, none⟩ = some (.int .i64 (T k).fl) ∧ w'.cell? ⟨wr.heap.size, 3, none⟩ = some (.int .i64 (T k).fh) ∧ w'.cell? ⟨wr.heap.size, 4, none⟩ = some (.int .i64 (T k).tl) ∧ w'.cell? ⟨wr.heap.size, 5, none⟩ = some (.int .i64 (T k).th) ∧ w'.cell? ⟨wr.heap.size, 6, none⟩ = some (.int .i64 (T k).dl) ∧ w'.cell? ⟨wr.heap.size, 7, none⟩ = some (.int .i64 (T k).dh)))) (by kernel_rfl) D0.out (fun hHeld => ?_)
              refine wpAnyH_take (i := 0) (oi := { dst := some 38, op := Op.load 37 (Operand.tmp 1), type := 37, pos := "wage.go:260", after := #[], guard := none }) (v := ?_) rfl (by kernel_rfl) (by kernel_rfl) (by kernel_rfl) (fun _ _ _ h => h) (Or.inl ⟨by rfl, ?_⟩) (by assumption) ?_
              rotate_left
              · (intro w9 hSw; (try dsimp only at hSw); (go_split_ands; go_simp); (try with_reducible rfl))
              try simp only [Act.put, List.setIfInBounds_toArray, List.set_cons_zero, List.set_cons_succ]
              refine wpAnyH_take (i := 1) (oi := { dst := some 39, op := Op.move (Operand.tmp 7), type := 3, pos := "wage.go:260", after := #[], guard := none }) (v := ?_) rfl (by kernel_rfl) (by kernel_rfl) (by kernel_rfl) (fun _ _ _ h => h) (Or.inl ⟨by rfl, ?_⟩) (by assumption) ?_
              rotate_left
              · (intro w9 hSw; (try dsimp only at hSw); (go_split_ands; go_simp); (try with_reducible rfl))
              try simp only [Act.put, List.setIfInBounds_toArray, List.set_cons_zero, List.set_cons_succ]
              refine wpAnyH_take (i := 2) (oi := { dst := some 40, op := Op.indexAddr 37 (Operand.tmp 38) (Operand.tmp 39), type := 0, pos := "wage.go:260", after := #[{ on := 0, ground := Ground.data }, { on := 1, ground := Ground.data }], guard := none }) (v := ?_) rfl (by kernel_rfl) (by kernel_rfl) (by kernel_rfl) (fun _ _ _ h => h) (Or.inl ⟨by rfl, ?_⟩) (by assumption) ?_
              rotate_left
              · (intro w9 hSw; (try dsimp only at hSw); (go_split_ands; go_simp); (try with_reducible rfl))
              try simp only [Act.put, List.setIfInBounds_toArray, List.set_cons_zero, List.set_cons_succ]
              refine wpAnyH_take (i := 3) (oi := { dst := some 41, op := Op.load 3 (Operand.tmp 40), type := 3, pos := "wage.go:260", after := #[{ on := 2, ground := Ground.data }], guard := none }) (v := ?_) rfl (by kernel_rfl) (by kernel_rfl) (by kernel_rfl) (fun _ _ _ h => h) (Or.inl ⟨by rfl, ?_⟩) (by assumption) ?_
              rotate_left
              · (intro w9 hSw; (try dsimp only at hSw); (go_split_ands; go_simp); (try with_reducible rfl))
              try simp only [Act.put, List.setIfInBounds_toArray, List.set_cons_zero, List.set_cons_succ]
              refine wpAnyH_take (i := 4) (oi := { dst := some 42, op := Op.fieldAddr 58 (Operand.tmp 8) 2, type := 0, pos := "wage.go:260", after := #[], guard := none }) (v := ?_) rfl (by kernel_rfl) (by kernel_rfl) (by kernel_rfl) (fun _ _ _ h => h) (Or.inl ⟨by rfl, ?_⟩) (by assumption) ?_
              rotate_left
              · (intro w9 hSw; (try dsimp only at hSw); (go_split_ands; go_simp); (try with_reducible rfl))
              try simp only [Act.put, List.setIfInBounds_toArray, List.set_cons_zero, List.set_cons_succ]
              refine wpAnyH_take (i := 5) (oi := { dst := some 43, op := Op.fieldAddr 29 (Operand.tmp 42) 0, type := 0, pos := "wage.go:260", after := #[{ on := 4, ground := Ground.data }], guard := none }) (v := ?_) rfl (by kernel_rfl) (by kernel_rfl) (by kernel_rfl) (fun _ _ _ h => h) (Or.inl ⟨by rfl, ?_⟩) (by assumption) ?_
              rotate_left
              · (intro w9 hSw; (try dsimp only at hSw); (go_split_ands; go_simp); (try with_reducible rfl))
              try simp only [Act.put, List.setIfInBounds_toArray, List.set_cons_zero, List.set_cons_succ]
              refine wpAnyH_take (i := 6) (oi := { dst := some 44, op := Op.load 3 (Operand.tmp 43), type := 3, pos := "wage.go:260", after := #[{ on := 5, ground := Ground.data }], guard := none }) (v := ?_) rfl (by kernel_rfl) (by kernel_rfl) (by kernel_rfl) (fun _ _ _ h => h) (Or.inl ⟨by rfl, ?_⟩) (by assumption) ?_
              rotate_left
              · (intro w9 hSw; (try dsimp only at hSw); (go_split_ands; go_simp); (try with_reducible rfl))
              try simp only [Act.put, List.setIfInBounds_toArray, List.set_cons_zero, List.set_cons_succ]
              refine wpAnyH_take (i := 7) (oi := { dst := some 45, op := Op.fieldAddr 58 (Operand.tmp 8) 2, type := 0, pos := "wage.go:260", after := #[], guard := none }) (v := ?_) rfl (by kernel_rfl) (by kernel_rfl) (by kernel_rfl) (fun _ _ _ h => h) (Or.inl ⟨by rfl, ?_⟩) (by assumption) ?_
              rotate_left
              · (intro w9 hSw; (try dsimp only at hSw); (go_split_ands; go_simp); (try with_reducible rfl))
              try simp only [Act.put, List.setIfInBounds_toArray, List.set_cons_zero, List.set_cons_succ]
              refine wpAnyH_take (i := 8) (oi := { dst := some 46, op := Op.fieldAddr 29 (Operand.tmp 45) 1, type := 0, pos := "wage.go:260", after := #[{ on := 7, ground := Ground.data }], guard := none }) (v := ?_) rfl (by kernel_rfl) (by kernel_rfl) (by kernel_rfl) (fun _ _ _ h => h) (Or.inl ⟨by rfl, ?_⟩) (by assumption) ?_
              rotate_left
              · (intro w9 hSw; (try dsimp only at hSw); (go_split_ands; go_simp); (try with_reducible rfl))
              try simp only [Act.put, List.setIfInBounds_toArray, List.set_cons_zero, List.set_cons_succ]
              refine wpAnyH_take (i := 9) (oi := { dst := some 47, op := Op.load 3 (Operand.tmp 46), type := 3, pos := "wage.go:260", after := #[{ on := 8, ground := Ground.data }], guard := none }) (v := ?_) rfl (by kernel_rfl) (by kernel_rfl) (by kernel_rfl) (fun _ _ _ h => h) (Or.inl ⟨by rfl, ?_⟩) (by assumption) ?_
              rotate_left
              · (intro w9 hSw; (try dsimp only at hSw); (go_split_ands; go_simp); (try with_reducible rfl))
              try simp only [Act.put, List.setIfInBounds_toArray, List.set_cons_zero, List.set_cons_succ]
              refine wpAnyH_ready (rs := [10]) (by kernel_rfl) (by simp) ?_
              refine AllReadyH.cons (o := { dst := some 48, op := Op.call { callee := Callee.value (Operand.func 57), args := #[Operand.tmp 41, Operand.tmp 44, Operand.tmp 47], argTypes := #[3, 3, 3] }, type := 4, pos := "wage.go:260", after := #[{ on := 3, ground := Ground.data }, { on := 6, ground := Ground.data }, { on := 9, ground := Ground.data }], guard := none }) rfl (fun K hK => ?_) AllReadyH.nil
              go_simp
              go_at_call 57; refine (within_any _ _ _ _).mono ?_; rintro e w3 ⟨rfl, rfl⟩
              go_wp2_with fail
              refine hK.out _ _ ?_ (fun hHeld => ?_)
              · assumption
              clear hK K
              try simp only [Act.put, List.setIfInBounds_toArray, List.set_cons_zero, List.set_cons_succ]
              refine wpAnyH_take (i := 11) (oi := { dst := some 49, op := Op.unOp UnOp.not 4 (Operand.tmp 48), type := 4, pos := "wage.go:260", after := #[{ on := 10, ground := Ground.data }], guard := none }) (v := ?_) rfl (by kernel_rfl) (by kernel_rfl) (by kernel_rfl) (fun _ _ _ h => h) (Or.inl ⟨by rfl, ?_⟩) (by assumption) ?_
              rotate_left
              · (intro w9 hSw; (try dsimp only at hSw); (go_split_ands; go_simp); (try with_reducible rfl))
              try simp only [Act.put, List.setIfInBounds_toArray, List.set_cons_zero, List.set_cons_succ]
              refine wpAnyH_take (i := 12) (oi := { dst := some 50, op := Op.move (Operand.tmp 49), type := 4, pos := "wage.go:260", after := #[{ on := 11, ground := Ground.data }, { on := 10, ground := Ground.chain }], guard := none }) (v := ?_) rfl (by kernel_rfl) (by kernel_rfl) (by kernel_rfl) (fun _ _ _ h => h) (Or.inl ⟨by rfl, ?_⟩) (by assumption) ?_
              rotate_left
              · (intro w9 hSw; (try dsimp only at hSw); (go_split_ands; go_simp); (try with_reducible rfl))
              try simp only [Act.put, List.setIfInBounds_toArray, List.set_cons_zero, List.set_cons_succ]
              refine wpAnyH_take (i := 13) (oi := { dst := some 51, op := Op.load 37 (Operand.tmp 2), type := 37, pos := "wage.go:260", after := #[{ on := 12, ground := Ground.guard }], guard := some (12, false) }) (v := undef) rfl (by kernel_rfl) (by kernel_rfl) (by kernel_rfl) (fun _ _ _ h => h) (Or.inr ⟨by rfl, rfl⟩) (by assumption) ?_
              try simp only [Act.put, List.setIfInBounds_toArray, List.set_cons_zero, List.set_cons_succ]
              refine wpAnyH_take (i := 14) (oi := { dst := some 52, op := Op.move (Operand.tmp 7), type := 3, pos := "wage.go:260", after := #[{ on := 12, ground := Ground.guard }], guard := some (12, false) }) (v := undef) rfl (by kernel_rfl) (by kernel_rfl) (by kernel_rfl) (fun _ _ _ h => h) (Or.inr ⟨by rfl, rfl⟩) (by assumption) ?_
              try simp only [Act.put, List.setIfInBounds_toArray, List.set_cons_zero, List.set_cons_succ]
              refine wpAnyH_take (i := 15) (oi := { dst := some 53, op := Op.indexAddr 37 (Operand.tmp 51) (Operand.tmp 52), type := 0, pos := "wage.go:260", after := #[{ on := 13, ground := Ground.data }, { on := 14, ground := Ground.data }, { on := 12, ground := Ground.guard }], guard := some (12, false) }) (v := undef) rfl (by kernel_rfl) (by kernel_rfl) (by kernel_rfl) (fun _ _ _ h => h) (Or.inr ⟨by rfl, rfl⟩) (by assumption) ?_
              try simp only [Act.put, List.setIfInBounds_toArray, List.set_cons_zero, List.set_cons_succ]
              refine wpAnyH_take (i := 16) (oi := { dst := some 54, op := Op.load 3 (Operand.tmp 53), type := 3, pos := "wage.go:260", after := #[{ on := 15, ground := Ground.data }, { on := 12, ground := Ground.guard }], guard := some (12, false) }) (v := undef) rfl (by kernel_rfl) (by kernel_rfl) (by kernel_rfl) (fun _ _ _ h => h) (Or.inr ⟨by rfl, rfl⟩) (by assumption) ?_
              try simp only [Act.put, List.setIfInBounds_toArray, List.set_cons_zero, List.set_cons_succ]
              refine wpAnyH_take (i := 17) (oi := { dst := some 55, op := Op.fieldAddr 58 (Operand.tmp 8) 3, type := 0, pos := "wage.go:260", after := #[{ on := 12, ground := Ground.guard }], guard := some (12, false) }) (v := undef) rfl (by kernel_rfl) (by kernel_rfl) (by kernel_rfl) (fun _ _ _ h => h) (Or.inr ⟨by rfl, rfl⟩) (by assumption) ?_
              try simp only [Act.put, List.setIfInBounds_toArray, List.set_cons_zero, List.set_cons_succ]
              refine wpAnyH_take (i := 18) (oi := { dst := some 56, op := Op.fieldAddr 29 (Operand.tmp 55) 0, type := 0, pos := "wage.go:260", after := #[{ on := 17, ground := Ground.data }, { on := 12, ground := Ground.guard }], guard := some (12, false) }) (v := undef) rfl (by kernel_rfl) (by kernel_rfl) (by kernel_rfl) (fun _ _ _ h => h) (Or.inr ⟨by rfl, rfl⟩) (by assumption) ?_
              try simp only [Act.put, List.setIfInBounds_toArray, List.set_cons_zero, List.set_cons_succ]
              refine wpAnyH_take (i := 19) (oi := { dst := some 57, op := Op.load 3 (Operand.tmp 56), type := 3, pos := "wage.go:260", after := #[{ on := 18, ground := Ground.data }, { on := 12, ground := Ground.guard }], guard := some (12, false) }) (v := undef) rfl (by kernel_rfl) (by kernel_rfl) (by kernel_rfl) (fun _ _ _ h => h) (Or.inr ⟨by rfl, rfl⟩) (by assumption) ?_
              try simp only [Act.put, List.setIfInBounds_toArray, List.set_cons_zero, List.set_cons_succ]
              refine wpAnyH_take (i := 20) (oi := { dst := some 58, op := Op.fieldAddr 58 (Operand.tmp 8) 3, type := 0, pos := "wage.go:260", after := #[{ on := 12, ground := Ground.guard }], guard := some (12, false) }) (v := undef) rfl (by kernel_rfl) (by kernel_rfl) (by kernel_rfl) (fun _ _ _ h => h) (Or.inr ⟨by rfl, rfl⟩) (by assumption) ?_
              try simp only [Act.put, List.setIfInBounds_toArray, List.set_cons_zero, List.set_cons_succ]
              refine wpAnyH_take (i := 21) (oi := { dst := some 59, op := Op.fieldAddr 29 (Operand.tmp 58) 1, type := 0, pos := "wage.go:260", after := #[{ on := 20, ground := Ground.data }, { on := 12, ground := Ground.guard }], guard := some (12, false) }) (v := undef) rfl (by kernel_rfl) (by kernel_rfl) (by kernel_rfl) (fun _ _ _ h => h) (Or.inr ⟨by rfl, rfl⟩) (by assumption) ?_
              try simp only [Act.put, List.setIfInBounds_toArray, List.set_cons_zero, List.set_cons_succ]
              refine wpAnyH_take (i := 22) (oi := { dst := some 60, op := Op.load 3 (Operand.tmp 59), type := 3, pos := "wage.go:260", after := #[{ on := 21, ground := Ground.data }, { on := 12, ground := Ground.guard }], guard := some (12, false) }) (v := undef) rfl (by kernel_rfl) (by kernel_rfl) (by kernel_rfl) (fun _ _ _ h => h) (Or.inr ⟨by rfl, rfl⟩) (by assumption) ?_
              try simp only [Act.put, List.setIfInBounds_toArray, List.set_cons_zero, List.set_cons_succ]
              refine wpAnyH_take (i := 23) (oi := { dst := some 61, op := Op.call { callee := Callee.value (Operand.func 57), args := #[Operand.tmp 54, Operand.tmp 57, Operand.tmp 60], argTypes := #[3, 3, 3] }, type := 4, pos := "wage.go:260", after := #[{ on := 16, ground := Ground.data }, { on := 19, ground := Ground.data }, { on := 22, ground := Ground.data }, { on := 12, ground := Ground.chain }, { on := 12, ground := Ground.guard }], guard := some (12, false) }) (v := undef) rfl (by kernel_rfl) (by kernel_rfl) (by kernel_rfl) (fun _ _ _ h => h) (Or.inr ⟨by rfl, rfl⟩) (by assumption) ?_
              try simp only [Act.put, List.setIfInBounds_toArray, List.set_cons_zero, List.set_cons_succ]
              refine wpAnyH_take (i := 24) (oi := { dst := some 62, op := Op.unOp UnOp.not 4 (Operand.tmp 61), type := 4, pos := "wage.go:260", after := #[{ on := 23, ground := Ground.data }, { on := 12, ground := Ground.guard }], guard := some (12, false) }) (v := undef) rfl (by kernel_rfl) (by kernel_rfl) (by kernel_rfl) (fun _ _ _ h => h) (Or.inr ⟨by rfl, rfl⟩) (by assumption) ?_
              try simp only [Act.put, List.setIfInBounds_toArray, List.set_cons_zero, List.set_cons_succ]
              refine wpAnyH_take (i := 25) (oi := { dst := some 63, op := Op.pick (Operand.tmp 50) (Operand.const (Value.bool true)) (Operand.tmp 62), type := 4, pos := "wage.go:260", after := #[{ on := 12, ground := Ground.data }, { on := 24, ground := Ground.data }], guard := none }) (v := ?_) rfl (by kernel_rfl) (by kernel_rfl) (by kernel_rfl) (fun _ _ _ h => h) (Or.inl ⟨by rfl, ?_⟩) (by assumption) ?_
              rotate_left
              · (intro w9 hSw; (try dsimp only at hSw); (go_split_ands; go_simp); (try with_reducible rfl))
              try simp only [Act.put, List.setIfInBounds_toArray, List.set_cons_zero, List.set_cons_succ]
              refine wpAnyH_take (i := 26) (oi := { dst := some 64, op := Op.move (Operand.tmp 63), type := 4, pos := "wage.go:260", after := #[{ on := 25, ground := Ground.data }, { on := 23, ground := Ground.chain }], guard := none }) (v := ?_) rfl (by kernel_rfl) (by kernel_rfl) (by kernel_rfl) (fun _ _ _ h => h) (Or.inl ⟨by rfl, ?_⟩) (by assumption) ?_
              rotate_left
              · (intro w9 hSw; (try dsimp only at hSw); (go_split_ands; go_simp); (try with_reducible rfl))
              try simp only [Act.put, List.setIfInBounds_toArray, List.set_cons_zero, List.set_cons_succ]
              refine wpAnyH_take (i := 27) (oi := { dst := some 65, op := Op.load 37 (Operand.tmp 3), type := 37, pos := "wage.go:260", after := #[{ on := 26, ground := Ground.guard }], guard := some (26, false) }) (v := undef) rfl (by kernel_rfl) (by kernel_rfl) (by kernel_rfl) (fun _ _ _ h => h) (Or.inr ⟨by rfl, rfl⟩) (by assumption) ?_
              try simp only [Act.put, List.setIfInBounds_toArray, List.set_cons_zero, List.set_cons_succ]
              refine wpAnyH_take (i := 28) (oi := { dst := some 66, op := Op.move (Operand.tmp 7), type := 3, pos := "wage.go:260", after := #[{ on := 26, ground := Ground.guard }], guard := some (26, false) }) (v := undef) rfl (by kernel_rfl) (by kernel_rfl) (by kernel_rfl) (fun _ _ _ h => h) (Or.inr ⟨by rfl, rfl⟩) (by assumption) ?_
              try simp only [Act.put, List.setIfInBounds_toArray, List.set_cons_zero, List.set_cons_succ]
              refine wpAnyH_take (i := 29) (oi := { dst := some 67, op := Op.indexAddr 37 (Operand.tmp 65) (Operand.tmp 66), type := 0, pos := "wage.go:260", after := #[{ on := 27, ground := Ground.data }, { on := 28, ground := Ground.data }, { on := 26, ground := Ground.guard }], guard := some (26, false) }) (v := undef) rfl (by kernel_rfl) (by kernel_rfl) (by kernel_rfl) (fun _ _ _ h => h) (Or.inr ⟨by rfl, rfl⟩) (by assumption) ?_
              try simp only [Act.put, List.setIfInBounds_toArray, List.set_cons_zero, List.set_cons_succ]
              refine wpAnyH_take (i := 30) (oi := { dst := some 68, op := Op.load 3 (Operand.tmp 67), type := 3, pos := "wage.go:260", after := #[{ on := 29, ground := Ground.data }, { on := 26, ground := Ground.guard }], guard := some (26, false) }) (v := undef) rfl (by kernel_rfl) (by kernel_rfl) (by kernel_rfl) (fun _ _ _ h => h) (Or.inr ⟨by rfl, rfl⟩) (by assumption) ?_
              try simp only [Act.put, List.setIfInBounds_toArray, List.set_cons_zero, List.set_cons_succ]
              refine wpAnyH_take (i := 31) (oi := { dst := some 69, op := Op.fieldAddr 58 (Operand.tmp 8) 4, type := 0, pos := "wage.go:260", after := #[{ on := 26, ground := Ground.guard }], guard := some (26, false) }) (v := undef) rfl (by kernel_rfl) (by kernel_rfl) (by kernel_rfl) (fun _ _ _ h => h) (Or.inr ⟨by rfl, rfl⟩) (by assumption) ?_
              try simp only [Act.put, List.setIfInBounds_toArray, List.set_cons_zero, List.set_cons_succ]
              refine wpAnyH_take (i := 32) (oi := { dst := some 70, op := Op.fieldAddr 29 (Operand.tmp 69) 0, type := 0, pos := "wage.go:260", after := #[{ on := 31, ground := Ground.data }, { on := 26, ground := Ground.guard }], guard := some (26, false) }) (v := undef) rfl (by kernel_rfl) (by kernel_rfl) (by kernel_rfl) (fun _ _ _ h => h) (Or.inr ⟨by rfl, rfl⟩) (by assumption) ?_
              try simp only [Act.put, List.setIfInBounds_toArray, List.set_cons_zero, List.set_cons_succ]
              refine wpAnyH_take (i := 33) (oi := { dst := some 71, op := Op.load 3 (Operand.tmp 70), type := 3, pos := "wage.go:260", after := #[{ on := 32, ground := Ground.data }, { on := 26, ground := Ground.guard }], guard := some (26, false) }) (v := undef) rfl (by kernel_rfl) (by kernel_rfl) (by kernel_rfl) (fun _ _ _ h => h) (Or.inr ⟨by rfl, rfl⟩) (by assumption) ?_
              try simp only [Act.put, List.setIfInBounds_toArray, List.set_cons_zero, List.set_cons_succ]
              refine wpAnyH_take (i := 34) (oi := { dst := some 72, op := Op.fieldAddr 58 (Operand.tmp 8) 4, type := 0, pos := "wage.go:260", after := #[{ on := 26, ground := Ground.guard }], guard := some (26, false) }) (v := undef) rfl (by kernel_rfl) (by kernel_rfl) (by kernel_rfl) (fun _ _ _ h => h) (Or.inr ⟨by rfl, rfl⟩) (by assumption) ?_
              try simp only [Act.put, List.setIfInBounds_toArray, List.set_cons_zero, List.set_cons_succ]
              refine wpAnyH_take (i := 35) (oi := { dst := some 73, op := Op.fieldAddr 29 (Operand.tmp 72) 1, type := 0, pos := "wage.go:260", after := #[{ on := 34, ground := Ground.data }, { on := 26, ground := Ground.guard }], guard := some (26, false) }) (v := undef) rfl (by kernel_rfl) (by kernel_rfl) (by kernel_rfl) (fun _ _ _ h => h) (Or.inr ⟨by rfl, rfl⟩) (by assumption) ?_
              try simp only [Act.put, List.setIfInBounds_toArray, List.set_cons_zero, List.set_cons_succ]
              refine wpAnyH_take (i := 36) (oi := { dst := some 74, op := Op.load 3 (Operand.tmp 73), type := 3, pos := "wage.go:260", after := #[{ on := 35, ground := Ground.data }, { on := 26, ground := Ground.guard }], guard := some (26, false) }) (v := undef) rfl (by kernel_rfl) (by kernel_rfl) (by kernel_rfl) (fun _ _ _ h => h) (Or.inr ⟨by rfl, rfl⟩) (by assumption) ?_
              try simp only [Act.put, List.setIfInBounds_toArray, List.set_cons_zero, List.set_cons_succ]
              refine wpAnyH_take (i := 37) (oi := { dst := some 75, op := Op.call { callee := Callee.value (Operand.func 57), args := #[Operand.tmp 68, Operand.tmp 71, Operand.tmp 74], argTypes := #[3, 3, 3] }, type := 4, pos := "wage.go:260", after := #[{ on := 30, ground := Ground.data }, { on := 33, ground := Ground.data }, { on := 36, ground := Ground.data }, { on := 26, ground := Ground.chain }, { on := 26, ground := Ground.guard }], guard := some (26, false) }) (v := undef) rfl (by kernel_rfl) (by kernel_rfl) (by kernel_rfl) (fun _ _ _ h => h) (Or.inr ⟨by rfl, rfl⟩) (by assumption) ?_
              try simp only [Act.put, List.setIfInBounds_toArray, List.set_cons_zero, List.set_cons_succ]
              refine wpAnyH_take (i := 38) (oi := { dst := some 76, op := Op.unOp UnOp.not 4 (Operand.tmp 75), type := 4, pos := "wage.go:260", after := #[{ on := 37, ground := Ground.data }, { on := 26, ground := Ground.guard }], guard := some (26, false) }) (v := undef) rfl (by kernel_rfl) (by kernel_rfl) (by kernel_rfl) (fun _ _ _ h => h) (Or.inr ⟨by rfl, rfl⟩) (by assumption) ?_
              try simp only [Act.put, List.setIfInBounds_toArray, List.set_cons_zero, List.set_cons_succ]
              refine wpAnyH_take (i := 39) (oi := { dst := some 77, op := Op.pick (Operand.tmp 64) (Operand.const (Value.bool true)) (Operand.tmp 76), type := 4, pos := "wage.go:260", after := #[{ on := 26, ground := Ground.data }, { on := 38, ground := Ground.data }], guard := none }) (v := ?_) rfl (by kernel_rfl) (by kernel_rfl) (by kernel_rfl) (fun _ _ _ h => h) (Or.inl ⟨by rfl, ?_⟩) (by assumption) ?_
              rotate_left
              · (intro w9 hSw; (try dsimp only at hSw); (go_split_ands; go_simp); (try with_reducible rfl))
              try simp only [Act.put, List.setIfInBounds_toArray, List.set_cons_zero, List.set_cons_succ]
              refine wpAnyH_done (by kernel_rfl) ?_ _
              go_wp2_with fail
              go_ret
              exact ⟨by rw [show exB tn tn tn tn T f g h = false from by simp only [exB, decide_true, Bool.true_and]; exact all_no hlt (by simp [exOk, c1])]; rfl, HI.out.bel.trans (HB.out.drew.mono (Nat.le_of_lt (lt_of_heap HI.out.bx)))⟩
          · obtain rfl : k = tn := by omega
            go_wp2_with fail
            go_ret
            exact ⟨by rw [show exB k k k k T f g h = true from by simp only [exB, decide_true, Bool.true_and, List.all_eq_true]; intro j hj; exact HO.out j (by simpa using hj)]; rfl, HI.out.bel⟩
      · have e3' : ((hn : Int) == (tn : Int)) = false := by simp; omega
        replace e1 := e1.symm; subst e1
        replace e2 := e2.symm; subst e2
        go_enter Try.func73, Try.ntmps73
        go_wp2_with fail
        go_ret
        exact ⟨by simp [exB, e3], (Below.refl _ _).alloc (Nat.le_refl _) _⟩
    · have e2' : ((gn : Int) == (tn : Int)) = false := by simp; omega
      replace e1 := e1.symm; subst e1
      go_enter Try.func73, Try.ntmps73
      go_wp2_with fail
      go_ret
      exact ⟨by simp [exB, e2], (Below.refl _ _).alloc (Nat.le_refl _) _⟩
  · have e1' : ((fn : Int) == (tn : Int)) = false := by simp; omega
    go_enter Try.func73, Try.ntmps73
    go_wp2_with fail
    go_ret
    exact ⟨by simp [exB, e1], (Below.refl _ _).alloc (Nat.le_refl _) _⟩
end Go.Proofs.Ytbpeamppkdmdcaa

namespace Go.Proofs.Ytbpeamppkdmdcaa
open Go.RowKit

def exVals (F : Nat → Int) (k n : Nat) : List Value := (List.range n).map fun i => if i < k then .int .i64 (F i) else .int .i64 0
theorem exVals_zero (F : Nat → Int) (n : Nat) : exVals F 0 n = List.replicate n (.int .i64 0) := by
  apply List.ext_getElem (by simp [exVals])
  intro i h1 h2
  simp [exVals]
theorem exVals_full (F : Nat → Int) (n : Nat) : exVals F n n = rowVals F n := by
  apply List.ext_getElem (by simp [exVals, rowVals])
  intro i h1 h2
  have : i < n := by simpa [exVals] using h1
  simp [exVals, rowVals, this]
theorem exVals_set (F : Nat → Int) (k n : Nat) : (exVals F k n).set k (.int .i64 (F k)) = exVals F (k + 1) n := by
  apply List.ext_getElem (by simp [exVals])
  intro i h1 h2
  simp only [List.getElem_set, exVals, List.getElem_map, List.getElem_range]
  by_cases e : k = i
  · subst e; simp
  · have : (i < k + 1) = (i < k) := by simp; omega
    simp [e, this]
theorem BoxAt.store {w : World} {b : Nat} {xs : Array Value} {t : TypeId} (h : BoxAt w b xs t) (i : Nat) (v : Value) : BoxAt (w.setCell ⟨b, i, none⟩ v) b (xs.setIfInBounds i v) t := by
  unfold BoxAt at h ⊢
  simp [World.setCell, Array.getElem?_modify, h]

theorem own_zero {w : World} {base g n : Nat} {F : Nat → Int} (h : w.ownsRow base 3 1 (.slice (some ⟨g, 0, none⟩) n n) n (madeCells (Value.cells (.int .i64 0)) (n * 1)).toList) : BoxAt w g (exVals F 0 n).toArray 3 := by
  obtain ⟨hl, ⟨h1, _⟩ | ⟨g', cap, cur, hv, hb, hg, hle, hm, hs, ht⟩⟩ := h
  · cases h1
  · injection hv with e1 e2 e3
    injection e1 with e1
    injection e1 with e1 _ _
    subst e1 e3
    have : cur.toList = List.replicate n (.int .i64 0) := by
      rw [List.take_of_length_le (by simp; omega)] at ht
      rw [ht]
      apply List.ext_getElem (by simp [madeCells])
      intro i h1 h2
      simp [madeCells, Value.cells, Nat.mod_one]
    rw [exVals_zero, ← this]
    exact hg

def ExactPost (w : World) (V : Prop) (b : Bool) (F : Nat → Int) (n : Nat) (e : Ending) (w' : World) : Prop :=
  Below w.heap.size w w' ∧ ((V ∧ b = true ∧ ∃ g, w.heap.size ≤ g ∧ e = .returned (.tuple #[.slice (some ⟨g, 0, none⟩) n n, .int .i64 0]) ∧ BoxAt w' g (rowVals F n).toArray 3) ∨ (V ∧ b = false ∧ e = .returned (.tuple #[.slice none 0 0, .int .i64 2])) ∨ (¬ V ∧ e = .returned (.tuple #[.slice none 0 0, .int .i64 1])))

theorem ex_known {cr : Int} {sn tn : Nat} {S : Nat → Sm} {T : Nat → Tk} (hv : Valid cr sn tn S T) {fn gn hn : Nat} {f g h : Nat → Int} (hb : exB fn gn hn tn T f g h = true) : ∀ i, i < tn → KnOk (toldK f g h i) := by
  intro i hi
  have hs := hv.spans hi
  simp only [exB, Bool.and_eq_true, List.all_eq_true] at hb
  have := hb.2 i (by simpa using hi)
  simp only [exOk, Bool.and_eq_true, inB_iff] at this
  constructor <;> simp only [toldK] <;> omega
theorem exB_len {fn gn hn tn : Nat} {T : Nat → Tk} {f g h : Nat → Int} (hb : exB fn gn hn tn T f g h = true) : fn = tn ∧ gn = tn ∧ hn = tn := by
  simp only [exB, Bool.and_eq_true, decide_eq_true_eq] at hb
  exact ⟨hb.1.1.1, hb.1.1.2, hb.1.2⟩

structure X1 (w : World) (bx : Nat) (x : Array Value) (v1 v2 v3 : Value) (w' : World) : Prop where
  bel : Below w.heap.size w w'
  box : BoxAt w' bx x 77
  x1 : BoxAt w' (w.heap.size + 1) #[v1] 37
  x2 : BoxAt w' (w.heap.size + 1 + 1) #[v2] 37
  x3 : BoxAt w' (w.heap.size + 1 + 1 + 1) #[v3] 37
  r1 : BoxAt w' (w.heap.size + 1 + 1 + 1 + 1) #[.int .i64 0] 30
  hi : w.heap.size ≤ bx
theorem X1.grow {w : World} {bx : Nat} {x : Array Value} {v1 v2 v3 : Value} {w1 w2 : World} (h : X1 w bx x v1 v2 v3 w1) (hb : Below w1.heap.size w1 w2) : X1 w bx x v1 v2 v3 w2 :=
  ⟨h.bel.trans (hb.mono (by have := lt_of_heap h.x1; omega)), h.box.grow hb, h.x1.grow hb, h.x2.grow hb, h.x3.grow hb, h.r1.grow hb, h.hi⟩

theorem X1.set {w : World} {bx : Nat} {x : Array Value} {v1 v2 v3 : Value} {w1 : World} (h : X1 w bx x v1 v2 v3 w1) (p : Addr) (v : Value) (h1 : bx < p.block) (h2 : w.heap.size + 1 + 1 + 1 + 1 < p.block) : X1 w bx x v1 v2 v3 (w1.setCell p v) :=
  ⟨h.bel.setCell (by omega) v, h.box.set p v (by omega), h.x1.set p v (by omega), h.x2.set p v (by omega), h.x3.set p v (by omega), h.r1.set p v (by omega), h.hi⟩
theorem exVals_at (F : Nat → Int) {k n : Nat} (m : Nat) (h : k < n) : (exVals F m n).toArray[k]? = some (if k < m then .int .i64 (F k) else .int .i64 0) := by simp [exVals, h]
def XR (w : World) (bx gb : Nat) (x : Array Value) (v1 v2 v3 : Value) (F : Nat → Int) (n : Nat) (i : Value) (wr : World) : Prop :=
  ∃ k : Nat, k ≤ n ∧ i = .int .i64 k ∧ BoxAt wr gb (exVals F k n).toArray 3 ∧ X1 w bx x v1 v2 v3 wr

set_option maxRecDepth 100000 in
set_option maxHeartbeats 4000000 in
theorem exacts_any (cr : Int) (sa ta : Option Addr) (sn sc tn tc : Nat) (S : Nat → Sm) (T : Nat → Tk) (fa ga ha : Option Addr) (fn fc gn gc hn hc : Nat) (f g h : Nat → Int) (w : World) (hS : SeamsAt w sa sn S) (hT : TicketsAt w ta tn T)
    (hf : IntsAt w fa fn f) (hg : IntsAt w ga gn g) (hh : IntsAt w ha hn h) :
    Calls Try.prog 25 #[.agg #[.int .i64 cr, .slice sa sn sc, .slice ta tn tc], .slice fa fn fc, .slice ga gn gc, .slice ha hn hc] w
      (ExactPost w (Valid cr sn tn S T) (exB fn gn hn tn T f g h) (fun c => coinsOf S T (toldK f g h) sn tn c) cr.toNat) := by
  have HS := Lib.hid hS
  have HT := Lib.hid hT
  have HF := Lib.hid hf
  have HG := Lib.hid hg
  have HH := Lib.hid hh
  clear hS hT hf hg hh
  have hmf : ∀ (fn : Fn) (first cap : Array Value) (w : World), (Instr.makeFunc fn first cap).run Try.prog w = .ok (.func fn first cap) w := fun _ _ _ _ => rfl
  go_enter_defers Try.func25, Try.ntmps25
  go_wp2_with fail
  generalize hW : World.alloc _ _ = W
  obtain ⟨q0, q1, q2, q3, q4, hz, hB⟩ := blocks5 hW
  clear hW hz
  have HB := Lib.hid hB
  have X := Lib.hid (show X1 w w.heap.size #[.int .i64 cr, .slice sa sn sc, .slice ta tn tc] (.slice fa fn fc) (.slice ga gn gc) (.slice ha hn hc) W → True from fun _ => trivial)
  have Q1 := Lib.hid (show BoxAt W (w.heap.size + 1) #[.slice fa fn fc] 37 from q1)
  have Q2 := Lib.hid (show BoxAt W (w.heap.size + 1 + 1) #[.slice ga gn gc] 37 from q2)
  have Q3 := Lib.hid (show BoxAt W (w.heap.size + 1 + 1 + 1) #[.slice ha hn hc] 37 from q3)
  have Q4 := Lib.hid (show BoxAt W (w.heap.size + 1 + 1 + 1 + 1) #[.int .i64 0] 30 from q4)
  clear X q0 q1 q2 q3 q4 hB
  have hcf : ∀ W, (callFunc 73 (#[.agg #[.int .i64 cr, .slice sa sn sc, .slice ta tn tc]] ++ #[bp (w.heap.size + 1), bp (w.heap.size + 1 + 1), bp (w.heap.size + 1 + 1 + 1)])).run Try.prog W = .ok (.enter 73 (#[.agg #[.int .i64 cr, .slice sa sn sc, .slice ta tn tc]] ++ #[bp (w.heap.size + 1), bp (w.heap.size + 1 + 1), bp (w.heap.size + 1 + 1 + 1)])) W := by intro W1; kernel_rfl
  have HCF := Lib.hid hcf
  clear hcf
  refine (open_any cr sa ta sn sc tn tc S T W (HS.out.grow HB.out) (HT.out.grow HB.out) 73 _ (exB fn gn hn tn T f g h) HCF.out ?_).mono ?_
  · intro W1 hb hv
    have hb' := HB.out.next hb
    exact exact1_any cr sa ta sn sc tn tc T fa ga ha fn fc gn gc hn hc f g h _ _ _ W1 hv.tn6 (HT.out.grow hb') (HF.out.grow hb') (HG.out.grow hb') (HH.out.grow hb') (Q1.out.grow hb) (Q2.out.grow hb) (Q3.out.grow hb)
  rintro e w1 ⟨hb, hD⟩
  have B1 := Lib.hid hb
  have Q4' := Lib.hid (Q4.out.grow hb)
  clear hb
  rcases hD with ⟨hv, hbt, rfl⟩ | ⟨hv, hbf, rfl⟩ | ⟨hnv, rfl⟩
  · have HV := Lib.hid hv
    have HT2 := Lib.hid hbt
    have HK := Lib.hid (ex_known hv hbt)
    obtain ⟨n, rfl⟩ : ∃ n : Nat, cr = n := ⟨cr.toNat, by have := hv.cr0; omega⟩
    have n4 : n ≤ 4 := by have := hv.cr1; omega
    obtain ⟨l1, l2, l3⟩ := exB_len hbt
    have CC := Lib.hid (fun W' (hb : Below w.heap.size w W') (c : Int) (c0 : -1 ≤ c) (c1 : c ≤ 3) => coins_c n sa ta sn sc tn tc S T (toldK f g h) W' (HS.out.grow hb) (HT.out.grow hb) hv HK.out 112 _ 125 (truth_told W' fa ga ha fn gn hn f g h fc gc hc tn T (HF.out.grow hb) (HG.out.grow hb) (HH.out.grow hb) (by omega) (by omega) (by omega)) c c0 c1)
    clear hbt hv l1 l2 l3
    go_wp2_with fail
    generalize hW2 : World.alloc _ _ = W2
    obtain ⟨q0, hz, hB⟩ := blocks1 hW2
    have hl1 := lt_of_heap Q4'.out
    have I2 := Lib.hid (show X1 w w1.heap.size #[.int .i64 n, .slice sa sn sc, .slice ta tn tc] (.slice fa fn fc) (.slice ga gn gc) (.slice ha hn hc) W2 from ⟨(HB.out.next B1.out).trans (hB.mono (by omega)), q0, (Q1.out.grow B1.out).grow hB, (Q2.out.grow B1.out).grow hB, (Q3.out.grow B1.out).grow hB, Q4'.out.grow hB, by omega⟩)
    obtain ⟨bx, hbx⟩ : ∃ bx, bx = w1.heap.size := ⟨_, rfl⟩
    rw [← hbx] at I2 hl1 ⊢
    clear hW2 q0 hz hB hbx
    have b0 := cellAt I2.out.box 0
    have b1 := cellAt I2.out.box 1
    have b2 := cellAt I2.out.box 2
    simp only [List.getElem?_toArray, List.getElem?_cons_zero, List.getElem?_cons_succ] at b0 b1 b2
    obtain ⟨i0, hi0, hz0, hz1, hz2⟩ := info_parts info3
    obtain ⟨W3, hrun, hown, hgr⟩ := run_make_full (P := Try.prog) W2 w.heap.size 37 3 i0 _ 1 Try.underlying37 hi0 hz0 hz1 .i64 .i64 n (by rw [hz2]; omega) (by unfold maxLen; omega) I2.out.bel.size
    go_wp2_with fail
    rw [hrun]
    simp only [Result.andThen, Oper.upon_value]
    have HO : Hid (BoxAt W3 W2.heap.size (exVals (fun c => coinsOf S T (toldK f g h) sn tn c) 0 n).toArray 3) := own_zero hown
    have I3 := Lib.hid (I2.out.grow (Below.grown (Below.refl _ _) hgr (Nat.le_refl _) (fun _ e => by cases e)))
    have hg0 := I2.out.bel.size
    have hg1 := lt_of_heap I2.out.box
    have hg2 := lt_of_heap I2.out.r1
    clear b0 b1 b2 hrun hown hgr hi0 hz0 hz1 hz2 I2
    obtain ⟨gb, hgb⟩ : ∃ gb, gb = W2.heap.size := ⟨_, rfl⟩
    rw [← hgb] at HO hg0 hg1 hg2 ⊢
    clear hgb
    go_wp2_with fail
    go_loopw [25] (XR w bx gb #[.int .i64 n, .slice sa sn sc, .slice ta tn tc] (.slice fa fn fc) (.slice ga gn gc) (.slice ha hn hc) (fun c => coinsOf S T (toldK f g h) sn tn c) n) (fun i _ => n - (intOf i).toNat)
    case atStart => exact ⟨0, Nat.zero_le _, rfl, HO.out, I3.out⟩
    case round =>
      clear HO I3
      obtain ⟨k, hk, rfl, hrow, hinv⟩ := hrel
      have HR := Lib.hid hrow
      have HI := Lib.hid hinv
      clear hrow hinv
      by_cases hlt : k < n
      · have hi := fun w => run_indexAt_row (w := w) (oa := some ⟨gb, 0, none⟩) (cap := n) Try.underlying37 size3 rfl hlt
        simp only [blk, ofs, Nat.zero_add, Nat.mul_one] at hi
        have b1 := cellAt HI.out.x1 0
        have b2 := cellAt HI.out.x2 0
        have b3 := cellAt HI.out.x3 0
        have hklt : (k : Int) ≤ 3 := by omega
        have hk0 : (-1 : Int) ≤ (k : Int) := by omega
        simp only [List.getElem?_toArray, List.getElem?_cons_zero] at b1 b2 b3
        go_wp2_with (first | (go_at_call 70; refine (CC.out _ HI.out.bel _ hk0 hklt).mono ?_; rintro e w4 ⟨rfl, hb4⟩; have HR4 := Lib.hid (HR.out.grow hb4); have HI4 := Lib.hid (HI.out.grow hb4); clear hb4; have d0 := cellAt HR4.out k; have f0 := freeAt HR4.out k; rw [exVals_at _ _ hlt] at d0))
        refine ⟨⟨k + 1, hlt, by go_num, ?_, HI4.out.set _ _ hg1 hg2⟩, by simp [intOf]; omega⟩
        have hst := HR4.out.store k (.int .i64 (coinsOf S T (toldK f g h) sn tn k))
        rw [List.setIfInBounds_toArray, exVals_set (fun c => coinsOf S T (toldK f g h) sn tn c) k n] at hst
        exact hst
      · obtain rfl : k = n := by omega
        have r2 := cellAt HI.out.r1 0
        have f2 := freeAt HI.out.r1 0
        simp only [List.getElem?_toArray, List.getElem?_cons_zero] at r2
        go_wp2_with fail
        refine leaves_cons (f := 45) (args := #[bp (w.heap.size + 1 + 1 + 1 + 1)]) (by simp) (by simp [go_sem]) ?_
        refine (answer_idle _ _).mono ?_
        rintro e u' w'' ⟨rfl, rfl, rfl⟩
        simp [Leaves, settle, results, Try.results25, go_sem, r2]
        refine ⟨HI.out.bel.setCell (by dsimp only; omega) _, .inl ⟨HV.out, HT2.out, gb, by omega, rfl, ?_⟩⟩
        have hst := HR.out.set ⟨w.heap.size + 1 + 1 + 1 + 1, 0, none⟩ (.int .i64 0) (by dsimp only; omega)
        rw [exVals_full] at hst
        exact hst
  · have HV := Lib.hid hv
    have HT2 := Lib.hid hbf
    clear hv hbf
    simp only [err]
    go_wp2_with fail
    refine leaves_cons (f := 45) (args := #[bp (w.heap.size + 1 + 1 + 1 + 1)]) (by simp) (by simp [go_sem]) ?_
    refine (answer_panicking _ 0 2 [] _ Q4'.out).mono ?_
    rintro e u' w'' ⟨rfl, rfl, rfl⟩
    have r2 := cellAt Q4'.out 0
    simp only [List.getElem?_toArray, List.getElem?_cons_zero] at r2
    simp [Leaves, settle, results, Try.results25, go_sem, r2]
    exact ⟨(HB.out.next B1.out).setCell (by dsimp only; omega) _, .inr (.inl ⟨HV.out, HT2.out, rfl⟩)⟩
  · have HV := Lib.hid hnv
    clear hnv
    simp only [err]
    go_wp2_with fail
    refine leaves_cons (f := 45) (args := #[bp (w.heap.size + 1 + 1 + 1 + 1)]) (by simp) (by simp [go_sem]) ?_
    refine (answer_panicking _ 0 1 [] _ Q4'.out).mono ?_
    rintro e u' w'' ⟨rfl, rfl, rfl⟩
    have r2 := cellAt Q4'.out 0
    simp only [List.getElem?_toArray, List.getElem?_cons_zero] at r2
    simp [Leaves, settle, results, Try.results25, go_sem, r2]
    exact ⟨(HB.out.next B1.out).setCell (by dsimp only; omega) _, .inr (.inr ⟨HV.out, rfl⟩)⟩
end Go.Proofs.Ytbpeamppkdmdcaa
