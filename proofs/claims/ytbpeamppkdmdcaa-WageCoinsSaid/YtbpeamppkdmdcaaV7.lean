/-
  Walks: tickets that are known, by three lists; what is due by them, by the reference.
-/
import Derived.Test.YtbpeamppkdmdcaaV3
import Derived.Deep.Light
namespace Go.Proofs.Ytbpeamppkdmdcaa
open Go.RowKit
attribute [local go_sem ↓] Go.wp_at_zero Go.wp_at_succ

def KnownPost (w : World) (tn : Nat) (b : Bool) (K : Nat → Kn) (e : Ending) (w' : World) : Prop := Below w.heap.size w w' ∧ ((b = true ∧ ∃ oa cap, e = .returned (.tuple #[.slice oa tn cap, .bool true]) ∧ KnAt w' oa tn K) ∨ (b = false ∧ e = .returned (.tuple #[.slice none 0 0, .bool false])))
structure KW (w : World) (cr : Int) (sa ta : Option Addr) (sn sc tn tc : Nat) (T : Nat → Tk) (fa ga ha : Option Addr) (fn gn hn : Nat) (f g h : Nat → Int) (w' : World) : Prop where
  bel : Below w.heap.size w w'
  bx : BoxAt w' w.heap.size #[.int .i64 cr, .slice sa sn sc, .slice ta tn tc] 25
  tk : TicketsAt w' ta tn T
  l1 : IntsAt w' fa fn f
  l2 : IntsAt w' ga gn g
  l3 : IntsAt w' ha hn h
theorem KW.grow {w : World} {cr : Int} {sa ta : Option Addr} {sn sc tn tc : Nat} {T : Nat → Tk} {fa ga ha : Option Addr} {fn gn hn : Nat} {f g h : Nat → Int} {w1 w2 : World} (H : KW w cr sa ta sn sc tn tc T fa ga ha fn gn hn f g h w1) (hb : Below w1.heap.size w1 w2) : KW w cr sa ta sn sc tn tc T fa ga ha fn gn hn f g h w2 :=
  ⟨H.bel.next hb, H.bx.grow hb, H.tk.grow hb, H.l1.grow hb, H.l2.grow hb, H.l3.grow hb⟩
def tolL (f g h : Nat → Int) (k : Nat) : List Kn := (List.range k).map (toldK f g h)
theorem tolL_succ (f g h : Nat → Int) (k : Nat) : tolL f g h (k + 1) = tolL f g h k ++ [toldK f g h k] := by unfold tolL; rw [List.range_succ, List.map_append]; rfl
theorem tolL_len (f g h : Nat → Int) (k : Nat) : (tolL f g h k).length = k := by simp [tolL]
theorem tolL_at (f g h : Nat → Int) {k i : Nat} (hi : i < k) : knF (tolL f g h k) i = toldK f g h i := by
  unfold knF tolL
  rw [List.getD_eq_getElem?_getD, List.getElem?_map, List.getElem?_range hi]
  rfl
theorem KnAt.congr {w : World} {oa : Option Addr} {n : Nat} {K L : Nat → Kn} (h : KnAt w oa n K) (e : ∀ i, i < n → K i = L i) : KnAt w oa n L :=
  ⟨h.plain, h.old, h.small, fun i hi j hj => by rw [h.cells i hi j hj, e i hi]⟩

set_option maxRecDepth 100000 in
set_option maxHeartbeats 4000000 in
theorem known_ref (cr : Int) (sa ta : Option Addr) (sn sc tn tc : Nat) (T : Nat → Tk) (fa ga ha : Option Addr) (fn fc gn gc hn hc : Nat) (f g h : Nat → Int) (w : World) (ht6 : tn ≤ 6)
    (hT : TicketsAt w ta tn T) (hf : IntsAt w fa fn f) (hg : IntsAt w ga gn g) (hh : IntsAt w ha hn h) :
    Calls Try.prog 74 #[.agg #[.int .i64 cr, .slice sa sn sc, .slice ta tn tc], .slice fa fn fc, .slice ga gn gc, .slice ha hn hc] w (KnownPost w tn (exB fn gn hn tn T f g h) (toldK f g h)) := by
  have ft : fn ≤ maxLen := hf.small
  have gt : gn ≤ maxLen := hg.small
  have hht : hn ≤ maxLen := hh.small
  unfold maxLen at ft gt hht
  have hb0 := ba w (.cells #[.int .i64 cr, .slice sa sn sc, .slice ta tn tc] 25)
  have hbx := (blocks1 (a := .cells #[.int .i64 cr, .slice sa sn sc, .slice ta tn tc] 25) (w := w) rfl).1
  have I0 := Lib.hid (show KW w cr sa ta sn sc tn tc T fa ga ha fn gn hn f g h _ from ⟨hb0, hbx, hT.grow hb0, hf.grow hb0, hg.grow hb0, hh.grow hb0⟩)
  clear hb0 hbx hT hf hg hh
  by_cases hl : fn = tn ∧ gn = tn ∧ hn = tn
  · obtain ⟨e1, e2, e3⟩ := hl
    replace e1 := e1.symm; subst e1
    replace e2 := e2.symm; subst e2
    replace e3 := e3.symm; subst e3
    go_enter Try.func74, Try.ntmps74
    go_wp2_with fail
    obtain ⟨w1, hW⟩ : ∃ W, W = w.alloc (.cells #[.int .i64 cr, .slice sa sn sc, .slice ta tn tc] 25) := ⟨_, rfl⟩
    rw [← hW] at I0 ⊢
    clear hW
    have TT := Lib.hid (fun W (hO : Out [] w1 W) => I0.out.grow (hO.to_below (B := w1.heap.size) (by simp) (Nat.le_refl _)))
    have O0 := Lib.hid (OwnT.start (E := 128) (sz := 3) (D := []) (w0 := w1) (KB := []) (VS := [(.slice none 0 0, 0, [])]) (by intro e he; cases he) (by intro e he; simpa using he))
    clear I0
    go_loopw [11, 12] (fun v i W => ∃ k : Nat, k ≤ tn ∧ i = .int .i64 k ∧ (∀ j, j < k → exOk T f g h j = true) ∧ OwnT 128 3 [] w1 [] [(v, k, knVals (tolL f g h k))] W) (fun _ i _ => tn - (intOf i).toNat)
    case atStart => exact ⟨0, Nat.zero_le _, rfl, fun j hj => by omega, O0.out⟩
    case round =>
      clear O0
      obtain ⟨k, hk, rfl, hok, hI⟩ := hrel
      have HI := Lib.hid hI
      have HK0 := Lib.hid hok
      clear hI hok
      by_cases hlt : k < tn
      · have hti := fun w => run_indexAt_row (w := w) (cap := tc) Try.underlying23 size58 ((TT.out _ HI.out.out).tk.plain (by omega)) hlt
        have hi1 := fun w => run_indexAt_row (w := w) (cap := fc) Try.underlying37 size3 ((TT.out _ HI.out.out).l1.plain (by omega)) hlt
        have hi2 := fun w => run_indexAt_row (w := w) (cap := gc) Try.underlying37 size3 ((TT.out _ HI.out.out).l2.plain (by omega)) hlt
        have hi3 := fun w => run_indexAt_row (w := w) (cap := hc) Try.underlying37 size3 ((TT.out _ HI.out.out).l3.plain (by omega)) hlt
        simp only [Nat.mul_one] at hi1 hi2 hi3
        obtain ⟨g0, g1, g2, g3, g4, g5, g6, g7⟩ := (TT.out _ HI.out.out).tk.at hlt
        have b2 := cellAt (TT.out _ HI.out.out).bx 2
        simp only [List.getElem?_toArray, List.getElem?_cons_zero, List.getElem?_cons_succ] at b2
        go_wp2_with fail
        have O3 := Lib.hid (HI.out.new (tkCells (T k)) 58)
        obtain ⟨tb, etb⟩ : ∃ tb, tb = wr.heap.size := ⟨_, rfl⟩
        rw [← etb] at O3 ⊢
        generalize World.alloc _ _ = W2 at *
        clear etb g0 g1 g2 g3 g4 g5 g6 g7 b2 HI
        have P0 := Lib.hid O3.out.drew
        clear O3
        have hc1 : inB (f k) (T k).fl (T k).fh = true ∨ inB (f k) (T k).fl (T k).fh = false := by cases inB (f k) (T k).fl (T k).fh <;> simp
        have hc2 : inB (g k) (T k).tl (T k).th = true ∨ inB (g k) (T k).tl (T k).th = false := by cases inB (g k) (T k).tl (T k).th <;> simp
        have hc3 : inB (h k) (T k).dl (T k).dh = true ∨ inB (h k) (T k).dl (T k).dh = false := by cases inB (h k) (T k).dl (T k).dh <;> simp
        rcases hc1 with c1 | c1
        · rcases hc2 with c2 | c2
          · rcases hc3 with c3 | c3
            · have HE := Lib.hid (show exOk T f g h k = true by simp [exOk, c1, c2, c3])
              refine wp_region_held_drew (S := (fun w' => w'.cell? ⟨tb, 2, none⟩ = some (.int .i64 (T k).fl) ∧ w'.cell? ⟨tb, 3, none⟩ = some (.int .i64 (T k).fh) ∧ w'.cell? ⟨tb, 4, none⟩ = some (.int .i64 (T k).tl) ∧ w'.cell? ⟨tb, 5, none⟩ = some (.int .i64 (T k).th) ∧ w'.cell? ⟨tb, 6, none⟩ = some (.int .i64 (T k).dl) ∧ w'.cell? ⟨tb, 7, none⟩ = some (.int .i64 (T k).dh) ∧ w'.cell? ⟨blk fa, ofs fa + k, none⟩ = some (.int .i64 (f k)) ∧ w'.cell? ⟨blk ga, ofs ga + k, none⟩ = some (.int .i64 (g k)) ∧ w'.cell? ⟨blk ha, ofs ha + k, none⟩ = some (.int .i64 (h k)))) (by kernel_rfl) (by exact (by have hm := P0.out.box _ List.mem_cons_self; have hq := TT.out _ P0.out.out; exact ⟨cellAt hm 2, cellAt hm 3, cellAt hm 4, cellAt hm 5, cellAt hm 6, cellAt hm 7, hq.l1.at hlt, hq.l2.at hlt, hq.l3.at hlt⟩)) (fun hHeld => ?_)
              refine wpAnyH_take (i := 0) (oi := { dst := some 43, op := Op.move (Operand.tmp 1), type := 37, pos := "ref.go:254", after := #[], guard := none }) (v := ?_) rfl (by kernel_rfl) (by kernel_rfl) (by kernel_rfl) (fun _ _ _ h => h) (Or.inl ⟨by rfl, ?_⟩) (by assumption) ?_
              rotate_left
              · (intro w9 hSw; (try dsimp only at hSw); (go_split_ands; go_simp); (try with_reducible rfl))
              try simp only [Act.put, List.setIfInBounds_toArray, List.set_cons_zero, List.set_cons_succ]
              refine wpAnyH_take (i := 1) (oi := { dst := some 44, op := Op.move (Operand.tmp 12), type := 3, pos := "ref.go:254", after := #[], guard := none }) (v := ?_) rfl (by kernel_rfl) (by kernel_rfl) (by kernel_rfl) (fun _ _ _ h => h) (Or.inl ⟨by rfl, ?_⟩) (by assumption) ?_
              rotate_left
              · (intro w9 hSw; (try dsimp only at hSw); (go_split_ands; go_simp); (try with_reducible rfl))
              try simp only [Act.put, List.setIfInBounds_toArray, List.set_cons_zero, List.set_cons_succ]
              refine wpAnyH_take (i := 2) (oi := { dst := some 45, op := Op.indexAddr 37 (Operand.tmp 43) (Operand.tmp 44), type := 0, pos := "ref.go:254", after := #[{ on := 0, ground := Ground.data }, { on := 1, ground := Ground.data }], guard := none }) (v := ?_) rfl (by kernel_rfl) (by kernel_rfl) (by kernel_rfl) (fun _ _ _ h => h) (Or.inl ⟨by rfl, ?_⟩) (by assumption) ?_
              rotate_left
              · (intro w9 hSw; (try dsimp only at hSw); (go_split_ands; go_simp); (try with_reducible rfl))
              try simp only [Act.put, List.setIfInBounds_toArray, List.set_cons_zero, List.set_cons_succ]
              refine wpAnyH_take (i := 3) (oi := { dst := some 46, op := Op.load 3 (Operand.tmp 45), type := 3, pos := "ref.go:254", after := #[{ on := 2, ground := Ground.data }], guard := none }) (v := ?_) rfl (by kernel_rfl) (by kernel_rfl) (by kernel_rfl) (fun _ _ _ h => h) (Or.inl ⟨by rfl, ?_⟩) (by assumption) ?_
              rotate_left
              · (intro w9 hSw; (try dsimp only at hSw); (go_split_ands; go_simp); (try with_reducible rfl))
              try simp only [Act.put, List.setIfInBounds_toArray, List.set_cons_zero, List.set_cons_succ]
              refine wpAnyH_take (i := 4) (oi := { dst := some 47, op := Op.fieldAddr 58 (Operand.tmp 13) 2, type := 0, pos := "ref.go:254", after := #[], guard := none }) (v := ?_) rfl (by kernel_rfl) (by kernel_rfl) (by kernel_rfl) (fun _ _ _ h => h) (Or.inl ⟨by rfl, ?_⟩) (by assumption) ?_
              rotate_left
              · (intro w9 hSw; (try dsimp only at hSw); (go_split_ands; go_simp); (try with_reducible rfl))
              try simp only [Act.put, List.setIfInBounds_toArray, List.set_cons_zero, List.set_cons_succ]
              refine wpAnyH_take (i := 5) (oi := { dst := some 48, op := Op.fieldAddr 29 (Operand.tmp 47) 0, type := 0, pos := "ref.go:254", after := #[{ on := 4, ground := Ground.data }], guard := none }) (v := ?_) rfl (by kernel_rfl) (by kernel_rfl) (by kernel_rfl) (fun _ _ _ h => h) (Or.inl ⟨by rfl, ?_⟩) (by assumption) ?_
              rotate_left
              · (intro w9 hSw; (try dsimp only at hSw); (go_split_ands; go_simp); (try with_reducible rfl))
              try simp only [Act.put, List.setIfInBounds_toArray, List.set_cons_zero, List.set_cons_succ]
              refine wpAnyH_take (i := 6) (oi := { dst := some 49, op := Op.load 3 (Operand.tmp 48), type := 3, pos := "ref.go:254", after := #[{ on := 5, ground := Ground.data }], guard := none }) (v := ?_) rfl (by kernel_rfl) (by kernel_rfl) (by kernel_rfl) (fun _ _ _ h => h) (Or.inl ⟨by rfl, ?_⟩) (by assumption) ?_
              rotate_left
              · (intro w9 hSw; (try dsimp only at hSw); (go_split_ands; go_simp); (try with_reducible rfl))
              try simp only [Act.put, List.setIfInBounds_toArray, List.set_cons_zero, List.set_cons_succ]
              refine wpAnyH_take (i := 7) (oi := { dst := some 50, op := Op.fieldAddr 58 (Operand.tmp 13) 2, type := 0, pos := "ref.go:254", after := #[], guard := none }) (v := ?_) rfl (by kernel_rfl) (by kernel_rfl) (by kernel_rfl) (fun _ _ _ h => h) (Or.inl ⟨by rfl, ?_⟩) (by assumption) ?_
              rotate_left
              · (intro w9 hSw; (try dsimp only at hSw); (go_split_ands; go_simp); (try with_reducible rfl))
              try simp only [Act.put, List.setIfInBounds_toArray, List.set_cons_zero, List.set_cons_succ]
              refine wpAnyH_take (i := 8) (oi := { dst := some 51, op := Op.fieldAddr 29 (Operand.tmp 50) 1, type := 0, pos := "ref.go:254", after := #[{ on := 7, ground := Ground.data }], guard := none }) (v := ?_) rfl (by kernel_rfl) (by kernel_rfl) (by kernel_rfl) (fun _ _ _ h => h) (Or.inl ⟨by rfl, ?_⟩) (by assumption) ?_
              rotate_left
              · (intro w9 hSw; (try dsimp only at hSw); (go_split_ands; go_simp); (try with_reducible rfl))
              try simp only [Act.put, List.setIfInBounds_toArray, List.set_cons_zero, List.set_cons_succ]
              refine wpAnyH_take (i := 9) (oi := { dst := some 52, op := Op.load 3 (Operand.tmp 51), type := 3, pos := "ref.go:254", after := #[{ on := 8, ground := Ground.data }], guard := none }) (v := ?_) rfl (by kernel_rfl) (by kernel_rfl) (by kernel_rfl) (fun _ _ _ h => h) (Or.inl ⟨by rfl, ?_⟩) (by assumption) ?_
              rotate_left
              · (intro w9 hSw; (try dsimp only at hSw); (go_split_ands; go_simp); (try with_reducible rfl))
              try simp only [Act.put, List.setIfInBounds_toArray, List.set_cons_zero, List.set_cons_succ]
              refine wpAnyH_ready (rs := [10]) (by kernel_rfl) (by simp) ?_
              refine AllReadyH.cons (o := { dst := some 53, op := Op.call { callee := Callee.value (Operand.func 88), args := #[Operand.tmp 46, Operand.tmp 49, Operand.tmp 52], argTypes := #[3, 3, 3] }, type := 4, pos := "ref.go:254", after := #[{ on := 3, ground := Ground.data }, { on := 6, ground := Ground.data }, { on := 9, ground := Ground.data }], guard := none }) rfl (fun K hK => ?_) (AllReadyH.nil)
              go_simp
              go_at_call 88; refine (in_any _ _ _ _).mono ?_; rintro e w3 ⟨rfl, rfl⟩
              go_wp2_with fail
              refine hK.out _ _ ?_ (fun hHeld => ?_)
              · exact (by have hm := P0.out.box _ List.mem_cons_self; have hq := TT.out _ P0.out.out; exact ⟨cellAt hm 2, cellAt hm 3, cellAt hm 4, cellAt hm 5, cellAt hm 6, cellAt hm 7, hq.l1.at hlt, hq.l2.at hlt, hq.l3.at hlt⟩)
              clear hK K
              try simp only [Act.put, List.setIfInBounds_toArray, List.set_cons_zero, List.set_cons_succ]
              refine wpAnyH_take (i := 11) (oi := { dst := some 54, op := Op.unOp UnOp.not 4 (Operand.tmp 53), type := 4, pos := "ref.go:254", after := #[{ on := 10, ground := Ground.data }], guard := none }) (v := ?_) rfl (by kernel_rfl) (by kernel_rfl) (by kernel_rfl) (fun _ _ _ h => h) (Or.inl ⟨by rfl, ?_⟩) (by assumption) ?_
              rotate_left
              · (intro w9 hSw; (try dsimp only at hSw); (go_split_ands; go_simp); (try with_reducible rfl))
              try simp only [Act.put, List.setIfInBounds_toArray, List.set_cons_zero, List.set_cons_succ]
              refine wpAnyH_take (i := 12) (oi := { dst := some 55, op := Op.move (Operand.tmp 54), type := 4, pos := "ref.go:254", after := #[{ on := 11, ground := Ground.data }, { on := 10, ground := Ground.chain }], guard := none }) (v := ?_) rfl (by kernel_rfl) (by kernel_rfl) (by kernel_rfl) (fun _ _ _ h => h) (Or.inl ⟨by rfl, ?_⟩) (by assumption) ?_
              rotate_left
              · (intro w9 hSw; (try dsimp only at hSw); (go_split_ands; go_simp); (try with_reducible rfl))
              try simp only [Act.put, List.setIfInBounds_toArray, List.set_cons_zero, List.set_cons_succ]
              refine wpAnyH_take (i := 13) (oi := { dst := some 56, op := Op.move (Operand.tmp 2), type := 37, pos := "ref.go:254", after := #[{ on := 12, ground := Ground.guard }], guard := some (12, false) }) (v := ?_) rfl (by kernel_rfl) (by kernel_rfl) (by kernel_rfl) (fun _ _ _ h => h) (Or.inl ⟨by rfl, ?_⟩) (by assumption) ?_
              rotate_left
              · (intro w9 hSw; (try dsimp only at hSw); (go_split_ands; go_simp); (try with_reducible rfl))
              try simp only [Act.put, List.setIfInBounds_toArray, List.set_cons_zero, List.set_cons_succ]
              refine wpAnyH_take (i := 14) (oi := { dst := some 57, op := Op.move (Operand.tmp 12), type := 3, pos := "ref.go:254", after := #[{ on := 12, ground := Ground.guard }], guard := some (12, false) }) (v := ?_) rfl (by kernel_rfl) (by kernel_rfl) (by kernel_rfl) (fun _ _ _ h => h) (Or.inl ⟨by rfl, ?_⟩) (by assumption) ?_
              rotate_left
              · (intro w9 hSw; (try dsimp only at hSw); (go_split_ands; go_simp); (try with_reducible rfl))
              try simp only [Act.put, List.setIfInBounds_toArray, List.set_cons_zero, List.set_cons_succ]
              refine wpAnyH_take (i := 15) (oi := { dst := some 58, op := Op.indexAddr 37 (Operand.tmp 56) (Operand.tmp 57), type := 0, pos := "ref.go:254", after := #[{ on := 13, ground := Ground.data }, { on := 14, ground := Ground.data }, { on := 12, ground := Ground.guard }], guard := some (12, false) }) (v := ?_) rfl (by kernel_rfl) (by kernel_rfl) (by kernel_rfl) (fun _ _ _ h => h) (Or.inl ⟨by rfl, ?_⟩) (by assumption) ?_
              rotate_left
              · (intro w9 hSw; (try dsimp only at hSw); (go_split_ands; go_simp); (try with_reducible rfl))
              try simp only [Act.put, List.setIfInBounds_toArray, List.set_cons_zero, List.set_cons_succ]
              refine wpAnyH_take (i := 16) (oi := { dst := some 59, op := Op.load 3 (Operand.tmp 58), type := 3, pos := "ref.go:254", after := #[{ on := 15, ground := Ground.data }, { on := 12, ground := Ground.guard }], guard := some (12, false) }) (v := ?_) rfl (by kernel_rfl) (by kernel_rfl) (by kernel_rfl) (fun _ _ _ h => h) (Or.inl ⟨by rfl, ?_⟩) (by assumption) ?_
              rotate_left
              · (intro w9 hSw; (try dsimp only at hSw); (go_split_ands; go_simp); (try with_reducible rfl))
              try simp only [Act.put, List.setIfInBounds_toArray, List.set_cons_zero, List.set_cons_succ]
              refine wpAnyH_take (i := 17) (oi := { dst := some 60, op := Op.fieldAddr 58 (Operand.tmp 13) 3, type := 0, pos := "ref.go:254", after := #[{ on := 12, ground := Ground.guard }], guard := some (12, false) }) (v := ?_) rfl (by kernel_rfl) (by kernel_rfl) (by kernel_rfl) (fun _ _ _ h => h) (Or.inl ⟨by rfl, ?_⟩) (by assumption) ?_
              rotate_left
              · (intro w9 hSw; (try dsimp only at hSw); (go_split_ands; go_simp); (try with_reducible rfl))
              try simp only [Act.put, List.setIfInBounds_toArray, List.set_cons_zero, List.set_cons_succ]
              refine wpAnyH_take (i := 18) (oi := { dst := some 61, op := Op.fieldAddr 29 (Operand.tmp 60) 0, type := 0, pos := "ref.go:254", after := #[{ on := 17, ground := Ground.data }, { on := 12, ground := Ground.guard }], guard := some (12, false) }) (v := ?_) rfl (by kernel_rfl) (by kernel_rfl) (by kernel_rfl) (fun _ _ _ h => h) (Or.inl ⟨by rfl, ?_⟩) (by assumption) ?_
              rotate_left
              · (intro w9 hSw; (try dsimp only at hSw); (go_split_ands; go_simp); (try with_reducible rfl))
              try simp only [Act.put, List.setIfInBounds_toArray, List.set_cons_zero, List.set_cons_succ]
              refine wpAnyH_take (i := 19) (oi := { dst := some 62, op := Op.load 3 (Operand.tmp 61), type := 3, pos := "ref.go:254", after := #[{ on := 18, ground := Ground.data }, { on := 12, ground := Ground.guard }], guard := some (12, false) }) (v := ?_) rfl (by kernel_rfl) (by kernel_rfl) (by kernel_rfl) (fun _ _ _ h => h) (Or.inl ⟨by rfl, ?_⟩) (by assumption) ?_
              rotate_left
              · (intro w9 hSw; (try dsimp only at hSw); (go_split_ands; go_simp); (try with_reducible rfl))
              try simp only [Act.put, List.setIfInBounds_toArray, List.set_cons_zero, List.set_cons_succ]
              refine wpAnyH_take (i := 20) (oi := { dst := some 63, op := Op.fieldAddr 58 (Operand.tmp 13) 3, type := 0, pos := "ref.go:254", after := #[{ on := 12, ground := Ground.guard }], guard := some (12, false) }) (v := ?_) rfl (by kernel_rfl) (by kernel_rfl) (by kernel_rfl) (fun _ _ _ h => h) (Or.inl ⟨by rfl, ?_⟩) (by assumption) ?_
              rotate_left
              · (intro w9 hSw; (try dsimp only at hSw); (go_split_ands; go_simp); (try with_reducible rfl))
              try simp only [Act.put, List.setIfInBounds_toArray, List.set_cons_zero, List.set_cons_succ]
              refine wpAnyH_take (i := 21) (oi := { dst := some 64, op := Op.fieldAddr 29 (Operand.tmp 63) 1, type := 0, pos := "ref.go:254", after := #[{ on := 20, ground := Ground.data }, { on := 12, ground := Ground.guard }], guard := some (12, false) }) (v := ?_) rfl (by kernel_rfl) (by kernel_rfl) (by kernel_rfl) (fun _ _ _ h => h) (Or.inl ⟨by rfl, ?_⟩) (by assumption) ?_
              rotate_left
              · (intro w9 hSw; (try dsimp only at hSw); (go_split_ands; go_simp); (try with_reducible rfl))
              try simp only [Act.put, List.setIfInBounds_toArray, List.set_cons_zero, List.set_cons_succ]
              refine wpAnyH_take (i := 22) (oi := { dst := some 65, op := Op.load 3 (Operand.tmp 64), type := 3, pos := "ref.go:254", after := #[{ on := 21, ground := Ground.data }, { on := 12, ground := Ground.guard }], guard := some (12, false) }) (v := ?_) rfl (by kernel_rfl) (by kernel_rfl) (by kernel_rfl) (fun _ _ _ h => h) (Or.inl ⟨by rfl, ?_⟩) (by assumption) ?_
              rotate_left
              · (intro w9 hSw; (try dsimp only at hSw); (go_split_ands; go_simp); (try with_reducible rfl))
              try simp only [Act.put, List.setIfInBounds_toArray, List.set_cons_zero, List.set_cons_succ]
              refine wpAnyH_ready (rs := [23]) (by kernel_rfl) (by simp) ?_
              refine AllReadyH.cons (o := { dst := some 66, op := Op.call { callee := Callee.value (Operand.func 88), args := #[Operand.tmp 59, Operand.tmp 62, Operand.tmp 65], argTypes := #[3, 3, 3] }, type := 4, pos := "ref.go:254", after := #[{ on := 16, ground := Ground.data }, { on := 19, ground := Ground.data }, { on := 22, ground := Ground.data }, { on := 12, ground := Ground.chain }, { on := 12, ground := Ground.guard }], guard := some (12, false) }) rfl (fun K hK => ?_) (AllReadyH.nil)
              go_simp
              go_at_call 88; refine (in_any _ _ _ _).mono ?_; rintro e w3 ⟨rfl, rfl⟩
              go_wp2_with fail
              refine hK.out _ _ ?_ (fun hHeld => ?_)
              · exact (by have hm := P0.out.box _ List.mem_cons_self; have hq := TT.out _ P0.out.out; exact ⟨cellAt hm 2, cellAt hm 3, cellAt hm 4, cellAt hm 5, cellAt hm 6, cellAt hm 7, hq.l1.at hlt, hq.l2.at hlt, hq.l3.at hlt⟩)
              clear hK K
              try simp only [Act.put, List.setIfInBounds_toArray, List.set_cons_zero, List.set_cons_succ]
              refine wpAnyH_take (i := 24) (oi := { dst := some 67, op := Op.unOp UnOp.not 4 (Operand.tmp 66), type := 4, pos := "ref.go:254", after := #[{ on := 23, ground := Ground.data }, { on := 12, ground := Ground.guard }], guard := some (12, false) }) (v := ?_) rfl (by kernel_rfl) (by kernel_rfl) (by kernel_rfl) (fun _ _ _ h => h) (Or.inl ⟨by rfl, ?_⟩) (by assumption) ?_
              rotate_left
              · (intro w9 hSw; (try dsimp only at hSw); (go_split_ands; go_simp); (try with_reducible rfl))
              try simp only [Act.put, List.setIfInBounds_toArray, List.set_cons_zero, List.set_cons_succ]
              refine wpAnyH_take (i := 25) (oi := { dst := some 68, op := Op.pick (Operand.tmp 55) (Operand.const (Value.bool true)) (Operand.tmp 67), type := 4, pos := "ref.go:254", after := #[{ on := 12, ground := Ground.data }, { on := 24, ground := Ground.data }], guard := none }) (v := ?_) rfl (by kernel_rfl) (by kernel_rfl) (by kernel_rfl) (fun _ _ _ h => h) (Or.inl ⟨by rfl, ?_⟩) (by assumption) ?_
              rotate_left
              · (intro w9 hSw; (try dsimp only at hSw); (go_split_ands; go_simp); (try with_reducible rfl))
              try simp only [Act.put, List.setIfInBounds_toArray, List.set_cons_zero, List.set_cons_succ]
              refine wpAnyH_take (i := 26) (oi := { dst := some 69, op := Op.move (Operand.tmp 68), type := 4, pos := "ref.go:254", after := #[{ on := 25, ground := Ground.data }, { on := 23, ground := Ground.chain }], guard := none }) (v := ?_) rfl (by kernel_rfl) (by kernel_rfl) (by kernel_rfl) (fun _ _ _ h => h) (Or.inl ⟨by rfl, ?_⟩) (by assumption) ?_
              rotate_left
              · (intro w9 hSw; (try dsimp only at hSw); (go_split_ands; go_simp); (try with_reducible rfl))
              try simp only [Act.put, List.setIfInBounds_toArray, List.set_cons_zero, List.set_cons_succ]
              refine wpAnyH_take (i := 27) (oi := { dst := some 70, op := Op.move (Operand.tmp 3), type := 37, pos := "ref.go:254", after := #[{ on := 26, ground := Ground.guard }], guard := some (26, false) }) (v := ?_) rfl (by kernel_rfl) (by kernel_rfl) (by kernel_rfl) (fun _ _ _ h => h) (Or.inl ⟨by rfl, ?_⟩) (by assumption) ?_
              rotate_left
              · (intro w9 hSw; (try dsimp only at hSw); (go_split_ands; go_simp); (try with_reducible rfl))
              try simp only [Act.put, List.setIfInBounds_toArray, List.set_cons_zero, List.set_cons_succ]
              refine wpAnyH_take (i := 28) (oi := { dst := some 71, op := Op.move (Operand.tmp 12), type := 3, pos := "ref.go:254", after := #[{ on := 26, ground := Ground.guard }], guard := some (26, false) }) (v := ?_) rfl (by kernel_rfl) (by kernel_rfl) (by kernel_rfl) (fun _ _ _ h => h) (Or.inl ⟨by rfl, ?_⟩) (by assumption) ?_
              rotate_left
              · (intro w9 hSw; (try dsimp only at hSw); (go_split_ands; go_simp); (try with_reducible rfl))
              try simp only [Act.put, List.setIfInBounds_toArray, List.set_cons_zero, List.set_cons_succ]
              refine wpAnyH_take (i := 29) (oi := { dst := some 72, op := Op.indexAddr 37 (Operand.tmp 70) (Operand.tmp 71), type := 0, pos := "ref.go:254", after := #[{ on := 27, ground := Ground.data }, { on := 28, ground := Ground.data }, { on := 26, ground := Ground.guard }], guard := some (26, false) }) (v := ?_) rfl (by kernel_rfl) (by kernel_rfl) (by kernel_rfl) (fun _ _ _ h => h) (Or.inl ⟨by rfl, ?_⟩) (by assumption) ?_
              rotate_left
              · (intro w9 hSw; (try dsimp only at hSw); (go_split_ands; go_simp); (try with_reducible rfl))
              try simp only [Act.put, List.setIfInBounds_toArray, List.set_cons_zero, List.set_cons_succ]
              refine wpAnyH_take (i := 30) (oi := { dst := some 73, op := Op.load 3 (Operand.tmp 72), type := 3, pos := "ref.go:254", after := #[{ on := 29, ground := Ground.data }, { on := 26, ground := Ground.guard }], guard := some (26, false) }) (v := ?_) rfl (by kernel_rfl) (by kernel_rfl) (by kernel_rfl) (fun _ _ _ h => h) (Or.inl ⟨by rfl, ?_⟩) (by assumption) ?_
              rotate_left
              · (intro w9 hSw; (try dsimp only at hSw); (go_split_ands; go_simp); (try with_reducible rfl))
              try simp only [Act.put, List.setIfInBounds_toArray, List.set_cons_zero, List.set_cons_succ]
              refine wpAnyH_take (i := 31) (oi := { dst := some 74, op := Op.fieldAddr 58 (Operand.tmp 13) 4, type := 0, pos := "ref.go:254", after := #[{ on := 26, ground := Ground.guard }], guard := some (26, false) }) (v := ?_) rfl (by kernel_rfl) (by kernel_rfl) (by kernel_rfl) (fun _ _ _ h => h) (Or.inl ⟨by rfl, ?_⟩) (by assumption) ?_
              rotate_left
              · (intro w9 hSw; (try dsimp only at hSw); (go_split_ands; go_simp); (try with_reducible rfl))
              try simp only [Act.put, List.setIfInBounds_toArray, List.set_cons_zero, List.set_cons_succ]
              refine wpAnyH_take (i := 32) (oi := { dst := some 75, op := Op.fieldAddr 29 (Operand.tmp 74) 0, type := 0, pos := "ref.go:254", after := #[{ on := 31, ground := Ground.data }, { on := 26, ground := Ground.guard }], guard := some (26, false) }) (v := ?_) rfl (by kernel_rfl) (by kernel_rfl) (by kernel_rfl) (fun _ _ _ h => h) (Or.inl ⟨by rfl, ?_⟩) (by assumption) ?_
              rotate_left
              · (intro w9 hSw; (try dsimp only at hSw); (go_split_ands; go_simp); (try with_reducible rfl))
              try simp only [Act.put, List.setIfInBounds_toArray, List.set_cons_zero, List.set_cons_succ]
              refine wpAnyH_take (i := 33) (oi := { dst := some 76, op := Op.load 3 (Operand.tmp 75), type := 3, pos := "ref.go:254", after := #[{ on := 32, ground := Ground.data }, { on := 26, ground := Ground.guard }], guard := some (26, false) }) (v := ?_) rfl (by kernel_rfl) (by kernel_rfl) (by kernel_rfl) (fun _ _ _ h => h) (Or.inl ⟨by rfl, ?_⟩) (by assumption) ?_
              rotate_left
              · (intro w9 hSw; (try dsimp only at hSw); (go_split_ands; go_simp); (try with_reducible rfl))
              try simp only [Act.put, List.setIfInBounds_toArray, List.set_cons_zero, List.set_cons_succ]
              refine wpAnyH_take (i := 34) (oi := { dst := some 77, op := Op.fieldAddr 58 (Operand.tmp 13) 4, type := 0, pos := "ref.go:254", after := #[{ on := 26, ground := Ground.guard }], guard := some (26, false) }) (v := ?_) rfl (by kernel_rfl) (by kernel_rfl) (by kernel_rfl) (fun _ _ _ h => h) (Or.inl ⟨by rfl, ?_⟩) (by assumption) ?_
              rotate_left
              · (intro w9 hSw; (try dsimp only at hSw); (go_split_ands; go_simp); (try with_reducible rfl))
              try simp only [Act.put, List.setIfInBounds_toArray, List.set_cons_zero, List.set_cons_succ]
              refine wpAnyH_take (i := 35) (oi := { dst := some 78, op := Op.fieldAddr 29 (Operand.tmp 77) 1, type := 0, pos := "ref.go:254", after := #[{ on := 34, ground := Ground.data }, { on := 26, ground := Ground.guard }], guard := some (26, false) }) (v := ?_) rfl (by kernel_rfl) (by kernel_rfl) (by kernel_rfl) (fun _ _ _ h => h) (Or.inl ⟨by rfl, ?_⟩) (by assumption) ?_
              rotate_left
              · (intro w9 hSw; (try dsimp only at hSw); (go_split_ands; go_simp); (try with_reducible rfl))
              try simp only [Act.put, List.setIfInBounds_toArray, List.set_cons_zero, List.set_cons_succ]
              refine wpAnyH_take (i := 36) (oi := { dst := some 79, op := Op.load 3 (Operand.tmp 78), type := 3, pos := "ref.go:254", after := #[{ on := 35, ground := Ground.data }, { on := 26, ground := Ground.guard }], guard := some (26, false) }) (v := ?_) rfl (by kernel_rfl) (by kernel_rfl) (by kernel_rfl) (fun _ _ _ h => h) (Or.inl ⟨by rfl, ?_⟩) (by assumption) ?_
              rotate_left
              · (intro w9 hSw; (try dsimp only at hSw); (go_split_ands; go_simp); (try with_reducible rfl))
              try simp only [Act.put, List.setIfInBounds_toArray, List.set_cons_zero, List.set_cons_succ]
              refine wpAnyH_ready (rs := [37]) (by kernel_rfl) (by simp) ?_
              refine AllReadyH.cons (o := { dst := some 80, op := Op.call { callee := Callee.value (Operand.func 88), args := #[Operand.tmp 73, Operand.tmp 76, Operand.tmp 79], argTypes := #[3, 3, 3] }, type := 4, pos := "ref.go:254", after := #[{ on := 30, ground := Ground.data }, { on := 33, ground := Ground.data }, { on := 36, ground := Ground.data }, { on := 26, ground := Ground.chain }, { on := 26, ground := Ground.guard }], guard := some (26, false) }) rfl (fun K hK => ?_) (AllReadyH.nil)
              go_simp
              go_at_call 88; refine (in_any _ _ _ _).mono ?_; rintro e w3 ⟨rfl, rfl⟩
              go_wp2_with fail
              refine hK.out _ _ ?_ (fun hHeld => ?_)
              · exact (by have hm := P0.out.box _ List.mem_cons_self; have hq := TT.out _ P0.out.out; exact ⟨cellAt hm 2, cellAt hm 3, cellAt hm 4, cellAt hm 5, cellAt hm 6, cellAt hm 7, hq.l1.at hlt, hq.l2.at hlt, hq.l3.at hlt⟩)
              clear hK K
              try simp only [Act.put, List.setIfInBounds_toArray, List.set_cons_zero, List.set_cons_succ]
              refine wpAnyH_take (i := 38) (oi := { dst := some 81, op := Op.unOp UnOp.not 4 (Operand.tmp 80), type := 4, pos := "ref.go:254", after := #[{ on := 37, ground := Ground.data }, { on := 26, ground := Ground.guard }], guard := some (26, false) }) (v := ?_) rfl (by kernel_rfl) (by kernel_rfl) (by kernel_rfl) (fun _ _ _ h => h) (Or.inl ⟨by rfl, ?_⟩) (by assumption) ?_
              rotate_left
              · (intro w9 hSw; (try dsimp only at hSw); (go_split_ands; go_simp); (try with_reducible rfl))
              try simp only [Act.put, List.setIfInBounds_toArray, List.set_cons_zero, List.set_cons_succ]
              refine wpAnyH_take (i := 39) (oi := { dst := some 82, op := Op.pick (Operand.tmp 69) (Operand.const (Value.bool true)) (Operand.tmp 81), type := 4, pos := "ref.go:254", after := #[{ on := 26, ground := Ground.data }, { on := 38, ground := Ground.data }], guard := none }) (v := ?_) rfl (by kernel_rfl) (by kernel_rfl) (by kernel_rfl) (fun _ _ _ h => h) (Or.inl ⟨by rfl, ?_⟩) (by assumption) ?_
              rotate_left
              · (intro w9 hSw; (try dsimp only at hSw); (go_split_ands; go_simp); (try with_reducible rfl))
              try simp only [Act.put, List.setIfInBounds_toArray, List.set_cons_zero, List.set_cons_succ]
              refine wpAnyH_done (by kernel_rfl) ?_ _
              clear hHeld
              go_wp2_with fail
              have P1 := Lib.hid P0.out.drew
              clear P0
              obtain ⟨i0, hi0, hz0, hz1, hz2⟩ := info128'
              refine wp_region_held_drew (S := (fun w' => w'.cell? ⟨blk fa, ofs fa + k, none⟩ = some (.int .i64 (f k)) ∧ w'.cell? ⟨blk ga, ofs ga + k, none⟩ = some (.int .i64 (g k)) ∧ w'.cell? ⟨blk ha, ofs ha + k, none⟩ = some (.int .i64 (h k)))) (by kernel_rfl) (by exact (by have hq := TT.out _ P1.out.out; exact ⟨hq.l1.at hlt, hq.l2.at hlt, hq.l3.at hlt⟩)) (fun hHeld => ?_)
              generalize World.drew W2.drew = WW at *
              refine wpAnyH_take (i := 0) (oi := { dst := some 83, op := Op.move (Operand.tmp 11), type := 104, pos := "ref.go:257", after := #[], guard := none }) (v := ?_) rfl (by kernel_rfl) (by kernel_rfl) (by kernel_rfl) (fun _ _ _ h => h) (Or.inl ⟨by rfl, ?_⟩) (by assumption) ?_
              rotate_left
              · (intro w9 hSw; (try dsimp only at hSw); (go_split_ands; go_simp); (try with_reducible rfl))
              try simp only [Act.put, List.setIfInBounds_toArray, List.set_cons_zero, List.set_cons_succ]
              refine wpAnyH_take (i := 1) (oi := { dst := some 84, op := Op.move (Operand.tmp 1), type := 37, pos := "ref.go:257", after := #[], guard := none }) (v := ?_) rfl (by kernel_rfl) (by kernel_rfl) (by kernel_rfl) (fun _ _ _ h => h) (Or.inl ⟨by rfl, ?_⟩) (by assumption) ?_
              rotate_left
              · (intro w9 hSw; (try dsimp only at hSw); (go_split_ands; go_simp); (try with_reducible rfl))
              try simp only [Act.put, List.setIfInBounds_toArray, List.set_cons_zero, List.set_cons_succ]
              refine wpAnyH_take (i := 2) (oi := { dst := some 85, op := Op.move (Operand.tmp 12), type := 3, pos := "ref.go:257", after := #[], guard := none }) (v := ?_) rfl (by kernel_rfl) (by kernel_rfl) (by kernel_rfl) (fun _ _ _ h => h) (Or.inl ⟨by rfl, ?_⟩) (by assumption) ?_
              rotate_left
              · (intro w9 hSw; (try dsimp only at hSw); (go_split_ands; go_simp); (try with_reducible rfl))
              try simp only [Act.put, List.setIfInBounds_toArray, List.set_cons_zero, List.set_cons_succ]
              refine wpAnyH_take (i := 3) (oi := { dst := some 86, op := Op.indexAddr 37 (Operand.tmp 84) (Operand.tmp 85), type := 0, pos := "ref.go:257", after := #[{ on := 1, ground := Ground.data }, { on := 2, ground := Ground.data }], guard := none }) (v := ?_) rfl (by kernel_rfl) (by kernel_rfl) (by kernel_rfl) (fun _ _ _ h => h) (Or.inl ⟨by rfl, ?_⟩) (by assumption) ?_
              rotate_left
              · (intro w9 hSw; (try dsimp only at hSw); (go_split_ands; go_simp); (try with_reducible rfl))
              try simp only [Act.put, List.setIfInBounds_toArray, List.set_cons_zero, List.set_cons_succ]
              refine wpAnyH_take (i := 4) (oi := { dst := some 87, op := Op.load 3 (Operand.tmp 86), type := 3, pos := "ref.go:257", after := #[{ on := 3, ground := Ground.data }], guard := none }) (v := ?_) rfl (by kernel_rfl) (by kernel_rfl) (by kernel_rfl) (fun _ _ _ h => h) (Or.inl ⟨by rfl, ?_⟩) (by assumption) ?_
              rotate_left
              · (intro w9 hSw; (try dsimp only at hSw); (go_split_ands; go_simp); (try with_reducible rfl))
              try simp only [Act.put, List.setIfInBounds_toArray, List.set_cons_zero, List.set_cons_succ]
              refine wpAnyH_take (i := 5) (oi := { dst := some 88, op := Op.move (Operand.tmp 2), type := 37, pos := "ref.go:257", after := #[], guard := none }) (v := ?_) rfl (by kernel_rfl) (by kernel_rfl) (by kernel_rfl) (fun _ _ _ h => h) (Or.inl ⟨by rfl, ?_⟩) (by assumption) ?_
              rotate_left
              · (intro w9 hSw; (try dsimp only at hSw); (go_split_ands; go_simp); (try with_reducible rfl))
              try simp only [Act.put, List.setIfInBounds_toArray, List.set_cons_zero, List.set_cons_succ]
              refine wpAnyH_take (i := 6) (oi := { dst := some 89, op := Op.move (Operand.tmp 12), type := 3, pos := "ref.go:257", after := #[], guard := none }) (v := ?_) rfl (by kernel_rfl) (by kernel_rfl) (by kernel_rfl) (fun _ _ _ h => h) (Or.inl ⟨by rfl, ?_⟩) (by assumption) ?_
              rotate_left
              · (intro w9 hSw; (try dsimp only at hSw); (go_split_ands; go_simp); (try with_reducible rfl))
              try simp only [Act.put, List.setIfInBounds_toArray, List.set_cons_zero, List.set_cons_succ]
              refine wpAnyH_take (i := 7) (oi := { dst := some 90, op := Op.indexAddr 37 (Operand.tmp 88) (Operand.tmp 89), type := 0, pos := "ref.go:257", after := #[{ on := 5, ground := Ground.data }, { on := 6, ground := Ground.data }], guard := none }) (v := ?_) rfl (by kernel_rfl) (by kernel_rfl) (by kernel_rfl) (fun _ _ _ h => h) (Or.inl ⟨by rfl, ?_⟩) (by assumption) ?_
              rotate_left
              · (intro w9 hSw; (try dsimp only at hSw); (go_split_ands; go_simp); (try with_reducible rfl))
              try simp only [Act.put, List.setIfInBounds_toArray, List.set_cons_zero, List.set_cons_succ]
              refine wpAnyH_take (i := 8) (oi := { dst := some 91, op := Op.load 3 (Operand.tmp 90), type := 3, pos := "ref.go:257", after := #[{ on := 7, ground := Ground.data }], guard := none }) (v := ?_) rfl (by kernel_rfl) (by kernel_rfl) (by kernel_rfl) (fun _ _ _ h => h) (Or.inl ⟨by rfl, ?_⟩) (by assumption) ?_
              rotate_left
              · (intro w9 hSw; (try dsimp only at hSw); (go_split_ands; go_simp); (try with_reducible rfl))
              try simp only [Act.put, List.setIfInBounds_toArray, List.set_cons_zero, List.set_cons_succ]
              refine wpAnyH_take (i := 9) (oi := { dst := some 92, op := Op.move (Operand.tmp 3), type := 37, pos := "ref.go:257", after := #[], guard := none }) (v := ?_) rfl (by kernel_rfl) (by kernel_rfl) (by kernel_rfl) (fun _ _ _ h => h) (Or.inl ⟨by rfl, ?_⟩) (by assumption) ?_
              rotate_left
              · (intro w9 hSw; (try dsimp only at hSw); (go_split_ands; go_simp); (try with_reducible rfl))
              try simp only [Act.put, List.setIfInBounds_toArray, List.set_cons_zero, List.set_cons_succ]
              refine wpAnyH_take (i := 10) (oi := { dst := some 93, op := Op.move (Operand.tmp 12), type := 3, pos := "ref.go:257", after := #[], guard := none }) (v := ?_) rfl (by kernel_rfl) (by kernel_rfl) (by kernel_rfl) (fun _ _ _ h => h) (Or.inl ⟨by rfl, ?_⟩) (by assumption) ?_
              rotate_left
              · (intro w9 hSw; (try dsimp only at hSw); (go_split_ands; go_simp); (try with_reducible rfl))
              try simp only [Act.put, List.setIfInBounds_toArray, List.set_cons_zero, List.set_cons_succ]
              refine wpAnyH_take (i := 11) (oi := { dst := some 94, op := Op.indexAddr 37 (Operand.tmp 92) (Operand.tmp 93), type := 0, pos := "ref.go:257", after := #[{ on := 9, ground := Ground.data }, { on := 10, ground := Ground.data }], guard := none }) (v := ?_) rfl (by kernel_rfl) (by kernel_rfl) (by kernel_rfl) (fun _ _ _ h => h) (Or.inl ⟨by rfl, ?_⟩) (by assumption) ?_
              rotate_left
              · (intro w9 hSw; (try dsimp only at hSw); (go_split_ands; go_simp); (try with_reducible rfl))
              try simp only [Act.put, List.setIfInBounds_toArray, List.set_cons_zero, List.set_cons_succ]
              refine wpAnyH_take (i := 12) (oi := { dst := some 95, op := Op.load 3 (Operand.tmp 94), type := 3, pos := "ref.go:257", after := #[{ on := 11, ground := Ground.data }], guard := none }) (v := ?_) rfl (by kernel_rfl) (by kernel_rfl) (by kernel_rfl) (fun _ _ _ h => h) (Or.inl ⟨by rfl, ?_⟩) (by assumption) ?_
              rotate_left
              · (intro w9 hSw; (try dsimp only at hSw); (go_split_ands; go_simp); (try with_reducible rfl))
              try simp only [Act.put, List.setIfInBounds_toArray, List.set_cons_zero, List.set_cons_succ]
              refine wpAnyH_take (i := 13) (oi := { dst := some 96, op := Op.build 128 #[(0, Operand.tmp 87), (1, Operand.tmp 91), (2, Operand.tmp 95)], type := 128, pos := "ref.go:257", after := #[{ on := 4, ground := Ground.data }, { on := 8, ground := Ground.data }, { on := 12, ground := Ground.data }], guard := none }) (v := ?_) rfl (by kernel_rfl) (by kernel_rfl) (by kernel_rfl) (fun _ _ _ h => h) (Or.inl ⟨by rfl, ?_⟩) (by assumption) ?_
              rotate_left
              · (intro w9 hSw; (try dsimp only at hSw); (go_split_ands; go_simp); (try with_reducible rfl))
              try simp only [Act.put, List.setIfInBounds_toArray, List.set_cons_zero, List.set_cons_succ]
              refine wpAnyH_ready (rs := [14]) (by kernel_rfl) (by simp) ?_
              refine AllReadyH.cons (o := { dst := some 97, op := Op.buildSlice 104 1 #[(0, Operand.tmp 96)], type := 104, pos := "ref.go:257", after := #[{ on := 13, ground := Ground.data }], guard := none }) rfl (fun K hK => ?_) (AllReadyH.nil)
              clear hHeld
              go_simp
              go_wp2_with fail
              have P2 := Lib.hid (P1.out.new #[.int .i64 (f k), .int .i64 (g k), .int .i64 (h k)] 128)
              generalize World.alloc _ _ = W5 at *
              refine hK.out _ _ ?_ (fun hHeld => ?_)
              · exact (by have hq := TT.out _ P2.out.out; exact ⟨hq.l1.at hlt, hq.l2.at hlt, hq.l3.at hlt⟩)
              clear hK K
              try simp only [Act.put, List.setIfInBounds_toArray, List.set_cons_zero, List.set_cons_succ]
              refine wpAnyH_ready (rs := [15]) (by kernel_rfl) (by simp) ?_
              refine AllReadyH.cons (o := { dst := some 98, op := Op.call { callee := Callee.builtin Builtin.append, args := #[Operand.tmp 83, Operand.tmp 97], argTypes := #[104, 104] }, type := 104, pos := "ref.go:257", after := #[{ on := 0, ground := Ground.data }, { on := 14, ground := Ground.data }], guard := none }) rfl (fun K hK => ?_) (AllReadyH.nil)
              clear hHeld
              refine step_ownT Try.underlying104 hi0 hz0 hz1 hz2 (by rfl) (by omega) (by omega) P2.out (by rfl) (.tmp 83) (.tmp 97) (by rfl) 0 k (by rfl) (by rfl) (gb := WW.heap.size) (ys := (toldK f g h k).cells) (by rfl) List.mem_cons_self (by rfl) (Kn.cells_one _) (by omega) ?_
              intro gq capq W6 hO
              rw [← knVals_snoc, ← tolL_succ] at hO
              have P3 := Lib.hid (hO.sub (KB' := []) (fun e he => by cases he))
              clear hO P2
              refine hK.out _ _ ?_ (fun hHeld => ?_)
              · exact (by have hq := TT.out _ P3.out.out; exact ⟨hq.l1.at hlt, hq.l2.at hlt, hq.l3.at hlt⟩)
              clear hK K
              try simp only [Act.put, List.setIfInBounds_toArray, List.set_cons_zero, List.set_cons_succ]
              refine wpAnyH_take (i := 16) (oi := { dst := some 11, op := Op.assign (Operand.tmp 98), type := 104, pos := "ref.go:257", after := #[{ on := 15, ground := Ground.data }, { on := 15, ground := Ground.chain }, { on := 0, ground := Ground.phase }, { on := 1, ground := Ground.phase }, { on := 2, ground := Ground.phase }, { on := 3, ground := Ground.phase }, { on := 4, ground := Ground.phase }, { on := 5, ground := Ground.phase }, { on := 6, ground := Ground.phase }, { on := 7, ground := Ground.phase }, { on := 8, ground := Ground.phase }, { on := 9, ground := Ground.phase }, { on := 10, ground := Ground.phase }, { on := 11, ground := Ground.phase }, { on := 12, ground := Ground.phase }, { on := 13, ground := Ground.phase }, { on := 14, ground := Ground.phase }, { on := 15, ground := Ground.phase }], guard := none }) (v := ?_) rfl (by kernel_rfl) (by kernel_rfl) (by kernel_rfl) (fun _ _ _ h => h) (Or.inl ⟨by rfl, ?_⟩) (by assumption) ?_
              rotate_left
              · (intro w9 hSw; (try dsimp only at hSw); (go_split_ands; go_simp); (try with_reducible rfl))
              try simp only [Act.put, List.setIfInBounds_toArray, List.set_cons_zero, List.set_cons_succ]
              refine wpAnyH_done (by kernel_rfl) ?_ _
              clear hHeld
              go_wp2_with fail
              refine ⟨⟨k + 1, hlt, by go_num, fun j hj => ?_, P3.out⟩, by simp [intOf]; omega⟩
              by_cases e : j = k
              · rw [e]; exact HE.out
              · exact HK0.out j (by omega)
            · have HE := Lib.hid (show exB tn tn tn tn T f g h = false by unfold exB; rw [all_no hlt (show exOk T f g h k = false by simp [exOk, c1, c2, c3])]; simp)
              refine wp_region_held_drew (S := (fun w' => w'.cell? ⟨tb, 2, none⟩ = some (.int .i64 (T k).fl) ∧ w'.cell? ⟨tb, 3, none⟩ = some (.int .i64 (T k).fh) ∧ w'.cell? ⟨tb, 4, none⟩ = some (.int .i64 (T k).tl) ∧ w'.cell? ⟨tb, 5, none⟩ = some (.int .i64 (T k).th) ∧ w'.cell? ⟨tb, 6, none⟩ = some (.int .i64 (T k).dl) ∧ w'.cell? ⟨tb, 7, none⟩ = some (.int .i64 (T k).dh) ∧ w'.cell? ⟨blk fa, ofs fa + k, none⟩ = some (.int .i64 (f k)) ∧ w'.cell? ⟨blk ga, ofs ga + k, none⟩ = some (.int .i64 (g k)) ∧ w'.cell? ⟨blk ha, ofs ha + k, none⟩ = some (.int .i64 (h k)))) (by kernel_rfl) (by exact (by have hm := P0.out.box _ List.mem_cons_self; have hq := TT.out _ P0.out.out; exact ⟨cellAt hm 2, cellAt hm 3, cellAt hm 4, cellAt hm 5, cellAt hm 6, cellAt hm 7, hq.l1.at hlt, hq.l2.at hlt, hq.l3.at hlt⟩)) (fun hHeld => ?_)
              refine wpAnyH_take (i := 0) (oi := { dst := some 43, op := Op.move (Operand.tmp 1), type := 37, pos := "ref.go:254", after := #[], guard := none }) (v := ?_) rfl (by kernel_rfl) (by kernel_rfl) (by kernel_rfl) (fun _ _ _ h => h) (Or.inl ⟨by rfl, ?_⟩) (by assumption) ?_
              rotate_left
              · (intro w9 hSw; (try dsimp only at hSw); (go_split_ands; go_simp); (try with_reducible rfl))
              try simp only [Act.put, List.setIfInBounds_toArray, List.set_cons_zero, List.set_cons_succ]
              refine wpAnyH_take (i := 1) (oi := { dst := some 44, op := Op.move (Operand.tmp 12), type := 3, pos := "ref.go:254", after := #[], guard := none }) (v := ?_) rfl (by kernel_rfl) (by kernel_rfl) (by kernel_rfl) (fun _ _ _ h => h) (Or.inl ⟨by rfl, ?_⟩) (by assumption) ?_
              rotate_left
              · (intro w9 hSw; (try dsimp only at hSw); (go_split_ands; go_simp); (try with_reducible rfl))
              try simp only [Act.put, List.setIfInBounds_toArray, List.set_cons_zero, List.set_cons_succ]
              refine wpAnyH_take (i := 2) (oi := { dst := some 45, op := Op.indexAddr 37 (Operand.tmp 43) (Operand.tmp 44), type := 0, pos := "ref.go:254", after := #[{ on := 0, ground := Ground.data }, { on := 1, ground := Ground.data }], guard := none }) (v := ?_) rfl (by kernel_rfl) (by kernel_rfl) (by kernel_rfl) (fun _ _ _ h => h) (Or.inl ⟨by rfl, ?_⟩) (by assumption) ?_
              rotate_left
              · (intro w9 hSw; (try dsimp only at hSw); (go_split_ands; go_simp); (try with_reducible rfl))
              try simp only [Act.put, List.setIfInBounds_toArray, List.set_cons_zero, List.set_cons_succ]
              refine wpAnyH_take (i := 3) (oi := { dst := some 46, op := Op.load 3 (Operand.tmp 45), type := 3, pos := "ref.go:254", after := #[{ on := 2, ground := Ground.data }], guard := none }) (v := ?_) rfl (by kernel_rfl) (by kernel_rfl) (by kernel_rfl) (fun _ _ _ h => h) (Or.inl ⟨by rfl, ?_⟩) (by assumption) ?_
              rotate_left
              · (intro w9 hSw; (try dsimp only at hSw); (go_split_ands; go_simp); (try with_reducible rfl))
              try simp only [Act.put, List.setIfInBounds_toArray, List.set_cons_zero, List.set_cons_succ]
              refine wpAnyH_take (i := 4) (oi := { dst := some 47, op := Op.fieldAddr 58 (Operand.tmp 13) 2, type := 0, pos := "ref.go:254", after := #[], guard := none }) (v := ?_) rfl (by kernel_rfl) (by kernel_rfl) (by kernel_rfl) (fun _ _ _ h => h) (Or.inl ⟨by rfl, ?_⟩) (by assumption) ?_
              rotate_left
              · (intro w9 hSw; (try dsimp only at hSw); (go_split_ands; go_simp); (try with_reducible rfl))
              try simp only [Act.put, List.setIfInBounds_toArray, List.set_cons_zero, List.set_cons_succ]
              refine wpAnyH_take (i := 5) (oi := { dst := some 48, op := Op.fieldAddr 29 (Operand.tmp 47) 0, type := 0, pos := "ref.go:254", after := #[{ on := 4, ground := Ground.data }], guard := none }) (v := ?_) rfl (by kernel_rfl) (by kernel_rfl) (by kernel_rfl) (fun _ _ _ h => h) (Or.inl ⟨by rfl, ?_⟩) (by assumption) ?_
              rotate_left
              · (intro w9 hSw; (try dsimp only at hSw); (go_split_ands; go_simp); (try with_reducible rfl))
              try simp only [Act.put, List.setIfInBounds_toArray, List.set_cons_zero, List.set_cons_succ]
              refine wpAnyH_take (i := 6) (oi := { dst := some 49, op := Op.load 3 (Operand.tmp 48), type := 3, pos := "ref.go:254", after := #[{ on := 5, ground := Ground.data }], guard := none }) (v := ?_) rfl (by kernel_rfl) (by kernel_rfl) (by kernel_rfl) (fun _ _ _ h => h) (Or.inl ⟨by rfl, ?_⟩) (by assumption) ?_
              rotate_left
              · (intro w9 hSw; (try dsimp only at hSw); (go_split_ands; go_simp); (try with_reducible rfl))
              try simp only [Act.put, List.setIfInBounds_toArray, List.set_cons_zero, List.set_cons_succ]
              refine wpAnyH_take (i := 7) (oi := { dst := some 50, op := Op.fieldAddr 58 (Operand.tmp 13) 2, type := 0, pos := "ref.go:254", after := #[], guard := none }) (v := ?_) rfl (by kernel_rfl) (by kernel_rfl) (by kernel_rfl) (fun _ _ _ h => h) (Or.inl ⟨by rfl, ?_⟩) (by assumption) ?_
              rotate_left
              · (intro w9 hSw; (try dsimp only at hSw); (go_split_ands; go_simp); (try with_reducible rfl))
              try simp only [Act.put, List.setIfInBounds_toArray, List.set_cons_zero, List.set_cons_succ]
              refine wpAnyH_take (i := 8) (oi := { dst := some 51, op := Op.fieldAddr 29 (Operand.tmp 50) 1, type := 0, pos := "ref.go:254", after := #[{ on := 7, ground := Ground.data }], guard := none }) (v := ?_) rfl (by kernel_rfl) (by kernel_rfl) (by kernel_rfl) (fun _ _ _ h => h) (Or.inl ⟨by rfl, ?_⟩) (by assumption) ?_
              rotate_left
              · (intro w9 hSw; (try dsimp only at hSw); (go_split_ands; go_simp); (try with_reducible rfl))
              try simp only [Act.put, List.setIfInBounds_toArray, List.set_cons_zero, List.set_cons_succ]
              refine wpAnyH_take (i := 9) (oi := { dst := some 52, op := Op.load 3 (Operand.tmp 51), type := 3, pos := "ref.go:254", after := #[{ on := 8, ground := Ground.data }], guard := none }) (v := ?_) rfl (by kernel_rfl) (by kernel_rfl) (by kernel_rfl) (fun _ _ _ h => h) (Or.inl ⟨by rfl, ?_⟩) (by assumption) ?_
              rotate_left
              · (intro w9 hSw; (try dsimp only at hSw); (go_split_ands; go_simp); (try with_reducible rfl))
              try simp only [Act.put, List.setIfInBounds_toArray, List.set_cons_zero, List.set_cons_succ]
              refine wpAnyH_ready (rs := [10]) (by kernel_rfl) (by simp) ?_
              refine AllReadyH.cons (o := { dst := some 53, op := Op.call { callee := Callee.value (Operand.func 88), args := #[Operand.tmp 46, Operand.tmp 49, Operand.tmp 52], argTypes := #[3, 3, 3] }, type := 4, pos := "ref.go:254", after := #[{ on := 3, ground := Ground.data }, { on := 6, ground := Ground.data }, { on := 9, ground := Ground.data }], guard := none }) rfl (fun K hK => ?_) (AllReadyH.nil)
              go_simp
              go_at_call 88; refine (in_any _ _ _ _).mono ?_; rintro e w3 ⟨rfl, rfl⟩
              go_wp2_with fail
              refine hK.out _ _ ?_ (fun hHeld => ?_)
              · exact (by have hm := P0.out.box _ List.mem_cons_self; have hq := TT.out _ P0.out.out; exact ⟨cellAt hm 2, cellAt hm 3, cellAt hm 4, cellAt hm 5, cellAt hm 6, cellAt hm 7, hq.l1.at hlt, hq.l2.at hlt, hq.l3.at hlt⟩)
              clear hK K
              try simp only [Act.put, List.setIfInBounds_toArray, List.set_cons_zero, List.set_cons_succ]
              refine wpAnyH_take (i := 11) (oi := { dst := some 54, op := Op.unOp UnOp.not 4 (Operand.tmp 53), type := 4, pos := "ref.go:254", after := #[{ on := 10, ground := Ground.data }], guard := none }) (v := ?_) rfl (by kernel_rfl) (by kernel_rfl) (by kernel_rfl) (fun _ _ _ h => h) (Or.inl ⟨by rfl, ?_⟩) (by assumption) ?_
              rotate_left
              · (intro w9 hSw; (try dsimp only at hSw); (go_split_ands; go_simp); (try with_reducible rfl))
              try simp only [Act.put, List.setIfInBounds_toArray, List.set_cons_zero, List.set_cons_succ]
              refine wpAnyH_take (i := 12) (oi := { dst := some 55, op := Op.move (Operand.tmp 54), type := 4, pos := "ref.go:254", after := #[{ on := 11, ground := Ground.data }, { on := 10, ground := Ground.chain }], guard := none }) (v := ?_) rfl (by kernel_rfl) (by kernel_rfl) (by kernel_rfl) (fun _ _ _ h => h) (Or.inl ⟨by rfl, ?_⟩) (by assumption) ?_
              rotate_left
              · (intro w9 hSw; (try dsimp only at hSw); (go_split_ands; go_simp); (try with_reducible rfl))
              try simp only [Act.put, List.setIfInBounds_toArray, List.set_cons_zero, List.set_cons_succ]
              refine wpAnyH_take (i := 13) (oi := { dst := some 56, op := Op.move (Operand.tmp 2), type := 37, pos := "ref.go:254", after := #[{ on := 12, ground := Ground.guard }], guard := some (12, false) }) (v := ?_) rfl (by kernel_rfl) (by kernel_rfl) (by kernel_rfl) (fun _ _ _ h => h) (Or.inl ⟨by rfl, ?_⟩) (by assumption) ?_
              rotate_left
              · (intro w9 hSw; (try dsimp only at hSw); (go_split_ands; go_simp); (try with_reducible rfl))
              try simp only [Act.put, List.setIfInBounds_toArray, List.set_cons_zero, List.set_cons_succ]
              refine wpAnyH_take (i := 14) (oi := { dst := some 57, op := Op.move (Operand.tmp 12), type := 3, pos := "ref.go:254", after := #[{ on := 12, ground := Ground.guard }], guard := some (12, false) }) (v := ?_) rfl (by kernel_rfl) (by kernel_rfl) (by kernel_rfl) (fun _ _ _ h => h) (Or.inl ⟨by rfl, ?_⟩) (by assumption) ?_
              rotate_left
              · (intro w9 hSw; (try dsimp only at hSw); (go_split_ands; go_simp); (try with_reducible rfl))
              try simp only [Act.put, List.setIfInBounds_toArray, List.set_cons_zero, List.set_cons_succ]
              refine wpAnyH_take (i := 15) (oi := { dst := some 58, op := Op.indexAddr 37 (Operand.tmp 56) (Operand.tmp 57), type := 0, pos := "ref.go:254", after := #[{ on := 13, ground := Ground.data }, { on := 14, ground := Ground.data }, { on := 12, ground := Ground.guard }], guard := some (12, false) }) (v := ?_) rfl (by kernel_rfl) (by kernel_rfl) (by kernel_rfl) (fun _ _ _ h => h) (Or.inl ⟨by rfl, ?_⟩) (by assumption) ?_
              rotate_left
              · (intro w9 hSw; (try dsimp only at hSw); (go_split_ands; go_simp); (try with_reducible rfl))
              try simp only [Act.put, List.setIfInBounds_toArray, List.set_cons_zero, List.set_cons_succ]
              refine wpAnyH_take (i := 16) (oi := { dst := some 59, op := Op.load 3 (Operand.tmp 58), type := 3, pos := "ref.go:254", after := #[{ on := 15, ground := Ground.data }, { on := 12, ground := Ground.guard }], guard := some (12, false) }) (v := ?_) rfl (by kernel_rfl) (by kernel_rfl) (by kernel_rfl) (fun _ _ _ h => h) (Or.inl ⟨by rfl, ?_⟩) (by assumption) ?_
              rotate_left
              · (intro w9 hSw; (try dsimp only at hSw); (go_split_ands; go_simp); (try with_reducible rfl))
              try simp only [Act.put, List.setIfInBounds_toArray, List.set_cons_zero, List.set_cons_succ]
              refine wpAnyH_take (i := 17) (oi := { dst := some 60, op := Op.fieldAddr 58 (Operand.tmp 13) 3, type := 0, pos := "ref.go:254", after := #[{ on := 12, ground := Ground.guard }], guard := some (12, false) }) (v := ?_) rfl (by kernel_rfl) (by kernel_rfl) (by kernel_rfl) (fun _ _ _ h => h) (Or.inl ⟨by rfl, ?_⟩) (by assumption) ?_
              rotate_left
              · (intro w9 hSw; (try dsimp only at hSw); (go_split_ands; go_simp); (try with_reducible rfl))
              try simp only [Act.put, List.setIfInBounds_toArray, List.set_cons_zero, List.set_cons_succ]
              refine wpAnyH_take (i := 18) (oi := { dst := some 61, op := Op.fieldAddr 29 (Operand.tmp 60) 0, type := 0, pos := "ref.go:254", after := #[{ on := 17, ground := Ground.data }, { on := 12, ground := Ground.guard }], guard := some (12, false) }) (v := ?_) rfl (by kernel_rfl) (by kernel_rfl) (by kernel_rfl) (fun _ _ _ h => h) (Or.inl ⟨by rfl, ?_⟩) (by assumption) ?_
              rotate_left
              · (intro w9 hSw; (try dsimp only at hSw); (go_split_ands; go_simp); (try with_reducible rfl))
              try simp only [Act.put, List.setIfInBounds_toArray, List.set_cons_zero, List.set_cons_succ]
              refine wpAnyH_take (i := 19) (oi := { dst := some 62, op := Op.load 3 (Operand.tmp 61), type := 3, pos := "ref.go:254", after := #[{ on := 18, ground := Ground.data }, { on := 12, ground := Ground.guard }], guard := some (12, false) }) (v := ?_) rfl (by kernel_rfl) (by kernel_rfl) (by kernel_rfl) (fun _ _ _ h => h) (Or.inl ⟨by rfl, ?_⟩) (by assumption) ?_
              rotate_left
              · (intro w9 hSw; (try dsimp only at hSw); (go_split_ands; go_simp); (try with_reducible rfl))
              try simp only [Act.put, List.setIfInBounds_toArray, List.set_cons_zero, List.set_cons_succ]
              refine wpAnyH_take (i := 20) (oi := { dst := some 63, op := Op.fieldAddr 58 (Operand.tmp 13) 3, type := 0, pos := "ref.go:254", after := #[{ on := 12, ground := Ground.guard }], guard := some (12, false) }) (v := ?_) rfl (by kernel_rfl) (by kernel_rfl) (by kernel_rfl) (fun _ _ _ h => h) (Or.inl ⟨by rfl, ?_⟩) (by assumption) ?_
              rotate_left
              · (intro w9 hSw; (try dsimp only at hSw); (go_split_ands; go_simp); (try with_reducible rfl))
              try simp only [Act.put, List.setIfInBounds_toArray, List.set_cons_zero, List.set_cons_succ]
              refine wpAnyH_take (i := 21) (oi := { dst := some 64, op := Op.fieldAddr 29 (Operand.tmp 63) 1, type := 0, pos := "ref.go:254", after := #[{ on := 20, ground := Ground.data }, { on := 12, ground := Ground.guard }], guard := some (12, false) }) (v := ?_) rfl (by kernel_rfl) (by kernel_rfl) (by kernel_rfl) (fun _ _ _ h => h) (Or.inl ⟨by rfl, ?_⟩) (by assumption) ?_
              rotate_left
              · (intro w9 hSw; (try dsimp only at hSw); (go_split_ands; go_simp); (try with_reducible rfl))
              try simp only [Act.put, List.setIfInBounds_toArray, List.set_cons_zero, List.set_cons_succ]
              refine wpAnyH_take (i := 22) (oi := { dst := some 65, op := Op.load 3 (Operand.tmp 64), type := 3, pos := "ref.go:254", after := #[{ on := 21, ground := Ground.data }, { on := 12, ground := Ground.guard }], guard := some (12, false) }) (v := ?_) rfl (by kernel_rfl) (by kernel_rfl) (by kernel_rfl) (fun _ _ _ h => h) (Or.inl ⟨by rfl, ?_⟩) (by assumption) ?_
              rotate_left
              · (intro w9 hSw; (try dsimp only at hSw); (go_split_ands; go_simp); (try with_reducible rfl))
              try simp only [Act.put, List.setIfInBounds_toArray, List.set_cons_zero, List.set_cons_succ]
              refine wpAnyH_ready (rs := [23]) (by kernel_rfl) (by simp) ?_
              refine AllReadyH.cons (o := { dst := some 66, op := Op.call { callee := Callee.value (Operand.func 88), args := #[Operand.tmp 59, Operand.tmp 62, Operand.tmp 65], argTypes := #[3, 3, 3] }, type := 4, pos := "ref.go:254", after := #[{ on := 16, ground := Ground.data }, { on := 19, ground := Ground.data }, { on := 22, ground := Ground.data }, { on := 12, ground := Ground.chain }, { on := 12, ground := Ground.guard }], guard := some (12, false) }) rfl (fun K hK => ?_) (AllReadyH.nil)
              go_simp
              go_at_call 88; refine (in_any _ _ _ _).mono ?_; rintro e w3 ⟨rfl, rfl⟩
              go_wp2_with fail
              refine hK.out _ _ ?_ (fun hHeld => ?_)
              · exact (by have hm := P0.out.box _ List.mem_cons_self; have hq := TT.out _ P0.out.out; exact ⟨cellAt hm 2, cellAt hm 3, cellAt hm 4, cellAt hm 5, cellAt hm 6, cellAt hm 7, hq.l1.at hlt, hq.l2.at hlt, hq.l3.at hlt⟩)
              clear hK K
              try simp only [Act.put, List.setIfInBounds_toArray, List.set_cons_zero, List.set_cons_succ]
              refine wpAnyH_take (i := 24) (oi := { dst := some 67, op := Op.unOp UnOp.not 4 (Operand.tmp 66), type := 4, pos := "ref.go:254", after := #[{ on := 23, ground := Ground.data }, { on := 12, ground := Ground.guard }], guard := some (12, false) }) (v := ?_) rfl (by kernel_rfl) (by kernel_rfl) (by kernel_rfl) (fun _ _ _ h => h) (Or.inl ⟨by rfl, ?_⟩) (by assumption) ?_
              rotate_left
              · (intro w9 hSw; (try dsimp only at hSw); (go_split_ands; go_simp); (try with_reducible rfl))
              try simp only [Act.put, List.setIfInBounds_toArray, List.set_cons_zero, List.set_cons_succ]
              refine wpAnyH_take (i := 25) (oi := { dst := some 68, op := Op.pick (Operand.tmp 55) (Operand.const (Value.bool true)) (Operand.tmp 67), type := 4, pos := "ref.go:254", after := #[{ on := 12, ground := Ground.data }, { on := 24, ground := Ground.data }], guard := none }) (v := ?_) rfl (by kernel_rfl) (by kernel_rfl) (by kernel_rfl) (fun _ _ _ h => h) (Or.inl ⟨by rfl, ?_⟩) (by assumption) ?_
              rotate_left
              · (intro w9 hSw; (try dsimp only at hSw); (go_split_ands; go_simp); (try with_reducible rfl))
              try simp only [Act.put, List.setIfInBounds_toArray, List.set_cons_zero, List.set_cons_succ]
              refine wpAnyH_take (i := 26) (oi := { dst := some 69, op := Op.move (Operand.tmp 68), type := 4, pos := "ref.go:254", after := #[{ on := 25, ground := Ground.data }, { on := 23, ground := Ground.chain }], guard := none }) (v := ?_) rfl (by kernel_rfl) (by kernel_rfl) (by kernel_rfl) (fun _ _ _ h => h) (Or.inl ⟨by rfl, ?_⟩) (by assumption) ?_
              rotate_left
              · (intro w9 hSw; (try dsimp only at hSw); (go_split_ands; go_simp); (try with_reducible rfl))
              try simp only [Act.put, List.setIfInBounds_toArray, List.set_cons_zero, List.set_cons_succ]
              refine wpAnyH_take (i := 27) (oi := { dst := some 70, op := Op.move (Operand.tmp 3), type := 37, pos := "ref.go:254", after := #[{ on := 26, ground := Ground.guard }], guard := some (26, false) }) (v := ?_) rfl (by kernel_rfl) (by kernel_rfl) (by kernel_rfl) (fun _ _ _ h => h) (Or.inl ⟨by rfl, ?_⟩) (by assumption) ?_
              rotate_left
              · (intro w9 hSw; (try dsimp only at hSw); (go_split_ands; go_simp); (try with_reducible rfl))
              try simp only [Act.put, List.setIfInBounds_toArray, List.set_cons_zero, List.set_cons_succ]
              refine wpAnyH_take (i := 28) (oi := { dst := some 71, op := Op.move (Operand.tmp 12), type := 3, pos := "ref.go:254", after := #[{ on := 26, ground := Ground.guard }], guard := some (26, false) }) (v := ?_) rfl (by kernel_rfl) (by kernel_rfl) (by kernel_rfl) (fun _ _ _ h => h) (Or.inl ⟨by rfl, ?_⟩) (by assumption) ?_
              rotate_left
              · (intro w9 hSw; (try dsimp only at hSw); (go_split_ands; go_simp); (try with_reducible rfl))
              try simp only [Act.put, List.setIfInBounds_toArray, List.set_cons_zero, List.set_cons_succ]
              refine wpAnyH_take (i := 29) (oi := { dst := some 72, op := Op.indexAddr 37 (Operand.tmp 70) (Operand.tmp 71), type := 0, pos := "ref.go:254", after := #[{ on := 27, ground := Ground.data }, { on := 28, ground := Ground.data }, { on := 26, ground := Ground.guard }], guard := some (26, false) }) (v := ?_) rfl (by kernel_rfl) (by kernel_rfl) (by kernel_rfl) (fun _ _ _ h => h) (Or.inl ⟨by rfl, ?_⟩) (by assumption) ?_
              rotate_left
              · (intro w9 hSw; (try dsimp only at hSw); (go_split_ands; go_simp); (try with_reducible rfl))
              try simp only [Act.put, List.setIfInBounds_toArray, List.set_cons_zero, List.set_cons_succ]
              refine wpAnyH_take (i := 30) (oi := { dst := some 73, op := Op.load 3 (Operand.tmp 72), type := 3, pos := "ref.go:254", after := #[{ on := 29, ground := Ground.data }, { on := 26, ground := Ground.guard }], guard := some (26, false) }) (v := ?_) rfl (by kernel_rfl) (by kernel_rfl) (by kernel_rfl) (fun _ _ _ h => h) (Or.inl ⟨by rfl, ?_⟩) (by assumption) ?_
              rotate_left
              · (intro w9 hSw; (try dsimp only at hSw); (go_split_ands; go_simp); (try with_reducible rfl))
              try simp only [Act.put, List.setIfInBounds_toArray, List.set_cons_zero, List.set_cons_succ]
              refine wpAnyH_take (i := 31) (oi := { dst := some 74, op := Op.fieldAddr 58 (Operand.tmp 13) 4, type := 0, pos := "ref.go:254", after := #[{ on := 26, ground := Ground.guard }], guard := some (26, false) }) (v := ?_) rfl (by kernel_rfl) (by kernel_rfl) (by kernel_rfl) (fun _ _ _ h => h) (Or.inl ⟨by rfl, ?_⟩) (by assumption) ?_
              rotate_left
              · (intro w9 hSw; (try dsimp only at hSw); (go_split_ands; go_simp); (try with_reducible rfl))
              try simp only [Act.put, List.setIfInBounds_toArray, List.set_cons_zero, List.set_cons_succ]
              refine wpAnyH_take (i := 32) (oi := { dst := some 75, op := Op.fieldAddr 29 (Operand.tmp 74) 0, type := 0, pos := "ref.go:254", after := #[{ on := 31, ground := Ground.data }, { on := 26, ground := Ground.guard }], guard := some (26, false) }) (v := ?_) rfl (by kernel_rfl) (by kernel_rfl) (by kernel_rfl) (fun _ _ _ h => h) (Or.inl ⟨by rfl, ?_⟩) (by assumption) ?_
              rotate_left
              · (intro w9 hSw; (try dsimp only at hSw); (go_split_ands; go_simp); (try with_reducible rfl))
              try simp only [Act.put, List.setIfInBounds_toArray, List.set_cons_zero, List.set_cons_succ]
              refine wpAnyH_take (i := 33) (oi := { dst := some 76, op := Op.load 3 (Operand.tmp 75), type := 3, pos := "ref.go:254", after := #[{ on := 32, ground := Ground.data }, { on := 26, ground := Ground.guard }], guard := some (26, false) }) (v := ?_) rfl (by kernel_rfl) (by kernel_rfl) (by kernel_rfl) (fun _ _ _ h => h) (Or.inl ⟨by rfl, ?_⟩) (by assumption) ?_
              rotate_left
              · (intro w9 hSw; (try dsimp only at hSw); (go_split_ands; go_simp); (try with_reducible rfl))
              try simp only [Act.put, List.setIfInBounds_toArray, List.set_cons_zero, List.set_cons_succ]
              refine wpAnyH_take (i := 34) (oi := { dst := some 77, op := Op.fieldAddr 58 (Operand.tmp 13) 4, type := 0, pos := "ref.go:254", after := #[{ on := 26, ground := Ground.guard }], guard := some (26, false) }) (v := ?_) rfl (by kernel_rfl) (by kernel_rfl) (by kernel_rfl) (fun _ _ _ h => h) (Or.inl ⟨by rfl, ?_⟩) (by assumption) ?_
              rotate_left
              · (intro w9 hSw; (try dsimp only at hSw); (go_split_ands; go_simp); (try with_reducible rfl))
              try simp only [Act.put, List.setIfInBounds_toArray, List.set_cons_zero, List.set_cons_succ]
              refine wpAnyH_take (i := 35) (oi := { dst := some 78, op := Op.fieldAddr 29 (Operand.tmp 77) 1, type := 0, pos := "ref.go:254", after := #[{ on := 34, ground := Ground.data }, { on := 26, ground := Ground.guard }], guard := some (26, false) }) (v := ?_) rfl (by kernel_rfl) (by kernel_rfl) (by kernel_rfl) (fun _ _ _ h => h) (Or.inl ⟨by rfl, ?_⟩) (by assumption) ?_
              rotate_left
              · (intro w9 hSw; (try dsimp only at hSw); (go_split_ands; go_simp); (try with_reducible rfl))
              try simp only [Act.put, List.setIfInBounds_toArray, List.set_cons_zero, List.set_cons_succ]
              refine wpAnyH_take (i := 36) (oi := { dst := some 79, op := Op.load 3 (Operand.tmp 78), type := 3, pos := "ref.go:254", after := #[{ on := 35, ground := Ground.data }, { on := 26, ground := Ground.guard }], guard := some (26, false) }) (v := ?_) rfl (by kernel_rfl) (by kernel_rfl) (by kernel_rfl) (fun _ _ _ h => h) (Or.inl ⟨by rfl, ?_⟩) (by assumption) ?_
              rotate_left
              · (intro w9 hSw; (try dsimp only at hSw); (go_split_ands; go_simp); (try with_reducible rfl))
              try simp only [Act.put, List.setIfInBounds_toArray, List.set_cons_zero, List.set_cons_succ]
              refine wpAnyH_ready (rs := [37]) (by kernel_rfl) (by simp) ?_
              refine AllReadyH.cons (o := { dst := some 80, op := Op.call { callee := Callee.value (Operand.func 88), args := #[Operand.tmp 73, Operand.tmp 76, Operand.tmp 79], argTypes := #[3, 3, 3] }, type := 4, pos := "ref.go:254", after := #[{ on := 30, ground := Ground.data }, { on := 33, ground := Ground.data }, { on := 36, ground := Ground.data }, { on := 26, ground := Ground.chain }, { on := 26, ground := Ground.guard }], guard := some (26, false) }) rfl (fun K hK => ?_) (AllReadyH.nil)
              go_simp
              go_at_call 88; refine (in_any _ _ _ _).mono ?_; rintro e w3 ⟨rfl, rfl⟩
              go_wp2_with fail
              refine hK.out _ _ ?_ (fun hHeld => ?_)
              · exact (by have hm := P0.out.box _ List.mem_cons_self; have hq := TT.out _ P0.out.out; exact ⟨cellAt hm 2, cellAt hm 3, cellAt hm 4, cellAt hm 5, cellAt hm 6, cellAt hm 7, hq.l1.at hlt, hq.l2.at hlt, hq.l3.at hlt⟩)
              clear hK K
              try simp only [Act.put, List.setIfInBounds_toArray, List.set_cons_zero, List.set_cons_succ]
              refine wpAnyH_take (i := 38) (oi := { dst := some 81, op := Op.unOp UnOp.not 4 (Operand.tmp 80), type := 4, pos := "ref.go:254", after := #[{ on := 37, ground := Ground.data }, { on := 26, ground := Ground.guard }], guard := some (26, false) }) (v := ?_) rfl (by kernel_rfl) (by kernel_rfl) (by kernel_rfl) (fun _ _ _ h => h) (Or.inl ⟨by rfl, ?_⟩) (by assumption) ?_
              rotate_left
              · (intro w9 hSw; (try dsimp only at hSw); (go_split_ands; go_simp); (try with_reducible rfl))
              try simp only [Act.put, List.setIfInBounds_toArray, List.set_cons_zero, List.set_cons_succ]
              refine wpAnyH_take (i := 39) (oi := { dst := some 82, op := Op.pick (Operand.tmp 69) (Operand.const (Value.bool true)) (Operand.tmp 81), type := 4, pos := "ref.go:254", after := #[{ on := 26, ground := Ground.data }, { on := 38, ground := Ground.data }], guard := none }) (v := ?_) rfl (by kernel_rfl) (by kernel_rfl) (by kernel_rfl) (fun _ _ _ h => h) (Or.inl ⟨by rfl, ?_⟩) (by assumption) ?_
              rotate_left
              · (intro w9 hSw; (try dsimp only at hSw); (go_split_ands; go_simp); (try with_reducible rfl))
              try simp only [Act.put, List.setIfInBounds_toArray, List.set_cons_zero, List.set_cons_succ]
              refine wpAnyH_done (by kernel_rfl) ?_ _
              clear hHeld
              go_wp2_with fail
              refine bodyPost_ret (v := .tuple #[.slice none 0 0, .bool false]) (by simp [results, Try.results74, go_sem]) rfl ?_
              exact ⟨(TT.out _ P0.out.out).bel, .inr ⟨HE.out, rfl⟩⟩
          · have HE := Lib.hid (show exB tn tn tn tn T f g h = false by unfold exB; rw [all_no hlt (show exOk T f g h k = false by simp [exOk, c1, c2])]; simp)
            clear hc3
            refine wp_region_held_drew (S := (fun w' => w'.cell? ⟨tb, 2, none⟩ = some (.int .i64 (T k).fl) ∧ w'.cell? ⟨tb, 3, none⟩ = some (.int .i64 (T k).fh) ∧ w'.cell? ⟨tb, 4, none⟩ = some (.int .i64 (T k).tl) ∧ w'.cell? ⟨tb, 5, none⟩ = some (.int .i64 (T k).th) ∧ w'.cell? ⟨tb, 6, none⟩ = some (.int .i64 (T k).dl) ∧ w'.cell? ⟨tb, 7, none⟩ = some (.int .i64 (T k).dh) ∧ w'.cell? ⟨blk fa, ofs fa + k, none⟩ = some (.int .i64 (f k)) ∧ w'.cell? ⟨blk ga, ofs ga + k, none⟩ = some (.int .i64 (g k)) ∧ w'.cell? ⟨blk ha, ofs ha + k, none⟩ = some (.int .i64 (h k)))) (by kernel_rfl) (by exact (by have hm := P0.out.box _ List.mem_cons_self; have hq := TT.out _ P0.out.out; exact ⟨cellAt hm 2, cellAt hm 3, cellAt hm 4, cellAt hm 5, cellAt hm 6, cellAt hm 7, hq.l1.at hlt, hq.l2.at hlt, hq.l3.at hlt⟩)) (fun hHeld => ?_)
            refine wpAnyH_take (i := 0) (oi := { dst := some 43, op := Op.move (Operand.tmp 1), type := 37, pos := "ref.go:254", after := #[], guard := none }) (v := ?_) rfl (by kernel_rfl) (by kernel_rfl) (by kernel_rfl) (fun _ _ _ h => h) (Or.inl ⟨by rfl, ?_⟩) (by assumption) ?_
            rotate_left
            · (intro w9 hSw; (try dsimp only at hSw); (go_split_ands; go_simp); (try with_reducible rfl))
            try simp only [Act.put, List.setIfInBounds_toArray, List.set_cons_zero, List.set_cons_succ]
            refine wpAnyH_take (i := 1) (oi := { dst := some 44, op := Op.move (Operand.tmp 12), type := 3, pos := "ref.go:254", after := #[], guard := none }) (v := ?_) rfl (by kernel_rfl) (by kernel_rfl) (by kernel_rfl) (fun _ _ _ h => h) (Or.inl ⟨by rfl, ?_⟩) (by assumption) ?_
            rotate_left
            · (intro w9 hSw; (try dsimp only at hSw); (go_split_ands; go_simp); (try with_reducible rfl))
            try simp only [Act.put, List.setIfInBounds_toArray, List.set_cons_zero, List.set_cons_succ]
            refine wpAnyH_take (i := 2) (oi := { dst := some 45, op := Op.indexAddr 37 (Operand.tmp 43) (Operand.tmp 44), type := 0, pos := "ref.go:254", after := #[{ on := 0, ground := Ground.data }, { on := 1, ground := Ground.data }], guard := none }) (v := ?_) rfl (by kernel_rfl) (by kernel_rfl) (by kernel_rfl) (fun _ _ _ h => h) (Or.inl ⟨by rfl, ?_⟩) (by assumption) ?_
            rotate_left
            · (intro w9 hSw; (try dsimp only at hSw); (go_split_ands; go_simp); (try with_reducible rfl))
            try simp only [Act.put, List.setIfInBounds_toArray, List.set_cons_zero, List.set_cons_succ]
            refine wpAnyH_take (i := 3) (oi := { dst := some 46, op := Op.load 3 (Operand.tmp 45), type := 3, pos := "ref.go:254", after := #[{ on := 2, ground := Ground.data }], guard := none }) (v := ?_) rfl (by kernel_rfl) (by kernel_rfl) (by kernel_rfl) (fun _ _ _ h => h) (Or.inl ⟨by rfl, ?_⟩) (by assumption) ?_
            rotate_left
            · (intro w9 hSw; (try dsimp only at hSw); (go_split_ands; go_simp); (try with_reducible rfl))
            try simp only [Act.put, List.setIfInBounds_toArray, List.set_cons_zero, List.set_cons_succ]
            refine wpAnyH_take (i := 4) (oi := { dst := some 47, op := Op.fieldAddr 58 (Operand.tmp 13) 2, type := 0, pos := "ref.go:254", after := #[], guard := none }) (v := ?_) rfl (by kernel_rfl) (by kernel_rfl) (by kernel_rfl) (fun _ _ _ h => h) (Or.inl ⟨by rfl, ?_⟩) (by assumption) ?_
            rotate_left
            · (intro w9 hSw; (try dsimp only at hSw); (go_split_ands; go_simp); (try with_reducible rfl))
            try simp only [Act.put, List.setIfInBounds_toArray, List.set_cons_zero, List.set_cons_succ]
            refine wpAnyH_take (i := 5) (oi := { dst := some 48, op := Op.fieldAddr 29 (Operand.tmp 47) 0, type := 0, pos := "ref.go:254", after := #[{ on := 4, ground := Ground.data }], guard := none }) (v := ?_) rfl (by kernel_rfl) (by kernel_rfl) (by kernel_rfl) (fun _ _ _ h => h) (Or.inl ⟨by rfl, ?_⟩) (by assumption) ?_
            rotate_left
            · (intro w9 hSw; (try dsimp only at hSw); (go_split_ands; go_simp); (try with_reducible rfl))
            try simp only [Act.put, List.setIfInBounds_toArray, List.set_cons_zero, List.set_cons_succ]
            refine wpAnyH_take (i := 6) (oi := { dst := some 49, op := Op.load 3 (Operand.tmp 48), type := 3, pos := "ref.go:254", after := #[{ on := 5, ground := Ground.data }], guard := none }) (v := ?_) rfl (by kernel_rfl) (by kernel_rfl) (by kernel_rfl) (fun _ _ _ h => h) (Or.inl ⟨by rfl, ?_⟩) (by assumption) ?_
            rotate_left
            · (intro w9 hSw; (try dsimp only at hSw); (go_split_ands; go_simp); (try with_reducible rfl))
            try simp only [Act.put, List.setIfInBounds_toArray, List.set_cons_zero, List.set_cons_succ]
            refine wpAnyH_take (i := 7) (oi := { dst := some 50, op := Op.fieldAddr 58 (Operand.tmp 13) 2, type := 0, pos := "ref.go:254", after := #[], guard := none }) (v := ?_) rfl (by kernel_rfl) (by kernel_rfl) (by kernel_rfl) (fun _ _ _ h => h) (Or.inl ⟨by rfl, ?_⟩) (by assumption) ?_
            rotate_left
            · (intro w9 hSw; (try dsimp only at hSw); (go_split_ands; go_simp); (try with_reducible rfl))
            try simp only [Act.put, List.setIfInBounds_toArray, List.set_cons_zero, List.set_cons_succ]
            refine wpAnyH_take (i := 8) (oi := { dst := some 51, op := Op.fieldAddr 29 (Operand.tmp 50) 1, type := 0, pos := "ref.go:254", after := #[{ on := 7, ground := Ground.data }], guard := none }) (v := ?_) rfl (by kernel_rfl) (by kernel_rfl) (by kernel_rfl) (fun _ _ _ h => h) (Or.inl ⟨by rfl, ?_⟩) (by assumption) ?_
            rotate_left
            · (intro w9 hSw; (try dsimp only at hSw); (go_split_ands; go_simp); (try with_reducible rfl))
            try simp only [Act.put, List.setIfInBounds_toArray, List.set_cons_zero, List.set_cons_succ]
            refine wpAnyH_take (i := 9) (oi := { dst := some 52, op := Op.load 3 (Operand.tmp 51), type := 3, pos := "ref.go:254", after := #[{ on := 8, ground := Ground.data }], guard := none }) (v := ?_) rfl (by kernel_rfl) (by kernel_rfl) (by kernel_rfl) (fun _ _ _ h => h) (Or.inl ⟨by rfl, ?_⟩) (by assumption) ?_
            rotate_left
            · (intro w9 hSw; (try dsimp only at hSw); (go_split_ands; go_simp); (try with_reducible rfl))
            try simp only [Act.put, List.setIfInBounds_toArray, List.set_cons_zero, List.set_cons_succ]
            refine wpAnyH_ready (rs := [10]) (by kernel_rfl) (by simp) ?_
            refine AllReadyH.cons (o := { dst := some 53, op := Op.call { callee := Callee.value (Operand.func 88), args := #[Operand.tmp 46, Operand.tmp 49, Operand.tmp 52], argTypes := #[3, 3, 3] }, type := 4, pos := "ref.go:254", after := #[{ on := 3, ground := Ground.data }, { on := 6, ground := Ground.data }, { on := 9, ground := Ground.data }], guard := none }) rfl (fun K hK => ?_) (AllReadyH.nil)
            go_simp
            go_at_call 88; refine (in_any _ _ _ _).mono ?_; rintro e w3 ⟨rfl, rfl⟩
            go_wp2_with fail
            refine hK.out _ _ ?_ (fun hHeld => ?_)
            · exact (by have hm := P0.out.box _ List.mem_cons_self; have hq := TT.out _ P0.out.out; exact ⟨cellAt hm 2, cellAt hm 3, cellAt hm 4, cellAt hm 5, cellAt hm 6, cellAt hm 7, hq.l1.at hlt, hq.l2.at hlt, hq.l3.at hlt⟩)
            clear hK K
            try simp only [Act.put, List.setIfInBounds_toArray, List.set_cons_zero, List.set_cons_succ]
            refine wpAnyH_take (i := 11) (oi := { dst := some 54, op := Op.unOp UnOp.not 4 (Operand.tmp 53), type := 4, pos := "ref.go:254", after := #[{ on := 10, ground := Ground.data }], guard := none }) (v := ?_) rfl (by kernel_rfl) (by kernel_rfl) (by kernel_rfl) (fun _ _ _ h => h) (Or.inl ⟨by rfl, ?_⟩) (by assumption) ?_
            rotate_left
            · (intro w9 hSw; (try dsimp only at hSw); (go_split_ands; go_simp); (try with_reducible rfl))
            try simp only [Act.put, List.setIfInBounds_toArray, List.set_cons_zero, List.set_cons_succ]
            refine wpAnyH_take (i := 12) (oi := { dst := some 55, op := Op.move (Operand.tmp 54), type := 4, pos := "ref.go:254", after := #[{ on := 11, ground := Ground.data }, { on := 10, ground := Ground.chain }], guard := none }) (v := ?_) rfl (by kernel_rfl) (by kernel_rfl) (by kernel_rfl) (fun _ _ _ h => h) (Or.inl ⟨by rfl, ?_⟩) (by assumption) ?_
            rotate_left
            · (intro w9 hSw; (try dsimp only at hSw); (go_split_ands; go_simp); (try with_reducible rfl))
            try simp only [Act.put, List.setIfInBounds_toArray, List.set_cons_zero, List.set_cons_succ]
            refine wpAnyH_take (i := 13) (oi := { dst := some 56, op := Op.move (Operand.tmp 2), type := 37, pos := "ref.go:254", after := #[{ on := 12, ground := Ground.guard }], guard := some (12, false) }) (v := ?_) rfl (by kernel_rfl) (by kernel_rfl) (by kernel_rfl) (fun _ _ _ h => h) (Or.inl ⟨by rfl, ?_⟩) (by assumption) ?_
            rotate_left
            · (intro w9 hSw; (try dsimp only at hSw); (go_split_ands; go_simp); (try with_reducible rfl))
            try simp only [Act.put, List.setIfInBounds_toArray, List.set_cons_zero, List.set_cons_succ]
            refine wpAnyH_take (i := 14) (oi := { dst := some 57, op := Op.move (Operand.tmp 12), type := 3, pos := "ref.go:254", after := #[{ on := 12, ground := Ground.guard }], guard := some (12, false) }) (v := ?_) rfl (by kernel_rfl) (by kernel_rfl) (by kernel_rfl) (fun _ _ _ h => h) (Or.inl ⟨by rfl, ?_⟩) (by assumption) ?_
            rotate_left
            · (intro w9 hSw; (try dsimp only at hSw); (go_split_ands; go_simp); (try with_reducible rfl))
            try simp only [Act.put, List.setIfInBounds_toArray, List.set_cons_zero, List.set_cons_succ]
            refine wpAnyH_take (i := 15) (oi := { dst := some 58, op := Op.indexAddr 37 (Operand.tmp 56) (Operand.tmp 57), type := 0, pos := "ref.go:254", after := #[{ on := 13, ground := Ground.data }, { on := 14, ground := Ground.data }, { on := 12, ground := Ground.guard }], guard := some (12, false) }) (v := ?_) rfl (by kernel_rfl) (by kernel_rfl) (by kernel_rfl) (fun _ _ _ h => h) (Or.inl ⟨by rfl, ?_⟩) (by assumption) ?_
            rotate_left
            · (intro w9 hSw; (try dsimp only at hSw); (go_split_ands; go_simp); (try with_reducible rfl))
            try simp only [Act.put, List.setIfInBounds_toArray, List.set_cons_zero, List.set_cons_succ]
            refine wpAnyH_take (i := 16) (oi := { dst := some 59, op := Op.load 3 (Operand.tmp 58), type := 3, pos := "ref.go:254", after := #[{ on := 15, ground := Ground.data }, { on := 12, ground := Ground.guard }], guard := some (12, false) }) (v := ?_) rfl (by kernel_rfl) (by kernel_rfl) (by kernel_rfl) (fun _ _ _ h => h) (Or.inl ⟨by rfl, ?_⟩) (by assumption) ?_
            rotate_left
            · (intro w9 hSw; (try dsimp only at hSw); (go_split_ands; go_simp); (try with_reducible rfl))
            try simp only [Act.put, List.setIfInBounds_toArray, List.set_cons_zero, List.set_cons_succ]
            refine wpAnyH_take (i := 17) (oi := { dst := some 60, op := Op.fieldAddr 58 (Operand.tmp 13) 3, type := 0, pos := "ref.go:254", after := #[{ on := 12, ground := Ground.guard }], guard := some (12, false) }) (v := ?_) rfl (by kernel_rfl) (by kernel_rfl) (by kernel_rfl) (fun _ _ _ h => h) (Or.inl ⟨by rfl, ?_⟩) (by assumption) ?_
            rotate_left
            · (intro w9 hSw; (try dsimp only at hSw); (go_split_ands; go_simp); (try with_reducible rfl))
            try simp only [Act.put, List.setIfInBounds_toArray, List.set_cons_zero, List.set_cons_succ]
            refine wpAnyH_take (i := 18) (oi := { dst := some 61, op := Op.fieldAddr 29 (Operand.tmp 60) 0, type := 0, pos := "ref.go:254", after := #[{ on := 17, ground := Ground.data }, { on := 12, ground := Ground.guard }], guard := some (12, false) }) (v := ?_) rfl (by kernel_rfl) (by kernel_rfl) (by kernel_rfl) (fun _ _ _ h => h) (Or.inl ⟨by rfl, ?_⟩) (by assumption) ?_
            rotate_left
            · (intro w9 hSw; (try dsimp only at hSw); (go_split_ands; go_simp); (try with_reducible rfl))
            try simp only [Act.put, List.setIfInBounds_toArray, List.set_cons_zero, List.set_cons_succ]
            refine wpAnyH_take (i := 19) (oi := { dst := some 62, op := Op.load 3 (Operand.tmp 61), type := 3, pos := "ref.go:254", after := #[{ on := 18, ground := Ground.data }, { on := 12, ground := Ground.guard }], guard := some (12, false) }) (v := ?_) rfl (by kernel_rfl) (by kernel_rfl) (by kernel_rfl) (fun _ _ _ h => h) (Or.inl ⟨by rfl, ?_⟩) (by assumption) ?_
            rotate_left
            · (intro w9 hSw; (try dsimp only at hSw); (go_split_ands; go_simp); (try with_reducible rfl))
            try simp only [Act.put, List.setIfInBounds_toArray, List.set_cons_zero, List.set_cons_succ]
            refine wpAnyH_take (i := 20) (oi := { dst := some 63, op := Op.fieldAddr 58 (Operand.tmp 13) 3, type := 0, pos := "ref.go:254", after := #[{ on := 12, ground := Ground.guard }], guard := some (12, false) }) (v := ?_) rfl (by kernel_rfl) (by kernel_rfl) (by kernel_rfl) (fun _ _ _ h => h) (Or.inl ⟨by rfl, ?_⟩) (by assumption) ?_
            rotate_left
            · (intro w9 hSw; (try dsimp only at hSw); (go_split_ands; go_simp); (try with_reducible rfl))
            try simp only [Act.put, List.setIfInBounds_toArray, List.set_cons_zero, List.set_cons_succ]
            refine wpAnyH_take (i := 21) (oi := { dst := some 64, op := Op.fieldAddr 29 (Operand.tmp 63) 1, type := 0, pos := "ref.go:254", after := #[{ on := 20, ground := Ground.data }, { on := 12, ground := Ground.guard }], guard := some (12, false) }) (v := ?_) rfl (by kernel_rfl) (by kernel_rfl) (by kernel_rfl) (fun _ _ _ h => h) (Or.inl ⟨by rfl, ?_⟩) (by assumption) ?_
            rotate_left
            · (intro w9 hSw; (try dsimp only at hSw); (go_split_ands; go_simp); (try with_reducible rfl))
            try simp only [Act.put, List.setIfInBounds_toArray, List.set_cons_zero, List.set_cons_succ]
            refine wpAnyH_take (i := 22) (oi := { dst := some 65, op := Op.load 3 (Operand.tmp 64), type := 3, pos := "ref.go:254", after := #[{ on := 21, ground := Ground.data }, { on := 12, ground := Ground.guard }], guard := some (12, false) }) (v := ?_) rfl (by kernel_rfl) (by kernel_rfl) (by kernel_rfl) (fun _ _ _ h => h) (Or.inl ⟨by rfl, ?_⟩) (by assumption) ?_
            rotate_left
            · (intro w9 hSw; (try dsimp only at hSw); (go_split_ands; go_simp); (try with_reducible rfl))
            try simp only [Act.put, List.setIfInBounds_toArray, List.set_cons_zero, List.set_cons_succ]
            refine wpAnyH_ready (rs := [23]) (by kernel_rfl) (by simp) ?_
            refine AllReadyH.cons (o := { dst := some 66, op := Op.call { callee := Callee.value (Operand.func 88), args := #[Operand.tmp 59, Operand.tmp 62, Operand.tmp 65], argTypes := #[3, 3, 3] }, type := 4, pos := "ref.go:254", after := #[{ on := 16, ground := Ground.data }, { on := 19, ground := Ground.data }, { on := 22, ground := Ground.data }, { on := 12, ground := Ground.chain }, { on := 12, ground := Ground.guard }], guard := some (12, false) }) rfl (fun K hK => ?_) (AllReadyH.nil)
            go_simp
            go_at_call 88; refine (in_any _ _ _ _).mono ?_; rintro e w3 ⟨rfl, rfl⟩
            go_wp2_with fail
            refine hK.out _ _ ?_ (fun hHeld => ?_)
            · exact (by have hm := P0.out.box _ List.mem_cons_self; have hq := TT.out _ P0.out.out; exact ⟨cellAt hm 2, cellAt hm 3, cellAt hm 4, cellAt hm 5, cellAt hm 6, cellAt hm 7, hq.l1.at hlt, hq.l2.at hlt, hq.l3.at hlt⟩)
            clear hK K
            try simp only [Act.put, List.setIfInBounds_toArray, List.set_cons_zero, List.set_cons_succ]
            refine wpAnyH_take (i := 24) (oi := { dst := some 67, op := Op.unOp UnOp.not 4 (Operand.tmp 66), type := 4, pos := "ref.go:254", after := #[{ on := 23, ground := Ground.data }, { on := 12, ground := Ground.guard }], guard := some (12, false) }) (v := ?_) rfl (by kernel_rfl) (by kernel_rfl) (by kernel_rfl) (fun _ _ _ h => h) (Or.inl ⟨by rfl, ?_⟩) (by assumption) ?_
            rotate_left
            · (intro w9 hSw; (try dsimp only at hSw); (go_split_ands; go_simp); (try with_reducible rfl))
            try simp only [Act.put, List.setIfInBounds_toArray, List.set_cons_zero, List.set_cons_succ]
            refine wpAnyH_take (i := 25) (oi := { dst := some 68, op := Op.pick (Operand.tmp 55) (Operand.const (Value.bool true)) (Operand.tmp 67), type := 4, pos := "ref.go:254", after := #[{ on := 12, ground := Ground.data }, { on := 24, ground := Ground.data }], guard := none }) (v := ?_) rfl (by kernel_rfl) (by kernel_rfl) (by kernel_rfl) (fun _ _ _ h => h) (Or.inl ⟨by rfl, ?_⟩) (by assumption) ?_
            rotate_left
            · (intro w9 hSw; (try dsimp only at hSw); (go_split_ands; go_simp); (try with_reducible rfl))
            try simp only [Act.put, List.setIfInBounds_toArray, List.set_cons_zero, List.set_cons_succ]
            refine wpAnyH_take (i := 26) (oi := { dst := some 69, op := Op.move (Operand.tmp 68), type := 4, pos := "ref.go:254", after := #[{ on := 25, ground := Ground.data }, { on := 23, ground := Ground.chain }], guard := none }) (v := ?_) rfl (by kernel_rfl) (by kernel_rfl) (by kernel_rfl) (fun _ _ _ h => h) (Or.inl ⟨by rfl, ?_⟩) (by assumption) ?_
            rotate_left
            · (intro w9 hSw; (try dsimp only at hSw); (go_split_ands; go_simp); (try with_reducible rfl))
            try simp only [Act.put, List.setIfInBounds_toArray, List.set_cons_zero, List.set_cons_succ]
            refine wpAnyH_take (i := 27) (oi := { dst := some 70, op := Op.move (Operand.tmp 3), type := 37, pos := "ref.go:254", after := #[{ on := 26, ground := Ground.guard }], guard := some (26, false) }) (v := undef) rfl (by kernel_rfl) (by kernel_rfl) (by kernel_rfl) (fun _ _ _ h => h) (Or.inr ⟨by rfl, rfl⟩) (by assumption) ?_
            try simp only [Act.put, List.setIfInBounds_toArray, List.set_cons_zero, List.set_cons_succ]
            refine wpAnyH_take (i := 28) (oi := { dst := some 71, op := Op.move (Operand.tmp 12), type := 3, pos := "ref.go:254", after := #[{ on := 26, ground := Ground.guard }], guard := some (26, false) }) (v := undef) rfl (by kernel_rfl) (by kernel_rfl) (by kernel_rfl) (fun _ _ _ h => h) (Or.inr ⟨by rfl, rfl⟩) (by assumption) ?_
            try simp only [Act.put, List.setIfInBounds_toArray, List.set_cons_zero, List.set_cons_succ]
            refine wpAnyH_take (i := 29) (oi := { dst := some 72, op := Op.indexAddr 37 (Operand.tmp 70) (Operand.tmp 71), type := 0, pos := "ref.go:254", after := #[{ on := 27, ground := Ground.data }, { on := 28, ground := Ground.data }, { on := 26, ground := Ground.guard }], guard := some (26, false) }) (v := undef) rfl (by kernel_rfl) (by kernel_rfl) (by kernel_rfl) (fun _ _ _ h => h) (Or.inr ⟨by rfl, rfl⟩) (by assumption) ?_
            try simp only [Act.put, List.setIfInBounds_toArray, List.set_cons_zero, List.set_cons_succ]
            refine wpAnyH_take (i := 30) (oi := { dst := some 73, op := Op.load 3 (Operand.tmp 72), type := 3, pos := "ref.go:254", after := #[{ on := 29, ground := Ground.data }, { on := 26, ground := Ground.guard }], guard := some (26, false) }) (v := undef) rfl (by kernel_rfl) (by kernel_rfl) (by kernel_rfl) (fun _ _ _ h => h) (Or.inr ⟨by rfl, rfl⟩) (by assumption) ?_
            try simp only [Act.put, List.setIfInBounds_toArray, List.set_cons_zero, List.set_cons_succ]
            refine wpAnyH_take (i := 31) (oi := { dst := some 74, op := Op.fieldAddr 58 (Operand.tmp 13) 4, type := 0, pos := "ref.go:254", after := #[{ on := 26, ground := Ground.guard }], guard := some (26, false) }) (v := undef) rfl (by kernel_rfl) (by kernel_rfl) (by kernel_rfl) (fun _ _ _ h => h) (Or.inr ⟨by rfl, rfl⟩) (by assumption) ?_
            try simp only [Act.put, List.setIfInBounds_toArray, List.set_cons_zero, List.set_cons_succ]
            refine wpAnyH_take (i := 32) (oi := { dst := some 75, op := Op.fieldAddr 29 (Operand.tmp 74) 0, type := 0, pos := "ref.go:254", after := #[{ on := 31, ground := Ground.data }, { on := 26, ground := Ground.guard }], guard := some (26, false) }) (v := undef) rfl (by kernel_rfl) (by kernel_rfl) (by kernel_rfl) (fun _ _ _ h => h) (Or.inr ⟨by rfl, rfl⟩) (by assumption) ?_
            try simp only [Act.put, List.setIfInBounds_toArray, List.set_cons_zero, List.set_cons_succ]
            refine wpAnyH_take (i := 33) (oi := { dst := some 76, op := Op.load 3 (Operand.tmp 75), type := 3, pos := "ref.go:254", after := #[{ on := 32, ground := Ground.data }, { on := 26, ground := Ground.guard }], guard := some (26, false) }) (v := undef) rfl (by kernel_rfl) (by kernel_rfl) (by kernel_rfl) (fun _ _ _ h => h) (Or.inr ⟨by rfl, rfl⟩) (by assumption) ?_
            try simp only [Act.put, List.setIfInBounds_toArray, List.set_cons_zero, List.set_cons_succ]
            refine wpAnyH_take (i := 34) (oi := { dst := some 77, op := Op.fieldAddr 58 (Operand.tmp 13) 4, type := 0, pos := "ref.go:254", after := #[{ on := 26, ground := Ground.guard }], guard := some (26, false) }) (v := undef) rfl (by kernel_rfl) (by kernel_rfl) (by kernel_rfl) (fun _ _ _ h => h) (Or.inr ⟨by rfl, rfl⟩) (by assumption) ?_
            try simp only [Act.put, List.setIfInBounds_toArray, List.set_cons_zero, List.set_cons_succ]
            refine wpAnyH_take (i := 35) (oi := { dst := some 78, op := Op.fieldAddr 29 (Operand.tmp 77) 1, type := 0, pos := "ref.go:254", after := #[{ on := 34, ground := Ground.data }, { on := 26, ground := Ground.guard }], guard := some (26, false) }) (v := undef) rfl (by kernel_rfl) (by kernel_rfl) (by kernel_rfl) (fun _ _ _ h => h) (Or.inr ⟨by rfl, rfl⟩) (by assumption) ?_
            try simp only [Act.put, List.setIfInBounds_toArray, List.set_cons_zero, List.set_cons_succ]
            refine wpAnyH_take (i := 36) (oi := { dst := some 79, op := Op.load 3 (Operand.tmp 78), type := 3, pos := "ref.go:254", after := #[{ on := 35, ground := Ground.data }, { on := 26, ground := Ground.guard }], guard := some (26, false) }) (v := undef) rfl (by kernel_rfl) (by kernel_rfl) (by kernel_rfl) (fun _ _ _ h => h) (Or.inr ⟨by rfl, rfl⟩) (by assumption) ?_
            try simp only [Act.put, List.setIfInBounds_toArray, List.set_cons_zero, List.set_cons_succ]
            refine wpAnyH_take (i := 37) (oi := { dst := some 80, op := Op.call { callee := Callee.value (Operand.func 88), args := #[Operand.tmp 73, Operand.tmp 76, Operand.tmp 79], argTypes := #[3, 3, 3] }, type := 4, pos := "ref.go:254", after := #[{ on := 30, ground := Ground.data }, { on := 33, ground := Ground.data }, { on := 36, ground := Ground.data }, { on := 26, ground := Ground.chain }, { on := 26, ground := Ground.guard }], guard := some (26, false) }) (v := undef) rfl (by kernel_rfl) (by kernel_rfl) (by kernel_rfl) (fun _ _ _ h => h) (Or.inr ⟨by rfl, rfl⟩) (by assumption) ?_
            try simp only [Act.put, List.setIfInBounds_toArray, List.set_cons_zero, List.set_cons_succ]
            refine wpAnyH_take (i := 38) (oi := { dst := some 81, op := Op.unOp UnOp.not 4 (Operand.tmp 80), type := 4, pos := "ref.go:254", after := #[{ on := 37, ground := Ground.data }, { on := 26, ground := Ground.guard }], guard := some (26, false) }) (v := undef) rfl (by kernel_rfl) (by kernel_rfl) (by kernel_rfl) (fun _ _ _ h => h) (Or.inr ⟨by rfl, rfl⟩) (by assumption) ?_
            try simp only [Act.put, List.setIfInBounds_toArray, List.set_cons_zero, List.set_cons_succ]
            refine wpAnyH_take (i := 39) (oi := { dst := some 82, op := Op.pick (Operand.tmp 69) (Operand.const (Value.bool true)) (Operand.tmp 81), type := 4, pos := "ref.go:254", after := #[{ on := 26, ground := Ground.data }, { on := 38, ground := Ground.data }], guard := none }) (v := ?_) rfl (by kernel_rfl) (by kernel_rfl) (by kernel_rfl) (fun _ _ _ h => h) (Or.inl ⟨by rfl, ?_⟩) (by assumption) ?_
            rotate_left
            · (intro w9 hSw; (try dsimp only at hSw); (go_split_ands; go_simp); (try with_reducible rfl))
            try simp only [Act.put, List.setIfInBounds_toArray, List.set_cons_zero, List.set_cons_succ]
            refine wpAnyH_done (by kernel_rfl) ?_ _
            clear hHeld
            go_wp2_with fail
            refine bodyPost_ret (v := .tuple #[.slice none 0 0, .bool false]) (by simp [results, Try.results74, go_sem]) rfl ?_
            exact ⟨(TT.out _ P0.out.out).bel, .inr ⟨HE.out, rfl⟩⟩
        · have HE := Lib.hid (show exB tn tn tn tn T f g h = false by unfold exB; rw [all_no hlt (show exOk T f g h k = false by simp [exOk, c1])]; simp)
          clear hc2 hc3
          refine wp_region_held_drew (S := (fun w' => w'.cell? ⟨tb, 2, none⟩ = some (.int .i64 (T k).fl) ∧ w'.cell? ⟨tb, 3, none⟩ = some (.int .i64 (T k).fh) ∧ w'.cell? ⟨tb, 4, none⟩ = some (.int .i64 (T k).tl) ∧ w'.cell? ⟨tb, 5, none⟩ = some (.int .i64 (T k).th) ∧ w'.cell? ⟨tb, 6, none⟩ = some (.int .i64 (T k).dl) ∧ w'.cell? ⟨tb, 7, none⟩ = some (.int .i64 (T k).dh) ∧ w'.cell? ⟨blk fa, ofs fa + k, none⟩ = some (.int .i64 (f k)) ∧ w'.cell? ⟨blk ga, ofs ga + k, none⟩ = some (.int .i64 (g k)) ∧ w'.cell? ⟨blk ha, ofs ha + k, none⟩ = some (.int .i64 (h k)))) (by kernel_rfl) (by exact (by have hm := P0.out.box _ List.mem_cons_self; have hq := TT.out _ P0.out.out; exact ⟨cellAt hm 2, cellAt hm 3, cellAt hm 4, cellAt hm 5, cellAt hm 6, cellAt hm 7, hq.l1.at hlt, hq.l2.at hlt, hq.l3.at hlt⟩)) (fun hHeld => ?_)
          refine wpAnyH_take (i := 0) (oi := { dst := some 43, op := Op.move (Operand.tmp 1), type := 37, pos := "ref.go:254", after := #[], guard := none }) (v := ?_) rfl (by kernel_rfl) (by kernel_rfl) (by kernel_rfl) (fun _ _ _ h => h) (Or.inl ⟨by rfl, ?_⟩) (by assumption) ?_
          rotate_left
          · (intro w9 hSw; (try dsimp only at hSw); (go_split_ands; go_simp); (try with_reducible rfl))
          try simp only [Act.put, List.setIfInBounds_toArray, List.set_cons_zero, List.set_cons_succ]
          refine wpAnyH_take (i := 1) (oi := { dst := some 44, op := Op.move (Operand.tmp 12), type := 3, pos := "ref.go:254", after := #[], guard := none }) (v := ?_) rfl (by kernel_rfl) (by kernel_rfl) (by kernel_rfl) (fun _ _ _ h => h) (Or.inl ⟨by rfl, ?_⟩) (by assumption) ?_
          rotate_left
          · (intro w9 hSw; (try dsimp only at hSw); (go_split_ands; go_simp); (try with_reducible rfl))
          try simp only [Act.put, List.setIfInBounds_toArray, List.set_cons_zero, List.set_cons_succ]
          refine wpAnyH_take (i := 2) (oi := { dst := some 45, op := Op.indexAddr 37 (Operand.tmp 43) (Operand.tmp 44), type := 0, pos := "ref.go:254", after := #[{ on := 0, ground := Ground.data }, { on := 1, ground := Ground.data }], guard := none }) (v := ?_) rfl (by kernel_rfl) (by kernel_rfl) (by kernel_rfl) (fun _ _ _ h => h) (Or.inl ⟨by rfl, ?_⟩) (by assumption) ?_
          rotate_left
          · (intro w9 hSw; (try dsimp only at hSw); (go_split_ands; go_simp); (try with_reducible rfl))
          try simp only [Act.put, List.setIfInBounds_toArray, List.set_cons_zero, List.set_cons_succ]
          refine wpAnyH_take (i := 3) (oi := { dst := some 46, op := Op.load 3 (Operand.tmp 45), type := 3, pos := "ref.go:254", after := #[{ on := 2, ground := Ground.data }], guard := none }) (v := ?_) rfl (by kernel_rfl) (by kernel_rfl) (by kernel_rfl) (fun _ _ _ h => h) (Or.inl ⟨by rfl, ?_⟩) (by assumption) ?_
          rotate_left
          · (intro w9 hSw; (try dsimp only at hSw); (go_split_ands; go_simp); (try with_reducible rfl))
          try simp only [Act.put, List.setIfInBounds_toArray, List.set_cons_zero, List.set_cons_succ]
          refine wpAnyH_take (i := 4) (oi := { dst := some 47, op := Op.fieldAddr 58 (Operand.tmp 13) 2, type := 0, pos := "ref.go:254", after := #[], guard := none }) (v := ?_) rfl (by kernel_rfl) (by kernel_rfl) (by kernel_rfl) (fun _ _ _ h => h) (Or.inl ⟨by rfl, ?_⟩) (by assumption) ?_
          rotate_left
          · (intro w9 hSw; (try dsimp only at hSw); (go_split_ands; go_simp); (try with_reducible rfl))
          try simp only [Act.put, List.setIfInBounds_toArray, List.set_cons_zero, List.set_cons_succ]
          refine wpAnyH_take (i := 5) (oi := { dst := some 48, op := Op.fieldAddr 29 (Operand.tmp 47) 0, type := 0, pos := "ref.go:254", after := #[{ on := 4, ground := Ground.data }], guard := none }) (v := ?_) rfl (by kernel_rfl) (by kernel_rfl) (by kernel_rfl) (fun _ _ _ h => h) (Or.inl ⟨by rfl, ?_⟩) (by assumption) ?_
          rotate_left
          · (intro w9 hSw; (try dsimp only at hSw); (go_split_ands; go_simp); (try with_reducible rfl))
          try simp only [Act.put, List.setIfInBounds_toArray, List.set_cons_zero, List.set_cons_succ]
          refine wpAnyH_take (i := 6) (oi := { dst := some 49, op := Op.load 3 (Operand.tmp 48), type := 3, pos := "ref.go:254", after := #[{ on := 5, ground := Ground.data }], guard := none }) (v := ?_) rfl (by kernel_rfl) (by kernel_rfl) (by kernel_rfl) (fun _ _ _ h => h) (Or.inl ⟨by rfl, ?_⟩) (by assumption) ?_
          rotate_left
          · (intro w9 hSw; (try dsimp only at hSw); (go_split_ands; go_simp); (try with_reducible rfl))
          try simp only [Act.put, List.setIfInBounds_toArray, List.set_cons_zero, List.set_cons_succ]
          refine wpAnyH_take (i := 7) (oi := { dst := some 50, op := Op.fieldAddr 58 (Operand.tmp 13) 2, type := 0, pos := "ref.go:254", after := #[], guard := none }) (v := ?_) rfl (by kernel_rfl) (by kernel_rfl) (by kernel_rfl) (fun _ _ _ h => h) (Or.inl ⟨by rfl, ?_⟩) (by assumption) ?_
          rotate_left
          · (intro w9 hSw; (try dsimp only at hSw); (go_split_ands; go_simp); (try with_reducible rfl))
          try simp only [Act.put, List.setIfInBounds_toArray, List.set_cons_zero, List.set_cons_succ]
          refine wpAnyH_take (i := 8) (oi := { dst := some 51, op := Op.fieldAddr 29 (Operand.tmp 50) 1, type := 0, pos := "ref.go:254", after := #[{ on := 7, ground := Ground.data }], guard := none }) (v := ?_) rfl (by kernel_rfl) (by kernel_rfl) (by kernel_rfl) (fun _ _ _ h => h) (Or.inl ⟨by rfl, ?_⟩) (by assumption) ?_
          rotate_left
          · (intro w9 hSw; (try dsimp only at hSw); (go_split_ands; go_simp); (try with_reducible rfl))
          try simp only [Act.put, List.setIfInBounds_toArray, List.set_cons_zero, List.set_cons_succ]
          refine wpAnyH_take (i := 9) (oi := { dst := some 52, op := Op.load 3 (Operand.tmp 51), type := 3, pos := "ref.go:254", after := #[{ on := 8, ground := Ground.data }], guard := none }) (v := ?_) rfl (by kernel_rfl) (by kernel_rfl) (by kernel_rfl) (fun _ _ _ h => h) (Or.inl ⟨by rfl, ?_⟩) (by assumption) ?_
          rotate_left
          · (intro w9 hSw; (try dsimp only at hSw); (go_split_ands; go_simp); (try with_reducible rfl))
          try simp only [Act.put, List.setIfInBounds_toArray, List.set_cons_zero, List.set_cons_succ]
          refine wpAnyH_ready (rs := [10]) (by kernel_rfl) (by simp) ?_
          refine AllReadyH.cons (o := { dst := some 53, op := Op.call { callee := Callee.value (Operand.func 88), args := #[Operand.tmp 46, Operand.tmp 49, Operand.tmp 52], argTypes := #[3, 3, 3] }, type := 4, pos := "ref.go:254", after := #[{ on := 3, ground := Ground.data }, { on := 6, ground := Ground.data }, { on := 9, ground := Ground.data }], guard := none }) rfl (fun K hK => ?_) (AllReadyH.nil)
          go_simp
          go_at_call 88; refine (in_any _ _ _ _).mono ?_; rintro e w3 ⟨rfl, rfl⟩
          go_wp2_with fail
          refine hK.out _ _ ?_ (fun hHeld => ?_)
          · exact (by have hm := P0.out.box _ List.mem_cons_self; have hq := TT.out _ P0.out.out; exact ⟨cellAt hm 2, cellAt hm 3, cellAt hm 4, cellAt hm 5, cellAt hm 6, cellAt hm 7, hq.l1.at hlt, hq.l2.at hlt, hq.l3.at hlt⟩)
          clear hK K
          try simp only [Act.put, List.setIfInBounds_toArray, List.set_cons_zero, List.set_cons_succ]
          refine wpAnyH_take (i := 11) (oi := { dst := some 54, op := Op.unOp UnOp.not 4 (Operand.tmp 53), type := 4, pos := "ref.go:254", after := #[{ on := 10, ground := Ground.data }], guard := none }) (v := ?_) rfl (by kernel_rfl) (by kernel_rfl) (by kernel_rfl) (fun _ _ _ h => h) (Or.inl ⟨by rfl, ?_⟩) (by assumption) ?_
          rotate_left
          · (intro w9 hSw; (try dsimp only at hSw); (go_split_ands; go_simp); (try with_reducible rfl))
          try simp only [Act.put, List.setIfInBounds_toArray, List.set_cons_zero, List.set_cons_succ]
          refine wpAnyH_take (i := 12) (oi := { dst := some 55, op := Op.move (Operand.tmp 54), type := 4, pos := "ref.go:254", after := #[{ on := 11, ground := Ground.data }, { on := 10, ground := Ground.chain }], guard := none }) (v := ?_) rfl (by kernel_rfl) (by kernel_rfl) (by kernel_rfl) (fun _ _ _ h => h) (Or.inl ⟨by rfl, ?_⟩) (by assumption) ?_
          rotate_left
          · (intro w9 hSw; (try dsimp only at hSw); (go_split_ands; go_simp); (try with_reducible rfl))
          try simp only [Act.put, List.setIfInBounds_toArray, List.set_cons_zero, List.set_cons_succ]
          refine wpAnyH_take (i := 13) (oi := { dst := some 56, op := Op.move (Operand.tmp 2), type := 37, pos := "ref.go:254", after := #[{ on := 12, ground := Ground.guard }], guard := some (12, false) }) (v := undef) rfl (by kernel_rfl) (by kernel_rfl) (by kernel_rfl) (fun _ _ _ h => h) (Or.inr ⟨by rfl, rfl⟩) (by assumption) ?_
          try simp only [Act.put, List.setIfInBounds_toArray, List.set_cons_zero, List.set_cons_succ]
          refine wpAnyH_take (i := 14) (oi := { dst := some 57, op := Op.move (Operand.tmp 12), type := 3, pos := "ref.go:254", after := #[{ on := 12, ground := Ground.guard }], guard := some (12, false) }) (v := undef) rfl (by kernel_rfl) (by kernel_rfl) (by kernel_rfl) (fun _ _ _ h => h) (Or.inr ⟨by rfl, rfl⟩) (by assumption) ?_
          try simp only [Act.put, List.setIfInBounds_toArray, List.set_cons_zero, List.set_cons_succ]
          refine wpAnyH_take (i := 15) (oi := { dst := some 58, op := Op.indexAddr 37 (Operand.tmp 56) (Operand.tmp 57), type := 0, pos := "ref.go:254", after := #[{ on := 13, ground := Ground.data }, { on := 14, ground := Ground.data }, { on := 12, ground := Ground.guard }], guard := some (12, false) }) (v := undef) rfl (by kernel_rfl) (by kernel_rfl) (by kernel_rfl) (fun _ _ _ h => h) (Or.inr ⟨by rfl, rfl⟩) (by assumption) ?_
          try simp only [Act.put, List.setIfInBounds_toArray, List.set_cons_zero, List.set_cons_succ]
          refine wpAnyH_take (i := 16) (oi := { dst := some 59, op := Op.load 3 (Operand.tmp 58), type := 3, pos := "ref.go:254", after := #[{ on := 15, ground := Ground.data }, { on := 12, ground := Ground.guard }], guard := some (12, false) }) (v := undef) rfl (by kernel_rfl) (by kernel_rfl) (by kernel_rfl) (fun _ _ _ h => h) (Or.inr ⟨by rfl, rfl⟩) (by assumption) ?_
          try simp only [Act.put, List.setIfInBounds_toArray, List.set_cons_zero, List.set_cons_succ]
          refine wpAnyH_take (i := 17) (oi := { dst := some 60, op := Op.fieldAddr 58 (Operand.tmp 13) 3, type := 0, pos := "ref.go:254", after := #[{ on := 12, ground := Ground.guard }], guard := some (12, false) }) (v := undef) rfl (by kernel_rfl) (by kernel_rfl) (by kernel_rfl) (fun _ _ _ h => h) (Or.inr ⟨by rfl, rfl⟩) (by assumption) ?_
          try simp only [Act.put, List.setIfInBounds_toArray, List.set_cons_zero, List.set_cons_succ]
          refine wpAnyH_take (i := 18) (oi := { dst := some 61, op := Op.fieldAddr 29 (Operand.tmp 60) 0, type := 0, pos := "ref.go:254", after := #[{ on := 17, ground := Ground.data }, { on := 12, ground := Ground.guard }], guard := some (12, false) }) (v := undef) rfl (by kernel_rfl) (by kernel_rfl) (by kernel_rfl) (fun _ _ _ h => h) (Or.inr ⟨by rfl, rfl⟩) (by assumption) ?_
          try simp only [Act.put, List.setIfInBounds_toArray, List.set_cons_zero, List.set_cons_succ]
          refine wpAnyH_take (i := 19) (oi := { dst := some 62, op := Op.load 3 (Operand.tmp 61), type := 3, pos := "ref.go:254", after := #[{ on := 18, ground := Ground.data }, { on := 12, ground := Ground.guard }], guard := some (12, false) }) (v := undef) rfl (by kernel_rfl) (by kernel_rfl) (by kernel_rfl) (fun _ _ _ h => h) (Or.inr ⟨by rfl, rfl⟩) (by assumption) ?_
          try simp only [Act.put, List.setIfInBounds_toArray, List.set_cons_zero, List.set_cons_succ]
          refine wpAnyH_take (i := 20) (oi := { dst := some 63, op := Op.fieldAddr 58 (Operand.tmp 13) 3, type := 0, pos := "ref.go:254", after := #[{ on := 12, ground := Ground.guard }], guard := some (12, false) }) (v := undef) rfl (by kernel_rfl) (by kernel_rfl) (by kernel_rfl) (fun _ _ _ h => h) (Or.inr ⟨by rfl, rfl⟩) (by assumption) ?_
          try simp only [Act.put, List.setIfInBounds_toArray, List.set_cons_zero, List.set_cons_succ]
          refine wpAnyH_take (i := 21) (oi := { dst := some 64, op := Op.fieldAddr 29 (Operand.tmp 63) 1, type := 0, pos := "ref.go:254", after := #[{ on := 20, ground := Ground.data }, { on := 12, ground := Ground.guard }], guard := some (12, false) }) (v := undef) rfl (by kernel_rfl) (by kernel_rfl) (by kernel_rfl) (fun _ _ _ h => h) (Or.inr ⟨by rfl, rfl⟩) (by assumption) ?_
          try simp only [Act.put, List.setIfInBounds_toArray, List.set_cons_zero, List.set_cons_succ]
          refine wpAnyH_take (i := 22) (oi := { dst := some 65, op := Op.load 3 (Operand.tmp 64), type := 3, pos := "ref.go:254", after := #[{ on := 21, ground := Ground.data }, { on := 12, ground := Ground.guard }], guard := some (12, false) }) (v := undef) rfl (by kernel_rfl) (by kernel_rfl) (by kernel_rfl) (fun _ _ _ h => h) (Or.inr ⟨by rfl, rfl⟩) (by assumption) ?_
          try simp only [Act.put, List.setIfInBounds_toArray, List.set_cons_zero, List.set_cons_succ]
          refine wpAnyH_take (i := 23) (oi := { dst := some 66, op := Op.call { callee := Callee.value (Operand.func 88), args := #[Operand.tmp 59, Operand.tmp 62, Operand.tmp 65], argTypes := #[3, 3, 3] }, type := 4, pos := "ref.go:254", after := #[{ on := 16, ground := Ground.data }, { on := 19, ground := Ground.data }, { on := 22, ground := Ground.data }, { on := 12, ground := Ground.chain }, { on := 12, ground := Ground.guard }], guard := some (12, false) }) (v := undef) rfl (by kernel_rfl) (by kernel_rfl) (by kernel_rfl) (fun _ _ _ h => h) (Or.inr ⟨by rfl, rfl⟩) (by assumption) ?_
          try simp only [Act.put, List.setIfInBounds_toArray, List.set_cons_zero, List.set_cons_succ]
          refine wpAnyH_take (i := 24) (oi := { dst := some 67, op := Op.unOp UnOp.not 4 (Operand.tmp 66), type := 4, pos := "ref.go:254", after := #[{ on := 23, ground := Ground.data }, { on := 12, ground := Ground.guard }], guard := some (12, false) }) (v := undef) rfl (by kernel_rfl) (by kernel_rfl) (by kernel_rfl) (fun _ _ _ h => h) (Or.inr ⟨by rfl, rfl⟩) (by assumption) ?_
          try simp only [Act.put, List.setIfInBounds_toArray, List.set_cons_zero, List.set_cons_succ]
          refine wpAnyH_take (i := 25) (oi := { dst := some 68, op := Op.pick (Operand.tmp 55) (Operand.const (Value.bool true)) (Operand.tmp 67), type := 4, pos := "ref.go:254", after := #[{ on := 12, ground := Ground.data }, { on := 24, ground := Ground.data }], guard := none }) (v := ?_) rfl (by kernel_rfl) (by kernel_rfl) (by kernel_rfl) (fun _ _ _ h => h) (Or.inl ⟨by rfl, ?_⟩) (by assumption) ?_
          rotate_left
          · (intro w9 hSw; (try dsimp only at hSw); (go_split_ands; go_simp); (try with_reducible rfl))
          try simp only [Act.put, List.setIfInBounds_toArray, List.set_cons_zero, List.set_cons_succ]
          refine wpAnyH_take (i := 26) (oi := { dst := some 69, op := Op.move (Operand.tmp 68), type := 4, pos := "ref.go:254", after := #[{ on := 25, ground := Ground.data }, { on := 23, ground := Ground.chain }], guard := none }) (v := ?_) rfl (by kernel_rfl) (by kernel_rfl) (by kernel_rfl) (fun _ _ _ h => h) (Or.inl ⟨by rfl, ?_⟩) (by assumption) ?_
          rotate_left
          · (intro w9 hSw; (try dsimp only at hSw); (go_split_ands; go_simp); (try with_reducible rfl))
          try simp only [Act.put, List.setIfInBounds_toArray, List.set_cons_zero, List.set_cons_succ]
          refine wpAnyH_take (i := 27) (oi := { dst := some 70, op := Op.move (Operand.tmp 3), type := 37, pos := "ref.go:254", after := #[{ on := 26, ground := Ground.guard }], guard := some (26, false) }) (v := undef) rfl (by kernel_rfl) (by kernel_rfl) (by kernel_rfl) (fun _ _ _ h => h) (Or.inr ⟨by rfl, rfl⟩) (by assumption) ?_
          try simp only [Act.put, List.setIfInBounds_toArray, List.set_cons_zero, List.set_cons_succ]
          refine wpAnyH_take (i := 28) (oi := { dst := some 71, op := Op.move (Operand.tmp 12), type := 3, pos := "ref.go:254", after := #[{ on := 26, ground := Ground.guard }], guard := some (26, false) }) (v := undef) rfl (by kernel_rfl) (by kernel_rfl) (by kernel_rfl) (fun _ _ _ h => h) (Or.inr ⟨by rfl, rfl⟩) (by assumption) ?_
          try simp only [Act.put, List.setIfInBounds_toArray, List.set_cons_zero, List.set_cons_succ]
          refine wpAnyH_take (i := 29) (oi := { dst := some 72, op := Op.indexAddr 37 (Operand.tmp 70) (Operand.tmp 71), type := 0, pos := "ref.go:254", after := #[{ on := 27, ground := Ground.data }, { on := 28, ground := Ground.data }, { on := 26, ground := Ground.guard }], guard := some (26, false) }) (v := undef) rfl (by kernel_rfl) (by kernel_rfl) (by kernel_rfl) (fun _ _ _ h => h) (Or.inr ⟨by rfl, rfl⟩) (by assumption) ?_
          try simp only [Act.put, List.setIfInBounds_toArray, List.set_cons_zero, List.set_cons_succ]
          refine wpAnyH_take (i := 30) (oi := { dst := some 73, op := Op.load 3 (Operand.tmp 72), type := 3, pos := "ref.go:254", after := #[{ on := 29, ground := Ground.data }, { on := 26, ground := Ground.guard }], guard := some (26, false) }) (v := undef) rfl (by kernel_rfl) (by kernel_rfl) (by kernel_rfl) (fun _ _ _ h => h) (Or.inr ⟨by rfl, rfl⟩) (by assumption) ?_
          try simp only [Act.put, List.setIfInBounds_toArray, List.set_cons_zero, List.set_cons_succ]
          refine wpAnyH_take (i := 31) (oi := { dst := some 74, op := Op.fieldAddr 58 (Operand.tmp 13) 4, type := 0, pos := "ref.go:254", after := #[{ on := 26, ground := Ground.guard }], guard := some (26, false) }) (v := undef) rfl (by kernel_rfl) (by kernel_rfl) (by kernel_rfl) (fun _ _ _ h => h) (Or.inr ⟨by rfl, rfl⟩) (by assumption) ?_
          try simp only [Act.put, List.setIfInBounds_toArray, List.set_cons_zero, List.set_cons_succ]
          refine wpAnyH_take (i := 32) (oi := { dst := some 75, op := Op.fieldAddr 29 (Operand.tmp 74) 0, type := 0, pos := "ref.go:254", after := #[{ on := 31, ground := Ground.data }, { on := 26, ground := Ground.guard }], guard := some (26, false) }) (v := undef) rfl (by kernel_rfl) (by kernel_rfl) (by kernel_rfl) (fun _ _ _ h => h) (Or.inr ⟨by rfl, rfl⟩) (by assumption) ?_
          try simp only [Act.put, List.setIfInBounds_toArray, List.set_cons_zero, List.set_cons_succ]
          refine wpAnyH_take (i := 33) (oi := { dst := some 76, op := Op.load 3 (Operand.tmp 75), type := 3, pos := "ref.go:254", after := #[{ on := 32, ground := Ground.data }, { on := 26, ground := Ground.guard }], guard := some (26, false) }) (v := undef) rfl (by kernel_rfl) (by kernel_rfl) (by kernel_rfl) (fun _ _ _ h => h) (Or.inr ⟨by rfl, rfl⟩) (by assumption) ?_
          try simp only [Act.put, List.setIfInBounds_toArray, List.set_cons_zero, List.set_cons_succ]
          refine wpAnyH_take (i := 34) (oi := { dst := some 77, op := Op.fieldAddr 58 (Operand.tmp 13) 4, type := 0, pos := "ref.go:254", after := #[{ on := 26, ground := Ground.guard }], guard := some (26, false) }) (v := undef) rfl (by kernel_rfl) (by kernel_rfl) (by kernel_rfl) (fun _ _ _ h => h) (Or.inr ⟨by rfl, rfl⟩) (by assumption) ?_
          try simp only [Act.put, List.setIfInBounds_toArray, List.set_cons_zero, List.set_cons_succ]
          refine wpAnyH_take (i := 35) (oi := { dst := some 78, op := Op.fieldAddr 29 (Operand.tmp 77) 1, type := 0, pos := "ref.go:254", after := #[{ on := 34, ground := Ground.data }, { on := 26, ground := Ground.guard }], guard := some (26, false) }) (v := undef) rfl (by kernel_rfl) (by kernel_rfl) (by kernel_rfl) (fun _ _ _ h => h) (Or.inr ⟨by rfl, rfl⟩) (by assumption) ?_
          try simp only [Act.put, List.setIfInBounds_toArray, List.set_cons_zero, List.set_cons_succ]
          refine wpAnyH_take (i := 36) (oi := { dst := some 79, op := Op.load 3 (Operand.tmp 78), type := 3, pos := "ref.go:254", after := #[{ on := 35, ground := Ground.data }, { on := 26, ground := Ground.guard }], guard := some (26, false) }) (v := undef) rfl (by kernel_rfl) (by kernel_rfl) (by kernel_rfl) (fun _ _ _ h => h) (Or.inr ⟨by rfl, rfl⟩) (by assumption) ?_
          try simp only [Act.put, List.setIfInBounds_toArray, List.set_cons_zero, List.set_cons_succ]
          refine wpAnyH_take (i := 37) (oi := { dst := some 80, op := Op.call { callee := Callee.value (Operand.func 88), args := #[Operand.tmp 73, Operand.tmp 76, Operand.tmp 79], argTypes := #[3, 3, 3] }, type := 4, pos := "ref.go:254", after := #[{ on := 30, ground := Ground.data }, { on := 33, ground := Ground.data }, { on := 36, ground := Ground.data }, { on := 26, ground := Ground.chain }, { on := 26, ground := Ground.guard }], guard := some (26, false) }) (v := undef) rfl (by kernel_rfl) (by kernel_rfl) (by kernel_rfl) (fun _ _ _ h => h) (Or.inr ⟨by rfl, rfl⟩) (by assumption) ?_
          try simp only [Act.put, List.setIfInBounds_toArray, List.set_cons_zero, List.set_cons_succ]
          refine wpAnyH_take (i := 38) (oi := { dst := some 81, op := Op.unOp UnOp.not 4 (Operand.tmp 80), type := 4, pos := "ref.go:254", after := #[{ on := 37, ground := Ground.data }, { on := 26, ground := Ground.guard }], guard := some (26, false) }) (v := undef) rfl (by kernel_rfl) (by kernel_rfl) (by kernel_rfl) (fun _ _ _ h => h) (Or.inr ⟨by rfl, rfl⟩) (by assumption) ?_
          try simp only [Act.put, List.setIfInBounds_toArray, List.set_cons_zero, List.set_cons_succ]
          refine wpAnyH_take (i := 39) (oi := { dst := some 82, op := Op.pick (Operand.tmp 69) (Operand.const (Value.bool true)) (Operand.tmp 81), type := 4, pos := "ref.go:254", after := #[{ on := 26, ground := Ground.data }, { on := 38, ground := Ground.data }], guard := none }) (v := ?_) rfl (by kernel_rfl) (by kernel_rfl) (by kernel_rfl) (fun _ _ _ h => h) (Or.inl ⟨by rfl, ?_⟩) (by assumption) ?_
          rotate_left
          · (intro w9 hSw; (try dsimp only at hSw); (go_split_ands; go_simp); (try with_reducible rfl))
          try simp only [Act.put, List.setIfInBounds_toArray, List.set_cons_zero, List.set_cons_succ]
          refine wpAnyH_done (by kernel_rfl) ?_ _
          clear hHeld
          go_wp2_with fail
          refine bodyPost_ret (v := .tuple #[.slice none 0 0, .bool false]) (by simp [results, Try.results74, go_sem]) rfl ?_
          exact ⟨(TT.out _ P0.out.out).bel, .inr ⟨HE.out, rfl⟩⟩
      · obtain rfl : tn = k := by omega
        have hv := HI.out.own _ List.mem_cons_self
        dsimp only at hv
        obtain ⟨oa, cap, rfl, hkn, -⟩ := own_kns hv (tolL_len _ _ _ _) (by unfold maxLen; omega)
        have HKN := Lib.hid (hkn.congr (fun i hi => tolL_at f g h hi))
        clear hv hkn
        go_wp2_with fail
        refine bodyPost_ret (v := .tuple #[.slice oa tn cap, .bool true]) (by simp [results, Try.results74, go_sem]) rfl ?_
        exact ⟨(TT.out _ HI.out.out).bel, .inl ⟨by unfold exB; simp only [decide_true, Bool.true_and, List.all_eq_true, List.mem_range]; exact HK0.out, _, _, rfl, HKN.out⟩⟩
  · have HE := Lib.hid (show exB fn gn hn tn T f g h = false by
      cases hx : exB fn gn hn tn T f g h with
      | false => rfl
      | true => exact absurd (exB_len hx) hl)
    by_cases e1 : fn = tn
    · by_cases e2 : gn = tn
      · have e3 : ¬ hn = tn := fun e3 => hl ⟨e1, e2, e3⟩
        replace e1 := e1.symm; subst e1
        replace e2 := e2.symm; subst e2
        have e3' : ¬ ((hn : Int) = (tn : Int)) := by omega
        clear hl
        go_enter Try.func74, Try.ntmps74
        go_wp2_with fail
        refine bodyPost_ret (v := .tuple #[.slice none 0 0, .bool false]) (by simp [results, Try.results74, go_sem]) rfl ?_
        exact ⟨I0.out.bel, .inr ⟨HE.out, rfl⟩⟩
      · replace e1 := e1.symm; subst e1
        have e2' : ¬ ((gn : Int) = (tn : Int)) := by omega
        clear hl
        go_enter Try.func74, Try.ntmps74
        go_wp2_with fail
        refine bodyPost_ret (v := .tuple #[.slice none 0 0, .bool false]) (by simp [results, Try.results74, go_sem]) rfl ?_
        exact ⟨I0.out.bel, .inr ⟨HE.out, rfl⟩⟩
    · have e1' : ¬ ((fn : Int) = (tn : Int)) := by omega
      clear hl
      go_enter Try.func74, Try.ntmps74
      go_wp2_with fail
      refine bodyPost_ret (v := .tuple #[.slice none 0 0, .bool false]) (by simp [results, Try.results74, go_sem]) rfl ?_
      exact ⟨I0.out.bel, .inr ⟨HE.out, rfl⟩⟩

def ExactRP (w : World) (V : Prop) (b : Bool) (F : Nat → Int) (n : Nat) (e : Ending) (w' : World) : Prop :=
  Below w.heap.size w w' ∧ ((V ∧ b = true ∧ ∃ oa cap, e = .returned (.tuple #[.slice oa n cap, .int .i64 0]) ∧ IntsAt w' oa n F) ∨ (V ∧ b = false ∧ e = .returned (.tuple #[.slice none 0 0, .int .i64 2])) ∨ (¬ V ∧ e = .returned (.tuple #[.slice none 0 0, .int .i64 1])))
structure EW (w : World) (cr : Int) (sa ta : Option Addr) (sn sc tn tc : Nat) (S : Nat → Sm) (T : Nat → Tk) (fa ga ha : Option Addr) (fn gn hn : Nat) (f g h : Nat → Int) (w' : World) : Prop where
  wb : WB w cr sa ta sn sc tn tc S T w.heap.size w'
  l1 : IntsAt w' fa fn f
  l2 : IntsAt w' ga gn g
  l3 : IntsAt w' ha hn h
theorem EW.grow {w : World} {cr : Int} {sa ta : Option Addr} {sn sc tn tc : Nat} {S : Nat → Sm} {T : Nat → Tk} {fa ga ha : Option Addr} {fn gn hn : Nat} {f g h : Nat → Int} {w1 w2 : World} (H : EW w cr sa ta sn sc tn tc S T fa ga ha fn gn hn f g h w1) (hb : Below w1.heap.size w1 w2) : EW w cr sa ta sn sc tn tc S T fa ga ha fn gn hn f g h w2 :=
  ⟨H.wb.grow hb, H.l1.grow hb, H.l2.grow hb, H.l3.grow hb⟩

attribute [local go_sem] List.getElem?_toArray List.getElem?_cons_zero List.getElem?_cons_succ
set_option maxRecDepth 100000 in
set_option maxHeartbeats 4000000 in
theorem exactR_any (cr : Int) (sa ta : Option Addr) (sn sc tn tc : Nat) (S : Nat → Sm) (T : Nat → Tk) (fa ga ha : Option Addr) (fn fc gn gc hn hc : Nat) (f g h : Nat → Int) (w : World)
    (hS : SeamsAt w sa sn S) (hT : TicketsAt w ta tn T) (hf : IntsAt w fa fn f) (hg : IntsAt w ga gn g) (hh : IntsAt w ha hn h) :
    Calls Try.prog 26 #[.agg #[.int .i64 cr, .slice sa sn sc, .slice ta tn tc], .slice fa fn fc, .slice ga gn gc, .slice ha hn hc] w (ExactRP w (Valid cr sn tn S T) (exB fn gn hn tn T f g h) (fun c => coinsOf S T (toldK f g h) sn tn c) cr.toNat) := by
  have hb0 := ba w (.cells #[.int .i64 cr, .slice sa sn sc, .slice ta tn tc] 25)
  have I0 := Lib.hid (show EW w cr sa ta sn sc tn tc S T fa ga ha fn gn hn f g h _ from ⟨WB.new (cr := cr) (sc := sc) (tc := tc) hS hT, hf.grow hb0, hg.grow hb0, hh.grow hb0⟩)
  clear hb0 hS hT hf hg hh
  go_enter Try.func26, Try.ntmps26
  go_wp2_with (go_at_call 37; refine (wages_ref _ _ _ _ _ _ _ S T _ I0.out.wb.ss I0.out.wb.tt).mono ?_)
  rintro e w1 ⟨b, rfl, hv, hb⟩
  have I1 := Lib.hid (I0.out.grow hb)
  clear hb I0
  rcases b with _ | _
  · have HV := Lib.hid (show ¬ Valid cr sn tn S T from fun h => Bool.false_ne_true (hv.2 h))
    clear hv
    go_wp2_with fail
    refine bodyPost_ret (v := .tuple #[.slice none 0 0, .int .i64 1]) (by simp [results, Try.results26, go_sem]) rfl ?_
    exact ⟨I1.out.wb.bel, .inr (.inr ⟨HV.out, rfl⟩)⟩
  have hv := hv.1 rfl
  have HV := Lib.hid hv
  have htn6 := hv.tn6
  obtain ⟨cN, eC⟩ : ∃ cN : Nat, cr = cN := ⟨cr.toNat, by have := hv.cr0; omega⟩
  subst eC
  have hc4 := hv.cr1
  clear hv
  have d0 := cellAt I1.out.wb.box 0
  have d1 := cellAt I1.out.wb.box 1
  have d2 := cellAt I1.out.wb.box 2
  simp only [List.getElem?_toArray, List.getElem?_cons_zero, List.getElem?_cons_succ] at d0 d1 d2
  go_wp2_with (go_at_call 74; refine (known_ref _ _ _ _ _ _ _ T _ _ _ fn _ gn _ hn _ f g h _ htn6 I1.out.wb.tt I1.out.l1 I1.out.l2 I1.out.l3).mono ?_)
  rintro e w2 ⟨hb2, ⟨hx, oa, cap, rfl, hkn⟩ | ⟨hx, rfl⟩⟩
  rotate_left
  · have I2 := Lib.hid (I1.out.grow hb2)
    have HX := Lib.hid hx
    clear hb2 I1 d0 d1 d2 hx
    go_wp2_with fail
    refine bodyPost_ret (v := .tuple #[.slice none 0 0, .int .i64 2]) (by simp [results, Try.results26, go_sem]) rfl ?_
    exact ⟨I2.out.wb.bel, .inr (.inl ⟨HV.out, HX.out, rfl⟩)⟩
  have I2 := Lib.hid (I1.out.grow hb2)
  clear hb2 I1 d0 d1 d2
  have HX := Lib.hid hx
  have HKN := Lib.hid hkn
  clear hx hkn
  go_wp2_with fail
  obtain ⟨F, eF⟩ : ∃ F : Nat → Int, F = fun c : Nat => coinsOf S T (toldK f g h) sn tn c := ⟨_, rfl⟩
  have HF := Lib.hid eF
  clear eF
  have TT := Lib.hid (fun W (hO : Out [] w2 W) => hO.to_below (B := w2.heap.size) (by simp) (Nat.le_refl _))
  have O0 := Lib.hid (OwnT.start (E := 3) (sz := 1) (D := []) (w0 := w2) (KB := []) (VS := [(.slice none 0 0, 0, rowVals F 0)]) (by intro e he; cases he) (by intro e he; simpa [rowVals] using he))
  go_loopw [12, 13] (fun v i W => ∃ k : Nat, k ≤ cN ∧ i = .int .i64 k ∧ OwnT 3 1 [] w2 [] [(v, k, rowVals F k)] W) (fun _ i _ => cN - (intOf i).toNat)
  case atStart => exact ⟨0, Nat.zero_le _, rfl, O0.out⟩
  case round =>
    clear O0
    obtain ⟨k, hk, rfl, hI⟩ := hrel
    have HI := Lib.hid hI
    clear hI
    have I3 := Lib.hid (I2.out.grow (TT.out _ HI.out.out))
    have d0 := cellAt I3.out.wb.box 0
    have d1 := cellAt I3.out.wb.box 1
    have d2 := cellAt I3.out.wb.box 2
    simp only [List.getElem?_toArray, List.getElem?_cons_zero, List.getElem?_cons_succ] at d0 d1 d2
    by_cases hlt : k < cN
    · have CM := Lib.hid (coinsR_any cN sa ta sn sc tn tc S T oa cap (toldK f g h) k _ HV.out I3.out.wb.ss I3.out.wb.tt (HKN.out.grow (TT.out _ HI.out.out)))
      rw [show coinsOf S T (toldK f g h) sn tn (k : Int) = F k by rw [HF.out]] at CM
      obtain ⟨i0, hi0, hz0, hz1, hz2⟩ := info_parts info3
      go_wp2_with (first | (go_at_call 75; refine CM.out.mono ?_; rintro e w3 ⟨rfl, hb3⟩; have O4 := Lib.hid (HI.out.grow hb3); have O5 := Lib.hid (O4.out.new #[.int .i64 (F k)] 3); clear hb3 CM d0 d1 d2) | (at_builtin; refine wpList_ownT Try.underlying37 hi0 hz0 hz1 hz2 rfl (by omega) (by omega) O5.out rfl (.tmp 33) (.tmp 38) rfl 0 k rfl rfl (gb := w3.heap.size) (ys := #[.int .i64 (F k)]) rfl List.mem_cons_self rfl (fun y hy => by simp at hy; subst hy; rfl) (by omega) ?_))
      intro g6 p6 W3 hO
      rw [← rowVals_succ] at hO
      have O6 := Lib.hid (hO.sub (KB' := []) (fun e he => by cases he))
      clear hO O5 O4
      go_wp2_with fail
      exact ⟨⟨k + 1, hlt, by go_num, O6.out⟩, by simp [intOf]; omega⟩
    · obtain rfl : cN = k := by omega
      have hv := HI.out.own _ List.mem_cons_self
      dsimp only at hv
      obtain ⟨ra, rc, rfl, hI, -⟩ := row_ints hv (by unfold maxLen; omega)
      clear hv
      have HR := Lib.hid hI
      clear hI
      go_wp2_with fail
      refine bodyPost_ret (v := .tuple #[.slice ra cN rc, .int .i64 0]) (by simp [results, Try.results26, go_sem]) rfl ?_
      refine ⟨I3.out.wb.bel, .inl ⟨HV.out, HX.out, _, _, rfl, ?_⟩⟩
      have h := HR.out
      rw [HF.out] at h
      exact h
end Go.Proofs.Ytbpeamppkdmdcaa
