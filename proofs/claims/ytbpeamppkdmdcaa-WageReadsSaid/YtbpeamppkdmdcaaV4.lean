/-
  Walks: how many fathoms are due, and how many are left, by the reference.
-/
import Derived.Test.YtbpeamppkdmdcaaV3
import Derived.Deep.Light
namespace Go.Proofs.Ytbpeamppkdmdcaa
open Go.RowKit
attribute [local go_sem ↓] Go.wp_at_zero Go.wp_at_succ

set_option maxRecDepth 100000 in
set_option maxHeartbeats 4000000 in
theorem fathomsR_any (cr : Int) (sa ta : Option Addr) (sn sc tn tc : Nat) (S : Nat → Sm) (T : Nat → Tk) (s c : Int) (w : World) (hS : SeamsAt w sa sn S) (hT : TicketsAt w ta tn T) (hc : Valid cr sn tn S T → countT T tn 0 ≤ 2000) :
    Calls Try.prog 16 #[.agg #[.int .i64 cr, .slice sa sn sc, .slice ta tn tc], .int .i64 s, .int .i64 c] w
      (Said w (Valid cr sn tn S T) (inB s 0 (sn - 1) && inB c 0 (cr - 1)) (.tuple #[.agg #[.int .i64 (manyOf S T (leastK c T) tn s c), .int .i64 (manyOf S T (mostK c T) tn s c)], .int .i64 0]) (.tuple #[.agg #[.int .i64 0, .int .i64 0], .int .i64 2]) (.tuple #[.agg #[.int .i64 0, .int .i64 0], .int .i64 1])) := by
  have I0 := Lib.hid (DU.new (cr := cr) (sc := sc) (tc := tc) hS hT)
  have HC := Lib.hid hc
  have nsl := hS.small
  clear hS hT hc
  go_enter Try.func16, Try.ntmps16
  go_wp2_with fail
  generalize World.alloc _ _ = W0 at *
  go_cut [8] from 9 to 18 (fun v W => ∃ x b, v = .int .i64 x ∧ checkE (Valid cr sn tn S T) b x ∧ (1 ≤ cr ∧ cr ≤ 4 → b = (inB s 0 (sn - 1) && inB c 0 (cr - 1))) ∧ DU w cr sa ta sn sc tn tc S T W)
  case first =>
    rename_i J1 K1 hJ hK1
    have HKK := Lib.hid (fun a' w' h => hK1 a' w' (Met.intro (hJ a' w' h)))
    clear hJ hK1
    go_light
    have P0 := Lib.hid (I0.out.grow (Below.drew (Below.refl _ _)))
    clear I0
    obtain ⟨q, hq⟩ : ∃ q, q = inB s 0 (sn - 1) := ⟨_, rfl⟩
    have CS := Lib.hid (fun W => hq ▸ seam_ref cr sa ta sn sc tn tc s W nsl)
    have HQ := Lib.hid hq
    rw [← hq] at HKK
    clear hq nsl
    rcases q with _ | _
    · refine wp_region_held_drew (S := (fun w' => w'.cell? ⟨w.heap.size, 0, none⟩ = some (.int .i64 cr) ∧ w'.cell? ⟨w.heap.size, 1, none⟩ = some (.slice sa sn sc) ∧ w'.cell? ⟨w.heap.size, 2, none⟩ = some (.slice ta tn tc))) (by kernel_rfl) (by exact (by have hm := P0.out.wb.box; exact ⟨cellAt hm 0, cellAt hm 1, cellAt hm 2⟩)) (fun hHeld => ?_)
      refine wpAnyH_take (i := 0) (oi := { dst := some 9, op := Op.load 25 (Operand.tmp 3), type := 25, pos := "ref.go:168", after := #[], guard := none }) (v := ?_) rfl (by kernel_rfl) (by kernel_rfl) (by kernel_rfl) (fun _ _ _ h => h) (Or.inl ⟨by rfl, ?_⟩) (by assumption) ?_
      rotate_left
      · (intro w9 hSw; (try dsimp only at hSw); (go_split_ands; go_simp); (try with_reducible rfl))
      try simp only [Act.put, List.setIfInBounds_toArray, List.set_cons_zero, List.set_cons_succ]
      refine wpAnyH_take (i := 1) (oi := { dst := some 10, op := Op.load 25 (Operand.tmp 3), type := 25, pos := "ref.go:168", after := #[], guard := none }) (v := ?_) rfl (by kernel_rfl) (by kernel_rfl) (by kernel_rfl) (fun _ _ _ h => h) (Or.inl ⟨by rfl, ?_⟩) (by assumption) ?_
      rotate_left
      · (intro w9 hSw; (try dsimp only at hSw); (go_split_ands; go_simp); (try with_reducible rfl))
      try simp only [Act.put, List.setIfInBounds_toArray, List.set_cons_zero, List.set_cons_succ]
      refine wpAnyH_take (i := 2) (oi := { dst := some 11, op := Op.move (Operand.tmp 1), type := 3, pos := "ref.go:168", after := #[], guard := none }) (v := ?_) rfl (by kernel_rfl) (by kernel_rfl) (by kernel_rfl) (fun _ _ _ h => h) (Or.inl ⟨by rfl, ?_⟩) (by assumption) ?_
      rotate_left
      · (intro w9 hSw; (try dsimp only at hSw); (go_split_ands; go_simp); (try with_reducible rfl))
      try simp only [Act.put, List.setIfInBounds_toArray, List.set_cons_zero, List.set_cons_succ]
      refine wpAnyH_ready (rs := [3]) (by kernel_rfl) (by simp) ?_
      refine AllReadyH.cons (o := { dst := some 12, op := Op.call { callee := Callee.value (Operand.func 52), args := #[Operand.tmp 10, Operand.tmp 11], argTypes := #[25, 3] }, type := 4, pos := "ref.go:168", after := #[{ on := 1, ground := Ground.data }, { on := 2, ground := Ground.data }], guard := none }) rfl (fun K hK => ?_) (AllReadyH.nil)
      clear hHeld
      go_simp
      refine (CS.out _).mono ?_; rintro e W1 ⟨rfl, hb1⟩
      have P1 := Lib.hid (P0.out.grow hb1)
      clear hb1
      go_wp2_with fail
      refine hK.out _ _ ?_ (fun hHeld => ?_)
      · exact (by have hm := P1.out.wb.box; exact ⟨cellAt hm 0, cellAt hm 1, cellAt hm 2⟩)
      clear hK K
      try simp only [Act.put, List.setIfInBounds_toArray, List.set_cons_zero, List.set_cons_succ]
      refine wpAnyH_take (i := 4) (oi := { dst := some 13, op := Op.move (Operand.tmp 12), type := 4, pos := "ref.go:168", after := #[{ on := 3, ground := Ground.data }, { on := 3, ground := Ground.chain }], guard := none }) (v := ?_) rfl (by kernel_rfl) (by kernel_rfl) (by kernel_rfl) (fun _ _ _ h => h) (Or.inl ⟨by rfl, ?_⟩) (by assumption) ?_
      rotate_left
      · (intro w9 hSw; (try dsimp only at hSw); (go_split_ands; go_simp); (try with_reducible rfl))
      try simp only [Act.put, List.setIfInBounds_toArray, List.set_cons_zero, List.set_cons_succ]
      refine wpAnyH_take (i := 5) (oi := { dst := some 14, op := Op.load 25 (Operand.tmp 3), type := 25, pos := "ref.go:168", after := #[{ on := 4, ground := Ground.guard }], guard := some (4, true) }) (v := undef) rfl (by kernel_rfl) (by kernel_rfl) (by kernel_rfl) (fun _ _ _ h => h) (Or.inr ⟨by rfl, rfl⟩) (by assumption) ?_
      try simp only [Act.put, List.setIfInBounds_toArray, List.set_cons_zero, List.set_cons_succ]
      refine wpAnyH_take (i := 6) (oi := { dst := some 15, op := Op.move (Operand.tmp 2), type := 3, pos := "ref.go:168", after := #[{ on := 4, ground := Ground.guard }], guard := some (4, true) }) (v := undef) rfl (by kernel_rfl) (by kernel_rfl) (by kernel_rfl) (fun _ _ _ h => h) (Or.inr ⟨by rfl, rfl⟩) (by assumption) ?_
      try simp only [Act.put, List.setIfInBounds_toArray, List.set_cons_zero, List.set_cons_succ]
      refine wpAnyH_take (i := 7) (oi := { dst := some 16, op := Op.call { callee := Callee.value (Operand.func 53), args := #[Operand.tmp 14, Operand.tmp 15], argTypes := #[25, 3] }, type := 4, pos := "ref.go:168", after := #[{ on := 5, ground := Ground.data }, { on := 6, ground := Ground.data }, { on := 4, ground := Ground.chain }, { on := 4, ground := Ground.guard }], guard := some (4, true) }) (v := undef) rfl (by kernel_rfl) (by kernel_rfl) (by kernel_rfl) (fun _ _ _ h => h) (Or.inr ⟨by rfl, rfl⟩) (by assumption) ?_
      try simp only [Act.put, List.setIfInBounds_toArray, List.set_cons_zero, List.set_cons_succ]
      refine wpAnyH_take (i := 8) (oi := { dst := some 17, op := Op.pick (Operand.tmp 13) (Operand.tmp 16) (Operand.const (Value.bool false)), type := 4, pos := "ref.go:168", after := #[{ on := 4, ground := Ground.data }, { on := 7, ground := Ground.data }], guard := none }) (v := ?_) rfl (by kernel_rfl) (by kernel_rfl) (by kernel_rfl) (fun _ _ _ h => h) (Or.inl ⟨by rfl, ?_⟩) (by assumption) ?_
      rotate_left
      · (intro w9 hSw; (try dsimp only at hSw); (go_split_ands; go_simp); (try with_reducible rfl))
      try simp only [Act.put, List.setIfInBounds_toArray, List.set_cons_zero, List.set_cons_succ]
      refine wpAnyH_ready (rs := [9]) (by kernel_rfl) (by simp) ?_
      refine AllReadyH.cons (o := { dst := some 18, op := Op.call { callee := Callee.value (Operand.func 51), args := #[Operand.tmp 9, Operand.tmp 17], argTypes := #[25, 4] }, type := 30, pos := "ref.go:168", after := #[{ on := 0, ground := Ground.data }, { on := 8, ground := Ground.data }, { on := 7, ground := Ground.chain }], guard := none }) rfl (fun K hK => ?_) (AllReadyH.nil)
      clear hHeld
      go_simp
      refine (check_any cr sa ta sn sc tn tc S T false _ P1.out.wb.ss P1.out.wb.tt).mono ?_; rintro e W2 ⟨x, rfl, hx, hb2⟩; have HX := Lib.hid hx; clear hx
      have P2 := Lib.hid (P1.out.grow hb2)
      clear hb2
      go_wp2_with fail
      refine hK.out _ _ ?_ (fun hHeld => ?_)
      · exact (by have hm := P2.out.wb.box; exact ⟨cellAt hm 0, cellAt hm 1, cellAt hm 2⟩)
      clear hK K
      try simp only [Act.put, List.setIfInBounds_toArray, List.set_cons_zero, List.set_cons_succ]
      refine wpAnyH_take (i := 10) (oi := { dst := some 8, op := Op.assign (Operand.tmp 18), type := 30, pos := "ref.go:168", after := #[{ on := 9, ground := Ground.data }, { on := 9, ground := Ground.chain }, { on := 0, ground := Ground.phase }, { on := 1, ground := Ground.phase }, { on := 2, ground := Ground.phase }, { on := 3, ground := Ground.phase }, { on := 4, ground := Ground.phase }, { on := 5, ground := Ground.phase }, { on := 6, ground := Ground.phase }, { on := 7, ground := Ground.phase }, { on := 8, ground := Ground.phase }, { on := 9, ground := Ground.phase }], guard := none }) (v := ?_) rfl (by kernel_rfl) (by kernel_rfl) (by kernel_rfl) (fun _ _ _ h => h) (Or.inl ⟨by rfl, ?_⟩) (by assumption) ?_
      rotate_left
      · (intro w9 hSw; (try dsimp only at hSw); (go_split_ands; go_simp); (try with_reducible rfl))
      try simp only [Act.put, List.setIfInBounds_toArray, List.set_cons_zero, List.set_cons_succ]
      refine wpAnyH_done (by kernel_rfl) ?_ _
      refine HKK.out _ _ ?_
      (repeat apply Exists.intro)
      refine ⟨?_, rfl⟩
      exact ⟨_, _, rfl, HX.out, (fun _ => by rw [Bool.false_and]), P2.out⟩
    · refine wp_region_held_drew (S := (fun w' => w'.cell? ⟨w.heap.size, 0, none⟩ = some (.int .i64 cr) ∧ w'.cell? ⟨w.heap.size, 1, none⟩ = some (.slice sa sn sc) ∧ w'.cell? ⟨w.heap.size, 2, none⟩ = some (.slice ta tn tc))) (by kernel_rfl) (by exact (by have hm := P0.out.wb.box; exact ⟨cellAt hm 0, cellAt hm 1, cellAt hm 2⟩)) (fun hHeld => ?_)
      refine wpAnyH_take (i := 0) (oi := { dst := some 9, op := Op.load 25 (Operand.tmp 3), type := 25, pos := "ref.go:168", after := #[], guard := none }) (v := ?_) rfl (by kernel_rfl) (by kernel_rfl) (by kernel_rfl) (fun _ _ _ h => h) (Or.inl ⟨by rfl, ?_⟩) (by assumption) ?_
      rotate_left
      · (intro w9 hSw; (try dsimp only at hSw); (go_split_ands; go_simp); (try with_reducible rfl))
      try simp only [Act.put, List.setIfInBounds_toArray, List.set_cons_zero, List.set_cons_succ]
      refine wpAnyH_take (i := 1) (oi := { dst := some 10, op := Op.load 25 (Operand.tmp 3), type := 25, pos := "ref.go:168", after := #[], guard := none }) (v := ?_) rfl (by kernel_rfl) (by kernel_rfl) (by kernel_rfl) (fun _ _ _ h => h) (Or.inl ⟨by rfl, ?_⟩) (by assumption) ?_
      rotate_left
      · (intro w9 hSw; (try dsimp only at hSw); (go_split_ands; go_simp); (try with_reducible rfl))
      try simp only [Act.put, List.setIfInBounds_toArray, List.set_cons_zero, List.set_cons_succ]
      refine wpAnyH_take (i := 2) (oi := { dst := some 11, op := Op.move (Operand.tmp 1), type := 3, pos := "ref.go:168", after := #[], guard := none }) (v := ?_) rfl (by kernel_rfl) (by kernel_rfl) (by kernel_rfl) (fun _ _ _ h => h) (Or.inl ⟨by rfl, ?_⟩) (by assumption) ?_
      rotate_left
      · (intro w9 hSw; (try dsimp only at hSw); (go_split_ands; go_simp); (try with_reducible rfl))
      try simp only [Act.put, List.setIfInBounds_toArray, List.set_cons_zero, List.set_cons_succ]
      refine wpAnyH_ready (rs := [3]) (by kernel_rfl) (by simp) ?_
      refine AllReadyH.cons (o := { dst := some 12, op := Op.call { callee := Callee.value (Operand.func 52), args := #[Operand.tmp 10, Operand.tmp 11], argTypes := #[25, 3] }, type := 4, pos := "ref.go:168", after := #[{ on := 1, ground := Ground.data }, { on := 2, ground := Ground.data }], guard := none }) rfl (fun K hK => ?_) (AllReadyH.nil)
      clear hHeld
      go_simp
      refine (CS.out _).mono ?_; rintro e W1 ⟨rfl, hb1⟩
      have P1 := Lib.hid (P0.out.grow hb1)
      clear hb1
      go_wp2_with fail
      refine hK.out _ _ ?_ (fun hHeld => ?_)
      · exact (by have hm := P1.out.wb.box; exact ⟨cellAt hm 0, cellAt hm 1, cellAt hm 2⟩)
      clear hK K
      try simp only [Act.put, List.setIfInBounds_toArray, List.set_cons_zero, List.set_cons_succ]
      refine wpAnyH_take (i := 4) (oi := { dst := some 13, op := Op.move (Operand.tmp 12), type := 4, pos := "ref.go:168", after := #[{ on := 3, ground := Ground.data }, { on := 3, ground := Ground.chain }], guard := none }) (v := ?_) rfl (by kernel_rfl) (by kernel_rfl) (by kernel_rfl) (fun _ _ _ h => h) (Or.inl ⟨by rfl, ?_⟩) (by assumption) ?_
      rotate_left
      · (intro w9 hSw; (try dsimp only at hSw); (go_split_ands; go_simp); (try with_reducible rfl))
      try simp only [Act.put, List.setIfInBounds_toArray, List.set_cons_zero, List.set_cons_succ]
      refine wpAnyH_take (i := 5) (oi := { dst := some 14, op := Op.load 25 (Operand.tmp 3), type := 25, pos := "ref.go:168", after := #[{ on := 4, ground := Ground.guard }], guard := some (4, true) }) (v := ?_) rfl (by kernel_rfl) (by kernel_rfl) (by kernel_rfl) (fun _ _ _ h => h) (Or.inl ⟨by rfl, ?_⟩) (by assumption) ?_
      rotate_left
      · (intro w9 hSw; (try dsimp only at hSw); (go_split_ands; go_simp); (try with_reducible rfl))
      try simp only [Act.put, List.setIfInBounds_toArray, List.set_cons_zero, List.set_cons_succ]
      refine wpAnyH_take (i := 6) (oi := { dst := some 15, op := Op.move (Operand.tmp 2), type := 3, pos := "ref.go:168", after := #[{ on := 4, ground := Ground.guard }], guard := some (4, true) }) (v := ?_) rfl (by kernel_rfl) (by kernel_rfl) (by kernel_rfl) (fun _ _ _ h => h) (Or.inl ⟨by rfl, ?_⟩) (by assumption) ?_
      rotate_left
      · (intro w9 hSw; (try dsimp only at hSw); (go_split_ands; go_simp); (try with_reducible rfl))
      try simp only [Act.put, List.setIfInBounds_toArray, List.set_cons_zero, List.set_cons_succ]
      refine wpAnyH_ready (rs := [7]) (by kernel_rfl) (by simp) ?_
      refine AllReadyH.cons (o := { dst := some 16, op := Op.call { callee := Callee.value (Operand.func 53), args := #[Operand.tmp 14, Operand.tmp 15], argTypes := #[25, 3] }, type := 4, pos := "ref.go:168", after := #[{ on := 5, ground := Ground.data }, { on := 6, ground := Ground.data }, { on := 4, ground := Ground.chain }, { on := 4, ground := Ground.guard }], guard := some (4, true) }) rfl (fun K hK => ?_) (AllReadyH.nil)
      clear hHeld
      go_simp
      refine (crewR_any cr sa ta sn sc tn tc c _).mono ?_; rintro e W2 ⟨b, rfl, hbb, hb2⟩; have HBB := Lib.hid hbb; clear hbb
      have P2 := Lib.hid (P1.out.grow hb2)
      clear hb2
      go_wp2_with fail
      refine hK.out _ _ ?_ (fun hHeld => ?_)
      · exact (by have hm := P2.out.wb.box; exact ⟨cellAt hm 0, cellAt hm 1, cellAt hm 2⟩)
      clear hK K
      try simp only [Act.put, List.setIfInBounds_toArray, List.set_cons_zero, List.set_cons_succ]
      refine wpAnyH_take (i := 8) (oi := { dst := some 17, op := Op.pick (Operand.tmp 13) (Operand.tmp 16) (Operand.const (Value.bool false)), type := 4, pos := "ref.go:168", after := #[{ on := 4, ground := Ground.data }, { on := 7, ground := Ground.data }], guard := none }) (v := ?_) rfl (by kernel_rfl) (by kernel_rfl) (by kernel_rfl) (fun _ _ _ h => h) (Or.inl ⟨by rfl, ?_⟩) (by assumption) ?_
      rotate_left
      · (intro w9 hSw; (try dsimp only at hSw); (go_split_ands; go_simp); (try with_reducible rfl))
      try simp only [Act.put, List.setIfInBounds_toArray, List.set_cons_zero, List.set_cons_succ]
      refine wpAnyH_ready (rs := [9]) (by kernel_rfl) (by simp) ?_
      refine AllReadyH.cons (o := { dst := some 18, op := Op.call { callee := Callee.value (Operand.func 51), args := #[Operand.tmp 9, Operand.tmp 17], argTypes := #[25, 4] }, type := 30, pos := "ref.go:168", after := #[{ on := 0, ground := Ground.data }, { on := 8, ground := Ground.data }, { on := 7, ground := Ground.chain }], guard := none }) rfl (fun K hK => ?_) (AllReadyH.nil)
      clear hHeld
      go_simp
      refine (check_any cr sa ta sn sc tn tc S T b _ P2.out.wb.ss P2.out.wb.tt).mono ?_; rintro e W3 ⟨x, rfl, hx, hb3⟩; have HX := Lib.hid hx; clear hx
      have P3 := Lib.hid (P2.out.grow hb3)
      clear hb3
      go_wp2_with fail
      refine hK.out _ _ ?_ (fun hHeld => ?_)
      · exact (by have hm := P3.out.wb.box; exact ⟨cellAt hm 0, cellAt hm 1, cellAt hm 2⟩)
      clear hK K
      try simp only [Act.put, List.setIfInBounds_toArray, List.set_cons_zero, List.set_cons_succ]
      refine wpAnyH_take (i := 10) (oi := { dst := some 8, op := Op.assign (Operand.tmp 18), type := 30, pos := "ref.go:168", after := #[{ on := 9, ground := Ground.data }, { on := 9, ground := Ground.chain }, { on := 0, ground := Ground.phase }, { on := 1, ground := Ground.phase }, { on := 2, ground := Ground.phase }, { on := 3, ground := Ground.phase }, { on := 4, ground := Ground.phase }, { on := 5, ground := Ground.phase }, { on := 6, ground := Ground.phase }, { on := 7, ground := Ground.phase }, { on := 8, ground := Ground.phase }, { on := 9, ground := Ground.phase }], guard := none }) (v := ?_) rfl (by kernel_rfl) (by kernel_rfl) (by kernel_rfl) (fun _ _ _ h => h) (Or.inl ⟨by rfl, ?_⟩) (by assumption) ?_
      rotate_left
      · (intro w9 hSw; (try dsimp only at hSw); (go_split_ands; go_simp); (try with_reducible rfl))
      try simp only [Act.put, List.setIfInBounds_toArray, List.set_cons_zero, List.set_cons_succ]
      refine wpAnyH_done (by kernel_rfl) ?_ _
      refine HKK.out _ _ ?_
      (repeat apply Exists.intro)
      refine ⟨?_, rfl⟩
      exact ⟨_, _, rfl, HX.out, (fun h => by rw [Bool.true_and]; exact HBB.out h), P3.out⟩
  case rest =>
    obtain ⟨x, b, rfl, hx, hbb, hd⟩ := hcut
    have D1 := Lib.hid hd
    have HBB := Lib.hid hbb
    clear hd hbb I0
    have r0 := cellAt D1.out.r 0
    have r1 := cellAt D1.out.r 1
    have f0 := freeAt D1.out.r 0
    have f1 := freeAt D1.out.r 1
    simp only [List.getElem?_toArray, List.getElem?_cons_zero, List.getElem?_cons_succ] at r0 r1
    rcases hx with ⟨hv, rfl, rfl⟩ | ⟨hv, rfl, rfl⟩ | ⟨hv, rfl⟩
    · clear r0 r1 f0 f1
      have HV := Lib.hid hv
      have hcr := And.intro hv.cr0 hv.cr1
      have HT := Lib.hid (HBB.out hcr)
      clear hv hcr
      have q0 := cellAt D1.out.wb.box 0
      have q1 := cellAt D1.out.wb.box 1
      have q2 := cellAt D1.out.wb.box 2
      simp only [List.getElem?_toArray, List.getElem?_cons_zero, List.getElem?_cons_succ] at q0 q1 q2
      have hs := inB_iff.1 (show inB s 0 (sn - 1) = true by have h := HT.out; simp only [Bool.true_eq, Bool.and_eq_true] at h; exact h.1)
      obtain ⟨sN, eS⟩ : ∃ sN : Nat, s = sN := ⟨s.toNat, by omega⟩
      subst eS
      have CD := Lib.hid (show Calls Try.prog 54 _ _ (fun e w' => e = .returned (.agg #[.int .i64 (manyOf S T (leastK c T) tn sN c), .int .i64 (manyOf S T (mostK c T) tn sN c)]) ∧ Below _ _ w') from by
        have h := manysR_any cr sa ta sn sc tn tc S T sN c _ HV.out D1.out.wb.ss D1.out.wb.tt (by omega) (HC.out HV.out)
        rw [(many_span HV.out (sN : Int) c).1, (many_span HV.out (sN : Int) c).2] at h
        exact h)
      obtain ⟨lo, elo⟩ : ∃ lo, lo = manyOf S T (leastK c T) tn sN c := ⟨_, rfl⟩
      obtain ⟨hi, ehi⟩ : ∃ hi, hi = manyOf S T (mostK c T) tn sN c := ⟨_, rfl⟩
      rw [← elo, ← ehi] at CD
      have EL := Lib.hid elo
      have EH := Lib.hid ehi
      clear elo ehi hs
      go_wp2_with (go_at_call 54; refine CD.out.mono ?_)
      rintro e w2 ⟨rfl, hb2⟩
      have D2 := Lib.hid (D1.out.grow hb2)
      clear hb2 CD q0 q1 q2 D1
      have r0 := cellAt D2.out.r 0
      have r1 := cellAt D2.out.r 1
      have f0 := freeAt D2.out.r 0
      have f1 := freeAt D2.out.r 1
      simp only [List.getElem?_toArray, List.getElem?_cons_zero, List.getElem?_cons_succ] at r0 r1
      go_wp2_with fail
      have hst := (D2.out.r.store 0 (.int .i64 lo)).store 1 (.int .i64 hi)
      have z0 := cellAt hst 0
      have z1 := cellAt hst 1
      simp at z0 z1
      refine bodyPost_ret (v := .tuple #[.agg #[.int .i64 lo, .int .i64 hi], .int .i64 0]) (by simp [results, Try.results16, go_sem, z0, z1]) rfl ⟨?_, .inl ⟨HV.out, HT.out.symm, by rw [EL.out, EH.out]⟩⟩
      exact (D2.out.wb.bel.setCell (by dsimp only; omega) _).setCell (by dsimp only; omega) _
    · have HV := Lib.hid hv
      have hcr := And.intro hv.cr0 hv.cr1
      have HT := Lib.hid (HBB.out hcr)
      clear hv hcr
      go_wp2_with fail
      have hst := (D1.out.r.store 0 (.int .i64 0)).store 1 (.int .i64 0)
      have z0 := cellAt hst 0
      have z1 := cellAt hst 1
      simp at z0 z1
      refine bodyPost_ret (v := .tuple #[.agg #[.int .i64 0, .int .i64 0], .int .i64 2]) (by simp [results, Try.results16, go_sem, z0, z1]) rfl ⟨?_, .inr (.inl ⟨HV.out, HT.out.symm, rfl⟩)⟩
      exact (D1.out.wb.bel.setCell (by dsimp only; omega) _).setCell (by dsimp only; omega) _
    · have HV := Lib.hid hv
      clear hv
      go_wp2_with fail
      have hst := (D1.out.r.store 0 (.int .i64 0)).store 1 (.int .i64 0)
      have z0 := cellAt hst 0
      have z1 := cellAt hst 1
      simp at z0 z1
      refine bodyPost_ret (v := .tuple #[.agg #[.int .i64 0, .int .i64 0], .int .i64 1]) (by simp [results, Try.results16, go_sem, z0, z1]) rfl ⟨?_, .inr (.inr ⟨HV.out, rfl⟩)⟩
      exact (D1.out.wb.bel.setCell (by dsimp only; omega) _).setCell (by dsimp only; omega) _

set_option maxRecDepth 100000 in
set_option maxHeartbeats 4000000 in
theorem leftR_any (cr : Int) (sa ta : Option Addr) (sn sc tn tc : Nat) (S : Nat → Sm) (T : Nat → Tk) (s : Int) (w : World) (hS : SeamsAt w sa sn S) (hT : TicketsAt w ta tn T) (hc : Valid cr sn tn S T → countT T tn 0 ≤ 2000) :
    Calls Try.prog 18 #[.agg #[.int .i64 cr, .slice sa sn sc, .slice ta tn tc], .int .i64 s] w
      (Said w (Valid cr sn tn S T) (inB s 0 (sn - 1)) (.tuple #[.agg #[.int .i64 (manyOf S T (leastK (-1) T) tn s (-1)), .int .i64 (manyOf S T (mostK (-1) T) tn s (-1))], .int .i64 0]) (.tuple #[.agg #[.int .i64 0, .int .i64 0], .int .i64 2]) (.tuple #[.agg #[.int .i64 0, .int .i64 0], .int .i64 1])) := by
  have I0 := Lib.hid (DU.new (cr := cr) (sc := sc) (tc := tc) hS hT)
  have HC := Lib.hid hc
  have nsl := hS.small
  clear hS hT hc
  go_enter Try.func18, Try.ntmps18
  go_wp2_with fail
  generalize World.alloc _ _ = W0 at *
  go_cut [6] from 7 to 11 (fun v W => ∃ x b, v = .int .i64 x ∧ checkE (Valid cr sn tn S T) b x ∧ (1 ≤ cr ∧ cr ≤ 4 → b = inB s 0 (sn - 1)) ∧ DU w cr sa ta sn sc tn tc S T W)
  case first =>
    rename_i J1 K1 hJ hK1
    have HKK := Lib.hid (fun a' w' h => hK1 a' w' (Met.intro (hJ a' w' h)))
    clear hJ hK1
    go_light
    have P0 := Lib.hid (I0.out.grow (Below.drew (Below.refl _ _)))
    clear I0
    obtain ⟨q, hq⟩ : ∃ q, q = inB s 0 (sn - 1) := ⟨_, rfl⟩
    have CS := Lib.hid (fun W => hq ▸ seam_ref cr sa ta sn sc tn tc s W nsl)
    have HQ := Lib.hid hq
    rw [← hq] at HKK
    clear hq nsl
    refine wp_region_held_drew (S := (fun w' => w'.cell? ⟨w.heap.size, 0, none⟩ = some (.int .i64 cr) ∧ w'.cell? ⟨w.heap.size, 1, none⟩ = some (.slice sa sn sc) ∧ w'.cell? ⟨w.heap.size, 2, none⟩ = some (.slice ta tn tc))) (by kernel_rfl) (by exact (by have hm := P0.out.wb.box; exact ⟨cellAt hm 0, cellAt hm 1, cellAt hm 2⟩)) (fun hHeld => ?_)
    refine wpAnyH_take (i := 0) (oi := { dst := some 7, op := Op.load 25 (Operand.tmp 2), type := 25, pos := "ref.go:177", after := #[], guard := none }) (v := ?_) rfl (by kernel_rfl) (by kernel_rfl) (by kernel_rfl) (fun _ _ _ h => h) (Or.inl ⟨by rfl, ?_⟩) (by assumption) ?_
    rotate_left
    · (intro w9 hSw; (try dsimp only at hSw); (go_split_ands; go_simp); (try with_reducible rfl))
    try simp only [Act.put, List.setIfInBounds_toArray, List.set_cons_zero, List.set_cons_succ]
    refine wpAnyH_take (i := 1) (oi := { dst := some 8, op := Op.load 25 (Operand.tmp 2), type := 25, pos := "ref.go:177", after := #[], guard := none }) (v := ?_) rfl (by kernel_rfl) (by kernel_rfl) (by kernel_rfl) (fun _ _ _ h => h) (Or.inl ⟨by rfl, ?_⟩) (by assumption) ?_
    rotate_left
    · (intro w9 hSw; (try dsimp only at hSw); (go_split_ands; go_simp); (try with_reducible rfl))
    try simp only [Act.put, List.setIfInBounds_toArray, List.set_cons_zero, List.set_cons_succ]
    refine wpAnyH_take (i := 2) (oi := { dst := some 9, op := Op.move (Operand.tmp 1), type := 3, pos := "ref.go:177", after := #[], guard := none }) (v := ?_) rfl (by kernel_rfl) (by kernel_rfl) (by kernel_rfl) (fun _ _ _ h => h) (Or.inl ⟨by rfl, ?_⟩) (by assumption) ?_
    rotate_left
    · (intro w9 hSw; (try dsimp only at hSw); (go_split_ands; go_simp); (try with_reducible rfl))
    try simp only [Act.put, List.setIfInBounds_toArray, List.set_cons_zero, List.set_cons_succ]
    refine wpAnyH_ready (rs := [3]) (by kernel_rfl) (by simp) ?_
    refine AllReadyH.cons (o := { dst := some 10, op := Op.call { callee := Callee.value (Operand.func 52), args := #[Operand.tmp 8, Operand.tmp 9], argTypes := #[25, 3] }, type := 4, pos := "ref.go:177", after := #[{ on := 1, ground := Ground.data }, { on := 2, ground := Ground.data }], guard := none }) rfl (fun K hK => ?_) (AllReadyH.nil)
    clear hHeld
    go_simp
    refine (CS.out _).mono ?_; rintro e W1 ⟨rfl, hb1⟩
    have P1 := Lib.hid (P0.out.grow hb1)
    clear hb1
    go_wp2_with fail
    refine hK.out _ _ ?_ (fun hHeld => ?_)
    · exact (by have hm := P1.out.wb.box; exact ⟨cellAt hm 0, cellAt hm 1, cellAt hm 2⟩)
    clear hK K
    try simp only [Act.put, List.setIfInBounds_toArray, List.set_cons_zero, List.set_cons_succ]
    refine wpAnyH_ready (rs := [4]) (by kernel_rfl) (by simp) ?_
    refine AllReadyH.cons (o := { dst := some 11, op := Op.call { callee := Callee.value (Operand.func 51), args := #[Operand.tmp 7, Operand.tmp 10], argTypes := #[25, 4] }, type := 30, pos := "ref.go:177", after := #[{ on := 0, ground := Ground.data }, { on := 3, ground := Ground.data }, { on := 3, ground := Ground.chain }], guard := none }) rfl (fun K hK => ?_) (AllReadyH.nil)
    clear hHeld
    go_simp
    refine (check_any cr sa ta sn sc tn tc S T q _ P1.out.wb.ss P1.out.wb.tt).mono ?_; rintro e W2 ⟨x, rfl, hx, hb2⟩; have HX := Lib.hid hx; clear hx
    have P2 := Lib.hid (P1.out.grow hb2)
    clear hb2
    go_wp2_with fail
    refine hK.out _ _ ?_ (fun hHeld => ?_)
    · exact (by have hm := P2.out.wb.box; exact ⟨cellAt hm 0, cellAt hm 1, cellAt hm 2⟩)
    clear hK K
    try simp only [Act.put, List.setIfInBounds_toArray, List.set_cons_zero, List.set_cons_succ]
    refine wpAnyH_take (i := 5) (oi := { dst := some 6, op := Op.assign (Operand.tmp 11), type := 30, pos := "ref.go:177", after := #[{ on := 4, ground := Ground.data }, { on := 4, ground := Ground.chain }, { on := 0, ground := Ground.phase }, { on := 1, ground := Ground.phase }, { on := 2, ground := Ground.phase }, { on := 3, ground := Ground.phase }, { on := 4, ground := Ground.phase }], guard := none }) (v := ?_) rfl (by kernel_rfl) (by kernel_rfl) (by kernel_rfl) (fun _ _ _ h => h) (Or.inl ⟨by rfl, ?_⟩) (by assumption) ?_
    rotate_left
    · (intro w9 hSw; (try dsimp only at hSw); (go_split_ands; go_simp); (try with_reducible rfl))
    try simp only [Act.put, List.setIfInBounds_toArray, List.set_cons_zero, List.set_cons_succ]
    refine wpAnyH_done (by kernel_rfl) ?_ _
    refine HKK.out _ _ ?_
    (repeat apply Exists.intro)
    refine ⟨?_, rfl⟩
    exact ⟨_, _, rfl, HX.out, (fun _ => rfl), P2.out⟩
  case rest =>
    obtain ⟨x, b, rfl, hx, hbb, hd⟩ := hcut
    have D1 := Lib.hid hd
    have HBB := Lib.hid hbb
    clear hd hbb I0
    have r0 := cellAt D1.out.r 0
    have r1 := cellAt D1.out.r 1
    have f0 := freeAt D1.out.r 0
    have f1 := freeAt D1.out.r 1
    simp only [List.getElem?_toArray, List.getElem?_cons_zero, List.getElem?_cons_succ] at r0 r1
    rcases hx with ⟨hv, rfl, rfl⟩ | ⟨hv, rfl, rfl⟩ | ⟨hv, rfl⟩
    · clear r0 r1 f0 f1
      have HV := Lib.hid hv
      have hcr := And.intro hv.cr0 hv.cr1
      have HT := Lib.hid (HBB.out hcr)
      clear hv hcr
      have q0 := cellAt D1.out.wb.box 0
      have q1 := cellAt D1.out.wb.box 1
      have q2 := cellAt D1.out.wb.box 2
      simp only [List.getElem?_toArray, List.getElem?_cons_zero, List.getElem?_cons_succ] at q0 q1 q2
      have hs := inB_iff.1 (show inB s 0 (sn - 1) = true from HT.out.symm)
      obtain ⟨sN, eS⟩ : ∃ sN : Nat, s = sN := ⟨s.toNat, by omega⟩
      subst eS
      have CD := Lib.hid (show Calls Try.prog 54 _ _ (fun e w' => e = .returned (.agg #[.int .i64 (manyOf S T (leastK (-1) T) tn sN (-1)), .int .i64 (manyOf S T (mostK (-1) T) tn sN (-1))]) ∧ Below _ _ w') from by
        have h := manysR_any cr sa ta sn sc tn tc S T sN (-1) _ HV.out D1.out.wb.ss D1.out.wb.tt (by omega) (HC.out HV.out)
        rw [(many_span HV.out (sN : Int) (-1)).1, (many_span HV.out (sN : Int) (-1)).2] at h
        exact h)
      obtain ⟨lo, elo⟩ : ∃ lo, lo = manyOf S T (leastK (-1) T) tn sN (-1) := ⟨_, rfl⟩
      obtain ⟨hi, ehi⟩ : ∃ hi, hi = manyOf S T (mostK (-1) T) tn sN (-1) := ⟨_, rfl⟩
      rw [← elo, ← ehi] at CD
      have EL := Lib.hid elo
      have EH := Lib.hid ehi
      clear elo ehi hs
      go_wp2_with (go_at_call 54; refine CD.out.mono ?_)
      rintro e w2 ⟨rfl, hb2⟩
      have D2 := Lib.hid (D1.out.grow hb2)
      clear hb2 CD q0 q1 q2 D1
      have r0 := cellAt D2.out.r 0
      have r1 := cellAt D2.out.r 1
      have f0 := freeAt D2.out.r 0
      have f1 := freeAt D2.out.r 1
      simp only [List.getElem?_toArray, List.getElem?_cons_zero, List.getElem?_cons_succ] at r0 r1
      go_wp2_with fail
      have hst := (D2.out.r.store 0 (.int .i64 lo)).store 1 (.int .i64 hi)
      have z0 := cellAt hst 0
      have z1 := cellAt hst 1
      simp at z0 z1
      refine bodyPost_ret (v := .tuple #[.agg #[.int .i64 lo, .int .i64 hi], .int .i64 0]) (by simp [results, Try.results18, go_sem, z0, z1]) rfl ⟨?_, .inl ⟨HV.out, HT.out.symm, by rw [EL.out, EH.out]⟩⟩
      exact (D2.out.wb.bel.setCell (by dsimp only; omega) _).setCell (by dsimp only; omega) _
    · have HV := Lib.hid hv
      have hcr := And.intro hv.cr0 hv.cr1
      have HT := Lib.hid (HBB.out hcr)
      clear hv hcr
      go_wp2_with fail
      have hst := (D1.out.r.store 0 (.int .i64 0)).store 1 (.int .i64 0)
      have z0 := cellAt hst 0
      have z1 := cellAt hst 1
      simp at z0 z1
      refine bodyPost_ret (v := .tuple #[.agg #[.int .i64 0, .int .i64 0], .int .i64 2]) (by simp [results, Try.results18, go_sem, z0, z1]) rfl ⟨?_, .inr (.inl ⟨HV.out, HT.out.symm, rfl⟩)⟩
      exact (D1.out.wb.bel.setCell (by dsimp only; omega) _).setCell (by dsimp only; omega) _
    · have HV := Lib.hid hv
      clear hv
      go_wp2_with fail
      have hst := (D1.out.r.store 0 (.int .i64 0)).store 1 (.int .i64 0)
      have z0 := cellAt hst 0
      have z1 := cellAt hst 1
      simp at z0 z1
      refine bodyPost_ret (v := .tuple #[.agg #[.int .i64 0, .int .i64 0], .int .i64 1]) (by simp [results, Try.results18, go_sem, z0, z1]) rfl ⟨?_, .inr (.inr ⟨HV.out, rfl⟩)⟩
      exact (D1.out.wb.bel.setCell (by dsimp only; omega) _).setCell (by dsimp only; omega) _
end Go.Proofs.Ytbpeamppkdmdcaa
