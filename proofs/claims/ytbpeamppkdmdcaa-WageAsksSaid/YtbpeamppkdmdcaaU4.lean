/-
  Walks: how many coins, by the reference; whether a fathom is one.
-/
import Derived.Test.YtbpeamppkdmdcaaU3
import Derived.Test.YtbpeamppkdmdcaaY0
import Derived.Deep.CutRange
import Derived.StillTailTactics
namespace Go.Proofs.Ytbpeamppkdmdcaa
open Go.RowKit
attribute [local go_sem ↓] Go.wp_at_zero Go.wp_at_succ

set_option maxHeartbeats 4000000 in
theorem coinsR_any (cr : Int) (sa ta : Option Addr) (sn sc tn tc : Nat) (S : Nat → Sm) (T : Nat → Tk) (oa : Option Addr) (kc : Nat) (G : Nat → Kn) (c : Int) (w : World) (hv : Valid cr sn tn S T) (hS : SeamsAt w sa sn S) (hT : TicketsAt w ta tn T) (hK : KnAt w oa tn G) :
    Calls Try.prog 75 #[.agg #[.int .i64 cr, .slice sa sn sc, .slice ta tn tc], .slice oa tn kc, .int .i64 c] w
      fun e w' => e = .returned (.int .i64 (coinsOf S T G sn tn c)) ∧ Below w.heap.size w w' := by
  have I0 := Lib.hid (show KB w cr sa ta sn sc tn tc S T w.heap.size oa G _ from ⟨WB.new (cr := cr) (sc := sc) (tc := tc) hS hT, hK.grow (WB.new (cr := cr) (sc := sc) (tc := tc) hS hT).bel⟩)
  have HV := Lib.hid hv
  have hsn3 := hv.sn3
  have htn6 := hv.tn6
  clear hS hT hK hv
  go_enter Try.func75, Try.ntmps75
  go_wp2_with fail
  go_loopw [7, 8] (fun v i W => ∃ j : Nat, j ≤ sn ∧ i = .int .i64 j ∧ v = .int .i64 (coinsOf S T G j tn c) ∧ KB w cr sa ta sn sc tn tc S T w.heap.size oa G W) (fun _ i _ => sn - (intOf i).toNat)
  case atStart => exact ⟨0, Nat.zero_le _, rfl, rfl, I0.out⟩
  case round =>
    clear I0
    obtain ⟨j, hj, rfl, rfl, hinv⟩ := hrel
    have HI := Lib.hid hinv
    clear hinv
    have q1 := cellAt HI.out.wb.box 1
    simp only [List.getElem?_toArray, List.getElem?_cons_zero, List.getElem?_cons_succ] at q1
    have ha := coinsOf_bdY HV.out G c hj
    have hsu : coinsOf S T G (j + 1) tn c = coinsOf S T G j tn c + (manyOf S T G tn j c : Int) * (S j).rate := rfl
    obtain ⟨a, ea⟩ : ∃ a, a = coinsOf S T G j tn c := ⟨_, rfl⟩
    rw [← ea] at ha ⊢
    by_cases hlt : j < sn
    · have hft := HV.out.fat j hlt
      have hrt := HV.out.rate j hlt
      have hm := many_le (S := S) (T := T) (K := G) (tn := tn) (c := c) (s := j) hft.1
      obtain ⟨m, em⟩ : ∃ m, m = manyOf S T G tn j c := ⟨_, rfl⟩
      rw [← em] at hm
      rw [← em, ← ea] at hsu
      have htb := term_bdY (a := (m : Int)) (r := (S j).rate) (by omega) hrt
      obtain ⟨t, et⟩ : ∃ t, (m : Int) * (S j).rate = t := ⟨_, rfl⟩
      rw [et] at htb hsu
      have e1 : IntKind.i64.wrap ((m : Int) * (S j).rate) = t := by rw [et]; exact IntWalk.i64_in _ (by omega)
      have e2 : IntKind.i64.wrap (a + t) = a + t := IntWalk.i64_in _ (by omega)
      have HU := Lib.hid hsu
      have HM := Lib.hid em
      clear hsu em et htb hm ha ea
      have hi := fun w => run_indexAt_row (w := w) (cap := sc) Try.underlying22 size52 (HI.out.wb.ss.plain (by omega)) hlt
      go_wp2_with fail
      clear q1
      have P0 := Lib.hid (HI.out.grow (Below.drew (Below.refl _ _)))
      clear HI
      refine wp_region_held_drew (S := (fun w' => w'.cell? ⟨w.heap.size, 0, none⟩ = some (.int .i64 cr) ∧ w'.cell? ⟨w.heap.size, 1, none⟩ = some (.slice sa sn sc) ∧ w'.cell? ⟨w.heap.size, 2, none⟩ = some (.slice ta tn tc) ∧ w'.cell? ⟨blk sa, ofs sa + j * 2 + 1, none⟩ = some (.int .i64 (S j).rate))) (by kernel_rfl) (by exact (have hm := P0.out.wb; ⟨cellAt hm.box 0, cellAt hm.box 1, cellAt hm.box 2, (hm.ss.at hlt).2⟩)) (fun hHeld => ?_)
      refine wpAnyH_take (i := 0) (oi := { dst := some 16, op := Op.move (Operand.tmp 7), type := 3, pos := "ref.go:94", after := #[], guard := none }) (v := ?_) rfl (by kernel_rfl) (by kernel_rfl) (by kernel_rfl) (fun _ _ _ h => h) (Or.inl ⟨by rfl, ?_⟩) (by assumption) ?_
      rotate_left
      · (intro w9 hSw; (try dsimp only at hSw); (go_split_ands; go_simp); (try with_reducible rfl))
      try simp only [Act.put, List.setIfInBounds_toArray, List.set_cons_zero, List.set_cons_succ]
      refine wpAnyH_take (i := 1) (oi := { dst := some 17, op := Op.load 25 (Operand.tmp 3), type := 25, pos := "ref.go:94", after := #[], guard := none }) (v := ?_) rfl (by kernel_rfl) (by kernel_rfl) (by kernel_rfl) (fun _ _ _ h => h) (Or.inl ⟨by rfl, ?_⟩) (by assumption) ?_
      rotate_left
      · (intro w9 hSw; (try dsimp only at hSw); (go_split_ands; go_simp); (try with_reducible rfl))
      try simp only [Act.put, List.setIfInBounds_toArray, List.set_cons_zero, List.set_cons_succ]
      refine wpAnyH_take (i := 2) (oi := { dst := some 18, op := Op.move (Operand.tmp 1), type := 104, pos := "ref.go:94", after := #[], guard := none }) (v := ?_) rfl (by kernel_rfl) (by kernel_rfl) (by kernel_rfl) (fun _ _ _ h => h) (Or.inl ⟨by rfl, ?_⟩) (by assumption) ?_
      rotate_left
      · (intro w9 hSw; (try dsimp only at hSw); (go_split_ands; go_simp); (try with_reducible rfl))
      try simp only [Act.put, List.setIfInBounds_toArray, List.set_cons_zero, List.set_cons_succ]
      refine wpAnyH_take (i := 3) (oi := { dst := some 19, op := Op.move (Operand.tmp 8), type := 3, pos := "ref.go:94", after := #[], guard := none }) (v := ?_) rfl (by kernel_rfl) (by kernel_rfl) (by kernel_rfl) (fun _ _ _ h => h) (Or.inl ⟨by rfl, ?_⟩) (by assumption) ?_
      rotate_left
      · (intro w9 hSw; (try dsimp only at hSw); (go_split_ands; go_simp); (try with_reducible rfl))
      try simp only [Act.put, List.setIfInBounds_toArray, List.set_cons_zero, List.set_cons_succ]
      refine wpAnyH_take (i := 4) (oi := { dst := some 20, op := Op.move (Operand.tmp 2), type := 3, pos := "ref.go:94", after := #[], guard := none }) (v := ?_) rfl (by kernel_rfl) (by kernel_rfl) (by kernel_rfl) (fun _ _ _ h => h) (Or.inl ⟨by rfl, ?_⟩) (by assumption) ?_
      rotate_left
      · (intro w9 hSw; (try dsimp only at hSw); (go_split_ands; go_simp); (try with_reducible rfl))
      try simp only [Act.put, List.setIfInBounds_toArray, List.set_cons_zero, List.set_cons_succ]
      refine wpAnyH_take (i := 6) (oi := { dst := some 22, op := Op.fieldAddr 25 (Operand.tmp 3) 1, type := 0, pos := "ref.go:94", after := #[], guard := none }) (v := ?_) rfl (by kernel_rfl) (by kernel_rfl) (by kernel_rfl) (fun _ _ _ h => h) (Or.inl ⟨by rfl, ?_⟩) (by assumption) ?_
      rotate_left
      · (intro w9 hSw; (try dsimp only at hSw); (go_split_ands; go_simp); (try with_reducible rfl))
      try simp only [Act.put, List.setIfInBounds_toArray, List.set_cons_zero, List.set_cons_succ]
      refine wpAnyH_take (i := 7) (oi := { dst := some 23, op := Op.load 22 (Operand.tmp 22), type := 22, pos := "ref.go:94", after := #[{ on := 6, ground := Ground.data }], guard := none }) (v := ?_) rfl (by kernel_rfl) (by kernel_rfl) (by kernel_rfl) (fun _ _ _ h => h) (Or.inl ⟨by rfl, ?_⟩) (by assumption) ?_
      rotate_left
      · (intro w9 hSw; (try dsimp only at hSw); (go_split_ands; go_simp); (try with_reducible rfl))
      try simp only [Act.put, List.setIfInBounds_toArray, List.set_cons_zero, List.set_cons_succ]
      refine wpAnyH_take (i := 8) (oi := { dst := some 24, op := Op.move (Operand.tmp 8), type := 3, pos := "ref.go:94", after := #[], guard := none }) (v := ?_) rfl (by kernel_rfl) (by kernel_rfl) (by kernel_rfl) (fun _ _ _ h => h) (Or.inl ⟨by rfl, ?_⟩) (by assumption) ?_
      rotate_left
      · (intro w9 hSw; (try dsimp only at hSw); (go_split_ands; go_simp); (try with_reducible rfl))
      try simp only [Act.put, List.setIfInBounds_toArray, List.set_cons_zero, List.set_cons_succ]
      refine wpAnyH_take (i := 9) (oi := { dst := some 25, op := Op.indexAddr 22 (Operand.tmp 23) (Operand.tmp 24), type := 0, pos := "ref.go:94", after := #[{ on := 7, ground := Ground.data }, { on := 8, ground := Ground.data }], guard := none }) (v := ?_) rfl (by kernel_rfl) (by kernel_rfl) (by kernel_rfl) (fun _ _ _ h => h) (Or.inl ⟨by rfl, ?_⟩) (by assumption) ?_
      rotate_left
      · (intro w9 hSw; (try dsimp only at hSw); (go_split_ands; go_simp); (try with_reducible rfl))
      try simp only [Act.put, List.setIfInBounds_toArray, List.set_cons_zero, List.set_cons_succ]
      refine wpAnyH_take (i := 10) (oi := { dst := some 26, op := Op.fieldAddr 52 (Operand.tmp 25) 1, type := 0, pos := "ref.go:94", after := #[{ on := 9, ground := Ground.data }], guard := none }) (v := ?_) rfl (by kernel_rfl) (by kernel_rfl) (by kernel_rfl) (fun _ _ _ h => h) (Or.inl ⟨by rfl, ?_⟩) (by assumption) ?_
      rotate_left
      · (intro w9 hSw; (try dsimp only at hSw); (go_split_ands; go_simp); (try with_reducible rfl))
      try simp only [Act.put, List.setIfInBounds_toArray, List.set_cons_zero, List.set_cons_succ]
      refine wpAnyH_take (i := 11) (oi := { dst := some 27, op := Op.load 3 (Operand.tmp 26), type := 3, pos := "ref.go:94", after := #[{ on := 10, ground := Ground.data }], guard := none }) (v := ?_) rfl (by kernel_rfl) (by kernel_rfl) (by kernel_rfl) (fun _ _ _ h => h) (Or.inl ⟨by rfl, ?_⟩) (by assumption) ?_
      rotate_left
      · (intro w9 hSw; (try dsimp only at hSw); (go_split_ands; go_simp); (try with_reducible rfl))
      try simp only [Act.put, List.setIfInBounds_toArray, List.set_cons_zero, List.set_cons_succ]
      refine wpAnyH_ready (rs := [5]) (by kernel_rfl) (by simp) ?_
      refine AllReadyH.cons (o := { dst := some 21, op := Op.call { callee := Callee.value (Operand.func 94), args := #[Operand.tmp 17, Operand.tmp 18, Operand.tmp 19, Operand.tmp 20], argTypes := #[25, 104, 3, 3] }, type := 3, pos := "ref.go:94", after := #[{ on := 1, ground := Ground.data }, { on := 2, ground := Ground.data }, { on := 3, ground := Ground.data }, { on := 4, ground := Ground.data }], guard := none }) rfl (fun K hK => ?_) (AllReadyH.nil)
      clear hHeld
      go_simp
      refine (manyR_any cr sa ta sn sc tn tc S T oa kc G j c _ P0.out.wb.ss P0.out.wb.tt P0.out.k (by omega) hlt hft).mono ?_
      rw [← HM.out]
      rintro e W1 ⟨rfl, hb1⟩
      have P1 := Lib.hid (P0.out.grow hb1)
      clear hb1
      go_wp2_with fail
      refine hK.out _ _ ?_ (fun hHeld => ?_)
      · exact (have hm := P1.out.wb; ⟨cellAt hm.box 0, cellAt hm.box 1, cellAt hm.box 2, (hm.ss.at hlt).2⟩)
      clear hK K
      try simp only [Act.put, List.setIfInBounds_toArray, List.set_cons_zero, List.set_cons_succ]
      refine wpAnyH_take (i := 12) (oi := { dst := some 28, op := Op.binOp BinOp.mul 3 (Operand.tmp 21) (Operand.tmp 27) 3, type := 3, pos := "ref.go:94", after := #[{ on := 5, ground := Ground.data }, { on := 11, ground := Ground.data }], guard := none }) (v := ?_) rfl (by kernel_rfl) (by kernel_rfl) (by kernel_rfl) (fun _ _ _ h => h) (Or.inl ⟨by rfl, ?_⟩) (by assumption) ?_
      rotate_left
      · (intro w9 hSw; (try dsimp only at hSw); (go_split_ands; go_simp); (try with_reducible rfl))
      try simp only [Act.put, List.setIfInBounds_toArray, List.set_cons_zero, List.set_cons_succ]
      refine wpAnyH_take (i := 13) (oi := { dst := some 29, op := Op.binOp BinOp.add 3 (Operand.tmp 16) (Operand.tmp 28) 3, type := 3, pos := "ref.go:94", after := #[{ on := 0, ground := Ground.data }, { on := 12, ground := Ground.data }], guard := none }) (v := ?_) rfl (by kernel_rfl) (by kernel_rfl) (by kernel_rfl) (fun _ _ _ h => h) (Or.inl ⟨by rfl, ?_⟩) (by assumption) ?_
      rotate_left
      · (intro w9 hSw; (try dsimp only at hSw); (go_split_ands; go_simp); (try with_reducible rfl))
      try simp only [Act.put, List.setIfInBounds_toArray, List.set_cons_zero, List.set_cons_succ]
      refine wpAnyH_take (i := 14) (oi := { dst := some 7, op := Op.assign (Operand.tmp 29), type := 3, pos := "ref.go:94", after := #[{ on := 13, ground := Ground.data }, { on := 5, ground := Ground.chain }, { on := 0, ground := Ground.phase }, { on := 1, ground := Ground.phase }, { on := 2, ground := Ground.phase }, { on := 3, ground := Ground.phase }, { on := 4, ground := Ground.phase }, { on := 5, ground := Ground.phase }, { on := 6, ground := Ground.phase }, { on := 7, ground := Ground.phase }, { on := 8, ground := Ground.phase }, { on := 9, ground := Ground.phase }, { on := 10, ground := Ground.phase }, { on := 11, ground := Ground.phase }, { on := 12, ground := Ground.phase }, { on := 13, ground := Ground.phase }], guard := none }) (v := ?_) rfl (by kernel_rfl) (by kernel_rfl) (by kernel_rfl) (fun _ _ _ h => h) (Or.inl ⟨by rfl, ?_⟩) (by assumption) ?_
      rotate_left
      · (intro w9 hSw; (try dsimp only at hSw); (go_split_ands; go_simp); (try with_reducible rfl))
      try simp only [Act.put, List.setIfInBounds_toArray, List.set_cons_zero, List.set_cons_succ]
      refine wpAnyH_done (by kernel_rfl) ?_ _
      go_wp2_with fail
      exact ⟨⟨j + 1, hlt, by go_num, by rw [HU.out], P1.out⟩, by simp [intOf]; omega⟩
    · obtain rfl : sn = j := by omega
      go_wp2_with fail
      go_ret
      exact ⟨ret_int ea, HI.out.wb.bel⟩

set_option maxHeartbeats 2000000 in
theorem allR_any (cr : Nat) (sa ta : Option Addr) (sn sc tn tc : Nat) (S : Nat → Sm) (T : Nat → Tk) (oa : Option Addr) (kc : Nat) (G : Nat → Kn) (w : World) (hv : Valid cr sn tn S T) (hS : SeamsAt w sa sn S) (hT : TicketsAt w ta tn T) (hK : KnAt w oa tn G) :
    Calls Try.prog 71 #[.agg #[.int .i64 cr, .slice sa sn sc, .slice ta tn tc], .slice oa tn kc] w
      fun e w' => e = .returned (.int .i64 (sumF (fun c : Nat => coinsOf S T G sn tn c) cr)) ∧ Below w.heap.size w w' := by
  have I0 := Lib.hid (show KB w cr sa ta sn sc tn tc S T w.heap.size oa G _ from ⟨WB.new (cr := cr) (sc := sc) (tc := tc) hS hT, hK.grow (WB.new (cr := cr) (sc := sc) (tc := tc) hS hT).bel⟩)
  have HV := Lib.hid hv
  have hcr := hv.cr1
  clear hS hT hK hv
  go_enter Try.func71, Try.ntmps71
  go_wp2_with fail
  go_loopw [5, 6] (fun v i W => ∃ k : Nat, k ≤ cr ∧ i = .int .i64 k ∧ v = .int .i64 (sumF (fun c : Nat => coinsOf S T G sn tn c) k) ∧ KB w cr sa ta sn sc tn tc S T w.heap.size oa G W) (fun _ i _ => cr - (intOf i).toNat)
  case atStart => exact ⟨0, Nat.zero_le _, rfl, rfl, I0.out⟩
  case round =>
    clear I0
    obtain ⟨k, hk, rfl, rfl, hinv⟩ := hrel
    have HI := Lib.hid hinv
    clear hinv
    have q0 := cellAt HI.out.wb.box 0
    have q1 := cellAt HI.out.wb.box 1
    have q2 := cellAt HI.out.wb.box 2
    simp only [List.getElem?_toArray, List.getElem?_cons_zero, List.getElem?_cons_succ] at q0 q1 q2
    have hbd := sumF_bdMY (F := fun c : Nat => coinsOf S T G sn tn c) (M := 3000000) (fun i => coinsOf_bd HV.out G i) k
    have hsu : sumF (fun c : Nat => coinsOf S T G sn tn c) (k + 1) = sumF (fun c : Nat => coinsOf S T G sn tn c) k + coinsOf S T G sn tn k := rfl
    obtain ⟨a, ea⟩ : ∃ a, a = sumF (fun c : Nat => coinsOf S T G sn tn c) k := ⟨_, rfl⟩
    rw [← ea] at hbd hsu ⊢
    by_cases hlt : k < cr
    · have CC := Lib.hid (coinsR_any cr sa ta sn sc tn tc S T oa kc G k _ HV.out HI.out.wb.ss HI.out.wb.tt HI.out.k)
      have hb2 := coinsOf_bd HV.out G (k : Int)
      obtain ⟨x, ex⟩ : ∃ x, x = coinsOf S T G sn tn (k : Int) := ⟨_, rfl⟩
      rw [← ex] at CC hsu hb2
      have HU := Lib.hid hsu
      clear hsu ex ea
      go_wp2_with (go_at_call 75; refine CC.out.mono ?_; rintro e w1 ⟨rfl, hb1⟩; have H1 := Lib.hid (HI.out.grow hb1))
      exact ⟨⟨k + 1, hlt, by go_num, by rw [HU.out], H1.out⟩, by simp [intOf]; omega⟩
    · obtain rfl : cr = k := by omega
      go_wp2_with fail
      go_ret
      exact ⟨ret_int ea, HI.out.wb.bel⟩
end Go.Proofs.Ytbpeamppkdmdcaa
