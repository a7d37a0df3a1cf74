/-
  Walks: how many coins are due, and how many fathoms are left, by the reference.
-/
import Derived.Test.YtbpeamppkdmdcaaV1
import Derived.Deep.Light
namespace Go.Proofs.Ytbpeamppkdmdcaa
open Go.RowKit
attribute [local go_sem ↓] Go.wp_at_zero Go.wp_at_succ

def CrewPost (cr n : Int) (w : World) (e : Ending) (w' : World) : Prop := ∃ b, e = .returned (.bool b) ∧ (1 ≤ cr ∧ cr ≤ 4 → b = inB n 0 (cr - 1)) ∧ Below w.heap.size w w'
set_option maxHeartbeats 400000 in
theorem crewR_any (cr : Int) (sa ta : Option Addr) (sn sc tn tc : Nat) (n : Int) (w : World) :
    Calls Try.prog 53 #[.agg #[.int .i64 cr, .slice sa sn sc, .slice ta tn tc], .int .i64 n] w (CrewPost cr n w) := by
  by_cases h : 1 ≤ cr ∧ cr ≤ 4
  · obtain ⟨h1, h2⟩ := h
    go_enter Try.func53, Try.ntmps53
    go_wp2_with (go_at_call 88; refine (in_any _ _ _ _).mono ?_; rintro e w' ⟨rfl, rfl⟩)
    go_ret
    exact ⟨_, rfl, fun _ => rfl, (Below.refl _ _).alloc (Nat.le_refl _) _⟩
  · have H := Lib.hid h
    clear h
    go_enter Try.func53, Try.ntmps53
    go_wp2_with (go_at_call 88; refine (in_any _ _ _ _).mono ?_; rintro e w' ⟨rfl, rfl⟩)
    go_ret
    exact ⟨_, rfl, fun k => absurd k H.out, (Below.refl _ _).alloc (Nat.le_refl _) _⟩
/-- What holds while the checks run. -/
structure DU (w : World) (cr : Int) (sa ta : Option Addr) (sn sc tn tc : Nat) (S : Nat → Sm) (T : Nat → Tk) (W : World) : Prop where
  wb : WB w cr sa ta sn sc tn tc S T w.heap.size W
  r : BoxAt W (w.heap.size + 1) #[.int .i64 0, .int .i64 0] 29
theorem DU.grow {w : World} {cr : Int} {sa ta : Option Addr} {sn sc tn tc : Nat} {S : Nat → Sm} {T : Nat → Tk} {W W2 : World} (h : DU w cr sa ta sn sc tn tc S T W) (hb : Below W.heap.size W W2) : DU w cr sa ta sn sc tn tc S T W2 := ⟨h.wb.grow hb, h.r.grow hb⟩
theorem DU.new {w : World} {cr : Int} {sa ta : Option Addr} {sn sc tn tc : Nat} {S : Nat → Sm} {T : Nat → Tk} (hS : SeamsAt w sa sn S) (hT : TicketsAt w ta tn T) :
    DU w cr sa ta sn sc tn tc S T ((w.alloc (.cells #[.int .i64 cr, .slice sa sn sc, .slice ta tn tc] 25)).alloc (.cells #[.int .i64 0, .int .i64 0] 29)) := by
  have hr := heap_alloc_new (w.alloc (.cells #[.int .i64 cr, .slice sa sn sc, .slice ta tn tc] 25)) (.cells #[.int .i64 0, .int .i64 0] 29)
  rw [sizeAlloc] at hr
  exact ⟨(WB.new hS hT).grow (ba _ _), hr⟩
set_option maxRecDepth 100000 in
set_option maxHeartbeats 4000000 in
theorem dueR_any (cr : Int) (sa ta : Option Addr) (sn sc tn tc : Nat) (S : Nat → Sm) (T : Nat → Tk) (c : Int) (w : World) (hS : SeamsAt w sa sn S) (hT : TicketsAt w ta tn T) (hc : Valid cr sn tn S T → countT T tn 0 ≤ 2000) :
    Calls Try.prog 22 #[.agg #[.int .i64 cr, .slice sa sn sc, .slice ta tn tc], .int .i64 c] w
      (Said w (Valid cr sn tn S T) (inB c 0 (cr - 1)) (.tuple #[.agg #[.int .i64 (coinsOf S T (leastK c T) sn tn c), .int .i64 (coinsOf S T (mostK c T) sn tn c)], .int .i64 0]) (.tuple #[.agg #[.int .i64 0, .int .i64 0], .int .i64 2]) (.tuple #[.agg #[.int .i64 0, .int .i64 0], .int .i64 1])) := by
  have I0 := Lib.hid (DU.new (cr := cr) (sc := sc) (tc := tc) hS hT)
  have HC := Lib.hid hc
  clear hS hT hc
  go_enter Try.func22, Try.ntmps22
  go_wp2_with fail
  generalize World.alloc _ _ = W0 at *
  go_cut [6] from 7 to 11 (fun v W => ∃ x b, v = .int .i64 x ∧ checkE (Valid cr sn tn S T) b x ∧ (1 ≤ cr ∧ cr ≤ 4 → b = inB c 0 (cr - 1)) ∧ DU w cr sa ta sn sc tn tc S T W)
  case first =>
    rename_i J1 K1 hJ hK1
    have HKK := Lib.hid (fun a' w' h => hK1 a' w' (Met.intro (hJ a' w' h)))
    clear hJ hK1
    go_light
    have P0 := Lib.hid (I0.out.grow (Below.drew (Below.refl _ _)))
    clear I0
    refine wp_region_held_drew (S := (fun w' => w'.cell? ⟨w.heap.size, 0, none⟩ = some (.int .i64 cr) ∧ w'.cell? ⟨w.heap.size, 1, none⟩ = some (.slice sa sn sc) ∧ w'.cell? ⟨w.heap.size, 2, none⟩ = some (.slice ta tn tc))) (by kernel_rfl) (by exact (by have hm := P0.out.wb.box; exact ⟨cellAt hm 0, cellAt hm 1, cellAt hm 2⟩)) (fun hHeld => ?_)
    refine wpAnyH_take (i := 0) (oi := { dst := some 7, op := Op.load 25 (Operand.tmp 2), type := 25, pos := "ref.go:196", after := #[], guard := none }) (v := ?_) rfl (by kernel_rfl) (by kernel_rfl) (by kernel_rfl) (fun _ _ _ h => h) (Or.inl ⟨by rfl, ?_⟩) (by assumption) ?_
    rotate_left
    · (intro w9 hSw; (try dsimp only at hSw); (go_split_ands; go_simp); (try with_reducible rfl))
    try simp only [Act.put, List.setIfInBounds_toArray, List.set_cons_zero, List.set_cons_succ]
    refine wpAnyH_take (i := 1) (oi := { dst := some 8, op := Op.load 25 (Operand.tmp 2), type := 25, pos := "ref.go:196", after := #[], guard := none }) (v := ?_) rfl (by kernel_rfl) (by kernel_rfl) (by kernel_rfl) (fun _ _ _ h => h) (Or.inl ⟨by rfl, ?_⟩) (by assumption) ?_
    rotate_left
    · (intro w9 hSw; (try dsimp only at hSw); (go_split_ands; go_simp); (try with_reducible rfl))
    try simp only [Act.put, List.setIfInBounds_toArray, List.set_cons_zero, List.set_cons_succ]
    refine wpAnyH_take (i := 2) (oi := { dst := some 9, op := Op.move (Operand.tmp 1), type := 3, pos := "ref.go:196", after := #[], guard := none }) (v := ?_) rfl (by kernel_rfl) (by kernel_rfl) (by kernel_rfl) (fun _ _ _ h => h) (Or.inl ⟨by rfl, ?_⟩) (by assumption) ?_
    rotate_left
    · (intro w9 hSw; (try dsimp only at hSw); (go_split_ands; go_simp); (try with_reducible rfl))
    try simp only [Act.put, List.setIfInBounds_toArray, List.set_cons_zero, List.set_cons_succ]
    refine wpAnyH_ready (rs := [3]) (by kernel_rfl) (by simp) ?_
    refine AllReadyH.cons (o := { dst := some 10, op := Op.call { callee := Callee.value (Operand.func 53), args := #[Operand.tmp 8, Operand.tmp 9], argTypes := #[25, 3] }, type := 4, pos := "ref.go:196", after := #[{ on := 1, ground := Ground.data }, { on := 2, ground := Ground.data }], guard := none }) rfl (fun K hK => ?_) (AllReadyH.nil)
    clear hHeld
    go_simp
    refine (crewR_any cr sa ta sn sc tn tc c _).mono ?_
    rintro e W1 ⟨b, rfl, hbb, hb1⟩
    have P1 := Lib.hid (P0.out.grow hb1)
    have HBB := Lib.hid hbb
    clear hb1 hbb
    go_wp2_with fail
    refine hK.out _ _ ?_ (fun hHeld => ?_)
    · exact (by have hm := P1.out.wb.box; exact ⟨cellAt hm 0, cellAt hm 1, cellAt hm 2⟩)
    clear hK K
    try simp only [Act.put, List.setIfInBounds_toArray, List.set_cons_zero, List.set_cons_succ]
    refine wpAnyH_ready (rs := [4]) (by kernel_rfl) (by simp) ?_
    refine AllReadyH.cons (o := { dst := some 11, op := Op.call { callee := Callee.value (Operand.func 51), args := #[Operand.tmp 7, Operand.tmp 10], argTypes := #[25, 4] }, type := 30, pos := "ref.go:196", after := #[{ on := 0, ground := Ground.data }, { on := 3, ground := Ground.data }, { on := 3, ground := Ground.chain }], guard := none }) rfl (fun K hK => ?_) (AllReadyH.nil)
    clear hHeld
    go_simp
    refine (check_any cr sa ta sn sc tn tc S T b _ P1.out.wb.ss P1.out.wb.tt).mono ?_
    rintro e W2 ⟨x, rfl, hx, hb2⟩
    have P2 := Lib.hid (P1.out.grow hb2)
    have HX := Lib.hid hx
    clear hb2 hx
    go_wp2_with fail
    refine hK.out _ _ ?_ (fun hHeld => ?_)
    · exact (by have hm := P2.out.wb.box; exact ⟨cellAt hm 0, cellAt hm 1, cellAt hm 2⟩)
    clear hK K
    try simp only [Act.put, List.setIfInBounds_toArray, List.set_cons_zero, List.set_cons_succ]
    refine wpAnyH_take (i := 5) (oi := { dst := some 6, op := Op.assign (Operand.tmp 11), type := 30, pos := "ref.go:196", after := #[{ on := 4, ground := Ground.data }, { on := 4, ground := Ground.chain }, { on := 0, ground := Ground.phase }, { on := 1, ground := Ground.phase }, { on := 2, ground := Ground.phase }, { on := 3, ground := Ground.phase }, { on := 4, ground := Ground.phase }], guard := none }) (v := ?_) rfl (by kernel_rfl) (by kernel_rfl) (by kernel_rfl) (fun _ _ _ h => h) (Or.inl ⟨by rfl, ?_⟩) (by assumption) ?_
    rotate_left
    · (intro w9 hSw; (try dsimp only at hSw); (go_split_ands; go_simp); (try with_reducible rfl))
    try simp only [Act.put, List.setIfInBounds_toArray, List.set_cons_zero, List.set_cons_succ]
    refine wpAnyH_done (by kernel_rfl) ?_ _
    refine HKK.out _ _ ?_
    (repeat apply Exists.intro)
    refine ⟨?_, rfl⟩
    exact ⟨_, _, rfl, HX.out, HBB.out, P2.out⟩
  case rest =>
    obtain ⟨x, b, rfl, hx, hbb, hd⟩ := hcut
    have D1 := Lib.hid hd
    have HBB := Lib.hid hbb
    clear hd hbb I0
    have r0 := cellAt D1.out.r 0
    have r1 := cellAt D1.out.r 1
    have f0 := freeAt D1.out.r 0
    have f1 := freeAt D1.out.r 1
    simp only [List.getElem?_toArray, List.getElem?_cons_zero, List.getElem?_cons_succ] at r0 r1
    rcases hx with ⟨hv, rfl, rfl⟩ | ⟨hv, rfl, rfl⟩ | ⟨hv, rfl⟩
    · clear r0 r1 f0 f1
      have HV := Lib.hid hv
      have hcr := And.intro hv.cr0 hv.cr1
      have HT := Lib.hid (HBB.out hcr)
      clear hv hcr
      have q0 := cellAt D1.out.wb.box 0
      have q1 := cellAt D1.out.wb.box 1
      have q2 := cellAt D1.out.wb.box 2
      simp only [List.getElem?_toArray, List.getElem?_cons_zero, List.getElem?_cons_succ] at q0 q1 q2
      have CD := Lib.hid (show Calls Try.prog 68 _ _ (fun e w' => e = .returned (.agg #[.int .i64 (coinsOf S T (leastK c T) sn tn c), .int .i64 (coinsOf S T (mostK c T) sn tn c)]) ∧ Below _ _ w') from by
        have h := duesR_any cr sa ta sn sc tn tc S T c _ HV.out D1.out.wb.ss D1.out.wb.tt (HC.out HV.out)
        rw [(coins_span HV.out c).1, (coins_span HV.out c).2] at h
        exact h)
      obtain ⟨lo, elo⟩ : ∃ lo, lo = coinsOf S T (leastK c T) sn tn c := ⟨_, rfl⟩
      obtain ⟨hi, ehi⟩ : ∃ hi, hi = coinsOf S T (mostK c T) sn tn c := ⟨_, rfl⟩
      rw [← elo, ← ehi] at CD
      have EL := Lib.hid elo
      have EH := Lib.hid ehi
      clear elo ehi
      go_wp2_with (go_at_call 68; refine CD.out.mono ?_)
      rintro e w2 ⟨rfl, hb2⟩
      have D2 := Lib.hid (D1.out.grow hb2)
      clear hb2 CD q0 q1 q2 D1
      have r0 := cellAt D2.out.r 0
      have r1 := cellAt D2.out.r 1
      have f0 := freeAt D2.out.r 0
      have f1 := freeAt D2.out.r 1
      simp only [List.getElem?_toArray, List.getElem?_cons_zero, List.getElem?_cons_succ] at r0 r1
      go_wp2_with fail
      have hst := (D2.out.r.store 0 (.int .i64 lo)).store 1 (.int .i64 hi)
      have z0 := cellAt hst 0
      have z1 := cellAt hst 1
      simp at z0 z1
      refine bodyPost_ret (v := .tuple #[.agg #[.int .i64 lo, .int .i64 hi], .int .i64 0]) (by simp [results, Try.results22, go_sem, z0, z1]) rfl ⟨?_, .inl ⟨HV.out, HT.out.symm, by rw [EL.out, EH.out]⟩⟩
      exact (D2.out.wb.bel.setCell (by dsimp only; omega) _).setCell (by dsimp only; omega) _
    · have HV := Lib.hid hv
      have hcr := And.intro hv.cr0 hv.cr1
      have HT := Lib.hid (HBB.out hcr)
      clear hv hcr
      go_wp2_with fail
      have hst := (D1.out.r.store 0 (.int .i64 0)).store 1 (.int .i64 0)
      have z0 := cellAt hst 0
      have z1 := cellAt hst 1
      simp at z0 z1
      refine bodyPost_ret (v := .tuple #[.agg #[.int .i64 0, .int .i64 0], .int .i64 2]) (by simp [results, Try.results22, go_sem, z0, z1]) rfl ⟨?_, .inr (.inl ⟨HV.out, HT.out.symm, rfl⟩)⟩
      exact (D1.out.wb.bel.setCell (by dsimp only; omega) _).setCell (by dsimp only; omega) _
    · have HV := Lib.hid hv
      clear hv
      go_wp2_with fail
      have hst := (D1.out.r.store 0 (.int .i64 0)).store 1 (.int .i64 0)
      have z0 := cellAt hst 0
      have z1 := cellAt hst 1
      simp at z0 z1
      refine bodyPost_ret (v := .tuple #[.agg #[.int .i64 0, .int .i64 0], .int .i64 1]) (by simp [results, Try.results22, go_sem, z0, z1]) rfl ⟨?_, .inr (.inr ⟨HV.out, rfl⟩)⟩
      exact (D1.out.wb.bel.setCell (by dsimp only; omega) _).setCell (by dsimp only; omega) _
end Go.Proofs.Ytbpeamppkdmdcaa
