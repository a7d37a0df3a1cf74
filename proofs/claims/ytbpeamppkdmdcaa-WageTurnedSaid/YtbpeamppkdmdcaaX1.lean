/-
  Walks: the law of crews and seams that are numbered otherwise, and tickets that are told the other way round.
-/
import Derived.Test.YtbpeamppkdmdcaaG10
import Derived.Test.YtbpeamppkdmdcaaP8
import Derived.Test.YtbpeamppkdmdcaaQ0
import Derived.Test.YtbpeamppkdmdcaaN0
import Derived.Test.YtbpeamppkdmdcaaN3
import Derived.Test.YtbpeamppkdmdcaaE2
import Derived.Test.YtbpeamppkdmdcaaT2
import Derived.Test.YtbpeamppkdmdcaaQ1
import Derived.Deep.CutRange
import Derived.Deep.Light
import Derived.Deep.QuietTactic
import Derived.BigQuiet
namespace Go.Proofs.Ytbpeamppkdmdcaa
open Go.RowKit

section
variable {w W W2 : World} {n : Int} {sa ta : Option Addr} {sn sc tn tc : Nat} {S : Nat → Sm} {T : Nat → Tk} {D : List Nat}
theorem WB.out (h : WB w n sa ta sn sc tn tc S T w.heap.size W) (ho : Out D W W2) (hD : ∀ d ∈ D, w.heap.size < d) (hs : 0 < sn → blk sa < w.heap.size) (ht : 0 < tn → blk ta < w.heap.size) : WB w n sa ta sn sc tn tc S T w.heap.size W2 :=
  ⟨h.bel.trans (ho.to_below (fun d hd => by have := hD d hd; omega) h.bel.size), h.box.out ho (fun e => by have := hD _ e; omega), Row.out h.ss ho (fun hn e => by have := hD _ e; have := hs hn; omega), Row.out h.tt ho (fun hn e => by have := hD _ e; have := ht hn; omega)⟩
end
theorem same_any (n kcap g3 gk : Nat) (F : Nat → Int) (w : World) (h1 : IntsAt w (some ⟨g3, 0, none⟩) n F) (h2 : IntsAt w (some ⟨gk, 0, none⟩) n F) :
    Calls Try.prog 27 #[.slice (some ⟨g3, 0, none⟩) n n, .slice (some ⟨gk, 0, none⟩) n kcap] w fun e w' => e = .returned (.bool true) ∧ Below w.heap.size w w' :=
  (ints_any (some ⟨g3, 0, none⟩) (some ⟨gk, 0, none⟩) n n n kcap F F w h1 h2).mono fun e w' h => ⟨by rw [h.1, intsEq_same], h.2⟩
theorem turn_at {n sn tn i j : Nat} {S : Nat → Sm} {T : Nat → Tk} {K : Nat → Kn} (hj : (n : Int) - 1 - i = j) (_hi : i < n) : coinsOf (turnS S sn) (turnT T n sn) K sn tn (j : Int) = coinsOf S T K sn tn (i : Int) := by
  rw [← hj]
  exact turn_coins K (by omega) (by omega)
/-- What is left of the three wages behind the loops. -/
structure TD (w : World) (n : Int) (sa ta : Option Addr) (sn sc tn tc : Nat) (S : Nat → Sm) (T : Nat → Tk) (bx bb : Nat) (sx : Option Addr) (sxc : Nat) (tx : Option Addr) (txc : Nat) (ub : Option Addr) (ubc kp : Nat) (W : World) : Prop where
  wb : WB w n sa ta sn sc tn tc S T w.heap.size W
  x : BoxAt W bx #[.int .i64 n, .slice sx sn sxc, .slice tx tn txc] 25
  b : BoxAt W bb #[.int .i64 n, .slice sa sn sc, .slice ub tn ubc] 25
  ss : SeamsAt W sx sn (turnS S sn)
  xt : TicketsAt W tx tn (turnT T n sn)
  bt : TicketsAt W ub tn (backT T tn)
  kt : TicketsAt W (some ⟨kp, 0, none⟩) tn T
theorem TD.grow {w : World} {n : Int} {sa ta : Option Addr} {sn sc tn tc : Nat} {S : Nat → Sm} {T : Nat → Tk} {bx bb : Nat} {sx : Option Addr} {sxc : Nat} {tx : Option Addr} {txc : Nat} {ub : Option Addr} {ubc kp : Nat} {W W2 : World}
    (h : TD w n sa ta sn sc tn tc S T bx bb sx sxc tx txc ub ubc kp W) (hb : Below W.heap.size W W2) : TD w n sa ta sn sc tn tc S T bx bb sx sxc tx txc ub ubc kp W2 :=
  ⟨h.wb.grow hb, h.x.grow hb, h.b.grow hb, h.ss.grow hb, h.xt.grow hb, h.bt.grow hb, h.kt.grow hb⟩
theorem tieB_eq {T : Nat → Tk} {k j : Nat} {b1 b2 b3 b4 : Bool} (k1 : ((T j).crew != (T k).crew) = b1) (k2 : ((T j).seam == (T k).seam) = b2) (k3 : decide ((if (T j).fl < (T k).fl then (T k).fl else (T j).fl) < (if (T k).th < (T j).th then (T k).th else (T j).th)) = b3) (k4 : decide ((if (T j).dl < (T k).dl then (T k).dl else (T j).dl) ≤ (if (T k).dh < (T j).dh then (T k).dh else (T j).dh)) = b4) : tieB T k j = (b1 && b2 && b3 && b4) := by
  subst k1 k2 k3 k4
  unfold tieB
  have e1 : decide ((T j).crew ≠ (T k).crew) = ((T j).crew != (T k).crew) := by rw [Bool.eq_iff_iff, decide_eq_true_iff, bne_iff_ne]
  have e2 : decide ((T j).seam = (T k).seam) = ((T j).seam == (T k).seam) := by rw [Bool.eq_iff_iff, decide_eq_true_iff, beq_iff_eq]
  rw [e1, e2]
  congr 1
  · congr 1
    exact decide_eq_decide.2 (by split <;> split <;> omega)
  · exact decide_eq_decide.2 (by split <;> split <;> omega)
theorem tkX {W : World} {b : Nat} {t : Tk} {ty : TypeId} (h : BoxAt W b (tkCells t) ty) : W.cell? ⟨b, 0, none⟩ = some (.int .i64 t.crew) ∧ W.cell? ⟨b, 1, none⟩ = some (.int .i64 t.seam) ∧ W.cell? ⟨b, 2, none⟩ = some (.int .i64 t.fl) ∧ W.cell? ⟨b, 3, none⟩ = some (.int .i64 t.fh) ∧ W.cell? ⟨b, 4, none⟩ = some (.int .i64 t.tl) ∧ W.cell? ⟨b, 5, none⟩ = some (.int .i64 t.th) ∧ W.cell? ⟨b, 6, none⟩ = some (.int .i64 t.dl) ∧ W.cell? ⟨b, 7, none⟩ = some (.int .i64 t.dh) :=
  ⟨cellAt h 0, cellAt h 1, cellAt h 2, cellAt h 3, cellAt h 4, cellAt h 5, cellAt h 6, cellAt h 7⟩
theorem wgX {W : World} {b : Nat} {cr : Int} {sa ta : Option Addr} {sn sc tn tc : Nat} {ty : TypeId} (h : BoxAt W b #[.int .i64 cr, .slice sa sn sc, .slice ta tn tc] ty) : W.cell? ⟨b, 0, none⟩ = some (.int .i64 cr) ∧ W.cell? ⟨b, 1, none⟩ = some (.slice sa sn sc) ∧ W.cell? ⟨b, 2, none⟩ = some (.slice ta tn tc) := ⟨cellAt h 0, cellAt h 1, cellAt h 2⟩
theorem seam_vals (s : Sm) : s.cells = #[.int .i64 s.fat, .int .i64 s.rate] := rfl
theorem i64_nat {x : Int} {j : Nat} (h : x = j) (hj : j ≤ 1000000) : IntKind.i64.wrap x = j := by subst h; exact IntWalk.i64_in _ (by omega)

set_option maxRecDepth 100000 in
set_option maxHeartbeats 100000000 in
theorem turned_law (cr : Int) (sa ta : Option Addr) (sn sc tn tc : Nat) (S : Nat → Sm) (T : Nat → Tk) (oa : Option Addr) (bn bc : Nat) (bys : Nat → Int) (w : World) (hS : SeamsAt w sa sn S) (hT : TicketsAt w ta tn T) (hcap : tn ≤ tc) (hU : U16At w oa bn bys) (hbd : ∀ i, i < bn → 0 ≤ bys i ∧ bys i ≤ 65535) :
    Calls Try.prog 12 #[.agg #[.int .i64 cr, .slice sa sn sc, .slice ta tn tc], .slice oa bn bc] w fun e w' => e = .returned (.bool true) ∧ Below w.heap.size w w' := by
  have I0 := Lib.hid (WB.new (cr := cr) (sc := sc) (tc := tc) hS hT)
  have HU := Lib.hid hU
  have HBD := Lib.hid hbd
  have HSL := Lib.hid hS.old
  have HTL := Lib.hid hT.old
  have q0 := cellAt I0.out.box 0
  have q1 := cellAt I0.out.box 1
  have q2 := cellAt I0.out.box 2
  simp only [List.getElem?_toArray, List.getElem?_cons_zero, List.getElem?_cons_succ] at q0 q1 q2
  clear hS hT hU hbd
  go_enter Try.func12, Try.ntmps12
  go_wp2_with (go_at_call 32; refine (fine_any cr sa ta sn sc tn tc S T _ I0.out.ss I0.out.tt).mono ?_)
  rintro e w1 ⟨b, rfl, hbv, hb1⟩
  have I1 := Lib.hid (I0.out.grow hb1)
  clear I0 hb1 q0 q1 q2
  cases b with
  | false =>
    clear hbv
    go_wp2_with (go_at_call 14; refine (awake_any _).mono ?_; rintro e w2 ⟨rfl, hb2⟩; have HB := Lib.hid (I1.out.bel.next hb2))
    exact bodyPost_ret (v := .bool true) (by simp [results, Try.results12, go_sem]) rfl ⟨rfl, HB.out⟩
  | true =>
    have HV := Lib.hid (hbv.1 rfl)
    clear hbv
    obtain ⟨n, rfl⟩ : ∃ n : Nat, cr = n := ⟨cr.toNat, by have := HV.out.cr0; omega⟩
    have hcr : 1 ≤ n ∧ n ≤ 4 := by have := HV.out.cr0; have := HV.out.cr1; omega
    have hsn3 := HV.out.sn3
    have htn6 := HV.out.tn6
    go_wp2_with fail
    go_cut [5, 6] from 53 to 58 (fun v u W => v = .int .i64 tn ∧ u = .int .i64 sn ∧ WB w n sa ta sn sc tn tc S T w.heap.size W)
    case first =>
      have q1 := cellAt I1.out.box 1
      have q2 := cellAt I1.out.box 2
      simp only [List.getElem?_toArray, List.getElem?_cons_zero, List.getElem?_cons_succ] at q1 q2
      go_quiet (fail)
      go_wp2_with fail
      go_meet
      case rel => exact ⟨rfl, rfl, I1.out.grow (below_drewN (Below.refl _ _) _)⟩
    case rest =>
      obtain ⟨rfl, rfl, hm⟩ := hcut
      clear I1
      have I2 := Lib.hid hm
      clear hm
      go_wp2_with fail
      go_cut [7, 8] from 59 to 60 (fun v u W => ∃ bx bb, v = bp bx ∧ u = bp bb ∧ w.heap.size < bx ∧ w.heap.size < bb ∧ bx ≠ bb ∧ BoxAt W bx #[.int .i64 n, .slice sa sn sc, .slice ta tn tc] 25 ∧ BoxAt W bb #[.int .i64 n, .slice sa sn sc, .slice ta tn tc] 25 ∧ WB w n sa ta sn sc tn tc S T w.heap.size W)
      case first =>
        rename_i J1 K1 hJ hK1
        have HKK := Lib.hid (fun a' w' h => hK1 a' w' (Met.intro (hJ a' w' h)))
        clear hJ hK1
        go_light
        have I3 := Lib.hid (I2.out.grow (Below.drew (Below.refl _ _)))
        clear I2
        refine wp_region_held_drew (S := (fun w' => w'.cell? ⟨w.heap.size, 0, none⟩ = some (.int .i64 n) ∧ w'.cell? ⟨w.heap.size, 1, none⟩ = some (.slice sa sn sc) ∧ w'.cell? ⟨w.heap.size, 2, none⟩ = some (.slice ta tn tc))) (by kernel_rfl) (by exact (have hm := I3.out; ⟨cellAt hm.box 0, cellAt hm.box 1, cellAt hm.box 2⟩)) (fun hHeld => ?_)
        generalize World.drew wc = WW7 at *
        have V0 := Lib.hid (Below.refl WW7.heap.size WW7)
        refine wpAnyH_take (i := 0) (oi := { dst := some 59, op := Op.load 25 (Operand.tmp 2), type := 25, pos := "outright.go:352", after := #[], guard := none }) (v := ?_) rfl (by kernel_rfl) (by kernel_rfl) (by kernel_rfl) (fun _ _ _ h => h) (Or.inl ⟨by rfl, ?_⟩) (by assumption) ?_
        rotate_left
        · (intro w9 hSw; (try dsimp only at hSw); (go_split_ands; go_simp); (try with_reducible rfl))
        try simp only [Act.put, List.setIfInBounds_toArray, List.set_cons_zero, List.set_cons_succ]
        refine wpAnyH_take (i := 1) (oi := { dst := some 60, op := Op.load 25 (Operand.tmp 2), type := 25, pos := "outright.go:352", after := #[{ on := 4, ground := Ground.gcOnly Departure.lateStores }], guard := none }) (v := ?_) rfl (by kernel_rfl) (by kernel_rfl) (by kernel_rfl) (fun _ _ _ h => h) (Or.inl ⟨by rfl, ?_⟩) (by assumption) ?_
        rotate_left
        · (intro w9 hSw; (try dsimp only at hSw); (go_split_ands; go_simp); (try with_reducible rfl))
        try simp only [Act.put, List.setIfInBounds_toArray, List.set_cons_zero, List.set_cons_succ]
        refine wpAnyH_ready (rs := [2, 3]) (by kernel_rfl) (by simp) ?_
        refine AllReadyH.cons (o := { dst := some 7, op := Op.alloc 25, type := 0, pos := "outright.go:352", after := #[], guard := none }) rfl (fun K hK => ?_) (AllReadyH.cons (o := { dst := some 8, op := Op.alloc 25, type := 0, pos := "outright.go:352", after := #[], guard := none }) rfl (fun K hK => ?_) (AllReadyH.nil))
        · clear hHeld
          go_simp
          go_wp2_with fail
          generalize hW : World.alloc _ _ = w1c at *
          obtain ⟨n1, s1, b1⟩ := blocks1 hW
          have l1 := V0.out.size
          have d1 : WW7.heap.size < w1c.heap.size := by omega
          have V1 := Lib.hid (V0.out.next b1)
          have A1 := Lib.hid (show BoxAt w1c WW7.heap.size #[.int .i64 0, .slice none 0 0, .slice none 0 0] 25 from n1)
          clear n1 s1 b1 hW
          refine hK.out _ _ ?_ (fun hHeld => ?_)
          · exact (have hm := I3.out.grow V1.out; ⟨cellAt hm.box 0, cellAt hm.box 1, cellAt hm.box 2⟩)
          clear hK K
          try simp only [Act.put, List.setIfInBounds_toArray, List.set_cons_zero, List.set_cons_succ]
          refine wpAnyH_ready (rs := [3]) (by kernel_rfl) (by simp) ?_
          refine AllReadyH.cons (o := { dst := some 8, op := Op.alloc 25, type := 0, pos := "outright.go:352", after := #[], guard := none }) rfl (fun K hK => ?_) (AllReadyH.nil)
          clear hHeld
          go_simp
          go_wp2_with fail
          generalize hW : World.alloc _ _ = w2c at *
          obtain ⟨n2, s2, b2⟩ := blocks1 hW
          have l2 := V1.out.size
          have d2 : w1c.heap.size < w2c.heap.size := by omega
          have V2 := Lib.hid (V1.out.next b2)
          have A2 := Lib.hid (BoxAt.grow A1.out b2)
          have B2 := Lib.hid (show BoxAt w2c w1c.heap.size #[.int .i64 0, .slice none 0 0, .slice none 0 0] 25 from n2)
          clear n2 s2 b2 hW
          refine hK.out _ _ ?_ (fun hHeld => ?_)
          · exact (have hm := I3.out.grow V2.out; ⟨cellAt hm.box 0, cellAt hm.box 1, cellAt hm.box 2⟩)
          clear hK K
          try simp only [Act.put, List.setIfInBounds_toArray, List.set_cons_zero, List.set_cons_succ]
          refine wpAnyH_ready (rs := [4]) (by kernel_rfl) (by simp) ?_
          refine AllReadyH.cons (o := { dst := none, op := Op.store 25 (Operand.tmp 7) (Operand.tmp 59), type := 0, pos := "outright.go:352", after := #[{ on := 2, ground := Ground.data }, { on := 0, ground := Ground.data }, { on := 0, ground := Ground.phase }, { on := 1, ground := Ground.textOnly Departure.lateStores }, { on := 2, ground := Ground.phase }, { on := 3, ground := Ground.phase }], guard := none }) rfl (fun K hK => ?_) (AllReadyH.nil)
          clear hHeld
          have f0 := freeAt A2.out 0
          have f1 := freeAt A2.out 1
          have f2 := freeAt A2.out 2
          have c0 := cellAt A2.out 0
          have c1 := cellAt A2.out 1
          have c2 := cellAt A2.out 2
          simp only [List.getElem?_toArray, List.getElem?_cons_zero, List.getElem?_cons_succ] at c0 c1 c2
          go_simp
          have A3 := Lib.hid (show BoxAt _ WW7.heap.size #[.int .i64 n, .slice sa sn sc, (.slice ta tn tc)] 25 from (((A2.out.store 0 (.int .i64 n)).store 1 (.slice sa sn sc)).store 2 (.slice ta tn tc)))
          have V3 := Lib.hid (((V2.out.setCell (p := ⟨WW7.heap.size, 0, none⟩) (by dsimp only; omega) (.int .i64 n)).setCell (p := ⟨WW7.heap.size, 1, none⟩) (by dsimp only; omega) (.slice sa sn sc)).setCell (p := ⟨WW7.heap.size, 2, none⟩) (by dsimp only; omega) (.slice ta tn tc))
          have B3 := Lib.hid (BoxAt.set (BoxAt.set (BoxAt.set B2.out ⟨WW7.heap.size, 0, none⟩ (.int .i64 n) (by dsimp only; omega)) ⟨WW7.heap.size, 1, none⟩ (.slice sa sn sc) (by dsimp only; omega)) ⟨WW7.heap.size, 2, none⟩ (.slice ta tn tc) (by dsimp only; omega))
          clear f0 f1 f2 c0 c1 c2
          obtain ⟨w3c, hW⟩ : ∃ W, W = (((w2c.setCell ⟨WW7.heap.size, 0, none⟩ (.int .i64 n)).setCell ⟨WW7.heap.size, 1, none⟩ (.slice sa sn sc)).setCell ⟨WW7.heap.size, 2, none⟩ (.slice ta tn tc)) := ⟨_, rfl⟩
          rw [← hW] at A3 V3 B3 ⊢
          clear hW
          refine hK.out _ _ ?_ (fun hHeld => ?_)
          · exact (have hm := I3.out.grow V3.out; ⟨cellAt hm.box 0, cellAt hm.box 1, cellAt hm.box 2⟩)
          clear hK K
          try simp only [Act.put]
          refine wpAnyH_ready (rs := [5]) (by kernel_rfl) (by simp) ?_
          refine AllReadyH.cons (o := { dst := none, op := Op.store 25 (Operand.tmp 8) (Operand.tmp 60), type := 0, pos := "outright.go:352", after := #[{ on := 3, ground := Ground.data }, { on := 1, ground := Ground.data }, { on := 4, ground := Ground.chain }, { on := 0, ground := Ground.phase }, { on := 1, ground := Ground.phase }, { on := 2, ground := Ground.phase }, { on := 3, ground := Ground.phase }, { on := 4, ground := Ground.phase }], guard := none }) rfl (fun K hK => ?_) (AllReadyH.nil)
          clear hHeld
          have f0 := freeAt B3.out 0
          have f1 := freeAt B3.out 1
          have f2 := freeAt B3.out 2
          have c0 := cellAt B3.out 0
          have c1 := cellAt B3.out 1
          have c2 := cellAt B3.out 2
          simp only [List.getElem?_toArray, List.getElem?_cons_zero, List.getElem?_cons_succ] at c0 c1 c2
          go_simp
          have B4 := Lib.hid (show BoxAt _ w1c.heap.size #[.int .i64 n, .slice sa sn sc, (.slice ta tn tc)] 25 from (((B3.out.store 0 (.int .i64 n)).store 1 (.slice sa sn sc)).store 2 (.slice ta tn tc)))
          have V4 := Lib.hid (((V3.out.setCell (p := ⟨w1c.heap.size, 0, none⟩) (by dsimp only; omega) (.int .i64 n)).setCell (p := ⟨w1c.heap.size, 1, none⟩) (by dsimp only; omega) (.slice sa sn sc)).setCell (p := ⟨w1c.heap.size, 2, none⟩) (by dsimp only; omega) (.slice ta tn tc))
          have A4 := Lib.hid (BoxAt.set (BoxAt.set (BoxAt.set A3.out ⟨w1c.heap.size, 0, none⟩ (.int .i64 n) (by dsimp only; omega)) ⟨w1c.heap.size, 1, none⟩ (.slice sa sn sc) (by dsimp only; omega)) ⟨w1c.heap.size, 2, none⟩ (.slice ta tn tc) (by dsimp only; omega))
          clear f0 f1 f2 c0 c1 c2
          obtain ⟨w4c, hW⟩ : ∃ W, W = (((w3c.setCell ⟨w1c.heap.size, 0, none⟩ (.int .i64 n)).setCell ⟨w1c.heap.size, 1, none⟩ (.slice sa sn sc)).setCell ⟨w1c.heap.size, 2, none⟩ (.slice ta tn tc)) := ⟨_, rfl⟩
          rw [← hW] at B4 V4 A4 ⊢
          clear hW
          refine hK.out _ _ ?_ (fun hHeld => ?_)
          · exact (have hm := I3.out.grow V4.out; ⟨cellAt hm.box 0, cellAt hm.box 1, cellAt hm.box 2⟩)
          clear hK K
          try simp only [Act.put]
          refine wpAnyH_done (by kernel_rfl) ?_ _
          refine HKK.out _ _ ?_
          (repeat apply Exists.intro)
          refine ⟨?_, rfl⟩
          exact ⟨_, _, rfl, rfl, (by have := lt_of_heap I3.out.box; omega), (by have := lt_of_heap I3.out.box; omega), (by omega), A4.out, B4.out, I3.out.grow V4.out⟩
        · clear hHeld
          go_simp
          go_wp2_with fail
          generalize hW : World.alloc _ _ = w5c at *
          obtain ⟨n5, s5, b5⟩ := blocks1 hW
          have l5 := V0.out.size
          have d5 : WW7.heap.size < w5c.heap.size := by omega
          have V5 := Lib.hid (V0.out.next b5)
          have B5 := Lib.hid (show BoxAt w5c WW7.heap.size #[.int .i64 0, .slice none 0 0, .slice none 0 0] 25 from n5)
          clear n5 s5 b5 hW
          refine hK.out _ _ ?_ (fun hHeld => ?_)
          · exact (have hm := I3.out.grow V5.out; ⟨cellAt hm.box 0, cellAt hm.box 1, cellAt hm.box 2⟩)
          clear hK K
          try simp only [Act.put, List.setIfInBounds_toArray, List.set_cons_zero, List.set_cons_succ]
          refine wpAnyH_ready (rs := [2]) (by kernel_rfl) (by simp) ?_
          refine AllReadyH.cons (o := { dst := some 7, op := Op.alloc 25, type := 0, pos := "outright.go:352", after := #[], guard := none }) rfl (fun K hK => ?_) (AllReadyH.nil)
          clear hHeld
          go_simp
          go_wp2_with fail
          generalize hW : World.alloc _ _ = w6c at *
          obtain ⟨n6, s6, b6⟩ := blocks1 hW
          have l6 := V5.out.size
          have d6 : w5c.heap.size < w6c.heap.size := by omega
          have V6 := Lib.hid (V5.out.next b6)
          have B6 := Lib.hid (BoxAt.grow B5.out b6)
          have A6 := Lib.hid (show BoxAt w6c w5c.heap.size #[.int .i64 0, .slice none 0 0, .slice none 0 0] 25 from n6)
          clear n6 s6 b6 hW
          refine hK.out _ _ ?_ (fun hHeld => ?_)
          · exact (have hm := I3.out.grow V6.out; ⟨cellAt hm.box 0, cellAt hm.box 1, cellAt hm.box 2⟩)
          clear hK K
          try simp only [Act.put, List.setIfInBounds_toArray, List.set_cons_zero, List.set_cons_succ]
          refine wpAnyH_ready (rs := [4]) (by kernel_rfl) (by simp) ?_
          refine AllReadyH.cons (o := { dst := none, op := Op.store 25 (Operand.tmp 7) (Operand.tmp 59), type := 0, pos := "outright.go:352", after := #[{ on := 2, ground := Ground.data }, { on := 0, ground := Ground.data }, { on := 0, ground := Ground.phase }, { on := 1, ground := Ground.textOnly Departure.lateStores }, { on := 2, ground := Ground.phase }, { on := 3, ground := Ground.phase }], guard := none }) rfl (fun K hK => ?_) (AllReadyH.nil)
          clear hHeld
          have f0 := freeAt A6.out 0
          have f1 := freeAt A6.out 1
          have f2 := freeAt A6.out 2
          have c0 := cellAt A6.out 0
          have c1 := cellAt A6.out 1
          have c2 := cellAt A6.out 2
          simp only [List.getElem?_toArray, List.getElem?_cons_zero, List.getElem?_cons_succ] at c0 c1 c2
          go_simp
          have A7 := Lib.hid (show BoxAt _ w5c.heap.size #[.int .i64 n, .slice sa sn sc, (.slice ta tn tc)] 25 from (((A6.out.store 0 (.int .i64 n)).store 1 (.slice sa sn sc)).store 2 (.slice ta tn tc)))
          have V7 := Lib.hid (((V6.out.setCell (p := ⟨w5c.heap.size, 0, none⟩) (by dsimp only; omega) (.int .i64 n)).setCell (p := ⟨w5c.heap.size, 1, none⟩) (by dsimp only; omega) (.slice sa sn sc)).setCell (p := ⟨w5c.heap.size, 2, none⟩) (by dsimp only; omega) (.slice ta tn tc))
          have B7 := Lib.hid (BoxAt.set (BoxAt.set (BoxAt.set B6.out ⟨w5c.heap.size, 0, none⟩ (.int .i64 n) (by dsimp only; omega)) ⟨w5c.heap.size, 1, none⟩ (.slice sa sn sc) (by dsimp only; omega)) ⟨w5c.heap.size, 2, none⟩ (.slice ta tn tc) (by dsimp only; omega))
          clear f0 f1 f2 c0 c1 c2
          obtain ⟨w7c, hW⟩ : ∃ W, W = (((w6c.setCell ⟨w5c.heap.size, 0, none⟩ (.int .i64 n)).setCell ⟨w5c.heap.size, 1, none⟩ (.slice sa sn sc)).setCell ⟨w5c.heap.size, 2, none⟩ (.slice ta tn tc)) := ⟨_, rfl⟩
          rw [← hW] at A7 V7 B7 ⊢
          clear hW
          refine hK.out _ _ ?_ (fun hHeld => ?_)
          · exact (have hm := I3.out.grow V7.out; ⟨cellAt hm.box 0, cellAt hm.box 1, cellAt hm.box 2⟩)
          clear hK K
          try simp only [Act.put]
          refine wpAnyH_ready (rs := [5]) (by kernel_rfl) (by simp) ?_
          refine AllReadyH.cons (o := { dst := none, op := Op.store 25 (Operand.tmp 8) (Operand.tmp 60), type := 0, pos := "outright.go:352", after := #[{ on := 3, ground := Ground.data }, { on := 1, ground := Ground.data }, { on := 4, ground := Ground.chain }, { on := 0, ground := Ground.phase }, { on := 1, ground := Ground.phase }, { on := 2, ground := Ground.phase }, { on := 3, ground := Ground.phase }, { on := 4, ground := Ground.phase }], guard := none }) rfl (fun K hK => ?_) (AllReadyH.nil)
          clear hHeld
          have f0 := freeAt B7.out 0
          have f1 := freeAt B7.out 1
          have f2 := freeAt B7.out 2
          have c0 := cellAt B7.out 0
          have c1 := cellAt B7.out 1
          have c2 := cellAt B7.out 2
          simp only [List.getElem?_toArray, List.getElem?_cons_zero, List.getElem?_cons_succ] at c0 c1 c2
          go_simp
          have B8 := Lib.hid (show BoxAt _ WW7.heap.size #[.int .i64 n, .slice sa sn sc, (.slice ta tn tc)] 25 from (((B7.out.store 0 (.int .i64 n)).store 1 (.slice sa sn sc)).store 2 (.slice ta tn tc)))
          have V8 := Lib.hid (((V7.out.setCell (p := ⟨WW7.heap.size, 0, none⟩) (by dsimp only; omega) (.int .i64 n)).setCell (p := ⟨WW7.heap.size, 1, none⟩) (by dsimp only; omega) (.slice sa sn sc)).setCell (p := ⟨WW7.heap.size, 2, none⟩) (by dsimp only; omega) (.slice ta tn tc))
          have A8 := Lib.hid (BoxAt.set (BoxAt.set (BoxAt.set A7.out ⟨WW7.heap.size, 0, none⟩ (.int .i64 n) (by dsimp only; omega)) ⟨WW7.heap.size, 1, none⟩ (.slice sa sn sc) (by dsimp only; omega)) ⟨WW7.heap.size, 2, none⟩ (.slice ta tn tc) (by dsimp only; omega))
          clear f0 f1 f2 c0 c1 c2
          obtain ⟨w8c, hW⟩ : ∃ W, W = (((w7c.setCell ⟨WW7.heap.size, 0, none⟩ (.int .i64 n)).setCell ⟨WW7.heap.size, 1, none⟩ (.slice sa sn sc)).setCell ⟨WW7.heap.size, 2, none⟩ (.slice ta tn tc)) := ⟨_, rfl⟩
          rw [← hW] at B8 V8 A8 ⊢
          clear hW
          refine hK.out _ _ ?_ (fun hHeld => ?_)
          · exact (have hm := I3.out.grow V8.out; ⟨cellAt hm.box 0, cellAt hm.box 1, cellAt hm.box 2⟩)
          clear hK K
          try simp only [Act.put]
          refine wpAnyH_done (by kernel_rfl) ?_ _
          refine HKK.out _ _ ?_
          (repeat apply Exists.intro)
          refine ⟨?_, rfl⟩
          exact ⟨_, _, rfl, rfl, (by have := lt_of_heap I3.out.box; omega), (by have := lt_of_heap I3.out.box; omega), (by omega), A8.out, B8.out, I3.out.grow V8.out⟩
      case rest =>
        obtain ⟨bx, bb, rfl, rfl, lx, lb, hxb, hbx, hbb, hm⟩ := hcut
        clear I2
        have f1 := freeAt hbx 1
        have f2 := freeAt hbx 2
        have f3 := freeAt hbb 2
        have c1 := cellAt hbx 1
        have c2 := cellAt hbx 2
        have c3 := cellAt hbb 2
        simp only [List.getElem?_toArray, List.getElem?_cons_zero, List.getElem?_cons_succ] at c1 c2 c3
        have I4 := Lib.hid hm
        have I5 := Lib.hid (WB.out (D := [bx, bb]) hm (((Out.refl _ _).set bx 1 (.slice none 0 0) (.inl (by simp))).set bx 2 (.slice none 0 0) (.inl (by simp)) |>.set bb 2 (.slice none 0 0) (.inl (by simp))) (by intro d hd; simp at hd; omega) HSL.out HTL.out)
        have BX := Lib.hid (show BoxAt _ bx #[.int .i64 n, .slice none 0 0, .slice none 0 0] 25 from ((hbx.store 1 (.slice none 0 0)).store 2 (.slice none 0 0)).set ⟨bb, 2, none⟩ (.slice none 0 0) (by dsimp only; omega))
        have BB := Lib.hid (show BoxAt _ bb #[.int .i64 n, .slice sa sn sc, .slice none 0 0] 25 from ((hbb.set ⟨bx, 1, none⟩ (.slice none 0 0) (by dsimp only; omega)).set ⟨bx, 2, none⟩ (.slice none 0 0) (by dsimp only; omega)).store 2 (.slice none 0 0))
        have q1 := cellAt I5.out.box 1
        simp only [List.getElem?_toArray, List.getElem?_cons_zero, List.getElem?_cons_succ] at q1
        have lxn : ¬ bx = w.heap.size := by omega
        have lbn : ¬ bb = w.heap.size := by omega
        have hbxn : ¬ bb = bx := by omega
        clear hbx hbb hm
        go_wp2_with fail
        clear f1 f2 f3 c1 c2 c3 q1
        generalize World.setCell _ _ _ = wL at *
        clear I4
        have O0 := Lib.hid (OwnT.start (E := 52) (sz := 2) (D := [bx, bb]) (w0 := wL) (KB := [(bx, #[.int .i64 n, .slice none 0 0, .slice none 0 0], 25), (bb, #[.int .i64 n, .slice sa sn sc, .slice none 0 0], 25)]) (VS := [(.slice none 0 0, 0, [])]) (by intro e he; simp only [List.mem_cons, List.mem_nil_iff, or_false] at he; rcases he with rfl | rfl; exact BX.out; exact BB.out) (by intro e he; simpa using he))
        have IW := Lib.hid (fun W (h : Out [bx, bb] wL W) => WB.out I5.out h (by intro d hd; simp at hd; omega) HSL.out HTL.out)
        have lxw := lt_of_heap BX.out
        have lbw := lt_of_heap BB.out
        clear BX BB I5
        go_loopw [67] (fun v wi => ∃ k : Nat, k ≤ sn ∧ v = .int .i64 k ∧ ∃ vs, OwnT 52 2 [bx, bb] wL [(bx, #[.int .i64 n, vs, .slice none 0 0], 25), (bb, #[.int .i64 n, .slice sa sn sc, .slice none 0 0], 25)] [(vs, k, smVals (turnS S sn) k)] wi) (fun v _ => sn - (intOf v).toNat)
        case atStart => exact ⟨0, Nat.zero_le _, rfl, _, O0.out⟩
        case round =>
          clear O0
          obtain ⟨k, hk, rfl, vs, ho⟩ := hrel
          have O1 := Lib.hid ho
          clear ho
          by_cases hlt : k < sn
          · as_aux_lemma =>
              have IR := Lib.hid (IW.out _ O1.out.out)
              obtain ⟨j, hj, hjl⟩ : ∃ j : Nat, (sn : Int) - 1 - k = j ∧ j < sn := ⟨sn - 1 - k, by omega, by omega⟩
              go_wp2_with fail
              obtain ⟨i0, hi0, hz0, hz1, hz2⟩ := info52'
              have hix := fun w => run_indexAt_row (w := w) (cap := sc) Try.underlying22 size52 (IR.out.ss.plain (by omega)) hjl
              have e1 : IntKind.i64.wrap ((sn : Int) - 1) = sn - 1 := IntWalk.i64_in _ (by omega)
              have e2 : IntKind.i64.wrap ((sn : Int) - 1 - k) = j := i64_nat hj (by omega)
              have HJ := Lib.hid hj
              clear hj
              clear IR
              have P0 := Lib.hid O1.out.drew
              clear O1
              refine wp_region_stg (S := (fun w' => w'.cell? ⟨w.heap.size, 1, none⟩ = some (.slice sa sn sc) ∧ w'.cell? ⟨blk sa, ofs sa + j * 2, none⟩ = some (.int .i64 (S j).fat) ∧ w'.cell? ⟨blk sa, ofs sa + j * 2 + 1, none⟩ = some (.int .i64 (S j).rate))) (L := [(13, (fun w' : World => w'.cell? ⟨bx, 1, none⟩ = some vs))]) (D := [(13, 1)]) (by kernel_rfl) (by kernel_rfl) (by exact (have hm := IW.out _ P0.out.out; ⟨cellAt hm.box 1, (hm.ss.at hjl).1, (hm.ss.at hjl).2⟩)) (by intro e he; simp only [List.mem_cons, List.mem_nil_iff, or_false] at he; subst he; exact cellAt (P0.out.box (bx, #[.int .i64 n, vs, .slice none 0 0], 25) (by simp)) 1) (fun hC0 hH0 => ?_)
              generalize World.drew wr = WW at *
              refine wpAnyT_take (i := 0) (oi := { dst := some 70, op := Op.fieldAddr 25 (Operand.tmp 7) 1, type := 0, pos := "outright.go:355", after := #[], guard := none }) (v := ?_) rfl (by kernel_rfl) (by kernel_rfl) (by kernel_rfl) (fun _ _ _ h => h) (by kernel_rfl) (by rfl) hC0 (Or.inl ⟨by rfl, ?_⟩) hH0 (fun hC1 hH1 => ?_)
              rotate_left
              · (intro w9 hSw; obtain ⟨hSw, hLw⟩ := hSw; clear hLw; (try dsimp only at hSw); (go_split_ands; go_simp); (try with_reducible rfl))
              clear hC0 hH0
              try simp only [Act.put, List.setIfInBounds_toArray, List.set_cons_zero, List.set_cons_succ]
              refine wpAnyT_take (i := 1) (oi := { dst := some 71, op := Op.load 22 (Operand.tmp 70), type := 22, pos := "outright.go:355", after := #[{ on := 0, ground := Ground.data }], guard := none }) (v := ?_) rfl (by kernel_rfl) (by kernel_rfl) (by kernel_rfl) (fun _ _ _ h => h) (by kernel_rfl) (by rfl) hC1 (Or.inl ⟨by rfl, ?_⟩) hH1 (fun hC2 hH2 => ?_)
              rotate_left
              · (intro w9 hSw; obtain ⟨hSw, hLw⟩ := hSw; have hl13 := hLw _ List.mem_cons_self rfl; dsimp only at hl13; clear hLw; (try dsimp only at hSw); (go_split_ands; go_simp); (try with_reducible rfl))
              clear hC1 hH1
              try simp only [Act.put, List.setIfInBounds_toArray, List.set_cons_zero, List.set_cons_succ]
              refine wpAnyT_take (i := 2) (oi := { dst := some 72, op := Op.fieldAddr 25 (Operand.tmp 2) 1, type := 0, pos := "outright.go:355", after := #[], guard := none }) (v := ?_) rfl (by kernel_rfl) (by kernel_rfl) (by kernel_rfl) (fun _ _ _ h => h) (by kernel_rfl) (by rfl) hC2 (Or.inl ⟨by rfl, ?_⟩) hH2 (fun hC3 hH3 => ?_)
              rotate_left
              · (intro w9 hSw; obtain ⟨hSw, hLw⟩ := hSw; clear hLw; (try dsimp only at hSw); (go_split_ands; go_simp); (try with_reducible rfl))
              clear hC2 hH2
              try simp only [Act.put, List.setIfInBounds_toArray, List.set_cons_zero, List.set_cons_succ]
              refine wpAnyT_take (i := 3) (oi := { dst := some 73, op := Op.load 22 (Operand.tmp 72), type := 22, pos := "outright.go:355", after := #[{ on := 2, ground := Ground.data }], guard := none }) (v := ?_) rfl (by kernel_rfl) (by kernel_rfl) (by kernel_rfl) (fun _ _ _ h => h) (by kernel_rfl) (by rfl) hC3 (Or.inl ⟨by rfl, ?_⟩) hH3 (fun hC4 hH4 => ?_)
              rotate_left
              · (intro w9 hSw; obtain ⟨hSw, hLw⟩ := hSw; clear hLw; (try dsimp only at hSw); (go_split_ands; go_simp); (try with_reducible rfl))
              clear hC3 hH3
              try simp only [Act.put, List.setIfInBounds_toArray, List.set_cons_zero, List.set_cons_succ]
              refine wpAnyT_take (i := 4) (oi := { dst := some 74, op := Op.move (Operand.tmp 6), type := 3, pos := "outright.go:355", after := #[], guard := none }) (v := ?_) rfl (by kernel_rfl) (by kernel_rfl) (by kernel_rfl) (fun _ _ _ h => h) (by kernel_rfl) (by rfl) hC4 (Or.inl ⟨by rfl, ?_⟩) hH4 (fun hC5 hH5 => ?_)
              rotate_left
              · (intro w9 hSw; obtain ⟨hSw, hLw⟩ := hSw; clear hLw; (try dsimp only at hSw); (go_split_ands; go_simp); (try with_reducible rfl))
              clear hC4 hH4
              try simp only [Act.put, List.setIfInBounds_toArray, List.set_cons_zero, List.set_cons_succ]
              refine wpAnyT_take (i := 5) (oi := { dst := some 75, op := Op.binOp BinOp.sub 3 (Operand.tmp 74) (Operand.const (Value.int IntKind.i64 1)) 3, type := 3, pos := "outright.go:355", after := #[{ on := 4, ground := Ground.data }], guard := none }) (v := ?_) rfl (by kernel_rfl) (by kernel_rfl) (by kernel_rfl) (fun _ _ _ h => h) (by kernel_rfl) (by rfl) hC5 (Or.inl ⟨by rfl, ?_⟩) hH5 (fun hC6 hH6 => ?_)
              rotate_left
              · (intro w9 hSw; obtain ⟨hSw, hLw⟩ := hSw; clear hLw; (try dsimp only at hSw); (go_split_ands; go_simp); (try with_reducible rfl))
              clear hC5 hH5
              try simp only [Act.put, List.setIfInBounds_toArray, List.set_cons_zero, List.set_cons_succ]
              refine wpAnyT_take (i := 6) (oi := { dst := some 76, op := Op.move (Operand.tmp 9), type := 3, pos := "outright.go:355", after := #[], guard := none }) (v := ?_) rfl (by kernel_rfl) (by kernel_rfl) (by kernel_rfl) (fun _ _ _ h => h) (by kernel_rfl) (by rfl) hC6 (Or.inl ⟨by rfl, ?_⟩) hH6 (fun hC7 hH7 => ?_)
              rotate_left
              · (intro w9 hSw; obtain ⟨hSw, hLw⟩ := hSw; clear hLw; (try dsimp only at hSw); (go_split_ands; go_simp); (try with_reducible rfl))
              clear hC6 hH6
              try simp only [Act.put, List.setIfInBounds_toArray, List.set_cons_zero, List.set_cons_succ]
              refine wpAnyT_take (i := 7) (oi := { dst := some 77, op := Op.binOp BinOp.sub 3 (Operand.tmp 75) (Operand.tmp 76) 3, type := 3, pos := "outright.go:355", after := #[{ on := 5, ground := Ground.data }, { on := 6, ground := Ground.data }], guard := none }) (v := ?_) rfl (by kernel_rfl) (by kernel_rfl) (by kernel_rfl) (fun _ _ _ h => h) (by kernel_rfl) (by rfl) hC7 (Or.inl ⟨by rfl, ?_⟩) hH7 (fun hC8 hH8 => ?_)
              rotate_left
              · (intro w9 hSw; obtain ⟨hSw, hLw⟩ := hSw; clear hLw; (try dsimp only at hSw); (go_split_ands; go_simp); (try with_reducible rfl))
              clear hC7 hH7
              try simp only [Act.put, List.setIfInBounds_toArray, List.set_cons_zero, List.set_cons_succ]
              refine wpAnyT_take (i := 8) (oi := { dst := some 78, op := Op.indexAddr 22 (Operand.tmp 73) (Operand.tmp 77), type := 0, pos := "outright.go:355", after := #[{ on := 3, ground := Ground.data }, { on := 7, ground := Ground.data }], guard := none }) (v := ?_) rfl (by kernel_rfl) (by kernel_rfl) (by kernel_rfl) (fun _ _ _ h => h) (by kernel_rfl) (by rfl) hC8 (Or.inl ⟨by rfl, ?_⟩) hH8 (fun hC9 hH9 => ?_)
              rotate_left
              · (intro w9 hSw; obtain ⟨hSw, hLw⟩ := hSw; clear hLw; (try dsimp only at hSw); (go_split_ands; go_simp); (try with_reducible rfl))
              clear hC8 hH8
              try simp only [Act.put, List.setIfInBounds_toArray, List.set_cons_zero, List.set_cons_succ]
              refine wpAnyT_take (i := 9) (oi := { dst := some 79, op := Op.load 52 (Operand.tmp 78), type := 52, pos := "outright.go:355", after := #[{ on := 8, ground := Ground.data }], guard := none }) (v := ?_) rfl (by kernel_rfl) (by kernel_rfl) (by kernel_rfl) (fun _ _ _ h => h) (by kernel_rfl) (by rfl) hC9 (Or.inl ⟨by rfl, ?_⟩) hH9 (fun hC10 hH10 => ?_)
              rotate_left
              · (intro w9 hSw; obtain ⟨hSw, hLw⟩ := hSw; clear hLw; (try dsimp only at hSw); (go_split_ands; go_simp); (try with_reducible rfl))
              clear hC9 hH9
              try simp only [Act.put, List.setIfInBounds_toArray, List.set_cons_zero, List.set_cons_succ]
              refine wpAnyT_one (i := 10) (o := { dst := some 80, op := Op.buildSlice 22 1 #[(0, Operand.tmp 79)], type := 22, pos := "outright.go:355", after := #[{ on := 9, ground := Ground.data }], guard := none }) (by kernel_rfl) rfl (by kernel_rfl) hC10 (fun K hK => ?_)
              clear hC10 hH10
              go_simp
              go_wp2_with fail
              have P1 := Lib.hid (P0.out.new #[.int .i64 (S j).fat, .int .i64 (S j).rate] 52)
              generalize World.alloc _ _ = W1c at *
              refine hK.out _ _ ?_ (fun hC11 hH11 => ?_)
              · refine ⟨(have hm := IW.out _ P1.out.out; ⟨cellAt hm.box 1, (hm.ss.at hjl).1, (hm.ss.at hjl).2⟩), fun e he _ => ?_⟩
                simp only [List.mem_cons, List.mem_nil_iff, or_false] at he; subst he
                exact cellAt (P1.out.box (bx, #[.int .i64 n, vs, .slice none 0 0], 25) (by simp)) 1
              clear hK K
              try simp only [Act.put, List.setIfInBounds_toArray, List.set_cons_zero, List.set_cons_succ]
              refine wpAnyT_one (i := 11) (o := { dst := some 81, op := Op.call { callee := Callee.builtin Builtin.append, args := #[Operand.tmp 71, Operand.tmp 80], argTypes := #[22, 22] }, type := 22, pos := "outright.go:355", after := #[{ on := 1, ground := Ground.data }, { on := 10, ground := Ground.data }], guard := none }) (by kernel_rfl) rfl (by kernel_rfl) hC11 (fun K hK => ?_)
              clear hC11 hH11
              refine step_ownT Try.underlying22 hi0 hz0 hz1 hz2 (by rfl) (by omega) (by omega) P1.out (by rfl) (.tmp 71) (.tmp 80) (by rfl) 0 k (by rfl) (by rfl) (gb := WW.heap.size) (ys := (S j).cells) (by rfl) List.mem_cons_self (by rfl) (Sm.cells_one _) (by omega) ?_
              intro g cap W2c hO
              have P2 := Lib.hid (hO.sub (KB' := [(bx, #[.int .i64 n, vs, .slice none 0 0], 25), (bb, #[.int .i64 n, .slice sa sn sc, .slice none 0 0], 25)]) (by intro e he; exact List.mem_cons_of_mem _ he))
              clear hO P1
              refine hK.out _ _ ?_ (fun hC12 hH12 => ?_)
              · refine ⟨(have hm := IW.out _ P2.out.out; ⟨cellAt hm.box 1, (hm.ss.at hjl).1, (hm.ss.at hjl).2⟩), fun e he _ => ?_⟩
                simp only [List.mem_cons, List.mem_nil_iff, or_false] at he; subst he
                exact cellAt (P2.out.box (bx, #[.int .i64 n, vs, .slice none 0 0], 25) (by simp)) 1
              clear hK K
              try simp only [Act.put, List.setIfInBounds_toArray, List.set_cons_zero, List.set_cons_succ]
              refine wpAnyT_take (i := 12) (oi := { dst := some 82, op := Op.fieldAddr 25 (Operand.tmp 7) 1, type := 0, pos := "outright.go:355", after := #[{ on := 0, ground := Ground.phase }, { on := 1, ground := Ground.phase }, { on := 2, ground := Ground.phase }, { on := 3, ground := Ground.phase }, { on := 4, ground := Ground.phase }, { on := 5, ground := Ground.phase }, { on := 6, ground := Ground.phase }, { on := 7, ground := Ground.phase }, { on := 8, ground := Ground.phase }, { on := 9, ground := Ground.phase }, { on := 10, ground := Ground.phase }, { on := 11, ground := Ground.phase }], guard := none }) (v := ?_) rfl (by kernel_rfl) (by kernel_rfl) (by kernel_rfl) (fun _ _ _ h => h) (by kernel_rfl) (by rfl) hC12 (Or.inl ⟨by rfl, ?_⟩) hH12 (fun hC13 hH13 => ?_)
              rotate_left
              · (intro w9 hSw; obtain ⟨hSw, hLw⟩ := hSw; clear hLw; (try dsimp only at hSw); (go_split_ands; go_simp); (try with_reducible rfl))
              clear hC12 hH12
              try simp only [Act.put, List.setIfInBounds_toArray, List.set_cons_zero, List.set_cons_succ]
              refine wpAnyT_one (i := 13) (o := { dst := none, op := Op.store 22 (Operand.tmp 82) (Operand.tmp 81), type := 0, pos := "outright.go:355", after := #[{ on := 12, ground := Ground.data }, { on := 11, ground := Ground.data }, { on := 11, ground := Ground.chain }, { on := 0, ground := Ground.phase }, { on := 1, ground := Ground.phase }, { on := 2, ground := Ground.phase }, { on := 3, ground := Ground.phase }, { on := 4, ground := Ground.phase }, { on := 5, ground := Ground.phase }, { on := 6, ground := Ground.phase }, { on := 7, ground := Ground.phase }, { on := 8, ground := Ground.phase }, { on := 9, ground := Ground.phase }, { on := 10, ground := Ground.phase }, { on := 11, ground := Ground.phase }], guard := none }) (by kernel_rfl) rfl (by kernel_rfl) hC13 (fun K hK => ?_)
              clear hC13 hH13
              have fz := freeAt (P2.out.box (bx, #[.int .i64 n, vs, .slice none 0 0], 25) (by simp)) 1
              have cz := cellAt (P2.out.box (bx, #[.int .i64 n, vs, .slice none 0 0], 25) (by simp)) 1
              simp only [List.getElem?_toArray, List.getElem?_cons_zero, List.getElem?_cons_succ] at cz
              go_simp
              clear fz cz
              have P3 := Lib.hid (show OwnT 52 2 [bx, bb] wL [(bx, #[.int .i64 n, .slice (some ⟨g, 0, none⟩) (k + 1) cap, .slice none 0 0], 25), (bb, #[.int .i64 n, .slice sa sn sc, .slice none 0 0], 25)] _ _ from P2.out.set 1 (.slice (some ⟨g, 0, none⟩) (k + 1) cap) (.inl (by simp)) (by intro e he; simp only [List.mem_cons, List.mem_nil_iff, or_false] at he; subst he; dsimp only; omega))
              generalize World.setCell _ _ _ = W3c at *
              clear P2
              refine hK.out _ _ ?_ (fun hC14 hH14 => ?_)
              · refine ⟨(have hm := IW.out _ P3.out.out; ⟨cellAt hm.box 1, (hm.ss.at hjl).1, (hm.ss.at hjl).2⟩), fun e he h => ?_⟩
                simp only [List.mem_cons, List.mem_nil_iff, or_false] at he; subst he
                exact absurd h (by intro hx; exact Bool.false_ne_true (hx.symm.trans (by kernel_rfl)))
              clear hK K
              try simp only [Act.put]
              refine wpAnyT_done (by kernel_rfl) ?_ _
              clear hC14 hH14
              have hvs : smVals (turnS S sn) k ++ (S j).cells.toList = smVals (turnS S sn) (k + 1) := by rw [smVals_succ, show turnS S sn k = S j by unfold turnS; congr 1; have := HJ.out; omega]
              rw [hvs] at P3
              clear hvs hix e1 e2
              go_wp2_with fail
              exact ⟨⟨k + 1, hlt, by go_num, _, P3.out⟩, by simp [intOf]; omega⟩
          · obtain rfl : sn = k := by omega
            have hvs : wr.ownsRow wL.heap.size 52 2 vs sn (smVals (turnS S sn) sn) := O1.out.own _ List.mem_cons_self
            obtain ⟨sx, sxc, rfl, hxs, hxl⟩ := own_seams hvs (by unfold maxLen; omega)
            clear hvs
            have BX := Lib.hid (O1.out.box _ List.mem_cons_self)
            have BB := Lib.hid (O1.out.box _ (List.mem_cons_of_mem _ List.mem_cons_self))
            have I6 := Lib.hid (IW.out _ O1.out.out)
            have SX := Lib.hid hxs
            have HXO := Lib.hid (show 0 < sn → blk sx ∉ [bx, bb] from fun h => by have := hxl h; simp; omega)
            have q2 := cellAt I6.out.box 2
            simp only [List.getElem?_toArray, List.getElem?_cons_zero, List.getElem?_cons_succ] at q2
            clear hxs hxl IW O1
            go_wp2_with fail
            clear q2
            obtain ⟨w2L, rfl⟩ : ∃ W, W = wr := ⟨_, rfl⟩
            have O2 := Lib.hid (OwnT.start (E := 58) (sz := 8) (D := [bx, bb]) (w0 := w2L) (KB := [(bx, #[.int .i64 n, .slice sx sn sxc, .slice none 0 0], 25), (bb, #[.int .i64 n, .slice sa sn sc, .slice none 0 0], 25)]) (VS := [(.slice none 0 0, 0, []), (.slice none 0 0, 0, [])]) (by intro e he; simp only [List.mem_cons, List.mem_nil_iff, or_false] at he; rcases he with rfl | rfl; exact BX.out; exact BB.out) (by intro e he; simpa using he))
            have IW := Lib.hid (fun W (h : Out [bx, bb] w2L W) => WB.out I6.out h (by intro d hd; simp at hd; omega) HSL.out HTL.out)
            have SW := Lib.hid (fun W (h : Out [bx, bb] w2L W) => Row.out SX.out h HXO.out)
            have lxw := lt_of_heap BX.out
            have lbw := lt_of_heap BB.out
            clear BX BB I6 SX HXO
            go_loopw [10, 87] (fun ti v wi => ∃ k : Nat, k ≤ tn ∧ v = .int .i64 k ∧ ti = .bool (tieN T k) ∧ ∃ vx vb, OwnT 58 8 [bx, bb] w2L [(bx, #[.int .i64 n, .slice sx sn sxc, vx], 25), (bb, #[.int .i64 n, .slice sa sn sc, vb], 25)] [(vx, k, tkVals (turnT T n sn) k), (vb, k, tkVals (backT T tn) k)] wi) (fun _ v _ => tn - (intOf v).toNat)
            case atStart => exact ⟨0, Nat.zero_le _, rfl, rfl, _, _, O2.out⟩
            case round =>
              clear O2
              obtain ⟨k, hk, rfl, rfl, vx, vb, ho⟩ := hrel
              have O3 := Lib.hid ho
              clear ho
              by_cases hlt : k < tn
              · skip
                have IR := Lib.hid (IW.out _ O3.out.out)
                have hkc : k ≤ tc := by omega
                have hix := fun w => run_indexAt_row (w := w) (cap := tc) Try.underlying23 size58 (IR.out.tt.plain (by omega)) hlt
                obtain ⟨g0, g1, g2, g3, g4, g5, g6, g7⟩ := IR.out.tt.at hlt
                have xa := fun o => cellAt (BoxAt.grow IR.out.box ((Below.refl _ _).alloc (Nat.le_refl _) o)) 2
                simp only [List.getElem?_toArray, List.getElem?_cons_zero, List.getElem?_cons_succ] at xa
                have O4 := Lib.hid (O3.out.new (tkCells (T k)) 58)
                have hp := Lib.hid (show ∃ p, p = tieN T k from ⟨_, rfl⟩)
                go_wp2_with fail
                have los := O3.out.out.size
                clear g0 g1 g2 g3 g4 g5 g6 g7 xa hix O3 IR
                obtain ⟨tb, etb⟩ : ∃ tb, tb = wr.heap.size := ⟨_, rfl⟩
                rw [← etb] at O4 ⊢
                generalize World.alloc _ _ = W4 at *
                have ltb : w2L.heap.size ≤ tb := by rw [etb]; exact los
                clear etb los
                go_loopw [10, 97] (fun ti v wi => ∃ j : Nat, j ≤ k ∧ v = .int .i64 j ∧ ti = .bool (tieN T k || tieI T k j) ∧ OwnT 58 8 [bx, bb] w2L [(tb, tkCells (T k), 58), (bx, #[.int .i64 n, .slice sx sn sxc, vx], 25), (bb, #[.int .i64 n, .slice sa sn sc, vb], 25)] [(vx, k, tkVals (turnT T n sn) k), (vb, k, tkVals (backT T tn) k)] wi) (fun _ v _ => k - (intOf v).toNat)
                case atStart => exact ⟨0, Nat.zero_le _, rfl, by simp [tieI], O4.out⟩
                case round =>
                  clear O4
                  obtain ⟨j, hj, rfl, rfl, ho⟩ := hrel
                  have O5 := Lib.hid ho
                  clear ho
                  by_cases hlj : j < k
                  · have IR := Lib.hid (IW.out _ O5.out.out)
                    have hix := fun w => run_indexAt_row (w := w) (cap := tc) Try.underlying23 size58 (IR.out.tt.plain (by omega)) (show j < k by omega)
                    obtain ⟨g0, g1, g2, g3, g4, g5, g6, g7⟩ := IR.out.tt.at (show j < tn by omega)
                    have tt := fun o => tkX (BoxAt.grow (O5.out.box _ List.mem_cons_self) ((Below.refl _ _).alloc (Nat.le_refl _) o))
                    have t0 := fun o => (tt o).1
                    have t1 := fun o => (tt o).2.1
                    have t2 := fun o => (tt o).2.2.1
                    have t5 := fun o => (tt o).2.2.2.2.2.1
                    have t6 := fun o => (tt o).2.2.2.2.2.2.1
                    have t7 := fun o => (tt o).2.2.2.2.2.2.2
                    have O6 := Lib.hid ((O5.out.new (tkCells (T j)) 58).sub (KB' := [(tb, tkCells (T k), 58), (bx, #[.int .i64 n, .slice sx sn sxc, vx], 25), (bb, #[.int .i64 n, .slice sa sn sc, vb], 25)]) (fun e he => List.mem_cons_of_mem _ he))
                    have hts := tieI_succ T k j
                    obtain ⟨p, ep⟩ : ∃ p, p = (tieN T k || tieI T k j) := ⟨_, rfl⟩
                    have HP := Lib.hid (show (tieN T k || tieI T k (j + 1)) = (p || tieB T k j) by rw [hts, ep, Bool.or_assoc])
                    rw [← ep]
                    clear ep hts tt O5 IR
                    cases p with
                    | true =>
                      go_wp2_with fail
                      exact ⟨⟨j + 1, hlj, by go_num, by rw [HP.out]; rfl, O6.out⟩, by simp [intOf]; omega⟩
                    | false =>
                      obtain ⟨b1, k1⟩ : ∃ b, ((T j).crew != (T k).crew) = b := ⟨_, rfl⟩
                      obtain ⟨b2, k2⟩ : ∃ b, ((T j).seam == (T k).seam) = b := ⟨_, rfl⟩
                      obtain ⟨m1, hm1⟩ : ∃ m, (if (T j).fl < (T k).fl then (T k).fl else (T j).fl) = m := ⟨_, rfl⟩
                      obtain ⟨m2, hm2⟩ : ∃ m, (if (T k).th < (T j).th then (T k).th else (T j).th) = m := ⟨_, rfl⟩
                      obtain ⟨m3, hm3⟩ : ∃ m, (if (T j).dl < (T k).dl then (T k).dl else (T j).dl) = m := ⟨_, rfl⟩
                      obtain ⟨m4, hm4⟩ : ∃ m, (if (T k).dh < (T j).dh then (T k).dh else (T j).dh) = m := ⟨_, rfl⟩
                      obtain ⟨b3, k3⟩ : ∃ b, decide (m1 < m2) = b := ⟨_, rfl⟩
                      obtain ⟨b4, k4⟩ : ∃ b, decide (m3 ≤ m4) = b := ⟨_, rfl⟩
                      have HTB := Lib.hid (show tieB T k j = (b1 && b2 && b3 && b4) from tieB_eq k1 k2 (by rw [hm1, hm2]; exact k3) (by rw [hm3, hm4]; exact k4))
                      cases b1 with
                      | false =>
                        clear k2 k3 k4 hm1 hm2 hm3 hm4
                        go_wp2_with fail
                        exact ⟨⟨j + 1, hlj, by go_num, by rw [HP.out, HTB.out]; simp, O6.out⟩, by simp [intOf]; omega⟩
                      | true =>
                        cases b2 with
                        | false =>
                          clear k3 k4 hm1 hm2 hm3 hm4
                          go_wp2_with fail
                          exact ⟨⟨j + 1, hlj, by go_num, by rw [HP.out, HTB.out]; simp, O6.out⟩, by simp [intOf]; omega⟩
                        | true =>
                          cases b3 with
                          | false =>
                            clear k4 hm3 hm4
                            go_wp2_with fail
                            exact ⟨⟨j + 1, hlj, by go_num, by rw [HP.out, HTB.out]; simp, O6.out⟩, by simp [intOf]; omega⟩
                          | true =>
                            cases b4 <;>
                            · go_wp2_with fail
                              exact ⟨⟨j + 1, hlj, by go_num, by rw [HP.out, HTB.out]; simp, O6.out⟩, by simp [intOf]; omega⟩
                  · obtain rfl : k = j := by omega
                    have IR := Lib.hid (IW.out _ O5.out.out)
                    obtain ⟨j, hj, hjl⟩ : ∃ j : Nat, (tn : Int) - 1 - k = j ∧ j < tn := ⟨tn - 1 - k, by omega, by omega⟩
                    have HJ := Lib.hid hj
                    have e2 : IntKind.i64.wrap ((tn : Int) - 1 - k) = j := i64_nat hj (by omega)
                    clear hj
                    rw [← tieN_succ T k]
                    go_wp2_with fail
                    go_cut [] from 151 to 163 (fun W => ∃ vb', OwnT 58 8 [bx, bb] w2L [(tb, tkCells (T k), 58), (bx, #[.int .i64 n, .slice sx sn sxc, vx], 25), (bb, #[.int .i64 n, .slice sa sn sc, vb'], 25)] [(vx, k, tkVals (turnT T n sn) k), (vb', k + 1, tkVals (backT T tn) (k + 1))] W)
                    case first =>
                      rename_i J1 K1 hJ hK1
                      have HKK := Lib.hid (fun a' w' h => hK1 a' w' (Met.intro (hJ a' w' h)))
                      clear hJ hK1
                      obtain ⟨i0, hi0, hz0, hz1, hz2⟩ := info58'
                      have hix := fun w => run_indexAt_row (w := w) (cap := tc) Try.underlying23 size58 (IR.out.tt.plain (by omega)) hjl
                      have e1 : IntKind.i64.wrap ((tn : Int) - 1) = tn - 1 := IntWalk.i64_in _ (by omega)
                      clear IR
                      go_light
                      have P0 := Lib.hid O5.out.drew
                      clear O5
                      refine wp_region_stg (S := (fun w' => w'.cell? ⟨w.heap.size, 2, none⟩ = some (.slice ta tn tc) ∧ w'.cell? ⟨blk ta, ofs ta + j * 8, none⟩ = some (.int .i64 (T j).crew) ∧ w'.cell? ⟨blk ta, ofs ta + j * 8 + 1, none⟩ = some (.int .i64 (T j).seam) ∧ w'.cell? ⟨blk ta, ofs ta + j * 8 + 2, none⟩ = some (.int .i64 (T j).fl) ∧ w'.cell? ⟨blk ta, ofs ta + j * 8 + 3, none⟩ = some (.int .i64 (T j).fh) ∧ w'.cell? ⟨blk ta, ofs ta + j * 8 + 4, none⟩ = some (.int .i64 (T j).tl) ∧ w'.cell? ⟨blk ta, ofs ta + j * 8 + 5, none⟩ = some (.int .i64 (T j).th) ∧ w'.cell? ⟨blk ta, ofs ta + j * 8 + 6, none⟩ = some (.int .i64 (T j).dl) ∧ w'.cell? ⟨blk ta, ofs ta + j * 8 + 7, none⟩ = some (.int .i64 (T j).dh))) (L := [(13, (fun w' : World => w'.cell? ⟨bb, 2, none⟩ = some vb))]) (D := [(13, 1)]) (by kernel_rfl) (by kernel_rfl) (by exact (have hm := IW.out _ P0.out.out; ⟨cellAt hm.box 2, hm.tt.at hjl⟩)) (by intro e he; simp only [List.mem_cons, List.mem_nil_iff, or_false] at he; subst he; exact cellAt (P0.out.box (bb, #[.int .i64 n, .slice sa sn sc, vb], 25) (by simp)) 2) (fun hC0 hH0 => ?_)
                      generalize World.drew wr = WW at *
                      refine wpAnyT_take (i := 0) (oi := { dst := some 151, op := Op.fieldAddr 25 (Operand.tmp 8) 2, type := 0, pos := "outright.go:362", after := #[], guard := none }) (v := ?_) rfl (by kernel_rfl) (by kernel_rfl) (by kernel_rfl) (fun _ _ _ h => h) (by kernel_rfl) (by rfl) hC0 (Or.inl ⟨by rfl, ?_⟩) hH0 (fun hC1 hH1 => ?_)
                      rotate_left
                      · (intro w9 hSw; obtain ⟨hSw, hLw⟩ := hSw; clear hLw; (try dsimp only at hSw); (go_split_ands; go_simp); (try with_reducible rfl))
                      clear hC0 hH0
                      try simp only [Act.put, List.setIfInBounds_toArray, List.set_cons_zero, List.set_cons_succ]
                      refine wpAnyT_take (i := 1) (oi := { dst := some 152, op := Op.load 23 (Operand.tmp 151), type := 23, pos := "outright.go:362", after := #[{ on := 0, ground := Ground.data }], guard := none }) (v := ?_) rfl (by kernel_rfl) (by kernel_rfl) (by kernel_rfl) (fun _ _ _ h => h) (by kernel_rfl) (by rfl) hC1 (Or.inl ⟨by rfl, ?_⟩) hH1 (fun hC2 hH2 => ?_)
                      rotate_left
                      · (intro w9 hSw; obtain ⟨hSw, hLw⟩ := hSw; have hl13 := hLw _ List.mem_cons_self rfl; dsimp only at hl13; clear hLw; (try dsimp only at hSw); (go_split_ands; go_simp); (try with_reducible rfl))
                      clear hC1 hH1
                      try simp only [Act.put, List.setIfInBounds_toArray, List.set_cons_zero, List.set_cons_succ]
                      refine wpAnyT_take (i := 2) (oi := { dst := some 153, op := Op.fieldAddr 25 (Operand.tmp 2) 2, type := 0, pos := "outright.go:362", after := #[], guard := none }) (v := ?_) rfl (by kernel_rfl) (by kernel_rfl) (by kernel_rfl) (fun _ _ _ h => h) (by kernel_rfl) (by rfl) hC2 (Or.inl ⟨by rfl, ?_⟩) hH2 (fun hC3 hH3 => ?_)
                      rotate_left
                      · (intro w9 hSw; obtain ⟨hSw, hLw⟩ := hSw; clear hLw; (try dsimp only at hSw); (go_split_ands; go_simp); (try with_reducible rfl))
                      clear hC2 hH2
                      try simp only [Act.put, List.setIfInBounds_toArray, List.set_cons_zero, List.set_cons_succ]
                      refine wpAnyT_take (i := 3) (oi := { dst := some 154, op := Op.load 23 (Operand.tmp 153), type := 23, pos := "outright.go:362", after := #[{ on := 2, ground := Ground.data }], guard := none }) (v := ?_) rfl (by kernel_rfl) (by kernel_rfl) (by kernel_rfl) (fun _ _ _ h => h) (by kernel_rfl) (by rfl) hC3 (Or.inl ⟨by rfl, ?_⟩) hH3 (fun hC4 hH4 => ?_)
                      rotate_left
                      · (intro w9 hSw; obtain ⟨hSw, hLw⟩ := hSw; clear hLw; (try dsimp only at hSw); (go_split_ands; go_simp); (try with_reducible rfl))
                      clear hC3 hH3
                      try simp only [Act.put, List.setIfInBounds_toArray, List.set_cons_zero, List.set_cons_succ]
                      refine wpAnyT_take (i := 4) (oi := { dst := some 155, op := Op.move (Operand.tmp 5), type := 3, pos := "outright.go:362", after := #[], guard := none }) (v := ?_) rfl (by kernel_rfl) (by kernel_rfl) (by kernel_rfl) (fun _ _ _ h => h) (by kernel_rfl) (by rfl) hC4 (Or.inl ⟨by rfl, ?_⟩) hH4 (fun hC5 hH5 => ?_)
                      rotate_left
                      · (intro w9 hSw; obtain ⟨hSw, hLw⟩ := hSw; clear hLw; (try dsimp only at hSw); (go_split_ands; go_simp); (try with_reducible rfl))
                      clear hC4 hH4
                      try simp only [Act.put, List.setIfInBounds_toArray, List.set_cons_zero, List.set_cons_succ]
                      refine wpAnyT_take (i := 5) (oi := { dst := some 156, op := Op.binOp BinOp.sub 3 (Operand.tmp 155) (Operand.const (Value.int IntKind.i64 1)) 3, type := 3, pos := "outright.go:362", after := #[{ on := 4, ground := Ground.data }], guard := none }) (v := ?_) rfl (by kernel_rfl) (by kernel_rfl) (by kernel_rfl) (fun _ _ _ h => h) (by kernel_rfl) (by rfl) hC5 (Or.inl ⟨by rfl, ?_⟩) hH5 (fun hC6 hH6 => ?_)
                      rotate_left
                      · (intro w9 hSw; obtain ⟨hSw, hLw⟩ := hSw; clear hLw; (try dsimp only at hSw); (go_split_ands; go_simp); (try with_reducible rfl))
                      clear hC5 hH5
                      try simp only [Act.put, List.setIfInBounds_toArray, List.set_cons_zero, List.set_cons_succ]
                      refine wpAnyT_take (i := 6) (oi := { dst := some 157, op := Op.move (Operand.tmp 11), type := 3, pos := "outright.go:362", after := #[], guard := none }) (v := ?_) rfl (by kernel_rfl) (by kernel_rfl) (by kernel_rfl) (fun _ _ _ h => h) (by kernel_rfl) (by rfl) hC6 (Or.inl ⟨by rfl, ?_⟩) hH6 (fun hC7 hH7 => ?_)
                      rotate_left
                      · (intro w9 hSw; obtain ⟨hSw, hLw⟩ := hSw; clear hLw; (try dsimp only at hSw); (go_split_ands; go_simp); (try with_reducible rfl))
                      clear hC6 hH6
                      try simp only [Act.put, List.setIfInBounds_toArray, List.set_cons_zero, List.set_cons_succ]
                      refine wpAnyT_take (i := 7) (oi := { dst := some 158, op := Op.binOp BinOp.sub 3 (Operand.tmp 156) (Operand.tmp 157) 3, type := 3, pos := "outright.go:362", after := #[{ on := 5, ground := Ground.data }, { on := 6, ground := Ground.data }], guard := none }) (v := ?_) rfl (by kernel_rfl) (by kernel_rfl) (by kernel_rfl) (fun _ _ _ h => h) (by kernel_rfl) (by rfl) hC7 (Or.inl ⟨by rfl, ?_⟩) hH7 (fun hC8 hH8 => ?_)
                      rotate_left
                      · (intro w9 hSw; obtain ⟨hSw, hLw⟩ := hSw; clear hLw; (try dsimp only at hSw); (go_split_ands; go_simp); (try with_reducible rfl))
                      clear hC7 hH7
                      try simp only [Act.put, List.setIfInBounds_toArray, List.set_cons_zero, List.set_cons_succ]
                      refine wpAnyT_take (i := 8) (oi := { dst := some 159, op := Op.indexAddr 23 (Operand.tmp 154) (Operand.tmp 158), type := 0, pos := "outright.go:362", after := #[{ on := 3, ground := Ground.data }, { on := 7, ground := Ground.data }], guard := none }) (v := ?_) rfl (by kernel_rfl) (by kernel_rfl) (by kernel_rfl) (fun _ _ _ h => h) (by kernel_rfl) (by rfl) hC8 (Or.inl ⟨by rfl, ?_⟩) hH8 (fun hC9 hH9 => ?_)
                      rotate_left
                      · (intro w9 hSw; obtain ⟨hSw, hLw⟩ := hSw; clear hLw; (try dsimp only at hSw); (go_split_ands; go_simp); (try with_reducible rfl))
                      clear hC8 hH8
                      try simp only [Act.put, List.setIfInBounds_toArray, List.set_cons_zero, List.set_cons_succ]
                      refine wpAnyT_take (i := 9) (oi := { dst := some 160, op := Op.load 58 (Operand.tmp 159), type := 58, pos := "outright.go:362", after := #[{ on := 8, ground := Ground.data }], guard := none }) (v := ?_) rfl (by kernel_rfl) (by kernel_rfl) (by kernel_rfl) (fun _ _ _ h => h) (by kernel_rfl) (by rfl) hC9 (Or.inl ⟨by rfl, ?_⟩) hH9 (fun hC10 hH10 => ?_)
                      rotate_left
                      · (intro w9 hSw; obtain ⟨hSw, hLw⟩ := hSw; clear hLw; (try dsimp only at hSw); (go_split_ands; go_simp); (try with_reducible rfl))
                      clear hC9 hH9
                      try simp only [Act.put, List.setIfInBounds_toArray, List.set_cons_zero, List.set_cons_succ]
                      refine wpAnyT_one (i := 10) (o := { dst := some 161, op := Op.buildSlice 23 1 #[(0, Operand.tmp 160)], type := 23, pos := "outright.go:362", after := #[{ on := 9, ground := Ground.data }], guard := none }) (by kernel_rfl) rfl (by kernel_rfl) hC10 (fun K hK => ?_)
                      clear hC10 hH10
                      go_simp
                      go_wp2_with fail
                      have P1 := Lib.hid (P0.out.new (tkCells (T j)) 58)
                      generalize World.alloc _ _ = W1c at *
                      refine hK.out _ _ ?_ (fun hC11 hH11 => ?_)
                      · refine ⟨(have hm := IW.out _ P1.out.out; ⟨cellAt hm.box 2, hm.tt.at hjl⟩), fun e he _ => ?_⟩
                        simp only [List.mem_cons, List.mem_nil_iff, or_false] at he; subst he
                        exact cellAt (P1.out.box (bb, #[.int .i64 n, .slice sa sn sc, vb], 25) (by simp)) 2
                      clear hK K
                      try simp only [Act.put, List.setIfInBounds_toArray, List.set_cons_zero, List.set_cons_succ]
                      refine wpAnyT_one (i := 11) (o := { dst := some 162, op := Op.call { callee := Callee.builtin Builtin.append, args := #[Operand.tmp 152, Operand.tmp 161], argTypes := #[23, 23] }, type := 23, pos := "outright.go:362", after := #[{ on := 1, ground := Ground.data }, { on := 10, ground := Ground.data }], guard := none }) (by kernel_rfl) rfl (by kernel_rfl) hC11 (fun K hK => ?_)
                      clear hC11 hH11
                      refine step_ownT Try.underlying23 hi0 hz0 hz1 hz2 (by rfl) (by omega) (by omega) P1.out (by rfl) (.tmp 152) (.tmp 161) (by rfl) 1 k (by rfl) (by rfl) (gb := WW.heap.size) (ys := (T j).cells) (by rfl) List.mem_cons_self (by rfl) (Tk.cells_one _) (by omega) ?_
                      intro g cap W2c hO
                      have P2 := Lib.hid (hO.sub (KB' := [(bb, #[.int .i64 n, .slice sa sn sc, vb], 25), (tb, tkCells (T k), 58), (bx, #[.int .i64 n, .slice sx sn sxc, vx], 25)]) (by intro e he; simp only [List.mem_cons, List.mem_nil_iff, or_false] at he; rcases he with rfl | rfl | rfl <;> simp))
                      clear hO P1
                      refine hK.out _ _ ?_ (fun hC12 hH12 => ?_)
                      · refine ⟨(have hm := IW.out _ P2.out.out; ⟨cellAt hm.box 2, hm.tt.at hjl⟩), fun e he _ => ?_⟩
                        simp only [List.mem_cons, List.mem_nil_iff, or_false] at he; subst he
                        exact cellAt (P2.out.box (bb, #[.int .i64 n, .slice sa sn sc, vb], 25) (by simp)) 2
                      clear hK K
                      try simp only [Act.put, List.setIfInBounds_toArray, List.set_cons_zero, List.set_cons_succ]
                      refine wpAnyT_take (i := 12) (oi := { dst := some 163, op := Op.fieldAddr 25 (Operand.tmp 8) 2, type := 0, pos := "outright.go:362", after := #[{ on := 0, ground := Ground.phase }, { on := 1, ground := Ground.phase }, { on := 2, ground := Ground.phase }, { on := 3, ground := Ground.phase }, { on := 4, ground := Ground.phase }, { on := 5, ground := Ground.phase }, { on := 6, ground := Ground.phase }, { on := 7, ground := Ground.phase }, { on := 8, ground := Ground.phase }, { on := 9, ground := Ground.phase }, { on := 10, ground := Ground.phase }, { on := 11, ground := Ground.phase }], guard := none }) (v := ?_) rfl (by kernel_rfl) (by kernel_rfl) (by kernel_rfl) (fun _ _ _ h => h) (by kernel_rfl) (by rfl) hC12 (Or.inl ⟨by rfl, ?_⟩) hH12 (fun hC13 hH13 => ?_)
                      rotate_left
                      · (intro w9 hSw; obtain ⟨hSw, hLw⟩ := hSw; clear hLw; (try dsimp only at hSw); (go_split_ands; go_simp); (try with_reducible rfl))
                      clear hC12 hH12
                      try simp only [Act.put, List.setIfInBounds_toArray, List.set_cons_zero, List.set_cons_succ]
                      refine wpAnyT_one (i := 13) (o := { dst := none, op := Op.store 23 (Operand.tmp 163) (Operand.tmp 162), type := 0, pos := "outright.go:362", after := #[{ on := 12, ground := Ground.data }, { on := 11, ground := Ground.data }, { on := 11, ground := Ground.chain }, { on := 0, ground := Ground.phase }, { on := 1, ground := Ground.phase }, { on := 2, ground := Ground.phase }, { on := 3, ground := Ground.phase }, { on := 4, ground := Ground.phase }, { on := 5, ground := Ground.phase }, { on := 6, ground := Ground.phase }, { on := 7, ground := Ground.phase }, { on := 8, ground := Ground.phase }, { on := 9, ground := Ground.phase }, { on := 10, ground := Ground.phase }, { on := 11, ground := Ground.phase }], guard := none }) (by kernel_rfl) rfl (by kernel_rfl) hC13 (fun K hK => ?_)
                      clear hC13 hH13
                      have fz := freeAt (P2.out.box (bb, #[.int .i64 n, .slice sa sn sc, vb], 25) (by simp)) 2
                      have cz := cellAt (P2.out.box (bb, #[.int .i64 n, .slice sa sn sc, vb], 25) (by simp)) 2
                      simp only [List.getElem?_toArray, List.getElem?_cons_zero, List.getElem?_cons_succ] at cz
                      go_simp
                      clear fz cz
                      have P3 := Lib.hid (show OwnT 58 8 [bx, bb] w2L [(bb, #[.int .i64 n, .slice sa sn sc, .slice (some ⟨g, 0, none⟩) (k + 1) cap], 25), (tb, tkCells (T k), 58), (bx, #[.int .i64 n, .slice sx sn sxc, vx], 25)] _ _ from P2.out.set 2 (.slice (some ⟨g, 0, none⟩) (k + 1) cap) (.inl (by simp)) (by intro e he; simp only [List.mem_cons, List.mem_nil_iff, or_false] at he; rcases he with rfl | rfl <;> dsimp only <;> omega))
                      generalize World.setCell _ _ _ = W3c at *
                      clear P2
                      refine hK.out _ _ ?_ (fun hC14 hH14 => ?_)
                      · refine ⟨(have hm := IW.out _ P3.out.out; ⟨cellAt hm.box 2, hm.tt.at hjl⟩), fun e he h => ?_⟩
                        simp only [List.mem_cons, List.mem_nil_iff, or_false] at he; subst he
                        exact absurd h (by intro hx; exact Bool.false_ne_true (hx.symm.trans (by kernel_rfl)))
                      clear hK K
                      try simp only [Act.put]
                      refine wpAnyT_done (by kernel_rfl) ?_ _
                      clear hC14 hH14
                      have hvs : tkVals (backT T tn) k ++ (T j).cells.toList = tkVals (backT T tn) (k + 1) := by rw [tkVals_succ, show backT T tn k = T j by unfold backT; congr 1; have := HJ.out; omega]
                      simp only [List.set_cons_succ, List.set_cons_zero] at P3
                      rw [hvs] at P3
                      have P4 := Lib.hid (P3.out.sub (KB' := [(tb, tkCells (T k), 58), (bx, #[.int .i64 n, .slice sx sn sxc, vx], 25), (bb, #[.int .i64 n, .slice sa sn sc, .slice (some ⟨g, 0, none⟩) (k + 1) cap], 25)]) (by intro e he; simp only [List.mem_cons, List.mem_nil_iff, or_false] at he; rcases he with rfl | rfl | rfl <;> simp))
                      clear hvs hix e1 e2 P3
                      refine HKK.out _ _ ?_
                      (repeat apply Exists.intro)
                      refine ⟨?_, rfl⟩
                      exact ⟨_, P4.out⟩
                    case rest =>
                      obtain ⟨vb', ho⟩ := hcut
                      have O7 := Lib.hid ho
                      clear O5 ho IR e2 HJ hjl
                      have IR := Lib.hid (IW.out _ O7.out.out)
                      have BT := O7.out.box (tb, tkCells (T k), 58) List.mem_cons_self
                      obtain ⟨t0, t1, t2, t3, t4, t5, t6, t7⟩ := tkX BT
                      have f0 := freeAt BT 0
                      have f1 := freeAt BT 1
                      obtain ⟨q0, q1, q2⟩ := wgX IR.out.box
                      obtain ⟨h0, h1, h2, h3⟩ := HV.out.tk k hlt
                      have hbt : tb ≠ w.heap.size := by omega
                      have O8 := Lib.hid (show OwnT 58 8 [bx, bb] w2L [(tb, tkCells (turnT T n sn k), 58), (bx, #[.int .i64 n, .slice sx sn sxc, vx], 25), (bb, #[.int .i64 n, .slice sa sn sc, vb'], 25)] _ _ from
                        (O7.out.set 0 (.int .i64 (n - 1 - (T k).crew)) (.inr ltb) (by intro e he; simp only [List.mem_cons, List.mem_nil_iff, or_false] at he; rcases he with rfl | rfl <;> dsimp only <;> omega)).set 1 (.int .i64 (sn - 1 - (T k).seam)) (.inr ltb) (by intro e he; simp only [List.mem_cons, List.mem_nil_iff, or_false] at he; rcases he with rfl | rfl <;> dsimp only <;> omega))
                      clear BT
                      go_upto_region 22 with (fail)
                      clear t0 t1 t2 t3 t4 t5 t6 t7 f0 f1 q0 q1 q2 O7 IR
                      generalize World.setCell _ _ _ = W8 at *
                      obtain ⟨t0, t1, t2, t3, t4, t5, t6, t7⟩ := tkX (O8.out.box _ List.mem_cons_self)
                      have x2 := cellAt (O8.out.box (bx, #[.int .i64 n, .slice sx sn sxc, vx], 25) (by simp)) 2
                      simp only [List.getElem?_toArray, List.getElem?_cons_zero, List.getElem?_cons_succ] at x2
                      obtain ⟨i0, hi0, hz0, hz1, hz2⟩ := info58'
                      have O9 := Lib.hid (O8.out.new (tkCells (turnT T n sn k)) 58)
                      go_wp2_with (at_builtin; refine wpList_ownT Try.underlying23 hi0 hz0 hz1 hz2 rfl (by omega) (by omega) O9.out rfl (.tmp 178) (.tmp 180) rfl 0 k rfl rfl (gb := W8.heap.size) (ys := (turnT T n sn k).cells) rfl List.mem_cons_self rfl (Tk.cells_one _) (by omega) ?_)
                      intro g cap W9 hO
                      rw [← tkVals_succ] at hO
                      have O10 := Lib.hid (hO.sub (KB' := [(bx, #[.int .i64 n, .slice sx sn sxc, vx], 25), (bb, #[.int .i64 n, .slice sa sn sc, vb'], 25)]) (by intro e he; simp only [List.mem_cons, List.mem_nil_iff, or_false] at he; rcases he with rfl | rfl <;> simp))
                      clear hO O9 O8 t0 t1 t2 t3 t4 t5 t6 t7 x2
                      have fz := freeAt (O10.out.box (bx, #[.int .i64 n, .slice sx sn sxc, vx], 25) (by simp)) 2
                      have cz := cellAt (O10.out.box (bx, #[.int .i64 n, .slice sx sn sxc, vx], 25) (by simp)) 2
                      simp only [List.getElem?_toArray, List.getElem?_cons_zero, List.getElem?_cons_succ] at cz
                      have O11 := Lib.hid (show OwnT 58 8 [bx, bb] w2L [(bx, #[.int .i64 n, .slice sx sn sxc, .slice (some ⟨g, 0, none⟩) (k + 1) cap], 25), (bb, #[.int .i64 n, .slice sa sn sc, vb'], 25)] [(.slice (some ⟨g, 0, none⟩) (k + 1) cap, k + 1, tkVals (turnT T n sn) (k + 1)), (vb', k + 1, tkVals (backT T tn) (k + 1))] _ from
                        O10.out.set 2 (.slice (some ⟨g, 0, none⟩) (k + 1) cap) (.inl (by simp)) (by intro e he; simp only [List.mem_cons, List.mem_nil_iff, or_false] at he; subst he; dsimp only; omega))
                      go_wp2_with fail
                      exact ⟨⟨k + 1, hlt, by go_num, rfl, _, _, O11.out⟩, by simp [intOf]; omega⟩
              · obtain rfl : tn = k := by omega
                have hvx : wr.ownsRow w2L.heap.size 58 8 vx tn (tkVals (turnT T n sn) tn) := O3.out.own _ List.mem_cons_self
                have hvb : wr.ownsRow w2L.heap.size 58 8 vb tn (tkVals (backT T tn) tn) := O3.out.own _ (List.mem_cons_of_mem _ List.mem_cons_self)
                obtain ⟨tx, txc, rfl, htx, -⟩ := own_ticks hvx (by unfold maxLen; omega)
                obtain ⟨ub, ubc, rfl, hub, -⟩ := own_ticks hvb (by unfold maxLen; omega)
                have I7 := Lib.hid (IW.out _ O3.out.out)
                have BX := Lib.hid (O3.out.box _ List.mem_cons_self)
                have BB := Lib.hid (O3.out.box _ (List.mem_cons_of_mem _ List.mem_cons_self))
                have SX := Lib.hid (SW.out _ O3.out.out)
                have TX := Lib.hid htx
                have UB := Lib.hid hub
                clear hvx hvb htx hub O3 IW SW
                have E0 := Lib.hid (show BoxAt (wr.alloc (.cells #[] 58)) wr.heap.size #[] 58 from heap_alloc_new _ _)
                have T0 := Lib.hid (TicketsAt.grow I7.out.tt ((Below.refl _ _).alloc (Nat.le_refl _) (.cells #[] 58)))
                have L0 := Lib.hid (((Below.refl wr.heap.size wr).alloc (Nat.le_refl _) (.cells #[] 58)).size)
                have xa := fun o => cellAt (BoxAt.grow I7.out.box ((Below.refl _ _).alloc (Nat.le_refl _) o)) 2
                simp only [List.getElem?_toArray, List.getElem?_cons_zero, List.getElem?_cons_succ] at xa
                go_wp2_with (at_builtin; refine wpList_tks rfl (.tmp 184) (.tmp 186) rfl (n := 0) rfl (own_nilbox E0.out (Nat.le_refl _)) rfl T0.out (by omega) (.inl rfl) L0.out ?_)
                intro kp kc W9 ho hg _
                try simp only [Nat.zero_add, List.nil_append] at ho
                try simp only [Nat.zero_add]
                have hb9 : Below wr.heap.size wr W9 := ((Below.refl wr.heap.size wr).alloc (Nat.le_refl _) (.cells #[] 58)).grown hg (by simp) (fun k e => by cases e; exact Nat.le_refl _)
                have Z1 := Lib.hid (show TD w n sa ta sn sc tn tc S T bx bb sx sxc tx txc ub ubc kp W9 from ⟨I7.out.grow hb9, BX.out.grow hb9, BB.out.grow hb9, SX.out.grow hb9, TX.out.grow hb9, UB.out.grow hb9, own_tickets ho (by unfold maxLen; omega)⟩)
                clear ho hg hb9 xa E0 T0 L0 I7 BX BB SX TX UB
                obtain ⟨tie, etie⟩ : ∃ b, b = tieN T tn := ⟨_, rfl⟩
                rw [← etie]
                have HT := Lib.hid etie
                clear etie
                obtain ⟨q0, q1, q2⟩ := wgX Z1.out.wb.box
                go_wp2_with fail
                clear q0 q1 q2
                go_loopw [190] (fun v wi => ∃ c : Nat, c ≤ n ∧ v = .int .i64 c ∧ TD w n sa ta sn sc tn tc S T bx bb sx sxc tx txc ub ubc kp wi) (fun v _ => n - (intOf v).toNat)
                case atStart => exact ⟨0, Nat.zero_le _, rfl, Z1.out⟩
                case round =>
                  clear Z1
                  obtain ⟨c, hc, rfl, hz⟩ := hrel
                  have Z2 := Lib.hid hz
                  clear hz
                  obtain ⟨q0, q1, q2⟩ := wgX Z2.out.wb.box
                  by_cases hlt : c < n
                  · clear_value *
                    as_aux_lemma =>
                      have hv2 := turn_valid HV.out
                      have hv3 := back_valid HV.out
                      have CD := Lib.hid (fun W (h1 : SeamsAt W sa sn S) (h2 : TicketsAt W ta tn T) => (dues_any n sa ta sn sc tn tc S T c W h1 h2).mono fun e w' h => h.yes HV.out (by rw [inB_iff.2 ⟨by omega, by omega⟩]))
                      have CE := Lib.hid (fun W (h1 : SeamsAt W sx sn (turnS S sn)) (h2 : TicketsAt W tx tn (turnT T n sn)) => (dues_any n sx tx sn sxc tn txc (turnS S sn) (turnT T n sn) (n - 1 - c) W h1 h2).mono fun e w' h => h.yes hv2 (by rw [inB_iff.2 ⟨by omega, by omega⟩]))
                      have CF := Lib.hid (fun W (h1 : SeamsAt W sa sn S) (h2 : TicketsAt W ub tn (backT T tn)) => (dues_any n sa ub sn sc tn ubc S (backT T tn) c W h1 h2).mono fun e w' h => h.yes hv3 (by rw [inB_iff.2 ⟨by omega, by omega⟩]))
                      rw [turn_least, turn_most, turn_coins _ (by omega) (by omega), turn_coins _ (by omega) (by omega)] at CE
                      have hd0 : tie = false → coinsOf S (backT T tn) (leastK c (backT T tn)) sn tn c = coinsOf S T (leastK c T) sn tn c := fun e => back_coins (truth_leastK HV.out c) (by rw [← HT.out]; exact e) c
                      have hd1 : tie = false → coinsOf S (backT T tn) (mostK c (backT T tn)) sn tn c = coinsOf S T (mostK c T) sn tn c := fun e => back_coins (truth_mostK HV.out c) (by rw [← HT.out]; exact e) c
                      obtain ⟨a0, ea0⟩ : ∃ x, x = coinsOf S T (leastK c T) sn tn c := ⟨_, rfl⟩
                      obtain ⟨a1, ea1⟩ : ∃ x, x = coinsOf S T (mostK c T) sn tn c := ⟨_, rfl⟩
                      obtain ⟨d0, ed0⟩ : ∃ x, x = coinsOf S (backT T tn) (leastK c (backT T tn)) sn tn c := ⟨_, rfl⟩
                      obtain ⟨d1, ed1⟩ : ∃ x, x = coinsOf S (backT T tn) (mostK c (backT T tn)) sn tn c := ⟨_, rfl⟩
                      rw [← ea0, ← ea1] at CD CE
                      rw [← ed0, ← ed1] at CF
                      rw [← ea0, ← ed0] at hd0
                      rw [← ea1, ← ed1] at hd1
                      have HD := Lib.hid (And.intro hd0 hd1)
                      clear ea0 ea1 ed0 ed1 hd0 hd1 hv2 hv3
                      go_wp2_with (go_at_call 21; refine (CD.out _ Z2.out.wb.ss Z2.out.wb.tt).mono ?_)
                      intro e w6
                      first | rintro rfl hbw6 | rintro ⟨rfl, hbw6⟩
                      have hba := ((Below.refl w6.heap.size w6).alloc (Nat.le_refl _) (.cells #[.int .i64 a0, .int .i64 a1] 29))
                      have Z3 := Lib.hid ((Z2.out.grow hbw6).grow hba)
                      have D6 := Lib.hid (show BoxAt (w6.alloc (.cells #[.int .i64 a0, .int .i64 a1] 29)) w6.heap.size #[.int .i64 a0, .int .i64 a1] 29 from heap_alloc_new _ _)
                      clear hbw6 hba Z2 q0 q1 q2 CD
                      obtain ⟨q0, q1, q2⟩ := wgX Z3.out.x
                      obtain ⟨p0, -, -⟩ := wgX Z3.out.wb.box
                      go_wp2_with (go_at_call 21; refine (CE.out _ Z3.out.ss Z3.out.xt).mono ?_)
                      generalize hW : World.alloc _ _ = W6 at *
                      intro e w7
                      first | rintro rfl hbw7 | rintro ⟨rfl, hbw7⟩
                      have hba := ((Below.refl w7.heap.size w7).alloc (Nat.le_refl _) (.cells #[.int .i64 a0, .int .i64 a1] 29))
                      have Z4 := Lib.hid ((Z3.out.grow hbw7).grow hba)
                      have E7 := Lib.hid ((D6.out.grow hbw7).grow hba)
                      have D7 := Lib.hid (show BoxAt (w7.alloc (.cells #[.int .i64 a0, .int .i64 a1] 29)) w7.heap.size #[.int .i64 a0, .int .i64 a1] 29 from heap_alloc_new _ _)
                      clear hbw7 hba Z3 D6 hW q0 q1 q2 p0 CE
                      obtain ⟨q0, q1, q2⟩ := wgX Z4.out.b
                      go_wp2_with (go_at_call 21; refine (CF.out _ Z4.out.wb.ss Z4.out.bt).mono ?_)
                      generalize hW : World.alloc _ _ = W7 at *
                      intro e w8
                      first | rintro rfl hbw8 | rintro ⟨rfl, hbw8⟩
                      have hba := ((Below.refl w8.heap.size w8).alloc (Nat.le_refl _) (.cells #[.int .i64 d0, .int .i64 d1] 29))
                      have Z5 := Lib.hid ((Z4.out.grow hbw8).grow hba)
                      have E8 := Lib.hid ((E7.out.grow hbw8).grow hba)
                      have F8 := Lib.hid ((D7.out.grow hbw8).grow hba)
                      have D8 := Lib.hid (show BoxAt (w8.alloc (.cells #[.int .i64 d0, .int .i64 d1] 29)) w8.heap.size #[.int .i64 d0, .int .i64 d1] 29 from heap_alloc_new _ _)
                      clear hbw8 hba Z4 E7 D7 hW q0 q1 q2 CF
                      go_upto_region 31 with (fail)
                      generalize hW : World.alloc _ _ = W8 at *
                      clear hW
                      go_cut [238] from 215 to 237 (fun v W => v = .bool false ∧ TD w n sa ta sn sc tn tc S T bx bb sx sxc tx txc ub ubc kp W)
                      case first =>
                        have y0 := cellAt E8.out 0
                        have y1 := cellAt E8.out 1
                        have y2 := cellAt F8.out 0
                        have y3 := cellAt F8.out 1
                        have y4 := cellAt D8.out 0
                        have y5 := cellAt D8.out 1
                        simp only [List.getElem?_toArray, List.getElem?_cons_zero, List.getElem?_cons_succ] at y0 y1 y2 y3 y4 y5
                        cases tie with
                        | true =>
                          go_wp2_with fail
                          go_meet
                          case rel => exact ⟨rfl, Z5.out⟩
                        | false =>
                          obtain ⟨rfl, rfl⟩ : d0 = a0 ∧ d1 = a1 := ⟨HD.out.1 rfl, HD.out.2 rfl⟩
                          go_wp2_with fail
                          go_meet
                          case rel => exact ⟨rfl, Z5.out⟩
                      case rest =>
                        obtain ⟨rfl, hz⟩ := hcut
                        have Z6 := Lib.hid hz
                        clear hz Z5 E8 F8 D8 HD
                        obtain ⟨q0, q1, q2⟩ := wgX Z6.out.wb.box
                        go_wp2_with fail
                        clear q0 q1 q2
                        obtain ⟨wo, rfl⟩ : ∃ wo : World, wo = wc := ⟨_, rfl⟩
                        go_loopw [242] (fun v wi => ∃ s : Nat, s ≤ sn ∧ v = .int .i64 s ∧ TD w n sa ta sn sc tn tc S T bx bb sx sxc tx txc ub ubc kp wi) (fun v _ => sn - (intOf v).toNat)
                        case atStart => exact ⟨0, Nat.zero_le _, rfl, Z6.out⟩
                        case round =>
                          clear Z6
                          obtain ⟨s, hs, rfl, hz⟩ := hrel
                          have Z2 := Lib.hid hz
                          clear hz
                          obtain ⟨q0, q1, q2⟩ := wgX Z2.out.wb.box
                          by_cases hls : s < sn
                          · have hv2 := turn_valid HV.out
                            have hv3 := back_valid HV.out
                            have CD := Lib.hid (fun W (h1 : SeamsAt W sa sn S) (h2 : TicketsAt W ta tn T) => (fathoms_any n sa ta sn sc tn tc S T s c W h1 h2).mono fun e w' h => h.yes HV.out (by rw [inB_iff.2 ⟨by omega, by omega⟩, inB_iff.2 ⟨by omega, by omega⟩]; rfl))
                            have CE := Lib.hid (fun W (h1 : SeamsAt W sx sn (turnS S sn)) (h2 : TicketsAt W tx tn (turnT T n sn)) => (fathoms_any n sx tx sn sxc tn txc (turnS S sn) (turnT T n sn) (sn - 1 - s) (n - 1 - c) W h1 h2).mono fun e w' h => h.yes hv2 (by rw [inB_iff.2 ⟨by omega, by omega⟩, inB_iff.2 ⟨by omega, by omega⟩]; rfl))
                            have CF := Lib.hid (fun W (h1 : SeamsAt W sa sn S) (h2 : TicketsAt W ub tn (backT T tn)) => (fathoms_any n sa ub sn sc tn ubc S (backT T tn) s c W h1 h2).mono fun e w' h => h.yes hv3 (by rw [inB_iff.2 ⟨by omega, by omega⟩, inB_iff.2 ⟨by omega, by omega⟩]; rfl))
                            rw [turn_least, turn_most, turn_many _ hls (by omega) (by omega), turn_many _ hls (by omega) (by omega)] at CE
                            have hd0 : tie = false → manyOf S (backT T tn) (leastK c (backT T tn)) tn s c = manyOf S T (leastK c T) tn s c := fun e => back_many (truth_leastK HV.out c) (by rw [← HT.out]; exact e) s c
                            have hd1 : tie = false → manyOf S (backT T tn) (mostK c (backT T tn)) tn s c = manyOf S T (mostK c T) tn s c := fun e => back_many (truth_mostK HV.out c) (by rw [← HT.out]; exact e) s c
                            obtain ⟨a0, ea0⟩ : ∃ x, x = manyOf S T (leastK c T) tn s c := ⟨_, rfl⟩
                            obtain ⟨a1, ea1⟩ : ∃ x, x = manyOf S T (mostK c T) tn s c := ⟨_, rfl⟩
                            obtain ⟨d0, ed0⟩ : ∃ x, x = manyOf S (backT T tn) (leastK c (backT T tn)) tn s c := ⟨_, rfl⟩
                            obtain ⟨d1, ed1⟩ : ∃ x, x = manyOf S (backT T tn) (mostK c (backT T tn)) tn s c := ⟨_, rfl⟩
                            rw [← ea0, ← ea1] at CD CE
                            rw [← ed0, ← ed1] at CF
                            rw [← ea0, ← ed0] at hd0
                            rw [← ea1, ← ed1] at hd1
                            have HD := Lib.hid (And.intro hd0 hd1)
                            clear ea0 ea1 ed0 ed1 hd0 hd1 hv2 hv3
                            go_wp2_with (go_at_call 15; refine (CD.out _ Z2.out.wb.ss Z2.out.wb.tt).mono ?_)
                            intro e w6
                            first | rintro rfl hbw6 | rintro ⟨rfl, hbw6⟩
                            have hba := ((Below.refl w6.heap.size w6).alloc (Nat.le_refl _) (.cells #[.int .i64 a0, .int .i64 a1] 29))
                            have Z3 := Lib.hid ((Z2.out.grow hbw6).grow hba)
                            have D6 := Lib.hid (show BoxAt (w6.alloc (.cells #[.int .i64 a0, .int .i64 a1] 29)) w6.heap.size #[.int .i64 a0, .int .i64 a1] 29 from heap_alloc_new _ _)
                            clear hbw6 hba Z2 q0 q1 q2 CD
                            obtain ⟨q0, q1, q2⟩ := wgX Z3.out.x
                            obtain ⟨p0, -, -⟩ := wgX Z3.out.wb.box
                            go_wp2_with (go_at_call 15; refine (CE.out _ Z3.out.ss Z3.out.xt).mono ?_)
                            generalize hW : World.alloc _ _ = W6 at *
                            intro e w7
                            first | rintro rfl hbw7 | rintro ⟨rfl, hbw7⟩
                            have hba := ((Below.refl w7.heap.size w7).alloc (Nat.le_refl _) (.cells #[.int .i64 a0, .int .i64 a1] 29))
                            have Z4 := Lib.hid ((Z3.out.grow hbw7).grow hba)
                            have E7 := Lib.hid ((D6.out.grow hbw7).grow hba)
                            have D7 := Lib.hid (show BoxAt (w7.alloc (.cells #[.int .i64 a0, .int .i64 a1] 29)) w7.heap.size #[.int .i64 a0, .int .i64 a1] 29 from heap_alloc_new _ _)
                            clear hbw7 hba Z3 D6 hW q0 q1 q2 p0 CE
                            obtain ⟨q0, q1, q2⟩ := wgX Z4.out.b
                            go_wp2_with (go_at_call 15; refine (CF.out _ Z4.out.wb.ss Z4.out.bt).mono ?_)
                            generalize hW : World.alloc _ _ = W7 at *
                            intro e w8
                            first | rintro rfl hbw8 | rintro ⟨rfl, hbw8⟩
                            have hba := ((Below.refl w8.heap.size w8).alloc (Nat.le_refl _) (.cells #[.int .i64 d0, .int .i64 d1] 29))
                            have Z5 := Lib.hid ((Z4.out.grow hbw8).grow hba)
                            have E8 := Lib.hid ((E7.out.grow hbw8).grow hba)
                            have F8 := Lib.hid ((D7.out.grow hbw8).grow hba)
                            have D8 := Lib.hid (show BoxAt (w8.alloc (.cells #[.int .i64 d0, .int .i64 d1] 29)) w8.heap.size #[.int .i64 d0, .int .i64 d1] 29 from heap_alloc_new _ _)
                            clear hbw8 hba Z4 E7 D7 hW q0 q1 q2 CF
                            go_upto_region 39 with (fail)
                            generalize hW : World.alloc _ _ = W8 at *
                            clear hW
                            go_cut [296] from 273 to 295 (fun v W => v = .bool false ∧ TD w n sa ta sn sc tn tc S T bx bb sx sxc tx txc ub ubc kp W)
                            case first =>
                              have y0 := cellAt E8.out 0
                              have y1 := cellAt E8.out 1
                              have y2 := cellAt F8.out 0
                              have y3 := cellAt F8.out 1
                              have y4 := cellAt D8.out 0
                              have y5 := cellAt D8.out 1
                              simp only [List.getElem?_toArray, List.getElem?_cons_zero, List.getElem?_cons_succ] at y0 y1 y2 y3 y4 y5
                              cases tie with
                              | true =>
                                go_wp2_with fail
                                go_meet
                                case rel => exact ⟨rfl, Z5.out⟩
                              | false =>
                                obtain ⟨rfl, rfl⟩ : d0 = a0 ∧ d1 = a1 := ⟨HD.out.1 rfl, HD.out.2 rfl⟩
                                go_wp2_with fail
                                go_meet
                                case rel => exact ⟨rfl, Z5.out⟩
                            case rest =>
                              obtain ⟨rfl, hz⟩ := hcut
                              have Z6 := Lib.hid hz
                              clear hz Z5 E8 F8 D8 HD
                              go_wp2_with fail
                              exact ⟨⟨s + 1, hls, by go_num, Z6.out⟩, by simp [intOf]; omega⟩
                          · obtain rfl : sn = s := by omega
                            go_wp2_with fail
                            exact ⟨⟨c + 1, hlt, by go_num, Z2.out⟩, by simp [intOf]; omega⟩
                  · as_aux_lemma =>
                      obtain rfl : n = c := by omega
                      have CP := Lib.hid (fun W (h1 : SeamsAt W sa sn S) (h2 : TicketsAt W ta tn T) => (paid_any n sa ta sn sc tn tc S T W h1 h2).mono fun e w' h => h.yes HV.out rfl)
                      have CQ := Lib.hid (fun W (h1 : SeamsAt W sa sn S) (h2 : TicketsAt W ub tn (backT T tn)) => (paid_any n sa ub sn sc tn ubc S (backT T tn) W h1 h2).mono fun e w' h => h.yes (back_valid HV.out) rfl)
                      have hb1 : coinsOf S (backT T tn) (mostK (-1) (backT T tn)) sn tn (-1) = coinsOf S T (mostK (-1) T) sn tn (-1) := back_left (S := S) (sn := sn) (K := mostK (-1) T) HV.out.crews
                      have hb2 : coinsOf S (backT T tn) (leastK (-1) (backT T tn)) sn tn (-1) = coinsOf S T (leastK (-1) T) sn tn (-1) := back_left (S := S) (sn := sn) (K := leastK (-1) T) HV.out.crews
                      rw [hb1, hb2] at CQ
                      obtain ⟨p0, ep0⟩ : ∃ x, x = allOf S sn - coinsOf S T (mostK (-1) T) sn tn (-1) := ⟨_, rfl⟩
                      obtain ⟨p1, ep1⟩ : ∃ x, x = allOf S sn - coinsOf S T (leastK (-1) T) sn tn (-1) := ⟨_, rfl⟩
                      rw [← ep0, ← ep1] at CP CQ
                      clear hb1 hb2 ep0 ep1
                      go_wp2_with (go_at_call 23; refine (CP.out _ Z2.out.wb.ss Z2.out.wb.tt).mono ?_)
                      intro e w6
                      first | rintro rfl hbw6 | rintro ⟨rfl, hbw6⟩
                      have hba := ((Below.refl w6.heap.size w6).alloc (Nat.le_refl _) (.cells #[.int .i64 p0, .int .i64 p1] 29))
                      have Z3 := Lib.hid ((Z2.out.grow hbw6).grow hba)
                      have D6 := Lib.hid (show BoxAt (w6.alloc (.cells #[.int .i64 p0, .int .i64 p1] 29)) w6.heap.size #[.int .i64 p0, .int .i64 p1] 29 from heap_alloc_new _ _)
                      clear hbw6 hba Z2 q0 q1 q2
                      obtain ⟨q0, q1, q2⟩ := wgX Z3.out.b
                      go_wp2_with (go_at_call 23; refine (CQ.out _ Z3.out.wb.ss Z3.out.bt).mono ?_)
                      generalize hW : World.alloc _ _ = W6 at *
                      intro e w7
                      first | rintro rfl hbw7 | rintro ⟨rfl, hbw7⟩
                      have hba := ((Below.refl w7.heap.size w7).alloc (Nat.le_refl _) (.cells #[.int .i64 p0, .int .i64 p1] 29))
                      have Z4 := Lib.hid ((Z3.out.grow hbw7).grow hba)
                      have E7 := Lib.hid ((D6.out.grow hbw7).grow hba)
                      have D7 := Lib.hid (show BoxAt (w7.alloc (.cells #[.int .i64 p0, .int .i64 p1] 29)) w7.heap.size #[.int .i64 p0, .int .i64 p1] 29 from heap_alloc_new _ _)
                      clear hbw7 hba Z3 D6 hW q0 q1 q2
                      obtain ⟨q0, q1, q2⟩ := wgX Z4.out.wb.box
                      go_wp2_with (go_at_call 33; refine (truly_own n sa ta sn sc tn tc T oa bn bc bys _ Z4.out.wb.tt (Row.grow HU.out Z4.out.wb.bel) HBD.out htn6 (fun i hi => HV.out.spans hi)).mono ?_)
                      generalize hW : World.alloc _ _ = W7 at *
                      clear hW
                      rintro e w8 ⟨v1, v2, v3, KT, rfl, hK, hown⟩
                      have hv1 : ∃ o1 c1, v1 = .slice o1 tn c1 ∧ IntsAt w8 o1 tn (fun i => (KT i).fr) := by obtain ⟨o, c, h, j, -⟩ := hown.ints (v := v1) (f := fun i => (KT i).fr) (k := tn) (by simp [threeVS]) (by unfold maxLen; omega); exact ⟨o, c, h, j⟩
                      have hv2 : ∃ o1 c1, v2 = .slice o1 tn c1 ∧ IntsAt w8 o1 tn (fun i => (KT i).to) := by obtain ⟨o, c, h, j, -⟩ := hown.ints (v := v2) (f := fun i => (KT i).to) (k := tn) (by simp [threeVS]) (by unfold maxLen; omega); exact ⟨o, c, h, j⟩
                      have hv3 : ∃ o1 c1, v3 = .slice o1 tn c1 ∧ IntsAt w8 o1 tn (fun i => (KT i).td) := by obtain ⟨o, c, h, j, -⟩ := hown.ints (v := v3) (f := fun i => (KT i).td) (k := tn) (by simp [threeVS]) (by unfold maxLen; omega); exact ⟨o, c, h, j⟩
                      obtain ⟨o1, c1, rfl, j1⟩ := hv1
                      obtain ⟨o2, c2, rfl, j2⟩ := hv2
                      obtain ⟨o3, c3, rfl, j3⟩ := hv3
                      have HK := Lib.hid hK
                      have OW := Lib.hid hown
                      have ZW := Lib.hid (fun W (h : Below W7.heap.size W7 W) => Z4.out.grow h)
                      have Z5 := Lib.hid (Z4.out.grow hown.bel)
                      have LW := Lib.hid (show W7.heap.size ≤ w8.heap.size from hown.bel.size)
                      have JW := Lib.hid (fun W (h : Below w8.heap.size w8 W) => (⟨IntsAt.grow j1 h, IntsAt.grow j2 h, IntsAt.grow j3 h⟩ : IntsAt W o1 tn (fun i => (KT i).fr) ∧ IntsAt W o2 tn (fun i => (KT i).to) ∧ IntsAt W o3 tn (fun i => (KT i).td)))
                      have E8 := Lib.hid (BoxAt.grow E7.out hown.bel)
                      have D8 := Lib.hid (BoxAt.grow D7.out hown.bel)
                      clear hK hown j1 j2 j3 q0 q1 q2 Z4 E7 D7 CP CQ
                      obtain ⟨q0, q1, q2⟩ := wgX Z5.out.wb.box
                      have hj := JW.out _ (Below.refl _ _)
                      go_wp2_with (go_at_call 25; refine (exacts_any n sa ta sn sc tn tc S T o1 o2 o3 tn c1 tn c2 tn c3 _ _ _ _ Z5.out.wb.ss Z5.out.wb.tt hj.1 hj.2.1 hj.2.2).mono ?_)
                      intro e w9 h
                      obtain ⟨g, hg, rfl, hbx9, hb9⟩ := h.yes HV.out (true_ok HV.out HK.out)
                      simp only [Int.toNat_natCast] at hbx9 ⊢
                      have Z6 := Lib.hid (Z5.out.grow hb9)
                      have HB9 := Lib.hid hb9
                      have BC := Lib.hid (show BoxAt w9 g (rowVals (fun j : Nat => coinsOf S T KT sn tn j) n).toArray 3 from hbx9)
                      have E9 := Lib.hid (BoxAt.grow E8.out hb9)
                      have D9 := Lib.hid (BoxAt.grow D8.out hb9)
                      clear h hbx9 hb9 q0 q1 q2 hj E8 D8
                      obtain ⟨q0, q1, q2⟩ := wgX Z6.out.x
                      have hj := JW.out _ HB9.out
                      go_wp2_with (go_at_call 25; refine (exacts_any n sx tx sn sxc tn txc (turnS S sn) (turnT T n sn) o1 o2 o3 tn c1 tn c2 tn c3 _ _ _ _ Z6.out.ss Z6.out.xt hj.1 hj.2.1 hj.2.2).mono ?_)
                      intro e w10 h
                      obtain ⟨g2, hg2, rfl, hbx10, hb10⟩ := h.yes (turn_valid HV.out) (true_ok (turn_valid HV.out) (fun i hi => HK.out i hi))
                      simp only [Int.toNat_natCast] at hbx10 ⊢
                      have Z7 := Lib.hid (Z6.out.grow hb10)
                      have HB10 := Lib.hid (HB9.out.next hb10)
                      have BC2 := Lib.hid (BC.out.grow hb10)
                      have BD2 := Lib.hid (show BoxAt w10 g2 (rowVals (fun j : Nat => coinsOf (turnS S sn) (turnT T n sn) KT sn tn j) n).toArray 3 from hbx10)
                      have y0 := cellAt (BoxAt.grow E9.out hb10) 0
                      have y1 := cellAt (BoxAt.grow E9.out hb10) 1
                      have y2 := cellAt (BoxAt.grow D9.out hb10) 0
                      have y3 := cellAt (BoxAt.grow D9.out hb10) 1
                      simp only [List.getElem?_toArray, List.getElem?_cons_zero, List.getElem?_cons_succ] at y0 y1 y2 y3
                      have hgg : g < g2 := by have := lt_of_heap BC.out; omega
                      clear h hbx10 hb10 q0 q1 q2 hj E9 D9 Z6 Z5 BC HB9
                      obtain ⟨q0, q1, q2⟩ := wgX Z7.out.wb.box
                      go_wp2_with fail
                      clear q0 q1 q2 y0 y1 y2 y3 Z7
                      go_loopw [367] (fun v wi => ∃ i : Nat, i ≤ n ∧ v = .int .i64 i ∧ Below w8.heap.size w8 wi ∧ BoxAt wi g (rowVals (fun j : Nat => coinsOf S T KT sn tn j) n).toArray 3 ∧ BoxAt wi g2 (rowVals (fun j : Nat => coinsOf (turnS S sn) (turnT T n sn) KT sn tn j) n).toArray 3) (fun v _ => n - (intOf v).toNat)
                      case atStart => exact ⟨0, Nat.zero_le _, rfl, HB10.out, BC2.out, BD2.out⟩
                      case round =>
                        clear HB10 BC2 BD2
                        obtain ⟨i, hi, rfl, hb, hc1, hd1⟩ := hrel
                        have HB := Lib.hid hb
                        have BC := Lib.hid hc1
                        have BD := Lib.hid hd1
                        clear hb hc1 hd1
                        by_cases hli : i < n
                        · have IZ := Lib.hid (ZW.out _ (OW.out.bel.trans (HB.out.mono LW.out)))
                          obtain ⟨q0, q1, q2⟩ := wgX IZ.out.wb.box
                          obtain ⟨j, hj, hjl⟩ : ∃ j : Nat, (n : Int) - 1 - i = j ∧ j < n := ⟨n - 1 - i, by omega, by omega⟩
                          have z1 := row_at BC.out hli
                          have z2 := row_at BD.out hjl
                          have hval : coinsOf (turnS S sn) (turnT T n sn) KT sn tn (j : Int) = coinsOf S T KT sn tn (i : Int) := turn_at hj hli
                          try dsimp only at z1 z2
                          rw [hval] at z2
                          obtain ⟨a, ea⟩ : ∃ a, a = coinsOf S T KT sn tn (i : Int) := ⟨_, rfl⟩
                          rw [← ea] at z1 z2
                          have hx1 := fun w => run_indexAt_row (w := w) (oa := some ⟨g, 0, none⟩) (cap := n) Try.underlying37 size3 rfl hli
                          have hx2 := fun w => run_indexAt_row (w := w) (oa := some ⟨g2, 0, none⟩) (cap := n) Try.underlying37 size3 rfl hjl
                          simp only [blk, ofs, Nat.zero_add, Nat.mul_one] at hx1 hx2
                          have e1 : IntKind.i64.wrap ((n : Int) - 1) = n - 1 := IntWalk.i64_in _ (by omega)
                          have e2 : IntKind.i64.wrap ((n : Int) - 1 - i) = j := i64_nat hj (by omega)
                          clear hval ea hj
                          go_wp2_with fail
                          go_cut [382] from 370 to 381 (fun v W => v = .bool false ∧ Below w8.heap.size w8 W ∧ BoxAt W g (rowVals (fun j : Nat => coinsOf S T KT sn tn j) n).toArray 3 ∧ BoxAt W g2 (rowVals (fun j : Nat => coinsOf (turnS S sn) (turnT T n sn) KT sn tn j) n).toArray 3)
                          case first =>
                            go_quiet (fail)
                            go_wp2_with fail
                            go_meet
                            case rel => exact ⟨by simp, below_drewN HB.out _, BC.out.grow (below_drewN (Below.refl _ _) _), BD.out.grow (below_drewN (Below.refl _ _) _)⟩
                          case rest =>
                            obtain ⟨rfl, hb, hc1, hd1⟩ := hcut
                            clear q0 q1 q2 z1 z2 hx1 hx2 e1 e2 HB BC BD IZ
                            go_wp2_with fail
                            exact ⟨⟨i + 1, hli, by go_num, hb, hc1, hd1⟩, by simp [intOf]; omega⟩
                        · obtain rfl : n = i := by omega
                          have EB := Lib.hid (show BoxAt (wr.alloc (.cells #[] 3)) wr.heap.size #[] 3 from heap_alloc_new _ _)
                          have CB := Lib.hid (BC.out.grow (ba wr (.cells #[] 3)))
                          go_wp2_with (at_builtin; refine wpList_ints rfl (.tmp 384) (.tmp 385) rfl rfl EB.out rfl CB.out (by omega) (by omega) ?_)
                          intro gk kcap W11 hk hgr hle _
                          have hb11 : Below wr.heap.size wr W11 := (ba wr (.cells #[] 3)).grown hgr (by simp) (fun k e => by cases e; exact Nat.le_refl _)
                          have KI := Lib.hid hk
                          have BC2 := Lib.hid (BC.out.grow hb11)
                          have HB2 := Lib.hid (HB.out.next hb11)
                          have hgk : g ≠ gk := by have := lt_of_heap BC.out; omega
                          clear hk hgr hle hb11 EB CB HB BC BD
                          go_wp2_with fail
                          go_loopw [389] (fun v wi => ∃ i : Nat, i ≤ n ∧ v = .int .i64 i ∧ Below w8.heap.size w8 wi ∧ (∃ F, BoxAt wi g (rowVals F n).toArray 3) ∧ IntsAt wi (some ⟨gk, 0, none⟩) n (fun j : Nat => coinsOf S T KT sn tn j)) (fun v _ => n - (intOf v).toNat)
                          case atStart => exact ⟨0, Nat.zero_le _, rfl, HB2.out, ⟨_, BC2.out⟩, KI.out⟩
                          case round =>
                            clear HB2 BC2 KI
                            obtain ⟨i, hi, rfl, hb, ⟨F, hc1⟩, hk⟩ := hrel
                            have HB := Lib.hid hb
                            have BC := Lib.hid hc1
                            have KI := Lib.hid hk
                            clear hb hc1 hk
                            by_cases hli : i < n
                            · have z1 := row_at BC.out hli
                              have f1 := freeAt BC.out i
                              have hx1 := fun w => run_indexAt_row (w := w) (oa := some ⟨g, 0, none⟩) (cap := n) Try.underlying37 size3 rfl hli
                              simp only [blk, ofs, Nat.zero_add, Nat.mul_one] at hx1
                              go_wp2_with fail
                              exact ⟨⟨i + 1, hli, by go_num, HB.out.setCell hg _, ⟨_, row_store BC.out i (-9)⟩, IntsAt.set KI.out _ _ (fun _ => hgk)⟩, by simp [intOf]; omega⟩
                            · obtain rfl : n = i := by omega
                              have IZ := Lib.hid (ZW.out _ (OW.out.bel.trans (HB.out.mono LW.out)))
                              obtain ⟨q0, q1, q2⟩ := wgX IZ.out.wb.box
                              have hj := JW.out _ HB.out
                              go_wp2_with (go_at_call 25; refine (exacts_any n sa ta sn sc tn tc S T o1 o2 o3 tn c1 tn c2 tn c3 _ _ _ _ IZ.out.wb.ss IZ.out.wb.tt hj.1 hj.2.1 hj.2.2).mono ?_)
                              intro e w12 h
                              obtain ⟨g3, hg3, rfl, hbx12, hb12⟩ := h.yes HV.out (true_ok HV.out HK.out)
                              simp only [Int.toNat_natCast] at hbx12 ⊢
                              have CI := Lib.hid (same_any n kcap g3 gk (fun j : Nat => coinsOf S T KT sn tn j) w12 (ints_box hbx12 (by unfold maxLen; omega)) (IntsAt.grow KI.out hb12))
                              have HB12 := Lib.hid (HB.out.next hb12)
                              clear h hbx12 hb12 q0 q1 q2 hj hg3 IZ KI BC HB
                              go_wp2_with (go_at_call 27; refine CI.out.mono ?_; rintro e w13 ⟨rfl, hb13⟩)
                              have HB13 := Lib.hid (HB12.out.next hb13)
                              clear hb13 CI HB12
                              have O0 := Lib.hid ((OW.out.grow (HB13.out.mono (by have := LW.out; omega))).drew)
                              go_cut [46, 47] from 412 to 421 (fun _ u W => u = .int .i64 2 ∧ Below W7.heap.size W7 W)
                              case first =>
                                rename_i J1 K1 hJ hK1
                                have HKK := Lib.hid (fun a' w' h => hK1 a' w' (Met.intro (hJ a' w' h)))
                                clear hJ hK1
                                go_light
                                refine wp_region_held_drew (S := (fun w' => w'.cell? ⟨w.heap.size, 0, none⟩ = some (.int .i64 n) ∧ w'.cell? ⟨w.heap.size, 1, none⟩ = some (.slice sa sn sc) ∧ w'.cell? ⟨w.heap.size, 2, none⟩ = some (.slice ta tn tc))) (by kernel_rfl) (by exact (have hm := (ZW.out _ O0.out.bel).wb.box; ⟨cellAt hm 0, cellAt hm 1, cellAt hm 2⟩)) (fun hHeld => ?_)
                                refine wpAnyH_take (i := 0) (oi := { dst := some 413, op := Op.load 25 (Operand.tmp 2), type := 25, pos := "outright.go:404", after := #[], guard := none }) (v := ?_) rfl (by kernel_rfl) (by kernel_rfl) (by kernel_rfl) (fun _ _ _ h => h) (Or.inl ⟨by rfl, ?_⟩) (by assumption) ?_
                                rotate_left
                                · (intro w9 hSw; (try dsimp only at hSw); (go_split_ands; go_simp); (try with_reducible rfl))
                                try simp only [Act.put, List.setIfInBounds_toArray, List.set_cons_zero, List.set_cons_succ]
                                refine wpAnyH_take (i := 1) (oi := { dst := some 414, op := Op.move (Operand.tmp 34), type := 37, pos := "outright.go:404", after := #[], guard := none }) (v := ?_) rfl (by kernel_rfl) (by kernel_rfl) (by kernel_rfl) (fun _ _ _ h => h) (Or.inl ⟨by rfl, ?_⟩) (by assumption) ?_
                                rotate_left
                                · (intro w9 hSw; (try dsimp only at hSw); (go_split_ands; go_simp); (try with_reducible rfl))
                                try simp only [Act.put, List.setIfInBounds_toArray, List.set_cons_zero, List.set_cons_succ]
                                refine wpAnyH_take (i := 4) (oi := { dst := some 417, op := Op.move (Operand.tmp 35), type := 37, pos := "outright.go:404", after := #[], guard := none }) (v := ?_) rfl (by kernel_rfl) (by kernel_rfl) (by kernel_rfl) (fun _ _ _ h => h) (Or.inl ⟨by rfl, ?_⟩) (by assumption) ?_
                                rotate_left
                                · (intro w9 hSw; (try dsimp only at hSw); (go_split_ands; go_simp); (try with_reducible rfl))
                                try simp only [Act.put, List.setIfInBounds_toArray, List.set_cons_zero, List.set_cons_succ]
                                refine wpAnyH_take (i := 5) (oi := { dst := some 418, op := Op.move (Operand.tmp 36), type := 37, pos := "outright.go:404", after := #[], guard := none }) (v := ?_) rfl (by kernel_rfl) (by kernel_rfl) (by kernel_rfl) (fun _ _ _ h => h) (Or.inl ⟨by rfl, ?_⟩) (by assumption) ?_
                                rotate_left
                                · (intro w9 hSw; (try dsimp only at hSw); (go_split_ands; go_simp); (try with_reducible rfl))
                                try simp only [Act.put, List.setIfInBounds_toArray, List.set_cons_zero, List.set_cons_succ]
                                refine wpAnyH_ready (rs := [2]) (by kernel_rfl) (by simp) ?_
                                refine AllReadyH.cons (o := { dst := some 415, op := Op.buildSlice 37 1 #[(0, Operand.const (Value.int IntKind.i64 0))], type := 37, pos := "outright.go:404", after := #[], guard := none }) rfl (fun K hK => ?_) (AllReadyH.nil)
                                clear hHeld
                                refine step_box O0.out (by rfl) (.const (.int .i64 0)) (by rfl) (y := 0) (by rfl) ?_
                                intro gb W65 hO
                                have O1 := Lib.hid hO
                                clear hO O0
                                refine hK.out _ _ ?_ (fun hHeld => ?_)
                                · exact (have hm := (ZW.out _ O1.out.bel).wb.box; ⟨cellAt hm 0, cellAt hm 1, cellAt hm 2⟩)
                                clear hK K
                                try simp only [Act.put, List.setIfInBounds_toArray, List.set_cons_zero, List.set_cons_succ]
                                refine wpAnyH_ready (rs := [3]) (by kernel_rfl) (by simp) ?_
                                refine AllReadyH.cons (o := { dst := some 416, op := Op.call { callee := Callee.builtin Builtin.append, args := #[Operand.tmp 414, Operand.tmp 415], argTypes := #[37, 37] }, type := 37, pos := "outright.go:404", after := #[{ on := 1, ground := Ground.data }, { on := 2, ground := Ground.data }], guard := none }) rfl (fun K hK => ?_) (AllReadyH.nil)
                                clear hHeld
                                refine step_own_n O1.out (by rfl) (.tmp 414) (.tmp 415) (by rfl) 0 tn (by rfl) (by rfl) (gb := gb) (y := .int .i64 0) (by rfl) List.mem_cons_self (by rfl) (rowVals_length _ _) (by omega) ?_
                                intro g5 cap5 W66 hO
                                rw [← rowVals_ext (fun x => x.fr) KT tn ⟨0, 0, 0⟩] at hO
                                have O2 := Lib.hid hO
                                clear hO O1
                                refine hK.out _ _ ?_ (fun hHeld => ?_)
                                · exact (have hm := (ZW.out _ O2.out.bel).wb.box; ⟨cellAt hm 0, cellAt hm 1, cellAt hm 2⟩)
                                clear hK K
                                try simp only [Act.put, List.setIfInBounds_toArray, List.set_cons_zero, List.set_cons_succ]
                                refine wpAnyH_ready (rs := [6]) (by kernel_rfl) (by simp) ?_
                                refine AllReadyH.cons (o := { dst := some 419, op := Op.call { callee := Callee.value (Operand.func 25), args := #[Operand.tmp 413, Operand.tmp 416, Operand.tmp 417, Operand.tmp 418], argTypes := #[25, 37, 37, 37] }, type := 39, pos := "outright.go:404", after := #[{ on := 0, ground := Ground.data }, { on := 3, ground := Ground.data }, { on := 4, ground := Ground.data }, { on := 5, ground := Ground.data }, { on := 3, ground := Ground.chain }], guard := none }) rfl (fun K hK => ?_) (AllReadyH.nil)
                                clear hHeld
                                have i1 : IntsAt W66 (some ⟨g5, 0, none⟩) (tn + 1) (fun i => (extK KT tn ⟨0, 0, 0⟩ i).fr) := by obtain ⟨oa, cp, h, j, -⟩ := O2.out.ints (v := .slice (some ⟨g5, 0, none⟩) (tn + 1) cap5) (f := fun i => (extK KT tn ⟨0, 0, 0⟩ i).fr) (k := tn + 1) (by simp [threeVS]) (by unfold maxLen; omega); simp only [Value.slice.injEq] at h; rw [← h.1] at j; exact j
                                have i2 : IntsAt W66 o2 tn (fun i => (KT i).to) := by obtain ⟨oa, cp, h, j, -⟩ := O2.out.ints (v := .slice o2 tn c2) (f := fun i => (KT i).to) (k := tn) (by simp [threeVS]) (by unfold maxLen; omega); simp only [Value.slice.injEq] at h; rw [← h.1] at j; exact j
                                have i3 : IntsAt W66 o3 tn (fun i => (KT i).td) := by obtain ⟨oa, cp, h, j, -⟩ := O2.out.ints (v := .slice o3 tn c3) (f := fun i => (KT i).td) (k := tn) (by simp [threeVS]) (by unfold maxLen; omega); simp only [Value.slice.injEq] at h; rw [← h.1] at j; exact j
                                have IZ := ZW.out _ O2.out.bel
                                have CX := Lib.hid (exacts_any n sa ta sn sc tn tc S T (some ⟨g5, 0, none⟩) o2 o3 (tn + 1) cap5 tn c2 tn c3 _ _ _ W66 IZ.wb.ss IZ.wb.tt i1 i2 i3)
                                clear i1 i2 i3 IZ
                                go_simp
                                refine CX.out.mono ?_
                                intro e W67 h
                                obtain ⟨rfl, hb67⟩ := h.no HV.out (exB_long _ _ _ _ _)
                                have O3 := Lib.hid (O2.out.grow hb67)
                                clear h hb67 O2 CX
                                go_wp2_with fail
                                refine hK.out _ _ ?_ (fun hHeld => ?_)
                                · exact (have hm := (ZW.out _ O3.out.bel).wb.box; ⟨cellAt hm 0, cellAt hm 1, cellAt hm 2⟩)
                                clear hK K
                                try simp only [Act.put, List.setIfInBounds_toArray, List.set_cons_zero, List.set_cons_succ]
                                refine wpAnyH_take (i := 7) (oi := { dst := some 412, op := Op.move (Operand.tmp 419), type := 39, pos := "outright.go:404", after := #[{ on := 6, ground := Ground.data }], guard := none }) (v := ?_) rfl (by kernel_rfl) (by kernel_rfl) (by kernel_rfl) (fun _ _ _ h => h) (Or.inl ⟨by rfl, ?_⟩) (by assumption) ?_
                                rotate_left
                                · (intro w9 hSw; (try dsimp only at hSw); (go_split_ands; go_simp); (try with_reducible rfl))
                                try simp only [Act.put, List.setIfInBounds_toArray, List.set_cons_zero, List.set_cons_succ]
                                refine wpAnyH_take (i := 8) (oi := { dst := some 420, op := Op.extract (Operand.tmp 412) 0, type := 37, pos := "outright.go:404", after := #[{ on := 7, ground := Ground.data }], guard := none }) (v := ?_) rfl (by kernel_rfl) (by kernel_rfl) (by kernel_rfl) (fun _ _ _ h => h) (Or.inl ⟨by rfl, ?_⟩) (by assumption) ?_
                                rotate_left
                                · (intro w9 hSw; (try dsimp only at hSw); (go_split_ands; go_simp); (try with_reducible rfl))
                                try simp only [Act.put, List.setIfInBounds_toArray, List.set_cons_zero, List.set_cons_succ]
                                refine wpAnyH_take (i := 9) (oi := { dst := some 421, op := Op.extract (Operand.tmp 412) 1, type := 30, pos := "outright.go:404", after := #[{ on := 7, ground := Ground.data }, { on := 10, ground := Ground.gcOnly Departure.lateStores }], guard := none }) (v := ?_) rfl (by kernel_rfl) (by kernel_rfl) (by kernel_rfl) (fun _ _ _ h => h) (Or.inl ⟨by rfl, ?_⟩) (by assumption) ?_
                                rotate_left
                                · (intro w9 hSw; (try dsimp only at hSw); (go_split_ands; go_simp); (try with_reducible rfl))
                                try simp only [Act.put, List.setIfInBounds_toArray, List.set_cons_zero, List.set_cons_succ]
                                refine wpAnyH_take (i := 10) (oi := { dst := some 46, op := Op.assign (Operand.tmp 420), type := 37, pos := "outright.go:404", after := #[{ on := 8, ground := Ground.data }, { on := 6, ground := Ground.chain }, { on := 0, ground := Ground.phase }, { on := 1, ground := Ground.phase }, { on := 2, ground := Ground.phase }, { on := 3, ground := Ground.phase }, { on := 4, ground := Ground.phase }, { on := 5, ground := Ground.phase }, { on := 6, ground := Ground.phase }, { on := 7, ground := Ground.phase }, { on := 8, ground := Ground.phase }, { on := 9, ground := Ground.textOnly Departure.lateStores }], guard := none }) (v := ?_) rfl (by kernel_rfl) (by kernel_rfl) (by kernel_rfl) (fun _ _ _ h => h) (Or.inl ⟨by rfl, ?_⟩) (by assumption) ?_
                                rotate_left
                                · (intro w9 hSw; (try dsimp only at hSw); (go_split_ands; go_simp); (try with_reducible rfl))
                                try simp only [Act.put, List.setIfInBounds_toArray, List.set_cons_zero, List.set_cons_succ]
                                refine wpAnyH_take (i := 11) (oi := { dst := some 47, op := Op.assign (Operand.tmp 421), type := 30, pos := "outright.go:404", after := #[{ on := 9, ground := Ground.data }, { on := 10, ground := Ground.chain }, { on := 0, ground := Ground.phase }, { on := 1, ground := Ground.phase }, { on := 2, ground := Ground.phase }, { on := 3, ground := Ground.phase }, { on := 4, ground := Ground.phase }, { on := 5, ground := Ground.phase }, { on := 6, ground := Ground.phase }, { on := 7, ground := Ground.phase }, { on := 8, ground := Ground.phase }, { on := 9, ground := Ground.phase }, { on := 10, ground := Ground.phase }], guard := none }) (v := ?_) rfl (by kernel_rfl) (by kernel_rfl) (by kernel_rfl) (fun _ _ _ h => h) (Or.inl ⟨by rfl, ?_⟩) (by assumption) ?_
                                rotate_left
                                · (intro w9 hSw; (try dsimp only at hSw); (go_split_ands; go_simp); (try with_reducible rfl))
                                try simp only [Act.put, List.setIfInBounds_toArray, List.set_cons_zero, List.set_cons_succ]
                                refine wpAnyH_done (by kernel_rfl) ?_ _
                                refine HKK.out _ _ ?_
                                (repeat apply Exists.intro)
                                refine ⟨?_, rfl⟩
                                exact ⟨rfl, O3.out.bel⟩
                              case rest =>
                                obtain ⟨rfl, hb⟩ := hcut
                                have HB14 := Lib.hid hb
                                clear hb O0 HB13
                                go_wp2_with fail
                                go_loopw [424] (fun v wi => ∃ k : Nat, k ≤ tn ∧ v = .int .i64 k ∧ Below W7.heap.size W7 wi) (fun v _ => tn - (intOf v).toNat)
                                case atStart => exact ⟨0, Nat.zero_le _, rfl, HB14.out⟩
                                case round =>
                                  clear HB14
                                  obtain ⟨k, hk, rfl, hb⟩ := hrel
                                  have HB := Lib.hid hb
                                  clear hb
                                  have IZ := Lib.hid (ZW.out _ HB.out)
                                  by_cases hlk : k < tn
                                  · obtain ⟨q0, q1, q2⟩ := wgX IZ.out.wb.box
                                    have hx1 := fun w => run_indexAt_row (w := w) (oa := some ⟨kp, 0, none⟩) (cap := kc) Try.underlying23 size58 rfl hlk
                                    have hx2 := fun w => run_indexAt_row (w := w) (cap := tc) Try.underlying23 size58 (IZ.out.wb.tt.plain (by omega)) hlk
                                    simp only [blk, ofs, Nat.zero_add] at hx1
                                    obtain ⟨g0, g1, g2, g3, g4, g5, g6, g7⟩ := IZ.out.wb.tt.at hlk
                                    obtain ⟨k0, k1, k2, k3, k4, k5, k6, k7⟩ := IZ.out.kt.at hlk
                                    simp only [blk, ofs, Nat.zero_add] at k0 k1 k2 k3 k4 k5 k6 k7
                                    go_wp2_with fail
                                    go_cut [436] from 427 to 435 (fun v W => v = .bool false ∧ Below W7.heap.size W7 W)
                                    case first =>
                                      go_quiet (fail)
                                      go_wp2_with fail
                                      go_meet
                                      case rel => exact ⟨by simp, below_drewN HB.out _⟩
                                    case rest =>
                                      obtain ⟨rfl, hb⟩ := hcut
                                      clear q0 q1 q2 hx1 hx2 g0 g1 g2 g3 g4 g5 g6 g7 k0 k1 k2 k3 k4 k5 k6 k7 HB IZ
                                      go_wp2_with fail
                                      exact ⟨⟨k + 1, hlk, by go_num, hb⟩, by simp [intOf]; omega⟩
                                  · obtain rfl : tn = k := by omega
                                    go_wp2_with (go_at_call 14; refine (awake_any _).mono ?_; rintro e w15 ⟨rfl, hb15⟩; have HZ := Lib.hid (IZ.out.wb.bel.next hb15))
                                    exact bodyPost_ret (v := .bool true) (by simp [results, Try.results12, go_sem]) rfl ⟨rfl, HZ.out⟩
end Go.Proofs.Ytbpeamppkdmdcaa
