/-
  Walks: the law of both ends.
-/
import Derived.Test.YtbpeamppkdmdcaaG10
import Derived.Test.YtbpeamppkdmdcaaP5
namespace Go.Proofs.Ytbpeamppkdmdcaa
open Go.RowKit

theorem Said.inv {w : World} {V : Prop} {b : Bool} {x x2 x1 : Value} {e : Ending} {w' : World} (h : Said w V b x x2 x1 e w') (hv : ¬ V) : e = .returned x1 ∧ Below w.heap.size w w' := by
  rcases h with ⟨h0, h | h | h⟩
  · exact absurd h.1 hv
  · exact absurd h.1 hv
  · exact ⟨h.2, h0⟩
theorem ExactPost.yes {w : World} {V : Prop} {b : Bool} {F : Nat → Int} {n : Nat} {e : Ending} {w' : World} (h : ExactPost w V b F n e w') (hv : V) (hb : b = true) : ∃ g, w.heap.size ≤ g ∧ e = .returned (.tuple #[.slice (some ⟨g, 0, none⟩) n n, .int .i64 0]) ∧ BoxAt w' g (rowVals F n).toArray 3 ∧ Below w.heap.size w w' := by
  rcases h with ⟨h0, h | h | h⟩
  · obtain ⟨-, -, g, h1, h2, h3⟩ := h
    exact ⟨g, h1, h2, h3, h0⟩
  · rw [hb] at h; cases h.2.1
  · exact absurd hv h.1
theorem told_with' (c : Int) (b : Bool) (T : Nat → Tk) : toldK (fun i => (withK c b T i).fr) (fun i => (withK c b T i).to) (fun i => (withK c b T i).td) = withK c b T := rfl
theorem sumF_bdM {F : Nat → Int} {M : Int} (h : ∀ i, 0 ≤ F i ∧ F i ≤ M) : ∀ n : Nat, 0 ≤ sumF F n ∧ sumF F n ≤ M * n
  | 0 => by simp [sumF]
  | n + 1 => by
    have := sumF_bdM h n
    have := h n
    have e : M * ((n + 1 : Nat) : Int) = M * n + M := by rw [Int.natCast_succ, Int.mul_add, Int.mul_one]
    simp only [sumF]
    omega
theorem size4 : (Try.prog.info? 4).map (·.size) = some 1 := by kernel_rfl
theorem left_term {f r : Int} {M : Nat} (hf : 0 ≤ f ∧ f ≤ 20) (hr : 0 ≤ r ∧ r ≤ 50) (hm : (M : Int) ≤ f) : 0 ≤ (f - M) * r ∧ (f - M) * r ≤ 1000 := by
  refine ⟨Int.mul_nonneg (by omega) hr.1, ?_⟩
  exact Int.le_trans (Int.mul_le_mul (show f - M ≤ 20 by omega) hr.2 hr.1 (by decide)) (by decide)
theorem left_sum {cr : Int} {sn tn : Nat} {S : Nat → Sm} {T : Nat → Tk} (hv : Valid cr sn tn S T) (K : Nat → Kn) {n : Nat} (hn : n ≤ sn) : 0 ≤ sumF (fun k => ((S k).fat - (manyOf S T K tn (k : Int) (-1) : Int)) * (S k).rate) n ∧ sumF (fun k => ((S k).fat - (manyOf S T K tn (k : Int) (-1) : Int)) * (S k).rate) n ≤ 1000000 * n := by
  refine sumF_bd _ sn (fun i hi => ?_) n hn
  have := left_term (hv.fat i hi) (hv.rate i hi) (many_le (S := S) (T := T) (K := K) (tn := tn) (c := -1) (s := i) (hv.fat i hi).1)
  omega
/-- What the law keeps while it looks at both ends. -/
structure EB (w : World) (cr : Int) (sa ta : Option Addr) (sn sc tn tc : Nat) (S : Nat → Sm) (T : Nat → Tk) (g1 : Nat) (lo hi : Int) (g2 : Nat) (p1 p2 : Int) (g3 : Nat) (wr : World) : Prop where
  wb : WB w cr sa ta sn sc tn tc S T w.heap.size wr
  due : BoxAt wr g1 #[.int .i64 lo, .int .i64 hi] 29
  pd : BoxAt wr g2 #[.int .i64 p1, .int .i64 p2] 29
  tw : BoxAt wr g3 #[.bool false, .bool true] 4
theorem EB.grow {w : World} {cr : Int} {sa ta : Option Addr} {sn sc tn tc : Nat} {S : Nat → Sm} {T : Nat → Tk} {g1 : Nat} {lo hi : Int} {g2 : Nat} {p1 p2 : Int} {g3 : Nat} {w1 w2 : World} (h : EB w cr sa ta sn sc tn tc S T g1 lo hi g2 p1 p2 g3 w1) (hb : Below w1.heap.size w1 w2) : EB w cr sa ta sn sc tn tc S T g1 lo hi g2 p1 p2 g3 w2 :=
  ⟨h.wb.grow hb, h.due.grow hb, h.pd.grow hb, h.tw.grow hb⟩
/-- .. and the three lists. -/
structure EL (w : World) (cr : Int) (sa ta : Option Addr) (sn sc tn tc : Nat) (S : Nat → Sm) (T : Nat → Tk) (g1 : Nat) (lo hi : Int) (g2 : Nat) (p1 p2 : Int) (g3 : Nat) (o1 o2 o3 : Option Addr) (K : Nat → Kn) (wr : World) : Prop where
  eb : EB w cr sa ta sn sc tn tc S T g1 lo hi g2 p1 p2 g3 wr
  i1 : IntsAt wr o1 tn (fun i => (K i).fr)
  i2 : IntsAt wr o2 tn (fun i => (K i).to)
  i3 : IntsAt wr o3 tn (fun i => (K i).td)
theorem EL.grow {w : World} {cr : Int} {sa ta : Option Addr} {sn sc tn tc : Nat} {S : Nat → Sm} {T : Nat → Tk} {g1 : Nat} {lo hi : Int} {g2 : Nat} {p1 p2 : Int} {g3 : Nat} {o1 o2 o3 : Option Addr} {K : Nat → Kn} {w1 w2 : World} (h : EL w cr sa ta sn sc tn tc S T g1 lo hi g2 p1 p2 g3 o1 o2 o3 K w1) (hb : Below w1.heap.size w1 w2) : EL w cr sa ta sn sc tn tc S T g1 lo hi g2 p1 p2 g3 o1 o2 o3 K w2 :=
  ⟨h.eb.grow hb, h.i1.grow hb, h.i2.grow hb, h.i3.grow hb⟩

set_option maxRecDepth 100000 in
set_option maxHeartbeats 8000000 in
theorem ends_law (cr : Int) (sa ta : Option Addr) (sn sc tn tc : Nat) (S : Nat → Sm) (T : Nat → Tk) (which : Int) (hw : 0 ≤ which ∧ which ≤ 255) (w : World) (hS : SeamsAt w sa sn S) (hT : TicketsAt w ta tn T) :
    Calls Try.prog 7 #[.agg #[.int .i64 cr, .slice sa sn sc, .slice ta tn tc], .int .u8 which] w fun e w' => e = .returned (.bool true) ∧ Below w.heap.size w w' := by
  have hsm := hS.small
  have htm := hT.small
  have I0 := Lib.hid (WB.new (cr := cr) (sc := sc) (tc := tc) hS hT)
  have q0 := cellAt I0.out.box 0
  have q1 := cellAt I0.out.box 1
  have q2 := cellAt I0.out.box 2
  simp only [List.getElem?_toArray, List.getElem?_cons_zero, List.getElem?_cons_succ] at q0 q1 q2
  clear hS hT
  have hmf : ∀ (fn : Fn) (first cap : Array Value) (w : World), (Instr.makeFunc fn first cap).run Try.prog w = .ok (.func fn first cap) w := fun _ _ _ _ => rfl
  go_enter Try.func7, Try.ntmps7
  go_wp2_with (go_at_call 36; refine (far_nil cr sa ta sn sc tn tc _ hsm htm).mono ?_)
  rintro e w1 ⟨rfl, hb1⟩
  have I1 := Lib.hid (I0.out.grow hb1)
  clear I0 hb1 q0 q1 q2
  have q0 := cellAt I1.out.box 0
  have q1 := cellAt I1.out.box 1
  have q2 := cellAt I1.out.box 2
  simp only [List.getElem?_toArray, List.getElem?_cons_zero, List.getElem?_cons_succ] at q0 q1 q2
  obtain ⟨fb, hfb⟩ : ∃ fb, fb = farB sn tn := ⟨_, rfl⟩
  rw [← hfb]
  clear hfb
  cases fb with
  | true =>
    go_wp2_with (go_at_call 14; refine (awake_any _).mono ?_; rintro e w2 ⟨rfl, hb2⟩; have HB := Lib.hid (I1.out.bel.next hb2))
    exact bodyPost_ret (v := .bool true) (by simp [results, Try.results7, go_sem]) rfl ⟨rfl, HB.out⟩
  | false =>
    go_wp2_with (go_at_call 37; refine (wages_ref cr sa ta sn sc tn tc S T _ I1.out.ss I1.out.tt).mono ?_)
    rintro e w2 ⟨b, rfl, hbv, hb2⟩
    have I2 := Lib.hid (I1.out.grow hb2)
    clear I1 hb2 q0 q1 q2
    have q0 := cellAt I2.out.box 0
    have q1 := cellAt I2.out.box 1
    have q2 := cellAt I2.out.box 2
    simp only [List.getElem?_toArray, List.getElem?_cons_zero, List.getElem?_cons_succ] at q0 q1 q2
    cases b with
    | false =>
      have HN := Lib.hid (fun hv => by cases hbv.2 hv : ¬ Valid cr sn tn S T)
      clear hbv
      go_wp2_with (go_at_call 23; refine (paid_any cr sa ta sn sc tn tc S T _ I2.out.ss I2.out.tt).mono ?_)
      intro e w3 h
      obtain ⟨rfl, hb3⟩ := h.inv HN.out
      clear h q0 q1 q2
      have I3 := Lib.hid ((I2.out.grow hb3).grow ((Below.refl _ _).alloc (Nat.le_refl _) (.cells #[.int .i64 0, .int .i64 0] 29)))
      clear I2 hb3
      have q0 := cellAt I3.out.box 0
      have q1 := cellAt I3.out.box 1
      have q2 := cellAt I3.out.box 2
      simp only [List.getElem?_toArray, List.getElem?_cons_zero, List.getElem?_cons_succ] at q0 q1 q2
      go_wp2_with (go_at_call 21; refine (dues_any cr sa ta sn sc tn tc S T 0 _ I3.out.ss I3.out.tt).mono ?_)
      intro e w4 h
      obtain ⟨rfl, hb4⟩ := h.inv HN.out
      clear h q0 q1 q2
      have I4 := Lib.hid ((I3.out.grow hb4).grow ((Below.refl _ _).alloc (Nat.le_refl _) (.cells #[.int .i64 0, .int .i64 0] 29)))
      clear I3 hb4
      go_wp2_with (go_at_call 14; refine (awake_any _).mono ?_; rintro e w2 ⟨rfl, hb2⟩; have HB := Lib.hid (I4.out.bel.next hb2))
      exact bodyPost_ret (v := .bool true) (by simp [results, Try.results7, go_sem]) rfl ⟨rfl, HB.out⟩
    | true =>
      have HV := Lib.hid (hbv.1 rfl)
      clear hbv
      obtain ⟨n, rfl⟩ : ∃ n : Nat, cr = n := ⟨cr.toNat, by have := HV.out.cr0; omega⟩
      have hcr : 1 ≤ n ∧ n ≤ 4 := by have := HV.out.cr0; have := HV.out.cr1; omega
      obtain ⟨c, hr, hrl⟩ : ∃ c : Nat, Int.tmod which n = c ∧ c < n := ⟨(which % n).toNat, by rw [Int.tmod_eq_emod_of_nonneg hw.1]; have := Int.emod_nonneg which (show (n : Int) ≠ 0 by omega); omega, by have := Int.emod_nonneg which (show (n : Int) ≠ 0 by omega); have := Int.emod_lt_of_pos which (show 0 < (n : Int) by omega); omega⟩
      have hsn3 := HV.out.sn3
      have htn6 := HV.out.tn6
      have CD := Lib.hid (fun W h1 h2 => (dues_any n sa ta sn sc tn tc S T c W h1 h2).mono fun e w' h => h.yes HV.out (inB_iff.2 ⟨by omega, by omega⟩))
      have CP := Lib.hid (fun W h1 h2 => (paid_any n sa ta sn sc tn tc S T W h1 h2).mono fun e w' h => h.yes HV.out rfl)
      have hlo := coinsOf_bd HV.out (leastK c T) c
      have hhi := coinsOf_bd HV.out (mostK c T) c
      obtain ⟨lo, elo⟩ : ∃ x, x = coinsOf S T (leastK c T) sn tn c := ⟨_, rfl⟩
      obtain ⟨hi, ehi⟩ : ∃ x, x = coinsOf S T (mostK c T) sn tn c := ⟨_, rfl⟩
      obtain ⟨p1, ep1⟩ : ∃ x, x = allOf S sn - coinsOf S T (mostK (-1) T) sn tn (-1) := ⟨_, rfl⟩
      obtain ⟨p2, ep2⟩ : ∃ x, x = allOf S sn - coinsOf S T (leastK (-1) T) sn tn (-1) := ⟨_, rfl⟩
      rw [← elo, ← ehi] at CD
      rw [← ep1, ← ep2] at CP
      rw [← elo] at hlo
      rw [← ehi] at hhi
      have ELO := Lib.hid elo
      have EHI := Lib.hid ehi
      have EP1 := Lib.hid ep1
      have EP2 := Lib.hid ep2
      clear elo ehi ep1 ep2
      go_wp2_with (go_at_call 21; refine (CD.out _ I2.out.ss I2.out.tt).mono ?_)
      rintro e w3 ⟨rfl, hb3⟩
      have I3 := Lib.hid (I2.out.grow hb3)
      have I4 := Lib.hid (I3.out.grow ((Below.refl _ _).alloc (Nat.le_refl _) (.cells #[.int .i64 lo, .int .i64 hi] 29)))
      clear I2 hb3 q0 q1 q2 hw hr
      have q0 := cellAt I4.out.box 0
      have q1 := cellAt I4.out.box 1
      have q2 := cellAt I4.out.box 2
      simp only [List.getElem?_toArray, List.getElem?_cons_zero, List.getElem?_cons_succ] at q0 q1 q2
      go_wp2_with (go_at_call 23; refine (CP.out _ I4.out.ss I4.out.tt).mono ?_)
      generalize hW : World.alloc _ _ = W at *
      rintro e w5 ⟨rfl, hb5⟩
      have B1 := Lib.hid (show BoxAt w5 w3.heap.size #[.int .i64 lo, .int .i64 hi] 29 from BoxAt.grow (blocks1 hW).1 hb5)
      have I5 := Lib.hid (I4.out.grow hb5)
      clear hW hb5 I3 I4 q0 q1 q2 CD CP
      go_wp2_with fail
      generalize hW : World.alloc (World.alloc _ _) _ = W at *
      obtain ⟨y0, y1, y2, hB⟩ := blocks2 hW
      have E0 := Lib.hid (EB.mk (I5.out.grow hB) (B1.out.grow hB) y0 y1)
      clear hW y0 y1 y2 hB I5 B1
      go_loopw [88] (fun v wr => ∃ i : Nat, i ≤ 2 ∧ v = .int .i64 i ∧ EB w n sa ta sn sc tn tc S T w3.heap.size lo hi w5.heap.size p1 p2 (w5.heap.size + 1) wr) (fun v _ => 2 - (intOf v).toNat)
      case atStart => exact ⟨0, by omega, rfl, E0.out⟩
      case round =>
        clear E0
        obtain ⟨i, hi2, rfl, hE⟩ := hrel
        have HE := Lib.hid hE
        clear hE
        by_cases hlt : i < 2
        · obtain ⟨b, hb⟩ : ∃ b : Bool, (i = 0 ∧ b = false) ∨ (i = 1 ∧ b = true) := by
            rcases (by omega : i = 0 ∨ i = 1) with rfl | rfl
            · exact ⟨false, .inl ⟨rfl, rfl⟩⟩
            · exact ⟨true, .inr ⟨rfl, rfl⟩⟩
          have HB := Lib.hid hb
          clear hb
          have hx4 := fun w => run_indexAt_row (w := w) (oa := some ⟨w5.heap.size + 1, 0, none⟩) (cap := 2) Try.underlying60 size4 rfl hlt
          simp only [blk, ofs, Nat.zero_add, Nat.mul_one] at hx4
          have y0 : wr.cell? ⟨w5.heap.size + 1, i, none⟩ = some (.bool b) := by
            rw [cellAt HE.out.tw]
            rcases HB.out with ⟨rfl, rfl⟩ | ⟨rfl, rfl⟩ <;> rfl
          have CW := Lib.hid (fun (x : Int) W (hW : EB w n sa ta sn sc tn tc S T w3.heap.size lo hi w5.heap.size p1 p2 (w5.heap.size + 1) W) => with_any n sa ta sn sc tn tc T x b w.heap.size W hW.wb.box hW.wb.tt (by omega))
          go_wp2_with (go_at_call 38; refine (CW.out c _ HE.out).mono ?_)
          rintro e w6 ⟨o1, c1, o2, c2, o3, c3, rfl, j1, j2, j3, hb6⟩
          have L6 := Lib.hid (EL.mk (HE.out.grow hb6) j1 j2 j3)
          clear j1 j2 j3 hb6 HE y0 hx4
          have q0 := cellAt L6.out.eb.wb.box 0
          have q1 := cellAt L6.out.eb.wb.box 1
          have q2 := cellAt L6.out.eb.wb.box 2
          simp only [List.getElem?_toArray, List.getElem?_cons_zero, List.getElem?_cons_succ] at q0 q1 q2
          go_wp2_with (go_at_call 25; refine (exacts_any n sa ta sn sc tn tc S T o1 o2 o3 tn c1 tn c2 tn c3 _ _ _ _ L6.out.eb.wb.ss L6.out.eb.wb.tt L6.out.i1 L6.out.i2 L6.out.i3).mono ?_)
          intro e w7 h
          obtain ⟨g, hg, rfl, hbx, hb7⟩ := h.yes HV.out (ends_ok HV.out c b)
          have L7 := Lib.hid (L6.out.grow hb7)
          have BG := Lib.hid (show BoxAt w7 g (rowVals (fun j : Nat => coinsOf S T (withK c b T) sn tn j) n).toArray 3 from hbx)
          have hcc : coinsOf S T (withK c b T) sn tn c = sel b lo hi := by rw [ends_coins, ELO.out, EHI.out]
          have HY := Lib.hid (fun W (h : BoxAt W g (rowVals (fun j : Nat => coinsOf S T (withK c b T) sn tn j) n).toArray 3) => (show W.cell? ⟨g, c, none⟩ = some (.int .i64 (sel b lo hi)) by
            have yc := (ints_box h (by unfold maxLen; omega)).at hrl
            simp only [blk, ofs, Nat.zero_add] at yc
            rw [hcc] at yc
            exact yc))
          clear h hbx hb7 L6 q0 q1 q2 hcc
          have hxc := fun w => run_indexAt_row (w := w) (oa := some ⟨g, 0, none⟩) (cap := n) Try.underlying37 size3 rfl hrl
          have hx2 := fun (w : World) (g : Nat) => run_indexAt_row (w := w) (oa := some ⟨g, 0, none⟩) (cap := 2) Try.underlying37 size3 rfl hlt
          simp only [blk, ofs, Nat.zero_add, Nat.mul_one] at hxc hx2
          have HSEL := Lib.hid (fun (W : World) (g : Nat) (x y : Int) (h : BoxAt W g #[.int .i64 x, .int .i64 y] 3) => (show W.cell? ⟨g, i, none⟩ = some (.int .i64 (sel b x y)) by
            rw [cellAt h]
            rcases HB.out with ⟨rfl, rfl⟩ | ⟨rfl, rfl⟩ <;> rfl))
          simp only [Int.toNat_natCast]
          go_wp2_with fail
          have L8 := Lib.hid (L7.out.grow (Below.drew (Below.refl _ _)))
          have G8 := Lib.hid (show BoxAt w7.drew g (rowVals (fun j : Nat => coinsOf S T (withK c b T) sn tn j) n).toArray 3 from BG.out)
          clear L7 BG
          refine wp_region_held_drew (S := (fun w' => w'.cell? ⟨w.heap.size, 0, none⟩ = some (.int .i64 n) ∧ w'.cell? ⟨g, c, none⟩ = some (.int .i64 (sel b lo hi)) ∧ w'.cell? ⟨w3.heap.size, 0, none⟩ = some (.int .i64 lo) ∧ w'.cell? ⟨w3.heap.size, 1, none⟩ = some (.int .i64 hi))) (by kernel_rfl) (by exact ⟨cellAt L8.out.eb.wb.box 0, HY.out _ G8.out, cellAt L8.out.eb.due 0, cellAt L8.out.eb.due 1⟩) (fun hHeld => ?_)
          generalize World.drew w7 = w8 at *
          refine wpAnyH_take (i := 0) (oi := { dst := some 109, op := Op.move (Operand.tmp 21), type := 30, pos := "outright.go:124", after := #[], guard := none }) (v := ?_) rfl (by kernel_rfl) (by kernel_rfl) (by kernel_rfl) (fun _ _ _ h => h) (Or.inl ⟨by rfl, ?_⟩) (by assumption) ?_
          rotate_left
          · (intro w9 hSw; (try dsimp only at hSw); (go_split_ands; go_simp); (try with_reducible rfl))
          try simp only [Act.put, List.setIfInBounds_toArray, List.set_cons_zero, List.set_cons_succ]
          refine wpAnyH_take (i := 1) (oi := { dst := some 110, op := Op.binOp BinOp.neq 30 (Operand.tmp 109) (Operand.const (Value.int IntKind.i64 0)) 30, type := 4, pos := "outright.go:124", after := #[{ on := 0, ground := Ground.data }], guard := none }) (v := ?_) rfl (by kernel_rfl) (by kernel_rfl) (by kernel_rfl) (fun _ _ _ h => h) (Or.inl ⟨by rfl, ?_⟩) (by assumption) ?_
          rotate_left
          · (intro w9 hSw; (try dsimp only at hSw); (go_split_ands; go_simp); (try with_reducible rfl))
          try simp only [Act.put, List.setIfInBounds_toArray, List.set_cons_zero, List.set_cons_succ]
          refine wpAnyH_take (i := 2) (oi := { dst := some 111, op := Op.move (Operand.tmp 110), type := 4, pos := "outright.go:124", after := #[{ on := 1, ground := Ground.data }], guard := none }) (v := ?_) rfl (by kernel_rfl) (by kernel_rfl) (by kernel_rfl) (fun _ _ _ h => h) (Or.inl ⟨by rfl, ?_⟩) (by assumption) ?_
          rotate_left
          · (intro w9 hSw; (try dsimp only at hSw); (go_split_ands; go_simp); (try with_reducible rfl))
          try simp only [Act.put, List.setIfInBounds_toArray, List.set_cons_zero, List.set_cons_succ]
          refine wpAnyH_take (i := 3) (oi := { dst := some 112, op := Op.move (Operand.tmp 20), type := 37, pos := "outright.go:124", after := #[{ on := 2, ground := Ground.guard }], guard := some (2, false) }) (v := ?_) rfl (by kernel_rfl) (by kernel_rfl) (by kernel_rfl) (fun _ _ _ h => h) (Or.inl ⟨by rfl, ?_⟩) (by assumption) ?_
          rotate_left
          · (intro w9 hSw; (try dsimp only at hSw); (go_split_ands; go_simp); (try with_reducible rfl))
          try simp only [Act.put, List.setIfInBounds_toArray, List.set_cons_zero, List.set_cons_succ]
          refine wpAnyH_take (i := 4) (oi := { dst := some 113, op := Op.call { callee := Callee.builtin Builtin.len, args := #[Operand.tmp 112], argTypes := #[37] }, type := 3, pos := "outright.go:124", after := #[{ on := 3, ground := Ground.data }, { on := 2, ground := Ground.guard }], guard := some (2, false) }) (v := ?_) rfl (by kernel_rfl) (by kernel_rfl) (by kernel_rfl) (fun _ _ _ h => h) (Or.inl ⟨by rfl, ?_⟩) (by assumption) ?_
          rotate_left
          · (intro w9 hSw; (try dsimp only at hSw); (go_split_ands; go_simp); (try with_reducible rfl))
          try simp only [Act.put, List.setIfInBounds_toArray, List.set_cons_zero, List.set_cons_succ]
          refine wpAnyH_take (i := 5) (oi := { dst := some 114, op := Op.fieldAddr 25 (Operand.tmp 2) 0, type := 0, pos := "outright.go:124", after := #[{ on := 2, ground := Ground.guard }], guard := some (2, false) }) (v := ?_) rfl (by kernel_rfl) (by kernel_rfl) (by kernel_rfl) (fun _ _ _ h => h) (Or.inl ⟨by rfl, ?_⟩) (by assumption) ?_
          rotate_left
          · (intro w9 hSw; (try dsimp only at hSw); (go_split_ands; go_simp); (try with_reducible rfl))
          try simp only [Act.put, List.setIfInBounds_toArray, List.set_cons_zero, List.set_cons_succ]
          refine wpAnyH_take (i := 6) (oi := { dst := some 115, op := Op.load 3 (Operand.tmp 114), type := 3, pos := "outright.go:124", after := #[{ on := 5, ground := Ground.data }, { on := 2, ground := Ground.guard }], guard := some (2, false) }) (v := ?_) rfl (by kernel_rfl) (by kernel_rfl) (by kernel_rfl) (fun _ _ _ h => h) (Or.inl ⟨by rfl, ?_⟩) (by assumption) ?_
          rotate_left
          · (intro w9 hSw; (try dsimp only at hSw); (go_split_ands; go_simp); (try with_reducible rfl))
          try simp only [Act.put, List.setIfInBounds_toArray, List.set_cons_zero, List.set_cons_succ]
          refine wpAnyH_take (i := 7) (oi := { dst := some 116, op := Op.binOp BinOp.neq 3 (Operand.tmp 113) (Operand.tmp 115) 3, type := 4, pos := "outright.go:124", after := #[{ on := 4, ground := Ground.data }, { on := 6, ground := Ground.data }, { on := 2, ground := Ground.guard }], guard := some (2, false) }) (v := ?_) rfl (by kernel_rfl) (by kernel_rfl) (by kernel_rfl) (fun _ _ _ h => h) (Or.inl ⟨by rfl, ?_⟩) (by assumption) ?_
          rotate_left
          · (intro w9 hSw; (try dsimp only at hSw); (go_split_ands; go_simp); (try with_reducible rfl))
          try simp only [Act.put, List.setIfInBounds_toArray, List.set_cons_zero, List.set_cons_succ]
          refine wpAnyH_take (i := 8) (oi := { dst := some 117, op := Op.pick (Operand.tmp 111) (Operand.const (Value.bool true)) (Operand.tmp 116), type := 4, pos := "outright.go:124", after := #[{ on := 2, ground := Ground.data }, { on := 7, ground := Ground.data }], guard := none }) (v := ?_) rfl (by kernel_rfl) (by kernel_rfl) (by kernel_rfl) (fun _ _ _ h => h) (Or.inl ⟨by rfl, ?_⟩) (by assumption) ?_
          rotate_left
          · (intro w9 hSw; (try dsimp only at hSw); (go_split_ands; go_simp); (try with_reducible rfl))
          try simp only [Act.put, List.setIfInBounds_toArray, List.set_cons_zero, List.set_cons_succ]
          refine wpAnyH_take (i := 9) (oi := { dst := some 118, op := Op.move (Operand.tmp 117), type := 4, pos := "outright.go:124", after := #[{ on := 8, ground := Ground.data }, { on := 2, ground := Ground.chain }], guard := none }) (v := ?_) rfl (by kernel_rfl) (by kernel_rfl) (by kernel_rfl) (fun _ _ _ h => h) (Or.inl ⟨by rfl, ?_⟩) (by assumption) ?_
          rotate_left
          · (intro w9 hSw; (try dsimp only at hSw); (go_split_ands; go_simp); (try with_reducible rfl))
          try simp only [Act.put, List.setIfInBounds_toArray, List.set_cons_zero, List.set_cons_succ]
          refine wpAnyH_take (i := 10) (oi := { dst := some 119, op := Op.move (Operand.tmp 20), type := 37, pos := "outright.go:124", after := #[{ on := 9, ground := Ground.guard }], guard := some (9, false) }) (v := ?_) rfl (by kernel_rfl) (by kernel_rfl) (by kernel_rfl) (fun _ _ _ h => h) (Or.inl ⟨by rfl, ?_⟩) (by assumption) ?_
          rotate_left
          · (intro w9 hSw; (try dsimp only at hSw); (go_split_ands; go_simp); (try with_reducible rfl))
          try simp only [Act.put, List.setIfInBounds_toArray, List.set_cons_zero, List.set_cons_succ]
          refine wpAnyH_take (i := 11) (oi := { dst := some 120, op := Op.move (Operand.tmp 9), type := 3, pos := "outright.go:124", after := #[{ on := 9, ground := Ground.guard }], guard := some (9, false) }) (v := ?_) rfl (by kernel_rfl) (by kernel_rfl) (by kernel_rfl) (fun _ _ _ h => h) (Or.inl ⟨by rfl, ?_⟩) (by assumption) ?_
          rotate_left
          · (intro w9 hSw; (try dsimp only at hSw); (go_split_ands; go_simp); (try with_reducible rfl))
          try simp only [Act.put, List.setIfInBounds_toArray, List.set_cons_zero, List.set_cons_succ]
          refine wpAnyH_take (i := 12) (oi := { dst := some 121, op := Op.indexAddr 37 (Operand.tmp 119) (Operand.tmp 120), type := 0, pos := "outright.go:124", after := #[{ on := 10, ground := Ground.data }, { on := 11, ground := Ground.data }, { on := 9, ground := Ground.guard }], guard := some (9, false) }) (v := ?_) rfl (by kernel_rfl) (by kernel_rfl) (by kernel_rfl) (fun _ _ _ h => h) (Or.inl ⟨by rfl, ?_⟩) (by assumption) ?_
          rotate_left
          · (intro w9 hSw; (try dsimp only at hSw); (go_split_ands; go_simp); (try with_reducible rfl))
          try simp only [Act.put, List.setIfInBounds_toArray, List.set_cons_zero, List.set_cons_succ]
          refine wpAnyH_take (i := 13) (oi := { dst := some 122, op := Op.load 3 (Operand.tmp 121), type := 3, pos := "outright.go:124", after := #[{ on := 12, ground := Ground.data }, { on := 9, ground := Ground.guard }], guard := some (9, false) }) (v := ?_) rfl (by kernel_rfl) (by kernel_rfl) (by kernel_rfl) (fun _ _ _ h => h) (Or.inl ⟨by rfl, ?_⟩) (by assumption) ?_
          rotate_left
          · (intro w9 hSw; (try dsimp only at hSw); (go_split_ands; go_simp); (try with_reducible rfl))
          try simp only [Act.put, List.setIfInBounds_toArray, List.set_cons_zero, List.set_cons_succ]
          refine wpAnyH_take (i := 14) (oi := { dst := some 123, op := Op.fieldAddr 29 (Operand.tmp 11) 0, type := 0, pos := "outright.go:124", after := #[{ on := 9, ground := Ground.guard }], guard := some (9, false) }) (v := ?_) rfl (by kernel_rfl) (by kernel_rfl) (by kernel_rfl) (fun _ _ _ h => h) (Or.inl ⟨by rfl, ?_⟩) (by assumption) ?_
          rotate_left
          · (intro w9 hSw; (try dsimp only at hSw); (go_split_ands; go_simp); (try with_reducible rfl))
          try simp only [Act.put, List.setIfInBounds_toArray, List.set_cons_zero, List.set_cons_succ]
          refine wpAnyH_take (i := 15) (oi := { dst := some 124, op := Op.load 3 (Operand.tmp 123), type := 3, pos := "outright.go:124", after := #[{ on := 14, ground := Ground.data }, { on := 9, ground := Ground.guard }], guard := some (9, false) }) (v := ?_) rfl (by kernel_rfl) (by kernel_rfl) (by kernel_rfl) (fun _ _ _ h => h) (Or.inl ⟨by rfl, ?_⟩) (by assumption) ?_
          rotate_left
          · (intro w9 hSw; (try dsimp only at hSw); (go_split_ands; go_simp); (try with_reducible rfl))
          try simp only [Act.put, List.setIfInBounds_toArray, List.set_cons_zero, List.set_cons_succ]
          refine wpAnyH_take (i := 16) (oi := { dst := some 125, op := Op.fieldAddr 29 (Operand.tmp 11) 1, type := 0, pos := "outright.go:124", after := #[{ on := 9, ground := Ground.guard }], guard := some (9, false) }) (v := ?_) rfl (by kernel_rfl) (by kernel_rfl) (by kernel_rfl) (fun _ _ _ h => h) (Or.inl ⟨by rfl, ?_⟩) (by assumption) ?_
          rotate_left
          · (intro w9 hSw; (try dsimp only at hSw); (go_split_ands; go_simp); (try with_reducible rfl))
          try simp only [Act.put, List.setIfInBounds_toArray, List.set_cons_zero, List.set_cons_succ]
          refine wpAnyH_take (i := 17) (oi := { dst := some 126, op := Op.load 3 (Operand.tmp 125), type := 3, pos := "outright.go:124", after := #[{ on := 16, ground := Ground.data }, { on := 9, ground := Ground.guard }], guard := some (9, false) }) (v := ?_) rfl (by kernel_rfl) (by kernel_rfl) (by kernel_rfl) (fun _ _ _ h => h) (Or.inl ⟨by rfl, ?_⟩) (by assumption) ?_
          rotate_left
          · (intro w9 hSw; (try dsimp only at hSw); (go_split_ands; go_simp); (try with_reducible rfl))
          try simp only [Act.put, List.setIfInBounds_toArray, List.set_cons_zero, List.set_cons_succ]
          refine wpAnyH_take (i := 19) (oi := { dst := some 128, op := Op.move (Operand.tmp 15), type := 3, pos := "outright.go:124", after := #[{ on := 9, ground := Ground.guard }], guard := some (9, false) }) (v := ?_) rfl (by kernel_rfl) (by kernel_rfl) (by kernel_rfl) (fun _ _ _ h => h) (Or.inl ⟨by rfl, ?_⟩) (by assumption) ?_
          rotate_left
          · (intro w9 hSw; (try dsimp only at hSw); (go_split_ands; go_simp); (try with_reducible rfl))
          try simp only [Act.put, List.setIfInBounds_toArray, List.set_cons_zero, List.set_cons_succ]
          refine wpAnyH_ready (rs := [18]) (by kernel_rfl) (by simp) ?_
          refine AllReadyH.cons (o := { dst := some 127, op := Op.buildSlice 37 2 #[(0, Operand.tmp 124), (1, Operand.tmp 126)], type := 37, pos := "outright.go:124", after := #[{ on := 15, ground := Ground.data }, { on := 17, ground := Ground.data }, { on := 9, ground := Ground.guard }], guard := some (9, false) }) rfl (fun K hK => ?_) AllReadyH.nil
          go_simp
          clear hHeld
          go_wp2_with fail
          refine hK.out _ _ ?_ (fun hHeld => ?_)
          · exact ⟨cellAt (L8.out.grow ((Below.refl _ _).alloc (Nat.le_refl _) _)).eb.wb.box 0, HY.out _ (BoxAt.grow G8.out ((Below.refl _ _).alloc (Nat.le_refl _) _)), cellAt (L8.out.grow ((Below.refl _ _).alloc (Nat.le_refl _) _)).eb.due 0, cellAt (L8.out.grow ((Below.refl _ _).alloc (Nat.le_refl _) _)).eb.due 1⟩
          clear hK K
          try simp only [Act.put, List.setIfInBounds_toArray, List.set_cons_zero, List.set_cons_succ]
          generalize hW : World.alloc _ _ = W8 at *
          have L9 := Lib.hid (L8.out.grow (blocks1 hW).2.2)
          have G9 := Lib.hid (BoxAt.grow G8.out (blocks1 hW).2.2)
          have z9 := HSEL.out _ _ _ _ (blocks1 hW).1
          clear hW
          refine wpAnyH_take (i := 20) (oi := { dst := some 129, op := Op.indexAddr 37 (Operand.tmp 127) (Operand.tmp 128), type := 0, pos := "outright.go:124", after := #[{ on := 18, ground := Ground.data }, { on := 19, ground := Ground.data }, { on := 9, ground := Ground.guard }], guard := some (9, false) }) (v := ?_) rfl (by kernel_rfl) (by kernel_rfl) (by kernel_rfl) (fun _ _ _ h => h) (Or.inl ⟨by rfl, ?_⟩) (by assumption) ?_
          rotate_left
          · (intro w9 hSw; (try dsimp only at hSw); (go_split_ands; go_simp); (try with_reducible rfl))
          try simp only [Act.put, List.setIfInBounds_toArray, List.set_cons_zero, List.set_cons_succ]
          refine wpAnyH_ready (rs := [21]) (by kernel_rfl) (by simp) ?_
          refine AllReadyH.cons (o := { dst := some 130, op := Op.load 3 (Operand.tmp 129), type := 3, pos := "outright.go:124", after := #[{ on := 20, ground := Ground.data }, { on := 9, ground := Ground.guard }], guard := some (9, false) }) rfl (fun K hK => ?_) AllReadyH.nil
          go_simp
          skip
          go_wp2_with fail
          refine hK.out _ _ ?_ (fun hHeld => ?_)
          · exact hHeld
          clear hK K
          try simp only [Act.put, List.setIfInBounds_toArray, List.set_cons_zero, List.set_cons_succ]
          refine wpAnyH_take (i := 22) (oi := { dst := some 131, op := Op.binOp BinOp.neq 3 (Operand.tmp 122) (Operand.tmp 130) 3, type := 4, pos := "outright.go:124", after := #[{ on := 13, ground := Ground.data }, { on := 21, ground := Ground.data }, { on := 9, ground := Ground.guard }], guard := some (9, false) }) (v := ?_) rfl (by kernel_rfl) (by kernel_rfl) (by kernel_rfl) (fun _ _ _ h => h) (Or.inl ⟨by rfl, ?_⟩) (by assumption) ?_
          rotate_left
          · (intro w9 hSw; (try dsimp only at hSw); (go_split_ands; go_simp); (try with_reducible rfl))
          try simp only [Act.put, List.setIfInBounds_toArray, List.set_cons_zero, List.set_cons_succ]
          refine wpAnyH_take (i := 23) (oi := { dst := some 132, op := Op.pick (Operand.tmp 118) (Operand.const (Value.bool true)) (Operand.tmp 131), type := 4, pos := "outright.go:124", after := #[{ on := 9, ground := Ground.data }, { on := 22, ground := Ground.data }], guard := none }) (v := ?_) rfl (by kernel_rfl) (by kernel_rfl) (by kernel_rfl) (fun _ _ _ h => h) (Or.inl ⟨by rfl, ?_⟩) (by assumption) ?_
          rotate_left
          · (intro w9 hSw; (try dsimp only at hSw); (go_split_ands; go_simp); (try with_reducible rfl))
          try simp only [Act.put, List.setIfInBounds_toArray, List.set_cons_zero, List.set_cons_succ]
          refine wpAnyH_done (by kernel_rfl) ?_ _
          clear hHeld z9
          clear L8 G8 hxc
          have q1 := cellAt L9.out.eb.wb.box 1
          simp only [List.getElem?_toArray, List.getElem?_cons_zero, List.getElem?_cons_succ] at q1
          go_wp2_with fail
          clear q1 G9
          obtain ⟨wo, rfl⟩ : ∃ wo : World, wo = wr := ⟨_, rfl⟩
          go_loopw [136] (fun v wr => ∃ s : Nat, s ≤ sn ∧ v = .int .i64 s ∧ EL w n sa ta sn sc tn tc S T w3.heap.size lo hi w5.heap.size p1 p2 (w5.heap.size + 1) o1 o2 o3 (withK c b T) wr) (fun v _ => sn - (intOf v).toNat)
          case atStart => exact ⟨0, Nat.zero_le _, rfl, L9.out⟩
          case round =>
            clear L9
            obtain ⟨s, hs, rfl, hL⟩ := hrel
            have HL := Lib.hid hL
            clear hL
            by_cases hlt2 : s < sn
            · have hft := HV.out.fat s hlt2
              have hix := fun w => run_indexAt_row (w := w) (cap := sc) Try.underlying22 size52 (HL.out.eb.wb.ss.plain (by omega)) hlt2
              obtain ⟨g0, g1⟩ := HL.out.eb.wb.ss.at hlt2
              have LA := Lib.hid (HL.out.grow ((Below.refl _ _).alloc (Nat.le_refl _) (.cells #[.int .i64 (S s).fat, .int .i64 (S s).rate] 52)))
              have BA := Lib.hid (show BoxAt _ wr.heap.size #[.int .i64 (S s).fat, .int .i64 (S s).rate] 52 from heap_alloc_new wr _)
              have CF := Lib.hid (fun W h1 h2 => (fathoms_any n sa ta sn sc tn tc S T s c W h1 h2).mono fun e w' h => h.yes HV.out (by rw [inB_iff.2 ⟨by omega, by omega⟩, inB_iff.2 ⟨by omega, by omega⟩]; rfl))
              have hmany := ends_many S T tn s c b
              obtain ⟨m1, em1⟩ : ∃ x, x = manyOf S T (leastK c T) tn s c := ⟨_, rfl⟩
              obtain ⟨m2, em2⟩ : ∃ x, x = manyOf S T (mostK c T) tn s c := ⟨_, rfl⟩
              rw [← em1, ← em2] at CF hmany
              have HM := Lib.hid hmany
              clear em1 em2 hmany
              have q0 := cellAt LA.out.eb.wb.box 0
              have q1 := cellAt LA.out.eb.wb.box 1
              have q2 := cellAt LA.out.eb.wb.box 2
              simp only [List.getElem?_toArray, List.getElem?_cons_zero, List.getElem?_cons_succ] at q0 q1 q2
              go_wp2_with (go_at_call 15; refine (CF.out _ LA.out.eb.wb.ss LA.out.eb.wb.tt).mono ?_)
              generalize hW : World.alloc _ _ = W at *
              rintro e w10 ⟨rfl, hb10⟩
              have L10 := Lib.hid (LA.out.grow hb10)
              have B10 := Lib.hid (BA.out.grow hb10)
              clear hW hb10 LA BA q0 q1 q2 g0 g1 hix CF
              have z0 := fun o => cellAt (B10.out.grow ((Below.refl w10.heap.size w10).alloc (Nat.le_refl _) o)) 0
              simp only [List.getElem?_toArray, List.getElem?_cons_zero] at z0
              go_wp2_with fail
              generalize hW : World.alloc _ _ = W at *
              have L11 := Lib.hid (L10.out.grow (blocks1 hW).2.2)
              have B11 := Lib.hid (show BoxAt W w10.heap.size #[.int .i64 m1, .int .i64 m2] 29 from (blocks1 hW).1)
              clear hW L10 B10 z0
              obtain ⟨wo, rfl⟩ : ∃ wo : World, wo = wr := ⟨_, rfl⟩
              go_loopw [26, 150] (fun u v wr => ∃ f : Nat, f ≤ (S s).fat.toNat ∧ v = .int .i64 f ∧ u = .int .i64 ((cntP (fun f => decide (ownerOf T (withK c b T) tn s f = c)) f : Nat) : Int) ∧ EL w n sa ta sn sc tn tc S T w3.heap.size lo hi w5.heap.size p1 p2 (w5.heap.size + 1) o1 o2 o3 (withK c b T) wr ∧ BoxAt wr w10.heap.size #[.int .i64 m1, .int .i64 m2] 29) (fun _ v _ => (S s).fat.toNat - (intOf v).toNat)
              case atStart => exact ⟨0, Nat.zero_le _, rfl, rfl, L11.out, B11.out⟩
              case round =>
                clear L11 B11
                obtain ⟨f, hf, rfl, rfl, hL, hB⟩ := hrel
                have L12 := Lib.hid hL
                have B12 := Lib.hid hB
                clear hL hB
                by_cases hlt3 : f < (S s).fat.toNat
                · have hlt4 : (f : Int) < (S s).fat := by omega
                  have q0 := cellAt L12.out.eb.wb.box 0
                  have q1 := cellAt L12.out.eb.wb.box 1
                  have q2 := cellAt L12.out.eb.wb.box 2
                  simp only [List.getElem?_toArray, List.getElem?_cons_zero, List.getElem?_cons_succ] at q0 q1 q2
                  have CO := Lib.hid (owner_any n sa ta sn sc tn tc S T o1 o2 o3 c1 c2 c3 _ _ _ s f wr L12.out.eb.wb.ss L12.out.eb.wb.tt L12.out.i1 L12.out.i2 L12.out.i3 HV.out.crews (by omega))
                  rw [told_with'] at CO
                  have hcl := cntP_le (fun f => decide (ownerOf T (withK c b T) tn s f = c)) f
                  by_cases ho : ownerOf T (withK c b T) tn s f = c
                  · rw [ho] at CO
                    go_wp2_with (go_at_call 34; refine CO.out.mono ?_; rintro e w13 ⟨rfl, hb13⟩; have L13 := Lib.hid (L12.out.grow hb13); have B13 := Lib.hid (B12.out.grow hb13); clear hb13)
                    refine ⟨⟨f + 1, by omega, by go_num, ?_, L13.out, B13.out⟩, by simp [intOf]; omega⟩
                    simp only [cntP, ho, decide_true, if_true]
                    go_num
                  · have ho2 : (ownerOf T (withK c b T) tn s f == (c : Int)) = false := by simpa using ho
                    go_wp2_with (go_at_call 34; refine CO.out.mono ?_; rintro e w13 ⟨rfl, hb13⟩; have L13 := Lib.hid (L12.out.grow hb13); have B13 := Lib.hid (B12.out.grow hb13); clear hb13)
                    refine ⟨⟨f + 1, by omega, by go_num, ?_, L13.out, B13.out⟩, by simp [intOf]; omega⟩
                    simp only [cntP, ho, decide_false, Bool.false_eq_true, if_false, Nat.add_zero]
                · obtain ⟨F, hF⟩ : ∃ F, F = (S s).fat.toNat := ⟨_, rfl⟩
                  obtain rfl : f = F := by omega
                  have hF2 : ((f : Nat) : Int) = (S s).fat := by omega
                  obtain ⟨M, hM⟩ : ∃ M : Nat, M = cntP (fun f => decide (ownerOf T (withK c b T) tn s f = c)) f := ⟨_, rfl⟩
                  rw [← hM]
                  have hMm : sel b (m1 : Int) (m2 : Int) = (M : Int) := by
                    have h := HM.out
                    have h2 : manyOf S T (withK c b T) tn s c = M := by rw [hM, hF]; rfl
                    rw [h2] at h
                    rw [h]
                    cases b <;> rfl
                  have z0 := cellAt B12.out 0
                  have z1 := cellAt B12.out 1
                  have zs := HSEL.out (wr.alloc (.cells #[.int .i64 m1, .int .i64 m2] 3)) wr.heap.size m1 m2 (heap_alloc_new wr _)
                  rw [hMm] at zs
                  simp only [List.getElem?_toArray, List.getElem?_cons_zero, List.getElem?_cons_succ] at z0 z1
                  have hlt5 : ¬ (f : Int) < (S s).fat := by omega
                  clear hM hMm hF hF2 HM hlt3 hf
                  have L13 := Lib.hid (L12.out.grow ((Below.refl _ _).alloc (Nat.le_refl _) (.cells #[.int .i64 m1, .int .i64 m2] 3)))
                  go_wp2_with fail
                  exact ⟨⟨s + 1, hlt2, by go_num, L13.out⟩, by simp [intOf]; omega⟩
            · obtain rfl : s = sn := by omega
              have CW2 := Lib.hid (CW.out (-1) _ HL.out.eb)
              go_wp2_with (go_at_call 38; refine CW2.out.mono ?_)
              rintro e w14 ⟨o4, c4, o5, c5, o6, c6, rfl, j1, j2, j3, hb14⟩
              have L14 := Lib.hid (EL.mk (HL.out.eb.grow hb14) j1 j2 j3)
              clear j1 j2 j3 hb14 HL CW2
              have q0 := cellAt L14.out.eb.wb.box 0
              have q1 := cellAt L14.out.eb.wb.box 1
              have q2 := cellAt L14.out.eb.wb.box 2
              simp only [List.getElem?_toArray, List.getElem?_cons_zero, List.getElem?_cons_succ] at q0 q1 q2
              go_wp2_with (go_at_call 25; refine (exacts_any n sa ta s sc tn tc S T o4 o5 o6 tn c4 tn c5 tn c6 _ _ _ _ L14.out.eb.wb.ss L14.out.eb.wb.tt L14.out.i1 L14.out.i2 L14.out.i3).mono ?_)
              intro e w15 h
              obtain ⟨g', hg', rfl, hbx, hb15⟩ := h.yes HV.out (ends_ok HV.out (-1) b)
              have L15 := Lib.hid (L14.out.eb.grow hb15)
              have J15 := Lib.hid (ints_box (show BoxAt w15 g' (rowVals (fun j : Nat => coinsOf S T (withK (-1) b T) s tn j) n).toArray 3 from hbx) (by unfold maxLen; omega))
              have hpv : sumF (fun j : Nat => coinsOf S T (withK (-1) b T) s tn j) n = sel b p2 p1 := by
                rw [ends_paid HV.out _ rfl, EP1.out, EP2.out]
                cases b
                · rw [withK_false]; rfl
                · rw [withK_true]; rfl
              have hlv : sumF (fun k => ((S k).fat - (manyOf S T (withK (-1) b T) tn (k : Int) (-1) : Int)) * (S k).rate) s = sel b p2 p1 := by
                rw [← hpv, ends_paid HV.out _ rfl, ends_left]
              have HPV := Lib.hid hpv
              have HLV := Lib.hid hlv
              have HCB := Lib.hid (fun j : Nat => coinsOf_bd HV.out (withK (-1) b T) j)
              clear h hbx hb15 L14 q0 q1 q2 hpv hlv
              simp only [Int.toNat_natCast]
              go_wp2_with fail
              obtain ⟨wo, rfl⟩ : ∃ wo : World, wo = wr := ⟨_, rfl⟩
              go_loopw [28, 197] (fun u v wr => ∃ j : Nat, j ≤ n ∧ v = .int .i64 j ∧ u = .int .i64 (sumF (fun j : Nat => coinsOf S T (withK (-1) b T) s tn j) j) ∧ EB w n sa ta s sc tn tc S T w3.heap.size lo hi w5.heap.size p1 p2 (w5.heap.size + 1) wr ∧ IntsAt wr (some ⟨g', 0, none⟩) n (fun j : Nat => coinsOf S T (withK (-1) b T) s tn j)) (fun _ v _ => n - (intOf v).toNat)
              case atStart => exact ⟨0, Nat.zero_le _, rfl, rfl, L15.out, J15.out⟩
              case round =>
                clear L15 J15
                obtain ⟨j, hj, rfl, rfl, hL, hI⟩ := hrel
                have L16 := Lib.hid hL
                have J16 := Lib.hid hI
                clear hL hI
                have hsb := sumF_bdM HCB.out j
                by_cases hlt3 : j < n
                · have hix := fun w => run_indexAt_row (w := w) (oa := some ⟨g', 0, none⟩) (cap := n) Try.underlying37 size3 rfl hlt3
                  have hc := J16.out.at hlt3
                  simp only [blk, ofs, Nat.zero_add, Nat.mul_one] at hix hc
                  have hcj := HCB.out j
                  obtain ⟨X, hX⟩ : ∃ X, X = sumF (fun j : Nat => coinsOf S T (withK (-1) b T) s tn j) j := ⟨_, rfl⟩
                  obtain ⟨Y, hY⟩ : ∃ Y, Y = coinsOf S T (withK (-1) b T) s tn j := ⟨_, rfl⟩
                  rw [← hX] at hsb ⊢
                  rw [← hY] at hcj hc
                  have HX := Lib.hid hX
                  have HY2 := Lib.hid hY
                  clear hX hY
                  go_wp2_with fail
                  exact ⟨⟨j + 1, hlt3, by go_num, by rw [HX.out, HY2.out]; rfl, L16.out, J16.out⟩, by simp [intOf]; omega⟩
                · obtain rfl : j = n := by omega
                  rw [HPV.out]
                  have z0 := cellAt L16.out.pd 0
                  have z1 := cellAt L16.out.pd 1
                  have zs := HSEL.out (wr.alloc (.cells #[.int .i64 p2, .int .i64 p1] 3)) wr.heap.size p2 p1 (heap_alloc_new wr _)
                  have L17 := Lib.hid (L16.out.grow ((Below.refl _ _).alloc (Nat.le_refl _) (.cells #[.int .i64 p2, .int .i64 p1] 3)))
                  have q1 := cellAt L17.out.wb.box 1
                  simp only [List.getElem?_toArray, List.getElem?_cons_zero, List.getElem?_cons_succ] at z0 z1 q1
                  clear hsb
                  go_wp2_with fail
                  generalize hW : World.alloc _ _ = W at *
                  clear hW z0 z1 zs q1 L16 J16
                  obtain ⟨wo, rfl⟩ : ∃ wo : World, wo = wr := ⟨_, rfl⟩
                  go_loopw [29, 222] (fun u v wr => ∃ k : Nat, k ≤ s ∧ v = .int .i64 k ∧ u = .int .i64 (sumF (fun k => ((S k).fat - (manyOf S T (withK (-1) b T) tn (k : Int) (-1) : Int)) * (S k).rate) k) ∧ EB w j sa ta s sc tn tc S T w3.heap.size lo hi w5.heap.size p1 p2 (w5.heap.size + 1) wr) (fun _ v _ => s - (intOf v).toNat)
                  case atStart => exact ⟨0, Nat.zero_le _, rfl, rfl, L17.out⟩
                  case round =>
                    clear L17
                    obtain ⟨k, hk, rfl, rfl, hL⟩ := hrel
                    have L18 := Lib.hid hL
                    clear hL
                    by_cases hlt4 : k < s
                    · have hft := HV.out.fat k hlt4
                      have hrt := HV.out.rate k hlt4
                      have hix := fun w => run_indexAt_row (w := w) (cap := sc) Try.underlying22 size52 (L18.out.wb.ss.plain (by omega)) hlt4
                      obtain ⟨g0, g1⟩ := L18.out.wb.ss.at hlt4
                      have LA := Lib.hid (L18.out.grow ((Below.refl _ _).alloc (Nat.le_refl _) (.cells #[.int .i64 (S k).fat, .int .i64 (S k).rate] 52)))
                      have BA := Lib.hid (show BoxAt _ wr.heap.size #[.int .i64 (S k).fat, .int .i64 (S k).rate] 52 from heap_alloc_new wr _)
                      have CL := Lib.hid (fun W h1 h2 => (left_any j sa ta s sc tn tc S T k W h1 h2).mono fun e w' h => h.yes HV.out (inB_iff.2 ⟨by omega, by omega⟩))
                      have hmany := ends_many S T tn k (-1) b
                      have hmle := many_le (S := S) (T := T) (K := withK (-1) b T) (tn := tn) (c := -1) (s := k) hft.1
                      obtain ⟨m1, em1⟩ : ∃ x, x = manyOf S T (leastK (-1) T) tn k (-1) := ⟨_, rfl⟩
                      obtain ⟨m2, em2⟩ : ∃ x, x = manyOf S T (mostK (-1) T) tn k (-1) := ⟨_, rfl⟩
                      obtain ⟨M, em⟩ : ∃ x, x = manyOf S T (withK (-1) b T) tn k (-1) := ⟨_, rfl⟩
                      rw [← em1, ← em2] at CL
                      rw [← em1, ← em2, ← em] at hmany
                      rw [← em] at hmle
                      have HEM := Lib.hid em
                      have hMm : sel b (m1 : Int) (m2 : Int) = (M : Int) := by
                        rw [hmany]
                        cases b <;> rfl
                      have HMm := Lib.hid hMm
                      have hpr := left_term (M := M) hft hrt hmle
                      have hsb := left_sum HV.out (withK (-1) b T) (n := k) (by omega)
                      obtain ⟨X, hX⟩ : ∃ X, X = sumF (fun k => ((S k).fat - (manyOf S T (withK (-1) b T) tn (k : Int) (-1) : Int)) * (S k).rate) k := ⟨_, rfl⟩
                      rw [← hX] at hsb ⊢
                      have HX := Lib.hid hX
                      clear em1 em2 em hmany hMm hX
                      have q0 := cellAt LA.out.wb.box 0
                      have q1 := cellAt LA.out.wb.box 1
                      have q2 := cellAt LA.out.wb.box 2
                      simp only [List.getElem?_toArray, List.getElem?_cons_zero, List.getElem?_cons_succ] at q0 q1 q2
                      go_wp2_with (go_at_call 17; refine (CL.out _ LA.out.wb.ss LA.out.wb.tt).mono ?_)
                      generalize hW : World.alloc _ _ = W at *
                      rintro e w19 ⟨rfl, hb19⟩
                      have L19 := Lib.hid (LA.out.grow hb19)
                      have B19 := Lib.hid (BA.out.grow hb19)
                      clear hW hb19 LA BA q0 q1 q2 g0 g1 hix CL
                      obtain ⟨W2, hW2⟩ : ∃ W2, W2 = (w19.alloc (.cells #[.int .i64 m1, .int .i64 m2] 29)).alloc (.cells #[.int .i64 m1, .int .i64 m2] 3) := ⟨_, rfl⟩
                      obtain ⟨b0, b1, b2, b3⟩ := blocks2 hW2.symm
                      have zs := HSEL.out W2 (w19.heap.size + 1) m1 m2 b1
                      rw [HMm.out] at zs
                      have L20 := Lib.hid (L19.out.grow b3)
                      have B20 := B19.out.grow b3
                      have z0 := cellAt B20 0
                      have z1 := cellAt B20 1
                      simp only [List.getElem?_toArray, List.getElem?_cons_zero, List.getElem?_cons_succ] at z0 z1
                      have n0 : ¬ (M : Int) < 0 := by omega
                      have n1 : ¬ (S k).fat < (M : Int) := by omega
                      rw [hW2] at zs z0 z1
                      clear b0 b1 b2 b3 B20 L19 B19
                      go_wp2_with fail
                      rw [← hW2]
                      exact ⟨⟨k + 1, hlt4, by go_num, by rw [HX.out, HEM.out]; rfl, L20.out⟩, by simp [intOf]; omega⟩
                    · obtain rfl : k = s := by omega
                      rw [HLV.out]
                      go_wp2_with fail
                      exact ⟨⟨i + 1, hlt, by go_num, L18.out⟩, by simp [intOf]; omega⟩
        · obtain rfl : i = 2 := by omega
          go_wp2_with (go_at_call 14; refine (awake_any _).mono ?_; rintro e w6 ⟨rfl, hb6⟩; have HB := Lib.hid (HE.out.wb.bel.next hb6))
          exact bodyPost_ret (v := .bool true) (by simp [results, Try.results7, go_sem]) rfl ⟨rfl, HB.out⟩
end Go.Proofs.Ytbpeamppkdmdcaa
