/-
  Walks: whether there is far too much of something, with lists; whether wages are heavy.
-/
import Derived.Test.YtbpeamppkdmdcaaU12
namespace Go.Proofs.Ytbpeamppkdmdcaa
open Go.RowKit
attribute [local go_sem ↓] Go.wp_at_zero Go.wp_at_succ

structure Hdrs (w : World) (oa : Option Addr) (m : Nat) (A : Nat → Option Addr) (N C : Nat → Nat) : Prop where
  row : Row w oa m 1 (fun i _ => .slice (A i) (N i) (C i))
  small : ∀ i, i < m → N i ≤ maxLen
theorem Hdrs.grow {w w' : World} {oa : Option Addr} {m : Nat} {A : Nat → Option Addr} {N C : Nat → Nat} (h : Hdrs w oa m A N C) (hb : Below w.heap.size w w') : Hdrs w' oa m A N C := ⟨h.row.grow hb, h.small⟩
theorem Hdrs.at {w : World} {oa : Option Addr} {m : Nat} {A : Nat → Option Addr} {N C : Nat → Nat} (h : Hdrs w oa m A N C) {k : Nat} (hk : k < m) : w.cell? ⟨blk oa, ofs oa + k, none⟩ = some (.slice (A k) (N k) (C k)) := by
  have := h.row.cells k hk 0 (by omega)
  simpa using this
theorem Hdrs.nil (w : World) : Hdrs w none 0 (fun _ => none) (fun _ => 0) (fun _ => 0) := ⟨⟨fun h => by omega, fun h => by omega, by unfold maxLen; omega, fun i hi => by omega⟩, fun i hi => by omega⟩
def farL (sn tn m : Nat) (N : Nat → Nat) : Bool := decide (40 < sn) || decide (40 < tn) || (List.range m).any fun i => decide (40 < N i)
theorem underlying72 : Try.prog.underlying 72 = some (.slice 37) := by kernel_rfl
theorem size37 : (Try.prog.info? 37).map (·.size) = some 1 := by kernel_rfl

structure FarI (w : World) (oa : Option Addr) (m : Nat) (A : Nat → Option Addr) (N C : Nat → Nat) (W : World) : Prop where
  bel : Below w.heap.size w W
  hd : Hdrs W oa m A N C
theorem FarI.grow {w : World} {oa : Option Addr} {m : Nat} {A : Nat → Option Addr} {N C : Nat → Nat} {W W2 : World} (h : FarI w oa m A N C W) (hb : Below W.heap.size W W2) : FarI w oa m A N C W2 := ⟨h.bel.next hb, h.hd.grow hb⟩
def FarK (w : World) (sn tn : Nat) (oa : Option Addr) (m : Nat) (A : Nat → Option Addr) (N C : Nat → Nat) (v i : Value) (W : World) : Prop :=
  ∃ (k x : Nat), k ≤ m ∧ i = .int .i64 k ∧ v = .int .i64 x ∧ x ≤ maxLen ∧ (40 < x ↔ 40 < sn ∨ 40 < tn ∨ ∃ j, j < k ∧ 40 < N j) ∧ FarI w oa m A N C W

set_option maxRecDepth 100000 in
set_option maxHeartbeats 1000000 in
theorem far_any (cr : Int) (sa ta : Option Addr) (sn sc tn tc : Nat) (oa : Option Addr) (m mc : Nat) (A : Nat → Option Addr) (N C : Nat → Nat) (w : World) (hs : sn ≤ maxLen) (ht : tn ≤ maxLen) (hl : Hdrs w oa m A N C) :
    Calls Try.prog 36 #[.agg #[.int .i64 cr, .slice sa sn sc, .slice ta tn tc], .slice oa m mc] w fun e w' => e = .returned (.bool (farL sn tn m N)) ∧ Below w.heap.size w w' := by
  have hm := hl.row.small
  have hb0 := ba w (.cells #[.int .i64 cr, .slice sa sn sc, .slice ta tn tc] 25)
  have I0 := Lib.hid (show FarI w oa m A N C _ from ⟨hb0, hl.grow hb0⟩)
  clear hb0 hl
  unfold maxLen at hs ht hm
  by_cases h : sn < tn
  all_goals
    go_enter Try.func36, Try.ntmps36
    go_wp2
    go_loopw [5, 17] (FarK w sn tn oa m A N C) (fun _ i _ => m - (intOf i).toNat)
    case atStart => exact ⟨0, _, Nat.zero_le _, rfl, rfl, (by unfold maxLen; omega), ⟨by omega, fun h => by rcases h with h | h | ⟨j, hj, -⟩ <;> omega⟩, I0.out⟩
    case round =>
      clear I0
      obtain ⟨k, x, hk, rfl, rfl, hxm, hx, hi⟩ := hrel
      have HX := Lib.hid hx
      have HI := Lib.hid hi
      clear hx hi
      unfold maxLen at hxm
      by_cases hlt : k < m
      · have hix := fun w => run_indexAt_row (w := w) (cap := mc) underlying72 size37 (HI.out.hd.row.plain (by omega)) hlt
        have hn := HI.out.hd.small k hlt
        have hc := HI.out.hd.at hlt
        simp only [Nat.mul_one] at hix
        obtain ⟨y, ey⟩ : ∃ y, y = N k := ⟨_, rfl⟩
        rw [← ey] at hn hc
        unfold maxLen at hn
        have HY := Lib.hid ey
        clear ey
        by_cases hxy : x < y
        all_goals
          have hxi : ((x : Int) < (y : Int)) = (x < y) := by simp
          go_wp2
          refine ⟨⟨k + 1, _, hlt, by go_num, rfl, (by unfold maxLen; omega), ?_, HI.out⟩, by simp [intOf]; omega⟩
          have hx := HX.out
          have hy := HY.out
          constructor
          · intro h4
            by_cases h5 : 40 < y
            · exact .inr (.inr ⟨k, by omega, by omega⟩)
            · rcases hx.1 (by omega) with h | h | ⟨j, hj, h⟩
              · exact .inl h
              · exact .inr (.inl h)
              · exact .inr (.inr ⟨j, by omega, h⟩)
          · rintro (h | h | ⟨j, hj, h⟩)
            · have := hx.2 (.inl h); omega
            · have := hx.2 (.inr (.inl h)); omega
            · by_cases e : j = k
              · subst e; omega
              · have := hx.2 (.inr (.inr ⟨j, by omega, h⟩)); omega
      · obtain rfl : m = k := by omega
        go_wp2
        go_ret
        refine ⟨ret_bool ?_, HI.out.bel⟩
        have hx := HX.out
        rw [Bool.eq_iff_iff]
        simp only [farL, Bool.or_eq_true, decide_eq_true_eq, List.any_eq_true, List.mem_range, or_assoc]
        constructor
        · intro h; exact hx.1 (by omega)
        · intro h; have := hx.2 h; omega

/-- How many truths the first tickets have. -/
def prodT (T : Nat → Tk) : Nat → Nat
  | 0 => 1
  | k + 1 => prodT T k * (canL (T k)).length
theorem prodT_count (T : Nat → Tk) : ∀ d m, prodT T m * countT T d m = prodT T (m + d)
  | 0, m => by simp [countT]
  | d + 1, m => by
    rw [show m + (d + 1) = m + 1 + d by omega, ← prodT_count T d (m + 1)]
    simp only [countT, prodT, Nat.mul_assoc]
theorem prodT_all (T : Nat → Tk) (tn : Nat) : prodT T tn = countT T tn 0 := by
  have := prodT_count T tn 0
  simp only [prodT, Nat.one_mul, Nat.zero_add] at this
  exact this.symm
theorem prodT_bd {T : Nat → Tk} {tn : Nat} (h : ∀ i, i < tn → Spans (T i)) : ∀ k, k ≤ tn → prodT T k ≤ 64 ^ k
  | 0, _ => Nat.le_refl _
  | k + 1, hk => by
    rw [Nat.pow_succ]
    exact Nat.mul_le_mul (prodT_bd h k (by omega)) (canL_len (h k (by omega))).1
theorem canL_num {t : Tk} (h : Spans t) : ((canL t).length : Int) = (t.fh - t.fl + 1) * (t.th - t.tl + 1) * (t.dh - t.dl + 1) := by
  unfold Spans at h
  unfold canL
  rw [aL_len]
  have h1 : (aN t : Int) = t.fh - t.fl + 1 := by unfold aN; omega
  have h2 : (bN t : Int) = t.th - t.tl + 1 := by unfold bN; omega
  have h3 : (kN t : Int) = t.dh - t.dl + 1 := by unfold kN; omega
  rw [← h1, ← h2, ← h3, Int.natCast_mul, Int.natCast_mul, Int.mul_assoc]
def HeavyPost (w : World) (V : Prop) (far : Bool) (n mo : Nat) (e : Ending) (w' : World) : Prop := ∃ b, e = .returned (.bool b) ∧ (b = false → far = false ∧ (V → n ≤ mo)) ∧ Below w.heap.size w w'
structure HvI (w : World) (cr : Int) (sa ta : Option Addr) (sn sc tn tc : Nat) (S : Nat → Sm) (T : Nat → Tk) (oa : Option Addr) (m : Nat) (A : Nat → Option Addr) (N C : Nat → Nat) (W : World) : Prop where
  wb : WB w cr sa ta sn sc tn tc S T w.heap.size W
  hd : Hdrs W oa m A N C
theorem HvI.grow {w : World} {cr : Int} {sa ta : Option Addr} {sn sc tn tc : Nat} {S : Nat → Sm} {T : Nat → Tk} {oa : Option Addr} {m : Nat} {A : Nat → Option Addr} {N C : Nat → Nat} {W W2 : World} (h : HvI w cr sa ta sn sc tn tc S T oa m A N C W) (hb : Below W.heap.size W W2) : HvI w cr sa ta sn sc tn tc S T oa m A N C W2 := ⟨h.wb.grow hb, h.hd.grow hb⟩

set_option maxRecDepth 100000 in
set_option maxHeartbeats 2000000 in
theorem heavy_any (cr : Int) (sa ta : Option Addr) (sn sc tn tc : Nat) (S : Nat → Sm) (T : Nat → Tk) (mo : Nat) (oa : Option Addr) (m mc : Nat) (A : Nat → Option Addr) (N C : Nat → Nat) (w : World) (hS : SeamsAt w sa sn S) (hT : TicketsAt w ta tn T) (hl : Hdrs w oa m A N C) :
    Calls Try.prog 13 #[.agg #[.int .i64 cr, .slice sa sn sc, .slice ta tn tc], .int .i64 mo, .slice oa m mc] w (HeavyPost w (Valid cr sn tn S T) (farL sn tn m N) (countT T tn 0) mo) := by
  have nsl := hS.small
  have ntl := hT.small
  have hb0 := ba w (.cells #[.int .i64 cr, .slice sa sn sc, .slice ta tn tc] 25)
  have I0 := Lib.hid (show HvI w cr sa ta sn sc tn tc S T oa m A N C _ from ⟨WB.new (cr := cr) (sc := sc) (tc := tc) hS hT, hl.grow hb0⟩)
  clear hS hT hl hb0
  obtain ⟨fb, hfb⟩ : ∃ fb, fb = farL sn tn m N := ⟨_, rfl⟩
  have FA := Lib.hid (fun W (h : HvI w cr sa ta sn sc tn tc S T oa m A N C W) => hfb ▸ far_any cr sa ta sn sc tn tc oa m mc A N C W nsl ntl h.hd)
  rw [← hfb]
  clear nsl ntl
  have HF := Lib.hid hfb
  clear hfb
  rcases fb with _ | _
  · go_enter Try.func13, Try.ntmps13
    go_wp2_with (first | (go_at_call 36; refine (FA.out _ I2.out).mono ?_; rintro e w3 ⟨rfl, hb3⟩; have I3 := Lib.hid (I2.out.grow hb3); clear hb3) | (go_at_call 36; refine (FA.out _ I0.out).mono ?_; rintro e w1 ⟨rfl, hb⟩; have I1 := Lib.hid (I0.out.grow hb); clear hb; have d0 := cellAt I1.out.wb.box 0; have d1 := cellAt I1.out.wb.box 1; have d2 := cellAt I1.out.wb.box 2; simp only [List.getElem?_toArray, List.getElem?_cons_zero, List.getElem?_cons_succ] at d0 d1 d2) | (go_at_call 37; refine (wages_ref _ _ _ _ _ _ _ S T _ I1.out.wb.ss I1.out.wb.tt).mono ?_; rintro e w2 ⟨b, rfl, hv, hb2⟩; have HV := Lib.hid hv; have I2 := Lib.hid (I1.out.grow hb2); clear hv hb2; have q0 := cellAt I2.out.wb.box 0; have q1 := cellAt I2.out.wb.box 1; have q2 := cellAt I2.out.wb.box 2; simp only [List.getElem?_toArray, List.getElem?_cons_zero, List.getElem?_cons_succ] at q0 q1 q2; cases b))
    · go_ret
      exact ⟨false, rfl, fun _ => ⟨rfl, fun hv => absurd (HV.out.2 hv) Bool.false_ne_true⟩, I3.out.wb.bel⟩
    · have hv := HV.out.1 trivial
      have HVV := Lib.hid hv
      have HP := Lib.hid (prodT_all T tn)
      have htn6 := hv.tn6
      clear hv HV d0 d1 d2 q0 q1 q2 I0
      go_loopw [7, 24] (fun v i W => ∃ k : Nat, k ≤ tn ∧ i = .int .i64 k ∧ v = .int .i64 ((prodT T k : Nat) : Int) ∧ HvI w cr sa ta sn sc tn tc S T oa m A N C W) (fun _ i _ => tn - (intOf i).toNat)
      case atStart => exact ⟨0, Nat.zero_le _, rfl, rfl, I2.out⟩
      case round =>
        clear I1 I2
        obtain ⟨k, hk, rfl, rfl, hi⟩ := hrel
        have HI := Lib.hid hi
        clear hi
        by_cases hlt : k < tn
        · have hti := fun w => run_indexAt_row (w := w) (cap := tc) Try.underlying23 size58 (HI.out.wb.tt.plain (by omega)) hlt
          obtain ⟨k0, k1, k2, k3, k4, k5, k6, k7⟩ := HI.out.wb.tt.at hlt
          have hsp := HVV.out.allSpans k hlt
          have hnum := canL_num hsp
          have hlen := canL_len hsp
          have hp1 := prodT_bd HVV.out.allSpans (k + 1) (by omega)
          have hp2 : (64 : Nat) ^ (k + 1) ≤ 64 ^ 6 := Nat.pow_le_pow_right (by omega) (by omega)
          have hps : prodT T (k + 1) = prodT T k * (canL (T k)).length := rfl
          unfold Spans at hsp
          obtain ⟨x, ex⟩ : ∃ x, (T k).fh - (T k).fl + 1 = x := ⟨_, rfl⟩
          obtain ⟨y, ey⟩ : ∃ y, (T k).th - (T k).tl + 1 = y := ⟨_, rfl⟩
          obtain ⟨z, ez⟩ : ∃ z, (T k).dh - (T k).dl + 1 = z := ⟨_, rfl⟩
          obtain ⟨q, eq⟩ : ∃ q : Nat, q = (canL (T k)).length := ⟨_, rfl⟩
          rw [← eq] at hnum hlen hps
          rw [ex, ey, ez] at hnum
          have hx : 1 ≤ x ∧ x ≤ 4 := by omega
          have hy : 1 ≤ y ∧ y ≤ 4 := by omega
          have hxy : 1 ≤ x * y ∧ x * y ≤ 16 := by
            have : x = 1 ∨ x = 2 ∨ x = 3 ∨ x = 4 := by omega
            rcases this with rfl | rfl | rfl | rfl <;> omega
          have e1 : IntKind.i64.wrap ((T k).fh - (T k).fl) = x - 1 := by rw [IntWalk.i64_in _ (by omega)]; omega
          have e2 : IntKind.i64.wrap ((T k).th - (T k).tl) = y - 1 := by rw [IntWalk.i64_in _ (by omega)]; omega
          have e3 : IntKind.i64.wrap ((T k).dh - (T k).dl) = z - 1 := by rw [IntWalk.i64_in _ (by omega)]; omega
          have e4 : IntKind.i64.wrap (x - 1 + 1) = x := by rw [IntWalk.i64_in _ (by omega)]; omega
          have e5 : IntKind.i64.wrap (y - 1 + 1) = y := by rw [IntWalk.i64_in _ (by omega)]; omega
          have e6 : IntKind.i64.wrap (z - 1 + 1) = z := by rw [IntWalk.i64_in _ (by omega)]; omega
          obtain ⟨p, ep⟩ : ∃ p, x * y = p := ⟨_, rfl⟩
          rw [ep] at hxy hnum
          have e7 : IntKind.i64.wrap (x * y) = p := by rw [ep]; exact IntWalk.i64_in _ (by omega)
          have e8 : IntKind.i64.wrap (p * z) = q := by rw [← hnum]; exact IntWalk.i64_in _ (by omega)
          obtain ⟨P, eP⟩ : ∃ P, P = prodT T k := ⟨_, rfl⟩
          rw [← eP] at hps ⊢
          have hq : ((P : Int) * (q : Int)) = ((P * q : Nat) : Int) := by rw [Int.natCast_mul]
          rw [hps] at hp1
          obtain ⟨R, eR⟩ : ∃ R, R = P * q := ⟨_, rfl⟩
          rw [← eR] at hp1 hps hq
          have e9 : IntKind.i64.wrap ((P : Int) * (q : Int)) = R := by rw [hq]; exact IntWalk.i64_in _ (by omega)
          have HR := Lib.hid hps
          have HV9 := Lib.hid (show IntKind.i64.wrap ((P : Int) * IntKind.i64.wrap (IntKind.i64.wrap (IntKind.i64.wrap (IntKind.i64.wrap ((T k).fh - (T k).fl) + 1) * IntKind.i64.wrap (IntKind.i64.wrap ((T k).th - (T k).tl) + 1)) * IntKind.i64.wrap (IntKind.i64.wrap ((T k).dh - (T k).dl) + 1))) = R by rw [e1, e2, e3, e4, e5, e6, e7, e8, e9])
          clear e1 e2 e3 e4 e5 e6 e7 e8 e9
          clear hps hq hp1 hp2 hnum hlen hsp hx hy hxy eq ep eP eR
          go_wp2_with fail
          exact ⟨⟨k + 1, hlt, by go_num, by rw [HR.out]; have h := HV9.out; simp only [IntWalk.i64_left] at h; exact congrArg (Value.int .i64) h, HI.out.grow (ba _ _)⟩, by simp [intOf]; omega⟩
        · obtain rfl : tn = k := by omega
          go_wp2_with fail
          go_ret
          refine ⟨_, rfl, fun h => ⟨rfl, fun _ => ?_⟩, HI.out.wb.bel⟩
          have := HP.out
          simp at h
          omega
  · go_enter Try.func13, Try.ntmps13
    go_wp2_with (first | (go_at_call 36; refine (FA.out _ I1.out).mono ?_; rintro e w2 ⟨rfl, hb⟩; have I2 := Lib.hid (I1.out.grow hb); clear hb) | (go_at_call 36; refine (FA.out _ I0.out).mono ?_; rintro e w1 ⟨rfl, hb⟩; have I1 := Lib.hid (I0.out.grow hb); clear hb; have d0 := cellAt I1.out.wb.box 0; have d1 := cellAt I1.out.wb.box 1; have d2 := cellAt I1.out.wb.box 2; simp only [List.getElem?_toArray, List.getElem?_cons_zero, List.getElem?_cons_succ] at d0 d1 d2))
    go_ret
    exact ⟨true, rfl, fun h => (by cases h), I2.out.wb.bel⟩
end Go.Proofs.Ytbpeamppkdmdcaa
