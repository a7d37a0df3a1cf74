/-
  Walks: how many fathoms, how many coins, by the reference; its checks.
-/
import Derived.Test.YtbpeamppkdmdcaaU2
import Derived.Deep.RegionHeld3
import Derived.Deep.DrawnRows
namespace Go.Proofs.Ytbpeamppkdmdcaa
open Go.RowKit
attribute [local go_sem ↓] Go.wp_at_zero Go.wp_at_succ

set_option maxHeartbeats 2000000 in
theorem manyR_any (cr : Int) (sa ta : Option Addr) (sn sc tn tc : Nat) (S : Nat → Sm) (T : Nat → Tk) (oa : Option Addr) (kc : Nat) (K : Nat → Kn) (s : Nat) (c : Int) (w : World) (hS : SeamsAt w sa sn S) (hT : TicketsAt w ta tn T) (hK : KnAt w oa tn K) (ht6 : tn ≤ 1000) (hs : s < sn) (hf : 0 ≤ (S s).fat ∧ (S s).fat ≤ 20) :
    Calls Try.prog 94 #[.agg #[.int .i64 cr, .slice sa sn sc, .slice ta tn tc], .slice oa tn kc, .int .i64 s, .int .i64 c] w
      fun e w' => e = .returned (.int .i64 (manyOf S T K tn s c)) ∧ Below w.heap.size w w' := by
  have I0 := Lib.hid (show KB w cr sa ta sn sc tn tc S T w.heap.size oa K _ from ⟨WB.new (cr := cr) (sc := sc) (tc := tc) hS hT, hK.grow (WB.new (cr := cr) (sc := sc) (tc := tc) hS hT).bel⟩)
  clear hS hT hK
  go_enter Try.func94, Try.ntmps94
  go_wp2_with fail
  go_loopw [9, 10] (fun v i W => ∃ f : Nat, f ≤ (S s).fat.toNat ∧ i = .int .i64 f ∧ v = .int .i64 (cntP (fun f => decide (ownerOf T K tn s f = c)) f : Nat) ∧ KB w cr sa ta sn sc tn tc S T w.heap.size oa K W) (fun _ i _ => (S s).fat.toNat - (intOf i).toNat)
  case atStart => exact ⟨0, Nat.zero_le _, rfl, rfl, I0.out⟩
  case round =>
    clear I0
    obtain ⟨f, hfl, rfl, rfl, hinv⟩ := hrel
    have HI := Lib.hid hinv
    clear hinv
    have q0 := cellAt HI.out.wb.box 0
    have q1 := cellAt HI.out.wb.box 1
    have q2 := cellAt HI.out.wb.box 2
    simp only [List.getElem?_toArray, List.getElem?_cons_zero, List.getElem?_cons_succ] at q0 q1 q2
    have hi := fun w => run_indexAt_row (w := w) (cap := sc) Try.underlying22 size52 (HI.out.wb.ss.plain (by omega)) hs
    obtain ⟨g0, -⟩ := HI.out.wb.ss.at hs
    have hle := cntP_le (fun f => decide (ownerOf T K tn s f = c)) f
    have hsu : cntP (fun f => decide (ownerOf T K tn s f = c)) (f + 1) = cntP (fun f => decide (ownerOf T K tn s f = c)) f + if decide (ownerOf T K tn s f = c) = true then 1 else 0 := rfl
    have HU := Lib.hid hsu
    clear hsu
    by_cases hlt : (f : Int) < (S s).fat
    · have CO := Lib.hid (ownerR_any cr sa ta sn sc tn tc S T oa kc K s f _ HI.out.wb.ss HI.out.wb.tt HI.out.k ht6)
      obtain ⟨o, eo⟩ : ∃ o, o = ownerOf T K tn s f := ⟨_, rfl⟩
      rw [← eo] at CO
      by_cases h : o = c
      · have hb : (o == c) = true := by simp [h]
        have HO := Lib.hid (show ownerOf T K tn s f = c from eo.symm.trans h)
        clear h eo
        go_wp2_with (go_at_call 64; refine CO.out.mono ?_; rintro e w1 ⟨rfl, hb1⟩; have H1 := Lib.hid (HI.out.grow hb1))
        exact ⟨⟨f + 1, by omega, by go_num, by rw [HU.out, HO.out]; simp, H1.out⟩, by simp [intOf]; omega⟩
      · have hb : (o == c) = false := by simp [h]
        have HO := Lib.hid (show ¬ ownerOf T K tn s f = c from fun e => h (eo.trans e))
        clear h eo
        go_wp2_with (go_at_call 64; refine CO.out.mono ?_; rintro e w1 ⟨rfl, hb1⟩; have H1 := Lib.hid (HI.out.grow hb1))
        exact ⟨⟨f + 1, by omega, by go_num, by rw [HU.out, if_neg (by simpa using HO.out)]; rfl, H1.out⟩, by simp [intOf]; omega⟩
    · go_wp2_with fail
      go_ret
      obtain rfl : f = (S s).fat.toNat := by omega
      exact ⟨ret_int (by unfold manyOf; simp), HI.out.wb.bel⟩

set_option maxHeartbeats 400000 in
theorem power_any (n : Nat) (hn : n ≤ 10) (w : World) : Calls Try.prog 65 #[.int .i64 n] w fun e w' => e = .returned (.int .i64 ((2 ^ n : Nat) : Int)) ∧ w = w' := by
  go_enter Try.func65, Try.ntmps65
  go_wp2_with fail
  go_loop [3, 4] (fun v i => ∃ k : Nat, k ≤ n ∧ i = .int .i64 k ∧ v = .int .i64 ((2 ^ k : Nat) : Int)) (fun _ i => n - (intOf i).toNat)
  case atStart => exact ⟨0, Nat.zero_le _, rfl, rfl⟩
  case round =>
    obtain ⟨k, hk, rfl, rfl⟩ := hrel
    obtain ⟨p, ep⟩ : ∃ p, p = 2 ^ k := ⟨_, rfl⟩
    have hp : p ≤ 1024 := by rw [ep]; exact Nat.le_trans (Nat.pow_le_pow_right (by omega) (show k ≤ 10 by omega)) (by decide)
    rw [← ep]
    have EP := Lib.hid ep
    clear ep
    by_cases hlt : k < n
    · go_wp2_with fail
      exact ⟨⟨k + 1, hlt, by go_num, by rw [show 2 ^ (k + 1) = 2 * p by rw [EP.out, Nat.pow_succ]; omega]; go_num⟩, by simp [intOf]; omega⟩
    · obtain rfl : n = k := by omega
      go_wp2_with fail
      go_ret
      exact ⟨ret_int (by rw [EP.out]; simp [Int.natCast_pow]), rfl⟩

/-- What the reference's check says. -/
def checkE (V : Prop) (b : Bool) (x : Int) : Prop := (V ∧ b = true ∧ x = 0) ∨ (V ∧ b = false ∧ x = 2) ∨ (¬ V ∧ x = 1)
def CheckPost (w : World) (V : Prop) (b : Bool) (e : Ending) (w' : World) : Prop := ∃ x, e = .returned (.int .i64 x) ∧ checkE V b x ∧ Below w.heap.size w w'
set_option maxHeartbeats 400000 in
theorem check_any (cr : Int) (sa ta : Option Addr) (sn sc tn tc : Nat) (S : Nat → Sm) (T : Nat → Tk) (b : Bool) (w : World) (hS : SeamsAt w sa sn S) (hT : TicketsAt w ta tn T) :
    Calls Try.prog 51 #[.agg #[.int .i64 cr, .slice sa sn sc, .slice ta tn tc], .bool b] w (CheckPost w (Valid cr sn tn S T) b) := by
  have I0 := Lib.hid (WB.new (cr := cr) (sc := sc) (tc := tc) hS hT)
  clear hS hT
  go_enter Try.func51, Try.ntmps51
  go_wp2_with (go_at_call 37; refine (wages_ref cr sa ta sn sc tn tc S T _ I0.out.ss I0.out.tt).mono ?_)
  rintro e w1 ⟨v, rfl, hv, hb⟩
  have HB := Lib.hid (I0.out.bel.next hb)
  have HV := Lib.hid hv
  clear hv hb
  cases v with
  | false =>
    go_wp2_with fail
    go_ret
    exact ⟨1, rfl, .inr (.inr ⟨fun h => by have := HV.out.2 h; simp at this, rfl⟩), HB.out⟩
  | true =>
    have HT := Lib.hid (HV.out.1 rfl)
    cases b with
    | false =>
      go_wp2_with fail
      go_ret
      exact ⟨2, rfl, .inr (.inl ⟨HT.out, rfl, rfl⟩), HB.out⟩
    | true =>
      go_wp2_with fail
      go_ret
      exact ⟨0, rfl, .inl ⟨HT.out, rfl, rfl⟩, HB.out⟩
end Go.Proofs.Ytbpeamppkdmdcaa
