/-
  Walk: the law on how coins are shared out.
-/
import Derived.Test.YtbpeamppkdmdcaaS2
import Derived.Test.YtbpeamppkdmdcaaB5
namespace Go.Proofs.Ytbpeamppkdmdcaa
open Go.RowKit

def vB (coins : Int) (n : Nat) (sh : Nat → Int) (k : Nat) : Bool := inB coins 0 500 && decide (n ≤ 6) && (List.range k).all fun i => inB (sh i) 0 20
theorem vB_succ (coins : Int) (n : Nat) (sh : Nat → Int) (k : Nat) : vB coins n sh (k + 1) = (vB coins n sh k && inB (sh k) 0 20) := by
  simp [vB, List.range_succ, Bool.and_assoc]

def BadR (coins : Int) (n : Nat) (sh : Nat → Int) (w : World) (v a i : Value) (wr : World) : Prop :=
  ∃ (k : Nat) (x : Int), k ≤ n ∧ i = .int .i64 k ∧ v = .bool (vB coins n sh k) ∧ a = .int .i64 x ∧ Below w.heap.size w wr

set_option maxRecDepth 100000 in
set_option maxRecDepth 100000 in
set_option maxHeartbeats 400000 in
theorem share_far (coins : Int) (oa : Option Addr) (n cap : Nat) (w : World) (hn : n ≤ maxLen) (h40 : 40 < n) :
    Calls Try.prog 10 #[.int .i64 coins, .slice oa n cap] w fun e w' => e = .returned (.bool true) ∧ Below w.heap.size w w' := by
  unfold maxLen at hn
  go_enter Try.func10, Try.ntmps10
  go_wp2_with (go_at_call 14; refine (awake_any _).mono ?_; rintro e w1 ⟨rfl, hb⟩)
  go_ret
  exact ⟨rfl, hb⟩

set_option maxRecDepth 100000 in
set_option maxHeartbeats 4000000 in
theorem share_bad (coins : Int) (oa : Option Addr) (n cap : Nat) (sh : Nat → Int) (w : World) (hl : IntsAt w oa n sh) (h40 : n ≤ 40) (hbad : shareOk coins n sh = false) :
    Calls Try.prog 10 #[.int .i64 coins, .slice oa n cap] w fun e w' => e = .returned (.bool true) ∧ Below w.heap.size w w' := by
  have HL := Lib.hid hl
  have HBAD := Lib.hid hbad
  have C := Lib.hid (shares_any coins oa n cap sh w hl)
  have h40' : (n : Int) ≤ 40 := by omega
  clear hl hbad
  have hn6 : (n : Int) ≤ 6 ∨ decide ((n : Int) ≤ 6) = false := by rcases Int.lt_or_le 6 (n : Int) with h | h <;> simp <;> omega
  rcases hn6 with hn6 | hn6
  all_goals (
   go_enter Try.func10, Try.ntmps10
   go_wp2_with (go_at_call 30; refine C.out.mono ?_; rintro e w1 ⟨hb, ⟨hok, _⟩ | ⟨_, rfl⟩⟩; (· exfalso; have := HBAD.out; rw [hok] at this; cases this)))
  all_goals
    have HB := Lib.hid hb
    clear C hb
    go_loopw [7, 8, 44] (BadR coins n sh w) (fun _ _ i _ => n - (intOf i).toNat)
    case atStart => exact ⟨0, 0, Nat.zero_le _, rfl, by congr 1; simp [vB, inB]; (first | done | omega | (intros; simp at hn6; omega)), rfl, HB.out⟩
    case round =>
      obtain ⟨k, x, hk, rfl, rfl, rfl, hb⟩ := hrel
      have HB2 := Lib.hid hb
      clear hb HB
      by_cases hlt : k < n
      · have hi := fun w => run_indexAt_row (w := w) (cap := cap) Try.underlying37 size3 (HL.out.plain (by omega)) hlt
        have hc := (HL.out.grow HB2.out).at hlt
        simp only [Nat.mul_one] at hi
        have hS := vB_succ coins n sh k
        have hvk : vB coins n sh k = true ∨ vB coins n sh k = false := by cases vB coins n sh k <;> simp
        rcases hvk with hv | hv
        · rw [hv, Bool.true_and] at hS
          rw [hv]
          clear hv
          by_cases a1 : 0 ≤ sh k
          · by_cases a2 : sh k ≤ 20
            · have HS := Lib.hid (show vB coins n sh (k + 1) = true from by rw [hS]; exact inB_iff.2 ⟨a1, a2⟩)
              clear hS
              go_wp2_with fail
              all_goals exact ⟨⟨k + 1, _, hlt, by go_num, by rw [HS.out], rfl, HB2.out⟩, by simp [intOf]; omega⟩
            · have HS := Lib.hid (show vB coins n sh (k + 1) = false from by rw [hS]; simp [inB, a2])
              clear hS
              go_wp2_with fail
              all_goals exact ⟨⟨k + 1, _, hlt, by go_num, by rw [HS.out], rfl, HB2.out⟩, by simp [intOf]; omega⟩
          · have HS := Lib.hid (show vB coins n sh (k + 1) = false from by rw [hS]; simp [inB, a1])
            clear hS
            go_wp2_with fail
            all_goals exact ⟨⟨k + 1, _, hlt, by go_num, by rw [HS.out], rfl, HB2.out⟩, by simp [intOf]; omega⟩
        · rw [hv, Bool.false_and] at hS
          rw [hv]
          have HS := Lib.hid hS
          clear hS hv
          go_wp2_with fail
          all_goals exact ⟨⟨k + 1, _, hlt, by go_num, by rw [HS.out], rfl, HB2.out⟩, by simp [intOf]; omega⟩
      · obtain rfl : k = n := by omega
        have hv : vB coins k sh k = false := HBAD.out
        rw [hv]
        clear hv
        go_wp2_with (go_at_call 14; refine (awake_any _).mono ?_; rintro e w2 ⟨rfl, hb2⟩)
        go_ret
        exact ⟨rfl, HB2.out.next hb2⟩
end Go.Proofs.Ytbpeamppkdmdcaa
