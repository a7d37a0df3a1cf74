/-
  Walks: the reference's owner of a fathom.
-/
import Derived.Test.YtbpeamppkdmdcaaG9
import Derived.Test.YtbpeamppkdmdcaaG10
import Derived.Deep.CutRange
import Derived.Deep.QuietTactic
import Derived.BigQuiet
namespace Go.Proofs.Ytbpeamppkdmdcaa
open Go.RowKit

def Kn.cell (k : Kn) : Nat → Value
  | 0 => .int .i64 k.fr
  | 1 => .int .i64 k.to
  | _ => .int .i64 k.td
/-- A row of tickets that are known. -/
def KnAt (w : World) (oa : Option Addr) (n : Nat) (K : Nat → Kn) : Prop := Row w oa n 3 (fun i j => (K i).cell j)
theorem KnAt.grow {w w' : World} {oa : Option Addr} {n : Nat} {K : Nat → Kn} (h : KnAt w oa n K) (hb : Below w.heap.size w w') : KnAt w' oa n K := Row.grow h hb
theorem KnAt.at {w : World} {oa : Option Addr} {n : Nat} {K : Nat → Kn} (h : KnAt w oa n K) {k : Nat} (hk : k < n) :
    w.cell? ⟨blk oa, ofs oa + k * 3, none⟩ = some (.int .i64 (K k).fr) ∧ w.cell? ⟨blk oa, ofs oa + k * 3 + 1, none⟩ = some (.int .i64 (K k).to) ∧ w.cell? ⟨blk oa, ofs oa + k * 3 + 2, none⟩ = some (.int .i64 (K k).td) :=
  ⟨h.cells k hk 0 (by omega), h.cells k hk 1 (by omega), h.cells k hk 2 (by omega)⟩
theorem size128 : (Try.prog.info? 128).map (·.size) = some 3 := by kernel_rfl
/-- Wages and a truth. -/
structure KB (w : World) (cr : Int) (sa ta : Option Addr) (sn sc tn tc : Nat) (S : Nat → Sm) (T : Nat → Tk) (b : Nat) (oa : Option Addr) (K : Nat → Kn) (wr : World) : Prop where
  wb : WB w cr sa ta sn sc tn tc S T b wr
  k : KnAt wr oa tn K
theorem KB.grow {w : World} {cr : Int} {sa ta : Option Addr} {sn sc tn tc : Nat} {S : Nat → Sm} {T : Nat → Tk} {b : Nat} {oa : Option Addr} {K : Nat → Kn} {w1 w2 : World} (h : KB w cr sa ta sn sc tn tc S T b oa K w1) (hb : Below w1.heap.size w1 w2) : KB w cr sa ta sn sc tn tc S T b oa K w2 := ⟨h.wb.grow hb, h.k.grow hb⟩
def bI : Option Nat → Int
  | none => -1
  | some b => b
theorem best_step {T : Nat → Tk} {K : Nat → Kn} {s : Int} {f n : Nat} : best T K s f (n + 1) = match best T K s f n with | none => if hasB T K s f n then some n else none | some b => if hasB T K s f n && decide ((K n).td < (K b).td) then some n else some b := rfl

set_option maxHeartbeats 4000000 in
theorem ownerR_any (cr : Int) (sa ta : Option Addr) (sn sc tn tc : Nat) (S : Nat → Sm) (T : Nat → Tk) (oa : Option Addr) (kc : Nat) (K : Nat → Kn) (s : Int) (fm : Nat) (w : World) (hS : SeamsAt w sa sn S) (hT : TicketsAt w ta tn T) (hK : KnAt w oa tn K) (ht6 : tn ≤ 1000) :
    Calls Try.prog 64 #[.agg #[.int .i64 cr, .slice sa sn sc, .slice ta tn tc], .slice oa tn kc, .int .i64 s, .int .i64 fm] w
      fun e w' => e = .returned (.int .i64 (ownerOf T K tn s fm)) ∧ Below w.heap.size w w' := by
  have I0 := Lib.hid (show KB w cr sa ta sn sc tn tc S T w.heap.size oa K _ from ⟨WB.new (cr := cr) (sc := sc) (tc := tc) hS hT, hK.grow (WB.new (cr := cr) (sc := sc) (tc := tc) hS hT).bel⟩)
  clear hS hT hK
  go_enter Try.func64, Try.ntmps64
  go_wp2_with fail
  go_loopw [9, 10] (fun v i W => ∃ k : Nat, k ≤ tn ∧ i = .int .i64 k ∧ v = .int .i64 (bI (best T K s fm k)) ∧ KB w cr sa ta sn sc tn tc S T w.heap.size oa K W) (fun _ i _ => tn - (intOf i).toNat)
  case atStart => exact ⟨0, Nat.zero_le _, rfl, rfl, I0.out⟩
  case round =>
    clear I0
    obtain ⟨k, hk, rfl, rfl, hinv⟩ := hrel
    have HI := Lib.hid hinv
    clear hinv
    have q2 := cellAt HI.out.wb.box 2
    simp only [List.getElem?_toArray, List.getElem?_cons_zero, List.getElem?_cons_succ] at q2
    obtain ⟨B, hB⟩ : ∃ B, B = best T K s fm k := ⟨_, rfl⟩
    rw [← hB]
    have HB := Lib.hid hB
    clear hB
    obtain ⟨v, ev⟩ : ∃ v, v = bI B := ⟨_, rfl⟩
    rw [← ev]
    have EV := Lib.hid ev
    clear ev
    by_cases hlt : k < tn
    · have hi := fun w => run_indexAt_row (w := w) (cap := tc) Try.underlying23 size58 (HI.out.wb.tt.plain (by omega)) hlt
      have hj := fun w => run_indexAt_row (w := w) (cap := kc) Try.underlying104 size128 (HI.out.k.plain (by omega)) hlt
      obtain ⟨-, k1, -⟩ := HI.out.wb.tt.at hlt
      obtain ⟨c0, c1, c2⟩ := HI.out.k.at hlt
      obtain ⟨b1, e1⟩ : ∃ b, ((T k).seam != s) = b := ⟨_, rfl⟩
      obtain ⟨b2, e2⟩ : ∃ b, decide ((fm : Int) < (K k).fr) = b := ⟨_, rfl⟩
      obtain ⟨b3, e3⟩ : ∃ b, decide ((K k).to ≤ (fm : Int)) = b := ⟨_, rfl⟩
      have HH := Lib.hid (show hasB T K s fm k = (!b1 && !b2 && !b3) from by
        subst e1 e2 e3
        unfold hasB
        rw [Bool.eq_iff_iff]
        simp [bne])
      have HS := Lib.hid (best_step (T := T) (K := K) (s := s) (f := fm) (n := k))
      cases b1 with
      | true =>
        clear e2 e3
        go_wp2_with fail
        exact ⟨⟨k + 1, hlt, by go_num, by rw [HS.out, HH.out, ← HB.out, EV.out]; cases B <;> simp, HI.out⟩, by simp [intOf]; omega⟩
      | false =>
        cases b2 with
        | true =>
          clear e3
          go_wp2_with fail
          exact ⟨⟨k + 1, hlt, by go_num, by rw [HS.out, HH.out, ← HB.out, EV.out]; cases B <;> simp, HI.out⟩, by simp [intOf]; omega⟩
        | false =>
          cases b3 with
          | true =>
            go_wp2_with fail
            exact ⟨⟨k + 1, hlt, by go_num, by rw [HS.out, HH.out, ← HB.out, EV.out]; cases B <;> simp, HI.out⟩, by simp [intOf]; omega⟩
          | false =>
            cases B with
            | none =>
              obtain rfl : v = -1 := EV.out
              go_wp2_with fail
              go_quiet (fail)
              go_wp2_with fail
              exact ⟨⟨k + 1, hlt, by go_num, by rw [HS.out, HH.out, ← HB.out]; rfl, HI.out.grow (below_drewN (Below.refl _ _) _)⟩, by simp [intOf]; omega⟩
            | some b =>
              obtain rfl : v = (b : Int) := EV.out
              have hb : b < tn := by have := best_lt HB.out.symm; omega
              have hjb := fun w => run_indexAt_row (w := w) (cap := kc) Try.underlying104 size128 (HI.out.k.plain (by omega)) hb
              obtain ⟨-, -, d2⟩ := HI.out.k.at hb
              have hn : ¬ (b : Int) < 0 := by omega
              by_cases h4 : (K k).td < (K b).td
              · have HS2 := Lib.hid (show best T K s fm (k + 1) = some k by rw [HS.out, HH.out, ← HB.out]; simp [h4])
                go_wp2_with fail
                go_quiet (fail)
                go_wp2_with fail
                exact ⟨⟨k + 1, hlt, by go_num, by rw [HS2.out]; rfl, HI.out.grow (below_drewN (Below.refl _ _) _)⟩, by simp [intOf]; omega⟩
              · have HS2 := Lib.hid (show best T K s fm (k + 1) = some b by rw [HS.out, HH.out, ← HB.out]; simp [h4])
                go_wp2_with fail
                go_quiet (fail)
                go_wp2_with fail
                exact ⟨⟨k + 1, hlt, by go_num, by rw [HS2.out]; rfl, HI.out.grow (below_drewN (Below.refl _ _) _)⟩, by simp [intOf]; omega⟩
    · obtain rfl : tn = k := by omega
      cases B with
      | none =>
        obtain rfl : v = -1 := EV.out
        go_wp2_with fail
        go_ret
        exact ⟨ret_int (by unfold ownerOf; rw [← HB.out]; rfl), HI.out.wb.bel⟩
      | some b =>
        obtain rfl : v = (b : Int) := EV.out
        have hb : b < tn := best_lt HB.out.symm
        have hn : ¬ (b : Int) < 0 := by omega
        have hi := fun w => run_indexAt_row (w := w) (cap := tc) Try.underlying23 size58 (HI.out.wb.tt.plain (by omega)) hb
        obtain ⟨k0, -⟩ := HI.out.wb.tt.at hb
        go_wp2_with fail
        go_ret
        exact ⟨ret_int (by unfold ownerOf; rw [← HB.out]; rfl), HI.out.wb.bel⟩
end Go.Proofs.Ytbpeamppkdmdcaa
