/-
  Walks: the sample wages; whether two lists are the same.
-/
import Derived.Test.YtbpeamppkdmdcaaW20
namespace Go.Proofs.Ytbpeamppkdmdcaa
open Go.RowKit

set_option maxHeartbeats 400000 in
theorem span_any (a b : Int) (w : World) :
    Calls Try.prog 42 #[.int .i64 a, .int .i64 b] w fun e w' => e = .returned (.agg #[.int .i64 a, .int .i64 b]) ∧ Below w.heap.size w w' := by
  go_enter Try.func42, Try.ntmps42
  go_wp2
  exact bodyPost_ret (v := .agg #[.int .i64 a, .int .i64 b]) (by simp [results, Try.results42, go_sem]) rfl ⟨rfl, (Below.refl _ _).alloc (Nat.le_refl _) _⟩

set_option maxHeartbeats 1000000 in
theorem ticket_any (c s fl fh tl th dl dh : Int) (w : World) :
    Calls Try.prog 41 #[.int .i64 c, .int .i64 s, .agg #[.int .i64 fl, .int .i64 fh], .agg #[.int .i64 tl, .int .i64 th], .agg #[.int .i64 dl, .int .i64 dh]] w
      fun e w' => e = .returned (.agg #[.int .i64 c, .int .i64 s, .int .i64 fl, .int .i64 fh, .int .i64 tl, .int .i64 th, .int .i64 dl, .int .i64 dh]) ∧ Below w.heap.size w w' := by
  go_enter Try.func41, Try.ntmps41
  go_wp2
  exact bodyPost_ret (v := .agg #[.int .i64 c, .int .i64 s, .int .i64 fl, .int .i64 fh, .int .i64 tl, .int .i64 th, .int .i64 dl, .int .i64 dh]) (by simp [results, Try.results41, go_sem]) rfl
    ⟨rfl, ((((Below.refl _ _).alloc (Nat.le_refl _) _).alloc (by simp) _).alloc (by simp; omega) _).alloc (by simp; omega) _⟩

/-- Are the lists the same? -/
def intsEq (n m : Nat) (f g : Nat → Int) : Bool := decide (n = m) && (List.range n).all fun i => f i == g i

set_option maxHeartbeats 1000000 in
theorem ints_any (oa ob : Option Addr) (n m nc mc : Nat) (f g : Nat → Int) (w : World) (hl : IntsAt w oa n f) (hm : IntsAt w ob m g) :
    Calls Try.prog 27 #[.slice oa n nc, .slice ob m mc] w fun e w' => e = .returned (.bool (intsEq n m f g)) ∧ Below w.heap.size w w' := by
  have nl := hl.small
  have ml := hm.small
  unfold maxLen at nl ml
  have HL := Lib.hid hl
  have HM := Lib.hid hm
  clear hl hm
  by_cases hnm : n = m
  · subst hnm
    have e0 : ((n : Int) != n) = false := by simp
    go_enter Try.func27, Try.ntmps27
    go_wp2_with fail
    go_loopw [5] (fun i wr => ∃ k : Nat, k ≤ n ∧ i = .int .i64 k ∧ (∀ j, j < k → f j = g j) ∧ Below w.heap.size w wr) (fun i _ => n - (intOf i).toNat)
    case atStart => exact ⟨0, Nat.zero_le _, rfl, fun j hj => by omega, Below.refl _ _⟩
    case round =>
      obtain ⟨k, hk, rfl, hok, hb⟩ := hrel
      have HO := Lib.hid hok
      have HB := Lib.hid hb
      clear hok hb
      by_cases hlt : k < n
      · have hi := fun w => run_indexAt_row (w := w) (cap := nc) Try.underlying37 size3 (HL.out.plain (by omega)) hlt
        have hj := fun w => run_indexAt_row (w := w) (cap := mc) Try.underlying37 size3 (HM.out.plain (by omega)) hlt
        have c1 := (HL.out.grow HB.out).at hlt
        have c2 := (HM.out.grow HB.out).at hlt
        simp only [Nat.mul_one] at hi hj
        by_cases he : f k = g k
        · have e1 : (f k != g k) = false := by simp [he]
          have HE := Lib.hid he
          clear he
          go_wp2_with fail
          go_quiet (fail)
          go_wp2_with fail
          refine ⟨⟨k + 1, hlt, by go_num, fun j hj => ?_, below_drewN HB.out _⟩, by simp [intOf]; omega⟩
          by_cases e : j = k
          · rw [e]; exact HE.out
          · exact HO.out j (by omega)
        · have e1 : (f k != g k) = true := by simp [he]
          have hno := Lib.hid (show intsEq n n f g = false from by
            have : (List.range n).all (fun i => f i == g i) = false := all_no hlt (by simp [he])
            simp [intsEq, this])
          clear he
          go_wp2_with fail
          go_quiet (fail)
          go_wp2_with fail
          go_ret
          exact ⟨by rw [hno.out]; rfl, below_drewN HB.out _⟩
      · obtain rfl : k = n := by omega
        have hyes := Lib.hid (show intsEq k k f g = true from by
          simp only [intsEq, decide_true, Bool.true_and, List.all_eq_true, beq_iff_eq]
          exact fun i hi => HO.out i (by simpa using hi))
        go_wp2_with fail
        go_ret
        exact ⟨by rw [hyes.out]; rfl, HB.out⟩
  · have e0 : ((n : Int) != m) = true := by simp; omega
    have hno := Lib.hid (show intsEq n m f g = false from by simp [intsEq, hnm])
    go_enter Try.func27, Try.ntmps27
    go_wp2_with fail
    go_ret
    exact ⟨by rw [hno.out]; rfl, Below.refl _ _⟩
end Go.Proofs.Ytbpeamppkdmdcaa
