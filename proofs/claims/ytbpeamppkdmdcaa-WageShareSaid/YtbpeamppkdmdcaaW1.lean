/-
  Walks: the small functions of package wage.
-/
import Derived.Test.YtbpeamppkdmdcaaD
import Derived.Test.YtbpeamppkdmdcaaProg
import Derived.WalkLawsBesides
import Derived.Deep.QuietTactic
import Derived.BigQuiet
import Derived.Deep.RegionHeld3
import Derived.Deep.DrawnRows
import Derived.Laws.BitsAllLaws
import Derived.Laws.ShiftsVarLaws
namespace Go.Proofs.Ytbpeamppkdmdcaa
open Go.RowKit

def inB (n lo hi : Int) : Bool := decide (lo ≤ n) && decide (n ≤ hi)
theorem inB_iff {n lo hi : Int} : inB n lo hi = true ↔ lo ≤ n ∧ n ≤ hi := by simp [inB]

set_option maxHeartbeats 400000 in
theorem within_any (n lo hi : Int) (w : World) :
    Calls Try.prog 57 #[.int .i64 n, .int .i64 lo, .int .i64 hi] w fun e w' => e = .returned (.bool (inB n lo hi)) ∧ w = w' := by
  go_enter Try.func57, Try.ntmps57
  go_wp2
  all_goals
    go_ret
    simp [inB]
    omega

set_option maxHeartbeats 400000 in
theorem ask_true (x : Int) (w : World) :
    Calls Try.prog 77 #[.bool true, .int .i64 x] w fun e w' => e = .returned (.tuple #[]) ∧ w = w' := by
  go_enter Try.func77, Try.ntmps77
  go_wp2
  go_end0
  exact ⟨rfl, rfl⟩

set_option maxHeartbeats 400000 in
theorem ask_false (x : Int) (w : World) :
    Calls Try.prog 77 #[.bool false, .int .i64 x] w fun e w' => e = .panicked [{ v := .iface 136 (.int .i64 x), recovered := false }] ∧ w = w' := by
  go_enter Try.func77, Try.ntmps77
  go_wp2
  exact ⟨rfl, rfl, rfl⟩

/-- 'ask': where it is not so, a panic with the error. -/
def AskPost (b : Bool) (x : Int) (w : World) (e : Ending) (w' : World) : Prop :=
  (e = if b then .returned (.tuple #[]) else .panicked [{ v := .iface 136 (.int .i64 x), recovered := false }]) ∧ w = w'
theorem ask_any (b : Bool) (x : Int) (w : World) : Calls Try.prog 77 #[.bool b, .int .i64 x] w (AskPost b x w) := by
  cases b
  · exact (ask_false x w).mono fun e w' h => ⟨by simpa using h.1, h.2⟩
  · exact (ask_true x w).mono fun e w' h => ⟨by simpa using h.1, h.2⟩

def spanB (lo hi h : Int) : Bool := decide (0 ≤ lo) && decide (lo ≤ hi) && decide (hi ≤ h) && decide (hi - lo ≤ 3)
theorem spanB_iff {lo hi h : Int} : spanB lo hi h = true ↔ 0 ≤ lo ∧ lo ≤ hi ∧ hi ≤ h ∧ hi - lo ≤ 3 := by simp [spanB, and_assoc]
theorem spanB_no {lo hi h : Int} (c : ¬ (0 ≤ lo ∧ lo ≤ hi ∧ hi ≤ h ∧ hi - lo ≤ 3)) : spanB lo hi h = false := by
  rw [← Bool.not_eq_true, spanB_iff]; exact c

theorem ret_bool {a b : Bool} (h : a = b) : Ending.returned (.bool a) = .returned (.bool b) := by rw [h]
theorem ret_int {k : IntKind} {a b : Int} (h : a = b) : Ending.returned (.int k a) = .returned (.int k b) := by rw [h]

set_option maxHeartbeats 400000 in
theorem isSpan_any (lo hi h : Int) (w : World) (hh : h ≤ 1000000) :
    Calls Try.prog 92 #[.agg #[.int .i64 lo, .int .i64 hi], .int .i64 h] w fun e w' => e = .returned (.bool (spanB lo hi h)) ∧ Below w.heap.size w w' := by
  by_cases c1 : 0 ≤ lo
  · by_cases c2 : lo ≤ hi
    · by_cases c3 : hi ≤ h
      · go_enter Try.func92, Try.ntmps92
        go_wp2
        go_ret
        exact ⟨by simp [spanB, c1, c2, c3], (Below.refl _ _).alloc (Nat.le_refl _) _⟩
      · go_enter Try.func92, Try.ntmps92
        go_wp2
        go_ret
        exact ⟨ret_bool (spanB_no (by omega)).symm, (Below.refl _ _).alloc (Nat.le_refl _) _⟩
    · go_enter Try.func92, Try.ntmps92
      go_wp2
      go_ret
      exact ⟨ret_bool (spanB_no (by omega)).symm, (Below.refl _ _).alloc (Nat.le_refl _) _⟩
  · go_enter Try.func92, Try.ntmps92
    go_wp2
    go_ret
    exact ⟨ret_bool (spanB_no (by omega)).symm, (Below.refl _ _).alloc (Nat.le_refl _) _⟩

set_option maxHeartbeats 400000 in
theorem isSeam_any (cr : Int) (sa ta : Option Addr) (sn sc tn tc : Nat) (n : Int) (w : World) (hs : sn ≤ maxLen) :
    Calls Try.prog 48 #[.agg #[.int .i64 cr, .slice sa sn sc, .slice ta tn tc], .int .i64 n] w fun e w' => e = .returned (.bool (inB n 0 (sn - 1))) ∧ Below w.heap.size w w' := by
  unfold maxLen at hs
  go_enter Try.func48, Try.ntmps48
  go_wp2_with (go_at_call 57; refine (within_any _ _ _ _).mono ?_; rintro e w' ⟨rfl, rfl⟩)
  go_ret
  exact ⟨rfl, (Below.refl _ _).alloc (Nat.le_refl _) _⟩

set_option maxHeartbeats 400000 in
theorem isCrew_any (cr : Int) (sa ta : Option Addr) (sn sc tn tc : Nat) (n : Int) (w : World) (h0 : -1000000 ≤ cr) (h1 : cr ≤ 1000000) :
    Calls Try.prog 49 #[.agg #[.int .i64 cr, .slice sa sn sc, .slice ta tn tc], .int .i64 n] w fun e w' => e = .returned (.bool (inB n 0 (cr - 1))) ∧ Below w.heap.size w w' := by
  go_enter Try.func49, Try.ntmps49
  go_wp2_with (go_at_call 57; refine (within_any _ _ _ _).mono ?_; rintro e w' ⟨rfl, rfl⟩)
  go_ret
  exact ⟨rfl, (Below.refl _ _).alloc (Nat.le_refl _) _⟩

/-- Three boxes above the start. -/
theorem below3 (w : World) (a b c : Obj) : Below w.heap.size w (((w.alloc a).alloc b).alloc c) :=
  (((Below.refl _ _).alloc (Nat.le_refl _) _).alloc (by simp) _).alloc (by simp; omega) _

set_option maxHeartbeats 400000 in
theorem most_of_any (m n cr se fl fh tl th dl dh : Int) (w : World) :
    Calls Try.prog 58 #[.agg #[.int .i64 m], .int .i64 n, .agg #[.int .i64 cr, .int .i64 se, .int .i64 fl, .int .i64 fh, .int .i64 tl, .int .i64 th, .int .i64 dl, .int .i64 dh]] w
      fun e w' => e = .returned (.agg #[.int .i64 (if cr = m then fl else fh), .int .i64 (if cr = m then th else tl), .int .i64 (if cr = m then dl else dh)]) ∧ Below w.heap.size w w' := by
  by_cases c : cr = m
  · subst c
    simp only [if_true]
    go_enter Try.func58, Try.ntmps58
    go_wp2
    exact bodyPost_ret (v := .agg #[.int .i64 fl, .int .i64 th, .int .i64 dl]) (by simp [results, Try.results58, go_sem]) rfl ⟨rfl, below3 _ _ _ _⟩
  · have c' : (cr == m) = false := by simp [c]
    simp only [if_neg c]
    go_enter Try.func58, Try.ntmps58
    go_wp2
    exact bodyPost_ret (v := .agg #[.int .i64 fh, .int .i64 tl, .int .i64 dh]) (by simp [results, Try.results58, go_sem]) rfl ⟨rfl, below3 _ _ _ _⟩

set_option maxHeartbeats 400000 in
theorem least_of_any (m n cr se fl fh tl th dl dh : Int) (w : World) :
    Calls Try.prog 124 #[.agg #[.int .i64 m], .int .i64 n, .agg #[.int .i64 cr, .int .i64 se, .int .i64 fl, .int .i64 fh, .int .i64 tl, .int .i64 th, .int .i64 dl, .int .i64 dh]] w
      fun e w' => e = .returned (.agg #[.int .i64 (if cr = m then fh else fl), .int .i64 (if cr = m then tl else th), .int .i64 (if cr = m then dh else dl)]) ∧ Below w.heap.size w w' := by
  by_cases c : cr = m
  · subst c
    simp only [if_true]
    go_enter Try.func124, Try.ntmps124
    go_wp2
    exact bodyPost_ret (v := .agg #[.int .i64 fh, .int .i64 tl, .int .i64 dh]) (by simp [results, Try.results124, go_sem]) rfl ⟨rfl, below3 _ _ _ _⟩
  · have c' : (cr == m) = false := by simp [c]
    simp only [if_neg c]
    go_enter Try.func124, Try.ntmps124
    go_wp2
    exact bodyPost_ret (v := .agg #[.int .i64 fl, .int .i64 th, .int .i64 dl]) (by simp [results, Try.results124, go_sem]) rfl ⟨rfl, below3 _ _ _ _⟩

theorem size3 : (Try.prog.info? 3).map (·.size) = some 1 := by kernel_rfl

theorem testBit_and_one (m n : Nat) : ((m >>> n) &&& 1 == 1) = m.testBit n := by
  simp only [Nat.testBit]
  rw [Nat.and_comm]
  have : 1 &&& m >>> n < 2 := Nat.lt_of_le_of_lt Nat.and_le_left (by omega)
  generalize 1 &&& m >>> n = x at *
  have : x = 0 ∨ x = 1 := by omega
  rcases this with rfl | rfl <;> rfl

set_option maxHeartbeats 400000 in
theorem has_any (m : Nat) (n : Nat) (w : World) (hm : m < 4294967296) (hn : n ≤ 31) :
    Calls Try.prog 60 #[.int .u32 m, .int .i64 n] w fun e w' => e = .returned (.bool (m.testBit n)) ∧ w = w' := by
  go_enter Try.func60, Try.ntmps60
  go_wp2
  go_ret
  refine ⟨ret_bool ?_, rfl⟩
  have e2 : ((m : Int) / 2 ^ n) = ((m >>> n : Nat) : Int) := by rw [Nat.shiftRight_eq_div_pow]; simp
  have e3 : m >>> n < 4294967296 := by rw [Nat.shiftRight_eq_div_pow]; exact Nat.lt_of_le_of_lt (Nat.div_le_self _ _) hm
  rw [e2]
  have e4 := u32_and_nat (m >>> n) 1 e3 (by omega)
  simp only [Int.natCast_one] at e4
  rw [e4, ← testBit_and_one, Bool.eq_iff_iff, beq_iff_eq, beq_iff_eq]
  omega

set_option maxHeartbeats 400000 in
theorem but_any (m n : Nat) (w : World) (hm : m < 4294967296) (hn : n < 4294967296) :
    Calls Try.prog 97 #[.int .u32 m, .int .u32 n] w fun e w' => e = .returned (.int .u32 ((m &&& (4294967295 - n) : Nat) : Int)) ∧ w = w' := by
  have e4 := u32_andNot_nat m n hm hn
  have E := Lib.hid e4
  clear e4
  go_enter Try.func97, Try.ntmps97
  go_wp2
  go_ret
  exact ⟨ret_int E.out, rfl⟩

/-- The fathoms of a known ticket, as bits. -/
def fmask (f t : Int) : Nat := if t ≤ f then 0 else 2 ^ t.toNat - 2 ^ f.toNat
theorem fmask_lt (f t : Int) (ht : t ≤ 20) : fmask f t < 1048576 := by
  unfold fmask
  split
  · omega
  · have : 2 ^ t.toNat ≤ 2 ^ 20 := Nat.pow_le_pow_right (by omega) (by omega)
    have : 0 < 2 ^ f.toNat := Nat.two_pow_pos _
    omega

theorem below_drewN {B : Nat} {a w : World} (h : Below B a w) (n : Nat) : Below B a (w.drewN n) := ⟨h.os, h.tape, h.output, h.size, h.block⟩

set_option maxHeartbeats 400000 in
theorem known_fathoms_any (f t d : Int) (w : World) (hf0 : 0 ≤ f) (hf : f ≤ 20) (ht0 : 0 ≤ t) (ht : t ≤ 20) :
    Calls Try.prog 59 #[.agg #[.int .i64 f, .int .i64 t, .int .i64 d]] w fun e w' => e = .returned (.int .u32 (fmask f t)) ∧ Below w.heap.size w w' := by
  by_cases c : t ≤ f
  · have hx := Lib.hid (show fmask f t = 0 by simp [fmask, c])
    go_enter Try.func59, Try.ntmps59
    go_wp2
    go_ret
    exact ⟨by rw [hx.out]; rfl, (Below.refl _ _).alloc (Nat.le_refl _) _⟩
  · obtain ⟨f, rfl⟩ := Int.eq_ofNat_of_zero_le hf0
    obtain ⟨t, rfl⟩ := Int.eq_ofNat_of_zero_le ht0
    have hx : (fmask f t : Int) = (2 : Int) ^ t - 2 ^ f := by
      have : 2 ^ f ≤ 2 ^ t := Nat.pow_le_pow_right (by omega) (by omega)
      simp only [fmask, if_neg c, Int.toNat_natCast]
      rw [Int.natCast_sub this]
      simp
    have hx' := Lib.hid hx
    have hl := Lib.hid (fmask_lt f t ht)
    clear hx
    go_enter Try.func59, Try.ntmps59
    go_wp2_with fail
    go_quiet (fail)
    go_wp2
    go_ret
    refine ⟨ret_int ?_, below_drewN ((Below.refl _ _).alloc (Nat.le_refl _) _) _⟩
    show ((2 : Int) ^ t % 4294967296 - 2 ^ f % 4294967296) % 4294967296 = _
    have h1 := hx'.out
    have h2 := hl.out
    have h3 : (2 : Int) ^ f < 4294967296 := by
      have : 2 ^ f ≤ 2 ^ 20 := Nat.pow_le_pow_right (by omega) (by omega)
      have h : ((2 ^ f : Nat) : Int) ≤ ((2 ^ 20 : Nat) : Int) := by exact_mod_cast this
      simp at h
      omega
    have h4 : (2 : Int) ^ t < 4294967296 := by
      have : 2 ^ t ≤ 2 ^ 20 := Nat.pow_le_pow_right (by omega) (by omega)
      have h : ((2 ^ t : Nat) : Int) ≤ ((2 ^ 20 : Nat) : Int) := by exact_mod_cast this
      simp at h
      omega
    have h5 : (0 : Int) < 2 ^ f := Int.pow_pos (by omega)
    have h6 : (0 : Int) < 2 ^ t := Int.pow_pos (by omega)
    rw [Int.emod_eq_of_lt (Int.le_of_lt h5) h3, Int.emod_eq_of_lt (Int.le_of_lt h6) h4, ← h1]
    omega

end Go.Proofs.Ytbpeamppkdmdcaa
