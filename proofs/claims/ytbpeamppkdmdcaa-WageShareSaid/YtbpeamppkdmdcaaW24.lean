/-
  Walks: the library's slices.MinFunc, at who is before another one.
-/
import Derived.Test.YtbpeamppkdmdcaaW23
namespace Go.Proofs.Ytbpeamppkdmdcaa
open Go.RowKit

/-- The first of the first k + 1 men that is before all others. -/
def minM (sh own : Nat → Int) (f : Nat → Nat) : Nat → Nat
  | 0 => f 0
  | k + 1 => if before sh own (f (k + 1)) (minM sh own f k) < 0 then f (k + 1) else minM sh own f k
theorem minM_lt {sh own : Nat → Int} {f : Nat → Nat} {m n : Nat} (hf : ∀ i, i < m → f i < n) : ∀ k, k < m → minM sh own f k < n
  | 0, h => hf 0 h
  | k + 1, h => by
    simp only [minM]
    split
    · exact hf _ h
    · exact minM_lt hf k (by omega)

structure M1 (w : World) (p2 p3 : Nat) (sa ga oa : Option Addr) (n sc gc m : Nat) (sh own : Nat → Int) (f : Nat → Nat) (w' : World) : Prop where
  v : V1 w p2 p3 sa ga n sc gc sh own w'
  l : IntsAt w' oa m (fun i => (f i : Int))
def MR (w : World) (p2 p3 : Nat) (sa ga oa : Option Addr) (n sc gc m : Nat) (sh own : Nat → Int) (f : Nat → Nat) (a i : Value) (wr : World) : Prop :=
  ∃ k : Nat, k + 1 ≤ m ∧ i = .int .i64 ((k + 1 : Nat) : Int) ∧ a = .int .i64 (minM sh own f k : Nat) ∧ M1 w p2 p3 sa ga oa n sc gc m sh own f wr

set_option maxRecDepth 100000 in
set_option maxHeartbeats 4000000 in
theorem minFunc_any (p2 p3 : Nat) (sa ga oa : Option Addr) (n sc gc m mc : Nat) (sh own : Nat → Int) (f : Nat → Nat) (w : World) (hm : 0 < m) (hm6 : m ≤ 6) (hf : ∀ i, i < m → f i < n) (hs : ∀ i, i < n → 0 ≤ sh i ∧ sh i ≤ 20) (ho : ∀ i, i < n → 0 ≤ own i ∧ own i ≤ 500)
    (x2 : BoxAt w p2 #[.slice sa n sc] 37) (x3 : BoxAt w p3 #[.slice ga n gc] 37) (l2 : IntsAt w sa n sh) (l3 : IntsAt w ga n own) (l : IntsAt w oa m (fun i => (f i : Int))) (hn : n ≤ 6) :
    Calls Try.prog 84 #[.slice oa m mc, .func (.func 85) #[] #[bp p2, bp p3]] w fun e w' => e = .returned (.int .i64 (minM sh own f (m - 1) : Nat)) ∧ Below w.heap.size w w' := by
  have HI := Lib.hid (show M1 w p2 p3 sa ga oa n sc gc m sh own f w from ⟨⟨Below.refl _ _, x2, x3, l2, l3⟩, l⟩)
  have HF := Lib.hid hf
  have HS := Lib.hid hs
  have HO := Lib.hid ho
  have i0 := fun w => run_indexAt_row (w := w) (cap := mc) (k := 0) Try.underlying37 size3 (l.plain hm) hm
  have c0 := l.at hm
  simp only [Nat.zero_mul, Nat.add_zero, Int.natCast_zero] at i0 c0
  clear x2 x3 l2 l3 l hf hs ho
  go_enter Try.func84, Try.ntmps84
  go_wp2_with fail
  go_loopw [5, 6] (MR w p2 p3 sa ga oa n sc gc m sh own f) (fun _ i _ => m - (intOf i).toNat)
  case atStart => exact ⟨0, hm, rfl, rfl, HI.out⟩
  case round =>
    clear HI c0 i0
    obtain ⟨k, hk, rfl, rfl, hinv⟩ := hrel
    have HI := Lib.hid hinv
    clear hinv
    simp only [Int.natCast_add, Int.natCast_one] at *
    by_cases hlt : k + 1 < m
    · have hi := fun w => run_indexAt_row (w := w) (cap := mc) (k := k + 1) Try.underlying37 size3 (HI.out.l.plain (by omega)) hlt
      have hc := HI.out.l.at hlt
      simp only [Nat.mul_one, Int.natCast_add, Int.natCast_one] at hi
      have hz : decide (before sh own (f (k + 1)) (minM sh own f k) < 0) = true ∨ decide (before sh own (f (k + 1)) (minM sh own f k) < 0) = false := by cases decide (before sh own (f (k + 1)) (minM sh own f k) < 0) <;> simp
      have C := Lib.hid (share1_any (f (k + 1)) (minM sh own f k) p2 p3 sa ga n sc gc sh own wr (HF.out _ hlt) (minM_lt HF.out k (by omega)) HS.out HO.out HI.out.v.x2 HI.out.v.x3 HI.out.v.l2 HI.out.v.l3 hn)
      rcases hz with z | z
      · have E := Lib.hid (show minM sh own f (k + 1) = f (k + 1) from by simp only [minM]; rw [if_pos (by simpa using z)])
        go_wp2_with (first | (go_at_call 85; refine C.out.mono ?_; rintro e w5 ⟨rfl, hb5⟩; have HJ := Lib.hid (show M1 w p2 p3 sa ga oa n sc gc m sh own f w5 from ⟨HI.out.v.grow hb5, HI.out.l.grow hb5⟩); clear hb5; have hc := HJ.out.l.at hlt))
        refine ⟨⟨k + 1, hlt, ?_, by rw [E.out], HJ.out⟩, by simp [intOf]; omega⟩
        congr 1
      · have E := Lib.hid (show minM sh own f (k + 1) = minM sh own f k from by simp only [minM]; rw [if_neg (by simpa using z)])
        go_wp2_with (first | (go_at_call 85; refine C.out.mono ?_; rintro e w5 ⟨rfl, hb5⟩; have HJ := Lib.hid (show M1 w p2 p3 sa ga oa n sc gc m sh own f w5 from ⟨HI.out.v.grow hb5, HI.out.l.grow hb5⟩); clear hb5; have hc := HJ.out.l.at hlt))
        refine ⟨⟨k + 1, hlt, ?_, by rw [E.out], HJ.out⟩, by simp [intOf]; omega⟩
        congr 1
    · obtain rfl : m = k + 1 := by omega
      go_wp2_with fail
      go_ret
      exact ⟨rfl, HI.out.v.bel⟩
end Go.Proofs.Ytbpeamppkdmdcaa
