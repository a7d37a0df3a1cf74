/-
  A whole struct is stored into a box: one step.
-/
import Derived.Test.YtbpeamppkdmdcaaG9
import Derived.Laws.Tables
namespace Go.Proofs.Ytbpeamppkdmdcaa
open Go.RowKit

section
variable {W : World} {g : Nat} {old cells : Array Value} {t : TypeId}
theorem BoxAt.row (h : BoxAt W g old t) (cells : Array Value) : BoxAt (W.setRow g cells) g cells t := setRow_heap W g old cells t (0, 0) h
theorem grownBy_row (W : World) (g : Nat) (cells : Array Value) : W.grownBy (W.setRow g cells) (some g) :=
  ⟨rfl, rfl, rfl, by rw [setRow_size]; exact Nat.le_refl _, fun k _ hne => setRow_other W g k cells (fun e => hne (by rw [e]))⟩
theorem below_row (W : World) {B g : Nat} (hB : B ≤ g) (cells : Array Value) : Below B W (W.setRow g cells) :=
  ⟨rfl, rfl, rfl, by rw [setRow_size]; exact Nat.le_refl _, fun k hk => setRow_other W g k cells (by omega)⟩
/-- At a step of a drawn region. -/
theorem step_store {ops : Array Oper} {o : Oper} {a : Act} {K : Act → World → Prop} {Q : Exit → Act → World → Prop} {E : Prop} (hgd : o.guard = none) (ty : TypeId) (x y : Operand) (ho : o.op = .store ty x y)
    (hx : a.eval x = bp g) (hy : a.eval y = .agg cells) (hb : BoxAt W g old t) (hi : (Try.prog.info? ty).map (·.size) = some cells.size) (hold : old.size = cells.size) (h1 : cells.all (·.oneCell') = true)
    (k : ∀ W', BoxAt W' g cells t → W.grownBy W' (some g) → K (a.put o.dst undef) W') :
    if Region.wanted o (yielded ops a.tmps) = true then Oper.wp Try.prog o a W K Q else E := by
  have hw : Region.wanted o (yielded ops a.tmps) = true := by simp [Region.wanted, hgd]
  rw [if_pos hw]
  exact wp_store_row ty x y ho g cells hx hy t old hb hi hold h1 (k _ (hb.row cells) (grownBy_row W g cells))
theorem _root_.Go.RowKit.Below.of_grown {w0 W2 : World} {B : Nat} (h : Below B w0 W) (hg : W.grownBy W2 (some g)) (hB : B ≤ g) (hs : B ≤ W.heap.size) : Below B w0 W2 :=
  h.grown hg hs (fun k e => by cases e; exact hB)
end
theorem tkCells_all (t : Tk) : (tkCells t).all (·.oneCell') = true := by simp [Value.oneCell']
theorem setN_lt16' (T : Nat → Tk) (tn : Nat) (s : Int) (f n : Nat) (hn : n ≤ 4) : setN T tn s f n < 16 := by
  have h : setN T tn s f n < 2 ^ 4 := Nat.lt_pow_two_of_testBit _ fun i hi => by
    rw [setN_bit]
    simp
    omega
  exact h
theorem size25 : (Try.prog.info? 25).map (·.size) = some 3 := by kernel_rfl
end Go.Proofs.Ytbpeamppkdmdcaa
