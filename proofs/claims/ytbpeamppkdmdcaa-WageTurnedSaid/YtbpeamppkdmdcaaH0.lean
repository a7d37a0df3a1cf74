/-
  Steps of a region that draws its order: a number is laid into a box of its own, and appended to one of several slices.
-/
import Derived.Test.YtbpeamppkdmdcaaG9
namespace Go.Proofs.Ytbpeamppkdmdcaa
open Go.RowKit

section
variable {B : Nat} {w0 W : World} {KB : List (Nat × Array Value × TypeId)} {VS : List (Value × List Value)}
/-- At the start: none of the slices has anything. -/
theorem Own.start (hb : Below B w0 W) (hl : B ≤ w0.heap.size) (hbox : ∀ e ∈ KB, BoxAt W e.1 e.2.1 e.2.2) (hv : ∀ e ∈ VS, e = (.slice none 0 0, [])) : Own B w0 KB VS W :=
  ⟨hb, hl, hbox, fun e he => by rw [hv e he]; exact World.ownsRow_nil W B 3 1, fun e he b _ => by rw [hv e he]; simp [Value.ownBlock], fun i j e f he _ _ => .inl (by rw [hv e (List.mem_of_getElem? he)]; rfl)⟩
theorem step_own_n {ops : Array Oper} {o : Oper} {a : Act} {K : Act → World → Prop} {Q : Exit → Act → World → Prop} {E : Prop} (h : Own B w0 KB VS W) (hgd : o.guard = none) (s x : Operand)
    (ho : o.op = .call { callee := .builtin .append, args := #[s, x], argTypes := #[37, 37] }) (i n : Nat) {v : Value} {xs : List Value} (hi : VS[i]? = some (v, xs)) (hs : a.eval s = v)
    {gb : Nat} {y : Value} (hx : a.eval x = .slice (some ⟨gb, 0, none⟩) 1 1) (hb : (gb, #[y], 3) ∈ KB) (hy : y.oneCell' = true) (hl : xs.length = n) (hn : n ≤ 1000)
    (k : ∀ g cap w', Own B w0 KB (VS.set i (.slice (some ⟨g, 0, none⟩) (n + 1) cap, xs ++ [y])) w' → K (a.put o.dst (.slice (some ⟨g, 0, none⟩) (n + 1) cap)) w') :
    if Region.wanted o (yielded ops a.tmps) = true then Oper.wp Try.prog o a W K Q else E := by
  subst hl
  exact step_own h hgd s x ho i hi hs hx hb hy hn k
theorem step_box {ops : Array Oper} {o : Oper} {a : Act} {K : Act → World → Prop} {Q : Exit → Act → World → Prop} {E : Prop} (h : Own B w0 KB VS W) (hgd : o.guard = none) (x : Operand)
    (ho : o.op = .buildSlice 37 1 #[(0, x)]) {y : Int} (hx : a.eval x = .int .i64 y)
    (k : ∀ g w', Own B w0 ((g, #[.int .i64 y], 3) :: KB) VS w' → K (a.put o.dst (.slice (some ⟨g, 0, none⟩) 1 1)) w') :
    if Region.wanted o (yielded ops a.tmps) = true then Oper.wp Try.prog o a W K Q else E := by
  have hw : Region.wanted o (yielded ops a.tmps) = true := by simp [Region.wanted, hgd]
  rw [if_pos hw]
  have hr : (Instr.buildSlice 37 1 #[(0, .int .i64 y)]).run Try.prog W = .ok (.slice (some ⟨W.heap.size, 0, none⟩) 1 1) (W.alloc (.cells #[.int .i64 y] 3)) := by kernel_rfl
  unfold Oper.wp execOp
  simp only [ho, Sem.run_bind, Result.andThen_ok, List.map_toArray, List.map_cons, List.map_nil, hx, hr]
  exact k _ _ (h.new #[.int .i64 y] 3)
end
end Go.Proofs.Ytbpeamppkdmdcaa
