/-
  Walks: what turns a refusal into its error (a deferred call that recovers).
-/
import Derived.Test.YtbpeamppkdmdcaaW13
import Derived.Defers
import Derived.Recover
namespace Go.Proofs.Ytbpeamppkdmdcaa
open Go.RowKit

set_option maxRecDepth 100000 in
set_option maxHeartbeats 800000 in
theorem answer_idle (b : Nat) (w : World) :
    CallsD Try.prog 45 #[bp b] .returning w fun e u' w' => e = .returned (.tuple #[]) ∧ u' = .returning ∧ w' = w := by
  refine callsD_of_wpS Try.func45 rfl fun c₀ cs hu => ?_
  apply wpS_seq
  apply wpS_region
  simp [wpOpsS, go_sem, recoverD, hu, Try.ntmps45, Exit.thenS]
  have hq : ∀ w, (binOp .neq 20 .nilIface .nilIface).run Try.prog w = .ok (.bool false) w := fun _ => by kernel_rfl
  apply wpS_seq
  apply wpS_region
  simp [wpOpsS, go_sem, recoverD, hu, hq, Exit.thenS]
  refine wpS_cond (t := false) (by simp [Act.eval, Array.replicate]) ?_
  simp only [Bool.false_eq_true, if_false]
  refine wpS_of_wp (wp_skip ?_)
  cases c₀
  simp_all [bodyPostS, results]

set_option maxRecDepth 100000 in
set_option maxHeartbeats 800000 in
theorem answer_panicking (b : Nat) (y x : Int) (older : List PanicEntry) (w : World) (hb : BoxAt w b #[.int .i64 y] 30) :
    CallsD Try.prog 45 #[bp b] (.panicking ({ v := .iface 136 (.int .i64 x), recovered := false } :: older)) w fun e u' w' =>
      e = .returned (.tuple #[]) ∧ u' = .panicking ({ v := .iface 136 (.int .i64 x), recovered := true } :: older) ∧ w' = w.setCell ⟨b, 0, none⟩ (.int .i64 x) := by
  have c0 := cellAt hb 0
  have f0 := freeAt hb 0
  simp only [List.getElem?_toArray, List.getElem?_cons_zero] at c0
  refine callsD_of_wpS Try.func45 rfl fun c₀ cs hu => ?_
  apply wpS_seq
  apply wpS_region
  simp [wpOpsS, go_sem, recoverD, hu, Try.ntmps45, Exit.thenS]
  have hq : ∀ w, (binOp .neq 20 (.iface 136 (.int .i64 x)) .nilIface).run Try.prog w = .ok (.bool true) w := fun _ => by kernel_rfl
  apply wpS_seq
  apply wpS_region
  simp [wpOpsS, go_sem, recoverD, hq, Exit.thenS]
  refine wpS_cond (t := true) (by simp [Act.eval, Array.replicate]) ?_
  simp only [if_true]
  refine wpS_of_wp ?_
  have hr : Array.replicate 18 undef = #[undef, undef, undef, undef, undef, undef, undef, undef, undef, undef, undef, undef, undef, undef, undef, undef, undef, undef] := rfl
  simp only [hr, List.setIfInBounds_toArray, List.set_cons_zero, List.set_cons_succ, List.append_toArray, List.cons_append, List.nil_append]
  clear hr hq
  have hta : ∀ w, (Instr.typeAssert (.iface 136 (.int .i64 x)) 20 136 true).run Try.prog w = .ok (.tuple #[.int .i64 x, .bool true]) w := fun _ => by kernel_rfl
  go_wp2
  refine ⟨rfl, ?_⟩
  cases c₀
  simp_all [results, Try.results45]
end Go.Proofs.Ytbpeamppkdmdcaa
