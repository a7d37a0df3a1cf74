/-
  always, Ready$1, Sets$1, Can$1; Ready.
-/
import Derived.Test.YtikeihnhkiipgaaD6
namespace Go.Proofs.Ytikeihnhkiipgaa
open Go.RowKit

set_option maxHeartbeats 400000 in
theorem galways_any (b : Nat) (W : World) : Calls Try.prog 19 #[bp b] W fun e W' => e = .returned (.bool true) ∧ Below W.heap.size W W' := by
  go_enter Try.func19, Try.ntmps19
  go_wp2
  go_ret
  exact ⟨rfl, Below.refl _ _⟩
section
variable (g : GN) (ok : g.Ok) (a : GA) (b : Nat) (v : Value)
include ok
set_option maxHeartbeats 400000 in
theorem ready1_any (x n : Nat) (hn : n < g.sn) (w : World) (h : BoxAt w b (g.boxV a v) 75) (hx : BoxAt w x #[.int .i64 n] 3) :
    Calls Try.prog 41 #[bp b, bp x] w fun e W' => e = .returned (.bool true) ∧ Below w.heap.size w W' := by
  have c0 := cellAt hx 0
  simp only [List.getElem?_toArray, List.getElem?_cons_zero] at c0
  have C := Lib.hid (isSeam_any g ok a b v n w h)
  have HB := Lib.hid (show inB (n : Int) 0 ((g.sn : Int) - 1) = true from inB_true (by omega))
  clear h
  go_enter Try.func41, Try.ntmps41
  go_wp2_with (go_at_call 42; refine C.out.mono ?_; rintro e w' ⟨rfl, rfl⟩)
  go_ret
  exact ⟨ret_bool HB.out, Below.refl _ _⟩
set_option maxHeartbeats 400000 in
theorem sets1_any (x n : Nat) (hn : n < g.cn) (w : World) (h : BoxAt w b (g.boxV a v) 75) (hx : BoxAt w x #[.int .i64 n] 3) :
    Calls Try.prog 43 #[bp b, bp x] w fun e W' => e = .returned (.bool true) ∧ Below w.heap.size w W' := by
  have c0 := cellAt hx 0
  simp only [List.getElem?_toArray, List.getElem?_cons_zero] at c0
  have C := Lib.hid (isCrew_any g ok a b v n w h)
  have HB := Lib.hid (show inB (n : Int) 0 ((g.cn : Int) - 1) = true from inB_true (by omega))
  clear h
  go_enter Try.func43, Try.ntmps43
  go_wp2_with (go_at_call 38; refine C.out.mono ?_; rintro e w' ⟨rfl, rfl⟩)
  go_ret
  exact ⟨ret_bool HB.out, Below.refl _ _⟩
set_option maxHeartbeats 1000000 in
theorem can1_any (x y n s : Nat) (hn : n < g.cn) (hs : s < 2 ^ g.sn) (w : World) (h : BoxAt w b (g.boxV a v) 75) (hx : BoxAt w x #[.int .i64 n] 3) (hy : BoxAt w y #[.int .i64 s] 3) :
    Calls Try.prog 37 #[bp b, bp x, bp y] w fun e W' => e = .returned (.bool true) ∧ Below w.heap.size w W' := by
  have c0 := cellAt hx 0
  have c1 := cellAt hy 0
  simp only [List.getElem?_toArray, List.getElem?_cons_zero] at c0 c1
  obtain ⟨q0, -, -⟩ := boxV_cells h
  have HD := Lib.hid (fun j => show BoxAt (w.drewN j) b (g.boxV a v) 75 from h)
  have C := Lib.hid (fun j => (isCrew_any g ok a b v n (w.drewN j) (HD.out j)))
  have HB := Lib.hid (show inB (n : Int) 0 ((g.cn : Int) - 1) = true from inB_true (by omega))
  have b3 := set_in hs ok.hsn
  have b4 := set_in' hs ok.hsn
  clear h
  go_enter Try.func37, Try.ntmps37
  go_upto_region 1 with (fail)
  go_quiet (first
    | (go_at_call 38; exact Calls.quiet_of_same ((C.out _).mono fun _ _ h => ⟨h.1.trans (by rw [HB.out]), h.2.symm⟩))
    | (go_at_call 39; exact Calls.quiet_of_same ((Ga.within_any _ _ _ _).mono fun _ _ h => ⟨h.1.trans (by first | rw [b3] | rw [b4]), h.2.symm⟩)))
  go_wp2_with fail
  go_ret
  exact ⟨rfl, below_drewN (Below.refl _ _) _⟩
end
end Go.Proofs.Ytikeihnhkiipgaa
