/-
  Walks: what is due.
-/
import Derived.Test.YtbpeamppkdmdcaaW9
namespace Go.Proofs.Ytbpeamppkdmdcaa
open Go.RowKit

def coinsOf (S : Nat → Sm) (T : Nat → Tk) (K : Nat → Kn) (sn tn : Nat) (c : Int) : Int := sumF (fun s => (manyOf S T K tn s c : Int) * (S s).rate) sn

theorem coins_c (cr : Int) (sa ta : Option Addr) (sn sc tn tc : Nat) (S : Nat → Sm) (T : Nat → Tk) (K : Nat → Kn) (w : World) (hS : SeamsAt w sa sn S) (hT : TicketsAt w ta tn T) (hv : Valid cr sn tn S T) (hK : ∀ i, i < tn → KnOk (K i))
    (ty : TypeId) (v : Value) (fn : FuncId) (htr : Truth w ty v fn tn T K) (c : Int) (c0 : -1 ≤ c) (c1 : c ≤ 3) :
    Calls Try.prog 70 #[.agg #[.int .i64 cr, .slice sa sn sc, .slice ta tn tc], .int .i64 c, .iface ty v] w
      fun e w' => e = .returned (.int .i64 (coinsOf S T K sn tn c)) ∧ Below w.heap.size w w' := coins_any cr sa ta sn sc tn tc S T K w hS hT hv hK ty v fn htr c c0 c1

set_option maxRecDepth 100000 in
set_option maxHeartbeats 1000000 in
theorem due_any (cr : Int) (sa ta : Option Addr) (sn sc tn tc : Nat) (S : Nat → Sm) (T : Nat → Tk) (w : World) (hS : SeamsAt w sa sn S) (hT : TicketsAt w ta tn T) (hv : Valid cr sn tn S T) (c : Int) (c0 : -1 ≤ c) (c1 : c ≤ 3) :
    Calls Try.prog 67 #[.agg #[.int .i64 cr, .slice sa sn sc, .slice ta tn tc], .int .i64 c] w
      fun e w' => e = .returned (.agg #[.int .i64 (coinsOf S T (leastK c T) sn tn c), .int .i64 (coinsOf S T (mostK c T) sn tn c)]) ∧ Below w.heap.size w w' := by
  have C1 := Lib.hid (fun W (hb : Below w.heap.size w W) => coins_c cr sa ta sn sc tn tc S T (leastK c T) W (hS.grow hb) (hT.grow hb) hv (hv.least c) 85 _ 124 (truth_least W c tn T) c c0 c1)
  have C2 := Lib.hid (fun W (hb : Below w.heap.size w W) => coins_c cr sa ta sn sc tn tc S T (mostK c T) W (hS.grow hb) (hT.grow hb) hv (hv.most c) 83 _ 58 (truth_most W c tn T) c c0 c1)
  clear hS hT hv
  go_enter Try.func67, Try.ntmps67
  go_wp2_with fail
  generalize hW : World.alloc _ _ = W
  obtain ⟨q0, q1, hz, hB⟩ := blocks2 hW
  clear hW
  have HB := Lib.hid hB
  have HZ := Lib.hid hz
  have hsz : w.heap.size + 2 ≤ W.heap.size := by omega
  have H0 := Lib.hid (show BoxAt W w.heap.size #[.int .i64 cr, .slice sa sn sc, .slice ta tn tc] 77 from q0)
  have H1 := Lib.hid (show BoxAt W (w.heap.size + 1) #[.int .i64 0, .int .i64 0] 29 from q1)
  clear q0 q1 hz hB
  have tok1 : True := trivial
  have hD := Below.drew (Below.refl W.heap.size W)
  have HD := Lib.hid hD
  have n01 : w.heap.size + 1 ≠ w.heap.size := by omega
  clear hD
  go_region_held3 (fun w' => w'.cell? ⟨w.heap.size, 0, none⟩ = some (.int .i64 cr) ∧ w'.cell? ⟨w.heap.size, 1, none⟩ = some (.slice sa sn sc) ∧ w'.cell? ⟨w.heap.size, 2, none⟩ = some (.slice ta tn tc))
    (first | exact ⟨cellAt H0.out 0, cellAt H0.out 1, cellAt H0.out 2⟩ | exact ⟨cellAt ((H0.out.grow HD.out).grow H1b.out) 0, cellAt ((H0.out.grow HD.out).grow H1b.out) 1, cellAt ((H0.out.grow HD.out).grow H1b.out) 2⟩ | exact ⟨cellAt (((H0.out.grow HD.out).grow H1b.out).grow H2b.out) 0, cellAt (((H0.out.grow HD.out).grow H1b.out).grow H2b.out) 1, cellAt (((H0.out.grow HD.out).grow H1b.out).grow H2b.out) 2⟩ | go_keep)
    (first | (go_at_call 70; have tk := tok1; clear tk; refine (C1.out _ (HB.out.drew)).mono ?_; rintro e w1 ⟨rfl, hb1⟩; clear tok1; have H1b := Lib.hid hb1; clear hb1) | (go_at_call 70; refine (C2.out _ (HB.out.drew.trans (H1b.out.mono (by simp; omega)))).mono ?_; rintro e w2 ⟨rfl, hb2⟩; have H2b := Lib.hid hb2; clear hb2; have R := Lib.hid (((H1.out.grow HD.out).grow H1b.out).grow H2b.out); have r0 := cellAt R.out 0; have r1 := cellAt R.out 1; have f0 := freeAt R.out 0; have f1 := freeAt R.out 1))
  go_wp2_with fail
  exact bodyPost_ret (v := .agg #[.int .i64 (coinsOf S T (leastK c T) sn tn c), .int .i64 (coinsOf S T (mostK c T) sn tn c)]) (by simp [results, Try.results67, go_sem, r0, r1]) rfl
    ⟨rfl, (((HB.out.drew.trans (H1b.out.mono (by simp; omega))).trans (H2b.out.mono (by have := H1b.out.size; simp at this; omega))).setCell (p := ⟨_, _, none⟩) (by simp) _).setCell (p := ⟨_, _, none⟩) (by simp) _⟩
end Go.Proofs.Ytbpeamppkdmdcaa
