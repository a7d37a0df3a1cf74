/-
  Walks: spans taken of bits, and wages, by the reference.
-/
import Derived.Test.YtclbmlmlhiiaeaaGreatDoorT8
import Derived.Test.YtclbmlmlhiiaeaaGreatDoorQW5
namespace Go.Proofs.YtclbmlmlhiiaeaaGreatDoor
open Go.RowKit

set_option maxRecDepth 100000 in
set_option maxHeartbeats 2000000 in
theorem takeSpan136_any (oa : Option Addr) (nc : Nat) (l : List Bool) (a m : Nat) (w : World) (hl : BitRow w oa l) (ha : a ≤ 9000) (hm : m ≤ 8) :
    Calls Tryz.prog 136 #[.slice oa l.length nc, .int .i64 a, .int .i64 m] w fun e w' => e = .returned (.tuple #[.agg #[.int .i64 (valZ l a m : Nat), .int .i64 ((valZ l a m + valZ l (a + m) 2 : Nat) : Int)], .int .i64 ((a + m + 2 : Nat) : Int)]) ∧ Below w.heap.size w w' := by
  have hb0 := (Below.refl w.heap.size w).alloc (Nat.le_refl _) (.cells #[.int .i64 0, .int .i64 0] 128)
  have B0 := Lib.hid hb0
  have Z0 := Lib.hid (show BoxAt (w.alloc (.cells #[.int .i64 0, .int .i64 0] 128)) w.heap.size #[.int .i64 0, .int .i64 0] 128 from heap_alloc_new _ _)
  have C1 := Lib.hid (fun W (h : Below w.heap.size w W) => take135_any oa nc l a m W (hl.grow h) (by omega) hm)
  have C2 := Lib.hid (fun W (h : Below w.heap.size w W) => take135_any oa nc l (a + m) 2 W (hl.grow h) (by omega) (by omega))
  have v1 := valZ_small l a hm
  have v2 := valZ_small l (a + m) (show 2 ≤ 8 by omega)
  clear hb0 hl
  generalize valZ l a m = x at *
  generalize valZ l (a + m) 2 = y at *
  have hq : ((a + m : Nat) : Int) ≤ 9010 := by omega
  obtain ⟨q, hqe⟩ : ∃ q, a + m = q := ⟨_, rfl⟩
  rw [hqe] at C1 C2 hq ⊢
  obtain ⟨r, hre⟩ : ∃ r, q + 2 = r := ⟨_, rfl⟩
  rw [hre] at C2 ⊢
  obtain ⟨s, hse⟩ : ∃ s, x + y = s := ⟨_, rfl⟩
  have HS := Lib.hid (show (x : Int) + y = (s : Nat) from by omega)
  rw [hse]
  clear hre hqe hse
  go_enter Tryz.func136, Tryz.ntmps136
  go_upto_region 1 with (fail)
  generalize World.alloc w _ = W0 at *
  go_wp2_with (go_at_call 135; refine (C1.out _ B0.out).mono ?_)
  rintro e w1 ⟨rfl, rfl⟩
  go_wp2_with (go_at_call 135; refine (C2.out _ B0.out).mono ?_)
  rintro e w2 ⟨rfl, rfl⟩
  have c0 := cellAt Z0.out 0
  have c1 := cellAt Z0.out 1
  have f0 := freeAt Z0.out 0
  have f1 := freeAt Z0.out 1
  simp only [List.getElem?_toArray, List.getElem?_cons_zero, List.getElem?_cons_succ] at c0 c1
  have hs := HS.out
  go_wp2_with fail
  have Z1 := (Z0.out.store 0 (.int .i64 (x : Nat))).store 1 (.int .i64 (s : Nat))
  have B1 := Lib.hid ((B0.out.setCell (p := ⟨w.heap.size, 0, none⟩) (Nat.le_refl _) (.int .i64 (x : Nat))).setCell (p := ⟨w.heap.size, 1, none⟩) (Nat.le_refl _) (.int .i64 (s : Nat)))
  have d0 := cellAt Z1 0
  have d1 := cellAt Z1 1
  simp at d0 d1
  exact bodyPost_ret (v := .tuple #[.agg #[.int .i64 (x : Nat), .int .i64 (s : Nat)], .int .i64 (r : Nat)]) (by simp [results, Tryz.results136, go_sem, d0, d1]) rfl ⟨rfl, B1.out⟩
end Go.Proofs.YtclbmlmlhiiaeaaGreatDoor
