/-
  Walks: whether there is far too much of something.
-/
import Derived.Test.YtclbmlmlhiiaeaaGreatDoorQE4
import Derived.Lib.MinMax
namespace Go.Proofs.YtclbmlmlhiiaeaaGreatDoor
open Go.RowKit

theorem run_max10 {P : Program} (w : World) (ts : Array TypeId) (t : TypeId) (a b c d e f g h i j : Int) :
    (Builtin.max_ ts t #[.int .i64 a, .int .i64 b, .int .i64 c, .int .i64 d, .int .i64 e, .int .i64 f, .int .i64 g, .int .i64 h, .int .i64 i, .int .i64 j]).run P w = .ok (.int .i64 (max (max (max (max (max (max (max (max (max a b) c) d) e) f) g) h) i) j)) w := by
  have k : ∀ x y : Int, (if y > x then y else x) = max x y := fun x y => by
    rw [Int.max_def]
    split <;> split <;> omega
  simp only [gt_iff_lt] at k
  simp [Builtin.max_, Builtin.max2, k]
/-- The irons in their box, and their rows. -/
structure FI (w : World) (b : Nat) (f : Int) (oa ma ka ca : Option Addr) (on oc mn mc kn kc cn cc : Nat) (op sp : Nat → Option Addr) (ol ok sl sk : Nat → Nat) (W : World) : Prop where
  bel : Below w.heap.size w W
  bx : BoxAt W b #[.int .i64 f, .slice oa on oc, .slice ma mn mc, .slice ka kn kc, .slice ca cn cc] 34
  o : SlicesAt W oa on op ol ok
  s : SlicesAt W ka kn sp sl sk
set_option maxRecDepth 100000 in
set_option maxHeartbeats 2000000 in
theorem far12_any (sa ua fa qa oa ma ka ca wa ta : Option Addr) (sn sc un uc fn fc qn qc on oc mn mc kn kc cn cc wn wc tn tc : Nat) (hr fr pe f cr : Int) (op sp : Nat → Option Addr) (ol ok sl sk : Nat → Nat) (w : World) (hO : SlicesAt w oa on op ol ok) (hK : SlicesAt w ka kn sp sl sk) :
    Calls Tryz.prog 12 #[.agg #[.slice sa sn sc, .slice ua un uc], .agg #[.int .i64 hr, .int .i64 fr, .int .i64 pe, .slice fa fn fc, .slice qa qn qc], .agg #[.int .i64 f, .slice oa on oc, .slice ma mn mc, .slice ka kn kc, .slice ca cn cc], .agg #[.int .i64 cr, .slice wa wn wc, .slice ta tn tc]] w fun e w' => (∃ b : Bool, e = .returned (.bool b)) ∧ Below w.heap.size w w' := by
  have ho := hO.small
  have hk := hK.small
  unfold maxLen at ho hk
  obtain ⟨z, hz⟩ : ∃ z : Int, ∀ (W : World) (ts : Array TypeId) (t : TypeId), (Builtin.max_ ts t #[.int .i64 (sn : Nat), .int .i64 (un : Nat), .int .i64 (fn : Nat), .int .i64 (qn : Nat), .int .i64 (on : Nat), .int .i64 (mn : Nat), .int .i64 (kn : Nat), .int .i64 (cn : Nat), .int .i64 (wn : Nat), .int .i64 (tn : Nat)]).run Tryz.prog W = .ok (.int .i64 z) W :=
    ⟨_, fun W ts t => run_max10 (P := Tryz.prog) W ts t (sn : Nat) (un : Nat) (fn : Nat) (qn : Nat) (on : Nat) (mn : Nat) (kn : Nat) (cn : Nat) (wn : Nat) (tn : Nat)⟩
  go_enter Tryz.func12, Tryz.ntmps12
  go_upto_region 1 with (fail)
  generalize hW : World.alloc _ _ = W0
  obtain ⟨z0, z1, z2, z3, -, hB⟩ := blocks4 hW
  have I0 := Lib.hid (show FI w (w.heap.size + 1 + 1) f oa ma ka ca on oc mn mc kn kc cn cc op sp ol ok sl sk W0 from ⟨hB, z2, Row.grow hO hB, Row.grow hK hB⟩)
  have a0 := cellAt z0 0
  have a1 := cellAt z0 1
  have a2 := cellAt z1 3
  have a3 := cellAt z1 4
  have a4 := cellAt z2 1
  have a5 := cellAt z2 2
  have a6 := cellAt z2 3
  have a7 := cellAt z2 4
  have a8 := cellAt z3 1
  have a9 := cellAt z3 2
  simp only [List.getElem?_toArray, List.getElem?_cons_zero, List.getElem?_cons_succ] at a0 a1 a2 a3 a4 a5 a6 a7 a8 a9
  clear hW z0 z1 z2 z3 hB hO hK
  go_upto_region 2 with (fail)
  clear hz a0 a1 a2 a3 a4 a5 a6 a7 a8 a9
  have a4 := cellAt I0.out.bx 1
  simp only [List.getElem?_toArray, List.getElem?_cons_zero, List.getElem?_cons_succ] at a4
  go_wp2_with fail
  go_loop [9, 48] (fun m i => ∃ (k : Nat) (y : Int), k ≤ on ∧ i = .int .i64 k ∧ m = .int .i64 y) (fun _ i => on - (intOf i).toNat)
  case atStart => exact ⟨0, z, Nat.zero_le _, rfl, rfl⟩
  case round =>
    obtain ⟨k, y, hk1, rfl, rfl⟩ := hrel
    by_cases hlt : k < on
    · have hi := fun W => run_indexAt_row (w := W) (cap := oc) owners30 size26 (I0.out.o.plain (by omega)) hlt
      have c0 := I0.out.o.cells k hlt 0 (by omega)
      simp only [Nat.add_zero, Nat.mul_one] at c0
      go_wp2_with fail
      exact ⟨⟨k + 1, _, hlt, by go_num, rfl⟩, by simp [intOf]; omega⟩
    · obtain rfl : k = on := by omega
      have a6 := cellAt I0.out.bx 3
      simp only [List.getElem?_toArray, List.getElem?_cons_zero, List.getElem?_cons_succ] at a6
      go_wp2_with fail
      go_loop [9, 60] (fun m i => ∃ (j : Nat) (y : Int), j ≤ kn ∧ i = .int .i64 j ∧ m = .int .i64 y) (fun _ i => kn - (intOf i).toNat)
      case atStart => exact ⟨0, y, Nat.zero_le _, rfl, rfl⟩
      case round =>
        obtain ⟨j, y2, hj, rfl, rfl⟩ := hrel
        by_cases hlt2 : j < kn
        · have hi := fun W => run_indexAt_row (w := W) (cap := kc) strakes31 size85 (I0.out.s.plain (by omega)) hlt2
          have c0 := I0.out.s.cells j hlt2 0 (by omega)
          simp only [Nat.add_zero, Nat.mul_one] at c0
          go_wp2_with fail
          exact ⟨⟨j + 1, _, hlt2, by go_num, rfl⟩, by simp [intOf]; omega⟩
        · obtain rfl : j = kn := by omega
          go_wp2_with fail
          exact bodyPost_ret (v := .bool (decide (40 < y2))) (by simp [results, Tryz.results12, go_sem]) rfl ⟨by cases decide (40 < y2) <;> simp, I0.out.bel⟩
end Go.Proofs.YtclbmlmlhiiaeaaGreatDoor
