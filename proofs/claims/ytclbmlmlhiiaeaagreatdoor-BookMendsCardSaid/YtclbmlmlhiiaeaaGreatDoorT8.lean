/-
  Walks: the bits of bytes, and what is taken of them, by the reference.
-/
import Derived.Test.YtclbmlmlhiiaeaaGreatDoorP3
import Derived.Test.YtclbmlmlhiiaeaaGreatDoorQV3
namespace Go.Proofs.YtclbmlmlhiiaeaaGreatDoor
open Go.RowKit

/-- Bits as numbers. -/
def bitI (f : Nat → Bool) (i : Nat) : Value := .int .i64 (if f i then 1 else 0)
structure UI (w : World) (oa : Option Addr) (n : Nat) (g : Nat → Nat) (k : Nat) (v : Value) (W : World) : Prop where
  bel : Below w.heap.size w W
  own : W.ownsRow w.heap.size 3 1 v k (valsOf (bitI (unpB g)) k)
theorem unp_div : ∀ (x : Fin 256) (m : Fin 8), x.val / (128 / 2 ^ m.val) % 2 = if (x.val / 2 ^ (7 - m.val) % 2 == 1) then 1 else 0 := by decide +kernel
theorem unit_pow : ∀ m : Fin 8, 0 < 128 / 2 ^ m.val ∧ 128 / 2 ^ m.val ≤ 128 := by decide
set_option maxRecDepth 100000 in
set_option maxHeartbeats 4000000 in
theorem unpack134_any (oa : Option Addr) (n nc : Nat) (g : Nat → Nat) (w : World) (hg : BytesAt w oa n g) (h8 : ∀ i, g i < 256) (hn : n ≤ 10000) :
    Calls Tryz.prog 134 #[.slice oa n nc] w fun e w' => ∃ oa cap, e = .returned (.slice oa (8 * n) cap) ∧ Row w' oa (8 * n) 1 (fun i _ => bitI (unpB g) i) ∧ (0 < 8 * n → w.heap.size ≤ blk oa) ∧ Below w.heap.size w w' := by
  have I0 := Lib.hid (show UI w oa n g 0 (.slice none 0 0) w from ⟨Below.refl _ _, World.ownsRow_nil _ _ _ _⟩)
  have HG := Lib.hid hg
  have H8 := Lib.hid h8
  clear hg h8
  go_enter Tryz.func134, Tryz.ntmps134
  go_wp2_with fail
  go_loopw [3, 4] (fun v i wi => ∃ k : Nat, k ≤ n ∧ i = .int .i64 k ∧ UI w oa n g (8 * k) v wi) (fun _ i _ => n - (intOf i).toNat)
  case atStart => exact ⟨0, Nat.zero_le _, rfl, I0.out⟩
  case round =>
    clear I0
    obtain ⟨k, hk, rfl, h1⟩ := hrel
    have I1 := Lib.hid h1
    clear h1
    by_cases hlt : k < n
    · go_wp2_with fail
      go_loopw [3, 5] (fun v u wi => ∃ m : Nat, m ≤ 8 ∧ u = .int .i64 ((128 / 2 ^ m : Nat) : Int) ∧ UI w oa n g (8 * k + m) v wi) (fun _ u _ => (intOf u).toNat)
      case atStart => exact ⟨0, by omega, rfl, I1.out⟩
      case round =>
        obtain ⟨m, hm, rfl, h2⟩ := hrel
        have I2 := Lib.hid h2
        clear h2 I1
        by_cases hm8 : m < 8
        · have L1 := HG.out.grow I2.out.bel
          have hi := fun w => run_indexAt_row (w := w) (cap := nc) elem5.slice size5 (L1.plain (by omega)) hlt
          simp only [Nat.mul_one] at hi
          have hc := L1.at hlt
          have hgk := H8.out k
          have hB := unp_div ⟨g k, hgk⟩ ⟨m, hm8⟩
          obtain ⟨hu0, hu8⟩ := unit_pow ⟨m, hm8⟩
          have HS := Lib.hid (show (128 / 2 ^ m) / 2 = 128 / 2 ^ (m + 1) by rw [Nat.div_div_eq_div_mul, Nat.pow_succ])
          obtain ⟨b, eb⟩ : ∃ b, unpB g (8 * k + m) = b := ⟨_, rfl⟩
          have eb2 : (g k / 2 ^ (7 - m) % 2 == 1) = b := by
            rw [← eb]
            unfold unpB
            rw [show (8 * k + m) / 8 = k by omega, show (8 * k + m) % 8 = m by omega]
          dsimp only at hB hu0 hu8
          rw [eb2] at hB
          obtain ⟨x, ex⟩ : ∃ x, g k = x := ⟨_, rfl⟩
          rw [ex] at hc hgk hB
          obtain ⟨u, hu⟩ : ∃ u, 128 / 2 ^ m = u := ⟨_, rfl⟩
          rw [hu] at hB hu0 hu8 HS ⊢
          obtain ⟨B, hBB⟩ : ∃ B : Int, (if b = true then (1 : Int) else 0) = B := ⟨_, rfl⟩
          have HEB := Lib.hid eb
          have HBB := Lib.hid hBB
          have hB1 : ((x / u % 2 : Nat) : Int) = B := by rw [hB, ← hBB]; split <;> rfl
          have HU := Lib.hid (show ((u : Int) / 2) = ((128 / 2 ^ (m + 1) : Nat) : Int) from by rw [← HS.out]; omega)
          clear ex hu eb eb2 L1 hBB hB HS
          have huI : (0 : Int) < u := by omega
          have hxI : (0 : Int) ≤ x := by omega
          have hune : ¬ u = 0 := by omega
          have hdv : (0 : Int) ≤ (x : Int) / (u : Int) ∧ (x : Int) / (u : Int) ≤ 100000 := by
            have h1 : (x : Int) / (u : Int) ≤ x := Int.ediv_le_self _ hxI
            exact ⟨Int.ediv_nonneg hxI (by omega), by omega⟩
          have hqB : (x : Int) / (u : Int) % 2 = B := by rw [← hB1]; simp
          have hdw : IntKind.i64.wrap ((x : Int) / (u : Int)) = (x : Int) / (u : Int) := IntWalk.i64_in _ (by omega)
          obtain ⟨D, hD⟩ : ∃ D, (x : Int) / (u : Int) = D := ⟨_, rfl⟩
          rw [hD] at hdv hqB hdw
          have hqB2 : D.tmod 2 = B := by rw [Int.tmod_eq_emod_of_nonneg hdv.1]; exact hqB
          have hBw : IntKind.i64.wrap B = B := IntWalk.i64_in _ (by omega)
          have hb1 := (Below.refl wr.heap.size wr).alloc (Nat.le_refl _) (.cells #[.int .i64 B] 3)
          have R1 := Lib.hid (row_box (cell := fun _ => .int .i64 B) (n := 1) (heap_alloc_new wr (.cells #[.int .i64 B] 3)) (by unfold maxLen; omega))
          have O1 := Lib.hid (own_grow I2.out.own hb1)
          have L2 := Lib.hid (Nat.le_trans I2.out.bel.size hb1.size)
          have B1 := Lib.hid (I2.out.bel.next hb1)
          clear hb1 hB1
          go_wp2_with (at_builtin; refine wpList_app elem3 rfl (.tmp 16) (.tmp 25) rfl rfl O1.out rfl (by omega) R1.out (fun _ => rfl) (by omega) L2.out ?_)
          intro v' w' h2 h3
          have B2 := Lib.hid (B1.out.grown h3 L2.out (fun q e => (O1.out.lt q e).1))
          have O2 := Lib.hid (show w'.ownsRow w.heap.size 3 1 v' (8 * k + (m + 1)) (valsOf (bitI (unpB g)) (8 * k + (m + 1))) from by
            rw [show 8 * k + (m + 1) = 8 * k + m + 1 by omega]
            rw [valsOf_congr (g := bitI (unpB g)) (fun j hj => ?_)] at h2
            · exact h2
            · by_cases e : j < 8 * k + m
              · rw [if_pos e]
              · rw [if_neg e]
                have : j = 8 * k + m := by omega
                subst this
                show Value.int .i64 B = bitI (unpB g) _
                unfold bitI
                rw [HEB.out, HBB.out])
          clear h2 h3 R1 O1 L2 B1
          go_wp2_with fail
          exact ⟨⟨m + 1, by omega, by rw [HU.out], B2.out, O2.out⟩, by simp [intOf]; omega⟩
        · obtain rfl : m = 8 := by omega
          have I3 := Lib.hid (show UI w oa n g (8 * (k + 1)) _ wr from I2.out)
          clear I2
          go_wp2_with fail
          exact ⟨⟨k + 1, hlt, by go_num, I3.out⟩, by simp [intOf]; omega⟩
    · obtain rfl : n = k := by omega
      obtain ⟨ra, rc, rfl, hrow, hb, -⟩ := row_of I1.out.own (by unfold maxLen; omega)
      have HR := Lib.hid hrow
      have HB := Lib.hid hb
      clear hrow hb
      go_wp2_with fail
      go_ret
      exact ⟨_, _, rfl, HR.out, fun h => HB.out h, I1.out.bel⟩
theorem valZ_succ (l : List Bool) (a i : Nat) : valZ l a (i + 1) = 2 * valZ l a i + if l.getD (a + i) false then 1 else 0 := by
  unfold valZ
  rw [List.range_succ, List.map_append, List.map_singleton, valH_snoc]
theorem valZ_lt (l : List Bool) (a m : Nat) : valZ l a m < 2 ^ m := by
  have := valH_lt ((List.range m).map fun i => l.getD (a + i) false)
  simpa [valZ] using this
theorem valZ_small (l : List Bool) (a : Nat) {m : Nat} (h : m ≤ 8) : valZ l a m < 256 :=
  Nat.lt_of_lt_of_le (valZ_lt l a m) (Nat.pow_le_pow_right (by omega) h)
/-- Bits as a row of numbers. -/
def BitRow (w : World) (oa : Option Addr) (l : List Bool) : Prop := Row w oa l.length 1 (fun i _ => bitI (fun j => l.getD j false) i)
theorem BitRow.grow {w w' : World} {oa : Option Addr} {l : List Bool} (h : BitRow w oa l) (hb : Below w.heap.size w w') : BitRow w' oa l := Row.grow h hb
set_option maxRecDepth 100000 in
set_option maxHeartbeats 2000000 in
theorem take135_any (oa : Option Addr) (nc : Nat) (l : List Bool) (a m : Nat) (w : World) (hl : BitRow w oa l) (ha : a ≤ 10000) (hm : m ≤ 8) :
    Calls Tryz.prog 135 #[.slice oa l.length nc, .int .i64 a, .int .i64 m] w fun e w' => e = .returned (.tuple #[.int .i64 (valZ l a m : Nat), .int .i64 ((a + m : Nat) : Int)]) ∧ w = w' := by
  have hsm := hl.small
  unfold maxLen at hsm
  have HL := Lib.hid hl
  clear hl
  go_enter Tryz.func135, Tryz.ntmps135
  go_wp2_with fail
  go_loop [1, 8, 9] (fun t v i => ∃ k : Nat, k ≤ m ∧ i = .int .i64 k ∧ t = .int .i64 ((a + k : Nat) : Int) ∧ v = .int .i64 (valZ l a k : Nat)) (fun _ _ i => m - (intOf i).toNat)
  case atStart => exact ⟨0, Nat.zero_le _, rfl, rfl, rfl⟩
  case round =>
    obtain ⟨k, hk, rfl, rfl, rfl⟩ := hrel
    have hz := valZ_small l a (show k ≤ 8 by omega)
    by_cases hlt : k < m
    · have HS := Lib.hid (valZ_succ l a k)
      obtain ⟨z, ez⟩ : ∃ z, valZ l a k = z := ⟨_, rfl⟩
      rw [ez] at hz HS ⊢
      obtain ⟨q, hq⟩ : ∃ q, a + k = q := ⟨_, rfl⟩
      rw [hq] at HS ⊢
      have HQ := Lib.hid hq
      have hqb : q ≤ 10008 := by omega
      clear ez hq
      by_cases hq2 : q < l.length
      · have hi := fun w => run_indexAt_row (w := w) (cap := nc) elem3.slice size3 (HL.out.plain (by omega)) hq2
        have hc := HL.out.cells q hq2 0 (by omega)
        simp only [Nat.add_zero, Nat.mul_one] at hi hc
        obtain ⟨B, hB⟩ : ∃ B : Int, (if l.getD q false then (1 : Int) else 0) = B := ⟨_, rfl⟩
        have hB1 : 0 ≤ B ∧ B ≤ 1 := by rw [← hB]; split <;> omega
        have HB := Lib.hid (show ((if l.getD q false then 1 else 0 : Nat) : Int) = B from by rw [← hB]; split <;> rfl)
        rw [show bitI (fun j => l.getD j false) q = .int .i64 B from by unfold bitI; rw [hB]] at hc
        clear hB
        go_wp2_with fail
        refine ⟨⟨k + 1, hlt, by go_num, ?_, ?_⟩, by simp [intOf]; omega⟩
        · rw [← HQ.out]; congr 1
        · rw [HS.out]; congr 1; have := HB.out; push_cast; omega
      · have HN := Lib.hid (show (if l.getD q false then 1 else 0 : Nat) = 0 from by rw [List.getD_eq_getElem?_getD, List.getElem?_eq_none (by omega)]; rfl)
        go_wp2_with fail
        refine ⟨⟨k + 1, hlt, by go_num, ?_, ?_⟩, by simp [intOf]; omega⟩
        · rw [← HQ.out]; congr 1
        · rw [HS.out, HN.out]; congr 1
    · obtain rfl : k = m := by omega
      obtain ⟨z, ez⟩ : ∃ z, valZ l a k = z := ⟨_, rfl⟩
      obtain ⟨q, hq⟩ : ∃ q, a + k = q := ⟨_, rfl⟩
      rw [ez, hq]
      have EZ := Lib.hid ez
      have HQ := Lib.hid hq
      clear ez hq
      go_wp2_with fail
      exact bodyPost_ret (v := .tuple #[.int .i64 (z : Nat), .int .i64 (q : Nat)]) (by simp [results, Tryz.results135, go_sem]) rfl ⟨by rw [← HQ.out, ← EZ.out]; rfl, rfl⟩
end Go.Proofs.YtclbmlmlhiiaeaaGreatDoor
