/-
  Walks: the library's insertion sort, at the tickets' numbers.
-/
import Derived.Test.YtbpeamppkdmdcaaW2
import Derived.Test.YtbpeamppkdmdcaaM2
import Derived.Laws.AppendOwn
import Derived.BigRegion
import Derived.RegionTactic
namespace Go.Proofs.Ytbpeamppkdmdcaa
open Go.RowKit

/-- The cells of the numbers, n of them, hold g; they can be written. -/
structure Nums (w : World) (b o n : Nat) (g : Nat → Nat) : Prop where
  cell : ∀ i, i < n → w.cell? ⟨b, o + i, none⟩ = some (.int .i64 (g i))
  free : ∀ i, i < n → w.frozen? ⟨b, o + i, none⟩ = false

theorem Nums.swap {w : World} {b o n : Nat} {g : Nat → Nat} (h : Nums w b o n g) {j : Nat} (hj : j + 1 < n) :
    Nums ((w.setCell ⟨b, o + (j + 1), none⟩ (.int .i64 (g j))).setCell ⟨b, o + j, none⟩ (.int .i64 (g (j + 1)))) b o n (swp g j) where
  cell := fun i hi => by
    have c1 := h.cell (j + 1) hj
    have c0 := h.cell j (by omega)
    have ci := h.cell i hi
    by_cases e1 : i = j
    · subst e1
      rw [World.cell?_setCell_same' _ _ _ (by rw [World.cell?_setCell_other _ _ _ _ (by simp), c0]; rfl)]
      simp [swp]
    · rw [World.cell?_setCell_other _ _ _ _ (by simp <;> omega)]
      by_cases e2 : i = j + 1
      · subst e2
        rw [World.cell?_setCell_same' _ _ _ (by rw [c1]; rfl)]
        simp [swp]
      · rw [World.cell?_setCell_other _ _ _ _ (by simp <;> omega), ci]
        simp [swp, e1, e2]
  free := fun i hi => by
    rw [World.frozen?_setCell, World.frozen?_setCell]
    exact h.free i hi

/-- The block of a row that is not empty. -/
def rowOf (n b : Nat) : Option Nat := if n = 0 then none else some b
theorem rowOf_pos {n b : Nat} (h : 0 < n) : rowOf n b = some b := by simp [rowOf]; omega
def SortPost (w : World) (b o n : Nat) (k : Nat → Int) (e : Ending) (w' : World) : Prop :=
  e = .returned (.tuple #[]) ∧ ∃ g, Pre k n n g ∧ Nums w' b o n g ∧ w.grownBy w' (rowOf n b)

theorem grown_swap {a w : World} {b : Nat} (h : a.grownBy w (some b)) (o1 o2 : Nat) (u v : Value) : a.grownBy ((w.setCell ⟨b, o1, none⟩ u).setCell ⟨b, o2, none⟩ v) (some b) := by
  refine ⟨h.os, h.tape, h.output, by simpa [World.setCell] using h.size, fun i hi hne => ?_⟩
  rw [Below.heap_setCell _ _ _ _ (fun e => hne (by rw [e])), Below.heap_setCell _ _ _ _ (fun e => hne (by rw [e]))]
  exact h.block i hi hne

theorem Tides.kept {w w' : World} {b bl : Nat} {k : Nat → Int} (h : Tides w bl k) (hg : w.grownBy w' (some b)) (hne : bl ≠ b) : Tides w' bl k := by
  intro i hi
  have hc := h i hi
  have hlt := World.block_lt_of_cell? w _ hc
  exact (World.cell?_of_block (a := ⟨bl, i * 3 + 2, none⟩) (hg.block bl hlt (fun e => hne (by injection e)))).trans hc

theorem Nums.drewN {w : World} {b o n : Nat} {g : Nat → Nat} (h : Nums w b o n g) (m : Nat) : Nums (w.drewN m) b o n g := ⟨h.cell, h.free⟩
theorem Nums.drew {w : World} {b o n : Nat} {g : Nat → Nat} (h : Nums w b o n g) : Nums w.drew b o n g := ⟨h.cell, h.free⟩
theorem Tides.drew {w : World} {b : Nat} {k : Nat → Int} (h : Tides w b k) : Tides w.drew b k := h
theorem grownBy_drewN {a w : World} {row : Option Nat} (h : a.grownBy w row) (n : Nat) : a.grownBy (w.drewN n) row := ⟨h.os, h.tape, h.output, h.size, h.block⟩
theorem Tides.drewN {w : World} {b : Nat} {k : Nat → Int} (h : Tides w b k) (m : Nat) : Tides (w.drewN m) b k := h

def OutR (w : World) (b o n bl : Nat) (k : Nat → Int) (v : Value) (wr : World) : Prop :=
  ∃ i : Nat, 1 ≤ i ∧ (i ≤ n ∨ i = 1) ∧ v = .int .i64 i ∧ ∃ g, Pre k n i g ∧ Nums wr b o n g ∧ w.grownBy wr (rowOf n b) ∧ Tides wr bl k
def InR (w : World) (b o n bl i : Nat) (k : Nat → Int) (v : Value) (wr : World) : Prop :=
  ∃ j : Nat, v = .int .i64 j ∧ ∃ g, Ins k n i j g ∧ Nums wr b o n g ∧ w.grownBy wr (rowOf n b) ∧ Tides wr bl k

set_option maxRecDepth 100000 in
set_option maxHeartbeats 1000000 in
theorem insertion_any (oa : Option Addr) (n cap bl : Nat) (k : Nat → Int) (w : World) (hn : n ≤ 6) (hp : 0 < n → oa = some ⟨blk oa, ofs oa, none⟩) (h : Tides w bl k) (hs : Nums w (blk oa) (ofs oa) n (fun m => m)) (hne : 0 < n → bl ≠ blk oa) :
    Calls Try.prog 105 #[.slice oa n cap, .int .i64 0, .int .i64 n, .func (.func 96) #[] #[.pointer (some ⟨bl, 0, none⟩)]] w (SortPost w (blk oa) (ofs oa) n k) := by
  have HP := Lib.hid hp
  clear hp
  go_enter Try.func105, Try.ntmps105
  go_wp2_with fail
  go_loopw [8] (OutR w (blk oa) (ofs oa) n bl k) (fun i _ => n - (intOf i).toNat)
  case atStart => exact ⟨1, Nat.le_refl _, .inr rfl, rfl, _, Pre.start k n, hs, World.grownBy.refl _ _, h⟩
  case round =>
    obtain ⟨i, hi1, hi2, rfl, g, hpre, hnum, hgr, htid⟩ := hrel
    by_cases hlt : i < n
    · go_wp2_with fail
      obtain ⟨wo, rfl⟩ : ∃ wo : World, wo = wr := ⟨_, rfl⟩
      go_loopw [9] (InR w (blk oa) (ofs oa) n bl i k) (fun j _ => (intOf j).toNat)
      case atStart => exact ⟨i, rfl, g, Ins.start hpre hlt, hnum, hgr, htid⟩
      case round =>
        clear hpre hnum hgr htid
        obtain ⟨j, rfl, g, hins, hnum, hgr, htid⟩ := hrel
        have hji := hins.hj
        have hp' := Lib.hid (HP.out (by omega))
        cases j with
        | zero =>
          have hd : decide ((0 : Int) < ((0 : Nat) : Int)) = false := by decide
          go_wp2_with fail
          go_quiet (fail)
          go_wp2_with fail
          exact ⟨⟨i + 1, by omega, .inl (by omega), by go_num, g, hins.done (.inl rfl), hnum.drewN _, grownBy_drewN hgr _, htid.drewN _⟩, by simp [intOf]; omega⟩
        | succ j =>
          have c1 := hnum.cell (j + 1) (by omega)
          have c0 := hnum.cell j (by omega)
          have f1 := hnum.free (j + 1) (by omega)
          have f0 := hnum.free j (by omega)
          have hd : decide ((0 : Int) < ((j + 1 : Nat) : Int)) = true := by simp
          have hi1 := fun w => run_indexAt_row (w := w) (cap := cap) (k := j + 1) (n := n) Try.underlying37 size3 hp'.out (by omega)
          have hi0 := fun w => run_indexAt_row (w := w) (cap := cap) (k := j) (n := n) Try.underlying37 size3 hp'.out (by omega)
          simp only [Nat.mul_one, Int.natCast_add, Int.natCast_one] at hi1 hi0 hd ⊢
          have l1 : g (j + 1) < 6 := by rw [hins.atj]; omega
          have l0 : g j < 6 := by have := hins.lt j (by omega) (by omega); omega
          by_cases hk : k (g (j + 1)) < k (g j)
          · have hcm : decide (cmpI (k (g (j + 1))) (k (g j)) < 0) = true := by simpa [cmpI_lt] using hk
            go_wp2_with fail
            have hwr : IntKind.i64.wrap (j : Int) = j := IntWalk.i64_in _ (by omega)
            go_quiet ((go_at_call 96; exact Calls.quiet_of (less_any _ _ _ _ l1 l0 _ (Tides.drewN htid _))))
            clear hwr
            go_wp2_with fail
            have C1 : (wr.drewN nq).cell? ⟨blk oa, ofs oa + (j + 1), none⟩ = some (.int .i64 (g (j + 1))) := c1
            have C0 : (wr.drewN nq).cell? ⟨blk oa, ofs oa + j, none⟩ = some (.int .i64 (g j)) := c0
            have F1 : (wr.drewN nq).frozen? ⟨blk oa, ofs oa + (j + 1), none⟩ = false := f1
            have F0 : (wr.drewN nq).frozen? ⟨blk oa, ofs oa + j, none⟩ = false := f0
            have HN : Hid (Nums (wr.drewN nq) (blk oa) (ofs oa) n g) := ⟨hnum.cell, hnum.free⟩
            have HG : Hid (w.grownBy (wr.drewN nq) (some (blk oa))) := by rw [rowOf_pos (by omega)] at hgr; exact ⟨hgr.os, hgr.tape, hgr.output, hgr.size, hgr.block⟩
            have HT : Hid (Tides (wr.drewN nq) bl k) := Tides.drewN htid _
            clear c1 c0 f1 f0 hnum hgr htid
            generalize wr.drewN nq = W at *
            have hwr : IntKind.i64.wrap (j : Int) = j := IntWalk.i64_in _ (by omega)
            go_region
            clear hwr
            go_wp2_with fail
            exact ⟨⟨j, rfl, swp g j, hins.step hk, (HN.out.swap (by omega)).drew, by rw [rowOf_pos (by omega)]; exact grownBy_drewN (grown_swap HG.out _ _ _ _) 1, ((HT.out.kept (grown_swap (World.grownBy.refl _ _) _ _ _ _) (hne (by omega)))).drew⟩, by simp [intOf]⟩
          · have hcm : decide (cmpI (k (g (j + 1))) (k (g j)) < 0) = false := by simpa [cmpI_lt] using hk
            go_wp2_with fail
            have hwr : IntKind.i64.wrap (j : Int) = j := IntWalk.i64_in _ (by omega)
            go_quiet ((go_at_call 96; exact Calls.quiet_of (less_any _ _ _ _ l1 l0 _ (Tides.drewN htid _))))
            clear hwr
            go_wp2_with fail
            exact ⟨⟨i + 1, by omega, .inl (by omega), by go_num, g, hins.done (.inr (by simpa using hk)), hnum.drewN _, grownBy_drewN hgr _, htid.drewN _⟩, by simp [intOf]; omega⟩
    · go_wp2_with fail
      go_end0
      refine ⟨rfl, g, ?_, hnum, hgr⟩
      by_cases e : i = n
      · rw [e] at hpre; exact hpre
      · obtain rfl : n = 0 := by omega
        exact ⟨fun m h => by omega, fun v h => by omega, fun m h1 h2 => by omega, fun a b h1 h2 => by omega⟩
end Go.Proofs.Ytbpeamppkdmdcaa
