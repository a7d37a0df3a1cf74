/-
  The sample of gangs.
  Ints; awake08.
-/
import Derived.Test.YtikeihnhkiipgaaGreatE6
namespace Go.Proofs.YtikeihnhkiipgaaGreat
open Go.RowKit

/-- The gangs G of chapter 8. -/
def p0 : PN where
  H := 8
  fr := 1
  pe := 16
  fn := 2
  F := fun i => if i = 0 then 4 else 0
  qn := 2
  ht := fun i => if i = 0 then 4 else 6
  fm := fun _ => 0
  bt := fun _ => 8
def g0 : GN where
  sn := 3
  fm := fun i => if i = 0 then 20 else if i = 1 then 12 else 9
  dr := fun i => if i = 0 then 2 else if i = 1 then 0 else 3
  fl := fun i => if i = 0 then 12 else if i = 1 then 10 else 12
  po := fun i => if i = 0 then -1 else if i = 1 then 0 else 1
  cn := 2
  lo := fun i => if i = 0 then 5 else 4
  hi := fun i => if i = 0 then 6 else 4
  se := fun i => if i = 0 then 7 else 6
  p := p0
theorem p0_ok : p0.Ok where
  hH := by decide
  hfr := by decide
  hpe := by decide
  hfn := by decide
  hF := fun i _ => by show (if i = 0 then 4 else 0) < 2 ^ 8; split <;> decide
  hqn := by decide
  hht := fun i _ => by show 1 ≤ (if i = 0 then 4 else 6) ∧ (if i = 0 then 4 else 6) ≤ 12; split <;> decide
  hfm := fun _ _ => Nat.zero_le _
  hbt := fun _ _ => Nat.le_refl _
theorem g0_ok : g0.Ok where
  hsn := by decide
  hcn := by decide
  hfm := fun i hi => by rcases (show i = 0 ∨ i = 1 ∨ i = 2 by have : i < 3 := hi; omega) with rfl | rfl | rfl <;> decide
  hdr := fun i hi => by rcases (show i = 0 ∨ i = 1 ∨ i = 2 by have : i < 3 := hi; omega) with rfl | rfl | rfl <;> decide
  hfl := fun i hi => by rcases (show i = 0 ∨ i = 1 ∨ i = 2 by have : i < 3 := hi; omega) with rfl | rfl | rfl <;> decide
  hpo := fun i hi => by rcases (show i = 0 ∨ i = 1 ∨ i = 2 by have : i < 3 := hi; omega) with rfl | rfl | rfl <;> decide
  hlo := fun i hi => by rcases (show i = 0 ∨ i = 1 by have : i < 2 := hi; omega) with rfl | rfl <;> decide
  hse := fun i hi => by rcases (show i = 0 ∨ i = 1 by have : i < 2 := hi; omega) with rfl | rfl <;> decide
  hp := p0_ok
theorem g0_end : g0.p.end' g0.p.qn Mk.start = some 6 := by decide +kernel
theorem g0_dv : g0.dv g0.sn Mk.start = 9 := by decide +kernel
theorem g0_dl : g0.dl 9 g0.sn Mk.start = [0, 0, 1] := by decide +kernel
set_option maxHeartbeats 400000 in
theorem span04_any (lo hi : Int) (w : World) : Calls Tryz.prog 9 #[.int .i64 lo, .int .i64 hi] w fun e w' => e = .returned (.agg #[.int .i64 lo, .int .i64 hi]) ∧ w' = w.alloc (.cells #[.int .i64 lo, .int .i64 hi] 50) := by
  have hb := heap_alloc_new w (.cells #[.int .i64 lo, .int .i64 hi] 50)
  have c0 := cellAt hb 0
  have c1 := cellAt hb 1
  simp only [List.getElem?_toArray, List.getElem?_cons_zero, List.getElem?_cons_succ] at c0 c1
  go_enter Tryz.func9, Tryz.ntmps9
  go_wp2_with fail
  exact bodyPost_ret (v := .agg #[.int .i64 lo, .int .i64 hi]) (by simp [results, Tryz.results9, go_sem, c0, c1]) rfl ⟨rfl, rfl⟩
set_option maxRecDepth 100000 in
set_option maxHeartbeats 2000000 in
theorem gangs08_any (w : World) : Calls Tryz.prog 51 #[] w fun e w' => ∃ a, e = .returned (.agg (g0.cs a)) ∧ g0.At a w' ∧ Below w.heap.size w w' := by
  go_enter Tryz.func51, Tryz.ntmps51
  go_wp2_with (go_at_call 9; refine (span04_any _ _ _).mono ?_; rintro e w' ⟨rfl, rfl⟩)
  generalize hW : World.alloc _ _ = W
  obtain ⟨h0, h1, -, -, h4, h5, h6, hB⟩ := blocks7 hW
  clear hW
  have r1 : Row W (some ⟨w.heap.size + 1, 0, none⟩) 3 4 g0.seam := row_lit h1 (by unfold maxLen; omega) (fun i hi j hj => by
    rcases (show i = 0 ∨ i = 1 ∨ i = 2 by omega) with rfl | rfl | rfl <;> rcases (show j = 0 ∨ j = 1 ∨ j = 2 ∨ j = 3 by omega) with rfl | rfl | rfl | rfl <;> rfl)
  have r4 : Row W (some ⟨w.heap.size + 4, 0, none⟩) 2 3 g0.crew := row_lit h4 (by unfold maxLen; omega) (fun i hi j hj => by
    rcases (show i = 0 ∨ i = 1 by omega) with rfl | rfl <;> rcases (show j = 0 ∨ j = 1 ∨ j = 2 by omega) with rfl | rfl | rfl <;> rfl)
  have r5 : IntsAt W (some ⟨w.heap.size + 5, 0, none⟩) 2 (fun i => (p0.F i : Nat)) := row_lit h5 (by unfold maxLen; omega) (fun i hi j hj => by
    obtain rfl : j = 0 := by omega
    rcases (show i = 0 ∨ i = 1 by omega) with rfl | rfl <;> rfl)
  have r6 : Row W (some ⟨w.heap.size + 6, 0, none⟩) 2 3 p0.pot := row_lit h6 (by unfold maxLen; omega) (fun i hi j hj => by
    rcases (show i = 0 ∨ i = 1 by omega) with rfl | rfl <;> rcases (show j = 0 ∨ j = 1 ∨ j = 2 by omega) with rfl | rfl | rfl <;> rfl)
  exact bodyPost_ret (v := .agg (g0.cs ⟨some ⟨w.heap.size + 1, 0, none⟩, 3, some ⟨w.heap.size + 4, 0, none⟩, 2, some ⟨w.heap.size + 5, 0, none⟩, 2, some ⟨w.heap.size + 6, 0, none⟩, 2⟩))
    (results_cell_row (by rfl) _ _ w.heap.size 29 _ (0, 0) _ (by rfl) h0 Tryz.underlying29 rfl (by kernel_rfl)) rfl ⟨_, rfl, ⟨r1, r4, ⟨r5, r6⟩⟩, hB⟩
end Go.Proofs.YtikeihnhkiipgaaGreat

namespace Go.Proofs.YtikeihnhkiipgaaGreat
open Go.RowKit

set_option maxHeartbeats 1000000 in
theorem ints_eq (oa ob : Option Addr) (n ca cb : Nat) (f : Nat → Int) (w : World) (hn : n ≤ 100) (ha : IntsAt w oa n f) (hb : IntsAt w ob n f) :
    Calls Tryz.prog 17 #[.slice oa n ca, .slice ob n cb] w fun e w' => e = .returned (.bool true) ∧ ∃ j, w' = w.drewN j := by
  have HA := Lib.hid (fun j => show IntsAt (w.drewN j) oa n f from ha.grow (below_drewN (Below.refl w.heap.size w) j))
  have HB := Lib.hid (fun j => show IntsAt (w.drewN j) ob n f from hb.grow (below_drewN (Below.refl w.heap.size w) j))
  clear ha hb
  go_enter Tryz.func17, Tryz.ntmps17
  go_wp2_with fail
  go_loopw [5] (fun i W => ∃ k j : Nat, k ≤ n ∧ i = .int .i64 k ∧ W = w.drewN j) (fun i _ => n - (intOf i).toNat)
  case atStart => exact ⟨0, 0, Nat.zero_le _, rfl, rfl⟩
  case round =>
    obtain ⟨k, j, hk, rfl, rfl⟩ := hrel
    by_cases hlt : k < n
    · have hlt' : (k : Int) < n := by omega
      have hmeas : n - (k + 1) < n - k := by omega
      have ia := fun W => run_indexAt_row (w := W) (cap := ca) Tryz.underlying24 size_int ((HA.out 0).plain (by omega)) hlt
      have ib := fun W => run_indexAt_row (w := W) (cap := cb) Tryz.underlying24 size_int ((HB.out 0).plain (by omega)) hlt
      simp only [Nat.mul_one] at ia ib
      have fa := fun j => (HA.out j).at hlt
      have fb := fun j => (HB.out j).at hlt
      clear hk
      go_upto_region 6 with (fail)
      have fa' := fun i => by have := fa (j + i); rwa [← World.drewN_drewN] at this
      have fb' := fun i => by have := fb (j + i); rwa [← World.drewN_drewN] at this
      go_quiet (fail)
      clear fa fb fa' fb' ia ib
      go_wp2_with fail
      rw [show ((k : Int) + 1) = ((k + 1 : Nat) : Int) from rfl]
      exact ⟨⟨k + 1, j + nq, hlt, rfl, rfl⟩, hmeas⟩
    · have hlt' : ¬ (k : Int) < n := by omega
      go_wp2_with fail
      go_ret
      exact ⟨rfl, j, rfl⟩
set_option maxRecDepth 100000 in
set_option maxHeartbeats 2000000 in
theorem awake08_any (w : World) : Calls Tryz.prog 18 #[] w fun e w' => e = .returned (.bool true) ∧ Below w.heap.size w w' := by
  have CG := Lib.hid (fun W => (show Calls Tryz.prog 51 #[] W fun e w' => ∃ a : GA, e = .returned (.agg #[.slice a.sa 3 a.sc, .slice a.ca 2 a.cc, .int .i64 8, .int .i64 1, .int .i64 16, .slice a.fa 2 a.fc, .slice a.qa 2 a.qc]) ∧ g0.At a w' ∧ Below W.heap.size W w' from gangs08_any W))
  have C1 := Lib.hid (fun (a : GA) W (h : g0.At a W) => (show Calls Tryz.prog 6 #[.agg #[.slice a.sa 3 a.sc, .slice a.ca 2 a.cc, .int .i64 8, .int .i64 1, .int .i64 16, .slice a.fa 2 a.fc, .slice a.qa 2 a.qc]] W fun e w' => ∃ oa cap, e = .returned (.tuple #[.int .i64 9, .slice oa 3 cap, .int .i64 0]) ∧ IntsAt w' oa 3 (fun i => ((([0, 0, 1] : List Nat)[i]?.getD 0 : Nat) : Int)) ∧ Below W.heap.size W w' from (deal_any g0 g0_ok a W h).mono fun e w' hd => by
    obtain ⟨hb, hd⟩ := hd
    rw [g0_dv, if_pos (by decide)] at hd
    obtain ⟨oa, cap, he, hl⟩ := hd
    rw [g0_dl] at hl
    exact ⟨oa, cap, he, hl, hb⟩))
  have C2 := Lib.hid (fun (a : GA) W (h : g0.At a W) => (show Calls Tryz.prog 52 #[.agg #[.int .i64 8, .int .i64 1, .int .i64 16, .slice a.fa 2 a.fc, .slice a.qa 2 a.qc]] W fun e w' => ∃ pa, e = .returned (.tuple #[.int .i64 6, .slice pa 2 2, .int .i64 0]) ∧ Below W.heap.size W w' from (best_any g0.p p0_ok a.fa a.qa a.fc a.qc W h.p).mono fun e w' hd => by
    obtain ⟨hb, hd⟩ := hd
    rw [g0_end] at hd
    obtain ⟨pa, he, -⟩ := hd
    exact ⟨pa, he, hb⟩))
  have hf : ∀ (a : GA) W, (Instr.field 29 (.agg #[.slice a.sa 3 a.sc, .slice a.ca 2 a.cc, .int .i64 8, .int .i64 1, .int .i64 16, .slice a.fa 2 a.fc, .slice a.qa 2 a.qc]) 2).run Tryz.prog W = .ok (.agg #[.int .i64 8, .int .i64 1, .int .i64 16, .slice a.fa 2 a.fc, .slice a.qa 2 a.qc]) W := fun _ _ => by kernel_rfl
  go_enter Tryz.func18, Tryz.ntmps18
  go_upto_region 2 with (first
    | (go_at_call 51; refine (CG.out _).mono ?_; rintro e w1 ⟨a, rfl, ha, hb1⟩)
    | (go_at_call 6; refine (C1.out a w1 ha).mono ?_; rintro e w2 ⟨oa, cap, rfl, hl, hb2⟩))
  go_upto_region 3 with (first
    | (go_at_call 51; refine (CG.out _).mono ?_; rintro e w3 ⟨a', rfl, ha', hb3⟩)
    | (go_at_call 52; refine (C2.out a' w3 ha').mono ?_; rintro e w4 ⟨pa, rfl, hb4⟩))
  have HL := Lib.hid ((hl.grow hb3).grow hb4)
  have HB := Lib.hid (((hb1.next hb2).next hb3).next hb4)
  clear hl hb1 hb2 hb3 hb4 ha ha' CG C1 C2
  have al := (Below.refl w4.heap.size w4).alloc (Nat.le_refl _) (.cells #[.int .i64 0, .int .i64 0, .int .i64 1] 3)
  have C3 := Lib.hid (ints_eq oa (some ⟨w4.heap.size, 0, none⟩) 3 cap 3 (fun i => ((([0, 0, 1] : List Nat)[i]?.getD 0 : Nat) : Int)) (w4.alloc (.cells #[.int .i64 0, .int .i64 0, .int .i64 1] 3)) (by decide) (HL.out.grow al) (row_lit (heap_alloc_new w4 _) (by unfold maxLen; omega) (fun i hi j hj => by
    obtain rfl : j = 0 := by omega
    rcases (show i = 0 ∨ i = 1 ∨ i = 2 by omega) with rfl | rfl | rfl <;> rfl)))
  have HB5 := Lib.hid (fun j => (HB.out.next al).next (below_drewN (Below.refl _ _) j))
  clear al
  go_wp2_with (go_at_call 17; refine C3.out.mono ?_; rintro e w5 ⟨rfl, j, rfl⟩)
  go_ret
  exact ⟨rfl, HB5.out j⟩
end Go.Proofs.YtikeihnhkiipgaaGreat
