/-
  The table of a crew.
-/
import Derived.Test.YtikeihnhkiipgaaGreatQD0
import Derived.Test.YtikeihnhkiipgaaGreatAD
import Derived.Laws.Tables
import Derived.Laws.CopyRow
namespace Go.Proofs.YtikeihnhkiipgaaGreat
open Go.RowKit

def rowVals (f : Nat → Int) (k : Nat) : List Value := (List.range k).map fun (i : Nat) => Value.int .i64 (f i)
theorem rowVals_get (f : Nat → Int) (k i : Nat) (h : i < k) : (rowVals f k)[i]? = some (.int .i64 (f i)) := by simp [rowVals, h]
theorem rowVals_length (f : Nat → Int) (k : Nat) : (rowVals f k).length = k := by simp [rowVals]
theorem rowVals_set (F : Nat → Int) (n r : Nat) (v : Int) : (rowVals F n).set r (.int .i64 v) = rowVals (fun i => if i = r then v else F i) n := by
  apply List.ext_getElem?
  intro i
  by_cases hi : i < n
  · rw [rowVals_get _ _ _ hi, List.getElem?_set]
    by_cases e : r = i
    · subst e; simp [rowVals_length, hi]
    · rw [if_neg e, rowVals_get _ _ _ hi, if_neg (fun h => e h.symm)]
  · rw [List.getElem?_eq_none (by simp [rowVals_length]; omega), List.getElem?_eq_none (by simp [rowVals_length]; omega)]
def updN (T : Nat → Nat) (k v : Nat) : Nat → Nat := fun i => if i = k then v else T i
/-- A table of 32 hours. -/
def tabC (T : Nat → Nat) : Array Value := (rowVals (fun i => (T i : Nat)) 32).toArray
theorem tabC_at (T : Nat → Nat) {i : Nat} (h : i < 32) : (tabC T)[i]? = some (.int .i64 (T i)) := by
  unfold tabC
  rw [List.getElem?_toArray, rowVals_get _ _ _ h]
theorem tabC_set (T : Nat → Nat) (k v : Nat) : (tabC T).setIfInBounds k (.int .i64 v) = tabC (updN T k v) := by
  unfold tabC
  rw [List.setIfInBounds_toArray, rowVals_set]
  congr 2
  funext i
  unfold updN
  split <;> rfl
theorem tabC_len (T : Nat → Nat) : (tabC T).size = 32 := by simp [tabC, rowVals]
theorem size_tab : (Tryz.prog.info? 125).map (·.size) = some 32 := by kernel_rfl
theorem tabC_size (T : Nat → Nat) : (Tryz.prog.info? 125).map (·.size) = some (tabC T).size := by rw [tabC_len]; exact size_tab
theorem tabC_one (T : Nat → Nat) : (tabC T).all (·.oneCell') = true := by simp [tabC, rowVals, Value.oneCell']
/-- A set without a seam. -/
def wo (s n : Nat) : Nat := s &&& (18446744073709551615 - 2 ^ n)
theorem wo_le (s n : Nat) : wo s n ≤ s := Nat.and_le_left
def GN.tin (g : GN) (crew k : Nat) (T : Nat → Nat) : Nat → (Nat → Nat)
  | 0 => T
  | n + 1 => if k.testBit n && g.kn crew n then (if (decide (g.tin crew k T n (wo k n) < 10000) && decide ((g.nxt ⟨wo k n, g.tin crew k T n (wo k n)⟩ crew n).h ≤ g.fl n)) then updN (g.tin crew k T n) k (min (g.tin crew k T n k) (g.nxt ⟨wo k n, g.tin crew k T n (wo k n)⟩ crew n).h) else g.tin crew k T n) else g.tin crew k T n
/-- The table, when so many sets have been looked at. -/
def GN.tab (g : GN) (crew : Nat) : Nat → (Nat → Nat)
  | 0 => fun _ => 0
  | k + 1 => g.tin crew k (updN (g.tab crew k) k (if k = 0 then 0 else 10000)) g.sn
theorem updN_le {T : Nat → Nat} {k v : Nat} (h : ∀ i, T i ≤ 10000) (hv : v ≤ 10000) : ∀ i, updN T k v i ≤ 10000 := fun i => by
  unfold updN
  split
  · exact hv
  · exact h i
theorem tin_le (g : GN) (crew k : Nat) {T : Nat → Nat} (h : ∀ i, T i ≤ 10000) : ∀ n i, g.tin crew k T n i ≤ 10000
  | 0, i => h i
  | n + 1, i => by
    have ih := tin_le g crew k h n
    unfold GN.tin
    split
    · split
      · exact updN_le ih (Nat.le_trans (Nat.min_le_left _ _) (ih k)) i
      · exact ih i
    · exact ih i
theorem tab_le (g : GN) (crew : Nat) : ∀ k i, g.tab crew k i ≤ 10000
  | 0, i => Nat.zero_le _
  | k + 1, i => by
    unfold GN.tab
    exact tin_le g crew k (updN_le (tab_le g crew k) (by split <;> omega)) _ i
/-- What its loops keep. -/
structure TI (g : GN) (a : GA) (b : Nat) (r : Option Addr) (rc crew c : Nat) (w : World) (T : Nat → Nat) (W : World) : Prop where
  bel : Below w.heap.size w W
  kw : KW g a b r rc crew c W
  tb : BoxAt W w.heap.size (tabC T) 125
theorem TI.grow {g : GN} {a : GA} {b : Nat} {r : Option Addr} {rc crew c : Nat} {w W W' : World} {T : Nat → Nat} (h : TI g a b r rc crew c w T W) (hb : Below W.heap.size W W') : TI g a b r rc crew c w T W' := ⟨h.bel.next hb, h.kw.grow hb, h.tb.grow hb⟩
/-- A cell of the table is written. -/
theorem TI.put {g : GN} {a : GA} {b : Nat} {r : Option Addr} {rc crew c : Nat} {w W : World} {T : Nat → Nat} (h : TI g a b r rc crew c w T W) (hg : GW g a b r rc w) (hc : w.heap.size < c) (k v : Nat) : TI g a b r rc crew c w (updN T k v) (W.setCell ⟨w.heap.size, k, none⟩ (.int .i64 v)) :=
  have hb := h.bel.setCell (p := ⟨w.heap.size, k, none⟩) (Nat.le_refl _) (.int .i64 v)
  ⟨hb, ⟨hg.grow hb, h.kw.pb.set _ _ (by show w.heap.size ≠ c; omega), h.kw.hs.set _ _ (by show w.heap.size ≠ c + 1; omega)⟩, by
    have := h.tb.store k (.int .i64 v)
    rwa [tabC_set] at this⟩
section
variable (g : GN) (ok : g.Ok) (a : GA) (b : Nat) (r : Option Addr) (rc : Nat)
include ok
set_option maxRecDepth 100000 in
set_option maxHeartbeats 1000000 in
theorem table_any (crew : Nat) (hc : crew < g.cn) (w : World) (h : GW g a b r rc w) :
    Calls Tryz.prog 59 #[bp b, .int .i64 crew] w fun e w' => e = .returned (.agg (tabC (g.tab crew (2 ^ g.sn)))) ∧ Below w.heap.size w w' := by
  have OK := Lib.hid ok
  have H0 := Lib.hid h
  have al := (Below.refl w.heap.size w).alloc (Nat.le_refl _) (.cells (tabC fun _ => 0) 125)
  have X0 := Lib.hid (show BoxAt (w.alloc (.cells (tabC fun _ => 0) 125)) w.heap.size (tabC fun _ => 0) 125 from heap_alloc_new _ _)
  have I0 := Lib.hid (h.grow al)
  have B0 := Lib.hid al
  have K0 := Lib.hid (fun W (h : GW g a b r rc W) => knows_any g ok a b r rc crew hc W h)
  have E0 := Lib.hid (fun W => every_any g.sn W (by have := ok.hsn; omega))
  have hz : tabC (fun _ => 0) = #[.int .i64 0, .int .i64 0, .int .i64 0, .int .i64 0, .int .i64 0, .int .i64 0, .int .i64 0, .int .i64 0, .int .i64 0, .int .i64 0, .int .i64 0, .int .i64 0, .int .i64 0, .int .i64 0, .int .i64 0, .int .i64 0, .int .i64 0, .int .i64 0, .int .i64 0, .int .i64 0, .int .i64 0, .int .i64 0, .int .i64 0, .int .i64 0, .int .i64 0, .int .i64 0, .int .i64 0, .int .i64 0, .int .i64 0, .int .i64 0, .int .i64 0, .int .i64 0] := rfl
  have hp : 2 ^ g.sn ≤ 32 := by
    have : 2 ^ g.sn ≤ 2 ^ 5 := Nat.pow_le_pow_right (by omega) ok.hsn
    omega
  have hp0 := Nat.two_pow_pos g.sn
  have hw : IntKind.u64.wrap (((2 ^ g.sn - 1 : Nat) : Int) + 1) = ((2 ^ g.sn : Nat) : Int) := by
    rw [IntKind.wrap_u64]
    generalize 2 ^ g.sn = z at *
    omega
  clear h al ok
  generalize 2 ^ g.sn = P at *
  go_enter Tryz.func59, Tryz.ntmps59
  go_upto_region 1 with (fail)
  rw [hz] at X0 I0 B0
  generalize World.alloc w _ = w0 at *
  rw [← hz] at X0
  clear hz
  go_upto_region 3 with (go_at_call 61; refine (K0.out _ I0.out).mono ?_; rintro e w1 ⟨rfl, hk1, hb1⟩)
  have J1 := Lib.hid (show TI g a b r rc crew w0.heap.size w (fun _ => 0) w1 from ⟨B0.out.next hb1, hk1, X0.out.grow hb1⟩)
  have HC := Lib.hid (show w.heap.size < w0.heap.size from lt_of_heap X0.out)
  clear hk1 hb1 I0 B0 K0 X0
  generalize w0.heap.size = c at *
  obtain ⟨q0, q1, q7⟩ := J1.out.kw.gw.cells
  go_wp2_with (go_at_call 23; refine (E0.out _).mono ?_; rintro e w2 ⟨rfl, rfl⟩)
  clear q0 q1 q7 E0
  go_loopw [22] (fun i W => ∃ k : Nat, k ≤ P ∧ i = .int .u64 k ∧ TI g a b r rc crew c w (g.tab crew k) W) (fun i _ => P - (intOf i).toNat)
  case atStart => exact ⟨0, Nat.zero_le _, rfl, J1.out⟩
  case round =>
    clear J1
    obtain ⟨k, hk, rfl, hI⟩ := hrel
    have I1 := Lib.hid hI
    clear hI
    have T1 := Lib.hid (tab_le g crew k)
    by_cases hlt : k < P
    · have hlt' : (k : Int) < (P : Int) := by omega
      have hk32 : k < 32 := by omega
      have hk32' : (k : Int) < 32 := by omega
      have c0 := (cellAt I1.out.tb k).trans (tabC_at _ hk32)
      have f0 := freeAt I1.out.tb k
      have hw1 : IntKind.u64.wrap ((k : Int) + 1) = ((k + 1 : Nat) : Int) := wrap64u (by omega) (by omega)
      have hd : (k : Int) = 0 ↔ k = 0 := by omega
      go_upto_region 7 with (fail)
      have I2 := Lib.hid (I1.out.put H0.out HC.out k 10000)
      clear c0 f0 I1
      generalize World.setCell wr _ _ = w2 at *
      have c0 := (cellAt I2.out.tb k).trans (tabC_at _ hk32)
      have f0 := freeAt I2.out.tb k
      go_upto_if 28 with (fail)
      go_cut [7] from 27 to 30 (fun v W => v = .int .u64 k ∧ TI g a b r rc crew c w (updN (g.tab crew k) k (if k = 0 then 0 else 10000)) W)
      case first =>
        by_cases hk0 : k = 0
        · subst hk0
          go_wp2_with fail
          go_meet
          refine ⟨rfl, ?_⟩
          have h := I2.out.put H0.out HC.out 0 0
          have e : updN (g.tab crew 0) 0 0 = updN (updN (g.tab crew 0) 0 10000) 0 0 := by
            funext i
            unfold updN
            split <;> rfl
          simp only [if_true]
          rw [e]
          exact h
        · have hk0' : ¬ (k : Int) = 0 := by omega
          go_wp2_with fail
          go_meet
          exact ⟨rfl, by rw [if_neg hk0]; exact I2.out⟩
      case rest =>
        obtain ⟨rfl, hI⟩ := hcut
        have HT := Lib.hid (show g.tab crew (k + 1) = g.tin crew k (updN (g.tab crew k) k (if k = 0 then 0 else 10000)) g.sn from rfl)
        have I3 := Lib.hid hI
        have T3 : ∀ i, updN (g.tab crew k) k (if k = 0 then 0 else 10000) i ≤ 10000 := updN_le T1.out (by split <;> omega)
        clear hI I2 T1
        generalize updN (g.tab crew k) k (if k = 0 then 0 else 10000) = T at *
        have T4 := Lib.hid T3
        clear T3 c0 f0
        obtain ⟨q0, q1, q7⟩ := I3.out.kw.gw.cells
        go_wp2_with fail
        clear q0 q1 q7
        trace_state
        go_loopw [37] (fun i W => ∃ n : Nat, n ≤ g.sn ∧ i = .int .i64 n ∧ TI g a b r rc crew c w (g.tin crew k T n) W) (fun i _ => g.sn - (intOf i).toNat)
        case atStart => exact ⟨0, Nat.zero_le _, rfl, I3.out⟩
        case round =>
          clear I3
          obtain ⟨n, hn, rfl, hI⟩ := hrel
          have I1 := Lib.hid hI
          have T1 := Lib.hid (tin_le g crew k T4.out n)
          clear hI
          by_cases hnl : n < g.sn
          · have hnl' : (n : Int) < g.sn := by omega
            have HS := Lib.hid (show g.tin crew k T (n + 1) = if k.testBit n && g.kn crew n then (if (decide (g.tin crew k T n (wo k n) < 10000) && decide ((g.nxt ⟨wo k n, g.tin crew k T n (wo k n)⟩ crew n).h ≤ g.fl n)) then updN (g.tin crew k T n) k (min (g.tin crew k T n k) (g.nxt ⟨wo k n, g.tin crew k T n (wo k n)⟩ crew n).h) else g.tin crew k T n) else g.tin crew k T n from rfl)
            have C1 := Lib.hid (fun W => has_any k n W (by omega) (by have := OK.out.hsn; omega))
            have C2 := Lib.hid (fun W (h : KW g a b r rc crew c W) => knows1_any g OK.out a b r rc crew c n hc hnl W h)
            have hw2 : wrap64 ((n : Int) + 1) = ((n + 1 : Nat) : Int) := w64 (by have := OK.out.hsn; omega)
            have m0 : ∀ W, (callFunc 87 #[.int .i64 n, bp (c + 1), bp c]).run Tryz.prog W = .ok (.enter 87 #[.int .i64 n, bp (c + 1), bp c]) W := fun _ => by kernel_rfl
            have hmeas : g.sn - (n + 1) < g.sn - n := by omega
            have hwo : wo k n < 32 := Nat.lt_of_le_of_lt (wo_le _ _) hk32
            unfold knV
            generalize g.tin crew k T n = T' at *
            generalize k.testBit n = t at *
            generalize g.kn crew n = u at *
            cases t with
            | false =>
              go_wp2_with (go_at_call 57; refine (C1.out _).mono ?_; rintro e w' ⟨rfl, rfl⟩)
              rw [hw2]
              exact ⟨⟨n + 1, hnl, rfl, by rw [HS.out]; exact I1.out⟩, hmeas⟩
            | true =>
              cases u with
              | false =>
                go_wp2_with (first | (go_at_call 57; refine (C1.out _).mono ?_; rintro e w' ⟨rfl, rfl⟩) | (go_at_call 87; refine (C2.out _ I1.out.kw).mono ?_; rintro e w' ⟨rfl, rfl⟩))
                rw [hw2]
                exact ⟨⟨n + 1, hnl, rfl, by rw [HS.out]; exact I1.out⟩, hmeas⟩
              | true =>
                go_upto_region 13 with (first | (go_at_call 57; refine (C1.out _).mono ?_; rintro e w' ⟨rfl, rfl⟩) | (go_at_call 87; refine (C2.out _ I1.out.kw).mono ?_; rintro e w' ⟨rfl, rfl⟩))
                have hp1 : IntKind.u64.wrap ((2 : Int) ^ (min n 64)) = ((2 ^ n : Nat) : Int) := by
                  rw [Nat.min_eq_left (by have := OK.out.hsn; clear hw2; omega)]
                  exact wrap_pow (by have := OK.out.hsn; clear hw2; omega)
                have C3 := Lib.hid (fun W => without_any k (2 ^ n) W (by clear hw2; omega) (pow2_lt64 (by have := OK.out.hsn; clear hw2; omega)))
                have ID := Lib.hid (I1.out.grow (Below.drew (Below.refl wr.heap.size wr)))
                have k0 := (cellAt ID.out.tb (wo k n)).trans (tabC_at _ hwo)
                have k1 := fun o => (cellAt (I1.out.grow (((Below.refl wr.heap.size wr).alloc (Nat.le_refl _) o).drew)).tb (wo k n)).trans (tabC_at _ hwo)
                have hwI : ((wo k n : Nat) : Int) < 32 := by clear hw2; omega
                have HW2 := Lib.hid hw2
                clear hw2 C1 C2
                rw [show k &&& (18446744073709551615 - 2 ^ n) = wo k n from rfl] at C3
                generalize 2 ^ n = pn at *
                generalize wo k n = m at *
                go_region_held3 (fun w' => w'.cell? ⟨w.heap.size, m, none⟩ = some (.int .i64 (T' m)))
                  (first | exact k0 | exact k1 _)
                  (first | (go_at_call 63; refine (C3.out _).mono ?_; rintro e w' ⟨rfl, rfl⟩))
                all_goals
                  have al := ((Below.refl wr.heap.size wr).alloc (Nat.le_refl _) (.cells #[.int .u64 m, .int .i64 (T' m)] 94)).drew
                  have I3 := Lib.hid (I1.out.grow al)
                  have X3 := Lib.hid (show BoxAt ((wr.alloc (.cells #[.int .u64 m, .int .i64 (T' m)] 94)).drew) wr.heap.size #[.int .u64 m, .int .i64 (T' m)] 94 from heap_alloc_new wr _)
                  have HX := Lib.hid (show w.heap.size < wr.heap.size from lt_of_heap I1.out.tb)
                  have C5 := Lib.hid (fun W (h : GW g a b r rc W) => next_any g OK.out a b r rc ⟨m, T' m⟩ crew n hc hnl (Nat.lt_trans hwo (by decide)) (Nat.le_trans (T1.out m) (by decide)) W h)
                  clear al I1 ID k0 k1 C3 hp1 hwI
                  unfold St.v St.cs slowV at C5
                  generalize World.drew (World.alloc wr _) = w3 at *
                  generalize wr.heap.size = x9 at *
                  have x0 := cellAt X3.out 0
                  have x1 := cellAt X3.out 1
                  simp only [List.getElem?_toArray, List.getElem?_cons_zero, List.getElem?_cons_succ] at x0 x1
                  go_upto_region 15 with (go_at_call 64; refine (C5.out _ I3.out.kw.gw).mono ?_; rintro e w4 ⟨rfl, hb4⟩)
                  have al4 := (Below.refl w4.heap.size w4).alloc (Nat.le_refl _) (.cells #[.int .u64 (g.nxt ⟨m, T' m⟩ crew n).s, .int .i64 (g.nxt ⟨m, T' m⟩ crew n).h] 94)
                  have I5 := Lib.hid ((I3.out.grow hb4).grow al4)
                  have X5 := Lib.hid ((X3.out.grow hb4).grow al4)
                  have Y5 := Lib.hid (show BoxAt (w4.alloc (.cells #[.int .u64 (g.nxt ⟨m, T' m⟩ crew n).s, .int .i64 (g.nxt ⟨m, T' m⟩ crew n).h] 94)) w4.heap.size _ 94 from heap_alloc_new w4 _)
                  have HY := Lib.hid (show x9 < w4.heap.size from lt_of_heap (X3.out.grow hb4))
                  clear hb4 al4 C5 I3 X3 x0 x1
                  generalize g.nxt ⟨m, T' m⟩ crew n = z at *
                  generalize World.alloc w4 _ = w5 at *
                  generalize w4.heap.size = x10 at *
                  have x0 := cellAt X5.out 1
                  have y0 := cellAt Y5.out 1
                  obtain ⟨q0, q1, q7⟩ := I5.out.kw.gw.cells
                  have hi := fun W => run_indexAt_row (w := W) (cap := a.sc) Tryz.underlying22 size_seam (I5.out.kw.gw.at'.s.plain (by omega)) hnl
                  have s0 := (I5.out.kw.gw.at'.seams hnl).2.2.1
                  simp only [List.getElem?_toArray, List.getElem?_cons_zero, List.getElem?_cons_succ] at x0 y0
                  by_cases d1 : T' m < 10000
                  · have d1' : (T' m : Int) < 10000 := by omega
                    by_cases d2 : z.h ≤ g.fl n
                    · have d2' : (z.h : Int) ≤ (g.fl n : Int) := by omega
                      have HS2 := Lib.hid (show g.tin crew k T (n + 1) = updN T' k (min (T' k) z.h) from by rw [HS.out, decide_eq_true d1, decide_eq_true d2]; rfl)
                      clear d1 d2 HS
                      go_quiet (fail)
                      have I6 := Lib.hid (I5.out.grow (below_drewN (Below.refl w5.heap.size w5) nq))
                      have Y6 := Lib.hid (Y5.out.grow (below_drewN (Below.refl w5.heap.size w5) nq))
                      clear x0 y0 q0 q1 q7 s0 d1' d2' hi I5 X5 Y5
                      generalize World.drewN w5 nq = w6 at *
                      have c0 := (cellAt I6.out.tb k).trans (tabC_at _ hk32)
                      have f0 := freeAt I6.out.tb k
                      have y0 := cellAt Y6.out 1
                      simp only [List.getElem?_toArray, List.getElem?_cons_zero, List.getElem?_cons_succ] at y0
                      go_upto_region 16 with (fail)
                      refine region_tail_lit 8 (by kernel_rfl) (by decide) (by kernel_rfl) (by kernel_rfl) ?_
                      simp only [List.take_succ_cons, List.take_zero]
                      repeat (quiet_step (fail))
                      refine wpQuiet_nil ?_
                      intro nq
                      have I7 := Lib.hid (I6.out.grow (below_drewN (Below.refl w6.heap.size w6) nq))
                      clear y0 c0 f0 I6 Y6
                      generalize World.drewN w6 nq = w7 at *
                      have c0 := (cellAt I7.out.tb k).trans (tabC_at _ hk32)
                      have f0 := freeAt I7.out.tb k
                      have HM := Lib.hid (min_nat (T' k) z.h)
                      refine (show wpOps Tryz.prog _ _ [8] _ _ from ?_)
                      simp [wpOps, go_sem, Oper.upon, c0, f0]
                      refine .inl ?_
                      rw [HM.out]
                      have I8 := Lib.hid (I7.out.put H0.out HC.out k (min (T' k) z.h))
                      clear c0 f0 I7
                      generalize World.setCell w7 _ _ = w8 at *
                      go_wp2_with fail
                      rw [HW2.out]
                      exact ⟨⟨n + 1, hnl, rfl, by rw [HS2.out]; exact I8.out⟩, hmeas⟩
                    · have d2' : ¬ (z.h : Int) ≤ (g.fl n : Int) := by omega
                      have HS2 := Lib.hid (show g.tin crew k T (n + 1) = T' from by rw [HS.out, decide_eq_true d1, decide_eq_false d2]; rfl)
                      clear d1 d2 HS
                      go_quiet (fail)
                      have I6 := Lib.hid (I5.out.grow (below_drewN (Below.refl w5.heap.size w5) nq))
                      clear x0 y0 q0 q1 q7 s0 d1' d2' hi I5 X5 Y5
                      generalize World.drewN w5 nq = w6 at *
                      go_wp2_with fail
                      rw [HW2.out]
                      exact ⟨⟨n + 1, hnl, rfl, by rw [HS2.out]; exact I6.out⟩, hmeas⟩
                  · have d1' : ¬ (T' m : Int) < 10000 := by omega
                    have HS2 := Lib.hid (show g.tin crew k T (n + 1) = T' from by rw [HS.out, decide_eq_false d1]; rfl)
                    clear d1 HS
                    go_quiet (fail)
                    have I6 := Lib.hid (I5.out.grow (below_drewN (Below.refl w5.heap.size w5) nq))
                    clear x0 y0 q0 q1 q7 s0 d1' hi I5 X5 Y5
                    generalize World.drewN w5 nq = w6 at *
                    go_wp2_with fail
                    rw [HW2.out]
                    exact ⟨⟨n + 1, hnl, rfl, by rw [HS2.out]; exact I6.out⟩, hmeas⟩
          · have hnl' : ¬ (n : Int) < g.sn := by omega
            obtain rfl : n = g.sn := by omega
            have hlast : P - (k + 1) < P - k := by omega
            go_wp2_with fail
            exact ⟨⟨k + 1, hlt, by rw [Int.natCast_add]; rfl, by rw [HT.out]; exact I1.out⟩, by simpa [intOf] using hlast⟩
    · have hlt' : ¬ (k : Int) < (P : Int) := by omega
      obtain rfl : k = P := by omega
      go_upto_region 19 with (fail)
      refine wp_region_lit (wpList_load_row rfl 125 (.tmp 4) rfl w.heap.size rfl 125 (tabC (g.tab crew k)) (0, 0) _ I1.out.tb Tryz.underlying125 rfl (tabC_size _) ?_)
      refine wpList_store_row rfl 125 (.tmp 4) (.tmp 96) rfl w.heap.size (tabC (g.tab crew k)) rfl rfl 125 (tabC (g.tab crew k)) I1.out.tb (tabC_size _) rfl (tabC_one _) ?_
      rw [setRow_self _ _ _ _ _ I1.out.tb]
      show Exit.then _ _ .normal _ _
      go_wp2_with fail
      exact bodyPost_ret (v := .agg (tabC (g.tab crew k))) (results_cell_row (by rfl) _ _ w.heap.size 125 _ (0, 0) _ (by rfl) I1.out.tb Tryz.underlying125 rfl (tabC_size _)) rfl ⟨rfl, I1.out.bel⟩
end
end Go.Proofs.YtikeihnhkiipgaaGreat
