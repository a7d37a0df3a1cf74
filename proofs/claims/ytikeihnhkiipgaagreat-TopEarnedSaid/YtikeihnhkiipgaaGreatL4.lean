/-
  The law: the walk.
-/
import Derived.Test.YtikeihnhkiipgaaGreatQLR
import Derived.Test.YtikeihnhkiipgaaGreatQG6
namespace Go.Proofs.YtikeihnhkiipgaaGreat
open Go.RowKit

section
variable (g : GN) (ok : g.Ok) (a : GA)
include ok
set_option maxRecDepth 100000 in
set_option maxHeartbeats 200000000 in
theorem earned_good (ra : Option Addr) (rn rc : Nat) (rf : Nat → Nat) (sa : Option Addr) (sn sc : Nat) (sf : Nat → Nat) (ot : Nat) (w : World) (h : g.At a w) (hra : Row w ra rn 1 (fun i _ => .int .u8 (rf i : Nat))) (hrf : ∀ i, rf i < 256) (hsa : Row w sa sn 1 (fun i _ => .int .u8 (sf i : Nat))) (hsf : ∀ i, sf i < 256) (hot : ot < 256) (hl : max (max (max g.sn g.cn) g.p.fn) g.p.qn ≤ 40)
    (CG : ∀ W, Below w.heap.size w W → Calls Tryz.prog 4 #[.agg (g.cs a)] W fun e w' => e = .returned (.bool true) ∧ Below W.heap.size W w')
    (h3 : ¬ 3 < g.sn) (h0 : ¬ g.cn = 0) (hdv : g.dv g.sn Mk.start < 10000) :
    Calls Tryz.prog 3 #[.agg (g.cs a), .slice ra rn rc, .slice sa sn sc, .int .u8 ot] w (LawPost w) := by
  have I0 := Lib.hid (oi_start h)
  have al := (Below.refl w.heap.size w).alloc (Nat.le_refl _) (.cells (g.cs a) 29)
  have R0 := Lib.hid (Row.grow hra al)
  have S0 := Lib.hid (Row.grow hsa al)
  have OK := Lib.hid ok
  obtain ⟨z, hz, hz1⟩ : ∃ z : Nat, (∀ (W : World) (ts : Array TypeId) (t : TypeId), (Builtin.max_ ts t #[.int .i64 (g.sn : Nat), .int .i64 (g.cn : Nat), .int .i64 (g.p.fn : Nat), .int .i64 (g.p.qn : Nat)]).run Tryz.prog W = .ok (.int .i64 z) W) ∧ z ≤ 40 :=
    ⟨_, fun W ts t => (run_max4 W ts t _ _ _ _).trans (by congr 3; omega), hl⟩
  have hl' : ¬ (40 : Int) < z := by omega
  have C1 := Lib.hid (CG _ I0.out.bel)
  have C2 := Lib.hid (fun W (h : g.At a W) => deal_any g ok a W h)
  have HDV := Lib.hid hdv
  have HRF := Lib.hid hrf
  have HSF := Lib.hid hsf
  have HOT := Lib.hid hot
  have H3 := Lib.hid (show g.sn ≤ 3 by omega)
  have H1 := Lib.hid (show 1 ≤ g.cn ∧ g.cn ≤ 3 from ⟨by omega, ok.hcn⟩)
  have h3' : ¬ (3 : Int) < g.sn := by omega
  have h0' : ((g.cn : Int) == 0) = false := by
    have : ¬ (g.cn : Int) = 0 := by omega
    simpa using this
  clear h hl CG hz1 ok hdv hrf hsf hra hsa hot al h3 h0
  unfold GN.cs at *
  go_enter Tryz.func3, Tryz.ntmps3
  go_upto_region 1 with (fail)
  generalize World.alloc w _ = w0 at *
  obtain ⟨q0, q1, q2, q3, q4, q5, q6⟩ := I0.out.cells
  go_upto_region 3 with (go_at_call 4; refine C1.out.mono ?_; rintro e w1 ⟨rfl, hb1⟩; have I1 := Lib.hid (I0.out.grow hb1); clear q0 q1 q2 q3 q4 q5 q6; obtain ⟨q0, q1, q2, q3, q4, q5, q6⟩ := I1.out.cells)
  have R1 := Lib.hid (Row.grow R0.out hb1)
  have S1 := Lib.hid (Row.grow S0.out hb1)
  clear C1 hz hl' I0 R0 S0 hb1 h3' h0'
  go_upto_region 4 with (go_at_call 6; (with_reducible refine (C2.out _ I1.out.at').mono ?_); rintro e w2 hd; obtain ⟨dn, oa, dm, dc, ee, rfl, hb2, -, -, hdl⟩ := deal_out hd)
  obtain ⟨rfl, rfl, rfl, hto⟩ := hdl HDV.out
  have Z3 := Lib.hid (show EZ g a w oa ra rn rf sa sn sf w2 from ⟨I1.out.grow hb2, hto, Row.grow R1.out hb2, Row.grow S1.out hb2⟩)
  clear C2 I1 R1 S1 hd hb2 q0 q1 q2 q3 q4 q5 q6 hto hdl
  obtain ⟨q0, q1, q2, q3, q4, q5, q6⟩ := Z3.out.oi.cells
  have NZ := Lib.hid (show Below w2.heap.size w2 (w2.alloc (.cells #[.int .i64 g.cn, .slice none 0 0, .slice none 0 0] 39)) from (Below.refl _ _).alloc (Nat.le_refl _) _)
  have X0 := Lib.hid (show BoxAt (w2.alloc (.cells #[.int .i64 g.cn, .slice none 0 0, .slice none 0 0] 39)) w2.heap.size #[.int .i64 g.cn, .slice none 0 0, .slice none 0 0] 39 from heap_alloc_new _ _)
  have HZ := Lib.hid (show (w2.alloc (.cells #[.int .i64 g.cn, .slice none 0 0, .slice none 0 0] 39)).heap.size = w2.heap.size + 1 from sizeAlloc _ _)
  go_upto_region 9 with (fail)
  generalize World.alloc w2 _ = w4 at *
  obtain ⟨B, hB⟩ : ∃ B, w2.heap.size = B := ⟨_, rfl⟩
  have HB := Lib.hid hB
  rw [hB] at NZ X0 HZ ⊢
  have hmk := make_hot w4 g.cn (by have := H1.out; omega)
  rw [HZ.out] at hmk
  clear q0 q1 q2 q3 q4 q5 q6
  have Z4 := Lib.hid (Z3.out.grow (by rw [hB]; exact NZ.out))
  clear hB
  obtain ⟨q0, q1, q2, q3, q4, q5, q6⟩ := Z4.out.oi.cells
  go_upto_region 10 with (fail)
  clear q0 q1 q2 q3 q4 q5 q6 hmk
  have al := (Below.refl w4.heap.size w4).alloc (Nat.le_refl _) (.cells (hotC g.cn fun _ => 0) 3)
  have E0 := Lib.hid (show E1 g rn rf w2 B 0 0 (g.dueN rn rf 0) (.slice none 0 0) (.slice none 0 0) (w4.alloc (.cells (hotC g.cn fun _ => 0) 3)) from
    ⟨NZ.out.trans (al.mono (by rw [HZ.out]; omega)), X0.out.grow al, by rw [← HZ.out]; exact heap_alloc_new _ _, ⟨rfl, .inl ⟨rfl, rfl⟩⟩, ⟨rfl, .inl ⟨rfl, rfl⟩⟩, by rw [sizeAlloc, HZ.out]; omega⟩)
  have Z5 := Lib.hid (Z4.out.grow al)
  clear al Z4 NZ X0 HZ
  generalize World.alloc w4 _ = w5 at *
  obtain ⟨q0, q1, q2, q3, q4, q5, q6⟩ := Z5.out.oi.cells
  go_wp2_with fail
  clear q0 q1 q2 q3 q4 q5 q6 Z5
  go_loopw [116] (fun i W => ∃ (k : Nat) (so : Option Addr) (sc' : Nat) (ta : Option Addr) (tc' : Nat), k ≤ g.sn ∧ i = .int .i64 k ∧ (∀ n, n < k → g.fm n ≤ 20) ∧ E1 g rn rf w2 B k k (g.dueN rn rf k) (.slice so k sc') (.slice ta k tc') W) (fun i _ => g.sn - (intOf i).toNat)
  case atStart => exact ⟨0, none, 0, none, 0, Nat.zero_le _, rfl, fun n hn => by omega, E0.out⟩
  case round =>
    clear E0
    obtain ⟨k, so, so2, ta, ta2, hk, rfl, hf, hE⟩ := hrel
    have E1 := Lib.hid hE
    have HF := Lib.hid hf
    clear hE hf
    have Z1 := Lib.hid (Z3.out.grow (by rw [HB.out]; exact E1.out.bel))
    by_cases hlt : k < g.sn
    ·   skip --@
        have hlt' : (k : Int) < g.sn := by omega
        have hmeas : g.sn - (k + 1) < g.sn - k := by omega
        have HW := Lib.hid (succ64 (show k < 100 by have := H3.out; omega))
        have hi := fun W => run_indexAt_row (w := W) (cap := a.sc) Tryz.underlying22 size_seam (Z1.out.oi.at'.s.plain (by omega)) hlt
        obtain ⟨g0, g1, g2, g3⟩ := Z1.out.oi.at'.seams hlt
        have al := (Below.refl wr.heap.size wr).alloc (Nat.le_refl _) (.cells #[.int .i64 (g.fm k), .int .i64 (g.dr k), .int .i64 (g.fl k), .int .i64 (g.po k)] 41)
        have E2 := Lib.hid (E1.out.grow al)
        have Z2 := Lib.hid (Z1.out.grow al)
        have X2 := Lib.hid (show BoxAt (wr.alloc (.cells #[.int .i64 (g.fm k), .int .i64 (g.dr k), .int .i64 (g.fl k), .int .i64 (g.po k)] 41)) wr.heap.size #[.int .i64 (g.fm k), .int .i64 (g.dr k), .int .i64 (g.fl k), .int .i64 (g.po k)] 41 from heap_alloc_new _ _)
        go_upto_region 13 with (fail)
        clear al g0 g1 g2 g3 hi E1 Z1
        generalize World.alloc wr _ = w6 at *
        generalize wr.heap.size = x15 at *
        have x0 := cellAt X2.out 0
        simp only [List.getElem?_toArray, List.getElem?_cons_zero] at x0
        by_cases hfm : g.fm k ≤ 20
        · have hfm' : ¬ (20 : Int) < g.fm k := by omega
          have HF2 := Lib.hid (show ∀ n, n < k + 1 → g.fm n ≤ 20 from fun n hn => by
            by_cases e : n = k
            · rw [e]; exact hfm
            · exact HF.out n (by omega))
          have HM := Lib.hid hfm
          clear hfm
          go_upto_if 127 with (fail)
          go_cut [16] from 118 to 272 (fun v W => v = .int .i64 (rateF rn rf k : Nat) ∧ W = w6)
          case first =>
            as_aux_lemma => --@
              clear x0
              by_cases hn : 0 < rn
              · have hn' : (0 : Int) < rn := by omega
                have hl := Nat.mod_lt k hn
                have hiR := fun W => run_indexAt_row (w := W) (cap := rc) Tryz.underlying30 size_u8 (Z2.out.ra.plain hn) hl
                have cR := Z2.out.ra.cells (k % rn) hl 0 (by omega)
                simp only [Nat.mul_one, Nat.add_zero] at hiR cR
                have hy := HRF.out (k % rn)
                have e0 : (k : Int).tmod (rn : Int) = ((k % rn : Nat) : Int) := by rw [Int.tmod_eq_emod_of_nonneg (by omega)]; rfl
                have n0 : ¬ (rn : Int) = 0 := by omega
                have HV := Lib.hid (show rateF rn rf k = rf (k % rn) % 51 from if_pos hn)
                generalize k % rn = ci at *
                generalize rf ci = y at *
                have e5 : IntKind.i64.wrap ((y : Nat) : Int) = y := by rw [IntKind.wrap_i64]; omega
                have e3 : ((y : Nat) : Int).tmod 51 = ((y % 51 : Nat) : Int) := by rw [Int.tmod_eq_emod_of_nonneg (by omega)]; rfl
                clear hl hy
                go_wp2_with fail
                go_meet
                exact ⟨by rw [HV.out]; rfl, rfl⟩
              · have hn' : ¬ (0 : Int) < rn := by omega
                have HV := Lib.hid (show rateF rn rf k = 1 from if_neg hn)
                go_wp2_with fail
                go_meet
                exact ⟨by rw [HV.out]; rfl, rfl⟩
          case rest =>
            obtain ⟨rfl, rfl⟩ := hcut
            clear x0
            have al := (Below.refl wc.heap.size wc).alloc (Nat.le_refl _) (.cells #[.int .i64 (g.fm k), .int .i64 (rateF rn rf k : Nat)] 43)
            have E3 := Lib.hid (E2.out.grow al)
            have X3 := Lib.hid (X2.out.grow al)
            have N3 := Lib.hid (show BoxAt (wc.alloc (.cells #[.int .i64 (g.fm k), .int .i64 (rateF rn rf k : Nat)] 43)) wc.heap.size #[.int .i64 (g.fm k), .int .i64 (rateF rn rf k : Nat)] 43 from heap_alloc_new _ _)
            have HL := Lib.hid (show flL (smC (g.wS rn rf)) k ++ [.int .i64 (g.fm k), .int .i64 (rateF rn rf k : Nat)] = flL (smC (g.wS rn rf)) (k + 1) from rfl)
            have HK := Lib.hid (show k ≤ 3 by have := H3.out; omega)
            obtain ⟨i0, hi0, hz0, hz1, hz2⟩ := info_parts info_ws
            have y1 := cellAt E2.out.wb 1
            have x0 := cellAt X2.out 0
            simp only [List.getElem?_toArray, List.getElem?_cons_zero, List.getElem?_cons_succ] at y1 x0
            clear al E2 Z2 X2
            go_upto_region 19 with (at_builtin; refine wpList_append_own _ rfl _ _ 36 rfl (B + 2) 43 i0 _ 2 16 Tryz.underlying36 hi0 hz0 hz1 hz2 rfl (by decide) _ k _ rfl E3.out.os ⟨wc.heap.size, 0, none⟩ 1 1 [.int .i64 (g.fm k), .int .i64 (rateF rn rf k : Nat)] rfl rfl ?c1 ?c2 ?c3 ?c4 ?c5 ?_)
            case c2 => exact ⟨rfl, rfl⟩
            case c3 => have := HK.out; unfold maxLen; omega
            case c4 => have := HK.out; omega
            case c5 => first | exact E3.out.sz | (have := E3.out.sz; rw [sizeAlloc] at this; omega)
            intro v' w5 hown' hgrow _
            rw [HL.out] at hown'
            obtain ⟨oa5, cap5, rfl⟩ := own_slice hown'
            have W5 := Lib.hid (E3.out.wseam hgrow)
            have E4 := Lib.hid (E3.out.seam hgrow hown')
            have X4 := Lib.hid (X3.out.beside E3.out.os hgrow (by decide))
            have X5 := Lib.hid (show BoxAt (w5.setCell ⟨B, 1, none⟩ (.slice oa5 (k + 1) cap5)) x15 #[.int .i64 (g.fm k), .int .i64 (g.dr k), .int .i64 (g.fl k), .int .i64 (g.po k)] 41 from X4.out.set _ _ (boxes_ne X4.out W5.out (by decide)))
            have y1 := cellAt W5.out 1
            have f1 := freeAt W5.out 1
            simp only [List.getElem?_toArray, List.getElem?_cons_zero, List.getElem?_cons_succ] at y1
            clear hown' hgrow E3 X3 N3 HL hi0 hz0 hz1 hz2 W5 X4
            go_upto_region 19 with (fail)
            clear y1 f1
            generalize World.setCell w5 _ _ = w7 at *
            have Z7 := Lib.hid (Z3.out.grow (by rw [HB.out]; exact E4.out.bel))
            go_wp2_with fail
            go_loopw [148, 17] (fun i v W => ∃ j : Nat, j ≤ g.sn ∧ i = .int .i64 j ∧ v = .int .i64 ((setOf g.to (g.to k) j : Nat) : Int) ∧ W = w7) (fun i _ _ => g.sn - (intOf i).toNat)
            case atStart => exact ⟨0, Nat.zero_le _, rfl, rfl, rfl⟩
            case round =>
              obtain ⟨j, hj, rfl, rfl, rfl⟩ := hrel
              have dk := Z7.out.dl.at hlt
              have hik := fun W => run_indexAt_row (w := W) (cap := dc) Tryz.underlying24 size_int (Z7.out.dl.plain (by omega)) hlt
              simp only [Nat.mul_one] at hik
              by_cases hjt : j < g.sn
              · as_aux_lemma => --@
                  have hjt' : (j : Int) < g.sn := by omega
                  have hmeas2 : g.sn - (j + 1) < g.sn - j := by omega
                  have hi := fun W => run_indexAt_row (w := W) (cap := dc) Tryz.underlying24 size_int (Z7.out.dl.plain (by omega)) hjt
                  simp only [Nat.mul_one] at hi
                  have d0 := Z7.out.dl.at hjt
                  have HS := Lib.hid (show setOf g.to (g.to k) (j + 1) = if g.to j = g.to k then setOf g.to (g.to k) j ||| 2 ^ j else setOf g.to (g.to k) j from rfl)
                  have hs1 : setOf g.to (g.to k) j < 32 := Nat.lt_of_lt_of_le (setOf_lt _ _ _) (by have : 2 ^ j ≤ 2 ^ 5 := Nat.pow_le_pow_right (by omega) (by have := H3.out; omega); omega)
                  have hs2 : 2 ^ j < 32 := by have : 2 ^ j ≤ 2 ^ 4 := Nat.pow_le_pow_right (by omega) (by have := H3.out; omega); omega
                  have HOR := Lib.hid (show bits .or .i64 ((setOf g.to (g.to k) j : Nat) : Int) (wrap64 ((2 : Int) ^ j)) = ((setOf g.to (g.to k) j ||| 2 ^ j : Nat) : Int) from by rw [show wrap64 ((2 : Int) ^ j) = ((2 ^ j : Nat) : Int) from shl_one (by have := H3.out; omega)]; exact i64_or _ _ (by omega) (by omega))
                  have hsh : wrap64 ((2 : Int) ^ (min j 64)) = ((2 ^ j : Nat) : Int) := by
                    rw [Nat.min_eq_left (by have := H3.out; omega)]
                    exact shl_one (by have := H3.out; omega)
                  have hj0 : (0 : Int) ≤ j := by omega
                  generalize setOf g.to (g.to k) j = sj at *
                  generalize hck : g.to k = ck at *
                  clear hs1 hs2
                  by_cases e : g.to j = ck
                  · rw [if_pos e] at HS
                    have e' : ((g.to j : Nat) : Int) = (ck : Int) := by rw [e]
                    rw [e'] at d0
                    go_wp2_with fail
                    rw [show ((j : Int) + 1) = ((j + 1 : Nat) : Int) from rfl, HOR.out]
                    exact ⟨⟨j + 1, hjt, rfl, by rw [HS.out], trivial⟩, hmeas2⟩
                  · rw [if_neg e] at HS
                    have e' : ((g.to j : Nat) : Int) ≠ (ck : Int) := by omega
                    have e'' : (((g.to j : Nat) : Int) == (ck : Int)) = false := beq_false_of_ne e'
                    generalize g.to j = tj at *
                    go_wp2_with fail
                    rw [show ((j : Int) + 1) = ((j + 1 : Nat) : Int) from rfl]
                    exact ⟨⟨j + 1, hjt, rfl, by rw [HS.out], trivial⟩, hmeas2⟩
              · as_aux_lemma => --@
                  have hjt' : ¬ (j : Int) < g.sn := by omega
                  obtain rfl : j = g.sn := by omega
                  have hck := to_lt OK.out HDV.out hlt
                  have hc0 : ¬ ((g.to k : Nat) : Int) < 0 := by omega
                  have hc1 : ¬ ((g.cn : Nat) : Int) ≤ ((g.to k : Nat) : Int) := by omega
                  obtain ⟨q0, q1, q2, q3, q4, q5, q6⟩ := Z7.out.oi.cells
                  go_upto_region 26 with (fail)
                  refine wp_region_quiet_lit (by kernel_rfl) ?_ ?_
                  · exact lex26
                  repeat (quiet_step (fail))
                  refine wpQuiet_nil ?_
                  intro _ hw'
                  obtain ⟨nq, hw''⟩ := hw'
                  subst hw''
                  have hdr := below_drewN (Below.refl wr.heap.size wr) nq
                  have E5 := Lib.hid (E4.out.grow hdr)
                  have Z8 := Lib.hid (Z7.out.grow hdr)
                  have X6 := Lib.hid (X5.out.grow hdr)
                  have RI := Lib.hid (row_is OK.out HDV.out hck)
                  have CC := Lib.hid hck
                  clear hdr E4 Z7 X5 q0 q1 q2 q3 q4 q5 q6 dk hjt hjt' hc0 hc1 hj hck
                  generalize World.drewN wr nq = w8 at *
                  have C7 := Lib.hid (fun W (h : g.At a W) => can_new g OK.out a (g.to k) (setOf g.to (g.to k) g.sn) CC.out (setOf_lt _ _ _) (g.rowOf (g.to k)) RI.out.first W h)
                  have C8 := Lib.hid (fun (oa : Option Addr) (cap : Nat) W (h : g.At a W) (hR : IntsAt W oa (g.rowOf (g.to k)).length (natsF (g.rowOf (g.to k)))) => row_any g OK.out a (g.to k) CC.out oa cap (g.rowOf (g.to k)) RI.out.all RI.out.nodup (Nat.le_trans RI.out.len (by have := H3.out; omega)) W h hR)
                  unfold GN.cs at C7 C8
                  go_upto_region 28 with (fail)
                  have DD := (Below.refl w8.heap.size w8).drew
                  have Z9 := Lib.hid (Z8.out.grow DD)
                  have E6 := Lib.hid (E5.out.grow DD)
                  have X7 := Lib.hid (X6.out.grow DD)
                  clear DD Z8 E5 X6
                  refine wp_region_stg (S := (fun w' : World => (w'.cell? ⟨w.heap.size, 0, none⟩ = some (.slice a.sa g.sn a.sc) ∧ w'.cell? ⟨w.heap.size, 1, none⟩ = some (.slice a.ca g.cn a.cc) ∧ w'.cell? ⟨w.heap.size, 2, none⟩ = some (.int .i64 g.p.H) ∧ w'.cell? ⟨w.heap.size, 3, none⟩ = some (.int .i64 g.p.fr) ∧ w'.cell? ⟨w.heap.size, 4, none⟩ = some (.int .i64 g.p.pe) ∧ w'.cell? ⟨w.heap.size, 5, none⟩ = some (.slice a.fa g.p.fn a.fc) ∧ w'.cell? ⟨w.heap.size, 6, none⟩ = some (.slice a.qa g.p.qn a.qc)) ∧ w'.cell? ⟨blk oa, ofs oa + k, none⟩ = some (.int .i64 (g.to k : Nat)))) (L := []) (D := []) (by kernel_rfl) (by kernel_rfl) ⟨Z9.out.oi.cells, Z9.out.dl.at hlt⟩ (by intro e he; cases he) (fun hC0 hH0 => ?_)
                  generalize World.drew w8 = w9 at *
                  refine wpAnyT_take (i := 0) (oi := { dst := some 180, op := Op.load 29 (Operand.tmp 4), type := 29, pos := "top12.go:50", after := #[], guard := none }) (v := ?_) rfl (by kernel_rfl) (by kernel_rfl) (by kernel_rfl) (fun _ _ _ h => h) (by kernel_rfl) (by rfl) hC0 (Or.inl ⟨by rfl, ?_⟩) hH0 (fun hC1 hH1 => ?_)
                  rotate_left
                  · (intro w9 hSw; obtain ⟨hSw, hLw⟩ := hSw; clear hLw; (try dsimp only at hSw); (go_split_ands; go_simp); (try with_reducible rfl))
                  clear hC0 hH0
                  try simp only [Act.put, List.setIfInBounds_toArray, List.set_cons_zero, List.set_cons_succ]
                  refine wpAnyT_take (i := 1) (oi := { dst := some 181, op := Op.move (Operand.tmp 10), type := 24, pos := "top12.go:50", after := #[], guard := none }) (v := ?_) rfl (by kernel_rfl) (by kernel_rfl) (by kernel_rfl) (fun _ _ _ h => h) (by kernel_rfl) (by rfl) hC1 (Or.inl ⟨by rfl, ?_⟩) hH1 (fun hC2 hH2 => ?_)
                  rotate_left
                  · (intro w9 hSw; obtain ⟨hSw, hLw⟩ := hSw; clear hLw; (try dsimp only at hSw); (go_split_ands; go_simp); (try with_reducible rfl))
                  clear hC1 hH1
                  try simp only [Act.put, List.setIfInBounds_toArray, List.set_cons_zero, List.set_cons_succ]
                  refine wpAnyT_take (i := 2) (oi := { dst := some 182, op := Op.move (Operand.tmp 14), type := 3, pos := "top12.go:50", after := #[], guard := none }) (v := ?_) rfl (by kernel_rfl) (by kernel_rfl) (by kernel_rfl) (fun _ _ _ h => h) (by kernel_rfl) (by rfl) hC2 (Or.inl ⟨by rfl, ?_⟩) hH2 (fun hC3 hH3 => ?_)
                  rotate_left
                  · (intro w9 hSw; obtain ⟨hSw, hLw⟩ := hSw; clear hLw; (try dsimp only at hSw); (go_split_ands; go_simp); (try with_reducible rfl))
                  clear hC2 hH2
                  try simp only [Act.put, List.setIfInBounds_toArray, List.set_cons_zero, List.set_cons_succ]
                  refine wpAnyT_take (i := 3) (oi := { dst := some 183, op := Op.indexAddr 24 (Operand.tmp 181) (Operand.tmp 182), type := 0, pos := "top12.go:50", after := #[{ on := 1, ground := Ground.data }, { on := 2, ground := Ground.data }], guard := none }) (v := ?_) rfl (by kernel_rfl) (by kernel_rfl) (by kernel_rfl) (fun _ _ _ h => h) (by kernel_rfl) (by rfl) hC3 (Or.inl ⟨by rfl, ?_⟩) hH3 (fun hC4 hH4 => ?_)
                  rotate_left
                  · (intro w9 hSw; obtain ⟨hSw, hLw⟩ := hSw; clear hLw; (try dsimp only at hSw); (go_split_ands; go_simp); (try with_reducible rfl))
                  clear hC3 hH3
                  try simp only [Act.put, List.setIfInBounds_toArray, List.set_cons_zero, List.set_cons_succ]
                  refine wpAnyT_take (i := 4) (oi := { dst := some 184, op := Op.load 3 (Operand.tmp 183), type := 3, pos := "top12.go:50", after := #[{ on := 3, ground := Ground.data }], guard := none }) (v := ?_) rfl (by kernel_rfl) (by kernel_rfl) (by kernel_rfl) (fun _ _ _ h => h) (by kernel_rfl) (by rfl) hC4 (Or.inl ⟨by rfl, ?_⟩) hH4 (fun hC5 hH5 => ?_)
                  rotate_left
                  · (intro w9 hSw; obtain ⟨hSw, hLw⟩ := hSw; clear hLw; (try dsimp only at hSw); (go_split_ands; go_simp); (try with_reducible rfl))
                  clear hC4 hH4
                  try simp only [Act.put, List.setIfInBounds_toArray, List.set_cons_zero, List.set_cons_succ]
                  refine wpAnyT_take (i := 5) (oi := { dst := some 185, op := Op.move (Operand.tmp 17), type := 3, pos := "top12.go:50", after := #[], guard := none }) (v := ?_) rfl (by kernel_rfl) (by kernel_rfl) (by kernel_rfl) (fun _ _ _ h => h) (by kernel_rfl) (by rfl) hC5 (Or.inl ⟨by rfl, ?_⟩) hH5 (fun hC6 hH6 => ?_)
                  rotate_left
                  · (intro w9 hSw; obtain ⟨hSw, hLw⟩ := hSw; clear hLw; (try dsimp only at hSw); (go_split_ands; go_simp); (try with_reducible rfl))
                  clear hC5 hH5
                  try simp only [Act.put, List.setIfInBounds_toArray, List.set_cons_zero, List.set_cons_succ]
                  refine wpAnyT_one (i := 6) (o := { dst := some 186, op := Op.call { callee := Callee.value (Operand.func 7), args := #[Operand.tmp 180, Operand.tmp 184, Operand.tmp 185], argTypes := #[29, 3, 3] }, type := 44, pos := "top12.go:50", after := #[{ on := 0, ground := Ground.data }, { on := 4, ground := Ground.data }, { on := 5, ground := Ground.data }], guard := none }) (by kernel_rfl) rfl (by kernel_rfl) hC6 (fun K hK => ?_)
                  clear hC6 hH6
                  go_simp
                  (with_reducible refine (C7.out _ Z9.out.oi.at').mono ?_)
                  rintro e wA ⟨hbA, ro, rcap, rfl, hrow, hro⟩
                  have ZA := Lib.hid (Z9.out.grow hbA)
                  have EA := Lib.hid (E6.out.grow hbA)
                  have XA := Lib.hid (X7.out.grow hbA)
                  have RA := Lib.hid hrow
                  have HO9 := Lib.hid (show ∀ j, (Value.slice ta k ta2).ownBlock = some j → j < w9.heap.size from fun j hj => (own_lt E6.out.ot j hj).2)
                  have HB9 := Lib.hid E6.out.sz
                  have HR9 := Lib.hid hro
                  have HS9 := Lib.hid hbA.size
                  clear Z9 E6 X7 hbA hrow C7 hro
                  generalize w9.heap.size = n9 at *
                  go_wp2_with fail
                  refine hK.out _ _ ?_ (fun hC7 hH7 => ?_)
                  · exact ⟨⟨ZA.out.oi.cells, ZA.out.dl.at hlt⟩, fun e he => by cases he⟩
                  clear hK K
                  try simp only [Act.put, List.setIfInBounds_toArray, List.set_cons_zero, List.set_cons_succ]
                  refine wpAnyT_take (i := 7) (oi := { dst := some 179, op := Op.move (Operand.tmp 186), type := 44, pos := "top12.go:50", after := #[{ on := 6, ground := Ground.data }], guard := none }) (v := ?_) rfl (by kernel_rfl) (by kernel_rfl) (by kernel_rfl) (fun _ _ _ h => h) (by kernel_rfl) (by rfl) hC7 (Or.inl ⟨by rfl, ?_⟩) hH7 (fun hC8 hH8 => ?_)
                  rotate_left
                  · (intro w9 hSw; obtain ⟨hSw, hLw⟩ := hSw; clear hLw; (try dsimp only at hSw); (go_split_ands; go_simp); (try with_reducible rfl))
                  clear hC7 hH7
                  try simp only [Act.put, List.setIfInBounds_toArray, List.set_cons_zero, List.set_cons_succ]
                  refine wpAnyT_take (i := 8) (oi := { dst := some 187, op := Op.extract (Operand.tmp 179) 0, type := 24, pos := "top12.go:50", after := #[{ on := 7, ground := Ground.data }], guard := none }) (v := ?_) rfl (by kernel_rfl) (by kernel_rfl) (by kernel_rfl) (fun _ _ _ h => h) (by kernel_rfl) (by rfl) hC8 (Or.inl ⟨by rfl, ?_⟩) hH8 (fun hC9 hH9 => ?_)
                  rotate_left
                  · (intro w9 hSw; obtain ⟨hSw, hLw⟩ := hSw; clear hLw; (try dsimp only at hSw); (go_split_ands; go_simp); (try with_reducible rfl))
                  clear hC8 hH8
                  try simp only [Act.put, List.setIfInBounds_toArray, List.set_cons_zero, List.set_cons_succ]
                  refine wpAnyT_take (i := 9) (oi := { dst := some 188, op := Op.extract (Operand.tmp 179) 1, type := 33, pos := "top12.go:50", after := #[{ on := 7, ground := Ground.data }, { on := 10, ground := Ground.gcOnly Departure.lateStores }], guard := none }) (v := ?_) rfl (by kernel_rfl) (by kernel_rfl) (by kernel_rfl) (fun _ _ _ h => h) (by kernel_rfl) (by rfl) hC9 (Or.inl ⟨by rfl, ?_⟩) hH9 (fun hC10 hH10 => ?_)
                  rotate_left
                  · (intro w9 hSw; obtain ⟨hSw, hLw⟩ := hSw; clear hLw; (try dsimp only at hSw); (go_split_ands; go_simp); (try with_reducible rfl))
                  clear hC9 hH9
                  try simp only [Act.put, List.setIfInBounds_toArray, List.set_cons_zero, List.set_cons_succ]
                  refine wpAnyT_take (i := 10) (oi := { dst := some 20, op := Op.assign (Operand.tmp 187), type := 24, pos := "top12.go:50", after := #[{ on := 8, ground := Ground.data }, { on := 6, ground := Ground.chain }, { on := 0, ground := Ground.phase }, { on := 1, ground := Ground.phase }, { on := 2, ground := Ground.phase }, { on := 3, ground := Ground.phase }, { on := 4, ground := Ground.phase }, { on := 5, ground := Ground.phase }, { on := 6, ground := Ground.phase }, { on := 7, ground := Ground.phase }, { on := 8, ground := Ground.phase }, { on := 9, ground := Ground.textOnly Departure.lateStores }], guard := none }) (v := ?_) rfl (by kernel_rfl) (by kernel_rfl) (by kernel_rfl) (fun _ _ _ h => h) (by kernel_rfl) (by rfl) hC10 (Or.inl ⟨by rfl, ?_⟩) hH10 (fun hC11 hH11 => ?_)
                  rotate_left
                  · (intro w9 hSw; obtain ⟨hSw, hLw⟩ := hSw; clear hLw; (try dsimp only at hSw); (go_split_ands; go_simp); (try with_reducible rfl))
                  clear hC10 hH10
                  try simp only [Act.put, List.setIfInBounds_toArray, List.set_cons_zero, List.set_cons_succ]
                  refine wpAnyT_take (i := 11) (oi := { dst := some 21, op := Op.assign (Operand.tmp 188), type := 33, pos := "top12.go:50", after := #[{ on := 9, ground := Ground.data }, { on := 10, ground := Ground.chain }, { on := 0, ground := Ground.phase }, { on := 1, ground := Ground.phase }, { on := 2, ground := Ground.phase }, { on := 3, ground := Ground.phase }, { on := 4, ground := Ground.phase }, { on := 5, ground := Ground.phase }, { on := 6, ground := Ground.phase }, { on := 7, ground := Ground.phase }, { on := 8, ground := Ground.phase }, { on := 9, ground := Ground.phase }, { on := 10, ground := Ground.phase }], guard := none }) (v := ?_) rfl (by kernel_rfl) (by kernel_rfl) (by kernel_rfl) (fun _ _ _ h => h) (by kernel_rfl) (by rfl) hC11 (Or.inl ⟨by rfl, ?_⟩) hH11 (fun hC12 hH12 => ?_)
                  rotate_left
                  · (intro w9 hSw; obtain ⟨hSw, hLw⟩ := hSw; clear hLw; (try dsimp only at hSw); (go_split_ands; go_simp); (try with_reducible rfl))
                  clear hC11 hH11
                  try simp only [Act.put, List.setIfInBounds_toArray, List.set_cons_zero, List.set_cons_succ]
                  refine wpAnyT_done (by kernel_rfl) ?_ _
                  clear hC12 hH12
                  go_upto_region 29 with (fail)
                  have DD := (Below.refl wA.heap.size wA).drew
                  have ZB := Lib.hid (ZA.out.grow DD)
                  have EB := Lib.hid (EA.out.grow DD)
                  have XB := Lib.hid (XA.out.grow DD)
                  have RB := Lib.hid (RA.out.grow DD)
                  have HSB := Lib.hid (Nat.le_trans HS9.out DD.size)
                  clear ZA EA XA RA DD HS9
                  refine wp_region_stg (S := (fun w' : World => (w'.cell? ⟨w.heap.size, 0, none⟩ = some (.slice a.sa g.sn a.sc) ∧ w'.cell? ⟨w.heap.size, 1, none⟩ = some (.slice a.ca g.cn a.cc) ∧ w'.cell? ⟨w.heap.size, 2, none⟩ = some (.int .i64 g.p.H) ∧ w'.cell? ⟨w.heap.size, 3, none⟩ = some (.int .i64 g.p.fr) ∧ w'.cell? ⟨w.heap.size, 4, none⟩ = some (.int .i64 g.p.pe) ∧ w'.cell? ⟨w.heap.size, 5, none⟩ = some (.slice a.fa g.p.fn a.fc) ∧ w'.cell? ⟨w.heap.size, 6, none⟩ = some (.slice a.qa g.p.qn a.qc)) ∧ w'.cell? ⟨blk oa, ofs oa + k, none⟩ = some (.int .i64 (g.to k : Nat)))) (L := []) (D := []) (by kernel_rfl) (by kernel_rfl) ⟨ZB.out.oi.cells, ZB.out.dl.at hlt⟩ (by intro e he; cases he) (fun hC0 hH0 => ?_)
                  generalize World.drew wA = wB at *
                  refine wpAnyT_take (i := 0) (oi := { dst := some 190, op := Op.load 29 (Operand.tmp 4), type := 29, pos := "top12.go:51", after := #[], guard := none }) (v := ?_) rfl (by kernel_rfl) (by kernel_rfl) (by kernel_rfl) (fun _ _ _ h => h) (by kernel_rfl) (by rfl) hC0 (Or.inl ⟨by rfl, ?_⟩) hH0 (fun hC1 hH1 => ?_)
                  rotate_left
                  · (intro w9 hSw; obtain ⟨hSw, hLw⟩ := hSw; clear hLw; (try dsimp only at hSw); (go_split_ands; go_simp); (try with_reducible rfl))
                  clear hC0 hH0
                  try simp only [Act.put, List.setIfInBounds_toArray, List.set_cons_zero, List.set_cons_succ]
                  refine wpAnyT_take (i := 1) (oi := { dst := some 191, op := Op.move (Operand.tmp 10), type := 24, pos := "top12.go:51", after := #[], guard := none }) (v := ?_) rfl (by kernel_rfl) (by kernel_rfl) (by kernel_rfl) (fun _ _ _ h => h) (by kernel_rfl) (by rfl) hC1 (Or.inl ⟨by rfl, ?_⟩) hH1 (fun hC2 hH2 => ?_)
                  rotate_left
                  · (intro w9 hSw; obtain ⟨hSw, hLw⟩ := hSw; clear hLw; (try dsimp only at hSw); (go_split_ands; go_simp); (try with_reducible rfl))
                  clear hC1 hH1
                  try simp only [Act.put, List.setIfInBounds_toArray, List.set_cons_zero, List.set_cons_succ]
                  refine wpAnyT_take (i := 2) (oi := { dst := some 192, op := Op.move (Operand.tmp 14), type := 3, pos := "top12.go:51", after := #[], guard := none }) (v := ?_) rfl (by kernel_rfl) (by kernel_rfl) (by kernel_rfl) (fun _ _ _ h => h) (by kernel_rfl) (by rfl) hC2 (Or.inl ⟨by rfl, ?_⟩) hH2 (fun hC3 hH3 => ?_)
                  rotate_left
                  · (intro w9 hSw; obtain ⟨hSw, hLw⟩ := hSw; clear hLw; (try dsimp only at hSw); (go_split_ands; go_simp); (try with_reducible rfl))
                  clear hC2 hH2
                  try simp only [Act.put, List.setIfInBounds_toArray, List.set_cons_zero, List.set_cons_succ]
                  refine wpAnyT_take (i := 3) (oi := { dst := some 193, op := Op.indexAddr 24 (Operand.tmp 191) (Operand.tmp 192), type := 0, pos := "top12.go:51", after := #[{ on := 1, ground := Ground.data }, { on := 2, ground := Ground.data }], guard := none }) (v := ?_) rfl (by kernel_rfl) (by kernel_rfl) (by kernel_rfl) (fun _ _ _ h => h) (by kernel_rfl) (by rfl) hC3 (Or.inl ⟨by rfl, ?_⟩) hH3 (fun hC4 hH4 => ?_)
                  rotate_left
                  · (intro w9 hSw; obtain ⟨hSw, hLw⟩ := hSw; clear hLw; (try dsimp only at hSw); (go_split_ands; go_simp); (try with_reducible rfl))
                  clear hC3 hH3
                  try simp only [Act.put, List.setIfInBounds_toArray, List.set_cons_zero, List.set_cons_succ]
                  refine wpAnyT_take (i := 4) (oi := { dst := some 194, op := Op.load 3 (Operand.tmp 193), type := 3, pos := "top12.go:51", after := #[{ on := 3, ground := Ground.data }], guard := none }) (v := ?_) rfl (by kernel_rfl) (by kernel_rfl) (by kernel_rfl) (fun _ _ _ h => h) (by kernel_rfl) (by rfl) hC4 (Or.inl ⟨by rfl, ?_⟩) hH4 (fun hC5 hH5 => ?_)
                  rotate_left
                  · (intro w9 hSw; obtain ⟨hSw, hLw⟩ := hSw; clear hLw; (try dsimp only at hSw); (go_split_ands; go_simp); (try with_reducible rfl))
                  clear hC4 hH4
                  try simp only [Act.put, List.setIfInBounds_toArray, List.set_cons_zero, List.set_cons_succ]
                  refine wpAnyT_take (i := 5) (oi := { dst := some 195, op := Op.move (Operand.tmp 20), type := 24, pos := "top12.go:51", after := #[], guard := none }) (v := ?_) rfl (by kernel_rfl) (by kernel_rfl) (by kernel_rfl) (fun _ _ _ h => h) (by kernel_rfl) (by rfl) hC5 (Or.inl ⟨by rfl, ?_⟩) hH5 (fun hC6 hH6 => ?_)
                  rotate_left
                  · (intro w9 hSw; obtain ⟨hSw, hLw⟩ := hSw; clear hLw; (try dsimp only at hSw); (go_split_ands; go_simp); (try with_reducible rfl))
                  clear hC5 hH5
                  try simp only [Act.put, List.setIfInBounds_toArray, List.set_cons_zero, List.set_cons_succ]
                  refine wpAnyT_one (i := 6) (o := { dst := some 196, op := Op.call { callee := Callee.value (Operand.func 8), args := #[Operand.tmp 190, Operand.tmp 194, Operand.tmp 195], argTypes := #[29, 3, 24] }, type := 47, pos := "top12.go:51", after := #[{ on := 0, ground := Ground.data }, { on := 4, ground := Ground.data }, { on := 5, ground := Ground.data }], guard := none }) (by kernel_rfl) rfl (by kernel_rfl) hC6 (fun K hK => ?_)
                  clear hC6 hH6
                  go_simp
                  (with_reducible refine (C8.out ro rcap _ ZB.out.oi.at' RB.out).mono ?_)
                  rintro e wC ⟨hbC, da, dcap, rfl, hdone, hda⟩
                  have ZC := Lib.hid (ZB.out.grow hbC)
                  have EC := Lib.hid (EB.out.grow hbC)
                  have XC := Lib.hid (XB.out.grow hbC)
                  have RC := Lib.hid (RB.out.grow hbC)
                  have DC := Lib.hid hdone
                  have HD9 := Lib.hid (fun h => Nat.le_trans HSB.out (hda h))
                  clear ZB EB XB RB hbC hdone C8 hda HSB
                  go_wp2_with fail
                  refine hK.out _ _ ?_ (fun hC7 hH7 => ?_)
                  · exact ⟨⟨ZC.out.oi.cells, ZC.out.dl.at hlt⟩, fun e he => by cases he⟩
                  clear hK K
                  try simp only [Act.put, List.setIfInBounds_toArray, List.set_cons_zero, List.set_cons_succ]
                  refine wpAnyT_take (i := 7) (oi := { dst := some 189, op := Op.move (Operand.tmp 196), type := 47, pos := "top12.go:51", after := #[{ on := 6, ground := Ground.data }], guard := none }) (v := ?_) rfl (by kernel_rfl) (by kernel_rfl) (by kernel_rfl) (fun _ _ _ h => h) (by kernel_rfl) (by rfl) hC7 (Or.inl ⟨by rfl, ?_⟩) hH7 (fun hC8 hH8 => ?_)
                  rotate_left
                  · (intro w9 hSw; obtain ⟨hSw, hLw⟩ := hSw; clear hLw; (try dsimp only at hSw); (go_split_ands; go_simp); (try with_reducible rfl))
                  clear hC7 hH7
                  try simp only [Act.put, List.setIfInBounds_toArray, List.set_cons_zero, List.set_cons_succ]
                  refine wpAnyT_take (i := 8) (oi := { dst := some 197, op := Op.extract (Operand.tmp 189) 0, type := 46, pos := "top12.go:51", after := #[{ on := 7, ground := Ground.data }], guard := none }) (v := ?_) rfl (by kernel_rfl) (by kernel_rfl) (by kernel_rfl) (fun _ _ _ h => h) (by kernel_rfl) (by rfl) hC8 (Or.inl ⟨by rfl, ?_⟩) hH8 (fun hC9 hH9 => ?_)
                  rotate_left
                  · (intro w9 hSw; obtain ⟨hSw, hLw⟩ := hSw; clear hLw; (try dsimp only at hSw); (go_split_ands; go_simp); (try with_reducible rfl))
                  clear hC8 hH8
                  try simp only [Act.put, List.setIfInBounds_toArray, List.set_cons_zero, List.set_cons_succ]
                  refine wpAnyT_take (i := 9) (oi := { dst := some 198, op := Op.extract (Operand.tmp 189) 1, type := 33, pos := "top12.go:51", after := #[{ on := 7, ground := Ground.data }, { on := 10, ground := Ground.gcOnly Departure.lateStores }], guard := none }) (v := ?_) rfl (by kernel_rfl) (by kernel_rfl) (by kernel_rfl) (fun _ _ _ h => h) (by kernel_rfl) (by rfl) hC9 (Or.inl ⟨by rfl, ?_⟩) hH9 (fun hC10 hH10 => ?_)
                  rotate_left
                  · (intro w9 hSw; obtain ⟨hSw, hLw⟩ := hSw; clear hLw; (try dsimp only at hSw); (go_split_ands; go_simp); (try with_reducible rfl))
                  clear hC9 hH9
                  try simp only [Act.put, List.setIfInBounds_toArray, List.set_cons_zero, List.set_cons_succ]
                  refine wpAnyT_take (i := 10) (oi := { dst := some 22, op := Op.assign (Operand.tmp 197), type := 46, pos := "top12.go:51", after := #[{ on := 8, ground := Ground.data }, { on := 6, ground := Ground.chain }, { on := 0, ground := Ground.phase }, { on := 1, ground := Ground.phase }, { on := 2, ground := Ground.phase }, { on := 3, ground := Ground.phase }, { on := 4, ground := Ground.phase }, { on := 5, ground := Ground.phase }, { on := 6, ground := Ground.phase }, { on := 7, ground := Ground.phase }, { on := 8, ground := Ground.phase }, { on := 9, ground := Ground.textOnly Departure.lateStores }], guard := none }) (v := ?_) rfl (by kernel_rfl) (by kernel_rfl) (by kernel_rfl) (fun _ _ _ h => h) (by kernel_rfl) (by rfl) hC10 (Or.inl ⟨by rfl, ?_⟩) hH10 (fun hC11 hH11 => ?_)
                  rotate_left
                  · (intro w9 hSw; obtain ⟨hSw, hLw⟩ := hSw; clear hLw; (try dsimp only at hSw); (go_split_ands; go_simp); (try with_reducible rfl))
                  clear hC10 hH10
                  try simp only [Act.put, List.setIfInBounds_toArray, List.set_cons_zero, List.set_cons_succ]
                  refine wpAnyT_take (i := 11) (oi := { dst := some 23, op := Op.assign (Operand.tmp 198), type := 33, pos := "top12.go:51", after := #[{ on := 9, ground := Ground.data }, { on := 10, ground := Ground.chain }, { on := 0, ground := Ground.phase }, { on := 1, ground := Ground.phase }, { on := 2, ground := Ground.phase }, { on := 3, ground := Ground.phase }, { on := 4, ground := Ground.phase }, { on := 5, ground := Ground.phase }, { on := 6, ground := Ground.phase }, { on := 7, ground := Ground.phase }, { on := 8, ground := Ground.phase }, { on := 9, ground := Ground.phase }, { on := 10, ground := Ground.phase }], guard := none }) (v := ?_) rfl (by kernel_rfl) (by kernel_rfl) (by kernel_rfl) (fun _ _ _ h => h) (by kernel_rfl) (by rfl) hC11 (Or.inl ⟨by rfl, ?_⟩) hH11 (fun hC12 hH12 => ?_)
                  rotate_left
                  · (intro w9 hSw; obtain ⟨hSw, hLw⟩ := hSw; clear hLw; (try dsimp only at hSw); (go_split_ands; go_simp); (try with_reducible rfl))
                  clear hC11 hH11
                  try simp only [Act.put, List.setIfInBounds_toArray, List.set_cons_zero, List.set_cons_succ]
                  refine wpAnyT_done (by kernel_rfl) ?_ _
                  clear hC12 hH12 hik
                  go_wp2_with fail
                  have PL := Lib.hid (pl_lt OK.out HDV.out hlt)
                  have PA := Lib.hid (fun (j : Nat) (hj : j < (g.rowOf (g.to k)).length) => pl_at OK.out HDV.out hlt hj)
                  have RL := Lib.hid RI.out.len
                  have DLO := Lib.hid (done_le OK.out HDV.out hlt)
                  have HLO := Lib.hid (show g.dLo k = (g.stP (g.hi (g.to k)) (g.rowOf (g.to k)) (g.pl k + 1)).h ∧ g.dHi k = (g.stP (g.lo (g.to k)) (g.rowOf (g.to k)) (g.pl k + 1)).h from ⟨rfl, rfl⟩)
                  clear RI
                  generalize hr : g.rowOf (g.to k) = r at *
                  go_loopw [214] (fun i W => ∃ j : Nat, j ≤ r.length ∧ i = .int .i64 j ∧ ((j ≤ g.pl k ∧ W = wC) ∨ (g.pl k < j ∧ IntsAt W ro r.length (natsF r) ∧ ∃ (ta : Option Addr) (tc' : Nat), E1 g rn rf w2 B (k + 1) (k + 1) (g.dueN rn rf (k + 1)) (.slice oa5 (k + 1) cap5) (.slice ta (k + 1) tc') W))) (fun i _ => r.length - (intOf i).toNat)
                  case atStart => exact ⟨0, Nat.zero_le _, rfl, .inl ⟨Nat.zero_le _, rfl⟩⟩
                  case round =>
                    obtain ⟨j, hj, rfl, hJ⟩ := hrel
                    have RW := Lib.hid (show IntsAt wr ro r.length (natsF r) from by
                      obtain ⟨-, h⟩ | ⟨-, h, -⟩ := hJ
                      · rw [h]; exact RC.out
                      · exact h)
                    by_cases hjt : j < r.length
                    · have hjt' : (j : Int) < r.length := by omega
                      have hmeas2 : r.length - (j + 1) < r.length - j := by omega
                      have HW2 := Lib.hid (show wrap64 ((j : Int) + 1) = ((j + 1 : Nat) : Int) from w64 (by have := RL.out; have := H3.out; omega))
                      have hi := fun W => run_indexAt_row (w := W) (cap := rcap) Tryz.underlying24 size_int (RW.out.plain (by omega)) hjt
                      simp only [Nat.mul_one] at hi
                      have c0 := RW.out.at hjt
                      rw [show natsF r j = ((r[j] : Nat) : Int) from by simp [natsF, List.getElem?_eq_getElem hjt]] at c0
                      have hpa := PA.out j hjt
                      generalize r[j] = m at *
                      by_cases e : m = k
                      · as_aux_lemma => --@
                          have ej := hpa.1 e
                          have hw : wr = wC := by
                            obtain ⟨-, h⟩ | ⟨h, -⟩ := hJ
                            · exact h
                            · omega
                          rw [e] at c0
                          rw [hw] at c0 ⊢
                          clear hJ hpa e
                          have hiD := fun W => run_indexAt_row (w := W) (cap := dcap) Tryz.underlying46 size_sp (DC.out.plain (by omega)) hjt
                          have d0 := DC.out.cells j hjt 0 (by omega)
                          have d1 := DC.out.cells j hjt 1 (by omega)
                          rw [show spanC (fun i => (g.stP (g.hi (g.to k)) r (i + 1)).h) (fun i => (g.stP (g.lo (g.to k)) r (i + 1)).h) j 0 = .int .i64 (g.dLo k : Nat) from by rw [HLO.out.1, ← ej]; rfl] at d0
                          rw [show spanC (fun i => (g.stP (g.hi (g.to k)) r (i + 1)).h) (fun i => (g.stP (g.lo (g.to k)) r (i + 1)).h) j 1 = .int .i64 (g.dHi k : Nat) from by rw [HLO.out.2, ← ej]; rfl] at d1
                          simp only [Nat.add_zero] at d0
                          have EJ := Lib.hid ej
                          clear ej
                          have hlo := DLO.out
                          go_upto_region 36 with (fail)
                          refine wp_region_quiet_lit (by kernel_rfl) ?_ ?_
                          · exact lex36
                          repeat (quiet_step (fail))
                          refine wpQuiet_nil ?_
                          intro _ hw'
                          obtain ⟨nq, hw''⟩ := hw'
                          subst hw''
                          go_upto_region 37 with (fail)
                          try rw [show IntKind.i64.wrap (((g.dLo k : Nat) : Int) + 3) = ((g.dLo k : Nat) : Int) + 3 from by rw [IntKind.wrap_i64]; omega]
                          rw [show min ((g.dHi k : Nat) : Int) (((g.dLo k : Nat) : Int) + 3) = ((g.tide k : Nat) : Int) from by unfold GN.tide; omega]
                          have hik := fun W => run_indexAt_row (w := W) (cap := dc) Tryz.underlying24 size_int (ZC.out.dl.plain (by omega)) hlt
                          simp only [Nat.mul_one] at hik
                          have GD := fun (W : World) (h : Row W da r.length 2 (spanC (fun i => (g.stP (g.hi (g.to k)) r (i + 1)).h) (fun i => (g.stP (g.lo (g.to k)) r (i + 1)).h))) => (show W.cell? ⟨blk da, ofs da + j * 2, none⟩ = some (.int .i64 (g.dLo k : Nat)) from by
                            have h2 := h.cells j hjt 0 (by omega)
                            rw [Nat.add_zero] at h2
                            rw [h2, HLO.out.1, ← EJ.out]
                            rfl)
                          have hdr := (below_drewN (Below.refl wC.heap.size wC) nq).drew
                          have ZD := Lib.hid (ZC.out.grow hdr)
                          have ED := Lib.hid (EC.out.grow hdr)
                          have XD := Lib.hid (XC.out.grow hdr)
                          have RD := Lib.hid (IntsAt.grow RC.out hdr)
                          have DD := Lib.hid (Row.grow DC.out hdr)
                          clear hdr ZC EC XC RC DC d0 d1 c0 hi hlo RW
                          refine wp_region_stg (S := (fun w' : World => w'.cell? ⟨x15, 0, none⟩ = some (.int .i64 (g.fm k : Nat)) ∧ w'.cell? ⟨blk oa, ofs oa + k, none⟩ = some (.int .i64 (g.to k : Nat)) ∧ w'.cell? ⟨blk da, ofs da + j * 2, none⟩ = some (.int .i64 (g.dLo k : Nat)))) (L := [(24, (fun w' : World => w'.cell? ⟨B, 2, none⟩ = some (.slice ta k ta2)))]) (D := [(24, 1)]) (by kernel_rfl) (by kernel_rfl) ⟨cellAt XD.out 0, ZD.out.dl.at hlt, GD _ DD.out⟩ (by intro e he; simp only [List.mem_cons, List.mem_nil_iff, or_false] at he; subst he; exact cellAt ED.out.wb 2) (fun hC0 hH0 => ?_)
                          generalize World.drew (World.drewN wC nq) = wD at *
                          refine wpAnyT_take (i := 0) (oi := { dst := some 234, op := Op.fieldAddr 39 (Operand.tmp 12) 2, type := 0, pos := "top12.go:58", after := #[], guard := none }) (v := ?_) rfl (by kernel_rfl) (by kernel_rfl) (by kernel_rfl) (fun _ _ _ h => h) (by kernel_rfl) (by rfl) hC0 (Or.inl ⟨by rfl, ?_⟩) hH0 (fun hC1 hH1 => ?_)
                          rotate_left
                          · (intro w9 hSw; obtain ⟨hSw, hLw⟩ := hSw; clear hLw; (try dsimp only at hSw); (go_split_ands; go_simp); (try with_reducible rfl))
                          clear hC0 hH0
                          try simp only [Act.put, List.setIfInBounds_toArray, List.set_cons_zero, List.set_cons_succ]
                          refine wpAnyT_take (i := 1) (oi := { dst := some 235, op := Op.load 37 (Operand.tmp 234), type := 37, pos := "top12.go:58", after := #[{ on := 0, ground := Ground.data }], guard := none }) (v := ?_) rfl (by kernel_rfl) (by kernel_rfl) (by kernel_rfl) (fun _ _ _ h => h) (by kernel_rfl) (by rfl) hC1 (Or.inl ⟨by rfl, ?_⟩) hH1 (fun hC2 hH2 => ?_)
                          rotate_left
                          · (intro w9 hSw; obtain ⟨hSw, hLw⟩ := hSw; have hL := hLw _ (List.mem_singleton.2 rfl) (by kernel_rfl); dsimp only at hL; (try dsimp only at hSw); (go_split_ands; go_simp); (try with_reducible rfl))
                          clear hC1 hH1
                          try simp only [Act.put, List.setIfInBounds_toArray, List.set_cons_zero, List.set_cons_succ]
                          refine wpAnyT_take (i := 2) (oi := { dst := some 236, op := Op.move (Operand.tmp 10), type := 24, pos := "top12.go:58", after := #[], guard := none }) (v := ?_) rfl (by kernel_rfl) (by kernel_rfl) (by kernel_rfl) (fun _ _ _ h => h) (by kernel_rfl) (by rfl) hC2 (Or.inl ⟨by rfl, ?_⟩) hH2 (fun hC3 hH3 => ?_)
                          rotate_left
                          · (intro w9 hSw; obtain ⟨hSw, hLw⟩ := hSw; clear hLw; (try dsimp only at hSw); (go_split_ands; go_simp); (try with_reducible rfl))
                          clear hC2 hH2
                          try simp only [Act.put, List.setIfInBounds_toArray, List.set_cons_zero, List.set_cons_succ]
                          refine wpAnyT_take (i := 3) (oi := { dst := some 237, op := Op.move (Operand.tmp 14), type := 3, pos := "top12.go:58", after := #[], guard := none }) (v := ?_) rfl (by kernel_rfl) (by kernel_rfl) (by kernel_rfl) (fun _ _ _ h => h) (by kernel_rfl) (by rfl) hC3 (Or.inl ⟨by rfl, ?_⟩) hH3 (fun hC4 hH4 => ?_)
                          rotate_left
                          · (intro w9 hSw; obtain ⟨hSw, hLw⟩ := hSw; clear hLw; (try dsimp only at hSw); (go_split_ands; go_simp); (try with_reducible rfl))
                          clear hC3 hH3
                          try simp only [Act.put, List.setIfInBounds_toArray, List.set_cons_zero, List.set_cons_succ]
                          refine wpAnyT_take (i := 4) (oi := { dst := some 238, op := Op.indexAddr 24 (Operand.tmp 236) (Operand.tmp 237), type := 0, pos := "top12.go:58", after := #[{ on := 2, ground := Ground.data }, { on := 3, ground := Ground.data }], guard := none }) (v := ?_) rfl (by kernel_rfl) (by kernel_rfl) (by kernel_rfl) (fun _ _ _ h => h) (by kernel_rfl) (by rfl) hC4 (Or.inl ⟨by rfl, ?_⟩) hH4 (fun hC5 hH5 => ?_)
                          rotate_left
                          · (intro w9 hSw; obtain ⟨hSw, hLw⟩ := hSw; clear hLw; (try dsimp only at hSw); (go_split_ands; go_simp); (try with_reducible rfl))
                          clear hC4 hH4
                          try simp only [Act.put, List.setIfInBounds_toArray, List.set_cons_zero, List.set_cons_succ]
                          refine wpAnyT_take (i := 5) (oi := { dst := some 239, op := Op.load 3 (Operand.tmp 238), type := 3, pos := "top12.go:58", after := #[{ on := 4, ground := Ground.data }], guard := none }) (v := ?_) rfl (by kernel_rfl) (by kernel_rfl) (by kernel_rfl) (fun _ _ _ h => h) (by kernel_rfl) (by rfl) hC5 (Or.inl ⟨by rfl, ?_⟩) hH5 (fun hC6 hH6 => ?_)
                          rotate_left
                          · (intro w9 hSw; obtain ⟨hSw, hLw⟩ := hSw; clear hLw; (try dsimp only at hSw); (go_split_ands; go_simp); (try with_reducible rfl))
                          clear hC5 hH5
                          try simp only [Act.put, List.setIfInBounds_toArray, List.set_cons_zero, List.set_cons_succ]
                          refine wpAnyT_take (i := 6) (oi := { dst := some 240, op := Op.move (Operand.tmp 14), type := 3, pos := "top12.go:58", after := #[], guard := none }) (v := ?_) rfl (by kernel_rfl) (by kernel_rfl) (by kernel_rfl) (fun _ _ _ h => h) (by kernel_rfl) (by rfl) hC6 (Or.inl ⟨by rfl, ?_⟩) hH6 (fun hC7 hH7 => ?_)
                          rotate_left
                          · (intro w9 hSw; obtain ⟨hSw, hLw⟩ := hSw; clear hLw; (try dsimp only at hSw); (go_split_ands; go_simp); (try with_reducible rfl))
                          clear hC6 hH6
                          try simp only [Act.put, List.setIfInBounds_toArray, List.set_cons_zero, List.set_cons_succ]
                          refine wpAnyT_take (i := 8) (oi := { dst := some 242, op := Op.fieldAddr 41 (Operand.tmp 15) 0, type := 0, pos := "top12.go:58", after := #[], guard := none }) (v := ?_) rfl (by kernel_rfl) (by kernel_rfl) (by kernel_rfl) (fun _ _ _ h => h) (by kernel_rfl) (by rfl) hC7 (Or.inl ⟨by rfl, ?_⟩) hH7 (fun hC8 hH8 => ?_)
                          rotate_left
                          · (intro w9 hSw; obtain ⟨hSw, hLw⟩ := hSw; clear hLw; (try dsimp only at hSw); (go_split_ands; go_simp); (try with_reducible rfl))
                          clear hC7 hH7
                          try simp only [Act.put, List.setIfInBounds_toArray, List.set_cons_zero, List.set_cons_succ]
                          refine wpAnyT_take (i := 9) (oi := { dst := some 243, op := Op.load 3 (Operand.tmp 242), type := 3, pos := "top12.go:58", after := #[{ on := 8, ground := Ground.data }], guard := none }) (v := ?_) rfl (by kernel_rfl) (by kernel_rfl) (by kernel_rfl) (fun _ _ _ h => h) (by kernel_rfl) (by rfl) hC8 (Or.inl ⟨by rfl, ?_⟩) hH8 (fun hC9 hH9 => ?_)
                          rotate_left
                          · (intro w9 hSw; obtain ⟨hSw, hLw⟩ := hSw; clear hLw; (try dsimp only at hSw); (go_split_ands; go_simp); (try with_reducible rfl))
                          clear hC8 hH8
                          try simp only [Act.put, List.setIfInBounds_toArray, List.set_cons_zero, List.set_cons_succ]
                          refine wpAnyT_take (i := 10) (oi := { dst := some 244, op := Op.fieldAddr 41 (Operand.tmp 15) 0, type := 0, pos := "top12.go:58", after := #[], guard := none }) (v := ?_) rfl (by kernel_rfl) (by kernel_rfl) (by kernel_rfl) (fun _ _ _ h => h) (by kernel_rfl) (by rfl) hC9 (Or.inl ⟨by rfl, ?_⟩) hH9 (fun hC10 hH10 => ?_)
                          rotate_left
                          · (intro w9 hSw; obtain ⟨hSw, hLw⟩ := hSw; clear hLw; (try dsimp only at hSw); (go_split_ands; go_simp); (try with_reducible rfl))
                          clear hC9 hH9
                          try simp only [Act.put, List.setIfInBounds_toArray, List.set_cons_zero, List.set_cons_succ]
                          refine wpAnyT_take (i := 11) (oi := { dst := some 245, op := Op.load 3 (Operand.tmp 244), type := 3, pos := "top12.go:58", after := #[{ on := 10, ground := Ground.data }], guard := none }) (v := ?_) rfl (by kernel_rfl) (by kernel_rfl) (by kernel_rfl) (fun _ _ _ h => h) (by kernel_rfl) (by rfl) hC10 (Or.inl ⟨by rfl, ?_⟩) hH10 (fun hC11 hH11 => ?_)
                          rotate_left
                          · (intro w9 hSw; obtain ⟨hSw, hLw⟩ := hSw; clear hLw; (try dsimp only at hSw); (go_split_ands; go_simp); (try with_reducible rfl))
                          clear hC10 hH10
                          try simp only [Act.put, List.setIfInBounds_toArray, List.set_cons_zero, List.set_cons_succ]
                          refine wpAnyT_take (i := 13) (oi := { dst := some 247, op := Op.move (Operand.tmp 22), type := 46, pos := "top12.go:58", after := #[], guard := none }) (v := ?_) rfl (by kernel_rfl) (by kernel_rfl) (by kernel_rfl) (fun _ _ _ h => h) (by kernel_rfl) (by rfl) hC11 (Or.inl ⟨by rfl, ?_⟩) hH11 (fun hC12 hH12 => ?_)
                          rotate_left
                          · (intro w9 hSw; obtain ⟨hSw, hLw⟩ := hSw; clear hLw; (try dsimp only at hSw); (go_split_ands; go_simp); (try with_reducible rfl))
                          clear hC11 hH11
                          try simp only [Act.put, List.setIfInBounds_toArray, List.set_cons_zero, List.set_cons_succ]
                          refine wpAnyT_take (i := 14) (oi := { dst := some 248, op := Op.move (Operand.tmp 24), type := 3, pos := "top12.go:58", after := #[], guard := none }) (v := ?_) rfl (by kernel_rfl) (by kernel_rfl) (by kernel_rfl) (fun _ _ _ h => h) (by kernel_rfl) (by rfl) hC12 (Or.inl ⟨by rfl, ?_⟩) hH12 (fun hC13 hH13 => ?_)
                          rotate_left
                          · (intro w9 hSw; obtain ⟨hSw, hLw⟩ := hSw; clear hLw; (try dsimp only at hSw); (go_split_ands; go_simp); (try with_reducible rfl))
                          clear hC12 hH12
                          try simp only [Act.put, List.setIfInBounds_toArray, List.set_cons_zero, List.set_cons_succ]
                          refine wpAnyT_take (i := 15) (oi := { dst := some 249, op := Op.indexAddr 46 (Operand.tmp 247) (Operand.tmp 248), type := 0, pos := "top12.go:58", after := #[{ on := 13, ground := Ground.data }, { on := 14, ground := Ground.data }], guard := none }) (v := ?_) rfl (by kernel_rfl) (by kernel_rfl) (by kernel_rfl) (fun _ _ _ h => h) (by kernel_rfl) (by rfl) hC13 (Or.inl ⟨by rfl, ?_⟩) hH13 (fun hC14 hH14 => ?_)
                          rotate_left
                          · (intro w9 hSw; obtain ⟨hSw, hLw⟩ := hSw; clear hLw; (try dsimp only at hSw); (go_split_ands; go_simp); (try with_reducible rfl))
                          clear hC13 hH13
                          try simp only [Act.put, List.setIfInBounds_toArray, List.set_cons_zero, List.set_cons_succ]
                          refine wpAnyT_take (i := 16) (oi := { dst := some 250, op := Op.fieldAddr 50 (Operand.tmp 249) 0, type := 0, pos := "top12.go:58", after := #[{ on := 15, ground := Ground.data }], guard := none }) (v := ?_) rfl (by kernel_rfl) (by kernel_rfl) (by kernel_rfl) (fun _ _ _ h => h) (by kernel_rfl) (by rfl) hC14 (Or.inl ⟨by rfl, ?_⟩) hH14 (fun hC15 hH15 => ?_)
                          rotate_left
                          · (intro w9 hSw; obtain ⟨hSw, hLw⟩ := hSw; clear hLw; (try dsimp only at hSw); (go_split_ands; go_simp); (try with_reducible rfl))
                          clear hC14 hH14
                          try simp only [Act.put, List.setIfInBounds_toArray, List.set_cons_zero, List.set_cons_succ]
                          refine wpAnyT_take (i := 17) (oi := { dst := some 251, op := Op.load 3 (Operand.tmp 250), type := 3, pos := "top12.go:58", after := #[{ on := 16, ground := Ground.data }], guard := none }) (v := ?_) rfl (by kernel_rfl) (by kernel_rfl) (by kernel_rfl) (fun _ _ _ h => h) (by kernel_rfl) (by rfl) hC15 (Or.inl ⟨by rfl, ?_⟩) hH15 (fun hC16 hH16 => ?_)
                          rotate_left
                          · (intro w9 hSw; obtain ⟨hSw, hLw⟩ := hSw; clear hLw; (try dsimp only at hSw); (go_split_ands; go_simp); (try with_reducible rfl))
                          clear hC15 hH15
                          try simp only [Act.put, List.setIfInBounds_toArray, List.set_cons_zero, List.set_cons_succ]
                          refine wpAnyT_take (i := 18) (oi := { dst := some 252, op := Op.move (Operand.tmp 26), type := 3, pos := "top12.go:58", after := #[], guard := none }) (v := ?_) rfl (by kernel_rfl) (by kernel_rfl) (by kernel_rfl) (fun _ _ _ h => h) (by kernel_rfl) (by rfl) hC16 (Or.inl ⟨by rfl, ?_⟩) hH16 (fun hC17 hH17 => ?_)
                          rotate_left
                          · (intro w9 hSw; obtain ⟨hSw, hLw⟩ := hSw; clear hLw; (try dsimp only at hSw); (go_split_ands; go_simp); (try with_reducible rfl))
                          clear hC16 hH16
                          try simp only [Act.put, List.setIfInBounds_toArray, List.set_cons_zero, List.set_cons_succ]
                          refine wpAnyT_one (i := 7) (o := { dst := some 241, op := Op.call { callee := Callee.value (Operand.func 9), args := #[Operand.const (Value.int IntKind.i64 0), Operand.const (Value.int IntKind.i64 0)], argTypes := #[3, 3] }, type := 50, pos := "top12.go:58", after := #[], guard := none }) (by kernel_rfl) rfl (by kernel_rfl) hC17 (fun K hK => ?_)
                          clear hC17 hH17
                          go_simp
                          (with_reducible refine (span_any _ _ _).mono ?_)
                          rintro e wE ⟨rfl, hbq⟩
                          have ZE := Lib.hid (ZD.out.grow hbq)
                          have EE := Lib.hid (ED.out.grow hbq)
                          have XE := Lib.hid (XD.out.grow hbq)
                          have RE := Lib.hid (IntsAt.grow RD.out hbq)
                          have DE := Lib.hid (Row.grow DD.out hbq)
                          clear hbq ZD ED XD RD DD
                          go_wp2_with fail
                          refine hK.out _ _ ?_ (fun hC18 hH18 => ?_)
                          · exact ⟨⟨cellAt XE.out 0, ZE.out.dl.at hlt, GD _ DE.out⟩, fun e he _ => by simp only [List.mem_cons, List.mem_nil_iff, or_false] at he; subst he; exact cellAt EE.out.wb 2⟩
                          clear hK K
                          try simp only [Act.put, List.setIfInBounds_toArray, List.set_cons_zero, List.set_cons_succ]
                          refine wpAnyT_one (i := 12) (o := { dst := some 246, op := Op.call { callee := Callee.value (Operand.func 9), args := #[Operand.tmp 243, Operand.tmp 245], argTypes := #[3, 3] }, type := 50, pos := "top12.go:58", after := #[{ on := 9, ground := Ground.data }, { on := 11, ground := Ground.data }, { on := 7, ground := Ground.chain }], guard := none }) (by kernel_rfl) rfl (by kernel_rfl) hC18 (fun K hK => ?_)
                          clear hC18 hH18
                          go_simp
                          (with_reducible refine (span_any _ _ _).mono ?_)
                          rintro e wF ⟨rfl, hbq⟩
                          have ZF := Lib.hid (ZE.out.grow hbq)
                          have EF := Lib.hid (EE.out.grow hbq)
                          have XF := Lib.hid (XE.out.grow hbq)
                          have RF := Lib.hid (IntsAt.grow RE.out hbq)
                          have DF := Lib.hid (Row.grow DE.out hbq)
                          clear hbq ZE EE XE RE DE
                          go_wp2_with fail
                          refine hK.out _ _ ?_ (fun hC19 hH19 => ?_)
                          · exact ⟨⟨cellAt XF.out 0, ZF.out.dl.at hlt, GD _ DF.out⟩, fun e he _ => by simp only [List.mem_cons, List.mem_nil_iff, or_false] at he; subst he; exact cellAt EF.out.wb 2⟩
                          clear hK K
                          try simp only [Act.put, List.setIfInBounds_toArray, List.set_cons_zero, List.set_cons_succ]
                          refine wpAnyT_one (i := 19) (o := { dst := some 253, op := Op.call { callee := Callee.value (Operand.func 9), args := #[Operand.tmp 251, Operand.tmp 252], argTypes := #[3, 3] }, type := 50, pos := "top12.go:58", after := #[{ on := 17, ground := Ground.data }, { on := 18, ground := Ground.data }, { on := 12, ground := Ground.chain }], guard := none }) (by kernel_rfl) rfl (by kernel_rfl) hC19 (fun K hK => ?_)
                          clear hC19 hH19
                          go_simp
                          (with_reducible refine (span_any _ _ _).mono ?_)
                          rintro e wG ⟨rfl, hbq⟩
                          have ZG := Lib.hid (ZF.out.grow hbq)
                          have EG := Lib.hid (EF.out.grow hbq)
                          have XG := Lib.hid (XF.out.grow hbq)
                          have RG := Lib.hid (IntsAt.grow RF.out hbq)
                          have DG := Lib.hid (Row.grow DF.out hbq)
                          clear hbq ZF EF XF RF DF
                          go_wp2_with fail
                          refine hK.out _ _ ?_ (fun hC20 hH20 => ?_)
                          · exact ⟨⟨cellAt XG.out 0, ZG.out.dl.at hlt, GD _ DG.out⟩, fun e he _ => by simp only [List.mem_cons, List.mem_nil_iff, or_false] at he; subst he; exact cellAt EG.out.wb 2⟩
                          clear hK K
                          try simp only [Act.put, List.setIfInBounds_toArray, List.set_cons_zero, List.set_cons_succ]
                          refine wpAnyT_take (i := 20) (oi := { dst := some 254, op := Op.build 53 #[(0, Operand.tmp 239), (1, Operand.tmp 240), (2, Operand.tmp 241), (3, Operand.tmp 246), (4, Operand.tmp 253)], type := 53, pos := "top12.go:58", after := #[{ on := 5, ground := Ground.data }, { on := 6, ground := Ground.data }, { on := 7, ground := Ground.data }, { on := 12, ground := Ground.data }, { on := 19, ground := Ground.data }], guard := none }) (v := ?_) rfl (by kernel_rfl) (by kernel_rfl) (by kernel_rfl) (fun _ _ _ h => h) (by kernel_rfl) (by rfl) hC20 (Or.inl ⟨by rfl, ?_⟩) hH20 (fun hC21 hH21 => ?_)
                          rotate_left
                          · (intro w9 hSw; refine (exec_tk (c := (g.to k : Nat)) (s := (k : Nat)) (fl := 0) (fh := 0) (tl := (g.fm k : Nat)) (th := (g.fm k : Nat)) (dl := (g.dLo k : Nat)) (dh := (g.tide k : Nat)) (by rfl) (by rfl) (by rfl) (by rfl) (by rfl) (by rfl) w9).trans ?_; with_reducible rfl)
                          clear hC20 hH20
                          try simp only [Act.put, List.setIfInBounds_toArray, List.set_cons_zero, List.set_cons_succ]
                          have al := (Below.refl wG.heap.size wG).alloc (Nat.le_refl _) (.cells #[.int .i64 (g.to k : Nat), .int .i64 k, .int .i64 0, .int .i64 0, .int .i64 (g.fm k : Nat), .int .i64 (g.fm k : Nat), .int .i64 (g.dLo k : Nat), .int .i64 (g.tide k : Nat)] 53)
                          have NH := Lib.hid (show BoxAt (wG.alloc (.cells #[.int .i64 (g.to k : Nat), .int .i64 k, .int .i64 0, .int .i64 0, .int .i64 (g.fm k : Nat), .int .i64 (g.fm k : Nat), .int .i64 (g.dLo k : Nat), .int .i64 (g.tide k : Nat)] 53)) wG.heap.size (tkC g.wT k).toArray 53 from heap_alloc_new _ _)
                          have ZH := Lib.hid (ZG.out.grow al)
                          have EH := Lib.hid (EG.out.grow al)
                          have XH := Lib.hid (XG.out.grow al)
                          have RH := Lib.hid (IntsAt.grow RG.out al)
                          have DH := Lib.hid (Row.grow DG.out al)
                          clear al ZG EG XG RG DG
                          refine wpAnyT_one (i := 21) (o := { dst := some 255, op := Op.buildSlice 37 1 #[(0, Operand.tmp 254)], type := 37, pos := "top12.go:58", after := #[{ on := 20, ground := Ground.data }], guard := none }) (by kernel_rfl) rfl (by kernel_rfl) hC21 (fun K hK => ?_)
                          clear hC21 hH21
                          refine step_tk (by rfl) (by rfl) (by rfl) ?_
                          refine hK.out _ _ ?_ (fun hC22 hH22 => ?_)
                          · exact ⟨⟨cellAt XH.out 0, ZH.out.dl.at hlt, GD _ DH.out⟩, fun e he _ => by simp only [List.mem_cons, List.mem_nil_iff, or_false] at he; subst he; exact cellAt EH.out.wb 2⟩
                          clear hK K
                          try simp only [Act.put, List.setIfInBounds_toArray, List.set_cons_zero, List.set_cons_succ]
                          generalize World.alloc wG _ = wH at *
                          generalize wG.heap.size = xt at *
                          refine wpAnyT_one (i := 22) (o := { dst := some 256, op := Op.call { callee := Callee.builtin Builtin.append, args := #[Operand.tmp 235, Operand.tmp 255], argTypes := #[37, 37] }, type := 37, pos := "top12.go:58", after := #[{ on := 1, ground := Ground.data }, { on := 21, ground := Ground.data }, { on := 19, ground := Ground.chain }], guard := none }) (by kernel_rfl) rfl (by kernel_rfl) hC22 (fun K hK => ?_)
                          clear hC22 hH22
                          refine step_appTk (w := wH) (by rfl) (.tmp 235) (.tmp 255) (by rfl) (by rfl) EH.out.ot (b := xt) (us := tkC g.wT k) rfl (by intro u hu; simp only [tkC, List.mem_cons, List.mem_nil_iff, or_false] at hu; rcases hu with rfl | rfl | rfl | rfl | rfl | rfl | rfl | rfl <;> rfl) (by rfl) NH.out (by have := H3.out; omega) EH.out.sz ?_
                          intro gg gcap wI hownI hgrI _
                          have WI := Lib.hid (EH.out.wticket hgrI)
                          have EI := Lib.hid (EH.out.ticket hgrI hownI)
                          have BI := Lib.hid (EH.out.bel.grown hgrI (by have := EH.out.sz; omega) fun q hq => by have := (own_lt EH.out.ot q hq).1; omega)
                          have ZI := Lib.hid (Z3.out.grow (by rw [HB.out]; exact BI.out))
                          have XI := Lib.hid (XH.out.beside EH.out.ot hgrI (by decide))
                          have RI := Lib.hid (row_new RH.out HR9.out hgrI HO9.out)
                          have DI := Lib.hid (row_new DH.out HD9.out hgrI HO9.out)
                          clear hownI hgrI ZH EH XH RH DH NH BI
                          refine hK.out _ _ ?_ (fun hC23 hH23 => ?_)
                          · exact ⟨⟨cellAt XI.out 0, ZI.out.dl.at hlt, GD _ DI.out⟩, fun e he _ => by simp only [List.mem_cons, List.mem_nil_iff, or_false] at he; subst he; exact cellAt WI.out 2⟩
                          clear hK K
                          try simp only [Act.put, List.setIfInBounds_toArray, List.set_cons_zero, List.set_cons_succ]
                          refine wpAnyT_take (i := 23) (oi := { dst := some 257, op := Op.fieldAddr 39 (Operand.tmp 12) 2, type := 0, pos := "top12.go:58", after := #[{ on := 0, ground := Ground.phase }, { on := 1, ground := Ground.phase }, { on := 2, ground := Ground.phase }, { on := 3, ground := Ground.phase }, { on := 4, ground := Ground.phase }, { on := 5, ground := Ground.phase }, { on := 6, ground := Ground.phase }, { on := 7, ground := Ground.phase }, { on := 8, ground := Ground.phase }, { on := 9, ground := Ground.phase }, { on := 10, ground := Ground.phase }, { on := 11, ground := Ground.phase }, { on := 12, ground := Ground.phase }, { on := 13, ground := Ground.phase }, { on := 14, ground := Ground.phase }, { on := 15, ground := Ground.phase }, { on := 16, ground := Ground.phase }, { on := 17, ground := Ground.phase }, { on := 18, ground := Ground.phase }, { on := 19, ground := Ground.phase }, { on := 20, ground := Ground.phase }, { on := 21, ground := Ground.phase }, { on := 22, ground := Ground.phase }], guard := none }) (v := ?_) rfl (by kernel_rfl) (by kernel_rfl) (by kernel_rfl) (fun _ _ _ h => h) (by kernel_rfl) (by rfl) hC23 (Or.inl ⟨by rfl, ?_⟩) hH23 (fun hC24 hH24 => ?_)
                          rotate_left
                          · (intro w9 hSw; obtain ⟨hSw, hLw⟩ := hSw; clear hLw; (try dsimp only at hSw); (go_split_ands; go_simp); (try with_reducible rfl))
                          clear hC23 hH23
                          try simp only [Act.put, List.setIfInBounds_toArray, List.set_cons_zero, List.set_cons_succ]
                          have y2 := cellAt WI.out 2
                          have f2 := freeAt WI.out 2
                          simp only [List.getElem?_toArray, List.getElem?_cons_zero, List.getElem?_cons_succ] at y2
                          have ZJ := Lib.hid (Z3.out.grow (by rw [HB.out]; exact EI.out.bel))
                          have XJ := Lib.hid (XI.out.set ⟨B, 2, none⟩ (.slice (some ⟨gg, 0, none⟩) (k + 1) gcap) (boxes_ne XI.out WI.out (by decide)))
                          have RJ := Lib.hid (row_low (i := 2) (v := .slice (some ⟨gg, 0, none⟩) (k + 1) gcap) RI.out HR9.out (show B < n9 by have := HB9.out; omega))
                          have DJ := Lib.hid (row_low (i := 2) (v := .slice (some ⟨gg, 0, none⟩) (k + 1) gcap) DI.out HD9.out (show B < n9 by have := HB9.out; omega))
                          clear ZI XI RI DI
                          refine wpAnyT_one (i := 24) (o := { dst := none, op := Op.store 37 (Operand.tmp 257) (Operand.tmp 256), type := 0, pos := "top12.go:58", after := #[{ on := 23, ground := Ground.data }, { on := 22, ground := Ground.data }, { on := 22, ground := Ground.chain }, { on := 0, ground := Ground.phase }, { on := 1, ground := Ground.phase }, { on := 2, ground := Ground.phase }, { on := 3, ground := Ground.phase }, { on := 4, ground := Ground.phase }, { on := 5, ground := Ground.phase }, { on := 6, ground := Ground.phase }, { on := 7, ground := Ground.phase }, { on := 8, ground := Ground.phase }, { on := 9, ground := Ground.phase }, { on := 10, ground := Ground.phase }, { on := 11, ground := Ground.phase }, { on := 12, ground := Ground.phase }, { on := 13, ground := Ground.phase }, { on := 14, ground := Ground.phase }, { on := 15, ground := Ground.phase }, { on := 16, ground := Ground.phase }, { on := 17, ground := Ground.phase }, { on := 18, ground := Ground.phase }, { on := 19, ground := Ground.phase }, { on := 20, ground := Ground.phase }, { on := 21, ground := Ground.phase }, { on := 22, ground := Ground.phase }], guard := none }) (by kernel_rfl) rfl (by kernel_rfl) hC24 (fun K hK => ?_)
                          clear hC24 hH24
                          go_simp
                          refine hK.out _ _ ?_ (fun hC25 hH25 => ?_)
                          · exact ⟨⟨cellAt XJ.out 0, ZJ.out.dl.at hlt, GD _ DJ.out⟩, fun e he h => by simp only [List.mem_cons, List.mem_nil_iff, or_false] at he; subst he; exact absurd h (by intro hx; exact Bool.false_ne_true (hx.symm.trans (by kernel_rfl)))⟩
                          clear hK K
                          try simp only [Act.put, List.setIfInBounds_toArray, List.set_cons_zero, List.set_cons_succ]
                          refine wpAnyT_done (by kernel_rfl) ?_ _
                          clear hC25 hH25 y2 f2 WI
                          generalize World.setCell wI _ _ = wJ at *
                          go_upto_region 38 with (fail)
                          have hiB : ∀ W, (Instr.indexAt 24 (.slice (some ⟨B + 1, 0, none⟩) g.cn g.cn) (.int .i64 (g.to k : Nat))).run Tryz.prog W = .ok (.pointer (some ⟨B + 1, g.to k, none⟩)) W := fun W => by
                            have h := run_indexAt_row (w := W) (P := Tryz.prog) (oa := some ⟨B + 1, 0, none⟩) (cap := g.cn) Tryz.underlying24 size_int rfl CC.out
                            simpa [blk, ofs] using h
                          have e1 := (due_mul HM.out (rate_le rn rf k)).1
                          have e2 := (due_mul HM.out (rate_le rn rf k)).2
                          have HAD := Lib.hid (due_add (d := g.dueN rn rf k (g.to k)) (Nat.le_trans (dueN_le HF.out) (by have := H3.out; omega)) HM.out (rate_le rn rf k))
                          have HUP := Lib.hid (dueN_upd (g := g) (rn := rn) (rf := rf) (k := k))
                          have DR := (Below.refl wJ.heap.size wJ).drew
                          have ZK := Lib.hid (ZJ.out.grow DR)
                          have EK := Lib.hid (EI.out.grow DR)
                          have XK := Lib.hid (XJ.out.grow DR)
                          have RK := Lib.hid (IntsAt.grow RJ.out DR)
                          clear DR ZJ EI XJ RJ DJ GD
                          refine wp_region_stg (S := (fun w' : World => w'.cell? ⟨x15, 0, none⟩ = some (.int .i64 (g.fm k : Nat)) ∧ w'.cell? ⟨blk oa, ofs oa + k, none⟩ = some (.int .i64 (g.to k : Nat)))) (L := [(13, (fun w' : World => w'.cell? ⟨B + 1, g.to k, none⟩ = some (.int .i64 (g.dueN rn rf k (g.to k) : Nat))))]) (D := [(13, 6)]) (by kernel_rfl) (by kernel_rfl) ⟨cellAt XK.out 0, ZK.out.dl.at hlt⟩ (by intro e he; simp only [List.mem_cons, List.mem_nil_iff, or_false] at he; subst he; exact (cellAt EK.out.db (g.to k)).trans (hotC_at _ CC.out)) (fun hC0 hH0 => ?_)
                          generalize World.drew wJ = wK at *
                          refine wpAnyT_take (i := 0) (oi := { dst := some 258, op := Op.move (Operand.tmp 13), type := 24, pos := "top12.go:59", after := #[], guard := none }) (v := ?_) rfl (by kernel_rfl) (by kernel_rfl) (by kernel_rfl) (fun _ _ _ h => h) (by kernel_rfl) (by rfl) hC0 (Or.inl ⟨by rfl, ?_⟩) hH0 (fun hC1 hH1 => ?_)
                          rotate_left
                          · (intro w9 hSw; obtain ⟨hSw, hLw⟩ := hSw; clear hLw; (try dsimp only at hSw); (go_split_ands; go_simp); (try with_reducible rfl))
                          clear hC0 hH0
                          try simp only [Act.put, List.setIfInBounds_toArray, List.set_cons_zero, List.set_cons_succ]
                          refine wpAnyT_take (i := 1) (oi := { dst := some 259, op := Op.move (Operand.tmp 10), type := 24, pos := "top12.go:59", after := #[], guard := none }) (v := ?_) rfl (by kernel_rfl) (by kernel_rfl) (by kernel_rfl) (fun _ _ _ h => h) (by kernel_rfl) (by rfl) hC1 (Or.inl ⟨by rfl, ?_⟩) hH1 (fun hC2 hH2 => ?_)
                          rotate_left
                          · (intro w9 hSw; obtain ⟨hSw, hLw⟩ := hSw; clear hLw; (try dsimp only at hSw); (go_split_ands; go_simp); (try with_reducible rfl))
                          clear hC1 hH1
                          try simp only [Act.put, List.setIfInBounds_toArray, List.set_cons_zero, List.set_cons_succ]
                          refine wpAnyT_take (i := 2) (oi := { dst := some 260, op := Op.move (Operand.tmp 14), type := 3, pos := "top12.go:59", after := #[], guard := none }) (v := ?_) rfl (by kernel_rfl) (by kernel_rfl) (by kernel_rfl) (fun _ _ _ h => h) (by kernel_rfl) (by rfl) hC2 (Or.inl ⟨by rfl, ?_⟩) hH2 (fun hC3 hH3 => ?_)
                          rotate_left
                          · (intro w9 hSw; obtain ⟨hSw, hLw⟩ := hSw; clear hLw; (try dsimp only at hSw); (go_split_ands; go_simp); (try with_reducible rfl))
                          clear hC2 hH2
                          try simp only [Act.put, List.setIfInBounds_toArray, List.set_cons_zero, List.set_cons_succ]
                          refine wpAnyT_take (i := 3) (oi := { dst := some 261, op := Op.indexAddr 24 (Operand.tmp 259) (Operand.tmp 260), type := 0, pos := "top12.go:59", after := #[{ on := 1, ground := Ground.data }, { on := 2, ground := Ground.data }], guard := none }) (v := ?_) rfl (by kernel_rfl) (by kernel_rfl) (by kernel_rfl) (fun _ _ _ h => h) (by kernel_rfl) (by rfl) hC3 (Or.inl ⟨by rfl, ?_⟩) hH3 (fun hC4 hH4 => ?_)
                          rotate_left
                          · (intro w9 hSw; obtain ⟨hSw, hLw⟩ := hSw; clear hLw; (try dsimp only at hSw); (go_split_ands; go_simp); (try with_reducible rfl))
                          clear hC3 hH3
                          try simp only [Act.put, List.setIfInBounds_toArray, List.set_cons_zero, List.set_cons_succ]
                          refine wpAnyT_take (i := 4) (oi := { dst := some 262, op := Op.load 3 (Operand.tmp 261), type := 3, pos := "top12.go:59", after := #[{ on := 3, ground := Ground.data }], guard := none }) (v := ?_) rfl (by kernel_rfl) (by kernel_rfl) (by kernel_rfl) (fun _ _ _ h => h) (by kernel_rfl) (by rfl) hC4 (Or.inl ⟨by rfl, ?_⟩) hH4 (fun hC5 hH5 => ?_)
                          rotate_left
                          · (intro w9 hSw; obtain ⟨hSw, hLw⟩ := hSw; clear hLw; (try dsimp only at hSw); (go_split_ands; go_simp); (try with_reducible rfl))
                          clear hC4 hH4
                          try simp only [Act.put, List.setIfInBounds_toArray, List.set_cons_zero, List.set_cons_succ]
                          refine wpAnyT_take (i := 5) (oi := { dst := some 263, op := Op.indexAddr 24 (Operand.tmp 258) (Operand.tmp 262), type := 0, pos := "top12.go:59", after := #[{ on := 0, ground := Ground.data }, { on := 4, ground := Ground.data }], guard := none }) (v := ?_) rfl (by kernel_rfl) (by kernel_rfl) (by kernel_rfl) (fun _ _ _ h => h) (by kernel_rfl) (by rfl) hC5 (Or.inl ⟨by rfl, ?_⟩) hH5 (fun hC6 hH6 => ?_)
                          rotate_left
                          · (intro w9 hSw; obtain ⟨hSw, hLw⟩ := hSw; clear hLw; (try dsimp only at hSw); (go_split_ands; go_simp); (try with_reducible rfl))
                          clear hC5 hH5
                          try simp only [Act.put, List.setIfInBounds_toArray, List.set_cons_zero, List.set_cons_succ]
                          refine wpAnyT_take (i := 6) (oi := { dst := some 264, op := Op.load 3 (Operand.tmp 263), type := 3, pos := "top12.go:59", after := #[{ on := 5, ground := Ground.data }], guard := none }) (v := ?_) rfl (by kernel_rfl) (by kernel_rfl) (by kernel_rfl) (fun _ _ _ h => h) (by kernel_rfl) (by rfl) hC6 (Or.inl ⟨by rfl, ?_⟩) hH6 (fun hC7 hH7 => ?_)
                          rotate_left
                          · (intro w9 hSw; obtain ⟨hSw, hLw⟩ := hSw; have hL := hLw _ (List.mem_singleton.2 rfl) (by kernel_rfl); dsimp only at hL; (try dsimp only at hSw); (go_split_ands; go_simp); (try with_reducible rfl))
                          clear hC6 hH6
                          try simp only [Act.put, List.setIfInBounds_toArray, List.set_cons_zero, List.set_cons_succ]
                          refine wpAnyT_take (i := 7) (oi := { dst := some 265, op := Op.fieldAddr 41 (Operand.tmp 15) 0, type := 0, pos := "top12.go:59", after := #[], guard := none }) (v := ?_) rfl (by kernel_rfl) (by kernel_rfl) (by kernel_rfl) (fun _ _ _ h => h) (by kernel_rfl) (by rfl) hC7 (Or.inl ⟨by rfl, ?_⟩) hH7 (fun hC8 hH8 => ?_)
                          rotate_left
                          · (intro w9 hSw; obtain ⟨hSw, hLw⟩ := hSw; clear hLw; (try dsimp only at hSw); (go_split_ands; go_simp); (try with_reducible rfl))
                          clear hC7 hH7
                          try simp only [Act.put, List.setIfInBounds_toArray, List.set_cons_zero, List.set_cons_succ]
                          refine wpAnyT_take (i := 8) (oi := { dst := some 266, op := Op.load 3 (Operand.tmp 265), type := 3, pos := "top12.go:59", after := #[{ on := 7, ground := Ground.data }], guard := none }) (v := ?_) rfl (by kernel_rfl) (by kernel_rfl) (by kernel_rfl) (fun _ _ _ h => h) (by kernel_rfl) (by rfl) hC8 (Or.inl ⟨by rfl, ?_⟩) hH8 (fun hC9 hH9 => ?_)
                          rotate_left
                          · (intro w9 hSw; obtain ⟨hSw, hLw⟩ := hSw; clear hLw; (try dsimp only at hSw); (go_split_ands; go_simp); (try with_reducible rfl))
                          clear hC8 hH8
                          try simp only [Act.put, List.setIfInBounds_toArray, List.set_cons_zero, List.set_cons_succ]
                          refine wpAnyT_take (i := 9) (oi := { dst := some 267, op := Op.move (Operand.tmp 16), type := 3, pos := "top12.go:59", after := #[], guard := none }) (v := ?_) rfl (by kernel_rfl) (by kernel_rfl) (by kernel_rfl) (fun _ _ _ h => h) (by kernel_rfl) (by rfl) hC9 (Or.inl ⟨by rfl, ?_⟩) hH9 (fun hC10 hH10 => ?_)
                          rotate_left
                          · (intro w9 hSw; obtain ⟨hSw, hLw⟩ := hSw; clear hLw; (try dsimp only at hSw); (go_split_ands; go_simp); (try with_reducible rfl))
                          clear hC9 hH9
                          try simp only [Act.put, List.setIfInBounds_toArray, List.set_cons_zero, List.set_cons_succ]
                          refine wpAnyT_take (i := 10) (oi := { dst := some 268, op := Op.binOp BinOp.mul 3 (Operand.tmp 266) (Operand.tmp 267) 3, type := 3, pos := "top12.go:59", after := #[{ on := 8, ground := Ground.data }, { on := 9, ground := Ground.data }], guard := none }) (v := ?_) rfl (by kernel_rfl) (by kernel_rfl) (by kernel_rfl) (fun _ _ _ h => h) (by kernel_rfl) (by rfl) hC10 (Or.inl ⟨by rfl, ?_⟩) hH10 (fun hC11 hH11 => ?_)
                          rotate_left
                          · (intro w9 hSw; obtain ⟨hSw, hLw⟩ := hSw; clear hLw; (try dsimp only at hSw); (go_split_ands; go_simp); (try with_reducible rfl))
                          clear hC10 hH10
                          try simp only [Act.put, List.setIfInBounds_toArray, List.set_cons_zero, List.set_cons_succ]
                          refine wpAnyT_take (i := 11) (oi := { dst := some 269, op := Op.binOp BinOp.add 3 (Operand.tmp 264) (Operand.tmp 268) 3, type := 3, pos := "top12.go:59", after := #[{ on := 6, ground := Ground.data }, { on := 10, ground := Ground.data }], guard := none }) (v := ?_) rfl (by kernel_rfl) (by kernel_rfl) (by kernel_rfl) (fun _ _ _ h => h) (by kernel_rfl) (by rfl) hC11 (Or.inl ⟨by rfl, ?_⟩) hH11 (fun hC12 hH12 => ?_)
                          rotate_left
                          · (intro w9 hSw; obtain ⟨hSw, hLw⟩ := hSw; clear hLw; (try dsimp only at hSw); (go_split_ands; go_simp); (try with_reducible rfl))
                          clear hC11 hH11
                          try simp only [Act.put, List.setIfInBounds_toArray, List.set_cons_zero, List.set_cons_succ]
                          refine wpAnyT_take (i := 12) (oi := { dst := some 270, op := Op.indexAddr 24 (Operand.tmp 258) (Operand.tmp 262), type := 0, pos := "top12.go:59", after := #[{ on := 0, ground := Ground.data }, { on := 4, ground := Ground.data }, { on := 0, ground := Ground.phase }, { on := 1, ground := Ground.phase }, { on := 2, ground := Ground.phase }, { on := 3, ground := Ground.phase }, { on := 4, ground := Ground.phase }, { on := 5, ground := Ground.phase }, { on := 6, ground := Ground.phase }, { on := 7, ground := Ground.phase }, { on := 8, ground := Ground.phase }, { on := 9, ground := Ground.phase }, { on := 10, ground := Ground.phase }, { on := 11, ground := Ground.phase }], guard := none }) (v := ?_) rfl (by kernel_rfl) (by kernel_rfl) (by kernel_rfl) (fun _ _ _ h => h) (by kernel_rfl) (by rfl) hC12 (Or.inl ⟨by rfl, ?_⟩) hH12 (fun hC13 hH13 => ?_)
                          rotate_left
                          · (intro w9 hSw; obtain ⟨hSw, hLw⟩ := hSw; clear hLw; (try dsimp only at hSw); (go_split_ands; go_simp); (try with_reducible rfl))
                          clear hC12 hH12
                          try simp only [Act.put, List.setIfInBounds_toArray, List.set_cons_zero, List.set_cons_succ]
                          have y2 := (cellAt EK.out.db (g.to k)).trans (hotC_at _ CC.out)
                          have f2 := freeAt EK.out.db (g.to k)
                          have EL := Lib.hid (EK.out.put (g.to k) (g.dueN rn rf k (g.to k) + g.fm k * rateF rn rf k))
                          rw [HUP.out] at EL
                          have ZL := Lib.hid (Z3.out.grow (by rw [HB.out]; exact EL.out.bel))
                          have XL := Lib.hid (XK.out.set ⟨B + 1, g.to k, none⟩ (.int .i64 (g.dueN rn rf k (g.to k) + g.fm k * rateF rn rf k : Nat)) (boxes_ne XK.out EK.out.db (by decide)))
                          have RL2 := Lib.hid (row_low (i := g.to k) (v := .int .i64 (g.dueN rn rf k (g.to k) + g.fm k * rateF rn rf k : Nat)) RK.out HR9.out (show B + 1 < n9 by have := HB9.out; omega))
                          clear ZK EK XK RK
                          refine wpAnyT_one (i := 13) (o := { dst := none, op := Op.store 3 (Operand.tmp 270) (Operand.tmp 269), type := 0, pos := "top12.go:59", after := #[{ on := 12, ground := Ground.data }, { on := 11, ground := Ground.data }, { on := 0, ground := Ground.phase }, { on := 1, ground := Ground.phase }, { on := 2, ground := Ground.phase }, { on := 3, ground := Ground.phase }, { on := 4, ground := Ground.phase }, { on := 5, ground := Ground.phase }, { on := 6, ground := Ground.phase }, { on := 7, ground := Ground.phase }, { on := 8, ground := Ground.phase }, { on := 9, ground := Ground.phase }, { on := 10, ground := Ground.phase }, { on := 11, ground := Ground.phase }], guard := none }) (by kernel_rfl) rfl (by kernel_rfl) hC13 (fun K hK => ?_)
                          clear hC13 hH13
                          go_simp
                          first | rw [HAD.out.1] | rw [HAD.out.2]
                          clear e1 e2
                          refine hK.out _ _ ?_ (fun hC14 hH14 => ?_)
                          · exact ⟨⟨cellAt XL.out 0, ZL.out.dl.at hlt⟩, fun e he h => by simp only [List.mem_cons, List.mem_nil_iff, or_false] at he; subst he; exact absurd h (by intro hx; exact Bool.false_ne_true (hx.symm.trans (by kernel_rfl)))⟩
                          clear hK K
                          try simp only [Act.put, List.setIfInBounds_toArray, List.set_cons_zero, List.set_cons_succ]
                          refine wpAnyT_done (by kernel_rfl) ?_ _
                          clear hC14 hH14 y2 f2 hiB hik
                          generalize World.setCell wK _ _ = wL at *
                          go_wp2_with fail
                          rw [HW2.out]
                          exact ⟨⟨j + 1, hjt, rfl, .inr ⟨by have := EJ.out; omega, RL2.out, _, _, EL.out⟩⟩, hmeas2⟩
                      · as_aux_lemma => --@
                          have ej : ¬ j = g.pl k := fun h => e (hpa.2 h)
                          have HJ := Lib.hid (show ((j + 1 ≤ g.pl k ∧ wr = wC) ∨ (g.pl k < j + 1 ∧ IntsAt wr ro r.length (natsF r) ∧ ∃ (ta : Option Addr) (tc' : Nat), E1 g rn rf w2 B (k + 1) (k + 1) (g.dueN rn rf (k + 1)) (.slice oa5 (k + 1) cap5) (.slice ta (k + 1) tc') wr)) from by
                            obtain ⟨h1, h2⟩ | ⟨h1, h2⟩ := hJ
                            · exact .inl ⟨by omega, h2⟩
                            · exact .inr ⟨by omega, h2⟩)
                          have e' : ((m : Int) == (k : Int)) = false := beq_false_of_ne (by omega)
                          clear hpa ej e hJ
                          go_wp2_with fail
                          rw [HW2.out]
                          exact ⟨⟨j + 1, hjt, rfl, HJ.out⟩, hmeas2⟩
                    · as_aux_lemma => --@
                        have hjt' : ¬ (j : Int) < r.length := by omega
                        have e : j = r.length := by omega
                        have hp := PL.out
                        obtain ⟨h1, -⟩ | ⟨-, -, ta9, tc9, h9⟩ := hJ
                        · omega
                        · have E9 := Lib.hid h9
                          clear h9 RW hp
                          go_wp2_with fail
                          rw [show ((k : Int) + 1) = ((k + 1 : Nat) : Int) from rfl]
                          exact ⟨⟨k + 1, oa5, cap5, ta9, tc9, hlt, rfl, HF2.out, E9.out⟩, hmeas⟩
        · as_aux_lemma => --@
            have hfm' : (20 : Int) < g.fm k := by omega
            clear hfm
            go_wp2_with (go_at_call 5; refine (awake12_any _).mono ?_; rintro e w' ⟨rfl, hb⟩)
            go_ret
            exact ⟨rfl, Z2.out.oi.bel.next hb⟩
    · have hlt' : ¬ (k : Int) < g.sn := by omega
      obtain rfl : k = g.sn := by omega
      obtain ⟨q0, q1, q2, q3, q4, q5, q6⟩ := Z1.out.oi.cells
      have y1 := cellAt E1.out.wb 1
      have y2 := cellAt E1.out.wb 2
      have y0 := cellAt E1.out.wb 0
      simp only [List.getElem?_toArray, List.getElem?_cons_zero, List.getElem?_cons_succ] at y0 y1 y2
      go_upto_region 44 with (fail)
      clear q0 q1 q2 q3 q4 q5 q6 y0 y1 y2
      have HO1 := Lib.hid (show ∀ j, (Value.slice ta g.sn ta2).ownBlock = some j → j < wr.heap.size from fun j hj => (own_lt E1.out.ot j hj).2)
      have HB1 := Lib.hid E1.out.sz
      have al := (Below.refl wr.heap.size wr).alloc (Nat.le_refl _) (.cells #[.int .i64 g.cn, .slice so g.sn so2, .slice ta g.sn ta2] 39)
      have E5 := Lib.hid (E1.out.grow al)
      have X5 := Lib.hid (show BoxAt (wr.alloc (.cells #[.int .i64 g.cn, .slice so g.sn so2, .slice ta g.sn ta2] 39)) wr.heap.size #[.int .i64 g.cn, .slice so g.sn so2, .slice ta g.sn ta2] 39 from heap_alloc_new _ _)
      clear al E1 Z1
      generalize World.alloc wr _ = w6 at *
      generalize wr.heap.size = x27 at *
      go_cut [] from 281 to 285 (fun W => ∃ (tb : Option Addr) (tb2 : Nat), E2 g rn rf ot w2 B x27 g.sn so so2 ta ta2 (.slice tb g.sn tb2) W)
      case first => --@
        as_aux_lemma =>
          have hB6 : x27 + 1 ≤ w6.heap.size := lt_of_heap X5.out
          have al := (Below.refl w6.heap.size w6).alloc (Nat.le_refl _) (.cells #[] 53)
          have E6 := Lib.hid (E5.out.grow al)
          have X6 := Lib.hid (X5.out.grow al)
          have N6 := Lib.hid (own_empty hB6)
          have Y6 := Lib.hid (show BoxAt (w6.alloc (.cells #[] 53)) w6.heap.size #[] 53 from heap_alloc_new _ _)
          have HS6 := Lib.hid (show x27 + 1 ≤ (w6.alloc (.cells #[] 53)).heap.size by rw [sizeAlloc]; omega)
          have HX6 := Lib.hid (show x27 < w6.heap.size by omega)
          have y2 := cellAt E6.out.wb 2
          have z2 := cellAt X6.out 2
          have f2 := freeAt X6.out 2
          simp only [List.getElem?_toArray, List.getElem?_cons_zero, List.getElem?_cons_succ] at y2 z2
          obtain ⟨i0, hi0, hz0, hz1, hz2⟩ := info_parts info_wt
          clear al hB6 E5 X5
          have hot := E6.out.ot
          obtain ⟨hlen, ⟨hv, hn0⟩ | ⟨gT, capT, cur, hv, hbT, hgT, hnc, hcm, hcs, htk⟩⟩ := hot
          · rw [hv] at y2
            have HN0 := Lib.hid hn0
            clear hv hn0 hlen
            go_wp2_with fail
            go_meet
            refine ⟨some ⟨w6.heap.size, 0, none⟩, 0, ?_⟩
            have h := E6.out.start ot (v' := .slice (some ⟨w6.heap.size, 0, none⟩) g.sn 0) X6.out (World.grownBy.refl _ none) (fun j e => by cases e) HO1.out HB1.out HS6.out (by
              have h2 := N6.out
              rw [HN0.out]
              exact h2)
            rwa [HN0.out] at h ⊢
          · rw [hv] at y2
            have HG := Lib.hid (show BoxAt (w6.alloc (.cells #[] 53)) gT cur 53 from hgT)
            have HC := Lib.hid htk
            have HTL := Lib.hid (flL_one (tkC_one g.wT) g.sn)
            have HLEN := Lib.hid hlen
            have HCS := Lib.hid hcs
            have HNC := Lib.hid hnc
            clear hv hlen hbT hgT hnc hcm hcs htk
            go_wp2_with (at_builtin; refine wpList_append_own _ rfl _ _ 37 rfl (x27 + 1) 53 i0 _ 8 64 Tryz.underlying37 hi0 hz0 hz1 hz2 rfl (by decide) _ 0 [] rfl N6.out ⟨gT, 0, none⟩ g.sn capT (flL (tkC g.wT) g.sn) rfl HLEN.out ?ew1 ?ew2 ?ew3 ?ew4 ?ew5 ?_)
            try (case ew1 =>
                intro j u hj
                refine (cellAt HG.out j).trans ?_
                rw [← HC.out] at hj
                have hlt : j < (cur.toList.take (g.sn * 8)).length := (List.getElem?_eq_some_iff.1 hj).1
                rw [List.length_take] at hlt
                rw [List.getElem?_take_of_lt (by omega), Array.getElem?_toList] at hj
                exact hj)
            case ew2 => exact HTL.out
            case ew3 => have := H3.out; unfold maxLen; omega
            case ew4 => have := H3.out; omega
            case ew5 => have := HX6.out; omega
            intro v' w8 hown' hgrow _
            obtain ⟨tb, tb2, rfl⟩ := own_slice hown'
            have HOW := Lib.hid hown'
            have HGR := Lib.hid hgrow
            have W8 := Lib.hid (X6.out.kept hgrow fun e => by have h1 := HX6.out; have h2 : x27 = w6.heap.size := Option.some.inj e; omega)
            have z2 := cellAt W8.out 2
            have f2 := freeAt W8.out 2
            simp only [List.getElem?_toArray, List.getElem?_cons_zero, List.getElem?_cons_succ] at z2
            clear hown' hgrow
            go_wp2_with fail
            go_meet
            exact ⟨tb, tb2, E6.out.start ot X6.out HGR.out (fun j e => by cases e; exact ⟨HX6.out, _, Y6.out⟩) HO1.out HB1.out HS6.out HOW.out⟩
      case rest =>
        obtain ⟨tb, tb2, hE⟩ := hcut
        have E7 := Lib.hid hE
        clear hE E5 X5 HO1 HB1
        have y1 := cellAt E7.out.e1.wb 1
        simp only [List.getElem?_toArray, List.getElem?_cons_zero, List.getElem?_cons_succ] at y1
        go_wp2_with fail
        clear y1
        go_loopw [289] (fun i W => ∃ (k : Nat) (tb : Option Addr) (tb2 : Nat), k ≤ g.sn ∧ i = .int .i64 k ∧ E2 g rn rf ot w2 B x27 (g.sn + k) so so2 ta ta2 (.slice tb (g.sn + k) tb2) W) (fun i _ => g.sn - (intOf i).toNat)
        case atStart => exact ⟨0, tb, tb2, Nat.zero_le _, rfl, E7.out⟩
        case round =>
          clear E7
          obtain ⟨k, tb, tb2, hk, rfl, hE⟩ := hrel
          have E8 := Lib.hid hE
          clear hE
          have Z8 := Lib.hid (Z3.out.grow (by rw [HB.out]; exact E8.out.e1.bel))
          by_cases hlt : k < g.sn
          · as_aux_lemma => --@
              have hlt' : (k : Int) < g.sn := by omega
              have hmeas : g.sn - (k + 1) < g.sn - k := by omega
              have HW := Lib.hid (show wrap64 ((k : Int) + 1) = ((k + 1 : Nat) : Int) from w64 (by have := H3.out; omega))
              have HSE := Lib.hid (show Row wr so g.sn 2 (fun i j => (g.wS rn rf i).cell j) from by
                obtain ⟨o9, c9, hv9, h9, -⟩ := own_row (cell := fun i j => (g.wS rn rf i).cell j) E8.out.e1.os (by have := H3.out; unfold maxLen; omega) (fun i hi j hj => by
                  rw [flL_at (sz := 2) (fun _ => rfl) g.sn i hi j hj]
                  match j, hj with
                  | 0, _ => rfl
                  | 1, _ => rfl)
                cases hv9
                exact h9)
              have hi := fun W => run_indexAt_row (w := W) (cap := so2) Tryz.underlying36 size_ws (HSE.out.plain (by omega)) hlt
              have c0 := HSE.out.cells k hlt 0 (by omega)
              have c1 := HSE.out.cells k hlt 1 (by omega)
              rw [show (g.wS rn rf k).cell 0 = .int .i64 (g.fm k : Nat) from rfl] at c0
              rw [show (g.wS rn rf k).cell 1 = .int .i64 (rateF rn rf k : Nat) from rfl] at c1
              simp only [Nat.add_zero] at c0
              have al := (Below.refl wr.heap.size wr).alloc (Nat.le_refl _) (.cells #[.int .i64 (g.fm k : Nat), .int .i64 (rateF rn rf k : Nat)] 43)
              have E9 := Lib.hid (E8.out.grow al)
              have Z9 := Lib.hid (Z8.out.grow al)
              have X9 := Lib.hid (show BoxAt (wr.alloc (.cells #[.int .i64 (g.fm k : Nat), .int .i64 (rateF rn rf k : Nat)] 43)) wr.heap.size #[.int .i64 (g.fm k : Nat), .int .i64 (rateF rn rf k : Nat)] 43 from heap_alloc_new _ _)
              go_upto_region 48 with (fail)
              clear al c0 c1 hi E8 Z8 HSE
              generalize World.alloc wr _ = w9 at *
              generalize wr.heap.size = x29 at *
              have y2 := cellAt E9.out.lb 2
              simp only [List.getElem?_toArray, List.getElem?_cons_zero, List.getElem?_cons_succ] at y2
              have hl6 : ((g.sn + k : Nat) : Int) < 6 := by have := H3.out; omega
              go_upto_region 49 with (fail)
              clear y2 hl6
              have n0 : ¬ g.cn = 0 := by have := H1.out; omega
              have hfk := HF.out k hlt
              have hf1 := (OK.out.hfm k hlt).1
              have e5 : IntKind.i64.wrap ((ot : Nat) : Int) = ot := by have := HOT.out; rw [IntKind.wrap_i64]; omega
              have e0 : (ot : Int).tmod (g.cn : Int) = ((ot % g.cn : Nat) : Int) := by rw [Int.tmod_eq_emod_of_nonneg (by omega)]; rfl
              have e1 : ((g.fm k : Nat) : Int).tmod 4 = ((g.fm k % 4 : Nat) : Int) := by rw [Int.tmod_eq_emod_of_nonneg (by omega)]; rfl
              have e2 : IntKind.i64.wrap (((g.fm k : Nat) : Int) - 1) = ((g.fm k - 1 : Nat) : Int) := by rw [IntKind.wrap_i64]; omega
              have DR := (Below.refl w9.heap.size w9).drew
              have ZA := Lib.hid (Z9.out.grow DR)
              have EA := Lib.hid (E9.out.grow DR)
              have XA := Lib.hid (X9.out.grow DR)
              clear DR Z9 E9 X9
              refine wp_region_stg (S := (fun w' : World => w'.cell? ⟨w.heap.size, 1, none⟩ = some (.slice a.ca g.cn a.cc) ∧ w'.cell? ⟨x29, 0, none⟩ = some (.int .i64 (g.fm k : Nat)))) (L := [(25, (fun w' : World => w'.cell? ⟨x27, 2, none⟩ = some (.slice tb (g.sn + k) tb2)))]) (D := [(25, 1)]) (by kernel_rfl) (by kernel_rfl) ⟨ZA.out.oi.cells.2.1, cellAt XA.out 0⟩ (by intro e he; simp only [List.mem_cons, List.mem_nil_iff, or_false] at he; subst he; exact cellAt EA.out.lb 2) (fun hC0 hH0 => ?_)
              generalize World.drew w9 = wA at *
              refine wpAnyT_take (i := 0) (oi := { dst := some 298, op := Op.fieldAddr 39 (Operand.tmp 27) 2, type := 0, pos := "top12.go:70", after := #[], guard := none }) (v := ?_) rfl (by kernel_rfl) (by kernel_rfl) (by kernel_rfl) (fun _ _ _ h => h) (by kernel_rfl) (by rfl) hC0 (Or.inl ⟨by rfl, ?_⟩) hH0 (fun hC1 hH1 => ?_)
              rotate_left
              · (intro w9 hSw; obtain ⟨hSw, hLw⟩ := hSw; clear hLw; (try dsimp only at hSw); (go_split_ands; go_simp); (try with_reducible rfl))
              clear hC0 hH0
              try simp only [Act.put, List.setIfInBounds_toArray, List.set_cons_zero, List.set_cons_succ]
              refine wpAnyT_take (i := 1) (oi := { dst := some 299, op := Op.load 37 (Operand.tmp 298), type := 37, pos := "top12.go:70", after := #[{ on := 0, ground := Ground.data }], guard := none }) (v := ?_) rfl (by kernel_rfl) (by kernel_rfl) (by kernel_rfl) (fun _ _ _ h => h) (by kernel_rfl) (by rfl) hC1 (Or.inl ⟨by rfl, ?_⟩) hH1 (fun hC2 hH2 => ?_)
              rotate_left
              · (intro w9 hSw; obtain ⟨hSw, hLw⟩ := hSw; have hL := hLw _ (List.mem_singleton.2 rfl) (by kernel_rfl); dsimp only at hL; (try dsimp only at hSw); (go_split_ands; go_simp); (try with_reducible rfl))
              clear hC1 hH1
              try simp only [Act.put, List.setIfInBounds_toArray, List.set_cons_zero, List.set_cons_succ]
              refine wpAnyT_take (i := 2) (oi := { dst := some 300, op := Op.move (Operand.tmp 3), type := 5, pos := "top12.go:70", after := #[], guard := none }) (v := ?_) rfl (by kernel_rfl) (by kernel_rfl) (by kernel_rfl) (fun _ _ _ h => h) (by kernel_rfl) (by rfl) hC2 (Or.inl ⟨by rfl, ?_⟩) hH2 (fun hC3 hH3 => ?_)
              rotate_left
              · (intro w9 hSw; obtain ⟨hSw, hLw⟩ := hSw; clear hLw; (try dsimp only at hSw); (go_split_ands; go_simp); (try with_reducible rfl))
              clear hC2 hH2
              try simp only [Act.put, List.setIfInBounds_toArray, List.set_cons_zero, List.set_cons_succ]
              refine wpAnyT_take (i := 3) (oi := { dst := some 301, op := Op.convert 5 3 (Operand.tmp 300), type := 3, pos := "top12.go:70", after := #[{ on := 2, ground := Ground.data }], guard := none }) (v := ?_) rfl (by kernel_rfl) (by kernel_rfl) (by kernel_rfl) (fun _ _ _ h => h) (by kernel_rfl) (by rfl) hC3 (Or.inl ⟨by rfl, ?_⟩) hH3 (fun hC4 hH4 => ?_)
              rotate_left
              · (intro w9 hSw; obtain ⟨hSw, hLw⟩ := hSw; clear hLw; (try dsimp only at hSw); (go_split_ands; go_simp); (try with_reducible rfl))
              clear hC3 hH3
              try simp only [Act.put, List.setIfInBounds_toArray, List.set_cons_zero, List.set_cons_succ]
              refine wpAnyT_take (i := 4) (oi := { dst := some 302, op := Op.fieldAddr 29 (Operand.tmp 4) 1, type := 0, pos := "top12.go:70", after := #[], guard := none }) (v := ?_) rfl (by kernel_rfl) (by kernel_rfl) (by kernel_rfl) (fun _ _ _ h => h) (by kernel_rfl) (by rfl) hC4 (Or.inl ⟨by rfl, ?_⟩) hH4 (fun hC5 hH5 => ?_)
              rotate_left
              · (intro w9 hSw; obtain ⟨hSw, hLw⟩ := hSw; clear hLw; (try dsimp only at hSw); (go_split_ands; go_simp); (try with_reducible rfl))
              clear hC4 hH4
              try simp only [Act.put, List.setIfInBounds_toArray, List.set_cons_zero, List.set_cons_succ]
              refine wpAnyT_take (i := 5) (oi := { dst := some 303, op := Op.load 23 (Operand.tmp 302), type := 23, pos := "top12.go:70", after := #[{ on := 4, ground := Ground.data }], guard := none }) (v := ?_) rfl (by kernel_rfl) (by kernel_rfl) (by kernel_rfl) (fun _ _ _ h => h) (by kernel_rfl) (by rfl) hC5 (Or.inl ⟨by rfl, ?_⟩) hH5 (fun hC6 hH6 => ?_)
              rotate_left
              · (intro w9 hSw; obtain ⟨hSw, hLw⟩ := hSw; clear hLw; (try dsimp only at hSw); (go_split_ands; go_simp); (try with_reducible rfl))
              clear hC5 hH5
              try simp only [Act.put, List.setIfInBounds_toArray, List.set_cons_zero, List.set_cons_succ]
              refine wpAnyT_take (i := 6) (oi := { dst := some 304, op := Op.call { callee := Callee.builtin Builtin.len, args := #[Operand.tmp 303], argTypes := #[23] }, type := 3, pos := "top12.go:70", after := #[{ on := 5, ground := Ground.data }], guard := none }) (v := ?_) rfl (by kernel_rfl) (by kernel_rfl) (by kernel_rfl) (fun _ _ _ h => h) (by kernel_rfl) (by rfl) hC6 (Or.inl ⟨by rfl, ?_⟩) hH6 (fun hC7 hH7 => ?_)
              rotate_left
              · (intro w9 hSw; obtain ⟨hSw, hLw⟩ := hSw; clear hLw; (try dsimp only at hSw); (go_split_ands; go_simp); (try with_reducible rfl))
              clear hC6 hH6
              try simp only [Act.put, List.setIfInBounds_toArray, List.set_cons_zero, List.set_cons_succ]
              refine wpAnyT_take (i := 7) (oi := { dst := some 305, op := Op.binOp BinOp.rem 3 (Operand.tmp 301) (Operand.tmp 304) 3, type := 3, pos := "top12.go:70", after := #[{ on := 3, ground := Ground.data }, { on := 6, ground := Ground.data }], guard := none }) (v := ?_) rfl (by kernel_rfl) (by kernel_rfl) (by kernel_rfl) (fun _ _ _ h => h) (by kernel_rfl) (by rfl) hC7 (Or.inl ⟨by rfl, ?_⟩) hH7 (fun hC8 hH8 => ?_)
              rotate_left
              · (intro w9 hSw; obtain ⟨hSw, hLw⟩ := hSw; clear hLw; (try dsimp only at hSw); (go_split_ands; go_simp); (try with_reducible rfl))
              clear hC7 hH7
              try simp only [Act.put, List.setIfInBounds_toArray, List.set_cons_zero, List.set_cons_succ]
              refine wpAnyT_take (i := 8) (oi := { dst := some 306, op := Op.move (Operand.tmp 28), type := 3, pos := "top12.go:70", after := #[], guard := none }) (v := ?_) rfl (by kernel_rfl) (by kernel_rfl) (by kernel_rfl) (fun _ _ _ h => h) (by kernel_rfl) (by rfl) hC8 (Or.inl ⟨by rfl, ?_⟩) hH8 (fun hC9 hH9 => ?_)
              rotate_left
              · (intro w9 hSw; obtain ⟨hSw, hLw⟩ := hSw; clear hLw; (try dsimp only at hSw); (go_split_ands; go_simp); (try with_reducible rfl))
              clear hC8 hH8
              try simp only [Act.put, List.setIfInBounds_toArray, List.set_cons_zero, List.set_cons_succ]
              refine wpAnyT_take (i := 9) (oi := { dst := some 307, op := Op.fieldAddr 43 (Operand.tmp 29) 0, type := 0, pos := "top12.go:70", after := #[], guard := none }) (v := ?_) rfl (by kernel_rfl) (by kernel_rfl) (by kernel_rfl) (fun _ _ _ h => h) (by kernel_rfl) (by rfl) hC9 (Or.inl ⟨by rfl, ?_⟩) hH9 (fun hC10 hH10 => ?_)
              rotate_left
              · (intro w9 hSw; obtain ⟨hSw, hLw⟩ := hSw; clear hLw; (try dsimp only at hSw); (go_split_ands; go_simp); (try with_reducible rfl))
              clear hC9 hH9
              try simp only [Act.put, List.setIfInBounds_toArray, List.set_cons_zero, List.set_cons_succ]
              refine wpAnyT_take (i := 10) (oi := { dst := some 308, op := Op.load 3 (Operand.tmp 307), type := 3, pos := "top12.go:70", after := #[{ on := 9, ground := Ground.data }], guard := none }) (v := ?_) rfl (by kernel_rfl) (by kernel_rfl) (by kernel_rfl) (fun _ _ _ h => h) (by kernel_rfl) (by rfl) hC10 (Or.inl ⟨by rfl, ?_⟩) hH10 (fun hC11 hH11 => ?_)
              rotate_left
              · (intro w9 hSw; obtain ⟨hSw, hLw⟩ := hSw; clear hLw; (try dsimp only at hSw); (go_split_ands; go_simp); (try with_reducible rfl))
              clear hC10 hH10
              try simp only [Act.put, List.setIfInBounds_toArray, List.set_cons_zero, List.set_cons_succ]
              refine wpAnyT_take (i := 11) (oi := { dst := some 309, op := Op.binOp BinOp.rem 3 (Operand.tmp 308) (Operand.const (Value.int IntKind.i64 4)) 3, type := 3, pos := "top12.go:70", after := #[{ on := 10, ground := Ground.data }], guard := none }) (v := ?_) rfl (by kernel_rfl) (by kernel_rfl) (by kernel_rfl) (fun _ _ _ h => h) (by kernel_rfl) (by rfl) hC11 (Or.inl ⟨by rfl, ?_⟩) hH11 (fun hC12 hH12 => ?_)
              rotate_left
              · (intro w9 hSw; obtain ⟨hSw, hLw⟩ := hSw; clear hLw; (try dsimp only at hSw); (go_split_ands; go_simp); (try with_reducible rfl))
              clear hC11 hH11
              try simp only [Act.put, List.setIfInBounds_toArray, List.set_cons_zero, List.set_cons_succ]
              refine wpAnyT_take (i := 13) (oi := { dst := some 311, op := Op.fieldAddr 43 (Operand.tmp 29) 0, type := 0, pos := "top12.go:70", after := #[], guard := none }) (v := ?_) rfl (by kernel_rfl) (by kernel_rfl) (by kernel_rfl) (fun _ _ _ h => h) (by kernel_rfl) (by rfl) hC12 (Or.inl ⟨by rfl, ?_⟩) hH12 (fun hC13 hH13 => ?_)
              rotate_left
              · (intro w9 hSw; obtain ⟨hSw, hLw⟩ := hSw; clear hLw; (try dsimp only at hSw); (go_split_ands; go_simp); (try with_reducible rfl))
              clear hC12 hH12
              try simp only [Act.put, List.setIfInBounds_toArray, List.set_cons_zero, List.set_cons_succ]
              refine wpAnyT_take (i := 14) (oi := { dst := some 312, op := Op.load 3 (Operand.tmp 311), type := 3, pos := "top12.go:70", after := #[{ on := 13, ground := Ground.data }], guard := none }) (v := ?_) rfl (by kernel_rfl) (by kernel_rfl) (by kernel_rfl) (fun _ _ _ h => h) (by kernel_rfl) (by rfl) hC13 (Or.inl ⟨by rfl, ?_⟩) hH13 (fun hC14 hH14 => ?_)
              rotate_left
              · (intro w9 hSw; obtain ⟨hSw, hLw⟩ := hSw; clear hLw; (try dsimp only at hSw); (go_split_ands; go_simp); (try with_reducible rfl))
              clear hC13 hH13
              try simp only [Act.put, List.setIfInBounds_toArray, List.set_cons_zero, List.set_cons_succ]
              refine wpAnyT_take (i := 15) (oi := { dst := some 313, op := Op.binOp BinOp.sub 3 (Operand.tmp 312) (Operand.const (Value.int IntKind.i64 1)) 3, type := 3, pos := "top12.go:70", after := #[{ on := 14, ground := Ground.data }], guard := none }) (v := ?_) rfl (by kernel_rfl) (by kernel_rfl) (by kernel_rfl) (fun _ _ _ h => h) (by kernel_rfl) (by rfl) hC14 (Or.inl ⟨by rfl, ?_⟩) hH14 (fun hC15 hH15 => ?_)
              rotate_left
              · (intro w9 hSw; obtain ⟨hSw, hLw⟩ := hSw; clear hLw; (try dsimp only at hSw); (go_split_ands; go_simp); (try with_reducible rfl))
              clear hC14 hH14
              try simp only [Act.put, List.setIfInBounds_toArray, List.set_cons_zero, List.set_cons_succ]
              refine wpAnyT_take (i := 16) (oi := { dst := some 314, op := Op.call { callee := Callee.builtin Builtin.max, args := #[Operand.const (Value.int IntKind.i64 0), Operand.tmp 313], argTypes := #[3, 3] }, type := 3, pos := "top12.go:70", after := #[{ on := 15, ground := Ground.data }], guard := none }) (v := ?_) rfl (by kernel_rfl) (by kernel_rfl) (by kernel_rfl) (fun _ _ _ h => h) (by kernel_rfl) (by rfl) hC15 (Or.inl ⟨by rfl, ?_⟩) hH15 (fun hC16 hH16 => ?_)
              rotate_left
              · (intro w9 hSw; obtain ⟨hSw, hLw⟩ := hSw; clear hLw; (try dsimp only at hSw); (go_split_ands; go_simp); (try with_reducible rfl))
              clear hC15 hH15
              try simp only [Act.put, List.setIfInBounds_toArray, List.set_cons_zero, List.set_cons_succ]
              refine wpAnyT_take (i := 17) (oi := { dst := some 315, op := Op.fieldAddr 43 (Operand.tmp 29) 0, type := 0, pos := "top12.go:70", after := #[], guard := none }) (v := ?_) rfl (by kernel_rfl) (by kernel_rfl) (by kernel_rfl) (fun _ _ _ h => h) (by kernel_rfl) (by rfl) hC16 (Or.inl ⟨by rfl, ?_⟩) hH16 (fun hC17 hH17 => ?_)
              rotate_left
              · (intro w9 hSw; obtain ⟨hSw, hLw⟩ := hSw; clear hLw; (try dsimp only at hSw); (go_split_ands; go_simp); (try with_reducible rfl))
              clear hC16 hH16
              try simp only [Act.put, List.setIfInBounds_toArray, List.set_cons_zero, List.set_cons_succ]
              refine wpAnyT_take (i := 18) (oi := { dst := some 316, op := Op.load 3 (Operand.tmp 315), type := 3, pos := "top12.go:70", after := #[{ on := 17, ground := Ground.data }], guard := none }) (v := ?_) rfl (by kernel_rfl) (by kernel_rfl) (by kernel_rfl) (fun _ _ _ h => h) (by kernel_rfl) (by rfl) hC17 (Or.inl ⟨by rfl, ?_⟩) hH17 (fun hC18 hH18 => ?_)
              rotate_left
              · (intro w9 hSw; obtain ⟨hSw, hLw⟩ := hSw; clear hLw; (try dsimp only at hSw); (go_split_ands; go_simp); (try with_reducible rfl))
              clear hC17 hH17
              try simp only [Act.put, List.setIfInBounds_toArray, List.set_cons_zero, List.set_cons_succ]
              clear e0 e1 e2 e5 n0 hfk hf1
              refine wpAnyT_one (i := 12) (o := { dst := some 310, op := Op.call { callee := Callee.value (Operand.func 9), args := #[Operand.const (Value.int IntKind.i64 0), Operand.tmp 309], argTypes := #[3, 3] }, type := 50, pos := "top12.go:70", after := #[{ on := 11, ground := Ground.data }], guard := none }) (by kernel_rfl) rfl (by kernel_rfl) hC18 (fun K hK => ?_)
              clear hC18 hH18
              go_simp
              (with_reducible refine (span_any _ _ _).mono ?_)
              rintro e wB ⟨rfl, hbq⟩
              have ZB := Lib.hid (ZA.out.grow hbq)
              have EB := Lib.hid (EA.out.grow hbq)
              have XB := Lib.hid (XA.out.grow hbq)
              clear hbq ZA EA XA
              go_wp2_with fail
              refine hK.out _ _ ?_ (fun hC19 hH19 => ?_)
              · exact ⟨⟨ZB.out.oi.cells.2.1, cellAt XB.out 0⟩, fun e he _ => by simp only [List.mem_cons, List.mem_nil_iff, or_false] at he; subst he; exact cellAt EB.out.lb 2⟩
              clear hK K
              try simp only [Act.put, List.setIfInBounds_toArray, List.set_cons_zero, List.set_cons_succ]
              refine wpAnyT_one (i := 19) (o := { dst := some 317, op := Op.call { callee := Callee.value (Operand.func 9), args := #[Operand.tmp 314, Operand.tmp 316], argTypes := #[3, 3] }, type := 50, pos := "top12.go:70", after := #[{ on := 16, ground := Ground.data }, { on := 18, ground := Ground.data }, { on := 12, ground := Ground.chain }], guard := none }) (by kernel_rfl) rfl (by kernel_rfl) hC19 (fun K hK => ?_)
              clear hC19 hH19
              go_simp
              (with_reducible refine (span_any _ _ _).mono ?_)
              rintro e wC ⟨rfl, hbq⟩
              have ZC := Lib.hid (ZB.out.grow hbq)
              have EC := Lib.hid (EB.out.grow hbq)
              have XC := Lib.hid (XB.out.grow hbq)
              clear hbq ZB EB XB
              go_wp2_with fail
              refine hK.out _ _ ?_ (fun hC20 hH20 => ?_)
              · exact ⟨⟨ZC.out.oi.cells.2.1, cellAt XC.out 0⟩, fun e he _ => by simp only [List.mem_cons, List.mem_nil_iff, or_false] at he; subst he; exact cellAt EC.out.lb 2⟩
              clear hK K
              try simp only [Act.put, List.setIfInBounds_toArray, List.set_cons_zero, List.set_cons_succ]
              refine wpAnyT_one (i := 20) (o := { dst := some 318, op := Op.call { callee := Callee.value (Operand.func 9), args := #[Operand.const (Value.int IntKind.i64 39), Operand.const (Value.int IntKind.i64 40)], argTypes := #[3, 3] }, type := 50, pos := "top12.go:70", after := #[{ on := 19, ground := Ground.chain }], guard := none }) (by kernel_rfl) rfl (by kernel_rfl) hC20 (fun K hK => ?_)
              clear hC20 hH20
              go_simp
              (with_reducible refine (span_any _ _ _).mono ?_)
              rintro e wD ⟨rfl, hbq⟩
              have ZD := Lib.hid (ZC.out.grow hbq)
              have ED := Lib.hid (EC.out.grow hbq)
              have XD := Lib.hid (XC.out.grow hbq)
              clear hbq ZC EC XC
              go_wp2_with fail
              refine hK.out _ _ ?_ (fun hC21 hH21 => ?_)
              · exact ⟨⟨ZD.out.oi.cells.2.1, cellAt XD.out 0⟩, fun e he _ => by simp only [List.mem_cons, List.mem_nil_iff, or_false] at he; subst he; exact cellAt ED.out.lb 2⟩
              clear hK K
              try simp only [Act.put, List.setIfInBounds_toArray, List.set_cons_zero, List.set_cons_succ]
              refine wpAnyT_take (i := 21) (oi := { dst := some 319, op := Op.build 53 #[(0, Operand.tmp 305), (1, Operand.tmp 306), (2, Operand.tmp 310), (3, Operand.tmp 317), (4, Operand.tmp 318)], type := 53, pos := "top12.go:70", after := #[{ on := 7, ground := Ground.data }, { on := 8, ground := Ground.data }, { on := 12, ground := Ground.data }, { on := 19, ground := Ground.data }, { on := 20, ground := Ground.data }], guard := none }) (v := ?_) rfl (by kernel_rfl) (by kernel_rfl) (by kernel_rfl) (fun _ _ _ h => h) (by kernel_rfl) (by rfl) hC21 (Or.inl ⟨by rfl, ?_⟩) hH21 (fun hC22 hH22 => ?_)
              rotate_left
              · (intro w9 hSw; refine (exec_tk (c := (ot : Int) % (g.cn : Int)) (s := (k : Nat)) (fl := 0) (fh := (g.fm k : Int) % 4) (tl := (g.fm k - 1 : Nat)) (th := (g.fm k : Nat)) (dl := 39) (dh := 40) (by rfl) (by rfl) (by rfl) (by rfl) (by rfl) (by rfl) w9).trans ?_; with_reducible rfl)
              clear hC21 hH21
              try simp only [Act.put, List.setIfInBounds_toArray, List.set_cons_zero, List.set_cons_succ]
              have HWL := Lib.hid (show #[.int .i64 ((ot : Int) % (g.cn : Int)), .int .i64 k, .int .i64 0, .int .i64 ((g.fm k : Int) % 4), .int .i64 (g.fm k - 1 : Nat), .int .i64 (g.fm k : Nat), .int .i64 39, .int .i64 40] = (tkC (g.wU ot) (g.sn + k)).toArray from by
                unfold tkC
                rw [show g.wU ot (g.sn + k) = g.wL ot k from by unfold GN.wU; rw [if_neg (by omega), Nat.add_sub_cancel_left]]
                rfl)
              have al := (Below.refl wD.heap.size wD).alloc (Nat.le_refl _) (.cells #[.int .i64 ((ot : Int) % (g.cn : Int)), .int .i64 k, .int .i64 0, .int .i64 ((g.fm k : Int) % 4), .int .i64 (g.fm k - 1 : Nat), .int .i64 (g.fm k : Nat), .int .i64 39, .int .i64 40] 53)
              have NE := Lib.hid (show BoxAt (wD.alloc (.cells #[.int .i64 ((ot : Int) % (g.cn : Int)), .int .i64 k, .int .i64 0, .int .i64 ((g.fm k : Int) % 4), .int .i64 (g.fm k - 1 : Nat), .int .i64 (g.fm k : Nat), .int .i64 39, .int .i64 40] 53)) wD.heap.size (tkC (g.wU ot) (g.sn + k)).toArray 53 from by rw [← HWL.out]; exact heap_alloc_new _ _)
              have ZE := Lib.hid (ZD.out.grow al)
              have EE := Lib.hid (ED.out.grow al)
              have XE := Lib.hid (XD.out.grow al)
              clear al ZD ED XD HWL
              refine wpAnyT_one (i := 22) (o := { dst := some 320, op := Op.buildSlice 37 1 #[(0, Operand.tmp 319)], type := 37, pos := "top12.go:70", after := #[{ on := 21, ground := Ground.data }], guard := none }) (by kernel_rfl) rfl (by kernel_rfl) hC22 (fun K hK => ?_)
              clear hC22 hH22
              refine step_tk (by rfl) (by rfl) (by rfl) ?_
              refine hK.out _ _ ?_ (fun hC23 hH23 => ?_)
              · exact ⟨⟨ZE.out.oi.cells.2.1, cellAt XE.out 0⟩, fun e he _ => by simp only [List.mem_cons, List.mem_nil_iff, or_false] at he; subst he; exact cellAt EE.out.lb 2⟩
              clear hK K
              try simp only [Act.put, List.setIfInBounds_toArray, List.set_cons_zero, List.set_cons_succ]
              generalize World.alloc wD _ = wE at *
              generalize wD.heap.size = xt at *
              refine wpAnyT_one (i := 23) (o := { dst := some 321, op := Op.call { callee := Callee.builtin Builtin.append, args := #[Operand.tmp 299, Operand.tmp 320], argTypes := #[37, 37] }, type := 37, pos := "top12.go:70", after := #[{ on := 1, ground := Ground.data }, { on := 22, ground := Ground.data }, { on := 20, ground := Ground.chain }], guard := none }) (by kernel_rfl) rfl (by kernel_rfl) hC23 (fun K hK => ?_)
              clear hC23 hH23
              refine step_appTk (w := wE) (by rfl) (.tmp 299) (.tmp 320) (by rfl) (by rfl) EE.out.lt (b := xt) (us := tkC (g.wU ot) (g.sn + k)) rfl (tkC_one (g.wU ot) (g.sn + k)) (by rfl) NE.out (by have := H3.out; omega) EE.out.sz ?_
              intro gg gcap wI hownI hgrI _
              have WI := Lib.hid (EE.out.wlate hgrI)
              have EI := Lib.hid (EE.out.late hgrI hownI)
              have BI := Lib.hid (EE.out.e1.bel.grown hgrI (by have := EE.out.e1.sz; omega) fun q hq => by have := (own_lt EE.out.lt q hq).1; have := EE.out.bx; omega)
              have ZI := Lib.hid (Z3.out.grow (by rw [HB.out]; exact BI.out))
              have XI := Lib.hid (XE.out.beside EE.out.lt hgrI (by decide))
              clear hownI hgrI ZE EE XE NE BI
              refine hK.out _ _ ?_ (fun hC24 hH24 => ?_)
              · exact ⟨⟨ZI.out.oi.cells.2.1, cellAt XI.out 0⟩, fun e he _ => by simp only [List.mem_cons, List.mem_nil_iff, or_false] at he; subst he; exact cellAt WI.out 2⟩
              clear hK K
              try simp only [Act.put, List.setIfInBounds_toArray, List.set_cons_zero, List.set_cons_succ]
              refine wpAnyT_take (i := 24) (oi := { dst := some 322, op := Op.fieldAddr 39 (Operand.tmp 27) 2, type := 0, pos := "top12.go:70", after := #[{ on := 0, ground := Ground.phase }, { on := 1, ground := Ground.phase }, { on := 2, ground := Ground.phase }, { on := 3, ground := Ground.phase }, { on := 4, ground := Ground.phase }, { on := 5, ground := Ground.phase }, { on := 6, ground := Ground.phase }, { on := 7, ground := Ground.phase }, { on := 8, ground := Ground.phase }, { on := 9, ground := Ground.phase }, { on := 10, ground := Ground.phase }, { on := 11, ground := Ground.phase }, { on := 12, ground := Ground.phase }, { on := 13, ground := Ground.phase }, { on := 14, ground := Ground.phase }, { on := 15, ground := Ground.phase }, { on := 16, ground := Ground.phase }, { on := 17, ground := Ground.phase }, { on := 18, ground := Ground.phase }, { on := 19, ground := Ground.phase }, { on := 20, ground := Ground.phase }, { on := 21, ground := Ground.phase }, { on := 22, ground := Ground.phase }, { on := 23, ground := Ground.phase }], guard := none }) (v := ?_) rfl (by kernel_rfl) (by kernel_rfl) (by kernel_rfl) (fun _ _ _ h => h) (by kernel_rfl) (by rfl) hC24 (Or.inl ⟨by rfl, ?_⟩) hH24 (fun hC25 hH25 => ?_)
              rotate_left
              · (intro w9 hSw; obtain ⟨hSw, hLw⟩ := hSw; clear hLw; (try dsimp only at hSw); (go_split_ands; go_simp); (try with_reducible rfl))
              clear hC24 hH24
              try simp only [Act.put, List.setIfInBounds_toArray, List.set_cons_zero, List.set_cons_succ]
              have y2 := cellAt WI.out 2
              have f2 := freeAt WI.out 2
              simp only [List.getElem?_toArray, List.getElem?_cons_zero, List.getElem?_cons_succ] at y2
              have ZJ := Lib.hid (Z3.out.grow (by rw [HB.out]; exact EI.out.e1.bel))
              have XJ := Lib.hid (XI.out.set ⟨x27, 2, none⟩ (.slice (some ⟨gg, 0, none⟩) (g.sn + k + 1) gcap) (boxes_ne XI.out WI.out (by decide)))
              clear ZI XI
              refine wpAnyT_one (i := 25) (o := { dst := none, op := Op.store 37 (Operand.tmp 322) (Operand.tmp 321), type := 0, pos := "top12.go:70", after := #[{ on := 24, ground := Ground.data }, { on := 23, ground := Ground.data }, { on := 23, ground := Ground.chain }, { on := 0, ground := Ground.phase }, { on := 1, ground := Ground.phase }, { on := 2, ground := Ground.phase }, { on := 3, ground := Ground.phase }, { on := 4, ground := Ground.phase }, { on := 5, ground := Ground.phase }, { on := 6, ground := Ground.phase }, { on := 7, ground := Ground.phase }, { on := 8, ground := Ground.phase }, { on := 9, ground := Ground.phase }, { on := 10, ground := Ground.phase }, { on := 11, ground := Ground.phase }, { on := 12, ground := Ground.phase }, { on := 13, ground := Ground.phase }, { on := 14, ground := Ground.phase }, { on := 15, ground := Ground.phase }, { on := 16, ground := Ground.phase }, { on := 17, ground := Ground.phase }, { on := 18, ground := Ground.phase }, { on := 19, ground := Ground.phase }, { on := 20, ground := Ground.phase }, { on := 21, ground := Ground.phase }, { on := 22, ground := Ground.phase }, { on := 23, ground := Ground.phase }], guard := none }) (by kernel_rfl) rfl (by kernel_rfl) hC25 (fun K hK => ?_)
              clear hC25 hH25
              go_simp
              refine hK.out _ _ ?_ (fun hC26 hH26 => ?_)
              · exact ⟨⟨ZJ.out.oi.cells.2.1, cellAt XJ.out 0⟩, fun e he h => by simp only [List.mem_cons, List.mem_nil_iff, or_false] at he; subst he; exact absurd h (by intro hx; exact Bool.false_ne_true (hx.symm.trans (by kernel_rfl)))⟩
              clear hK K
              try simp only [Act.put, List.setIfInBounds_toArray, List.set_cons_zero, List.set_cons_succ]
              refine wpAnyT_done (by kernel_rfl) ?_ _
              clear hC26 hH26 y2 f2 WI ZJ XJ
              generalize World.setCell wI _ _ = wJ at *
              go_wp2_with fail
              first | rw [HW.out] | rw [show ((k : Int) + 1) = ((k + 1 : Nat) : Int) from rfl]
              exact ⟨⟨k + 1, some ⟨gg, 0, none⟩, gcap, hlt, rfl, EI.out⟩, hmeas⟩
          · have hlt' : ¬ (k : Int) < g.sn := by omega
            obtain rfl : k = g.sn := by omega
            have y0 := cellAt E8.out.e1.wb 0
            have y1 := cellAt E8.out.e1.wb 1
            have y2 := cellAt E8.out.e1.wb 2
            have z0 := cellAt E8.out.lb 0
            have z1 := cellAt E8.out.lb 1
            have z2 := cellAt E8.out.lb 2
            simp only [List.getElem?_toArray, List.getElem?_cons_zero, List.getElem?_cons_succ] at y0 y1 y2 z0 z1 z2
            go_upto_region 52 with (fail)
            clear y0 y1 y2 z0 z1 z2
            have al := (Below.refl wr.heap.size wr).alloc (Nat.le_refl _) (.cells #[.int .i64 g.cn, .slice so g.sn so2, .slice ta g.sn ta2, .int .i64 g.cn, .slice so g.sn so2, .slice tb (g.sn + g.sn) tb2] 39)
            have EF := Lib.hid (show E3 g rn rf ot w B wr.heap.size so so2 ta ta2 tb tb2 sa sn sf (wr.alloc (.cells #[.int .i64 g.cn, .slice so g.sn so2, .slice ta g.sn ta2, .int .i64 g.cn, .slice so g.sn so2, .slice tb (g.sn + g.sn) tb2] 39)) from
              ⟨Z8.out.oi.bel.next al, E8.out.e1.db.grow al, Row.grow (sm_row E8.out.e1.os (by have := H3.out; unfold maxLen; omega)) al, Row.grow (tk_row E8.out.e1.ot (by have := H3.out; unfold maxLen; omega)) al, Row.grow (tk_row E8.out.lt (by have := H3.out; unfold maxLen; omega)) al, Row.grow Z8.out.sh al, heap_alloc_new _ _⟩)
            have HFM := Lib.hid HF.out
            clear al E8 Z8
            generalize World.alloc wr _ = wA at *
            generalize wr.heap.size = x54 at *
            go_loopw [328] (fun i W => ∃ q : Nat, q ≤ 2 ∧ i = .int .i64 q ∧ E3 g rn rf ot w B x54 so so2 ta ta2 tb tb2 sa sn sf W) (fun i _ => 2 - (intOf i).toNat)
            case atStart => exact ⟨0, by omega, rfl, EF.out⟩
            case round =>
              clear EF
              obtain ⟨q, hq, rfl, hE⟩ := hrel
              have EG := Lib.hid hE
              clear hE
              by_cases hqt : q < 2
              · have hqt' : (q : Int) < 2 := by omega
                have hmeas2 : 2 - (q + 1) < 2 - q := by omega
                obtain ⟨tx, tn, tx2, T, hc0, hc1, hc2, hT, hV, hF1⟩ : ∃ (tx : Option Addr) (tn tx2 : Nat) (T : Nat → Wa.Tk), wr.cell? ⟨x54, q * 3, none⟩ = some (.int .i64 g.cn) ∧ wr.cell? ⟨x54, q * 3 + 1, none⟩ = some (.slice so g.sn so2) ∧ wr.cell? ⟨x54, q * 3 + 2, none⟩ = some (.slice tx tn tx2) ∧
                    Row wr tx tn 8 (fun i j => (T i).cell j) ∧ Wa.Valid g.cn g.sn tn (g.wS rn rf) T ∧ Wa.First (g.wS rn rf) T g.sn tn g.to := by
                  rcases (show q = 0 ∨ q = 1 by omega) with rfl | rfl
                  · exact ⟨ta, g.sn, ta2, g.wT, cellAt EG.out.ab 0, cellAt EG.out.ab 1, cellAt EG.out.ab 2, EG.out.t1, valid_T OK.out HDV.out H3.out H1.out.1 HFM.out rn rf, first_T OK.out HDV.out H3.out H1.out.1 HFM.out rn rf⟩
                  · exact ⟨tb, g.sn + g.sn, tb2, g.wU ot, cellAt EG.out.ab 3, cellAt EG.out.ab 4, cellAt EG.out.ab 5, EG.out.t2, valid_U OK.out HDV.out H3.out H1.out.1 HFM.out rn rf ot, first_U OK.out HDV.out H3.out H1.out.1 HFM.out rn rf ot⟩
                have hi : ∀ W, (Instr.indexAt 54 (.slice (some ⟨x54, 0, none⟩) 2 2) (.int .i64 q)).run Tryz.prog W = .ok (.pointer (some ⟨x54, q * 3, none⟩)) W := fun W => by
                  have h := run_indexAt_row (w := W) (P := Tryz.prog) (oa := some ⟨x54, 0, none⟩) (cap := 2) Tryz.underlying54 size_wg rfl hqt
                  simpa [blk, ofs] using h
                have HT := Lib.hid hT
                have HV := Lib.hid hV
                have HFI := Lib.hid hF1
                clear hT hV hF1
                go_upto_region 54 with (fail)
                have al := (Below.refl wr.heap.size wr).alloc (Nat.le_refl _) (.cells #[.int .i64 g.cn, .slice so g.sn so2, .slice tx tn tx2] 39)
                have EH := Lib.hid (show E4 g rn rf ot w B x54 wr.heap.size so so2 ta ta2 tb tb2 tx tn tx2 T sa sn sf (wr.alloc (.cells #[.int .i64 g.cn, .slice so g.sn so2, .slice tx tn tx2] 39)) from ⟨EG.out.grow al, Row.grow HT.out al, heap_alloc_new _ _⟩)
                clear al EG HT hc0 hc1 hc2 hi
                generalize World.alloc wr _ = wB at *
                generalize wr.heap.size = x31 at *
                go_wp2_with fail
                go_loopw [334, 32] (fun i v W => ∃ c : Nat, c ≤ g.cn ∧ i = .int .i64 c ∧ v = .int .i64 (g.dueS rn rf c : Nat) ∧ E4 g rn rf ot w B x54 x31 so so2 ta ta2 tb tb2 tx tn tx2 T sa sn sf W) (fun i _ _ => g.cn - (intOf i).toNat)
                case atStart => exact ⟨0, Nat.zero_le _, rfl, rfl, EH.out⟩
                case round =>
                  clear EH
                  obtain ⟨c, hc, rfl, rfl, hE⟩ := hrel
                  have EI := Lib.hid hE
                  clear hE
                  by_cases hct : c < g.cn
                  · as_aux_lemma => --@
                      have hct' : (c : Int) < g.cn := by omega
                      have hmeas3 : g.cn - (c + 1) < g.cn - c := by omega
                      have hiB : ∀ W, (Instr.indexAt 24 (.slice (some ⟨B + 1, 0, none⟩) g.cn g.cn) (.int .i64 c)).run Tryz.prog W = .ok (.pointer (some ⟨B + 1, c, none⟩)) W := fun W => by
                        have h := run_indexAt_row (w := W) (P := Tryz.prog) (oa := some ⟨B + 1, 0, none⟩) (cap := g.cn) Tryz.underlying24 size_int rfl hct
                        simpa [blk, ofs] using h
                      have d0 := (cellAt EI.out.e3.db c).trans (hotC_at _ hct)
                      have x0 := cellAt EI.out.xb 0
                      have x1 := cellAt EI.out.xb 1
                      have x2 := cellAt EI.out.xb 2
                      simp only [List.getElem?_toArray, List.getElem?_cons_zero, List.getElem?_cons_succ] at x0 x1 x2
                      have C1 := Lib.hid (fun W hs ht => due_first (so := so) (so2 := so2) (tx := tx) (tx2 := tx2) HV.out HFI.out W hs ht hct)
                      go_upto_region 59 with (go_at_call 10; (with_reducible refine (C1.out _ EI.out.e3.ss EI.out.tt).mono ?_); rintro e wC ⟨rfl, hbC⟩)
                      have hdle : g.dueN rn rf g.sn c ≤ 3000 := Nat.le_trans (dueN_le HFM.out) (by have := H3.out; omega)
                      have HSM := Lib.hid (show g.dueS rn rf (c + 1) = g.dueS rn rf c + g.dueN rn rf g.sn c from rfl)
                      have hsle : g.dueS rn rf c ≤ 9000 := Nat.le_trans (dueS_le H3.out HFM.out c) (by have := H1.out.2; omega)
                      generalize g.dueN rn rf g.sn c = dn at *
                      generalize g.dueS rn rf c = sm at *
                      have al := (Below.refl wC.heap.size wC).alloc (Nat.le_refl _) (.cells #[.int .i64 dn, .int .i64 dn] 50)
                      have EJ := Lib.hid ((EI.out.grow hbC).grow al)
                      have X0 := Lib.hid (show BoxAt (wC.alloc (.cells #[.int .i64 dn, .int .i64 dn] 50)) wC.heap.size #[.int .i64 dn, .int .i64 dn] 50 from heap_alloc_new _ _)
                      clear al EI hbC C1 hiB d0 x0 x1 x2
                      generalize World.alloc wC _ = wD at *
                      generalize wC.heap.size = x35 at *
                      have D0 := (Below.refl wD.heap.size wD).drew
                      have X1 := Lib.hid (X0.out.grow D0)
                      refine wp_region_stg (S := (fun w' : World => w'.cell? ⟨x35, 0, none⟩ = some (.int .i64 dn) ∧ w'.cell? ⟨x35, 1, none⟩ = some (.int .i64 dn))) (L := []) (D := []) (by kernel_rfl) (by kernel_rfl) ⟨cellAt X1.out 0, cellAt X1.out 1⟩ (by intro e he; cases he) (fun hC0 hH0 => ?_)
                      have EJ1 := Lib.hid (EJ.out.grow D0)
                      clear EJ X0 D0
                      generalize World.drew wD = wR at *
                      refine wpAnyT_take (i := 0) (oi := { dst := some 345, op := Op.move (Operand.tmp 36), type := 33, pos := "top12.go:77", after := #[], guard := none }) (v := ?_) rfl (by kernel_rfl) (by kernel_rfl) (by kernel_rfl) (fun _ _ _ h => h) (by kernel_rfl) (by rfl) hC0 (Or.inl ⟨by rfl, ?_⟩) hH0 (fun hC1 hH1 => ?_)
                      rotate_left
                      · (intro w9 hSw; obtain ⟨hSw, hLw⟩ := hSw; clear hLw; (try dsimp only at hSw); (go_split_ands; go_simp); (try with_reducible rfl))
                      clear hC0 hH0
                      try simp only [Act.put, List.setIfInBounds_toArray, List.set_cons_zero, List.set_cons_succ]
                      refine wpAnyT_take (i := 1) (oi := { dst := some 346, op := Op.binOp BinOp.neq 33 (Operand.tmp 345) (Operand.const (Value.int IntKind.i64 0)) 33, type := 4, pos := "top12.go:77", after := #[{ on := 0, ground := Ground.data }], guard := none }) (v := ?_) rfl (by kernel_rfl) (by kernel_rfl) (by kernel_rfl) (fun _ _ _ h => h) (by kernel_rfl) (by rfl) hC1 (Or.inl ⟨by rfl, ?_⟩) hH1 (fun hC2 hH2 => ?_)
                      rotate_left
                      · (intro w9 hSw; obtain ⟨hSw, hLw⟩ := hSw; clear hLw; (try dsimp only at hSw); (go_split_ands; go_simp); (try with_reducible rfl))
                      clear hC1 hH1
                      try simp only [Act.put, List.setIfInBounds_toArray, List.set_cons_zero, List.set_cons_succ]
                      refine wpAnyT_take (i := 2) (oi := { dst := some 347, op := Op.move (Operand.tmp 346), type := 4, pos := "top12.go:77", after := #[{ on := 1, ground := Ground.data }], guard := none }) (v := ?_) rfl (by kernel_rfl) (by kernel_rfl) (by kernel_rfl) (fun _ _ _ h => h) (by kernel_rfl) (by rfl) hC2 (Or.inl ⟨by rfl, ?_⟩) hH2 (fun hC3 hH3 => ?_)
                      rotate_left
                      · (intro w9 hSw; obtain ⟨hSw, hLw⟩ := hSw; clear hLw; (try dsimp only at hSw); (go_split_ands; go_simp); (try with_reducible rfl))
                      clear hC2 hH2
                      try simp only [Act.put, List.setIfInBounds_toArray, List.set_cons_zero, List.set_cons_succ]
                      refine wpAnyT_take (i := 3) (oi := { dst := some 348, op := Op.load 50 (Operand.tmp 35), type := 50, pos := "top12.go:77", after := #[{ on := 2, ground := Ground.guard }], guard := some (2, false) }) (v := ?_) rfl (by kernel_rfl) (by kernel_rfl) (by kernel_rfl) (fun _ _ _ h => h) (by kernel_rfl) (by rfl) hC3 (Or.inl ⟨by rfl, ?_⟩) hH3 (fun hC4 hH4 => ?_)
                      rotate_left
                      · (intro w9 hSw; obtain ⟨hSw, hLw⟩ := hSw; clear hLw; (try dsimp only at hSw); (go_split_ands; go_simp); (try with_reducible rfl))
                      clear hC3 hH3
                      try simp only [Act.put, List.setIfInBounds_toArray, List.set_cons_zero, List.set_cons_succ]
                      refine wpAnyT_take (i := 4) (oi := { dst := some 349, op := Op.move (Operand.tmp 34), type := 3, pos := "top12.go:77", after := #[{ on := 2, ground := Ground.guard }], guard := some (2, false) }) (v := ?_) rfl (by kernel_rfl) (by kernel_rfl) (by kernel_rfl) (fun _ _ _ h => h) (by kernel_rfl) (by rfl) hC4 (Or.inl ⟨by rfl, ?_⟩) hH4 (fun hC5 hH5 => ?_)
                      rotate_left
                      · (intro w9 hSw; obtain ⟨hSw, hLw⟩ := hSw; clear hLw; (try dsimp only at hSw); (go_split_ands; go_simp); (try with_reducible rfl))
                      clear hC4 hH4
                      try simp only [Act.put, List.setIfInBounds_toArray, List.set_cons_zero, List.set_cons_succ]
                      refine wpAnyT_take (i := 5) (oi := { dst := some 350, op := Op.move (Operand.tmp 34), type := 3, pos := "top12.go:77", after := #[{ on := 2, ground := Ground.guard }], guard := some (2, false) }) (v := ?_) rfl (by kernel_rfl) (by kernel_rfl) (by kernel_rfl) (fun _ _ _ h => h) (by kernel_rfl) (by rfl) hC5 (Or.inl ⟨by rfl, ?_⟩) hH5 (fun hC6 hH6 => ?_)
                      rotate_left
                      · (intro w9 hSw; obtain ⟨hSw, hLw⟩ := hSw; clear hLw; (try dsimp only at hSw); (go_split_ands; go_simp); (try with_reducible rfl))
                      clear hC5 hH5
                      try simp only [Act.put, List.setIfInBounds_toArray, List.set_cons_zero, List.set_cons_succ]
                      refine wpAnyT_one (i := 6) (o := { dst := some 351, op := Op.call { callee := Callee.value (Operand.func 9), args := #[Operand.tmp 349, Operand.tmp 350], argTypes := #[3, 3] }, type := 50, pos := "top12.go:77", after := #[{ on := 4, ground := Ground.data }, { on := 5, ground := Ground.data }, { on := 2, ground := Ground.chain }, { on := 2, ground := Ground.guard }], guard := some (2, false) }) (by kernel_rfl) rfl (by kernel_rfl) hC6 (fun K hK => ?_)
                      clear hC6 hH6
                      go_simp
                      (with_reducible refine (span_any _ _ _).mono ?_)
                      rintro e wQ ⟨rfl, hbQ⟩
                      have X2 := Lib.hid (X1.out.grow hbQ)
                      have EK := Lib.hid (EJ1.out.grow hbQ)
                      clear EJ1 X1 hbQ
                      go_wp2_with fail
                      refine hK.out _ _ ?_ (fun hC7 hH7 => ?_)
                      · exact ⟨⟨cellAt X2.out 0, cellAt X2.out 1⟩, fun e he => by cases he⟩
                      clear hK K
                      try simp only [Act.put, List.setIfInBounds_toArray, List.set_cons_zero, List.set_cons_succ]
                      refine wpAnyT_take (i := 7) (oi := { dst := some 352, op := Op.binOp BinOp.neq 50 (Operand.tmp 348) (Operand.tmp 351) 50, type := 4, pos := "top12.go:77", after := #[{ on := 3, ground := Ground.data }, { on := 6, ground := Ground.data }, { on := 2, ground := Ground.guard }], guard := some (2, false) }) (v := ?_) rfl (by kernel_rfl) (by kernel_rfl) (by kernel_rfl) (fun _ _ _ h => h) (by kernel_rfl) (by rfl) hC7 (Or.inl ⟨by rfl, ?_⟩) hH7 (fun hC8 hH8 => ?_)
                      rotate_left
                      · (intro w9 hSw; obtain ⟨hSw, hLw⟩ := hSw; clear hLw; (try dsimp only at hSw); (go_split_ands; go_simp); (try with_reducible rfl))
                      clear hC7 hH7
                      try simp only [Act.put, List.setIfInBounds_toArray, List.set_cons_zero, List.set_cons_succ]
                      refine wpAnyT_take (i := 8) (oi := { dst := some 353, op := Op.pick (Operand.tmp 347) (Operand.const (Value.bool true)) (Operand.tmp 352), type := 4, pos := "top12.go:77", after := #[{ on := 2, ground := Ground.data }, { on := 7, ground := Ground.data }], guard := none }) (v := ?_) rfl (by kernel_rfl) (by kernel_rfl) (by kernel_rfl) (fun _ _ _ h => h) (by kernel_rfl) (by rfl) hC8 (Or.inl ⟨by rfl, ?_⟩) hH8 (fun hC9 hH9 => ?_)
                      rotate_left
                      · (intro w9 hSw; obtain ⟨hSw, hLw⟩ := hSw; clear hLw; (try dsimp only at hSw); (go_split_ands; go_simp); (try with_reducible rfl))
                      clear hC8 hH8
                      try simp only [Act.put, List.setIfInBounds_toArray, List.set_cons_zero, List.set_cons_succ]
                      refine wpAnyT_done (by kernel_rfl) ?_ _
                      clear hC9 hH9 X2
                      have HADD := Lib.hid (show ((sm : Nat) : Int) + (dn : Nat) = ((sm + dn : Nat) : Int) from rfl)
                      go_upto_region 63 with (fail)
                      obtain ⟨N, hN⟩ : ∃ N, wQ.heap.size = N := ⟨_, rfl⟩
                      have HN := Lib.hid hN
                      clear hN
                      go_wp2_with fail
                      go_loopw [359, 37] (fun i v W => ∃ (k m : Nat) (ma : Option Addr) (mc : Nat), k ≤ sn ∧ m = min 6 k ∧ i = .int .i64 k ∧ v = .slice ma m mc ∧ W.ownsRow N 3 1 (.slice ma m mc) m (rowVals (fun i => ((mnF sf i : Nat) : Int)) m) ∧ Below N wQ W) (fun i _ _ => sn - (intOf i).toNat)
                      case atStart => exact ⟨0, 0, none, 0, Nat.zero_le _, rfl, rfl, rfl, ⟨rfl, .inl ⟨rfl, rfl⟩⟩, Below.refl _ _⟩
                      case round =>
                        obtain ⟨k, m, ma, mc, hk, hm, rfl, rfl, hown, hbl⟩ := hrel
                        have OW := Lib.hid hown
                        have BL := Lib.hid hbl
                        have HMM := Lib.hid hm
                        have EL := Lib.hid (EK.out.grow (by rw [HN.out]; exact hbl))
                        clear hown hbl hm EK
                        by_cases hkt : k < sn
                        · as_aux_lemma => --@
                            have hkt' : (k : Int) < sn := by omega
                            have hmeas4 : sn - (k + 1) < sn - k := by omega
                            have hiS := fun W => run_indexAt_row (w := W) (cap := sc) Tryz.underlying30 size_u8 (EL.out.e3.sh.plain (by omega)) hkt
                            have cS := EL.out.e3.sh.cells k hkt 0 (by omega)
                            simp only [Nat.mul_one, Nat.add_zero] at hiS cS
                            have HW := Lib.hid (show wrap64 ((k : Int) + 1) = ((k + 1 : Nat) : Int) from w64 (by have := EL.out.e3.sh.small; unfold maxLen at this; omega))
                            have hy := HSF.out k
                            have HY := Lib.hid (show mnF sf k = sf k % 21 from rfl)
                            generalize sf k = y at *
                            have e5 : IntKind.i64.wrap ((y : Nat) : Int) = y := by rw [IntKind.wrap_i64]; omega
                            have e3 : ((y : Nat) : Int).tmod 21 = ((y % 21 : Nat) : Int) := by rw [Int.tmod_eq_emod_of_nonneg (by omega)]; rfl
                            clear hy
                            by_cases h6 : m < 6
                            · have h6' : (m : Int) < 6 := by omega
                              obtain ⟨i0, hi0, hz0, hz1, hz2⟩ := info_parts info_int
                              obtain ⟨z, hz⟩ : ∃ z : Nat, z = y % 21 := ⟨_, rfl⟩
                              have HZ := Lib.hid hz
                              rw [← hz] at e3
                              clear hz
                              have al := (Below.refl wr.heap.size wr).alloc (Nat.le_refl _) (.cells #[.int .i64 z] 3)
                              have OX := Lib.hid (own_grow OW.out al)
                              have BX := Lib.hid (BL.out.trans (al.mono (by have := BL.out.size; have := HN.out; omega)))
                              have HSZ := Lib.hid (show N ≤ (wr.alloc (.cells #[.int .i64 z] 3)).heap.size by have := BX.out.size; have := HN.out; omega)
                              clear al
                              go_wp2_with (at_builtin; refine wpList_append_own _ rfl _ _ 24 rfl N 3 i0 _ 1 8 Tryz.underlying24 hi0 hz0 hz1 hz2 rfl (by decide) _ m _ rfl OX.out ⟨wr.heap.size, 0, none⟩ 1 1 [.int .i64 z] rfl rfl ?dw1 ?dw2 ?dw3 ?dw4 ?dw5 ?_)
                              case dw1 =>
                                intro j u hj
                                match j, hj with
                                | 0, hj => cases hj; exact cellAt (show BoxAt (wr.alloc (.cells #[.int .i64 z] 3)) wr.heap.size #[.int .i64 z] 3 from heap_alloc_new _ _) 0
                              case dw2 => exact fun u hu => by rw [List.mem_singleton] at hu; subst hu; rfl
                              case dw3 => unfold maxLen; omega
                              case dw4 => omega
                              case dw5 => exact HSZ.out
                              intro v' w5 hown' hgrow _
                              rw [show [Value.int .i64 (z : Nat)] = [Value.int .i64 ((mnF sf m : Nat) : Int)] from by rw [show mnF sf m = z from by rw [HZ.out, ← HY.out]; congr 1; have := HMM.out; omega], rowVals_snoc (fun i => ((mnF sf i : Nat) : Int)) m] at hown'
                              obtain ⟨oa5, cap5, rfl⟩ := own_slice hown'
                              have OY := Lib.hid hown'
                              have HM1 := Lib.hid (show m + 1 = min 6 (k + 1) by have := HMM.out; omega)
                              have BY := Lib.hid (BX.out.grown hgrow (by have := HSZ.out; have := HN.out; omega) fun j e => (own_lt OX.out j e).1)
                              clear hown' hgrow OX BX HSZ hi0 hz0 hz1 hz2
                              go_wp2_with fail
                              rw [HW.out]
                              exact ⟨⟨k + 1, m + 1, oa5, cap5, hkt, HM1.out, rfl, rfl, OY.out, BY.out⟩, hmeas4⟩
                            · have h6' : ¬ (m : Int) < 6 := by omega
                              have HM1 := Lib.hid (show m = min 6 (k + 1) by have := HMM.out; omega)
                              go_wp2_with fail
                              rw [HW.out]
                              exact ⟨⟨k + 1, m, ma, mc, hkt, HM1.out, rfl, rfl, OW.out, BL.out⟩, hmeas4⟩
                        · have hkt' : ¬ (k : Int) < sn := by omega
                          have hm6 : m ≤ 6 := by rw [HMM.out]; exact Nat.min_le_left _ _
                          have MR := Lib.hid (men_row OW.out (by unfold maxLen; omega))
                          obtain ⟨cz, hcz, hz⟩ : ∃ cz : Nat, min ((dn : Nat) : Int) 500 = (cz : Int) ∧ cz ≤ 500 := ⟨min dn 500, by omega, by omega⟩
                          have HCZ := Lib.hid hcz
                          have C2 := Lib.hid (fun W h => share_first (mc := mc) (ma := ma) hz hm6 (mnF_le sf) W h)
                          have HZ := Lib.hid hz
                          clear hz OW BL hcz
                          go_upto_region 70 with (fail)
                          rw [HCZ.out]
                          go_upto_region 72 with (go_at_call 11; (with_reducible refine (C2.out _ MR.out).mono ?_); rintro e wF ⟨gs, rfl, hgs, hbF⟩)
                          have EM := Lib.hid (EL.out.grow hbF)
                          have MS := Lib.hid (MR.out.grow hbF)
                          have GR := Lib.hid hgs
                          clear EL MR hbF hgs C2 HCZ
                          go_wp2_with fail
                          go_loopw [383, 43, 44] (fun i v u W => ∃ j : Nat, j ≤ m ∧ i = .int .i64 j ∧ v = .int .i64 (sumN (mnF sf) j : Nat) ∧ u = .int .i64 (sumN (givF (mnF sf) m cz) j : Nat) ∧ W = wF) (fun i _ _ _ => m - (intOf i).toNat)
                          case atStart => exact ⟨0, Nat.zero_le _, rfl, rfl, rfl, rfl⟩
                          case round =>
                            obtain ⟨j, hj, rfl, rfl, rfl, rfl⟩ := hrel
                            by_cases hjt : j < m
                            · as_aux_lemma => --@
                                have hjt' : (j : Int) < m := by omega
                                have hmeas5 : m - (j + 1) < m - j := by omega
                                have hiM := fun W => run_indexAt_row (w := W) (cap := mc) Tryz.underlying24 size_int (MS.out.plain (by omega)) hjt
                                have cM := MS.out.at hjt
                                simp only [Nat.mul_one] at hiM
                                have hiG : ∀ W, (Instr.indexAt 24 (.slice (some ⟨gs, 0, none⟩) m m) (.int .i64 j)).run Tryz.prog W = .ok (.pointer (some ⟨gs, j, none⟩)) W := fun W => by
                                  have h := run_indexAt_row (w := W) (P := Tryz.prog) (oa := some ⟨gs, 0, none⟩) (cap := m) Tryz.underlying24 size_int rfl hjt
                                  simpa [blk, ofs] using h
                                have cG : wr.cell? ⟨gs, j, none⟩ = some (.int .i64 (givF (mnF sf) m cz j : Nat)) := by
                                  have h := GR.out.at hjt
                                  simpa [blk, ofs] using h
                                have hA := sumN_le (mnF_le sf) j
                                have hG : sumN (givF (mnF sf) m cz) j ≤ 500 * 6 := Nat.le_trans (sumN_le (fun i => giv_le (mnF sf) m cz i) j) (Nat.mul_le_mul HZ.out (by omega))
                                have HA1 := Lib.hid (show sumN (mnF sf) (j + 1) = sumN (mnF sf) j + mnF sf j from rfl)
                                have HG1 := Lib.hid (show sumN (givF (mnF sf) m cz) (j + 1) = sumN (givF (mnF sf) m cz) j + givF (mnF sf) m cz j from rfl)
                                have hb1 := mnF_le sf j
                                have hb2 := giv_le (mnF sf) m cz j
                                have hb3 := HZ.out
                                generalize sumN (mnF sf) j = n1 at *
                                generalize sumN (givF (mnF sf) m cz) j = n2 at *
                                generalize mnF sf j = n3 at *
                                generalize givF (mnF sf) m cz j = n4 at *
                                go_wp2_with fail
                                exact ⟨⟨j + 1, hjt, rfl, by rw [HA1.out]; rfl, by rw [HG1.out]; rfl, trivial⟩, hmeas5⟩
                            · have hjt' : ¬ (j : Int) < m := by omega
                              have hjm : j = m := by omega
                              have hsum : sumN (givF (mnF sf) m cz) j = if 0 < sumN (mnF sf) j then cz else 0 := by rw [hjm]; exact giv_sum _ _ _
                              clear hjm hj hjt
                              have HW3 := Lib.hid (succ64 (show c < 100 by have := H1.out.2; omega))
                              generalize sumN (mnF sf) j = n1 at *
                              generalize sumN (givF (mnF sf) m cz) j = n2 at *
                              by_cases hA : 0 < n1
                              · as_aux_lemma => --@
                                  rw [if_pos hA] at hsum
                                  subst hsum
                                  have hA' : (0 : Int) < n1 := by omega
                                  have hA2 : ((n1 : Int) == 0) = false := beq_false_of_ne (by omega)
                                  clear hA
                                  go_wp2_with fail
                                  rw [HW3.out]
                                  exact ⟨⟨c + 1, hct, rfl, by rw [HSM.out]; rfl, EM.out⟩, hmeas3⟩
                              · as_aux_lemma => --@
                                  obtain rfl : n1 = 0 := by omega
                                  rw [if_neg (by omega)] at hsum
                                  subst hsum
                                  clear hA
                                  go_wp2_with fail
                                  rw [HW3.out]
                                  exact ⟨⟨c + 1, hct, rfl, by rw [HSM.out]; rfl, EM.out⟩, hmeas3⟩
                  · as_aux_lemma => --@
                      have hct' : ¬ (c : Int) < g.cn := by omega
                      obtain rfl : c = g.cn := by omega
                      have hsle : g.dueS rn rf g.cn ≤ 9000 := Nat.le_trans (dueS_le H3.out HFM.out g.cn) (by have := H1.out.2; omega)
                      have x0 := cellAt EI.out.xb 0
                      have x1 := cellAt EI.out.xb 1
                      have x2 := cellAt EI.out.xb 2
                      simp only [List.getElem?_toArray, List.getElem?_cons_zero, List.getElem?_cons_succ] at x0 x1 x2
                      have C1 := Lib.hid (fun W hs ht => paid_first (so := so) (so2 := so2) (tx := tx) (tx2 := tx2) HV.out HFI.out W hs ht OK.out HDV.out)
                      generalize g.dueS rn rf g.cn = sm at *
                      go_upto_region 83 with (go_at_call 12; (with_reducible refine (C1.out _ EI.out.e3.ss EI.out.tt).mono ?_); rintro e wC ⟨rfl, hbC⟩)
                      have al := (Below.refl wC.heap.size wC).alloc (Nat.le_refl _) (.cells #[.int .i64 sm, .int .i64 sm] 50)
                      have EJ := Lib.hid ((EI.out.grow hbC).grow al)
                      have X0 := Lib.hid (show BoxAt (wC.alloc (.cells #[.int .i64 sm, .int .i64 sm] 50)) wC.heap.size #[.int .i64 sm, .int .i64 sm] 50 from heap_alloc_new _ _)
                      clear al EI hbC C1 x0 x1 x2
                      generalize World.alloc wC _ = wD at *
                      generalize wC.heap.size = x47 at *
                      have D0 := (Below.refl wD.heap.size wD).drew
                      have X1 := Lib.hid (X0.out.grow D0)
                      refine wp_region_stg (S := (fun w' : World => w'.cell? ⟨x47, 0, none⟩ = some (.int .i64 sm) ∧ w'.cell? ⟨x47, 1, none⟩ = some (.int .i64 sm))) (L := []) (D := []) (by kernel_rfl) (by kernel_rfl) ⟨cellAt X1.out 0, cellAt X1.out 1⟩ (by intro e he; cases he) (fun hC0 hH0 => ?_)
                      have EJ1 := Lib.hid (EJ.out.grow D0)
                      clear EJ X0 D0
                      generalize World.drew wD = wR at *
                      refine wpAnyT_take (i := 0) (oi := { dst := some 434, op := Op.move (Operand.tmp 48), type := 33, pos := "top12.go:101", after := #[], guard := none }) (v := ?_) rfl (by kernel_rfl) (by kernel_rfl) (by kernel_rfl) (fun _ _ _ h => h) (by kernel_rfl) (by rfl) hC0 (Or.inl ⟨by rfl, ?_⟩) hH0 (fun hC1 hH1 => ?_)
                      rotate_left
                      · (intro w9 hSw; obtain ⟨hSw, hLw⟩ := hSw; clear hLw; (try dsimp only at hSw); (go_split_ands; go_simp); (try with_reducible rfl))
                      clear hC0 hH0
                      try simp only [Act.put, List.setIfInBounds_toArray, List.set_cons_zero, List.set_cons_succ]
                      refine wpAnyT_take (i := 1) (oi := { dst := some 435, op := Op.binOp BinOp.neq 33 (Operand.tmp 434) (Operand.const (Value.int IntKind.i64 0)) 33, type := 4, pos := "top12.go:101", after := #[{ on := 0, ground := Ground.data }], guard := none }) (v := ?_) rfl (by kernel_rfl) (by kernel_rfl) (by kernel_rfl) (fun _ _ _ h => h) (by kernel_rfl) (by rfl) hC1 (Or.inl ⟨by rfl, ?_⟩) hH1 (fun hC2 hH2 => ?_)
                      rotate_left
                      · (intro w9 hSw; obtain ⟨hSw, hLw⟩ := hSw; clear hLw; (try dsimp only at hSw); (go_split_ands; go_simp); (try with_reducible rfl))
                      clear hC1 hH1
                      try simp only [Act.put, List.setIfInBounds_toArray, List.set_cons_zero, List.set_cons_succ]
                      refine wpAnyT_take (i := 2) (oi := { dst := some 436, op := Op.move (Operand.tmp 435), type := 4, pos := "top12.go:101", after := #[{ on := 1, ground := Ground.data }], guard := none }) (v := ?_) rfl (by kernel_rfl) (by kernel_rfl) (by kernel_rfl) (fun _ _ _ h => h) (by kernel_rfl) (by rfl) hC2 (Or.inl ⟨by rfl, ?_⟩) hH2 (fun hC3 hH3 => ?_)
                      rotate_left
                      · (intro w9 hSw; obtain ⟨hSw, hLw⟩ := hSw; clear hLw; (try dsimp only at hSw); (go_split_ands; go_simp); (try with_reducible rfl))
                      clear hC2 hH2
                      try simp only [Act.put, List.setIfInBounds_toArray, List.set_cons_zero, List.set_cons_succ]
                      refine wpAnyT_take (i := 3) (oi := { dst := some 437, op := Op.load 50 (Operand.tmp 47), type := 50, pos := "top12.go:101", after := #[{ on := 2, ground := Ground.guard }], guard := some (2, false) }) (v := ?_) rfl (by kernel_rfl) (by kernel_rfl) (by kernel_rfl) (fun _ _ _ h => h) (by kernel_rfl) (by rfl) hC3 (Or.inl ⟨by rfl, ?_⟩) hH3 (fun hC4 hH4 => ?_)
                      rotate_left
                      · (intro w9 hSw; obtain ⟨hSw, hLw⟩ := hSw; clear hLw; (try dsimp only at hSw); (go_split_ands; go_simp); (try with_reducible rfl))
                      clear hC3 hH3
                      try simp only [Act.put, List.setIfInBounds_toArray, List.set_cons_zero, List.set_cons_succ]
                      refine wpAnyT_take (i := 4) (oi := { dst := some 438, op := Op.move (Operand.tmp 32), type := 3, pos := "top12.go:101", after := #[{ on := 2, ground := Ground.guard }], guard := some (2, false) }) (v := ?_) rfl (by kernel_rfl) (by kernel_rfl) (by kernel_rfl) (fun _ _ _ h => h) (by kernel_rfl) (by rfl) hC4 (Or.inl ⟨by rfl, ?_⟩) hH4 (fun hC5 hH5 => ?_)
                      rotate_left
                      · (intro w9 hSw; obtain ⟨hSw, hLw⟩ := hSw; clear hLw; (try dsimp only at hSw); (go_split_ands; go_simp); (try with_reducible rfl))
                      clear hC4 hH4
                      try simp only [Act.put, List.setIfInBounds_toArray, List.set_cons_zero, List.set_cons_succ]
                      refine wpAnyT_take (i := 5) (oi := { dst := some 439, op := Op.move (Operand.tmp 32), type := 3, pos := "top12.go:101", after := #[{ on := 2, ground := Ground.guard }], guard := some (2, false) }) (v := ?_) rfl (by kernel_rfl) (by kernel_rfl) (by kernel_rfl) (fun _ _ _ h => h) (by kernel_rfl) (by rfl) hC5 (Or.inl ⟨by rfl, ?_⟩) hH5 (fun hC6 hH6 => ?_)
                      rotate_left
                      · (intro w9 hSw; obtain ⟨hSw, hLw⟩ := hSw; clear hLw; (try dsimp only at hSw); (go_split_ands; go_simp); (try with_reducible rfl))
                      clear hC5 hH5
                      try simp only [Act.put, List.setIfInBounds_toArray, List.set_cons_zero, List.set_cons_succ]
                      refine wpAnyT_one (i := 6) (o := { dst := some 440, op := Op.call { callee := Callee.value (Operand.func 9), args := #[Operand.tmp 438, Operand.tmp 439], argTypes := #[3, 3] }, type := 50, pos := "top12.go:101", after := #[{ on := 4, ground := Ground.data }, { on := 5, ground := Ground.data }, { on := 2, ground := Ground.chain }, { on := 2, ground := Ground.guard }], guard := some (2, false) }) (by kernel_rfl) rfl (by kernel_rfl) hC6 (fun K hK => ?_)
                      clear hC6 hH6
                      go_simp
                      (with_reducible refine (span_any _ _ _).mono ?_)
                      rintro e wQ ⟨rfl, hbQ⟩
                      have X2 := Lib.hid (X1.out.grow hbQ)
                      have EK := Lib.hid (EJ1.out.grow hbQ)
                      clear EJ1 X1 hbQ
                      go_wp2_with fail
                      refine hK.out _ _ ?_ (fun hC7 hH7 => ?_)
                      · exact ⟨⟨cellAt X2.out 0, cellAt X2.out 1⟩, fun e he => by cases he⟩
                      clear hK K
                      try simp only [Act.put, List.setIfInBounds_toArray, List.set_cons_zero, List.set_cons_succ]
                      refine wpAnyT_take (i := 7) (oi := { dst := some 441, op := Op.binOp BinOp.neq 50 (Operand.tmp 437) (Operand.tmp 440) 50, type := 4, pos := "top12.go:101", after := #[{ on := 3, ground := Ground.data }, { on := 6, ground := Ground.data }, { on := 2, ground := Ground.guard }], guard := some (2, false) }) (v := ?_) rfl (by kernel_rfl) (by kernel_rfl) (by kernel_rfl) (fun _ _ _ h => h) (by kernel_rfl) (by rfl) hC7 (Or.inl ⟨by rfl, ?_⟩) hH7 (fun hC8 hH8 => ?_)
                      rotate_left
                      · (intro w9 hSw; obtain ⟨hSw, hLw⟩ := hSw; clear hLw; (try dsimp only at hSw); (go_split_ands; go_simp); (try with_reducible rfl))
                      clear hC7 hH7
                      try simp only [Act.put, List.setIfInBounds_toArray, List.set_cons_zero, List.set_cons_succ]
                      refine wpAnyT_take (i := 8) (oi := { dst := some 442, op := Op.pick (Operand.tmp 436) (Operand.const (Value.bool true)) (Operand.tmp 441), type := 4, pos := "top12.go:101", after := #[{ on := 2, ground := Ground.data }, { on := 7, ground := Ground.data }], guard := none }) (v := ?_) rfl (by kernel_rfl) (by kernel_rfl) (by kernel_rfl) (fun _ _ _ h => h) (by kernel_rfl) (by rfl) hC8 (Or.inl ⟨by rfl, ?_⟩) hH8 (fun hC9 hH9 => ?_)
                      rotate_left
                      · (intro w9 hSw; obtain ⟨hSw, hLw⟩ := hSw; clear hLw; (try dsimp only at hSw); (go_split_ands; go_simp); (try with_reducible rfl))
                      clear hC8 hH8
                      try simp only [Act.put, List.setIfInBounds_toArray, List.set_cons_zero, List.set_cons_succ]
                      refine wpAnyT_done (by kernel_rfl) ?_ _
                      clear hC9 hH9 X2
                      have y1 := cellAt EK.out.xb 1
                      simp only [List.getElem?_toArray, List.getElem?_cons_zero, List.getElem?_cons_succ] at y1
                      go_wp2_with fail
                      clear y1
                      go_loopw [446] (fun i W => ∃ s : Nat, s ≤ g.sn ∧ i = .int .i64 s ∧ E4 g rn rf ot w B x54 x31 so so2 ta ta2 tb tb2 tx tn tx2 T sa sn sf W) (fun i _ => g.sn - (intOf i).toNat)
                      case atStart => exact ⟨0, Nat.zero_le _, rfl, EK.out⟩
                      case round =>
                        clear EK
                        obtain ⟨s, hs, rfl, hE⟩ := hrel
                        have EL := Lib.hid hE
                        clear hE
                        by_cases hst : s < g.sn
                        · as_aux_lemma => --@
                            have hst' : (s : Int) < g.sn := by omega
                            have HW6 := Lib.hid (succ64 (show s < 100 by have := H3.out; omega))
                            have hmeas6 : g.sn - (s + 1) < g.sn - s := by omega
                            have x0 := cellAt EL.out.xb 0
                            have x1 := cellAt EL.out.xb 1
                            have x2 := cellAt EL.out.xb 2
                            simp only [List.getElem?_toArray, List.getElem?_cons_zero, List.getElem?_cons_succ] at x0 x1 x2
                            have C2 := Lib.hid (fun W hs ht => left_first (so := so) (so2 := so2) (tx := tx) (tx2 := tx2) HV.out HFI.out W hs ht hst)
                            go_upto_region 89 with (go_at_call 13; (with_reducible refine (C2.out _ EL.out.e3.ss EL.out.tt).mono ?_); rintro e wF ⟨rfl, hbF⟩)
                            have al := (Below.refl wF.heap.size wF).alloc (Nat.le_refl _) (.cells #[.int .i64 0, .int .i64 0] 50)
                            have EM := Lib.hid ((EL.out.grow hbF).grow al)
                            have X0 := Lib.hid (show BoxAt (wF.alloc (.cells #[.int .i64 0, .int .i64 0] 50)) wF.heap.size #[.int .i64 0, .int .i64 0] 50 from heap_alloc_new _ _)
                            clear al EL hbF C2 x0 x1 x2
                            generalize World.alloc wF _ = wG at *
                            generalize wF.heap.size = x50 at *
                            have D0 := (Below.refl wG.heap.size wG).drew
                            have X1 := Lib.hid (X0.out.grow D0)
                            refine wp_region_stg (S := (fun w' : World => w'.cell? ⟨x50, 0, none⟩ = some (.int .i64 0) ∧ w'.cell? ⟨x50, 1, none⟩ = some (.int .i64 0))) (L := []) (D := []) (by kernel_rfl) (by kernel_rfl) ⟨cellAt X1.out 0, cellAt X1.out 1⟩ (by intro e he; cases he) (fun hC0 hH0 => ?_)
                            have EM1 := Lib.hid (EM.out.grow D0)
                            clear EM X0 D0
                            generalize World.drew wG = wR at *
                            refine wpAnyT_take (i := 0) (oi := { dst := some 455, op := Op.move (Operand.tmp 51), type := 33, pos := "top12.go:105", after := #[], guard := none }) (v := ?_) rfl (by kernel_rfl) (by kernel_rfl) (by kernel_rfl) (fun _ _ _ h => h) (by kernel_rfl) (by rfl) hC0 (Or.inl ⟨by rfl, ?_⟩) hH0 (fun hC1 hH1 => ?_)
                            rotate_left
                            · (intro w9 hSw; obtain ⟨hSw, hLw⟩ := hSw; clear hLw; (try dsimp only at hSw); (go_split_ands; go_simp); (try with_reducible rfl))
                            clear hC0 hH0
                            try simp only [Act.put, List.setIfInBounds_toArray, List.set_cons_zero, List.set_cons_succ]
                            refine wpAnyT_take (i := 1) (oi := { dst := some 456, op := Op.binOp BinOp.neq 33 (Operand.tmp 455) (Operand.const (Value.int IntKind.i64 0)) 33, type := 4, pos := "top12.go:105", after := #[{ on := 0, ground := Ground.data }], guard := none }) (v := ?_) rfl (by kernel_rfl) (by kernel_rfl) (by kernel_rfl) (fun _ _ _ h => h) (by kernel_rfl) (by rfl) hC1 (Or.inl ⟨by rfl, ?_⟩) hH1 (fun hC2 hH2 => ?_)
                            rotate_left
                            · (intro w9 hSw; obtain ⟨hSw, hLw⟩ := hSw; clear hLw; (try dsimp only at hSw); (go_split_ands; go_simp); (try with_reducible rfl))
                            clear hC1 hH1
                            try simp only [Act.put, List.setIfInBounds_toArray, List.set_cons_zero, List.set_cons_succ]
                            refine wpAnyT_take (i := 2) (oi := { dst := some 457, op := Op.move (Operand.tmp 456), type := 4, pos := "top12.go:105", after := #[{ on := 1, ground := Ground.data }], guard := none }) (v := ?_) rfl (by kernel_rfl) (by kernel_rfl) (by kernel_rfl) (fun _ _ _ h => h) (by kernel_rfl) (by rfl) hC2 (Or.inl ⟨by rfl, ?_⟩) hH2 (fun hC3 hH3 => ?_)
                            rotate_left
                            · (intro w9 hSw; obtain ⟨hSw, hLw⟩ := hSw; clear hLw; (try dsimp only at hSw); (go_split_ands; go_simp); (try with_reducible rfl))
                            clear hC2 hH2
                            try simp only [Act.put, List.setIfInBounds_toArray, List.set_cons_zero, List.set_cons_succ]
                            refine wpAnyT_take (i := 3) (oi := { dst := some 458, op := Op.load 50 (Operand.tmp 50), type := 50, pos := "top12.go:105", after := #[{ on := 2, ground := Ground.guard }], guard := some (2, false) }) (v := ?_) rfl (by kernel_rfl) (by kernel_rfl) (by kernel_rfl) (fun _ _ _ h => h) (by kernel_rfl) (by rfl) hC3 (Or.inl ⟨by rfl, ?_⟩) hH3 (fun hC4 hH4 => ?_)
                            rotate_left
                            · (intro w9 hSw; obtain ⟨hSw, hLw⟩ := hSw; clear hLw; (try dsimp only at hSw); (go_split_ands; go_simp); (try with_reducible rfl))
                            clear hC3 hH3
                            try simp only [Act.put, List.setIfInBounds_toArray, List.set_cons_zero, List.set_cons_succ]
                            refine wpAnyT_one (i := 4) (o := { dst := some 459, op := Op.call { callee := Callee.value (Operand.func 9), args := #[Operand.const (Value.int IntKind.i64 0), Operand.const (Value.int IntKind.i64 0)], argTypes := #[3, 3] }, type := 50, pos := "top12.go:105", after := #[{ on := 2, ground := Ground.chain }, { on := 2, ground := Ground.guard }], guard := some (2, false) }) (by kernel_rfl) rfl (by kernel_rfl) hC4 (fun K hK => ?_)
                            clear hC4 hH4
                            go_simp
                            (with_reducible refine (span_any _ _ _).mono ?_)
                            rintro e wQ ⟨rfl, hbQ⟩
                            have X2 := Lib.hid (X1.out.grow hbQ)
                            have EN := Lib.hid (EM1.out.grow hbQ)
                            clear EM1 X1 hbQ
                            go_wp2_with fail
                            refine hK.out _ _ ?_ (fun hC5 hH5 => ?_)
                            · exact ⟨⟨cellAt X2.out 0, cellAt X2.out 1⟩, fun e he => by cases he⟩
                            clear hK K
                            try simp only [Act.put, List.setIfInBounds_toArray, List.set_cons_zero, List.set_cons_succ]
                            refine wpAnyT_take (i := 5) (oi := { dst := some 460, op := Op.binOp BinOp.neq 50 (Operand.tmp 458) (Operand.tmp 459) 50, type := 4, pos := "top12.go:105", after := #[{ on := 3, ground := Ground.data }, { on := 4, ground := Ground.data }, { on := 2, ground := Ground.guard }], guard := some (2, false) }) (v := ?_) rfl (by kernel_rfl) (by kernel_rfl) (by kernel_rfl) (fun _ _ _ h => h) (by kernel_rfl) (by rfl) hC5 (Or.inl ⟨by rfl, ?_⟩) hH5 (fun hC6 hH6 => ?_)
                            rotate_left
                            · (intro w9 hSw; obtain ⟨hSw, hLw⟩ := hSw; clear hLw; (try dsimp only at hSw); (go_split_ands; go_simp); (try with_reducible rfl))
                            clear hC5 hH5
                            try simp only [Act.put, List.setIfInBounds_toArray, List.set_cons_zero, List.set_cons_succ]
                            refine wpAnyT_take (i := 6) (oi := { dst := some 461, op := Op.pick (Operand.tmp 457) (Operand.const (Value.bool true)) (Operand.tmp 460), type := 4, pos := "top12.go:105", after := #[{ on := 2, ground := Ground.data }, { on := 5, ground := Ground.data }], guard := none }) (v := ?_) rfl (by kernel_rfl) (by kernel_rfl) (by kernel_rfl) (fun _ _ _ h => h) (by kernel_rfl) (by rfl) hC6 (Or.inl ⟨by rfl, ?_⟩) hH6 (fun hC7 hH7 => ?_)
                            rotate_left
                            · (intro w9 hSw; obtain ⟨hSw, hLw⟩ := hSw; clear hLw; (try dsimp only at hSw); (go_split_ands; go_simp); (try with_reducible rfl))
                            clear hC6 hH6
                            try simp only [Act.put, List.setIfInBounds_toArray, List.set_cons_zero, List.set_cons_succ]
                            refine wpAnyT_done (by kernel_rfl) ?_ _
                            clear hC7 hH7 X2
                            go_wp2_with fail
                            try rw [HW6.out]
                            exact ⟨⟨s + 1, hst, rfl, EN.out⟩, hmeas6⟩
                        · as_aux_lemma => --@
                            have hst' : ¬ (s : Int) < g.sn := by omega
                            go_wp2_with fail
                            exact ⟨⟨q + 1, by omega, rfl, EL.out.e3⟩, hmeas2⟩
              · as_aux_lemma => --@
                  have hqt' : ¬ (q : Int) < 2 := by omega
                  go_wp2_with (go_at_call 5; refine (awake12_any _).mono ?_; rintro e w' ⟨rfl, hb⟩)
                  go_ret
                  exact ⟨rfl, EG.out.bel.next hb⟩
end
end Go.Proofs.YtikeihnhkiipgaaGreat
