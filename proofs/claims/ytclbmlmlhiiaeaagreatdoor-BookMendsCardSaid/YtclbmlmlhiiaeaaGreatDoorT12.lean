/-
  Walks: a book put right, and wages read, by the reference.
-/
import Derived.Test.YtclbmlmlhiiaeaaGreatDoorT10
import Derived.Test.YtclbmlmlhiiaeaaGreatDoorT2
import Derived.Test.YtclbmlmlhiiaeaaGreatDoorP2
import Derived.Test.YtclbmlmlhiiaeaaGreatDoorT13
namespace Go.Proofs.YtclbmlmlhiiaeaaGreatDoor
open Go.RowKit

/-- The book that a file is put right to, and why there is none. -/
def mendR (L : Nat) (b : Nat → Nat) : (Nat × (Nat → Nat)) × Int :=
  if 1000 < L then ((0, fun _ => 0), 3) else match contN L with
  | none => ((0, fun _ => 0), 8)
  | some n => match mendAt b n with
    | .inr x => ((0, fun _ => 0), x)
    | .inl i => ((L, flipB b i), 0)
def MendRPost (L : Nat) (b : Nat → Nat) (w : World) (e : Ending) (w' : World) : Prop :=
  ∃ oa cap, e = .returned (.tuple #[.slice oa (mendR L b).1.1 cap, .int .i64 (mendR L b).2]) ∧ BytesAt w' oa (mendR L b).1.1 (mendR L b).1.2 ∧ Below w.heap.size w w'
theorem mendR_lt {L : Nat} {b : Nat → Nat} (h8 : ∀ i, b i < 256) (i : Nat) : (mendR L b).1.2 i < 256 := by
  unfold mendR
  split
  · show 0 < 256; omega
  · split
    · show 0 < 256; omega
    · split
      · show 0 < 256; omega
      · exact flip_lt h8 _ i
theorem MendRPost.bad {L : Nat} {b : Nat → Nat} {w w' : World} {x : Int} (h : mendR L b = ((0, fun _ => 0), x)) (hb : Below w.heap.size w w') : MendRPost L b w (badB x) w' := by
  unfold MendRPost
  rw [h]
  exact ⟨none, 0, rfl, row_none _ _ _, hb⟩
theorem mend_form {L : Nat} {b : Nat → Nat} {w : World} {e : Ending} {w' : World} (h : MendPost L b w e w') : MendRPost L b w e w' := by
  obtain ⟨hb, ⟨hl, rfl⟩ | ⟨hl, hno, rfl⟩ | ⟨n, hn0, hn, hl, hx⟩⟩ := h
  · exact MendRPost.bad (by unfold mendR; rw [if_pos hl]) hb
  · exact MendRPost.bad (by unfold mendR; rw [if_neg (by omega), contN_none hno]) hb
  · subst hn
    rcases hx with ⟨x, hx, rfl⟩ | ⟨i, g, cap, hi, -, -, -, rfl, hB⟩
    · exact MendRPost.bad (by unfold mendR; rw [if_neg (by omega), contN_some hn0]; dsimp only; rw [hx]) hb
    · have e : mendR (szB n) b = ((szB n, flipB b i), 0) := by unfold mendR; rw [if_neg (by omega), contN_some hn0]; dsimp only; rw [hi]
      unfold MendRPost
      rw [e]
      exact ⟨_, cap, rfl, hB, hb⟩
theorem right_all {b : Nat → Nat} {n : Nat} : eqB (szB n) (szB n) (sealB b n) b = true ↔ ∀ k, k < szB n → sealB b n k = b k := by
  rw [eqB_iff]
  exact ⟨fun h => h.2, fun h => ⟨rfl, h⟩⟩
set_option maxRecDepth 100000 in
set_option maxHeartbeats 4000000 in
theorem refMend26_any (oa : Option Addr) (L nc : Nat) (b : Nat → Nat) (w : World) (hb : BytesAt w oa L b) (h8 : ∀ i, b i < 256) (hcap : L ≤ nc) :
    Calls Tryz.prog 26 #[.slice oa L nc] w (MendRPost L b w) := by
  have hsm := hb.small
  unfold maxLen at hsm
  have LG := Lib.hid (fun W (h : Below w.heap.size w W) => BytesAt.grow hb h)
  have H8 := Lib.hid h8
  have B0 := Lib.hid (Below.refl w.heap.size w)
  have HP0 := Lib.hid hb.plain
  clear hb h8
  by_cases hL : 1000 < L
  · have HR := Lib.hid (show mendR L b = ((0, fun _ => 0), 3) from by unfold mendR; rw [if_pos hL])
    go_enter Tryz.func26, Tryz.ntmps26
    go_wp2_with fail
    exact bodyPost_ret (v := .tuple #[.slice none 0 0, .int .i64 3]) (by simp [results, Tryz.results26, go_sem]) rfl (MendRPost.bad HR.out B0.out)
  have CC := Lib.hid (fun W => contentR_any L W (by omega))
  go_enter Tryz.func26, Tryz.ntmps26
  go_wp2_with (go_at_call 33; refine (CC.out _).mono ?_)
  rintro e w2 ⟨rfl, ⟨n, h0, h, rfl⟩ | ⟨hno, rfl⟩⟩
  case inr =>
    have HR := Lib.hid (show mendR L b = ((0, fun _ => 0), 8) from by unfold mendR; rw [if_neg hL, contN_none hno])
    clear hno
    go_wp2_with fail
    exact bodyPost_ret (v := .tuple #[.slice none 0 0, .int .i64 8]) (by simp [results, Tryz.results26, go_sem]) rfl (MendRPost.bad HR.out B0.out)
  have HM := Lib.hid (show mendR L b = (match mendAt b n with | .inr x => ((0, fun _ => 0), x) | .inl i => ((L, flipB b i), 0)) from by unfold mendR; rw [if_neg hL, ← h, contN_some h0])
  have HN := Lib.hid h
  have hnl : n ≤ L := by unfold szB at h; omega
  have hn1 : n ≤ 1000 := by omega
  have hLp : 0 < L := by omega
  have t0 : ((n : Int) == 0) = false := beq_eq_false_iff_ne.2 (by omega)
  have HOP := Lib.hid (HP0.out hLp)
  have C1 := Lib.hid (fun (x : Nat → Nat) (hx : ∀ i, x i < 256) oa' c W (h : BytesAt W oa' L x) => sealR_any oa' n c x W (h.head hnl) hx h0 (by omega))
  have C2 := Lib.hid (fun (x : Nat → Nat) (hx : ∀ i, x i < 256) qa qc oa' c W (h1 : BytesAt W qa (szB n) (sealB x n)) (h2 : BytesAt W oa' L x) => bytes_any qa oa' (szB n) qc L c (sealB x n) x W h1 h2 (fun i _ => seal_lt hx n i) (fun i _ => hx i))
  rw [h] at C1 C2
  have H0 := Lib.hid h0
  clear h CC HP0
  go_upto_region 6 with (fail)
  have s1 := fun W => run_head (n := L) (c := nc) (h := n) HOP.out (by omega) (by omega) W
  go_wp2_with (go_at_call 34; refine (C1.out b H8.out oa nc w2 (LG.out _ B0.out)).mono ?_)
  rintro e w3 ⟨qa, qc, rfl, hq, -, -, hb3⟩
  have B3 := Lib.hid (B0.out.next hb3)
  have D2 := Lib.hid (C2.out b H8.out qa qc oa nc w3 hq (LG.out _ B3.out))
  have E2 := Lib.hid (right_all (b := b) (n := n))
  rw [HN.out] at E2
  clear hq hb3 s1
  obtain ⟨r, hr⟩ : ∃ r, eqB L L (sealB b n) b = r := ⟨_, rfl⟩
  rw [hr] at D2 E2
  clear hr
  cases r with
  | true =>
    have HR := Lib.hid (show mendR L b = ((0, fun _ => 0), 4) from by
      rw [HM.out]
      have h1 := (seal_right H8.out n).1 (fun k hk => E2.out.1 rfl k (by rw [← HN.out]; exact hk))
      unfold mendAt
      rw [if_pos h1])
    go_wp2_with (go_at_call 22; refine D2.out.mono ?_; rintro e w' ⟨rfl, rfl⟩)
    exact bodyPost_ret (v := .tuple #[.slice none 0 0, .int .i64 4]) (by simp [results, Tryz.results26, go_sem]) rfl (MendRPost.bad HR.out B3.out)
  | false =>
    have HNO := Lib.hid (show ¬ rowsN b n + colsN b n = 0 from fun h1 => by
      have := E2.out.2 (fun k hk => (seal_right H8.out n).2 h1 k (by rw [HN.out]; exact hk))
      cases this)
    have hL8 : 8 * L ≤ 8000 := by omega
    go_wp2_with (go_at_call 22; refine D2.out.mono ?_; rintro e w' ⟨rfl, rfl⟩)
    clear D2 E2
    go_loopw [5] (fun i wi => ∃ k : Nat, k ≤ 8 * L ∧ i = .int .i64 k ∧ (∀ j, j < k → eqB L L (sealB (flipB b j) n) (flipB b j) = false) ∧ Below w2.heap.size w2 wi) (fun i _ => 8 * L - (intOf i).toNat)
    case atStart => exact ⟨0, Nat.zero_le _, rfl, fun j hj => by omega, B3.out⟩
    case round =>
      obtain ⟨k, hk, rfl, hno, hbw⟩ := hrel
      have B4 := Lib.hid hbw
      have HK := Lib.hid hno
      clear hbw hno B3
      by_cases hlt : k < 8 * L
      · have hf8 : ∀ i, flipB b k i < 256 := flip_lt H8.out k
        have HF8 := Lib.hid hf8
        have C3 := Lib.hid (flip_any oa L nc k b wr (LG.out _ B4.out) H8.out hlt (by omega))
        have HO := Lib.hid (fun (h : eqB L L (sealB (flipB b k) n) (flipB b k) = true) => mend_only H8.out (n := n) (t := k) (by rw [HN.out]; exact hlt) (right_all.1 (by rw [HN.out]; exact h)))
        clear hf8
        go_upto_region 12 with (go_at_call 32; refine C3.out.mono ?_; rintro e w5 ⟨xa, xc, rfl, hx, hxl, hxc, hb5⟩)
        have B5 := Lib.hid (B4.out.next hb5)
        have X5 := Lib.hid hx
        have HX := Lib.hid (hx.plain hLp)
        have hxc2 := hxc
        have s2 := fun W => run_head (n := L) (c := xc) (h := n) HX.out (by omega) (by omega) W
        clear hx hxl hxc hb5 C3 B4
        go_wp2_with (go_at_call 34; refine (C1.out _ HF8.out xa xc w5 X5.out).mono ?_)
        rintro e w6 ⟨qa, qc, rfl, hq, -, -, hb6⟩
        have B6 := Lib.hid (B5.out.next hb6)
        have X6 := Lib.hid (X5.out.grow hb6)
        have D2 := Lib.hid (C2.out _ HF8.out qa qc xa xc w6 hq X6.out)
        obtain ⟨r, hr⟩ : ∃ r, eqB L L (sealB (flipB b k) n) (flipB b k) = r := ⟨_, rfl⟩
        have HRR := Lib.hid hr
        rw [hr] at D2
        clear hq hb6 s2 hr B5 X5
        cases r with
        | true =>
          have HR := Lib.hid (show mendR L b = ((L, flipB b k), 0) from by rw [HM.out, HO.out HRR.out])
          go_wp2_with (go_at_call 22; refine D2.out.mono ?_; rintro e w' ⟨rfl, rfl⟩)
          refine bodyPost_ret (v := .tuple #[.slice xa L xc, .int .i64 0]) (by simp [results, Tryz.results26, go_sem]) rfl ?_
          unfold MendRPost
          rw [HR.out]
          exact ⟨xa, xc, rfl, X6.out, B6.out⟩
        | false =>
          go_wp2_with (go_at_call 22; refine D2.out.mono ?_; rintro e w' ⟨rfl, rfl⟩)
          refine ⟨⟨k + 1, hlt, by go_num, fun j hj => ?_, B6.out⟩, by simp [intOf]; omega⟩
          by_cases e : j = k
          · rw [e]; exact HRR.out
          · exact HK.out j (by omega)
      · have HR := Lib.hid (show mendR L b = ((0, fun _ => 0), 11) from by
          rw [HM.out]
          cases hm : mendAt b n with
          | inl i =>
            have h1 := mend_right H8.out hm
            have h2 := HK.out i (by have := h1.1; rw [HN.out] at this; omega)
            have h3 := right_all.2 h1.2
            rw [HN.out, h2] at h3
            cases h3
          | inr x =>
            rcases mend_no hm with ⟨-, h1⟩ | ⟨rfl, -⟩
            · exact absurd h1 HNO.out
            · rfl)
        go_wp2_with fail
        exact bodyPost_ret (v := .tuple #[.slice none 0 0, .int .i64 11]) (by simp [results, Tryz.results26, go_sem]) rfl (MendRPost.bad HR.out B4.out)
structure RV (w : World) (oa : Option Addr) (L : Nat) (g : Nat → Nat) (W : World) : Prop where
  bel : Below w.heap.size w W
  l : BytesAt W oa L g
  a : BoxAt W w.heap.size #[.int .i64 0, .slice none 0 0, .slice none 0 0] 38
  lo : 0 < L → blk oa < w.heap.size
theorem RV.grow {w W W' : World} {oa : Option Addr} {L : Nat} {g : Nat → Nat} (h : RV w oa L g W) (hb : Below W.heap.size W W') : RV w oa L g W' := ⟨h.bel.next hb, h.l.grow hb, h.a.grow hb, h.lo⟩
theorem RV.z {w W : World} {oa : Option Addr} {L : Nat} {g : Nat → Nat} (h : RV w oa L g W) : Below w.heap.size w (((W.setCell ⟨w.heap.size, 0, none⟩ (.int .i64 0)).setCell ⟨w.heap.size, 1, none⟩ (.slice none 0 0)).setCell ⟨w.heap.size, 2, none⟩ (.slice none 0 0)) ∧
    (((W.setCell ⟨w.heap.size, 0, none⟩ (.int .i64 0)).setCell ⟨w.heap.size, 1, none⟩ (.slice none 0 0)).setCell ⟨w.heap.size, 2, none⟩ (.slice none 0 0)).cell? ⟨w.heap.size, 0, none⟩ = some (.int .i64 0) ∧ (((W.setCell ⟨w.heap.size, 0, none⟩ (.int .i64 0)).setCell ⟨w.heap.size, 1, none⟩ (.slice none 0 0)).setCell ⟨w.heap.size, 2, none⟩ (.slice none 0 0)).cell? ⟨w.heap.size, 1, none⟩ = some (.slice none 0 0) ∧ (((W.setCell ⟨w.heap.size, 0, none⟩ (.int .i64 0)).setCell ⟨w.heap.size, 1, none⟩ (.slice none 0 0)).setCell ⟨w.heap.size, 2, none⟩ (.slice none 0 0)).cell? ⟨w.heap.size, 2, none⟩ = some (.slice none 0 0) := by
  have Z := ((h.a.store 0 (.int .i64 0)).store 1 (.slice none 0 0)).store 2 (.slice none 0 0)
  exact ⟨((h.bel.setCell (Nat.le_refl _) _).setCell (Nat.le_refl _) _).setCell (Nat.le_refl _) _, cellAt Z 0, cellAt Z 1, cellAt Z 2⟩
theorem wagesV_cast (x : WagesV) : wagesV x.cr (castW x.S) x.sn (castW x.T) x.tn = x := by
  obtain ⟨cr, sn, S, tn, T⟩ := x
  simp [wagesV, castW]
theorem small_of {x : WagesV} (h : wagesVB x = true) : SmallW x := by
  have := (wages_ok h).small
  rwa [wagesV_cast] at this
set_option maxRecDepth 100000 in
set_option maxHeartbeats 4000000 in
theorem refReadWages24_any (oa : Option Addr) (L nc : Nat) (g : Nat → Nat) (w : World) (hg : BytesAt w oa L g) (h8 : ∀ i, g i < 256) (hcap : L ≤ nc) :
    Calls Tryz.prog 24 #[.slice oa L nc] w (ReadWPost (readW L g) w) := by
  rw [← refRead_eq]
  have hsm := hg.small
  unfold maxLen at hsm
  have hb0 := (Below.refl w.heap.size w).alloc (Nat.le_refl _) (.cells #[.int .i64 0, .slice none 0 0, .slice none 0 0] 38)
  have I0 := Lib.hid (show RV w oa L g (w.alloc (.cells #[.int .i64 0, .slice none 0 0, .slice none 0 0] 38)) from ⟨hb0, hg.grow hb0, heap_alloc_new _ _, hg.old⟩)
  have H8 := Lib.hid h8
  have HP0 := Lib.hid hg.plain
  clear hg h8 hb0
  go_enter Tryz.func24, Tryz.ntmps24
  go_upto_region 1 with (fail)
  generalize World.alloc w _ = W0 at *
  by_cases hL : 1000 < L
  · have HR := Lib.hid (show refReadW L g = (3, zeroW) from by unfold refReadW; rw [if_pos hL])
    have q0 := cellAt I0.out.a 0
    have q1 := cellAt I0.out.a 1
    have q2 := cellAt I0.out.a 2
    have f0 := freeAt I0.out.a 0
    have f1 := freeAt I0.out.a 1
    have f2 := freeAt I0.out.a 2
    simp only [List.getElem?_toArray, List.getElem?_cons_zero, List.getElem?_cons_succ] at q0 q1 q2
    have Z3 := Lib.hid (I0.out.z)
    go_wp2_with fail
    obtain ⟨d0, d1, d2⟩ := Z3.out.2
    exact bodyPost_ret (v := .tuple #[.agg #[.int .i64 0, .slice none 0 0, .slice none 0 0], .int .i64 3]) (by simp [results, Tryz.results24, go_sem, d0, d1, d2]) rfl (ReadWPost.no HR.out Z3.out.1)
  have CC := Lib.hid (fun W => contentR_any L W (by omega))
  go_wp2_with (go_at_call 33; refine (CC.out _).mono ?_)
  rintro e w2 ⟨rfl, ⟨n, h0, h, rfl⟩ | ⟨hno, rfl⟩⟩
  case inr =>
    have HR := Lib.hid (show refReadW L g = (8, zeroW) from by unfold refReadW; rw [if_neg hL, contN_none hno])
    clear hno
    have q0 := cellAt I0.out.a 0
    have q1 := cellAt I0.out.a 1
    have q2 := cellAt I0.out.a 2
    have f0 := freeAt I0.out.a 0
    have f1 := freeAt I0.out.a 1
    have f2 := freeAt I0.out.a 2
    simp only [List.getElem?_toArray, List.getElem?_cons_zero, List.getElem?_cons_succ] at q0 q1 q2
    have Z3 := Lib.hid (I0.out.z)
    go_wp2_with fail
    obtain ⟨d0, d1, d2⟩ := Z3.out.2
    exact bodyPost_ret (v := .tuple #[.agg #[.int .i64 0, .slice none 0 0, .slice none 0 0], .int .i64 8]) (by simp [results, Tryz.results24, go_sem, d0, d1, d2]) rfl (ReadWPost.no HR.out Z3.out.1)
  have HM := Lib.hid (show refReadW L g = (if eqB (szB n) L (sealB g n) g then (if wagesVB (refW (bitsL n g)) && eqB (szB (bookN (refW (bitsL n g)))) L (bookB (refW (bitsL n g))) g then (0, refW (bitsL n g)) else (8, zeroW)) else (10, zeroW)) from by unfold refReadW; rw [if_neg hL, ← h, contN_some h0])
  have HN := Lib.hid h
  have hnl : n ≤ L := by unfold szB at h; omega
  have hn1 : n ≤ 1000 := by omega
  have hLp : 0 < L := by omega
  have t0 : ((n : Int) == 0) = false := beq_eq_false_iff_ne.2 (by omega)
  have HOP := Lib.hid (HP0.out hLp)
  have C1 := Lib.hid (fun W (h : BytesAt W oa L g) => sealR_any oa n nc g W (h.head hnl) H8.out h0 (by omega))
  have C2 := Lib.hid (fun qa qc W (h1 : BytesAt W qa (szB n) (sealB g n)) (h2 : BytesAt W oa L g) => bytes_any qa oa (szB n) qc L nc (sealB g n) g W h1 h2 (fun i _ => seal_lt H8.out n i) (fun i _ => H8.out i))
  have C3 := Lib.hid (fun W (h : BytesAt W oa L g) => wages71_any oa n nc g W (h.head hnl) H8.out hn1)
  clear h CC HP0 h0
  go_upto_region 6 with (fail)
  have s1 := fun W => run_head (n := L) (c := nc) (h := n) HOP.out (by omega) (by omega) W
  go_wp2_with (go_at_call 34; refine (C1.out w2 I0.out.l).mono ?_)
  rintro e w3 ⟨qa, qc, rfl, hq, -, -, hb3⟩
  have I3 := Lib.hid (I0.out.grow hb3)
  have D2 := Lib.hid (C2.out qa qc w3 hq I3.out.l)
  clear hq hb3 C1 C2 I0
  obtain ⟨r, hr⟩ : ∃ r, eqB (szB n) L (sealB g n) g = r := ⟨_, rfl⟩
  rw [hr] at D2 HM
  clear hr
  cases r with
  | false =>
    have HR := Lib.hid (show refReadW L g = (10, zeroW) from by rw [HM.out]; rfl)
    go_upto_region 7 with (go_at_call 22; refine D2.out.mono ?_; rintro e w' ⟨rfl, rfl⟩)
    have q0 := cellAt I3.out.a 0
    have q1 := cellAt I3.out.a 1
    have q2 := cellAt I3.out.a 2
    have f0 := freeAt I3.out.a 0
    have f1 := freeAt I3.out.a 1
    have f2 := freeAt I3.out.a 2
    simp only [List.getElem?_toArray, List.getElem?_cons_zero, List.getElem?_cons_succ] at q0 q1 q2
    have Z3 := Lib.hid (I3.out.z)
    go_wp2_with fail
    obtain ⟨d0, d1, d2⟩ := Z3.out.2
    exact bodyPost_ret (v := .tuple #[.agg #[.int .i64 0, .slice none 0 0, .slice none 0 0], .int .i64 10]) (by simp [results, Tryz.results24, go_sem, d0, d1, d2]) rfl (ReadWPost.no HR.out Z3.out.1)
  | true =>
    have HM2 := Lib.hid (show refReadW L g = (if wagesVB (refW (bitsL n g)) && eqB (szB (bookN (refW (bitsL n g)))) L (bookB (refW (bitsL n g))) g then (0, refW (bitsL n g)) else (8, zeroW)) from by rw [HM.out]; rfl)
    clear HM
    have C3' := Lib.hid (C3.out w3 I3.out.l)
    generalize refW (bitsL n g) = x at *
    go_upto_region 8 with (go_at_call 22; refine D2.out.mono ?_; rintro e w' ⟨rfl, rfl⟩)
    clear D2 C3
    go_wp2_with (go_at_call 71; refine C3'.out.mono ?_)
    rintro e w4 ⟨sa, sc, ta, tc, rfl, hS, hT, hb4, hn1, hn2⟩
    have I4 := Lib.hid (I3.out.grow hb4)
    have NES := Lib.hid (show (0 < x.sn → w.heap.size ≠ blk sa) ∧ (0 < x.tn → w.heap.size ≠ blk ta) from by
      have := I3.out.bel.size
      exact ⟨fun h => by have := hn1 h; omega, fun h => by have := hn2 h; omega⟩)
    have al := (Below.refl w4.heap.size w4).alloc (Nat.le_refl _) (.cells #[.int .i64 x.cr, .slice sa x.sn sc, .slice ta x.tn tc] 38)
    have A5 := Lib.hid (show BoxAt (w4.alloc (.cells #[.int .i64 x.cr, .slice sa x.sn sc, .slice ta x.tn tc] 38)) w4.heap.size #[.int .i64 x.cr, .slice sa x.sn sc, .slice ta x.tn tc] 38 from heap_alloc_new _ _)
    have I5 := Lib.hid (I4.out.grow al)
    have S5 := Lib.hid (NumsAt.grow hS al)
    have T5 := Lib.hid (NumsAt.grow hT al)
    go_upto_region 9 with (fail)
    clear al hS hT hb4 hn1 hn2 I4 I3 C3'
    generalize World.alloc w4 _ = w5 at *
    generalize w4.heap.size = p at *
    have q0 := cellAt A5.out 0
    have q1 := cellAt A5.out 1
    have q2 := cellAt A5.out 2
    simp only [List.getElem?_toArray, List.getElem?_cons_zero, List.getElem?_cons_succ] at q0 q1 q2
    have C31 := Lib.hid (wages31_any x.cr sa ta x.sn sc x.tn tc (castW x.S) (castW x.T) w5 S5.out T5.out)
    obtain ⟨v, hv⟩ : ∃ v, wagesVB x = v := ⟨_, rfl⟩
    have HV := Lib.hid hv
    rw [show wagesB x.cr (castW x.S) x.sn (castW x.T) x.tn = v from hv] at C31
    rw [hv] at HM2
    clear hv
    cases v with
    | false =>
      have HR := Lib.hid (show refReadW L g = (8, zeroW) from by rw [HM2.out]; rfl)
      go_upto_region 10 with (go_at_call 31; refine C31.out.mono ?_; rintro e w6 ⟨rfl, hb6⟩)
      have I6 := Lib.hid (I5.out.grow hb6)
      clear hb6 q0 q1 q2 I5 A5 S5 T5 C31
      have q0 := cellAt I6.out.a 0
      have q1 := cellAt I6.out.a 1
      have q2 := cellAt I6.out.a 2
      have f0 := freeAt I6.out.a 0
      have f1 := freeAt I6.out.a 1
      have f2 := freeAt I6.out.a 2
      simp only [List.getElem?_toArray, List.getElem?_cons_zero, List.getElem?_cons_succ] at q0 q1 q2
      have Z3 := Lib.hid (I6.out.z)
      go_wp2_with fail
      obtain ⟨d0, d1, d2⟩ := Z3.out.2
      exact bodyPost_ret (v := .tuple #[.agg #[.int .i64 0, .slice none 0 0, .slice none 0 0], .int .i64 8]) (by simp [results, Tryz.results24, go_sem, d0, d1, d2]) rfl (ReadWPost.no HR.out Z3.out.1)
    | true =>
      go_wp2_with (go_at_call 31; refine C31.out.mono ?_)
      rintro e w6 ⟨rfl, hb6⟩
      have I6 := Lib.hid (I5.out.grow hb6)
      have A6 := Lib.hid (A5.out.grow hb6)
      have S6 := Lib.hid (NumsAt.grow S5.out hb6)
      have T6 := Lib.hid (NumsAt.grow T5.out hb6)
      clear hb6 q0 q1 q2 I5 A5 S5 T5 C31
      have q0 := cellAt A6.out 0
      have q1 := cellAt A6.out 1
      have q2 := cellAt A6.out 2
      simp only [List.getElem?_toArray, List.getElem?_cons_zero, List.getElem?_cons_succ] at q0 q1 q2
      have C65 := Lib.hid (wages65_any x sa ta sc tc w6 S6.out T6.out (small_of HV.out))
      have HB8 := Lib.hid (book_lt x)
      go_wp2_with (go_at_call 65; refine C65.out.mono ?_)
      rintro e w7 ⟨oa', c', rfl, ho, -, -, hb7⟩
      have I7 := Lib.hid (I6.out.grow hb7)
      have A7 := Lib.hid (A6.out.grow hb7)
      have S7 := Lib.hid (NumsAt.grow S6.out hb7)
      have T7 := Lib.hid (NumsAt.grow T6.out hb7)
      have D3 := Lib.hid (bytes_any oa' oa (szB (bookN x)) c' L nc (bookB x) g w7 ho I7.out.l (fun i _ => HB8.out i) (fun i _ => H8.out i))
      clear ho hb7 q0 q1 q2 I6 A6 S6 T6 C65
      obtain ⟨r, hr⟩ : ∃ r, eqB (szB (bookN x)) L (bookB x) g = r := ⟨_, rfl⟩
      rw [hr] at D3 HM2
      clear hr
      generalize szB (bookN x) = z at *
      cases r with
      | false =>
        have HR := Lib.hid (show refReadW L g = (8, zeroW) from by rw [HM2.out]; rfl)
        go_upto_region 10 with (go_at_call 22; refine D3.out.mono ?_; rintro e w' ⟨rfl, rfl⟩)
        clear A7 S7 T7 D3
        have q0 := cellAt I7.out.a 0
        have q1 := cellAt I7.out.a 1
        have q2 := cellAt I7.out.a 2
        have f0 := freeAt I7.out.a 0
        have f1 := freeAt I7.out.a 1
        have f2 := freeAt I7.out.a 2
        simp only [List.getElem?_toArray, List.getElem?_cons_zero, List.getElem?_cons_succ] at q0 q1 q2
        have Z3 := Lib.hid (I7.out.z)
        go_wp2_with fail
        obtain ⟨d0, d1, d2⟩ := Z3.out.2
        exact bodyPost_ret (v := .tuple #[.agg #[.int .i64 0, .slice none 0 0, .slice none 0 0], .int .i64 8]) (by simp [results, Tryz.results24, go_sem, d0, d1, d2]) rfl (ReadWPost.no HR.out Z3.out.1)
      | true =>
        have HR := Lib.hid (show refReadW L g = (0, x) from by rw [HM2.out]; rfl)
        go_upto_region 11 with (go_at_call 22; refine D3.out.mono ?_; rintro e w' ⟨rfl, rfl⟩)
        have q0 := cellAt A7.out 0
        have q1 := cellAt A7.out 1
        have q2 := cellAt A7.out 2
        have p0 := cellAt I7.out.a 0
        have p1 := cellAt I7.out.a 1
        have p2 := cellAt I7.out.a 2
        have f0 := freeAt I7.out.a 0
        have f1 := freeAt I7.out.a 1
        have f2 := freeAt I7.out.a 2
        simp only [List.getElem?_toArray, List.getElem?_cons_zero, List.getElem?_cons_succ] at q0 q1 q2 p0 p1 p2
        have Z := Lib.hid (((I7.out.a.store 0 (.int .i64 x.cr)).store 1 (.slice sa x.sn sc)).store 2 (.slice ta x.tn tc))
        have BZ := Lib.hid (((I7.out.bel.setCell (p := ⟨w.heap.size, 0, none⟩) (Nat.le_refl _) (.int .i64 x.cr)).setCell (p := ⟨w.heap.size, 1, none⟩) (Nat.le_refl _) (.slice sa x.sn sc)).setCell (p := ⟨w.heap.size, 2, none⟩) (Nat.le_refl _) (.slice ta x.tn tc))
        have nS := NES.out
        go_wp2_with fail
        have d0 := cellAt Z.out 0
        have d1 := cellAt Z.out 1
        have d2 := cellAt Z.out 2
        simp at d0 d1 d2
        refine bodyPost_ret (v := .tuple #[.agg #[.int .i64 x.cr, .slice sa x.sn sc, .slice ta x.tn tc], .int .i64 0]) (by simp [results, Tryz.results24, go_sem, d0, d1, d2]) rfl ?_
        rw [HR.out]
        exact ⟨BZ.out, sa, sc, ta, tc, rfl, Row.set (Row.set (Row.set S7.out _ _ nS.1) _ _ nS.1) _ _ nS.1, Row.set (Row.set (Row.set T7.out _ _ nS.2) _ _ nS.2) _ _ nS.2⟩
end Go.Proofs.YtclbmlmlhiiaeaaGreatDoor
