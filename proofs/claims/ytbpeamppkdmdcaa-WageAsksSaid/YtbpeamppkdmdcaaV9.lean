/-
  Walks: how coins are shared out, by the reference.
-/
import Derived.Test.YtbpeamppkdmdcaaG9
import Derived.Test.YtbpeamppkdmdcaaS2
import Derived.Deep.QuietTactic
import Derived.BigQuiet
namespace Go.Proofs.Ytbpeamppkdmdcaa
open Go.RowKit
attribute [local go_sem ↓] Go.wp_at_zero Go.wp_at_succ

/-- The one who is next, as the reference looks for him. -/
def refB (sh own : Nat → Int) : Nat → Nat
  | 0 => 0
  | i + 1 => if sh (refB sh own i) * (own i + 1) < sh i * (own (refB sh own i) + 1) then i else refB sh own i
theorem refB_lt (sh own : Nat → Int) : ∀ i, refB sh own i < i ∨ refB sh own i = 0
  | 0 => .inr rfl
  | i + 1 => by
    have := refB_lt sh own i
    simp only [refB]
    split <;> omega
theorem refB_best (sh : Nat → Int) {own : Nat → Int} (ho : ∀ i, 0 ≤ own i) : ∀ i k, k < i → ¬ bef sh own k (refB sh own i)
  | 0, k, h => by omega
  | i + 1, k, h => by
    have ih := refB_best sh ho i
    have hl := refB_lt sh own i
    have h1 := ho i
    have h2 := ho k
    have h3 := ho (refB sh own i)
    simp only [refB]
    generalize refB sh own i = b at *
    split
    · rename_i c
      by_cases e : k = i
      · subst e; unfold bef; omega
      · have n1 : ¬ bef sh own b i := by unfold bef; omega
        exact notbef_trans (by omega) (by omega) (by omega) n1 (ih k (by omega))
    · rename_i c
      by_cases e : k = i
      · subst e; unfold bef; omega
      · exact ih k (by omega)
theorem refB_eq {sh : Nat → Int} {n : Nat} (hm : 0 < (menL sh n).length) (hs : ∀ i, i < n → 0 ≤ sh i) (c : Nat) : refB sh (ownK sh n c) n = rK sh n c := by
  obtain ⟨h1, h2, h3⟩ := rK_spec hm hs c
  have hb := refB_best sh (own := ownK sh n c) (fun i => (ownK_bd sh n c i).1) n
  have hl := refB_lt sh (ownK sh n c) n
  generalize refB sh (ownK sh n c) n = b at *
  have a1 := h3 b (by omega)
  have a2 := hb _ h1
  generalize rK sh n c = r at *
  unfold bef at a1 a2
  omega
def okK (c : Int) (n : Nat) (sh : Nat → Int) (k : Nat) : Bool := inB c 0 500 && decide (n ≤ 6) && (List.range k).all fun i => inB (sh i) 0 20
theorem okK_succ (c : Int) (n : Nat) (sh : Nat → Int) (k : Nat) : okK c n sh (k + 1) = (okK c n sh k && inB (sh k) 0 20) := by
  simp [okK, List.range_succ, Bool.and_assoc]
theorem okK_all (c : Int) (n : Nat) (sh : Nat → Int) : okK c n sh n = shareOk c n sh := rfl
theorem okK_bd {c : Int} {n : Nat} {sh : Nat → Int} {k : Nat} (h : okK c n sh k = true) : (0 ≤ c ∧ c ≤ 500) ∧ n ≤ 6 ∧ ∀ i, i < k → 0 ≤ sh i ∧ sh i ≤ 20 := by
  simp only [okK, Bool.and_eq_true, decide_eq_true_eq, List.all_eq_true] at h
  exact ⟨inB_iff.1 h.1.1, h.1.2, fun i hi => inB_iff.1 (h.2 i (by simpa using hi))⟩
/-- The list that is told, and the one that is made. -/
structure SH (w : World) (oa : Option Addr) (n gb : Nat) (sh F : Nat → Int) (W : World) : Prop where
  bel : Below w.heap.size w W
  l : IntsAt W oa n sh
  g : BoxAt W gb (rowVals F n).toArray 3
  lo : w.heap.size ≤ gb
  ob : 0 < n → blk oa < w.heap.size
theorem SH.grow {w : World} {oa : Option Addr} {n g : Nat} {sh F : Nat → Int} {W W2 : World} (h : SH w oa n g sh F W) (hb : Below W.heap.size W W2) : SH w oa n g sh F W2 :=
  ⟨h.bel.next hb, h.l.grow hb, h.g.grow hb, h.lo, h.ob⟩
theorem SH.store {w : World} {oa : Option Addr} {n g : Nat} {sh F : Nat → Int} {W : World} (h : SH w oa n g sh F W) (r : Nat) (v : Int) : SH w oa n g sh (fun i => if i = r then v else F i) (W.setCell ⟨g, r, none⟩ (.int .i64 v)) := by
  have h1 := h.lo
  have hg := BoxAt.store h.g r (.int .i64 v)
  rw [List.setIfInBounds_toArray, rowVals_set] at hg
  exact ⟨h.bel.setCell (p := ⟨g, r, none⟩) (by dsimp only; omega) (.int .i64 v), IntsAt.set h.l _ _ (fun hn => by have := h.ob hn; dsimp only; omega), hg, h.lo, h.ob⟩
def SL1 (w : World) (c : Int) (oa : Option Addr) (n : Nat) (sh : Nat → Int) (v a i : Value) (W : World) : Prop :=
  ∃ (k : Nat) (b : Bool) (x : Int), k ≤ n ∧ i = .int .i64 k ∧ v = .bool b ∧ a = .int .i64 x ∧ okK c n sh k = b ∧ (b = true → x = sumF sh k) ∧ Below w.heap.size w W ∧ IntsAt W oa n sh
theorem sum20 {sh : Nat → Int} : ∀ k : Nat, (∀ i, i < k → 0 ≤ sh i ∧ sh i ≤ 20) → 0 ≤ sumF sh k ∧ sumF sh k ≤ 20 * k
  | 0, _ => by simp [sumF]
  | k + 1, h => by
    have := sum20 k (fun i hi => h i (by omega))
    have := h k (by omega)
    simp only [sumF]
    omega
theorem mul_wrap {x y : Int} (hx : 0 ≤ x ∧ x ≤ 20) (hy : 0 ≤ y ∧ y ≤ 1000) : IntKind.i64.wrap (x * y) = x * y := by
  have h1 := Int.mul_nonneg hx.1 hy.1
  have h2 : x * y ≤ 20 * 1000 := Int.le_trans (Int.mul_le_mul hx.2 hy.2 hy.1 (by decide)) (by decide)
  exact IntWalk.i64_in _ (by omega)

set_option maxRecDepth 100000 in
set_option maxHeartbeats 4000000 in
theorem shareR_any (coins : Int) (oa : Option Addr) (n cap : Nat) (sh : Nat → Int) (w : World) (hl : IntsAt w oa n sh) :
    Calls Try.prog 31 #[.int .i64 coins, .slice oa n cap] w (SharePost w coins n sh) := by
  have nml := hl.small
  unfold maxLen at nml
  have HL := Lib.hid hl
  clear hl
  obtain ⟨b1, e1⟩ : ∃ b, inB coins 0 500 = b := ⟨_, rfl⟩
  obtain ⟨b2, e2⟩ : ∃ b, decide ((n : Int) ≤ 6) = b := ⟨_, rfl⟩
  have H0 := Lib.hid (show okK coins n sh 0 = (b1 && b2) from by subst e1 e2; simp only [okK, List.range_zero, List.all_nil, Bool.and_true]; congr 1; exact decide_eq_decide.2 (by omega))
  have C88 := Lib.hid (show Calls Try.prog 88 #[.int .i64 coins, .int .i64 0, .int .i64 500] w fun e w' => e = .returned (.bool b1) ∧ w = w' from by rw [← e1]; exact in_any _ _ _ _)
  clear e1
  have HN := Lib.hid e2
  clear e2
  cases b1 with
  | false =>
    go_enter Try.func31, Try.ntmps31
    go_wp2_with (go_at_call 88; refine C88.out.mono ?_; rintro e w' ⟨rfl, rfl⟩)
    go_loopw [6, 7, 8] (SL1 w coins oa n sh) (fun _ _ i _ => n - (intOf i).toNat)
    case atStart => exact ⟨0, _, 0, Nat.zero_le _, rfl, rfl, rfl, H0.out, fun _ => rfl, Below.refl _ _, HL.out⟩
    case round =>
      clear H0 C88
      obtain ⟨k, b, x, hk, rfl, rfl, rfl, hok, hx, hb, hl⟩ := hrel
      have HO := Lib.hid hok
      have HX := Lib.hid hx
      have HB := Lib.hid hb
      have HI := Lib.hid hl
      clear hok hx hb hl
      by_cases hlt : k < n
      · have hi := fun w => run_indexAt_row (w := w) (cap := cap) Try.underlying37 size3 (HI.out.plain (by omega)) hlt
        have hc := HI.out.at hlt
        simp only [Nat.mul_one] at hi
        have HS := Lib.hid (okK_succ coins n sh k)
        cases b with
        | false =>
          go_wp2_with fail
          exact ⟨⟨k + 1, false, x, hlt, by go_num, rfl, rfl, by rw [HS.out, HO.out]; rfl, (fun h => by cases h), HB.out, HI.out⟩, by simp [intOf]; omega⟩
        | true =>
          obtain ⟨b3, e3⟩ : ∃ b, inB (sh k) 0 20 = b := ⟨_, rfl⟩
          have C88 := Lib.hid (show ∀ W, Calls Try.prog 88 #[.int .i64 (sh k), .int .i64 0, .int .i64 20] W fun e w' => e = .returned (.bool b3) ∧ W = w' from fun W => by rw [← e3]; exact in_any _ _ _ _)
          have H3 := Lib.hid e3
          clear e3
          cases b3 with
          | false =>
            go_wp2_with (go_at_call 88; refine (C88.out _).mono ?_; rintro e w' ⟨rfl, rfl⟩)
            exact ⟨⟨k + 1, false, x, hlt, by go_num, rfl, rfl, by rw [HS.out, HO.out, H3.out]; rfl, (fun h => by cases h), HB.out, HI.out⟩, by simp [intOf]; omega⟩
          | true =>
            have HK := Lib.hid (okK_bd (show okK coins n sh (k + 1) = true from by rw [HS.out, HO.out, H3.out]; rfl))
            obtain rfl : x = sumF sh k := HX.out rfl
            have e1 : IntKind.i64.wrap (sumF sh k + sh k) = sumF sh k + sh k := IntWalk.i64_in _ (by have := sum20 (sh := sh) k (fun i hi => HK.out.2.2 i (by omega)); have := HK.out.2.2 k (by omega); have := HK.out.2.1; omega)
            go_wp2_with (go_at_call 88; refine (C88.out _).mono ?_; rintro e w' ⟨rfl, rfl⟩)
            exact ⟨⟨k + 1, true, sumF sh k + sh k, hlt, by go_num, rfl, rfl, by rw [HS.out, HO.out, H3.out]; rfl, fun h => rfl, HB.out, HI.out⟩, by simp [intOf]; omega⟩
      · obtain rfl : n = k := by omega
        cases b with
        | false =>
          go_wp2_with fail
          exact bodyPost_ret (v := .tuple #[.slice none 0 0, .int .i64 1]) (by simp [results, Try.results31, go_sem]) rfl ⟨HB.out, .inr ⟨HO.out, rfl⟩⟩
        | true =>
          obtain rfl : x = sumF sh n := HX.out rfl
          have HK := Lib.hid (okK_bd HO.out)
          obtain ⟨cn, rfl⟩ : ∃ cn : Nat, coins = cn := ⟨coins.toNat, by have := HK.out.1; omega⟩
          have hcn : cn ≤ 500 := by have := HK.out.1; omega
          have hn6 := HK.out.2.1
          go_wp2_with fail
          obtain ⟨i0, hi0, hz0, hz1, hz2⟩ := info_parts info3
          obtain ⟨W3, hrun, hown, hgr⟩ := run_make_full (P := Try.prog) wr w.heap.size 37 3 i0 _ 1 Try.underlying37 hi0 hz0 hz1 .i64 .i64 n (by rw [hz2]; omega) (by unfold maxLen; omega) HB.out.size
          rw [hrun]
          simp only [Result.andThen, Oper.upon_value]
          have HG : Hid (BoxAt W3 wr.heap.size (exVals (fun _ => 0) 0 n).toArray 3) := own_zero hown
          have hb3 := Below.grown (Below.refl wr.heap.size wr) hgr (Nat.le_refl _) (fun _ e => by cases e)
          have HG2 : BoxAt W3 wr.heap.size (rowVals (fun _ => (0 : Int)) n).toArray 3 := by have h := HG.out; rw [exVals_zero] at h; rw [show rowVals (fun _ => (0 : Int)) n = List.replicate n (.int .i64 0) from List.ext_getElem (by simp [rowVals]) (by intros; simp [rowVals])]; exact h
          have I1 := Lib.hid (show SH w oa n wr.heap.size sh (ownK sh n 0) W3 from ⟨HB.out.next hb3, HI.out.grow hb3, HG2, HB.out.size, fun h => HL.out.old h⟩)
          have HOK := Lib.hid (show shareOk cn n sh = true from HO.out)
          have lgb := HB.out.size
          generalize wr.heap.size = gb at *
          clear hrun hown hgr hi0 hz0 hz1 hz2 HG hb3 HG2 HI HB HX HO
          by_cases hs : 0 < sumF sh n
          · have HM := Lib.hid ((men_iff (n := n) (fun i hi => (HK.out.2.2 i hi).1)).2 hs)
            generalize sumF sh n = al at *
            go_wp2_with fail
            go_loopw [10] (fun v wi => ∃ c : Nat, c ≤ cn ∧ v = .int .i64 c ∧ SH w oa n gb sh (ownK sh n c) wi) (fun v _ => cn - (intOf v).toNat)
            case atStart => exact ⟨0, Nat.zero_le _, rfl, I1.out⟩
            case round =>
              clear I1
              obtain ⟨c, hc, rfl, h1⟩ := hrel
              have I2 := Lib.hid h1
              clear h1
              by_cases hlc : c < cn
              · obtain ⟨own, eo⟩ : ∃ own, own = ownK sh n c := ⟨_, rfl⟩
                have HBD := Lib.hid (show ∀ i, 0 ≤ own i ∧ own i ≤ 500 from fun i => by rw [eo]; have := ownK_bd sh n c i; omega)
                have HR := Lib.hid (show refB sh own n = rK sh n c from by rw [eo]; exact refB_eq HM.out (fun i hi => (HK.out.2.2 i hi).1) c)
                have HRL := Lib.hid (rK_spec HM.out (fun i hi => (HK.out.2.2 i hi).1) c).1
                have HU := Lib.hid (show ownK sh n (c + 1) = fun i => if i = rK sh n c then own (rK sh n c) + 1 else own i from by
                  funext i
                  rw [ownK_succ, eo]
                  by_cases e : i = rK sh n c
                  · simp [e]
                  · simp [e])
                rw [← eo] at I2
                clear eo
                generalize rK sh n c = r at *
                go_wp2_with fail
                go_loopw [11, 12] (fun b i wi => ∃ j : Nat, j ≤ n ∧ i = .int .i64 j ∧ b = .int .i64 (refB sh own j : Nat) ∧ SH w oa n gb sh own wi) (fun _ i _ => n - (intOf i).toNat)
                case atStart => exact ⟨0, Nat.zero_le _, rfl, rfl, I2.out⟩
                case round =>
                  clear I2
                  obtain ⟨j, hj, rfl, rfl, h1⟩ := hrel
                  have I3 := Lib.hid h1
                  clear h1
                  by_cases hlj : j < n
                  · have hbl : refB sh own j < n := by have := refB_lt sh own j; omega
                    have HS := Lib.hid (show refB sh own (j + 1) = if sh (refB sh own j) * (own j + 1) < sh j * (own (refB sh own j) + 1) then j else refB sh own j from rfl)
                    generalize refB sh own j = b at *
                    have hi1 := fun w => run_indexAt_row (w := w) (cap := cap) Try.underlying37 size3 (I3.out.l.plain (by omega)) hlj
                    have hi2 := fun w => run_indexAt_row (w := w) (cap := cap) Try.underlying37 size3 (I3.out.l.plain (by omega)) hbl
                    have hi3 := fun w => run_indexAt_row (w := w) (oa := some ⟨gb, 0, none⟩) (cap := n) Try.underlying37 size3 rfl hlj
                    have hi4 := fun w => run_indexAt_row (w := w) (oa := some ⟨gb, 0, none⟩) (cap := n) Try.underlying37 size3 rfl hbl
                    simp only [blk, ofs, Nat.zero_add, Nat.mul_one] at hi3 hi4
                    simp only [Nat.mul_one] at hi1 hi2
                    have c1 := I3.out.l.at hlj
                    have c2 := I3.out.l.at hbl
                    have c3 := cellAt I3.out.g j
                    have c4 := cellAt I3.out.g b
                    rw [List.getElem?_toArray, rowVals_get _ _ _ hlj] at c3
                    rw [List.getElem?_toArray, rowVals_get _ _ _ hbl] at c4
                    have b1 := HK.out.2.2 j hlj
                    have b2 := HK.out.2.2 b hbl
                    have b3 := HBD.out j
                    have b4 := HBD.out b
                    have e1 : IntKind.i64.wrap (own j + 1) = own j + 1 := IntWalk.i64_in _ (by omega)
                    have e2 : IntKind.i64.wrap (own b + 1) = own b + 1 := IntWalk.i64_in _ (by omega)
                    have e3 : IntKind.i64.wrap (sh j * (own b + 1)) = sh j * (own b + 1) := mul_wrap b1 (by omega)
                    have e4 : IntKind.i64.wrap (sh b * (own j + 1)) = sh b * (own j + 1) := mul_wrap b2 (by omega)
                    by_cases hq : sh b * (own j + 1) < sh j * (own b + 1)
                    · have HQ := Lib.hid (show refB sh own (j + 1) = j from by rw [HS.out, if_pos hq])
                      clear b1 b2 b3 b4
                      go_wp2_with fail
                      go_quiet (fail)
                      go_wp2_with fail
                      exact ⟨⟨j + 1, hlj, by go_num, by rw [HQ.out], I3.out.grow (below_drewN (Below.refl _ _) _)⟩, by simp [intOf]; omega⟩
                    · have HQ := Lib.hid (show refB sh own (j + 1) = b from by rw [HS.out, if_neg hq])
                      clear b1 b2 b3 b4
                      go_wp2_with fail
                      go_quiet (fail)
                      go_wp2_with fail
                      exact ⟨⟨j + 1, hlj, by go_num, by rw [HQ.out], I3.out.grow (below_drewN (Below.refl _ _) _)⟩, by simp [intOf]; omega⟩
                  · obtain rfl : n = j := by omega
                    have hrn := HRL.out
                    rw [HR.out]
                    have hi1 := fun w => run_indexAt_row (w := w) (oa := some ⟨gb, 0, none⟩) (cap := n) Try.underlying37 size3 rfl hrn
                    simp only [blk, ofs, Nat.zero_add, Nat.mul_one] at hi1
                    have c1 := cellAt I3.out.g r
                    have f1 := freeAt I3.out.g r
                    rw [List.getElem?_toArray, rowVals_get _ _ _ hrn] at c1
                    have e1 : IntKind.i64.wrap (own r + 1) = own r + 1 := IntWalk.i64_in _ (by have := HBD.out r; omega)
                    go_wp2_with fail
                    exact ⟨⟨c + 1, hlc, by go_num, by rw [HU.out]; exact I3.out.store r (own r + 1)⟩, by simp [intOf]; omega⟩
              · obtain rfl : c = cn := by omega
                have HF := Lib.hid (show rowVals (shareF sh n c) n = rowVals (ownK sh n c) n from by
                  have hm := HM.out
                  have : ¬ (menL sh n).length = 0 := by omega
                  simp [rowVals, shareF, this])
                go_wp2_with fail
                exact bodyPost_ret (v := .tuple #[.slice (some ⟨gb, 0, none⟩) n n, .int .i64 0]) (by simp [results, Try.results31, go_sem]) rfl ⟨I2.out.bel, .inl ⟨HOK.out, gb, lgb, rfl, by rw [Int.toNat_natCast, HF.out]; exact I2.out.g⟩⟩
          · have HM := Lib.hid (show (menL sh n).length = 0 from by have := men_iff (n := n) (fun i hi => (HK.out.2.2 i hi).1); omega)
            generalize sumF sh n = al at *
            go_wp2_with fail
            go_loopw [10] (fun v wi => v = .int .i64 0 ∧ SH w oa n gb sh (ownK sh n 0) wi) (fun v _ => 0)
            case atStart => exact ⟨rfl, I1.out⟩
            case round =>
              clear I1
              obtain ⟨rfl, h1⟩ := hrel
              have I2 := Lib.hid h1
              clear h1
              have HF := Lib.hid (show rowVals (shareF sh n cn) n = rowVals (ownK sh n 0) n from by
                have hm := HM.out
                simp [rowVals, shareF, hm, ownK])
              by_cases hc0 : 0 < cn
              all_goals
                go_wp2_with fail
                exact bodyPost_ret (v := .tuple #[.slice (some ⟨gb, 0, none⟩) n n, .int .i64 0]) (by simp [results, Try.results31, go_sem]) rfl ⟨I2.out.bel, .inl ⟨HOK.out, gb, lgb, rfl, by rw [Int.toNat_natCast, HF.out]; exact I2.out.g⟩⟩
  | true =>
    have e2 := HN.out
    go_enter Try.func31, Try.ntmps31
    go_wp2_with (go_at_call 88; refine C88.out.mono ?_; rintro e w' ⟨rfl, rfl⟩)
    clear e2
    go_loopw [6, 7, 8] (SL1 w coins oa n sh) (fun _ _ i _ => n - (intOf i).toNat)
    case atStart => exact ⟨0, _, 0, Nat.zero_le _, rfl, rfl, rfl, H0.out, fun _ => rfl, Below.refl _ _, HL.out⟩
    case round =>
      clear H0 C88
      obtain ⟨k, b, x, hk, rfl, rfl, rfl, hok, hx, hb, hl⟩ := hrel
      have HO := Lib.hid hok
      have HX := Lib.hid hx
      have HB := Lib.hid hb
      have HI := Lib.hid hl
      clear hok hx hb hl
      by_cases hlt : k < n
      · have hi := fun w => run_indexAt_row (w := w) (cap := cap) Try.underlying37 size3 (HI.out.plain (by omega)) hlt
        have hc := HI.out.at hlt
        simp only [Nat.mul_one] at hi
        have HS := Lib.hid (okK_succ coins n sh k)
        cases b with
        | false =>
          go_wp2_with fail
          exact ⟨⟨k + 1, false, x, hlt, by go_num, rfl, rfl, by rw [HS.out, HO.out]; rfl, (fun h => by cases h), HB.out, HI.out⟩, by simp [intOf]; omega⟩
        | true =>
          obtain ⟨b3, e3⟩ : ∃ b, inB (sh k) 0 20 = b := ⟨_, rfl⟩
          have C88 := Lib.hid (show ∀ W, Calls Try.prog 88 #[.int .i64 (sh k), .int .i64 0, .int .i64 20] W fun e w' => e = .returned (.bool b3) ∧ W = w' from fun W => by rw [← e3]; exact in_any _ _ _ _)
          have H3 := Lib.hid e3
          clear e3
          cases b3 with
          | false =>
            go_wp2_with (go_at_call 88; refine (C88.out _).mono ?_; rintro e w' ⟨rfl, rfl⟩)
            exact ⟨⟨k + 1, false, x, hlt, by go_num, rfl, rfl, by rw [HS.out, HO.out, H3.out]; rfl, (fun h => by cases h), HB.out, HI.out⟩, by simp [intOf]; omega⟩
          | true =>
            have HK := Lib.hid (okK_bd (show okK coins n sh (k + 1) = true from by rw [HS.out, HO.out, H3.out]; rfl))
            obtain rfl : x = sumF sh k := HX.out rfl
            have e1 : IntKind.i64.wrap (sumF sh k + sh k) = sumF sh k + sh k := IntWalk.i64_in _ (by have := sum20 (sh := sh) k (fun i hi => HK.out.2.2 i (by omega)); have := HK.out.2.2 k (by omega); have := HK.out.2.1; omega)
            go_wp2_with (go_at_call 88; refine (C88.out _).mono ?_; rintro e w' ⟨rfl, rfl⟩)
            exact ⟨⟨k + 1, true, sumF sh k + sh k, hlt, by go_num, rfl, rfl, by rw [HS.out, HO.out, H3.out]; rfl, fun h => rfl, HB.out, HI.out⟩, by simp [intOf]; omega⟩
      · obtain rfl : n = k := by omega
        cases b with
        | false =>
          go_wp2_with fail
          exact bodyPost_ret (v := .tuple #[.slice none 0 0, .int .i64 1]) (by simp [results, Try.results31, go_sem]) rfl ⟨HB.out, .inr ⟨HO.out, rfl⟩⟩
        | true =>
          obtain rfl : x = sumF sh n := HX.out rfl
          have HK := Lib.hid (okK_bd HO.out)
          obtain ⟨cn, rfl⟩ : ∃ cn : Nat, coins = cn := ⟨coins.toNat, by have := HK.out.1; omega⟩
          have hcn : cn ≤ 500 := by have := HK.out.1; omega
          have hn6 := HK.out.2.1
          go_wp2_with fail
          obtain ⟨i0, hi0, hz0, hz1, hz2⟩ := info_parts info3
          obtain ⟨W3, hrun, hown, hgr⟩ := run_make_full (P := Try.prog) wr w.heap.size 37 3 i0 _ 1 Try.underlying37 hi0 hz0 hz1 .i64 .i64 n (by rw [hz2]; omega) (by unfold maxLen; omega) HB.out.size
          rw [hrun]
          simp only [Result.andThen, Oper.upon_value]
          have HG : Hid (BoxAt W3 wr.heap.size (exVals (fun _ => 0) 0 n).toArray 3) := own_zero hown
          have hb3 := Below.grown (Below.refl wr.heap.size wr) hgr (Nat.le_refl _) (fun _ e => by cases e)
          have HG2 : BoxAt W3 wr.heap.size (rowVals (fun _ => (0 : Int)) n).toArray 3 := by have h := HG.out; rw [exVals_zero] at h; rw [show rowVals (fun _ => (0 : Int)) n = List.replicate n (.int .i64 0) from List.ext_getElem (by simp [rowVals]) (by intros; simp [rowVals])]; exact h
          have I1 := Lib.hid (show SH w oa n wr.heap.size sh (ownK sh n 0) W3 from ⟨HB.out.next hb3, HI.out.grow hb3, HG2, HB.out.size, fun h => HL.out.old h⟩)
          have HOK := Lib.hid (show shareOk cn n sh = true from HO.out)
          have lgb := HB.out.size
          generalize wr.heap.size = gb at *
          clear hrun hown hgr hi0 hz0 hz1 hz2 HG hb3 HG2 HI HB HX HO
          by_cases hs : 0 < sumF sh n
          · have HM := Lib.hid ((men_iff (n := n) (fun i hi => (HK.out.2.2 i hi).1)).2 hs)
            generalize sumF sh n = al at *
            go_wp2_with fail
            go_loopw [10] (fun v wi => ∃ c : Nat, c ≤ cn ∧ v = .int .i64 c ∧ SH w oa n gb sh (ownK sh n c) wi) (fun v _ => cn - (intOf v).toNat)
            case atStart => exact ⟨0, Nat.zero_le _, rfl, I1.out⟩
            case round =>
              clear I1
              obtain ⟨c, hc, rfl, h1⟩ := hrel
              have I2 := Lib.hid h1
              clear h1
              by_cases hlc : c < cn
              · obtain ⟨own, eo⟩ : ∃ own, own = ownK sh n c := ⟨_, rfl⟩
                have HBD := Lib.hid (show ∀ i, 0 ≤ own i ∧ own i ≤ 500 from fun i => by rw [eo]; have := ownK_bd sh n c i; omega)
                have HR := Lib.hid (show refB sh own n = rK sh n c from by rw [eo]; exact refB_eq HM.out (fun i hi => (HK.out.2.2 i hi).1) c)
                have HRL := Lib.hid (rK_spec HM.out (fun i hi => (HK.out.2.2 i hi).1) c).1
                have HU := Lib.hid (show ownK sh n (c + 1) = fun i => if i = rK sh n c then own (rK sh n c) + 1 else own i from by
                  funext i
                  rw [ownK_succ, eo]
                  by_cases e : i = rK sh n c
                  · simp [e]
                  · simp [e])
                rw [← eo] at I2
                clear eo
                generalize rK sh n c = r at *
                go_wp2_with fail
                go_loopw [11, 12] (fun b i wi => ∃ j : Nat, j ≤ n ∧ i = .int .i64 j ∧ b = .int .i64 (refB sh own j : Nat) ∧ SH w oa n gb sh own wi) (fun _ i _ => n - (intOf i).toNat)
                case atStart => exact ⟨0, Nat.zero_le _, rfl, rfl, I2.out⟩
                case round =>
                  clear I2
                  obtain ⟨j, hj, rfl, rfl, h1⟩ := hrel
                  have I3 := Lib.hid h1
                  clear h1
                  by_cases hlj : j < n
                  · have hbl : refB sh own j < n := by have := refB_lt sh own j; omega
                    have HS := Lib.hid (show refB sh own (j + 1) = if sh (refB sh own j) * (own j + 1) < sh j * (own (refB sh own j) + 1) then j else refB sh own j from rfl)
                    generalize refB sh own j = b at *
                    have hi1 := fun w => run_indexAt_row (w := w) (cap := cap) Try.underlying37 size3 (I3.out.l.plain (by omega)) hlj
                    have hi2 := fun w => run_indexAt_row (w := w) (cap := cap) Try.underlying37 size3 (I3.out.l.plain (by omega)) hbl
                    have hi3 := fun w => run_indexAt_row (w := w) (oa := some ⟨gb, 0, none⟩) (cap := n) Try.underlying37 size3 rfl hlj
                    have hi4 := fun w => run_indexAt_row (w := w) (oa := some ⟨gb, 0, none⟩) (cap := n) Try.underlying37 size3 rfl hbl
                    simp only [blk, ofs, Nat.zero_add, Nat.mul_one] at hi3 hi4
                    simp only [Nat.mul_one] at hi1 hi2
                    have c1 := I3.out.l.at hlj
                    have c2 := I3.out.l.at hbl
                    have c3 := cellAt I3.out.g j
                    have c4 := cellAt I3.out.g b
                    rw [List.getElem?_toArray, rowVals_get _ _ _ hlj] at c3
                    rw [List.getElem?_toArray, rowVals_get _ _ _ hbl] at c4
                    have b1 := HK.out.2.2 j hlj
                    have b2 := HK.out.2.2 b hbl
                    have b3 := HBD.out j
                    have b4 := HBD.out b
                    have e1 : IntKind.i64.wrap (own j + 1) = own j + 1 := IntWalk.i64_in _ (by omega)
                    have e2 : IntKind.i64.wrap (own b + 1) = own b + 1 := IntWalk.i64_in _ (by omega)
                    have e3 : IntKind.i64.wrap (sh j * (own b + 1)) = sh j * (own b + 1) := mul_wrap b1 (by omega)
                    have e4 : IntKind.i64.wrap (sh b * (own j + 1)) = sh b * (own j + 1) := mul_wrap b2 (by omega)
                    by_cases hq : sh b * (own j + 1) < sh j * (own b + 1)
                    · have HQ := Lib.hid (show refB sh own (j + 1) = j from by rw [HS.out, if_pos hq])
                      clear b1 b2 b3 b4
                      go_wp2_with fail
                      go_quiet (fail)
                      go_wp2_with fail
                      exact ⟨⟨j + 1, hlj, by go_num, by rw [HQ.out], I3.out.grow (below_drewN (Below.refl _ _) _)⟩, by simp [intOf]; omega⟩
                    · have HQ := Lib.hid (show refB sh own (j + 1) = b from by rw [HS.out, if_neg hq])
                      clear b1 b2 b3 b4
                      go_wp2_with fail
                      go_quiet (fail)
                      go_wp2_with fail
                      exact ⟨⟨j + 1, hlj, by go_num, by rw [HQ.out], I3.out.grow (below_drewN (Below.refl _ _) _)⟩, by simp [intOf]; omega⟩
                  · obtain rfl : n = j := by omega
                    have hrn := HRL.out
                    rw [HR.out]
                    have hi1 := fun w => run_indexAt_row (w := w) (oa := some ⟨gb, 0, none⟩) (cap := n) Try.underlying37 size3 rfl hrn
                    simp only [blk, ofs, Nat.zero_add, Nat.mul_one] at hi1
                    have c1 := cellAt I3.out.g r
                    have f1 := freeAt I3.out.g r
                    rw [List.getElem?_toArray, rowVals_get _ _ _ hrn] at c1
                    have e1 : IntKind.i64.wrap (own r + 1) = own r + 1 := IntWalk.i64_in _ (by have := HBD.out r; omega)
                    go_wp2_with fail
                    exact ⟨⟨c + 1, hlc, by go_num, by rw [HU.out]; exact I3.out.store r (own r + 1)⟩, by simp [intOf]; omega⟩
              · obtain rfl : c = cn := by omega
                have HF := Lib.hid (show rowVals (shareF sh n c) n = rowVals (ownK sh n c) n from by
                  have hm := HM.out
                  have : ¬ (menL sh n).length = 0 := by omega
                  simp [rowVals, shareF, this])
                go_wp2_with fail
                exact bodyPost_ret (v := .tuple #[.slice (some ⟨gb, 0, none⟩) n n, .int .i64 0]) (by simp [results, Try.results31, go_sem]) rfl ⟨I2.out.bel, .inl ⟨HOK.out, gb, lgb, rfl, by rw [Int.toNat_natCast, HF.out]; exact I2.out.g⟩⟩
          · have HM := Lib.hid (show (menL sh n).length = 0 from by have := men_iff (n := n) (fun i hi => (HK.out.2.2 i hi).1); omega)
            generalize sumF sh n = al at *
            go_wp2_with fail
            go_loopw [10] (fun v wi => v = .int .i64 0 ∧ SH w oa n gb sh (ownK sh n 0) wi) (fun v _ => 0)
            case atStart => exact ⟨rfl, I1.out⟩
            case round =>
              clear I1
              obtain ⟨rfl, h1⟩ := hrel
              have I2 := Lib.hid h1
              clear h1
              have HF := Lib.hid (show rowVals (shareF sh n cn) n = rowVals (ownK sh n 0) n from by
                have hm := HM.out
                simp [rowVals, shareF, hm, ownK])
              by_cases hc0 : 0 < cn
              all_goals
                go_wp2_with fail
                exact bodyPost_ret (v := .tuple #[.slice (some ⟨gb, 0, none⟩) n n, .int .i64 0]) (by simp [results, Try.results31, go_sem]) rfl ⟨I2.out.bel, .inl ⟨HOK.out, gb, lgb, rfl, by rw [Int.toNat_natCast, HF.out]; exact I2.out.g⟩⟩
end Go.Proofs.Ytbpeamppkdmdcaa
