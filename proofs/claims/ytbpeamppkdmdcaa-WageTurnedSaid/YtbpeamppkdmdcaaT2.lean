/-
  Walks: the law that whatever tickets truly are, what is told has it.
-/
import Derived.Test.YtbpeamppkdmdcaaG10
import Derived.Test.YtbpeamppkdmdcaaP5
import Derived.Test.YtbpeamppkdmdcaaT1
import Derived.Test.YtbpeamppkdmdcaaE2
import Derived.Deep.CutRange
import Derived.StillTailTactics
namespace Go.Proofs.Ytbpeamppkdmdcaa
open Go.RowKit

def insB (n lo hi : Int) : Bool := decide (lo ≤ n) && decide (n ≤ hi)
set_option maxHeartbeats 400000 in
theorem inside_any (n lo hi : Int) (w : World) : Calls Try.prog 35 #[.int .i64 n, .agg #[.int .i64 lo, .int .i64 hi]] w fun e w' => e = .returned (.bool (insB n lo hi)) ∧ Below w.heap.size w w' := by
  by_cases c1 : lo ≤ n
  · go_enter Try.func35, Try.ntmps35
    go_wp2
    go_ret
    exact ⟨ret_bool (by simp [insB, c1]), (Below.refl _ _).alloc (Nat.le_refl _) _⟩
  · go_enter Try.func35, Try.ntmps35
    go_wp2
    go_ret
    exact ⟨ret_bool (by rw [insB, decide_eq_false (show ¬ lo ≤ n by omega), Bool.false_and]), (Below.refl _ _).alloc (Nat.le_refl _) _⟩
theorem inside_yes {n lo hi : Int} (h0 : lo ≤ n) (h1 : n ≤ hi) (w : World) : Calls Try.prog 35 #[.int .i64 n, .agg #[.int .i64 lo, .int .i64 hi]] w fun e w' => e = .returned (.bool true) ∧ Below w.heap.size w w' :=
  (inside_any n lo hi w).mono fun e w' h => ⟨by rw [h.1]; simp [insB, h0, h1], h.2⟩
/-- A slice of zeros is made. -/
theorem make_ints (w : World) (n : Nat) (hn : n ≤ 1000) : ∃ W, (Instr.makeSlice 37 (.int .i64 n) (.int .i64 n)).run Try.prog w = .ok (.slice (some ⟨w.heap.size, 0, none⟩) n n) W ∧ BoxAt W w.heap.size (rowVals (fun _ => 0) n).toArray 3 ∧ Below w.heap.size w W := by
  obtain ⟨i0, hi0, hz0, hz1, hz2⟩ := info_parts info3
  obtain ⟨W, hrun, hown, hgr⟩ := run_make_full (P := Try.prog) w w.heap.size 37 3 i0 _ 1 Try.underlying37 hi0 hz0 hz1 .i64 .i64 n (by rw [hz2]; omega) (by unfold maxLen; omega) (Nat.le_refl _)
  refine ⟨W, hrun, ?_, Below.grown (Below.refl _ _) hgr (Nat.le_refl _) (fun _ e => by cases e)⟩
  have h := own_zero (F := fun _ => 0) hown
  have e : exVals (fun _ => 0) 0 n = rowVals (fun _ => 0) n := by simp [exVals, rowVals]
  rwa [e] at h
theorem row_store {w : World} {b n : Nat} {F : Nat → Int} {t : TypeId} (h : BoxAt w b (rowVals F n).toArray t) (c : Nat) (x : Int) : BoxAt (w.setCell ⟨b, c, none⟩ (.int .i64 x)) b (rowVals (fun j => if j = c then x else F j) n).toArray t := by
  have h2 := h.store c (.int .i64 x)
  rwa [List.setIfInBounds_toArray, rowVals_set] at h2
theorem row_at {w : World} {b n k : Nat} {F : Nat → Int} {t : TypeId} (h : BoxAt w b (rowVals F n).toArray t) (hk : k < n) : w.cell? ⟨b, k, none⟩ = some (.int .i64 (F k)) := by
  rw [cellAt h, List.getElem?_toArray, rowVals_get _ _ _ hk]

theorem true_ok {cr : Int} {sn tn : Nat} {S : Nat → Sm} {T : Nat → Tk} {K : Nat → Kn} (_hv : Valid cr sn tn S T) (hK : ∀ i, i < tn → InT (T i) (K i)) : exB tn tn tn tn T (fun i => (K i).fr) (fun i => (K i).to) (fun i => (K i).td) = true := by
  unfold exB
  simp only [decide_true, Bool.true_and, List.all_eq_true, List.mem_range]
  intro i hi
  have h := hK i hi
  unfold InT at h
  unfold exOk
  simp only [Bool.and_eq_true, inB_iff]
  omega

theorem whose_yes {w : World} {V : Prop} {b : Bool} {set : Nat} {none : Bool} {e : Ending} {w' : World} (h : WhosePost w V b set none e w') (hv : V) (hb : b = true) : e = .returned (.tuple #[.int .i64 set, .bool none, .int .i64 0]) ∧ Below w.heap.size w w' := by
  rcases h with ⟨h0, h | h | h⟩
  · exact ⟨h.2.2, h0⟩
  · rw [hb] at h; cases h.2.1
  · exact absurd hv h.1
theorem and_bit {a c : Nat} (ha : a < 16) (hc : c ≤ 3) (h : a.testBit c = true) : bits .and .i64 ((a : Int) / 2 ^ c) 1 = 1 := by
  have hc : c = 0 ∨ c = 1 ∨ c = 2 ∨ c = 3 := by omega
  have ha : a = 0 ∨ a = 1 ∨ a = 2 ∨ a = 3 ∨ a = 4 ∨ a = 5 ∨ a = 6 ∨ a = 7 ∨ a = 8 ∨ a = 9 ∨ a = 10 ∨ a = 11 ∨ a = 12 ∨ a = 13 ∨ a = 14 ∨ a = 15 := by omega
  rcases hc with rfl | rfl | rfl | rfl <;> rcases ha with rfl | rfl | rfl | rfl | rfl | rfl | rfl | rfl | rfl | rfl | rfl | rfl | rfl | rfl | rfl | rfl <;> first | rfl | (revert h; decide)
/-- How many of the first fathoms are due to a crew. -/
def fmany (T : Nat → Tk) (K : Nat → Kn) (tn : Nat) (s c : Int) (f : Nat) : Nat := cntP (fun f => decide (ownerOf T K tn s f = c)) f
theorem fmany_yes {T : Nat → Tk} {K : Nat → Kn} {tn : Nat} {s c : Int} {f : Nat} (h : ownerOf T K tn s f = c) : fmany T K tn s c (f + 1) = fmany T K tn s c f + 1 := by simp [fmany, cntP, h]
theorem fmany_no {T : Nat → Tk} {K : Nat → Kn} {tn : Nat} {s c : Int} {f : Nat} (h : ownerOf T K tn s f ≠ c) : fmany T K tn s c (f + 1) = fmany T K tn s c f := by simp [fmany, cntP, h]
theorem fmany_le (T : Nat → Tk) (K : Nat → Kn) (tn : Nat) (s c : Int) (f : Nat) : fmany T K tn s c f ≤ f := cntP_le _ _
theorem coinsOf_bd' {cr : Int} {sn tn : Nat} {S : Nat → Sm} {T : Nat → Tk} (hv : Valid cr sn tn S T) (K : Nat → Kn) (c : Int) {s : Nat} (hs : s ≤ sn) : 0 ≤ coinsOf S T K s tn c ∧ coinsOf S T K s tn c ≤ 3000000 := by
  have h := sumF_bd (fun s => (manyOf S T K tn s c : Int) * (S s).rate) sn (fun i hi => by
    have h1 := many_le (S := S) (T := T) (K := K) (tn := tn) (c := c) (s := i) (hv.fat i hi).1
    have h2 := hv.fat i hi
    have h3 := hv.rate i hi
    have h4 : 0 ≤ (manyOf S T K tn i c : Int) * (S i).rate := Int.mul_nonneg (by omega) h3.1
    have h5 : (manyOf S T K tn i c : Int) * (S i).rate ≤ 20 * 50 := Int.mul_le_mul (by omega) h3.2 h3.1 (by decide)
    omega) s hs
  have := hv.sn3
  unfold coinsOf
  omega
theorem term_bd {a : Int} {r : Int} (ha : 0 ≤ a ∧ a ≤ 20) (hr : 0 ≤ r ∧ r ≤ 50) : 0 ≤ a * r ∧ a * r ≤ 1000 :=
  ⟨Int.mul_nonneg ha.1 hr.1, Int.le_trans (Int.mul_le_mul ha.2 hr.2 hr.1 (by decide)) (by decide)⟩
theorem true_none {cr : Int} {sn tn : Nat} {S : Nat → Sm} {T : Nat → Tk} {K : Nat → Kn} (hv : Valid cr sn tn S T) (hK : TruthOf T tn K) {s : Int} {f : Nat} (h : ownerOf T K tn s f = -1) : decide (ownerOf T (mostK (-1) T) tn s f = -1) = true :=
  decide_eq_true (owner_favor (favor_most hK) hv.crews s f h)
theorem true_bit {cr : Int} {sn tn : Nat} {S : Nat → Sm} {T : Nat → Tk} {K : Nat → Kn} (hv : Valid cr sn tn S T) (hK : TruthOf T tn K) {s : Int} {f c n : Nat} (hc : c < n) (h : ownerOf T K tn s f = c) : (setN T tn s f n).testBit c = true := by
  rw [setN_owner hc]
  exact decide_eq_true (owner_favor (favor_most hK) hv.crews s f h)
theorem owner_cases {cr : Int} {sn tn : Nat} {S : Nat → Sm} {T : Nat → Tk} (hv : Valid cr sn tn S T) (K : Nat → Kn) (s : Int) (f : Nat) {n : Nat} (hn : cr = n) : ownerOf T K tn s f = -1 ∨ ∃ c : Nat, c < n ∧ ownerOf T K tn s f = c := by
  have h1 := owner_range (K := K) (s := s) (f := f) (cr := cr) (fun i hi => by have := hv.tk i hi; omega : ∀ i, i < tn → 0 ≤ (T i).crew ∧ (T i).crew ≤ cr - 1) hv.cr0
  by_cases h : ownerOf T K tn s f = -1
  · exact .inl h
  · exact .inr ⟨(ownerOf T K tn s f).toNat, by omega, by omega⟩

set_option maxRecDepth 100000 in
set_option maxHeartbeats 8000000 in
theorem true_law (cr : Int) (sa ta : Option Addr) (sn sc tn tc : Nat) (S : Nat → Sm) (T : Nat → Tk) (oa : Option Addr) (bn bc : Nat) (bys : Nat → Int) (w : World) (hS : SeamsAt w sa sn S) (hT : TicketsAt w ta tn T) (hU : U16At w oa bn bys) (hbd : ∀ i, i < bn → 0 ≤ bys i ∧ bys i ≤ 65535) :
    Calls Try.prog 6 #[.agg #[.int .i64 cr, .slice sa sn sc, .slice ta tn tc], .slice oa bn bc] w fun e w' => e = .returned (.bool true) ∧ Below w.heap.size w w' := by
  have I0 := Lib.hid (WB.new (cr := cr) (sc := sc) (tc := tc) hS hT)
  have HU := Lib.hid hU
  have HBD := Lib.hid hbd
  have q0 := cellAt I0.out.box 0
  have q1 := cellAt I0.out.box 1
  have q2 := cellAt I0.out.box 2
  simp only [List.getElem?_toArray, List.getElem?_cons_zero, List.getElem?_cons_succ] at q0 q1 q2
  clear hS hT hU hbd
  go_enter Try.func6, Try.ntmps6
  go_wp2_with (go_at_call 32; refine (fine_any cr sa ta sn sc tn tc S T _ I0.out.ss I0.out.tt).mono ?_)
  rintro e w1 ⟨b, rfl, hbv, hb1⟩
  have I1 := Lib.hid (I0.out.grow hb1)
  clear I0 hb1 q0 q1 q2
  have q0 := cellAt I1.out.box 0
  have q1 := cellAt I1.out.box 1
  have q2 := cellAt I1.out.box 2
  simp only [List.getElem?_toArray, List.getElem?_cons_zero, List.getElem?_cons_succ] at q0 q1 q2
  cases b with
  | false =>
    clear hbv q0 q1 q2
    go_wp2_with (go_at_call 14; refine (awake_any _).mono ?_; rintro e w2 ⟨rfl, hb2⟩; have HB := Lib.hid (I1.out.bel.next hb2))
    exact bodyPost_ret (v := .bool true) (by simp [results, Try.results6, go_sem]) rfl ⟨rfl, HB.out⟩
  | true =>
    have HV := Lib.hid (hbv.1 rfl)
    clear hbv
    obtain ⟨n, rfl⟩ : ∃ n : Nat, cr = n := ⟨cr.toNat, by have := HV.out.cr0; omega⟩
    have hcr : 1 ≤ n ∧ n ≤ 4 := by have := HV.out.cr0; have := HV.out.cr1; omega
    have hsn3 := HV.out.sn3
    have htn6 := HV.out.tn6
    go_wp2_with (go_at_call 33; refine (truly_own n sa ta sn sc tn tc T oa bn bc bys _ I1.out.tt (Row.grow HU.out I1.out.bel) HBD.out htn6 (fun i hi => HV.out.spans hi)).mono ?_)
    rintro e w2 ⟨v1, v2, v3, K, rfl, hK, hown⟩
    obtain ⟨o1, c1, rfl, j1, -⟩ := hown.ints (v := v1) (f := fun i => (K i).fr) (k := tn) (by simp [threeVS]) (by unfold maxLen; omega)
    obtain ⟨o2, c2, rfl, j2, -⟩ := hown.ints (v := v2) (f := fun i => (K i).to) (k := tn) (by simp [threeVS]) (by unfold maxLen; omega)
    obtain ⟨o3, c3, rfl, j3, -⟩ := hown.ints (v := v3) (f := fun i => (K i).td) (k := tn) (by simp [threeVS]) (by unfold maxLen; omega)
    have HK := Lib.hid hK
    have I2 := Lib.hid (I1.out.grow hown.bel)
    have J1 := Lib.hid j1
    have J2 := Lib.hid j2
    have J3 := Lib.hid j3
    clear I1 q0 q1 q2 hown hK j1 j2 j3
    have q0 := cellAt I2.out.box 0
    have q1 := cellAt I2.out.box 1
    have q2 := cellAt I2.out.box 2
    simp only [List.getElem?_toArray, List.getElem?_cons_zero, List.getElem?_cons_succ] at q0 q1 q2
    go_wp2_with (go_at_call 25; refine (exacts_any n sa ta sn sc tn tc S T o1 o2 o3 tn c1 tn c2 tn c3 _ _ _ _ I2.out.ss I2.out.tt J1.out J2.out J3.out).mono ?_)
    intro e w3 h
    obtain ⟨g, hg, rfl, hbx, hb3⟩ := h.yes HV.out (true_ok HV.out HK.out)
    simp only [Int.toNat_natCast] at hbx ⊢
    have I3 := Lib.hid (I2.out.grow hb3)
    have J1 := Lib.hid (IntsAt.grow J1.out hb3)
    have J2 := Lib.hid (IntsAt.grow J2.out hb3)
    have J3 := Lib.hid (IntsAt.grow J3.out hb3)
    have BC := Lib.hid (show BoxAt w3 g (rowVals (fun j : Nat => coinsOf S T K sn tn j) n).toArray 3 from hbx)
    clear h hbx hb3 q0 q1 q2 hg I2
    have q0 := cellAt I3.out.box 0
    have q1 := cellAt I3.out.box 1
    have q2 := cellAt I3.out.box 2
    simp only [List.getElem?_toArray, List.getElem?_cons_zero, List.getElem?_cons_succ] at q0 q1 q2
    obtain ⟨w4, hrun, hbx, hb4⟩ := make_ints w3 n (by omega)
    have p1 := cellAt (I3.out.grow hb4).box 1
    simp only [List.getElem?_toArray, List.getElem?_cons_zero, List.getElem?_cons_succ] at p1
    have B4 := Lib.hid hb4
    have BO := Lib.hid hbx
    clear hb4 hbx
    go_wp2_with fail
    clear hrun q0 q1 q2 p1
    have IW := Lib.hid (fun W (h : Below w3.heap.size w3 W) => I3.out.grow h)
    have JW := Lib.hid (fun W (h : Below w3.heap.size w3 W) => (⟨IntsAt.grow J1.out h, IntsAt.grow J2.out h, IntsAt.grow J3.out h⟩ : _ ∧ _ ∧ _))
    have HC := Lib.hid (fun W (h : Below w3.heap.size w3 W) => BC.out.grow h)
    clear I3 J1 J2 J3 BC
    go_loopw [11, 12, 71] (fun pd al v wr => ∃ s : Nat, s ≤ sn ∧ v = .int .i64 s ∧ pd = .int .i64 (allOf S s - coinsOf S T K s tn (-1)) ∧ al = .int .i64 (coinsOf S T K s tn (-1)) ∧ BoxAt wr w3.heap.size (rowVals (fun j : Nat => coinsOf S T K s tn j) n).toArray 3 ∧ Below w3.heap.size w3 wr) (fun _ _ v _ => sn - (intOf v).toNat)
    case atStart => exact ⟨0, Nat.zero_le _, rfl, rfl, rfl, BO.out, B4.out⟩
    case round =>
      clear BO B4
      obtain ⟨s, hs, rfl, rfl, rfl, hown, hbel⟩ := hrel
      have HO := Lib.hid hown
      have HB := Lib.hid hbel
      have hgl := lt_of_heap hown
      clear hown hbel
      by_cases hlt : s < sn
      · have hft := HV.out.fat s hlt
        have hrt := HV.out.rate s hlt
        have IR := Lib.hid (IW.out _ HB.out)
        have hix := fun w => run_indexAt_row (w := w) (cap := sc) Try.underlying22 size52 (IR.out.ss.plain (by omega)) hlt
        obtain ⟨g0, g1⟩ := IR.out.ss.at hlt
        obtain ⟨W5, hW5⟩ : ∃ W5, W5 = wr.alloc (.cells #[.int .i64 (S s).fat, .int .i64 (S s).rate] 52) := ⟨_, rfl⟩
        obtain ⟨hs1, hs2, hb5⟩ := blocks1 hW5.symm
        obtain ⟨W6, hrun, hbx, hb6⟩ := make_ints W5 n (by omega)
        have q0 := cellAt ((IR.out.grow hb5).box) 0
        have q1 := cellAt (IR.out.box) 1
        simp only [List.getElem?_toArray, List.getElem?_cons_zero, List.getElem?_cons_succ] at q0 q1
        have hrun' := hrun
        rw [hs2] at hrun' hbx
        have z0 := cellAt (BoxAt.grow hs1 hb6) 0
        simp only [List.getElem?_toArray, List.getElem?_cons_zero] at z0
        rw [hW5] at q0 hrun'
        clear hrun
        go_wp2_with fail
        clear hrun' q0 q1 z0 g0 g1 hix
        have SB := Lib.hid (BoxAt.grow hs1 hb6)
        have MB := Lib.hid hbx
        have OB2 := Lib.hid ((HO.out.grow hb5).grow hb6)
        have HB2 := Lib.hid (HB.out.trans ((hb5.trans (hb6.mono (by omega))).mono (by omega)))
        have hGs : w3.heap.size ≠ wr.heap.size ∧ w3.heap.size ≠ wr.heap.size + 1 ∧ w3.heap.size ≤ wr.heap.size := by omega
        clear hs1 hs2 hbx hb5 hb6 hW5
        obtain ⟨wo, rfl⟩ : ∃ wo : World, wo = wr := ⟨_, rfl⟩
        go_loopw [11, 16, 81] (fun pd lf v wi => ∃ f : Nat, f ≤ (S s).fat.toNat ∧ v = .int .i64 f ∧ pd = .int .i64 (allOf S s - coinsOf S T K s tn (-1) + ((f : Int) - (fmany T K tn s (-1) f : Int)) * (S s).rate) ∧ lf = .int .i64 (fmany T K tn s (-1) f : Int) ∧ BoxAt wi w3.heap.size (rowVals (fun j : Nat => coinsOf S T K s tn j + (fmany T K tn s j f : Int) * (S s).rate) n).toArray 3 ∧ BoxAt wi (wo.heap.size + 1) (rowVals (fun j : Nat => (fmany T K tn s j f : Int)) n).toArray 3 ∧ BoxAt wi wo.heap.size #[.int .i64 (S s).fat, .int .i64 (S s).rate] 52 ∧ Below w3.heap.size w3 wi) (fun _ _ v _ => (S s).fat.toNat - (intOf v).toNat)
        case atStart => exact ⟨0, Nat.zero_le _, rfl, by simp [fmany, cntP], rfl, by simpa [fmany, cntP] using OB2.out, by simpa [fmany, cntP] using MB.out, SB.out, HB2.out⟩
        case round =>
          clear OB2 MB SB HB2 HB HO IR
          obtain ⟨f, hf, rfl, rfl, rfl, hown, hmany, hsbx, hbel⟩ := hrel
          have HO := Lib.hid hown
          have HM := Lib.hid hmany
          have HS := Lib.hid hsbx
          have HB := Lib.hid hbel
          clear hown hmany hsbx hbel
          have hfl := fmany_le T K tn s (-1) f
          by_cases hlt3 : f < (S s).fat.toNat
          · have hlt4 : (f : Int) < (S s).fat := by omega
            have IR := Lib.hid (IW.out _ HB.out)
            have q0 := cellAt IR.out.box 0
            have q1 := cellAt IR.out.box 1
            have q2 := cellAt IR.out.box 2
            simp only [List.getElem?_toArray, List.getElem?_cons_zero, List.getElem?_cons_succ] at q0 q1 q2
            have CWH := Lib.hid ((whoses_any n sa ta sn sc tn tc S T s f _ IR.out.ss IR.out.tt).mono fun e w' h => whose_yes h HV.out (by rw [inB_iff.2 ⟨by omega, by omega⟩, Int.toNat_natCast, inB_iff.2 ⟨by omega, by omega⟩]; rfl))
            go_wp2_with (go_at_call 19; refine CWH.out.mono ?_)
            rintro e w7 ⟨rfl, hb7⟩
            simp only [Int.toNat_natCast]
            clear CWH q0 q1 q2 IR
            have HB7 := Lib.hid (HB.out.next hb7)
            have HO7 := Lib.hid (HO.out.grow hb7)
            have HM7 := Lib.hid (HM.out.grow hb7)
            have HS7 := Lib.hid (HS.out.grow hb7)
            clear HO HM HS hb7
            have IR := Lib.hid (IW.out _ HB7.out)
            have JR := Lib.hid (JW.out _ HB7.out)
            have q0 := cellAt IR.out.box 0
            have q1 := cellAt IR.out.box 1
            have q2 := cellAt IR.out.box 2
            simp only [List.getElem?_toArray, List.getElem?_cons_zero, List.getElem?_cons_succ] at q0 q1 q2
            have CO := Lib.hid (show Calls Try.prog 34 _ w7 (fun e w' => e = .returned (.int .i64 (ownerOf T K tn s f)) ∧ Below w7.heap.size w7 w') from owner_any n sa ta sn sc tn tc S T o1 o2 o3 c1 c2 c3 (fun i => (K i).fr) (fun i => (K i).to) (fun i => (K i).td) s f w7 IR.out.ss IR.out.tt JR.out.1 JR.out.2.1 JR.out.2.2 HV.out.crews (by omega))
            go_wp2_with (go_at_call 34; refine CO.out.mono ?_)
            rintro e w8 ⟨rfl, hb8⟩
            clear CO q0 q1 q2 IR JR HB
            have HB8 := Lib.hid (HB7.out.next hb8)
            have HO8 := Lib.hid (HO7.out.grow hb8)
            have HM8 := Lib.hid (HM7.out.grow hb8)
            have HS8 := Lib.hid (HS7.out.grow hb8)
            clear HO7 HM7 HS7 HB7 hb8
            have q0 := cellAt (IW.out _ HB8.out).box 0
            simp only [List.getElem?_toArray, List.getElem?_cons_zero] at q0
            have hst := setN_lt T tn s f n
            obtain ⟨st, est⟩ : ∃ st, st = setN T tn s f n := ⟨_, rfl⟩
            rcases owner_cases HV.out K s f rfl with ho | ⟨c, hc, ho⟩
            · rw [true_none HV.out HK.out ho]
              have HOW := Lib.hid ho
              rw [ho]
              rw [← est] at hst ⊢
              clear ho est
              have n0 : ¬ (st : Int) < 0 := by omega
              have hd : (st : Int) / 2 ^ n = 0 := Int.ediv_eq_zero_of_lt (by omega) (by exact_mod_cast hst)
              clear hst
              by_cases hz : st = 0
              all_goals
                go_wp2_with fail
                refine ⟨⟨f + 1, by omega, by go_num, ?_, ?_, ?_, ?_, HS8.out, HB8.out⟩, by simp [intOf]; omega⟩
                · rw [fmany_yes HOW.out, show ((f + 1 : Nat) : Int) - ((fmany T K tn s (-1) f + 1 : Nat) : Int) = (f : Int) - (fmany T K tn s (-1) f : Int) by omega]
                · rw [fmany_yes HOW.out]; rfl
                · rw [rowVals_congr (g := fun j : Nat => coinsOf S T K s tn j + (fmany T K tn s j f : Int) * (S s).rate) fun j _ => by rw [fmany_no (by rw [HOW.out]; omega)]]; exact HO8.out
                · rw [rowVals_congr (g := fun j : Nat => (fmany T K tn s j f : Int)) fun j _ => by rw [fmany_no (by rw [HOW.out]; omega)]]; exact HM8.out
            · have hbit := true_bit HV.out HK.out hc ho
              have HOW := Lib.hid ho
              rw [ho]
              rw [← est] at hst hbit ⊢
              have n0 : ¬ (st : Int) < 0 := by omega
              have n1 : ¬ st = 0 := fun e => by rw [e] at hbit; simp at hbit
              have hd : (st : Int) / 2 ^ n = 0 := Int.ediv_eq_zero_of_lt (by omega) (by exact_mod_cast hst)
              have hb1 := and_bit (by have : (2 : Nat) ^ n ≤ 2 ^ 4 := Nat.pow_le_pow_right (by omega) hcr.2; omega) (by omega) hbit
              have hx1 := fun w => run_indexAt_row (w := w) (oa := some ⟨wo.heap.size + 1, 0, none⟩) (cap := n) Try.underlying37 size3 rfl hc
              simp only [blk, ofs, Nat.zero_add, Nat.mul_one] at hx1
              have z0 := row_at HM8.out hc
              have z1 := freeAt HM8.out c
              have hfc := fmany_le T K tn s c f
              clear ho est hst hbit
              go_wp2_with fail
              clear z0 z1 hb1 hd n0 n1
              have HM9 := Lib.hid (row_store HM8.out c ((fmany T K tn s c f : Int) + 1))
              have HO9 := Lib.hid (HO8.out.set ⟨wo.heap.size + 1, c, none⟩ (.int .i64 ((fmany T K tn s c f : Int) + 1)) (by dsimp only; omega))
              have HS9 := Lib.hid (HS8.out.set ⟨wo.heap.size + 1, c, none⟩ (.int .i64 ((fmany T K tn s c f : Int) + 1)) (by dsimp only; omega))
              have HB9 := Lib.hid (HB8.out.setCell (p := ⟨wo.heap.size + 1, c, none⟩) (by dsimp only; omega) (.int .i64 ((fmany T K tn s c f : Int) + 1)))
              clear HM8 HO8 HS8 HB8
              generalize World.setCell _ _ _ = w9 at *
              have z0 := row_at HO9.out hc
              have z1 := cellAt HS9.out 1
              have z2 := freeAt HO9.out c
              have HM10 := Lib.hid (HM9.out.grow (Below.drew (Below.refl _ _)))
              have HO10 := Lib.hid (HO9.out.grow (Below.drew (Below.refl _ _)))
              have HS10 := Lib.hid (HS9.out.grow (Below.drew (Below.refl _ _)))
              have HB10 := Lib.hid (HB9.out.next (Below.drew (Below.refl _ _)))
              have z3 := row_at HO10.out hc
              have z4 := freeAt HO10.out c
              have z5 := cellAt HS10.out 1
              simp only [List.getElem?_toArray, List.getElem?_cons_zero, List.getElem?_cons_succ] at z5
              have hx2 := fun w => run_indexAt_row (w := w) (oa := some ⟨w3.heap.size, 0, none⟩) (cap := n) Try.underlying37 size3 rfl hc
              simp only [blk, ofs, Nat.zero_add, Nat.mul_one] at hx2
              simp only [List.getElem?_toArray, List.getElem?_cons_zero, List.getElem?_cons_succ] at z1
              have hpb := term_bd (a := (fmany T K tn s c f : Int)) (by omega) hrt
              have hcb := coinsOf_bd' HV.out K c hs
              have hcn := coinsOf_bd' HV.out K (-1) hs
              have hab := allOf_bd HV.out hs
              have hpn := term_bd (a := (f : Int) - (fmany T K tn s (-1) f : Int)) (by omega) hrt
              go_still_tail 8, (by kernel_rfl)
              change wpList _ _ _ _ _ w9.drew
              clear HM9 HO9 HS9 HB9 z0 z1 z2
              generalize World.drew w9 = w10 at *
              go_wp2_with fail
              have hno : fmany T K tn s (-1) (f + 1) = fmany T K tn s (-1) f := fmany_no (by rw [HOW.out]; omega)
              refine ⟨⟨f + 1, by omega, by go_num, ?_, ?_, ?_, ?_, HS10.out.set _ _ (by dsimp only; omega), HB10.out.setCell (by dsimp only; omega) _⟩, by simp [intOf]; omega⟩
              · rw [hno, show ((f + 1 : Nat) : Int) - (fmany T K tn s (-1) f : Int) = (f : Int) - (fmany T K tn s (-1) f : Int) + 1 by omega, Int.add_mul, Int.one_mul, ← Int.add_assoc]
              · rw [hno]
              · have h := row_store HO10.out c (coinsOf S T K s tn c + (fmany T K tn s c f : Int) * (S s).rate + (S s).rate)
                rw [rowVals_congr (g := fun j : Nat => coinsOf S T K s tn j + (fmany T K tn s j (f + 1) : Int) * (S s).rate) fun j _ => ?_] at h
                · exact h
                · by_cases e : j = c
                  · subst e
                    rw [if_pos rfl, fmany_yes HOW.out, Int.natCast_succ, Int.add_mul, Int.one_mul, Int.add_assoc]
                  · rw [if_neg e, fmany_no (by rw [HOW.out]; omega)]
              · have h := HM10.out.set ⟨w3.heap.size, c, none⟩ (.int .i64 (coinsOf S T K s tn c + (fmany T K tn s c f : Int) * (S s).rate + (S s).rate)) (by dsimp only; omega)
                rw [rowVals_congr (g := fun j : Nat => (fmany T K tn s j (f + 1) : Int)) fun j _ => ?_] at h
                · exact h
                · by_cases e : j = c
                  · subst e
                    rw [if_pos rfl, fmany_yes HOW.out]; rfl
                  · rw [if_neg e, fmany_no (by rw [HOW.out]; omega)]
          · obtain ⟨F, hF⟩ : ∃ F, F = (S s).fat.toNat := ⟨_, rfl⟩
            obtain rfl : f = F := by omega
            have hF2 : ((f : Nat) : Int) = (S s).fat := by omega
            have hlt5 : ¬ (f : Int) < (S s).fat := by omega
            have hmm : ∀ c, fmany T K tn s c f = manyOf S T K tn s c := fun c => by rw [hF]; rfl
            simp only [hmm] at HO HM
            have HO1 := Lib.hid (show BoxAt wr w3.heap.size (rowVals (fun j : Nat => coinsOf S T K (s + 1) tn j) n).toArray 3 from HO.out)
            rw [hmm]
            have hpd : allOf S s - coinsOf S T K s tn (-1) + ((f : Int) - (manyOf S T K tn s (-1) : Int)) * (S s).rate = allOf S (s + 1) - coinsOf S T K (s + 1) tn (-1) := by
              show _ = (allOf S s + (S s).fat * (S s).rate) - (coinsOf S T K s tn (-1) + (manyOf S T K tn s (-1) : Int) * (S s).rate)
              rw [hF2, Int.sub_mul]
              omega
            rw [hpd]
            have hcn := coinsOf_bd' HV.out K (-1) hs
            have hml := many_le (S := S) (T := T) (K := K) (tn := tn) (c := -1) (s := s) hft.1
            have hpn := term_bd (a := (manyOf S T K tn s (-1) : Int)) (by omega) hrt
            have z1 := cellAt HS.out 1
            simp only [List.getElem?_toArray, List.getElem?_cons_zero, List.getElem?_cons_succ] at z1
            clear hmm hpd HO hF hF2 hlt3 hf hfl
            go_wp2_with fail
            obtain ⟨wp, rfl⟩ : ∃ wp : World, wp = wr := ⟨_, rfl⟩
            go_loopw [170] (fun v wi => ∃ i : Nat, i ≤ n ∧ v = .int .i64 i ∧ BoxAt wi w3.heap.size (rowVals (fun j : Nat => coinsOf S T K (s + 1) tn j) n).toArray 3 ∧ BoxAt wi (wo.heap.size + 1) (rowVals (fun j : Nat => (manyOf S T K tn s j : Int)) n).toArray 3 ∧ Below w3.heap.size w3 wi) (fun v _ => n - (intOf v).toNat)
            case atStart => exact ⟨0, Nat.zero_le _, rfl, HO1.out, HM.out, HB.out⟩
            case round =>
              clear HO1 HM HB HS z1
              obtain ⟨i, hi, rfl, hown, hmany, hbel⟩ := hrel
              have HO := Lib.hid hown
              have HM := Lib.hid hmany
              have HB := Lib.hid hbel
              clear hown hmany hbel
              have IR := Lib.hid (IW.out _ HB.out)
              have q0 := cellAt IR.out.box 0
              have q1 := cellAt IR.out.box 1
              have q2 := cellAt IR.out.box 2
              simp only [List.getElem?_toArray, List.getElem?_cons_zero, List.getElem?_cons_succ] at q0 q1 q2
              by_cases hlt6 : i < n
              · have hx1 := fun w => run_indexAt_row (w := w) (oa := some ⟨wo.heap.size + 1, 0, none⟩) (cap := n) Try.underlying37 size3 rfl hlt6
                simp only [blk, ofs, Nat.zero_add, Nat.mul_one] at hx1
                have z0 := row_at HM.out hlt6
                have CF := Lib.hid ((fathoms_any n sa ta sn sc tn tc S T s i _ IR.out.ss IR.out.tt).mono fun e w' h => h.yes HV.out (by rw [inB_iff.2 ⟨by omega, by omega⟩, inB_iff.2 ⟨by omega, by omega⟩]; rfl))
                have hl := many_favor (S := S) (favor_least (c := i) HK.out) HV.out.crews s
                have hm := many_favor (S := S) (favor_most (c := i) HK.out) HV.out.crews s
                obtain ⟨m0, e0⟩ : ∃ x, x = manyOf S T (leastK i T) tn s i := ⟨_, rfl⟩
                obtain ⟨m1, e1⟩ : ∃ x, x = manyOf S T (mostK i T) tn s i := ⟨_, rfl⟩
                obtain ⟨m2, e2⟩ : ∃ x, x = manyOf S T K tn s i := ⟨_, rfl⟩
                rw [← e0, ← e1] at CF
                rw [← e0, ← e2] at hl
                rw [← e1, ← e2] at hm
                rw [← e2] at z0
                have CI := Lib.hid (fun W => inside_yes (n := m2) (lo := m0) (hi := m1) (by omega) (by omega) W)
                clear e0 e1 e2 hl hm
                go_wp2_with (go_at_call 15; refine CF.out.mono ?_)
                rintro e w11 ⟨rfl, hb11⟩
                have HB11 := Lib.hid (HB.out.next hb11)
                have HO11 := Lib.hid (HO.out.grow hb11)
                have HM11 := Lib.hid (HM.out.grow hb11)
                clear hb11 HB HO HM q0 q1 q2 IR z0 hx1 CF
                have hba := (Below.refl w11.heap.size w11).alloc (Nat.le_refl _) (.cells #[.int .i64 m0, .int .i64 m1] 29)
                have HB12 := Lib.hid (HB11.out.next hba)
                have HO12 := Lib.hid (HO11.out.grow hba)
                have HM12 := Lib.hid (HM11.out.grow hba)
                clear hba HB11 HO11 HM11
                go_wp2_with (go_at_call 35; refine (CI.out _).mono ?_; rintro e w12 ⟨rfl, hb12⟩)
                refine ⟨⟨i + 1, hlt6, by go_num, HO12.out.grow hb12, HM12.out.grow hb12, HB12.out.next hb12⟩, by simp [intOf]; omega⟩
              · obtain rfl : i = n := by omega
                have CL := Lib.hid ((left_any i sa ta sn sc tn tc S T s _ IR.out.ss IR.out.tt).mono fun e w' h => h.yes HV.out (by rw [inB_iff.2 ⟨by omega, by omega⟩]))
                have hl := many_favor (S := S) (favor_least (c := -1) HK.out) HV.out.crews s
                have hm := many_favor (S := S) (favor_most (c := -1) HK.out) HV.out.crews s
                obtain ⟨m0, e0⟩ : ∃ x, x = manyOf S T (leastK (-1) T) tn s (-1) := ⟨_, rfl⟩
                obtain ⟨m1, e1⟩ : ∃ x, x = manyOf S T (mostK (-1) T) tn s (-1) := ⟨_, rfl⟩
                rw [← e0, ← e1] at CL
                rw [← e0] at hl
                rw [← e1] at hm
                have CI := Lib.hid (fun W => inside_yes (n := (manyOf S T K tn s (-1) : Int)) (lo := m0) (hi := m1) (by omega) (by omega) W)
                clear e0 e1 hl hm
                go_wp2_with (go_at_call 17; refine CL.out.mono ?_)
                rintro e w11 ⟨rfl, hb11⟩
                have HB11 := Lib.hid (HB.out.next hb11)
                have HO11 := Lib.hid (HO.out.grow hb11)
                clear hb11 HB HO HM q0 q1 q2 IR CL
                have hba := (Below.refl w11.heap.size w11).alloc (Nat.le_refl _) (.cells #[.int .i64 m0, .int .i64 m1] 29)
                have HB12 := Lib.hid (HB11.out.next hba)
                have HO12 := Lib.hid (HO11.out.grow hba)
                clear hba HB11 HO11
                go_wp2_with (go_at_call 35; refine (CI.out _).mono ?_; rintro e w12 ⟨rfl, hb12⟩)
                refine ⟨⟨s + 1, hlt, by go_num, rfl, rfl, HO12.out.grow hb12, HB12.out.next hb12⟩, by simp [intOf]; omega⟩
      · obtain rfl : s = sn := by omega
        have hab := allOf_bd HV.out (Nat.le_refl s)
        have hcn := coinsOf_bd HV.out K (-1)
        have hsum := ends_paid HV.out K rfl
        have hpl := coins_favor (S := S) (sn := s) (favor_least (c := -1) HK.out) HV.out.crews (fun j hj => (HV.out.rate j hj).1)
        have hpm := coins_favor (S := S) (sn := s) (favor_most (c := -1) HK.out) HV.out.crews (fun j hj => (HV.out.rate j hj).1)
        obtain ⟨P, hP⟩ : ∃ P, P = allOf S s - coinsOf S T K s tn (-1) := ⟨_, rfl⟩
        have hQ : coinsOf S T K s tn (-1) = allOf S s - P := by omega
        rw [← hP] at hsum ⊢
        rw [hQ]
        have hP0 : 0 ≤ P ∧ P ≤ 3000000 := ⟨by rw [← hsum]; exact (sumF_bdM (fun j : Nat => coinsOf_bd HV.out K j) n).1, by omega⟩
        have HSUM := Lib.hid hsum
        have CP := Lib.hid (fun W h1 h2 => (paid_any n sa ta s sc tn tc S T W h1 h2).mono fun e w' h => h.yes HV.out rfl)
        obtain ⟨p1, e1⟩ : ∃ x, x = allOf S s - coinsOf S T (mostK (-1) T) s tn (-1) := ⟨_, rfl⟩
        obtain ⟨p2, e2⟩ : ∃ x, x = allOf S s - coinsOf S T (leastK (-1) T) s tn (-1) := ⟨_, rfl⟩
        rw [← e1, ← e2] at CP
        have CI := Lib.hid (fun W => inside_yes (n := P) (lo := p1) (hi := p2) (by omega) (by omega) W)
        clear hP hQ hsum hpl hpm hcn e1 e2
        go_wp2_with fail
        obtain ⟨wo, rfl⟩ : ∃ wo : World, wo = wr := ⟨_, rfl⟩
        go_loopw [28, 208] (fun u v wi => ∃ j : Nat, j ≤ n ∧ v = .int .i64 j ∧ u = .int .i64 (sumF (fun j : Nat => coinsOf S T K s tn j) j) ∧ BoxAt wi w3.heap.size (rowVals (fun j : Nat => coinsOf S T K s tn j) n).toArray 3 ∧ Below w3.heap.size w3 wi) (fun _ v _ => n - (intOf v).toNat)
        case atStart => exact ⟨0, Nat.zero_le _, rfl, rfl, HO.out, HB.out⟩
        case round =>
          clear HO HB
          obtain ⟨j, hj, rfl, rfl, hown, hbel⟩ := hrel
          have HO := Lib.hid hown
          have HB := Lib.hid hbel
          clear hown hbel
          have IR := Lib.hid (IW.out _ HB.out)
          have q0 := cellAt IR.out.box 0
          have q1 := cellAt IR.out.box 1
          have q2 := cellAt IR.out.box 2
          simp only [List.getElem?_toArray, List.getElem?_cons_zero, List.getElem?_cons_succ] at q0 q1 q2
          by_cases hlt6 : j < n
          · have hx1 := fun w => run_indexAt_row (w := w) (oa := some ⟨w3.heap.size, 0, none⟩) (cap := n) Try.underlying37 size3 rfl hlt6
            have hx2 := fun w => run_indexAt_row (w := w) (oa := some ⟨g, 0, none⟩) (cap := n) Try.underlying37 size3 rfl hlt6
            simp only [blk, ofs, Nat.zero_add, Nat.mul_one] at hx1 hx2
            have z0 := row_at HO.out hlt6
            have CD := Lib.hid ((dues_any n sa ta s sc tn tc S T j _ IR.out.ss IR.out.tt).mono fun e w' h => h.yes HV.out (by rw [inB_iff.2 ⟨by omega, by omega⟩]))
            have hl := coins_favor (S := S) (sn := s) (favor_least (c := j) HK.out) HV.out.crews (fun j hj => (HV.out.rate j hj).1)
            have hm := coins_favor (S := S) (sn := s) (favor_most (c := j) HK.out) HV.out.crews (fun j hj => (HV.out.rate j hj).1)
            have hsb := sumF_bdM (fun j : Nat => coinsOf_bd HV.out K j) j
            have hcj := coinsOf_bd HV.out K j
            obtain ⟨m0, e0⟩ : ∃ x, x = coinsOf S T (leastK j T) s tn j := ⟨_, rfl⟩
            obtain ⟨m1, e1⟩ : ∃ x, x = coinsOf S T (mostK j T) s tn j := ⟨_, rfl⟩
            obtain ⟨m2, e2⟩ : ∃ x, x = coinsOf S T K s tn j := ⟨_, rfl⟩
            obtain ⟨X, eX⟩ : ∃ X, X = sumF (fun j : Nat => coinsOf S T K s tn j) j := ⟨_, rfl⟩
            have HCg := Lib.hid (fun (W : World) (h : Below w3.heap.size w3 W) => (show W.cell? ⟨g, j, none⟩ = some (.int .i64 m2) by rw [e2]; exact row_at (HC.out W h) hlt6))
            rw [← e0, ← e1] at CD
            rw [← e0, ← e2] at hl
            rw [← e1, ← e2] at hm
            rw [← e2] at z0 hcj
            rw [← eX] at hsb ⊢
            have CI2 := Lib.hid (fun W => inside_yes (n := m2) (lo := m0) (hi := m1) (by omega) (by omega) W)
            have HE2 := Lib.hid e2
            have HEX := Lib.hid eX
            clear e0 e1 e2 eX hl hm
            go_wp2_with (go_at_call 21; refine CD.out.mono ?_)
            rintro e w11 ⟨rfl, hb11⟩
            have HB11 := Lib.hid (HB.out.next hb11)
            have HO11 := Lib.hid (HO.out.grow hb11)
            clear hb11 HB HO q0 q1 q2 IR z0 hx1 CD
            have hba := (Below.refl w11.heap.size w11).alloc (Nat.le_refl _) (.cells #[.int .i64 m0, .int .i64 m1] 29)
            have HB12 := Lib.hid (HB11.out.next hba)
            have HO12 := Lib.hid (HO11.out.grow hba)
            have z3 := HCg.out _ HB12.out
            clear hba HB11 HO11
            go_wp2_with (go_at_call 35; refine (CI2.out _).mono ?_; rintro e w12 ⟨rfl, hb12⟩)
            refine ⟨⟨j + 1, hlt6, by go_num, by rw [HEX.out, HE2.out]; rfl, HO12.out.grow hb12, HB12.out.next hb12⟩, by simp [intOf]; omega⟩
          · obtain rfl : j = n := by omega
            rw [HSUM.out]
            clear HO
            go_wp2_with fail
            obtain ⟨wq, rfl⟩ : ∃ wq : World, wq = wr := ⟨_, rfl⟩
            go_loopw [12, 242] (fun u v wi => ∃ k : Nat, k ≤ s ∧ v = .int .i64 k ∧ u = .int .i64 (allOf S s - P - allOf S k) ∧ Below w3.heap.size w3 wi) (fun _ v _ => s - (intOf v).toNat)
            case atStart => exact ⟨0, Nat.zero_le _, rfl, by simp [allOf, sumF], HB.out⟩
            case round =>
              clear HB IR q0 q1 q2
              obtain ⟨k, hk, rfl, rfl, hbel⟩ := hrel
              have HB := Lib.hid hbel
              clear hbel
              have IR := Lib.hid (IW.out _ HB.out)
              have hak := allOf_bd HV.out hk
              by_cases hlt7 : k < s
              · have hft := HV.out.fat k hlt7
                have hrt := HV.out.rate k hlt7
                have hpr := term_bd hft hrt
                have hix := fun w => run_indexAt_row (w := w) (cap := sc) Try.underlying22 size52 (IR.out.ss.plain (by omega)) hlt7
                obtain ⟨g0, g1⟩ := IR.out.ss.at hlt7
                go_wp2_with fail
                refine ⟨⟨k + 1, hlt7, by go_num, ?_, HB.out.next ((Below.refl _ _).alloc (Nat.le_refl _) _)⟩, by simp [intOf]; omega⟩
                rw [show allOf S (k + 1) = allOf S k + (S k).fat * (S k).rate from rfl, Int.sub_sub]
              · obtain rfl : k = s := by omega
                rw [show allOf S k - P - allOf S k = -P by omega]
                have q0 := cellAt IR.out.box 0
                have q1 := cellAt IR.out.box 1
                have q2 := cellAt IR.out.box 2
                simp only [List.getElem?_toArray, List.getElem?_cons_zero, List.getElem?_cons_succ] at q0 q1 q2
                go_wp2_with (go_at_call 23; refine (CP.out _ IR.out.ss IR.out.tt).mono ?_)
                rintro e w11 ⟨rfl, hb11⟩
                have HB11 := Lib.hid (HB.out.next hb11)
                clear hb11 HB q0 q1 q2 IR CP hab hak
                have hba := (Below.refl w11.heap.size w11).alloc (Nat.le_refl _) (.cells #[.int .i64 p1, .int .i64 p2] 29)
                have HB12 := Lib.hid (HB11.out.next hba)
                clear hba HB11
                go_wp2_with (first | (go_at_call 35; refine (CI.out _).mono ?_; rintro e w12 ⟨rfl, hb12⟩) | (go_at_call 14; refine (awake_any _).mono ?_; rintro e w13 ⟨rfl, hb13⟩))
                exact bodyPost_ret (v := .bool true) (by simp [results, Try.results6, go_sem]) rfl ⟨rfl, (IW.out _ ((HB12.out.next hb12).next hb13)).bel⟩
end Go.Proofs.Ytbpeamppkdmdcaa
