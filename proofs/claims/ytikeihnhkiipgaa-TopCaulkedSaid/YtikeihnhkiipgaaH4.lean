/-
  The law: no deal, or no plan.
-/
import Derived.Test.YtikeihnhkiipgaaQH0
namespace Go.Proofs.Ytikeihnhkiipgaa
open Go.RowKit

theorem deal_out {g : GN} {w w' : World} {e : Ending} (h : DealPost g w e w') : ∃ (n : Int) (oa : Option Addr) (m c : Nat) (ee : Int), e = .returned (.tuple #[.int .i64 n, .slice oa m c, .int .i64 ee]) ∧ Below w.heap.size w w' ∧
    (ee = 0 → g.dv g.sn Mk.start < 10000) ∧ (ee = 0 ∨ ee = 4) ∧ (g.dv g.sn Mk.start < 10000 → ee = 0 ∧ n = (g.dv g.sn Mk.start : Nat) ∧ m = g.sn ∧ IntsAt w' oa g.sn (fun i => ((g.to i : Nat) : Int))) := by
  obtain ⟨hb, h⟩ := h
  by_cases hn : g.dv g.sn Mk.start < 10000
  · rw [if_pos hn] at h
    obtain ⟨oa, c, he, hr⟩ := h
    exact ⟨_, oa, _, c, 0, he, hb, fun _ => hn, .inl rfl, fun _ => ⟨rfl, rfl, rfl, hr⟩⟩
  · rw [if_neg hn] at h
    exact ⟨0, none, 0, 0, 4, h, hb, fun h => absurd h (by decide), .inr rfl, fun h => absurd h hn⟩
/-- With a deal, and no plan, no seam takes a pot. -/
theorem no_pots {g : GN} (ok : g.Ok) (h : g.dv g.sn Mk.start < 10000) (he : g.p.end' g.p.qn Mk.start = none) {i : Nat} (hi : i < g.sn) : g.po i < 0 := by
  have hc := to_lt ok h hi
  obtain ⟨r, -, h1, h2⟩ := deal_rows ok h hc
  have hb : (g.ends (g.to i) ⟨0, 0⟩ r).s.testBit i = true := by
    rw [h2, setOf_bit, decide_eq_true hi, decide_eq_true rfl]
    rfl
  rw [ends_mem, Nat.zero_testBit, Bool.false_or, decide_eq_true_eq] at hb
  have hk := (goes_mem h1 hb).2
  unfold GN.kn at hk
  rw [Bool.and_eq_true, decide_eq_true_eq] at hk
  refine Int.not_le.1 fun hp => ?_
  have hr : g.rdy i = max (g.dr i) (g.hotN (g.po i).toNat) := by
    unfold GN.rdy
    rw [if_neg (Int.not_lt.2 hp)]
  have hh : g.hotN (g.po i).toNat = 10000 := by
    unfold GN.hotN
    rw [he]
  rw [hr, hh] at hk
  omega
theorem oi_start {g : GN} {a : GA} {w : World} (h : g.At a w) : OI g a w (w.alloc (.cells (g.cs a) 29)) :=
  ⟨(Below.refl w.heap.size w).alloc (Nat.le_refl _) _, heap_alloc_new _ _, h.grow ((Below.refl w.heap.size w).alloc (Nat.le_refl _) _)⟩
set_option maxRecDepth 100000 in
set_option maxHeartbeats 8000000 in
theorem caulked_none (g : GN) (ok : g.Ok) (a : GA) (fr : Nat) (sp : Option Addr) (spn spc : Nat) (w : World) (h : g.At a w) (hl : max (max (max g.sn g.cn) g.p.fn) g.p.qn ≤ 40)
    (CG : ∀ W, Below w.heap.size w W → Calls Try.prog 4 #[.agg (g.cs a)] W fun e w' => e = .returned (.bool true) ∧ Below W.heap.size W w')
    (hno : ¬ g.dv g.sn Mk.start < 10000 ∨ g.p.end' g.p.qn Mk.start = none) :
    Calls Try.prog 3 #[.agg (g.cs a), .int .u16 fr, .slice sp spn spc] w (LawPost w) := by
  have I0 := Lib.hid (oi_start h)
  have OK := Lib.hid ok
  obtain ⟨z, hz, hz1⟩ : ∃ z : Nat, (∀ (W : World) (ts : Array TypeId) (t : TypeId), (Builtin.max_ ts t #[.int .i64 (g.sn : Nat), .int .i64 (g.cn : Nat), .int .i64 (g.p.fn : Nat), .int .i64 (g.p.qn : Nat)]).run Try.prog W = .ok (.int .i64 z) W) ∧ z ≤ 40 :=
    ⟨_, fun W ts t => (run_max4 W ts t _ _ _ _).trans (by congr 3; omega), hl⟩
  have HNO := Lib.hid hno
  have hl' : ¬ (40 : Int) < z := by omega
  have C1 := Lib.hid (CG _ I0.out.bel)
  have C2 := Lib.hid (fun W (h : g.At a W) => deal_any g ok a W h)
  have C3 := Lib.hid (fun W (h : g.At a W) => best_any g.p ok.hp a.fa a.qa a.fc a.qc W h.p)
  clear h hl CG hz1 ok hno
  unfold PN.cs at C3
  unfold GN.cs at *
  go_enter Try.func3, Try.ntmps3
  go_upto_region 1 with (fail)
  generalize World.alloc w _ = w0 at *
  obtain ⟨q0, q1, q2, q3, q4, q5, q6⟩ := I0.out.cells
  go_upto_region 3 with (go_at_call 4; refine C1.out.mono ?_; rintro e w1 ⟨rfl, hb1⟩)
  have I1 := Lib.hid (I0.out.grow hb1)
  clear C1 hz hl' I0 hb1 q0 q1 q2 q3 q4 q5 q6
  obtain ⟨q0, q1, q2, q3, q4, q5, q6⟩ := I1.out.cells
  go_upto_region 4 with (go_at_call 6; (with_reducible refine (C2.out _ I1.out.at').mono ?_); rintro e w2 hd; obtain ⟨dn, oa, dm, dc, ee, rfl, hb2, hee, hee4, hdl⟩ := deal_out hd)
  have I2 := Lib.hid (I1.out.grow hb2)
  clear C2 I1 hd hb2 q0 q1 q2 q3 q4 q5 q6 hdl
  obtain ⟨q0, q1, q2, q3, q4, q5, q6⟩ := I2.out.cells
  go_upto_region 5 with (go_at_call 7; (with_reducible refine (C3.out _ I2.out.at').mono ?_); rintro e w3 hd; obtain ⟨bn, pa, pm, pc, be, rfl, hb3, hbo⟩ := best_out hd)
  have I3 := Lib.hid (I2.out.grow hb3)
  have HBE := Lib.hid (show (be = 0 ∨ be = 4) ∧ (be = 0 → ¬ g.p.end' g.p.qn Mk.start = none) ∧ (¬ g.p.end' g.p.qn Mk.start = none → be = 0) from by
    unfold BestOut at hbo
    cases hE : g.p.end' g.p.qn Mk.start with
    | none => rw [hE] at hbo; dsimp only at hbo; exact ⟨.inr hbo, fun h => by omega, fun h => absurd rfl h⟩
    | some n => rw [hE] at hbo; exact ⟨.inl hbo.1, fun _ h => (by cases h), fun _ => hbo.1⟩)
  clear C3 I2 hd hb3 hbo q0 q1 q2 q3 q4 q5 q6
  have HEE := Lib.hid hee
  have HE4 := Lib.hid hee4
  clear hee hee4
  obtain ⟨q0, -, -, -, -, -, -⟩ := I3.out.cells
  have HSN := Lib.hid (show g.sn ≤ 5 from OK.out.hsn)
  have HP := Lib.hid (show ee = 0 → be = 4 ∧ ∀ i, i < g.sn → g.po i < 0 from fun h => by
    have hn := HNO.out.resolve_left (fun h2 => h2 (HEE.out h))
    exact ⟨HBE.out.1.resolve_left (fun h3 => HBE.out.2.1 h3 hn), fun i hi => no_pots OK.out (HEE.out h) hn hi⟩)
  rcases HE4.out with rfl | rfl
  · obtain rfl : be = 4 := (HP.out rfl).1
    have PO := Lib.hid (HP.out rfl).2
    go_wp2_with fail
    clear q0
    go_loopw [85] (fun i W => ∃ k : Nat, k ≤ g.sn ∧ i = .int .i64 k ∧ OI g a w W) (fun i _ => g.sn - (intOf i).toNat)
    case atStart => exact ⟨0, Nat.zero_le _, rfl, I3.out⟩
    case round =>
      clear I3
      obtain ⟨k, hk, rfl, hI⟩ := hrel
      have I1 := Lib.hid hI
      clear hI
      by_cases hlt : k < g.sn
      · have hlt' : (k : Int) < g.sn := by omega
        have hmeas : g.sn - (k + 1) < g.sn - k := by omega
        have hi := fun W => run_indexAt_row (w := W) (cap := a.sc) Try.underlying22 size_seam (I1.out.at'.s.plain (by omega)) hlt
        obtain ⟨g0, g1, g2, g3⟩ := I1.out.at'.seams hlt
        have HW := Lib.hid (succ64 (show k < 100 by have := HSN.out; omega))
        have al := (Below.refl wr.heap.size wr).alloc (Nat.le_refl _) (.cells #[.int .i64 (g.fm k), .int .i64 (g.dr k), .int .i64 (g.fl k), .int .i64 (g.po k)] 41)
        have I2 := Lib.hid (I1.out.grow al)
        have X2 := Lib.hid (show BoxAt (wr.alloc (.cells #[.int .i64 (g.fm k), .int .i64 (g.dr k), .int .i64 (g.fl k), .int .i64 (g.po k)] 41)) wr.heap.size #[.int .i64 (g.fm k), .int .i64 (g.dr k), .int .i64 (g.fl k), .int .i64 (g.po k)] 41 from heap_alloc_new _ _)
        have hp : ¬ (0 : Int) ≤ g.po k := by have := PO.out k hlt; omega
        go_upto_region 9 with (fail)
        clear al g0 g1 g2 g3 hi I1
        generalize World.alloc wr _ = w2 at *
        have x3 := cellAt X2.out 3
        simp only [List.getElem?_toArray, List.getElem?_cons_zero, List.getElem?_cons_succ] at x3
        go_wp2_with fail
        rw [HW.out]
        exact ⟨⟨k + 1, hlt, rfl, I2.out⟩, hmeas⟩
      · have hlt' : ¬ (k : Int) < g.sn := by omega
        clear hlt hk
        go_wp2_with (go_at_call 5; refine (awake08_any _).mono ?_; rintro e w' ⟨rfl, hb⟩)
        go_ret
        exact ⟨rfl, I1.out.bel.next hb⟩
  · rcases HBE.out.1 with rfl | rfl
    · go_wp2_with fail
      clear q0
      go_loopw [85] (fun i W => ∃ k : Nat, k ≤ g.sn ∧ i = .int .i64 k ∧ OI g a w W) (fun i _ => g.sn - (intOf i).toNat)
      case atStart => exact ⟨0, Nat.zero_le _, rfl, I3.out⟩
      case round =>
        clear I3
        obtain ⟨k, hk, rfl, hI⟩ := hrel
        have I1 := Lib.hid hI
        clear hI
        by_cases hlt : k < g.sn
        · have hlt' : (k : Int) < g.sn := by omega
          have hmeas : g.sn - (k + 1) < g.sn - k := by omega
          have hi := fun W => run_indexAt_row (w := W) (cap := a.sc) Try.underlying22 size_seam (I1.out.at'.s.plain (by omega)) hlt
          obtain ⟨g0, g1, g2, g3⟩ := I1.out.at'.seams hlt
          have HW := Lib.hid (succ64 (show k < 100 by have := HSN.out; omega))
          have al := (Below.refl wr.heap.size wr).alloc (Nat.le_refl _) (.cells #[.int .i64 (g.fm k), .int .i64 (g.dr k), .int .i64 (g.fl k), .int .i64 (g.po k)] 41)
          have I2 := Lib.hid (I1.out.grow al)
          have X2 := Lib.hid (show BoxAt (wr.alloc (.cells #[.int .i64 (g.fm k), .int .i64 (g.dr k), .int .i64 (g.fl k), .int .i64 (g.po k)] 41)) wr.heap.size #[.int .i64 (g.fm k), .int .i64 (g.dr k), .int .i64 (g.fl k), .int .i64 (g.po k)] 41 from heap_alloc_new _ _)
          go_upto_region 9 with (fail)
          clear al g0 g1 g2 g3 hi I1
          generalize World.alloc wr _ = w2 at *
          go_wp2_with fail
          rw [HW.out]
          exact ⟨⟨k + 1, hlt, rfl, I2.out⟩, hmeas⟩
        · have hlt' : ¬ (k : Int) < g.sn := by omega
          clear hlt hk
          go_wp2_with (go_at_call 5; refine (awake08_any _).mono ?_; rintro e w' ⟨rfl, hb⟩)
          go_ret
          exact ⟨rfl, I1.out.bel.next hb⟩
    · go_wp2_with fail
      clear q0
      go_loopw [85] (fun i W => ∃ k : Nat, k ≤ g.sn ∧ i = .int .i64 k ∧ OI g a w W) (fun i _ => g.sn - (intOf i).toNat)
      case atStart => exact ⟨0, Nat.zero_le _, rfl, I3.out⟩
      case round =>
        clear I3
        obtain ⟨k, hk, rfl, hI⟩ := hrel
        have I1 := Lib.hid hI
        clear hI
        by_cases hlt : k < g.sn
        · have hlt' : (k : Int) < g.sn := by omega
          have hmeas : g.sn - (k + 1) < g.sn - k := by omega
          have hi := fun W => run_indexAt_row (w := W) (cap := a.sc) Try.underlying22 size_seam (I1.out.at'.s.plain (by omega)) hlt
          obtain ⟨g0, g1, g2, g3⟩ := I1.out.at'.seams hlt
          have HW := Lib.hid (succ64 (show k < 100 by have := HSN.out; omega))
          have al := (Below.refl wr.heap.size wr).alloc (Nat.le_refl _) (.cells #[.int .i64 (g.fm k), .int .i64 (g.dr k), .int .i64 (g.fl k), .int .i64 (g.po k)] 41)
          have I2 := Lib.hid (I1.out.grow al)
          have X2 := Lib.hid (show BoxAt (wr.alloc (.cells #[.int .i64 (g.fm k), .int .i64 (g.dr k), .int .i64 (g.fl k), .int .i64 (g.po k)] 41)) wr.heap.size #[.int .i64 (g.fm k), .int .i64 (g.dr k), .int .i64 (g.fl k), .int .i64 (g.po k)] 41 from heap_alloc_new _ _)
          go_upto_region 9 with (fail)
          clear al g0 g1 g2 g3 hi I1
          generalize World.alloc wr _ = w2 at *
          go_wp2_with fail
          rw [HW.out]
          exact ⟨⟨k + 1, hlt, rfl, I2.out⟩, hmeas⟩
        · have hlt' : ¬ (k : Int) < g.sn := by omega
          clear hlt hk
          go_wp2_with (go_at_call 5; refine (awake08_any _).mono ?_; rintro e w' ⟨rfl, hb⟩)
          go_ret
          exact ⟨rfl, I1.out.bel.next hb⟩
end Go.Proofs.Ytikeihnhkiipgaa
