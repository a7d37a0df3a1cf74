/-
  The references' in and power.
  Walks: the reference's word on any pitch.
  Walks: the reference's word on any gangs.
-/
import Derived.Test.YtikeihnhkiipgaaGreatD6
namespace Go.Proofs.YtikeihnhkiipgaaGreat
open Go.RowKit

set_option maxHeartbeats 400000 in
theorem in8_any (n lo hi : Int) (w : World) : Calls Tryz.prog 15 #[.int .i64 n, .int .i64 lo, .int .i64 hi] w fun e w' => e = .returned (.bool (inB n lo hi)) ∧ w = w' := by
  by_cases h1 : lo ≤ n
  · go_enter Tryz.func15, Tryz.ntmps15
    go_wp2
    go_ret
    exact ⟨ret_bool (by simp [inB, h1]), rfl⟩
  · go_enter Tryz.func15, Tryz.ntmps15
    go_wp2
    go_ret
    exact ⟨ret_bool (by simp [inB]; omega), rfl⟩
set_option maxHeartbeats 400000 in
theorem in6_any (n lo hi : Int) (w : World) : Calls Tryz.prog 49 #[.int .i64 n, .int .i64 lo, .int .i64 hi] w fun e w' => e = .returned (.bool (inB n lo hi)) ∧ w = w' := by
  by_cases h1 : lo ≤ n
  · go_enter Tryz.func49, Tryz.ntmps49
    go_wp2
    go_ret
    exact ⟨ret_bool (by simp [inB, h1]), rfl⟩
  · go_enter Tryz.func49, Tryz.ntmps49
    go_wp2
    go_ret
    exact ⟨ret_bool (by simp [inB]; omega), rfl⟩
theorem pow_step {k : Nat} (h : k ≤ 40) : wrap64 (2 * ((2 ^ k : Nat) : Int)) = ((2 ^ (k + 1) : Nat) : Int) := by
  have h1 : 2 ^ k ≤ 2 ^ 40 := Nat.pow_le_pow_right (by omega) h
  rw [Nat.pow_succ]
  generalize 2 ^ k = z at *
  have e : wrap64 (2 * (z : Int)) = 2 * z := w64 (by omega)
  rw [e]
  omega
set_option maxHeartbeats 400000 in
theorem pow8_any (n : Nat) (w : World) (hn : n ≤ 40) : Calls Tryz.prog 16 #[.int .i64 n] w fun e w' => e = .returned (.int .i64 (2 ^ n : Nat)) ∧ w = w' := by
  go_enter Tryz.func16, Tryz.ntmps16
  go_wp2_with fail
  go_loop [3, 4] (fun v i => ∃ k : Nat, k ≤ n ∧ i = .int .i64 k ∧ v = .int .i64 (2 ^ k : Nat)) (fun _ i => n - (intOf i).toNat)
  case atStart => exact ⟨0, Nat.zero_le _, rfl, rfl⟩
  case round =>
    obtain ⟨k, hk, rfl, rfl⟩ := hrel
    by_cases hlt : k < n
    · have hlt' : (k : Int) < n := by omega
      have hmeas : n - (k + 1) < n - k := by omega
      have HP := Lib.hid (pow_step (show k ≤ 40 by omega))
      generalize hz : 2 ^ k = z at *
      clear hk
      go_wp2_with fail
      go_round
      case rel =>
        rw [HP.out]
        exact ⟨k + 1, hlt, rfl, rfl⟩
      case measure => exact hmeas
    · have hlt' : ¬ (k : Int) < n := by omega
      obtain rfl : k = n := by omega
      go_wp2_with fail
      go_ret
      exact ⟨rfl, rfl⟩
set_option maxHeartbeats 400000 in
theorem pow6_any (n : Nat) (w : World) (hn : n ≤ 40) : Calls Tryz.prog 50 #[.int .i64 n] w fun e w' => e = .returned (.int .i64 (2 ^ n : Nat)) ∧ w = w' := by
  go_enter Tryz.func50, Tryz.ntmps50
  go_wp2_with fail
  go_loop [3, 4] (fun v i => ∃ k : Nat, k ≤ n ∧ i = .int .i64 k ∧ v = .int .i64 (2 ^ k : Nat)) (fun _ i => n - (intOf i).toNat)
  case atStart => exact ⟨0, Nat.zero_le _, rfl, rfl⟩
  case round =>
    obtain ⟨k, hk, rfl, rfl⟩ := hrel
    by_cases hlt : k < n
    · have hlt' : (k : Int) < n := by omega
      have hmeas : n - (k + 1) < n - k := by omega
      have HP := Lib.hid (pow_step (show k ≤ 40 by omega))
      generalize hz : 2 ^ k = z at *
      clear hk
      go_wp2_with fail
      go_round
      case rel =>
        rw [HP.out]
        exact ⟨k + 1, hlt, rfl, rfl⟩
      case measure => exact hmeas
    · have hlt' : ¬ (k : Int) < n := by omega
      obtain rfl : k = n := by omega
      go_wp2_with fail
      go_ret
      exact ⟨rfl, rfl⟩
end Go.Proofs.YtikeihnhkiipgaaGreat

namespace Go.Proofs.YtikeihnhkiipgaaGreat
open Go.RowKit

def allB (p : Nat → Bool) : Nat → Bool
  | 0 => true
  | n + 1 => allB p n && p n
theorem allB_iff {p : Nat → Bool} {n : Nat} : allB p n = true ↔ ∀ i, i < n → p i = true := by
  induction n with
  | zero => simp [allB]
  | succ n ih =>
    unfold allB
    rw [Bool.and_eq_true, ih]
    constructor
    · rintro ⟨h1, h2⟩ i hi
      by_cases e : i = n
      · rw [e]; exact h2
      · exact h1 i (by omega)
    · exact fun h => ⟨fun i hi => h i (by omega), h n (by omega)⟩
theorem pow_le12 {H : Nat} (h : H ≤ 12) : (1 : Int) ≤ 2 ^ H ∧ (2 : Int) ^ H ≤ 4096 := by
  have h1 : (2 : Nat) ^ H ≤ 2 ^ 12 := Nat.pow_le_pow_right (by omega) h
  have h2 : (1 : Nat) ≤ 2 ^ H := Nat.one_le_two_pow
  have h3 : (2 : Int) ^ H = ((2 ^ H : Nat) : Int) := by simp
  omega
structure Pot where
  h : Int
  f : Int
  b : Int
def Pot.cell (x : Pot) : Nat → Value
  | 0 => .int .i64 x.h
  | 1 => .int .i64 x.f
  | _ => .int .i64 x.b
def PotsAt (w : World) (oa : Option Addr) (n : Nat) (Q : Nat → Pot) : Prop := Row w oa n 3 (fun i j => (Q i).cell j)
theorem PotsAt.grow {w w' : World} {oa : Option Addr} {n : Nat} {Q : Nat → Pot} (h : PotsAt w oa n Q) (hb : Below w.heap.size w w') : PotsAt w' oa n Q := Row.grow h hb
theorem PotsAt.at {w : World} {oa : Option Addr} {n : Nat} {Q : Nat → Pot} (h : PotsAt w oa n Q) {k : Nat} (hk : k < n) :
    w.cell? ⟨blk oa, ofs oa + k * 3, none⟩ = some (.int .i64 (Q k).h) ∧ w.cell? ⟨blk oa, ofs oa + k * 3 + 1, none⟩ = some (.int .i64 (Q k).f) ∧ w.cell? ⟨blk oa, ofs oa + k * 3 + 2, none⟩ = some (.int .i64 (Q k).b) :=
  ⟨h.cells k hk 0 (by omega), h.cells k hk 1 (by omega), h.cells k hk 2 (by omega)⟩
/-- A set of the hours that there are. -/
def setB (h x : Int) : Bool := inB x 0 (2 ^ h.toNat - 1)
def okQ (h : Int) (q : Pot) : Bool := inB q.h 1 12 && inB q.f 0 h && inB q.b 0 h
/-- The sets of a pitch, one behind the other. -/
def setsOf (fr pe : Int) (F : Nat → Int) (i : Nat) : Int := if i = 0 then fr else if i = 1 then pe else F (i - 2)
def headB (hr : Int) (fn qn : Nat) : Bool := inB hr 0 12 && decide ((fn : Int) ≤ 3) && decide ((qn : Int) ≤ 4)
def pitchB (hr fr pe : Int) (F : Nat → Int) (fn : Nat) (Q : Nat → Pot) (qn : Nat) : Bool :=
  headB hr fn qn && allB (fun i => setB hr (setsOf fr pe F i)) (2 + fn) && allB (fun i => okQ hr (Q i)) qn
/-- The cells of a pitch. -/
def pitC (hr fr pe : Int) (fa qa : Option Addr) (fn fc qn qc : Nat) : Array Value := #[.int .i64 hr, .int .i64 fr, .int .i64 pe, .slice fa fn fc, .slice qa qn qc]
structure PI (w : World) (hr fr pe : Int) (fa qa : Option Addr) (fn fc qn qc : Nat) (F : Nat → Int) (Q : Nat → Pot) (W : World) : Prop where
  bel : Below w.heap.size w W
  box : BoxAt W w.heap.size #[.int .i64 hr, .int .i64 fr, .int .i64 pe, .slice fa fn fc, .slice qa qn qc] 27
  ff : IntsAt W fa fn F
  qq : PotsAt W qa qn Q
theorem PI.grow {w W W' : World} {hr fr pe : Int} {fa qa : Option Addr} {fn fc qn qc : Nat} {F : Nat → Int} {Q : Nat → Pot} (h : PI w hr fr pe fa qa fn fc qn qc F Q W) (hb : Below W.heap.size W W') : PI w hr fr pe fa qa fn fc qn qc F Q W' :=
  ⟨h.bel.next hb, h.box.grow hb, h.ff.grow hb, h.qq.grow hb⟩
theorem PI.cells {w W : World} {hr fr pe : Int} {fa qa : Option Addr} {fn fc qn qc : Nat} {F : Nat → Int} {Q : Nat → Pot} (h : PI w hr fr pe fa qa fn fc qn qc F Q W) :
    W.cell? ⟨w.heap.size, 0, none⟩ = some (.int .i64 hr) ∧ W.cell? ⟨w.heap.size, 1, none⟩ = some (.int .i64 fr) ∧ W.cell? ⟨w.heap.size, 2, none⟩ = some (.int .i64 pe) ∧ W.cell? ⟨w.heap.size, 3, none⟩ = some (.slice fa fn fc) ∧ W.cell? ⟨w.heap.size, 4, none⟩ = some (.slice qa qn qc) :=
  ⟨cellAt h.box 0, cellAt h.box 1, cellAt h.box 2, cellAt h.box 3, cellAt h.box 4⟩

theorem pitch_noS {hr fr pe : Int} {F : Nat → Int} {fn qn : Nat} {Q : Nat → Pot} {k : Nat} (hk : k < 2 + fn) (h : setB hr (setsOf fr pe F k) = false) : false = pitchB hr fr pe F fn Q qn := by
  symm
  rw [← Bool.not_eq_true]
  intro e
  unfold pitchB at e
  simp only [Bool.and_eq_true] at e
  have := allB_iff.1 e.1.2 k hk
  simp [h] at this
theorem pitch_noQ {hr fr pe : Int} {F : Nat → Int} {fn qn : Nat} {Q : Nat → Pot} {k : Nat} (hk : k < qn) (h : okQ hr (Q k) = false) : false = pitchB hr fr pe F fn Q qn := by
  symm
  rw [← Bool.not_eq_true]
  intro e
  unfold pitchB at e
  simp only [Bool.and_eq_true] at e
  have := allB_iff.1 e.2 k hk
  simp [h] at this
theorem allB_two {p : Nat → Bool} {n : Nat} (h0 : p 0 = true) (h1 : p 1 = true) (h : allB (fun i => p (2 + i)) n = true) : allB p (2 + n) = true := by
  rw [allB_iff] at h ⊢
  intro i hi
  by_cases e0 : i = 0
  · rw [e0]; exact h0
  · by_cases e1 : i = 1
    · rw [e1]; exact h1
    · have := h (i - 2) (by omega)
      rw [show 2 + (i - 2) = i by omega] at this
      exact this

set_option maxRecDepth 100000 in
set_option maxHeartbeats 4000000 in
theorem pitch6_any (hr fr pe : Int) (fa qa : Option Addr) (fn fc qn qc : Nat) (F : Nat → Int) (Q : Nat → Pot) (w : World) (hF : IntsAt w fa fn F) (hQ : PotsAt w qa qn Q) :
    Calls Tryz.prog 14 #[.agg #[.int .i64 hr, .int .i64 fr, .int .i64 pe, .slice fa fn fc, .slice qa qn qc]] w fun e w' => e = .returned (.bool (pitchB hr fr pe F fn Q qn)) ∧ Below w.heap.size w w' := by
  have hfm := hF.small
  have hqm := hQ.small
  unfold maxLen at hfm hqm
  have hb0 := (Below.refl w.heap.size w).alloc (Nat.le_refl _) (.cells #[.int .i64 hr, .int .i64 fr, .int .i64 pe, .slice fa fn fc, .slice qa qn qc] 27)
  have I0 := Lib.hid (show PI w hr fr pe fa qa fn fc qn qc F Q (w.alloc (.cells #[.int .i64 hr, .int .i64 fr, .int .i64 pe, .slice fa fn fc, .slice qa qn qc] 27)) from ⟨hb0, heap_alloc_new _ _, hF.grow hb0, hQ.grow hb0⟩)
  clear hF hQ hb0
  go_enter Tryz.func14, Tryz.ntmps14
  go_upto_region 1 with (fail)
  generalize hW : World.alloc _ _ = W0 at *
  obtain ⟨q0, q1, q2, q3, q4⟩ := I0.out.cells
  clear hW
  by_cases hh : headB hr fn qn = true
  case neg =>
    have HN := Lib.hid (show false = pitchB hr fr pe F fn Q qn from by unfold pitchB; rw [show headB hr fn qn = false by simpa using hh]; rfl)
    have hn : inB hr 0 12 = true → (fn : Int) ≤ 3 → ¬ (qn : Int) ≤ 4 := fun h1 h2 h3 => hh (by unfold headB; rw [h1]; simp [h2, h3])
    clear hh
    by_cases h1 : inB hr 0 12 = true
    · by_cases h2 : (fn : Int) ≤ 3
      · have h3 := hn h1 h2
        clear hn
        go_wp2_with (go_at_call 49; refine (in6_any _ _ _ _).mono ?_; rintro e w' ⟨rfl, rfl⟩)
        all_goals (go_ret; exact ⟨ret_bool HN.out, I0.out.bel⟩)
      · clear hn
        go_wp2_with (go_at_call 49; refine (in6_any _ _ _ _).mono ?_; rintro e w' ⟨rfl, rfl⟩)
        all_goals (go_ret; exact ⟨ret_bool HN.out, I0.out.bel⟩)
    · clear hn
      go_wp2_with (go_at_call 49; refine (in6_any _ _ _ _).mono ?_; rintro e w' ⟨rfl, rfl⟩)
      all_goals (go_ret; exact ⟨ret_bool HN.out, I0.out.bel⟩)
  have HH := Lib.hid hh
  obtain ⟨h1, h2, h3⟩ : inB hr 0 12 = true ∧ (fn : Int) ≤ 3 ∧ (qn : Int) ≤ 4 := by
    unfold headB at hh
    simp only [Bool.and_eq_true, decide_eq_true_eq] at hh
    exact ⟨hh.1.1, hh.1.2, hh.2⟩
  clear hh
  have t2 : decide (3 < (fn : Int)) = false := decide_eq_false (by omega)
  have t3 : decide (4 < (qn : Int)) = false := decide_eq_false (by omega)
  obtain ⟨H, rfl⟩ : ∃ H : Nat, hr = H := ⟨hr.toNat, by have := inB_iff.1 h1; omega⟩
  have hH : H ≤ 12 := by have := inB_iff.1 h1; omega
  go_upto_region 3 with (go_at_call 49; refine (in6_any _ _ _ _).mono ?_; rintro e w' ⟨rfl, rfl⟩)
  obtain ⟨E, hE⟩ : ∃ E : Int, E = 2 ^ H - 1 := ⟨_, rfl⟩
  have hE0 : 0 ≤ E ∧ E ≤ 4095 := by have := pow_le12 hH; omega
  have hE1 : wrap64 (((2 ^ H : Nat) : Int) - 1) = E := by rw [← pow2_cast, ← hE]; exact w64 (by omega)
  have hE2 : (2 : Int) ^ H - 1 = E := hE.symm
  have HS := Lib.hid (show ∀ x, setB (H : Int) x = inB x 0 E from fun x => by unfold setB; rw [hE]; simp)
  have HF := Lib.hid (fun (k : Nat) (hk : k < 2 + fn) (h : inB (setsOf fr pe F k) 0 E = false) => pitch_noS (hr := (H : Int)) (fr := fr) (pe := pe) (F := F) (fn := fn) (Q := Q) (qn := qn) hk (by rw [HS.out]; exact h))
  have HG := Lib.hid (fun (k : Nat) (hk : k < qn) (h : okQ (H : Int) (Q k) = false) => pitch_noQ (hr := (H : Int)) (fr := fr) (pe := pe) (F := F) (fn := fn) (Q := Q) (qn := qn) hk h)
  clear hE
  go_upto_region 4 with (go_at_call 50; refine (pow6_any _ _ (by omega)).mono ?_; rintro e w' ⟨rfl, rfl⟩)
  clear hE0 hE1 hE2
  by_cases hf : inB fr 0 E = true
  case neg =>
    have HN := Lib.hid (HF.out 0 (by omega) (by simpa [setsOf] using hf))
    have t0 : inB fr 0 E = false := by simpa using hf
    clear hf
    go_wp2_with (go_at_call 49; refine (in6_any _ _ _ _).mono ?_; rintro e w' ⟨rfl, rfl⟩)
    go_ret
    exact ⟨ret_bool HN.out, I0.out.bel⟩
  by_cases hp : inB pe 0 E = true
  case neg =>
    have HN := Lib.hid (HF.out 1 (by omega) (by simpa [setsOf] using hp))
    have t0 : inB pe 0 E = false := by simpa using hp
    clear hp
    go_wp2_with (go_at_call 49; refine (in6_any _ _ _ _).mono ?_; rintro e w' ⟨rfl, rfl⟩)
    go_ret
    exact ⟨ret_bool HN.out, I0.out.bel⟩
  go_wp2_with (go_at_call 49; refine (in6_any _ _ _ _).mono ?_; rintro e w' ⟨rfl, rfl⟩)
  have H0 := Lib.hid (And.intro hf hp)
  clear hf hp q0 q1 q2 q3 q4
  go_loopw [4] (fun i wi => ∃ k : Nat, k ≤ fn ∧ i = .int .i64 k ∧ allB (fun i => inB (F i) 0 E) k = true ∧ PI w (H : Int) fr pe fa qa fn fc qn qc F Q wi) (fun i _ => fn - (intOf i).toNat)
  case atStart => exact ⟨0, Nat.zero_le _, rfl, rfl, I0.out⟩
  case round =>
    clear I0
    obtain ⟨k, hk, rfl, ha, h3'⟩ := hrel
    have I1 := Lib.hid h3'
    have HA := Lib.hid ha
    clear h3' ha
    obtain ⟨q0, q1, q2, q3, q4⟩ := I1.out.cells
    by_cases hlt : k < fn
    · have hi := fun w => run_indexAt_row (w := w) (cap := fc) Tryz.underlying24 size_int (I1.out.ff.plain (by omega)) hlt
      simp only [Nat.mul_one] at hi
      have hc := I1.out.ff.at hlt
      have HX := Lib.hid (show allB (fun i => inB (F i) 0 E) (k + 1) = (allB (fun i => inB (F i) 0 E) k && inB (F k) 0 E) from rfl)
      have HY := Lib.hid (fun (h : inB (F k) 0 E = false) => HF.out (2 + k) (by omega) (by
        have : setsOf fr pe F (2 + k) = F k := by unfold setsOf; rw [if_neg (by omega), if_neg (by omega), show 2 + k - 2 = k by omega]
        rw [this]
        exact h))
      generalize F k = x at *
      by_cases hx : inB x 0 E = true
      · go_wp2_with (go_at_call 49; refine (in6_any _ _ _ _).mono ?_; rintro e w' ⟨rfl, rfl⟩)
        exact ⟨⟨k + 1, hlt, by go_num, by rw [HX.out, HA.out, hx]; rfl, I1.out⟩, by simp [intOf]; omega⟩
      · have hx' : inB x 0 E = false := by simpa using hx
        have HN := Lib.hid (HY.out hx')
        clear hx
        go_wp2_with (go_at_call 49; refine (in6_any _ _ _ _).mono ?_; rintro e w' ⟨rfl, rfl⟩)
        go_ret
        exact ⟨ret_bool HN.out, I1.out.bel⟩
    · obtain rfl : k = fn := by omega
      have HZ := Lib.hid (show pitchB (H : Int) fr pe F k Q qn = allB (fun i => okQ (H : Int) (Q i)) qn from by
        unfold pitchB
        rw [HH.out, allB_two (p := fun i => setB (H : Int) (setsOf fr pe F i)) (by rw [HS.out]; exact H0.out.1) (by rw [HS.out]; exact H0.out.2) (by
          rw [allB_iff]
          intro i hi
          show setB (H : Int) (setsOf fr pe F (2 + i)) = true
          rw [HS.out, show setsOf fr pe F (2 + i) = F i from by unfold setsOf; rw [if_neg (by omega), if_neg (by omega), show 2 + i - 2 = i by omega]]
          exact allB_iff.1 HA.out i hi)]
        rfl)
      go_wp2_with fail
      go_loopw [5] (fun i wi => ∃ j : Nat, j ≤ qn ∧ i = .int .i64 j ∧ allB (fun i => okQ (H : Int) (Q i)) j = true ∧ PI w (H : Int) fr pe fa qa k fc qn qc F Q wi) (fun i _ => qn - (intOf i).toNat)
      case atStart => exact ⟨0, Nat.zero_le _, rfl, rfl, I1.out⟩
      case round =>
        clear I1 q0 q1 q2 q3 q4
        obtain ⟨j, hj, rfl, ha, h3'⟩ := hrel
        have I1 := Lib.hid h3'
        have HB := Lib.hid ha
        clear h3' ha
        obtain ⟨q0, q1, q2, q3, q4⟩ := I1.out.cells
        by_cases hlt : j < qn
        · have hi := fun w => run_indexAt_row (w := w) (cap := qc) Tryz.underlying25 size_pot (I1.out.qq.plain (by omega)) hlt
          obtain ⟨g0, g1, g2⟩ := I1.out.qq.at hlt
          have HX := Lib.hid (show allB (fun i => okQ (H : Int) (Q i)) (j + 1) = (allB (fun i => okQ (H : Int) (Q i)) j && okQ (H : Int) (Q j)) from rfl)
          have HY := Lib.hid (HG.out j hlt)
          generalize Q j = x at *
          go_upto_region 15 with (fail)
          generalize hW : World.alloc _ _ = W
          obtain ⟨z0, hz, hB⟩ := blocks1 hW
          have I2 := Lib.hid (I1.out.grow hB)
          have c0 := cellAt z0 0
          have c1 := cellAt z0 1
          have c2 := cellAt z0 2
          simp only [List.getElem?_toArray, List.getElem?_cons_zero, List.getElem?_cons_succ] at c0 c1 c2
          clear hW hz hB z0 I1 q0 q1 q2 q3 q4
          obtain ⟨q0, q1, q2, q3, q4⟩ := I2.out.cells
          go_wp2_with (go_at_call 49; refine (in6_any _ _ _ _).mono ?_; rintro e w' ⟨rfl, rfl⟩)
          all_goals first
            | exact ⟨⟨j + 1, hlt, by go_num, by rw [HX.out, HB.out]; simp_all [okQ], I2.out⟩, by simp [intOf]; omega⟩
            | (go_ret; exact ⟨ret_bool (HY.out (by simp_all [okQ])), I2.out.bel⟩)
        · obtain rfl : j = qn := by omega
          have HN := Lib.hid (show true = pitchB (H : Int) fr pe F k Q j from by rw [HZ.out, HB.out])
          go_wp2_with fail
          go_ret
          exact ⟨ret_bool HN.out, I1.out.bel⟩
end Go.Proofs.YtikeihnhkiipgaaGreat

namespace Go.Proofs.YtikeihnhkiipgaaGreat
open Go.RowKit

structure Sm where
  m : Int
  d : Int
  l : Int
  p : Int
def Sm.cell (x : Sm) : Nat → Value
  | 0 => .int .i64 x.m
  | 1 => .int .i64 x.d
  | 2 => .int .i64 x.l
  | _ => .int .i64 x.p
structure Cw where
  lo : Int
  hi : Int
  se : Int
def Cw.cell (x : Cw) : Nat → Value
  | 0 => .int .i64 x.lo
  | 1 => .int .i64 x.hi
  | _ => .int .i64 x.se
/-- Any gangs. -/
structure AG where
  hr : Int
  fr : Int
  pe : Int
  a : GA
  sn : Nat
  cn : Nat
  fn : Nat
  qn : Nat
  S : Nat → Sm
  C : Nat → Cw
  F : Nat → Int
  Q : Nat → Pot
def AG.cs (x : AG) : Array Value := #[.slice x.a.sa x.sn x.a.sc, .slice x.a.ca x.cn x.a.cc, .int .i64 x.hr, .int .i64 x.fr, .int .i64 x.pe, .slice x.a.fa x.fn x.a.fc, .slice x.a.qa x.qn x.a.qc]
structure AG.At (x : AG) (w : World) : Prop where
  ss : Row w x.a.sa x.sn 4 (fun i j => (x.S i).cell j)
  cc : Row w x.a.ca x.cn 3 (fun i j => (x.C i).cell j)
  ff : IntsAt w x.a.fa x.fn x.F
  qq : PotsAt w x.a.qa x.qn x.Q
theorem AG.At.grow {x : AG} {w w' : World} (h : x.At w) (hb : Below w.heap.size w w') : x.At w' := ⟨Row.grow h.ss hb, Row.grow h.cc hb, h.ff.grow hb, h.qq.grow hb⟩
theorem AG.At.seams {x : AG} {W : World} (h : x.At W) {k : Nat} (hk : k < x.sn) :
    W.cell? ⟨blk x.a.sa, ofs x.a.sa + k * 4, none⟩ = some (.int .i64 (x.S k).m) ∧ W.cell? ⟨blk x.a.sa, ofs x.a.sa + k * 4 + 1, none⟩ = some (.int .i64 (x.S k).d) ∧ W.cell? ⟨blk x.a.sa, ofs x.a.sa + k * 4 + 2, none⟩ = some (.int .i64 (x.S k).l) ∧ W.cell? ⟨blk x.a.sa, ofs x.a.sa + k * 4 + 3, none⟩ = some (.int .i64 (x.S k).p) :=
  ⟨h.ss.cells k hk 0 (by omega), h.ss.cells k hk 1 (by omega), h.ss.cells k hk 2 (by omega), h.ss.cells k hk 3 (by omega)⟩
theorem AG.At.crews {x : AG} {W : World} (h : x.At W) {k : Nat} (hk : k < x.cn) :
    W.cell? ⟨blk x.a.ca, ofs x.a.ca + k * 3, none⟩ = some (.int .i64 (x.C k).lo) ∧ W.cell? ⟨blk x.a.ca, ofs x.a.ca + k * 3 + 1, none⟩ = some (.int .i64 (x.C k).hi) ∧ W.cell? ⟨blk x.a.ca, ofs x.a.ca + k * 3 + 2, none⟩ = some (.int .i64 (x.C k).se) :=
  ⟨h.cc.cells k hk 0 (by omega), h.cc.cells k hk 1 (by omega), h.cc.cells k hk 2 (by omega)⟩
def okSm (qn : Nat) (s : Sm) : Bool := inB s.m 1 60 && inB s.d 0 24 && inB s.l 0 24 && inB s.p (-1) ((qn : Int) - 1)
def okCw (E : Int) (c : Cw) : Bool := decide (1 ≤ c.lo) && decide (c.lo ≤ c.hi) && decide (c.hi ≤ 12) && inB c.se 0 E
def AG.pB (x : AG) : Bool := pitchB x.hr x.fr x.pe x.F x.fn x.Q x.qn
def AG.hB (x : AG) : Bool := x.pB && decide ((x.sn : Int) ≤ 5) && decide ((x.cn : Int) ≤ 3)
def AG.B (x : AG) : Bool := x.hB && allB (fun i => okSm x.qn (x.S i)) x.sn && allB (fun i => okCw (((2 ^ x.sn : Nat) : Int) - 1) (x.C i)) x.cn
/-- What stands in a walk: the gangs' own box. -/
structure GI (x : AG) (w W : World) : Prop where
  bel : Below w.heap.size w W
  box : BoxAt W w.heap.size #[.slice x.a.sa x.sn x.a.sc, .slice x.a.ca x.cn x.a.cc, .int .i64 x.hr, .int .i64 x.fr, .int .i64 x.pe, .slice x.a.fa x.fn x.a.fc, .slice x.a.qa x.qn x.a.qc] 29
  at' : x.At W
theorem GI.grow {x : AG} {w W W' : World} (h : GI x w W) (hb : Below W.heap.size W W') : GI x w W' := ⟨h.bel.next hb, h.box.grow hb, h.at'.grow hb⟩
theorem GI.cells {x : AG} {w W : World} (h : GI x w W) : W.cell? ⟨w.heap.size, 0, none⟩ = some (.slice x.a.sa x.sn x.a.sc) ∧ W.cell? ⟨w.heap.size, 1, none⟩ = some (.slice x.a.ca x.cn x.a.cc) ∧ W.cell? ⟨w.heap.size, 2, none⟩ = some (.int .i64 x.hr) ∧ W.cell? ⟨w.heap.size, 3, none⟩ = some (.int .i64 x.fr) ∧ W.cell? ⟨w.heap.size, 4, none⟩ = some (.int .i64 x.pe) ∧ W.cell? ⟨w.heap.size, 5, none⟩ = some (.slice x.a.fa x.fn x.a.fc) ∧ W.cell? ⟨w.heap.size, 6, none⟩ = some (.slice x.a.qa x.qn x.a.qc) :=
  ⟨cellAt h.box 0, cellAt h.box 1, cellAt h.box 2, cellAt h.box 3, cellAt h.box 4, cellAt h.box 5, cellAt h.box 6⟩
theorem gangs_noS {x : AG} {k : Nat} (hk : k < x.sn) (h : okSm x.qn (x.S k) = false) : false = x.B := by
  symm
  rw [← Bool.not_eq_true]
  intro e
  unfold AG.B at e
  simp only [Bool.and_eq_true] at e
  have := allB_iff.1 e.1.2 k hk
  simp [h] at this
theorem gangs_noC {x : AG} {k : Nat} (hk : k < x.cn) (h : okCw (((2 ^ x.sn : Nat) : Int) - 1) (x.C k) = false) : false = x.B := by
  symm
  rw [← Bool.not_eq_true]
  intro e
  unfold AG.B at e
  simp only [Bool.and_eq_true] at e
  have := allB_iff.1 e.2 k hk
  rw [h] at this
  cases this
theorem pitch_le {hr fr pe : Int} {F : Nat → Int} {fn qn : Nat} {Q : Nat → Pot} (h : pitchB hr fr pe F fn Q qn = true) : qn ≤ 4 := by
  unfold pitchB headB at h
  simp only [Bool.and_eq_true, decide_eq_true_eq] at h
  omega
set_option maxRecDepth 100000 in
set_option maxHeartbeats 4000000 in
theorem gangs8_any (x : AG) (w : World) (h : x.At w) :
    Calls Tryz.prog 4 #[.agg x.cs] w fun e w' => e = .returned (.bool x.B) ∧ Below w.heap.size w w' := by
  have hsm := h.ss.small
  have hcm := h.cc.small
  unfold maxLen at hsm hcm
  have hb0 := (Below.refl w.heap.size w).alloc (Nat.le_refl _) (.cells x.cs 29)
  have I0 := Lib.hid (show GI x w (w.alloc (.cells x.cs 29)) from ⟨hb0, heap_alloc_new _ _, h.grow hb0⟩)
  clear h hb0
  unfold AG.cs at *
  go_enter Tryz.func4, Tryz.ntmps4
  go_upto_region 1 with (fail)
  generalize hW : World.alloc _ _ = W0 at *
  obtain ⟨q0, q1, q2, q3, q4, q5, q6⟩ := I0.out.cells
  have C1 := Lib.hid (pitch6_any x.hr x.fr x.pe x.a.fa x.a.qa x.fn x.a.fc x.qn x.a.qc x.F x.Q W0 I0.out.at'.ff I0.out.at'.qq)
  clear hW
  by_cases hh : x.hB = true
  case neg =>
    have HN := Lib.hid (show false = x.B from by unfold AG.B; rw [show x.hB = false by simpa using hh]; rfl)
    have hn : x.pB = true → (x.sn : Int) ≤ 5 → ¬ (x.cn : Int) ≤ 3 := fun h1 h2 h3 => hh (by unfold AG.hB; rw [h1]; simp [h2, h3])
    clear hh
    have hpe : pitchB x.hr x.fr x.pe x.F x.fn x.Q x.qn = x.pB := rfl
    rw [hpe] at C1
    clear hpe
    generalize x.pB = pb at *
    by_cases h1 : pb = true
    · by_cases h2 : (x.sn : Int) ≤ 5
      · have h3 := hn h1 h2
        clear hn
        go_wp2_with (go_at_call 14; refine C1.out.mono ?_; rintro e w' ⟨rfl, hb1⟩; have I1 := Lib.hid (I0.out.grow hb1); obtain ⟨p0, p1, -, -, -, -, -⟩ := I1.out.cells; clear hb1 q0 q1 q2 q3 q4 q5 q6)
        all_goals (go_ret; exact ⟨ret_bool HN.out, I1.out.bel⟩)
      · clear hn
        go_wp2_with (go_at_call 14; refine C1.out.mono ?_; rintro e w' ⟨rfl, hb1⟩; have I1 := Lib.hid (I0.out.grow hb1); obtain ⟨p0, p1, -, -, -, -, -⟩ := I1.out.cells; clear hb1 q0 q1 q2 q3 q4 q5 q6)
        all_goals (go_ret; exact ⟨ret_bool HN.out, I1.out.bel⟩)
    · clear hn
      go_wp2_with (go_at_call 14; refine C1.out.mono ?_; rintro e w' ⟨rfl, hb1⟩; have I1 := Lib.hid (I0.out.grow hb1); obtain ⟨p0, p1, -, -, -, -, -⟩ := I1.out.cells; clear hb1 q0 q1 q2 q3 q4 q5 q6)
      all_goals (go_ret; exact ⟨ret_bool HN.out, I1.out.bel⟩)
  have HH := Lib.hid hh
  obtain ⟨⟨h1, h2⟩, h3⟩ : (x.pB = true ∧ (x.sn : Int) ≤ 5) ∧ (x.cn : Int) ≤ 3 := by
    unfold AG.hB at hh
    simpa only [Bool.and_eq_true, decide_eq_true_eq] using hh
  clear hh
  have hpe : pitchB x.hr x.fr x.pe x.F x.fn x.Q x.qn = true := h1
  have hq4 := pitch_le hpe
  rw [hpe] at C1
  have t2 : decide (5 < (x.sn : Int)) = false := decide_eq_false (by omega)
  have t3 : decide (3 < (x.cn : Int)) = false := decide_eq_false (by omega)
  clear h1 hpe
  go_upto_region 3 with (go_at_call 14; refine C1.out.mono ?_; rintro e w1 ⟨rfl, hb1⟩; have I1 := Lib.hid (I0.out.grow hb1); obtain ⟨p0, p1, -, -, -, -, -⟩ := I1.out.cells; clear hb1 q0 q1 q2 q3 q4 q5 q6)
  clear C1 t2 t3 p0 p1 I0
  obtain ⟨E, hE⟩ : ∃ E : Int, E = ((2 ^ x.sn : Nat) : Int) - 1 := ⟨_, rfl⟩
  have HE := Lib.hid hE
  have HE1 := Lib.hid (show wrap64 (((2 ^ x.sn : Nat) : Int) - 1) = E from by rw [hE]; exact w64 (by have h40 : 2 ^ x.sn ≤ 2 ^ 5 := Nat.pow_le_pow_right (by omega) (by omega); generalize 2 ^ x.sn = z at *; omega))
  have HE2 := Lib.hid (show wrap64 ((2 : Int) ^ x.sn - 1) = E from by rw [pow2_cast]; exact HE1.out)
  have HQ := Lib.hid (show wrap64 ((x.qn : Int) - 1) = (x.qn : Int) - 1 from w64 (by omega))
  have HS := Lib.hid (fun (k : Nat) (hk : k < x.sn) (h : okSm x.qn (x.S k) = false) => gangs_noS hk h)
  have HC := Lib.hid (fun (k : Nat) (hk : k < x.cn) (h : okCw E (x.C k) = false) => gangs_noC hk (by rw [← HE.out]; exact h))
  have HZ := Lib.hid (show allB (fun i => okSm x.qn (x.S i)) x.sn = true → allB (fun i => okCw E (x.C i)) x.cn = true → true = x.B from fun a b => by unfold AG.B; rw [HH.out, a, ← HE.out, b]; rfl)
  have hs5 : x.sn ≤ 5 := by omega
  have hc3 : x.cn ≤ 3 := by omega
  clear h2 h3 hE HH HE hsm hcm
  go_wp2_with fail
  go_loopw [3] (fun i wi => ∃ k : Nat, k ≤ x.sn ∧ i = .int .i64 k ∧ allB (fun i => okSm x.qn (x.S i)) k = true ∧ GI x w wi) (fun i _ => x.sn - (intOf i).toNat)
  case atStart => exact ⟨0, Nat.zero_le _, rfl, rfl, I1.out⟩
  case round =>
    clear I1
    obtain ⟨k, hk, rfl, ha, h3'⟩ := hrel
    have I1 := Lib.hid h3'
    have HA := Lib.hid ha
    clear h3' ha
    obtain ⟨q0, q1, -, -, -, -, q6⟩ := I1.out.cells
    by_cases hlt : k < x.sn
    · have hlt' : (k : Int) < x.sn := by omega
      have hmeas : x.sn - (k + 1) < x.sn - k := by omega
      have HW := Lib.hid (succ64 (show k < 100 by omega))
      have hi := fun W => run_indexAt_row (w := W) (cap := x.a.sc) Tryz.underlying22 size_seam (I1.out.at'.ss.plain (by omega)) hlt
      obtain ⟨g0, g1, g2, g3⟩ := I1.out.at'.seams hlt
      have HX := Lib.hid (show allB (fun i => okSm x.qn (x.S i)) (k + 1) = (allB (fun i => okSm x.qn (x.S i)) k && okSm x.qn (x.S k)) from rfl)
      have HY := Lib.hid (HS.out k hlt)
      generalize x.S k = s at *
      go_upto_region 7 with (fail)
      generalize hW : World.alloc _ _ = W
      obtain ⟨z0, hz, hB⟩ := blocks1 hW
      have I2 := Lib.hid (I1.out.grow hB)
      have c0 := cellAt z0 0
      have c1 := cellAt z0 1
      have c2 := cellAt z0 2
      have c3 := cellAt z0 3
      simp only [List.getElem?_toArray, List.getElem?_cons_zero, List.getElem?_cons_succ] at c0 c1 c2 c3
      clear hW hz hB z0 I1 q0 q1 q6 hi g0 g1 g2 g3 hlt'
      obtain ⟨-, -, -, -, -, -, q6⟩ := I2.out.cells
      by_cases b0 : inB s.m 1 60 = true
      · by_cases b1 : inB s.d 0 24 = true
        · by_cases b2 : inB s.l 0 24 = true
          · by_cases b3 : inB s.p (-1) ((x.qn : Int) - 1) = true
            · have hok : okSm x.qn s = true := by simp [okSm, b0, b1, b2, b3]
              go_wp2_with (go_at_call 15; (try rw [HQ.out]); refine (in8_any _ _ _ _).mono ?_; rintro e w' ⟨rfl, rfl⟩)
              try rw [HW.out]
              exact ⟨⟨k + 1, hlt, rfl, by rw [HX.out, HA.out, hok]; rfl, I2.out⟩, hmeas⟩
            · have b3' : inB s.p (-1) ((x.qn : Int) - 1) = false := by simpa using b3
              have hok : okSm x.qn s = false := by simp [okSm, b0, b1, b2, b3']
              clear b3
              go_wp2_with (go_at_call 15; (try rw [HQ.out]); refine (in8_any _ _ _ _).mono ?_; rintro e w' ⟨rfl, rfl⟩)
              go_ret
              exact ⟨ret_bool (HY.out hok), I2.out.bel⟩
          · have b2' : inB s.l 0 24 = false := by simpa using b2
            have hok : okSm x.qn s = false := by simp [okSm, b0, b1, b2']
            clear b2
            go_wp2_with (go_at_call 15; refine (in8_any _ _ _ _).mono ?_; rintro e w' ⟨rfl, rfl⟩)
            go_ret
            exact ⟨ret_bool (HY.out hok), I2.out.bel⟩
        · have b1' : inB s.d 0 24 = false := by simpa using b1
          have hok : okSm x.qn s = false := by simp [okSm, b0, b1']
          clear b1
          go_wp2_with (go_at_call 15; refine (in8_any _ _ _ _).mono ?_; rintro e w' ⟨rfl, rfl⟩)
          go_ret
          exact ⟨ret_bool (HY.out hok), I2.out.bel⟩
      · have b0' : inB s.m 1 60 = false := by simpa using b0
        have hok : okSm x.qn s = false := by simp [okSm, b0']
        clear b0
        go_wp2_with (go_at_call 15; refine (in8_any _ _ _ _).mono ?_; rintro e w' ⟨rfl, rfl⟩)
        go_ret
        exact ⟨ret_bool (HY.out hok), I2.out.bel⟩
    · have hlt' : ¬ (k : Int) < x.sn := by omega
      obtain rfl : k = x.sn := by omega
      have HZ2 := Lib.hid (HZ.out HA.out)
      clear hk hlt HA HZ HS
      go_wp2_with fail
      go_loopw [5] (fun i wi => ∃ j : Nat, j ≤ x.cn ∧ i = .int .i64 j ∧ allB (fun i => okCw E (x.C i)) j = true ∧ GI x w wi) (fun i _ => x.cn - (intOf i).toNat)
      case atStart => exact ⟨0, Nat.zero_le _, rfl, rfl, I1.out⟩
      case round =>
        clear I1 q0 q1 q6 hlt'
        obtain ⟨j, hj, rfl, ha, h3'⟩ := hrel
        have I1 := Lib.hid h3'
        have HB := Lib.hid ha
        clear h3' ha
        obtain ⟨q0, q1, -, -, -, -, -⟩ := I1.out.cells
        by_cases hlt : j < x.cn
        · have hlt' : (j : Int) < x.cn := by omega
          have hmeas : x.cn - (j + 1) < x.cn - j := by omega
          have HW := Lib.hid (succ64 (show j < 100 by omega))
          have hi := fun W => run_indexAt_row (w := W) (cap := x.a.cc) Tryz.underlying23 size_crew (I1.out.at'.cc.plain (by omega)) hlt
          obtain ⟨g0, g1, g2⟩ := I1.out.at'.crews hlt
          have HX := Lib.hid (show allB (fun i => okCw E (x.C i)) (j + 1) = (allB (fun i => okCw E (x.C i)) j && okCw E (x.C j)) from rfl)
          have HY := Lib.hid (HC.out j hlt)
          generalize x.C j = s at *
          go_upto_region 13 with (fail)
          generalize hW : World.alloc _ _ = W
          obtain ⟨z0, hz, hB⟩ := blocks1 hW
          have I2 := Lib.hid (I1.out.grow hB)
          have c0 := cellAt z0 0
          have c1 := cellAt z0 1
          have c2 := cellAt z0 2
          simp only [List.getElem?_toArray, List.getElem?_cons_zero, List.getElem?_cons_succ] at c0 c1 c2
          generalize wr.heap.size = b at *
          clear hW hz hB z0 I1 q0 q1 hi g0 g1 g2 hlt'
          obtain ⟨q0, -, -, -, -, -, -⟩ := I2.out.cells
          have CP := Lib.hid (fun W => pow8_any x.sn W (by omega))
          have OKC := Lib.hid (fun (h1 : 1 ≤ s.lo) (h2 : s.lo ≤ s.hi) (h3 : s.hi ≤ 12) (h4 : inB s.se 0 E = true) => (show okCw E s = true from by unfold okCw; rw [decide_eq_true h1, decide_eq_true h2, decide_eq_true h3, h4]; rfl))
          have NOC := Lib.hid (fun (h : ¬ (1 ≤ s.lo ∧ s.lo ≤ s.hi ∧ s.hi ≤ 12 ∧ inB s.se 0 E = true)) => (show okCw E s = false from by rw [← Bool.not_eq_true]; intro e; unfold okCw at e; simp only [Bool.and_eq_true, decide_eq_true_eq] at e; exact h ⟨e.1.1.1, e.1.1.2, e.1.2, e.2⟩))
          by_cases d0 : s.lo < 1
          · have hok := NOC.out (by omega)
            clear NOC OKC
            go_quiet (first
              | (go_at_call 16; exact Calls.quiet_of_same ((CP.out _).mono fun _ _ h => ⟨h.1, h.2.symm⟩))
              | (go_at_call 15; (try rw [HE1.out]); exact Calls.quiet_of_same ((in8_any _ _ _ _).mono fun _ _ h => ⟨h.1, h.2.symm⟩)))
            have I3 := Lib.hid (I2.out.grow (below_drewN (Below.refl W.heap.size W) nq))
            clear c0 c1 c2 q0 I2
            generalize World.drewN W nq = w3 at *
            go_wp2_with fail
            go_ret
            exact ⟨ret_bool (HY.out hok), I3.out.bel⟩
          · by_cases d1 : s.hi < s.lo
            · have hok := NOC.out (by omega)
              clear NOC OKC
              go_quiet (first
              | (go_at_call 16; exact Calls.quiet_of_same ((CP.out _).mono fun _ _ h => ⟨h.1, h.2.symm⟩))
              | (go_at_call 15; (try rw [HE1.out]); exact Calls.quiet_of_same ((in8_any _ _ _ _).mono fun _ _ h => ⟨h.1, h.2.symm⟩)))
              have I3 := Lib.hid (I2.out.grow (below_drewN (Below.refl W.heap.size W) nq))
              clear c0 c1 c2 q0 I2
              generalize World.drewN W nq = w3 at *
              go_wp2_with fail
              go_ret
              exact ⟨ret_bool (HY.out hok), I3.out.bel⟩
            · by_cases d2 : 12 < s.hi
              · have hok := NOC.out (by omega)
                clear NOC OKC
                go_quiet (first
              | (go_at_call 16; exact Calls.quiet_of_same ((CP.out _).mono fun _ _ h => ⟨h.1, h.2.symm⟩))
              | (go_at_call 15; (try rw [HE1.out]); exact Calls.quiet_of_same ((in8_any _ _ _ _).mono fun _ _ h => ⟨h.1, h.2.symm⟩)))
                have I3 := Lib.hid (I2.out.grow (below_drewN (Below.refl W.heap.size W) nq))
                clear c0 c1 c2 q0 I2
                generalize World.drewN W nq = w3 at *
                go_wp2_with fail
                go_ret
                exact ⟨ret_bool (HY.out hok), I3.out.bel⟩
              · by_cases d3 : inB s.se 0 E = true
                · have hok := OKC.out (by omega) (by omega) (by omega) d3
                  clear NOC OKC
                  go_quiet (first
              | (go_at_call 16; exact Calls.quiet_of_same ((CP.out _).mono fun _ _ h => ⟨h.1, h.2.symm⟩))
              | (go_at_call 15; (try rw [HE1.out]); exact Calls.quiet_of_same ((in8_any _ _ _ _).mono fun _ _ h => ⟨h.1, h.2.symm⟩)))
                  have I3 := Lib.hid (I2.out.grow (below_drewN (Below.refl W.heap.size W) nq))
                  clear c0 c1 c2 q0 I2
                  generalize World.drewN W nq = w3 at *
                  rw [HE2.out, d3]
                  go_wp2_with fail
                  try rw [HW.out]
                  exact ⟨⟨j + 1, hlt, rfl, by rw [HX.out, HB.out, hok]; rfl, I3.out⟩, hmeas⟩
                · have hok := NOC.out (fun h => d3 h.2.2.2)
                  have d3' : inB s.se 0 E = false := by simpa using d3
                  clear NOC OKC d3
                  go_quiet (first
              | (go_at_call 16; exact Calls.quiet_of_same ((CP.out _).mono fun _ _ h => ⟨h.1, h.2.symm⟩))
              | (go_at_call 15; (try rw [HE1.out]); exact Calls.quiet_of_same ((in8_any _ _ _ _).mono fun _ _ h => ⟨h.1, h.2.symm⟩)))
                  have I3 := Lib.hid (I2.out.grow (below_drewN (Below.refl W.heap.size W) nq))
                  clear c0 c1 c2 q0 I2
                  generalize World.drewN W nq = w3 at *
                  rw [HE2.out, d3']
                  go_wp2_with fail
                  go_ret
                  exact ⟨ret_bool (HY.out hok), I3.out.bel⟩
        · have hlt' : ¬ (j : Int) < x.cn := by omega
          obtain rfl : j = x.cn := by omega
          have HN := Lib.hid (HZ2.out HB.out)
          go_wp2_with fail
          go_ret
          exact ⟨ret_bool HN.out, I1.out.bel⟩
end Go.Proofs.YtikeihnhkiipgaaGreat
