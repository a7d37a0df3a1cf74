/-
  Walks: BookBits.
-/
import Derived.Test.YtclbmlmlhiiaeaaGreatDoorP5
import Derived.Test.YtclbmlmlhiiaeaaGreatDoorT13
import Derived.Test.YtclbmlmlhiiaeaaGreatDoorT4
import Derived.Lib.MinMax
namespace Go.Proofs.YtclbmlmlhiiaeaaGreatDoor
open Go.RowKit

theorem zero_small : SmallW zeroW := ⟨by decide, by decide, by decide, fun i hi => absurd hi (Nat.not_lt_zero _), fun i hi => absurd hi (Nat.not_lt_zero _), fun i hi => absurd hi (Nat.not_lt_zero _)⟩
/-- What is read: small; and where it is wages, their book is the file. -/
theorem readW_small (L : Nat) (f : Nat → Nat) : SmallW (readW L f).2 ∧ ((readW L f).1 = 0 → szB (bookN (readW L f).2) = L) := by
  have no : ∀ x : Int, x ≠ 0 → SmallW (x, zeroW).2 ∧ ((x, zeroW).1 = 0 → szB (bookN (x, zeroW).2) = L) := fun x hx => ⟨zero_small, fun h => absurd h hx⟩
  unfold readW
  split
  · exact no 3 (by decide)
  · split
    · exact no 8 (by decide)
    · split
      · split
        · exact no 8 (by decide)
        · split
          · rename_i h
            rw [Bool.and_eq_true] at h
            exact ⟨small_valid h.1, fun _ => (eqB_iff.1 h.2).1⟩
          · exact no 8 (by decide)
      · exact no 10 (by decide)
theorem read_clash {n : Nat} {f : Nat → Nat} (h0 : 0 < n) (hl : szB n ≤ 1000) (h : ¬ ∀ k, k < szB n → sealB f n k = f k) : readW (szB n) f = (10, zeroW) := by
  unfold readW
  rw [if_neg (by omega), contN_some h0]
  dsimp only
  rw [if_neg (fun e => h (eqB_iff.1 e).2)]
/-- Wages that were read, in a box, with their rows. -/
structure BW (x : WagesV) (p : Nat) (sa ta : Option Addr) (sc tc : Nat) (W : World) : Prop where
  box : BoxAt W p #[.int .i64 x.cr, .slice sa x.sn sc, .slice ta x.tn tc] 38
  s : NumsAt W sa x.sn 2 (castW x.S)
  t : NumsAt W ta x.tn 8 (castW x.T)
theorem BW.grow {x : WagesV} {p : Nat} {sa ta : Option Addr} {sc tc : Nat} {W W' : World} (h : BW x p sa ta sc tc W) (hb : Below W.heap.size W W') : BW x p sa ta sc tc W' := ⟨h.box.grow hb, h.s.grow hb, h.t.grow hb⟩
theorem BW.cells {x : WagesV} {p : Nat} {sa ta : Option Addr} {sc tc : Nat} {W : World} (h : BW x p sa ta sc tc W) : W.cell? ⟨p, 0, none⟩ = some (.int .i64 x.cr) ∧ W.cell? ⟨p, 1, none⟩ = some (.slice sa x.sn sc) ∧ W.cell? ⟨p, 2, none⟩ = some (.slice ta x.tn tc) :=
  ⟨cellAt h.box 0, cellAt h.box 1, cellAt h.box 2⟩
theorem BW.new {x : WagesV} {sa ta : Option Addr} {sc tc : Nat} {W : World} (hS : NumsAt W sa x.sn 2 (castW x.S)) (hT : NumsAt W ta x.tn 8 (castW x.T)) : BW x W.heap.size sa ta sc tc (W.alloc (.cells #[.int .i64 x.cr, .slice sa x.sn sc, .slice ta x.tn tc] 38)) :=
  have al := (Below.refl W.heap.size W).alloc (Nat.le_refl _) (.cells #[.int .i64 x.cr, .slice sa x.sn sc, .slice ta x.tn tc] 38)
  ⟨heap_alloc_new _ _, hS.grow al, hT.grow al⟩
/-- A book that stands right: what Mend says of it, and of one with a bit the other one. -/
theorem mend_whole {oa : Option Addr} {nc n : Nat} {b : Nat → Nat} {w : World} (hb : BytesAt w oa (szB n) b) (h8 : ∀ i, b i < 256) (hcap : szB n ≤ nc) (h0 : 0 < n) (hl : szB n ≤ 1000) (hs : ∀ k, k < szB n → sealB b n k = b k) :
    Calls Tryz.prog 25 #[.slice oa (szB n) nc] w fun e w' => e = .returned (.tuple #[.slice none 0 0, .int .i64 4]) ∧ Below w.heap.size w w' := by
  refine (mend_any oa (szB n) nc b w hb h8 hcap).mono fun e w' ⟨hbel, hx⟩ => ?_
  rcases hx with ⟨h, -⟩ | ⟨-, h, -⟩ | ⟨m, -, h2, -, h⟩
  · omega
  · exact absurd rfl (h n h0)
  · obtain rfl := szB_inj h2
    have hm : mendAt b m = .inr 4 := by
      unfold mendAt
      rw [if_pos ((seal_right h8 m).1 hs)]
    rcases h with ⟨x, h, rfl⟩ | ⟨i, g, cap, h, -⟩
    · rw [hm] at h
      cases h
      exact ⟨rfl, hbel⟩
    · rw [hm] at h
      cases h
theorem mend_one {oa : Option Addr} {nc n a : Nat} {b : Nat → Nat} {w : World} (hb : BytesAt w oa (szB n) (flipB b a)) (h8 : ∀ i, b i < 256) (hcap : szB n ≤ nc) (h0 : 0 < n) (hl : szB n ≤ 1000) (hs : ∀ k, k < szB n → sealB b n k = b k) (ha : a < 8 * szB n) :
    Calls Tryz.prog 25 #[.slice oa (szB n) nc] w fun e w' => ∃ za zc, e = .returned (.tuple #[.slice za (szB n) zc, .int .i64 0]) ∧ BytesAt w' za (szB n) b ∧ Below w.heap.size w w' := by
  refine (mend_any oa (szB n) nc (flipB b a) w hb (flip_lt h8 a) hcap).mono fun e w' ⟨hbel, hx⟩ => ?_
  have hm := mend_flip h8 hs ha
  rcases hx with ⟨h, -⟩ | ⟨-, h, -⟩ | ⟨m, -, h2, -, h⟩
  · omega
  · exact absurd rfl (h n h0)
  · obtain rfl := szB_inj h2
    rcases h with ⟨x, h, rfl⟩ | ⟨i, g, cap, h, -, -, -, rfl, hB⟩
    · rw [hm] at h
      cases h
    · rw [hm] at h
      cases h
      rw [flip_twice] at hB
      exact ⟨_, cap, rfl, hB, hbel⟩
/-- Three files that none is as long as the book. -/
def Three (L : Nat) (P : Nat → Option Addr) (Ln Cp : Nat → Nat) (F : Nat → Nat → Nat) (W : World) : Prop := ∀ k, k < 3 → BytesAt W (P k) (Ln k) (F k) ∧ (∀ i, F k i < 256) ∧ Ln k ≤ Cp k ∧ Ln k ≠ L
theorem Three.grow {L : Nat} {P : Nat → Option Addr} {Ln Cp : Nat → Nat} {F : Nat → Nat → Nat} {W W' : World} (h : Three L P Ln Cp F W) (hb : Below W.heap.size W W') : Three L P Ln Cp F W' := fun k hk => ⟨(h k hk).1.grow hb, (h k hk).2⟩
/-- What stands while the law goes on: the wages in their box, the file. -/
structure IB (w : World) (g : WagA) (oa : Option Addr) (L : Nat) (B : Nat → Nat) (W : World) : Prop where
  bel : Below w.heap.size w W
  st : Stands W
  bx : BoxAt W w.heap.size #[.int .i64 g.cr, .slice g.sa g.sn g.sc, .slice g.ta g.tn g.tc] 38
  a : g.At W
  l : BytesAt W oa L B
theorem IB.grow {w W W' : World} {g : WagA} {oa : Option Addr} {L : Nat} {B : Nat → Nat} (h : IB w g oa L B W) (hb : Below W.heap.size W W') : IB w g oa L B W' := ⟨h.bel.next hb, h.st.grow hb, h.bx.grow hb, h.a.grow hb, BytesAt.grow h.l hb⟩
theorem valid_nat {g : WagA} (ok : WagesOk g.cr g.S g.sn g.T g.tn) (h : wagesB g.cr g.S g.sn g.T g.tn = true) : wagesVB (wagesV g.cr g.S g.sn g.T g.tn) = true := by
  unfold wagesVB
  have hc := ok.hcr
  have e1 : ((wagesV g.cr g.S g.sn g.T g.tn).cr : Int) = g.cr := Int.toNat_of_nonneg (by omega)
  have hS : ∀ i, i < g.sn → ∀ j, j < 2 → castW (wagesV g.cr g.S g.sn g.T g.tn).S i j = g.S i j := fun i hi j hj => by
    have := ok.s i hi
    show (((g.S i j).toNat : Nat) : Int) = _
    rcases (show j = 0 ∨ j = 1 by omega) with rfl | rfl <;> exact Int.toNat_of_nonneg (by omega)
  have hT : ∀ i, i < g.tn → ∀ j, j < 8 → castW (wagesV g.cr g.S g.sn g.T g.tn).T i j = g.T i j := fun i hi j hj => by
    have := ok.t i hi
    show (((g.T i j).toNat : Nat) : Int) = _
    rcases (show j = 0 ∨ j = 1 ∨ j = 2 ∨ j = 3 ∨ j = 4 ∨ j = 5 ∨ j = 6 ∨ j = 7 by omega) with rfl | rfl | rfl | rfl | rfl | rfl | rfl | rfl <;> exact Int.toNat_of_nonneg (by omega)
  rw [e1]
  show wagesB g.cr (castW (wagesV g.cr g.S g.sn g.T g.tn).S) g.sn (castW (wagesV g.cr g.S g.sn g.T g.tn).T) g.tn = true
  generalize castW (wagesV g.cr g.S g.sn g.T g.tn).S = S' at *
  generalize castW (wagesV g.cr g.S g.sn g.T g.tn).T = T' at *
  rw [← h]
  unfold wagesB
  rw [allB_congr (p := fun i => okSm (S' i)) (q := fun i => okSm (g.S i)) (fun i hi => by unfold okSm; rw [hS i hi 0 (by omega), hS i hi 1 (by omega)]),
    allB_congr (p := fun i => okTk g.cr g.sn S' (T' i)) (q := fun i => okTk g.cr g.sn g.S (g.T i)) (fun i hi => by
      have h1 := (ok.t i hi).2.1
      unfold okTk
      rw [hT i hi 0 (by omega), hT i hi 1 (by omega), hT i hi 2 (by omega), hT i hi 3 (by omega), hT i hi 4 (by omega), hT i hi 5 (by omega), hT i hi 6 (by omega), hT i hi 7 (by omega), hS _ (show (g.T i 1).toNat < g.sn by omega) 0 (by omega)])]
theorem book_short {x : WagesV} (hv : wagesVB x = true) : szB (bookN x) ≤ 100 := by
  have ok := wages_ok hv
  have h2 := ok.hsn
  have h3 := ok.htn
  have h4 := wageBits_len x
  unfold szB bookN rowsB
  omega
theorem slice62 : Tryz.prog.underlying 62 = some (.slice 46) := by kernel_rfl
theorem size46r : (Tryz.prog.info? 46).map (·.size) = some 1 := by kernel_rfl
theorem u8_wrap_nat (s : Nat) : IntKind.u8.wrap (s : Int) = ((s % 256 : Nat) : Int) := by
  simp [IntKind.wrap, IntKind.signed, IntKind.bits]
theorem three_files {wc W : World} {oa : Option Addr} {L M oc z g c zg : Nat} {B : Nat → Nat} (hl : BytesAt W oa L B) (h8 : ∀ i, B i < 256) (z8 : z < 256) (_ho : oa = some ⟨blk oa, ofs oa, none⟩) (hcap : L ≤ oc) (hM : L = M + 1) (hL : L ≤ 1000)
    (hown : W.ownsRow wc.heap.size 5 1 (.slice (some ⟨g, 0, none⟩) (L + 1) c) (L + 1) (rowVals (fun i _ => .int .u8 (B i : Nat)) 1 L ++ [.int .u8 z]))
    (hz : BoxAt W zg #[.slice (some ⟨g, 0, none⟩) (L + 1) c, .slice oa M oc, .slice (some ⟨blk oa, ofs oa + 1, none⟩) (L - 1) (oc - 1)] 46) (hb : Below wc.heap.size wc W) :
    ∃ (gp : Nat) (P : Nat → Option Addr) (Ln Cp : Nat → Nat) (F : Nat → Nat → Nat), Value.slice (some ⟨zg, 0, none⟩) 3 3 = .slice (some ⟨gp, 0, none⟩) 3 3 ∧ Value.int .i64 3 = .int .i64 3 ∧ Value.int .i64 0 = .int .i64 0 ∧ SlicesAt W (some ⟨gp, 0, none⟩) 3 P Ln Cp ∧ Three L P Ln Cp F W ∧ Below wc.heap.size wc W := by
  have e : rowVals (fun i _ => Value.int .u8 (B i : Nat)) 1 L ++ [.int .u8 z] = valsOf (fun i => .int .u8 ((if i < L then B i else z : Nat) : Int)) (L + 1) := by
    rw [rowVals_one, valsOf_succ]
    congr 1
    · exact valsOf_congr (fun i hi => by rw [if_pos hi])
    · rw [if_neg (by omega)]
  rw [e] at hown
  have hs := hl.small
  unfold maxLen at hs
  obtain ⟨xa, xc, hv, hrow, -, hxc⟩ := row_of hown (by unfold maxLen; omega)
  cases hv
  refine ⟨zg, fun k => if k = 0 then some ⟨g, 0, none⟩ else if k = 1 then oa else some ⟨blk oa, ofs oa + 1, none⟩, fun k => if k = 0 then L + 1 else if k = 1 then M else L - 1, fun k => if k = 0 then c else if k = 1 then oc else oc - 1, fun k => if k = 0 then (fun i => if i < L then B i else z) else if k = 1 then B else fun i => B (1 + i), rfl, rfl, rfl, ?_, ?_, hb⟩
  · refine ⟨fun _ => rfl, fun _ => lt_of_heap hz, by unfold maxLen; omega, fun i hi j hj => ?_⟩
    obtain rfl : j = 0 := by omega
    rcases (show i = 0 ∨ i = 1 ∨ i = 2 by omega) with rfl | rfl | rfl
    · exact cellAt hz 0
    · exact cellAt hz 1
    · exact cellAt hz 2
  · intro k hk
    rcases (show k = 0 ∨ k = 1 ∨ k = 2 by omega) with rfl | rfl | rfl
    · refine ⟨hrow, fun i => ?_, hxc, ?_⟩
      · show (if i < L then B i else z) < 256
        split
        · exact h8 i
        · exact z8
      · show L + 1 ≠ L
        omega
    · refine ⟨show BytesAt W oa M B from hl.head (by omega), h8, ?_, ?_⟩
      · show M ≤ oc
        omega
      · show M ≠ L
        omega
    · refine ⟨show BytesAt W (some ⟨blk oa, ofs oa + 1, none⟩) (L - 1) (fun i => B (1 + i)) from BytesAt.sub hl (by omega), fun i => h8 _, ?_, ?_⟩
      · show L - 1 ≤ oc - 1
        omega
      · show L - 1 ≠ L
        omega
set_option maxRecDepth 100000 in
set_option maxHeartbeats 16000000 in
theorem bookBits6_any (g : WagA) (f s : Nat) (w : World) (hg : g.At w) (hf : f < 65536) (hs : s < 65536) (hst : Stands w) :
    Calls Tryz.prog 6 #[.agg #[.int .i64 g.cr, .slice g.sa g.sn g.sc, .slice g.ta g.tn g.tc], .int .u16 f, .int .u16 s] w fun e w' => e = .returned (.bool true) ∧ Below w.heap.size w w' := by
  have al := (Below.refl w.heap.size w).alloc (Nat.le_refl _) (.cells #[.int .i64 g.cr, .slice g.sa g.sn g.sc, .slice g.ta g.tn g.tc] 38)
  have I0 := Lib.hid (show IB w g none 0 (fun _ => 0) (w.alloc (.cells #[.int .i64 g.cr, .slice g.sa g.sn g.sc, .slice g.ta g.tn g.tc] 38)) from ⟨al, hst.grow al, heap_alloc_new _ _, hg.grow al, row_none _ _ _⟩)
  have hs1 := hg.s.small
  have hs2 := hg.t.small
  unfold maxLen at hs1 hs2
  clear al hst hg
  go_enter Tryz.func6, Tryz.ntmps6
  go_upto_region 1 with (fail)
  generalize World.alloc w _ = W0 at *
  have q1 := cellAt I0.out.bx 1
  have q2 := cellAt I0.out.bx 2
  simp only [List.getElem?_toArray, List.getElem?_cons_zero, List.getElem?_cons_succ] at q1 q2
  by_cases hm : (40 : Int) < max (g.sn : Int) (g.tn : Int)
  case pos =>
    go_wp2_with (go_at_call 13; refine (awake_any I0.out.st).mono ?_; rintro e w2 ⟨rfl, hb2⟩)
    go_ret
    exact ⟨rfl, I0.out.bel.next hb2⟩
  have hnm : ¬ (40 : Int) < max (g.sn : Int) (g.tn : Int) := hm
  clear hm
  go_upto_region 3 with (fail)
  clear q1 q2 hnm
  have C20 := Lib.hid (writeWages20_any g.cr g.sa g.ta g.sn g.sc g.tn g.tc g.S g.T W0 I0.out.a.s I0.out.a.t)
  have C31 := Lib.hid (fun W (I : IB w g none 0 (fun _ => 0) W) => wages31_any g.cr g.sa g.ta g.sn g.sc g.tn g.tc g.S g.T W I.a.s I.a.t)
  unfold WroteWages at C20
  have q0 := cellAt I0.out.bx 0
  have q1 := cellAt I0.out.bx 1
  have q2 := cellAt I0.out.bx 2
  simp only [List.getElem?_toArray, List.getElem?_cons_zero, List.getElem?_cons_succ] at q0 q1 q2
  cases hB : wagesB g.cr g.S g.sn g.T g.tn with
  | false =>
    rw [hB] at C20 C31
    simp only [Bool.false_eq_true, if_false] at C20
    go_upto_region 4 with (go_at_call 20; refine C20.out.mono ?_; rintro e w2 ⟨hb2, rfl⟩)
    have I2 := Lib.hid (I0.out.grow hb2)
    clear hb2 q0 q1 q2 C20 I0
    have q0 := cellAt I2.out.bx 0
    have q1 := cellAt I2.out.bx 1
    have q2 := cellAt I2.out.bx 2
    simp only [List.getElem?_toArray, List.getElem?_cons_zero, List.getElem?_cons_succ] at q0 q1 q2
    go_wp2_with (first | (go_at_call 31; refine (C31.out _ I2.out).mono ?_; rintro e w3 ⟨rfl, hb3⟩; have I3 := Lib.hid (I2.out.grow hb3); clear hb3) | (go_at_call 13; refine (awake_any I3.out.st).mono ?_; rintro e w4 ⟨rfl, hb4⟩))
    go_ret
    exact ⟨rfl, I3.out.bel.next hb4⟩
  | true =>
    have OK := Lib.hid (wages_ok hB)
    rw [hB] at C20
    simp only [if_true] at C20
    have hcr : ((wagesV g.cr g.S g.sn g.T g.tn).cr : Int) = g.cr := Int.toNat_of_nonneg (by have := OK.out.hcr; omega)
    have HV := Lib.hid (show wagesVB (wagesV g.cr g.S g.sn g.T g.tn) = true from valid_nat OK.out hB)
    have CS := Lib.hid (fun (y : WagesV) (hy : SmallW y) (p : Nat) sb tb sd td W (h : BW y p sb tb sd td W) (I : g.At W) => by
      have := sameWages27_any y (wagesV g.cr g.S g.sn g.T g.tn) sb tb g.sa g.ta sd td g.sc g.tc W h.s h.t (OK.out.rows I.s I.t).1 (OK.out.rows I.s I.t).2 hy OK.out.small
      rw [hcr] at this
      exact (show Calls Tryz.prog 27 #[.agg #[.int .i64 y.cr, .slice sb y.sn sd, .slice tb y.tn td], .agg #[.int .i64 g.cr, .slice g.sa g.sn g.sc, .slice g.ta g.tn g.tc]] W fun e w' => e = .returned (.bool (eqB (szB (bookN y)) (szB (bookN (wagesV g.cr g.S g.sn g.T g.tn))) (bookB y) (bookB (wagesV g.cr g.S g.sn g.T g.tn)))) ∧ Below W.heap.size W w' from this))
    have HN := Lib.hid (bookN_le OK.out.small)
    have HSZ := Lib.hid (book_short HV.out)
    have H8 := Lib.hid (book_lt (wagesV g.cr g.S g.sn g.T g.tn))
    have HSEAL := Lib.hid (fun k (_ : k < szB (bookN (wagesV g.cr g.S g.sn g.T g.tn))) => book_seal (wagesV g.cr g.S g.sn g.T g.tn) k)
    have HRD := Lib.hid (read_book HV.out)
    clear hB hcr HV C31
    generalize bookB (wagesV g.cr g.S g.sn g.T g.tn) = B at *
    generalize bookN (wagesV g.cr g.S g.sn g.T g.tn) = n at *
    have n0 := HN.out.1
    obtain ⟨L, hL⟩ : ∃ L, szB n = L := ⟨_, rfl⟩
    have l3 : 3 ≤ L := by unfold szB at hL; omega
    have l1000 : L ≤ 1000 := by have := HSZ.out; omega
    have CM := Lib.hid (fun oa c W (h : BytesAt W oa L B) (hc : L ≤ c) => (by subst hL; exact mend_whole h H8.out hc n0 l1000 HSEAL.out : Calls Tryz.prog 25 #[.slice oa L c] W fun e w' => e = .returned (.tuple #[.slice none 0 0, .int .i64 4]) ∧ Below W.heap.size W w'))
    have CO := Lib.hid (fun a (ha : a < 8 * L) oa c W (h : BytesAt W oa L (flipB B a)) (hc : L ≤ c) => (by subst hL; exact mend_one h H8.out hc n0 l1000 HSEAL.out ha : Calls Tryz.prog 25 #[.slice oa L c] W fun e w' => ∃ za zc, e = .returned (.tuple #[.slice za L zc, .int .i64 0]) ∧ BytesAt w' za L B ∧ Below W.heap.size W w'))
    have R1 := Lib.hid (fun a (ha : a < 8 * L) => (by subst hL; exact read_clash n0 l1000 (fun h => by have h1 := mend_flip H8.out HSEAL.out ha; have h2 := (seal_right (flip_lt H8.out a) n).1 h; unfold mendAt at h1; rw [if_pos h2] at h1; cases h1) : readW L (flipB B a) = (10, zeroW)))
    have R2 := Lib.hid (fun a c (ha : a < 8 * L) (hc : c < 8 * L) (hne : a ≠ c) => (by subst hL; exact read_clash n0 l1000 (fun h => hne (flip_two H8.out ha hc HSEAL.out h)) : readW L (flipB (flipB B a) c) = (10, zeroW)))
    have R3 := Lib.hid (fun a => (by obtain ⟨y, hy, -⟩ := HRD.out; rw [flip_twice]; subst hL; rw [hy] : (readW L (flipB (flipB B a) a)).1 = 0))
    rw [hL] at C20 CS
    clear hL HSEAL HRD HN HSZ OK
    have CR := Lib.hid (fun oa (M : Nat) c F W (h : BytesAt W oa M F) (h8 : ∀ i, F i < 256) (hc : M ≤ c) => readWages23_any oa M c F W h h8 hc)
    unfold ReadWPost at CR
    go_upto_region 4 with (go_at_call 20; refine C20.out.mono ?_; rintro e w2 ⟨hb2, oa, oc, rfl, ho, hge, hcap⟩)
    have I2 := Lib.hid (show IB w g oa L B w2 from ⟨(I0.out.grow hb2).bel, (I0.out.grow hb2).st, (I0.out.grow hb2).bx, (I0.out.grow hb2).a, ho⟩)
    clear hb2 ho hge q0 q1 q2 C20 I0
    go_upto_region 8 with (fail)
    have C25 := Lib.hid (CM.out oa oc w2 I2.out.l hcap)
    go_upto_region 9 with (go_at_call 25; refine C25.out.mono ?_; rintro e w3 ⟨rfl, hb3⟩)
    have I3 := Lib.hid (I2.out.grow hb3)
    clear hb3 I2 C25 CM
    obtain ⟨a, hae⟩ : ∃ a, f % (8 * L) = a := ⟨_, rfl⟩
    obtain ⟨c, hce⟩ : ∃ c, s % (8 * L) = c := ⟨_, rfl⟩
    have ha : a < 8 * L := by rw [← hae]; exact Nat.mod_lt _ (by omega)
    have hc : c < 8 * L := by rw [← hce]; exact Nat.mod_lt _ (by omega)
    have ma : ((f : Nat) : Int).tmod (8 * (L : Int)) = (a : Nat) := by rw [Int.tmod_eq_emod_of_nonneg (by omega), ← hae]; simp
    have mc : ((s : Nat) : Int).tmod (8 * (L : Int)) = (c : Nat) := by rw [Int.tmod_eq_emod_of_nonneg (by omega), ← hce]; simp
    have e1w : IntKind.i64.wrap (8 * (L : Int)) = 8 * (L : Int) := IntWalk.i64_in _ (by omega)
    have e2w : IntKind.i64.wrap ((f : Nat) : Int) = (f : Nat) := IntWalk.i64_in _ (by omega)
    have e3w : IntKind.i64.wrap ((s : Nat) : Int) = (s : Nat) := IntWalk.i64_in _ (by omega)
    have e4w : ¬ (8 * (L : Int) = 0) := by omega
    have e5w : IntKind.i64.wrap ((a : Nat) : Int) = (a : Nat) := IntWalk.i64_in _ (by omega)
    have e6w : IntKind.i64.wrap ((c : Nat) : Int) = (c : Nat) := IntWalk.i64_in _ (by omega)
    clear hae hce
    refine wp_region_stg (S := (fun _ => True)) (L := []) (D := []) (by kernel_rfl) (by kernel_rfl) trivial (fun e he => by cases he) (fun hC0 hH0 => ?_)
    have I4 := Lib.hid (I3.out.grow (Below.drew (Below.refl _ _)))
    clear I3
    generalize World.drew w3 = w4 at *
    refine wpAnyT_take (i := 0) (oi := { dst := some 64, op := Op.move (Operand.tmp 1), type := 59, pos := "outright.go:123", after := #[], guard := none }) (v := ?_) rfl (by kernel_rfl) (by kernel_rfl) (by kernel_rfl) (fun _ _ _ h => h) (by kernel_rfl) (by rfl) hC0 (Or.inl ⟨by rfl, ?_⟩) hH0 (fun hC1 hH1 => ?_)
    rotate_left
    · (intro w9 hSw; clear hSw; (go_split_ands; go_simp); (try with_reducible rfl))
    clear hC0 hH0
    try simp only [Act.put, List.setIfInBounds_toArray, List.set_cons_zero, List.set_cons_succ]
    refine wpAnyT_take (i := 1) (oi := { dst := some 65, op := Op.convert 59 3 (Operand.tmp 64), type := 3, pos := "outright.go:123", after := #[{ on := 0, ground := Ground.data }], guard := none }) (v := ?_) rfl (by kernel_rfl) (by kernel_rfl) (by kernel_rfl) (fun _ _ _ h => h) (by kernel_rfl) (by rfl) hC1 (Or.inl ⟨by rfl, ?_⟩) hH1 (fun hC2 hH2 => ?_)
    rotate_left
    · (intro w9 hSw; clear hSw; (go_split_ands; go_simp); (try with_reducible rfl))
    clear hC1 hH1
    try simp only [Act.put, List.setIfInBounds_toArray, List.set_cons_zero, List.set_cons_succ]
    refine wpAnyT_take (i := 2) (oi := { dst := some 66, op := Op.move (Operand.tmp 7), type := 46, pos := "outright.go:123", after := #[], guard := none }) (v := ?_) rfl (by kernel_rfl) (by kernel_rfl) (by kernel_rfl) (fun _ _ _ h => h) (by kernel_rfl) (by rfl) hC2 (Or.inl ⟨by rfl, ?_⟩) hH2 (fun hC3 hH3 => ?_)
    rotate_left
    · (intro w9 hSw; clear hSw; (go_split_ands; go_simp); (try with_reducible rfl))
    clear hC2 hH2
    try simp only [Act.put, List.setIfInBounds_toArray, List.set_cons_zero, List.set_cons_succ]
    refine wpAnyT_take (i := 3) (oi := { dst := some 67, op := Op.call { callee := Callee.builtin Builtin.len, args := #[Operand.tmp 66], argTypes := #[46] }, type := 3, pos := "outright.go:123", after := #[{ on := 2, ground := Ground.data }], guard := none }) (v := ?_) rfl (by kernel_rfl) (by kernel_rfl) (by kernel_rfl) (fun _ _ _ h => h) (by kernel_rfl) (by rfl) hC3 (Or.inl ⟨by rfl, ?_⟩) hH3 (fun hC4 hH4 => ?_)
    rotate_left
    · (intro w9 hSw; clear hSw; (go_split_ands; go_simp); (try with_reducible rfl))
    clear hC3 hH3
    try simp only [Act.put, List.setIfInBounds_toArray, List.set_cons_zero, List.set_cons_succ]
    refine wpAnyT_take (i := 4) (oi := { dst := some 68, op := Op.binOp BinOp.mul 3 (Operand.const (Value.int IntKind.i64 8)) (Operand.tmp 67) 3, type := 3, pos := "outright.go:123", after := #[{ on := 3, ground := Ground.data }], guard := none }) (v := ?_) rfl (by kernel_rfl) (by kernel_rfl) (by kernel_rfl) (fun _ _ _ h => h) (by kernel_rfl) (by rfl) hC4 (Or.inl ⟨by rfl, ?_⟩) hH4 (fun hC5 hH5 => ?_)
    rotate_left
    · (intro w9 hSw; clear hSw; (go_split_ands; go_simp); (try with_reducible rfl))
    clear hC4 hH4
    try simp only [Act.put, List.setIfInBounds_toArray, List.set_cons_zero, List.set_cons_succ]
    refine wpAnyT_take (i := 5) (oi := { dst := some 69, op := Op.binOp BinOp.rem 3 (Operand.tmp 65) (Operand.tmp 68) 3, type := 3, pos := "outright.go:123", after := #[{ on := 1, ground := Ground.data }, { on := 4, ground := Ground.data }], guard := none }) (v := ?_) rfl (by kernel_rfl) (by kernel_rfl) (by kernel_rfl) (fun _ _ _ h => h) (by kernel_rfl) (by rfl) hC5 (Or.inl ⟨by rfl, ?_⟩) hH5 (fun hC6 hH6 => ?_)
    rotate_left
    · (intro w9 hSw; clear hSw; (go_split_ands; go_simp); (try with_reducible rfl))
    clear hC5 hH5
    try simp only [Act.put, List.setIfInBounds_toArray, List.set_cons_zero, List.set_cons_succ]
    refine wpAnyT_take (i := 6) (oi := { dst := some 70, op := Op.move (Operand.tmp 2), type := 59, pos := "outright.go:123", after := #[{ on := 12, ground := Ground.gcOnly Departure.lateStores }], guard := none }) (v := ?_) rfl (by kernel_rfl) (by kernel_rfl) (by kernel_rfl) (fun _ _ _ h => h) (by kernel_rfl) (by rfl) hC6 (Or.inl ⟨by rfl, ?_⟩) hH6 (fun hC7 hH7 => ?_)
    rotate_left
    · (intro w9 hSw; clear hSw; (go_split_ands; go_simp); (try with_reducible rfl))
    clear hC6 hH6
    try simp only [Act.put, List.setIfInBounds_toArray, List.set_cons_zero, List.set_cons_succ]
    refine wpAnyT_take (i := 7) (oi := { dst := some 71, op := Op.convert 59 3 (Operand.tmp 70), type := 3, pos := "outright.go:123", after := #[{ on := 6, ground := Ground.data }, { on := 12, ground := Ground.gcOnly Departure.lateStores }], guard := none }) (v := ?_) rfl (by kernel_rfl) (by kernel_rfl) (by kernel_rfl) (fun _ _ _ h => h) (by kernel_rfl) (by rfl) hC7 (Or.inl ⟨by rfl, ?_⟩) hH7 (fun hC8 hH8 => ?_)
    rotate_left
    · (intro w9 hSw; clear hSw; (go_split_ands; go_simp); (try with_reducible rfl))
    clear hC7 hH7
    try simp only [Act.put, List.setIfInBounds_toArray, List.set_cons_zero, List.set_cons_succ]
    refine wpAnyT_take (i := 8) (oi := { dst := some 72, op := Op.move (Operand.tmp 7), type := 46, pos := "outright.go:123", after := #[], guard := none }) (v := ?_) rfl (by kernel_rfl) (by kernel_rfl) (by kernel_rfl) (fun _ _ _ h => h) (by kernel_rfl) (by rfl) hC8 (Or.inl ⟨by rfl, ?_⟩) hH8 (fun hC9 hH9 => ?_)
    rotate_left
    · (intro w9 hSw; clear hSw; (go_split_ands; go_simp); (try with_reducible rfl))
    clear hC8 hH8
    try simp only [Act.put, List.setIfInBounds_toArray, List.set_cons_zero, List.set_cons_succ]
    refine wpAnyT_take (i := 9) (oi := { dst := some 73, op := Op.call { callee := Callee.builtin Builtin.len, args := #[Operand.tmp 72], argTypes := #[46] }, type := 3, pos := "outright.go:123", after := #[{ on := 8, ground := Ground.data }], guard := none }) (v := ?_) rfl (by kernel_rfl) (by kernel_rfl) (by kernel_rfl) (fun _ _ _ h => h) (by kernel_rfl) (by rfl) hC9 (Or.inl ⟨by rfl, ?_⟩) hH9 (fun hC10 hH10 => ?_)
    rotate_left
    · (intro w9 hSw; clear hSw; (go_split_ands; go_simp); (try with_reducible rfl))
    clear hC9 hH9
    try simp only [Act.put, List.setIfInBounds_toArray, List.set_cons_zero, List.set_cons_succ]
    refine wpAnyT_take (i := 10) (oi := { dst := some 74, op := Op.binOp BinOp.mul 3 (Operand.const (Value.int IntKind.i64 8)) (Operand.tmp 73) 3, type := 3, pos := "outright.go:123", after := #[{ on := 9, ground := Ground.data }, { on := 12, ground := Ground.gcOnly Departure.lateStores }], guard := none }) (v := ?_) rfl (by kernel_rfl) (by kernel_rfl) (by kernel_rfl) (fun _ _ _ h => h) (by kernel_rfl) (by rfl) hC10 (Or.inl ⟨by rfl, ?_⟩) hH10 (fun hC11 hH11 => ?_)
    rotate_left
    · (intro w9 hSw; clear hSw; (go_split_ands; go_simp); (try with_reducible rfl))
    clear hC10 hH10
    try simp only [Act.put, List.setIfInBounds_toArray, List.set_cons_zero, List.set_cons_succ]
    refine wpAnyT_take (i := 11) (oi := { dst := some 75, op := Op.binOp BinOp.rem 3 (Operand.tmp 71) (Operand.tmp 74) 3, type := 3, pos := "outright.go:123", after := #[{ on := 7, ground := Ground.data }, { on := 10, ground := Ground.data }, { on := 12, ground := Ground.gcOnly Departure.lateStores }], guard := none }) (v := ?_) rfl (by kernel_rfl) (by kernel_rfl) (by kernel_rfl) (fun _ _ _ h => h) (by kernel_rfl) (by rfl) hC11 (Or.inl ⟨by rfl, ?_⟩) hH11 (fun hC12 hH12 => ?_)
    rotate_left
    · (intro w9 hSw; clear hSw; (go_split_ands; go_simp); (try with_reducible rfl))
    clear hC11 hH11
    try simp only [Act.put, List.setIfInBounds_toArray, List.set_cons_zero, List.set_cons_succ]
    refine wpAnyT_take (i := 12) (oi := { dst := some 11, op := Op.assign (Operand.tmp 69), type := 3, pos := "outright.go:123", after := #[{ on := 5, ground := Ground.data }, { on := 0, ground := Ground.phase }, { on := 1, ground := Ground.phase }, { on := 2, ground := Ground.phase }, { on := 3, ground := Ground.phase }, { on := 4, ground := Ground.phase }, { on := 5, ground := Ground.phase }, { on := 6, ground := Ground.textOnly Departure.lateStores }, { on := 7, ground := Ground.textOnly Departure.lateStores }, { on := 8, ground := Ground.textOnly Departure.lateStores }, { on := 9, ground := Ground.textOnly Departure.lateStoresUnsure }, { on := 10, ground := Ground.textOnly Departure.lateStores }, { on := 11, ground := Ground.textOnly Departure.lateStores }], guard := none }) (v := ?_) rfl (by kernel_rfl) (by kernel_rfl) (by kernel_rfl) (fun _ _ _ h => h) (by kernel_rfl) (by rfl) hC12 (Or.inl ⟨by rfl, ?_⟩) hH12 (fun hC13 hH13 => ?_)
    rotate_left
    · (intro w9 hSw; clear hSw; (go_split_ands; go_simp); (try with_reducible rfl))
    clear hC12 hH12
    try simp only [Act.put, List.setIfInBounds_toArray, List.set_cons_zero, List.set_cons_succ]
    refine wpAnyT_take (i := 13) (oi := { dst := some 12, op := Op.assign (Operand.tmp 75), type := 3, pos := "outright.go:123", after := #[{ on := 11, ground := Ground.data }, { on := 12, ground := Ground.chain }, { on := 0, ground := Ground.phase }, { on := 1, ground := Ground.phase }, { on := 2, ground := Ground.phase }, { on := 3, ground := Ground.phase }, { on := 4, ground := Ground.phase }, { on := 5, ground := Ground.phase }, { on := 6, ground := Ground.phase }, { on := 7, ground := Ground.phase }, { on := 8, ground := Ground.phase }, { on := 9, ground := Ground.phase }, { on := 10, ground := Ground.phase }, { on := 11, ground := Ground.phase }, { on := 12, ground := Ground.phase }], guard := none }) (v := ?_) rfl (by kernel_rfl) (by kernel_rfl) (by kernel_rfl) (fun _ _ _ h => h) (by kernel_rfl) (by rfl) hC13 (Or.inl ⟨by rfl, ?_⟩) hH13 (fun hC14 hH14 => ?_)
    rotate_left
    · (intro w9 hSw; clear hSw; (go_split_ands; go_simp); (try with_reducible rfl))
    clear hC13 hH13
    try simp only [Act.put, List.setIfInBounds_toArray, List.set_cons_zero, List.set_cons_succ]
    refine wpAnyT_done (by kernel_rfl) ?_ _
    clear hC14 hH14
    clear ma mc e1w e2w e3w e4w e5w e6w
    have HAc := Lib.hid ha
    have HCc := Lib.hid hc
    have C32 := Lib.hid (flip_any oa L oc a B w4 I4.out.l H8.out ha (by omega))
    go_upto_region 11 with (go_at_call 32; refine C32.out.mono ?_; rintro e w5 ⟨xa, xc, rfl, hx, -, hxc, hb5⟩)
    have I5 := Lib.hid (I4.out.grow hb5)
    have X5 := Lib.hid hx
    clear hx hb5 I4 C32
    have C33 := Lib.hid (flip_any xa L xc c (flipB B a) w5 X5.out (flip_lt H8.out a) hc (by omega))
    go_upto_region 12 with (go_at_call 32; refine C33.out.mono ?_; rintro e w6 ⟨ya, yc, rfl, hy, -, hyc, hb6⟩)
    have I6 := Lib.hid (I5.out.grow hb6)
    have X6 := Lib.hid (X5.out.grow hb6)
    have Y6 := Lib.hid hy
    clear hy hb6 I5 X5 C33
    have D1 := Lib.hid (CR.out xa L xc (flipB B a) w6 X6.out (flip_lt H8.out a) hxc)
    rw [R1.out a ha] at D1
    dsimp only at D1
    go_upto_region 13 with (go_at_call 23; refine D1.out.mono ?_; rintro e w7 ⟨hb7, sa, sc, ta, tc, rfl, hS, hT⟩)
    have hb8 := hb7.trans (((Below.refl w7.heap.size w7).alloc (Nat.le_refl _) (.cells #[.int .i64 (zeroW.cr : Nat), .slice sa zeroW.sn sc, .slice ta zeroW.tn tc] 38)).mono hb7.size)
    have I8 := Lib.hid (I6.out.grow hb8)
    have X8 := Lib.hid (X6.out.grow hb8)
    have Y8 := Lib.hid (Y6.out.grow hb8)
    clear hb7 hb8 hS hT I6 X6 Y6 D1 R1
    generalize World.alloc w7 _ = w8 at *
    have D2 := Lib.hid (CO.out a ha xa xc w8 X8.out hxc)
    go_upto_region 14 with (go_at_call 25; refine D2.out.mono ?_; rintro e w9 ⟨za, zc, rfl, hz, hb9⟩)
    have I9 := Lib.hid (I8.out.grow hb9)
    have Y9 := Lib.hid (Y8.out.grow hb9)
    have D3 := Lib.hid ((bytes_any za oa L zc L oc B B w9 hz I9.out.l (fun i _ => H8.out i) (fun i _ => H8.out i)).mono fun e w' hh => (show e = .returned (.bool true) ∧ w9 = w' from by rw [show eqB L L B B = true from eqB_iff.2 ⟨rfl, fun _ _ => rfl⟩] at hh; exact ⟨hh.1, hh.2.symm⟩))
    clear hz hb9 I8 X8 Y8 D2 CO
    go_upto_region 16 with (go_at_call 22; refine D3.out.mono ?_; rintro e w' ⟨rfl, rfl⟩)
    clear D3
    have D4 := Lib.hid (CR.out ya L yc (flipB (flipB B a) c) w9 Y9.out (flip_lt (flip_lt H8.out a) c) hyc)
    have HC2 := Lib.hid (show (a = c ∧ (readW L (flipB (flipB B a) c)).1 = 0) ∨ (a ≠ c ∧ (readW L (flipB (flipB B a) c)).1 = 10) from by
      by_cases h : a = c
      · subst h; exact .inl ⟨rfl, R3.out a⟩
      · exact .inr ⟨h, by rw [R2.out a c HAc.out HCc.out h]⟩)
    generalize (readW L (flipB (flipB B a) c)).2 = y at *
    generalize (readW L (flipB (flipB B a) c)).1 = c2 at *
    go_upto_region 17 with (go_at_call 23; refine D4.out.mono ?_; rintro e w10 ⟨hb10, sb, sd, tb, td, rfl, hS, hT⟩)
    have hb11 := hb10.trans (((Below.refl w10.heap.size w10).alloc (Nat.le_refl _) (.cells #[.int .i64 (y.cr : Nat), .slice sb y.sn sd, .slice tb y.tn td] 38)).mono hb10.size)
    have I11 := Lib.hid (I9.out.grow hb11)
    clear hb10 hb11 hS hT I9 Y9 D4 R2 R3 ha hc HAc HCc
    generalize World.alloc w10 _ = w11 at *
    go_cut [126] from 113 to 126 (fun v W => v = .bool false ∧ W = w11)
    case first =>
      rcases HC2.out with ⟨h, rfl⟩ | ⟨h, rfl⟩
      · have t : ((a : Int) == (c : Int)) = true := beq_iff_eq.2 (by rw [h])
        clear h HC2
        go_wp2_with fail
        all_goals (go_meet; exact ⟨rfl, rfl⟩)
      · have t : ((a : Int) == (c : Int)) = false := beq_eq_false_iff_ne.2 (by omega)
        clear h HC2
        go_wp2_with fail
        all_goals (go_meet; exact ⟨rfl, rfl⟩)
    case rest =>
      obtain ⟨rfl, rfl⟩ := hcut
      clear HC2
      go_upto_region 19 with (fail)
      obtain ⟨M, hM⟩ : ∃ M : Nat, L = M + 1 := ⟨L - 1, by omega⟩
      have hML : (L : Int) - 1 = (M : Nat) := by omega
      have eMw : IntKind.i64.wrap ((M : Nat) : Int) = (M : Nat) := IntWalk.i64_in _ (by omega)
      have HOP := Lib.hid (I11.out.l.plain (by omega))
      have s1 := fun W => run_head (n := L) (c := oc) (h := M) HOP.out (by omega) (by omega) W
      have s2 : ∀ W, (Instr.sliceAt 46 (.slice oa L oc) (some (.int .i64 1)) none none).run Tryz.prog W = .ok (.slice (some ⟨blk oa, ofs oa + 1, none⟩) (L - 1) (oc - 1)) W := fun W => run_tail (n := L) (c := oc) (l := 1) HOP.out (by omega) (by omega) W
      have HM := Lib.hid hM
      clear hM
      obtain ⟨z, hz⟩ : ∃ z : Nat, s % 256 = z := ⟨_, rfl⟩
      have z8 : z < 256 := by omega
      have hzw : IntKind.u8.wrap ((s : Nat) : Int) = (z : Nat) := by rw [← hz]; exact u8_wrap_nat s
      clear hz
      go_cut [141, 142, 143] from 127 to 143 (fun v m j W => ∃ (gp : Nat) (P : Nat → Option Addr) (Ln Cp : Nat → Nat) (F : Nat → Nat → Nat), v = .slice (some ⟨gp, 0, none⟩) 3 3 ∧ m = .int .i64 3 ∧ j = .int .i64 0 ∧ SlicesAt W (some ⟨gp, 0, none⟩) 3 P Ln Cp ∧ Three L P Ln Cp F W ∧ Below wc.heap.size wc W)
      case first =>
        refine wp_region_stg (S := (fun _ => True)) (L := []) (D := []) (by kernel_rfl) (by kernel_rfl) trivial (fun e he => by cases he) (fun hC0 hH0 => ?_)
        have B0 := Lib.hid (Below.drew (Below.refl wc.heap.size wc))
        generalize World.drew wc = v0 at *
        refine wpAnyT_take (i := 1) (oi := { dst := some 128, op := Op.move (Operand.tmp 7), type := 46, pos := "outright.go:134", after := #[], guard := none }) (v := ?_) rfl (by kernel_rfl) (by kernel_rfl) (by kernel_rfl) (fun _ _ _ h => h) (by kernel_rfl) (by rfl) hC0 (Or.inl ⟨by rfl, ?_⟩) hH0 (fun hC1 hH1 => ?_)
        rotate_left
        · (intro w9 hSw; clear hSw; (go_split_ands; go_simp); (try with_reducible rfl))
        clear hC0 hH0
        try simp only [Act.put, List.setIfInBounds_toArray, List.set_cons_zero, List.set_cons_succ]
        refine wpAnyT_take (i := 3) (oi := { dst := some 130, op := Op.move (Operand.tmp 2), type := 59, pos := "outright.go:134", after := #[], guard := none }) (v := ?_) rfl (by kernel_rfl) (by kernel_rfl) (by kernel_rfl) (fun _ _ _ h => h) (by kernel_rfl) (by rfl) hC1 (Or.inl ⟨by rfl, ?_⟩) hH1 (fun hC2 hH2 => ?_)
        rotate_left
        · (intro w9 hSw; clear hSw; (go_split_ands; go_simp); (try with_reducible rfl))
        clear hC1 hH1
        try simp only [Act.put, List.setIfInBounds_toArray, List.set_cons_zero, List.set_cons_succ]
        refine wpAnyT_take (i := 4) (oi := { dst := some 131, op := Op.convert 59 5 (Operand.tmp 130), type := 5, pos := "outright.go:134", after := #[{ on := 3, ground := Ground.data }], guard := none }) (v := ?_) rfl (by kernel_rfl) (by kernel_rfl) (by kernel_rfl) (fun _ _ _ h => h) (by kernel_rfl) (by rfl) hC2 (Or.inl ⟨by rfl, ?_⟩) hH2 (fun hC3 hH3 => ?_)
        rotate_left
        · (intro w9 hSw; clear hSw; (go_split_ands; go_simp); (try with_reducible rfl))
        clear hC2 hH2
        try simp only [Act.put, List.setIfInBounds_toArray, List.set_cons_zero, List.set_cons_succ]
        refine wpAnyT_take (i := 7) (oi := { dst := some 134, op := Op.move (Operand.tmp 7), type := 46, pos := "outright.go:134", after := #[], guard := none }) (v := ?_) rfl (by kernel_rfl) (by kernel_rfl) (by kernel_rfl) (fun _ _ _ h => h) (by kernel_rfl) (by rfl) hC3 (Or.inl ⟨by rfl, ?_⟩) hH3 (fun hC4 hH4 => ?_)
        rotate_left
        · (intro w9 hSw; clear hSw; (go_split_ands; go_simp); (try with_reducible rfl))
        clear hC3 hH3
        try simp only [Act.put, List.setIfInBounds_toArray, List.set_cons_zero, List.set_cons_succ]
        refine wpAnyT_take (i := 8) (oi := { dst := some 135, op := Op.move (Operand.tmp 7), type := 46, pos := "outright.go:134", after := #[], guard := none }) (v := ?_) rfl (by kernel_rfl) (by kernel_rfl) (by kernel_rfl) (fun _ _ _ h => h) (by kernel_rfl) (by rfl) hC4 (Or.inl ⟨by rfl, ?_⟩) hH4 (fun hC5 hH5 => ?_)
        rotate_left
        · (intro w9 hSw; clear hSw; (go_split_ands; go_simp); (try with_reducible rfl))
        clear hC4 hH4
        try simp only [Act.put, List.setIfInBounds_toArray, List.set_cons_zero, List.set_cons_succ]
        refine wpAnyT_take (i := 9) (oi := { dst := some 136, op := Op.call { callee := Callee.builtin Builtin.len, args := #[Operand.tmp 135], argTypes := #[46] }, type := 3, pos := "outright.go:134", after := #[{ on := 8, ground := Ground.data }], guard := none }) (v := ?_) rfl (by kernel_rfl) (by kernel_rfl) (by kernel_rfl) (fun _ _ _ h => h) (by kernel_rfl) (by rfl) hC5 (Or.inl ⟨by rfl, ?_⟩) hH5 (fun hC6 hH6 => ?_)
        rotate_left
        · (intro w9 hSw; clear hSw; (go_split_ands; go_simp); (try with_reducible rfl))
        clear hC5 hH5
        try simp only [Act.put, List.setIfInBounds_toArray, List.set_cons_zero, List.set_cons_succ]
        refine wpAnyT_take (i := 10) (oi := { dst := some 137, op := Op.binOp BinOp.sub 3 (Operand.tmp 136) (Operand.const (Value.int IntKind.i64 1)) 3, type := 3, pos := "outright.go:134", after := #[{ on := 9, ground := Ground.data }], guard := none }) (v := ?_) rfl (by kernel_rfl) (by kernel_rfl) (by kernel_rfl) (fun _ _ _ h => h) (by kernel_rfl) (by rfl) hC6 (Or.inl ⟨by rfl, ?_⟩) hH6 (fun hC7 hH7 => ?_)
        rotate_left
        · (intro w9 hSw; clear hSw; (go_split_ands; go_simp); (try with_reducible rfl))
        clear hC6 hH6
        try simp only [Act.put, List.setIfInBounds_toArray, List.set_cons_zero, List.set_cons_succ]
        refine wpAnyT_take (i := 11) (oi := { dst := some 138, op := Op.slice 46 (Operand.tmp 134) none (some (Operand.tmp 137)) none, type := 46, pos := "outright.go:134", after := #[{ on := 7, ground := Ground.data }, { on := 10, ground := Ground.data }], guard := none }) (v := ?_) rfl (by kernel_rfl) (by kernel_rfl) (by kernel_rfl) (fun _ _ _ h => h) (by kernel_rfl) (by rfl) hC7 (Or.inl ⟨by rfl, ?_⟩) hH7 (fun hC8 hH8 => ?_)
        rotate_left
        · (intro w9 hSw; clear hSw; (go_split_ands; go_simp); (try with_reducible rfl))
        clear hC7 hH7
        try simp only [Act.put, List.setIfInBounds_toArray, List.set_cons_zero, List.set_cons_succ]
        refine wpAnyT_take (i := 12) (oi := { dst := some 139, op := Op.move (Operand.tmp 7), type := 46, pos := "outright.go:134", after := #[], guard := none }) (v := ?_) rfl (by kernel_rfl) (by kernel_rfl) (by kernel_rfl) (fun _ _ _ h => h) (by kernel_rfl) (by rfl) hC8 (Or.inl ⟨by rfl, ?_⟩) hH8 (fun hC9 hH9 => ?_)
        rotate_left
        · (intro w9 hSw; clear hSw; (go_split_ands; go_simp); (try with_reducible rfl))
        clear hC8 hH8
        try simp only [Act.put, List.setIfInBounds_toArray, List.set_cons_zero, List.set_cons_succ]
        refine wpAnyT_take (i := 13) (oi := { dst := some 140, op := Op.slice 46 (Operand.tmp 139) (some (Operand.const (Value.int IntKind.i64 1))) none none, type := 46, pos := "outright.go:134", after := #[{ on := 12, ground := Ground.data }], guard := none }) (v := ?_) rfl (by kernel_rfl) (by kernel_rfl) (by kernel_rfl) (fun _ _ _ h => h) (by kernel_rfl) (by rfl) hC9 (Or.inl ⟨by rfl, ?_⟩) hH9 (fun hC10 hH10 => ?_)
        rotate_left
        · (intro w9 hSw; clear hSw; (go_split_ands; go_simp); (try with_reducible rfl))
        clear hC9 hH9
        try simp only [Act.put, List.setIfInBounds_toArray, List.set_cons_zero, List.set_cons_succ]
        refine wpAnyT_take (i := 16) (oi := { dst := some 143, op := Op.move (Operand.const (Value.int IntKind.i64 0)), type := 3, pos := "outright.go:134", after := #[], guard := none }) (v := ?_) rfl (by kernel_rfl) (by kernel_rfl) (by kernel_rfl) (fun _ _ _ h => h) (by kernel_rfl) (by rfl) hC10 (Or.inl ⟨by rfl, ?_⟩) hH10 (fun hC11 hH11 => ?_)
        rotate_left
        · (intro w9 hSw; clear hSw; (go_split_ands; go_simp); (try with_reducible rfl))
        clear hC10 hH10
        try simp only [Act.put, List.setIfInBounds_toArray, List.set_cons_zero, List.set_cons_succ]
        refine wpAnyT_two (i := 0) (j := 5) (o := { dst := some 127, op := Op.buildSlice 46 0 #[], type := 46, pos := "outright.go:134", after := #[], guard := none }) (o' := { dst := some 132, op := Op.buildSlice 46 1 #[(0, Operand.tmp 131)], type := 46, pos := "outright.go:134", after := #[{ on := 4, ground := Ground.data }], guard := none }) (by kernel_rfl) rfl rfl (by kernel_rfl) hC11 (fun K hK => ?_) (fun K hK => ?_)
        · clear hC11 hH11
          have hal := (Below.refl v0.heap.size v0).alloc (Nat.le_refl _) (.cells #[] 5)
          have B1 := Lib.hid (B0.out.next hal)
          have N1 := Lib.hid (show BoxAt (v0.alloc (.cells #[] 5)) v0.heap.size #[] 5 from heap_alloc_new _ _)
          have hz1 := B0.out.size
          go_simp
          go_wp2_with fail
          generalize World.alloc v0 _ = v1 at *
          clear hal B0
          generalize v0.heap.size = g1 at *
          refine hK.out _ _ ?_ (fun hC12 hH12 => ?_)
          · exact ⟨trivial, fun e he => by cases he⟩
          clear hK K
          try simp only [Act.put, List.setIfInBounds_toArray, List.set_cons_zero, List.set_cons_succ]
          refine wpAnyT_two (i := 2) (j := 5) (o := { dst := some 129, op := Op.call { callee := Callee.builtin Builtin.append, args := #[Operand.tmp 127, Operand.tmp 128], argTypes := #[46, 46] }, type := 46, pos := "outright.go:134", after := #[{ on := 0, ground := Ground.data }, { on := 1, ground := Ground.data }], guard := none }) (o' := { dst := some 132, op := Op.buildSlice 46 1 #[(0, Operand.tmp 131)], type := 46, pos := "outright.go:134", after := #[{ on := 4, ground := Ground.data }], guard := none }) (by kernel_rfl) rfl rfl (by kernel_rfl) hC12 (fun K hK => ?_) (fun K hK => ?_)
          · clear hC12 hH12
            obtain ⟨i0, z0, by0, hi0, hz0, hz1, hz2, hzs, hz8⟩ := elem5.info
            have hsz2 := B1.out.size
            have hr2 := (I11.out.grow B1.out).l
            refine step_app_own (w := v1) elem5.slice hi0 hz0 hz1 hz2 hzs (by decide) (by omega) (by rfl) (.tmp 127) (.tmp 128) (by rfl) (base := wc.heap.size) (g := g1) (by rfl) N1.out (by omega) (by omega) (oa := oa) (n := L) (c := oc) (by rfl) hr2 (fun _ _ => rfl) (by omega) ?_
            intro g2 c2 v2 hown hg hor hlt
            have B2 := Lib.hid (B1.out.grown hg hsz2 (fun k e => by cases e; omega))
            have X2 := Lib.hid hown
            clear hown hg hor hlt hi0 hz0 hz1 hz2 hzs hz8 B1 N1 hr2
            refine hK.out _ _ ?_ (fun hC13 hH13 => ?_)
            · exact ⟨trivial, fun e he => by cases he⟩
            clear hK K
            try simp only [Act.put, List.setIfInBounds_toArray, List.set_cons_zero, List.set_cons_succ]
            refine wpAnyT_one (i := 5) (o := { dst := some 132, op := Op.buildSlice 46 1 #[(0, Operand.tmp 131)], type := 46, pos := "outright.go:134", after := #[{ on := 4, ground := Ground.data }], guard := none }) (by kernel_rfl) rfl (by kernel_rfl) hC13 (fun K hK => ?_)
            clear hC13 hH13
            have hal := (Below.refl v2.heap.size v2).alloc (Nat.le_refl _) (.cells #[.int .u8 z] 5)
            have B3 := Lib.hid (B2.out.next hal)
            have N3 := Lib.hid (show BoxAt (v2.alloc (.cells #[.int .u8 z] 5)) v2.heap.size #[.int .u8 z] 5 from heap_alloc_new _ _)
            have hz3 := B2.out.size
            have X3 := Lib.hid (own_grow X2.out hal)
            have hn3 : g2 < v2.heap.size := (X2.out.lt g2 rfl).2
            go_simp
            go_wp2_with fail
            generalize World.alloc v2 _ = v3 at *
            clear hal B2 X2
            generalize v2.heap.size = g3 at *
            refine hK.out _ _ ?_ (fun hC14 hH14 => ?_)
            · exact ⟨trivial, fun e he => by cases he⟩
            clear hK K
            try simp only [Act.put, List.setIfInBounds_toArray, List.set_cons_zero, List.set_cons_succ]
            refine wpAnyT_one (i := 6) (o := { dst := some 133, op := Op.call { callee := Callee.builtin Builtin.append, args := #[Operand.tmp 129, Operand.tmp 132], argTypes := #[46, 46] }, type := 46, pos := "outright.go:134", after := #[{ on := 2, ground := Ground.data }, { on := 5, ground := Ground.data }, { on := 2, ground := Ground.chain }], guard := none }) (by kernel_rfl) rfl (by kernel_rfl) hC14 (fun K hK => ?_)
            clear hC14 hH14
            have hsz4 := B3.out.size
            refine step_appOne (w := v3) elem5 (by rfl) (.tmp 129) (.tmp 132) (by rfl) (v := .slice (some ⟨g2, 0, none⟩) L c2) (xs := rowVals (fun i _ => .int .u8 (B i : Nat)) 1 L) (base := wc.heap.size) (n := L) (by rfl) X3.out (b := g3) (u := .int .u8 z) (by rfl) N3.out (by rfl) (by omega) hsz4 ?_
            intro g4 c4 v4 hown hg hor
            have B4 := Lib.hid (B3.out.grown hg hsz4 (fun k e => (X3.out.lt k e).1))
            have X4 := Lib.hid (show v4.ownsRow wc.heap.size 5 1 (.slice (some ⟨g4, 0, none⟩) (L + 1) c4) (L + 1) _ from hown)
            clear hown hg hor B3 X3 N3
            refine hK.out _ _ ?_ (fun hC15 hH15 => ?_)
            · exact ⟨trivial, fun e he => by cases he⟩
            clear hK K
            try simp only [Act.put, List.setIfInBounds_toArray, List.set_cons_zero, List.set_cons_succ]
            refine wpAnyT_one (i := 14) (o := { dst := some 141, op := Op.buildSlice 62 3 #[(0, Operand.tmp 133), (1, Operand.tmp 138), (2, Operand.tmp 140)], type := 62, pos := "outright.go:134", after := #[{ on := 6, ground := Ground.data }, { on := 11, ground := Ground.data }, { on := 13, ground := Ground.data }], guard := none }) (by kernel_rfl) rfl (by kernel_rfl) hC15 (fun K hK => ?_)
            clear hC15 hH15
            have hal := (Below.refl v4.heap.size v4).alloc (Nat.le_refl _) (.cells #[.slice (some ⟨g4, 0, none⟩) (L + 1) c4, .slice oa M oc, .slice (some ⟨blk oa, ofs oa + 1, none⟩) (L - 1) (oc - 1)] 46)
            have B5 := Lib.hid (B4.out.next hal)
            have N5 := Lib.hid (show BoxAt (v4.alloc (.cells #[.slice (some ⟨g4, 0, none⟩) (L + 1) c4, .slice oa M oc, .slice (some ⟨blk oa, ofs oa + 1, none⟩) (L - 1) (oc - 1)] 46)) v4.heap.size #[.slice (some ⟨g4, 0, none⟩) (L + 1) c4, .slice oa M oc, .slice (some ⟨blk oa, ofs oa + 1, none⟩) (L - 1) (oc - 1)] 46 from heap_alloc_new _ _)
            have hz5 := B4.out.size
            have X5 := Lib.hid (own_grow X4.out hal)
            go_simp
            go_wp2_with fail
            generalize World.alloc v4 _ = v5 at *
            clear hal B4 X4
            generalize v4.heap.size = g5 at *
            refine hK.out _ _ ?_ (fun hC16 hH16 => ?_)
            · exact ⟨trivial, fun e he => by cases he⟩
            clear hK K
            try simp only [Act.put, List.setIfInBounds_toArray, List.set_cons_zero, List.set_cons_succ]
            refine wpAnyT_take (i := 15) (oi := { dst := some 142, op := Op.call { callee := Callee.builtin Builtin.len, args := #[Operand.tmp 141], argTypes := #[62] }, type := 3, pos := "outright.go:134", after := #[{ on := 14, ground := Ground.data }], guard := none }) (v := ?_) rfl (by kernel_rfl) (by kernel_rfl) (by kernel_rfl) (fun _ _ _ h => h) (by kernel_rfl) (by rfl) hC16 (Or.inl ⟨by rfl, ?_⟩) hH16 (fun hC17 hH17 => ?_)
            rotate_left
            · (intro w9 hSw; clear hSw; (go_split_ands; go_simp); (try with_reducible rfl))
            clear hC16 hH16
            try simp only [Act.put, List.setIfInBounds_toArray, List.set_cons_zero, List.set_cons_succ]
            refine wpAnyT_done (by kernel_rfl) ?_ _
            clear hC17 hH17
            go_wp2_with fail
            go_meet
            exact three_files (I11.out.grow B5.out).l H8.out z8 HOP.out hcap HM.out l1000 X5.out N5.out B5.out
          · clear hC12 hH12
            have hal := (Below.refl v1.heap.size v1).alloc (Nat.le_refl _) (.cells #[.int .u8 z] 5)
            have B6 := Lib.hid (B1.out.next hal)
            have N6 := Lib.hid (show BoxAt (v1.alloc (.cells #[.int .u8 z] 5)) v1.heap.size #[.int .u8 z] 5 from heap_alloc_new _ _)
            have hz6 := B1.out.size
            have X6 := Lib.hid (BoxAt.grow N1.out hal)
            have hn6 : g1 < v1.heap.size := lt_of_heap N1.out
            go_simp
            go_wp2_with fail
            generalize World.alloc v1 _ = v6 at *
            clear hal B1 N1
            generalize v1.heap.size = g6 at *
            refine hK.out _ _ ?_ (fun hC13 hH13 => ?_)
            · exact ⟨trivial, fun e he => by cases he⟩
            clear hK K
            try simp only [Act.put, List.setIfInBounds_toArray, List.set_cons_zero, List.set_cons_succ]
            refine wpAnyT_one (i := 2) (o := { dst := some 129, op := Op.call { callee := Callee.builtin Builtin.append, args := #[Operand.tmp 127, Operand.tmp 128], argTypes := #[46, 46] }, type := 46, pos := "outright.go:134", after := #[{ on := 0, ground := Ground.data }, { on := 1, ground := Ground.data }], guard := none }) (by kernel_rfl) rfl (by kernel_rfl) hC13 (fun K hK => ?_)
            clear hC13 hH13
            obtain ⟨i0, z0, by0, hi0, hz0, hz1, hz2, hzs, hz8⟩ := elem5.info
            have hsz7 := B6.out.size
            have hr7 := (I11.out.grow B6.out).l
            refine step_app_own (w := v6) elem5.slice hi0 hz0 hz1 hz2 hzs (by decide) (by omega) (by rfl) (.tmp 127) (.tmp 128) (by rfl) (base := wc.heap.size) (g := g1) (by rfl) X6.out (by omega) (by omega) (oa := oa) (n := L) (c := oc) (by rfl) hr7 (fun _ _ => rfl) (by omega) ?_
            intro g7 c7 v7 hown hg hor hlt
            have B7 := Lib.hid (B6.out.grown hg hsz7 (fun k e => by cases e; omega))
            have X7 := Lib.hid hown
            have hly := lt_of_heap N6.out
            have hn7 : g7 ≠ g6 := by rcases hor with h | h <;> omega
            have Y7 := Lib.hid (BoxAt.kept N6.out hg (fun e => by cases e; omega))
            clear hly
            clear hown hg hor hlt hi0 hz0 hz1 hz2 hzs hz8 B6 X6 hr7 N6
            refine hK.out _ _ ?_ (fun hC14 hH14 => ?_)
            · exact ⟨trivial, fun e he => by cases he⟩
            clear hK K
            try simp only [Act.put, List.setIfInBounds_toArray, List.set_cons_zero, List.set_cons_succ]
            refine wpAnyT_one (i := 6) (o := { dst := some 133, op := Op.call { callee := Callee.builtin Builtin.append, args := #[Operand.tmp 129, Operand.tmp 132], argTypes := #[46, 46] }, type := 46, pos := "outright.go:134", after := #[{ on := 2, ground := Ground.data }, { on := 5, ground := Ground.data }, { on := 2, ground := Ground.chain }], guard := none }) (by kernel_rfl) rfl (by kernel_rfl) hC14 (fun K hK => ?_)
            clear hC14 hH14
            have hsz8 := B7.out.size
            refine step_appOne (w := v7) elem5 (by rfl) (.tmp 129) (.tmp 132) (by rfl) (v := .slice (some ⟨g7, 0, none⟩) L c7) (xs := rowVals (fun i _ => .int .u8 (B i : Nat)) 1 L) (base := wc.heap.size) (n := L) (by rfl) X7.out (b := g6) (u := .int .u8 z) (by rfl) Y7.out (by rfl) (by omega) hsz8 ?_
            intro g8 c8 v8 hown hg hor
            have B8 := Lib.hid (B7.out.grown hg hsz8 (fun k e => (X7.out.lt k e).1))
            have X8 := Lib.hid (show v8.ownsRow wc.heap.size 5 1 (.slice (some ⟨g8, 0, none⟩) (L + 1) c8) (L + 1) _ from hown)
            clear hown hg hor B7 X7 Y7
            refine hK.out _ _ ?_ (fun hC15 hH15 => ?_)
            · exact ⟨trivial, fun e he => by cases he⟩
            clear hK K
            try simp only [Act.put, List.setIfInBounds_toArray, List.set_cons_zero, List.set_cons_succ]
            refine wpAnyT_one (i := 14) (o := { dst := some 141, op := Op.buildSlice 62 3 #[(0, Operand.tmp 133), (1, Operand.tmp 138), (2, Operand.tmp 140)], type := 62, pos := "outright.go:134", after := #[{ on := 6, ground := Ground.data }, { on := 11, ground := Ground.data }, { on := 13, ground := Ground.data }], guard := none }) (by kernel_rfl) rfl (by kernel_rfl) hC15 (fun K hK => ?_)
            clear hC15 hH15
            have hal := (Below.refl v8.heap.size v8).alloc (Nat.le_refl _) (.cells #[.slice (some ⟨g8, 0, none⟩) (L + 1) c8, .slice oa M oc, .slice (some ⟨blk oa, ofs oa + 1, none⟩) (L - 1) (oc - 1)] 46)
            have B9 := Lib.hid (B8.out.next hal)
            have N9 := Lib.hid (show BoxAt (v8.alloc (.cells #[.slice (some ⟨g8, 0, none⟩) (L + 1) c8, .slice oa M oc, .slice (some ⟨blk oa, ofs oa + 1, none⟩) (L - 1) (oc - 1)] 46)) v8.heap.size #[.slice (some ⟨g8, 0, none⟩) (L + 1) c8, .slice oa M oc, .slice (some ⟨blk oa, ofs oa + 1, none⟩) (L - 1) (oc - 1)] 46 from heap_alloc_new _ _)
            have hz9 := B8.out.size
            have X9 := Lib.hid (own_grow X8.out hal)
            go_simp
            go_wp2_with fail
            generalize World.alloc v8 _ = v9 at *
            clear hal B8 X8
            generalize v8.heap.size = g9 at *
            refine hK.out _ _ ?_ (fun hC16 hH16 => ?_)
            · exact ⟨trivial, fun e he => by cases he⟩
            clear hK K
            try simp only [Act.put, List.setIfInBounds_toArray, List.set_cons_zero, List.set_cons_succ]
            refine wpAnyT_take (i := 15) (oi := { dst := some 142, op := Op.call { callee := Callee.builtin Builtin.len, args := #[Operand.tmp 141], argTypes := #[62] }, type := 3, pos := "outright.go:134", after := #[{ on := 14, ground := Ground.data }], guard := none }) (v := ?_) rfl (by kernel_rfl) (by kernel_rfl) (by kernel_rfl) (fun _ _ _ h => h) (by kernel_rfl) (by rfl) hC16 (Or.inl ⟨by rfl, ?_⟩) hH16 (fun hC17 hH17 => ?_)
            rotate_left
            · (intro w9 hSw; clear hSw; (go_split_ands; go_simp); (try with_reducible rfl))
            clear hC16 hH16
            try simp only [Act.put, List.setIfInBounds_toArray, List.set_cons_zero, List.set_cons_succ]
            refine wpAnyT_done (by kernel_rfl) ?_ _
            clear hC17 hH17
            go_wp2_with fail
            go_meet
            exact three_files (I11.out.grow B9.out).l H8.out z8 HOP.out hcap HM.out l1000 X9.out N9.out B9.out
        · clear hC11 hH11
          have hal := (Below.refl v0.heap.size v0).alloc (Nat.le_refl _) (.cells #[.int .u8 z] 5)
          have B10 := Lib.hid (B0.out.next hal)
          have N10 := Lib.hid (show BoxAt (v0.alloc (.cells #[.int .u8 z] 5)) v0.heap.size #[.int .u8 z] 5 from heap_alloc_new _ _)
          have hz10 := B0.out.size
          go_simp
          go_wp2_with fail
          generalize World.alloc v0 _ = v10 at *
          clear hal B0
          generalize v0.heap.size = g10 at *
          refine hK.out _ _ ?_ (fun hC12 hH12 => ?_)
          · exact ⟨trivial, fun e he => by cases he⟩
          clear hK K
          try simp only [Act.put, List.setIfInBounds_toArray, List.set_cons_zero, List.set_cons_succ]
          refine wpAnyT_one (i := 0) (o := { dst := some 127, op := Op.buildSlice 46 0 #[], type := 46, pos := "outright.go:134", after := #[], guard := none }) (by kernel_rfl) rfl (by kernel_rfl) hC12 (fun K hK => ?_)
          clear hC12 hH12
          have hal := (Below.refl v10.heap.size v10).alloc (Nat.le_refl _) (.cells #[] 5)
          have B11 := Lib.hid (B10.out.next hal)
          have N11 := Lib.hid (show BoxAt (v10.alloc (.cells #[] 5)) v10.heap.size #[] 5 from heap_alloc_new _ _)
          have hz11 := B10.out.size
          have Y11 := Lib.hid (BoxAt.grow N10.out hal)
          have hn11 : g10 < v10.heap.size := lt_of_heap N10.out
          go_simp
          go_wp2_with fail
          generalize World.alloc v10 _ = v11 at *
          clear hal B10 N10
          generalize v10.heap.size = g11 at *
          refine hK.out _ _ ?_ (fun hC13 hH13 => ?_)
          · exact ⟨trivial, fun e he => by cases he⟩
          clear hK K
          try simp only [Act.put, List.setIfInBounds_toArray, List.set_cons_zero, List.set_cons_succ]
          refine wpAnyT_one (i := 2) (o := { dst := some 129, op := Op.call { callee := Callee.builtin Builtin.append, args := #[Operand.tmp 127, Operand.tmp 128], argTypes := #[46, 46] }, type := 46, pos := "outright.go:134", after := #[{ on := 0, ground := Ground.data }, { on := 1, ground := Ground.data }], guard := none }) (by kernel_rfl) rfl (by kernel_rfl) hC13 (fun K hK => ?_)
          clear hC13 hH13
          obtain ⟨i0, z0, by0, hi0, hz0, hz1, hz2, hzs, hz8⟩ := elem5.info
          have hsz12 := B11.out.size
          have hr12 := (I11.out.grow B11.out).l
          refine step_app_own (w := v11) elem5.slice hi0 hz0 hz1 hz2 hzs (by decide) (by omega) (by rfl) (.tmp 127) (.tmp 128) (by rfl) (base := wc.heap.size) (g := g11) (by rfl) N11.out (by omega) (by omega) (oa := oa) (n := L) (c := oc) (by rfl) hr12 (fun _ _ => rfl) (by omega) ?_
          intro g12 c12 v12 hown hg hor hlt
          have B12 := Lib.hid (B11.out.grown hg hsz12 (fun k e => by cases e; omega))
          have X12 := Lib.hid hown
          have hly := lt_of_heap Y11.out
          have hn12 : g12 ≠ g10 := by rcases hor with h | h <;> omega
          have Y12 := Lib.hid (BoxAt.kept Y11.out hg (fun e => by cases e; omega))
          clear hly
          clear hown hg hor hlt hi0 hz0 hz1 hz2 hzs hz8 B11 N11 hr12 Y11
          refine hK.out _ _ ?_ (fun hC14 hH14 => ?_)
          · exact ⟨trivial, fun e he => by cases he⟩
          clear hK K
          try simp only [Act.put, List.setIfInBounds_toArray, List.set_cons_zero, List.set_cons_succ]
          refine wpAnyT_one (i := 6) (o := { dst := some 133, op := Op.call { callee := Callee.builtin Builtin.append, args := #[Operand.tmp 129, Operand.tmp 132], argTypes := #[46, 46] }, type := 46, pos := "outright.go:134", after := #[{ on := 2, ground := Ground.data }, { on := 5, ground := Ground.data }, { on := 2, ground := Ground.chain }], guard := none }) (by kernel_rfl) rfl (by kernel_rfl) hC14 (fun K hK => ?_)
          clear hC14 hH14
          have hsz13 := B12.out.size
          refine step_appOne (w := v12) elem5 (by rfl) (.tmp 129) (.tmp 132) (by rfl) (v := .slice (some ⟨g12, 0, none⟩) L c12) (xs := rowVals (fun i _ => .int .u8 (B i : Nat)) 1 L) (base := wc.heap.size) (n := L) (by rfl) X12.out (b := g10) (u := .int .u8 z) (by rfl) Y12.out (by rfl) (by omega) hsz13 ?_
          intro g13 c13 v13 hown hg hor
          have B13 := Lib.hid (B12.out.grown hg hsz13 (fun k e => (X12.out.lt k e).1))
          have X13 := Lib.hid (show v13.ownsRow wc.heap.size 5 1 (.slice (some ⟨g13, 0, none⟩) (L + 1) c13) (L + 1) _ from hown)
          clear hown hg hor B12 X12 Y12
          refine hK.out _ _ ?_ (fun hC15 hH15 => ?_)
          · exact ⟨trivial, fun e he => by cases he⟩
          clear hK K
          try simp only [Act.put, List.setIfInBounds_toArray, List.set_cons_zero, List.set_cons_succ]
          refine wpAnyT_one (i := 14) (o := { dst := some 141, op := Op.buildSlice 62 3 #[(0, Operand.tmp 133), (1, Operand.tmp 138), (2, Operand.tmp 140)], type := 62, pos := "outright.go:134", after := #[{ on := 6, ground := Ground.data }, { on := 11, ground := Ground.data }, { on := 13, ground := Ground.data }], guard := none }) (by kernel_rfl) rfl (by kernel_rfl) hC15 (fun K hK => ?_)
          clear hC15 hH15
          have hal := (Below.refl v13.heap.size v13).alloc (Nat.le_refl _) (.cells #[.slice (some ⟨g13, 0, none⟩) (L + 1) c13, .slice oa M oc, .slice (some ⟨blk oa, ofs oa + 1, none⟩) (L - 1) (oc - 1)] 46)
          have B14 := Lib.hid (B13.out.next hal)
          have N14 := Lib.hid (show BoxAt (v13.alloc (.cells #[.slice (some ⟨g13, 0, none⟩) (L + 1) c13, .slice oa M oc, .slice (some ⟨blk oa, ofs oa + 1, none⟩) (L - 1) (oc - 1)] 46)) v13.heap.size #[.slice (some ⟨g13, 0, none⟩) (L + 1) c13, .slice oa M oc, .slice (some ⟨blk oa, ofs oa + 1, none⟩) (L - 1) (oc - 1)] 46 from heap_alloc_new _ _)
          have hz14 := B13.out.size
          have X14 := Lib.hid (own_grow X13.out hal)
          go_simp
          go_wp2_with fail
          generalize World.alloc v13 _ = v14 at *
          clear hal B13 X13
          generalize v13.heap.size = g14 at *
          refine hK.out _ _ ?_ (fun hC16 hH16 => ?_)
          · exact ⟨trivial, fun e he => by cases he⟩
          clear hK K
          try simp only [Act.put, List.setIfInBounds_toArray, List.set_cons_zero, List.set_cons_succ]
          refine wpAnyT_take (i := 15) (oi := { dst := some 142, op := Op.call { callee := Callee.builtin Builtin.len, args := #[Operand.tmp 141], argTypes := #[62] }, type := 3, pos := "outright.go:134", after := #[{ on := 14, ground := Ground.data }], guard := none }) (v := ?_) rfl (by kernel_rfl) (by kernel_rfl) (by kernel_rfl) (fun _ _ _ h => h) (by kernel_rfl) (by rfl) hC16 (Or.inl ⟨by rfl, ?_⟩) hH16 (fun hC17 hH17 => ?_)
          rotate_left
          · (intro w9 hSw; clear hSw; (go_split_ands; go_simp); (try with_reducible rfl))
          clear hC16 hH16
          try simp only [Act.put, List.setIfInBounds_toArray, List.set_cons_zero, List.set_cons_succ]
          refine wpAnyT_done (by kernel_rfl) ?_ _
          clear hC17 hH17
          go_wp2_with fail
          go_meet
          exact three_files (I11.out.grow B14.out).l H8.out z8 HOP.out hcap HM.out l1000 X14.out N14.out B14.out
      case rest =>
        obtain ⟨gp, P, Ln, Cp, F, rfl, rfl, rfl, hSl, h3, hb12⟩ := hcut
        have I12 := Lib.hid (I11.out.grow hb12)
        have SL := Lib.hid hSl
        have TH := Lib.hid h3
        clear hSl h3 hb12 I11 HOP HM s1 s2 hML eMw hzw
        go_wp2_with fail
        go_loopw [143] (fun j W => ∃ k : Nat, k ≤ 3 ∧ j = .int .i64 k ∧ IB w g oa L B W ∧ SlicesAt W (some ⟨gp, 0, none⟩) 3 P Ln Cp ∧ Three L P Ln Cp F W) (fun j _ => 3 - (intOf j).toNat)
        case atStart => exact ⟨0, by omega, rfl, I12.out, SL.out, TH.out⟩
        case round =>
          clear I12 SL TH
          obtain ⟨k, hk, rfl, hI, hSl, h3⟩ := hrel
          have I13 := Lib.hid hI
          have SL := Lib.hid hSl
          have TH := Lib.hid h3
          clear hI hSl h3
          by_cases hlt : k < 3
          · have hi := fun W => run_indexAt_row (w := W) (cap := 3) slice62 size46r (SL.out.plain (by omega)) hlt
            have cc := SL.out.cells k hlt 0 (by omega)
            simp only [blk, ofs, Nat.zero_add, Nat.add_zero, Nat.mul_one] at hi cc
            obtain ⟨hBk, h8k, hck, hnk⟩ := TH.out k hlt
            have D5 := Lib.hid (CR.out (P k) (Ln k) (Cp k) (F k) wr hBk h8k hck)
            have RS := Lib.hid (readW_small (Ln k) (F k))
            have HNK := Lib.hid hnk
            generalize (readW (Ln k) (F k)).2 = y2 at *
            generalize (readW (Ln k) (F k)).1 = c3 at *
            clear hBk h8k hck hnk
            go_upto_region 23 with (go_at_call 23; refine D5.out.mono ?_; rintro e w14 ⟨hb14, sb, sd, tb, td, rfl, hS, hT⟩)
            have al := (Below.refl w14.heap.size w14).alloc (Nat.le_refl _) (.cells #[.int .i64 (y2.cr : Nat), .slice sb y2.sn sd, .slice tb y2.tn td] 38)
            have hb15 := hb14.trans (al.mono hb14.size)
            have I15 := Lib.hid (I13.out.grow hb15)
            have SL15 := Lib.hid (show SlicesAt _ _ _ _ _ _ from Row.grow SL.out hb15)
            have TH15 := Lib.hid (TH.out.grow hb15)
            have Y15 := Lib.hid (BW.new (sc := sd) (tc := td) hS hT)
            clear hb14 hb15 hS hT al I13 SL TH D5 hi cc
            generalize World.alloc w14 _ = w15 at *
            generalize w14.heap.size = p at *
            by_cases hc3 : c3 = 0
            · subst hc3
              have hE := RS.out.2 rfl
              have D6 := Lib.hid (CS.out y2 RS.out.1 p sb tb sd td w15 Y15.out I15.out.a)
              rw [show eqB (szB (bookN y2)) L (bookB y2) B = false from by rw [← Bool.not_eq_true]; intro e; exact HNK.out (hE.symm.trans (eqB_iff.1 e).1)] at D6
              clear hE
              obtain ⟨p0, p1, p2⟩ := Y15.out.cells
              have q0 := cellAt I15.out.bx 0
              have q1 := cellAt I15.out.bx 1
              have q2 := cellAt I15.out.bx 2
              simp only [List.getElem?_toArray, List.getElem?_cons_zero, List.getElem?_cons_succ] at q0 q1 q2
              go_wp2_with (go_at_call 27; refine D6.out.mono ?_; rintro e w16 ⟨rfl, hb16⟩)
              exact ⟨⟨k + 1, hlt, by go_num, I15.out.grow hb16, Row.grow SL15.out hb16, TH15.out.grow hb16⟩, by simp [intOf]; omega⟩
            · have t : (c3 == 0) = false := beq_eq_false_iff_ne.2 hc3
              clear hc3
              go_wp2_with fail
              exact ⟨⟨k + 1, hlt, by go_num, I15.out, SL15.out, TH15.out⟩, by simp [intOf]; omega⟩
          · obtain rfl : k = 3 := by omega
            go_wp2_with (go_at_call 13; refine (awake_any I13.out.st).mono ?_; rintro e w14 ⟨rfl, hb14⟩)
            go_ret
            exact ⟨rfl, I13.out.bel.next hb14⟩
end Go.Proofs.YtclbmlmlhiiaeaaGreatDoor
