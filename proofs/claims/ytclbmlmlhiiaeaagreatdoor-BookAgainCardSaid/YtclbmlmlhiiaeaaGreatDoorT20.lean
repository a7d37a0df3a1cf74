/-
  Walks: BookAgain.
-/
import Derived.Test.YtclbmlmlhiiaeaaGreatDoorS0
import Derived.Test.YtclbmlmlhiiaeaaGreatDoorY5
import Derived.Lib.MinMax
namespace Go.Proofs.YtclbmlmlhiiaeaaGreatDoor
open Go.RowKit

theorem wagesV_cast (x : WagesV) : wagesV x.cr (castW x.S) x.sn (castW x.T) x.tn = x := by
  obtain ⟨cr, sn, S, tn, T⟩ := x
  simp [wagesV, castW]
/-- Wages that were read, in a box, with their rows. -/
structure BW (x : WagesV) (p : Nat) (sa ta : Option Addr) (sc tc : Nat) (W : World) : Prop where
  box : BoxAt W p #[.int .i64 x.cr, .slice sa x.sn sc, .slice ta x.tn tc] 38
  s : NumsAt W sa x.sn 2 (castW x.S)
  t : NumsAt W ta x.tn 8 (castW x.T)
theorem BW.grow {x : WagesV} {p : Nat} {sa ta : Option Addr} {sc tc : Nat} {W W' : World} (h : BW x p sa ta sc tc W) (hb : Below W.heap.size W W') : BW x p sa ta sc tc W' := ⟨h.box.grow hb, h.s.grow hb, h.t.grow hb⟩
theorem BW.cells {x : WagesV} {p : Nat} {sa ta : Option Addr} {sc tc : Nat} {W : World} (h : BW x p sa ta sc tc W) : W.cell? ⟨p, 0, none⟩ = some (.int .i64 x.cr) ∧ W.cell? ⟨p, 1, none⟩ = some (.slice sa x.sn sc) ∧ W.cell? ⟨p, 2, none⟩ = some (.slice ta x.tn tc) :=
  ⟨cellAt h.box 0, cellAt h.box 1, cellAt h.box 2⟩
theorem BW.new {x : WagesV} {sa ta : Option Addr} {sc tc : Nat} {W : World} (hS : NumsAt W sa x.sn 2 (castW x.S)) (hT : NumsAt W ta x.tn 8 (castW x.T)) : BW x W.heap.size sa ta sc tc (W.alloc (.cells #[.int .i64 x.cr, .slice sa x.sn sc, .slice ta x.tn tc] 38)) :=
  have al := (Below.refl W.heap.size W).alloc (Nat.le_refl _) (.cells #[.int .i64 x.cr, .slice sa x.sn sc, .slice ta x.tn tc] 38)
  ⟨heap_alloc_new _ _, hS.grow al, hT.grow al⟩
/-- The error of a text that is none. -/
def wantE (t : List UInt8) : Int := if 1000 < t.length then 3 else 8
theorem wantE_ne (t : List UInt8) : wantE t ≠ 0 := by
  unfold wantE
  split <;> decide
theorem hull_again (t : List UInt8) : ∃ s k, wroteHull (seaOf (hullRes t).2.s) (hullRes t).2.s.length (souOf (hullRes t).2.u) (hullRes t).2.u.length = WroteT s k ∧ (((hullRes t).1 = 0 ∧ k = 0 ∧ s = t) ∨ ((hullRes t).1 = wantE t ∧ (hullRes t).2.s.length = 0 ∧ (hullRes t).2.u.length = 0)) := by
  unfold hullRes wantE
  by_cases ht : 1000 < t.length
  · rw [if_pos ht, if_pos ht]
    obtain ⟨s, k, h⟩ := wroteHull_form (seaOf []) 0 (souOf []) 0
    exact ⟨s, k, h, .inr ⟨rfl, rfl, rfl⟩⟩
  · rw [if_neg ht, if_neg ht]
    cases hr : readH t with
    | none =>
      obtain ⟨s, k, h⟩ := wroteHull_form (seaOf []) 0 (souOf []) 0
      exact ⟨s, k, h, .inr ⟨rfl, rfl, rfl⟩⟩
    | some x =>
      dsimp only
      unfold readH at hr
      split at hr
      · cases hr
      · split at hr
        · rename_i hc
          cases hr
          refine ⟨t, 0, ?_, .inl ⟨rfl, rfl, rfl⟩⟩
          unfold wroteHull
          rw [if_pos hc.1, hc.2]
          rfl
        · cases hr
theorem pit_again (t : List UInt8) : ∃ s k, wrotePitch (pitRes t).2.hr (pitRes t).2.fr (pitRes t).2.pe (intOf' (pitRes t).2.f) (pitRes t).2.f.length (potOf (pitRes t).2.q) (pitRes t).2.q.length = WroteT s k ∧ (((pitRes t).1 = 0 ∧ k = 0 ∧ s = t) ∨ ((pitRes t).1 = wantE t ∧ (pitRes t).2.hr = 0 ∧ (pitRes t).2.fr = 0 ∧ (pitRes t).2.pe = 0 ∧ (pitRes t).2.f.length = 0 ∧ (pitRes t).2.q.length = 0)) := by
  unfold pitRes wantE
  by_cases ht : 1000 < t.length
  · rw [if_pos ht, if_pos ht]
    obtain ⟨s, k, h⟩ := wrotePitch_form 0 0 0 (intOf' []) 0 (potOf []) 0
    exact ⟨s, k, h, .inr ⟨rfl, rfl, rfl, rfl, rfl, rfl⟩⟩
  · rw [if_neg ht, if_neg ht]
    cases hr : readP t with
    | none =>
      obtain ⟨s, k, h⟩ := wrotePitch_form 0 0 0 (intOf' []) 0 (potOf []) 0
      exact ⟨s, k, h, .inr ⟨rfl, rfl, rfl, rfl, rfl, rfl⟩⟩
    | some x =>
      dsimp only
      unfold readP at hr
      split at hr
      · cases hr
      · split at hr
        · rename_i hc
          cases hr
          refine ⟨t, 0, ?_, .inl ⟨rfl, rfl, rfl⟩⟩
          unfold wrotePitch
          rw [if_pos (show pitchB _ _ _ _ _ _ _ = true from hc.1), show pitchT _ _ _ _ _ _ _ = t from hc.2]
          rfl
        · cases hr
theorem iron_again (t : List UInt8) : ∃ s k, wroteIrons (toV (ironRes t).2) = WroteT s k ∧ (((ironRes t).1 = 0 ∧ k = 0 ∧ s = t) ∨ ((ironRes t).1 = wantE t ∧ (toV (ironRes t).2).f = 0 ∧ (toV (ironRes t).2).on = 0 ∧ (toV (ironRes t).2).mn = 0 ∧ (toV (ironRes t).2).sn = 0 ∧ (toV (ironRes t).2).cn = 0)) := by
  unfold ironRes wantE
  by_cases ht : 1000 < t.length
  · rw [if_pos ht, if_pos ht]
    obtain ⟨s, k, h⟩ := wroteIrons_form (toV noI)
    exact ⟨s, k, h, .inr ⟨rfl, rfl, rfl, rfl, rfl, rfl⟩⟩
  · rw [if_neg ht, if_neg ht]
    cases hr : readI t with
    | none =>
      obtain ⟨s, k, h⟩ := wroteIrons_form (toV noI)
      exact ⟨s, k, h, .inr ⟨rfl, rfl, rfl, rfl, rfl, rfl⟩⟩
    | some x =>
      dsimp only
      unfold readI at hr
      split at hr
      · cases hr
      · split at hr
        · rename_i hc
          cases hr
          refine ⟨t, 0, ?_, .inl ⟨rfl, rfl, rfl⟩⟩
          unfold wroteIrons
          rw [if_pos hc.1, hc.2]
          rfl
        · cases hr
theorem readW_zero {L : Nat} {g : Nat → Nat} (h : (readW L g).1 ≠ 0) : (readW L g).2 = zeroW := by
  unfold readW at h ⊢
  split
  · rfl
  · rename_i h1
    rw [if_neg h1] at h
    split
    · rfl
    · rename_i n hn
      rw [hn] at h
      dsimp only at h
      split
      · rename_i h2
        rw [if_pos h2] at h
        split
        · rfl
        · rename_i s x hx
          rw [hx] at h
          dsimp only at h
          split
          · rename_i h3
            rw [if_pos h3] at h
            exact absurd rfl h
          · rfl
      · rfl
theorem readW_good {L : Nat} {g : Nat → Nat} (h : (readW L g).1 = 0) : wagesVB (readW L g).2 = true ∧ eqB (szB (bookN (readW L g).2)) L (bookB (readW L g).2) g = true := by
  unfold readW at h ⊢
  split
  · rename_i h1
    rw [if_pos h1] at h
    cases h
  · rename_i h1
    rw [if_neg h1] at h
    split
    · rename_i hn
      rw [hn] at h
      cases h
    · rename_i n hn
      rw [hn] at h
      dsimp only at h
      split
      · rename_i h2
        rw [if_pos h2] at h
        split
        · rename_i hx
          rw [hx] at h
          cases h
        · rename_i s x hx
          rw [hx] at h
          dsimp only at h
          split
          · rename_i h3
            rw [Bool.and_eq_true] at h3
            exact h3
          · rename_i h3
            rw [if_neg h3] at h
            cases h
      · rename_i h2
        rw [if_neg h2] at h
        cases h
theorem readW_long {L : Nat} {g : Nat → Nat} (h : 1000 < L) : (readW L g).1 = 3 := by
  unfold readW
  rw [if_pos h]
theorem readW_none {L : Nat} {g : Nat → Nat} (h : ¬ 1000 < L) (hn : ∀ n, 0 < n → szB n ≠ L) : (readW L g).1 = 8 := by
  unfold readW
  rw [if_neg h, contN_none hn]
theorem readW_some {n : Nat} {g : Nat → Nat} (h : ¬ 1000 < szB n) (hn : 0 < n) : (eqB (szB n) (szB n) (sealB g n) g = true ∧ ((readW (szB n) g).1 = 0 ∨ (readW (szB n) g).1 = 8)) ∨ (eqB (szB n) (szB n) (sealB g n) g = false ∧ (readW (szB n) g).1 = 10) := by
  unfold readW
  rw [if_neg h, contN_some hn]
  dsimp only
  cases he : eqB (szB n) (szB n) (sealB g n) g with
  | false => exact .inr ⟨rfl, rfl⟩
  | true =>
    refine .inl ⟨rfl, ?_⟩
    rw [if_pos rfl]
    split
    · exact .inr rfl
    · split
      · exact .inl rfl
      · exact .inr rfl
theorem wages_again (L : Nat) (g : Nat → Nat) : ∃ (n : Nat) (B : Nat → Nat) (k : Int), (∀ i, B i < 256) ∧ (∀ {w : World} {e : Ending} {w' : World}, WroteWages (readW L g).2.cr (castW (readW L g).2.S) (readW L g).2.sn (castW (readW L g).2.T) (readW L g).2.tn w e w' → ∃ oa cap, e = .returned (.tuple #[.slice oa n cap, .int .i64 k]) ∧ BytesAt w' oa n B ∧ Below w.heap.size w w') ∧
    (((readW L g).1 = 0 ∧ k = 0 ∧ eqB n L B g = true) ∨ ((readW L g).1 ≠ 0 ∧ (readW L g).2.cr = 0 ∧ (readW L g).2.sn = 0 ∧ (readW L g).2.tn = 0)) := by
  by_cases h : (readW L g).1 = 0
  · obtain ⟨hv, he⟩ := readW_good h
    have hc := wagesV_cast (readW L g).2
    generalize (readW L g).2 = x at *
    refine ⟨szB (bookN x), bookB x, 0, book_lt _, fun hw => ?_, .inl ⟨h, rfl, he⟩⟩
    obtain ⟨hb, hw⟩ := hw
    rw [if_pos (show wagesB x.cr (castW x.S) x.sn (castW x.T) x.tn = true from hv), hc] at hw
    obtain ⟨oa, cap, e, h1, -, -⟩ := hw
    exact ⟨oa, cap, e, h1, hb⟩
  · have hz := readW_zero h
    obtain ⟨n, B, k, h8, hf⟩ := wroteWages_form ⟨(readW L g).2.cr, none, none, (readW L g).2.sn, 0, (readW L g).2.tn, 0, castW (readW L g).2.S, castW (readW L g).2.T⟩
    exact ⟨n, B, k, h8, fun hw => hf hw, .inr ⟨h, by rw [hz]; rfl, by rw [hz]; rfl, by rw [hz]; rfl⟩⟩
/-- The arguments, and what was read of them, in the boxes. -/
structure AgA (w : World) (oa : Option Addr) (L : Nat) (g : Nat → Nat) (W : World) : Prop where
  bel : Below w.heap.size w W
  st : Stands W
  l : BytesAt W oa L g
theorem AgA.grow {w W W' : World} {oa : Option Addr} {L : Nat} {g : Nat → Nat} (h : AgA w oa L g W) (hb : Below W.heap.size W W') : AgA w oa L g W' := ⟨h.bel.next hb, h.st.grow hb, h.l.grow hb⟩
structure BH (x : HullV) (p : Nat) (sa : Option Addr) (sc : Nat) (ua : Option Addr) (uc : Nat) (W : World) : Prop where
  box : BoxAt W p #[.slice sa x.s.length sc, .slice ua x.u.length uc] 25
  s : SeasAt W sa x.s.length (seaOf x.s)
  u : SousAt W ua x.u.length (souOf x.u)
theorem BH.grow {x : HullV} {p sc uc : Nat} {sa ua : Option Addr} {W W' : World} (h : BH x p sa sc ua uc W) (hb : Below W.heap.size W W') : BH x p sa sc ua uc W' := ⟨h.box.grow hb, h.s.grow hb, h.u.grow hb⟩
theorem BH.cells {x : HullV} {p sc uc : Nat} {sa ua : Option Addr} {W : World} (h : BH x p sa sc ua uc W) : W.cell? ⟨p, 0, none⟩ = some (.slice sa x.s.length sc) ∧ W.cell? ⟨p, 1, none⟩ = some (.slice ua x.u.length uc) := ⟨cellAt h.box 0, cellAt h.box 1⟩
structure BP (x : PitV) (p : Nat) (fa : Option Addr) (fc : Nat) (qa : Option Addr) (qc : Nat) (W : World) : Prop where
  box : BoxAt W p #[.int .i64 x.hr, .int .i64 x.fr, .int .i64 x.pe, .slice fa x.f.length fc, .slice qa x.q.length qc] 29
  f : IntsAt W fa x.f.length (intOf' x.f)
  q : PotsAt W qa x.q.length (potOf x.q)
theorem BP.grow {x : PitV} {p fc qc : Nat} {fa qa : Option Addr} {W W' : World} (h : BP x p fa fc qa qc W) (hb : Below W.heap.size W W') : BP x p fa fc qa qc W' := ⟨h.box.grow hb, h.f.grow hb, h.q.grow hb⟩
theorem BP.cells {x : PitV} {p fc qc : Nat} {fa qa : Option Addr} {W : World} (h : BP x p fa fc qa qc W) : W.cell? ⟨p, 0, none⟩ = some (.int .i64 x.hr) ∧ W.cell? ⟨p, 1, none⟩ = some (.int .i64 x.fr) ∧ W.cell? ⟨p, 2, none⟩ = some (.int .i64 x.pe) ∧ W.cell? ⟨p, 3, none⟩ = some (.slice fa x.f.length fc) ∧ W.cell? ⟨p, 4, none⟩ = some (.slice qa x.q.length qc) := ⟨cellAt h.box 0, cellAt h.box 1, cellAt h.box 2, cellAt h.box 3, cellAt h.box 4⟩
structure BI (x : IronsV) (p : Nat) (oa ma sa ca : Option Addr) (oc mc sc cc : Nat) (op sp : Nat → Option Addr) (ok sk : Nat → Nat) (W : World) : Prop where
  box : BoxAt W p #[.int .i64 x.f, .slice oa x.on oc, .slice ma x.mn mc, .slice sa x.sn sc, .slice ca x.cn cc] 34
  a : IronsAt x oa ma sa ca oc mc sc cc op sp ok sk W
theorem BI.grow {x : IronsV} {p oc mc sc cc : Nat} {oa ma sa ca : Option Addr} {op sp : Nat → Option Addr} {ok sk : Nat → Nat} {W W' : World} (h : BI x p oa ma sa ca oc mc sc cc op sp ok sk W) (hb : Below W.heap.size W W') : BI x p oa ma sa ca oc mc sc cc op sp ok sk W' := ⟨h.box.grow hb, h.a.grow hb⟩
theorem BI.cells {x : IronsV} {p oc mc sc cc : Nat} {oa ma sa ca : Option Addr} {op sp : Nat → Option Addr} {ok sk : Nat → Nat} {W : World} (h : BI x p oa ma sa ca oc mc sc cc op sp ok sk W) : W.cell? ⟨p, 0, none⟩ = some (.int .i64 x.f) ∧ W.cell? ⟨p, 1, none⟩ = some (.slice oa x.on oc) ∧ W.cell? ⟨p, 2, none⟩ = some (.slice ma x.mn mc) ∧ W.cell? ⟨p, 3, none⟩ = some (.slice sa x.sn sc) ∧ W.cell? ⟨p, 4, none⟩ = some (.slice ca x.cn cc) := ⟨cellAt h.box 0, cellAt h.box 1, cellAt h.box 2, cellAt h.box 3, cellAt h.box 4⟩
theorem sl76 : Tryz.prog.underlying 76 = some (.slice 41) := by kernel_rfl
theorem size41 : (Tryz.prog.info? 41).map (·.size) = some 1 := by kernel_rfl
set_option maxRecDepth 100000 in
set_option maxHeartbeats 16000000 in
theorem bookAgain10_any (t : List UInt8) (oa : Option Addr) (L nc : Nat) (g : Nat → Nat) (w : World) (hb : BytesAt w oa L g) (h8 : ∀ i, g i < 256) (hcap : L ≤ nc) (hst : Stands w) :
    Calls Tryz.prog 10 #[.string ⟨t.toArray⟩, .slice oa L nc] w fun e w' => e = .returned (.bool true) ∧ Below w.heap.size w w' := by
  have hsm := hb.small
  unfold maxLen at hsm
  have I0 := Lib.hid (show AgA w oa L g w from ⟨Below.refl _ _, hst, hb⟩)
  have C13 := Lib.hid (fun W (I : AgA w oa L g W) => awake_any I.st)
  by_cases hm : (1010 : Int) < max (t.length : Int) (L : Int)
  · go_enter Tryz.func10, Tryz.ntmps10
    go_wp2_with (go_at_call 13; refine (C13.out _ I0.out).mono ?_; rintro e w1 ⟨rfl, hb1⟩)
    go_ret
    exact ⟨rfl, hb1⟩
  have hnm : ¬ (1010 : Int) < max (t.length : Int) (L : Int) := hm
  have hL : L ≤ 1010 := by omega
  have htl : t.length ≤ 1010 := by omega
  clear hm
  obtain ⟨s1, k1, e1, H1⟩ := hull_again t
  obtain ⟨s2, k2, e2, H2⟩ := pit_again t
  obtain ⟨s3, k3, e3, H3⟩ := iron_again t
  obtain ⟨m, B, k4, hB8, e4, H4⟩ := wages_again L g
  have R1 := Lib.hid (fun h => readW_long (L := L) (g := g) h)
  have R2 := Lib.hid (fun h hn => readW_none (L := L) (g := g) h hn)
  have R3 := Lib.hid (fun n (h : ¬ 1000 < L) (hn : 0 < n) (hl : szB n = L) => (by subst hl; exact readW_some h hn : (eqB (szB n) L (sealB g n) g = true ∧ ((readW L g).1 = 0 ∨ (readW L g).1 = 8)) ∨ (eqB (szB n) L (sealB g n) g = false ∧ (readW L g).1 = 10)))
  have C35 := Lib.hid (fun W (I : AgA w oa L g W) => readHull35_any t W I.st.sides I.st.lim I.st.tab I.st.size)
  have C37 := Lib.hid (fun W (I : AgA w oa L g W) => readPitch37_any t W I.st.lim I.st.tab I.st.size)
  have C39 := Lib.hid (fun W (I : AgA w oa L g W) => readIrons39_any t W I.st.lim I.st.tab I.st.size)
  have C23 := Lib.hid (fun W (I : AgA w oa L g W) => readWages23_any oa L nc g W I.l h8 hcap)
  unfold ReadHullPost at C35
  unfold ReadPitchPost at C37
  unfold ReadIronsPost at C39
  unfold ReadWPost at C23
  have H8 := Lib.hid h8
  have HW := Lib.hid (wantE_ne t)
  have HWD := Lib.hid (show wantE t = if 1000 < t.length then 3 else 8 from rfl)
  generalize wantE t = want at *
  generalize (hullRes t).2 = xh at *
  generalize (hullRes t).1 = eh at *
  generalize (pitRes t).2 = xp at *
  generalize (pitRes t).1 = ep at *
  generalize toV (ironRes t).2 = xi at *
  generalize (ironRes t).1 = ei at *
  generalize (readW L g).2 = xw at *
  generalize (readW L g).1 = ew at *
  have HH := Lib.hid H1
  have HP := Lib.hid H2
  have HI := Lib.hid H3
  have HG := Lib.hid H4
  have C14 := Lib.hid (fun W p sa sc ua uc (hs : Stands W) (I : BH xh p sa sc ua uc W) => (show Calls Tryz.prog 14 #[.agg #[.slice sa xh.s.length sc, .slice ua xh.u.length uc]] W fun e w' => e = .returned (.tuple #[.string ⟨s1.toArray⟩, .int .i64 k1]) ∧ Below W.heap.size W w' from by have hc := writeHull14_any sa ua xh.s.length sc xh.u.length uc (seaOf xh.s) (souOf xh.u) W I.s I.u hs.tab hs.sides; rw [e1] at hc; exact hc))
  have C16 := Lib.hid (fun W p fa fc qa qc (hs : Stands W) (I : BP xp p fa fc qa qc W) => (show Calls Tryz.prog 16 #[.agg #[.int .i64 xp.hr, .int .i64 xp.fr, .int .i64 xp.pe, .slice fa xp.f.length fc, .slice qa xp.q.length qc]] W fun e w' => e = .returned (.tuple #[.string ⟨s2.toArray⟩, .int .i64 k2]) ∧ Below W.heap.size W w' from by have hc := writesPitch_any xp.hr xp.fr xp.pe fa qa xp.f.length fc xp.q.length qc (intOf' xp.f) (potOf xp.q) W ⟨I.f, I.q, hs.tab⟩; rw [e2] at hc; exact hc))
  have C18 := Lib.hid (fun W p oa ma sa ca oc mc sc cc op sp ok sk (hs : Stands W) (I : BI xi p oa ma sa ca oc mc sc cc op sp ok sk W) => (show Calls Tryz.prog 18 #[.agg #[.int .i64 xi.f, .slice oa xi.on oc, .slice ma xi.mn mc, .slice sa xi.sn sc, .slice ca xi.cn cc]] W fun e w' => e = .returned (.tuple #[.string ⟨s3.toArray⟩, .int .i64 k3]) ∧ Below W.heap.size W w' from by have hc := writesIrons_any xi oa ma sa ca oc mc sc cc op sp ok sk W ⟨I.a, hs.tab⟩; rw [e3] at hc; exact hc))
  have C20 := Lib.hid (fun W p sa sc ta tc (I : BW xw p sa ta sc tc W) => (writeWages20_any xw.cr sa ta xw.sn sc xw.tn tc (castW xw.S) (castW xw.T) W I.s I.t).mono fun e w' hh => e4 hh)
  have C22 := Lib.hid (fun W qa qc M F (h1 : BytesAt W qa M F) (hF : ∀ i, F i < 256) (h2 : BytesAt W oa L g) => bytes_any qa oa M qc L nc F g W h1 h2 (fun i _ => hF i) (fun i _ => h8 i))
  have HB8 := Lib.hid hB8
  clear e1 e2 e3 e4 hb h8 hst H1 H2 H3 H4 hB8
  go_enter Tryz.func10, Tryz.ntmps10
  go_upto_region 3 with (fail)
  clear hnm
  go_upto_region 4 with (go_at_call 35; refine (C35.out _ I0.out).mono ?_; rintro e w1 ⟨hb1, sa, sc, ua, uc, rfl, hS, hU, -, -⟩)
  have al := (Below.refl w1.heap.size w1).alloc (Nat.le_refl _) (.cells #[.slice sa xh.s.length sc, .slice ua xh.u.length uc] 25)
  have I1 := Lib.hid ((I0.out.grow hb1).grow al)
  have X1 := Lib.hid (show BH xh w1.heap.size sa sc ua uc (w1.alloc (.cells #[.slice sa xh.s.length sc, .slice ua xh.u.length uc] 25)) from ⟨heap_alloc_new _ _, hS.grow al, hU.grow al⟩)
  clear hb1 hS hU al I0 C35
  generalize World.alloc w1 _ = w2 at *
  generalize w1.heap.size = p1 at *
  go_upto_region 5 with (go_at_call 37; refine (C37.out _ I1.out).mono ?_; rintro e w3 ⟨hb1, fa, fc, qa, qc, rfl, hF, hQ, -, -⟩)
  have al := (Below.refl w3.heap.size w3).alloc (Nat.le_refl _) (.cells #[.int .i64 xp.hr, .int .i64 xp.fr, .int .i64 xp.pe, .slice fa xp.f.length fc, .slice qa xp.q.length qc] 29)
  have I2 := Lib.hid ((I1.out.grow hb1).grow al)
  have X2 := Lib.hid ((X1.out.grow hb1).grow al)
  have Y2 := Lib.hid (show BP xp w3.heap.size fa fc qa qc (w3.alloc (.cells #[.int .i64 xp.hr, .int .i64 xp.fr, .int .i64 xp.pe, .slice fa xp.f.length fc, .slice qa xp.q.length qc] 29)) from ⟨heap_alloc_new _ _, hF.grow al, hQ.grow al⟩)
  clear hb1 hF hQ al I1 X1 C37
  generalize World.alloc w3 _ = w4 at *
  generalize w3.heap.size = p2 at *
  go_upto_region 6 with (go_at_call 39; refine (C39.out _ I2.out).mono ?_; rintro e w5 ⟨hb1, ia, ma, ra, ca, ic, mc, rc, cc, op, sp, ok, sk, rfl, hA, -⟩)
  have al := (Below.refl w5.heap.size w5).alloc (Nat.le_refl _) (.cells #[.int .i64 xi.f, .slice ia xi.on ic, .slice ma xi.mn mc, .slice ra xi.sn rc, .slice ca xi.cn cc] 34)
  have I3 := Lib.hid ((I2.out.grow hb1).grow al)
  have X3 := Lib.hid ((X2.out.grow hb1).grow al)
  have Y3 := Lib.hid ((Y2.out.grow hb1).grow al)
  have Z3 := Lib.hid (show BI xi w5.heap.size ia ma ra ca ic mc rc cc op sp ok sk (w5.alloc (.cells #[.int .i64 xi.f, .slice ia xi.on ic, .slice ma xi.mn mc, .slice ra xi.sn rc, .slice ca xi.cn cc] 34)) from ⟨heap_alloc_new _ _, hA.grow al⟩)
  clear hb1 hA al I2 X2 Y2 C39
  generalize World.alloc w5 _ = w6 at *
  generalize w5.heap.size = p3 at *
  go_upto_region 7 with (go_at_call 23; refine (C23.out _ I3.out).mono ?_; rintro e w7 ⟨hb1, ea, ec, ta, tc, rfl, hS, hT⟩)
  have al := (Below.refl w7.heap.size w7).alloc (Nat.le_refl _) (.cells #[.int .i64 xw.cr, .slice ea xw.sn ec, .slice ta xw.tn tc] 38)
  have I4 := Lib.hid ((I3.out.grow hb1).grow al)
  have X4 := Lib.hid ((X3.out.grow hb1).grow al)
  have Y4 := Lib.hid ((Y3.out.grow hb1).grow al)
  have Z4 := Lib.hid ((Z3.out.grow hb1).grow al)
  have G4 := Lib.hid (BW.new (sc := ec) (tc := tc) hS hT)
  clear hb1 hS hT al I3 X3 Y3 Z3 C23
  generalize World.alloc w7 _ = w8 at *
  generalize w7.heap.size = p4 at *
  obtain ⟨q0, q1⟩ := X4.out.cells
  go_upto_region 8 with (go_at_call 14; refine (C14.out _ _ _ _ _ _ I4.out.st X4.out).mono ?_; rintro e w9 ⟨rfl, hb1⟩)
  have I5 := Lib.hid (I4.out.grow hb1)
  have X5 := Lib.hid (X4.out.grow hb1)
  have Y5 := Lib.hid (Y4.out.grow hb1)
  have Z5 := Lib.hid (Z4.out.grow hb1)
  have G5 := Lib.hid (G4.out.grow hb1)
  clear hb1 I4 X4 Y4 Z4 G4 C14 q0 q1
  obtain ⟨q0, q1, q2, q3, q4⟩ := Y5.out.cells
  go_upto_region 9 with (go_at_call 16; refine (C16.out _ _ _ _ _ _ I5.out.st Y5.out).mono ?_; rintro e w10 ⟨rfl, hb1⟩)
  have I6 := Lib.hid (I5.out.grow hb1)
  have X6 := Lib.hid (X5.out.grow hb1)
  have Y6 := Lib.hid (Y5.out.grow hb1)
  have Z6 := Lib.hid (Z5.out.grow hb1)
  have G6 := Lib.hid (G5.out.grow hb1)
  clear hb1 I5 X5 Y5 Z5 G5 C16 q0 q1 q2 q3 q4
  obtain ⟨q0, q1, q2, q3, q4⟩ := Z6.out.cells
  go_upto_region 10 with (go_at_call 18; refine (C18.out _ _ _ _ _ _ _ _ _ _ _ _ _ _ I6.out.st Z6.out).mono ?_; rintro e w11 ⟨rfl, hb1⟩)
  have I7 := Lib.hid (I6.out.grow hb1)
  have X7 := Lib.hid (X6.out.grow hb1)
  have Y7 := Lib.hid (Y6.out.grow hb1)
  have Z7 := Lib.hid (Z6.out.grow hb1)
  have G7 := Lib.hid (G6.out.grow hb1)
  clear hb1 I6 X6 Y6 Z6 G6 C18 q0 q1 q2 q3 q4
  obtain ⟨q0, q1, q2⟩ := G7.out.cells
  go_upto_region 11 with (go_at_call 20; refine (C20.out _ _ _ _ _ _ G7.out).mono ?_; rintro e w12 ⟨ba, bc, rfl, hbb, hb1⟩)
  have I8 := Lib.hid (I7.out.grow hb1)
  have X8 := Lib.hid (X7.out.grow hb1)
  have Y8 := Lib.hid (Y7.out.grow hb1)
  have Z8 := Lib.hid (Z7.out.grow hb1)
  have G8 := Lib.hid (G7.out.grow hb1)
  have B8 := Lib.hid hbb
  clear hb1 hbb I7 X7 Y7 Z7 G7 C20 q0 q1 q2
  go_cut [97] from 73 to 97 (fun v W => v = .bool false ∧ W = w12)
  case first =>
    obtain ⟨q0, q1⟩ := X8.out.cells
    rcases HH.out with ⟨rfl, rfl, rfl⟩ | ⟨rfl, hs, hu⟩
    · go_wp2_with fail
      all_goals (go_meet; exact ⟨rfl, rfl⟩)
    · have t1 : (eh == 0) = false := beq_eq_false_iff_ne.2 HW.out
      have t2 : (eh != 0) = true := bne_iff_ne.2 HW.out
      have t3 : IntKind.i64.wrap ((xh.s.length : Int) + (xh.u.length : Int)) = 0 := by rw [hs, hu]; rfl
      clear hs hu
      go_wp2_with fail
      all_goals (go_meet; exact ⟨rfl, rfl⟩)
  case rest =>
    obtain ⟨rfl, rfl⟩ := hcut
    go_upto_region 13 with (fail)
    go_cut [137] from 98 to 137 (fun v W => v = .bool false ∧ W = wc)
    case first =>
      obtain ⟨q0, q1, q2, q3, q4⟩ := Y8.out.cells
      rcases HP.out with ⟨rfl, rfl, rfl⟩ | ⟨rfl, h1, h2, h3, hs, hu⟩
      · go_wp2_with fail
        all_goals (go_meet; exact ⟨rfl, rfl⟩)
      · have t1 : (ep == 0) = false := beq_eq_false_iff_ne.2 HW.out
        have t2 : (ep != 0) = true := bne_iff_ne.2 HW.out
        have t3 : IntKind.i64.wrap ((xp.f.length : Int) + (xp.q.length : Int)) = 0 := by rw [hs, hu]; rfl
        have t4 : (xp.hr != 0) = false := by rw [h1]; rfl
        have t5 : (xp.fr != 0) = false := by rw [h2]; rfl
        have t6 : (xp.pe != 0) = false := by rw [h3]; rfl
        clear hs hu h1 h2 h3
        go_wp2_with fail
        all_goals (go_meet; exact ⟨rfl, rfl⟩)
    case rest =>
      obtain ⟨rfl, rfl⟩ := hcut
      go_upto_region 15 with (fail)
      go_cut [175] from 138 to 175 (fun v W => v = .bool false ∧ W = wc)
      case first =>
        obtain ⟨q0, q1, q2, q3, q4⟩ := Z8.out.cells
        rcases HI.out with ⟨rfl, rfl, rfl⟩ | ⟨rfl, h1, h2, h3, hs, hu⟩
        · go_wp2_with fail
          all_goals (go_meet; exact ⟨rfl, rfl⟩)
        · have t1 : (ei == 0) = false := beq_eq_false_iff_ne.2 HW.out
          have t2 : (ei != 0) = true := bne_iff_ne.2 HW.out
          have t3 : IntKind.i64.wrap ((xi.on : Int) + (xi.mn : Int)) = 0 := by rw [h2, h3]; rfl
          have t4 : (xi.f != 0) = false := by rw [h1]; rfl
          have t5 : IntKind.i64.wrap (0 + (xi.sn : Int)) = 0 := by rw [hs]; rfl
          have t6 : IntKind.i64.wrap (0 + (xi.cn : Int)) = 0 := by rw [hu]; rfl
          have t7 : IntKind.i64.wrap (xi.sn : Int) = 0 := by rw [hs]; rfl
          have t8 : IntKind.i64.wrap (xi.cn : Int) = 0 := by rw [hu]; rfl
          clear hs hu h1 h2 h3
          go_wp2_with fail
          all_goals (go_meet; exact ⟨rfl, rfl⟩)
      case rest =>
        obtain ⟨rfl, rfl⟩ := hcut
        go_upto_region 17 with (fail)
        go_cut [206] from 176 to 206 (fun v W => v = .bool false ∧ W = wc)
        case first =>
          obtain ⟨q0, q1, q2⟩ := G8.out.cells
          rcases HG.out with ⟨rfl, rfl, he⟩ | ⟨h, h1, hs, hu⟩
          · have D22 := Lib.hid (C22.out wc ba bc m B B8.out HB8.out I8.out.l)
            rw [he] at D22
            clear he
            go_wp2_with (go_at_call 22; refine D22.out.mono ?_; rintro e w' ⟨rfl, rfl⟩)
            all_goals (go_meet; exact ⟨rfl, rfl⟩)
          · have t1 : (ew == 0) = false := beq_eq_false_iff_ne.2 h
            have t2 : (ew != 0) = true := bne_iff_ne.2 h
            have t3 : IntKind.i64.wrap ((xw.sn : Int) + (xw.tn : Int)) = 0 := by rw [hs, hu]; rfl
            have t4 : ((xw.cr : Int) != 0) = false := by rw [h1]; rfl
            clear hs hu h1 h
            go_wp2_with fail
            all_goals (go_meet; exact ⟨rfl, rfl⟩)
        case rest =>
          obtain ⟨rfl, rfl⟩ := hcut
          go_upto_region 20 with (fail)
          have HE := Lib.hid (show eh = 0 ∨ eh = want from by rcases HH.out with ⟨h, -⟩ | ⟨h, -⟩; exact .inl h; exact .inr h)
          have HEP := Lib.hid (show ep = 0 ∨ ep = want from by rcases HP.out with ⟨h, -⟩ | ⟨h, -⟩; exact .inl h; exact .inr h)
          have HEI := Lib.hid (show ei = 0 ∨ ei = want from by rcases HI.out with ⟨h, -⟩ | ⟨h, -⟩; exact .inl h; exact .inr h)
          clear HH HP HI HG X8 Y8 Z8 G8 B8 HB8 HW
          have hww : (1000 < t.length ∧ want = 3) ∨ (¬ 1000 < t.length ∧ want = 8) := by
            by_cases ht : 1000 < t.length
            · exact .inl ⟨ht, HWD.out.trans (if_pos ht)⟩
            · exact .inr ⟨ht, HWD.out.trans (if_neg ht)⟩
          clear HWD
          rcases hww with ⟨ht, rfl⟩ | ⟨ht, rfl⟩
          · go_upto_region 22 with (fail)
            have al := (Below.refl wc.heap.size wc).alloc (Nat.le_refl _) (.cells #[.int .i64 eh, .int .i64 ep, .int .i64 ei] 41)
            have I9 := Lib.hid (I8.out.grow al)
            have E9 := Lib.hid (show BoxAt (wc.alloc (.cells #[.int .i64 eh, .int .i64 ep, .int .i64 ei] 41)) wc.heap.size #[.int .i64 eh, .int .i64 ep, .int .i64 ei] 41 from heap_alloc_new _ _)
            clear al I8
            go_wp2_with fail
            generalize World.alloc wc _ = w13 at *
            generalize wc.heap.size = gp at *
            go_loop [215] (fun j => ∃ k : Nat, k ≤ 3 ∧ j = .int .i64 k) (fun j => 3 - (intOf j).toNat)
            case atStart => exact ⟨0, Nat.zero_le _, rfl⟩
            case round =>
              obtain ⟨k, hk, rfl⟩ := hrel
              by_cases hlt : k < 3
              · have hi := fun W => run_indexAt_row (w := W) (oa := some ⟨gp, 0, none⟩) (n := 3) (cap := 3) sl76 size41 rfl hlt
                simp only [blk, ofs, Nat.zero_add, Nat.mul_one] at hi
                have hx : ∃ x, w13.cell? ⟨gp, k, none⟩ = some (.int .i64 x) ∧ (x = 0 ∨ x = 3) := by
                  rcases (show k = 0 ∨ k = 1 ∨ k = 2 by omega) with rfl | rfl | rfl
                  · exact ⟨eh, cellAt E9.out 0, HE.out⟩
                  · exact ⟨ep, cellAt E9.out 1, HEP.out⟩
                  · exact ⟨ei, cellAt E9.out 2, HEI.out⟩
                obtain ⟨x, hx, hxx⟩ := hx
                rcases hxx with rfl | rfl
                · go_wp2_with fail
                  exact ⟨⟨k + 1, hlt, by go_num⟩, by simp [intOf]; omega⟩
                · go_wp2_with fail
                  exact ⟨⟨k + 1, hlt, by go_num⟩, by simp [intOf]; omega⟩
              · obtain rfl : k = 3 := by omega
                by_cases hl : 1000 < L
                · have h3 := R1.out hl
                  subst h3
                  go_wp2_with (go_at_call 13; refine (C13.out _ I9.out).mono ?_; rintro e w14 ⟨rfl, hb⟩)
                  go_ret
                  exact ⟨rfl, I9.out.bel.next hb⟩
                · go_wp2_with (go_at_call 33; refine (contentR_any L _ (by omega)).mono ?_)
                  rintro e w14 ⟨rfl, ⟨n, hn0, hn, rfl⟩ | ⟨hno, rfl⟩⟩
                  · have hnl : n ≤ L := by unfold szB at hn; omega
                    have HOP := Lib.hid (I9.out.l.plain (show 0 < L by omega))
                    have s1 := fun W => run_head (n := L) (c := nc) (h := n) HOP.out (by omega) (by omega) W
                    have C1 := Lib.hid (sealR_any oa n nc g w14 (I9.out.l.head hnl) H8.out hn0 (by omega))
                    have HN := Lib.hid hn
                    clear hn
                    go_wp2_with (go_at_call 34; refine C1.out.mono ?_)
                    rintro e w15 ⟨ya, yc, rfl, hq, -, -, hb3⟩
                    have I10 := Lib.hid (I9.out.grow hb3)
                    have D22 := Lib.hid (C22.out w15 ya yc (szB n) (sealB g n) hq (fun i => seal_lt H8.out n i) I10.out.l)
                    rw [HN.out] at D22 ⊢
                    have HR3 := R3.out n hl hn0 HN.out
                    rw [HN.out] at HR3
                    clear hq hb3 C1 s1 HN R1 R2 R3 C22
                    rcases HR3 with ⟨he, hz⟩ | ⟨he, hz⟩
                    · rw [he] at D22
                      rcases hz with rfl | rfl
                      all_goals
                        clear he
                        go_wp2_with (first | (go_at_call 22; refine D22.out.mono ?_; rintro e w' ⟨rfl, rfl⟩) | (go_at_call 13; refine (C13.out _ I10.out).mono ?_; rintro e w16 ⟨rfl, hb⟩))
                        go_ret
                        exact ⟨rfl, I10.out.bel.next hb⟩
                    · rw [he] at D22
                      subst hz
                      clear he
                      go_wp2_with (first | (go_at_call 22; refine D22.out.mono ?_; rintro e w' ⟨rfl, rfl⟩) | (go_at_call 13; refine (C13.out _ I10.out).mono ?_; rintro e w16 ⟨rfl, hb⟩))
                      go_ret
                      exact ⟨rfl, I10.out.bel.next hb⟩
                  · have hz := R2.out hl hno
                    subst hz
                    go_wp2_with (go_at_call 13; refine (C13.out _ I9.out).mono ?_; rintro e w15 ⟨rfl, hb⟩)
                    go_ret
                    exact ⟨rfl, I9.out.bel.next hb⟩
          · go_upto_region 22 with (fail)
            have al := (Below.refl wc.heap.size wc).alloc (Nat.le_refl _) (.cells #[.int .i64 eh, .int .i64 ep, .int .i64 ei] 41)
            have I9 := Lib.hid (I8.out.grow al)
            have E9 := Lib.hid (show BoxAt (wc.alloc (.cells #[.int .i64 eh, .int .i64 ep, .int .i64 ei] 41)) wc.heap.size #[.int .i64 eh, .int .i64 ep, .int .i64 ei] 41 from heap_alloc_new _ _)
            clear al I8
            go_wp2_with fail
            generalize World.alloc wc _ = w13 at *
            generalize wc.heap.size = gp at *
            go_loop [215] (fun j => ∃ k : Nat, k ≤ 3 ∧ j = .int .i64 k) (fun j => 3 - (intOf j).toNat)
            case atStart => exact ⟨0, Nat.zero_le _, rfl⟩
            case round =>
              obtain ⟨k, hk, rfl⟩ := hrel
              by_cases hlt : k < 3
              · have hi := fun W => run_indexAt_row (w := W) (oa := some ⟨gp, 0, none⟩) (n := 3) (cap := 3) sl76 size41 rfl hlt
                simp only [blk, ofs, Nat.zero_add, Nat.mul_one] at hi
                have hx : ∃ x, w13.cell? ⟨gp, k, none⟩ = some (.int .i64 x) ∧ (x = 0 ∨ x = 8) := by
                  rcases (show k = 0 ∨ k = 1 ∨ k = 2 by omega) with rfl | rfl | rfl
                  · exact ⟨eh, cellAt E9.out 0, HE.out⟩
                  · exact ⟨ep, cellAt E9.out 1, HEP.out⟩
                  · exact ⟨ei, cellAt E9.out 2, HEI.out⟩
                obtain ⟨x, hx, hxx⟩ := hx
                rcases hxx with rfl | rfl
                · go_wp2_with fail
                  exact ⟨⟨k + 1, hlt, by go_num⟩, by simp [intOf]; omega⟩
                · go_wp2_with fail
                  exact ⟨⟨k + 1, hlt, by go_num⟩, by simp [intOf]; omega⟩
              · obtain rfl : k = 3 := by omega
                by_cases hl : 1000 < L
                · have h3 := R1.out hl
                  subst h3
                  go_wp2_with (go_at_call 13; refine (C13.out _ I9.out).mono ?_; rintro e w14 ⟨rfl, hb⟩)
                  go_ret
                  exact ⟨rfl, I9.out.bel.next hb⟩
                · go_wp2_with (go_at_call 33; refine (contentR_any L _ (by omega)).mono ?_)
                  rintro e w14 ⟨rfl, ⟨n, hn0, hn, rfl⟩ | ⟨hno, rfl⟩⟩
                  · have hnl : n ≤ L := by unfold szB at hn; omega
                    have HOP := Lib.hid (I9.out.l.plain (show 0 < L by omega))
                    have s1 := fun W => run_head (n := L) (c := nc) (h := n) HOP.out (by omega) (by omega) W
                    have C1 := Lib.hid (sealR_any oa n nc g w14 (I9.out.l.head hnl) H8.out hn0 (by omega))
                    have HN := Lib.hid hn
                    clear hn
                    go_wp2_with (go_at_call 34; refine C1.out.mono ?_)
                    rintro e w15 ⟨ya, yc, rfl, hq, -, -, hb3⟩
                    have I10 := Lib.hid (I9.out.grow hb3)
                    have D22 := Lib.hid (C22.out w15 ya yc (szB n) (sealB g n) hq (fun i => seal_lt H8.out n i) I10.out.l)
                    rw [HN.out] at D22 ⊢
                    have HR3 := R3.out n hl hn0 HN.out
                    rw [HN.out] at HR3
                    clear hq hb3 C1 s1 HN R1 R2 R3 C22
                    rcases HR3 with ⟨he, hz⟩ | ⟨he, hz⟩
                    · rw [he] at D22
                      rcases hz with rfl | rfl
                      all_goals
                        clear he
                        go_wp2_with (first | (go_at_call 22; refine D22.out.mono ?_; rintro e w' ⟨rfl, rfl⟩) | (go_at_call 13; refine (C13.out _ I10.out).mono ?_; rintro e w16 ⟨rfl, hb⟩))
                        go_ret
                        exact ⟨rfl, I10.out.bel.next hb⟩
                    · rw [he] at D22
                      subst hz
                      clear he
                      go_wp2_with (first | (go_at_call 22; refine D22.out.mono ?_; rintro e w' ⟨rfl, rfl⟩) | (go_at_call 13; refine (C13.out _ I10.out).mono ?_; rintro e w16 ⟨rfl, hb⟩))
                      go_ret
                      exact ⟨rfl, I10.out.bel.next hb⟩
                  · have hz := R2.out hl hno
                    subst hz
                    go_wp2_with (go_at_call 13; refine (C13.out _ I9.out).mono ?_; rintro e w15 ⟨rfl, hb⟩)
                    go_ret
                    exact ⟨rfl, I9.out.bel.next hb⟩
end Go.Proofs.YtclbmlmlhiiaeaaGreatDoor
