/-
  Walks: BookMends.
-/
import Derived.Test.YtclbmlmlhiiaeaaGreatDoorT12
import Derived.Test.YtclbmlmlhiiaeaaGreatDoorT4
namespace Go.Proofs.YtclbmlmlhiiaeaaGreatDoor
open Go.RowKit

theorem zero_small : SmallW zeroW := ⟨by decide, by decide, by decide, fun i hi => absurd hi (Nat.not_lt_zero _), fun i hi => absurd hi (Nat.not_lt_zero _), fun i hi => absurd hi (Nat.not_lt_zero _)⟩
theorem readW_small (L : Nat) (g : Nat → Nat) : SmallW (readW L g).2 := by
  unfold readW
  split
  · exact zero_small
  · split
    · exact zero_small
    · split
      · split
        · exact zero_small
        · split
          · rename_i h
            rw [Bool.and_eq_true] at h
            exact small_of h.1
          · exact zero_small
      · exact zero_small
/-- Wages that were read, in a box, with their rows. -/
structure BW (x : WagesV) (p : Nat) (sa ta : Option Addr) (sc tc : Nat) (W : World) : Prop where
  box : BoxAt W p #[.int .i64 x.cr, .slice sa x.sn sc, .slice ta x.tn tc] 38
  s : NumsAt W sa x.sn 2 (castW x.S)
  t : NumsAt W ta x.tn 8 (castW x.T)
theorem BW.grow {x : WagesV} {p : Nat} {sa ta : Option Addr} {sc tc : Nat} {W W' : World} (h : BW x p sa ta sc tc W) (hb : Below W.heap.size W W') : BW x p sa ta sc tc W' := ⟨h.box.grow hb, h.s.grow hb, h.t.grow hb⟩
theorem BW.cells {x : WagesV} {p : Nat} {sa ta : Option Addr} {sc tc : Nat} {W : World} (h : BW x p sa ta sc tc W) : W.cell? ⟨p, 0, none⟩ = some (.int .i64 x.cr) ∧ W.cell? ⟨p, 1, none⟩ = some (.slice sa x.sn sc) ∧ W.cell? ⟨p, 2, none⟩ = some (.slice ta x.tn tc) :=
  ⟨cellAt h.box 0, cellAt h.box 1, cellAt h.box 2⟩
theorem BW.new {x : WagesV} {sa ta : Option Addr} {sc tc : Nat} {W : World} (hS : NumsAt W sa x.sn 2 (castW x.S)) (hT : NumsAt W ta x.tn 8 (castW x.T)) : BW x W.heap.size sa ta sc tc (W.alloc (.cells #[.int .i64 x.cr, .slice sa x.sn sc, .slice ta x.tn tc] 38)) :=
  have al := (Below.refl W.heap.size W).alloc (Nat.le_refl _) (.cells #[.int .i64 x.cr, .slice sa x.sn sc, .slice ta x.tn tc] 38)
  ⟨heap_alloc_new _ _, hS.grow al, hT.grow al⟩
theorem sameRead_any {x : WagesV} {p q : Nat} {sa ta sb tb : Option Addr} {sc tc sd td : Nat} {W : World} (hx : SmallW x) (h : BW x p sa ta sc tc W) (k : BW x q sb tb sd td W) :
    Calls Tryz.prog 27 #[.agg #[.int .i64 x.cr, .slice sa x.sn sc, .slice ta x.tn tc], .agg #[.int .i64 x.cr, .slice sb x.sn sd, .slice tb x.tn td]] W fun e w' => e = .returned (.bool true) ∧ Below W.heap.size W w' := by
  have := sameWages27_any x x sa ta sb tb sc tc sd td W h.s h.t k.s k.t hx hx
  rw [show eqB (szB (bookN x)) (szB (bookN x)) (bookB x) (bookB x) = true from eqB_iff.2 ⟨rfl, fun _ _ => rfl⟩] at this
  exact this
set_option maxRecDepth 100000 in
set_option maxHeartbeats 4000000 in
theorem bookMends4_any (oa : Option Addr) (L nc : Nat) (g : Nat → Nat) (w : World) (hb : BytesAt w oa L g) (h8 : ∀ i, g i < 256) (hcap : L ≤ nc) (hst : Stands w) :
    Calls Tryz.prog 4 #[.slice oa L nc] w fun e w' => e = .returned (.bool true) ∧ Below w.heap.size w w' := by
  have hsm := hb.small
  unfold maxLen at hsm
  have CA := Lib.hid (fun W (h : Below w.heap.size w W) => awake_any (hst.grow h))
  have C23 := Lib.hid (fun W (h : Below w.heap.size w W) => readWages23_any oa L nc g W (BytesAt.grow hb h) h8 hcap)
  have C24 := Lib.hid (fun W (h : Below w.heap.size w W) => refReadWages24_any oa L nc g W (BytesAt.grow hb h) h8 hcap)
  have C25 := Lib.hid (fun W (h : Below w.heap.size w W) => (mend_any oa L nc g W (BytesAt.grow hb h) h8 hcap).mono fun e w' hh => mend_form hh)
  have C26 := Lib.hid (fun W (h : Below w.heap.size w W) => refMend26_any oa L nc g W (BytesAt.grow hb h) h8 hcap)
  have HX := Lib.hid (readW_small L g)
  have HM := Lib.hid (mendR_lt (L := L) h8)
  unfold ReadWPost at C23 C24
  unfold MendRPost at C25 C26
  clear hb h8 hst
  generalize (readW L g).2 = x at *
  generalize (readW L g).1 = c at *
  generalize (mendR L g).1.1 = m at *
  generalize (mendR L g).1.2 = B at *
  generalize (mendR L g).2 = d at *
  have C22 := Lib.hid (fun W oa ob c d (h1 : BytesAt W oa m B) (h2 : BytesAt W ob m B) => (bytes_any oa ob m c m d B B W h1 h2 (fun i _ => HM.out i) (fun i _ => HM.out i)).mono fun e w' hh => (show e = .returned (.bool true) ∧ W = w' from by rw [show eqB m m B B = true from eqB_iff.2 ⟨rfl, fun _ _ => rfl⟩] at hh; exact ⟨hh.1, hh.2.symm⟩))
  by_cases hL : 1010 < L
  · go_enter Tryz.func4, Tryz.ntmps4
    go_wp2_with (go_at_call 13; refine (CA.out _ (Below.refl _ _)).mono ?_; rintro e w1 ⟨rfl, hb1⟩)
    go_ret
    exact ⟨rfl, hb1⟩
  by_cases hL2 : 60 < L ∧ L ≤ 1000
  · obtain ⟨h1, h2⟩ := hL2
    go_enter Tryz.func4, Tryz.ntmps4
    go_wp2_with (go_at_call 13; refine (CA.out _ (Below.refl _ _)).mono ?_; rintro e w1 ⟨rfl, hb1⟩)
    go_ret
    exact ⟨rfl, hb1⟩
  have h3 : ¬ 60 < L ∨ (60 < L ∧ ¬ L ≤ 1000) := by omega
  clear hL2
  rcases h3 with h3 | ⟨h3, h4⟩
  all_goals
    go_enter Tryz.func4, Tryz.ntmps4
    go_upto_region 4 with (go_at_call 23; refine (C23.out _ (Below.refl _ _)).mono ?_; rintro e w1 ⟨hb1, sa, sc, ta, tc, rfl, hS, hT⟩)
    have al := (Below.refl w1.heap.size w1).alloc (Nat.le_refl _) (.cells #[.int .i64 x.cr, .slice sa x.sn sc, .slice ta x.tn tc] 38)
    have B2 := Lib.hid (hb1.next al)
    have X2 := Lib.hid (BW.new (sc := sc) (tc := tc) hS hT)
    clear hb1 hS hT al C23
    generalize World.alloc w1 _ = w2 at *
    generalize w1.heap.size = p at *
    go_upto_region 5 with (go_at_call 24; refine (C24.out _ B2.out).mono ?_; rintro e w3 ⟨hb3, sb, sd, tb, td, rfl, hS, hT⟩)
    have al := (Below.refl w3.heap.size w3).alloc (Nat.le_refl _) (.cells #[.int .i64 x.cr, .slice sb x.sn sd, .slice tb x.tn td] 38)
    have B4 := Lib.hid ((B2.out.next hb3).next al)
    have X4 := Lib.hid ((X2.out.grow hb3).grow al)
    have Y4 := Lib.hid (BW.new (sc := sd) (tc := td) hS hT)
    clear hb3 hS hT al C24 B2 X2
    generalize World.alloc w3 _ = w4 at *
    generalize w3.heap.size = q at *
    go_upto_region 6 with (go_at_call 25; refine (C25.out _ B4.out).mono ?_; rintro e w5 ⟨ma, mc, rfl, hm, hb5⟩)
    have B5 := Lib.hid (B4.out.next hb5)
    have X5 := Lib.hid (X4.out.grow hb5)
    have Y5 := Lib.hid (Y4.out.grow hb5)
    have M5 := Lib.hid hm
    clear hm hb5 C25 B4 X4 Y4
    go_upto_region 7 with (go_at_call 26; refine (C26.out _ B5.out).mono ?_; rintro e w6 ⟨mb, md, rfl, hm, hb6⟩)
    have B6 := Lib.hid (B5.out.next hb6)
    have X6 := Lib.hid (X5.out.grow hb6)
    have Y6 := Lib.hid (Y5.out.grow hb6)
    have M6 := Lib.hid (BytesAt.grow M5.out hb6)
    have N6 := Lib.hid hm
    clear hm hb6 C26 B5 X5 Y5 M5
    obtain ⟨q0, q1, q2⟩ := X6.out.cells
    obtain ⟨p0, p1, p2⟩ := Y6.out.cells
    have C27 := Lib.hid (sameRead_any HX.out X6.out Y6.out)
    go_wp2_with (first | (go_at_call 27; refine C27.out.mono ?_; rintro e w7 ⟨rfl, hb7⟩; have B7 := Lib.hid (B6.out.next hb7); have D22 := Lib.hid (C22.out w7 ma mb mc md (BytesAt.grow M6.out hb7) (BytesAt.grow N6.out hb7)); clear q0 q1 q2 p0 p1 p2 hb7) | (go_at_call 22; refine D22.out.mono ?_; rintro e w' ⟨rfl, rfl⟩) | (go_at_call 13; refine (CA.out _ B7.out).mono ?_; rintro e w8 ⟨rfl, hb8⟩))
    go_ret
    exact ⟨rfl, B7.out.next hb8⟩
end Go.Proofs.YtclbmlmlhiiaeaaGreatDoor
