/-
  Walks: BookWrites; what the laws are given.
-/
import Derived.Test.YtclbmlmlhiiaeaaGreatDoorT2
import Derived.Test.YtclbmlmlhiiaeaaGreatDoorT3
namespace Go.Proofs.YtclbmlmlhiiaeaaGreatDoor
open Go.RowKit

/-- A hull, a pitch, irons and wages that are given: where they stand. -/
structure HullA where
  (sa ua : Option Addr) (sn sc un uc : Nat) (S : Nat → Sea) (U : Nat → Sou)
structure PitA where
  (hr fr pe : Int) (fa qa : Option Addr) (fn fc qn qc : Nat) (F : Nat → Int) (Q : Nat → Pot)
structure IrA where
  (x : IronsV) (oa ma sa ca : Option Addr) (oc mc sc cc : Nat) (op sp : Nat → Option Addr) (ok sk : Nat → Nat)
structure WagA where
  (cr : Int) (sa ta : Option Addr) (sn sc tn tc : Nat) (S T : Nat → Nat → Int)
structure HullA.At (h : HullA) (W : World) : Prop where
  s : SeasAt W h.sa h.sn h.S
  u : SousAt W h.ua h.un h.U
structure PitA.At (p : PitA) (W : World) : Prop where
  f : IntsAt W p.fa p.fn p.F
  q : PotsAt W p.qa p.qn p.Q
abbrev IrA.At (x : IrA) (W : World) : Prop := IronsAt x.x x.oa x.ma x.sa x.ca x.oc x.mc x.sc x.cc x.op x.sp x.ok x.sk W
structure WagA.At (g : WagA) (W : World) : Prop where
  s : NumsAt W g.sa g.sn 2 g.S
  t : NumsAt W g.ta g.tn 8 g.T
theorem HullA.At.grow {h : HullA} {W W' : World} (x : h.At W) (hb : Below W.heap.size W W') : h.At W' := ⟨x.s.grow hb, x.u.grow hb⟩
theorem PitA.At.grow {p : PitA} {W W' : World} (x : p.At W) (hb : Below W.heap.size W W') : p.At W' := ⟨x.f.grow hb, x.q.grow hb⟩
theorem WagA.At.grow {g : WagA} {W W' : World} (x : g.At W) (hb : Below W.heap.size W W') : g.At W' := ⟨x.s.grow hb, x.t.grow hb⟩
/-- What stands in the world of a law: letters, tables. -/
structure Stands (w : World) : Prop where
  sides : Sides w
  lim : Lim w
  tab : Tab w
  size : 1 < w.heap.size
theorem Stands.grow {w W : World} (h : Stands w) (hb : Below w.heap.size w W) : Stands W :=
  ⟨h.sides.grow hb, h.lim.keep (Keep.of_below hb (C := fun k => k < w.heap.size) fun _ hk => hk) h.size, h.tab.grow hb, Nat.lt_of_lt_of_le h.size hb.size⟩
theorem awake_any {w : World} (h : Stands w) : Calls Tryz.prog 13 #[] w fun e w' => e = .returned (.bool true) ∧ Below w.heap.size w w' := awake13_any w h.sides h.lim h.tab h.size
/-- What is written: a text, and an error, or none. -/
def WroteT (s : List UInt8) (e : Int) : Value := .tuple #[.string ⟨s.toArray⟩, .int .i64 e]
theorem wroteHull_form (S : Nat → Sea) (n : Nat) (U : Nat → Sou) (m : Nat) : ∃ s e, wroteHull S n U m = WroteT s e := by
  unfold wroteHull
  split
  · exact ⟨_, _, rfl⟩
  · exact ⟨[], 1, rfl⟩
theorem wrotePitch_form (hr fr pe : Int) (F : Nat → Int) (fn : Nat) (Q : Nat → Pot) (qn : Nat) : ∃ s e, wrotePitch hr fr pe F fn Q qn = WroteT s e := by
  unfold wrotePitch
  split
  · exact ⟨_, _, rfl⟩
  · exact ⟨[], 1, rfl⟩
theorem wroteIrons_form (x : IronsV) : ∃ s e, wroteIrons x = WroteT s e := by
  unfold wroteIrons
  split
  · exact ⟨_, _, rfl⟩
  · exact ⟨[], 1, rfl⟩
/-- The book of wages, as bytes: how many, and which; and the error. -/
theorem wroteWages_form (g : WagA) : ∃ (n : Nat) (B : Nat → Nat) (x : Int), (∀ i, B i < 256) ∧ ∀ {w : World} {e : Ending} {w' : World}, WroteWages g.cr g.S g.sn g.T g.tn w e w' → ∃ oa cap, e = .returned (.tuple #[.slice oa n cap, .int .i64 x]) ∧ BytesAt w' oa n B ∧ Below w.heap.size w w' := by
  cases hB : wagesB g.cr g.S g.sn g.T g.tn with
  | true =>
    refine ⟨szB (bookN (wagesV g.cr g.S g.sn g.T g.tn)), bookB (wagesV g.cr g.S g.sn g.T g.tn), 0, book_lt _, fun h => ?_⟩
    obtain ⟨hb, h⟩ := h
    rw [if_pos hB] at h
    obtain ⟨oa, cap, e, h1, -, -⟩ := h
    exact ⟨oa, cap, e, h1, hb⟩
  | false =>
    refine ⟨0, fun _ => 0, 1, fun _ => (show (0 : Nat) < 256 by omega), fun h => ?_⟩
    obtain ⟨hb, h⟩ := h
    rw [if_neg (by rw [hB]; simp)] at h
    exact ⟨none, 0, h, row_none _ _ _, hb⟩
structure LA (w : World) (h : HullA) (p : PitA) (x : IrA) (g : WagA) (W : World) : Prop where
  bel : Below w.heap.size w W
  st : Stands W
  b0 : BoxAt W (w.heap.size ) #[.slice h.sa h.sn h.sc, .slice h.ua h.un h.uc] 25
  a0 : h.At W
  b1 : BoxAt W (w.heap.size + 1) #[.int .i64 p.hr, .int .i64 p.fr, .int .i64 p.pe, .slice p.fa p.fn p.fc, .slice p.qa p.qn p.qc] 29
  a1 : p.At W
  b2 : BoxAt W (w.heap.size + 1 + 1) #[.int .i64 x.x.f, .slice x.oa x.x.on x.oc, .slice x.ma x.x.mn x.mc, .slice x.sa x.x.sn x.sc, .slice x.ca x.x.cn x.cc] 34
  a2 : x.At W
  b3 : BoxAt W (w.heap.size + 1 + 1 + 1) #[.int .i64 g.cr, .slice g.sa g.sn g.sc, .slice g.ta g.tn g.tc] 38
  a3 : g.At W
theorem LA.grow {w W W' : World} {h : HullA} {p : PitA} {x : IrA} {g : WagA} (z : LA w h p x g W) (hb : Below W.heap.size W W') : LA w h p x g W' :=
  ⟨z.bel.next hb, z.st.grow hb, z.b0.grow hb, z.a0.grow hb, z.b1.grow hb, z.a1.grow hb, z.b2.grow hb, IronsAt.grow z.a2 hb, z.b3.grow hb, z.a3.grow hb⟩
set_option maxRecDepth 100000 in
set_option maxHeartbeats 4000000 in
theorem bookWrites3_any (h : HullA) (p : PitA) (x : IrA) (g : WagA) (w : World) (hh : h.At w) (hp : p.At w) (hx : x.At w) (hg : g.At w) (hst : Stands w) :
    Calls Tryz.prog 3 #[.agg #[.slice h.sa h.sn h.sc, .slice h.ua h.un h.uc], .agg #[.int .i64 p.hr, .int .i64 p.fr, .int .i64 p.pe, .slice p.fa p.fn p.fc, .slice p.qa p.qn p.qc], .agg #[.int .i64 x.x.f, .slice x.oa x.x.on x.oc, .slice x.ma x.x.mn x.mc, .slice x.sa x.x.sn x.sc, .slice x.ca x.x.cn x.cc], .agg #[.int .i64 g.cr, .slice g.sa g.sn g.sc, .slice g.ta g.tn g.tc]] w fun e w' => e = .returned (.bool true) ∧ Below w.heap.size w w' := by
  obtain ⟨s1, e1, k1⟩ := wroteHull_form h.S h.sn h.U h.un
  obtain ⟨s2, e2, k2⟩ := wrotePitch_form p.hr p.fr p.pe p.F p.fn p.Q p.qn
  obtain ⟨s3, e3, k3⟩ := wroteIrons_form x.x
  obtain ⟨m, B, e4, hB8, k4⟩ := wroteWages_form g
  have C12 := Lib.hid (fun W (I : LA w h p x g W) => far12_any h.sa h.ua p.fa p.qa x.oa x.ma x.sa x.ca g.sa g.ta h.sn h.sc h.un h.uc p.fn p.fc p.qn p.qc x.x.on x.oc x.x.mn x.mc x.x.sn x.sc x.x.cn x.cc g.sn g.sc g.tn g.tc p.hr p.fr p.pe x.x.f g.cr x.op x.sp x.x.ol x.ok x.x.sl x.sk W I.a2.o I.a2.s)
  have C14 := Lib.hid (fun W (I : LA w h p x g W) => (show Calls Tryz.prog 14 #[.agg #[.slice h.sa h.sn h.sc, .slice h.ua h.un h.uc]] W fun e w' => e = .returned (.tuple #[.string ⟨s1.toArray⟩, .int .i64 e1]) ∧ Below W.heap.size W w' from by have hc := writeHull14_any h.sa h.ua h.sn h.sc h.un h.uc h.S h.U W I.a0.s I.a0.u I.st.tab I.st.sides; rw [k1] at hc; exact hc))
  have C15 := Lib.hid (fun W (I : LA w h p x g W) => (show Calls Tryz.prog 15 #[.agg #[.slice h.sa h.sn h.sc, .slice h.ua h.un h.uc]] W fun e w' => e = .returned (.tuple #[.string ⟨s1.toArray⟩, .int .i64 e1]) ∧ Below W.heap.size W w' from by have hc := writeHull15_any h.sa h.ua h.sn h.sc h.un h.uc h.S h.U W I.a0.s I.a0.u I.st.tab; rw [k1] at hc; exact hc))
  have C16 := Lib.hid (fun W (I : LA w h p x g W) => (show Calls Tryz.prog 16 #[.agg #[.int .i64 p.hr, .int .i64 p.fr, .int .i64 p.pe, .slice p.fa p.fn p.fc, .slice p.qa p.qn p.qc]] W fun e w' => e = .returned (.tuple #[.string ⟨s2.toArray⟩, .int .i64 e2]) ∧ Below W.heap.size W w' from by have hc := writesPitch_any p.hr p.fr p.pe p.fa p.qa p.fn p.fc p.qn p.qc p.F p.Q W ⟨I.a1.f, I.a1.q, I.st.tab⟩; rw [k2] at hc; exact hc))
  have C17 := Lib.hid (fun W (I : LA w h p x g W) => (show Calls Tryz.prog 17 #[.agg #[.int .i64 p.hr, .int .i64 p.fr, .int .i64 p.pe, .slice p.fa p.fn p.fc, .slice p.qa p.qn p.qc]] W fun e w' => e = .returned (.tuple #[.string ⟨s2.toArray⟩, .int .i64 e2]) ∧ Below W.heap.size W w' from by have hc := refWritePitch_any p.hr p.fr p.pe p.fa p.qa p.fn p.fc p.qn p.qc p.F p.Q W ⟨I.a1.f, I.a1.q, I.st.tab⟩; rw [k2] at hc; exact hc))
  have C18 := Lib.hid (fun W (I : LA w h p x g W) => (show Calls Tryz.prog 18 #[.agg #[.int .i64 x.x.f, .slice x.oa x.x.on x.oc, .slice x.ma x.x.mn x.mc, .slice x.sa x.x.sn x.sc, .slice x.ca x.x.cn x.cc]] W fun e w' => e = .returned (.tuple #[.string ⟨s3.toArray⟩, .int .i64 e3]) ∧ Below W.heap.size W w' from by have hc := writesIrons_any x.x x.oa x.ma x.sa x.ca x.oc x.mc x.sc x.cc x.op x.sp x.ok x.sk W ⟨I.a2, I.st.tab⟩; rw [k3] at hc; exact hc))
  have C19 := Lib.hid (fun W (I : LA w h p x g W) => (show Calls Tryz.prog 19 #[.agg #[.int .i64 x.x.f, .slice x.oa x.x.on x.oc, .slice x.ma x.x.mn x.mc, .slice x.sa x.x.sn x.sc, .slice x.ca x.x.cn x.cc]] W fun e w' => e = .returned (.tuple #[.string ⟨s3.toArray⟩, .int .i64 e3]) ∧ Below W.heap.size W w' from by have hc := refWriteIrons_any x.x x.oa x.ma x.sa x.ca x.oc x.mc x.sc x.cc x.op x.sp x.ok x.sk W ⟨I.a2, I.st.tab⟩; rw [k3] at hc; exact hc))
  have C20 := Lib.hid (fun W (I : LA w h p x g W) => (writeWages20_any g.cr g.sa g.ta g.sn g.sc g.tn g.tc g.S g.T W I.a3.s I.a3.t).mono fun e w' hh => k4 hh)
  have C21 := Lib.hid (fun W (I : LA w h p x g W) => (refWriteWages21_any g.cr g.sa g.ta g.sn g.sc g.tn g.tc g.S g.T W I.a3.s I.a3.t).mono fun e w' hh => k4 hh)
  have C22 := Lib.hid (fun W oa ob c d (h1 : BytesAt W oa m B) (h2 : BytesAt W ob m B) => (bytes_any oa ob m c m d B B W h1 h2 (fun i _ => hB8 i) (fun i _ => hB8 i)).mono fun e w' hh => (show e = .returned (.bool true) ∧ W = w' from by rw [show eqB m m B B = true from eqB_iff.2 ⟨rfl, fun _ _ => rfl⟩] at hh; exact ⟨hh.1, hh.2.symm⟩))
  clear k1 k2 k3 k4 hB8
  go_enter Tryz.func3, Tryz.ntmps3
  go_upto_region 1 with (fail)
  generalize hW : World.alloc _ _ = W0
  obtain ⟨z0, z1, z2, z3, -, hB⟩ := blocks4 hW
  have I0 := Lib.hid (show LA w h p x g W0 from ⟨hB, hst.grow hB, z0, hh.grow hB, z1, hp.grow hB, z2, IronsAt.grow hx hB, z3, hg.grow hB⟩)
  clear hW z0 z1 z2 z3 hB hst hh hp hx hg
  have q00 := cellAt I0.out.b0 0
  have q01 := cellAt I0.out.b0 1
  have q10 := cellAt I0.out.b1 0
  have q11 := cellAt I0.out.b1 1
  have q12 := cellAt I0.out.b1 2
  have q13 := cellAt I0.out.b1 3
  have q14 := cellAt I0.out.b1 4
  have q20 := cellAt I0.out.b2 0
  have q21 := cellAt I0.out.b2 1
  have q22 := cellAt I0.out.b2 2
  have q23 := cellAt I0.out.b2 3
  have q24 := cellAt I0.out.b2 4
  have q30 := cellAt I0.out.b3 0
  have q31 := cellAt I0.out.b3 1
  have q32 := cellAt I0.out.b3 2
  simp only [List.getElem?_toArray, List.getElem?_cons_zero, List.getElem?_cons_succ] at q00 q01 q10 q11 q12 q13 q14 q20 q21 q22 q23 q24 q30 q31 q32
  go_wp2_with (go_at_call 12; refine (C12.out _ I0.out).mono ?_)
  rintro e w1 ⟨⟨b, rfl⟩, hb1⟩
  have I1 := Lib.hid (I0.out.grow hb1)
  clear hb1 I0 C12 q00 q01 q10 q11 q12 q13 q14 q20 q21 q22 q23 q24 q30 q31 q32
  cases b with
  | true =>
    go_wp2_with (go_at_call 13; refine (awake_any I1.out.st).mono ?_; rintro e w2 ⟨rfl, hb2⟩)
    go_ret
    exact ⟨rfl, I1.out.bel.next hb2⟩
  | false =>
    have q00 := cellAt I1.out.b0 0
    have q01 := cellAt I1.out.b0 1
    simp only [List.getElem?_toArray, List.getElem?_cons_zero, List.getElem?_cons_succ] at q00 q01
    go_wp2_with (go_at_call 14; refine (C14.out _ I1.out).mono ?_)
    rintro e w2 ⟨rfl, hb⟩
    have I2 := Lib.hid (I1.out.grow hb)
    clear hb I1 C14 q00 q01
    have q00 := cellAt I2.out.b0 0
    have q01 := cellAt I2.out.b0 1
    simp only [List.getElem?_toArray, List.getElem?_cons_zero, List.getElem?_cons_succ] at q00 q01
    go_wp2_with (go_at_call 15; refine (C15.out _ I2.out).mono ?_)
    rintro e w3 ⟨rfl, hb⟩
    have I3 := Lib.hid (I2.out.grow hb)
    clear hb I2 C15 q00 q01
    have q10 := cellAt I3.out.b1 0
    have q11 := cellAt I3.out.b1 1
    have q12 := cellAt I3.out.b1 2
    have q13 := cellAt I3.out.b1 3
    have q14 := cellAt I3.out.b1 4
    simp only [List.getElem?_toArray, List.getElem?_cons_zero, List.getElem?_cons_succ] at q10 q11 q12 q13 q14
    go_wp2_with (go_at_call 16; refine (C16.out _ I3.out).mono ?_)
    rintro e w4 ⟨rfl, hb⟩
    have I4 := Lib.hid (I3.out.grow hb)
    clear hb I3 C16 q10 q11 q12 q13 q14
    have q10 := cellAt I4.out.b1 0
    have q11 := cellAt I4.out.b1 1
    have q12 := cellAt I4.out.b1 2
    have q13 := cellAt I4.out.b1 3
    have q14 := cellAt I4.out.b1 4
    simp only [List.getElem?_toArray, List.getElem?_cons_zero, List.getElem?_cons_succ] at q10 q11 q12 q13 q14
    go_wp2_with (go_at_call 17; refine (C17.out _ I4.out).mono ?_)
    rintro e w5 ⟨rfl, hb⟩
    have I5 := Lib.hid (I4.out.grow hb)
    clear hb I4 C17 q10 q11 q12 q13 q14
    have q20 := cellAt I5.out.b2 0
    have q21 := cellAt I5.out.b2 1
    have q22 := cellAt I5.out.b2 2
    have q23 := cellAt I5.out.b2 3
    have q24 := cellAt I5.out.b2 4
    simp only [List.getElem?_toArray, List.getElem?_cons_zero, List.getElem?_cons_succ] at q20 q21 q22 q23 q24
    go_wp2_with (go_at_call 18; refine (C18.out _ I5.out).mono ?_)
    rintro e w6 ⟨rfl, hb⟩
    have I6 := Lib.hid (I5.out.grow hb)
    clear hb I5 C18 q20 q21 q22 q23 q24
    have q20 := cellAt I6.out.b2 0
    have q21 := cellAt I6.out.b2 1
    have q22 := cellAt I6.out.b2 2
    have q23 := cellAt I6.out.b2 3
    have q24 := cellAt I6.out.b2 4
    simp only [List.getElem?_toArray, List.getElem?_cons_zero, List.getElem?_cons_succ] at q20 q21 q22 q23 q24
    go_wp2_with (go_at_call 19; refine (C19.out _ I6.out).mono ?_)
    rintro e w7 ⟨rfl, hb⟩
    have I7 := Lib.hid (I6.out.grow hb)
    clear hb I6 C19 q20 q21 q22 q23 q24
    have q30 := cellAt I7.out.b3 0
    have q31 := cellAt I7.out.b3 1
    have q32 := cellAt I7.out.b3 2
    simp only [List.getElem?_toArray, List.getElem?_cons_zero, List.getElem?_cons_succ] at q30 q31 q32
    go_wp2_with (go_at_call 20; refine (C20.out _ I7.out).mono ?_)
    rintro e w8 ⟨oa, oc, rfl, ho, hb⟩
    have I8 := Lib.hid (I7.out.grow hb)
    have HO := Lib.hid (fun W (hb : Below w8.heap.size w8 W) => BytesAt.grow ho hb)
    clear ho hb I7 C20 q30 q31 q32
    have q30 := cellAt I8.out.b3 0
    have q31 := cellAt I8.out.b3 1
    have q32 := cellAt I8.out.b3 2
    simp only [List.getElem?_toArray, List.getElem?_cons_zero, List.getElem?_cons_succ] at q30 q31 q32
    go_wp2_with (go_at_call 21; refine (C21.out _ I8.out).mono ?_)
    rintro e w9 ⟨ob, od, rfl, ho, hb⟩
    have I9 := Lib.hid (I8.out.grow hb)
    have C := Lib.hid (C22.out _ oa ob oc od (HO.out _ hb) ho)
    clear ho hb I8 C21 C22 HO q30 q31 q32
    go_wp2_with (first | (go_at_call 22; refine C.out.mono ?_; rintro e w' ⟨rfl, rfl⟩) | (go_at_call 13; refine (awake_any I9.out.st).mono ?_; rintro e w20 ⟨rfl, hb20⟩))
    go_ret
    exact ⟨rfl, I9.out.bel.next hb20⟩
end Go.Proofs.YtclbmlmlhiiaeaaGreatDoor
