/-
  Walks: BookApart.
-/
import Derived.Test.YtclbmlmlhiiaeaaGreatDoorT6
import Derived.Test.YtclbmlmlhiiaeaaGreatDoorP4
namespace Go.Proofs.YtclbmlmlhiiaeaaGreatDoor
open Go.RowKit

theorem blocks8 {w W : World} {a b c d e f g h : Obj} (hh : (((((((w.alloc a).alloc b).alloc c).alloc d).alloc e).alloc f).alloc g).alloc h = W) : W.heap[w.heap.size]? = some a ∧ W.heap[w.heap.size + 1]? = some b ∧ W.heap[w.heap.size + 1 + 1]? = some c ∧ W.heap[w.heap.size + 1 + 1 + 1]? = some d ∧ W.heap[w.heap.size + 1 + 1 + 1 + 1]? = some e ∧ W.heap[w.heap.size + 1 + 1 + 1 + 1 + 1]? = some f ∧ W.heap[w.heap.size + 1 + 1 + 1 + 1 + 1 + 1]? = some g ∧ W.heap[w.heap.size + 1 + 1 + 1 + 1 + 1 + 1 + 1]? = some h ∧ Below w.heap.size w W := by
  subst hh
  refine ⟨?_, ?_, ?_, ?_, ?_, ?_, ?_, ?_, ((((((((Below.refl w.heap.size w).alloc (Nat.le_refl _) _).alloc (by simp) _).alloc (by simp; omega) _).alloc (by simp; omega) _).alloc (by simp; omega) _).alloc (by simp; omega) _).alloc (by simp; omega) _).alloc (by simp; omega) _⟩
  all_goals simp only [heapAlloc, sizeAlloc]; repeat (first | rfl | rw [if_pos trivial] | rw [if_neg (by omega)])
structure LB (w : World) (a b : HullA) (c d : PitA) (e f : IrA) (g h : WagA) (W : World) : Prop where
  bel : Below w.heap.size w W
  st : Stands W
  b0 : BoxAt W (w.heap.size ) #[.slice a.sa a.sn a.sc, .slice a.ua a.un a.uc] 25
  a0 : a.At W
  b1 : BoxAt W (w.heap.size + 1) #[.slice b.sa b.sn b.sc, .slice b.ua b.un b.uc] 25
  a1 : b.At W
  b2 : BoxAt W (w.heap.size + 1 + 1) #[.int .i64 c.hr, .int .i64 c.fr, .int .i64 c.pe, .slice c.fa c.fn c.fc, .slice c.qa c.qn c.qc] 29
  a2 : c.At W
  b3 : BoxAt W (w.heap.size + 1 + 1 + 1) #[.int .i64 d.hr, .int .i64 d.fr, .int .i64 d.pe, .slice d.fa d.fn d.fc, .slice d.qa d.qn d.qc] 29
  a3 : d.At W
  b4 : BoxAt W (w.heap.size + 1 + 1 + 1 + 1) #[.int .i64 e.x.f, .slice e.oa e.x.on e.oc, .slice e.ma e.x.mn e.mc, .slice e.sa e.x.sn e.sc, .slice e.ca e.x.cn e.cc] 34
  a4 : e.At W
  b5 : BoxAt W (w.heap.size + 1 + 1 + 1 + 1 + 1) #[.int .i64 f.x.f, .slice f.oa f.x.on f.oc, .slice f.ma f.x.mn f.mc, .slice f.sa f.x.sn f.sc, .slice f.ca f.x.cn f.cc] 34
  a5 : f.At W
  b6 : BoxAt W (w.heap.size + 1 + 1 + 1 + 1 + 1 + 1) #[.int .i64 g.cr, .slice g.sa g.sn g.sc, .slice g.ta g.tn g.tc] 38
  a6 : g.At W
  b7 : BoxAt W (w.heap.size + 1 + 1 + 1 + 1 + 1 + 1 + 1) #[.int .i64 h.cr, .slice h.sa h.sn h.sc, .slice h.ta h.tn h.tc] 38
  a7 : h.At W
theorem LB.grow {w W W' : World} {a b : HullA} {c d : PitA} {e f : IrA} {g h : WagA} (z : LB w a b c d e f g h W) (hb : Below W.heap.size W W') : LB w a b c d e f g h W' :=
  ⟨z.bel.next hb, z.st.grow hb, z.b0.grow hb, z.a0.grow hb, z.b1.grow hb, z.a1.grow hb, z.b2.grow hb, z.a2.grow hb, z.b3.grow hb, z.a3.grow hb, z.b4.grow hb, IronsAt.grow z.a4 hb, z.b5.grow hb, IronsAt.grow z.a5 hb, z.b6.grow hb, z.a6.grow hb, z.b7.grow hb, z.a7.grow hb⟩
theorem LB.cells {w W : World} {a b : HullA} {c d : PitA} {e f : IrA} {g h : WagA} (z : LB w a b c d e f g h W) : W.cell? ⟨w.heap.size + 1 + 1 + 1 + 1, 0, none⟩ = some (.int .i64 e.x.f) ∧ W.cell? ⟨w.heap.size + 1 + 1 + 1 + 1, 1, none⟩ = some (.slice e.oa e.x.on e.oc) ∧ W.cell? ⟨w.heap.size + 1 + 1 + 1 + 1, 2, none⟩ = some (.slice e.ma e.x.mn e.mc) ∧ W.cell? ⟨w.heap.size + 1 + 1 + 1 + 1, 3, none⟩ = some (.slice e.sa e.x.sn e.sc) ∧ W.cell? ⟨w.heap.size + 1 + 1 + 1 + 1, 4, none⟩ = some (.slice e.ca e.x.cn e.cc) ∧ W.cell? ⟨w.heap.size + 1 + 1 + 1 + 1 + 1, 0, none⟩ = some (.int .i64 f.x.f) ∧ W.cell? ⟨w.heap.size + 1 + 1 + 1 + 1 + 1, 1, none⟩ = some (.slice f.oa f.x.on f.oc) ∧ W.cell? ⟨w.heap.size + 1 + 1 + 1 + 1 + 1, 2, none⟩ = some (.slice f.ma f.x.mn f.mc) ∧ W.cell? ⟨w.heap.size + 1 + 1 + 1 + 1 + 1, 3, none⟩ = some (.slice f.sa f.x.sn f.sc) ∧ W.cell? ⟨w.heap.size + 1 + 1 + 1 + 1 + 1, 4, none⟩ = some (.slice f.ca f.x.cn f.cc) ∧ W.cell? ⟨w.heap.size + 1 + 1 + 1 + 1 + 1 + 1, 0, none⟩ = some (.int .i64 g.cr) ∧ W.cell? ⟨w.heap.size + 1 + 1 + 1 + 1 + 1 + 1, 1, none⟩ = some (.slice g.sa g.sn g.sc) ∧ W.cell? ⟨w.heap.size + 1 + 1 + 1 + 1 + 1 + 1, 2, none⟩ = some (.slice g.ta g.tn g.tc) ∧ W.cell? ⟨w.heap.size + 1 + 1 + 1 + 1 + 1 + 1 + 1, 0, none⟩ = some (.int .i64 h.cr) ∧ W.cell? ⟨w.heap.size + 1 + 1 + 1 + 1 + 1 + 1 + 1, 1, none⟩ = some (.slice h.sa h.sn h.sc) ∧ W.cell? ⟨w.heap.size + 1 + 1 + 1 + 1 + 1 + 1 + 1, 2, none⟩ = some (.slice h.ta h.tn h.tc) :=
  ⟨cellAt z.b4 0, cellAt z.b4 1, cellAt z.b4 2, cellAt z.b4 3, cellAt z.b4 4, cellAt z.b5 0, cellAt z.b5 1, cellAt z.b5 2, cellAt z.b5 3, cellAt z.b5 4, cellAt z.b6 0, cellAt z.b6 1, cellAt z.b6 2, cellAt z.b7 0, cellAt z.b7 1, cellAt z.b7 2⟩
set_option maxRecDepth 100000 in
set_option maxHeartbeats 16000000 in
theorem bookApart5_any (a b : HullA) (c d : PitA) (e f : IrA) (g h : WagA) (w : World) (h0 : a.At w) (h1 : b.At w) (h2 : c.At w) (h3 : d.At w) (h4 : e.At w) (h5 : f.At w) (h6 : g.At w) (h7 : h.At w) (hst : Stands w) :
    Calls Tryz.prog 5 #[.agg #[.slice a.sa a.sn a.sc, .slice a.ua a.un a.uc], .agg #[.slice b.sa b.sn b.sc, .slice b.ua b.un b.uc], .agg #[.int .i64 c.hr, .int .i64 c.fr, .int .i64 c.pe, .slice c.fa c.fn c.fc, .slice c.qa c.qn c.qc], .agg #[.int .i64 d.hr, .int .i64 d.fr, .int .i64 d.pe, .slice d.fa d.fn d.fc, .slice d.qa d.qn d.qc], .agg #[.int .i64 e.x.f, .slice e.oa e.x.on e.oc, .slice e.ma e.x.mn e.mc, .slice e.sa e.x.sn e.sc, .slice e.ca e.x.cn e.cc], .agg #[.int .i64 f.x.f, .slice f.oa f.x.on f.oc, .slice f.ma f.x.mn f.mc, .slice f.sa f.x.sn f.sc, .slice f.ca f.x.cn f.cc], .agg #[.int .i64 g.cr, .slice g.sa g.sn g.sc, .slice g.ta g.tn g.tc], .agg #[.int .i64 h.cr, .slice h.sa h.sn h.sc, .slice h.ta h.tn h.tc]] w fun e w' => e = .returned (.bool true) ∧ Below w.heap.size w w' := by
  obtain ⟨s0, e0, k0, v0⟩ := wroteHull_ok a.S a.sn a.U a.un
  obtain ⟨s1, e1, k1, v1⟩ := wroteHull_ok b.S b.sn b.U b.un
  obtain ⟨s2, e2, k2, v2⟩ := wrotePitch_ok c.hr c.fr c.pe c.F c.fn c.Q c.qn
  obtain ⟨s3, e3, k3, v3⟩ := wrotePitch_ok d.hr d.fr d.pe d.F d.fn d.Q d.qn
  obtain ⟨s4, e4, k4, v4⟩ := wroteIrons_ok e.x
  obtain ⟨s5, e5, k5, v5⟩ := wroteIrons_ok f.x
  obtain ⟨m6, B6, e6, l6, k6, v6⟩ := wroteWages_ok g
  obtain ⟨m7, B7, e7, l7, k7, v7⟩ := wroteWages_ok h
  have C12 := Lib.hid (fun W (I : LB w a b c d e f g h W) => far12_any a.sa a.ua c.fa c.qa e.oa e.ma e.sa e.ca g.sa g.ta a.sn a.sc a.un a.uc c.fn c.fc c.qn c.qc e.x.on e.oc e.x.mn e.mc e.x.sn e.sc e.x.cn e.cc g.sn g.sc g.tn g.tc c.hr c.fr c.pe e.x.f g.cr e.op e.sp e.x.ol e.ok e.x.sl e.sk W I.a4.o I.a4.s)
  have D12 := Lib.hid (fun W (I : LB w a b c d e f g h W) => far12_any b.sa b.ua d.fa d.qa f.oa f.ma f.sa f.ca h.sa h.ta b.sn b.sc b.un b.uc d.fn d.fc d.qn d.qc f.x.on f.oc f.x.mn f.mc f.x.sn f.sc f.x.cn f.cc h.sn h.sc h.tn h.tc d.hr d.fr d.pe f.x.f h.cr f.op f.sp f.x.ol f.ok f.x.sl f.sk W I.a5.o I.a5.s)
  have KW0 := Lib.hid (fun W (I : LB w a b c d e f g h W) => (show Calls Tryz.prog 14 #[.agg #[.slice a.sa a.sn a.sc, .slice a.ua a.un a.uc]] W fun e w' => e = .returned (.tuple #[.string ⟨s0.toArray⟩, .int .i64 e0]) ∧ Below W.heap.size W w' from by have hc := writeHull14_any a.sa a.ua a.sn a.sc a.un a.uc a.S a.U W I.a0.s I.a0.u I.st.tab I.st.sides; rw [k0] at hc; exact hc))
  have KW1 := Lib.hid (fun W (I : LB w a b c d e f g h W) => (show Calls Tryz.prog 14 #[.agg #[.slice b.sa b.sn b.sc, .slice b.ua b.un b.uc]] W fun e w' => e = .returned (.tuple #[.string ⟨s1.toArray⟩, .int .i64 e1]) ∧ Below W.heap.size W w' from by have hc := writeHull14_any b.sa b.ua b.sn b.sc b.un b.uc b.S b.U W I.a1.s I.a1.u I.st.tab I.st.sides; rw [k1] at hc; exact hc))
  have KW2 := Lib.hid (fun W (I : LB w a b c d e f g h W) => (show Calls Tryz.prog 16 #[.agg #[.int .i64 c.hr, .int .i64 c.fr, .int .i64 c.pe, .slice c.fa c.fn c.fc, .slice c.qa c.qn c.qc]] W fun e w' => e = .returned (.tuple #[.string ⟨s2.toArray⟩, .int .i64 e2]) ∧ Below W.heap.size W w' from by have hc := writesPitch_any c.hr c.fr c.pe c.fa c.qa c.fn c.fc c.qn c.qc c.F c.Q W ⟨I.a2.f, I.a2.q, I.st.tab⟩; rw [k2] at hc; exact hc))
  have KW3 := Lib.hid (fun W (I : LB w a b c d e f g h W) => (show Calls Tryz.prog 16 #[.agg #[.int .i64 d.hr, .int .i64 d.fr, .int .i64 d.pe, .slice d.fa d.fn d.fc, .slice d.qa d.qn d.qc]] W fun e w' => e = .returned (.tuple #[.string ⟨s3.toArray⟩, .int .i64 e3]) ∧ Below W.heap.size W w' from by have hc := writesPitch_any d.hr d.fr d.pe d.fa d.qa d.fn d.fc d.qn d.qc d.F d.Q W ⟨I.a3.f, I.a3.q, I.st.tab⟩; rw [k3] at hc; exact hc))
  have KW4 := Lib.hid (fun W (I : LB w a b c d e f g h W) => (show Calls Tryz.prog 18 #[.agg #[.int .i64 e.x.f, .slice e.oa e.x.on e.oc, .slice e.ma e.x.mn e.mc, .slice e.sa e.x.sn e.sc, .slice e.ca e.x.cn e.cc]] W fun e w' => e = .returned (.tuple #[.string ⟨s4.toArray⟩, .int .i64 e4]) ∧ Below W.heap.size W w' from by have hc := writesIrons_any e.x e.oa e.ma e.sa e.ca e.oc e.mc e.sc e.cc e.op e.sp e.ok e.sk W ⟨I.a4, I.st.tab⟩; rw [k4] at hc; exact hc))
  have KW5 := Lib.hid (fun W (I : LB w a b c d e f g h W) => (show Calls Tryz.prog 18 #[.agg #[.int .i64 f.x.f, .slice f.oa f.x.on f.oc, .slice f.ma f.x.mn f.mc, .slice f.sa f.x.sn f.sc, .slice f.ca f.x.cn f.cc]] W fun e w' => e = .returned (.tuple #[.string ⟨s5.toArray⟩, .int .i64 e5]) ∧ Below W.heap.size W w' from by have hc := writesIrons_any f.x f.oa f.ma f.sa f.ca f.oc f.mc f.sc f.cc f.op f.sp f.ok f.sk W ⟨I.a5, I.st.tab⟩; rw [k5] at hc; exact hc))
  have KW6 := Lib.hid (fun W (I : LB w a b c d e f g h W) => (writeWages20_any g.cr g.sa g.ta g.sn g.sc g.tn g.tc g.S g.T W I.a6.s I.a6.t).mono fun e w' hh => k6 hh)
  have KW7 := Lib.hid (fun W (I : LB w a b c d e f g h W) => (writeWages20_any h.cr h.sa h.ta h.sn h.sc h.tn h.tc h.S h.T W I.a7.s I.a7.t).mono fun e w' hh => k7 hh)
  have C28 := Lib.hid (fun (h0 : e0 = 0) (h1 : e1 = 0) W (I : LB w a b c d e f g h W) => (show Calls Tryz.prog 28 #[.agg #[.slice a.sa a.sn a.sc, .slice a.ua a.un a.uc], .agg #[.slice b.sa b.sn b.sc, .slice b.ua b.un b.uc]] W fun e w' => e = .returned (.bool (s0 == s1)) ∧ Below W.heap.size W w' from by rw [(v0.1 h0).2, (v1.1 h1).2]; exact sameHulls28_any a.sa a.ua b.sa b.ua a.sn a.sc a.un a.uc b.sn b.sc b.un b.uc a.S b.S a.U b.U W I.a0.s I.a0.u I.a1.s I.a1.u (v0.1 h0).1 (v1.1 h1).1 I.st.tab))
  have C29 := Lib.hid (fun (h0 : e2 = 0) (h1 : e3 = 0) W (I : LB w a b c d e f g h W) => (show Calls Tryz.prog 29 #[.agg #[.int .i64 c.hr, .int .i64 c.fr, .int .i64 c.pe, .slice c.fa c.fn c.fc, .slice c.qa c.qn c.qc], .agg #[.int .i64 d.hr, .int .i64 d.fr, .int .i64 d.pe, .slice d.fa d.fn d.fc, .slice d.qa d.qn d.qc]] W fun e w' => e = .returned (.bool (s2 == s3)) ∧ Below W.heap.size W w' from by rw [(v2.1 h0).2, (v3.1 h1).2]; exact samePitch29_any c d W I.a2 I.a3 (v2.1 h0).1 (v3.1 h1).1 I.st.tab))
  have C30 := Lib.hid (fun (h0 : e4 = 0) (h1 : e5 = 0) W (I : LB w a b c d e f g h W) => (show Calls Tryz.prog 30 #[.agg #[.int .i64 e.x.f, .slice e.oa e.x.on e.oc, .slice e.ma e.x.mn e.mc, .slice e.sa e.x.sn e.sc, .slice e.ca e.x.cn e.cc], .agg #[.int .i64 f.x.f, .slice f.oa f.x.on f.oc, .slice f.ma f.x.mn f.mc, .slice f.sa f.x.sn f.sc, .slice f.ca f.x.cn f.cc]] W fun e w' => e = .returned (.bool (s4 == s5)) ∧ Below W.heap.size W w' from by rw [(v4.1 h0).2, (v5.1 h1).2, ← sameI_text (v4.1 h0).1 (v5.1 h1).1]; exact sameIrons30_any e f W I.a4 I.a5 (v4.1 h0).1 (v5.1 h1).1 I.st.tab))
  have C22 := Lib.hid (fun W oa ob c d (h1 : BytesAt W oa m6 B6) (h2 : BytesAt W ob m7 B7) => (bytes_any oa ob m6 c m7 d B6 B7 W h1 h2 (fun i _ => l6 i) (fun i _ => l7 i)).mono fun e w' hh => (show e = .returned (.bool (eqB m6 m7 B6 B7)) ∧ W = w' from ⟨hh.1, hh.2.symm⟩))
  have C27 := Lib.hid (fun (h0 : e6 = 0) (h1 : e7 = 0) W (I : LB w a b c d e f g h W) => (show Calls Tryz.prog 27 #[.agg #[.int .i64 g.cr, .slice g.sa g.sn g.sc, .slice g.ta g.tn g.tc], .agg #[.int .i64 h.cr, .slice h.sa h.sn h.sc, .slice h.ta h.tn h.tc]] W fun e w' => e = .returned (.bool (eqB m6 m7 B6 B7)) ∧ Below W.heap.size W w' from sameWages_any (v6.1 h0) (v7.1 h1) I.a6 I.a7))
  have V0 := Lib.hid v0.2
  have V1 := Lib.hid v1.2
  have V2 := Lib.hid v2.2
  have V3 := Lib.hid v3.2
  have V4 := Lib.hid v4.2
  have V5 := Lib.hid v5.2
  have V6 := Lib.hid v6.2
  have V7 := Lib.hid v7.2
  clear k0 k1 k2 k3 k4 k5 k6 k7 v0 v1 v2 v3 v4 v5 v6 v7 l6 l7
  generalize eqB m6 m7 B6 B7 = E at *
  go_enter Tryz.func5, Tryz.ntmps5
  go_upto_region 1 with (fail)
  generalize hW : World.alloc _ _ = W0
  obtain ⟨z0, z1, z2, z3, z4, z5, z6, z7, hB⟩ := blocks8 hW
  have I0 := Lib.hid (show LB w a b c d e f g h W0 from ⟨hB, hst.grow hB, z0, h0.grow hB, z1, h1.grow hB, z2, h2.grow hB, z3, h3.grow hB, z4, IronsAt.grow h4 hB, z5, IronsAt.grow h5 hB, z6, h6.grow hB, z7, h7.grow hB⟩)
  clear hW z0 z1 z2 z3 z4 z5 z6 z7 hB hst h0 h1 h2 h3 h4 h5 h6 h7
  have q00 := cellAt I0.out.b0 0
  have q01 := cellAt I0.out.b0 1
  have q20 := cellAt I0.out.b2 0
  have q21 := cellAt I0.out.b2 1
  have q22 := cellAt I0.out.b2 2
  have q23 := cellAt I0.out.b2 3
  have q24 := cellAt I0.out.b2 4
  have q40 := cellAt I0.out.b4 0
  have q41 := cellAt I0.out.b4 1
  have q42 := cellAt I0.out.b4 2
  have q43 := cellAt I0.out.b4 3
  have q44 := cellAt I0.out.b4 4
  have q60 := cellAt I0.out.b6 0
  have q61 := cellAt I0.out.b6 1
  have q62 := cellAt I0.out.b6 2
  simp only [List.getElem?_toArray, List.getElem?_cons_zero, List.getElem?_cons_succ] at q00 q01 q20 q21 q22 q23 q24 q40 q41 q42 q43 q44 q60 q61 q62
  go_wp2_with (go_at_call 12; refine (C12.out _ I0.out).mono ?_)
  rintro e w1 ⟨⟨b1, rfl⟩, hb1⟩
  have I1 := Lib.hid (I0.out.grow hb1)
  clear hb1 I0 C12 q00 q01 q20 q21 q22 q23 q24 q40 q41 q42 q43 q44 q60 q61 q62
  cases b1 with
  | true =>
    go_wp2_with (go_at_call 13; refine (awake_any I1.out.st).mono ?_; rintro e w2 ⟨rfl, hb2⟩)
    go_ret
    exact ⟨rfl, I1.out.bel.next hb2⟩
  | false =>
    have q10 := cellAt I1.out.b1 0
    have q11 := cellAt I1.out.b1 1
    have q30 := cellAt I1.out.b3 0
    have q31 := cellAt I1.out.b3 1
    have q32 := cellAt I1.out.b3 2
    have q33 := cellAt I1.out.b3 3
    have q34 := cellAt I1.out.b3 4
    have q50 := cellAt I1.out.b5 0
    have q51 := cellAt I1.out.b5 1
    have q52 := cellAt I1.out.b5 2
    have q53 := cellAt I1.out.b5 3
    have q54 := cellAt I1.out.b5 4
    have q70 := cellAt I1.out.b7 0
    have q71 := cellAt I1.out.b7 1
    have q72 := cellAt I1.out.b7 2
    simp only [List.getElem?_toArray, List.getElem?_cons_zero, List.getElem?_cons_succ] at q10 q11 q30 q31 q32 q33 q34 q50 q51 q52 q53 q54 q70 q71 q72
    go_wp2_with (go_at_call 12; refine (D12.out _ I1.out).mono ?_)
    rintro e w2 ⟨⟨b2, rfl⟩, hb2⟩
    have I2 := Lib.hid (I1.out.grow hb2)
    clear hb2 I1 D12 q10 q11 q30 q31 q32 q33 q34 q50 q51 q52 q53 q54 q70 q71 q72
    cases b2 with
    | true =>
      go_wp2_with (go_at_call 13; refine (awake_any I2.out.st).mono ?_; rintro e w3 ⟨rfl, hb3⟩)
      go_ret
      exact ⟨rfl, I2.out.bel.next hb3⟩
    | false =>
      have q00 := cellAt I2.out.b0 0
      have q01 := cellAt I2.out.b0 1
      simp only [List.getElem?_toArray, List.getElem?_cons_zero, List.getElem?_cons_succ] at q00 q01
      go_wp2_with (go_at_call 14; refine (KW0.out _ I2.out).mono ?_)
      rintro e w3 ⟨rfl, hb⟩
      have I3 := Lib.hid (I2.out.grow hb)
      clear hb I2 KW0 q00 q01
      have q10 := cellAt I3.out.b1 0
      have q11 := cellAt I3.out.b1 1
      simp only [List.getElem?_toArray, List.getElem?_cons_zero, List.getElem?_cons_succ] at q10 q11
      go_wp2_with (go_at_call 14; refine (KW1.out _ I3.out).mono ?_)
      rintro e w4 ⟨rfl, hb⟩
      have I4 := Lib.hid (I3.out.grow hb)
      clear hb I3 KW1 q10 q11
      have q20 := cellAt I4.out.b2 0
      have q21 := cellAt I4.out.b2 1
      have q22 := cellAt I4.out.b2 2
      have q23 := cellAt I4.out.b2 3
      have q24 := cellAt I4.out.b2 4
      simp only [List.getElem?_toArray, List.getElem?_cons_zero, List.getElem?_cons_succ] at q20 q21 q22 q23 q24
      go_wp2_with (go_at_call 16; refine (KW2.out _ I4.out).mono ?_)
      rintro e w5 ⟨rfl, hb⟩
      have I5 := Lib.hid (I4.out.grow hb)
      clear hb I4 KW2 q20 q21 q22 q23 q24
      have q30 := cellAt I5.out.b3 0
      have q31 := cellAt I5.out.b3 1
      have q32 := cellAt I5.out.b3 2
      have q33 := cellAt I5.out.b3 3
      have q34 := cellAt I5.out.b3 4
      simp only [List.getElem?_toArray, List.getElem?_cons_zero, List.getElem?_cons_succ] at q30 q31 q32 q33 q34
      go_wp2_with (go_at_call 16; refine (KW3.out _ I5.out).mono ?_)
      rintro e w6 ⟨rfl, hb⟩
      have I6 := Lib.hid (I5.out.grow hb)
      clear hb I5 KW3 q30 q31 q32 q33 q34
      have q40 := cellAt I6.out.b4 0
      have q41 := cellAt I6.out.b4 1
      have q42 := cellAt I6.out.b4 2
      have q43 := cellAt I6.out.b4 3
      have q44 := cellAt I6.out.b4 4
      simp only [List.getElem?_toArray, List.getElem?_cons_zero, List.getElem?_cons_succ] at q40 q41 q42 q43 q44
      go_wp2_with (go_at_call 18; refine (KW4.out _ I6.out).mono ?_)
      rintro e w7 ⟨rfl, hb⟩
      have I7 := Lib.hid (I6.out.grow hb)
      clear hb I6 KW4 q40 q41 q42 q43 q44
      have q50 := cellAt I7.out.b5 0
      have q51 := cellAt I7.out.b5 1
      have q52 := cellAt I7.out.b5 2
      have q53 := cellAt I7.out.b5 3
      have q54 := cellAt I7.out.b5 4
      simp only [List.getElem?_toArray, List.getElem?_cons_zero, List.getElem?_cons_succ] at q50 q51 q52 q53 q54
      go_wp2_with (go_at_call 18; refine (KW5.out _ I7.out).mono ?_)
      rintro e w8 ⟨rfl, hb⟩
      have I8 := Lib.hid (I7.out.grow hb)
      clear hb I7 KW5 q50 q51 q52 q53 q54
      have q60 := cellAt I8.out.b6 0
      have q61 := cellAt I8.out.b6 1
      have q62 := cellAt I8.out.b6 2
      simp only [List.getElem?_toArray, List.getElem?_cons_zero, List.getElem?_cons_succ] at q60 q61 q62
      go_wp2_with (go_at_call 20; refine (KW6.out _ I8.out).mono ?_)
      rintro e w9 ⟨o6, c6, rfl, ho, hb⟩
      have I9 := Lib.hid (I8.out.grow hb)
      have O6 := Lib.hid (fun W (hb : Below w9.heap.size w9 W) => BytesAt.grow ho hb)
      clear ho hb I8 KW6 q60 q61 q62
      have q70 := cellAt I9.out.b7 0
      have q71 := cellAt I9.out.b7 1
      have q72 := cellAt I9.out.b7 2
      simp only [List.getElem?_toArray, List.getElem?_cons_zero, List.getElem?_cons_succ] at q70 q71 q72
      go_wp2_with (go_at_call 20; refine (KW7.out _ I9.out).mono ?_)
      rintro e w10 ⟨o7, c7, rfl, ho, hb⟩
      have I10 := Lib.hid (I9.out.grow hb)
      have O7 := Lib.hid (fun W (hc : Below w10.heap.size w10 W) => C22.out W o6 o7 c6 c7 (O6.out _ (hb.next hc)) (BytesAt.grow ho hc))
      clear ho hb I9 KW7 q70 q71 q72
      have O8 := Lib.hid (show LB w a b c d e f g h w10 ∧ Below w10.heap.size w10 w10 from ⟨I10.out, Below.refl _ _⟩)
      clear O6 C22
      go_upto_region 11 with (fail)
      go_cut [117] from 86 to 117 (fun v W => v = .bool false ∧ LB w a b c d e f g h W ∧ Below w10.heap.size w10 W)
      case first =>
        clear C27 C30 O7
        have q00 := cellAt I10.out.b0 0
        have q01 := cellAt I10.out.b0 1
        have q10 := cellAt I10.out.b1 0
        have q11 := cellAt I10.out.b1 1
        have q20 := cellAt I10.out.b2 0
        have q21 := cellAt I10.out.b2 1
        have q22 := cellAt I10.out.b2 2
        have q23 := cellAt I10.out.b2 3
        have q24 := cellAt I10.out.b2 4
        have q30 := cellAt I10.out.b3 0
        have q31 := cellAt I10.out.b3 1
        have q32 := cellAt I10.out.b3 2
        have q33 := cellAt I10.out.b3 3
        have q34 := cellAt I10.out.b3 4
        simp only [List.getElem?_toArray, List.getElem?_cons_zero, List.getElem?_cons_succ] at q00 q01 q10 q11 q20 q21 q22 q23 q24 q30 q31 q32 q33 q34
        clear O8
        rcases V0.out with h0 | rfl <;> rcases V1.out with h1 | rfl <;> rcases V2.out with h2 | rfl <;> rcases V3.out with h3 | rfl
        all_goals try have D28 := Lib.hid (C28.out h0 h1)
        all_goals try have D29 := Lib.hid (C29.out h2 h3)
        all_goals clear C28 C29 V0 V1 V2 V3 V4 V5 V6 V7
        all_goals first | (subst h0) | skip
        all_goals first | (subst h1) | skip
        all_goals first | (subst h2) | skip
        all_goals first | (subst h3) | skip
        all_goals
          have hw0 := Below.refl w10.heap.size w10
          go_wp2_with (first | (go_at_call 28; refine (D28.out _ I10.out).mono ?_; rintro e w20 ⟨rfl, hb20⟩; have I20 := Lib.hid (I10.out.grow hb20); have r20 := cellAt I20.out.b2 0; have r21 := cellAt I20.out.b2 1; have r22 := cellAt I20.out.b2 2; have r23 := cellAt I20.out.b2 3; have r24 := cellAt I20.out.b2 4; have r30 := cellAt I20.out.b3 0; have r31 := cellAt I20.out.b3 1; have r32 := cellAt I20.out.b3 2; have r33 := cellAt I20.out.b3 3; have r34 := cellAt I20.out.b3 4; simp only [List.getElem?_toArray, List.getElem?_cons_zero, List.getElem?_cons_succ] at r20 r21 r22 r23 r24 r30 r31 r32 r33 r34) | (go_at_call 29; first | (refine (D29.out _ I20.out).mono ?_; rintro e w21 ⟨rfl, hb21⟩) | (refine (D29.out _ I10.out).mono ?_; rintro e w21 ⟨rfl, hb21⟩)))
          go_meet
          first | exact ⟨rfl, I20.out.grow hb21, hb20.trans (hb21.mono hb20.size)⟩ | exact ⟨rfl, I10.out.grow hb21, hb21⟩ | exact ⟨rfl, I20.out, hb20⟩ | exact ⟨rfl, I10.out, hw0⟩
      case rest =>
        obtain ⟨rfl, hI, hb11⟩ := hcut
        have R0 := Lib.hid hI
        have O := Lib.hid (fun W (hc : Below wc.heap.size wc W) => O7.out W (hb11.next hc))
        clear hI hb11 O7 C28 C29 O8 I10 V0 V1 V2 V3
        go_upto_region 13 with (fail)
        have Q : (e4 = 1 ∨ (e4 = 0 ∧ e5 = 1) ∨ (e4 = 0 ∧ e5 = 0)) ∧ (e6 = 1 ∨ (e6 = 0 ∧ e7 = 1) ∨ (e6 = 0 ∧ e7 = 0)) := by
          have h4 := V4.out; have h5 := V5.out; have h6 := V6.out; have h7 := V7.out
          omega
        obtain ⟨Q1, Q2⟩ := Q
        clear V4 V5 V6 V7
        rcases Q1 with rfl | ⟨rfl, rfl⟩ | ⟨rfl, rfl⟩ <;> rcases Q2 with rfl | ⟨rfl, rfl⟩ | ⟨rfl, rfl⟩
        all_goals try have D30 := Lib.hid (C30.out rfl rfl)
        all_goals try have D27 := Lib.hid (C27.out rfl rfl)
        all_goals clear C27 C30
        all_goals
          refine wp_region_stg (S := (fun w' : World => w'.cell? ⟨w.heap.size + 1 + 1 + 1 + 1, 0, none⟩ = some (.int .i64 e.x.f) ∧ w'.cell? ⟨w.heap.size + 1 + 1 + 1 + 1, 1, none⟩ = some (.slice e.oa e.x.on e.oc) ∧ w'.cell? ⟨w.heap.size + 1 + 1 + 1 + 1, 2, none⟩ = some (.slice e.ma e.x.mn e.mc) ∧ w'.cell? ⟨w.heap.size + 1 + 1 + 1 + 1, 3, none⟩ = some (.slice e.sa e.x.sn e.sc) ∧ w'.cell? ⟨w.heap.size + 1 + 1 + 1 + 1, 4, none⟩ = some (.slice e.ca e.x.cn e.cc) ∧ w'.cell? ⟨w.heap.size + 1 + 1 + 1 + 1 + 1, 0, none⟩ = some (.int .i64 f.x.f) ∧ w'.cell? ⟨w.heap.size + 1 + 1 + 1 + 1 + 1, 1, none⟩ = some (.slice f.oa f.x.on f.oc) ∧ w'.cell? ⟨w.heap.size + 1 + 1 + 1 + 1 + 1, 2, none⟩ = some (.slice f.ma f.x.mn f.mc) ∧ w'.cell? ⟨w.heap.size + 1 + 1 + 1 + 1 + 1, 3, none⟩ = some (.slice f.sa f.x.sn f.sc) ∧ w'.cell? ⟨w.heap.size + 1 + 1 + 1 + 1 + 1, 4, none⟩ = some (.slice f.ca f.x.cn f.cc) ∧ w'.cell? ⟨w.heap.size + 1 + 1 + 1 + 1 + 1 + 1, 0, none⟩ = some (.int .i64 g.cr) ∧ w'.cell? ⟨w.heap.size + 1 + 1 + 1 + 1 + 1 + 1, 1, none⟩ = some (.slice g.sa g.sn g.sc) ∧ w'.cell? ⟨w.heap.size + 1 + 1 + 1 + 1 + 1 + 1, 2, none⟩ = some (.slice g.ta g.tn g.tc) ∧ w'.cell? ⟨w.heap.size + 1 + 1 + 1 + 1 + 1 + 1 + 1, 0, none⟩ = some (.int .i64 h.cr) ∧ w'.cell? ⟨w.heap.size + 1 + 1 + 1 + 1 + 1 + 1 + 1, 1, none⟩ = some (.slice h.sa h.sn h.sc) ∧ w'.cell? ⟨w.heap.size + 1 + 1 + 1 + 1 + 1 + 1 + 1, 2, none⟩ = some (.slice h.ta h.tn h.tc))) (L := []) (D := []) (by kernel_rfl) (by kernel_rfl) (by have I0 := R0.out.grow (Below.drew (Below.refl _ _)); exact I0.cells) (fun e he => by cases he) (fun hC0 hH0 => ?_)
          replace O := Lib.hid (fun W (hc : Below wc.drew.heap.size wc.drew W) => O.out W ((Below.drew (Below.refl _ _)).next hc))
          replace R0 := Lib.hid (R0.out.grow (Below.drew (Below.refl _ _)))
          have X0 := Lib.hid (Below.refl wc.drew.heap.size wc.drew)
          generalize World.drew wc = v0 at *
          refine wpAnyT_take (i := 0) (oi := { dst := some 118, op := Op.move (Operand.tmp 26), type := 41, pos := "outright.go:107", after := #[], guard := none }) (v := ?_) rfl (by kernel_rfl) (by kernel_rfl) (by kernel_rfl) (fun _ _ _ h => h) (by kernel_rfl) (by rfl) hC0 ?_ hH0 (fun hC1 hH1 => ?_)
          rotate_left
          · (refine Or.inl ⟨by rfl, ?_⟩; intro w9 hSw; obtain ⟨hSw, hLw⟩ := hSw; clear hLw; (try dsimp only at hSw); (go_split_ands; go_simp); (try with_reducible rfl))
          clear hC0 hH0
          try simp only [Act.put, List.setIfInBounds_toArray, List.set_cons_zero, List.set_cons_succ]
          refine wpAnyT_take (i := 1) (oi := { dst := some 119, op := Op.binOp BinOp.neq 41 (Operand.tmp 118) (Operand.const (Value.int IntKind.i64 0)) 41, type := 4, pos := "outright.go:107", after := #[{ on := 0, ground := Ground.data }], guard := none }) (v := ?_) rfl (by kernel_rfl) (by kernel_rfl) (by kernel_rfl) (fun _ _ _ h => h) (by kernel_rfl) (by rfl) hC1 ?_ hH1 (fun hC2 hH2 => ?_)
          rotate_left
          · (refine Or.inl ⟨by rfl, ?_⟩; intro w9 hSw; obtain ⟨hSw, hLw⟩ := hSw; clear hLw; (try dsimp only at hSw); (go_split_ands; go_simp); (try with_reducible rfl))
          clear hC1 hH1
          try simp only [Act.put, List.setIfInBounds_toArray, List.set_cons_zero, List.set_cons_succ]
          refine wpAnyT_take (i := 2) (oi := { dst := some 120, op := Op.move (Operand.tmp 119), type := 4, pos := "outright.go:107", after := #[{ on := 1, ground := Ground.data }], guard := none }) (v := ?_) rfl (by kernel_rfl) (by kernel_rfl) (by kernel_rfl) (fun _ _ _ h => h) (by kernel_rfl) (by rfl) hC2 ?_ hH2 (fun hC3 hH3 => ?_)
          rotate_left
          · (refine Or.inl ⟨by rfl, ?_⟩; intro w9 hSw; obtain ⟨hSw, hLw⟩ := hSw; clear hLw; (try dsimp only at hSw); (go_split_ands; go_simp); (try with_reducible rfl))
          clear hC2 hH2
          try simp only [Act.put, List.setIfInBounds_toArray, List.set_cons_zero, List.set_cons_succ]
          refine wpAnyT_take (i := 3) (oi := { dst := some 121, op := Op.move (Operand.tmp 28), type := 41, pos := "outright.go:107", after := #[{ on := 2, ground := Ground.guard }], guard := some (2, false) }) (v := ?_) rfl (by kernel_rfl) (by kernel_rfl) (by kernel_rfl) (fun _ _ _ h => h) (by kernel_rfl) (by rfl) hC3 ?_ hH3 (fun hC4 hH4 => ?_)
          rotate_left
          · first | (refine Or.inr ⟨by rfl, ?_⟩; with_reducible rfl) | (refine Or.inl ⟨by rfl, ?_⟩; intro w9 hSw; obtain ⟨hSw, hLw⟩ := hSw; clear hLw; (try dsimp only at hSw); (go_split_ands; go_simp); (try with_reducible rfl)) | fail
          clear hC3 hH3
          try simp only [Act.put, List.setIfInBounds_toArray, List.set_cons_zero, List.set_cons_succ]
          refine wpAnyT_take (i := 4) (oi := { dst := some 122, op := Op.binOp BinOp.neq 41 (Operand.tmp 121) (Operand.const (Value.int IntKind.i64 0)) 41, type := 4, pos := "outright.go:107", after := #[{ on := 3, ground := Ground.data }, { on := 2, ground := Ground.guard }], guard := some (2, false) }) (v := ?_) rfl (by kernel_rfl) (by kernel_rfl) (by kernel_rfl) (fun _ _ _ h => h) (by kernel_rfl) (by rfl) hC4 ?_ hH4 (fun hC5 hH5 => ?_)
          rotate_left
          · first | (refine Or.inr ⟨by rfl, ?_⟩; with_reducible rfl) | (refine Or.inl ⟨by rfl, ?_⟩; intro w9 hSw; obtain ⟨hSw, hLw⟩ := hSw; clear hLw; (try dsimp only at hSw); (go_split_ands; go_simp); (try with_reducible rfl)) | fail
          clear hC4 hH4
          try simp only [Act.put, List.setIfInBounds_toArray, List.set_cons_zero, List.set_cons_succ]
          refine wpAnyT_take (i := 5) (oi := { dst := some 123, op := Op.pick (Operand.tmp 120) (Operand.const (Value.bool true)) (Operand.tmp 122), type := 4, pos := "outright.go:107", after := #[{ on := 2, ground := Ground.data }, { on := 4, ground := Ground.data }], guard := none }) (v := ?_) rfl (by kernel_rfl) (by kernel_rfl) (by kernel_rfl) (fun _ _ _ h => h) (by kernel_rfl) (by rfl) hC5 ?_ hH5 (fun hC6 hH6 => ?_)
          rotate_left
          · (refine Or.inl ⟨by rfl, ?_⟩; intro w9 hSw; obtain ⟨hSw, hLw⟩ := hSw; clear hLw; (try dsimp only at hSw); (go_split_ands; go_simp); (try with_reducible rfl))
          clear hC5 hH5
          try simp only [Act.put, List.setIfInBounds_toArray, List.set_cons_zero, List.set_cons_succ]
          refine wpAnyT_take (i := 6) (oi := { dst := some 124, op := Op.move (Operand.tmp 123), type := 4, pos := "outright.go:107", after := #[{ on := 5, ground := Ground.data }, { on := 2, ground := Ground.chain }], guard := none }) (v := ?_) rfl (by kernel_rfl) (by kernel_rfl) (by kernel_rfl) (fun _ _ _ h => h) (by kernel_rfl) (by rfl) hC6 ?_ hH6 (fun hC7 hH7 => ?_)
          rotate_left
          · (refine Or.inl ⟨by rfl, ?_⟩; intro w9 hSw; obtain ⟨hSw, hLw⟩ := hSw; clear hLw; (try dsimp only at hSw); (go_split_ands; go_simp); (try with_reducible rfl))
          clear hC6 hH6
          try simp only [Act.put, List.setIfInBounds_toArray, List.set_cons_zero, List.set_cons_succ]
          refine wpAnyT_take (i := 7) (oi := { dst := some 125, op := Op.move (Operand.tmp 25), type := 9, pos := "outright.go:107", after := #[{ on := 6, ground := Ground.guard }], guard := some (6, false) }) (v := ?_) rfl (by kernel_rfl) (by kernel_rfl) (by kernel_rfl) (fun _ _ _ h => h) (by kernel_rfl) (by rfl) hC7 ?_ hH7 (fun hC8 hH8 => ?_)
          rotate_left
          · first | (refine Or.inr ⟨by rfl, ?_⟩; with_reducible rfl) | (refine Or.inl ⟨by rfl, ?_⟩; intro w9 hSw; obtain ⟨hSw, hLw⟩ := hSw; clear hLw; (try dsimp only at hSw); (go_split_ands; go_simp); (try with_reducible rfl)) | fail
          clear hC7 hH7
          try simp only [Act.put, List.setIfInBounds_toArray, List.set_cons_zero, List.set_cons_succ]
          refine wpAnyT_take (i := 8) (oi := { dst := some 126, op := Op.move (Operand.tmp 27), type := 9, pos := "outright.go:107", after := #[{ on := 6, ground := Ground.guard }], guard := some (6, false) }) (v := ?_) rfl (by kernel_rfl) (by kernel_rfl) (by kernel_rfl) (fun _ _ _ h => h) (by kernel_rfl) (by rfl) hC8 ?_ hH8 (fun hC9 hH9 => ?_)
          rotate_left
          · first | (refine Or.inr ⟨by rfl, ?_⟩; with_reducible rfl) | (refine Or.inl ⟨by rfl, ?_⟩; intro w9 hSw; obtain ⟨hSw, hLw⟩ := hSw; clear hLw; (try dsimp only at hSw); (go_split_ands; go_simp); (try with_reducible rfl)) | fail
          clear hC8 hH8
          try simp only [Act.put, List.setIfInBounds_toArray, List.set_cons_zero, List.set_cons_succ]
          refine wpAnyT_take (i := 9) (oi := { dst := some 127, op := Op.binOp BinOp.eql 9 (Operand.tmp 125) (Operand.tmp 126) 9, type := 4, pos := "outright.go:107", after := #[{ on := 7, ground := Ground.data }, { on := 8, ground := Ground.data }, { on := 6, ground := Ground.guard }], guard := some (6, false) }) (v := ?_) rfl (by kernel_rfl) (by kernel_rfl) (by kernel_rfl) (fun _ _ _ h => h) (by kernel_rfl) (by rfl) hC9 ?_ hH9 (fun hC10 hH10 => ?_)
          rotate_left
          · first | (refine Or.inr ⟨by rfl, ?_⟩; with_reducible rfl) | (refine Or.inl ⟨by rfl, ?_⟩; intro w9 hSw; obtain ⟨hSw, hLw⟩ := hSw; clear hLw; (try dsimp only at hSw); (go_split_ands; go_simp); (try with_reducible rfl)) | fail
          clear hC9 hH9
          try simp only [Act.put, List.setIfInBounds_toArray, List.set_cons_zero, List.set_cons_succ]
          refine wpAnyT_take (i := 10) (oi := { dst := some 128, op := Op.load 34 (Operand.tmp 12), type := 34, pos := "outright.go:107", after := #[{ on := 6, ground := Ground.guard }], guard := some (6, false) }) (v := ?_) rfl (by kernel_rfl) (by kernel_rfl) (by kernel_rfl) (fun _ _ _ h => h) (by kernel_rfl) (by rfl) hC10 ?_ hH10 (fun hC11 hH11 => ?_)
          rotate_left
          · first | (refine Or.inr ⟨by rfl, ?_⟩; with_reducible rfl) | (refine Or.inl ⟨by rfl, ?_⟩; intro w9 hSw; obtain ⟨hSw, hLw⟩ := hSw; clear hLw; (try dsimp only at hSw); (go_split_ands; go_simp); (try with_reducible rfl)) | fail
          clear hC10 hH10
          try simp only [Act.put, List.setIfInBounds_toArray, List.set_cons_zero, List.set_cons_succ]
          refine wpAnyT_take (i := 11) (oi := { dst := some 129, op := Op.load 34 (Operand.tmp 13), type := 34, pos := "outright.go:107", after := #[{ on := 6, ground := Ground.guard }], guard := some (6, false) }) (v := ?_) rfl (by kernel_rfl) (by kernel_rfl) (by kernel_rfl) (fun _ _ _ h => h) (by kernel_rfl) (by rfl) hC11 ?_ hH11 (fun hC12 hH12 => ?_)
          rotate_left
          · first | (refine Or.inr ⟨by rfl, ?_⟩; with_reducible rfl) | (refine Or.inl ⟨by rfl, ?_⟩; intro w9 hSw; obtain ⟨hSw, hLw⟩ := hSw; clear hLw; (try dsimp only at hSw); (go_split_ands; go_simp); (try with_reducible rfl)) | fail
          clear hC11 hH11
          try simp only [Act.put, List.setIfInBounds_toArray, List.set_cons_zero, List.set_cons_succ]
          refine wpAnyT_one (i := 12) (o := { dst := some 130, op := Op.call { callee := Callee.value (Operand.func 30), args := #[Operand.tmp 128, Operand.tmp 129], argTypes := #[34, 34] }, type := 4, pos := "outright.go:107", after := #[{ on := 10, ground := Ground.data }, { on := 11, ground := Ground.data }, { on := 6, ground := Ground.chain }, { on := 6, ground := Ground.guard }], guard := some (6, false) }) (by kernel_rfl) rfl (by kernel_rfl) hC12 (fun K hK => ?_)
          clear hC12 hH12
          go_simp
          first | (refine hK.out _ _ ⟨R0.out.cells, fun e he => by cases he⟩ (fun hC13 hH13 => ?_)) | (refine (D30.out _ R0.out).mono ?_; rintro e w' ⟨rfl, hb⟩; replace R0 := Lib.hid (R0.out.grow hb); replace X0 := Lib.hid (X0.out.next hb); clear hb; go_wp2_with fail; refine hK.out _ _ ⟨R0.out.cells, fun e he => by cases he⟩ (fun hC13 hH13 => ?_))
          clear hK K
          try simp only [Act.put, List.setIfInBounds_toArray, List.set_cons_zero, List.set_cons_succ]
          refine wpAnyT_take (i := 13) (oi := { dst := some 131, op := Op.binOp BinOp.eql 4 (Operand.tmp 127) (Operand.tmp 130) 4, type := 4, pos := "outright.go:107", after := #[{ on := 9, ground := Ground.data }, { on := 12, ground := Ground.data }, { on := 6, ground := Ground.guard }], guard := some (6, false) }) (v := ?_) rfl (by kernel_rfl) (by kernel_rfl) (by kernel_rfl) (fun _ _ _ h => h) (by kernel_rfl) (by rfl) hC13 ?_ hH13 (fun hC14 hH14 => ?_)
          rotate_left
          · first | (refine Or.inr ⟨by rfl, ?_⟩; with_reducible rfl) | (refine Or.inl ⟨by rfl, ?_⟩; intro w9 hSw; obtain ⟨hSw, hLw⟩ := hSw; clear hLw; (try dsimp only at hSw); (go_split_ands; go_simp); (try with_reducible rfl)) | fail
          clear hC13 hH13
          try simp only [Act.put, List.setIfInBounds_toArray, List.set_cons_zero, List.set_cons_succ]
          refine wpAnyT_take (i := 14) (oi := { dst := some 132, op := Op.pick (Operand.tmp 124) (Operand.const (Value.bool true)) (Operand.tmp 131), type := 4, pos := "outright.go:107", after := #[{ on := 6, ground := Ground.data }, { on := 13, ground := Ground.data }], guard := none }) (v := ?_) rfl (by kernel_rfl) (by kernel_rfl) (by kernel_rfl) (fun _ _ _ h => h) (by kernel_rfl) (by rfl) hC14 ?_ hH14 (fun hC15 hH15 => ?_)
          rotate_left
          · (refine Or.inl ⟨by rfl, ?_⟩; intro w9 hSw; obtain ⟨hSw, hLw⟩ := hSw; clear hLw; (try dsimp only at hSw); (go_split_ands; go_simp); (try with_reducible rfl))
          clear hC14 hH14
          try simp only [Act.put, List.setIfInBounds_toArray, List.set_cons_zero, List.set_cons_succ]
          refine wpAnyT_take (i := 15) (oi := { dst := some 133, op := Op.move (Operand.tmp 132), type := 4, pos := "outright.go:107", after := #[{ on := 14, ground := Ground.data }, { on := 12, ground := Ground.chain }], guard := none }) (v := ?_) rfl (by kernel_rfl) (by kernel_rfl) (by kernel_rfl) (fun _ _ _ h => h) (by kernel_rfl) (by rfl) hC15 ?_ hH15 (fun hC16 hH16 => ?_)
          rotate_left
          · (refine Or.inl ⟨by rfl, ?_⟩; intro w9 hSw; obtain ⟨hSw, hLw⟩ := hSw; clear hLw; (try dsimp only at hSw); (go_split_ands; go_simp); (try with_reducible rfl))
          clear hC15 hH15
          try simp only [Act.put, List.setIfInBounds_toArray, List.set_cons_zero, List.set_cons_succ]
          refine wpAnyT_take (i := 16) (oi := { dst := some 134, op := Op.move (Operand.tmp 30), type := 41, pos := "outright.go:107", after := #[{ on := 15, ground := Ground.guard }], guard := some (15, true) }) (v := ?_) rfl (by kernel_rfl) (by kernel_rfl) (by kernel_rfl) (fun _ _ _ h => h) (by kernel_rfl) (by rfl) hC16 ?_ hH16 (fun hC17 hH17 => ?_)
          rotate_left
          · first | (refine Or.inr ⟨by rfl, ?_⟩; with_reducible rfl) | (refine Or.inl ⟨by rfl, ?_⟩; intro w9 hSw; obtain ⟨hSw, hLw⟩ := hSw; clear hLw; (try dsimp only at hSw); (go_split_ands; go_simp); (try with_reducible rfl)) | fail
          clear hC16 hH16
          try simp only [Act.put, List.setIfInBounds_toArray, List.set_cons_zero, List.set_cons_succ]
          refine wpAnyT_take (i := 17) (oi := { dst := some 135, op := Op.binOp BinOp.neq 41 (Operand.tmp 134) (Operand.const (Value.int IntKind.i64 0)) 41, type := 4, pos := "outright.go:107", after := #[{ on := 16, ground := Ground.data }, { on := 15, ground := Ground.guard }], guard := some (15, true) }) (v := ?_) rfl (by kernel_rfl) (by kernel_rfl) (by kernel_rfl) (fun _ _ _ h => h) (by kernel_rfl) (by rfl) hC17 ?_ hH17 (fun hC18 hH18 => ?_)
          rotate_left
          · first | (refine Or.inr ⟨by rfl, ?_⟩; with_reducible rfl) | (refine Or.inl ⟨by rfl, ?_⟩; intro w9 hSw; obtain ⟨hSw, hLw⟩ := hSw; clear hLw; (try dsimp only at hSw); (go_split_ands; go_simp); (try with_reducible rfl)) | fail
          clear hC17 hH17
          try simp only [Act.put, List.setIfInBounds_toArray, List.set_cons_zero, List.set_cons_succ]
          refine wpAnyT_take (i := 18) (oi := { dst := some 136, op := Op.move (Operand.tmp 135), type := 4, pos := "outright.go:107", after := #[{ on := 17, ground := Ground.data }, { on := 15, ground := Ground.chain }, { on := 15, ground := Ground.guard }], guard := some (15, true) }) (v := ?_) rfl (by kernel_rfl) (by kernel_rfl) (by kernel_rfl) (fun _ _ _ h => h) (by kernel_rfl) (by rfl) hC18 ?_ hH18 (fun hC19 hH19 => ?_)
          rotate_left
          · first | (refine Or.inr ⟨by rfl, ?_⟩; with_reducible rfl) | (refine Or.inl ⟨by rfl, ?_⟩; intro w9 hSw; obtain ⟨hSw, hLw⟩ := hSw; clear hLw; (try dsimp only at hSw); (go_split_ands; go_simp); (try with_reducible rfl)) | fail
          clear hC18 hH18
          try simp only [Act.put, List.setIfInBounds_toArray, List.set_cons_zero, List.set_cons_succ]
          refine wpAnyT_take (i := 19) (oi := { dst := some 137, op := Op.move (Operand.tmp 32), type := 41, pos := "outright.go:107", after := #[{ on := 18, ground := Ground.guard }], guard := some (18, false) }) (v := ?_) rfl (by kernel_rfl) (by kernel_rfl) (by kernel_rfl) (fun _ _ _ h => h) (by kernel_rfl) (by rfl) hC19 ?_ hH19 (fun hC20 hH20 => ?_)
          rotate_left
          · first | (refine Or.inr ⟨by rfl, ?_⟩; with_reducible rfl) | (refine Or.inl ⟨by rfl, ?_⟩; intro w9 hSw; obtain ⟨hSw, hLw⟩ := hSw; clear hLw; (try dsimp only at hSw); (go_split_ands; go_simp); (try with_reducible rfl)) | fail
          clear hC19 hH19
          try simp only [Act.put, List.setIfInBounds_toArray, List.set_cons_zero, List.set_cons_succ]
          refine wpAnyT_take (i := 20) (oi := { dst := some 138, op := Op.binOp BinOp.neq 41 (Operand.tmp 137) (Operand.const (Value.int IntKind.i64 0)) 41, type := 4, pos := "outright.go:107", after := #[{ on := 19, ground := Ground.data }, { on := 18, ground := Ground.guard }], guard := some (18, false) }) (v := ?_) rfl (by kernel_rfl) (by kernel_rfl) (by kernel_rfl) (fun _ _ _ h => h) (by kernel_rfl) (by rfl) hC20 ?_ hH20 (fun hC21 hH21 => ?_)
          rotate_left
          · first | (refine Or.inr ⟨by rfl, ?_⟩; with_reducible rfl) | (refine Or.inl ⟨by rfl, ?_⟩; intro w9 hSw; obtain ⟨hSw, hLw⟩ := hSw; clear hLw; (try dsimp only at hSw); (go_split_ands; go_simp); (try with_reducible rfl)) | fail
          clear hC20 hH20
          try simp only [Act.put, List.setIfInBounds_toArray, List.set_cons_zero, List.set_cons_succ]
          refine wpAnyT_take (i := 21) (oi := { dst := some 139, op := Op.pick (Operand.tmp 136) (Operand.const (Value.bool true)) (Operand.tmp 138), type := 4, pos := "outright.go:107", after := #[{ on := 18, ground := Ground.data }, { on := 20, ground := Ground.data }, { on := 15, ground := Ground.guard }], guard := some (15, true) }) (v := ?_) rfl (by kernel_rfl) (by kernel_rfl) (by kernel_rfl) (fun _ _ _ h => h) (by kernel_rfl) (by rfl) hC21 ?_ hH21 (fun hC22 hH22 => ?_)
          rotate_left
          · first | (refine Or.inr ⟨by rfl, ?_⟩; with_reducible rfl) | (refine Or.inl ⟨by rfl, ?_⟩; intro w9 hSw; obtain ⟨hSw, hLw⟩ := hSw; clear hLw; (try dsimp only at hSw); (go_split_ands; go_simp); (try with_reducible rfl)) | fail
          clear hC21 hH21
          try simp only [Act.put, List.setIfInBounds_toArray, List.set_cons_zero, List.set_cons_succ]
          refine wpAnyT_take (i := 22) (oi := { dst := some 140, op := Op.move (Operand.tmp 139), type := 4, pos := "outright.go:107", after := #[{ on := 21, ground := Ground.data }, { on := 18, ground := Ground.chain }, { on := 15, ground := Ground.guard }], guard := some (15, true) }) (v := ?_) rfl (by kernel_rfl) (by kernel_rfl) (by kernel_rfl) (fun _ _ _ h => h) (by kernel_rfl) (by rfl) hC22 ?_ hH22 (fun hC23 hH23 => ?_)
          rotate_left
          · first | (refine Or.inr ⟨by rfl, ?_⟩; with_reducible rfl) | (refine Or.inl ⟨by rfl, ?_⟩; intro w9 hSw; obtain ⟨hSw, hLw⟩ := hSw; clear hLw; (try dsimp only at hSw); (go_split_ands; go_simp); (try with_reducible rfl)) | fail
          clear hC22 hH22
          try simp only [Act.put, List.setIfInBounds_toArray, List.set_cons_zero, List.set_cons_succ]
          refine wpAnyT_take (i := 23) (oi := { dst := some 141, op := Op.move (Operand.tmp 29), type := 46, pos := "outright.go:107", after := #[{ on := 22, ground := Ground.guard }], guard := some (22, false) }) (v := ?_) rfl (by kernel_rfl) (by kernel_rfl) (by kernel_rfl) (fun _ _ _ h => h) (by kernel_rfl) (by rfl) hC23 ?_ hH23 (fun hC24 hH24 => ?_)
          rotate_left
          · first | (refine Or.inr ⟨by rfl, ?_⟩; with_reducible rfl) | (refine Or.inl ⟨by rfl, ?_⟩; intro w9 hSw; obtain ⟨hSw, hLw⟩ := hSw; clear hLw; (try dsimp only at hSw); (go_split_ands; go_simp); (try with_reducible rfl)) | fail
          clear hC23 hH23
          try simp only [Act.put, List.setIfInBounds_toArray, List.set_cons_zero, List.set_cons_succ]
          refine wpAnyT_take (i := 24) (oi := { dst := some 142, op := Op.move (Operand.tmp 31), type := 46, pos := "outright.go:107", after := #[{ on := 22, ground := Ground.guard }], guard := some (22, false) }) (v := ?_) rfl (by kernel_rfl) (by kernel_rfl) (by kernel_rfl) (fun _ _ _ h => h) (by kernel_rfl) (by rfl) hC24 ?_ hH24 (fun hC25 hH25 => ?_)
          rotate_left
          · first | (refine Or.inr ⟨by rfl, ?_⟩; with_reducible rfl) | (refine Or.inl ⟨by rfl, ?_⟩; intro w9 hSw; obtain ⟨hSw, hLw⟩ := hSw; clear hLw; (try dsimp only at hSw); (go_split_ands; go_simp); (try with_reducible rfl)) | fail
          clear hC24 hH24
          try simp only [Act.put, List.setIfInBounds_toArray, List.set_cons_zero, List.set_cons_succ]
          refine wpAnyT_take (i := 26) (oi := { dst := some 144, op := Op.load 38 (Operand.tmp 14), type := 38, pos := "outright.go:107", after := #[{ on := 22, ground := Ground.guard }], guard := some (22, false) }) (v := ?_) rfl (by kernel_rfl) (by kernel_rfl) (by kernel_rfl) (fun _ _ _ h => h) (by kernel_rfl) (by rfl) hC25 ?_ hH25 (fun hC26 hH26 => ?_)
          rotate_left
          · first | (refine Or.inr ⟨by rfl, ?_⟩; with_reducible rfl) | (refine Or.inl ⟨by rfl, ?_⟩; intro w9 hSw; obtain ⟨hSw, hLw⟩ := hSw; clear hLw; (try dsimp only at hSw); (go_split_ands; go_simp); (try with_reducible rfl)) | fail
          clear hC25 hH25
          try simp only [Act.put, List.setIfInBounds_toArray, List.set_cons_zero, List.set_cons_succ]
          refine wpAnyT_take (i := 27) (oi := { dst := some 145, op := Op.load 38 (Operand.tmp 15), type := 38, pos := "outright.go:107", after := #[{ on := 22, ground := Ground.guard }], guard := some (22, false) }) (v := ?_) rfl (by kernel_rfl) (by kernel_rfl) (by kernel_rfl) (fun _ _ _ h => h) (by kernel_rfl) (by rfl) hC26 ?_ hH26 (fun hC27 hH27 => ?_)
          rotate_left
          · first | (refine Or.inr ⟨by rfl, ?_⟩; with_reducible rfl) | (refine Or.inl ⟨by rfl, ?_⟩; intro w9 hSw; obtain ⟨hSw, hLw⟩ := hSw; clear hLw; (try dsimp only at hSw); (go_split_ands; go_simp); (try with_reducible rfl)) | fail
          clear hC26 hH26
          try simp only [Act.put, List.setIfInBounds_toArray, List.set_cons_zero, List.set_cons_succ]
          refine wpAnyT_one (i := 25) (o := { dst := some 143, op := Op.call { callee := Callee.value (Operand.func 22), args := #[Operand.tmp 141, Operand.tmp 142], argTypes := #[46, 46] }, type := 4, pos := "outright.go:107", after := #[{ on := 23, ground := Ground.data }, { on := 24, ground := Ground.data }, { on := 22, ground := Ground.chain }, { on := 22, ground := Ground.guard }], guard := some (22, false) }) (by kernel_rfl) rfl (by kernel_rfl) hC27 (fun K hK => ?_)
          clear hC27 hH27
          go_simp
          first | (refine hK.out _ _ ⟨R0.out.cells, fun e he => by cases he⟩ (fun hC28 hH28 => ?_)) | (refine (O.out _ X0.out).mono ?_; rintro e w' ⟨rfl, rfl⟩; go_wp2_with fail; refine hK.out _ _ ⟨R0.out.cells, fun e he => by cases he⟩ (fun hC28 hH28 => ?_))
          clear hK K
          try simp only [Act.put, List.setIfInBounds_toArray, List.set_cons_zero, List.set_cons_succ]
          refine wpAnyT_one (i := 28) (o := { dst := some 146, op := Op.call { callee := Callee.value (Operand.func 27), args := #[Operand.tmp 144, Operand.tmp 145], argTypes := #[38, 38] }, type := 4, pos := "outright.go:107", after := #[{ on := 26, ground := Ground.data }, { on := 27, ground := Ground.data }, { on := 25, ground := Ground.chain }, { on := 22, ground := Ground.guard }], guard := some (22, false) }) (by kernel_rfl) rfl (by kernel_rfl) hC28 (fun K hK => ?_)
          clear hC28 hH28
          go_simp
          first | (refine hK.out _ _ ⟨R0.out.cells, fun e he => by cases he⟩ (fun hC29 hH29 => ?_)) | (refine (D27.out _ R0.out).mono ?_; rintro e w' ⟨rfl, hb⟩; replace R0 := Lib.hid (R0.out.grow hb); replace X0 := Lib.hid (X0.out.next hb); clear hb; go_wp2_with fail; refine hK.out _ _ ⟨R0.out.cells, fun e he => by cases he⟩ (fun hC29 hH29 => ?_))
          clear hK K
          try simp only [Act.put, List.setIfInBounds_toArray, List.set_cons_zero, List.set_cons_succ]
          refine wpAnyT_take (i := 29) (oi := { dst := some 147, op := Op.binOp BinOp.eql 4 (Operand.tmp 143) (Operand.tmp 146) 4, type := 4, pos := "outright.go:107", after := #[{ on := 25, ground := Ground.data }, { on := 28, ground := Ground.data }, { on := 22, ground := Ground.guard }], guard := some (22, false) }) (v := ?_) rfl (by kernel_rfl) (by kernel_rfl) (by kernel_rfl) (fun _ _ _ h => h) (by kernel_rfl) (by rfl) hC29 ?_ hH29 (fun hC30 hH30 => ?_)
          rotate_left
          · first | (refine Or.inr ⟨by rfl, ?_⟩; with_reducible rfl) | (refine Or.inl ⟨by rfl, ?_⟩; intro w9 hSw; obtain ⟨hSw, hLw⟩ := hSw; clear hLw; (try dsimp only at hSw); (go_split_ands; go_simp); (try with_reducible rfl)) | fail
          clear hC29 hH29
          try simp only [Act.put, List.setIfInBounds_toArray, List.set_cons_zero, List.set_cons_succ]
          refine wpAnyT_take (i := 30) (oi := { dst := some 148, op := Op.pick (Operand.tmp 140) (Operand.const (Value.bool true)) (Operand.tmp 147), type := 4, pos := "outright.go:107", after := #[{ on := 22, ground := Ground.data }, { on := 29, ground := Ground.data }, { on := 15, ground := Ground.guard }], guard := some (15, true) }) (v := ?_) rfl (by kernel_rfl) (by kernel_rfl) (by kernel_rfl) (fun _ _ _ h => h) (by kernel_rfl) (by rfl) hC30 ?_ hH30 (fun hC31 hH31 => ?_)
          rotate_left
          · first | (refine Or.inr ⟨by rfl, ?_⟩; with_reducible rfl) | (refine Or.inl ⟨by rfl, ?_⟩; intro w9 hSw; obtain ⟨hSw, hLw⟩ := hSw; clear hLw; (try dsimp only at hSw); (go_split_ands; go_simp); (try with_reducible rfl)) | fail
          clear hC30 hH30
          try simp only [Act.put, List.setIfInBounds_toArray, List.set_cons_zero, List.set_cons_succ]
          refine wpAnyT_take (i := 31) (oi := { dst := some 149, op := Op.pick (Operand.tmp 133) (Operand.tmp 148) (Operand.const (Value.bool false)), type := 4, pos := "outright.go:107", after := #[{ on := 15, ground := Ground.data }, { on := 30, ground := Ground.data }], guard := none }) (v := ?_) rfl (by kernel_rfl) (by kernel_rfl) (by kernel_rfl) (fun _ _ _ h => h) (by kernel_rfl) (by rfl) hC31 ?_ hH31 (fun hC32 hH32 => ?_)
          rotate_left
          · (refine Or.inl ⟨by rfl, ?_⟩; intro w9 hSw; obtain ⟨hSw, hLw⟩ := hSw; clear hLw; (try dsimp only at hSw); (go_split_ands; go_simp); (try with_reducible rfl))
          clear hC31 hH31
          try simp only [Act.put, List.setIfInBounds_toArray, List.set_cons_zero, List.set_cons_succ]
          refine wpAnyT_take (i := 32) (oi := { dst := some 150, op := Op.move (Operand.tmp 149), type := 4, pos := "outright.go:107", after := #[{ on := 31, ground := Ground.data }, { on := 28, ground := Ground.chain }], guard := none }) (v := ?_) rfl (by kernel_rfl) (by kernel_rfl) (by kernel_rfl) (fun _ _ _ h => h) (by kernel_rfl) (by rfl) hC32 ?_ hH32 (fun hC33 hH33 => ?_)
          rotate_left
          · (refine Or.inl ⟨by rfl, ?_⟩; intro w9 hSw; obtain ⟨hSw, hLw⟩ := hSw; clear hLw; (try dsimp only at hSw); (go_split_ands; go_simp); (try with_reducible rfl))
          clear hC32 hH32
          try simp only [Act.put, List.setIfInBounds_toArray, List.set_cons_zero, List.set_cons_succ]
          refine wpAnyT_one (i := 33) (o := { dst := some 151, op := Op.call { callee := Callee.value (Operand.func 13), args := #[], argTypes := #[] }, type := 4, pos := "outright.go:107", after := #[{ on := 32, ground := Ground.chain }, { on := 32, ground := Ground.guard }], guard := some (32, true) }) (by kernel_rfl) rfl (by kernel_rfl) hC33 (fun K hK => ?_)
          clear hC33 hH33
          go_simp
          first | (refine hK.out _ _ ⟨R0.out.cells, fun e he => by cases he⟩ (fun hC34 hH34 => ?_)) | (refine (awake_any R0.out.st).mono ?_; rintro e w' ⟨rfl, hb⟩; replace R0 := Lib.hid (R0.out.grow hb); replace X0 := Lib.hid (X0.out.next hb); clear hb; go_wp2_with fail; refine hK.out _ _ ⟨R0.out.cells, fun e he => by cases he⟩ (fun hC34 hH34 => ?_))
          clear hK K
          try simp only [Act.put, List.setIfInBounds_toArray, List.set_cons_zero, List.set_cons_succ]
          refine wpAnyT_take (i := 34) (oi := { dst := some 152, op := Op.pick (Operand.tmp 150) (Operand.tmp 151) (Operand.const (Value.bool false)), type := 4, pos := "outright.go:107", after := #[{ on := 32, ground := Ground.data }, { on := 33, ground := Ground.data }], guard := none }) (v := ?_) rfl (by kernel_rfl) (by kernel_rfl) (by kernel_rfl) (fun _ _ _ h => h) (by kernel_rfl) (by rfl) hC34 ?_ hH34 (fun hC35 hH35 => ?_)
          rotate_left
          · (refine Or.inl ⟨by rfl, ?_⟩; intro w9 hSw; obtain ⟨hSw, hLw⟩ := hSw; clear hLw; (try dsimp only at hSw); (go_split_ands; go_simp); (try with_reducible rfl))
          clear hC34 hH34
          try simp only [Act.put, List.setIfInBounds_toArray, List.set_cons_zero, List.set_cons_succ]
          refine wpAnyT_take (i := 35) (oi := { dst := some 16, op := Op.assign (Operand.tmp 152), type := 4, pos := "outright.go:107", after := #[{ on := 34, ground := Ground.data }, { on := 33, ground := Ground.chain }, { on := 0, ground := Ground.phase }, { on := 1, ground := Ground.phase }, { on := 2, ground := Ground.phase }, { on := 3, ground := Ground.phase }, { on := 4, ground := Ground.phase }, { on := 5, ground := Ground.phase }, { on := 6, ground := Ground.phase }, { on := 7, ground := Ground.phase }, { on := 8, ground := Ground.phase }, { on := 9, ground := Ground.phase }, { on := 10, ground := Ground.phase }, { on := 11, ground := Ground.phase }, { on := 12, ground := Ground.phase }, { on := 13, ground := Ground.phase }, { on := 14, ground := Ground.phase }, { on := 15, ground := Ground.phase }, { on := 16, ground := Ground.phase }, { on := 17, ground := Ground.phase }, { on := 18, ground := Ground.phase }, { on := 19, ground := Ground.phase }, { on := 20, ground := Ground.phase }, { on := 21, ground := Ground.phase }, { on := 22, ground := Ground.phase }, { on := 23, ground := Ground.phase }, { on := 24, ground := Ground.phase }, { on := 25, ground := Ground.phase }, { on := 26, ground := Ground.phase }, { on := 27, ground := Ground.phase }, { on := 28, ground := Ground.phase }, { on := 29, ground := Ground.phase }, { on := 30, ground := Ground.phase }, { on := 31, ground := Ground.phase }, { on := 32, ground := Ground.phase }, { on := 33, ground := Ground.phase }, { on := 34, ground := Ground.phase }], guard := none }) (v := ?_) rfl (by kernel_rfl) (by kernel_rfl) (by kernel_rfl) (fun _ _ _ h => h) (by kernel_rfl) (by rfl) hC35 ?_ hH35 (fun hC36 hH36 => ?_)
          rotate_left
          · (refine Or.inl ⟨by rfl, ?_⟩; intro w9 hSw; obtain ⟨hSw, hLw⟩ := hSw; clear hLw; (try dsimp only at hSw); (go_split_ands; go_simp); (try with_reducible rfl))
          clear hC35 hH35
          try simp only [Act.put, List.setIfInBounds_toArray, List.set_cons_zero, List.set_cons_succ]
          refine wpAnyT_done (by kernel_rfl) ?_ _
          clear hC36 hH36
          go_wp2_with fail
          go_ret
          exact ⟨rfl, R0.out.bel⟩
end Go.Proofs.YtclbmlmlhiiaeaaGreatDoor
