/-
Walks: BookBack.
-/
import Derived.Test.YtclbmlmlhiiaeaaGreatDoorQT22
import Derived.Test.YtclbmlmlhiiaeaaGreatDoorQS0
namespace Go.Proofs.YtclbmlmlhiiaeaaGreatDoor
open Go.RowKit
structure BW (x : WagesV) (p : Nat) (sa ta : Option Addr) (sc tc : Nat) (W : World) : Prop where
 box : BoxAt W p #[.int .i64 x.cr, .slice sa x.sn sc, .slice ta x.tn tc] 38
 s : NumsAt W sa x.sn 2 (castW x.S)
 t : NumsAt W ta x.tn 8 (castW x.T)
theorem BW.grow {x : WagesV} {p : Nat} {sa ta : Option Addr} {sc tc : Nat} {W W' : World} (h : BW x p sa ta sc tc W) (hb : Below W.heap.size W W') : BW x p sa ta sc tc W' := ⟨h.box.grow hb, h.s.grow hb, h.t.grow hb⟩
theorem BW.cells {x : WagesV} {p : Nat} {sa ta : Option Addr} {sc tc : Nat} {W : World} (h : BW x p sa ta sc tc W) : W.cell? ⟨p, 0, none⟩ = some (.int .i64 x.cr) ∧ W.cell? ⟨p, 1, none⟩ = some (.slice sa x.sn sc) ∧ W.cell? ⟨p, 2, none⟩ = some (.slice ta x.tn tc) :=
 ⟨cellAt h.box 0, cellAt h.box 1, cellAt h.box 2⟩
theorem BW.new {x : WagesV} {sa ta : Option Addr} {sc tc : Nat} {W : World} (hS : NumsAt W sa x.sn 2 (castW x.S)) (hT : NumsAt W ta x.tn 8 (castW x.T)) : BW x W.heap.size sa ta sc tc (W.alloc (.cells #[.int .i64 x.cr, .slice sa x.sn sc, .slice ta x.tn tc] 38)) :=
 have al := (Below.refl W.heap.size W).alloc (Nat.le_refl _) (.cells #[.int .i64 x.cr, .slice sa x.sn sc, .slice ta x.tn tc] 38)
 ⟨heap_alloc_new _ _, hS.grow al, hT.grow al⟩
structure BH (x : HullV) (p : Nat) (sa : Option Addr) (sc : Nat) (ua : Option Addr) (uc : Nat) (W : World) : Prop where
 box : BoxAt W p #[.slice sa x.s.length sc, .slice ua x.u.length uc] 25
 s : SeasAt W sa x.s.length (seaOf x.s)
 u : SousAt W ua x.u.length (souOf x.u)
theorem BH.grow {x : HullV} {p sc uc : Nat} {sa ua : Option Addr} {W W' : World} (h : BH x p sa sc ua uc W) (hb : Below W.heap.size W W') : BH x p sa sc ua uc W' := ⟨h.box.grow hb, h.s.grow hb, h.u.grow hb⟩
theorem BH.cells {x : HullV} {p sc uc : Nat} {sa ua : Option Addr} {W : World} (h : BH x p sa sc ua uc W) : W.cell? ⟨p, 0, none⟩ = some (.slice sa x.s.length sc) ∧ W.cell? ⟨p, 1, none⟩ = some (.slice ua x.u.length uc) := ⟨cellAt h.box 0, cellAt h.box 1⟩
structure BP (x : PitV) (p : Nat) (fa : Option Addr) (fc : Nat) (qa : Option Addr) (qc : Nat) (W : World) : Prop where
 box : BoxAt W p #[.int .i64 x.hr, .int .i64 x.fr, .int .i64 x.pe, .slice fa x.f.length fc, .slice qa x.q.length qc] 29
 f : IntsAt W fa x.f.length (intOf' x.f)
 q : PotsAt W qa x.q.length (potOf x.q)
theorem BP.grow {x : PitV} {p fc qc : Nat} {fa qa : Option Addr} {W W' : World} (h : BP x p fa fc qa qc W) (hb : Below W.heap.size W W') : BP x p fa fc qa qc W' := ⟨h.box.grow hb, h.f.grow hb, h.q.grow hb⟩
theorem BP.cells {x : PitV} {p fc qc : Nat} {fa qa : Option Addr} {W : World} (h : BP x p fa fc qa qc W) : W.cell? ⟨p, 0, none⟩ = some (.int .i64 x.hr) ∧ W.cell? ⟨p, 1, none⟩ = some (.int .i64 x.fr) ∧ W.cell? ⟨p, 2, none⟩ = some (.int .i64 x.pe) ∧ W.cell? ⟨p, 3, none⟩ = some (.slice fa x.f.length fc) ∧ W.cell? ⟨p, 4, none⟩ = some (.slice qa x.q.length qc) := ⟨cellAt h.box 0, cellAt h.box 1, cellAt h.box 2, cellAt h.box 3, cellAt h.box 4⟩
structure BI (x : IronsV) (p : Nat) (oa ma sa ca : Option Addr) (oc mc sc cc : Nat) (op sp : Nat → Option Addr) (ok sk : Nat → Nat) (W : World) : Prop where
 box : BoxAt W p #[.int .i64 x.f, .slice oa x.on oc, .slice ma x.mn mc, .slice sa x.sn sc, .slice ca x.cn cc] 34
 a : IronsAt x oa ma sa ca oc mc sc cc op sp ok sk W
theorem BI.grow {x : IronsV} {p oc mc sc cc : Nat} {oa ma sa ca : Option Addr} {op sp : Nat → Option Addr} {ok sk : Nat → Nat} {W W' : World} (h : BI x p oa ma sa ca oc mc sc cc op sp ok sk W) (hb : Below W.heap.size W W') : BI x p oa ma sa ca oc mc sc cc op sp ok sk W' := ⟨h.box.grow hb, h.a.grow hb⟩
theorem BI.cells {x : IronsV} {p oc mc sc cc : Nat} {oa ma sa ca : Option Addr} {op sp : Nat → Option Addr} {ok sk : Nat → Nat} {W : World} (h : BI x p oa ma sa ca oc mc sc cc op sp ok sk W) : W.cell? ⟨p, 0, none⟩ = some (.int .i64 x.f) ∧ W.cell? ⟨p, 1, none⟩ = some (.slice oa x.on oc) ∧ W.cell? ⟨p, 2, none⟩ = some (.slice ma x.mn mc) ∧ W.cell? ⟨p, 3, none⟩ = some (.slice sa x.sn sc) ∧ W.cell? ⟨p, 4, none⟩ = some (.slice ca x.cn cc) := ⟨cellAt h.box 0, cellAt h.box 1, cellAt h.box 2, cellAt h.box 3, cellAt h.box 4⟩
theorem readW_good {L : Nat} {g : Nat → Nat} (h : (readW L g).1 = 0) : wagesVB (readW L g).2 = true ∧ eqB (szB (bookN (readW L g).2)) L (bookB (readW L g).2) g = true := by
 unfold readW at h ⊢
 split
 ·rename_i h1
  rw [if_pos h1] at h
  cases h
 ·rename_i h1
  rw [if_neg h1] at h
  split
  ·rename_i hn
   rw [hn] at h
   cases h
  ·rename_i n hn
   rw [hn] at h
   dsimp only at h
   split
   ·rename_i h2
    rw [if_pos h2] at h
    split
    ·rename_i hx
     rw [hx] at h
     cases h
    ·rename_i s x hx
     rw [hx] at h
     dsimp only at h
     split
     ·rename_i h3
      rw [Bool.and_eq_true] at h3
      exact h3
     ·rename_i h3
      rw [if_neg h3] at h
      cases h
   ·rename_i h2
    rw [if_neg h2] at h
    cases h
theorem run_max4 {P : Program} (w : World) (ts : Array TypeId) (t : TypeId) (a b c d : Int) :
  (Builtin.max_ ts t #[.int .i64 a, .int .i64 b, .int .i64 c, .int .i64 d]).run P w = .ok (.int .i64 (max (max (max a b) c) d)) w := by
 have k : ∀ x y : Int, (if y > x then y else x) = max x y := fun x y => by
  rw [Int.max_def]
  split <;> split <;> omega
 simp only [gt_iff_lt] at k
 simp [Builtin.max_, Builtin.max2, k]
theorem sl76 : Tryz.prog.underlying 76 = some (.slice 41) := by kernel_rfl
theorem size41 : (Tryz.prog.info? 41).map (·.size) = some 1 := by kernel_rfl
set_option maxRecDepth 100000 in
set_option maxHeartbeats 16000000 in
theorem bookBack9_any (h : HullA) (p : PitA) (x : IrA) (g : WagA) (w : World) (hh : h.At w) (hp : p.At w) (hx : x.At w) (hg : g.At w) (hst : Stands w) :
  Calls Tryz.prog 9 #[.agg #[.slice h.sa h.sn h.sc, .slice h.ua h.un h.uc], .agg #[.int .i64 p.hr, .int .i64 p.fr, .int .i64 p.pe, .slice p.fa p.fn p.fc, .slice p.qa p.qn p.qc], .agg #[.int .i64 x.x.f, .slice x.oa x.x.on x.oc, .slice x.ma x.x.mn x.mc, .slice x.sa x.x.sn x.sc, .slice x.ca x.x.cn x.cc], .agg #[.int .i64 g.cr, .slice g.sa g.sn g.sc, .slice g.ta g.tn g.tc]] w fun e w' => e = .returned (.bool true) ∧ Below w.heap.size w w' := by
 obtain ⟨s1, e1, k1, l1, H1⟩ := hull_back h.S h.sn h.U h.un
 obtain ⟨s2, e2, k2, l2, H2⟩ := pit_back p.hr p.fr p.pe p.F p.fn p.Q p.qn
 obtain ⟨s3, e3, k3, l3, H3⟩ := iron_back x.x
 obtain ⟨m, B, e4, hB8, l4, k4, H4⟩ := wages_back g
 have C12 := Lib.hid (fun W (I : LA w h p x g W) => far12_any h.sa h.ua p.fa p.qa x.oa x.ma x.sa x.ca g.sa g.ta h.sn h.sc h.un h.uc p.fn p.fc p.qn p.qc x.x.on x.oc x.x.mn x.mc x.x.sn x.sc x.x.cn x.cc g.sn g.sc g.tn g.tc p.hr p.fr p.pe x.x.f g.cr x.op x.sp x.x.ol x.ok x.x.sl x.sk W I.a2.o I.a2.s)
 have C14 := Lib.hid (fun W (I : LA w h p x g W) => (show Calls Tryz.prog 14 #[.agg #[.slice h.sa h.sn h.sc, .slice h.ua h.un h.uc]] W fun e w' => e = .returned (.tuple #[.string ⟨s1.toArray⟩, .int .i64 e1]) ∧ Below W.heap.size W w' from by have hc := writeHull14_any h.sa h.ua h.sn h.sc h.un h.uc h.S h.U W I.a0.s I.a0.u I.st.tab I.st.sides; rw [k1] at hc; exact hc))
 have C16 := Lib.hid (fun W (I : LA w h p x g W) => (show Calls Tryz.prog 16 #[.agg #[.int .i64 p.hr, .int .i64 p.fr, .int .i64 p.pe, .slice p.fa p.fn p.fc, .slice p.qa p.qn p.qc]] W fun e w' => e = .returned (.tuple #[.string ⟨s2.toArray⟩, .int .i64 e2]) ∧ Below W.heap.size W w' from by have hc := writesPitch_any p.hr p.fr p.pe p.fa p.qa p.fn p.fc p.qn p.qc p.F p.Q W ⟨I.a1.f, I.a1.q, I.st.tab⟩; rw [k2] at hc; exact hc))
 have C18 := Lib.hid (fun W (I : LA w h p x g W) => (show Calls Tryz.prog 18 #[.agg #[.int .i64 x.x.f, .slice x.oa x.x.on x.oc, .slice x.ma x.x.mn x.mc, .slice x.sa x.x.sn x.sc, .slice x.ca x.x.cn x.cc]] W fun e w' => e = .returned (.tuple #[.string ⟨s3.toArray⟩, .int .i64 e3]) ∧ Below W.heap.size W w' from by have hc := writesIrons_any x.x x.oa x.ma x.sa x.ca x.oc x.mc x.sc x.cc x.op x.sp x.ok x.sk W ⟨I.a2, I.st.tab⟩; rw [k3] at hc; exact hc))
 have C20 := Lib.hid (fun W (I : LA w h p x g W) => (writeWages20_any g.cr g.sa g.ta g.sn g.sc g.tn g.tc g.S g.T W I.a3.s I.a3.t).mono fun e w' hh => k4 hh)
 have C41 := Lib.hid (fun W (I : LA w h p x g W) => hull41_any h.sa h.ua h.sn h.sc h.un h.uc h.S h.U W I.a0.s I.a0.u)
 have C42 := Lib.hid (fun W (I : LA w h p x g W) => pitch42_any p.hr p.fr p.pe p.fa p.qa p.fn p.fc p.qn p.qc p.F p.Q W I.a1.f I.a1.q)
 have C43 := Lib.hid (fun W (I : LA w h p x g W) => irons43_any x.x x.oa x.ma x.sa x.ca x.oc x.mc x.sc x.cc x.op x.sp x.ok x.sk W I.a2)
 have C31 := Lib.hid (fun W (I : LA w h p x g W) => wages31_any g.cr g.sa g.ta g.sn g.sc g.tn g.tc g.S g.T W I.a3.s I.a3.t)
 have V1 : (e1 == 0) = hullB h.S h.sn h.U h.un := by rcases H1 with ⟨a, b, -⟩ | ⟨a, b, -⟩ <;> rw [a, b] <;> rfl
 have V2 : (e2 == 0) = pitchB p.hr p.fr p.pe p.F p.fn p.Q p.qn := by rcases H2 with ⟨a, b, -⟩ | ⟨a, b, -⟩ <;> rw [a, b] <;> rfl
 have V3 : (e3 == 0) = ironsB x.x := by rcases H3 with ⟨a, b, -⟩ | ⟨a, b, -⟩ <;> rw [a, b] <;> rfl
 have V4 : (e4 == 0) = wagesB g.cr g.S g.sn g.T g.tn := by rcases H4 with ⟨a, b, -⟩ | ⟨a, b, -⟩ <;> rw [a, b] <;> rfl
 rw [← V1] at C41
 rw [← V2] at C42
 rw [← V3] at C43
 rw [← V4] at C31
 have W1 := Lib.hid H1
 have W2 := Lib.hid H2
 have W3 := Lib.hid H3
 have W4 := Lib.hid H4
 clear V1 V2 V3 V4 k1 k2 k3 k4 H1 H2 H3 H4
 go_enter Tryz.func9, Tryz.ntmps9
 go_upto_region 1 with (fail)
 generalize hW : World.alloc _ _ = W0
 obtain ⟨z0, z1, z2, z3, -, hB⟩ := blocks4 hW
 have I0 := Lib.hid (show LA w h p x g W0 from ⟨hB, hst.grow hB, z0, hh.grow hB, z1, hp.grow hB, z2, IronsAt.grow hx hB, z3, hg.grow hB⟩)
 clear hW z0 z1 z2 z3 hB hst hh hp hx hg
 have q00 := cellAt I0.out.b0 0
 have q01 := cellAt I0.out.b0 1
 simp only [List.getElem?_toArray, List.getElem?_cons_zero, List.getElem?_cons_succ] at q00 q01
 have q10 := cellAt I0.out.b1 0
 have q11 := cellAt I0.out.b1 1
 have q12 := cellAt I0.out.b1 2
 have q13 := cellAt I0.out.b1 3
 have q14 := cellAt I0.out.b1 4
 simp only [List.getElem?_toArray, List.getElem?_cons_zero, List.getElem?_cons_succ] at q10 q11 q12 q13 q14
 have q20 := cellAt I0.out.b2 0
 have q21 := cellAt I0.out.b2 1
 have q22 := cellAt I0.out.b2 2
 have q23 := cellAt I0.out.b2 3
 have q24 := cellAt I0.out.b2 4
 simp only [List.getElem?_toArray, List.getElem?_cons_zero, List.getElem?_cons_succ] at q20 q21 q22 q23 q24
 have q30 := cellAt I0.out.b3 0
 have q31 := cellAt I0.out.b3 1
 have q32 := cellAt I0.out.b3 2
 simp only [List.getElem?_toArray, List.getElem?_cons_zero, List.getElem?_cons_succ] at q30 q31 q32
 go_wp2_with (go_at_call 12; refine (C12.out _ I0.out).mono ?_)
 rintro e w1 ⟨⟨b, rfl⟩, hb1⟩
 have I1 := Lib.hid (I0.out.grow hb1)
 clear hb1 I0 C12 q00 q01 q10 q11 q12 q13 q14 q20 q21 q22 q23 q24 q30 q31 q32
 cases b with
 | true =>
  go_wp2_with (go_at_call 13; refine (awake_any I1.out.st).mono ?_; rintro e w2 ⟨rfl, hb2⟩)
  go_ret
  exact ⟨rfl, I1.out.bel.next hb2⟩
 | false =>
  have q00 := cellAt I1.out.b0 0
  have q01 := cellAt I1.out.b0 1
  simp only [List.getElem?_toArray, List.getElem?_cons_zero, List.getElem?_cons_succ] at q00 q01
  go_upto_region 4 with (go_at_call 14; refine (C14.out _ I1.out).mono ?_; rintro e w2 ⟨rfl, hb⟩)
  have I2 := Lib.hid (I1.out.grow hb)
  clear hb I1 C14 q00 q01
  have q10 := cellAt I2.out.b1 0
  have q11 := cellAt I2.out.b1 1
  have q12 := cellAt I2.out.b1 2
  have q13 := cellAt I2.out.b1 3
  have q14 := cellAt I2.out.b1 4
  simp only [List.getElem?_toArray, List.getElem?_cons_zero, List.getElem?_cons_succ] at q10 q11 q12 q13 q14
  go_upto_region 5 with (go_at_call 16; refine (C16.out _ I2.out).mono ?_; rintro e w3 ⟨rfl, hb⟩)
  have I3 := Lib.hid (I2.out.grow hb)
  clear hb I2 C16 q10 q11 q12 q13 q14
  have q20 := cellAt I3.out.b2 0
  have q21 := cellAt I3.out.b2 1
  have q22 := cellAt I3.out.b2 2
  have q23 := cellAt I3.out.b2 3
  have q24 := cellAt I3.out.b2 4
  simp only [List.getElem?_toArray, List.getElem?_cons_zero, List.getElem?_cons_succ] at q20 q21 q22 q23 q24
  go_upto_region 6 with (go_at_call 18; refine (C18.out _ I3.out).mono ?_; rintro e w4 ⟨rfl, hb⟩)
  have I4 := Lib.hid (I3.out.grow hb)
  clear hb I3 C18 q20 q21 q22 q23 q24
  have q30 := cellAt I4.out.b3 0
  have q31 := cellAt I4.out.b3 1
  have q32 := cellAt I4.out.b3 2
  simp only [List.getElem?_toArray, List.getElem?_cons_zero, List.getElem?_cons_succ] at q30 q31 q32
  go_upto_region 7 with (go_at_call 20; refine (C20.out _ I4.out).mono ?_; rintro e w5 ⟨oa, oc, rfl, ho, hcap, hb⟩)
  have I5 := Lib.hid (I4.out.grow hb)
  have O5 := Lib.hid ho
  clear ho hb I4 C20 q30 q31 q32
  have D5 := Lib.hid (Below.refl w5.heap.size w5)
  go_cut [78] from 53 to 78 (fun v W => v = .bool false ∧ LA w h p x g W ∧ Below w5.heap.size w5 W)
  case first =>
   have q00 := cellAt I5.out.b0 0
   have q01 := cellAt I5.out.b0 1
   simp only [List.getElem?_toArray, List.getElem?_cons_zero, List.getElem?_cons_succ] at q00 q01
   have t1 : ((e1 == 0) != (e1 == 0)) = false := bne_self_eq_false _
   go_wp2_with (go_at_call 41; refine (C41.out _ I5.out).mono ?_)
   rintro e w6 ⟨rfl, hb⟩
   have I6 := Lib.hid (I5.out.grow hb)
   have D6 := Lib.hid (D5.out.next hb)
   clear hb I5 D5 C41 q00 q01
   have q10 := cellAt I6.out.b1 0
   have q11 := cellAt I6.out.b1 1
   have q12 := cellAt I6.out.b1 2
   have q13 := cellAt I6.out.b1 3
   have q14 := cellAt I6.out.b1 4
   simp only [List.getElem?_toArray, List.getElem?_cons_zero, List.getElem?_cons_succ] at q10 q11 q12 q13 q14
   have t2 : ((e2 == 0) != (e2 == 0)) = false := bne_self_eq_false _
   go_wp2_with (go_at_call 42; refine (C42.out _ I6.out).mono ?_)
   rintro e w7 ⟨rfl, hb⟩
   have I7 := Lib.hid (I6.out.grow hb)
   have D7 := Lib.hid (D6.out.next hb)
   clear hb I6 D6 C42 q10 q11 q12 q13 q14
   have q20 := cellAt I7.out.b2 0
   have q21 := cellAt I7.out.b2 1
   have q22 := cellAt I7.out.b2 2
   have q23 := cellAt I7.out.b2 3
   have q24 := cellAt I7.out.b2 4
   simp only [List.getElem?_toArray, List.getElem?_cons_zero, List.getElem?_cons_succ] at q20 q21 q22 q23 q24
   have t3 : ((e3 == 0) != (e3 == 0)) = false := bne_self_eq_false _
   go_wp2_with (go_at_call 43; refine (C43.out _ I7.out).mono ?_)
   rintro e w8 ⟨rfl, hb⟩
   have I8 := Lib.hid (I7.out.grow hb)
   have D8 := Lib.hid (D7.out.next hb)
   clear hb I7 D7 C43 q20 q21 q22 q23 q24
   have q30 := cellAt I8.out.b3 0
   have q31 := cellAt I8.out.b3 1
   have q32 := cellAt I8.out.b3 2
   simp only [List.getElem?_toArray, List.getElem?_cons_zero, List.getElem?_cons_succ] at q30 q31 q32
   have t4 : ((e4 == 0) != (e4 == 0)) = false := bne_self_eq_false _
   go_wp2_with (go_at_call 31; refine (C31.out _ I8.out).mono ?_)
   rintro e w9 ⟨rfl, hb⟩
   have I9 := Lib.hid (I8.out.grow hb)
   have D9 := Lib.hid (D8.out.next hb)
   clear hb I8 D8 C31 q30 q31 q32
   go_wp2_with fail
   all_goals (go_meet; exact ⟨rfl, I9.out, D9.out⟩)
  case rest =>
   obtain ⟨rfl, hLA, hbw⟩ := hcut
   have I6 := Lib.hid hLA
   have O6 := Lib.hid (BytesAt.grow O5.out hbw)
   clear hLA hbw I5 O5 D5 C41 C42 C43 C31
   go_upto_region 9 with (fail)
   have HE1 := Lib.hid (show e1 = 0 ∨ e1 = 1 from by rcases W1.out with ⟨-, h, -⟩ | ⟨-, h, -⟩; exact .inl h; exact .inr h)
   have HE2 := Lib.hid (show e2 = 0 ∨ e2 = 1 from by rcases W2.out with ⟨-, h, -⟩ | ⟨-, h, -⟩; exact .inl h; exact .inr h)
   have HE3 := Lib.hid (show e3 = 0 ∨ e3 = 1 from by rcases W3.out with ⟨-, h, -⟩ | ⟨-, h, -⟩; exact .inl h; exact .inr h)
   have HE4 := Lib.hid (show e4 = 0 ∨ e4 = 1 from by rcases W4.out with ⟨-, h, -⟩ | ⟨-, h, -⟩; exact .inl h; exact .inr h)
   have al := (Below.refl wc.heap.size wc).alloc (Nat.le_refl _) (.cells #[.int .i64 e1, .int .i64 e2, .int .i64 e3, .int .i64 e4] 41)
   have I9 := Lib.hid (I6.out.grow al)
   have O9 := Lib.hid (BytesAt.grow O6.out al)
   have E9 := Lib.hid (show BoxAt (wc.alloc (.cells #[.int .i64 e1, .int .i64 e2, .int .i64 e3, .int .i64 e4] 41)) wc.heap.size #[.int .i64 e1, .int .i64 e2, .int .i64 e3, .int .i64 e4] 41 from heap_alloc_new _ _)
   clear al I6 O6
   go_wp2_with fail
   generalize World.alloc wc _ = w13 at *
   generalize wc.heap.size = gp at *
   go_loop [85] (fun j => ∃ k : Nat, k ≤ 4 ∧ j = .int .i64 k) (fun j => 4 - (intOf j).toNat)
   case atStart => exact ⟨0, Nat.zero_le _, rfl⟩
   case round =>
    obtain ⟨k, hk, rfl⟩ := hrel
    by_cases hlt : k < 4
    ·have hi := fun W => run_indexAt_row (w := W) (oa := some ⟨gp, 0, none⟩) (n := 4) (cap := 4) sl76 size41 rfl hlt
     simp only [blk, ofs, Nat.zero_add, Nat.mul_one] at hi
     have hx : ∃ x, w13.cell? ⟨gp, k, none⟩ = some (.int .i64 x) ∧ (x = 0 ∨ x = 1) := by
      rcases (show k = 0 ∨ k = 1 ∨ k = 2 ∨ k = 3 by omega) with rfl | rfl | rfl | rfl
      ·exact ⟨e1, cellAt E9.out 0, HE1.out⟩
      ·exact ⟨e2, cellAt E9.out 1, HE2.out⟩
      ·exact ⟨e3, cellAt E9.out 2, HE3.out⟩
      ·exact ⟨e4, cellAt E9.out 3, HE4.out⟩
     obtain ⟨x, hx, hxx⟩ := hx
     rcases hxx with rfl | rfl
     ·go_wp2_with fail
      exact ⟨⟨k + 1, hlt, by go_num⟩, by simp [intOf]; omega⟩
     ·go_wp2_with fail
      exact ⟨⟨k + 1, hlt, by go_num⟩, by simp [intOf]; omega⟩
    ·obtain rfl : k = 4 := by omega
     clear HE1 HE2 HE3 HE4 E9 hlt
     go_upto_region 15 with (fail)
     have C35 := Lib.hid (fun W (I : LA w h p x g W) => readHull35_any s1 W I.st.sides I.st.lim I.st.tab I.st.size)
     have C37 := Lib.hid (fun W (I : LA w h p x g W) => readPitch37_any s2 W I.st.lim I.st.tab I.st.size)
     have C39 := Lib.hid (fun W (I : LA w h p x g W) => readIrons39_any s3 W I.st.lim I.st.tab I.st.size)
     have C23 := Lib.hid (fun W (hb : BytesAt W oa m B) => readWages23_any oa m oc B W hb hB8 hcap)
     unfold ReadHullPost at C35
     unfold ReadPitchPost at C37
     unfold ReadIronsPost at C39
     unfold ReadWPost at C23
     go_upto_region 16 with (go_at_call 35; refine (C35.out _ I9.out).mono ?_; rintro e w1 ⟨hb1, sa, sc, ua, uc, rfl, hS, hU, -, -⟩)
     generalize (hullRes s1).2 = xh at *
     generalize (hullRes s1).1 = f1 at *
     have al := (Below.refl w1.heap.size w1).alloc (Nat.le_refl _) (.cells #[.slice sa xh.s.length sc, .slice ua xh.u.length uc] 25)
     have J1 := Lib.hid ((I9.out.grow hb1).grow al)
     have K1 := Lib.hid (BytesAt.grow (BytesAt.grow O9.out hb1) al)
     have X1 := Lib.hid (show BH xh w1.heap.size sa sc ua uc (w1.alloc (.cells #[.slice sa xh.s.length sc, .slice ua xh.u.length uc] 25)) from ⟨heap_alloc_new _ _, hS.grow al, hU.grow al⟩)
     clear hb1 hS hU al I9 O9 C35
     generalize World.alloc w1 _ = v2 at *
     generalize w1.heap.size = p1 at *
     go_upto_region 17 with (go_at_call 37; refine (C37.out _ J1.out).mono ?_; rintro e w3 ⟨hb1, fa, fc, qa, qc, rfl, hF, hQ, -, -⟩)
     generalize (pitRes s2).2 = xp at *
     generalize (pitRes s2).1 = f2 at *
     have al := (Below.refl w3.heap.size w3).alloc (Nat.le_refl _) (.cells #[.int .i64 xp.hr, .int .i64 xp.fr, .int .i64 xp.pe, .slice fa xp.f.length fc, .slice qa xp.q.length qc] 29)
     have J2 := Lib.hid ((J1.out.grow hb1).grow al)
     have K2 := Lib.hid (BytesAt.grow (BytesAt.grow K1.out hb1) al)
     have X2 := Lib.hid ((X1.out.grow hb1).grow al)
     have Y2 := Lib.hid (show BP xp w3.heap.size fa fc qa qc (w3.alloc (.cells #[.int .i64 xp.hr, .int .i64 xp.fr, .int .i64 xp.pe, .slice fa xp.f.length fc, .slice qa xp.q.length qc] 29)) from ⟨heap_alloc_new _ _, hF.grow al, hQ.grow al⟩)
     clear hb1 hF hQ al J1 K1 X1 C37
     generalize World.alloc w3 _ = v4 at *
     generalize w3.heap.size = p2 at *
     go_upto_region 18 with (go_at_call 39; refine (C39.out _ J2.out).mono ?_; rintro e w5 ⟨hb1, ia, ma, ra, ca, ic, mc, rc, cc, op, sp, ok, sk, rfl, hA, -⟩)
     generalize toV (ironRes s3).2 = xi at *
     generalize (ironRes s3).1 = f3 at *
     have al := (Below.refl w5.heap.size w5).alloc (Nat.le_refl _) (.cells #[.int .i64 xi.f, .slice ia xi.on ic, .slice ma xi.mn mc, .slice ra xi.sn rc, .slice ca xi.cn cc] 34)
     have J3 := Lib.hid ((J2.out.grow hb1).grow al)
     have K3 := Lib.hid (BytesAt.grow (BytesAt.grow K2.out hb1) al)
     have X3 := Lib.hid ((X2.out.grow hb1).grow al)
     have Y3 := Lib.hid ((Y2.out.grow hb1).grow al)
     have Z3 := Lib.hid (show BI xi w5.heap.size ia ma ra ca ic mc rc cc op sp ok sk (w5.alloc (.cells #[.int .i64 xi.f, .slice ia xi.on ic, .slice ma xi.mn mc, .slice ra xi.sn rc, .slice ca xi.cn cc] 34)) from ⟨heap_alloc_new _ _, hA.grow al⟩)
     clear hb1 hA al J2 K2 X2 Y2 C39
     generalize World.alloc w5 _ = v6 at *
     generalize w5.heap.size = p3 at *
     have RG := Lib.hid (fun h => readW_good (L := m) (g := B) h)
     go_upto_region 19 with (go_at_call 23; refine (C23.out _ K3.out).mono ?_; rintro e w7 ⟨hb1, ea, ec, ta, tc, rfl, hS, hT⟩)
     generalize (readW m B).2 = xw at *
     generalize (readW m B).1 = f4 at *
     have al := (Below.refl w7.heap.size w7).alloc (Nat.le_refl _) (.cells #[.int .i64 xw.cr, .slice ea xw.sn ec, .slice ta xw.tn tc] 38)
     have J4 := Lib.hid ((J3.out.grow hb1).grow al)
     have X4 := Lib.hid ((X3.out.grow hb1).grow al)
     have Y4 := Lib.hid ((Y3.out.grow hb1).grow al)
     have Z4 := Lib.hid ((Z3.out.grow hb1).grow al)
     have G4 := Lib.hid (BW.new (sc := ec) (tc := tc) hS hT)
     clear hb1 hS hT al J3 K3 X3 Y3 Z3 C23
     generalize World.alloc w7 _ = v8 at *
     generalize w7.heap.size = p4 at *
     go_cut [139] from 116 to 139 (fun v W => v = .bool false ∧ Below v8.heap.size v8 W)
     case first =>
      rcases W1.out with ⟨-, rfl, hf, o1, o2, hT⟩ | ⟨-, rfl, rfl, hf⟩
      ·obtain ⟨q0, q1⟩ := X4.out.cells
       have q00 := cellAt J4.out.b0 0
       have q01 := cellAt J4.out.b0 1
       simp only [List.getElem?_toArray, List.getElem?_cons_zero, List.getElem?_cons_succ] at q00 q01
       have D28 := Lib.hid (sameHulls28_any sa ua h.sa h.ua xh.s.length sc xh.u.length uc h.sn h.sc h.un h.uc (seaOf xh.s) h.S (souOf xh.u) h.U v8 X4.out.s X4.out.u J4.out.a0.s J4.out.a0.u o2 o1 J4.out.st.tab)
       rw [hT, beq_self_eq_true] at D28
       subst hf
       clear hT
       go_wp2_with (go_at_call 28; refine D28.out.mono ?_; rintro e w9 ⟨rfl, hb9⟩)
       all_goals (go_meet; exact ⟨rfl, hb9⟩)
      ·subst hf
       go_wp2_with fail
       all_goals (go_meet; exact ⟨rfl, Below.refl _ _⟩)
     case rest =>
      obtain ⟨rfl, hb9⟩ := hcut
      have J5 := Lib.hid (J4.out.grow hb9)
      have Y5 := Lib.hid (Y4.out.grow hb9)
      have Z5 := Lib.hid (Z4.out.grow hb9)
      have G5 := Lib.hid (G4.out.grow hb9)
      clear hb9 J4 X4 Y4 Z4 G4 W1
      go_upto_region 21 with (fail)
      go_cut [163] from 140 to 163 (fun v W => v = .bool false ∧ Below wc.heap.size wc W)
      case first =>
       rcases W2.out with ⟨-, rfl, hf, o1, o2, hT⟩ | ⟨-, rfl, rfl, hf⟩
       ·obtain ⟨q0, q1, q2, q3, q4⟩ := Y5.out.cells
        have q10 := cellAt J5.out.b1 0
        have q11 := cellAt J5.out.b1 1
        have q12 := cellAt J5.out.b1 2
        have q13 := cellAt J5.out.b1 3
        have q14 := cellAt J5.out.b1 4
        simp only [List.getElem?_toArray, List.getElem?_cons_zero, List.getElem?_cons_succ] at q10 q11 q12 q13 q14
        have D29 := Lib.hid (samePitch29_any ⟨xp.hr, xp.fr, xp.pe, fa, qa, xp.f.length, fc, xp.q.length, qc, intOf' xp.f, potOf xp.q⟩ p wc ⟨Y5.out.f, Y5.out.q⟩ J5.out.a1 o2 o1 J5.out.st.tab)
        rw [show PitA.T ⟨xp.hr, xp.fr, xp.pe, fa, qa, xp.f.length, fc, xp.q.length, qc, intOf' xp.f, potOf xp.q⟩ = PitA.T p from hT, beq_self_eq_true] at D29
        dsimp only at D29
        subst hf
        clear hT
        go_wp2_with (go_at_call 29; refine D29.out.mono ?_; rintro e w9 ⟨rfl, hb9⟩)
        all_goals (go_meet; exact ⟨rfl, hb9⟩)
       ·subst hf
        go_wp2_with fail
        all_goals (go_meet; exact ⟨rfl, Below.refl _ _⟩)
      case rest =>
       obtain ⟨rfl, hb9⟩ := hcut
       have J6 := Lib.hid (J5.out.grow hb9)
       have Z6 := Lib.hid (Z5.out.grow hb9)
       have G6 := Lib.hid (G5.out.grow hb9)
       clear hb9 J5 Y5 Z5 G5 W2
       go_upto_region 23 with (fail)
       go_cut [187] from 164 to 187 (fun v W => v = .bool false ∧ Below wc.heap.size wc W)
       case first =>
        rcases W3.out with ⟨-, rfl, hf, o1, o2, hT⟩ | ⟨-, rfl, rfl, hf⟩
        ·obtain ⟨q0, q1, q2, q3, q4⟩ := Z6.out.cells
         have q20 := cellAt J6.out.b2 0
         have q21 := cellAt J6.out.b2 1
         have q22 := cellAt J6.out.b2 2
         have q23 := cellAt J6.out.b2 3
         have q24 := cellAt J6.out.b2 4
         simp only [List.getElem?_toArray, List.getElem?_cons_zero, List.getElem?_cons_succ] at q20 q21 q22 q23 q24
         have D30 := Lib.hid (sameIrons30_any ⟨xi, ia, ma, ra, ca, ic, mc, rc, cc, op, sp, ok, sk⟩ x wc Z6.out.a J6.out.a2 o2 o1 J6.out.st.tab)
         rw [show sameI (IrA.x ⟨xi, ia, ma, ra, ca, ic, mc, rc, cc, op, sp, ok, sk⟩) x.x = true from hT] at D30
         dsimp only at D30
         subst hf
         clear hT
         go_wp2_with (go_at_call 30; refine D30.out.mono ?_; rintro e w9 ⟨rfl, hb9⟩)
         all_goals (go_meet; exact ⟨rfl, hb9⟩)
        ·subst hf
         go_wp2_with fail
         all_goals (go_meet; exact ⟨rfl, Below.refl _ _⟩)
       case rest =>
        obtain ⟨rfl, hb9⟩ := hcut
        have J7 := Lib.hid (J6.out.grow hb9)
        have G7 := Lib.hid (G6.out.grow hb9)
        clear hb9 J6 Z6 G6 W3
        go_upto_region 25 with (fail)
        go_cut [212] from 188 to 212 (fun v W => v = .bool false ∧ Below wc.heap.size wc W)
        case first =>
         rcases W4.out with ⟨-, rfl, ok4, hn4, hB4, hf⟩ | ⟨-, rfl, rfl, hf⟩
         ·obtain ⟨q0, q1, q2⟩ := G7.out.cells
          have q30 := cellAt J7.out.b3 0
          have q31 := cellAt J7.out.b3 1
          have q32 := cellAt J7.out.b3 2
          simp only [List.getElem?_toArray, List.getElem?_cons_zero, List.getElem?_cons_succ] at q30 q31 q32
          have hcr : ((wagesV g.cr g.S g.sn g.T g.tn).cr : Int) = g.cr := Int.toNat_of_nonneg (by have := ok4.hcr; omega)
          have hrg := RG.out hf
          have D27 := Lib.hid (show Calls Tryz.prog 27 #[.agg #[.int .i64 xw.cr, .slice ea xw.sn ec, .slice ta xw.tn tc], .agg #[.int .i64 g.cr, .slice g.sa g.sn g.sc, .slice g.ta g.tn g.tc]] wc fun e w' => e = .returned (.bool true) ∧ Below wc.heap.size wc w' from by
           have := sameWages27_any xw (wagesV g.cr g.S g.sn g.T g.tn) ea ta g.sa g.ta ec tc g.sc g.tc wc G7.out.s G7.out.t (ok4.rows J7.out.a3.s J7.out.a3.t).1 (ok4.rows J7.out.a3.s J7.out.a3.t).2 (small_valid hrg.1) ok4.small
           rw [hcr, ← hn4, ← hB4, hrg.2] at this
           exact this)
          subst hf
          clear hcr hrg ok4 hn4 hB4
          go_wp2_with (go_at_call 27; refine D27.out.mono ?_; rintro e w9 ⟨rfl, hb9⟩)
          all_goals (go_meet; exact ⟨rfl, hb9⟩)
         ·subst hf
          go_wp2_with fail
          all_goals (go_meet; exact ⟨rfl, Below.refl _ _⟩)
        case rest =>
         obtain ⟨rfl, hb9⟩ := hcut
         have J8 := Lib.hid (J7.out.grow hb9)
         clear hb9 J7 G7 W4 RG
         obtain ⟨z, hz, hz1⟩ : ∃ z : Int, (∀ (W : World) (ts : Array TypeId) (t : TypeId), (Builtin.max_ ts t #[.int .i64 (s1.length : Nat), .int .i64 (s2.length : Nat), .int .i64 (s3.length : Nat), .int .i64 (m : Nat)]).run Tryz.prog W = .ok (.int .i64 z) W) ∧ z ≤ 1000 :=
          ⟨_, fun W ts t => run_max4 W ts t _ _ _ _, by omega⟩
         clear l1 l2 l3 l4
         go_wp2_with (go_at_call 13; refine (awake_any J8.out.st).mono ?_; rintro e w9 ⟨rfl, hb9⟩)
         go_ret
         exact ⟨rfl, J8.out.bel.next hb9⟩
end Go.Proofs.YtclbmlmlhiiaeaaGreatDoor
