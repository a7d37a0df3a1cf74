/-
  The law: the pots, and the crews, in a truth.
-/
import Derived.Test.YtikeihnhkiipgaaH4
namespace Go.Proofs.Ytikeihnhkiipgaa
open Go.RowKit

/-- What lies behind the deal and the plan. -/
structure CZ (g : GN) (a : GA) (w : World) (oa pa : Option Addr) (L : List Stp) (sp : Option Addr) (spn : Nat) (spf : Nat → Nat) (W : World) : Prop where
  oi : OI g a w W
  dl : IntsAt W oa g.sn (fun i => ((g.to i : Nat) : Int))
  pl : Row W pa g.p.qn 2 (pC L)
  sp : Row W sp spn 1 (fun i _ => .int .u8 (spf i : Nat))
theorem CZ.grow {g : GN} {a : GA} {w : World} {oa pa : Option Addr} {L : List Stp} {sp : Option Addr} {spn : Nat} {spf : Nat → Nat} {A B : World} (h : CZ g a w oa pa L sp spn spf A) (hb : Below A.heap.size A B) : CZ g a w oa pa L sp spn spf B :=
  ⟨h.oi.grow hb, h.dl.grow hb, Row.grow h.pl hb, Row.grow h.sp hb⟩
/-- What the first loop keeps. -/
structure LZ (B : Nat) (w3 : World) (hb mb : Nat) (qn : Nat) (H : Nat → Nat) (Ok : Value → Value → Prop) (W : World) : Prop where
  bel : Below B w3 W
  hot : BoxAt W hb (hotC qn H) 3
  mem : MemoAt 44 Ok mb W
theorem LZ.grow {B : Nat} {w3 A D : World} {hb mb qn : Nat} {H : Nat → Nat} {Ok : Value → Value → Prop} (h : LZ B w3 hb mb qn H Ok A) (hd : Below A.heap.size A D) (hB : B ≤ A.heap.size) : LZ B w3 hb mb qn H Ok D :=
  ⟨h.bel.trans (hd.mono hB), h.hot.grow hd, h.mem.grow hd⟩
theorem size_u8 : (Try.prog.info? 5).map (·.size) = some 1 := by kernel_rfl
/-- What the second loop keeps. -/
structure LH (B : Nat) (w3 : World) (qn : Nat) (H : Nat → Nat) (W : World) : Prop where
  bel : Below B w3 W
  hot : BoxAt W B (hotC qn H) 3
theorem LH.grow {B : Nat} {w3 A D : World} {qn : Nat} {H : Nat → Nat} (h : LH B w3 qn H A) (hd : Below A.heap.size A D) (hB : B ≤ A.heap.size) : LH B w3 qn H D := ⟨h.bel.trans (hd.mono hB), h.hot.grow hd⟩
/-- When a pot is hot in a truth. -/
def PN.hotT (p : PN) (L : List Stp) (f j : Nat) : Nat := match L[j]? with
  | none => 0
  | some x => p.hot j x.h (p.tr f)
theorem hotT_ext {p : PN} {L : List Stp} {f k v : Nat} {H : Nat → Nat} (h : ∀ j, j < k → H j = p.hotT L f j) (hv : v = p.hotT L f k) : ∀ j, j < k + 1 → updN H k v j = p.hotT L f j := fun j hj => by
  unfold updN
  by_cases e : j = k
  · rw [if_pos e, hv, e]
  · rw [if_neg e]
    exact h j (by omega)
theorem hotT_le {g : GN} (ok : g.Ok) {n : Int} (he : g.p.end' g.p.qn Mk.start = some n) (f : Nat) {q : Nat} (hq : q < g.p.qn) : g.p.hotT (g.p.plan n g.p.qn Mk.start) f q ≤ g.hotN q := by
  obtain ⟨x, m, hx, hm, hp, hs⟩ := (best_at ok.hp he).2 q hq
  obtain ⟨-, s2, -, s4, -, -⟩ := step_hot hs
  have hb := ok.hp.hbt m.pot (by omega)
  unfold PN.hotT GN.hotN
  rw [he]
  dsimp only
  rw [hx]
  dsimp only
  rw [← hp]
  exact hot_anti ok.hp (by omega) s2 (tr_colder g.p f) (by omega)
section
variable (g : GN) (ok : g.Ok) (a : GA)
include ok
set_option maxRecDepth 100000 in
set_option maxHeartbeats 16000000 in
theorem caulked_good (fr : Nat) (sp : Option Addr) (spn spc : Nat) (spf : Nat → Nat) (w : World) (h : g.At a w) (hfr : fr < 65536) (hsp : Row w sp spn 1 (fun i _ => .int .u8 (spf i : Nat))) (hspf : ∀ i, spf i < 256) (hl : max (max (max g.sn g.cn) g.p.fn) g.p.qn ≤ 40)
    (CG : ∀ W, Below w.heap.size w W → Calls Try.prog 4 #[.agg (g.cs a)] W fun e w' => e = .returned (.bool true) ∧ Below W.heap.size W w')
    (hdv : g.dv g.sn Mk.start < 10000) (n : Int) (hend : g.p.end' g.p.qn Mk.start = some n) :
    Calls Try.prog 3 #[.agg (g.cs a), .int .u16 fr, .slice sp spn spc] w (LawPost w) := by
  have I0 := Lib.hid (oi_start h)
  have S0 := Lib.hid (Row.grow hsp ((Below.refl w.heap.size w).alloc (Nat.le_refl _) (.cells (g.cs a) 29)))
  have OK := Lib.hid ok
  obtain ⟨z, hz, hz1⟩ : ∃ z : Nat, (∀ (W : World) (ts : Array TypeId) (t : TypeId), (Builtin.max_ ts t #[.int .i64 (g.sn : Nat), .int .i64 (g.cn : Nat), .int .i64 (g.p.fn : Nat), .int .i64 (g.p.qn : Nat)]).run Try.prog W = .ok (.int .i64 z) W) ∧ z ≤ 40 :=
    ⟨_, fun W ts t => (run_max4 W ts t _ _ _ _).trans (by congr 3; omega), hl⟩
  have hl' : ¬ (40 : Int) < z := by omega
  have C1 := Lib.hid (CG _ I0.out.bel)
  have C2 := Lib.hid (fun W (h : g.At a W) => deal_any g ok a W h)
  have C3 := Lib.hid (fun W (h : g.At a W) => best_any g.p ok.hp a.fa a.qa a.fc a.qc W h.p)
  have HDV := Lib.hid hdv
  have HEN := Lib.hid hend
  have HFR := Lib.hid hfr
  have HSP := Lib.hid hspf
  have HSN := Lib.hid (show g.sn ≤ 5 from ok.hsn)
  have HQN := Lib.hid (show g.p.qn ≤ 4 from ok.hp.hqn)
  clear h hl CG hz1 ok hdv hend hfr hspf hsp
  unfold PN.cs at C3
  unfold GN.cs at *
  go_enter Try.func3, Try.ntmps3
  go_upto_region 1 with (fail)
  generalize World.alloc w _ = w0 at *
  obtain ⟨q0, q1, q2, q3, q4, q5, q6⟩ := I0.out.cells
  go_upto_region 3 with (go_at_call 4; refine C1.out.mono ?_; rintro e w1 ⟨rfl, hb1⟩)
  have I1 := Lib.hid (I0.out.grow hb1)
  have S1 := Lib.hid (Row.grow S0.out hb1)
  clear C1 hz hl' I0 S0 hb1 q0 q1 q2 q3 q4 q5 q6
  obtain ⟨q0, q1, q2, q3, q4, q5, q6⟩ := I1.out.cells
  go_upto_region 4 with (go_at_call 6; (with_reducible refine (C2.out _ I1.out.at').mono ?_); rintro e w2 hd; obtain ⟨dn, oa, dm, dc, ee, rfl, hb2, -, -, hdl⟩ := deal_out hd)
  obtain ⟨rfl, rfl, rfl, hto⟩ := hdl HDV.out
  have I2 := Lib.hid (I1.out.grow hb2)
  have S2 := Lib.hid (Row.grow S1.out hb2)
  have T2 := Lib.hid hto
  clear C2 I1 S1 hd hb2 q0 q1 q2 q3 q4 q5 q6 hto
  obtain ⟨q0, q1, q2, q3, q4, q5, q6⟩ := I2.out.cells
  go_upto_region 5 with (go_at_call 7; (with_reducible refine (C3.out _ I2.out.at').mono ?_); rintro e w3 hd; obtain ⟨hb3, hd⟩ := hd; rw [HEN.out] at hd; obtain ⟨pa, rfl, hpl, -⟩ := hd)
  have Z3 := Lib.hid (show CZ g a w oa pa (g.p.plan n g.p.qn Mk.start) sp spn spf w3 from ⟨I2.out.grow hb3, T2.out.grow hb3, hpl, Row.grow S2.out hb3⟩)
  clear C3 I2 S2 T2 hb3 hpl q0 q1 q2 q3 q4 q5 q6
  obtain ⟨q0, q1, q2, q3, q4, q5, q6⟩ := Z3.out.oi.cells
  have ef := i64_and g.p.pe fr (by have := OK.out.hp.hpe; have := pow12 OK.out.hp.hH; omega) (by have := HFR.out; omega)
  have eg := i64_or g.p.fr (g.p.pe &&& fr) (by have := OK.out.hp.hfr; have := pow12 OK.out.hp.hH; omega) (Nat.lt_of_le_of_lt Nat.and_le_left (by have := OK.out.hp.hpe; have := pow12 OK.out.hp.hH; omega))
  have hmk := make_hot w3 g.p.qn HQN.out
  have hmm := @run_makeMap Try.prog
  have hfr' : (fr : Int) < 65536 := by have := HFR.out; omega
  go_upto_region 18 with (fail)
  have L4 := Lib.hid (show LZ w3.heap.size w3 w3.heap.size (w3.heap.size + 1) g.p.qn (fun _ => 0) (OkT Mk.start 0 0 0) ((w3.alloc (.cells (hotC g.p.qn fun _ => 0) 3)).alloc (.map #[] 0)) from by
    obtain ⟨z0, z1, -, hB⟩ := blocks2 (show (w3.alloc (.cells (hotC g.p.qn fun _ => 0) 3)).alloc (.map #[] 0) = _ from rfl)
    have hm := MemoAt.made 44 (OkT Mk.start 0 0 0) (w3.alloc (.cells (hotC g.p.qn fun _ => 0) 3))
    rw [sizeAlloc] at hm
    exact ⟨hB, z0, hm⟩)
  have P0 := Lib.hid (pst_start HEN.out)
  have HHN := Lib.hid (fun q hq => hotT_le OK.out HEN.out fr (q := q) hq)
  rw [show g.p.fr ||| g.p.pe &&& fr = g.p.tr fr from rfl]
  clear hmk hmm hfr' ef eg hdl q0 q1 q2 q3 q4 q5 q6
  generalize g.p.plan n g.p.qn Mk.start = L at *
  generalize World.alloc (World.alloc w3 _) _ = w4 at *
  obtain ⟨B, hB⟩ : ∃ B, w3.heap.size = B := ⟨_, rfl⟩
  have HB3 := Lib.hid hB
  rw [hB] at L4 ⊢
  clear hB
  go_wp2_with fail
  go_loopw [145] (fun i W => ∃ (k : Nat) (m : Mk) (H : Nat → Nat), k ≤ g.p.qn ∧ i = .int .i64 k ∧ PSt g.p n L k m ∧ (∀ j, j < k → H j = g.p.hotT L fr j) ∧ LZ B w3 B (B + 1) g.p.qn H (OkT m 0 0 0) W) (fun i _ => g.p.qn - (intOf i).toNat)
  case atStart => exact ⟨0, Mk.start, _, Nat.zero_le _, rfl, P0.out, fun j hj => by omega, L4.out⟩
  case round =>
    as_aux_lemma =>
      clear L4 P0
      obtain ⟨k, m, H, hk, rfl, hps, hH, hL⟩ := hrel
      have L1 := Lib.hid hL
      have PS := Lib.hid hps
      have HH := Lib.hid hH
      clear hL hps hH
      have Z1 := Lib.hid (Z3.out.grow (by rw [HB3.out]; exact L1.out.bel))
      by_cases hlt : k < g.p.qn
      · have hlt' : (k : Int) < g.p.qn := by omega
        have hmeas : g.p.qn - (k + 1) < g.p.qn - k := by omega
        have HW := Lib.hid (succ64 (show k < 100 by have := HQN.out; omega))
        obtain ⟨x, hxL, hpo, hps2⟩ := pst_next OK.out.hp PS.out hlt
        have HXL := Lib.hid hxL
        have PO := Lib.hid hpo
        have PS2 := Lib.hid hps2
        have HMP := Lib.hid (show m.pot = k from PS.out.2.1)
        have hi := fun W => run_indexAt_row (w := W) (cap := g.p.qn) Try.underlying37 size_place (Z1.out.pl.plain (by omega)) hlt
        have p0 := Z1.out.pl.cells k hlt 0 (by omega)
        have p1 := Z1.out.pl.cells k hlt 1 (by omega)
        simp only [pC, hxL, Nat.add_zero, if_true, if_neg (show ¬ (1 : Nat) = 0 by omega)] at p0 p1
        clear hxL hpo hps2
        go_upto_region 21 with (fail)
        have al := (Below.refl wr.heap.size wr).alloc (Nat.le_refl _) (.cells #[.int .i64 x.f, .int .i64 x.h] 44)
        have hBw : B ≤ wr.heap.size := Nat.le_of_lt (lt_of_heap L1.out.hot)
        have L2 := Lib.hid (L1.out.grow al hBw)
        have Z2 := Lib.hid (Z1.out.grow al)
        have X2 := Lib.hid (show BoxAt (wr.alloc (.cells #[.int .i64 x.f, .int .i64 x.h] 44)) wr.heap.size #[.int .i64 x.f, .int .i64 x.h] 44 from heap_alloc_new _ _)
        have HX2 := Lib.hid hBw
        have HX3 := Lib.hid (show B + 1 < wr.heap.size from L1.out.mem.lt)
        clear al hBw p0 p1 hi L1 Z1
        generalize World.alloc wr _ = w5 at *
        generalize wr.heap.size = x19 at *
        have hiQ := fun W => run_indexAt_row (w := W) (cap := a.qc) Try.underlying25 size_pot (Z2.out.oi.at'.p.q.plain (by omega)) hlt
        obtain ⟨k0, k1, k2⟩ := Z2.out.oi.at'.p.pots hlt
        obtain ⟨-, -, q2, -, -, q5, q6⟩ := Z2.out.oi.cells
        have x0 := cellAt X2.out 0
        have x1 := cellAt X2.out 1
        simp only [List.getElem?_toArray, List.getElem?_cons_zero, List.getElem?_cons_succ] at x0 x1
        have f1 : ¬ (g.p.fn : Int) ≤ (x.f : Int) := by have := PO.out.hf; omega
        have f2 : ¬ (x.h : Int) < (g.p.fm k : Int) := by have := PO.out.hfm; rw [HMP.out] at this; omega
        go_quiet (fail)
        have L3 := Lib.hid (L2.out.grow (below_drewN (Below.refl w5.heap.size w5) nq) (Nat.le_trans HX2.out (Nat.le_of_lt (lt_of_heap X2.out))))
        have Z3' := Lib.hid (Z2.out.grow (below_drewN (Below.refl w5.heap.size w5) nq))
        have X3 := Lib.hid (X2.out.grow (below_drewN (Below.refl w5.heap.size w5) nq))
        clear k0 k1 k2 q2 q5 q6 x0 x1 f1 f2 L2 Z2 X2
        generalize World.drewN w5 nq = w6 at *
        obtain ⟨k0, k1, k2⟩ := Z3'.out.oi.at'.p.pots hlt
        obtain ⟨-, -, q2, -, -, q5, q6⟩ := Z3'.out.oi.cells
        have x0 := cellAt X3.out 0
        have x1 := cellAt X3.out 1
        simp only [List.getElem?_toArray, List.getElem?_cons_zero, List.getElem?_cons_succ] at x0 x1
        go_upto_region 23 with (fail)
        go_quiet (fail)
        have L4 := Lib.hid (L3.out.grow (below_drewN (Below.refl w6.heap.size w6) nq) (Nat.le_trans HX2.out (Nat.le_of_lt (lt_of_heap X3.out))))
        have Z4 := Lib.hid (Z3'.out.grow (below_drewN (Below.refl w6.heap.size w6) nq))
        have X4 := Lib.hid (X3.out.grow (below_drewN (Below.refl w6.heap.size w6) nq))
        clear k0 k1 k2 q2 q5 q6 x0 x1 L3 Z3' X3 hiQ
        generalize World.drewN w6 nq = w7 at *
        have HPQ := Lib.hid (show m.pot < g.p.qn by rw [HMP.out]; exact hlt)
        have HHT := Lib.hid (OK.out.hp.hht k hlt)
        have HH12 := Lib.hid (show g.p.H ≤ 12 from OK.out.hp.hH)
        have HX5 := Lib.hid (show w7.heap.size ≤ w7.heap.size from Nat.le_refl _)
        go_wp2_with fail
        go_loopw [20, 21] (fun l h W => ∃ d : Nat, l = .int .i64 ((g.p.ht k : Int) - ((heat (g.p.tr fr) x.h d : Nat) : Int)) ∧ h = .int .i64 ((x.h + d : Nat) : Int) ∧ x.h + d ≤ g.p.hot m.pot x.h (g.p.tr fr) ∧ LZ B w3 B (B + 1) g.p.qn H (OkT m x.f x.h d) W ∧ BoxAt W x19 #[.int .i64 x.f, .int .i64 x.h] 44) (fun _ h _ => g.p.hot m.pot x.h (g.p.tr fr) - (intOf h).toNat)
        case atStart =>
          refine ⟨0, by simp [heat], rfl, ?_, ⟨L4.out.bel, L4.out.hot, L4.out.mem.mono (okT_start _ _)⟩, X4.out⟩
          obtain ⟨d, h1, -, -, -⟩ := hot_heat OK.out.hp (k := m.pot) (g.p.tr fr) HPQ.out PO.out.hh
          rw [h1]
          omega
        case round =>
          as_aux_lemma =>
            clear L4 Z4 X4 HX5
            obtain ⟨d, rfl, rfl, hd, hL, hX⟩ := hrel
            have L5 := Lib.hid hL
            have X5 := Lib.hid hX
            have HD := Lib.hid hd
            have Z5 := Lib.hid (Z3.out.grow (by rw [HB3.out]; exact L5.out.bel))
            clear hL hX hd
            by_cases hw : heat (g.p.tr fr) x.h d < g.p.ht k
            · have hlt2 := pot_wants OK.out.hp PO.out HPQ.out fr HD.out (by rw [HMP.out]; exact hw)
              have hcol := (pot_hot OK.out.hp PO.out HPQ.out fr).2
              have hbt := PO.out.hbt
              have hbh := PO.out.hbh
              have HLT := Lib.hid hlt2
              have hmeas2 : g.p.hot m.pot x.h (g.p.tr fr) - (x.h + (d + 1)) < g.p.hot m.pot x.h (g.p.tr fr) - (x.h + d) := by omega
              have HM2 := Lib.hid hmeas2
              have hfree := PO.out.free (x.h + d) (by omega) (by omega)
              have hk1 := key_spot x.f (x.h + d) (by have := PO.out.hf; have := OK.out.hp.hfn; omega) (by have := HH12.out; omega)
              have hlk := L5.out.mem.look1 lawSpot Try.underlying42 (zero_bool wr) hk1 (okT_no PO.out (by omega))
              obtain ⟨w8, hst, hm8, hg8⟩ := (L5.out.mem.mono okT_mono).store lawSpot Try.underlying42 hk1 (v := .bool true) ⟨rfl, x.f, x.h + d, rfl, by have := PO.out.hf; have := OK.out.hp.hfn; omega, .inr ⟨rfl, by omega, by omega⟩⟩
              unfold plV at hlk hst
              have hFb := bit_is (g.p.F x.f) (x.h + d) (Nat.lt_of_lt_of_le (OK.out.hp.hF x.f PO.out.hf) (pow12 OK.out.hp.hH))
              rw [hfree.1, if_neg (by decide)] at hFb
              have hTb := bit_is (g.p.tr fr) (x.h + d) (tr_lt OK.out.hp fr)
              have hH' : ¬ (g.p.H : Int) ≤ ((x.h + d : Nat) : Int) := by omega
              have hiF := fun W => run_indexAt_row (w := W) (cap := a.fc) Try.underlying24 size_int (Z5.out.oi.at'.p.f.plain (by have := PO.out.hf; omega)) PO.out.hf
              simp only [Nat.mul_one] at hiF
              have cF := Z5.out.oi.at'.p.f.at PO.out.hf
              have HNX := Lib.hid (show heat (g.p.tr fr) x.h (d + 1) = heat (g.p.tr fr) x.h d + if (g.p.tr fr).testBit (x.h + d) then 1 else 2 from rfl)
              have hle := heat_le (g.p.tr fr) x.h d
              have hht := HHT.out.2
              obtain ⟨lv, hlv⟩ : ∃ lv : Int, lv = (g.p.ht k : Int) - ((heat (g.p.tr fr) x.h d : Nat) : Int) := ⟨_, rfl⟩
              have HLV := Lib.hid hlv
              have hlv1 : 0 < lv := by omega
              have hlv2 : lv ≤ 12 := by omega
              clear hbt hmeas2 hfree hk1 hle hht hw
              rw [← hlv]
              clear hlv
              generalize hhN : x.h + d = hN at *
              have HHN := Lib.hid hhN
              have hN12 : hN ≤ 12 := by have := HH12.out; omega
              clear hlt2 hcol hbh hhN
              obtain ⟨-, -, q2, -, -, q5, -⟩ := Z5.out.oi.cells
              have x0 := cellAt X5.out 0
              have x1 := cellAt X5.out 1
              simp only [List.getElem?_toArray, List.getElem?_cons_zero, List.getElem?_cons_succ] at x0 x1
              go_upto_region 28 with (fail)
              have L6 := Lib.hid (show LZ B w3 B (B + 1) g.p.qn H (OkT m x.f x.h (d + 1)) w8 from ⟨L5.out.bel.grown hg8 (Nat.le_of_lt (lt_of_heap L5.out.hot)) (fun k e => by cases e; omega), L5.out.hot.kept hg8 (by intro e; cases e), hm8⟩)
              have X6 := Lib.hid (X5.out.kept hg8 (by intro e; cases e; have := HX3.out; omega))
              clear hst hlk hm8 hg8 hFb hH' hiF cF q2 q5 x0 x1 L5 X5 Z5
              by_cases htb : (g.p.tr fr).testBit hN = true
              · rw [if_pos htb] at hTb HNX
                go_wp2_with fail
                refine ⟨⟨d + 1, congrArg (Value.int .i64) (by rw [HNX.out]; have := HLV.out; omega), congrArg (Value.int .i64) (by have := HHN.out; omega), by have := HHN.out; have := HLT.out; omega, L6.out, X6.out⟩, ?_⟩
                have := HLT.out
                simp only [intOf]
                omega
              · rw [if_neg htb] at hTb HNX
                go_wp2_with fail
                refine ⟨⟨d + 1, congrArg (Value.int .i64) (by rw [HNX.out]; have := HLV.out; omega), congrArg (Value.int .i64) (by have := HHN.out; omega), by have := HHN.out; have := HLT.out; omega, L6.out, X6.out⟩, ?_⟩
                have := HLT.out
                simp only [intOf]
                omega
            · have hlv' : ¬ (0 : Int) < (g.p.ht k : Int) - ((heat (g.p.tr fr) x.h d : Nat) : Int) := by omega
              have hdone := pot_done OK.out.hp PO.out HPQ.out fr HD.out (by rw [HMP.out]; exact hw)
              have hhot := pot_hot OK.out.hp PO.out HPQ.out fr
              have HHT2 := Lib.hid (show g.p.hotT L fr k = x.h + d from by unfold PN.hotT; rw [HXL.out]; dsimp only; rw [← HMP.out]; exact hdone.symm)
              have hcl := Nat.le_trans PO.out.hbt PO.out.hbh
              have C8 := Lib.hid (fun W (h : g.At a W) => hot_ok g.p OK.out.hp a.fa a.qa a.fc a.qc k x.h W h.p hlt PO.out.hh (by rw [← HMP.out]; exact hcl))
              unfold PN.cs at C8
              have hbt := PO.out.hbt
              rw [← hdone] at hhot
              rw [HMP.out] at hhot hbt
              generalize hlo : g.p.hot k x.h g.p.fr = lo at *
              generalize hhi : g.p.hot k x.h (g.p.fr ||| g.p.pe) = hi at *
              have HOK := Lib.hid (fun key v => okT_next PO.out (d := d) (by rw [HMP.out, hhi]; exact hhot.2) key v)
              generalize hhN : x.h + d = hN at *
              clear hlo hhi hdone hcl hw HD
              generalize (g.p.ht k : Int) - ((heat (g.p.tr fr) x.h d : Nat) : Int) = lv at *
              obtain ⟨-, -, q2, q3, q4, q5, q6⟩ := Z5.out.oi.cells
              have x1 := cellAt X5.out 1
              simp only [List.getElem?_toArray, List.getElem?_cons_zero, List.getElem?_cons_succ] at x1
              go_upto_region 33 with (go_at_call 8; (with_reducible refine (C8.out _ Z5.out.oi.at').mono ?_); rintro e w9 ⟨rfl, hb9⟩)
              have al9 := (Below.refl w9.heap.size w9).alloc (Nat.le_refl _) (.cells #[.int .i64 lo, .int .i64 hi] 48)
              have hB5 : B ≤ wr.heap.size := Nat.le_of_lt (lt_of_heap L5.out.hot)
              have L9 := Lib.hid ((L5.out.grow hb9 hB5).grow al9 (Nat.le_trans hB5 hb9.size))
              have Z9 := Lib.hid ((Z5.out.grow hb9).grow al9)
              have Y9 := Lib.hid (show BoxAt (w9.alloc (.cells #[.int .i64 lo, .int .i64 hi] 48)) w9.heap.size #[.int .i64 lo, .int .i64 hi] 48 from heap_alloc_new _ _)
              clear hb9 al9 hB5 L5 Z5 X5 C8 q2 q3 q4 q5 q6 x1
              generalize World.alloc w9 _ = wA at *
              generalize w9.heap.size = x22 at *
              have hiQ := fun W => run_indexAt_row (w := W) (cap := a.qc) Try.underlying25 size_pot (Z9.out.oi.at'.p.q.plain (by omega)) hlt
              obtain ⟨-, -, k2⟩ := Z9.out.oi.at'.p.pots hlt
              have q6 := Z9.out.oi.cells.2.2.2.2.2.2
              have y0 := cellAt Y9.out 0
              have y1 := cellAt Y9.out 1
              simp only [List.getElem?_toArray, List.getElem?_cons_zero, List.getElem?_cons_succ] at y0 y1
              have f1 : ¬ (hN : Int) < (lo : Int) := by omega
              have f2 : ¬ (hi : Int) < (hN : Int) := by omega
              have f3 : ¬ (g.p.bt k : Int) < (hN : Int) := by omega
              go_upto_region 35 with (fail)
              clear hiQ k2 q6 y0 y1 f1 f2 f3 Y9 hhot hbt
              have hiH : ∀ W, (Instr.indexAt 24 (.slice (some ⟨B, 0, none⟩) g.p.qn g.p.qn) (.int .i64 k)).run Try.prog W = .ok (.pointer (some ⟨B, k, none⟩)) W := fun W => by
                have h := run_indexAt_row (w := W) (P := Try.prog) (oa := some ⟨B, 0, none⟩) (cap := g.p.qn) Try.underlying24 size_int rfl hlt
                simpa [blk, ofs] using h
              have c0 := (cellAt L9.out.hot k).trans (hotC_at _ hlt)
              have f0 := freeAt L9.out.hot k
              have hst := L9.out.hot.store k (.int .i64 hN)
              rw [hotC_set] at hst
              have LA := Lib.hid (show LZ B w3 B (B + 1) g.p.qn (updN H k hN) (OkT x.m 0 0 0) (wA.setCell ⟨B, k, none⟩ (.int .i64 hN)) from ⟨L9.out.bel.setCell (Nat.le_refl _) _, hst, (L9.out.mem.mono HOK.out).same (Below.heap_setCell _ _ _ _ (by show B + 1 ≠ B; omega))⟩)
              clear hst L9 Z9
              go_wp2_with fail
              rw [HW.out]
              exact ⟨⟨k + 1, x.m, _, hlt, rfl, PS2.out, hotT_ext HH.out HHT2.out.symm, LA.out⟩, hmeas⟩
      · have hlt' : ¬ (k : Int) < g.p.qn := by omega
        obtain rfl : k = g.p.qn := by omega
        have L2 := Lib.hid (show LH B w3 g.p.qn H wr from ⟨L1.out.bel, L1.out.hot⟩)
        obtain ⟨q0, q1, -, -, -, -, -⟩ := Z1.out.oi.cells
        clear hk hlt L1 PS
        go_wp2_with fail
        clear q0 q1 Z1
        go_loopw [269] (fun i W => ∃ c : Nat, c ≤ g.cn ∧ i = .int .i64 c ∧ LH B w3 g.p.qn H W) (fun i _ => g.cn - (intOf i).toNat)
        case atStart => exact ⟨0, Nat.zero_le _, rfl, L2.out⟩
        case round =>
          as_aux_lemma =>
            clear L2
            obtain ⟨c, hc, rfl, hL⟩ := hrel
            have L1 := Lib.hid hL
            clear hL
            have Z1 := Lib.hid (Z3.out.grow (by rw [HB3.out]; exact L1.out.bel))
            by_cases hct : c < g.cn
            · have hct' : (c : Int) < g.cn := by omega
              have hmeas : g.cn - (c + 1) < g.cn - c := by omega
              have HW := Lib.hid (succ64 (show c < 100 by have := OK.out.hcn; omega))
              have hi := fun W => run_indexAt_row (w := W) (cap := a.cc) Try.underlying23 size_crew (Z1.out.oi.at'.c.plain (by omega)) hct
              obtain ⟨k0, k1, k2⟩ := Z1.out.oi.at'.crews hct
              go_upto_region 40 with (fail)
              have al := (Below.refl wr.heap.size wr).alloc (Nat.le_refl _) (.cells #[.int .i64 (g.lo c), .int .i64 (g.hi c), .int .i64 (g.se c)] 52)
              have hBw : B ≤ wr.heap.size := Nat.le_of_lt (lt_of_heap L1.out.hot)
              have L2 := Lib.hid (L1.out.grow al hBw)
              have Z2 := Lib.hid (Z1.out.grow al)
              have X2 := Lib.hid (show BoxAt (wr.alloc (.cells #[.int .i64 (g.lo c), .int .i64 (g.hi c), .int .i64 (g.se c)] 52)) wr.heap.size #[.int .i64 (g.lo c), .int .i64 (g.hi c), .int .i64 (g.se c)] 52 from heap_alloc_new _ _)
              clear al hBw k0 k1 k2 hi L1 Z1
              generalize World.alloc wr _ = w5 at *
              generalize wr.heap.size = x25 at *
              go_wp2_with fail
              go_loopw [276, 26] (fun i v W => ∃ j : Nat, j ≤ g.sn ∧ i = .int .i64 j ∧ v = .int .i64 ((setOf g.to c j : Nat) : Int) ∧ W = w5) (fun i _ _ => g.sn - (intOf i).toNat)
              case atStart => exact ⟨0, Nat.zero_le _, rfl, rfl, rfl⟩
              case round =>
                as_aux_lemma =>
                  obtain ⟨j, hj, rfl, rfl, rfl⟩ := hrel
                  by_cases hjt : j < g.sn
                  · have hjt' : (j : Int) < g.sn := by omega
                    have hmeas2 : g.sn - (j + 1) < g.sn - j := by omega
                    have HW2 := Lib.hid (succ64 (show j < 100 by have := HSN.out; omega))
                    have hi := fun W => run_indexAt_row (w := W) (cap := dc) Try.underlying24 size_int (Z2.out.dl.plain (by omega)) hjt
                    simp only [Nat.mul_one] at hi
                    have d0 := Z2.out.dl.at hjt
                    have HS := Lib.hid (show setOf g.to c (j + 1) = if g.to j = c then setOf g.to c j ||| 2 ^ j else setOf g.to c j from rfl)
                    have hs1 : setOf g.to c j < 32 := Nat.lt_of_lt_of_le (setOf_lt _ _ _) (by have : 2 ^ j ≤ 2 ^ 5 := Nat.pow_le_pow_right (by omega) (by have := HSN.out; omega); omega)
                    have hs2 : 2 ^ j < 32 := by have : 2 ^ j ≤ 2 ^ 4 := Nat.pow_le_pow_right (by omega) (by have := HSN.out; omega); omega
                    have HOR := Lib.hid (show bits .or .i64 ((setOf g.to c j : Nat) : Int) ((2 : Int) ^ j) = ((setOf g.to c j ||| 2 ^ j : Nat) : Int) from by rw [show (2 : Int) ^ j = ((2 ^ j : Nat) : Int) from by simp]; exact i64_or _ _ (by omega) (by omega))
                    have hsh : wrap64 ((2 : Int) ^ (min j 64)) = ((2 ^ j : Nat) : Int) := by
                      rw [Nat.min_eq_left (by have := HSN.out; omega)]
                      exact shl_one (by have := HSN.out; omega)
                    have hj0 : (0 : Int) ≤ j := by omega
                    generalize setOf g.to c j = sj at *
                    generalize g.to j = tj at *
                    clear hs1 hs2
                    by_cases e : tj = c
                    · rw [if_pos e] at HS
                      have e' : (tj : Int) = (c : Int) := by rw [e]
                      subst e
                      go_wp2_with fail
                      rw [HW2.out, HOR.out]
                      exact ⟨⟨j + 1, hjt, rfl, by rw [HS.out], trivial⟩, hmeas2⟩
                    · rw [if_neg e] at HS
                      have e' : ((tj : Int) == (c : Int)) = false := beq_false_of_ne (by omega)
                      go_wp2_with fail
                      rw [HW2.out]
                      exact ⟨⟨j + 1, hjt, rfl, by rw [HS.out], trivial⟩, hmeas2⟩
                  · have hjt' : ¬ (j : Int) < g.sn := by omega
                    obtain rfl : j = g.sn := by omega
                    obtain ⟨r, hf, hg, he⟩ := deal_rows OK.out HDV.out hct
                    have GO := Lib.hid hg
                    have C9 := Lib.hid (fun W (h : g.At a W) => can_any g OK.out a c (setOf g.to c g.sn) hct (setOf_lt _ _ _) r hf W h)
                    unfold GN.cs at C9
                    have hsub : bits .andNot .i64 ((setOf g.to c g.sn : Nat) : Int) ((g.se c : Nat) : Int) = 0 := i64_sub _ _ (Nat.lt_of_lt_of_le (setOf_lt _ _ _) (by have : 2 ^ g.sn ≤ 2 ^ 5 := Nat.pow_le_pow_right (by omega) HSN.out; omega)) (se_lt OK.out hct) (fun b hb => by
                      rw [← he, ends_mem, Nat.zero_testBit, Bool.false_or, decide_eq_true_eq] at hb
                      have hk := (goes_mem hg hb).2
                      unfold GN.kn at hk
                      rw [Bool.and_eq_true] at hk
                      exact hk.1)
                    clear hf hg he hjt hj
                    generalize setOf g.to c g.sn = S at *
                    obtain ⟨q0, q1, q2, q3, q4, q5, q6⟩ := Z2.out.oi.cells
                    go_upto_region 48 with (go_at_call 9; (with_reducible refine (C9.out _ Z2.out.oi.at').mono ?_); rintro e w6 ⟨hb6, ra, rcap, rfl, hrow⟩)
                    have L6 := Lib.hid (L2.out.grow hb6 (Nat.le_of_lt (lt_of_heap L2.out.hot)))
                    have Z6 := Lib.hid (Z2.out.grow hb6)
                    have X6 := Lib.hid (X2.out.grow hb6)
                    have R6 := Lib.hid hrow
                    clear hb6 hrow q0 q1 q2 q3 q4 q5 q6 C9 L2 Z2 X2
                    have x0 := cellAt X6.out 0
                    have x1 := cellAt X6.out 1
                    have x2 := cellAt X6.out 2
                    simp only [List.getElem?_toArray, List.getElem?_cons_zero, List.getElem?_cons_succ] at x0 x1 x2
                    go_upto_region 51 with (fail)
                    clear hsub x2
                    have HLO := Lib.hid (OK.out.hlo c hct)
                    have HSM := Lib.hid (Z6.out.sp.small)
                    go_upto_if 310 with (fail)
                    go_cut [31] from 310 to 329 (fun v W => ∃ q : Nat, v = .int .i64 q ∧ g.lo c ≤ q ∧ q ≤ 12 ∧ ∃ j, W = w6.drewN j)
                    case first =>
                      as_aux_lemma =>
                        by_cases hn : 0 < spn
                        · have hn' : (0 : Int) < spn := by omega
                          have hlt := Nat.mod_lt c hn
                          have hiS := fun W => run_indexAt_row (w := W) (cap := spc) Try.underlying31 size_u8 (Z6.out.sp.plain hn) hlt
                          have cS := Z6.out.sp.cells (c % spn) hlt 0 (by omega)
                          simp only [Nat.mul_one, Nat.add_zero] at hiS cS
                          have hy := HSP.out (c % spn)
                          have e0 : (c : Int).tmod (spn : Int) = ((c % spn : Nat) : Int) := by rw [Int.tmod_eq_emod_of_nonneg (by omega)]; rfl
                          have n0 : ¬ (spn : Int) = 0 := by omega
                          generalize c % spn = ci at *
                          generalize spf ci = y at *
                          have h3 := HLO.out
                          have e1 : IntKind.i64.wrap ((g.hi c : Int) - (g.lo c : Int)) = ((g.hi c - g.lo c : Nat) : Int) := by rw [IntKind.wrap_i64]; omega
                          have e2 : IntKind.i64.wrap (((g.hi c - g.lo c : Nat) : Int) + 1) = ((g.hi c - g.lo c + 1 : Nat) : Int) := by rw [IntKind.wrap_i64]; omega
                          have e3 : ((y : Nat) : Int).tmod ((g.hi c - g.lo c + 1 : Nat) : Int) = ((y % (g.hi c - g.lo c + 1) : Nat) : Int) := by rw [Int.tmod_eq_emod_of_nonneg (by omega)]; rfl
                          have h4 := Nat.mod_lt y (show g.hi c - g.lo c + 1 > 0 by omega)
                          have e4 : IntKind.i64.wrap ((g.lo c : Int) + ((y % (g.hi c - g.lo c + 1) : Nat) : Int)) = ((g.lo c + y % (g.hi c - g.lo c + 1) : Nat) : Int) := by rw [IntKind.wrap_i64]; omega
                          have e5 : IntKind.i64.wrap ((y : Nat) : Int) = y := by rw [IntKind.wrap_i64]; omega
                          have n1 : ¬ ((g.hi c - g.lo c + 1 : Nat) : Int) = 0 := by omega
                          have HQ := Lib.hid (show g.lo c ≤ g.lo c + y % (g.hi c - g.lo c + 1) ∧ g.lo c + y % (g.hi c - g.lo c + 1) ≤ 12 by omega)
                          have HV := Lib.hid (show wrap64 ((g.lo c : Int) + (y : Int) % (((g.hi c - g.lo c : Nat) : Int) + 1)) = ((g.lo c + y % (g.hi c - g.lo c + 1) : Nat) : Int) from by
                            rw [show (y : Int) % (((g.hi c - g.lo c : Nat) : Int) + 1) = ((y % (g.hi c - g.lo c + 1) : Nat) : Int) from rfl]
                            exact w64 (by omega))
                          clear h3 h4 hy hlt
                          go_wp2_with fail
                          go_quiet (fail)
                          go_wp2_with fail
                          rw [HV.out]
                          go_meet
                          exact ⟨_, rfl, HQ.out.1, HQ.out.2, nq, rfl⟩
                        · have hn' : ¬ (0 : Int) < spn := by omega
                          go_wp2_with fail
                          go_meet
                          exact ⟨g.lo c, rfl, Nat.le_refl _, Nat.le_trans HLO.out.2.1 HLO.out.2.2, 0, rfl⟩
                    case rest =>
                      obtain ⟨q, rfl, hq1, hq2, jj, rfl⟩ := hcut
                      have hdr := below_drewN (Below.refl w6.heap.size w6) jj
                      have L7 := Lib.hid (L6.out.grow hdr (Nat.le_of_lt (lt_of_heap L6.out.hot)))
                      have R7 := Lib.hid (R6.out.grow hdr)
                      have HQ := Lib.hid (And.intro hq1 hq2)
                      clear hdr L6 R6 Z6 X6 x0 x1 hq1 hq2
                      generalize World.drewN w6 jj = w7 at *
                      have HB7 := Lib.hid (show B ≤ w7.heap.size from Nat.le_of_lt (lt_of_heap L7.out.hot))
                      go_wp2_with fail
                      go_loopw [332, 32] (fun i v W => ∃ (j t : Nat) (s : St), j ≤ r.length ∧ i = .int .i64 j ∧ v = .int .i64 t ∧ t ≤ s.h ∧ s.h ≤ 24 ∧ g.goes c s (r.drop j) ∧ LH B w3 g.p.qn H W ∧ Below w7.heap.size w7 W) (fun i _ _ => r.length - (intOf i).toNat)
                      case atStart => exact ⟨0, 0, ⟨0, 0⟩, Nat.zero_le _, rfl, rfl, Nat.le_refl _, Nat.zero_le _, GO.out, L7.out, Below.refl _ _⟩
                      case round =>
                        as_aux_lemma =>
                          clear L7
                          obtain ⟨j, t, s, hj, rfl, rfl, ht, hs, hg, hL, hb⟩ := hrel
                          have L8 := Lib.hid hL
                          have R8 := Lib.hid (R7.out.grow hb)
                          have B8 := Lib.hid hb
                          have HT := Lib.hid ht
                          have HS := Lib.hid hs
                          have G8 := Lib.hid hg
                          clear hL hb ht hs hg
                          have Z8 := Lib.hid (Z3.out.grow (by rw [HB3.out]; exact L8.out.bel))
                          by_cases hjt : j < r.length
                          · have hjt' : (j : Int) < r.length := by omega
                            have hmeas2 : r.length - (j + 1) < r.length - j := by omega
                            have HJ := Lib.hid (show wrap64 ((j : Int) + 1) = ((j + 1 : Nat) : Int) from w64 (by have := R8.out.small; unfold maxLen at this; omega))
                            have hgo := G8.out
                            rw [List.drop_eq_getElem_cons hjt] at hgo
                            obtain ⟨hn, -, hkn, hfl, hgo2⟩ := hgo
                            have G9 := Lib.hid hgo2
                            have c0 := R8.out.at hjt
                            rw [show natsF r j = ((r[j] : Nat) : Int) from by simp [natsF, List.getElem?_eq_getElem hjt]] at c0
                            have hi := fun W => run_indexAt_row (w := W) (cap := rcap) Try.underlying24 size_int (R8.out.plain (by omega)) hjt
                            simp only [Nat.mul_one] at hi
                            generalize r[j] = m at *
                            clear hgo2
                            have hrd : g.rdy m < 10000 := by
                              unfold GN.kn at hkn
                              rw [Bool.and_eq_true, decide_eq_true_eq] at hkn
                              exact hkn.2
                            have hi2 := fun W => run_indexAt_row (w := W) (cap := a.sc) Try.underlying22 size_seam (Z8.out.oi.at'.s.plain (by omega)) hn
                            obtain ⟨g0, g1, g2, g3⟩ := Z8.out.oi.at'.seams hn
                            have q0 := Z8.out.oi.cells.1
                            go_upto_region 58 with (fail)
                            have al := (Below.refl wr.heap.size wr).alloc (Nat.le_refl _) (.cells #[.int .i64 (g.fm m), .int .i64 (g.dr m), .int .i64 (g.fl m), .int .i64 (g.po m)] 41)
                            have hBw : B ≤ wr.heap.size := Nat.le_of_lt (lt_of_heap L8.out.hot)
                            have L9 := Lib.hid (L8.out.grow al hBw)
                            have Z9 := Lib.hid (Z8.out.grow al)
                            have B9 := Lib.hid (B8.out.next al)
                            have X9 := Lib.hid (show BoxAt (wr.alloc (.cells #[.int .i64 (g.fm m), .int .i64 (g.dr m), .int .i64 (g.fl m), .int .i64 (g.po m)] 41)) wr.heap.size #[.int .i64 (g.fm m), .int .i64 (g.dr m), .int .i64 (g.fl m), .int .i64 (g.po m)] 41 from heap_alloc_new _ _)
                            clear al hBw c0 hi hi2 g0 g1 g2 g3 q0 L8 R8 B8 Z8
                            generalize World.alloc wr _ = w9 at *
                            generalize wr.heap.size = x35 at *
                            obtain ⟨q0, q1, q2, q3, q4, q5, q6⟩ := Z9.out.oi.cells
                            have C9 := Lib.hid (gready_any g OK.out a m hn hrd w9 Z9.out.oi.at')
                            unfold GN.cs at C9
                            go_upto_region 59 with (go_at_call 10; (with_reducible refine C9.out.mono ?_); rintro e wA ⟨rfl, hbA⟩)
                            have LA := Lib.hid (L9.out.grow hbA (Nat.le_of_lt (lt_of_heap L9.out.hot)))
                            have BA := Lib.hid (B9.out.next hbA)
                            have XA := Lib.hid (X9.out.grow hbA)
                            clear hbA C9 L9 Z9 B9 X9 q0 q1 q2 q3 q4 q5 q6
                            have x0 := cellAt XA.out 0
                            have x1 := cellAt XA.out 1
                            have x2 := cellAt XA.out 2
                            have x3 := cellAt XA.out 3
                            simp only [List.getElem?_toArray, List.getElem?_cons_zero, List.getElem?_cons_succ] at x0 x1 x2 x3
                            have HRD := Lib.hid (show g.rdy m = if g.po m < 0 then g.dr m else max (g.dr m) (g.hotN (g.po m).toNat) from rfl)
                            have HNX := Lib.hid (show (g.nxt s c m).h = max s.h (g.rdy m) + (g.fm m + g.lo c - 1) / g.lo c from rfl)
                            have HFL := Lib.hid hfl
                            have HTA := Lib.hid (takes_anti (f := g.fm m) (a := g.lo c) (b := q) (OK.out.hlo c hct).1 HQ.out.1)
                            have hq0 : ¬ q = 0 := by have := HQ.out; have := OK.out.hlo c hct; omega
                            obtain ⟨T, M, hM, hTv, hTe⟩ := next_sum (h := t) (r := g.rdy m) (f := g.fm m) (l := q) (by omega) HQ.out.2 (OK.out.hfm m hn).2 (by have := HT.out; have := HS.out; omega) (by omega)
                            rw [← hM] at hTv
                            simp only [wrap_64] at hTv
                            have HTV := Lib.hid hTv
                            have HTL := Lib.hid (show T ≤ (g.nxt s c m).h from by rw [hTe, HNX.out]; have := HTA.out; have := HT.out; omega)
                            have hTf : ¬ (g.fl m : Int) < (T : Int) := by have := HTL.out; have := HFL.out; omega
                            have HTN := Lib.hid (show (g.nxt s c m).h ≤ 24 from Nat.le_trans HFL.out (OK.out.hfl m hn))
                            clear hTv hTe hM hfl
                            by_cases hp : 0 ≤ g.po m
                            · obtain ⟨k, hk⟩ : ∃ k : Nat, g.po m = (k : Int) := ⟨(g.po m).toNat, by omega⟩
                              rw [hk] at x3 hp
                              have hkq : k < g.p.qn := by have := (OK.out.hpo m hn).2; omega
                              have hiH : ∀ W, (Instr.indexAt 24 (.slice (some ⟨B, 0, none⟩) g.p.qn g.p.qn) (.int .i64 k)).run Try.prog W = .ok (.pointer (some ⟨B, k, none⟩)) W := fun W => by
                                have h := run_indexAt_row (w := W) (P := Try.prog) (oa := some ⟨B, 0, none⟩) (cap := g.p.qn) Try.underlying24 size_int rfl hkq
                                simpa [blk, ofs] using h
                              have cH := (cellAt LA.out.hot k).trans (hotC_at _ hkq)
                              have hle := HHN.out k hkq
                              rw [← HH.out k hkq] at hle
                              have hrk := HRD.out
                              rw [hk, if_neg (by omega), Int.toNat_natCast] at hrk
                              have hnb : ¬ (g.rdy m : Int) < max (g.dr m : Int) (H k : Int) := by omega
                              clear hle hrk
                              go_upto_region 65 with (fail)
                              rw [HTV.out]
                              go_wp2_with fail
                              rw [HJ.out]
                              exact ⟨⟨j + 1, T, g.nxt s c m, hjt, rfl, rfl, HTL.out, HTN.out, G9.out, LA.out, BA.out⟩, hmeas2⟩
                            · have hrk := HRD.out
                              rw [if_pos (by omega)] at hrk
                              have hnb : ¬ (g.rdy m : Int) < (g.dr m : Int) := by omega
                              clear hrk
                              go_upto_region 65 with (fail)
                              rw [HTV.out]
                              go_wp2_with fail
                              rw [HJ.out]
                              exact ⟨⟨j + 1, T, g.nxt s c m, hjt, rfl, rfl, HTL.out, HTN.out, G9.out, LA.out, BA.out⟩, hmeas2⟩
                          · have hjt' : ¬ (j : Int) < r.length := by omega
                            clear hjt hj
                            obtain ⟨q0, q1, q2, q3, q4, q5, q6⟩ := Z8.out.oi.cells
                            have C9 := Lib.hid (sets_any g OK.out a c hct wr Z8.out.oi.at')
                            unfold GN.cs at C9
                            go_upto_region 69 with (go_at_call 11; (with_reducible refine C9.out.mono ?_); rintro e wA ⟨⟨ya, ym, yc, hym, rfl⟩, hbA⟩)
                            have LA := Lib.hid (L8.out.grow hbA (Nat.le_of_lt (lt_of_heap L8.out.hot)))
                            have hym' : ((ym : Int) == 0) = false := beq_false_of_ne (by omega)
                            clear hbA C9 L8 R8 B8 Z8 q0 q1 q2 q3 q4 q5 q6 hym
                            go_wp2_with fail
                            rw [HW.out]
                            exact ⟨⟨c + 1, hct, rfl, LA.out⟩, hmeas⟩
            · have hct' : ¬ (c : Int) < g.cn := by omega
              clear hct hc
              have hdv0 : (0 : Int) ≤ (g.dv g.sn Mk.start : Nat) := by omega
              go_wp2_with (go_at_call 5; refine (awake08_any _).mono ?_; rintro e w' ⟨rfl, hb⟩)
              go_ret
              exact ⟨rfl, Z1.out.oi.bel.next hb⟩
end
end Go.Proofs.Ytikeihnhkiipgaa
