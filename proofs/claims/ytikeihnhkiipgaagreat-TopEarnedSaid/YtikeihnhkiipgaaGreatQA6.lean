/-
  Walks: a pitch that is looked at.
  Walks: when a pot is hot, and which hours it takes.
-/
import Derived.Test.YtikeihnhkiipgaaGreatQA1
import Derived.Lib.MinMax
namespace Go.Proofs.YtikeihnhkiipgaaGreat
open Go.RowKit

/-- A valid pitch, in plain numbers. -/
structure PN where
  H : Nat
  fr : Nat
  pe : Nat
  fn : Nat
  F : Nat → Nat
  qn : Nat
  ht : Nat → Nat
  fm : Nat → Nat
  bt : Nat → Nat
structure PN.Ok (p : PN) : Prop where
  hH : p.H ≤ 12
  hfr : p.fr < 2 ^ p.H
  hpe : p.pe < 2 ^ p.H
  hfn : p.fn ≤ 3
  hF : ∀ i, i < p.fn → p.F i < 2 ^ p.H
  hqn : p.qn ≤ 4
  hht : ∀ i, i < p.qn → 1 ≤ p.ht i ∧ p.ht i ≤ 12
  hfm : ∀ i, i < p.qn → p.fm i ≤ p.H
  hbt : ∀ i, i < p.qn → p.bt i ≤ p.H
def PN.pot (p : PN) (i : Nat) : Nat → Value
  | 0 => .int .i64 (p.ht i)
  | 1 => .int .i64 (p.fm i)
  | _ => .int .i64 (p.bt i)
/-- Its rows. -/
structure PN.At (p : PN) (fa qa : Option Addr) (W : World) : Prop where
  f : IntsAt W fa p.fn (fun i => (p.F i : Nat))
  q : Row W qa p.qn 3 p.pot
theorem PN.At.grow {p : PN} {fa qa : Option Addr} {W W' : World} (h : p.At fa qa W) (hb : Below W.heap.size W W') : p.At fa qa W' := ⟨h.f.grow hb, Row.grow h.q hb⟩
theorem PN.At.pots {p : PN} {fa qa : Option Addr} {W : World} (h : p.At fa qa W) {k : Nat} (hk : k < p.qn) :
    W.cell? ⟨blk qa, ofs qa + k * 3, none⟩ = some (.int .i64 (p.ht k)) ∧ W.cell? ⟨blk qa, ofs qa + k * 3 + 1, none⟩ = some (.int .i64 (p.fm k)) ∧ W.cell? ⟨blk qa, ofs qa + k * 3 + 2, none⟩ = some (.int .i64 (p.bt k)) :=
  ⟨h.q.cells k hk 0 (by omega), h.q.cells k hk 1 (by omega), h.q.cells k hk 2 (by omega)⟩
/-- Its value, and the box of one that is looked at. -/
def PN.cs (p : PN) (fa qa : Option Addr) (fc qc : Nat) : Array Value := #[.int .i64 p.H, .int .i64 p.fr, .int .i64 p.pe, .slice fa p.fn fc, .slice qa p.qn qc]
def PN.box (p : PN) (fa qa : Option Addr) (fc qc : Nat) : Array Value := #[.int .i64 p.H, .int .i64 p.fr, .int .i64 p.pe, .slice fa p.fn fc, .slice qa p.qn qc, .int .u64 p.fr, .int .u64 (p.fr ||| p.pe : Nat)]
theorem pow12 {H : Nat} (h : H ≤ 12) : 2 ^ H ≤ 4096 := pow2_lt h
theorem w64 {n : Int} (h : -9223372036854775808 ≤ n ∧ n ≤ 9223372036854775807) : wrap64 n = n := by unfold wrap64; omega
theorem shl_one {H : Nat} (h : H ≤ 12) : wrap64 ((2 : Int) ^ H) = ((2 ^ H : Nat) : Int) := by
  rw [pow2_cast]
  have := pow12 h
  generalize 2 ^ H = z at *
  exact w64 (by omega)
set_option maxHeartbeats 400000 in
theorem isSet_any (s H B : Nat) (cs : Array Value) (w : World) (h0 : cs[0]? = some (.int .i64 H)) (hb : BoxAt w B cs 27) (hH : H ≤ 12) (hs : s < 2 ^ H) :
    Calls Tryz.prog 95 #[.int .i64 s, bp B] w fun e w' => e = .returned (.bool true) ∧ w = w' := by
  have c0 := cellAt hb 0
  rw [h0] at c0
  have hp := pow12 hH
  have HS := Lib.hid (show inB s 0 (wrap64 (wrap64 ((2 : Int) ^ H) - 1)) = true from inB_iff.2 (by rw [shl_one hH]; generalize 2 ^ H = z at *; have e : wrap64 ((z : Int) - 1) = z - 1 := w64 (by omega); omega))
  go_enter Tryz.func95, Tryz.ntmps95
  go_wp2_with (go_at_call 94; refine (Pi.within_any _ _ _ _).mono ?_; rintro e w' ⟨rfl, rfl⟩)
  go_ret
  exact ⟨ret_bool HS.out, rfl⟩
/-- The pitch's own box. -/
structure OpenI (w : World) (p : PN) (fa qa : Option Addr) (fc qc : Nat) (W : World) : Prop where
  bel : Below w.heap.size w W
  box : BoxAt W w.heap.size (p.cs fa qa fc qc) 27
  at' : p.At fa qa W
theorem OpenI.grow {w W W' : World} {p : PN} {fa qa : Option Addr} {fc qc : Nat} (h : OpenI w p fa qa fc qc W) (hb : Below W.heap.size W W') : OpenI w p fa qa fc qc W' := ⟨h.bel.next hb, h.box.grow hb, h.at'.grow hb⟩
theorem open_cells {w W : World} {p : PN} {fa qa : Option Addr} {fc qc : Nat} (h : OpenI w p fa qa fc qc W) : W.cell? ⟨w.heap.size, 0, none⟩ = some (.int .i64 p.H) ∧ W.cell? ⟨w.heap.size, 1, none⟩ = some (.int .i64 p.fr) ∧ W.cell? ⟨w.heap.size, 2, none⟩ = some (.int .i64 p.pe) ∧ W.cell? ⟨w.heap.size, 3, none⟩ = some (.slice fa p.fn fc) ∧ W.cell? ⟨w.heap.size, 4, none⟩ = some (.slice qa p.qn qc) :=
  ⟨cellAt h.box 0, cellAt h.box 1, cellAt h.box 2, cellAt h.box 3, cellAt h.box 4⟩
theorem inB_true {n lo hi : Int} (h : lo ≤ n ∧ n ≤ hi) : inB n lo hi = true := inB_iff.2 h
set_option maxRecDepth 100000 in
set_option maxHeartbeats 4000000 in
theorem open_any (p : PN) (ok : p.Ok) (fa qa : Option Addr) (fc qc : Nat) (gf : Nat) (lb : Array Value) (w : World) (h : p.At fa qa w)
    (hcf : ∀ b W, (callFunc gf (#[bp b] ++ lb)).run Tryz.prog W = .ok (.enter gf (#[bp b] ++ lb)) W)
    (hcl : ∀ b W, Below w.heap.size w W → BoxAt W b (p.box fa qa fc qc) 160 → Calls Tryz.prog gf (#[bp b] ++ lb) W fun e W' => e = .returned (.bool true) ∧ Below W.heap.size W W') :
    Calls Tryz.prog 74 #[.agg (p.cs fa qa fc qc), .func (.func gf) #[] lb] w fun e w' => ∃ b, e = .returned (bp b) ∧ w.heap.size ≤ b ∧ BoxAt w' b (p.box fa qa fc qc) 160 ∧ Below w.heap.size w w' := by
  have I0 := Lib.hid (show OpenI w p fa qa fc qc (w.alloc (.cells (p.cs fa qa fc qc) 27)) from ⟨(Below.refl _ _).alloc (Nat.le_refl _) _, heap_alloc_new _ _, h.grow ((Below.refl _ _).alloc (Nat.le_refl _) _)⟩)
  have OK := Lib.hid ok
  have CL := Lib.hid hcl
  have b0 : inB (p.H : Int) 0 12 = true := inB_true (by have := ok.hH; omega)
  have b1 : ((p.fn : Int) ≤ 3) := by have := ok.hfn; omega
  have b2 : ((p.qn : Int) ≤ 4) := by have := ok.hqn; omega
  have CS := Lib.hid (fun W (I : OpenI w p fa qa fc qc W) s (hs : s < 2 ^ p.H) => isSet_any s p.H w.heap.size (p.cs fa qa fc qc) W rfl I.box ok.hH hs)
  have hw := I0.out.bel.size
  clear h ok hcl
  go_enter Tryz.func74, Tryz.ntmps74
  go_upto_region 1 with (fail)
  unfold PN.cs at *
  generalize World.alloc w _ = W0 at *
  obtain ⟨q0, q1, q2, q3, q4⟩ := open_cells I0.out
  go_upto_region 4 with (first
    | (go_at_call 94; refine (Pi.within_any _ _ _ _).mono ?_; rintro e w' ⟨rfl, rfl⟩)
    | (go_at_call 80; ((with_reducible refine (Pi.ask_true _ _).mono ?_); rintro e w' ⟨rfl, rfl⟩))
    | (go_at_call 95; (with_reducible refine (CS.out _ I0.out _ OK.out.hfr).mono ?_); rintro e w' ⟨rfl, rfl⟩)
    | (go_at_call 95; (with_reducible refine (CS.out _ I0.out _ OK.out.hpe).mono ?_); rintro e w' ⟨rfl, rfl⟩))
  go_wp2_with fail
  go_loop [42] (fun i => ∃ k : Nat, k ≤ p.fn ∧ i = .int .i64 k) (fun i => p.fn - (intOf i).toNat)
  case atStart => exact ⟨0, Nat.zero_le _, rfl⟩
  case round =>
    obtain ⟨k, hk, rfl⟩ := hrel
    by_cases hlt : k < p.fn
    · have hlt' : (k : Int) < p.fn := by omega
      have hi := fun W => run_indexAt_row (w := W) (cap := fc) Tryz.underlying24 size_int (I0.out.at'.f.plain (by omega)) hlt
      simp only [Nat.mul_one] at hi
      have g0 := I0.out.at'.f.at hlt
      go_wp2_with (first
        | (go_at_call 95; (with_reducible refine (CS.out _ I0.out _ (OK.out.hF k hlt)).mono ?_); rintro e w' ⟨rfl, rfl⟩)
        | (go_at_call 80; ((with_reducible refine (Pi.ask_true _ _).mono ?_); rintro e w' ⟨rfl, rfl⟩)))
      go_round
      case rel => exact ⟨k + 1, hlt, by go_num⟩
      case measure => simp [intOf]; omega
    · have hlt' : ¬ (k : Int) < p.fn := by omega
      clear b0 b1 b2
      go_wp2_with fail
      clear q0 q1 q2 q3 q4
      go_loopw [54] (fun i W => ∃ k : Nat, k ≤ p.qn ∧ i = .int .i64 k ∧ OpenI w p fa qa fc qc W) (fun i _ => p.qn - (intOf i).toNat)
      case atStart => exact ⟨0, Nat.zero_le _, rfl, I0.out⟩
      case round =>
        clear I0 hlt hlt' hk
        obtain ⟨k, hk, rfl, hI⟩ := hrel
        have I1 := Lib.hid hI
        clear hI
        by_cases hlt : k < p.qn
        · have hlt' : (k : Int) < p.qn := by omega
          have hi := fun W => run_indexAt_row (w := W) (cap := qc) Tryz.underlying25 size_pot (I1.out.at'.q.plain (by omega)) hlt
          obtain ⟨g0, g1, g2⟩ := I1.out.at'.pots hlt
          have al := (Below.refl wr.heap.size wr).alloc (Nat.le_refl _) (.cells #[.int .i64 (p.ht k), .int .i64 (p.fm k), .int .i64 (p.bt k)] 111)
          have I2 := Lib.hid (I1.out.grow al)
          have q0 := (open_cells I2.out).1
          have hqn := OK.out.hqn
          have b0 : inB (p.ht k : Int) 1 12 = true := inB_true (by have := OK.out.hht k hlt; omega)
          have b1 : inB (p.fm k : Int) 0 p.H = true := inB_true (by have := OK.out.hfm k hlt; omega)
          have b2 : inB (p.bt k : Int) 0 p.H = true := inB_true (by have := OK.out.hbt k hlt; omega)
          clear al
          go_wp2_with (first
            | (go_at_call 94; refine (Pi.within_any _ _ _ _).mono ?_; rintro e w' ⟨rfl, rfl⟩)
            | (go_at_call 80; ((with_reducible refine (Pi.ask_true _ _).mono ?_); rintro e w' ⟨rfl, rfl⟩)))
          exact ⟨⟨k + 1, hlt, by go_num, I2.out⟩, by simp [intOf]; omega⟩
        · have hlt' : ¬ (k : Int) < p.qn := by omega
          go_upto_region 14 with (fail)
          have hf := OK.out.hfr
          have hp := OK.out.hpe
          have h12 := pow12 OK.out.hH
          have e1 : IntKind.u64.wrap (p.fr : Int) = p.fr := wrap64u rfl (by omega)
          have e2 : IntKind.u64.wrap (p.pe : Int) = p.pe := wrap64u rfl (by omega)
          have I2 := Lib.hid (I1.out.grow (Below.drew (Below.refl wr.heap.size wr)))
          have I3 := Lib.hid (I1.out.grow (((Below.refl wr.heap.size wr).alloc (Nat.le_refl _) (.cells #[.int .u64 p.fr, .int .u64 p.pe] 158)).drew))
          have C1 := Lib.hid (joined_any (some ⟨wr.heap.size, 0, none⟩) 2 p.fr p.pe ((wr.alloc (.cells #[.int .u64 p.fr, .int .u64 p.pe] 158)).drew) (two_lit (show BoxAt _ _ _ _ from heap_alloc_new wr _)) (by omega) (by omega))
          have B4 := ((((Below.refl wr.heap.size wr).alloc (Nat.le_refl _) (.cells #[.int .u64 p.fr, .int .u64 p.pe] 158)).alloc (by simp) (.cells (p.box fa qa fc qc) 160)).drew)
          have I4 := Lib.hid (I1.out.grow B4)
          have X4 := Lib.hid (show BoxAt (((wr.alloc (.cells #[.int .u64 p.fr, .int .u64 p.pe] 158)).alloc (.cells (p.box fa qa fc qc) 160)).drew) (wr.heap.size + 1) (p.box fa qa fc qc) 160 from by
            have := heap_alloc_new (wr.alloc (.cells #[.int .u64 p.fr, .int .u64 p.pe] 158)) (.cells (p.box fa qa fc qc) 160)
            rwa [sizeAlloc] at this)
          unfold PN.box at I4
          clear B4
          clear hf hp h12
          go_region_held3 (fun w' => (w'.cell? ⟨w.heap.size, 0, none⟩ = some (.int .i64 p.H) ∧ w'.cell? ⟨w.heap.size, 1, none⟩ = some (.int .i64 p.fr) ∧ w'.cell? ⟨w.heap.size, 2, none⟩ = some (.int .i64 p.pe) ∧ w'.cell? ⟨w.heap.size, 3, none⟩ = some (.slice fa p.fn fc) ∧ w'.cell? ⟨w.heap.size, 4, none⟩ = some (.slice qa p.qn qc)) ∧ OpenI w p fa qa fc qc w')
            (first | exact ⟨open_cells I2.out, I2.out⟩ | exact ⟨open_cells I3.out, I3.out⟩ | exact ⟨open_cells I4.out, I4.out⟩)
            (first | (go_at_call 96; refine C1.out.mono ?_; rintro e w4 ⟨rfl, rfl⟩))
          have Y4 := Lib.hid (show BoxAt (((wr.alloc (.cells #[.int .u64 p.fr, .int .u64 p.pe] 158)).alloc (.cells #[.int .i64 p.H, .int .i64 p.fr, .int .i64 p.pe, .slice fa p.fn fc, .slice qa p.qn qc, .int .u64 p.fr, .int .u64 (p.fr ||| p.pe : Nat)] 160)).drew) (wr.heap.size + 1) (p.box fa qa fc qc) 160 from X4.out)
          have hlo : w.heap.size ≤ wr.heap.size + 1 := by have := I1.out.bel.size; omega
          clear I2 I3 C1 X4 e1 e2 I1
          generalize World.drew _ = w5 at *
          generalize wr.heap.size + 1 = b at *
          have C2 := Lib.hid (CL.out b w5 I4.out.bel Y4.out)
          have hcfb := hcf b
          go_wp2_with fail
          refine C2.out.mono ?_
          rintro e w6 ⟨rfl, hb6⟩
          have Y6 := Lib.hid (Y4.out.grow hb6)
          have B6 := Lib.hid (I4.out.bel.next hb6)
          clear hb6 C2 I4 Y4 hcf hcfb
          go_wp2_with (go_at_call 80; ((with_reducible refine (Pi.ask_true _ _).mono ?_); rintro e w' ⟨rfl, rfl⟩))
          go_ret
          exact ⟨b, rfl, hlo, Y6.out, B6.out⟩
end Go.Proofs.YtikeihnhkiipgaaGreat

namespace Go.Proofs.YtikeihnhkiipgaaGreat
open Go.RowKit

/-- How warm a pot is at an hour, put on at another one. -/
def warm (fr h e : Nat) : Nat := 2 * bitsum 12 (str h e) - bitsum 12 (str h e &&& fr)
/-- The first of n hours, from one on, at which it is hot, or the one behind them. -/
def hotFrom (ht fr h : Nat) : Nat → Nat → Nat
  | 0, e => e
  | n + 1, e => if ht ≤ warm fr h e then e else hotFrom ht fr h n (e + 1)
def PN.hot (p : PN) (pot h fr : Nat) : Nat := hotFrom (p.ht pot) fr h (p.H - h) (h + 1)
theorem hotFrom_le (ht fr h : Nat) : ∀ n e, e ≤ hotFrom ht fr h n e ∧ hotFrom ht fr h n e ≤ e + n
  | 0, e => ⟨Nat.le_refl _, Nat.le_refl _⟩
  | n + 1, e => by
    unfold hotFrom
    have := hotFrom_le ht fr h n (e + 1)
    split <;> omega
theorem PN.hot_le (p : PN) (pot h fr : Nat) (hh : h ≤ p.H) : h + 1 ≤ p.hot pot h fr ∧ p.hot pot h fr ≤ p.H + 1 := by
  have := hotFrom_le (p.ht pot) fr h (p.H - h) (h + 1)
  unfold PN.hot
  omega
theorem str_lt {f t : Nat} (h : t ≤ 12) : str f t < 4096 := by
  have := pow2_lt h
  have : 0 < 2 ^ f := Nat.two_pow_pos _
  unfold str
  omega
theorem bitsum_and (n a b : Nat) : bitsum n (a &&& b) ≤ bitsum n a := by
  induction n with
  | zero => exact Nat.le_refl _
  | succ n ih =>
    unfold bitsum
    rw [Nat.testBit_and]
    cases a.testBit n <;> cases b.testBit n <;> simp <;> omega
/-- What is read of a pitch that is looked at. -/
theorem box_cells {W : World} {b : Nat} {p : PN} {fa qa : Option Addr} {fc qc : Nat} (h : BoxAt W b (p.box fa qa fc qc) 160) : W.cell? ⟨b, 0, none⟩ = some (.int .i64 p.H) ∧ W.cell? ⟨b, 1, none⟩ = some (.int .i64 p.fr) ∧ W.cell? ⟨b, 2, none⟩ = some (.int .i64 p.pe) ∧ W.cell? ⟨b, 3, none⟩ = some (.slice fa p.fn fc) ∧ W.cell? ⟨b, 4, none⟩ = some (.slice qa p.qn qc) ∧ W.cell? ⟨b, 5, none⟩ = some (.int .u64 p.fr) ∧ W.cell? ⟨b, 6, none⟩ = some (.int .u64 (p.fr ||| p.pe : Nat)) :=
  ⟨cellAt h 0, cellAt h 1, cellAt h 2, cellAt h 3, cellAt h 4, cellAt h 5, cellAt h 6⟩
theorem count_quiet (m : Nat) (w : World) (hm : m < 4096) :
    Calls Tryz.prog 97 #[.int .u64 m] w fun e w' => e = .returned (.int .i64 (bitsum 12 m)) ∧ ∃ j, w' = w.drewN j :=
  (count_any m w hm).mono fun _ _ h => ⟨h.1, 0, h.2.symm⟩
set_option maxRecDepth 100000 in
set_option maxHeartbeats 4000000 in
theorem hot_any (p : PN) (ok : p.Ok) (fa qa : Option Addr) (fc qc b pot h fr : Nat) (w : World) (hb : BoxAt w b (p.box fa qa fc qc) 160) (hA : p.At fa qa w) (hp : pot < p.qn) (hh : h ≤ p.H) (hf : fr < 4096) :
    Calls Tryz.prog 77 #[bp b, .int .i64 pot, .int .i64 h, .int .u64 fr] w fun e w' => e = .returned (.int .i64 (p.hot pot h fr)) ∧ ∃ j, w' = w.drewN j := by
  have hH := ok.hH
  have hq := ok.hqn
  have HB := Lib.hid (fun j => show BoxAt (w.drewN j) b (p.box fa qa fc qc) 160 from hb)
  have HA := Lib.hid (fun j => hA.grow (below_drewN (Below.refl w.heap.size w) j))
  clear hb hA ok
  go_enter Tryz.func77, Tryz.ntmps77
  have s0 : wrap64 ((h : Int) + 1) = ((h + 1 : Nat) : Int) := w64 (by omega)
  go_wp2_with fail
  go_loopw [10] (fun v W => ∃ e j : Nat, h < e ∧ e ≤ p.H + 1 ∧ v = .int .i64 e ∧ W = w.drewN j ∧ p.hot pot h fr = hotFrom (p.ht pot) fr h (p.H + 1 - e) e) (fun v _ => p.H + 1 - (intOf v).toNat)
  case atStart => exact ⟨h + 1, 0, by omega, by omega, by go_num, rfl, by unfold PN.hot; rw [show p.H + 1 - (h + 1) = p.H - h by omega]⟩
  case round =>
    obtain ⟨e, j, he, heH, rfl, rfl, hr⟩ := hrel
    have HR := Lib.hid hr
    clear hr s0
    obtain ⟨q0, q1, q2, q3, q4, q5, q6⟩ := box_cells (HB.out j)
    by_cases hlt : e ≤ p.H
    · have hlt' : (e : Int) ≤ p.H := by omega
      go_upto_region 6 with (go_at_call 98; refine (stretch_any h e _ (by omega) (by omega)).mono ?_; rintro e' w' ⟨rfl, j', hw0⟩; have HW0 := Lib.hid hw0; clear hw0)
      have HWW := Lib.hid (show w' = w.drewN (j + j') from by rw [HW0.out, World.drewN_drewN])
      have hw' := HWW.out
      have hB2 : BoxAt w' b (p.box fa qa fc qc) 160 := by rw [hw']; exact HB.out _
      have hA2 : p.At fa qa w' := by rw [hw']; exact HA.out _
      clear hw' q0 q1 q2 q3 q4 q5 q6
      have hs := str_lt (f := h) (t := e) (by omega)
      have hn : str h e &&& fr < 4096 := Nat.lt_of_le_of_lt Nat.and_le_left hs
      have HW := Lib.hid (show warm fr h e = 2 * bitsum 12 (str h e) - bitsum 12 (str h e &&& fr) from rfl)
      have C1 := Lib.hid (fun W => count_quiet (str h e) W hs)
      have C2 := Lib.hid (fun W => count_quiet (str h e &&& fr) W hn)
      have l1 := bitsum_le 12 (str h e)
      have l2 := bitsum_and 12 (str h e) fr
      have ea := u64_and_nat (str h e) fr (by omega) (by omega)
      generalize bitsum 12 (str h e) = c1 at *
      generalize bitsum 12 (str h e &&& fr) = c2 at *
      generalize str h e &&& fr = x2 at *
      generalize str h e = x1 at *
      have hi := fun W => run_indexAt_row (w := W) (cap := qc) Tryz.underlying25 size_pot (hA2.q.plain (by omega)) hp
      obtain ⟨g0, -, -⟩ := hA2.pots hp
      obtain ⟨q0, q1, q2, q3, q4, q5, q6⟩ := box_cells hB2
      clear hA2 hB2
      have m1 : IntKind.i64.wrap (2 * (c1 : Int)) = ((2 * c1 : Nat) : Int) := by rw [IntWalk.i64_in _ (by omega)]; omega
      have m2 : IntKind.i64.wrap (((2 * c1 : Nat) : Int) - (c2 : Int)) = ((2 * c1 - c2 : Nat) : Int) := by rw [IntWalk.i64_in _ (by omega)]; omega
      generalize 2 * c1 - c2 = y at *
      generalize 2 * c1 = z at *
      by_cases hy : p.ht pot ≤ y
      · have hy' : (p.ht pot : Int) ≤ y := by omega
        have HR2 := Lib.hid (show p.hot pot h fr = e from by
          rw [HR.out, show p.H + 1 - e = (p.H - e) + 1 by omega]
          unfold hotFrom
          rw [HW.out, if_pos hy])
        clear hy HR HW hlt he l1 l2
        go_quiet (first | (go_at_call 97; exact Calls.quiet_of (C1.out _)) | (go_at_call 97; exact Calls.quiet_of (C2.out _)))
        go_wp2_with fail
        go_ret
        exact ⟨ret_int (by rw [HR2.out]), _, by rw [HWW.out, World.drewN_drewN]⟩
      · have hy' : ¬ (p.ht pot : Int) ≤ y := by omega
        have HR2 := Lib.hid (show p.hot pot h fr = hotFrom (p.ht pot) fr h (p.H + 1 - (e + 1)) (e + 1) from by
          rw [HR.out, show p.H + 1 - e = (p.H + 1 - (e + 1)) + 1 by omega]
          conv => lhs; unfold hotFrom
          rw [HW.out, if_neg hy])
        have n1 : h < e + 1 := by omega
        have n2 : e + 1 ≤ p.H + 1 := by omega
        have n3 : p.H + 1 - (e + 1) < p.H + 1 - e := by omega
        clear hy HR HW l1 l2
        go_quiet (first | (go_at_call 97; exact Calls.quiet_of (C1.out _)) | (go_at_call 97; exact Calls.quiet_of (C2.out _)))
        go_wp2_with fail
        refine ⟨⟨e + 1, j + j' + nq, n1, n2, by go_num, ?_, HR2.out⟩, ?_⟩
        · rw [HWW.out, World.drewN_drewN]
        · simp [intOf]
          omega
    · have hlt' : ¬ (e : Int) ≤ p.H := by omega
      obtain rfl : e = p.H + 1 := by omega
      rw [Nat.sub_self] at HR
      have s0 : wrap64 ((p.H : Int) + 1) = ((p.H + 1 : Nat) : Int) := w64 (by omega)
      go_wp2_with fail
      go_ret
      exact ⟨ret_int (by rw [HR.out]; rfl), j, rfl⟩
/-- The hours that a pot takes. -/
def PN.takes (p : PN) (pot h : Nat) : Nat := str h (min p.H (p.hot pot h (p.fr ||| p.pe)))
theorem or_lt12 {a b H : Nat} (hH : H ≤ 12) (ha : a < 2 ^ H) (hb : b < 2 ^ H) : a ||| b < 4096 :=
  Nat.lt_of_lt_of_le (Nat.or_lt_two_pow ha hb) (pow12 hH)
theorem PN.Ok.col {p : PN} (ok : p.Ok) : p.fr ||| p.pe < 4096 := or_lt12 ok.hH ok.hfr ok.hpe
theorem min_nat (a b : Nat) : min (a : Int) (b : Int) = ((min a b : Nat) : Int) := by omega
set_option maxRecDepth 100000 in
set_option maxHeartbeats 4000000 in
theorem takes_any (p : PN) (ok : p.Ok) (fa qa : Option Addr) (fc qc b pot h : Nat) (w : World) (hb : BoxAt w b (p.box fa qa fc qc) 160) (hA : p.At fa qa w) (hp : pot < p.qn) (hh : h ≤ p.H) :
    Calls Tryz.prog 102 #[bp b, .int .i64 pot, .int .i64 h] w fun e w' => e = .returned (.int .u64 (p.takes pot h)) ∧ ∃ j, w' = w.drewN j := by
  have C1 := Lib.hid (fun j => hot_any p ok fa qa fc qc b pot h (p.fr ||| p.pe) (w.drewN j) (show BoxAt (w.drewN j) b (p.box fa qa fc qc) 160 from hb) (hA.grow (below_drewN (Below.refl w.heap.size w) j)) hp hh ok.col)
  obtain ⟨q0, q1, q2, q3, q4, q5, q6⟩ := box_cells hb
  have hl := p.hot_le pot h (p.fr ||| p.pe) hh
  have hH := ok.hH
  have HT := Lib.hid (show p.takes pot h = str h (min p.H (p.hot pot h (p.fr ||| p.pe))) from rfl)
  have hm := min_nat p.H (p.hot pot h (p.fr ||| p.pe))
  obtain ⟨m, em⟩ : ∃ m, min p.H (p.hot pot h (p.fr ||| p.pe)) = m := ⟨_, rfl⟩
  rw [em] at HT hm
  have l1 : h ≤ m := by omega
  have l2 : m ≤ 60 := by omega
  have C2 := Lib.hid (fun W => stretch_any h m W l1 l2)
  generalize p.hot pot h (p.fr ||| p.pe) = y at *
  clear hb hA ok em l1 l2 hl
  go_enter Tryz.func102, Tryz.ntmps102
  go_upto_region 1 with (fail)
  go_quiet (first | (go_at_call 77; exact Calls.quiet_of (C1.out _)) | (go_at_call 98; exact Calls.quiet_of (C2.out _)))
  go_wp2_with fail
  go_ret
  exact ⟨ret_int (by rw [HT.out]), _, rfl⟩
end Go.Proofs.YtikeihnhkiipgaaGreat
