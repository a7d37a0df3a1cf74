/-
  Walks: the rules that a pot can break; alone.
  Walks: alone; whether a number is a pot, an hour.
  Walks: answer, of pitch and of gang, in a function that ranges over a function.
  A region that draws its order, within a round.
-/
import Derived.Test.YtikeihnhkiipgaaGreatQA6
import Derived.Test.YtikeihnhkiipgaaGreatQA1
import Derived.RecoverIn
import Derived.TacticsInMore
import Derived.Sort.QuietIn
namespace Go.Proofs.YtikeihnhkiipgaaGreat
open Go.RowKit

/-- A place's value. -/
def plV (f h : Nat) : Value := .agg #[.int .i64 f, .int .i64 h]
/-- What a rule reads: the pitch that is looked at, and the place in its box. -/
structure RW (p : PN) (fa qa : Option Addr) (fc qc b x f h : Nat) (W : World) : Prop where
  box : BoxAt W b (p.box fa qa fc qc) 160
  at' : p.At fa qa W
  pl : BoxAt W x #[.int .i64 f, .int .i64 h] 122
theorem RW.grow {p : PN} {fa qa : Option Addr} {fc qc b x f h : Nat} {W W' : World} (z : RW p fa qa fc qc b x f h W) (hb : Below W.heap.size W W') : RW p fa qa fc qc b x f h W' := ⟨z.box.grow hb, z.at'.grow hb, z.pl.grow hb⟩
theorem RW.start {p : PN} {fa qa : Option Addr} {fc qc b f h : Nat} {w W : World} {o : Obj} (hb : BoxAt w b (p.box fa qa fc qc) 160) (hA : p.At fa qa w) (hW : (w.alloc o).alloc (.cells #[.int .i64 f, .int .i64 h] 122) = W) : RW p fa qa fc qc b (w.heap.size + 1) f h W ∧ Below w.heap.size w W := by
  obtain ⟨-, z1, -, hB⟩ := blocks2 hW
  exact ⟨⟨hb.grow hB, hA.grow hB, z1⟩, hB⟩
set_option maxRecDepth 100000 in
set_option maxHeartbeats 4000000 in
theorem early_any (p : PN) (fa qa : Option Addr) (fc qc b pot f h : Nat) (w : World) (hb : BoxAt w b (p.box fa qa fc qc) 160) (hA : p.At fa qa w) (hp : pot < p.qn) :
    Calls Tryz.prog 134 #[.agg #[], bp b, .int .i64 pot, plV f h] w fun e w' => e = .returned (.bool (decide (h < p.fm pot))) ∧ Below w.heap.size w w' := by
  unfold plV
  go_enter Tryz.func134, Tryz.ntmps134
  go_upto_region 1 with (fail)
  generalize hW : World.alloc (World.alloc w _) _ = W
  obtain ⟨hr, hB⟩ := RW.start hb hA hW
  have I := Lib.hid hr
  have HB := Lib.hid hB
  obtain ⟨q0, q1, q2, q3, q4, q5, q6⟩ := box_cells hr.box
  have p1 := cellAt hr.pl 1
  simp only [List.getElem?_toArray, List.getElem?_cons_zero, List.getElem?_cons_succ] at p1
  have hi := fun W => run_indexAt_row (w := W) (cap := qc) Tryz.underlying25 size_pot (hr.at'.q.plain (by omega)) hp
  obtain ⟨-, g1, -⟩ := hr.at'.pots hp
  clear hr hB hW hb hA
  go_quiet (fail)
  go_wp2_with fail
  go_ret
  exact ⟨rfl, below_drewN HB.out _⟩
set_option maxRecDepth 100000 in
set_option maxHeartbeats 4000000 in
theorem late_any (p : PN) (ok : p.Ok) (fa qa : Option Addr) (fc qc b pot f h : Nat) (w : World) (hb : BoxAt w b (p.box fa qa fc qc) 160) (hA : p.At fa qa w) (hp : pot < p.qn) (hh : h ≤ p.H) :
    Calls Tryz.prog 135 #[.agg #[], bp b, .int .i64 pot, plV f h] w fun e w' => e = .returned (.bool (decide (p.bt pot < p.hot pot h (p.fr ||| p.pe)))) ∧ Below w.heap.size w w' := by
  have C1 := Lib.hid (fun W (z : RW p fa qa fc qc b (w.heap.size + 1) f h W) j => hot_any p ok fa qa fc qc b pot h (p.fr ||| p.pe) (W.drewN j) (show BoxAt (W.drewN j) b (p.box fa qa fc qc) 160 from z.box) (z.at'.grow (below_drewN (Below.refl W.heap.size W) j)) hp hh ok.col)
  generalize p.hot pot h (p.fr ||| p.pe) = y at *
  unfold plV
  go_enter Tryz.func135, Tryz.ntmps135
  go_upto_region 1 with (fail)
  generalize hW : World.alloc (World.alloc w _) _ = W
  obtain ⟨hr, hB⟩ := RW.start hb hA hW
  have I := Lib.hid hr
  have HB := Lib.hid hB
  obtain ⟨q0, q1, q2, q3, q4, q5, q6⟩ := box_cells hr.box
  have p1 := cellAt hr.pl 1
  simp only [List.getElem?_toArray, List.getElem?_cons_zero, List.getElem?_cons_succ] at p1
  have hi := fun W => run_indexAt_row (w := W) (cap := qc) Tryz.underlying25 size_pot (hr.at'.q.plain (by omega)) hp
  obtain ⟨-, -, g1⟩ := hr.at'.pots hp
  clear hr hB hW hb hA
  go_quiet ((go_at_call 77; exact Calls.quiet_of (C1.out _ I.out _)))
  go_wp2_with fail
  go_ret
  exact ⟨rfl, below_drewN HB.out _⟩
set_option maxRecDepth 100000 in
set_option maxHeartbeats 4000000 in
theorem hull_any (p : PN) (ok : p.Ok) (fa qa : Option Addr) (fc qc b pot f h : Nat) (w : World) (hb : BoxAt w b (p.box fa qa fc qc) 160) (hA : p.At fa qa w) (hp : pot < p.qn) (hh : h ≤ p.H) (hf : f < p.fn) :
    Calls Tryz.prog 136 #[.agg #[], bp b, .int .i64 pot, plV f h] w fun e w' => e = .returned (.bool (p.takes pot h &&& p.F f != 0)) ∧ Below w.heap.size w w' := by
  have C1 := Lib.hid (fun W (z : RW p fa qa fc qc b (w.heap.size + 1) f h W) j => takes_any p ok fa qa fc qc b pot h (W.drewN j) (show BoxAt (W.drewN j) b (p.box fa qa fc qc) 160 from z.box) (z.at'.grow (below_drewN (Below.refl W.heap.size W) j)) hp hh)
  have h1 := ok.hF f hf
  have h2 := pow12 ok.hH
  have h3 : p.takes pot h < 4096 := str_lt (by have := ok.hH; omega)
  have e1 : IntKind.u64.wrap (p.F f : Int) = p.F f := wrap64u rfl (by omega)
  have C2 := Lib.hid (fun W => (meets_any (p.takes pot h) (p.F f) W (by omega) (by omega)).mono fun _ w' z => (⟨z.1, 0, z.2.symm⟩ : _ ∧ ∃ j, w' = W.drewN j))
  generalize p.takes pot h = y at *
  clear h1 h2 h3
  unfold plV
  go_enter Tryz.func136, Tryz.ntmps136
  go_upto_region 1 with (fail)
  generalize hW : World.alloc (World.alloc w _) _ = W
  obtain ⟨hr, hB⟩ := RW.start hb hA hW
  have I := Lib.hid hr
  have HB := Lib.hid hB
  obtain ⟨q0, q1, q2, q3, q4, q5, q6⟩ := box_cells hr.box
  have p0 := cellAt hr.pl 0
  have p1 := cellAt hr.pl 1
  simp only [List.getElem?_toArray, List.getElem?_cons_zero, List.getElem?_cons_succ] at p0 p1
  have hi := fun W => run_indexAt_row (w := W) (cap := fc) Tryz.underlying24 size_int (hr.at'.f.plain (by omega)) hf
  simp only [Nat.mul_one] at hi
  have g1 := hr.at'.f.at hf
  clear hr hB hW hb hA
  go_quiet (first | (go_at_call 102; exact Calls.quiet_of (C1.out _ I.out _)) | (go_at_call 103; exact Calls.quiet_of (C2.out _)))
  go_wp2_with fail
  go_ret
  exact ⟨rfl, below_drewN HB.out _⟩
/-- The rules, as they are handed on. -/
def rules : Array Value := #[.iface 201 (.agg #[]), .iface 202 (.agg #[]), .iface 203 (.agg #[])]
/-- Whether a pot breaks rule k at a place; whether it breaks none. -/
def PN.brk (p : PN) (pot f h : Nat) : Nat → Bool
  | 0 => decide (h < p.fm pot)
  | 1 => decide (p.bt pot < p.hot pot h (p.fr ||| p.pe))
  | _ => p.takes pot h &&& p.F f != 0
def PN.first (p : PN) (pot f h : Nat) : Nat := if p.brk pot f h 0 then 1 else if p.brk pot f h 1 then 2 else if p.brk pot f h 2 then 3 else 0
def PN.alone (p : PN) (pot f h : Nat) : Bool := p.first pot f h == 0
theorem size_rule : (Tryz.prog.info? 210).map (·.size) = some 1 := by kernel_rfl
set_option maxRecDepth 100000 in
set_option maxHeartbeats 4000000 in
theorem broken_any (p : PN) (ok : p.Ok) (fa qa : Option Addr) (fc qc b pot f h g : Nat) (w : World) (hb : BoxAt w b (p.box fa qa fc qc) 160) (hA : p.At fa qa w) (hp : pot < p.qn) (hh : h ≤ p.H) (hf : f < p.fn) (hg : BoxAt w g rules 210) :
    Calls Tryz.prog 108 #[bp b, .int .i64 pot, plV f h, .slice (some ⟨g, 0, none⟩) 3 3] w fun e w' => e = .returned (.int .i64 (p.first pot f h)) ∧ Below w.heap.size w w' := by
  have C0 := Lib.hid (fun W (z1 : BoxAt W b (p.box fa qa fc qc) 160) (z2 : p.At fa qa W) => (show Calls Tryz.prog 134 #[.agg #[], bp b, .int .i64 pot, plV f h] W fun e w' => e = .returned (.bool (p.brk pot f h 0)) ∧ Below W.heap.size W w' from early_any p fa qa fc qc b pot f h W z1 z2 hp))
  have C1 := Lib.hid (fun W (z1 : BoxAt W b (p.box fa qa fc qc) 160) (z2 : p.At fa qa W) => (show Calls Tryz.prog 135 #[.agg #[], bp b, .int .i64 pot, plV f h] W fun e w' => e = .returned (.bool (p.brk pot f h 1)) ∧ Below W.heap.size W w' from late_any p ok fa qa fc qc b pot f h W z1 z2 hp hh))
  have C2 := Lib.hid (fun W (z1 : BoxAt W b (p.box fa qa fc qc) 160) (z2 : p.At fa qa W) => (show Calls Tryz.prog 136 #[.agg #[], bp b, .int .i64 pot, plV f h] W fun e w' => e = .returned (.bool (p.brk pot f h 2)) ∧ Below W.heap.size W w' from hull_any p ok fa qa fc qc b pot f h W z1 z2 hp hh hf))
  have HF := Lib.hid (show p.first pot f h = if p.brk pot f h 0 then 1 else if p.brk pot f h 1 then 2 else if p.brk pot f h 2 then 3 else 0 from rfl)
  generalize p.first pot f h = r at *
  generalize p.brk pot f h 0 = k0 at *
  generalize p.brk pot f h 1 = k1 at *
  generalize p.brk pot f h 2 = k2 at *
  unfold plV rules at *
  have al := (Below.refl w.heap.size w).alloc (Nat.le_refl _) (.cells #[.int .i64 f, .int .i64 h] 122)
  have I0 := Lib.hid (show RW p fa qa fc qc b w.heap.size f h (w.alloc (.cells #[.int .i64 f, .int .i64 h] 122)) from ⟨hb.grow al, hA.grow al, heap_alloc_new _ _⟩)
  have G0 := Lib.hid (hg.grow al)
  have B0 := Lib.hid al
  clear al hb hA hg ok
  have hi := fun k (hk : k < 3) W => run_indexAt_row (w := W) (oa := some ⟨g, 0, none⟩) (cap := 3) (n := 3) Tryz.underlying208 size_rule rfl hk
  simp only [blk, ofs, Nat.zero_add, Nat.mul_one] at hi
  have i0 := hi 0 (by omega)
  have i1 := hi 1 (by omega)
  have i2 := hi 2 (by omega)
  simp only [Int.natCast_zero, Int.natCast_one, show ((2 : Nat) : Int) = 2 from rfl] at i0 i1 i2
  clear hi
  go_enter Tryz.func108, Tryz.ntmps108
  go_upto_region 1 with (fail)
  generalize World.alloc w _ = w0 at *
  have m0 : ∀ w, (method 327 201 (.agg #[]) "caulkworks/pitch.broken").run Tryz.prog w = .ok (134, .agg #[]) w := fun _ => by kernel_rfl
  have m1 : ∀ w, (method 327 202 (.agg #[]) "caulkworks/pitch.broken").run Tryz.prog w = .ok (135, .agg #[]) w := fun _ => by kernel_rfl
  have m2 : ∀ w, (method 327 203 (.agg #[]) "caulkworks/pitch.broken").run Tryz.prog w = .ok (136, .agg #[]) w := fun _ => by kernel_rfl
  have n0 : ∀ w, (callFunc 134 #[.agg #[], bp b, .int .i64 pot, .agg #[.int .i64 f, .int .i64 h]]).run Tryz.prog w = .ok (.enter 134 #[.agg #[], bp b, .int .i64 pot, .agg #[.int .i64 f, .int .i64 h]]) w := fun _ => by kernel_rfl
  have n1 : ∀ w, (callFunc 135 #[.agg #[], bp b, .int .i64 pot, .agg #[.int .i64 f, .int .i64 h]]).run Tryz.prog w = .ok (.enter 135 #[.agg #[], bp b, .int .i64 pot, .agg #[.int .i64 f, .int .i64 h]]) w := fun _ => by kernel_rfl
  have n2 : ∀ w, (callFunc 136 #[.agg #[], bp b, .int .i64 pot, .agg #[.int .i64 f, .int .i64 h]]).run Tryz.prog w = .ok (.enter 136 #[.agg #[], bp b, .int .i64 pot, .agg #[.int .i64 f, .int .i64 h]]) w := fun _ => by kernel_rfl
  have p0 := cellAt I0.out.pl 0
  have p1 := cellAt I0.out.pl 1
  have g0 := cellAt G0.out 0
  simp only [List.getElem?_toArray, List.getElem?_cons_zero, List.getElem?_cons_succ] at p0 p1 g0
  go_wp2_with fail
  refine wp_loop_rounds 4 ?_
  rw [rounds_succ]
  cases k0 with
  | true =>
    go_wp2_with (go_at_call 134; refine (C0.out _ I0.out.box I0.out.at').mono ?_; rintro e w1 ⟨rfl, hb1⟩)
    go_ret
    exact ⟨ret_int (by rw [HF.out]; rfl), B0.out.next hb1⟩
  | false =>
    go_upto_region 6 with (go_at_call 134; refine (C0.out _ I0.out.box I0.out.at').mono ?_; rintro e w1 ⟨rfl, hb1⟩)
    have I1 := Lib.hid (I0.out.grow hb1)
    have G1 := Lib.hid (G0.out.grow hb1)
    have B1 := Lib.hid (B0.out.next hb1)
    clear hb1 I0 G0 B0 p0 p1 g0
    have p0 := cellAt I1.out.pl 0
    have p1 := cellAt I1.out.pl 1
    have g0 := cellAt G1.out 1
    simp only [List.getElem?_toArray, List.getElem?_cons_zero, List.getElem?_cons_succ] at p0 p1 g0
    go_wp2_with fail
    rw [rounds_succ]
    cases k1 with
    | true =>
      go_wp2_with (go_at_call 135; refine (C1.out _ I1.out.box I1.out.at').mono ?_; rintro e w2 ⟨rfl, hb1⟩)
      go_ret
      exact ⟨ret_int (by rw [HF.out]; rfl), B1.out.next hb1⟩
    | false =>
      go_upto_region 6 with (go_at_call 135; refine (C1.out _ I1.out.box I1.out.at').mono ?_; rintro e w2 ⟨rfl, hb1⟩)
      have I2 := Lib.hid (I1.out.grow hb1)
      have G2 := Lib.hid (G1.out.grow hb1)
      have B2 := Lib.hid (B1.out.next hb1)
      clear hb1 I1 G1 B1 p0 p1 g0
      have p0 := cellAt I2.out.pl 0
      have p1 := cellAt I2.out.pl 1
      have g0 := cellAt G2.out 2
      simp only [List.getElem?_toArray, List.getElem?_cons_zero, List.getElem?_cons_succ] at p0 p1 g0
      go_wp2_with fail
      rw [rounds_succ]
      cases k2 with
      | true =>
        go_wp2_with (go_at_call 136; refine (C2.out _ I2.out.box I2.out.at').mono ?_; rintro e w3 ⟨rfl, hb1⟩)
        go_ret
        exact ⟨ret_int (by rw [HF.out]; rfl), B2.out.next hb1⟩
      | false =>
        go_wp2_with (go_at_call 136; refine (C2.out _ I2.out.box I2.out.at').mono ?_; rintro e w3 ⟨rfl, hb1⟩)
        rw [rounds_succ]
        go_wp2_with fail
        go_ret
        exact ⟨ret_int (by rw [HF.out]; rfl), B2.out.next hb1⟩
end Go.Proofs.YtikeihnhkiipgaaGreat

namespace Go.Proofs.YtikeihnhkiipgaaGreat
open Go.RowKit

set_option maxRecDepth 100000 in
set_option maxHeartbeats 4000000 in
theorem alone_any (p : PN) (ok : p.Ok) (fa qa : Option Addr) (fc qc b pot f h : Nat) (w : World) (hb : BoxAt w b (p.box fa qa fc qc) 160) (hA : p.At fa qa w) (hp : pot < p.qn) (hh : h ≤ p.H) (hf : f < p.fn) :
    Calls Tryz.prog 101 #[bp b, .int .i64 pot, plV f h] w fun e w' => e = .returned (.bool (p.alone pot f h)) ∧ Below w.heap.size w w' := by
  have C1 := Lib.hid (fun W g (z1 : BoxAt W b (p.box fa qa fc qc) 160) (z2 : p.At fa qa W) (z3 : BoxAt W g rules 210) => broken_any p ok fa qa fc qc b pot f h g W z1 z2 hp hh hf z3)
  have HF := Lib.hid (show p.alone pot f h = (p.first pot f h == 0) from rfl)
  generalize p.alone pot f h = r at *
  generalize p.first pot f h = k at *
  have e : ((k : Int) == 0) = (k == 0) := by rw [Bool.eq_iff_iff]; simp
  have al := (Below.refl w.heap.size w).alloc (Nat.le_refl _) (.cells #[.int .i64 f, .int .i64 h] 122)
  have I0 := Lib.hid (show RW p fa qa fc qc b w.heap.size f h (w.alloc (.cells #[.int .i64 f, .int .i64 h] 122)) from ⟨hb.grow al, hA.grow al, heap_alloc_new _ _⟩)
  have B0 := Lib.hid al
  clear al hb hA ok
  unfold plV rules at *
  go_enter Tryz.func101, Tryz.ntmps101
  go_upto_region 1 with (fail)
  generalize World.alloc w _ = w0 at *
  have p0 := cellAt I0.out.pl 0
  have p1 := cellAt I0.out.pl 1
  simp only [List.getElem?_toArray, List.getElem?_cons_zero, List.getElem?_cons_succ] at p0 p1
  have al := (Below.refl w0.heap.size w0).alloc (Nat.le_refl _) (.cells #[.iface 201 (.agg #[]), .iface 202 (.agg #[]), .iface 203 (.agg #[])] 210)
  have I1 := Lib.hid (I0.out.grow al)
  have C2 := Lib.hid (C1.out _ w0.heap.size I1.out.box I1.out.at' (heap_alloc_new _ _))
  have B1 := Lib.hid (B0.out.next al)
  clear al
  go_wp2_with (go_at_call 108; refine C2.out.mono ?_; rintro e w1 ⟨rfl, hb1⟩)
  go_ret
  refine ⟨ret_bool ?_, B1.out.next hb1⟩
  rw [HF.out]
end Go.Proofs.YtikeihnhkiipgaaGreat

namespace Go.Proofs.YtikeihnhkiipgaaGreat
open Go.RowKit
namespace Pi
set_option maxRecDepth 100000 in
set_option maxHeartbeats 800000 in
theorem answerIn_idle (n b : Nat) (w : World) :
    CallsDIn Fence.wide n Tryz.prog 73 #[bp b] .returning w fun e u' w' => e = .returned (.tuple #[]) ∧ u' = .returning ∧ w' = w := by
  refine callsDIn_of_wpSIn Tryz.func73 rfl trivial fun c₀ cs hu => ?_
  apply wpSIn_seq
  apply wpSIn_region
  simp [wpOpsSIn, go_sem, recoverD, hu, Tryz.ntmps73, Exit.thenS]
  have hq : ∀ w, (binOp .neq 20 .nilIface .nilIface).run Tryz.prog w = .ok (.bool false) w := fun _ => by kernel_rfl
  apply wpSIn_seq
  apply wpSIn_region
  simp [wpOpsSIn, go_sem, hq, Exit.thenS]
  refine wpSIn_cond (t := false) (by simp [Act.eval, Array.replicate]) ?_
  simp only [Bool.false_eq_true, if_false]
  refine wpSIn_of_wpIn rfl (wpIn_skip ?_)
  cases c₀
  simp_all [bodyPostS, results]
set_option maxRecDepth 100000 in
set_option maxHeartbeats 800000 in
theorem answerIn_panicking (n b : Nat) (y x : Int) (older : List PanicEntry) (w : World) (hb : BoxAt w b #[.int .i64 y] 33) :
    CallsDIn Fence.wide n Tryz.prog 73 #[bp b] (.panicking ({ v := .iface 185 (.int .i64 x), recovered := false } :: older)) w fun e u' w' =>
      e = .returned (.tuple #[]) ∧ u' = .panicking ({ v := .iface 185 (.int .i64 x), recovered := true } :: older) ∧ w' = w.setCell ⟨b, 0, none⟩ (.int .i64 x) := by
  have c0 := cellAt hb 0
  have f0 := freeAt hb 0
  simp only [List.getElem?_toArray, List.getElem?_cons_zero] at c0
  refine callsDIn_of_wpSIn Tryz.func73 rfl trivial fun c₀ cs hu => ?_
  apply wpSIn_seq
  apply wpSIn_region
  simp [wpOpsSIn, go_sem, recoverD, hu, Tryz.ntmps73, Exit.thenS]
  have hq : ∀ w, (binOp .neq 20 (.iface 185 (.int .i64 x)) .nilIface).run Tryz.prog w = .ok (.bool true) w := fun _ => by kernel_rfl
  apply wpSIn_seq
  apply wpSIn_region
  simp [wpOpsSIn, go_sem, hq, Exit.thenS]
  refine wpSIn_cond (t := true) (by simp [Act.eval, Array.replicate]) ?_
  simp only [if_true]
  refine wpSIn_of_wpIn rfl ?_
  have hr : Array.replicate 18 undef = #[undef, undef, undef, undef, undef, undef, undef, undef, undef, undef, undef, undef, undef, undef, undef, undef, undef, undef] := rfl
  simp only [hr, List.setIfInBounds_toArray, List.set_cons_zero, List.set_cons_succ, List.append_toArray, List.cons_append, List.nil_append]
  clear hr hq
  have hta : ∀ w, (Instr.typeAssert (.iface 185 (.int .i64 x)) 20 185 true).run Tryz.prog w = .ok (.tuple #[.int .i64 x, .bool true]) w := fun _ => by kernel_rfl
  gi_wp2
  refine ⟨rfl, ?_⟩
  cases c₀
  simp_all [results, Tryz.results73]
end Pi
namespace Ga
set_option maxRecDepth 100000 in
set_option maxHeartbeats 800000 in
theorem answerIn_idle (n b : Nat) (w : World) :
    CallsDIn Fence.wide n Tryz.prog 19 #[bp b] .returning w fun e u' w' => e = .returned (.tuple #[]) ∧ u' = .returning ∧ w' = w := by
  refine callsDIn_of_wpSIn Tryz.func19 rfl trivial fun c₀ cs hu => ?_
  apply wpSIn_seq
  apply wpSIn_region
  simp [wpOpsSIn, go_sem, recoverD, hu, Tryz.ntmps19, Exit.thenS]
  have hq : ∀ w, (binOp .neq 20 .nilIface .nilIface).run Tryz.prog w = .ok (.bool false) w := fun _ => by kernel_rfl
  apply wpSIn_seq
  apply wpSIn_region
  simp [wpOpsSIn, go_sem, hq, Exit.thenS]
  refine wpSIn_cond (t := false) (by simp [Act.eval, Array.replicate]) ?_
  simp only [Bool.false_eq_true, if_false]
  refine wpSIn_of_wpIn rfl (wpIn_skip ?_)
  cases c₀
  simp_all [bodyPostS, results]
set_option maxRecDepth 100000 in
set_option maxHeartbeats 800000 in
theorem answerIn_panicking (n b : Nat) (y x : Int) (older : List PanicEntry) (w : World) (hb : BoxAt w b #[.int .i64 y] 33) :
    CallsDIn Fence.wide n Tryz.prog 19 #[bp b] (.panicking ({ v := .iface 116 (.int .i64 x), recovered := false } :: older)) w fun e u' w' =>
      e = .returned (.tuple #[]) ∧ u' = .panicking ({ v := .iface 116 (.int .i64 x), recovered := true } :: older) ∧ w' = w.setCell ⟨b, 0, none⟩ (.int .i64 x) := by
  have c0 := cellAt hb 0
  have f0 := freeAt hb 0
  simp only [List.getElem?_toArray, List.getElem?_cons_zero] at c0
  refine callsDIn_of_wpSIn Tryz.func19 rfl trivial fun c₀ cs hu => ?_
  apply wpSIn_seq
  apply wpSIn_region
  simp [wpOpsSIn, go_sem, recoverD, hu, Tryz.ntmps19, Exit.thenS]
  have hq : ∀ w, (binOp .neq 20 (.iface 116 (.int .i64 x)) .nilIface).run Tryz.prog w = .ok (.bool true) w := fun _ => by kernel_rfl
  apply wpSIn_seq
  apply wpSIn_region
  simp [wpOpsSIn, go_sem, hq, Exit.thenS]
  refine wpSIn_cond (t := true) (by simp [Act.eval, Array.replicate]) ?_
  simp only [if_true]
  refine wpSIn_of_wpIn rfl ?_
  have hr : Array.replicate 18 undef = #[undef, undef, undef, undef, undef, undef, undef, undef, undef, undef, undef, undef, undef, undef, undef, undef, undef, undef] := rfl
  simp only [hr, List.setIfInBounds_toArray, List.set_cons_zero, List.set_cons_succ, List.append_toArray, List.cons_append, List.nil_append]
  clear hr hq
  have hta : ∀ w, (Instr.typeAssert (.iface 116 (.int .i64 x)) 20 116 true).run Tryz.prog w = .ok (.tuple #[.int .i64 x, .bool true]) w := fun _ => by kernel_rfl
  gi_wp2
  refine ⟨rfl, ?_⟩
  cases c₀
  simp_all [results, Tryz.results19]
end Ga
end Go.Proofs.YtikeihnhkiipgaaGreat

namespace Go.Proofs.YtikeihnhkiipgaaGreat
open Go.RowKit

section
variable {F : Fence} {n : Nat} {P : Program} {ops : Array Oper} {Q : Exit → Act → World → Prop}
/-- No operation defers a call. -/
def noDefer (ops : Array Oper) : Bool := ops.all fun o => match o.op with
  | .defer _ => false
  | _ => true
theorem noDefer_at (h : noDefer ops = true) {i : Nat} {o : Oper} (hi : ops[i]? = some o) : ∀ c, o.op ≠ .defer c := fun c e => by
  obtain ⟨hlt, rfl⟩ := Array.getElem?_eq_some_iff.1 hi
  have := Array.all_eq_true.1 h i hlt
  rw [e] at this
  cases this
theorem oper_inRound (l : Nat) {o : Oper} (hro : F.round = none) (hd : ∀ c, o.op ≠ .defer c) {a : Act} {w : World} {K K' : Act → World → Prop} (hK : ∀ a w, K a w → K' a w) (h : o.wpIn F n P a w K Q) :
    o.wpIn (F.inRound l) n P a w K' Q := by
  have h1 := Oper.wpIn_mono hK h
  refine ⟨h1.1, ?_⟩
  have h2 := h1.2
  rw [hro, Oper.semAt_none] at h2
  show o.uponIn (F.inRound l) n P a K' Q ((o.semAt (some l) a.eval).run P w)
  rw [Oper.semAt_some l _ _ hd]
  exact h2
theorem ops_inRound (l : Nat) (hro : F.round = none) (hd : noDefer ops = true) : ∀ (is : List Nat) (a : Act) (w : World), wpOpsIn F n P ops Q is a w → wpOpsIn (F.inRound l) n P ops Q is a w
  | [], a, w, h => h
  | i :: is, a, w, h => by
    unfold wpOpsIn at *
    cases ho : ops[i]? with
    | none => rw [ho] at h; exact ops_inRound l hro hd is a w h
    | some o =>
      rw [ho] at h
      dsimp only at h ⊢
      by_cases hw : Region.wanted o (yielded ops a.tmps) = true
      · rw [if_pos hw] at h ⊢
        exact oper_inRound l hro (noDefer_at hd ho) (ops_inRound l hro hd is) h
      · rw [if_neg hw] at h ⊢
        exact ⟨h.1, ops_inRound l hro hd is _ _ h.2⟩
theorem region_inRound {l id : Nat} {a : Act} {w : World} (hro : F.round = none) (hm : P.follows .mixedOrders = true) (hd : noDefer ops = true)
    (h : wpAnyIn F n P .any ops Q ops.size (Array.replicate ops.size false) a { w with drawn := w.drawn + 1 }) : (Code.region id ops true).wpIn (F.inRound l) n P Q a w :=
  wpIn_region_draw fun t => by
    simp only [Region.schedule, hm, Bool.true_or, if_true]
    exact ops_inRound l hro hd _ _ _ (wpAnyIn_sound ops.size t _ a _ h)
/-- One walk of the lexical order, within a round. -/
theorem quiet_inRound {l id : Nat} {os : List Oper} {C : World → Prop} {a : Act} {w : World} (hro : F.round = none) (hm : P.follows .mixedOrders = true) (hd : noDefer os.toArray = true) (hB : Region.lexB .any os.toArray = true) (hC : C { w with drawn := w.drawn + 1 })
    (h : wpQuietIn F n P os.toArray C (fun a' => ∀ w', C w' → Q .normal a' w') os a) : (Code.region id os.toArray true).wpIn (F.inRound l) n P Q a w := by
  simp only [Region.lexB, Bool.and_eq_true] at hB
  refine region_inRound hro hm hd (wpAnyIn_of_quiet (Q := fun a' => ∀ w', C w' → Q .normal a' w') hro (fun _ w' hw' h => h w' hw') _ _ _ _ hC ?_)
  have := wpAnyQIn_lex (F := F) (n := n) (C := C) (md := .any) hB.1 os 0 (Array.replicate os.toArray.size false) a (by simp) (by simpa using hB.2) h
  simpa using this
/-- A region that draws its order, by what stands when some of its operations are done. -/
theorem wpAnyIn_states {md : Region.Mode} {St : Array Bool → Act → World → Prop} (cnt : Array Bool → Nat) (h0 : ∀ l a w, St l a w → cnt l = 0 → Region.ready md ops l = []) (hfin : ∀ l a w, St l a w → Region.ready md ops l = [] → Q .normal a w)
    (hstep : ∀ l a w, St l a w → ∀ i ∈ Region.ready md ops l, cnt (l.setIfInBounds i true) < cnt l ∧ wpOpIn F n P ops Q i (St (l.setIfInBounds i true)) a w) : ∀ fuel l a w, cnt l ≤ fuel → St l a w → wpAnyIn F n P md ops Q fuel l a w
  | 0, l, a, w, hl, hs => ⟨h0 l a w hs (by omega), hfin l a w hs (h0 l a w hs (by omega))⟩
  | fuel + 1, l, a, w, hl, hs => ⟨hfin l a w hs, fun i hi => by
    obtain ⟨h1, h2⟩ := hstep l a w hs i hi
    exact wpOpIn_mono (fun a w h => wpAnyIn_states cnt h0 hfin hstep fuel _ a w (by omega) h) h2⟩
/-- How many of them are not done. -/
def left7 (l : Array Bool) : Nat := (l.toList.filter fun b => !b).length
def all7 (f : Array Bool → Bool) : Bool := [false, true].all fun b0 => [false, true].all fun b1 => [false, true].all fun b2 => [false, true].all fun b3 => [false, true].all fun b4 => [false, true].all fun b5 => [false, true].all fun b6 => f #[b0, b1, b2, b3, b4, b5, b6]
theorem all7_at {f : Array Bool → Bool} (h : all7 f = true) (b0 b1 b2 b3 b4 b5 b6 : Bool) : f #[b0, b1, b2, b3, b4, b5, b6] = true := by
  have hm : ∀ b : Bool, b ∈ [false, true] := fun b => by cases b <;> simp
  unfold all7 at h
  have h0 := List.all_eq_true.1 h b0 (hm _)
  have h1 := List.all_eq_true.1 h0 b1 (hm _)
  have h2 := List.all_eq_true.1 h1 b2 (hm _)
  have h3 := List.all_eq_true.1 h2 b3 (hm _)
  have h4 := List.all_eq_true.1 h3 b4 (hm _)
  have h5 := List.all_eq_true.1 h4 b5 (hm _)
  exact List.all_eq_true.1 h5 b6 (hm _)
def good7 (ops : Array Oper) (f : Nat → Array Bool → Bool) : Bool :=
  all7 fun l => (Region.ready .any ops l).all (fun i => f i l && decide (left7 (l.setIfInBounds i true) < left7 l)) && ((Region.ready .any ops l).isEmpty == (left7 l == 0))
theorem wpAnyIn_seven {St : Bool → Bool → Bool → Bool → Bool → Bool → Bool → Act → World → Prop} (f : Nat → Array Bool → Bool) (hs : ops.size = 7) (hg : good7 ops f = true) (hfin : ∀ a w, St true true true true true true true a w → Q .normal a w)
    (hstep : ∀ b0 b1 b2 b3 b4 b5 b6 a w, St b0 b1 b2 b3 b4 b5 b6 a w → ∀ i, f i #[b0, b1, b2, b3, b4, b5, b6] = true → ∀ K : Act → World → Prop, (∀ c0 c1 c2 c3 c4 c5 c6 a w, #[b0, b1, b2, b3, b4, b5, b6].setIfInBounds i true = #[c0, c1, c2, c3, c4, c5, c6] → St c0 c1 c2 c3 c4 c5 c6 a w → K a w) → wpOpIn F n P ops Q i K a w)
    {a : Act} {w : World} (h : St false false false false false false false a w) : wpAnyIn F n P .any ops Q ops.size (Array.replicate ops.size false) a w := by
  rw [hs]
  refine wpAnyIn_states (St := fun l a w => ∃ b0 b1 b2 b3 b4 b5 b6, l = #[b0, b1, b2, b3, b4, b5, b6] ∧ St b0 b1 b2 b3 b4 b5 b6 a w) left7 ?_ ?_ ?_ 7 _ a w (by decide) ⟨false, false, false, false, false, false, false, rfl, h⟩
  · rintro l a w ⟨b0, b1, b2, b3, b4, b5, b6, rfl, -⟩ hc
    have := all7_at hg b0 b1 b2 b3 b4 b5 b6
    simp only [Bool.and_eq_true] at this
    have h2 := this.2
    rw [hc] at h2
    simpa using h2
  · rintro l a w ⟨b0, b1, b2, b3, b4, b5, b6, rfl, hs⟩ hr
    have := all7_at hg b0 b1 b2 b3 b4 b5 b6
    simp only [Bool.and_eq_true] at this
    have h2 := this.2
    rw [hr] at h2
    have : left7 #[b0, b1, b2, b3, b4, b5, b6] = 0 := by simpa using h2
    cases b0 <;> cases b1 <;> cases b2 <;> cases b3 <;> cases b4 <;> cases b5 <;> cases b6 <;> first | exact hfin a w hs | exact absurd this (by decide)
  · rintro l a w ⟨b0, b1, b2, b3, b4, b5, b6, rfl, hs⟩ i hi
    have := all7_at hg b0 b1 b2 b3 b4 b5 b6
    simp only [Bool.and_eq_true] at this
    have h1 := List.all_eq_true.1 this.1 i hi
    simp only [Bool.and_eq_true, decide_eq_true_eq] at h1
    exact ⟨h1.2, hstep b0 b1 b2 b3 b4 b5 b6 a w hs i h1.1 _ fun c0 c1 c2 c3 c4 c5 c6 a w he hs => ⟨c0, c1, c2, c3, c4, c5, c6, he, hs⟩⟩
end
end Go.Proofs.YtikeihnhkiipgaaGreat
