/-
  What is so of the places of a plan.
  Gangs that are looked at; isSeam, isCrew, later, next.
  next.
  knows.
-/
import Derived.Test.YtikeihnhkiipgaaGreatBB
namespace Go.Proofs.YtikeihnhkiipgaaGreat
open Go.RowKit

theorem plan_at {p : PN} {n : Int} (ok : p.Ok) : ∀ {k : Nat} {m : Mk} {r : Int}, m.Ok → m.pot + k = p.qn → p.end' k m = some r → r ≤ n → (p.plan n k m).length = k ∧ ∀ i x, (p.plan n k m)[i]? = some x → ∃ m', m'.Ok ∧ m'.pot = m.pot + i ∧ x ∈ p.steps m'
  | 0, m, r, hm, hk, he, hr => ⟨rfl, fun i x h => by simp [PN.plan] at h⟩
  | k + 1, m, r, hm, hk, he, hr => by
    obtain ⟨x0, hf, hx, hxo, hxp, r', h1, -, h3⟩ := fits_some ok hm hk he hr
    obtain ⟨h4, h5⟩ := plan_at ok hxo (by omega) h1 h3
    unfold PN.plan
    rw [hf]
    refine ⟨by simp [h4], fun i x h => ?_⟩
    cases i with
    | zero =>
      simp only [List.getElem?_cons_zero, Option.some.injEq] at h
      subst h
      exact ⟨m, hm, rfl, hx⟩
    | succ i =>
      simp only [List.getElem?_cons_succ] at h
      obtain ⟨m', a, b, c⟩ := h5 i x h
      exact ⟨m', a, by omega, c⟩
/-- A place of a step: its fire, its hour, its rules. -/
theorem step_hot {p : PN} {m : Mk} {x : Stp} (h : x ∈ p.steps m) : x.f < p.fn ∧ x.h < p.H ∧ p.fm m.pot ≤ x.h ∧ p.hot m.pot x.h (p.fr ||| p.pe) ≤ p.bt m.pot ∧ p.takes m.pot x.h &&& p.F x.f = 0 ∧ p.takes m.pot x.h &&& m.b x.f = 0 := by
  obtain ⟨h1, h2, h3, -⟩ := mem_steps.1 h
  unfold PN.free at h3
  simp only [Bool.and_eq_true, beq_iff_eq] at h3
  obtain ⟨h4, h5⟩ := h3
  unfold PN.alone PN.first at h5
  simp only [beq_iff_eq] at h5
  by_cases b0 : p.brk m.pot x.f x.h 0 = true
  · rw [if_pos b0] at h5; cases h5
  rw [if_neg b0] at h5
  by_cases b1 : p.brk m.pot x.f x.h 1 = true
  · rw [if_pos b1] at h5; cases h5
  rw [if_neg b1] at h5
  by_cases b2 : p.brk m.pot x.f x.h 2 = true
  · rw [if_pos b2] at h5; cases h5
  simp only [PN.brk, decide_eq_true_eq, bne_iff_ne, ne_eq, Decidable.not_not] at b0 b1 b2
  exact ⟨h1, h2, by omega, by omega, b2, h4⟩
/-- The best plan's places. -/
theorem best_at {p : PN} (ok : p.Ok) {n : Int} (h : p.end' p.qn Mk.start = some n) : (p.plan n p.qn Mk.start).length = p.qn ∧ ∀ i, i < p.qn → ∃ x m', (p.plan n p.qn Mk.start)[i]? = some x ∧ m'.Ok ∧ m'.pot = i ∧ x ∈ p.steps m' := by
  obtain ⟨h1, h2⟩ := plan_at (n := n) ok start_ok (by simp [Mk.start]) h (Int.le_refl _)
  refine ⟨h1, fun i hi => ?_⟩
  obtain ⟨x, hx⟩ : ∃ x, (p.plan n p.qn Mk.start)[i]? = some x := ⟨_, List.getElem?_eq_getElem (by omega)⟩
  obtain ⟨m', a, b, c⟩ := h2 i x hx
  exact ⟨x, m', hx, a, by simpa [Mk.start] using b, c⟩
end Go.Proofs.YtikeihnhkiipgaaGreat

namespace Go.Proofs.YtikeihnhkiipgaaGreat
open Go.RowKit

attribute [local go_sem] Oper.semAt_some

/-- Valid gangs, in plain numbers. -/
structure GN where
  sn : Nat
  fm : Nat → Nat
  dr : Nat → Nat
  fl : Nat → Nat
  po : Nat → Int
  cn : Nat
  lo : Nat → Nat
  hi : Nat → Nat
  se : Nat → Nat
  p : PN
structure GN.Ok (g : GN) : Prop where
  hsn : g.sn ≤ 5
  hcn : g.cn ≤ 3
  hfm : ∀ i, i < g.sn → 1 ≤ g.fm i ∧ g.fm i ≤ 60
  hdr : ∀ i, i < g.sn → g.dr i ≤ 24
  hfl : ∀ i, i < g.sn → g.fl i ≤ 24
  hpo : ∀ i, i < g.sn → -1 ≤ g.po i ∧ g.po i < g.p.qn
  hlo : ∀ i, i < g.cn → 1 ≤ g.lo i ∧ g.lo i ≤ g.hi i ∧ g.hi i ≤ 12
  hse : ∀ i, i < g.cn → g.se i < 2 ^ g.sn
  hp : g.p.Ok
def GN.seam (g : GN) (i : Nat) : Nat → Value
  | 0 => .int .i64 (g.fm i)
  | 1 => .int .i64 (g.dr i)
  | 2 => .int .i64 (g.fl i)
  | _ => .int .i64 (g.po i)
def GN.crew (g : GN) (i : Nat) : Nat → Value
  | 0 => .int .i64 (g.lo i)
  | 1 => .int .i64 (g.hi i)
  | _ => .int .i64 (g.se i)
/-- Where its rows lie. -/
structure GA where
  sa : Option Addr
  sc : Nat
  ca : Option Addr
  cc : Nat
  fa : Option Addr
  fc : Nat
  qa : Option Addr
  qc : Nat
structure GN.At (g : GN) (a : GA) (W : World) : Prop where
  s : Row W a.sa g.sn 4 g.seam
  c : Row W a.ca g.cn 3 g.crew
  p : g.p.At a.fa a.qa W
theorem GN.At.grow {g : GN} {a : GA} {W W' : World} (h : g.At a W) (hb : Below W.heap.size W W') : g.At a W' := ⟨Row.grow h.s hb, Row.grow h.c hb, h.p.grow hb⟩
theorem GN.At.seams {g : GN} {a : GA} {W : World} (h : g.At a W) {k : Nat} (hk : k < g.sn) :
    W.cell? ⟨blk a.sa, ofs a.sa + k * 4, none⟩ = some (.int .i64 (g.fm k)) ∧ W.cell? ⟨blk a.sa, ofs a.sa + k * 4 + 1, none⟩ = some (.int .i64 (g.dr k)) ∧ W.cell? ⟨blk a.sa, ofs a.sa + k * 4 + 2, none⟩ = some (.int .i64 (g.fl k)) ∧ W.cell? ⟨blk a.sa, ofs a.sa + k * 4 + 3, none⟩ = some (.int .i64 (g.po k)) :=
  ⟨h.s.cells k hk 0 (by omega), h.s.cells k hk 1 (by omega), h.s.cells k hk 2 (by omega), h.s.cells k hk 3 (by omega)⟩
theorem GN.At.crews {g : GN} {a : GA} {W : World} (h : g.At a W) {k : Nat} (hk : k < g.cn) :
    W.cell? ⟨blk a.ca, ofs a.ca + k * 3, none⟩ = some (.int .i64 (g.lo k)) ∧ W.cell? ⟨blk a.ca, ofs a.ca + k * 3 + 1, none⟩ = some (.int .i64 (g.hi k)) ∧ W.cell? ⟨blk a.ca, ofs a.ca + k * 3 + 2, none⟩ = some (.int .i64 (g.se k)) :=
  ⟨h.c.cells k hk 0 (by omega), h.c.cells k hk 1 (by omega), h.c.cells k hk 2 (by omega)⟩
def GN.cs (g : GN) (a : GA) : Array Value := #[.slice a.sa g.sn a.sc, .slice a.ca g.cn a.cc, .int .i64 g.p.H, .int .i64 g.p.fr, .int .i64 g.p.pe, .slice a.fa g.p.fn a.fc, .slice a.qa g.p.qn a.qc]
def GN.box (g : GN) (a : GA) (r : Option Addr) (rc : Nat) : Array Value := #[.slice a.sa g.sn a.sc, .slice a.ca g.cn a.cc, .int .i64 g.p.H, .int .i64 g.p.fr, .int .i64 g.p.pe, .slice a.fa g.p.fn a.fc, .slice a.qa g.p.qn a.qc, .slice r g.sn rc]
/-- The same with whatever stands for 'ready'. -/
def GN.boxV (g : GN) (a : GA) (v : Value) : Array Value := #[.slice a.sa g.sn a.sc, .slice a.ca g.cn a.cc, .int .i64 g.p.H, .int .i64 g.p.fr, .int .i64 g.p.pe, .slice a.fa g.p.fn a.fc, .slice a.qa g.p.qn a.qc, v]
theorem boxV_cells {g : GN} {a : GA} {b : Nat} {v : Value} {W : World} (h : BoxAt W b (g.boxV a v) 77) : W.cell? ⟨b, 0, none⟩ = some (.slice a.sa g.sn a.sc) ∧ W.cell? ⟨b, 1, none⟩ = some (.slice a.ca g.cn a.cc) ∧ W.cell? ⟨b, 7, none⟩ = some v := ⟨cellAt h 0, cellAt h 1, cellAt h 7⟩
/-- When a pot of the best plan is hot; 10000: never. -/
def GN.hotN (g : GN) (k : Nat) : Nat := match g.p.end' g.p.qn Mk.start with
  | none => 10000
  | some n => match (g.p.plan n g.p.qn Mk.start)[k]? with
    | none => 0
    | some x => g.p.hot k x.h (g.p.fr ||| g.p.pe)
/-- When a seam is ready. -/
def GN.rdy (g : GN) (i : Nat) : Nat := if g.po i < 0 then g.dr i else max (g.dr i) (g.hotN (g.po i).toNat)
/-- What all functions of gangs that are looked at read. -/
structure GW (g : GN) (a : GA) (b : Nat) (r : Option Addr) (rc : Nat) (W : World) : Prop where
  bx : BoxAt W b (g.box a r rc) 77
  at' : g.At a W
  rd : IntsAt W r g.sn (fun i => (g.rdy i : Nat))
theorem GW.grow {g : GN} {a : GA} {b : Nat} {r : Option Addr} {rc : Nat} {W W' : World} (h : GW g a b r rc W) (hb : Below W.heap.size W W') : GW g a b r rc W' := ⟨h.bx.grow hb, h.at'.grow hb, h.rd.grow hb⟩
theorem GW.cells {g : GN} {a : GA} {b : Nat} {r : Option Addr} {rc : Nat} {W : World} (h : GW g a b r rc W) :
    W.cell? ⟨b, 0, none⟩ = some (.slice a.sa g.sn a.sc) ∧ W.cell? ⟨b, 1, none⟩ = some (.slice a.ca g.cn a.cc) ∧ W.cell? ⟨b, 7, none⟩ = some (.slice r g.sn rc) := ⟨cellAt h.bx 0, cellAt h.bx 1, cellAt h.bx 7⟩
theorem size_seam : (Tryz.prog.info? 41).map (·.size) = some 4 := by kernel_rfl
theorem size_crew : (Tryz.prog.info? 63).map (·.size) = some 3 := by kernel_rfl
section
variable (g : GN) (ok : g.Ok) (a : GA) (b : Nat) (v : Value)
include ok
set_option maxHeartbeats 400000 in
theorem isSeam_any (n : Int) (w : World) (h : BoxAt w b (g.boxV a v) 77) :
    Calls Tryz.prog 88 #[bp b, .int .i64 n] w fun e w' => e = .returned (.bool (inB n 0 ((g.sn : Int) - 1))) ∧ w = w' := by
  obtain ⟨q0, -, -⟩ := boxV_cells h
  have hw : wrap64 ((g.sn : Int) - 1) = (g.sn : Int) - 1 := w64 (by have := ok.hsn; omega)
  go_enter Tryz.func88, Tryz.ntmps88
  go_wp2_with (go_at_call 29; refine (Ga.within_any _ _ _ _).mono ?_; rintro e w' ⟨rfl, rfl⟩)
  go_ret
  first | exact ⟨rfl, rfl⟩ | simp [hw]
set_option maxHeartbeats 400000 in
theorem isCrew_any (n : Int) (w : World) (h : BoxAt w b (g.boxV a v) 77) :
    Calls Tryz.prog 28 #[bp b, .int .i64 n] w fun e w' => e = .returned (.bool (inB n 0 ((g.cn : Int) - 1))) ∧ w = w' := by
  obtain ⟨-, q1, -⟩ := boxV_cells h
  have hw : wrap64 ((g.cn : Int) - 1) = (g.cn : Int) - 1 := w64 (by have := ok.hcn; omega)
  go_enter Tryz.func28, Tryz.ntmps28
  go_wp2_with (go_at_call 29; refine (Ga.within_any _ _ _ _).mono ?_; rintro e w' ⟨rfl, rfl⟩)
  go_ret
  first | exact ⟨rfl, rfl⟩ | simp [hw]
end
/-- Two numbers, one behind the other. -/
def TwoI (w : World) (oa : Option Addr) (x y : Int) : Prop := Row w oa 2 1 (fun i _ => .int .i64 (if i = 0 then x else y))
theorem twoI_lit {W : World} {c : Nat} {x y : Int} {t : TypeId} (h : BoxAt W c #[.int .i64 x, .int .i64 y] t) : TwoI W (some ⟨c, 0, none⟩) x y :=
  row_lit h (by unfold maxLen; omega) fun i hi j hj => by
    obtain rfl : j = 0 := by omega
    rcases (show i = 0 ∨ i = 1 by omega) with rfl | rfl <;> rfl
set_option maxRecDepth 100000 in
set_option maxHeartbeats 1000000 in
theorem max2_any (oa : Option Addr) (cap : Nat) (x y : Int) (w : World) (h : TwoI w oa x y) :
    Calls Tryz.prog 86 #[.slice oa 2 cap] w fun e w' => e = .returned (.int .i64 (max x y)) ∧ w = w' := by
  have hi := fun k (hk : k < 2) => run_indexAt_row (w := w) (cap := cap) (n := 2) Tryz.underlying24 size_int (h.plain (by omega)) hk
  have c0 := h.cells 0 (by omega) 0 (by omega)
  have c1 := h.cells 1 (by omega) 0 (by omega)
  simp only [Nat.zero_mul, Nat.one_mul, Nat.add_zero, if_true, if_neg (show ¬ (1 : Nat) = 0 by omega)] at c0 c1
  have i0 := hi 0 (by omega)
  have i1 := hi 1 (by omega)
  simp only [Nat.zero_mul, Nat.one_mul, Nat.add_zero, Int.natCast_zero, Int.natCast_one] at i0 i1
  clear hi h
  go_enter Tryz.func86, Tryz.ntmps86
  go_wp2_with fail
  refine wp_loop_rounds 2 ?_
  rw [rounds_succ]
  go_wp2_with fail
  rw [rounds_succ]
  go_wp2_with fail
  go_ret
  exact ⟨rfl, rfl⟩
set_option maxHeartbeats 400000 in
theorem later_any (oa : Option Addr) (cap : Nat) (x y : Int) (w : World) (h : TwoI w oa x y) :
    Calls Tryz.prog 55 #[.slice oa 2 cap] w fun e w' => e = .returned (.int .i64 (max x y)) ∧ w = w' := by
  have C := Lib.hid (max2_any oa cap x y w h)
  clear h
  go_enter Tryz.func55, Tryz.ntmps55
  go_wp2_with (go_at_call 86; refine C.out.mono ?_; rintro e w' ⟨rfl, rfl⟩)
  go_ret
  exact ⟨rfl, rfl⟩
end Go.Proofs.YtikeihnhkiipgaaGreat

namespace Go.Proofs.YtikeihnhkiipgaaGreat
open Go.RowKit

/-- Which seams a crew has done, and when it is done with them. -/
structure St where
  s : Nat
  h : Nat
def St.cs (x : St) : Array Value := #[.int .u64 x.s, .int .i64 x.h]
def St.v (x : St) : Value := .agg x.cs
def GN.nxt (g : GN) (x : St) (crew seam : Nat) : St := ⟨x.s ||| 2 ^ seam, max x.h (g.rdy seam) + (g.fm seam + g.lo crew - 1) / g.lo crew⟩
/-- The same at any speed. -/
def GN.nxtP (g : GN) (sp : Nat) (x : St) (seam : Nat) : St := ⟨x.s ||| 2 ^ seam, max x.h (g.rdy seam) + (g.fm seam + sp - 1) / sp⟩
def slowV : Value := .iface 95 (.agg #[])
theorem hot_le13 {p : PN} (ok : p.Ok) (k h fr : Nat) (hh : h ≤ p.H) : p.hot k h fr ≤ 13 := by
  unfold PN.hot
  have := (hotFrom_le (p.ht k) fr h (p.H - h) (h + 1)).2
  have := ok.hH
  omega
theorem plan_mem {p : PN} {n : Int} {x : Stp} : ∀ {k : Nat} {m : Mk}, x ∈ p.plan n k m → ∃ m', x ∈ p.steps m'
  | 0, _, h => by cases h
  | k + 1, m, h => by
    unfold PN.plan at h
    split at h
    · cases h
    · rename_i y hy
      rcases List.mem_cons.1 h with rfl | h
      · exact ⟨m, List.mem_of_find?_eq_some hy⟩
      · exact plan_mem h
theorem rdy_le {g : GN} (ok : g.Ok) {i : Nat} (hi : i < g.sn) : g.rdy i ≤ 10000 := by
  have := ok.hdr i hi
  have h2 : ∀ k, g.hotN k ≤ 10000 := fun k => by
    unfold GN.hotN
    split
    · omega
    · split
      · omega
      · rename_i x hx
        obtain ⟨m', h1⟩ := plan_mem (List.mem_of_getElem? hx)
        have := hot_le13 ok.hp k x.h (g.p.fr ||| g.p.pe) (Nat.le_of_lt (mem_steps.1 h1).2.1)
        omega
  have := h2 (g.po i).toNat
  unfold GN.rdy
  split <;> omega
set_option maxHeartbeats 400000 in
theorem slow_any (lo hi se : Nat) (w : World) :
    Calls Tryz.prog 131 #[.agg #[], .agg #[.int .i64 lo, .int .i64 hi, .int .i64 se]] w fun e w' => e = .returned (.int .i64 lo) ∧ Below w.heap.size w w' := by
  go_enter Tryz.func131, Tryz.ntmps131
  go_upto_region 1 with (fail)
  generalize hW : World.alloc (World.alloc w _) _ = W
  obtain ⟨-, z1, -, hB⟩ := blocks2 hW
  have c0 := cellAt z1 0
  simp only [List.getElem?_toArray, List.getElem?_cons_zero] at c0
  go_wp2_with fail
  go_ret
  exact ⟨rfl, hB⟩
theorem next_sum {h r f l : Nat} (h0 : 1 ≤ l) (h1 : l ≤ 12) (hf : f ≤ 60) (hh : h ≤ 20000) (hr : r ≤ 10000) : ∃ (Z : Nat) (M : Int), max (h : Int) (r : Int) = M ∧ IntKind.i64.wrap (M + IntKind.i64.wrap ((IntKind.i64.wrap (IntKind.i64.wrap ((f : Int) + l) - 1)).tdiv l)) = (Z : Int) ∧ Z = max h r + (f + l - 1) / l := by
  have h3 : (f + l - 1) / l ≤ 100 := Nat.le_trans (Nat.div_le_self _ _) (by omega)
  refine ⟨_, _, rfl, ?_, rfl⟩
  have e1 : IntKind.i64.wrap ((f : Int) + l) = ((f + l : Nat) : Int) := by rw [IntKind.wrap_i64]; omega
  have e2 : IntKind.i64.wrap (((f + l : Nat) : Int) - 1) = ((f + l - 1 : Nat) : Int) := by rw [IntKind.wrap_i64]; omega
  rw [e1, e2, Int.tdiv_eq_ediv_of_nonneg (by omega), ← Int.natCast_ediv]
  generalize (f + l - 1) / l = q at *
  have e3 : IntKind.i64.wrap (q : Int) = q := by rw [IntKind.wrap_i64]; omega
  rw [e3, IntKind.wrap_i64]
  omega
/-- What next reads. -/
structure NI (g : GN) (a : GA) (b : Nat) (r : Option Addr) (rc : Nat) (x : St) (w : World) (W : World) : Prop where
  bel : Below w.heap.size w W
  gw : GW g a b r rc W
  st : BoxAt W w.heap.size x.cs 94
  res : BoxAt W (w.heap.size + 1) #[.int .u64 0, .int .i64 0] 94
theorem NI.grow {g : GN} {a : GA} {b : Nat} {r : Option Addr} {rc : Nat} {x : St} {w W W' : World} (h : NI g a b r rc x w W) (hb : Below W.heap.size W W') : NI g a b r rc x w W' := ⟨h.bel.next hb, h.gw.grow hb, h.st.grow hb, h.res.grow hb⟩
section
variable (g : GN) (ok : g.Ok) (a : GA) (b : Nat) (r : Option Addr) (rc : Nat)
include ok
set_option maxRecDepth 100000 in
set_option maxHeartbeats 1000000 in
theorem nextP_any (pt F sp : Nat) (x : St) (crew seam : Nat) (hc : crew < g.cn) (hs : seam < g.sn) (hx : x.s < 18446744073709551616) (hh : x.h ≤ 20000) (hs1 : 1 ≤ sp) (hs2 : sp ≤ 12)
    (m0 : ∀ w, (method 327 pt (.agg #[]) "caulkworks/gang.fathoms").run Tryz.prog w = .ok (F, .agg #[]) w) (h0 : ∀ w, (nilAhead 327 pt (.agg #[]) "caulkworks/gang.fathoms").run Tryz.prog w = .ok (some false) w)
    (n0 : ∀ w, (callFunc F #[.agg #[], .agg #[.int .i64 (g.lo crew), .int .i64 (g.hi crew), .int .i64 (g.se crew)]]).run Tryz.prog w = .ok (.enter F #[.agg #[], .agg #[.int .i64 (g.lo crew), .int .i64 (g.hi crew), .int .i64 (g.se crew)]]) w)
    (hF : ∀ w, Calls Tryz.prog F #[.agg #[], .agg #[.int .i64 (g.lo crew), .int .i64 (g.hi crew), .int .i64 (g.se crew)]] w fun e w' => e = .returned (.int .i64 sp) ∧ Below w.heap.size w w') (w : World) (h : GW g a b r rc w) :
    Calls Tryz.prog 64 #[bp b, x.v, .int .i64 crew, .int .i64 seam, .iface pt (.agg #[])] w fun e w' => e = .returned (g.nxtP sp x seam).v ∧ Below w.heap.size w w' := by
  have I0 := Lib.hid (show NI g a b r rc x w ((w.alloc (.cells x.cs 94)).alloc (.cells #[.int .u64 0, .int .i64 0] 94)) from by
    obtain ⟨z0, z1, -, hB⟩ := blocks2 (show (w.alloc (.cells x.cs 94)).alloc (.cells #[.int .u64 0, .int .i64 0] 94) = _ from rfl)
    exact ⟨hB, h.grow hB, z0, z1⟩)
  have OK := Lib.hid ok
  have H0 := Lib.hid h
  have C1 := Lib.hid (fun W => with_any x.s seam W hx (by have := ok.hsn; omega))
  have CF := Lib.hid hF
  have hfm := ok.hfm seam hs
  have hrd := rdy_le ok hs
  have hsn := ok.hsn
  have n3 : ¬ sp = 0 := by omega
  have n6 : (g.nxtP sp x seam) = ⟨x.s ||| 2 ^ seam, max x.h (g.rdy seam) + (g.fm seam + sp - 1) / sp⟩ := rfl
  obtain ⟨Z, M, n7, n4, hZ⟩ := next_sum hs1 hs2 hfm.2 hh hrd
  have NE := Lib.hid n4
  clear n4
  rw [← hZ] at n6
  clear hZ
  have HN := Lib.hid n6
  clear h ok hx hrd hfm hsn n6 hh hs1 hs2 hF
  unfold St.v St.cs at *
  go_enter Tryz.func64, Tryz.ntmps64
  go_upto_region 1 with (fail)
  generalize World.alloc (World.alloc w _) _ = w0 at *
  have hi := fun W => run_indexAt_row (w := W) (cap := a.cc) Tryz.underlying23 size_crew (I0.out.gw.at'.c.plain (by omega)) hc
  have ID := Lib.hid (I0.out.grow (Below.drew (Below.refl w0.heap.size w0)))
  obtain ⟨q0, q1, q7⟩ := ID.out.gw.cells
  obtain ⟨k0, k1, k2⟩ := ID.out.gw.at'.crews hc
  go_region_held3 (fun w' => (w'.cell? ⟨b, 1, none⟩ = some (.slice a.ca g.cn a.cc) ∧ w'.cell? ⟨blk a.ca, ofs a.ca + crew * 3, none⟩ = some (.int .i64 (g.lo crew)) ∧ w'.cell? ⟨blk a.ca, ofs a.ca + crew * 3 + 1, none⟩ = some (.int .i64 (g.hi crew)) ∧ w'.cell? ⟨blk a.ca, ofs a.ca + crew * 3 + 2, none⟩ = some (.int .i64 (g.se crew))) ∧ NI g a b r rc x w w')
    (first | exact ⟨⟨q1, k0, k1, k2⟩, ID.out⟩ | (rename_i hb1; exact ⟨⟨(ID.out.grow hb1).gw.cells.2.1, (ID.out.grow hb1).gw.at'.crews hc⟩, ID.out.grow hb1⟩))
    (first | (refine (CF.out _).mono ?_; rintro e w1 ⟨rfl, hb1⟩))
  rename_i w1 hS
  have I1 := Lib.hid hS.2
  clear hb1 hS ID q0 q1 q7 k0 k1 k2 hi m0 h0 n0 I0 CF
  have hiS := fun W => run_indexAt_row (w := W) (cap := a.sc) Tryz.underlying22 size_seam (I1.out.gw.at'.s.plain (by omega)) hs
  have hiR := fun W => run_indexAt_row (w := W) (cap := rc) Tryz.underlying24 size_int (I1.out.gw.rd.plain (by omega)) hs
  simp only [Nat.mul_one] at hiR
  have f0 := fun W (h : NI g a b r rc x w W) => (And.intro h.gw.cells (And.intro (h.gw.at'.seams hs).1 (And.intro (h.gw.rd.at hs) (And.intro (cellAt h.st 0) (And.intro (cellAt h.st 1) (And.intro (cellAt h.res 0) (And.intro (cellAt h.res 1) (And.intro (freeAt h.res 0) (freeAt h.res 1)))))))))
  simp only [St.cs, List.getElem?_toArray, List.getElem?_cons_zero, List.getElem?_cons_succ] at f0
  have F0 := Lib.hid f0
  clear f0
  have I2 := Lib.hid (I1.out.grow (Below.drew (Below.refl w1.heap.size w1)))
  have I3 := Lib.hid (I1.out.grow (((Below.refl w1.heap.size w1).alloc (Nat.le_refl _) (.cells #[.int .i64 x.h, .int .i64 (g.rdy seam)] 3)).drew))
  have C2 := Lib.hid (fun W (h : BoxAt W w1.heap.size #[.int .i64 x.h, .int .i64 (g.rdy seam)] 3) => (show Calls Tryz.prog 55 #[.slice (some ⟨w1.heap.size, 0, none⟩) 2 2] W fun e w' => e = .returned (.int .i64 M) ∧ W = w' from by rw [← n7]; exact later_any (some ⟨w1.heap.size, 0, none⟩) 2 x.h (g.rdy seam) W (twoI_lit h)))
  clear n7
  have S5 := Lib.hid (fun u v => (show ∀ w', w' = ((((w1.alloc (.cells #[.int .i64 x.h, .int .i64 (g.rdy seam)] 3)).setCell ⟨w.heap.size + 1, 0, none⟩ u).setCell ⟨w.heap.size + 1, 1, none⟩ v).drew) → w'.cell? ⟨b, 0, none⟩ = some (.slice a.sa g.sn a.sc) ∧ w'.cell? ⟨b, 7, none⟩ = some (.slice r g.sn rc) ∧ w'.cell? ⟨blk a.sa, ofs a.sa + seam * 4, none⟩ = some (.int .i64 (g.fm seam)) ∧ w'.cell? ⟨blk r, ofs r + seam, none⟩ = some (.int .i64 (g.rdy seam)) ∧ w'.cell? ⟨w.heap.size, 0, none⟩ = some (.int .u64 x.s) ∧ w'.cell? ⟨w.heap.size, 1, none⟩ = some (.int .i64 x.h) from fun w' e => by
      subst e
      have hb : Below w.heap.size w ((((w1.alloc (.cells #[.int .i64 x.h, .int .i64 (g.rdy seam)] 3)).setCell ⟨w.heap.size + 1, 0, none⟩ u).setCell ⟨w.heap.size + 1, 1, none⟩ v).drew) := (((I1.out.bel.next ((Below.refl w1.heap.size w1).alloc (Nat.le_refl _) _)).setCell (Nat.le_succ _) _).setCell (Nat.le_succ _) _).drew
      have hg := H0.out.grow hb
      have hx : BoxAt ((((w1.alloc (.cells #[.int .i64 x.h, .int .i64 (g.rdy seam)] 3)).setCell ⟨w.heap.size + 1, 0, none⟩ u).setCell ⟨w.heap.size + 1, 1, none⟩ v).drew) w.heap.size x.cs 94 := ((I1.out.grow ((Below.refl w1.heap.size w1).alloc (Nat.le_refl _) _)).st.set _ _ (Nat.succ_ne_self _)).set _ _ (Nat.succ_ne_self _)
      exact ⟨hg.cells.1, hg.cells.2.2, (hg.at'.seams hs).1, hg.rd.at hs, cellAt hx 0, cellAt hx 1⟩) _ rfl)
  have Z3 := Lib.hid (show BoxAt ((w1.alloc (.cells #[.int .i64 x.h, .int .i64 (g.rdy seam)] 3)).drew) w1.heap.size #[.int .i64 x.h, .int .i64 (g.rdy seam)] 3 from heap_alloc_new w1 _)
  have S4 := Lib.hid (fun (W : World) (h : NI g a b r rc x w W) => (show Below w.heap.size w ((W.setCell ⟨w.heap.size + 1, 0, none⟩ (.int .u64 (x.s ||| 2 ^ seam : Nat))).setCell ⟨w.heap.size + 1, 1, none⟩ (.int .i64 Z)) ∧ BoxAt ((W.setCell ⟨w.heap.size + 1, 0, none⟩ (.int .u64 (x.s ||| 2 ^ seam : Nat))).setCell ⟨w.heap.size + 1, 1, none⟩ (.int .i64 Z)) (w.heap.size + 1) #[.int .u64 (x.s ||| 2 ^ seam : Nat), .int .i64 Z] 94 from
    ⟨(h.bel.setCell (Nat.le_succ _) _).setCell (Nat.le_succ _) _, (h.res.store 0 _).store 1 _⟩))
  obtain ⟨⟨p0, -, p7⟩, pf, pr, ps, ph, p10, p11, pz0, pz1⟩ := F0.out _ I2.out
  obtain ⟨-, -, -, -, -, s10, s11, sz0, sz1⟩ := F0.out _ (I1.out.grow ((Below.refl w1.heap.size w1).alloc (Nat.le_refl _) (.cells #[.int .i64 x.h, .int .i64 (g.rdy seam)] 3)))
  obtain ⟨⟨r0, -, r7⟩, rf, rr, rs, rh, r10, r11, rz0, rz1⟩ := F0.out _ I3.out
  go_upto_region 2 with (fail)
  go_region_held3 (fun w' => w'.cell? ⟨b, 0, none⟩ = some (.slice a.sa g.sn a.sc) ∧ w'.cell? ⟨b, 7, none⟩ = some (.slice r g.sn rc) ∧ w'.cell? ⟨blk a.sa, ofs a.sa + seam * 4, none⟩ = some (.int .i64 (g.fm seam)) ∧ w'.cell? ⟨blk r, ofs r + seam, none⟩ = some (.int .i64 (g.rdy seam)) ∧ w'.cell? ⟨w.heap.size, 0, none⟩ = some (.int .u64 x.s) ∧ w'.cell? ⟨w.heap.size, 1, none⟩ = some (.int .i64 x.h))
    (first | exact ⟨p0, p7, pf, pr, ps, ph⟩ | exact ⟨r0, r7, rf, rr, rs, rh⟩ | exact S5.out _ _)
    (first | (go_at_call 26; with_reducible refine (C1.out _).mono ?_; rintro e w' ⟨rfl, rfl⟩) | (go_at_call 55; with_reducible refine (C2.out _ Z3.out).mono ?_; rintro e w' ⟨rfl, rfl⟩))
  all_goals
    rw [NE.out]
    obtain ⟨hb4, hx4⟩ := S4.out _ (I1.out.grow ((Below.refl w1.heap.size w1).alloc (Nat.le_refl _) (.cells #[.int .i64 x.h, .int .i64 (g.rdy seam)] 3)))
    generalize hW5 : World.setCell (World.setCell (World.alloc w1 _) _ _) _ _ = w5
    have hb5 : Below w.heap.size w w5.drew := by rw [← hW5]; exact hb4.drew
    replace hx4 : BoxAt w5 (w.heap.size + 1) #[.int .u64 (x.s ||| 2 ^ seam : Nat), .int .i64 Z] 94 := by rw [← hW5]; exact hx4
    have c0 := cellAt (show BoxAt w5.drew (w.heap.size + 1) #[.int .u64 (x.s ||| 2 ^ seam : Nat), .int .i64 Z] 94 from hx4) 0
    have c1 := cellAt (show BoxAt w5.drew (w.heap.size + 1) #[.int .u64 (x.s ||| 2 ^ seam : Nat), .int .i64 Z] 94 from hx4) 1
    simp only [List.getElem?_toArray, List.getElem?_cons_zero, List.getElem?_cons_succ] at c0 c1
    clear hb4 hx4 hW5 S4 S5 I2 I3 Z3 C1 C2 F0 p0 p7 pf pr ps ph p10 p11 pz0 pz1 r0 r7 rf rr rs rh r10 r11 rz0 rz1 s10 s11 sz0 sz1
    generalize World.drew w5 = w6 at *
    go_wp2_with fail
    exact bodyPost_ret (v := .agg #[.int .u64 (x.s ||| 2 ^ seam : Nat), .int .i64 Z]) (by simp [results, Tryz.results64, go_sem, c0, c1]) rfl ⟨by rw [HN.out], hb5⟩
theorem next_any (x : St) (crew seam : Nat) (hc : crew < g.cn) (hs : seam < g.sn) (hx : x.s < 18446744073709551616) (hh : x.h ≤ 20000) (w : World) (h : GW g a b r rc w) :
    Calls Tryz.prog 64 #[bp b, x.v, .int .i64 crew, .int .i64 seam, slowV] w fun e w' => e = .returned (g.nxt x crew seam).v ∧ Below w.heap.size w w' :=
  nextP_any g ok a b r rc 95 131 (g.lo crew) x crew seam hc hs hx hh (ok.hlo crew hc).1 (by have := ok.hlo crew hc; omega) (fun _ => by kernel_rfl) (fun _ => by kernel_rfl) (fun _ => by kernel_rfl) (fun w => slow_any _ _ _ w) w h
end
end Go.Proofs.YtikeihnhkiipgaaGreat

namespace Go.Proofs.YtikeihnhkiipgaaGreat
open Go.RowKit

/-- Whether a crew knows a seam that is ready at some hour. -/
def GN.kn (g : GN) (crew seam : Nat) : Bool := (g.se crew).testBit seam && decide (g.rdy seam < 10000)
/-- What 'knows' hands back reads. -/
structure KW (g : GN) (a : GA) (b : Nat) (r : Option Addr) (rc : Nat) (crew c : Nat) (W : World) : Prop where
  gw : GW g a b r rc W
  pb : BoxAt W c #[bp b] 68
  hs : BoxAt W (c + 1) #[.func (.func 57) #[.int .u64 (g.se crew)] #[]] 83
theorem KW.grow {g : GN} {a : GA} {b : Nat} {r : Option Addr} {rc crew c : Nat} {W W' : World} (h : KW g a b r rc crew c W) (hb : Below W.heap.size W W') : KW g a b r rc crew c W' := ⟨h.gw.grow hb, h.pb.grow hb, h.hs.grow hb⟩
def knV (c : Nat) : Value := .func (.func 87) #[] #[bp (c + 1), bp c]
theorem se_lt {g : GN} (ok : g.Ok) {i : Nat} (hi : i < g.cn) : g.se i < 32 := by
  have h1 := ok.hse i hi
  have h2 : 2 ^ g.sn ≤ 2 ^ 5 := Nat.pow_le_pow_right (by omega) ok.hsn
  omega
section
variable (g : GN) (ok : g.Ok) (a : GA) (b : Nat) (r : Option Addr) (rc : Nat)
include ok
set_option maxHeartbeats 400000 in
theorem knows_any (crew : Nat) (hc : crew < g.cn) (w : World) (h : GW g a b r rc w) :
    Calls Tryz.prog 61 #[bp b, .int .i64 crew] w fun e w' => e = .returned (knV w.heap.size) ∧ KW g a b r rc crew w.heap.size w' ∧ Below w.heap.size w w' := by
  have al := (Below.refl w.heap.size w).alloc (Nat.le_refl _) (.cells #[bp b] 68)
  have I0 := Lib.hid (h.grow al)
  have X0 := Lib.hid (show BoxAt (w.alloc (.cells #[bp b] 68)) w.heap.size #[bp b] 68 from heap_alloc_new _ _)
  have B0 := Lib.hid al
  have hse : IntKind.u64.wrap (g.se crew : Int) = g.se crew := wrap64u rfl (by have := se_lt ok hc; omega)
  have hsz := sizeAlloc w (.cells #[bp b] 68)
  clear h al
  go_enter Tryz.func61, Tryz.ntmps61
  go_upto_region 1 with (fail)
  generalize World.alloc w _ = w0 at *
  have hi := fun W => run_indexAt_row (w := W) (cap := a.cc) Tryz.underlying23 size_crew (I0.out.at'.c.plain (by omega)) hc
  obtain ⟨q0, q1, q7⟩ := I0.out.cells
  obtain ⟨k0, k1, k2⟩ := I0.out.at'.crews hc
  have x0 := cellAt X0.out 0
  simp only [List.getElem?_toArray, List.getElem?_cons_zero] at x0
  go_wp2_with fail
  have al := (Below.refl w0.heap.size w0).alloc (Nat.le_refl _) (.cells #[.func (.func 57) #[.int .u64 (g.se crew)] #[]] 83)
  have Z := heap_alloc_new w0 (.cells #[.func (.func 57) #[.int .u64 (g.se crew)] #[]] 83)
  rw [hsz] at Z
  go_ret
  exact ⟨rfl, ⟨I0.out.grow al, X0.out.grow al, Z⟩, B0.out.next al⟩
set_option maxHeartbeats 400000 in
theorem knows1_any (crew c seam : Nat) (hc : crew < g.cn) (hs : seam < g.sn) (w : World) (h : KW g a b r rc crew c w) :
    Calls Tryz.prog 87 #[.int .i64 seam, bp (c + 1), bp c] w fun e w' => e = .returned (.bool (g.kn crew seam)) ∧ w = w' := by
  have C := Lib.hid (fun W => has_any (g.se crew) seam W (by have := se_lt ok hc; omega) (by have := ok.hsn; omega))
  obtain ⟨q0, q1, q7⟩ := h.gw.cells
  have x0 := cellAt h.pb 0
  have x1 := cellAt h.hs 0
  simp only [List.getElem?_toArray, List.getElem?_cons_zero] at x0 x1
  have k0 := h.gw.rd.at hs
  have hi := run_indexAt_row (w := w) (cap := rc) Tryz.underlying24 size_int (h.gw.rd.plain (by omega)) hs
  simp only [Nat.mul_one] at hi
  have HK := Lib.hid (show g.kn crew seam = ((g.se crew).testBit seam && decide (g.rdy seam < 10000)) from rfl)
  have m0 : ∀ W, (callFunc 57 #[.int .u64 (g.se crew), .int .i64 seam]).run Tryz.prog W = .ok (.enter 57 #[.int .u64 (g.se crew), .int .i64 seam]) W := fun _ => by kernel_rfl
  clear h
  generalize (g.se crew).testBit seam = t at *
  cases t with
  | false =>
    go_enter Tryz.func87, Tryz.ntmps87
    go_wp2_with (go_at_call 57; refine (C.out _).mono ?_; rintro e w' ⟨rfl, rfl⟩)
    go_ret
    exact ⟨by rw [HK.out]; rfl, rfl⟩
  | true =>
    go_enter Tryz.func87, Tryz.ntmps87
    go_wp2_with (go_at_call 57; refine (C.out _).mono ?_; rintro e w' ⟨rfl, rfl⟩)
    go_ret
    exact ⟨by rw [HK.out]; simp; omega, rfl⟩
end
end Go.Proofs.YtikeihnhkiipgaaGreat
