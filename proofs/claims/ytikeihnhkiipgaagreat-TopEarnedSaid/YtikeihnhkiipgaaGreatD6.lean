/-
  open: gangs are looked at.
-/
import Derived.Test.YtikeihnhkiipgaaGreatD5
import Derived.Test.YtikeihnhkiipgaaGreatQD0
namespace Go.Proofs.YtikeihnhkiipgaaGreat
open Go.RowKit

/-- The box of the argument stands. -/
structure OI (g : GN) (a : GA) (w : World) (W : World) : Prop where
  bel : Below w.heap.size w W
  box : BoxAt W w.heap.size (g.cs a) 29
  at' : g.At a W
theorem OI.grow {g : GN} {a : GA} {w W W' : World} (h : OI g a w W) (hb : Below W.heap.size W W') : OI g a w W' := ⟨h.bel.next hb, h.box.grow hb, h.at'.grow hb⟩
theorem OI.cells {g : GN} {a : GA} {w W : World} (h : OI g a w W) : W.cell? ⟨w.heap.size, 0, none⟩ = some (.slice a.sa g.sn a.sc) ∧ W.cell? ⟨w.heap.size, 1, none⟩ = some (.slice a.ca g.cn a.cc) ∧ W.cell? ⟨w.heap.size, 2, none⟩ = some (.int .i64 g.p.H) ∧ W.cell? ⟨w.heap.size, 3, none⟩ = some (.int .i64 g.p.fr) ∧ W.cell? ⟨w.heap.size, 4, none⟩ = some (.int .i64 g.p.pe) ∧ W.cell? ⟨w.heap.size, 5, none⟩ = some (.slice a.fa g.p.fn a.fc) ∧ W.cell? ⟨w.heap.size, 6, none⟩ = some (.slice a.qa g.p.qn a.qc) :=
  ⟨cellAt h.box 0, cellAt h.box 1, cellAt h.box 2, cellAt h.box 3, cellAt h.box 4, cellAt h.box 5, cellAt h.box 6⟩
theorem max_nat (a b : Nat) : max (a : Int) (b : Int) = ((max a b : Nat) : Int) := by omega
theorem pot_in {po : Int} {q : Nat} (h : -1 ≤ po ∧ po < q) (hq : q ≤ 4) : inB po (-1) (wrap64 ((q : Int) - 1)) = true := by
  have e : wrap64 ((q : Int) - 1) = (q : Int) - 1 := w64 (by omega)
  rw [e]
  exact inB_true (by omega)
theorem set_in {s n : Nat} (h : s < 2 ^ n) (hn : n ≤ 5) : inB (s : Int) 0 (wrap64 (wrap64 ((2 : Int) ^ (min n 64)) - 1)) = true := inB_iff.2 (by
  rw [Nat.min_eq_left (show n ≤ 64 by omega), shl_one (show n ≤ 12 by omega)]
  have : 2 ^ n ≤ 2 ^ 5 := Nat.pow_le_pow_right (by omega) hn
  generalize 2 ^ n = z at *
  have e : wrap64 ((z : Int) - 1) = z - 1 := w64 (by omega)
  omega)
theorem wrap_64 (n : Int) : IntKind.i64.wrap n = wrap64 n := by
  rw [IntKind.wrap_i64]
  unfold wrap64
  omega
theorem set_in' {s n : Nat} (h : s < 2 ^ n) (hn : n ≤ 5) : inB (s : Int) 0 (IntKind.i64.wrap (IntKind.i64.wrap ((2 : Int) ^ (min n 64)) - 1)) = true := by
  rw [wrap_64, wrap_64]
  exact set_in h hn
theorem succ64 {k : Nat} (h : k < 100) : wrap64 ((k : Int) + 1) = ((k + 1 : Nat) : Int) := w64 (by omega)
/-- What is known of the best plan. -/
def BestOut (g : GN) (lo hi : Nat) (pa : Option Addr) (pn : Nat) (be : Int) (W : World) : Prop := match g.p.end' g.p.qn Mk.start with
  | none => be = 4
  | some n => be = 0 ∧ pn = g.p.qn ∧ Row W pa g.p.qn 2 (pC (g.p.plan n g.p.qn Mk.start)) ∧ (0 < g.p.qn → lo ≤ blk pa ∧ blk pa < hi)
theorem best_out {g : GN} {w w' : World} {e : Ending} (h : BestPost g.p w e w') : ∃ (bn : Int) (pa : Option Addr) (pn pc : Nat) (be : Int), e = .returned (.tuple #[.int .i64 bn, .slice pa pn pc, .int .i64 be]) ∧ Below w.heap.size w w' ∧ BestOut g w.heap.size w'.heap.size pa pn be w' := by
  obtain ⟨hb, h⟩ := h
  unfold BestOut
  cases hE : g.p.end' g.p.qn Mk.start with
  | none => rw [hE] at h; exact ⟨0, none, 0, 0, 4, h, hb, rfl⟩
  | some n =>
    rw [hE] at h
    obtain ⟨pa, h1, h2, h3⟩ := h
    exact ⟨n, pa, _, _, 0, h1, hb, rfl, rfl, h2, fun h => ⟨h3 h, h2.old h⟩⟩
theorem BestOut.keep {g : GN} {lo hi : Nat} {pa : Option Addr} {pn : Nat} {be : Int} {W W' : World} {C : Nat → Prop} (h : BestOut g lo hi pa pn be W) (hk : Keep C W W') (hC : ∀ i, lo ≤ i → i < hi → i < W.heap.size → C i) : BestOut g lo hi pa pn be W' := by
  unfold BestOut at h ⊢
  cases hE : g.p.end' g.p.qn Mk.start with
  | none => rw [hE] at h; exact h
  | some n =>
    rw [hE] at h
    exact ⟨h.1, h.2.1, h.2.2.1.keep hk fun hn => hC _ (h.2.2.2 hn).1 (h.2.2.2 hn).2 (h.2.2.1.old hn), h.2.2.2⟩
theorem BestOut.grow {g : GN} {lo hi : Nat} {pa : Option Addr} {pn : Nat} {be : Int} {W W' : World} (h : BestOut g lo hi pa pn be W) (hb : Below W.heap.size W W') : BestOut g lo hi pa pn be W' :=
  h.keep (Keep.of_below hb fun _ hi => hi) fun _ _ _ hi => hi
theorem own_set {w : World} {base sz n : Nat} {e : TypeId} {v : Value} {xs : List Value} (h : w.ownsRow base e sz v n xs) (a : Addr) (u : Value) (ha : a.block < base) : (w.setCell a u).ownsRow base e sz v n xs := by
  obtain ⟨hl, h | ⟨g, cap, cur, hv, hbg, hg, h3⟩⟩ := h
  · exact ⟨hl, .inl h⟩
  · exact ⟨hl, .inr ⟨g, cap, cur, hv, hbg, (Below.heap_setCell w a u g (by omega)).trans hg, h3⟩⟩
/-- What the last loop keeps. -/
structure RI (g : GN) (a : GA) (w : World) (lo b B0 : Nat) (pa : Option Addr) (pn : Nat) (be : Int) (v : Value) (k : Nat) (W : World) : Prop where
  oi : OI g a w W
  gb : BoxAt W b (g.boxV a v) 77
  bo : BestOut g lo B0 pa pn be W
  own : W.ownsRow B0 3 1 v k (rowVals (fun i => (g.rdy i : Nat)) k)
  sz : B0 ≤ W.heap.size
/-- With the seam's box. -/
structure RT (g : GN) (a : GA) (w : World) (lo b B0 : Nat) (pa : Option Addr) (pn : Nat) (v : Value) (k c2 : Nat) (q : Nat) (W : World) : Prop where
  r : RI g a w lo b B0 pa pn 0 v k W
  x : BoxAt W c2 #[.int .i64 (g.fm k), .int .i64 (g.dr k), .int .i64 (g.fl k), .int .i64 q] 41
theorem RI.grow {g : GN} {a : GA} {w : World} {lo b B0 : Nat} {pa : Option Addr} {pn : Nat} {be : Int} {v : Value} {k : Nat} {W W' : World} (h : RI g a w lo b B0 pa pn be v k W) (hb : Below W.heap.size W W') : RI g a w lo b B0 pa pn be v k W' :=
  ⟨h.oi.grow hb, h.gb.grow hb, h.bo.grow hb, own_grow h.own hb, Nat.le_trans h.sz hb.size⟩
theorem RT.grow {g : GN} {a : GA} {w : World} {lo b B0 : Nat} {pa : Option Addr} {pn : Nat} {v : Value} {k c2 q : Nat} {W W' : World} (h : RT g a w lo b B0 pa pn v k c2 q W) (hb : Below W.heap.size W W') : RT g a w lo b B0 pa pn v k c2 q W' := ⟨h.r.grow hb, h.x.grow hb⟩
/-- One hour more is put behind, and the row is stored. -/
theorem RI.put {g : GN} {a : GA} {w W4 W5 : World} {lo b B0 : Nat} {pa : Option Addr} {pn : Nat} {be : Int} {v v' : Value} {k : Nat} (h : RI g a w lo b B0 pa pn be v k W4) (hA : g.At a w) (h1 : w.heap.size < b) (h2 : b < lo) (h3 : lo ≤ B0)
    (hg : W4.grownBy W5 v.ownBlock) (ho : W5.ownsRow B0 3 1 v' (k + 1) (rowVals (fun i => (g.rdy i : Nat)) (k + 1))) :
    (W5.cell? ⟨b, 7, none⟩ = some v ∧ W5.frozen? ⟨b, 7, none⟩ = false) ∧ RI g a w lo b B0 pa pn be v' (k + 1) (W5.setCell ⟨b, 7, none⟩ v') := by
  have hlt := own_lt h.own
  have hbs : b < W4.heap.size := lt_of_heap h.gb
  have hne : ∀ i, i < B0 → (some i : Option Nat) ≠ v.ownBlock := fun i hi e => by have := (hlt i e.symm).1; omega
  have hbel := h.oi.bel.grown hg (Nat.le_trans (Nat.le_of_lt h1) (Nat.le_of_lt hbs)) fun j e => by have := (hlt j e).1; omega
  have gb := h.gb.kept hg (hne b (by omega))
  have hk : Keep (fun i => i < W4.heap.size ∧ (some i : Option Nat) ≠ v.ownBlock ∧ i ≠ b) W4 (W5.setCell ⟨b, 7, none⟩ v') :=
    ((Keep.refl (fun i => i < W4.heap.size ∧ (some i : Option Nat) ≠ v.ownBlock ∧ i ≠ b) W4).grown hg (fun j e hC => hC.2.1 e.symm) fun j hC => hC.1).set b 7 v' fun hC => hC.2.2 rfl
  have hbel2 := hbel.setCell (p := ⟨b, 7, none⟩) (Nat.le_of_lt h1) v'
  refine ⟨⟨cellAt gb 7, freeAt gb 7⟩, ⟨hbel2, (h.oi.box.kept hg (hne _ (by omega))).set _ _ (by show b ≠ _; omega), hA.grow hbel2⟩, gb.store 7 v', h.bo.keep hk fun i hi hi2 hi3 => ⟨hi3, hne i hi2, by omega⟩, own_set ho _ _ (by show b < B0; omega), by rw [size_setCell]; exact Nat.le_trans h.sz hg.size⟩
section
variable (g : GN) (ok : g.Ok) (a : GA)
include ok
set_option maxRecDepth 100000 in
set_option maxHeartbeats 4000000 in
theorem gopen_any (gf : Nat) (lb : Array Value) (w : World) (h : g.At a w)
    (hcf : ∀ b W, (callFunc gf (#[bp b] ++ lb)).run Tryz.prog W = .ok (.enter gf (#[bp b] ++ lb)) W)
    (hcl : ∀ b v W, Below w.heap.size w W → BoxAt W b (g.boxV a v) 77 → Calls Tryz.prog gf (#[bp b] ++ lb) W fun e W' => e = .returned (.bool true) ∧ Below W.heap.size W W') :
    Calls Tryz.prog 20 #[.agg (g.cs a), .func (.func gf) #[] lb] w fun e w' => ∃ b r rc, e = .returned (bp b) ∧ w.heap.size ≤ b ∧ GW g a b r rc w' ∧ Below w.heap.size w w' := by
  have al := (Below.refl w.heap.size w).alloc (Nat.le_refl _) (.cells (g.cs a) 29)
  have I0 := Lib.hid (show OI g a w (w.alloc (.cells (g.cs a) 29)) from ⟨al, heap_alloc_new _ _, h.grow al⟩)
  have OK := Lib.hid ok
  have CL := Lib.hid hcl
  have CF := Lib.hid hcf
  have H0 := Lib.hid h
  have b1 : ((g.sn : Int) ≤ 5) := by have := ok.hsn; omega
  have b2 : ((g.cn : Int) ≤ 3) := by have := ok.hcn; omega
  have K1 := Lib.hid (fun W (h : g.At a W) => count_ok g.p ok.hp a.fa a.qa a.fc a.qc W h.p)
  have K2 := Lib.hid (fun W (h : g.At a W) => best_any g.p ok.hp a.fa a.qa a.fc a.qc W h.p)
  clear h ok hcl hcf al
  unfold PN.cs at K1 K2
  unfold GN.cs at *
  go_enter Tryz.func20, Tryz.ntmps20
  go_upto_region 1 with (fail)
  generalize World.alloc w _ = W0 at *
  obtain ⟨q0, q1, q2, q3, q4, q5, q6⟩ := I0.out.cells
  go_upto_region 2 with (go_at_call 53; refine (K1.out _ I0.out.at').mono ?_; rintro e w1 ⟨⟨x, rfl⟩, hb1⟩)
  have I1 := Lib.hid (I0.out.grow hb1)
  clear q0 q1 q2 q3 q4 q5 q6 I0 hb1 K1
  obtain ⟨q0, q1, q2, q3, q4, q5, q6⟩ := I1.out.cells
  go_upto_region 4 with (go_at_call 25; (with_reducible refine (Ga.ask_true _ _).mono ?_); rintro e w' ⟨rfl, rfl⟩)
  clear b1 b2 q0 q1 q2 q3 q4 q5 q6
  go_loopw [44] (fun i W => ∃ k : Nat, k ≤ g.sn ∧ i = .int .i64 k ∧ OI g a w W) (fun i _ => g.sn - (intOf i).toNat)
  case atStart => exact ⟨0, Nat.zero_le _, rfl, I1.out⟩
  case round =>
    clear I1
    obtain ⟨k, hk, rfl, hI⟩ := hrel
    have I1 := Lib.hid hI
    clear hI
    by_cases hlt : k < g.sn
    · have hlt' : (k : Int) < g.sn := by omega
      have hmeas : g.sn - (k + 1) < g.sn - k := by omega
      have hi := fun W => run_indexAt_row (w := W) (cap := a.sc) Tryz.underlying22 size_seam (I1.out.at'.s.plain (by omega)) hlt
      obtain ⟨g0, g1, g2, g3⟩ := I1.out.at'.seams hlt
      have al := (Below.refl wr.heap.size wr).alloc (Nat.le_refl _) (.cells #[.int .i64 (g.fm k), .int .i64 (g.dr k), .int .i64 (g.fl k), .int .i64 (g.po k)] 41)
      have I2 := Lib.hid (I1.out.grow al)
      obtain ⟨q0, q1, q2, q3, q4, q5, q6⟩ := I2.out.cells
      have hqn := OK.out.hp.hqn
      have b0 : inB (g.fm k : Int) 1 60 = true := inB_true (by have := OK.out.hfm k hlt; omega)
      have b1 : inB (g.dr k : Int) 0 24 = true := inB_true (by have := OK.out.hdr k hlt; omega)
      have b2 : inB (g.fl k : Int) 0 24 = true := inB_true (by have := OK.out.hfl k hlt; omega)
      have b3 := pot_in (OK.out.hpo k hlt) hqn
      have HW := Lib.hid (succ64 (show k < 100 by have := OK.out.hsn; omega))
      clear al hqn
      go_wp2_with (first
        | (go_at_call 29; refine (Ga.within_any _ _ _ _).mono ?_; rintro e w' ⟨rfl, rfl⟩)
        | (go_at_call 25; ((with_reducible refine (Ga.ask_true _ _).mono ?_); rintro e w' ⟨rfl, rfl⟩)))
      rw [HW.out]
      exact ⟨⟨k + 1, hlt, rfl, I2.out⟩, hmeas⟩
    · have hlt' : ¬ (k : Int) < g.sn := by omega
      clear hlt hk
      obtain ⟨q0, q1, q2, q3, q4, q5, q6⟩ := I1.out.cells
      go_wp2_with fail
      clear q0 q1 q2 q3 q4 q5 q6
      go_loopw [76] (fun i W => ∃ k : Nat, k ≤ g.cn ∧ i = .int .i64 k ∧ OI g a w W) (fun i _ => g.cn - (intOf i).toNat)
      case atStart => exact ⟨0, Nat.zero_le _, rfl, I1.out⟩
      case round =>
        clear I1 hlt'
        obtain ⟨k, hk, rfl, hI⟩ := hrel
        have I1 := Lib.hid hI
        clear hI
        by_cases hlt : k < g.cn
        · have hlt' : (k : Int) < g.cn := by omega
          have hmeas : g.cn - (k + 1) < g.cn - k := by omega
          have hi := fun W => run_indexAt_row (w := W) (cap := a.cc) Tryz.underlying23 size_crew (I1.out.at'.c.plain (by omega)) hlt
          obtain ⟨g0, g1, g2⟩ := I1.out.at'.crews hlt
          have al := (Below.refl wr.heap.size wr).alloc (Nat.le_refl _) (.cells #[.int .i64 (g.lo k), .int .i64 (g.hi k), .int .i64 (g.se k)] 63)
          have I2 := Lib.hid (I1.out.grow al)
          have X2 := Lib.hid (show BoxAt (wr.alloc (.cells #[.int .i64 (g.lo k), .int .i64 (g.hi k), .int .i64 (g.se k)] 63)) wr.heap.size #[.int .i64 (g.lo k), .int .i64 (g.hi k), .int .i64 (g.se k)] 63 from heap_alloc_new _ _)
          have hlo := OK.out.hlo k hlt
          have d1 : (1 : Int) ≤ (g.lo k : Int) := by omega
          have d2 : (g.lo k : Int) ≤ (g.hi k : Int) := by omega
          have d3 : (g.hi k : Int) ≤ 12 := by omega
          have b3 := set_in (OK.out.hse k hlt) OK.out.hsn
          have b4 := set_in' (OK.out.hse k hlt) OK.out.hsn
          have HW := Lib.hid (succ64 (show k < 100 by have := OK.out.hcn; omega))
          go_upto_region 11 with (fail)
          clear al g0 g1 g2 hi I1 hlo
          generalize World.alloc wr _ = w2 at *
          generalize wr.heap.size = c2 at *
          have x0 := cellAt X2.out 0
          have x1 := cellAt X2.out 1
          have x2 := cellAt X2.out 2
          have q0 := I2.out.cells.1
          simp only [List.getElem?_toArray, List.getElem?_cons_zero, List.getElem?_cons_succ] at x0 x1 x2
          go_quiet (first
            | (go_at_call 29; exact Calls.quiet_of_same ((Ga.within_any _ _ _ _).mono fun _ _ h => ⟨h.1, h.2.symm⟩))
            | (go_at_call 25; (try (first | rw [b3] | rw [b4])); with_reducible exact Calls.quiet_of_same ((Ga.ask_true _ _).mono fun _ _ h => ⟨h.1, h.2.symm⟩)))
          have I3 := Lib.hid (I2.out.grow (below_drewN (Below.refl w2.heap.size w2) nq))
          clear x0 x1 x2 q0 I2 X2 d1 d2 d3 b3 b4
          generalize World.drewN w2 nq = w3 at *
          go_wp2_with fail
          rw [HW.out]
          exact ⟨⟨k + 1, hlt, rfl, I3.out⟩, hmeas⟩
        · have hlt' : ¬ (k : Int) < g.cn := by omega
          clear hlt hk
          obtain ⟨q0, q1, q2, q3, q4, q5, q6⟩ := I1.out.cells
          go_upto_region 14 with (fail)
          have al := (Below.refl wr.heap.size wr).alloc (Nat.le_refl _) (.cells (g.boxV a (.slice none 0 0)) 77)
          have I3 := Lib.hid (I1.out.grow al)
          have X3 := Lib.hid (show BoxAt (wr.alloc (.cells (g.boxV a (.slice none 0 0)) 77)) wr.heap.size (g.boxV a (.slice none 0 0)) 77 from heap_alloc_new _ _)
          have HB := Lib.hid (show w.heap.size < wr.heap.size from lt_of_heap I1.out.box)
          clear al q0 q1 q2 q3 q4 q5 q6 I1
          unfold GN.boxV at I3
          obtain ⟨w3, hw3⟩ : ∃ w3, wr.alloc (.cells (g.boxV a (.slice none 0 0)) 77) = w3 := ⟨_, rfl⟩
          rw [hw3] at X3
          unfold GN.boxV at hw3
          rw [hw3] at I3 ⊢
          clear hw3
          generalize wr.heap.size = b at *
          have C2 := Lib.hid (CL.out b (.slice none 0 0) w3 I3.out.bel X3.out)
          have hcfb := CF.out b
          go_upto_region 15 with (first
            | (refine C2.out.mono ?_; rintro e w4 ⟨rfl, hb4⟩)
            | (go_at_call 25; ((with_reducible refine (Ga.ask_true _ _).mono ?_); rintro e w' ⟨rfl, rfl⟩)))
          have I4 := Lib.hid (I3.out.grow hb4)
          have X4 := Lib.hid (X3.out.grow hb4)
          clear I3 X3 hb4 C2 hcfb CL CF
          obtain ⟨q0, q1, q2, q3, q4, q5, q6⟩ := I4.out.cells
          have C3 := Lib.hid (K2.out _ I4.out.at')
          have C4 := Lib.hid (show Calls Tryz.prog 52 #[.agg #[.int .i64 g.p.H, .int .i64 g.p.fr, .int .i64 g.p.pe, .slice a.fa g.p.fn a.fc, .slice a.qa g.p.qn a.qc]] w4 fun e w' => ∃ (bn : Int) (pa : Option Addr) (pn pc : Nat) (be : Int), e = .returned (.tuple #[.int .i64 bn, .slice pa pn pc, .int .i64 be]) ∧ Below w4.heap.size w4 w' ∧ BestOut g w4.heap.size w'.heap.size pa pn be w' from C3.out.mono fun e w' h => best_out h)
          clear C3 K2
          go_upto_region 16 with (go_at_call 52; refine C4.out.mono ?_; rintro e w5 ⟨bn, pa, pn, pc, be, rfl, hb5, ho5⟩)
          have R5 := Lib.hid (show RI g a w w4.heap.size b w5.heap.size pa pn be (.slice none 0 0) 0 w5 from ⟨I4.out.grow hb5, X4.out.grow hb5, ho5, ⟨rfl, .inl ⟨rfl, rfl⟩⟩, Nat.le_refl _⟩)
          have HB4 := Lib.hid (show b < w4.heap.size from lt_of_heap X4.out)
          have HB5 := Lib.hid (show w4.heap.size ≤ w5.heap.size from hb5.size)
          clear q0 q1 q2 q3 q4 q5 q6 I4 X4 C4 hb5 ho5
          generalize w4.heap.size = lo at *
          generalize w5.heap.size = B0 at *
          obtain ⟨q0, q1, q2, q3, q4, q5, q6⟩ := R5.out.oi.cells
          go_wp2_with fail
          clear q0 q1 q2 q3 q4 q5 q6
          go_loopw [128] (fun i W => ∃ (k : Nat) (v : Value), k ≤ g.sn ∧ i = .int .i64 k ∧ RI g a w lo b B0 pa pn be v k W) (fun i _ => g.sn - (intOf i).toNat)
          case atStart => exact ⟨0, _, Nat.zero_le _, rfl, R5.out⟩
          case round =>
            clear R5 hlt'
            obtain ⟨k, v, hk, rfl, hI⟩ := hrel
            have R1 := Lib.hid hI
            clear hI
            by_cases hlt : k < g.sn
            · have hlt' : (k : Int) < g.sn := by omega
              have hmeas : g.sn - (k + 1) < g.sn - k := by omega
              have HW := Lib.hid (succ64 (show k < 100 by have := OK.out.hsn; omega))
              have hi := fun W => run_indexAt_row (w := W) (cap := a.sc) Tryz.underlying22 size_seam (R1.out.oi.at'.s.plain (by omega)) hlt
              obtain ⟨g0, g1, g2, g3⟩ := R1.out.oi.at'.seams hlt
              have al := (Below.refl wr.heap.size wr).alloc (Nat.le_refl _) (.cells #[.int .i64 (g.fm k), .int .i64 (g.dr k), .int .i64 (g.fl k), .int .i64 (g.po k)] 41)
              have R2 := Lib.hid (R1.out.grow al)
              have X2 := Lib.hid (show BoxAt (wr.alloc (.cells #[.int .i64 (g.fm k), .int .i64 (g.dr k), .int .i64 (g.fl k), .int .i64 (g.po k)] 41)) wr.heap.size #[.int .i64 (g.fm k), .int .i64 (g.dr k), .int .i64 (g.fl k), .int .i64 (g.po k)] 41 from heap_alloc_new _ _)
              go_upto_region 19 with (fail)
              clear al g0 g1 g2 g3 hi R1
              generalize World.alloc wr _ = w2 at *
              generalize wr.heap.size = c2 at *
              have x1 := cellAt X2.out 1
              have x3 := cellAt X2.out 3
              simp only [List.getElem?_toArray, List.getElem?_cons_zero, List.getElem?_cons_succ] at x1 x3
              go_upto_if 136 with (fail)
              go_cut [16, 17, 18, 19] from 136 to 158 (fun v16 _ _ _ W => v16 = .int .i64 (g.rdy k) ∧ RI g a w lo b B0 pa pn be v k W)
              case first =>
                have HR := Lib.hid (show g.rdy k = if g.po k < 0 then g.dr k else max (g.dr k) (g.hotN (g.po k).toNat) from rfl)
                by_cases hp : 0 ≤ g.po k
                · have hp' : ¬ g.po k < 0 := by omega
                  have HP := Lib.hid (OK.out.hpo k hlt)
                  cases hE : g.p.end' g.p.qn Mk.start with
                  | none =>
                    have hbe : be = 4 := by have := R2.out.bo; unfold BestOut at this; rw [hE] at this; exact this
                    have HR2 := Lib.hid (show g.rdy k = max (g.dr k) 10000 from by rw [HR.out, if_neg hp']; unfold GN.hotN; rw [hE])
                    subst hbe
                    clear hE hp' HR
                    have C5 := Lib.hid (later_any (some ⟨w2.heap.size, 0, none⟩) 2 (g.dr k) 10000 (w2.alloc (.cells #[.int .i64 (g.dr k), .int .i64 10000] 3)) (twoI_lit (show BoxAt _ _ _ 3 from heap_alloc_new w2 _)))
                    have R3 := Lib.hid (R2.out.grow ((Below.refl w2.heap.size w2).alloc (Nat.le_refl _) (.cells #[.int .i64 (g.dr k), .int .i64 10000] 3)))
                    go_wp2_with (go_at_call 55; refine C5.out.mono ?_; rintro e w3 ⟨rfl, rfl⟩)
                    go_meet
                    exact ⟨by rw [HR2.out]; simp only [Value.int.injEq, true_and]; omega, R3.out⟩
                  | some n =>
                    have ho := R2.out.bo
                    unfold BestOut at ho
                    rw [hE] at ho
                    obtain ⟨hbe, hpn, hrow, -⟩ := ho
                    subst hbe hpn
                    obtain ⟨q, hq⟩ : ∃ q : Nat, g.po k = (q : Int) := ⟨(g.po k).toNat, by omega⟩
                    have hqn : q < g.p.qn := by have := HP.out; omega
                    obtain ⟨y, m', hy, -, hmp, hst⟩ := (best_at OK.out.hp hE).2 q hqn
                    obtain ⟨-, hyh, -, hhot, -, -⟩ := step_hot hst
                    rw [hmp] at hhot
                    have HR2 := Lib.hid (show g.rdy k = max (g.dr k) (g.p.hot q y.h (g.p.fr ||| g.p.pe)) from by
                      rw [HR.out, if_neg hp', hq, Int.toNat_natCast]
                      unfold GN.hotN
                      rw [hE]
                      dsimp only
                      rw [hy])
                    have HH := Lib.hid (show g.p.hot q y.h (g.p.fr ||| g.p.pe) ≤ g.p.H from Nat.le_trans hhot (OK.out.hp.hbt q hqn))
                    have hcell := fun W (h : BestOut g lo B0 pa g.p.qn 0 W) => (show W.cell? ⟨blk pa, ofs pa + q * 2 + 1, none⟩ = some (.int .i64 y.h) from by
                      unfold BestOut at h
                      rw [hE] at h
                      rw [h.2.2.1.cells q hqn 1 (by omega)]
                      simp [pC, hy])
                    have HC := Lib.hid hcell
                    have hi := fun W => run_indexAt_row (w := W) (cap := pc) Tryz.underlying113 size_place (hrow.plain (by omega)) hqn
                    have C6 := Lib.hid (fun W (h : g.At a W) => hot_ok g.p OK.out.hp a.fa a.qa a.fc a.qc q y.h W h.p hqn hyh HH.out)
                    unfold PN.cs at C6
                    rw [hq] at x3 X2 hp hp' ⊢
                    have HQ := Lib.hid hq
                    clear hE hp' HR HP hrow hy hmp hst hhot hcell hq
                    have hq0 : (0 : Int) ≤ (q : Int) := by omega
                    go_upto_region 23 with (fail)
                    have T2 := Lib.hid (show RT g a w lo b B0 pa g.p.qn v k c2 q w2 from ⟨R2.out, X2.out⟩)
                    have HT := Lib.hid (fun W (h : RT g a w lo b B0 pa g.p.qn v k c2 q W) => (⟨⟨h.r.oi.cells.2.2.1, h.r.oi.cells.2.2.2.1, h.r.oi.cells.2.2.2.2.1, h.r.oi.cells.2.2.2.2.2.1, h.r.oi.cells.2.2.2.2.2.2⟩, cellAt h.x 3, HC.out W h.r.bo⟩ : (W.cell? ⟨w.heap.size, 2, none⟩ = some (.int .i64 g.p.H) ∧ W.cell? ⟨w.heap.size, 3, none⟩ = some (.int .i64 g.p.fr) ∧ W.cell? ⟨w.heap.size, 4, none⟩ = some (.int .i64 g.p.pe) ∧ W.cell? ⟨w.heap.size, 5, none⟩ = some (.slice a.fa g.p.fn a.fc) ∧ W.cell? ⟨w.heap.size, 6, none⟩ = some (.slice a.qa g.p.qn a.qc)) ∧ W.cell? ⟨c2, 3, none⟩ = some (.int .i64 q) ∧ W.cell? ⟨blk pa, ofs pa + q * 2 + 1, none⟩ = some (.int .i64 y.h)))
                    have BA := Lib.hid (((Below.refl w2.heap.size w2).alloc (Nat.le_refl _) (.cells #[.int .i64 0, .int .i64 0] 50)).drew)
                    have XA := Lib.hid (show BoxAt ((w2.alloc (.cells #[.int .i64 0, .int .i64 0] 50)).drew) w2.heap.size #[.int .i64 0, .int .i64 0] 50 from heap_alloc_new w2 _)
                    have BB := BA
                    have BD := Lib.hid (Below.drew (Below.refl w2.heap.size w2))
                    clear R2 X2 x1 x3 HC
                    go_region_held3 (fun w' => (w'.cell? ⟨w.heap.size, 2, none⟩ = some (.int .i64 g.p.H) ∧ w'.cell? ⟨w.heap.size, 3, none⟩ = some (.int .i64 g.p.fr) ∧ w'.cell? ⟨w.heap.size, 4, none⟩ = some (.int .i64 g.p.pe) ∧ w'.cell? ⟨w.heap.size, 5, none⟩ = some (.slice a.fa g.p.fn a.fc) ∧ w'.cell? ⟨w.heap.size, 6, none⟩ = some (.slice a.qa g.p.qn a.qc)) ∧ w'.cell? ⟨c2, 3, none⟩ = some (.int .i64 q) ∧ w'.cell? ⟨blk pa, ofs pa + q * 2 + 1, none⟩ = some (.int .i64 y.h))
                      (first
                        | with_reducible exact HT.out _ (T2.out.grow BD.out)
                        | with_reducible exact HT.out _ (T2.out.grow BA.out)
                        | with_reducible exact HT.out _ ((T2.out.grow BD.out).grow hb4)
                        | with_reducible exact HT.out _ ((T2.out.grow BA.out).grow hb4)
                        | with_reducible exact HT.out _ (((T2.out.grow BD.out).grow hb4).grow ((Below.refl w4.heap.size w4).alloc (Nat.le_refl _) _))
                        | with_reducible exact HT.out _ (T2.out.grow ((BB.out.next hb4).setCell (p := ⟨w2.heap.size, 0, none⟩) (Nat.le_refl _) _ |>.setCell (p := ⟨w2.heap.size, 1, none⟩) (Nat.le_refl _) _))
                        | (trace_state; fail))
                      (first
                        | (go_at_call 54; (with_reducible refine (C6.out _ (T2.out.grow BD.out).r.oi.at').mono ?_); rintro e w4 ⟨rfl, hb4⟩)
                        | (go_at_call 54; (with_reducible refine (C6.out _ (T2.out.grow BA.out).r.oi.at').mono ?_); rintro e w4 ⟨rfl, hb4⟩; have s0 := cellAt (XA.out.grow hb4) 0; have s1 := cellAt (XA.out.grow hb4) 1; have f0 := freeAt (XA.out.grow hb4) 0; have f1 := freeAt (XA.out.grow hb4) 1; simp only [List.getElem?_toArray, List.getElem?_cons_zero, List.getElem?_cons_succ] at s0 s1))
                    · have TT := Lib.hid (((T2.out.grow BD.out).grow hb4).grow ((Below.refl w4.heap.size w4).alloc (Nat.le_refl _) (.cells #[.int .i64 (g.p.hot q y.h g.p.fr), .int .i64 (g.p.hot q y.h (g.p.fr ||| g.p.pe))] 50)))
                      have XX := Lib.hid (show BoxAt (w4.alloc (.cells #[.int .i64 (g.p.hot q y.h g.p.fr), .int .i64 (g.p.hot q y.h (g.p.fr ||| g.p.pe))] 50)) w4.heap.size #[.int .i64 (g.p.hot q y.h g.p.fr), .int .i64 (g.p.hot q y.h (g.p.fr ||| g.p.pe))] 50 from heap_alloc_new w4 _)
                      generalize World.alloc w4 _ = w5 at *
                      generalize w4.heap.size = x5 at *
                      have t1 := cellAt XX.out 1
                      simp only [List.getElem?_toArray, List.getElem?_cons_zero, List.getElem?_cons_succ] at t1
                      have C5 := Lib.hid (later_any (some ⟨w5.heap.size, 0, none⟩) 2 (g.dr k) (g.p.hot q y.h (g.p.fr ||| g.p.pe)) (w5.alloc (.cells #[.int .i64 (g.dr k), .int .i64 (g.p.hot q y.h (g.p.fr ||| g.p.pe))] 3)) (twoI_lit (show BoxAt _ _ _ 3 from heap_alloc_new w5 _)))
                      have R6 := Lib.hid (TT.out.r.grow ((Below.refl w5.heap.size w5).alloc (Nat.le_refl _) (.cells #[.int .i64 (g.dr k), .int .i64 (g.p.hot q y.h (g.p.fr ||| g.p.pe))] 3)))
                      clear T2 TT XX HT BA XA BB BD hb4 C6
                      go_wp2_with (go_at_call 55; refine C5.out.mono ?_; rintro e w3 ⟨rfl, rfl⟩)
                      rw [← HQ.out]
                      go_meet
                      exact ⟨by rw [HR2.out, ← max_nat], R6.out⟩
                    · have TT := Lib.hid (T2.out.grow (((BB.out.next hb4).setCell (p := ⟨w2.heap.size, 0, none⟩) (Nat.le_refl _) (.int .i64 (g.p.hot q y.h g.p.fr))).setCell (p := ⟨w2.heap.size, 1, none⟩) (Nat.le_refl _) (.int .i64 (g.p.hot q y.h (g.p.fr ||| g.p.pe)))))
                      have XX := Lib.hid (((XA.out.grow hb4).store 0 (.int .i64 (g.p.hot q y.h g.p.fr))).store 1 (.int .i64 (g.p.hot q y.h (g.p.fr ||| g.p.pe))))
                      simp only [List.setIfInBounds_toArray, List.set_cons_zero, List.set_cons_succ] at XX
                      clear s0 s1 f0 f1
                      generalize World.setCell (World.setCell w4 _ _) _ _ = w5 at *
                      generalize w2.heap.size = x5 at *
                      have t1 := cellAt XX.out 1
                      simp only [List.getElem?_toArray, List.getElem?_cons_zero, List.getElem?_cons_succ] at t1
                      have C5 := Lib.hid (later_any (some ⟨w5.heap.size, 0, none⟩) 2 (g.dr k) (g.p.hot q y.h (g.p.fr ||| g.p.pe)) (w5.alloc (.cells #[.int .i64 (g.dr k), .int .i64 (g.p.hot q y.h (g.p.fr ||| g.p.pe))] 3)) (twoI_lit (show BoxAt _ _ _ 3 from heap_alloc_new w5 _)))
                      have R6 := Lib.hid (TT.out.r.grow ((Below.refl w5.heap.size w5).alloc (Nat.le_refl _) (.cells #[.int .i64 (g.dr k), .int .i64 (g.p.hot q y.h (g.p.fr ||| g.p.pe))] 3)))
                      clear T2 TT XX HT BA XA BB BD hb4 C6
                      go_wp2_with (go_at_call 55; refine C5.out.mono ?_; rintro e w3 ⟨rfl, rfl⟩)
                      rw [← HQ.out]
                      go_meet
                      exact ⟨by rw [HR2.out, ← max_nat], R6.out⟩
                · have hp' : g.po k < 0 := by omega
                  have HR2 := Lib.hid (show g.rdy k = g.dr k from by rw [HR.out, if_pos hp'])
                  clear HR
                  go_wp2_with fail
                  go_meet
                  exact ⟨by rw [HR2.out], R2.out⟩
              case rest =>
                obtain ⟨rfl, hR⟩ := hcut
                have R3 := Lib.hid hR
                have hvb : v.ownBlock ≠ some b := fun e => by have := (own_lt hR.own b e).1; have := HB4.out; have := HB5.out; omega
                clear hR R2 X2 x1 x3
                have y7 := cellAt R3.out.gb 7
                have f7 := freeAt R3.out.gb 7
                simp only [GN.boxV, List.getElem?_toArray, List.getElem?_cons_zero, List.getElem?_cons_succ] at y7
                obtain ⟨i0, hi0, hz0, hz1, hz2⟩ := info_parts info_int
                have HSN := Lib.hid (show k ≤ 5 from by have := OK.out.hsn; omega)
                have al := (Below.refl wc.heap.size wc).alloc (Nat.le_refl _) (.cells #[.int .i64 (g.rdy k)] 3)
                have R4 := Lib.hid (R3.out.grow al)
                have X4 := Lib.hid (show BoxAt (wc.alloc (.cells #[.int .i64 (g.rdy k)] 3)) wc.heap.size #[.int .i64 (g.rdy k)] 3 from heap_alloc_new wc _)
                have HL := Lib.hid (show rowVals (fun i => (g.rdy i : Nat)) k ++ [.int .i64 (g.rdy k)] = rowVals (fun i => ((g.rdy i : Nat) : Int)) (k + 1) from by simp [rowVals, List.range_succ])
                clear al
                go_wp2_with (at_builtin; refine wpList_append_own _ rfl _ _ 24 rfl B0 3 i0 _ 1 8 Tryz.underlying24 hi0 hz0 hz1 hz2 rfl (by decide) _ k _ rfl R4.out.own ⟨wc.heap.size, 0, none⟩ 1 1 [.int .i64 (g.rdy k)] rfl rfl ?c1 ?c2 ?c3 ?c4 ?c5 ?_)
                case c1 =>
                  intro j u hj
                  match j, hj with
                  | 0, hj => cases hj; exact cellAt X4.out 0
                  | j + 1, hj => cases hj
                case c2 => intro u hu; rw [List.mem_singleton] at hu; rw [hu]; rfl
                case c3 => have := HSN.out; unfold maxLen; omega
                case c4 => have := HSN.out; omega
                case c5 => exact R4.out.sz
                intro v' w5 hown' hgrow _
                rw [HL.out] at hown'
                obtain ⟨gg, gcap, rfl⟩ : ∃ gg cap, v' = .slice (some ⟨gg, 0, none⟩) (k + 1) cap := by
                  obtain ⟨-, h | ⟨gg, cap, cur, h, -⟩⟩ := hown'
                  · exact absurd h.2 (Nat.succ_ne_zero k)
                  · exact ⟨gg, cap, h⟩
                obtain ⟨⟨z7, e7⟩, hR6⟩ := R4.out.put H0.out HB.out HB4.out HB5.out hgrow hown'
                have R6 := Lib.hid hR6
                clear hR6 hown' hgrow y7 f7 R3 R4 X4 hi0 hz0 hz1 hz2 HL
                go_wp2_with fail
                rw [HW.out]
                exact ⟨⟨k + 1, _, hlt, rfl, R6.out⟩, hmeas⟩
            · have hlt' : ¬ (k : Int) < g.sn := by omega
              obtain rfl : k = g.sn := by omega
              obtain ⟨r, rc, rfl, hrow, -⟩ := own_row (cell := fun i _ => .int .i64 (g.rdy i : Nat)) R1.out.own (by have := OK.out.hsn; unfold maxLen; omega) (fun i hi j hj => by
                obtain rfl : j = 0 := by omega
                rw [Nat.mul_one, Nat.add_zero]
                exact rowVals_get _ _ _ hi)
              have RR := Lib.hid hrow
              clear hrow
              go_wp2_with fail
              go_ret
              exact ⟨b, rfl, Nat.le_of_lt HB.out, ⟨r, rc, R1.out.gb, R1.out.oi.at', RR.out⟩, R1.out.oi.bel⟩
end
end Go.Proofs.YtikeihnhkiipgaaGreat
