/-
  --DROP
  Walks: opening wages: refused unless they are valid, and all else is.
  Walks: what else the exported functions ask of wages (the closures).
  Walks: what else 'Whose' asks of wages.
  Walks: what turns a refusal into its error (a deferred call that recovers).
-/
import Derived.Test.YtikeihnhkiipgaaGreatWG2
import Derived.Defers
import Derived.Recover
namespace Go.Proofs.YtikeihnhkiipgaaGreat.Wa
open Go.RowKit

def seamOk (s : Sm) : Bool := inB s.fat 0 20 && inB s.rate 0 50
def tickOk1 (cr : Int) (sn : Nat) (t : Tk) : Bool := inB t.crew 0 (cr - 1) && inB t.seam 0 (sn - 1) && spanB t.dl t.dh 40
def tickOk2 (S : Nat → Sm) (t : Tk) : Bool := spanB t.fl t.fh (S t.seam.toNat).fat && spanB t.tl t.th (S t.seam.toNat).fat

theorem valid_of {cr : Int} {sn tn : Nat} {S : Nat → Sm} {T : Nat → Tk} (h1 : inB cr 1 4 = true) (h2 : sn ≤ 3) (h3 : tn ≤ 6) (hs : ∀ j, j < sn → seamOk (S j) = true) (ht : ∀ i, i < tn → tickOk1 cr sn (T i) = true ∧ tickOk2 S (T i) = true) : Valid cr sn tn S T := by
  rw [inB_iff] at h1
  refine ⟨h1.1, h1.2, h2, h3, fun j hj => ?_, fun j hj => ?_, fun i hi => ?_, fun i hi => ?_, fun i hi => ?_, fun i hi => ?_⟩
  · have := hs j hj; simp only [seamOk, Bool.and_eq_true, inB_iff] at this; exact this.1
  · have := hs j hj; simp only [seamOk, Bool.and_eq_true, inB_iff] at this; exact this.2
  · have := (ht i hi).1; simp only [tickOk1, Bool.and_eq_true, inB_iff] at this; omega
  · have := (ht i hi).1; simp only [tickOk1, Bool.and_eq_true] at this; exact this.2
  · have := (ht i hi).2; simp only [tickOk2, Bool.and_eq_true] at this; exact this.1
  · have := (ht i hi).2; simp only [tickOk2, Bool.and_eq_true] at this; exact this.2
theorem Valid.seamOk {cr : Int} {sn tn : Nat} {S : Nat → Sm} {T : Nat → Tk} (h : Valid cr sn tn S T) {j : Nat} (hj : j < sn) : seamOk (S j) = true := by
  simp only [Wa.seamOk, Bool.and_eq_true, inB_iff]; exact ⟨h.fat j hj, h.rate j hj⟩
theorem Valid.tick1 {cr : Int} {sn tn : Nat} {S : Nat → Sm} {T : Nat → Tk} (h : Valid cr sn tn S T) {i : Nat} (hi : i < tn) : tickOk1 cr sn (T i) = true := by
  have := h.tk i hi
  simp only [tickOk1, Bool.and_eq_true, inB_iff]; exact ⟨⟨by omega, by omega⟩, h.td i hi⟩
theorem Valid.tick2 {cr : Int} {sn tn : Nat} {S : Nat → Sm} {T : Nat → Tk} (h : Valid cr sn tn S T) {i : Nat} (hi : i < tn) : tickOk2 S (T i) = true := by
  simp only [tickOk2, Bool.and_eq_true]; exact ⟨h.fr i hi, h.to i hi⟩

def err (x : Int) : Ending := .panicked [{ v := .iface 141 (.int .i64 x), recovered := false }]
/-- What 'open' does: b is what the caller asks besides. -/
def OpenPost (w : World) (V : Prop) (b : Bool) (x : Value) (e : Ending) (w' : World) : Prop :=
  Below w.heap.size w w' ∧ ((V ∧ b = true ∧ e = .returned x) ∨ (V ∧ b = false ∧ e = err 2) ∨ (¬ V ∧ e = err 1))

structure OpenI (w : World) (x : Array Value) (wr : World) : Prop where
  box : BoxAt wr w.heap.size x 39
  res : BoxAt wr (w.heap.size + 1) #[.int .i64 0, .slice none 0 0, .slice none 0 0] 97
  bel : Below w.heap.size w wr
theorem OpenI.grow {w : World} {x : Array Value} {wr wr' : World} (h : OpenI w x wr) (hb : Below wr.heap.size wr wr') : OpenI w x wr' :=
  ⟨h.box.grow hb, h.res.grow hb, h.bel.trans (hb.mono (Nat.le_of_lt (lt_of_heap h.box)))⟩

def OpenR1 (w : World) (x : Array Value) (S : Nat → Sm) (sn : Nat) (i : Value) (wr : World) : Prop :=
  ∃ k : Nat, k ≤ sn ∧ i = .int .i64 k ∧ (∀ j, j < k → seamOk (S j) = true) ∧ OpenI w x wr

/-- In the second loop: beside it, the ticket's box. -/
structure OI3 (w : World) (cr : Int) (sa ta : Option Addr) (sn sc tn tc : Nat) (S : Nat → Sm) (t : Tk) (bx tb : Nat) (wr : World) : Prop where
  inv : OpenI w #[.int .i64 cr, .slice sa sn sc, .slice ta tn tc] wr
  bx : BoxAt wr bx #[.int .i64 cr, .slice sa sn sc, .slice ta tn tc] 97
  tb : BoxAt wr tb #[.int .i64 t.crew, .int .i64 t.seam, .int .i64 t.fl, .int .i64 t.fh, .int .i64 t.tl, .int .i64 t.th, .int .i64 t.dl, .int .i64 t.dh] 53
  sm : SeamsAt wr sa sn S
theorem OI3.grow {w : World} {cr : Int} {sa ta : Option Addr} {sn sc tn tc : Nat} {S : Nat → Sm} {t : Tk} {bx tb : Nat} {wr wr' : World} (h : OI3 w cr sa ta sn sc tn tc S t bx tb wr) (hb : Below wr.heap.size wr wr') : OI3 w cr sa ta sn sc tn tc S t bx tb wr' :=
  ⟨h.inv.grow hb, h.bx.grow hb, h.tb.grow hb, h.sm.grow hb⟩
/-- The cells that the tests read. -/
def OCells (w : World) (cr : Int) (sa ta : Option Addr) (sn sc tn tc : Nat) (t : Tk) (bx tb : Nat) (wr : World) : Prop :=
  wr.cell? ⟨w.heap.size, 1, none⟩ = some (.slice sa sn sc) ∧ wr.cell? ⟨bx, 0, none⟩ = some (.int .i64 cr) ∧ wr.cell? ⟨bx, 1, none⟩ = some (.slice sa sn sc) ∧ wr.cell? ⟨bx, 2, none⟩ = some (.slice ta tn tc) ∧
  wr.cell? ⟨tb, 0, none⟩ = some (.int .i64 t.crew) ∧ wr.cell? ⟨tb, 1, none⟩ = some (.int .i64 t.seam) ∧ wr.cell? ⟨tb, 2, none⟩ = some (.int .i64 t.fl) ∧ wr.cell? ⟨tb, 3, none⟩ = some (.int .i64 t.fh) ∧
  wr.cell? ⟨tb, 4, none⟩ = some (.int .i64 t.tl) ∧ wr.cell? ⟨tb, 5, none⟩ = some (.int .i64 t.th) ∧ wr.cell? ⟨tb, 6, none⟩ = some (.int .i64 t.dl) ∧ wr.cell? ⟨tb, 7, none⟩ = some (.int .i64 t.dh)
theorem OI3.cells {w : World} {cr : Int} {sa ta : Option Addr} {sn sc tn tc : Nat} {S : Nat → Sm} {t : Tk} {bx tb : Nat} {wr : World} (h : OI3 w cr sa ta sn sc tn tc S t bx tb wr) : OCells w cr sa ta sn sc tn tc t bx tb wr :=
  ⟨cellAt h.inv.box 1, cellAt h.bx 0, cellAt h.bx 1, cellAt h.bx 2, cellAt h.tb 0, cellAt h.tb 1, cellAt h.tb 2, cellAt h.tb 3, cellAt h.tb 4, cellAt h.tb 5, cellAt h.tb 6, cellAt h.tb 7⟩
theorem run_indexAt_int {P : Program} {t e : TypeId} {sz : Nat} {w : World} {oa : Option Addr} {n cap : Nat} {k : Int} (ht : P.underlying t = some (.slice e)) (hs : (P.info? e).map (·.size) = some sz) (hoa : oa = some ⟨blk oa, ofs oa, none⟩) (h0 : 0 ≤ k) (h1 : k < n) :
    (Instr.indexAt t (.slice oa n cap) (.int .i64 k)).run P w = .ok (.pointer (some ⟨blk oa, ofs oa + k.toNat * sz, none⟩)) w := by
  have h := run_indexAt_row (w := w) (cap := cap) (k := k.toNat) (n := n) ht hs hoa (by omega)
  rw [Int.toNat_of_nonneg h0] at h
  exact h

def SCells (w : World) (sa : Option Addr) (sn sc : Nat) (fat : Int) (t : Tk) (tb : Nat) (w' : World) : Prop :=
  w'.cell? ⟨w.heap.size, 1, none⟩ = some (.slice sa sn sc) ∧ w'.cell? ⟨tb, 1, none⟩ = some (.int .i64 t.seam) ∧ w'.cell? ⟨tb, 2, none⟩ = some (.int .i64 t.fl) ∧ w'.cell? ⟨tb, 3, none⟩ = some (.int .i64 t.fh) ∧ w'.cell? ⟨tb, 4, none⟩ = some (.int .i64 t.tl) ∧ w'.cell? ⟨tb, 5, none⟩ = some (.int .i64 t.th) ∧ w'.cell? ⟨blk sa, ofs sa + t.seam.toNat * 2, none⟩ = some (.int .i64 fat)
theorem scells {w : World} {cr : Int} {sa ta : Option Addr} {sn sc tn tc : Nat} {S : Nat → Sm} {t : Tk} {bx tb : Nat} {wr : World} (h : OI3 w cr sa ta sn sc tn tc S t bx tb wr) (h0 : 0 ≤ t.seam) (h1 : t.seam < sn) :
    SCells w sa sn sc (S t.seam.toNat).fat t tb wr ∧ OI3 w cr sa ta sn sc tn tc S t bx tb wr := by
  have c := h.cells
  exact ⟨⟨c.1, c.2.2.2.2.2.1, c.2.2.2.2.2.2.1, c.2.2.2.2.2.2.2.1, c.2.2.2.2.2.2.2.2.1, c.2.2.2.2.2.2.2.2.2.1, (h.sm.at (by omega)).1⟩, h⟩

def OpenR2 (w : World) (x : Array Value) (bx : Nat) (S : Nat → Sm) (T : Nat → Tk) (cr : Int) (sn tn : Nat) (i : Value) (wr : World) : Prop :=
  ∃ m : Nat, m ≤ tn ∧ i = .int .i64 m ∧ (∀ j, j < m → tickOk1 cr sn (T j) = true ∧ tickOk2 S (T j) = true) ∧ OpenI w x wr ∧ BoxAt wr bx x 97

set_option maxRecDepth 100000 in
set_option maxHeartbeats 2000000 in
theorem open_any (cr : Int) (sa ta : Option Addr) (sn sc tn tc : Nat) (S : Nat → Sm) (T : Nat → Tk) (w : World) (hS : SeamsAt w sa sn S) (hT : TicketsAt w ta tn T)
    (F : FuncId) (caps : Array Value) (b : Bool) (hcf : ∀ W, (callFunc F (#[.agg #[.int .i64 cr, .slice sa sn sc, .slice ta tn tc]] ++ caps)).run Tryz.prog W = .ok (.enter F (#[.agg #[.int .i64 cr, .slice sa sn sc, .slice ta tn tc]] ++ caps)) W) (hcl : ∀ W, Below w.heap.size w W → Valid cr sn tn S T → Calls Tryz.prog F (#[.agg #[.int .i64 cr, .slice sa sn sc, .slice ta tn tc]] ++ caps) W fun e w' => e = .returned (.bool b) ∧ Below W.heap.size W w') :
    Calls Tryz.prog 34 #[.agg #[.int .i64 cr, .slice sa sn sc, .slice ta tn tc], .func (.func F) #[] caps] w (OpenPost w (Valid cr sn tn S T) b (.agg #[.int .i64 cr, .slice sa sn sc, .slice ta tn tc])) := by
  have HS := Lib.hid hS
  have HT := Lib.hid hT
  have HC := Lib.hid hcl
  clear hS hT hcl
  by_cases hh : inB cr 1 4 = true ∧ sn ≤ 3 ∧ tn ≤ 6
  · obtain ⟨h1, h2, h3⟩ := hh
    have h2' : (sn : Int) ≤ 3 := by omega
    have h3' : (tn : Int) ≤ 6 := by omega
    go_enter Tryz.func34, Tryz.ntmps34
    go_wp2_with (first | (go_at_call 39; refine (within_any _ _ _ _).mono ?_; rintro e w' ⟨rfl, rfl⟩) | (go_at_call 38; ((with_reducible refine (ask_true _ _).mono ?_); rintro e w' ⟨rfl, rfl⟩)))
    generalize hW : World.alloc _ _ = W
    obtain ⟨q0, q1, hz, hB⟩ := blocks2 hW
    clear hW
    have HI := Lib.hid (show OpenI w #[.int .i64 cr, .slice sa sn sc, .slice ta tn tc] W from ⟨q0, q1, hB⟩)
    clear q0 q1 hz hB
    go_loopw [29] (OpenR1 w #[.int .i64 cr, .slice sa sn sc, .slice ta tn tc] S sn) (fun i _ => sn - (intOf i).toNat)
    case atStart => exact ⟨0, Nat.zero_le _, rfl, fun j hj => by omega, HI.out⟩
    case round =>
      clear HI
      obtain ⟨k, hk, rfl, hok, hinv⟩ := hrel
      have HI := Lib.hid hinv
      have HO := Lib.hid hok
      clear hinv hok
      by_cases hlt : k < sn
      · have hi := fun w => run_indexAt_row (w := w) (cap := sc) Tryz.underlying36 size52 (HS.out.plain (by omega)) hlt
        obtain ⟨g0, g1⟩ := (HS.out.grow HI.out.bel).at hlt
        by_cases c1 : inB (S k).fat 0 20 = true
        · by_cases c2 : inB (S k).rate 0 50 = true
          · go_wp2_with (first | (go_at_call 39; refine (within_any _ _ _ _).mono ?_; rintro e w' ⟨rfl, rfl⟩) | (go_at_call 38; ((with_reducible refine (ask_true _ _).mono ?_); rintro e w' ⟨rfl, rfl⟩)))
            refine ⟨⟨k + 1, hlt, by go_num, fun j hj => ?_, HI.out.grow ((Below.refl _ _).alloc (Nat.le_refl _) _)⟩, by simp [intOf]; omega⟩
            by_cases e : j = k
            · rw [e]; simp [seamOk, c1, c2]
            · exact HO.out j (by omega)
          · have c2' : inB (S k).rate 0 50 = false := by simpa using c2
            have hnv := Lib.hid (show ¬ Valid cr sn tn S T from fun h => by have := h.seamOk hlt; simp [seamOk, c2'] at this)
            go_wp2_with (first | (go_at_call 39; refine (within_any _ _ _ _).mono ?_; rintro e w' ⟨rfl, rfl⟩) | (go_at_call 38; ((with_reducible refine (ask_false _ _).mono ?_); rintro e w' ⟨rfl, rfl⟩)))
            exact ⟨rfl, HI.out.bel.alloc (Nat.le_of_lt (lt_of_heap HI.out.box)) _, .inr (.inr ⟨hnv.out, rfl⟩)⟩
        · have c1' : inB (S k).fat 0 20 = false := by simpa using c1
          have hnv := Lib.hid (show ¬ Valid cr sn tn S T from fun h => by have := h.seamOk hlt; simp [seamOk, c1'] at this)
          go_wp2_with (first | (go_at_call 39; refine (within_any _ _ _ _).mono ?_; rintro e w' ⟨rfl, rfl⟩) | (go_at_call 38; ((with_reducible refine (ask_false _ _).mono ?_); rintro e w' ⟨rfl, rfl⟩)))
          exact ⟨rfl, HI.out.bel.alloc (Nat.le_of_lt (lt_of_heap HI.out.box)) _, .inr (.inr ⟨hnv.out, rfl⟩)⟩
      · obtain rfl : k = sn := by omega
        have b0 := cellAt HI.out.box 0
        have b1 := cellAt HI.out.box 1
        have b2 := cellAt HI.out.box 2
        have HI2 := Lib.hid (HI.out.grow ((Below.refl wr.heap.size wr).alloc (Nat.le_refl _) (.cells #[.int .i64 cr, .slice sa k sc, .slice ta tn tc] 97)))
        have e2 := cellAt HI2.out.box 2
        simp only [List.getElem?_toArray, List.getElem?_cons_zero, List.getElem?_cons_succ] at b0 b1 b2 e2
        go_wp2_with fail
        generalize hW2 : World.alloc _ _ = W2
        obtain ⟨q0, hz, hB⟩ := blocks1 hW2
        have HI3 := Lib.hid (HI.out.grow hB)
        have HX := Lib.hid (show BoxAt W2 wr.heap.size #[.int .i64 cr, .slice sa k sc, .slice ta tn tc] 97 from q0)
        clear hW2 q0 hz hB e2 b0 b1 b2 HI2
        obtain ⟨bx, hbx⟩ : ∃ bx, bx = wr.heap.size := ⟨_, rfl⟩
        rw [← hbx] at HX ⊢
        clear hbx
        go_loopw [48] (OpenR2 w #[.int .i64 cr, .slice sa k sc, .slice ta tn tc] bx S T cr k tn) (fun i _ => tn - (intOf i).toNat)
        case atStart => exact ⟨0, Nat.zero_le _, rfl, fun j hj => by omega, HI3.out, HX.out⟩
        case round =>
          clear HI3 HX
          obtain ⟨m, hm, rfl, hok, hinv, hbx⟩ := hrel
          have HI3 := Lib.hid hinv
          have HX := Lib.hid hbx
          have HO2 := Lib.hid hok
          clear hinv hok hbx
          by_cases hlt : m < tn
          · have hi := fun w => run_indexAt_row (w := w) (cap := tc) Tryz.underlying37 size58 (HT.out.plain (by omega)) hlt
            obtain ⟨g0, g1, g2, g3, g4, g5, g6, g7⟩ := (HT.out.grow HI3.out.bel).at hlt
            have hB := (Below.refl wr.heap.size wr).alloc (Nat.le_refl _) (.cells #[.int .i64 (T m).crew, .int .i64 (T m).seam, .int .i64 (T m).fl, .int .i64 (T m).fh, .int .i64 (T m).tl, .int .i64 (T m).th, .int .i64 (T m).dl, .int .i64 (T m).dh] 53)
            have I0 := Lib.hid (show OI3 w cr sa ta k sc tn tc S (T m) bx wr.heap.size (wr.alloc (.cells #[.int .i64 (T m).crew, .int .i64 (T m).seam, .int .i64 (T m).fl, .int .i64 (T m).fh, .int .i64 (T m).tl, .int .i64 (T m).th, .int .i64 (T m).dl, .int .i64 (T m).dh] 53)) from
              ⟨HI3.out.grow hB, HX.out.grow hB, (blocks1 rfl).1, (HS.out.grow HI3.out.bel).grow hB⟩)
            have cr4 := (inB_iff.1 h1)
            have cra : -1000000 ≤ cr := by omega
            have crb : cr ≤ 1000000 := by omega
            have kml : k ≤ maxLen := by unfold maxLen; omega
            clear hB
            obtain ⟨d0, d1, d2, d3, d4, d5, d6, d7, d8, d9, d10, d11⟩ := I0.out.cells
            by_cases c1 : tickOk1 cr k (T m) = true
            · have c1' := c1
              simp only [tickOk1, Bool.and_eq_true] at c1'
              obtain ⟨⟨x1, x2⟩, x3⟩ := c1'
              go_wp2_with (first | (go_at_call 36; refine (isCrew_any _ _ _ _ _ _ _ _ _ cra crb).mono ?_; rintro e w1 ⟨rfl, hb1⟩; have I1 := Lib.hid (I0.out.grow hb1); clear hb1 d0 d1 d2 d3 d4 d5 d6 d7 d8 d9 d10 d11; obtain ⟨d0, d1, d2, d3, d4, d5, d6, d7, d8, d9, d10, d11⟩ := I1.out.cells) | (go_at_call 47; refine (isSeam_any _ _ _ _ _ _ _ _ _ kml).mono ?_; rintro e w2 ⟨rfl, hb1⟩; have I2 := Lib.hid (I1.out.grow hb1); clear hb1 d0 d1 d2 d3 d4 d5 d6 d7 d8 d9 d10 d11; obtain ⟨d0, d1, d2, d3, d4, d5, d6, d7, d8, d9, d10, d11⟩ := I2.out.cells) | (go_at_call 68; refine (isSpan_any _ _ _ _ (by omega)).mono ?_; rintro e w3 ⟨rfl, hb1⟩; have I3 := Lib.hid (I2.out.grow hb1); clear hb1 d0 d1 d2 d3 d4 d5 d6 d7 d8 d9 d10 d11) | (go_at_call 38; ((with_reducible refine (ask_true _ _).mono ?_); rintro e w' ⟨rfl, rfl⟩)))
              have hsm := inB_iff.1 x2
              have J0 := Lib.hid (show SCells w sa k sc (S (T m).seam.toNat).fat (T m) wr.heap.size w3.drew ∧ OI3 w cr sa ta k sc tn tc S (T m) bx wr.heap.size w3.drew from scells (I3.out.grow (Below.drew (Below.refl _ _))) (by omega) (by omega))
              have hix := fun w => run_indexAt_int (w := w) (cap := sc) (k := (T m).seam) (n := k) Tryz.underlying36 size52 (HS.out.plain (by omega)) (by omega) (by omega)
              have hsb1 : (0 : Int) ≤ (T m).seam := hsm.1
              have hsb2 : (T m).seam < (k : Int) := by omega
              have hfat : (S (T m).seam.toNat).fat ≤ 1000000 := by
                have := HO.out (T m).seam.toNat (by omega)
                simp only [seamOk, Bool.and_eq_true, inB_iff] at this
                omega
              clear hsm
              have K3 := Lib.hid J0.out.2
              by_cases c4 : spanB (T m).fl (T m).fh (S (T m).seam.toNat).fat = true
              · by_cases c5 : spanB (T m).tl (T m).th (S (T m).seam.toNat).fat = true
                · go_region_held3 (fun w' => (w'.cell? ⟨w.heap.size, 1, none⟩ = some (.slice sa k sc) ∧ w'.cell? ⟨wr.heap.size, 1, none⟩ = some (.int .i64 (T m).seam) ∧ w'.cell? ⟨wr.heap.size, 2, none⟩ = some (.int .i64 (T m).fl) ∧ w'.cell? ⟨wr.heap.size, 3, none⟩ = some (.int .i64 (T m).fh) ∧ w'.cell? ⟨wr.heap.size, 4, none⟩ = some (.int .i64 (T m).tl) ∧ w'.cell? ⟨wr.heap.size, 5, none⟩ = some (.int .i64 (T m).th) ∧ w'.cell? ⟨blk sa, ofs sa + (T m).seam.toNat * 2, none⟩ = some (.int .i64 (S (T m).seam.toNat).fat)) ∧ OI3 w cr sa ta k sc tn tc S (T m) bx wr.heap.size w')
                    (first | exact J0.out | (go_split_ands; exact scells (OI3.grow (by assumption) hb1) hsb1 hsb2) | (go_split_ands; exact ⟨⟨by assumption, by assumption, by assumption, by assumption, by assumption, by assumption, by assumption⟩, by assumption⟩))
                    (first | (go_at_call 68; refine (isSpan_any _ _ _ _ hfat).mono ?_; rintro e w4 ⟨rfl, hb1⟩) | (go_at_call 38; ((with_reducible refine (ask_true _ _).mono ?_); rintro e w' ⟨rfl, rfl⟩)))
                  obtain ⟨_, J⟩ := ‹_ ∧ OI3 w cr sa ta k sc tn tc S (T m) bx wr.heap.size _›
                  have HJ := Lib.hid J
                  clear J
                  go_wp2_with fail
                  refine ⟨⟨m + 1, hlt, by go_num, fun j hj => ?_, HJ.out.inv, HJ.out.bx⟩, by simp [intOf]; omega⟩
                  by_cases e : j = m
                  · rw [e]; exact ⟨c1, by simp [tickOk2, c4, c5]⟩
                  · exact HO2.out j (by omega)
                · have c5' : spanB (T m).tl (T m).th (S (T m).seam.toNat).fat = false := by simpa using c5
                  have hnv := Lib.hid (show ¬ Valid cr k tn S T from fun h => by have := h.tick2 hlt; simp [tickOk2, c5'] at this)
                  refine wp_region_held_drew (S := (fun w' => SCells w sa k sc (S (T m).seam.toNat).fat (T m) wr.heap.size w' ∧ OI3 w cr sa ta k sc tn tc S (T m) bx wr.heap.size w')) (by kernel_rfl) J0.out (fun hHeld => ?_)
                  refine wpAnyH_take (i := 0) (oi := { dst := some 68, op := Op.fieldAddr 53 (Operand.tmp 9) 2, type := 0, pos := "wage.go:118", after := #[], guard := none }) (v := ?_) rfl (by kernel_rfl) (by kernel_rfl) (by kernel_rfl) (fun _ _ _ h => h) (Or.inl ⟨by rfl, ?_⟩) (by assumption) ?_
                  rotate_left
                  · (intro w9 hSw; (try dsimp only [SCells] at hSw); (go_split_ands; go_simp); (try with_reducible rfl))
                  try simp only [Act.put, List.setIfInBounds_toArray, List.set_cons_zero, List.set_cons_succ]
                  refine wpAnyH_take (i := 1) (oi := { dst := some 69, op := Op.load 50 (Operand.tmp 68), type := 50, pos := "wage.go:118", after := #[{ on := 0, ground := Ground.data }], guard := none }) (v := ?_) rfl (by kernel_rfl) (by kernel_rfl) (by kernel_rfl) (fun _ _ _ h => h) (Or.inl ⟨by rfl, ?_⟩) (by assumption) ?_
                  rotate_left
                  · (intro w9 hSw; (try dsimp only [SCells] at hSw); (go_split_ands; go_simp); (try with_reducible rfl))
                  try simp only [Act.put, List.setIfInBounds_toArray, List.set_cons_zero, List.set_cons_succ]
                  refine wpAnyH_take (i := 2) (oi := { dst := some 70, op := Op.fieldAddr 39 (Operand.tmp 2) 1, type := 0, pos := "wage.go:118", after := #[], guard := none }) (v := ?_) rfl (by kernel_rfl) (by kernel_rfl) (by kernel_rfl) (fun _ _ _ h => h) (Or.inl ⟨by rfl, ?_⟩) (by assumption) ?_
                  rotate_left
                  · (intro w9 hSw; (try dsimp only [SCells] at hSw); (go_split_ands; go_simp); (try with_reducible rfl))
                  try simp only [Act.put, List.setIfInBounds_toArray, List.set_cons_zero, List.set_cons_succ]
                  refine wpAnyH_take (i := 3) (oi := { dst := some 71, op := Op.load 36 (Operand.tmp 70), type := 36, pos := "wage.go:118", after := #[{ on := 2, ground := Ground.data }], guard := none }) (v := ?_) rfl (by kernel_rfl) (by kernel_rfl) (by kernel_rfl) (fun _ _ _ h => h) (Or.inl ⟨by rfl, ?_⟩) (by assumption) ?_
                  rotate_left
                  · (intro w9 hSw; (try dsimp only [SCells] at hSw); (go_split_ands; go_simp); (try with_reducible rfl))
                  try simp only [Act.put, List.setIfInBounds_toArray, List.set_cons_zero, List.set_cons_succ]
                  refine wpAnyH_take (i := 4) (oi := { dst := some 72, op := Op.fieldAddr 53 (Operand.tmp 9) 1, type := 0, pos := "wage.go:118", after := #[], guard := none }) (v := ?_) rfl (by kernel_rfl) (by kernel_rfl) (by kernel_rfl) (fun _ _ _ h => h) (Or.inl ⟨by rfl, ?_⟩) (by assumption) ?_
                  rotate_left
                  · (intro w9 hSw; (try dsimp only [SCells] at hSw); (go_split_ands; go_simp); (try with_reducible rfl))
                  try simp only [Act.put, List.setIfInBounds_toArray, List.set_cons_zero, List.set_cons_succ]
                  refine wpAnyH_take (i := 5) (oi := { dst := some 73, op := Op.load 3 (Operand.tmp 72), type := 3, pos := "wage.go:118", after := #[{ on := 4, ground := Ground.data }], guard := none }) (v := ?_) rfl (by kernel_rfl) (by kernel_rfl) (by kernel_rfl) (fun _ _ _ h => h) (Or.inl ⟨by rfl, ?_⟩) (by assumption) ?_
                  rotate_left
                  · (intro w9 hSw; (try dsimp only [SCells] at hSw); (go_split_ands; go_simp); (try with_reducible rfl))
                  try simp only [Act.put, List.setIfInBounds_toArray, List.set_cons_zero, List.set_cons_succ]
                  refine wpAnyH_take (i := 6) (oi := { dst := some 74, op := Op.indexAddr 36 (Operand.tmp 71) (Operand.tmp 73), type := 0, pos := "wage.go:118", after := #[{ on := 3, ground := Ground.data }, { on := 5, ground := Ground.data }], guard := none }) (v := ?_) rfl (by kernel_rfl) (by kernel_rfl) (by kernel_rfl) (fun _ _ _ h => h) (Or.inl ⟨by rfl, ?_⟩) (by assumption) ?_
                  rotate_left
                  · (intro w9 hSw; (try dsimp only [SCells] at hSw); (go_split_ands; go_simp); (try with_reducible rfl))
                  try simp only [Act.put, List.setIfInBounds_toArray, List.set_cons_zero, List.set_cons_succ]
                  refine wpAnyH_take (i := 7) (oi := { dst := some 75, op := Op.fieldAddr 43 (Operand.tmp 74) 0, type := 0, pos := "wage.go:118", after := #[{ on := 6, ground := Ground.data }], guard := none }) (v := ?_) rfl (by kernel_rfl) (by kernel_rfl) (by kernel_rfl) (fun _ _ _ h => h) (Or.inl ⟨by rfl, ?_⟩) (by assumption) ?_
                  rotate_left
                  · (intro w9 hSw; (try dsimp only [SCells] at hSw); (go_split_ands; go_simp); (try with_reducible rfl))
                  try simp only [Act.put, List.setIfInBounds_toArray, List.set_cons_zero, List.set_cons_succ]
                  refine wpAnyH_take (i := 8) (oi := { dst := some 76, op := Op.load 3 (Operand.tmp 75), type := 3, pos := "wage.go:118", after := #[{ on := 7, ground := Ground.data }], guard := none }) (v := ?_) rfl (by kernel_rfl) (by kernel_rfl) (by kernel_rfl) (fun _ _ _ h => h) (Or.inl ⟨by rfl, ?_⟩) (by assumption) ?_
                  rotate_left
                  · (intro w9 hSw; (try dsimp only [SCells] at hSw); (go_split_ands; go_simp); (try with_reducible rfl))
                  try simp only [Act.put, List.setIfInBounds_toArray, List.set_cons_zero, List.set_cons_succ]
                  refine wpAnyH_ready (rs := [9]) (by kernel_rfl) (by simp) ?_
                  refine AllReadyH.cons (o := { dst := some 77, op := Op.call { callee := Callee.value (Operand.func 68), args := #[Operand.tmp 69, Operand.tmp 76], argTypes := #[50, 3] }, type := 4, pos := "wage.go:118", after := #[{ on := 1, ground := Ground.data }, { on := 8, ground := Ground.data }], guard := none }) rfl (fun K hK => ?_) AllReadyH.nil
                  go_simp
                  go_at_call 68; refine (isSpan_any _ _ _ _ hfat).mono ?_; rintro e w4 ⟨rfl, hb1⟩
                  go_wp2_with fail
                  refine hK.out _ _ ?_ (fun hHeld => ?_)
                  · exact scells (OI3.grow (And.right (by assumption)) hb1) hsb1 hsb2
                  clear hK K
                  try simp only [Act.put, List.setIfInBounds_toArray, List.set_cons_zero, List.set_cons_succ]
                  refine wpAnyH_take (i := 10) (oi := { dst := some 78, op := Op.move (Operand.tmp 77), type := 4, pos := "wage.go:118", after := #[{ on := 9, ground := Ground.data }, { on := 9, ground := Ground.chain }], guard := none }) (v := ?_) rfl (by kernel_rfl) (by kernel_rfl) (by kernel_rfl) (fun _ _ _ h => h) (Or.inl ⟨by rfl, ?_⟩) (by assumption) ?_
                  rotate_left
                  · (intro w9 hSw; (try dsimp only [SCells] at hSw); (go_split_ands; go_simp); (try with_reducible rfl))
                  try simp only [Act.put, List.setIfInBounds_toArray, List.set_cons_zero, List.set_cons_succ]
                  refine wpAnyH_take (i := 11) (oi := { dst := some 79, op := Op.fieldAddr 53 (Operand.tmp 9) 3, type := 0, pos := "wage.go:118", after := #[{ on := 10, ground := Ground.guard }], guard := some (10, true) }) (v := ?_) rfl (by kernel_rfl) (by kernel_rfl) (by kernel_rfl) (fun _ _ _ h => h) (Or.inl ⟨by rfl, ?_⟩) (by assumption) ?_
                  rotate_left
                  · (intro w9 hSw; (try dsimp only [SCells] at hSw); (go_split_ands; go_simp); (try with_reducible rfl))
                  try simp only [Act.put, List.setIfInBounds_toArray, List.set_cons_zero, List.set_cons_succ]
                  refine wpAnyH_take (i := 12) (oi := { dst := some 80, op := Op.load 50 (Operand.tmp 79), type := 50, pos := "wage.go:118", after := #[{ on := 11, ground := Ground.data }, { on := 10, ground := Ground.guard }], guard := some (10, true) }) (v := ?_) rfl (by kernel_rfl) (by kernel_rfl) (by kernel_rfl) (fun _ _ _ h => h) (Or.inl ⟨by rfl, ?_⟩) (by assumption) ?_
                  rotate_left
                  · (intro w9 hSw; (try dsimp only [SCells] at hSw); (go_split_ands; go_simp); (try with_reducible rfl))
                  try simp only [Act.put, List.setIfInBounds_toArray, List.set_cons_zero, List.set_cons_succ]
                  refine wpAnyH_take (i := 13) (oi := { dst := some 81, op := Op.fieldAddr 39 (Operand.tmp 2) 1, type := 0, pos := "wage.go:118", after := #[{ on := 10, ground := Ground.guard }], guard := some (10, true) }) (v := ?_) rfl (by kernel_rfl) (by kernel_rfl) (by kernel_rfl) (fun _ _ _ h => h) (Or.inl ⟨by rfl, ?_⟩) (by assumption) ?_
                  rotate_left
                  · (intro w9 hSw; (try dsimp only [SCells] at hSw); (go_split_ands; go_simp); (try with_reducible rfl))
                  try simp only [Act.put, List.setIfInBounds_toArray, List.set_cons_zero, List.set_cons_succ]
                  refine wpAnyH_take (i := 14) (oi := { dst := some 82, op := Op.load 36 (Operand.tmp 81), type := 36, pos := "wage.go:118", after := #[{ on := 13, ground := Ground.data }, { on := 10, ground := Ground.guard }], guard := some (10, true) }) (v := ?_) rfl (by kernel_rfl) (by kernel_rfl) (by kernel_rfl) (fun _ _ _ h => h) (Or.inl ⟨by rfl, ?_⟩) (by assumption) ?_
                  rotate_left
                  · (intro w9 hSw; (try dsimp only [SCells] at hSw); (go_split_ands; go_simp); (try with_reducible rfl))
                  try simp only [Act.put, List.setIfInBounds_toArray, List.set_cons_zero, List.set_cons_succ]
                  refine wpAnyH_take (i := 15) (oi := { dst := some 83, op := Op.fieldAddr 53 (Operand.tmp 9) 1, type := 0, pos := "wage.go:118", after := #[{ on := 10, ground := Ground.guard }], guard := some (10, true) }) (v := ?_) rfl (by kernel_rfl) (by kernel_rfl) (by kernel_rfl) (fun _ _ _ h => h) (Or.inl ⟨by rfl, ?_⟩) (by assumption) ?_
                  rotate_left
                  · (intro w9 hSw; (try dsimp only [SCells] at hSw); (go_split_ands; go_simp); (try with_reducible rfl))
                  try simp only [Act.put, List.setIfInBounds_toArray, List.set_cons_zero, List.set_cons_succ]
                  refine wpAnyH_take (i := 16) (oi := { dst := some 84, op := Op.load 3 (Operand.tmp 83), type := 3, pos := "wage.go:118", after := #[{ on := 15, ground := Ground.data }, { on := 10, ground := Ground.guard }], guard := some (10, true) }) (v := ?_) rfl (by kernel_rfl) (by kernel_rfl) (by kernel_rfl) (fun _ _ _ h => h) (Or.inl ⟨by rfl, ?_⟩) (by assumption) ?_
                  rotate_left
                  · (intro w9 hSw; (try dsimp only [SCells] at hSw); (go_split_ands; go_simp); (try with_reducible rfl))
                  try simp only [Act.put, List.setIfInBounds_toArray, List.set_cons_zero, List.set_cons_succ]
                  refine wpAnyH_take (i := 17) (oi := { dst := some 85, op := Op.indexAddr 36 (Operand.tmp 82) (Operand.tmp 84), type := 0, pos := "wage.go:118", after := #[{ on := 14, ground := Ground.data }, { on := 16, ground := Ground.data }, { on := 10, ground := Ground.guard }], guard := some (10, true) }) (v := ?_) rfl (by kernel_rfl) (by kernel_rfl) (by kernel_rfl) (fun _ _ _ h => h) (Or.inl ⟨by rfl, ?_⟩) (by assumption) ?_
                  rotate_left
                  · (intro w9 hSw; (try dsimp only [SCells] at hSw); (go_split_ands; go_simp); (try with_reducible rfl))
                  try simp only [Act.put, List.setIfInBounds_toArray, List.set_cons_zero, List.set_cons_succ]
                  refine wpAnyH_take (i := 18) (oi := { dst := some 86, op := Op.fieldAddr 43 (Operand.tmp 85) 0, type := 0, pos := "wage.go:118", after := #[{ on := 17, ground := Ground.data }, { on := 10, ground := Ground.guard }], guard := some (10, true) }) (v := ?_) rfl (by kernel_rfl) (by kernel_rfl) (by kernel_rfl) (fun _ _ _ h => h) (Or.inl ⟨by rfl, ?_⟩) (by assumption) ?_
                  rotate_left
                  · (intro w9 hSw; (try dsimp only [SCells] at hSw); (go_split_ands; go_simp); (try with_reducible rfl))
                  try simp only [Act.put, List.setIfInBounds_toArray, List.set_cons_zero, List.set_cons_succ]
                  refine wpAnyH_take (i := 19) (oi := { dst := some 87, op := Op.load 3 (Operand.tmp 86), type := 3, pos := "wage.go:118", after := #[{ on := 18, ground := Ground.data }, { on := 10, ground := Ground.guard }], guard := some (10, true) }) (v := ?_) rfl (by kernel_rfl) (by kernel_rfl) (by kernel_rfl) (fun _ _ _ h => h) (Or.inl ⟨by rfl, ?_⟩) (by assumption) ?_
                  rotate_left
                  · (intro w9 hSw; (try dsimp only [SCells] at hSw); (go_split_ands; go_simp); (try with_reducible rfl))
                  try simp only [Act.put, List.setIfInBounds_toArray, List.set_cons_zero, List.set_cons_succ]
                  refine wpAnyH_ready (rs := [20]) (by kernel_rfl) (by simp) ?_
                  refine AllReadyH.cons (o := { dst := some 88, op := Op.call { callee := Callee.value (Operand.func 68), args := #[Operand.tmp 80, Operand.tmp 87], argTypes := #[50, 3] }, type := 4, pos := "wage.go:118", after := #[{ on := 12, ground := Ground.data }, { on := 19, ground := Ground.data }, { on := 10, ground := Ground.chain }, { on := 10, ground := Ground.guard }], guard := some (10, true) }) rfl (fun K hK => ?_) AllReadyH.nil
                  go_simp
                  go_at_call 68; refine (isSpan_any _ _ _ _ hfat).mono ?_; rintro e w4 ⟨rfl, hb1⟩
                  go_wp2_with fail
                  refine hK.out _ _ ?_ (fun hHeld => ?_)
                  · exact scells (OI3.grow (And.right (by assumption)) hb1) hsb1 hsb2
                  clear hK K
                  try simp only [Act.put, List.setIfInBounds_toArray, List.set_cons_zero, List.set_cons_succ]
                  refine wpAnyH_take (i := 21) (oi := { dst := some 89, op := Op.pick (Operand.tmp 78) (Operand.tmp 88) (Operand.const (Value.bool false)), type := 4, pos := "wage.go:118", after := #[{ on := 10, ground := Ground.data }, { on := 20, ground := Ground.data }], guard := none }) (v := ?_) rfl (by kernel_rfl) (by kernel_rfl) (by kernel_rfl) (fun _ _ _ h => h) (Or.inl ⟨by rfl, ?_⟩) (by assumption) ?_
                  rotate_left
                  · (intro w9 hSw; (try dsimp only [SCells] at hSw); (go_split_ands; go_simp); (try with_reducible rfl))
                  try simp only [Act.put, List.setIfInBounds_toArray, List.set_cons_zero, List.set_cons_succ]
                  refine wpAnyH_ready (rs := [22]) (by kernel_rfl) (by simp) ?_
                  refine AllReadyH.cons (o := { dst := some 90, op := Op.call { callee := Callee.value (Operand.func 38), args := #[Operand.tmp 89, Operand.const (Value.int IntKind.i64 1)], argTypes := #[4, 33] }, type := 0, pos := "wage.go:118", after := #[{ on := 21, ground := Ground.data }, { on := 20, ground := Ground.chain }], guard := none }) rfl (fun K hK => ?_) AllReadyH.nil
                  go_simp
                  go_at_call 38; ((with_reducible refine (ask_false _ _).mono ?_); rintro e w' ⟨rfl, rfl⟩)
                  go_wp2_with fail
                  exact ⟨rfl, hHeld.2.inv.bel, .inr (.inr ⟨hnv.out, rfl⟩)⟩
              · have c4' : spanB (T m).fl (T m).fh (S (T m).seam.toNat).fat = false := by simpa using c4
                have hnv := Lib.hid (show ¬ Valid cr k tn S T from fun h => by have := h.tick2 hlt; simp [tickOk2, c4'] at this)
                refine wp_region_held_drew (S := (fun w' => SCells w sa k sc (S (T m).seam.toNat).fat (T m) wr.heap.size w' ∧ OI3 w cr sa ta k sc tn tc S (T m) bx wr.heap.size w')) (by kernel_rfl) J0.out (fun hHeld => ?_)
                refine wpAnyH_take (i := 0) (oi := { dst := some 68, op := Op.fieldAddr 53 (Operand.tmp 9) 2, type := 0, pos := "wage.go:118", after := #[], guard := none }) (v := ?_) rfl (by kernel_rfl) (by kernel_rfl) (by kernel_rfl) (fun _ _ _ h => h) (Or.inl ⟨by rfl, ?_⟩) (by assumption) ?_
                rotate_left
                · (intro w9 hSw; (try dsimp only [SCells] at hSw); (go_split_ands; go_simp); (try with_reducible rfl))
                try simp only [Act.put, List.setIfInBounds_toArray, List.set_cons_zero, List.set_cons_succ]
                refine wpAnyH_take (i := 1) (oi := { dst := some 69, op := Op.load 50 (Operand.tmp 68), type := 50, pos := "wage.go:118", after := #[{ on := 0, ground := Ground.data }], guard := none }) (v := ?_) rfl (by kernel_rfl) (by kernel_rfl) (by kernel_rfl) (fun _ _ _ h => h) (Or.inl ⟨by rfl, ?_⟩) (by assumption) ?_
                rotate_left
                · (intro w9 hSw; (try dsimp only [SCells] at hSw); (go_split_ands; go_simp); (try with_reducible rfl))
                try simp only [Act.put, List.setIfInBounds_toArray, List.set_cons_zero, List.set_cons_succ]
                refine wpAnyH_take (i := 2) (oi := { dst := some 70, op := Op.fieldAddr 39 (Operand.tmp 2) 1, type := 0, pos := "wage.go:118", after := #[], guard := none }) (v := ?_) rfl (by kernel_rfl) (by kernel_rfl) (by kernel_rfl) (fun _ _ _ h => h) (Or.inl ⟨by rfl, ?_⟩) (by assumption) ?_
                rotate_left
                · (intro w9 hSw; (try dsimp only [SCells] at hSw); (go_split_ands; go_simp); (try with_reducible rfl))
                try simp only [Act.put, List.setIfInBounds_toArray, List.set_cons_zero, List.set_cons_succ]
                refine wpAnyH_take (i := 3) (oi := { dst := some 71, op := Op.load 36 (Operand.tmp 70), type := 36, pos := "wage.go:118", after := #[{ on := 2, ground := Ground.data }], guard := none }) (v := ?_) rfl (by kernel_rfl) (by kernel_rfl) (by kernel_rfl) (fun _ _ _ h => h) (Or.inl ⟨by rfl, ?_⟩) (by assumption) ?_
                rotate_left
                · (intro w9 hSw; (try dsimp only [SCells] at hSw); (go_split_ands; go_simp); (try with_reducible rfl))
                try simp only [Act.put, List.setIfInBounds_toArray, List.set_cons_zero, List.set_cons_succ]
                refine wpAnyH_take (i := 4) (oi := { dst := some 72, op := Op.fieldAddr 53 (Operand.tmp 9) 1, type := 0, pos := "wage.go:118", after := #[], guard := none }) (v := ?_) rfl (by kernel_rfl) (by kernel_rfl) (by kernel_rfl) (fun _ _ _ h => h) (Or.inl ⟨by rfl, ?_⟩) (by assumption) ?_
                rotate_left
                · (intro w9 hSw; (try dsimp only [SCells] at hSw); (go_split_ands; go_simp); (try with_reducible rfl))
                try simp only [Act.put, List.setIfInBounds_toArray, List.set_cons_zero, List.set_cons_succ]
                refine wpAnyH_take (i := 5) (oi := { dst := some 73, op := Op.load 3 (Operand.tmp 72), type := 3, pos := "wage.go:118", after := #[{ on := 4, ground := Ground.data }], guard := none }) (v := ?_) rfl (by kernel_rfl) (by kernel_rfl) (by kernel_rfl) (fun _ _ _ h => h) (Or.inl ⟨by rfl, ?_⟩) (by assumption) ?_
                rotate_left
                · (intro w9 hSw; (try dsimp only [SCells] at hSw); (go_split_ands; go_simp); (try with_reducible rfl))
                try simp only [Act.put, List.setIfInBounds_toArray, List.set_cons_zero, List.set_cons_succ]
                refine wpAnyH_take (i := 6) (oi := { dst := some 74, op := Op.indexAddr 36 (Operand.tmp 71) (Operand.tmp 73), type := 0, pos := "wage.go:118", after := #[{ on := 3, ground := Ground.data }, { on := 5, ground := Ground.data }], guard := none }) (v := ?_) rfl (by kernel_rfl) (by kernel_rfl) (by kernel_rfl) (fun _ _ _ h => h) (Or.inl ⟨by rfl, ?_⟩) (by assumption) ?_
                rotate_left
                · (intro w9 hSw; (try dsimp only [SCells] at hSw); (go_split_ands; go_simp); (try with_reducible rfl))
                try simp only [Act.put, List.setIfInBounds_toArray, List.set_cons_zero, List.set_cons_succ]
                refine wpAnyH_take (i := 7) (oi := { dst := some 75, op := Op.fieldAddr 43 (Operand.tmp 74) 0, type := 0, pos := "wage.go:118", after := #[{ on := 6, ground := Ground.data }], guard := none }) (v := ?_) rfl (by kernel_rfl) (by kernel_rfl) (by kernel_rfl) (fun _ _ _ h => h) (Or.inl ⟨by rfl, ?_⟩) (by assumption) ?_
                rotate_left
                · (intro w9 hSw; (try dsimp only [SCells] at hSw); (go_split_ands; go_simp); (try with_reducible rfl))
                try simp only [Act.put, List.setIfInBounds_toArray, List.set_cons_zero, List.set_cons_succ]
                refine wpAnyH_take (i := 8) (oi := { dst := some 76, op := Op.load 3 (Operand.tmp 75), type := 3, pos := "wage.go:118", after := #[{ on := 7, ground := Ground.data }], guard := none }) (v := ?_) rfl (by kernel_rfl) (by kernel_rfl) (by kernel_rfl) (fun _ _ _ h => h) (Or.inl ⟨by rfl, ?_⟩) (by assumption) ?_
                rotate_left
                · (intro w9 hSw; (try dsimp only [SCells] at hSw); (go_split_ands; go_simp); (try with_reducible rfl))
                try simp only [Act.put, List.setIfInBounds_toArray, List.set_cons_zero, List.set_cons_succ]
                refine wpAnyH_ready (rs := [9]) (by kernel_rfl) (by simp) ?_
                refine AllReadyH.cons (o := { dst := some 77, op := Op.call { callee := Callee.value (Operand.func 68), args := #[Operand.tmp 69, Operand.tmp 76], argTypes := #[50, 3] }, type := 4, pos := "wage.go:118", after := #[{ on := 1, ground := Ground.data }, { on := 8, ground := Ground.data }], guard := none }) rfl (fun K hK => ?_) AllReadyH.nil
                go_simp
                go_at_call 68; refine (isSpan_any _ _ _ _ hfat).mono ?_; rintro e w4 ⟨rfl, hb1⟩
                go_wp2_with fail
                refine hK.out _ _ ?_ (fun hHeld => ?_)
                · exact scells (OI3.grow (And.right (by assumption)) hb1) hsb1 hsb2
                clear hK K
                try simp only [Act.put, List.setIfInBounds_toArray, List.set_cons_zero, List.set_cons_succ]
                refine wpAnyH_take (i := 10) (oi := { dst := some 78, op := Op.move (Operand.tmp 77), type := 4, pos := "wage.go:118", after := #[{ on := 9, ground := Ground.data }, { on := 9, ground := Ground.chain }], guard := none }) (v := ?_) rfl (by kernel_rfl) (by kernel_rfl) (by kernel_rfl) (fun _ _ _ h => h) (Or.inl ⟨by rfl, ?_⟩) (by assumption) ?_
                rotate_left
                · (intro w9 hSw; (try dsimp only [SCells] at hSw); (go_split_ands; go_simp); (try with_reducible rfl))
                try simp only [Act.put, List.setIfInBounds_toArray, List.set_cons_zero, List.set_cons_succ]
                refine wpAnyH_take (i := 11) (oi := { dst := some 79, op := Op.fieldAddr 53 (Operand.tmp 9) 3, type := 0, pos := "wage.go:118", after := #[{ on := 10, ground := Ground.guard }], guard := some (10, true) }) (v := undef) rfl (by kernel_rfl) (by kernel_rfl) (by kernel_rfl) (fun _ _ _ h => h) (Or.inr ⟨by rfl, rfl⟩) (by assumption) ?_
                try simp only [Act.put, List.setIfInBounds_toArray, List.set_cons_zero, List.set_cons_succ]
                refine wpAnyH_take (i := 12) (oi := { dst := some 80, op := Op.load 50 (Operand.tmp 79), type := 50, pos := "wage.go:118", after := #[{ on := 11, ground := Ground.data }, { on := 10, ground := Ground.guard }], guard := some (10, true) }) (v := undef) rfl (by kernel_rfl) (by kernel_rfl) (by kernel_rfl) (fun _ _ _ h => h) (Or.inr ⟨by rfl, rfl⟩) (by assumption) ?_
                try simp only [Act.put, List.setIfInBounds_toArray, List.set_cons_zero, List.set_cons_succ]
                refine wpAnyH_take (i := 13) (oi := { dst := some 81, op := Op.fieldAddr 39 (Operand.tmp 2) 1, type := 0, pos := "wage.go:118", after := #[{ on := 10, ground := Ground.guard }], guard := some (10, true) }) (v := undef) rfl (by kernel_rfl) (by kernel_rfl) (by kernel_rfl) (fun _ _ _ h => h) (Or.inr ⟨by rfl, rfl⟩) (by assumption) ?_
                try simp only [Act.put, List.setIfInBounds_toArray, List.set_cons_zero, List.set_cons_succ]
                refine wpAnyH_take (i := 14) (oi := { dst := some 82, op := Op.load 36 (Operand.tmp 81), type := 36, pos := "wage.go:118", after := #[{ on := 13, ground := Ground.data }, { on := 10, ground := Ground.guard }], guard := some (10, true) }) (v := undef) rfl (by kernel_rfl) (by kernel_rfl) (by kernel_rfl) (fun _ _ _ h => h) (Or.inr ⟨by rfl, rfl⟩) (by assumption) ?_
                try simp only [Act.put, List.setIfInBounds_toArray, List.set_cons_zero, List.set_cons_succ]
                refine wpAnyH_take (i := 15) (oi := { dst := some 83, op := Op.fieldAddr 53 (Operand.tmp 9) 1, type := 0, pos := "wage.go:118", after := #[{ on := 10, ground := Ground.guard }], guard := some (10, true) }) (v := undef) rfl (by kernel_rfl) (by kernel_rfl) (by kernel_rfl) (fun _ _ _ h => h) (Or.inr ⟨by rfl, rfl⟩) (by assumption) ?_
                try simp only [Act.put, List.setIfInBounds_toArray, List.set_cons_zero, List.set_cons_succ]
                refine wpAnyH_take (i := 16) (oi := { dst := some 84, op := Op.load 3 (Operand.tmp 83), type := 3, pos := "wage.go:118", after := #[{ on := 15, ground := Ground.data }, { on := 10, ground := Ground.guard }], guard := some (10, true) }) (v := undef) rfl (by kernel_rfl) (by kernel_rfl) (by kernel_rfl) (fun _ _ _ h => h) (Or.inr ⟨by rfl, rfl⟩) (by assumption) ?_
                try simp only [Act.put, List.setIfInBounds_toArray, List.set_cons_zero, List.set_cons_succ]
                refine wpAnyH_take (i := 17) (oi := { dst := some 85, op := Op.indexAddr 36 (Operand.tmp 82) (Operand.tmp 84), type := 0, pos := "wage.go:118", after := #[{ on := 14, ground := Ground.data }, { on := 16, ground := Ground.data }, { on := 10, ground := Ground.guard }], guard := some (10, true) }) (v := undef) rfl (by kernel_rfl) (by kernel_rfl) (by kernel_rfl) (fun _ _ _ h => h) (Or.inr ⟨by rfl, rfl⟩) (by assumption) ?_
                try simp only [Act.put, List.setIfInBounds_toArray, List.set_cons_zero, List.set_cons_succ]
                refine wpAnyH_take (i := 18) (oi := { dst := some 86, op := Op.fieldAddr 43 (Operand.tmp 85) 0, type := 0, pos := "wage.go:118", after := #[{ on := 17, ground := Ground.data }, { on := 10, ground := Ground.guard }], guard := some (10, true) }) (v := undef) rfl (by kernel_rfl) (by kernel_rfl) (by kernel_rfl) (fun _ _ _ h => h) (Or.inr ⟨by rfl, rfl⟩) (by assumption) ?_
                try simp only [Act.put, List.setIfInBounds_toArray, List.set_cons_zero, List.set_cons_succ]
                refine wpAnyH_take (i := 19) (oi := { dst := some 87, op := Op.load 3 (Operand.tmp 86), type := 3, pos := "wage.go:118", after := #[{ on := 18, ground := Ground.data }, { on := 10, ground := Ground.guard }], guard := some (10, true) }) (v := undef) rfl (by kernel_rfl) (by kernel_rfl) (by kernel_rfl) (fun _ _ _ h => h) (Or.inr ⟨by rfl, rfl⟩) (by assumption) ?_
                try simp only [Act.put, List.setIfInBounds_toArray, List.set_cons_zero, List.set_cons_succ]
                refine wpAnyH_take (i := 20) (oi := { dst := some 88, op := Op.call { callee := Callee.value (Operand.func 68), args := #[Operand.tmp 80, Operand.tmp 87], argTypes := #[50, 3] }, type := 4, pos := "wage.go:118", after := #[{ on := 12, ground := Ground.data }, { on := 19, ground := Ground.data }, { on := 10, ground := Ground.chain }, { on := 10, ground := Ground.guard }], guard := some (10, true) }) (v := undef) rfl (by kernel_rfl) (by kernel_rfl) (by kernel_rfl) (fun _ _ _ h => h) (Or.inr ⟨by rfl, rfl⟩) (by assumption) ?_
                try simp only [Act.put, List.setIfInBounds_toArray, List.set_cons_zero, List.set_cons_succ]
                refine wpAnyH_take (i := 21) (oi := { dst := some 89, op := Op.pick (Operand.tmp 78) (Operand.tmp 88) (Operand.const (Value.bool false)), type := 4, pos := "wage.go:118", after := #[{ on := 10, ground := Ground.data }, { on := 20, ground := Ground.data }], guard := none }) (v := ?_) rfl (by kernel_rfl) (by kernel_rfl) (by kernel_rfl) (fun _ _ _ h => h) (Or.inl ⟨by rfl, ?_⟩) (by assumption) ?_
                rotate_left
                · (intro w9 hSw; (try dsimp only [SCells] at hSw); (go_split_ands; go_simp); (try with_reducible rfl))
                try simp only [Act.put, List.setIfInBounds_toArray, List.set_cons_zero, List.set_cons_succ]
                refine wpAnyH_ready (rs := [22]) (by kernel_rfl) (by simp) ?_
                refine AllReadyH.cons (o := { dst := some 90, op := Op.call { callee := Callee.value (Operand.func 38), args := #[Operand.tmp 89, Operand.const (Value.int IntKind.i64 1)], argTypes := #[4, 33] }, type := 0, pos := "wage.go:118", after := #[{ on := 21, ground := Ground.data }, { on := 20, ground := Ground.chain }], guard := none }) rfl (fun K hK => ?_) AllReadyH.nil
                go_simp
                go_at_call 38; ((with_reducible refine (ask_false _ _).mono ?_); rintro e w' ⟨rfl, rfl⟩)
                go_wp2_with fail
                exact ⟨rfl, hHeld.2.inv.bel, .inr (.inr ⟨hnv.out, rfl⟩)⟩
            · have hnv := Lib.hid (show ¬ Valid cr k tn S T from fun h => c1 (h.tick1 hlt))
              have c1' : tickOk1 cr k (T m) = false := by simpa using c1
              clear c1
              by_cases x1 : inB (T m).crew 0 (cr - 1) = true
              · by_cases x2 : inB (T m).seam 0 ((k : Int) - 1) = true
                · have x3 : spanB (T m).dl (T m).dh 40 = false := by simpa [tickOk1, x1, x2] using c1'
                  clear c1'
                  go_wp2_with (first | (go_at_call 36; refine (isCrew_any _ _ _ _ _ _ _ _ _ cra crb).mono ?_; rintro e w1 ⟨rfl, hb1⟩; have I1 := Lib.hid (I0.out.grow hb1); clear hb1 d0 d1 d2 d3 d4 d5 d6 d7 d8 d9 d10 d11; obtain ⟨d0, d1, d2, d3, d4, d5, d6, d7, d8, d9, d10, d11⟩ := I1.out.cells) | (go_at_call 47; refine (isSeam_any _ _ _ _ _ _ _ _ _ kml).mono ?_; rintro e w2 ⟨rfl, hb1⟩; have I2 := Lib.hid (I1.out.grow hb1); clear hb1 d0 d1 d2 d3 d4 d5 d6 d7 d8 d9 d10 d11; obtain ⟨d0, d1, d2, d3, d4, d5, d6, d7, d8, d9, d10, d11⟩ := I2.out.cells) | (go_at_call 68; refine (isSpan_any _ _ _ _ (by omega)).mono ?_; rintro e w3 ⟨rfl, hb1⟩; have I3 := Lib.hid (I2.out.grow hb1); clear hb1 d0 d1 d2 d3 d4 d5 d6 d7 d8 d9 d10 d11) | (go_at_call 38; ((with_reducible refine (ask_false _ _).mono ?_); rintro e w' ⟨rfl, rfl⟩)))
                  exact ⟨rfl, I3.out.inv.bel, .inr (.inr ⟨hnv.out, rfl⟩)⟩
                · have x2' : inB (T m).seam 0 ((k : Int) - 1) = false := by simpa using x2
                  clear c1' x2
                  go_wp2_with (first | (go_at_call 36; refine (isCrew_any _ _ _ _ _ _ _ _ _ cra crb).mono ?_; rintro e w1 ⟨rfl, hb1⟩; have I1 := Lib.hid (I0.out.grow hb1); clear hb1 d0 d1 d2 d3 d4 d5 d6 d7 d8 d9 d10 d11; obtain ⟨d0, d1, d2, d3, d4, d5, d6, d7, d8, d9, d10, d11⟩ := I1.out.cells) | (go_at_call 47; refine (isSeam_any _ _ _ _ _ _ _ _ _ kml).mono ?_; rintro e w2 ⟨rfl, hb1⟩; have I2 := Lib.hid (I1.out.grow hb1); clear hb1 d0 d1 d2 d3 d4 d5 d6 d7 d8 d9 d10 d11) | (go_at_call 38; ((with_reducible refine (ask_false _ _).mono ?_); rintro e w' ⟨rfl, rfl⟩)))
                  exact ⟨rfl, I2.out.inv.bel, .inr (.inr ⟨hnv.out, rfl⟩)⟩
              · have x1' : inB (T m).crew 0 (cr - 1) = false := by simpa using x1
                clear c1' x1
                go_wp2_with (first | (go_at_call 36; refine (isCrew_any _ _ _ _ _ _ _ _ _ cra crb).mono ?_; rintro e w1 ⟨rfl, hb1⟩; have I1 := Lib.hid (I0.out.grow hb1); clear hb1 d0 d1 d2 d3 d4 d5 d6 d7 d8 d9 d10 d11) | (go_at_call 38; ((with_reducible refine (ask_false _ _).mono ?_); rintro e w' ⟨rfl, rfl⟩)))
                exact ⟨rfl, I1.out.inv.bel, .inr (.inr ⟨hnv.out, rfl⟩)⟩
          · obtain rfl : m = tn := by omega
            have hv := Lib.hid (valid_of h1 h2 h3 HO.out HO2.out)
            have b0 := cellAt HX.out 0
            have b1 := cellAt HX.out 1
            have b2 := cellAt HX.out 2
            simp only [List.getElem?_toArray, List.getElem?_cons_zero, List.getElem?_cons_succ] at b0 b1 b2
            have hc := Lib.hid (HC.out wr HI3.out.bel hv.out)
            cases b with
            | false =>
              go_wp2_with (first | ((with_reducible refine (hc.out).mono ?_); rintro e w1 ⟨rfl, hb1⟩) | (go_at_call 38; ((with_reducible refine (ask_false _ _).mono ?_); rintro e w' ⟨rfl, rfl⟩)))
              exact ⟨rfl, HI3.out.bel.trans (hb1.mono (Nat.le_of_lt (lt_of_heap HI3.out.box))), .inr (.inl ⟨hv.out, rfl, rfl⟩)⟩
            | true =>
              go_wp2_with (first | ((with_reducible refine (hc.out).mono ?_); rintro e w1 ⟨rfl, hb1⟩; have HY := Lib.hid (HX.out.grow hb1); have HJ := Lib.hid (HI3.out.grow hb1); clear hb1 b0 b1 b2; have b0 := cellAt HY.out 0; have b1 := cellAt HY.out 1; have b2 := cellAt HY.out 2; have r0 := cellAt HJ.out.res 0; have r1 := cellAt HJ.out.res 1; have r2 := cellAt HJ.out.res 2; have f0 := freeAt HJ.out.res 0; have f1 := freeAt HJ.out.res 1; have f2 := freeAt HJ.out.res 2; simp only [List.getElem?_toArray, List.getElem?_cons_zero, List.getElem?_cons_succ] at b0 b1 b2 r0 r1 r2) | (go_at_call 38; ((with_reducible refine (ask_true _ _).mono ?_); rintro e w' ⟨rfl, rfl⟩)))
              exact bodyPost_ret (v := .agg #[.int .i64 cr, .slice sa k sc, .slice ta m tc]) (by simp [results, Tryz.results34, go_sem, r0, r1, r2]) rfl ⟨((HJ.out.bel.setCell (Nat.le_succ _) _).setCell (Nat.le_succ _) _).setCell (Nat.le_succ _) _, .inl ⟨hv.out, rfl, rfl⟩⟩
  · have hnv := Lib.hid (show ¬ Valid cr sn tn S T from fun h => hh ⟨inB_iff.2 ⟨h.cr0, h.cr1⟩, h.sn3, h.tn6⟩)
    have hb2 := Lib.hid (fun a b => ((Below.refl w.heap.size w).alloc (Nat.le_refl _) a).alloc (by simp) b)
    by_cases h1 : inB cr 1 4 = true
    · by_cases h2 : sn ≤ 3
      · have h2' : (sn : Int) ≤ 3 := by omega
        have h3 : ¬ tn ≤ 6 := fun h => hh ⟨h1, h2, h⟩
        have h3' : decide ((tn : Int) ≤ 6) = false := by simp; omega
        go_enter Tryz.func34, Tryz.ntmps34
        go_wp2_with (first | (go_at_call 39; refine (within_any _ _ _ _).mono ?_; rintro e w' ⟨rfl, rfl⟩) | (go_at_call 38; ((with_reducible refine (ask_false _ _).mono ?_); rintro e w' ⟨rfl, rfl⟩)))
        exact ⟨rfl, hb2.out _ _, .inr (.inr ⟨hnv.out, rfl⟩)⟩
      · have h2' : ¬ (sn : Int) ≤ 3 := by omega
        go_enter Tryz.func34, Tryz.ntmps34
        go_wp2_with (first | (go_at_call 39; refine (within_any _ _ _ _).mono ?_; rintro e w' ⟨rfl, rfl⟩) | (go_at_call 38; ((with_reducible refine (ask_false _ _).mono ?_); rintro e w' ⟨rfl, rfl⟩)))
        exact ⟨rfl, hb2.out _ _, .inr (.inr ⟨hnv.out, rfl⟩)⟩
    · have h1' : inB cr 1 4 = false := by simpa using h1
      go_enter Tryz.func34, Tryz.ntmps34
      go_wp2_with (first | (go_at_call 39; refine (within_any _ _ _ _).mono ?_; rintro e w' ⟨rfl, rfl⟩) | (go_at_call 38; ((with_reducible refine (ask_false _ _).mono ?_); rintro e w' ⟨rfl, rfl⟩)))
      exact ⟨rfl, hb2.out _ _, .inr (.inr ⟨hnv.out, rfl⟩)⟩
end Go.Proofs.YtikeihnhkiipgaaGreat.Wa

namespace Go.Proofs.YtikeihnhkiipgaaGreat.Wa
open Go.RowKit

/-- A box's address. -/
abbrev bp (b : Nat) : Value := .pointer (some ⟨b, 0, none⟩)

/-- Two stretches of a walk. -/
theorem _root_.Go.RowKit.Below.next {a b c : World} (h : Below a.heap.size a b) (k : Below b.heap.size b c) : Below a.heap.size a c := h.trans (k.mono h.size)

set_option maxHeartbeats 400000 in
theorem paid1_any (cr : Int) (sa ta : Option Addr) (sn sc tn tc : Nat) (w : World) :
    Calls Tryz.prog 44 #[.agg #[.int .i64 cr, .slice sa sn sc, .slice ta tn tc]] w fun e w' => e = .returned (.bool true) ∧ Below w.heap.size w w' := by
  go_enter Tryz.func44, Tryz.ntmps44
  go_wp2_with fail
  go_ret
  exact ⟨rfl, (Below.refl _ _).alloc (Nat.le_refl _) _⟩

set_option maxHeartbeats 800000 in
theorem due1_any (cr : Int) (sa ta : Option Addr) (sn sc tn tc : Nat) (c : Int) (b : Nat) (w : World) (h0 : -1000000 ≤ cr) (h1 : cr ≤ 1000000) (hb : BoxAt w b #[.int .i64 c] 3) :
    Calls Tryz.prog 35 #[.agg #[.int .i64 cr, .slice sa sn sc, .slice ta tn tc], bp b] w fun e w' => e = .returned (.bool (inB c 0 (cr - 1))) ∧ Below w.heap.size w w' := by
  have c0 := cellAt hb 0
  have hlt := lt_of_heap hb
  simp only [List.getElem?_toArray, List.getElem?_cons_zero] at c0
  clear hb
  go_enter Tryz.func35, Tryz.ntmps35
  go_wp2_with (go_at_call 36; refine (isCrew_any _ _ _ _ _ _ _ _ _ h0 h1).mono ?_; rintro e w' ⟨rfl, hb⟩)
  go_ret
  exact ⟨rfl, ((Below.refl _ _).alloc (Nat.le_refl _) _).trans (hb.mono (by simp))⟩

set_option maxHeartbeats 800000 in
theorem left1_any (cr : Int) (sa ta : Option Addr) (sn sc tn tc : Nat) (c : Int) (b : Nat) (w : World) (hs : sn ≤ maxLen) (hb : BoxAt w b #[.int .i64 c] 3) :
    Calls Tryz.prog 46 #[.agg #[.int .i64 cr, .slice sa sn sc, .slice ta tn tc], bp b] w fun e w' => e = .returned (.bool (inB c 0 (sn - 1))) ∧ Below w.heap.size w w' := by
  have c0 := cellAt hb 0
  have hlt := lt_of_heap hb
  simp only [List.getElem?_toArray, List.getElem?_cons_zero] at c0
  clear hb
  go_enter Tryz.func46, Tryz.ntmps46
  go_wp2_with (go_at_call 47; refine (isSeam_any _ _ _ _ _ _ _ _ _ hs).mono ?_; rintro e w' ⟨rfl, hb⟩)
  go_ret
  exact ⟨rfl, ((Below.refl _ _).alloc (Nat.le_refl _) _).trans (hb.mono (by simp))⟩

end Go.Proofs.YtikeihnhkiipgaaGreat.Wa

namespace Go.Proofs.YtikeihnhkiipgaaGreat.Wa
open Go.RowKit

structure WI (w0 : World) (b1 b2 : Nat) (x : Array Value) (s f : Int) (sa : Option Addr) (sn : Nat) (S : Nat → Sm) (w : World) : Prop where
  bel : Below w0.heap.size w0 w
  bx : BoxAt w w0.heap.size x 97
  s : BoxAt w b1 #[.int .i64 s] 3
  f : BoxAt w b2 #[.int .i64 f] 3
  sm : SeamsAt w sa sn S
theorem WI.grow {w0 : World} {b1 b2 : Nat} {x : Array Value} {s f : Int} {sa : Option Addr} {sn : Nat} {S : Nat → Sm} {w w' : World} (h : WI w0 b1 b2 x s f sa sn S w) (hb : Below w.heap.size w w') : WI w0 b1 b2 x s f sa sn S w' :=
  ⟨h.bel.trans (hb.mono (Nat.le_of_lt (lt_of_heap h.bx))), h.bx.grow hb, h.s.grow hb, h.f.grow hb, h.sm.grow hb⟩

theorem WI.cells {w0 : World} {b1 b2 : Nat} {cr : Int} {sn sc tn tc : Nat} {ta : Option Addr} {s f : Int} {sa : Option Addr} {S : Nat → Sm} {w' : World} (h : WI w0 b1 b2 #[.int .i64 cr, .slice sa sn sc, .slice ta tn tc] s f sa sn S w') (s0 : 0 ≤ s) (s1 : s < sn) :
    (w'.cell? ⟨w0.heap.size, 0, none⟩ = some (.int .i64 cr) ∧ w'.cell? ⟨w0.heap.size, 1, none⟩ = some (.slice sa sn sc) ∧ w'.cell? ⟨w0.heap.size, 2, none⟩ = some (.slice ta tn tc) ∧ w'.cell? ⟨b1, 0, none⟩ = some (.int .i64 s) ∧ w'.cell? ⟨b2, 0, none⟩ = some (.int .i64 f) ∧ w'.cell? ⟨blk sa, ofs sa + s.toNat * 2, none⟩ = some (.int .i64 (S s.toNat).fat)) ∧ WI w0 b1 b2 #[.int .i64 cr, .slice sa sn sc, .slice ta tn tc] s f sa sn S w' :=
  ⟨⟨cellAt h.bx 0, cellAt h.bx 1, cellAt h.bx 2, cellAt h.s 0, cellAt h.f 0, (h.sm.at (by omega)).1⟩, h⟩
theorem WI.cells0 {w0 : World} {b1 b2 : Nat} {cr : Int} {sn sc tn tc : Nat} {ta : Option Addr} {s f : Int} {sa : Option Addr} {S : Nat → Sm} {w' : World} (h : WI w0 b1 b2 #[.int .i64 cr, .slice sa sn sc, .slice ta tn tc] s f sa sn S w') :
    (w'.cell? ⟨w0.heap.size, 0, none⟩ = some (.int .i64 cr) ∧ w'.cell? ⟨w0.heap.size, 1, none⟩ = some (.slice sa sn sc) ∧ w'.cell? ⟨w0.heap.size, 2, none⟩ = some (.slice ta tn tc) ∧ w'.cell? ⟨b1, 0, none⟩ = some (.int .i64 s) ∧ w'.cell? ⟨b2, 0, none⟩ = some (.int .i64 f)) ∧ WI w0 b1 b2 #[.int .i64 cr, .slice sa sn sc, .slice ta tn tc] s f sa sn S w' :=
  ⟨⟨cellAt h.bx 0, cellAt h.bx 1, cellAt h.bx 2, cellAt h.s 0, cellAt h.f 0⟩, h⟩

end Go.Proofs.YtikeihnhkiipgaaGreat.Wa

namespace Go.Proofs.YtikeihnhkiipgaaGreat.Wa
open Go.RowKit

set_option maxRecDepth 100000 in
set_option maxHeartbeats 800000 in
theorem answer_idle (b : Nat) (w : World) :
    CallsD Tryz.prog 33 #[bp b] .returning w fun e u' w' => e = .returned (.tuple #[]) ∧ u' = .returning ∧ w' = w := by
  refine callsD_of_wpS Tryz.func33 rfl fun c₀ cs hu => ?_
  apply wpS_seq
  apply wpS_region
  simp [wpOpsS, go_sem, recoverD, hu, Tryz.ntmps33, Exit.thenS]
  have hq : ∀ w, (binOp .neq 20 .nilIface .nilIface).run Tryz.prog w = .ok (.bool false) w := fun _ => by kernel_rfl
  apply wpS_seq
  apply wpS_region
  simp [wpOpsS, go_sem, recoverD, hu, hq, Exit.thenS]
  refine wpS_cond (t := false) (by simp [Act.eval, Array.replicate]) ?_
  simp only [Bool.false_eq_true, if_false]
  refine wpS_of_wp (wp_skip ?_)
  cases c₀
  simp_all [bodyPostS, results]

set_option maxRecDepth 100000 in
set_option maxHeartbeats 800000 in
theorem answer_panicking (b : Nat) (y x : Int) (older : List PanicEntry) (w : World) (hb : BoxAt w b #[.int .i64 y] 33) :
    CallsD Tryz.prog 33 #[bp b] (.panicking ({ v := .iface 141 (.int .i64 x), recovered := false } :: older)) w fun e u' w' =>
      e = .returned (.tuple #[]) ∧ u' = .panicking ({ v := .iface 141 (.int .i64 x), recovered := true } :: older) ∧ w' = w.setCell ⟨b, 0, none⟩ (.int .i64 x) := by
  have c0 := cellAt hb 0
  have f0 := freeAt hb 0
  simp only [List.getElem?_toArray, List.getElem?_cons_zero] at c0
  refine callsD_of_wpS Tryz.func33 rfl fun c₀ cs hu => ?_
  apply wpS_seq
  apply wpS_region
  simp [wpOpsS, go_sem, recoverD, hu, Tryz.ntmps33, Exit.thenS]
  have hq : ∀ w, (binOp .neq 20 (.iface 141 (.int .i64 x)) .nilIface).run Tryz.prog w = .ok (.bool true) w := fun _ => by kernel_rfl
  apply wpS_seq
  apply wpS_region
  simp [wpOpsS, go_sem, recoverD, hq, Exit.thenS]
  refine wpS_cond (t := true) (by simp [Act.eval, Array.replicate]) ?_
  simp only [if_true]
  refine wpS_of_wp ?_
  have hr : Array.replicate 18 undef = #[undef, undef, undef, undef, undef, undef, undef, undef, undef, undef, undef, undef, undef, undef, undef, undef, undef, undef] := rfl
  simp only [hr, List.setIfInBounds_toArray, List.set_cons_zero, List.set_cons_succ, List.append_toArray, List.cons_append, List.nil_append]
  clear hr hq
  have hta : ∀ w, (Instr.typeAssert (.iface 141 (.int .i64 x)) 20 141 true).run Tryz.prog w = .ok (.tuple #[.int .i64 x, .bool true]) w := fun _ => by kernel_rfl
  go_wp2
  refine ⟨rfl, ?_⟩
  cases c₀
  simp_all [results, Tryz.results33]
end Go.Proofs.YtikeihnhkiipgaaGreat.Wa
