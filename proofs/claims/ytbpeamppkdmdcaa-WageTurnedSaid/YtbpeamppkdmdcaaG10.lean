/-
  Walks: the sample wages; whether two lists are the same.
  Walks: the sample wages.
  Plain: what is told of the sample wages.
  Walks: the results that the document fixes.
  Walks: the results that the document fixes.
-/
import Derived.Test.YtbpeamppkdmdcaaG5
import Derived.Test.YtbpeamppkdmdcaaG8
import Derived.Test.YtbpeamppkdmdcaaG7
import Derived.Test.YtbpeamppkdmdcaaG6
import Derived.Test.YtbpeamppkdmdcaaG4

namespace Go.Proofs.Ytbpeamppkdmdcaa
open Go.RowKit

set_option maxHeartbeats 400000 in
theorem span_any (a b : Int) (w : World) :
    Calls Try.prog 42 #[.int .i64 a, .int .i64 b] w fun e w' => e = .returned (.agg #[.int .i64 a, .int .i64 b]) ∧ Below w.heap.size w w' := by
  go_enter Try.func42, Try.ntmps42
  go_wp2
  exact bodyPost_ret (v := .agg #[.int .i64 a, .int .i64 b]) (by simp [results, Try.results42, go_sem]) rfl ⟨rfl, (Below.refl _ _).alloc (Nat.le_refl _) _⟩

set_option maxHeartbeats 1000000 in
theorem ticket_any (c s fl fh tl th dl dh : Int) (w : World) :
    Calls Try.prog 41 #[.int .i64 c, .int .i64 s, .agg #[.int .i64 fl, .int .i64 fh], .agg #[.int .i64 tl, .int .i64 th], .agg #[.int .i64 dl, .int .i64 dh]] w
      fun e w' => e = .returned (.agg #[.int .i64 c, .int .i64 s, .int .i64 fl, .int .i64 fh, .int .i64 tl, .int .i64 th, .int .i64 dl, .int .i64 dh]) ∧ Below w.heap.size w w' := by
  go_enter Try.func41, Try.ntmps41
  go_wp2
  exact bodyPost_ret (v := .agg #[.int .i64 c, .int .i64 s, .int .i64 fl, .int .i64 fh, .int .i64 tl, .int .i64 th, .int .i64 dl, .int .i64 dh]) (by simp [results, Try.results41, go_sem]) rfl
    ⟨rfl, ((((Below.refl _ _).alloc (Nat.le_refl _) _).alloc (by simp) _).alloc (by simp; omega) _).alloc (by simp; omega) _⟩

/-- Are the lists the same? -/
def intsEq (n m : Nat) (f g : Nat → Int) : Bool := decide (n = m) && (List.range n).all fun i => f i == g i

set_option maxHeartbeats 1000000 in
theorem ints_any (oa ob : Option Addr) (n m nc mc : Nat) (f g : Nat → Int) (w : World) (hl : IntsAt w oa n f) (hm : IntsAt w ob m g) :
    Calls Try.prog 27 #[.slice oa n nc, .slice ob m mc] w fun e w' => e = .returned (.bool (intsEq n m f g)) ∧ Below w.heap.size w w' := by
  have nl := hl.small
  have ml := hm.small
  unfold maxLen at nl ml
  have HL := Lib.hid hl
  have HM := Lib.hid hm
  clear hl hm
  by_cases hnm : n = m
  · subst hnm
    have e0 : ((n : Int) != n) = false := by simp
    go_enter Try.func27, Try.ntmps27
    go_wp2_with fail
    go_loopw [5] (fun i wr => ∃ k : Nat, k ≤ n ∧ i = .int .i64 k ∧ (∀ j, j < k → f j = g j) ∧ Below w.heap.size w wr) (fun i _ => n - (intOf i).toNat)
    case atStart => exact ⟨0, Nat.zero_le _, rfl, fun j hj => by omega, Below.refl _ _⟩
    case round =>
      obtain ⟨k, hk, rfl, hok, hb⟩ := hrel
      have HO := Lib.hid hok
      have HB := Lib.hid hb
      clear hok hb
      by_cases hlt : k < n
      · have hi := fun w => run_indexAt_row (w := w) (cap := nc) Try.underlying37 size3 (HL.out.plain (by omega)) hlt
        have hj := fun w => run_indexAt_row (w := w) (cap := mc) Try.underlying37 size3 (HM.out.plain (by omega)) hlt
        have c1 := (HL.out.grow HB.out).at hlt
        have c2 := (HM.out.grow HB.out).at hlt
        simp only [Nat.mul_one] at hi hj
        by_cases he : f k = g k
        · have e1 : (f k != g k) = false := by simp [he]
          have HE := Lib.hid he
          clear he
          go_wp2_with fail
          go_quiet (fail)
          go_wp2_with fail
          refine ⟨⟨k + 1, hlt, by go_num, fun j hj => ?_, below_drewN HB.out _⟩, by simp [intOf]; omega⟩
          by_cases e : j = k
          · rw [e]; exact HE.out
          · exact HO.out j (by omega)
        · have e1 : (f k != g k) = true := by simp [he]
          have hno := Lib.hid (show intsEq n n f g = false from by
            have : (List.range n).all (fun i => f i == g i) = false := all_no hlt (by simp [he])
            simp [intsEq, this])
          clear he
          go_wp2_with fail
          go_quiet (fail)
          go_wp2_with fail
          go_ret
          exact ⟨by rw [hno.out]; rfl, below_drewN HB.out _⟩
      · obtain rfl : k = n := by omega
        have hyes := Lib.hid (show intsEq k k f g = true from by
          simp only [intsEq, decide_true, Bool.true_and, List.all_eq_true, beq_iff_eq]
          exact fun i hi => HO.out i (by simpa using hi))
        go_wp2_with fail
        go_ret
        exact ⟨by rw [hyes.out]; rfl, HB.out⟩
  · have e0 : ((n : Int) != m) = true := by simp; omega
    have hno := Lib.hid (show intsEq n m f g = false from by simp [intsEq, hnm])
    go_enter Try.func27, Try.ntmps27
    go_wp2_with fail
    go_ret
    exact ⟨by rw [hno.out]; rfl, Below.refl _ _⟩
end Go.Proofs.Ytbpeamppkdmdcaa

namespace Go.Proofs.Ytbpeamppkdmdcaa
open Go.RowKit

def sS : Nat → Sm
  | 0 => ⟨10, 3⟩
  | _ => ⟨4, 5⟩
def sT : Nat → Tk
  | 0 => ⟨0, 0, 0, 0, 5, 6, 2, 2⟩
  | 1 => ⟨1, 0, 4, 4, 8, 8, 1, 3⟩
  | _ => ⟨1, 1, 0, 1, 4, 4, 5, 5⟩

theorem box_seams2 {w : World} {g : Nat} {S : Nat → Sm} {t : TypeId} (h : BoxAt w g #[.int .i64 (S 0).fat, .int .i64 (S 0).rate, .int .i64 (S 1).fat, .int .i64 (S 1).rate] t) : SeamsAt w (some ⟨g, 0, none⟩) 2 S := by
  refine ⟨fun _ => rfl, fun _ => lt_of_heap h, by unfold maxLen; omega, fun i hi j hj => ?_⟩
  show w.cell? ⟨g, 0 + i * 2 + j, none⟩ = _
  rw [cellAt h, Nat.zero_add]
  obtain ⟨rfl, rfl⟩ | ⟨rfl, rfl⟩ | ⟨rfl, rfl⟩ | ⟨rfl, rfl⟩ : (i = 0 ∧ j = 0) ∨ (i = 0 ∧ j = 1) ∨ (i = 1 ∧ j = 0) ∨ (i = 1 ∧ j = 1) := by omega
  all_goals rfl

theorem Row.set {w : World} {oa : Option Addr} {n sz : Nat} {cell : Nat → Nat → Value} (h : Row w oa n sz cell) (p : Addr) (v : Value) (hne : 0 < n → p.block ≠ blk oa) : Row (w.setCell p v) oa n sz cell where
  plain := h.plain
  old := fun hn => by rw [size_setCell]; exact h.old hn
  small := h.small
  cells := fun i hi j hj => (World.cell?_setCell_other _ _ _ _ (fun e => hne (by omega) (by rw [e]))).trans (h.cells i hi j hj)
theorem SeamsAt.set {w : World} {oa : Option Addr} {n : Nat} {s : Nat → Sm} (h : SeamsAt w oa n s) (p : Addr) (v : Value) (hne : 0 < n → p.block ≠ blk oa) : SeamsAt (w.setCell p v) oa n s := Row.set h p v hne
theorem TicketsAt.set {w : World} {oa : Option Addr} {n : Nat} {s : Nat → Tk} (h : TicketsAt w oa n s) (p : Addr) (v : Value) (hne : 0 < n → p.block ≠ blk oa) : TicketsAt (w.setCell p v) oa n s := Row.set h p v hne

structure SamS (w : World) (w' : World) : Prop where
  bel : Below w.heap.size w w'
  r : BoxAt w' w.heap.size #[.int .i64 0, .slice none 0 0, .slice none 0 0] 25
  s : BoxAt w' (w.heap.size + 1) #[.int .i64 10, .int .i64 3, .int .i64 4, .int .i64 5] 52
theorem SamS.grow {w w1 w2 : World} (h : SamS w w1) (hb : Below w1.heap.size w1 w2) : SamS w w2 :=
  ⟨h.bel.trans (hb.mono h.bel.size), h.r.grow hb, h.s.grow hb⟩
def SamplePost (w : World) (e : Ending) (w' : World) : Prop :=
  ∃ g1 g2 : Nat, e = .returned (.agg #[.int .i64 2, .slice (some ⟨g1, 0, none⟩) 2 2, .slice (some ⟨g2, 0, none⟩) 3 3]) ∧ SeamsAt w' (some ⟨g1, 0, none⟩) 2 sS ∧ TicketsAt w' (some ⟨g2, 0, none⟩) 3 sT ∧ Below w.heap.size w w'

set_option maxRecDepth 100000 in
set_option maxHeartbeats 4000000 in
theorem sample_any (w : World) : Calls Try.prog 44 #[] w (SamplePost w) := by
  have HX := Lib.hid (show SamS w ((w.alloc (.cells #[.int .i64 0, .slice none 0 0, .slice none 0 0] 25)).alloc (.cells #[.int .i64 10, .int .i64 3, .int .i64 4, .int .i64 5] 52)) from ⟨((Below.refl _ _).alloc (Nat.le_refl _) _).alloc (by simp) _, (blocks2 rfl).1, (blocks2 rfl).2.1⟩)
  go_enter Try.func44, Try.ntmps44
  go_wp2_with (first | (go_at_call 42; refine (span_any _ _ _).mono ?_; rintro e w1 ⟨rfl, hb⟩; replace HX := Lib.hid (HX.out.grow hb); clear hb) | (go_at_call 41; refine (ticket_any _ _ _ _ _ _ _ _ _).mono ?_; rintro e w1 ⟨rfl, hb⟩; replace HX := Lib.hid (HX.out.grow hb); clear hb; (try clear d0 d1 d2 f0 f1 f2); have d0 := fun o => cellAt (HX.out.r.grow ((Below.refl _ _).alloc (Nat.le_refl _) o)) 0; have d1 := fun o => cellAt (HX.out.r.grow ((Below.refl _ _).alloc (Nat.le_refl _) o)) 1; have d2 := fun o => cellAt (HX.out.r.grow ((Below.refl _ _).alloc (Nat.le_refl _) o)) 2; have f0 := fun o => freeAt (HX.out.r.grow ((Below.refl _ _).alloc (Nat.le_refl _) o)) 0; have f1 := fun o => freeAt (HX.out.r.grow ((Below.refl _ _).alloc (Nat.le_refl _) o)) 1; have f2 := fun o => freeAt (HX.out.r.grow ((Below.refl _ _).alloc (Nat.le_refl _) o)) 2))
  have hs1 := HX.out.bel.size
  have hs2 := lt_of_heap HX.out.s
  have IT : TicketsAt (w1.alloc (.cells (tkVals sT 3).toArray 58)) (some ⟨w1.heap.size, 0, none⟩) 3 sT := box_tickets (blocks1 rfl).1 (by unfold maxLen; omega)
  have IX := HX.out.grow ((Below.refl _ _).alloc (Nat.le_refl _) (.cells (tkVals sT 3).toArray 58))
  have IS : SeamsAt (w1.alloc (.cells (tkVals sT 3).toArray 58)) (some ⟨w.heap.size + 1, 0, none⟩) 2 sS := box_seams2 IX.s
  refine bodyPost_ret (v := .agg #[.int .i64 2, .slice (some ⟨w.heap.size + 1, 0, none⟩) 2 2, .slice (some ⟨w1.heap.size, 0, none⟩) 3 3]) (by simp [results, Try.results44, go_sem, d0, d1, d2]) rfl ⟨w.heap.size + 1, w1.heap.size, rfl, ?_, ?_, ?_⟩
  · exact ((IS.set ⟨w.heap.size, 0, none⟩ _ (by simp [blk])).set ⟨w.heap.size, 1, none⟩ _ (by simp [blk])).set ⟨w.heap.size, 2, none⟩ _ (by simp [blk])
  · exact ((IT.set ⟨w.heap.size, 0, none⟩ _ (by simp [blk]; omega)).set ⟨w.heap.size, 1, none⟩ _ (by simp [blk]; omega)).set ⟨w.heap.size, 2, none⟩ _ (by simp [blk]; omega)
  · exact ((IX.bel.setCell (p := ⟨w.heap.size, 0, none⟩) (Nat.le_refl _) _).setCell (p := ⟨w.heap.size, 1, none⟩) (Nat.le_refl _) _).setCell (p := ⟨w.heap.size, 2, none⟩) (Nat.le_refl _) _
end Go.Proofs.Ytbpeamppkdmdcaa

namespace Go.Proofs.Ytbpeamppkdmdcaa
open Go.RowKit

theorem sam_valid : Valid 2 2 3 sS sT := by
  refine ⟨by omega, by omega, by omega, by omega, fun j hj => ?_, fun j hj => ?_, fun i hi => ?_, fun i hi => ?_, fun i hi => ?_, fun i hi => ?_⟩
  · obtain rfl | rfl : j = 0 ∨ j = 1 := by omega
    all_goals simp [sS]
  · obtain rfl | rfl : j = 0 ∨ j = 1 := by omega
    all_goals simp [sS]
  all_goals
    obtain rfl | rfl | rfl : i = 0 ∨ i = 1 ∨ i = 2 := by omega
    all_goals first | decide +kernel | simp [sT]
theorem sam_f0 : manyOf sS sT (leastK 0 sT) 3 0 0 = 4 := by decide +kernel
theorem sam_f1 : manyOf sS sT (mostK 0 sT) 3 0 0 = 6 := by decide +kernel
theorem sam_d0 : coinsOf sS sT (leastK 1 sT) 2 3 1 = 21 := by decide +kernel
theorem sam_d1 : coinsOf sS sT (mostK 1 sT) 2 3 1 = 32 := by decide +kernel
theorem sam_w : setN sT 3 0 4 2 = 3 := by decide +kernel
theorem sam_n : decide (ownerOf sT (mostK (-1) sT) 3 0 4 = -1) = false := by decide +kernel
theorem sam_l0 : manyOf sS sT (leastK (-1) sT) 3 1 (-1) = 0 := by decide +kernel
theorem sam_l1 : manyOf sS sT (mostK (-1) sT) 3 1 (-1) = 1 := by decide +kernel
theorem sam_p0 : allOf sS 2 - coinsOf sS sT (mostK (-1) sT) 2 3 (-1) = 39 := by decide +kernel
theorem sam_p1 : allOf sS 2 - coinsOf sS sT (leastK (-1) sT) 2 3 (-1) = 44 := by decide +kernel
def eF (i : Nat) : Int := if i = 1 then 4 else 0
def eT (i : Nat) : Int := if i = 0 then 5 else if i = 1 then 8 else 4
def eD (i : Nat) : Int := if i = 2 then 5 else 2
theorem sam_eb : exB 3 3 3 3 sT eF eT eD = true := by decide +kernel
theorem sam_e : intsEq 2 2 (fun c => coinsOf sS sT (toldK eF eT eD) 2 3 c) (fun i => if i = 0 then 15 else 29) = true := by decide +kernel
theorem sam_a0 : spreadOf sS sT 2 3 0 ≠ 0 := by decide +kernel
theorem sam_a1 : fewI (wideOf sS sT 2 3 0) 3 = 1 := by decide +kernel
theorem sam_a2 : fewV (wideOf sS sT 2 3 0) 3 = 3 := by decide +kernel
def hF (i : Nat) : Int := if i = 0 then 3 else if i = 1 then 2 else 1
def hG (i : Nat) : Int := if i = 0 then 4 else if i = 1 then 2 else 1
theorem sam_sb : shareOk 7 3 hF = true := by decide +kernel
theorem sam_s : intsEq 3 3 (shareF hF 3 7) hG = true := by decide +kernel
end Go.Proofs.Ytbpeamppkdmdcaa

namespace Go.Proofs.Ytbpeamppkdmdcaa
open Go.RowKit

theorem Said.yes {w : World} {V : Prop} {b : Bool} {x x2 x1 : Value} {e : Ending} {w' : World} (h : Said w V b x x2 x1 e w') (hv : V) (hb : b = true) : e = .returned x ∧ Below w.heap.size w w' := by
  obtain ⟨h0, ⟨_, _, h⟩ | ⟨_, h, _⟩ | ⟨h, _⟩⟩ := h
  · exact ⟨h, h0⟩
  · rw [hb] at h; cases h
  · exact absurd hv h

structure Aw (w : World) (g1 g2 b1 : Nat) (w' : World) : Prop where
  bel : Below w.heap.size w w'
  box : BoxAt w' b1 #[.int .i64 2, .slice (some ⟨g1, 0, none⟩) 2 2, .slice (some ⟨g2, 0, none⟩) 3 3] 25
  ss : SeamsAt w' (some ⟨g1, 0, none⟩) 2 sS
  tt : TicketsAt w' (some ⟨g2, 0, none⟩) 3 sT
theorem Aw.grow {w : World} {g1 g2 b1 : Nat} {w1 w2 : World} (h : Aw w g1 g2 b1 w1) (hb : Below w1.heap.size w1 w2) : Aw w g1 g2 b1 w2 :=
  ⟨h.bel.trans (hb.mono h.bel.size), h.box.grow hb, h.ss.grow hb, h.tt.grow hb⟩
section
variable {w W : World} {g1 g2 b1 : Nat}
theorem Aw.c15 (h : Aw w g1 g2 b1 W) : Calls Try.prog 15 #[.agg #[.int .i64 2, .slice (some ⟨g1, 0, none⟩) 2 2, .slice (some ⟨g2, 0, none⟩) 3 3], .int .i64 0, .int .i64 0] W fun e w' => e = .returned (.tuple #[.agg #[.int .i64 4, .int .i64 6], .int .i64 0]) ∧ Below W.heap.size W w' :=
  (fathoms_any 2 _ _ 2 2 3 3 sS sT 0 0 W h.ss h.tt).mono fun e w' k => by have := k.yes sam_valid (by decide); rw [sam_f0, sam_f1] at this; exact this
theorem Aw.c21 (h : Aw w g1 g2 b1 W) : Calls Try.prog 21 #[.agg #[.int .i64 2, .slice (some ⟨g1, 0, none⟩) 2 2, .slice (some ⟨g2, 0, none⟩) 3 3], .int .i64 1] W fun e w' => e = .returned (.tuple #[.agg #[.int .i64 21, .int .i64 32], .int .i64 0]) ∧ Below W.heap.size W w' :=
  (dues_any 2 _ _ 2 2 3 3 sS sT 1 W h.ss h.tt).mono fun e w' k => by have := k.yes sam_valid (by decide); rw [sam_d0, sam_d1] at this; exact this
theorem Aw.c19 (h : Aw w g1 g2 b1 W) : Calls Try.prog 19 #[.agg #[.int .i64 2, .slice (some ⟨g1, 0, none⟩) 2 2, .slice (some ⟨g2, 0, none⟩) 3 3], .int .i64 0, .int .i64 4] W fun e w' => e = .returned (.tuple #[.int .i64 3, .bool false, .int .i64 0]) ∧ Below W.heap.size W w' :=
  (whoses_any 2 _ _ 2 2 3 3 sS sT 0 4 W h.ss h.tt).mono fun e w' ⟨k0, k⟩ => by
    have e1 : setN sT 3 0 (4 : Int).toNat (2 : Int).toNat = 3 := sam_w
    have e2 : decide (ownerOf sT (mostK (-1) sT) 3 0 (4 : Int).toNat = -1) = false := sam_n
    rw [e1, e2] at k
    rcases k with ⟨_, _, h⟩ | ⟨_, h, _⟩ | ⟨h, _⟩
    · exact ⟨h, k0⟩
    · exact absurd h (by decide)
    · exact absurd sam_valid h
theorem Aw.c17 (h : Aw w g1 g2 b1 W) : Calls Try.prog 17 #[.agg #[.int .i64 2, .slice (some ⟨g1, 0, none⟩) 2 2, .slice (some ⟨g2, 0, none⟩) 3 3], .int .i64 1] W fun e w' => e = .returned (.tuple #[.agg #[.int .i64 0, .int .i64 1], .int .i64 0]) ∧ Below W.heap.size W w' :=
  (left_any 2 _ _ 2 2 3 3 sS sT 1 W h.ss h.tt).mono fun e w' k => by have := k.yes sam_valid (by decide); rw [sam_l0, sam_l1] at this; exact this
theorem Aw.c23 (h : Aw w g1 g2 b1 W) : Calls Try.prog 23 #[.agg #[.int .i64 2, .slice (some ⟨g1, 0, none⟩) 2 2, .slice (some ⟨g2, 0, none⟩) 3 3]] W fun e w' => e = .returned (.tuple #[.agg #[.int .i64 39, .int .i64 44], .int .i64 0]) ∧ Below W.heap.size W w' :=
  (paid_any 2 _ _ 2 2 3 3 sS sT W h.ss h.tt).mono fun e w' k => by have := k.yes sam_valid rfl; rw [sam_p0, sam_p1] at this; exact this
theorem Aw.c25 (h : Aw w g1 g2 b1 W) {x1 x2 x3 : Nat} (h1 : IntsAt W (some ⟨x1, 0, none⟩) 3 eF) (h2 : IntsAt W (some ⟨x2, 0, none⟩) 3 eT) (h3 : IntsAt W (some ⟨x3, 0, none⟩) 3 eD) :
    Calls Try.prog 25 #[.agg #[.int .i64 2, .slice (some ⟨g1, 0, none⟩) 2 2, .slice (some ⟨g2, 0, none⟩) 3 3], .slice (some ⟨x1, 0, none⟩) 3 3, .slice (some ⟨x2, 0, none⟩) 3 3, .slice (some ⟨x3, 0, none⟩) 3 3] W
      fun e w' => ∃ g, e = .returned (.tuple #[.slice (some ⟨g, 0, none⟩) 2 2, .int .i64 0]) ∧ IntsAt w' (some ⟨g, 0, none⟩) 2 (fun c => coinsOf sS sT (toldK eF eT eD) 2 3 c) ∧ Below W.heap.size W w' :=
  (exacts_any 2 _ _ 2 2 3 3 sS sT _ _ _ 3 3 3 3 3 3 eF eT eD W h.ss h.tt h1 h2 h3).mono fun e w' ⟨k0, k⟩ => by
    rcases k with ⟨_, _, g, _, h, hg⟩ | ⟨_, h, _⟩ | ⟨h, _⟩
    · exact ⟨g, h, ints_box hg (by unfold maxLen; decide), k0⟩
    · rw [sam_eb] at h; cases h
    · exact absurd sam_valid h
theorem Aw.c28 (h : Aw w g1 g2 b1 W) : Calls Try.prog 28 #[.agg #[.int .i64 2, .slice (some ⟨g1, 0, none⟩) 2 2, .slice (some ⟨g2, 0, none⟩) 3 3], .int .i64 0] W fun e w' => e = .returned (.tuple #[.int .i64 1, .int .i64 3, .int .i64 0]) ∧ Below W.heap.size W w' :=
  (asks_any 2 _ _ 2 2 3 3 sS sT 0 W h.ss h.tt).mono fun e w' ⟨k0, k⟩ => by
    rcases k with ⟨_, _, _, h⟩ | ⟨_, _, h, _⟩ | ⟨_, h, _⟩ | ⟨h, _⟩
    · rw [sam_a1, sam_a2] at h; exact ⟨h, k0⟩
    · exact absurd h sam_a0
    · exact absurd h (by decide)
    · exact absurd sam_valid h
theorem c30 {x1 : Nat} (h1 : IntsAt W (some ⟨x1, 0, none⟩) 3 hF) : Calls Try.prog 30 #[.int .i64 7, .slice (some ⟨x1, 0, none⟩) 3 3] W
      fun e w' => ∃ g, e = .returned (.tuple #[.slice (some ⟨g, 0, none⟩) 3 3, .int .i64 0]) ∧ IntsAt w' (some ⟨g, 0, none⟩) 3 (shareF hF 3 7) ∧ Below W.heap.size W w' :=
  (shares_any 7 _ 3 3 hF W h1).mono fun e w' ⟨k0, k⟩ => by
    rcases k with ⟨_, g, _, h, hg⟩ | ⟨h, _⟩
    · exact ⟨g, h, ints_box hg (by unfold maxLen; decide), k0⟩
    · rw [sam_sb] at h; cases h
end
end Go.Proofs.Ytbpeamppkdmdcaa

namespace Go.Proofs.Ytbpeamppkdmdcaa
open Go.RowKit

theorem ints3 {w : World} {g : Nat} {f : Nat → Int} {t : TypeId} (h : BoxAt w g #[.int .i64 (f 0), .int .i64 (f 1), .int .i64 (f 2)] t) : IntsAt w (some ⟨g, 0, none⟩) 3 f :=
  ints_box (t := t) h (by unfold maxLen; decide)
theorem ints2' {w : World} {g : Nat} {f : Nat → Int} {t : TypeId} (h : BoxAt w g #[.int .i64 (f 0), .int .i64 (f 1)] t) : IntsAt w (some ⟨g, 0, none⟩) 2 f :=
  ints_box (t := t) h (by unfold maxLen; decide)
theorem ba (w : World) (o : Obj) : Below w.heap.size w (w.alloc o) := (Below.refl _ _).alloc (Nat.le_refl _) o

theorem eqL {W : World} {gl : Nat} (hl : IntsAt W (some ⟨gl, 0, none⟩) 2 (fun c => coinsOf sS sT (toldK eF eT eD) 2 3 c)) :
    Calls Try.prog 27 #[.slice (some ⟨gl, 0, none⟩) 2 2, .slice (some ⟨W.heap.size, 0, none⟩) 2 2] (W.alloc (.cells #[.int .i64 15, .int .i64 29] 3)) fun e w' => e = .returned (.bool true) ∧ Below W.heap.size W w' :=
  (ints_any _ _ 2 2 2 2 _ (fun i => if i = 0 then 15 else 29) _ (hl.grow (ba _ _)) (ints2' (t := 3) (blocks1 rfl).1)).mono fun e w' ⟨h, hb⟩ => ⟨by rw [h, sam_e], (ba _ _).trans (hb.mono (by simp))⟩
theorem eqQ {W : World} {gl : Nat} (hl : IntsAt W (some ⟨gl, 0, none⟩) 3 (shareF hF 3 7)) :
    Calls Try.prog 27 #[.slice (some ⟨gl, 0, none⟩) 3 3, .slice (some ⟨W.heap.size, 0, none⟩) 3 3] (W.alloc (.cells #[.int .i64 4, .int .i64 2, .int .i64 1] 3)) fun e w' => e = .returned (.bool true) ∧ Below W.heap.size W w' :=
  (ints_any _ _ 3 3 3 3 _ hG _ (hl.grow (ba _ _)) (ints3 (f := hG) (t := 3) (blocks1 rfl).1)).mono fun e w' ⟨h, hb⟩ => ⟨by rw [h, sam_s], (ba _ _).trans (hb.mono (by simp))⟩

set_option maxRecDepth 100000 in
set_option maxHeartbeats 4000000 in
theorem awake_any (w : World) : Calls Try.prog 14 #[] w fun e w' => e = .returned (.bool true) ∧ Below w.heap.size w w' := by
  go_enter Try.func14, Try.ntmps14
  go_wp2_with fail
  refine (sample_any w).mono ?_
  rintro e w1 ⟨g1, g2, rfl, hs, ht, hb⟩
  have A1 := Lib.hid (show Aw w g1 g2 w1.heap.size (w1.alloc (.cells #[.int .i64 2, .slice (some ⟨g1, 0, none⟩) 2 2, .slice (some ⟨g2, 0, none⟩) 3 3] 25)) from ⟨hb.next (ba _ _), (blocks1 rfl).1, hs.grow (ba _ _), ht.grow (ba _ _)⟩)
  clear hs ht hb
  obtain ⟨b1, hb1⟩ : ∃ b1, b1 = w1.heap.size := ⟨_, rfl⟩
  have HB1 := Lib.hid hb1
  clear hb1
  go_wp2_with fail
  refine A1.out.c15.mono ?_
  rintro e w2 ⟨rfl, hb⟩
  have A2 := Lib.hid (A1.out.grow hb)
  have d0 := fun o => cellAt (A2.out.box.grow (ba _ o)) 0
  have d1 := fun o => cellAt (A2.out.box.grow (ba _ o)) 1
  have d2 := fun o => cellAt (A2.out.box.grow (ba _ o)) 2
  clear hb A1
  go_wp2_with fail
  refine (A2.out.grow (ba _ _)).c21.mono ?_
  rintro e w3 ⟨rfl, hb⟩
  have A3 := Lib.hid ((A2.out.grow (ba _ _)).grow hb)
  have Ra := Lib.hid (BoxAt.grow (blocks1 rfl).1 hb)
  clear d0 d1 d2 hb A2
  have d0 := fun o => cellAt (A3.out.box.grow (ba _ o)) 0
  have d1 := fun o => cellAt (A3.out.box.grow (ba _ o)) 1
  have d2 := fun o => cellAt (A3.out.box.grow (ba _ o)) 2
  go_wp2_with fail
  refine (A3.out.grow (ba _ _)).c19.mono ?_
  rintro e w4 ⟨rfl, hb⟩
  have A4 := Lib.hid ((A3.out.grow (ba _ _)).grow hb)
  have Rb := Lib.hid (BoxAt.grow (blocks1 rfl).1 hb)
  replace Ra := Lib.hid ((Ra.out.grow (ba _ _)).grow hb)
  clear d0 d1 d2 hb A3
  have d0 := cellAt A4.out.box 0
  have d1 := cellAt A4.out.box 1
  have d2 := cellAt A4.out.box 2
  go_wp2_with fail
  refine A4.out.c17.mono ?_
  rintro e w5 ⟨rfl, hb⟩
  have A5 := Lib.hid (A4.out.grow hb)
  replace Ra := Lib.hid (Ra.out.grow hb)
  replace Rb := Lib.hid (Rb.out.grow hb)
  clear d0 d1 d2 hb A4
  have d0 := fun o => cellAt (A5.out.box.grow (ba _ o)) 0
  have d1 := fun o => cellAt (A5.out.box.grow (ba _ o)) 1
  have d2 := fun o => cellAt (A5.out.box.grow (ba _ o)) 2
  go_wp2_with fail
  refine (A5.out.grow (ba _ _)).c23.mono ?_
  rintro e w6 ⟨rfl, hb⟩
  have A6 := Lib.hid ((A5.out.grow (ba _ _)).grow hb)
  have Rh := Lib.hid (BoxAt.grow (blocks1 rfl).1 hb)
  replace Ra := Lib.hid ((Ra.out.grow (ba _ _)).grow hb)
  replace Rb := Lib.hid ((Rb.out.grow (ba _ _)).grow hb)
  clear d0 d1 d2 hb A5
  have d0 := fun o => cellAt (A6.out.box.grow (ba _ o)) 0
  have d1 := fun o => cellAt (A6.out.box.grow (ba _ o)) 1
  have d2 := fun o => cellAt (A6.out.box.grow (ba _ o)) 2
  go_wp2_with fail
  generalize hW7 : World.alloc _ _ = W7
  obtain ⟨q0, q1, q2, q3, hz, hB⟩ := blocks4 hW7
  clear hW7
  have i1 : IntsAt W7 (some ⟨w6.heap.size + 1, 0, none⟩) 3 eF := ints3 (t := 3) q1
  have i2 : IntsAt W7 (some ⟨w6.heap.size + 1 + 1, 0, none⟩) 3 eT := ints3 (t := 3) q2
  have i3 : IntsAt W7 (some ⟨w6.heap.size + 1 + 1 + 1, 0, none⟩) 3 eD := ints3 (t := 3) q3
  refine ((A6.out.grow hB).c25 i1 i2 i3).mono ?_
  rintro e w8 ⟨gl, rfl, hl, hb⟩
  have A8 := Lib.hid ((A6.out.grow hB).grow hb)
  have Rj := Lib.hid (BoxAt.grow (t := 29) q0 hb)
  replace Ra := Lib.hid ((Ra.out.grow hB).grow hb)
  replace Rb := Lib.hid ((Rb.out.grow hB).grow hb)
  replace Rh := Lib.hid ((Rh.out.grow hB).grow hb)
  have Rl := Lib.hid hl
  clear d0 d1 d2 hb A6 q0 q1 q2 q3 hz hB i1 i2 i3 hl
  have d0 := cellAt A8.out.box 0
  have d1 := cellAt A8.out.box 1
  have d2 := cellAt A8.out.box 2
  go_wp2_with fail
  refine A8.out.c28.mono ?_
  rintro e w9 ⟨rfl, hb⟩
  have A9 := Lib.hid (A8.out.grow hb)
  replace Ra := Lib.hid (Ra.out.grow hb)
  replace Rb := Lib.hid (Rb.out.grow hb)
  replace Rh := Lib.hid (Rh.out.grow hb)
  replace Rj := Lib.hid (Rj.out.grow hb)
  replace Rl := Lib.hid (Rl.out.grow hb)
  clear d0 d1 d2 hb A8
  go_wp2_with fail
  refine (c30 (ints3 (f := hF) (t := 3) (blocks1 rfl).1)).mono ?_
  rintro e w10 ⟨gq, rfl, hq, hb⟩
  replace hb := (ba _ _).trans (hb.mono (by simp))
  have HD := Below.drew (Below.refl w10.heap.size w10)
  have B10 := Lib.hid (A9.out.bel.next hb)
  have B11 := Lib.hid (B10.out.next HD)
  replace Ra := Lib.hid ((Ra.out.grow hb).grow HD)
  replace Rb := Lib.hid ((Rb.out.grow hb).grow HD)
  replace Rh := Lib.hid ((Rh.out.grow hb).grow HD)
  replace Rj := Lib.hid ((Rj.out.grow hb).grow HD)
  replace Rl := Lib.hid ((Rl.out.grow hb).grow HD)
  have Rq := Lib.hid (hq.grow HD)
  clear hb A9 hq HD
  go_wp2_with fail
  have hq0 : ∀ w, (binOp .neq 29 (.agg #[.int .i64 4, .int .i64 6]) (.agg #[.int .i64 4, .int .i64 6])).run Try.prog w = .ok (.bool false) w := fun _ => by kernel_rfl
  have hq1 : ∀ w, (binOp .neq 29 (.agg #[.int .i64 21, .int .i64 32]) (.agg #[.int .i64 21, .int .i64 32])).run Try.prog w = .ok (.bool false) w := fun _ => by kernel_rfl
  have hq2 : ∀ w, (binOp .neq 29 (.agg #[.int .i64 0, .int .i64 1]) (.agg #[.int .i64 0, .int .i64 1])).run Try.prog w = .ok (.bool false) w := fun _ => by kernel_rfl
  refine wp_region_held_drew (S := (fun w' => ((w'.cell? ⟨w2.heap.size, 0, none⟩ = some (.int .i64 4) ∧ w'.cell? ⟨w2.heap.size, 1, none⟩ = some (.int .i64 6)) ∧ (w'.cell? ⟨w3.heap.size, 0, none⟩ = some (.int .i64 21) ∧ w'.cell? ⟨w3.heap.size, 1, none⟩ = some (.int .i64 32)) ∧ (w'.cell? ⟨w5.heap.size, 0, none⟩ = some (.int .i64 0) ∧ w'.cell? ⟨w5.heap.size, 1, none⟩ = some (.int .i64 1))))) (by kernel_rfl) (by exact ⟨⟨cellAt Ra.out 0, cellAt Ra.out 1⟩, ⟨cellAt Rb.out 0, cellAt Rb.out 1⟩, ⟨cellAt Rh.out 0, cellAt Rh.out 1⟩⟩) (fun hHeld => ?_)
  refine wpAnyH_take (i := 0) (oi := { dst := some 66, op := Op.load 29 (Operand.tmp 2), type := 29, pos := "law.go:37", after := #[], guard := none }) (v := ?_) rfl (by kernel_rfl) (by kernel_rfl) (by kernel_rfl) (fun _ _ _ h => h) (Or.inl ⟨by rfl, ?_⟩) (by assumption) ?_
  rotate_left
  · (intro w9 hSw; (try dsimp only at hSw); (go_split_ands; go_simp); (try with_reducible rfl))
  try simp only [Act.put, List.setIfInBounds_toArray, List.set_cons_zero, List.set_cons_succ]
  refine wpAnyH_ready (rs := [1]) (by kernel_rfl) (by simp) ?_
  refine AllReadyH.cons (o := { dst := some 67, op := Op.call { callee := Callee.value (Operand.func 42), args := #[Operand.const (Value.int IntKind.i64 4), Operand.const (Value.int IntKind.i64 6)], argTypes := #[3, 3] }, type := 29, pos := "law.go:37", after := #[], guard := none }) rfl (fun K hK => ?_) AllReadyH.nil
  go_simp
  refine (span_any _ _ _).mono ?_; rintro e w9 ⟨rfl, hb⟩; replace Ra := Lib.hid (Ra.out.grow hb); replace Rb := Lib.hid (Rb.out.grow hb); replace Rh := Lib.hid (Rh.out.grow hb); replace Rj := Lib.hid (Rj.out.grow hb); replace Rl := Lib.hid (Rl.out.grow hb); replace Rq := Lib.hid (Rq.out.grow hb); replace B11 := Lib.hid (B11.out.next hb); clear hb
  go_wp2_with fail
  refine hK.out _ _ ?_ (fun hHeld => ?_)
  · exact ⟨⟨cellAt Ra.out 0, cellAt Ra.out 1⟩, ⟨cellAt Rb.out 0, cellAt Rb.out 1⟩, ⟨cellAt Rh.out 0, cellAt Rh.out 1⟩⟩
  clear hK K
  try simp only [Act.put, List.setIfInBounds_toArray, List.set_cons_zero, List.set_cons_succ]
  refine wpAnyH_take (i := 2) (oi := { dst := some 68, op := Op.binOp BinOp.neq 29 (Operand.tmp 66) (Operand.tmp 67) 29, type := 4, pos := "law.go:37", after := #[{ on := 0, ground := Ground.data }, { on := 1, ground := Ground.data }], guard := none }) (v := ?_) rfl (by kernel_rfl) (by kernel_rfl) (by kernel_rfl) (fun _ _ _ h => h) (Or.inl ⟨by rfl, ?_⟩) (by assumption) ?_
  rotate_left
  · (intro w9 hSw; (try dsimp only at hSw); (go_split_ands; go_simp); (try with_reducible rfl))
  try simp only [Act.put, List.setIfInBounds_toArray, List.set_cons_zero, List.set_cons_succ]
  refine wpAnyH_take (i := 3) (oi := { dst := some 69, op := Op.move (Operand.tmp 68), type := 4, pos := "law.go:37", after := #[{ on := 2, ground := Ground.data }, { on := 1, ground := Ground.chain }], guard := none }) (v := ?_) rfl (by kernel_rfl) (by kernel_rfl) (by kernel_rfl) (fun _ _ _ h => h) (Or.inl ⟨by rfl, ?_⟩) (by assumption) ?_
  rotate_left
  · (intro w9 hSw; (try dsimp only at hSw); (go_split_ands; go_simp); (try with_reducible rfl))
  try simp only [Act.put, List.setIfInBounds_toArray, List.set_cons_zero, List.set_cons_succ]
  refine wpAnyH_take (i := 4) (oi := { dst := some 70, op := Op.move (Operand.tmp 3), type := 30, pos := "law.go:37", after := #[{ on := 3, ground := Ground.guard }], guard := some (3, false) }) (v := ?_) rfl (by kernel_rfl) (by kernel_rfl) (by kernel_rfl) (fun _ _ _ h => h) (Or.inl ⟨by rfl, ?_⟩) (by assumption) ?_
  rotate_left
  · (intro w9 hSw; (try dsimp only at hSw); (go_split_ands; go_simp); (try with_reducible rfl))
  try simp only [Act.put, List.setIfInBounds_toArray, List.set_cons_zero, List.set_cons_succ]
  refine wpAnyH_take (i := 5) (oi := { dst := some 71, op := Op.binOp BinOp.neq 30 (Operand.tmp 70) (Operand.const (Value.int IntKind.i64 0)) 30, type := 4, pos := "law.go:37", after := #[{ on := 4, ground := Ground.data }, { on := 3, ground := Ground.guard }], guard := some (3, false) }) (v := ?_) rfl (by kernel_rfl) (by kernel_rfl) (by kernel_rfl) (fun _ _ _ h => h) (Or.inl ⟨by rfl, ?_⟩) (by assumption) ?_
  rotate_left
  · (intro w9 hSw; (try dsimp only at hSw); (go_split_ands; go_simp); (try with_reducible rfl))
  try simp only [Act.put, List.setIfInBounds_toArray, List.set_cons_zero, List.set_cons_succ]
  refine wpAnyH_take (i := 6) (oi := { dst := some 72, op := Op.pick (Operand.tmp 69) (Operand.const (Value.bool true)) (Operand.tmp 71), type := 4, pos := "law.go:37", after := #[{ on := 3, ground := Ground.data }, { on := 5, ground := Ground.data }], guard := none }) (v := ?_) rfl (by kernel_rfl) (by kernel_rfl) (by kernel_rfl) (fun _ _ _ h => h) (Or.inl ⟨by rfl, ?_⟩) (by assumption) ?_
  rotate_left
  · (intro w9 hSw; (try dsimp only at hSw); (go_split_ands; go_simp); (try with_reducible rfl))
  try simp only [Act.put, List.setIfInBounds_toArray, List.set_cons_zero, List.set_cons_succ]
  refine wpAnyH_take (i := 7) (oi := { dst := some 73, op := Op.move (Operand.tmp 72), type := 4, pos := "law.go:37", after := #[{ on := 6, ground := Ground.data }, { on := 3, ground := Ground.chain }], guard := none }) (v := ?_) rfl (by kernel_rfl) (by kernel_rfl) (by kernel_rfl) (fun _ _ _ h => h) (Or.inl ⟨by rfl, ?_⟩) (by assumption) ?_
  rotate_left
  · (intro w9 hSw; (try dsimp only at hSw); (go_split_ands; go_simp); (try with_reducible rfl))
  try simp only [Act.put, List.setIfInBounds_toArray, List.set_cons_zero, List.set_cons_succ]
  refine wpAnyH_take (i := 8) (oi := { dst := some 74, op := Op.load 29 (Operand.tmp 4), type := 29, pos := "law.go:37", after := #[{ on := 7, ground := Ground.guard }], guard := some (7, false) }) (v := ?_) rfl (by kernel_rfl) (by kernel_rfl) (by kernel_rfl) (fun _ _ _ h => h) (Or.inl ⟨by rfl, ?_⟩) (by assumption) ?_
  rotate_left
  · (intro w9 hSw; (try dsimp only at hSw); (go_split_ands; go_simp); (try with_reducible rfl))
  try simp only [Act.put, List.setIfInBounds_toArray, List.set_cons_zero, List.set_cons_succ]
  refine wpAnyH_ready (rs := [9]) (by kernel_rfl) (by simp) ?_
  refine AllReadyH.cons (o := { dst := some 75, op := Op.call { callee := Callee.value (Operand.func 42), args := #[Operand.const (Value.int IntKind.i64 21), Operand.const (Value.int IntKind.i64 32)], argTypes := #[3, 3] }, type := 29, pos := "law.go:37", after := #[{ on := 7, ground := Ground.chain }, { on := 7, ground := Ground.guard }], guard := some (7, false) }) rfl (fun K hK => ?_) AllReadyH.nil
  go_simp
  refine (span_any _ _ _).mono ?_; rintro e w9 ⟨rfl, hb⟩; replace Ra := Lib.hid (Ra.out.grow hb); replace Rb := Lib.hid (Rb.out.grow hb); replace Rh := Lib.hid (Rh.out.grow hb); replace Rj := Lib.hid (Rj.out.grow hb); replace Rl := Lib.hid (Rl.out.grow hb); replace Rq := Lib.hid (Rq.out.grow hb); replace B11 := Lib.hid (B11.out.next hb); clear hb
  go_wp2_with fail
  refine hK.out _ _ ?_ (fun hHeld => ?_)
  · exact ⟨⟨cellAt Ra.out 0, cellAt Ra.out 1⟩, ⟨cellAt Rb.out 0, cellAt Rb.out 1⟩, ⟨cellAt Rh.out 0, cellAt Rh.out 1⟩⟩
  clear hK K
  try simp only [Act.put, List.setIfInBounds_toArray, List.set_cons_zero, List.set_cons_succ]
  refine wpAnyH_take (i := 10) (oi := { dst := some 76, op := Op.binOp BinOp.neq 29 (Operand.tmp 74) (Operand.tmp 75) 29, type := 4, pos := "law.go:37", after := #[{ on := 8, ground := Ground.data }, { on := 9, ground := Ground.data }, { on := 7, ground := Ground.guard }], guard := some (7, false) }) (v := ?_) rfl (by kernel_rfl) (by kernel_rfl) (by kernel_rfl) (fun _ _ _ h => h) (Or.inl ⟨by rfl, ?_⟩) (by assumption) ?_
  rotate_left
  · (intro w9 hSw; (try dsimp only at hSw); (go_split_ands; go_simp); (try with_reducible rfl))
  try simp only [Act.put, List.setIfInBounds_toArray, List.set_cons_zero, List.set_cons_succ]
  refine wpAnyH_take (i := 11) (oi := { dst := some 77, op := Op.pick (Operand.tmp 73) (Operand.const (Value.bool true)) (Operand.tmp 76), type := 4, pos := "law.go:37", after := #[{ on := 7, ground := Ground.data }, { on := 10, ground := Ground.data }], guard := none }) (v := ?_) rfl (by kernel_rfl) (by kernel_rfl) (by kernel_rfl) (fun _ _ _ h => h) (Or.inl ⟨by rfl, ?_⟩) (by assumption) ?_
  rotate_left
  · (intro w9 hSw; (try dsimp only at hSw); (go_split_ands; go_simp); (try with_reducible rfl))
  try simp only [Act.put, List.setIfInBounds_toArray, List.set_cons_zero, List.set_cons_succ]
  refine wpAnyH_take (i := 12) (oi := { dst := some 78, op := Op.move (Operand.tmp 77), type := 4, pos := "law.go:37", after := #[{ on := 11, ground := Ground.data }, { on := 9, ground := Ground.chain }], guard := none }) (v := ?_) rfl (by kernel_rfl) (by kernel_rfl) (by kernel_rfl) (fun _ _ _ h => h) (Or.inl ⟨by rfl, ?_⟩) (by assumption) ?_
  rotate_left
  · (intro w9 hSw; (try dsimp only at hSw); (go_split_ands; go_simp); (try with_reducible rfl))
  try simp only [Act.put, List.setIfInBounds_toArray, List.set_cons_zero, List.set_cons_succ]
  refine wpAnyH_take (i := 13) (oi := { dst := some 79, op := Op.move (Operand.tmp 5), type := 30, pos := "law.go:37", after := #[{ on := 12, ground := Ground.guard }], guard := some (12, false) }) (v := ?_) rfl (by kernel_rfl) (by kernel_rfl) (by kernel_rfl) (fun _ _ _ h => h) (Or.inl ⟨by rfl, ?_⟩) (by assumption) ?_
  rotate_left
  · (intro w9 hSw; (try dsimp only at hSw); (go_split_ands; go_simp); (try with_reducible rfl))
  try simp only [Act.put, List.setIfInBounds_toArray, List.set_cons_zero, List.set_cons_succ]
  refine wpAnyH_take (i := 14) (oi := { dst := some 80, op := Op.binOp BinOp.neq 30 (Operand.tmp 79) (Operand.const (Value.int IntKind.i64 0)) 30, type := 4, pos := "law.go:37", after := #[{ on := 13, ground := Ground.data }, { on := 12, ground := Ground.guard }], guard := some (12, false) }) (v := ?_) rfl (by kernel_rfl) (by kernel_rfl) (by kernel_rfl) (fun _ _ _ h => h) (Or.inl ⟨by rfl, ?_⟩) (by assumption) ?_
  rotate_left
  · (intro w9 hSw; (try dsimp only at hSw); (go_split_ands; go_simp); (try with_reducible rfl))
  try simp only [Act.put, List.setIfInBounds_toArray, List.set_cons_zero, List.set_cons_succ]
  refine wpAnyH_take (i := 15) (oi := { dst := some 81, op := Op.pick (Operand.tmp 78) (Operand.const (Value.bool true)) (Operand.tmp 80), type := 4, pos := "law.go:37", after := #[{ on := 12, ground := Ground.data }, { on := 14, ground := Ground.data }], guard := none }) (v := ?_) rfl (by kernel_rfl) (by kernel_rfl) (by kernel_rfl) (fun _ _ _ h => h) (Or.inl ⟨by rfl, ?_⟩) (by assumption) ?_
  rotate_left
  · (intro w9 hSw; (try dsimp only at hSw); (go_split_ands; go_simp); (try with_reducible rfl))
  try simp only [Act.put, List.setIfInBounds_toArray, List.set_cons_zero, List.set_cons_succ]
  refine wpAnyH_take (i := 16) (oi := { dst := some 82, op := Op.move (Operand.tmp 81), type := 4, pos := "law.go:37", after := #[{ on := 15, ground := Ground.data }, { on := 12, ground := Ground.chain }], guard := none }) (v := ?_) rfl (by kernel_rfl) (by kernel_rfl) (by kernel_rfl) (fun _ _ _ h => h) (Or.inl ⟨by rfl, ?_⟩) (by assumption) ?_
  rotate_left
  · (intro w9 hSw; (try dsimp only at hSw); (go_split_ands; go_simp); (try with_reducible rfl))
  try simp only [Act.put, List.setIfInBounds_toArray, List.set_cons_zero, List.set_cons_succ]
  refine wpAnyH_take (i := 17) (oi := { dst := some 83, op := Op.move (Operand.tmp 6), type := 3, pos := "law.go:37", after := #[{ on := 16, ground := Ground.guard }], guard := some (16, false) }) (v := ?_) rfl (by kernel_rfl) (by kernel_rfl) (by kernel_rfl) (fun _ _ _ h => h) (Or.inl ⟨by rfl, ?_⟩) (by assumption) ?_
  rotate_left
  · (intro w9 hSw; (try dsimp only at hSw); (go_split_ands; go_simp); (try with_reducible rfl))
  try simp only [Act.put, List.setIfInBounds_toArray, List.set_cons_zero, List.set_cons_succ]
  refine wpAnyH_take (i := 18) (oi := { dst := some 84, op := Op.binOp BinOp.neq 3 (Operand.tmp 83) (Operand.const (Value.int IntKind.i64 3)) 3, type := 4, pos := "law.go:37", after := #[{ on := 17, ground := Ground.data }, { on := 16, ground := Ground.guard }], guard := some (16, false) }) (v := ?_) rfl (by kernel_rfl) (by kernel_rfl) (by kernel_rfl) (fun _ _ _ h => h) (Or.inl ⟨by rfl, ?_⟩) (by assumption) ?_
  rotate_left
  · (intro w9 hSw; (try dsimp only at hSw); (go_split_ands; go_simp); (try with_reducible rfl))
  try simp only [Act.put, List.setIfInBounds_toArray, List.set_cons_zero, List.set_cons_succ]
  refine wpAnyH_take (i := 19) (oi := { dst := some 85, op := Op.pick (Operand.tmp 82) (Operand.const (Value.bool true)) (Operand.tmp 84), type := 4, pos := "law.go:37", after := #[{ on := 16, ground := Ground.data }, { on := 18, ground := Ground.data }], guard := none }) (v := ?_) rfl (by kernel_rfl) (by kernel_rfl) (by kernel_rfl) (fun _ _ _ h => h) (Or.inl ⟨by rfl, ?_⟩) (by assumption) ?_
  rotate_left
  · (intro w9 hSw; (try dsimp only at hSw); (go_split_ands; go_simp); (try with_reducible rfl))
  try simp only [Act.put, List.setIfInBounds_toArray, List.set_cons_zero, List.set_cons_succ]
  refine wpAnyH_take (i := 20) (oi := { dst := some 86, op := Op.move (Operand.tmp 85), type := 4, pos := "law.go:37", after := #[{ on := 19, ground := Ground.data }, { on := 16, ground := Ground.chain }], guard := none }) (v := ?_) rfl (by kernel_rfl) (by kernel_rfl) (by kernel_rfl) (fun _ _ _ h => h) (Or.inl ⟨by rfl, ?_⟩) (by assumption) ?_
  rotate_left
  · (intro w9 hSw; (try dsimp only at hSw); (go_split_ands; go_simp); (try with_reducible rfl))
  try simp only [Act.put, List.setIfInBounds_toArray, List.set_cons_zero, List.set_cons_succ]
  refine wpAnyH_take (i := 21) (oi := { dst := some 87, op := Op.move (Operand.tmp 7), type := 4, pos := "law.go:37", after := #[{ on := 20, ground := Ground.guard }], guard := some (20, false) }) (v := ?_) rfl (by kernel_rfl) (by kernel_rfl) (by kernel_rfl) (fun _ _ _ h => h) (Or.inl ⟨by rfl, ?_⟩) (by assumption) ?_
  rotate_left
  · (intro w9 hSw; (try dsimp only at hSw); (go_split_ands; go_simp); (try with_reducible rfl))
  try simp only [Act.put, List.setIfInBounds_toArray, List.set_cons_zero, List.set_cons_succ]
  refine wpAnyH_take (i := 22) (oi := { dst := some 88, op := Op.pick (Operand.tmp 86) (Operand.const (Value.bool true)) (Operand.tmp 87), type := 4, pos := "law.go:37", after := #[{ on := 20, ground := Ground.data }, { on := 21, ground := Ground.data }], guard := none }) (v := ?_) rfl (by kernel_rfl) (by kernel_rfl) (by kernel_rfl) (fun _ _ _ h => h) (Or.inl ⟨by rfl, ?_⟩) (by assumption) ?_
  rotate_left
  · (intro w9 hSw; (try dsimp only at hSw); (go_split_ands; go_simp); (try with_reducible rfl))
  try simp only [Act.put, List.setIfInBounds_toArray, List.set_cons_zero, List.set_cons_succ]
  refine wpAnyH_take (i := 23) (oi := { dst := some 89, op := Op.move (Operand.tmp 88), type := 4, pos := "law.go:37", after := #[{ on := 22, ground := Ground.data }, { on := 20, ground := Ground.chain }], guard := none }) (v := ?_) rfl (by kernel_rfl) (by kernel_rfl) (by kernel_rfl) (fun _ _ _ h => h) (Or.inl ⟨by rfl, ?_⟩) (by assumption) ?_
  rotate_left
  · (intro w9 hSw; (try dsimp only at hSw); (go_split_ands; go_simp); (try with_reducible rfl))
  try simp only [Act.put, List.setIfInBounds_toArray, List.set_cons_zero, List.set_cons_succ]
  refine wpAnyH_take (i := 24) (oi := { dst := some 90, op := Op.move (Operand.tmp 8), type := 30, pos := "law.go:37", after := #[{ on := 23, ground := Ground.guard }], guard := some (23, false) }) (v := ?_) rfl (by kernel_rfl) (by kernel_rfl) (by kernel_rfl) (fun _ _ _ h => h) (Or.inl ⟨by rfl, ?_⟩) (by assumption) ?_
  rotate_left
  · (intro w9 hSw; (try dsimp only at hSw); (go_split_ands; go_simp); (try with_reducible rfl))
  try simp only [Act.put, List.setIfInBounds_toArray, List.set_cons_zero, List.set_cons_succ]
  refine wpAnyH_take (i := 25) (oi := { dst := some 91, op := Op.binOp BinOp.neq 30 (Operand.tmp 90) (Operand.const (Value.int IntKind.i64 0)) 30, type := 4, pos := "law.go:37", after := #[{ on := 24, ground := Ground.data }, { on := 23, ground := Ground.guard }], guard := some (23, false) }) (v := ?_) rfl (by kernel_rfl) (by kernel_rfl) (by kernel_rfl) (fun _ _ _ h => h) (Or.inl ⟨by rfl, ?_⟩) (by assumption) ?_
  rotate_left
  · (intro w9 hSw; (try dsimp only at hSw); (go_split_ands; go_simp); (try with_reducible rfl))
  try simp only [Act.put, List.setIfInBounds_toArray, List.set_cons_zero, List.set_cons_succ]
  refine wpAnyH_take (i := 26) (oi := { dst := some 92, op := Op.pick (Operand.tmp 89) (Operand.const (Value.bool true)) (Operand.tmp 91), type := 4, pos := "law.go:37", after := #[{ on := 23, ground := Ground.data }, { on := 25, ground := Ground.data }], guard := none }) (v := ?_) rfl (by kernel_rfl) (by kernel_rfl) (by kernel_rfl) (fun _ _ _ h => h) (Or.inl ⟨by rfl, ?_⟩) (by assumption) ?_
  rotate_left
  · (intro w9 hSw; (try dsimp only at hSw); (go_split_ands; go_simp); (try with_reducible rfl))
  try simp only [Act.put, List.setIfInBounds_toArray, List.set_cons_zero, List.set_cons_succ]
  refine wpAnyH_take (i := 27) (oi := { dst := some 93, op := Op.move (Operand.tmp 92), type := 4, pos := "law.go:37", after := #[{ on := 26, ground := Ground.data }, { on := 23, ground := Ground.chain }], guard := none }) (v := ?_) rfl (by kernel_rfl) (by kernel_rfl) (by kernel_rfl) (fun _ _ _ h => h) (Or.inl ⟨by rfl, ?_⟩) (by assumption) ?_
  rotate_left
  · (intro w9 hSw; (try dsimp only at hSw); (go_split_ands; go_simp); (try with_reducible rfl))
  try simp only [Act.put, List.setIfInBounds_toArray, List.set_cons_zero, List.set_cons_succ]
  refine wpAnyH_take (i := 28) (oi := { dst := some 94, op := Op.load 29 (Operand.tmp 9), type := 29, pos := "law.go:37", after := #[{ on := 27, ground := Ground.guard }], guard := some (27, false) }) (v := ?_) rfl (by kernel_rfl) (by kernel_rfl) (by kernel_rfl) (fun _ _ _ h => h) (Or.inl ⟨by rfl, ?_⟩) (by assumption) ?_
  rotate_left
  · (intro w9 hSw; (try dsimp only at hSw); (go_split_ands; go_simp); (try with_reducible rfl))
  try simp only [Act.put, List.setIfInBounds_toArray, List.set_cons_zero, List.set_cons_succ]
  refine wpAnyH_ready (rs := [29]) (by kernel_rfl) (by simp) ?_
  refine AllReadyH.cons (o := { dst := some 95, op := Op.call { callee := Callee.value (Operand.func 42), args := #[Operand.const (Value.int IntKind.i64 0), Operand.const (Value.int IntKind.i64 1)], argTypes := #[3, 3] }, type := 29, pos := "law.go:37", after := #[{ on := 27, ground := Ground.chain }, { on := 27, ground := Ground.guard }], guard := some (27, false) }) rfl (fun K hK => ?_) AllReadyH.nil
  go_simp
  refine (span_any _ _ _).mono ?_; rintro e w9 ⟨rfl, hb⟩; replace Ra := Lib.hid (Ra.out.grow hb); replace Rb := Lib.hid (Rb.out.grow hb); replace Rh := Lib.hid (Rh.out.grow hb); replace Rj := Lib.hid (Rj.out.grow hb); replace Rl := Lib.hid (Rl.out.grow hb); replace Rq := Lib.hid (Rq.out.grow hb); replace B11 := Lib.hid (B11.out.next hb); clear hb
  go_wp2_with fail
  refine hK.out _ _ ?_ (fun hHeld => ?_)
  · exact ⟨⟨cellAt Ra.out 0, cellAt Ra.out 1⟩, ⟨cellAt Rb.out 0, cellAt Rb.out 1⟩, ⟨cellAt Rh.out 0, cellAt Rh.out 1⟩⟩
  clear hK K
  try simp only [Act.put, List.setIfInBounds_toArray, List.set_cons_zero, List.set_cons_succ]
  refine wpAnyH_take (i := 30) (oi := { dst := some 96, op := Op.binOp BinOp.neq 29 (Operand.tmp 94) (Operand.tmp 95) 29, type := 4, pos := "law.go:37", after := #[{ on := 28, ground := Ground.data }, { on := 29, ground := Ground.data }, { on := 27, ground := Ground.guard }], guard := some (27, false) }) (v := ?_) rfl (by kernel_rfl) (by kernel_rfl) (by kernel_rfl) (fun _ _ _ h => h) (Or.inl ⟨by rfl, ?_⟩) (by assumption) ?_
  rotate_left
  · (intro w9 hSw; (try dsimp only at hSw); (go_split_ands; go_simp); (try with_reducible rfl))
  try simp only [Act.put, List.setIfInBounds_toArray, List.set_cons_zero, List.set_cons_succ]
  refine wpAnyH_take (i := 31) (oi := { dst := some 97, op := Op.pick (Operand.tmp 93) (Operand.const (Value.bool true)) (Operand.tmp 96), type := 4, pos := "law.go:37", after := #[{ on := 27, ground := Ground.data }, { on := 30, ground := Ground.data }], guard := none }) (v := ?_) rfl (by kernel_rfl) (by kernel_rfl) (by kernel_rfl) (fun _ _ _ h => h) (Or.inl ⟨by rfl, ?_⟩) (by assumption) ?_
  rotate_left
  · (intro w9 hSw; (try dsimp only at hSw); (go_split_ands; go_simp); (try with_reducible rfl))
  try simp only [Act.put, List.setIfInBounds_toArray, List.set_cons_zero, List.set_cons_succ]
  refine wpAnyH_take (i := 32) (oi := { dst := some 98, op := Op.move (Operand.tmp 97), type := 4, pos := "law.go:37", after := #[{ on := 31, ground := Ground.data }, { on := 29, ground := Ground.chain }], guard := none }) (v := ?_) rfl (by kernel_rfl) (by kernel_rfl) (by kernel_rfl) (fun _ _ _ h => h) (Or.inl ⟨by rfl, ?_⟩) (by assumption) ?_
  rotate_left
  · (intro w9 hSw; (try dsimp only at hSw); (go_split_ands; go_simp); (try with_reducible rfl))
  try simp only [Act.put, List.setIfInBounds_toArray, List.set_cons_zero, List.set_cons_succ]
  refine wpAnyH_take (i := 33) (oi := { dst := some 99, op := Op.move (Operand.tmp 10), type := 30, pos := "law.go:37", after := #[{ on := 32, ground := Ground.guard }], guard := some (32, false) }) (v := ?_) rfl (by kernel_rfl) (by kernel_rfl) (by kernel_rfl) (fun _ _ _ h => h) (Or.inl ⟨by rfl, ?_⟩) (by assumption) ?_
  rotate_left
  · (intro w9 hSw; (try dsimp only at hSw); (go_split_ands; go_simp); (try with_reducible rfl))
  try simp only [Act.put, List.setIfInBounds_toArray, List.set_cons_zero, List.set_cons_succ]
  refine wpAnyH_take (i := 34) (oi := { dst := some 100, op := Op.binOp BinOp.neq 30 (Operand.tmp 99) (Operand.const (Value.int IntKind.i64 0)) 30, type := 4, pos := "law.go:37", after := #[{ on := 33, ground := Ground.data }, { on := 32, ground := Ground.guard }], guard := some (32, false) }) (v := ?_) rfl (by kernel_rfl) (by kernel_rfl) (by kernel_rfl) (fun _ _ _ h => h) (Or.inl ⟨by rfl, ?_⟩) (by assumption) ?_
  rotate_left
  · (intro w9 hSw; (try dsimp only at hSw); (go_split_ands; go_simp); (try with_reducible rfl))
  try simp only [Act.put, List.setIfInBounds_toArray, List.set_cons_zero, List.set_cons_succ]
  refine wpAnyH_take (i := 35) (oi := { dst := some 101, op := Op.pick (Operand.tmp 98) (Operand.const (Value.bool true)) (Operand.tmp 100), type := 4, pos := "law.go:37", after := #[{ on := 32, ground := Ground.data }, { on := 34, ground := Ground.data }], guard := none }) (v := ?_) rfl (by kernel_rfl) (by kernel_rfl) (by kernel_rfl) (fun _ _ _ h => h) (Or.inl ⟨by rfl, ?_⟩) (by assumption) ?_
  rotate_left
  · (intro w9 hSw; (try dsimp only at hSw); (go_split_ands; go_simp); (try with_reducible rfl))
  try simp only [Act.put, List.setIfInBounds_toArray, List.set_cons_zero, List.set_cons_succ]
  refine wpAnyH_done (by kernel_rfl) ?_ _
  clear hHeld
  go_wp2_with fail
  clear hq0 hq1 hq2
  have HD := fun (W : World) => Below.drew (Below.refl W.heap.size W)
  replace Rj := Lib.hid (Rj.out.grow (HD _))
  replace Rl := Lib.hid (Rl.out.grow (HD _))
  replace Rq := Lib.hid (Rq.out.grow (HD _))
  replace B11 := Lib.hid (B11.out.next (HD _))
  clear HD Ra Rb Rh B10
  have hq : ∀ w, (binOp .eql 29 (.agg #[.int .i64 39, .int .i64 44]) (.agg #[.int .i64 39, .int .i64 44])).run Try.prog w = .ok (.bool true) w := fun _ => by kernel_rfl
  refine wp_region_held_drew (S := (fun w' => (w'.cell? ⟨w6.heap.size, 0, none⟩ = some (.int .i64 39) ∧ w'.cell? ⟨w6.heap.size, 1, none⟩ = some (.int .i64 44)))) (by kernel_rfl) (by exact ⟨cellAt Rj.out 0, cellAt Rj.out 1⟩) (fun hHeld => ?_)
  refine wpAnyH_take (i := 0) (oi := { dst := some 102, op := Op.load 29 (Operand.tmp 11), type := 29, pos := "law.go:40", after := #[], guard := none }) (v := ?_) rfl (by kernel_rfl) (by kernel_rfl) (by kernel_rfl) (fun _ _ _ h => h) (Or.inl ⟨by rfl, ?_⟩) (by assumption) ?_
  rotate_left
  · (intro w9 hSw; (try dsimp only at hSw); (go_split_ands; go_simp); (try with_reducible rfl))
  try simp only [Act.put, List.setIfInBounds_toArray, List.set_cons_zero, List.set_cons_succ]
  refine wpAnyH_ready (rs := [1]) (by kernel_rfl) (by simp) ?_
  refine AllReadyH.cons (o := { dst := some 103, op := Op.call { callee := Callee.value (Operand.func 42), args := #[Operand.const (Value.int IntKind.i64 39), Operand.const (Value.int IntKind.i64 44)], argTypes := #[3, 3] }, type := 29, pos := "law.go:40", after := #[], guard := none }) rfl (fun K hK => ?_) AllReadyH.nil
  go_simp
  refine (span_any _ _ _).mono ?_; rintro e w9 ⟨rfl, hb⟩; replace Rj := Lib.hid (Rj.out.grow hb); replace Rl := Lib.hid (Rl.out.grow hb); replace Rq := Lib.hid (Rq.out.grow hb); replace B11 := Lib.hid (B11.out.next hb); clear hb
  go_wp2_with fail
  refine hK.out _ _ ?_ (fun hHeld => ?_)
  · exact ⟨cellAt Rj.out 0, cellAt Rj.out 1⟩
  clear hK K
  try simp only [Act.put, List.setIfInBounds_toArray, List.set_cons_zero, List.set_cons_succ]
  refine wpAnyH_take (i := 2) (oi := { dst := some 104, op := Op.binOp BinOp.eql 29 (Operand.tmp 102) (Operand.tmp 103) 29, type := 4, pos := "law.go:40", after := #[{ on := 0, ground := Ground.data }, { on := 1, ground := Ground.data }], guard := none }) (v := ?_) rfl (by kernel_rfl) (by kernel_rfl) (by kernel_rfl) (fun _ _ _ h => h) (Or.inl ⟨by rfl, ?_⟩) (by assumption) ?_
  rotate_left
  · (intro w9 hSw; (try dsimp only at hSw); (go_split_ands; go_simp); (try with_reducible rfl))
  try simp only [Act.put, List.setIfInBounds_toArray, List.set_cons_zero, List.set_cons_succ]
  refine wpAnyH_take (i := 3) (oi := { dst := some 105, op := Op.move (Operand.tmp 104), type := 4, pos := "law.go:40", after := #[{ on := 2, ground := Ground.data }, { on := 1, ground := Ground.chain }], guard := none }) (v := ?_) rfl (by kernel_rfl) (by kernel_rfl) (by kernel_rfl) (fun _ _ _ h => h) (Or.inl ⟨by rfl, ?_⟩) (by assumption) ?_
  rotate_left
  · (intro w9 hSw; (try dsimp only at hSw); (go_split_ands; go_simp); (try with_reducible rfl))
  try simp only [Act.put, List.setIfInBounds_toArray, List.set_cons_zero, List.set_cons_succ]
  refine wpAnyH_take (i := 4) (oi := { dst := some 106, op := Op.move (Operand.tmp 12), type := 30, pos := "law.go:40", after := #[{ on := 3, ground := Ground.guard }], guard := some (3, true) }) (v := ?_) rfl (by kernel_rfl) (by kernel_rfl) (by kernel_rfl) (fun _ _ _ h => h) (Or.inl ⟨by rfl, ?_⟩) (by assumption) ?_
  rotate_left
  · (intro w9 hSw; (try dsimp only at hSw); (go_split_ands; go_simp); (try with_reducible rfl))
  try simp only [Act.put, List.setIfInBounds_toArray, List.set_cons_zero, List.set_cons_succ]
  refine wpAnyH_take (i := 5) (oi := { dst := some 107, op := Op.binOp BinOp.eql 30 (Operand.tmp 106) (Operand.const (Value.int IntKind.i64 0)) 30, type := 4, pos := "law.go:40", after := #[{ on := 4, ground := Ground.data }, { on := 3, ground := Ground.guard }], guard := some (3, true) }) (v := ?_) rfl (by kernel_rfl) (by kernel_rfl) (by kernel_rfl) (fun _ _ _ h => h) (Or.inl ⟨by rfl, ?_⟩) (by assumption) ?_
  rotate_left
  · (intro w9 hSw; (try dsimp only at hSw); (go_split_ands; go_simp); (try with_reducible rfl))
  try simp only [Act.put, List.setIfInBounds_toArray, List.set_cons_zero, List.set_cons_succ]
  refine wpAnyH_take (i := 6) (oi := { dst := some 108, op := Op.pick (Operand.tmp 105) (Operand.tmp 107) (Operand.const (Value.bool false)), type := 4, pos := "law.go:40", after := #[{ on := 3, ground := Ground.data }, { on := 5, ground := Ground.data }], guard := none }) (v := ?_) rfl (by kernel_rfl) (by kernel_rfl) (by kernel_rfl) (fun _ _ _ h => h) (Or.inl ⟨by rfl, ?_⟩) (by assumption) ?_
  rotate_left
  · (intro w9 hSw; (try dsimp only at hSw); (go_split_ands; go_simp); (try with_reducible rfl))
  try simp only [Act.put, List.setIfInBounds_toArray, List.set_cons_zero, List.set_cons_succ]
  refine wpAnyH_take (i := 7) (oi := { dst := some 109, op := Op.move (Operand.tmp 108), type := 4, pos := "law.go:40", after := #[{ on := 6, ground := Ground.data }, { on := 3, ground := Ground.chain }], guard := none }) (v := ?_) rfl (by kernel_rfl) (by kernel_rfl) (by kernel_rfl) (fun _ _ _ h => h) (Or.inl ⟨by rfl, ?_⟩) (by assumption) ?_
  rotate_left
  · (intro w9 hSw; (try dsimp only at hSw); (go_split_ands; go_simp); (try with_reducible rfl))
  try simp only [Act.put, List.setIfInBounds_toArray, List.set_cons_zero, List.set_cons_succ]
  refine wpAnyH_take (i := 8) (oi := { dst := some 110, op := Op.move (Operand.tmp 13), type := 37, pos := "law.go:40", after := #[{ on := 7, ground := Ground.guard }], guard := some (7, true) }) (v := ?_) rfl (by kernel_rfl) (by kernel_rfl) (by kernel_rfl) (fun _ _ _ h => h) (Or.inl ⟨by rfl, ?_⟩) (by assumption) ?_
  rotate_left
  · (intro w9 hSw; (try dsimp only at hSw); (go_split_ands; go_simp); (try with_reducible rfl))
  try simp only [Act.put, List.setIfInBounds_toArray, List.set_cons_zero, List.set_cons_succ]
  refine wpAnyH_ready (rs := [9]) (by kernel_rfl) (by simp) ?_
  refine AllReadyH.cons (o := { dst := some 111, op := Op.buildSlice 37 2 #[(0, Operand.const (Value.int IntKind.i64 15)), (1, Operand.const (Value.int IntKind.i64 29))], type := 37, pos := "law.go:40", after := #[{ on := 7, ground := Ground.guard }], guard := some (7, true) }) rfl (fun K hK => ?_) AllReadyH.nil
  go_simp
  skip
  go_wp2_with fail
  refine hK.out _ _ ?_ (fun hHeld => ?_)
  · exact ⟨cellAt (Rj.out.grow (ba _ _)) 0, cellAt (Rj.out.grow (ba _ _)) 1⟩
  clear hK K
  try simp only [Act.put, List.setIfInBounds_toArray, List.set_cons_zero, List.set_cons_succ]
  refine wpAnyH_ready (rs := [10]) (by kernel_rfl) (by simp) ?_
  refine AllReadyH.cons (o := { dst := some 112, op := Op.call { callee := Callee.value (Operand.func 27), args := #[Operand.tmp 110, Operand.tmp 111], argTypes := #[37, 37] }, type := 4, pos := "law.go:40", after := #[{ on := 8, ground := Ground.data }, { on := 9, ground := Ground.data }, { on := 7, ground := Ground.chain }, { on := 7, ground := Ground.guard }], guard := some (7, true) }) rfl (fun K hK => ?_) AllReadyH.nil
  go_simp
  refine (eqL Rl.out).mono ?_; rintro e w9 ⟨rfl, hb⟩; replace Rj := Lib.hid (Rj.out.grow hb); replace Rl := Lib.hid (Rl.out.grow hb); replace Rq := Lib.hid (Rq.out.grow hb); replace B11 := Lib.hid (B11.out.next hb); clear hb
  go_wp2_with fail
  refine hK.out _ _ ?_ (fun hHeld => ?_)
  · exact ⟨cellAt Rj.out 0, cellAt Rj.out 1⟩
  clear hK K
  try simp only [Act.put, List.setIfInBounds_toArray, List.set_cons_zero, List.set_cons_succ]
  refine wpAnyH_take (i := 11) (oi := { dst := some 113, op := Op.pick (Operand.tmp 109) (Operand.tmp 112) (Operand.const (Value.bool false)), type := 4, pos := "law.go:40", after := #[{ on := 7, ground := Ground.data }, { on := 10, ground := Ground.data }], guard := none }) (v := ?_) rfl (by kernel_rfl) (by kernel_rfl) (by kernel_rfl) (fun _ _ _ h => h) (Or.inl ⟨by rfl, ?_⟩) (by assumption) ?_
  rotate_left
  · (intro w9 hSw; (try dsimp only at hSw); (go_split_ands; go_simp); (try with_reducible rfl))
  try simp only [Act.put, List.setIfInBounds_toArray, List.set_cons_zero, List.set_cons_succ]
  refine wpAnyH_take (i := 12) (oi := { dst := some 114, op := Op.move (Operand.tmp 113), type := 4, pos := "law.go:40", after := #[{ on := 11, ground := Ground.data }, { on := 10, ground := Ground.chain }], guard := none }) (v := ?_) rfl (by kernel_rfl) (by kernel_rfl) (by kernel_rfl) (fun _ _ _ h => h) (Or.inl ⟨by rfl, ?_⟩) (by assumption) ?_
  rotate_left
  · (intro w9 hSw; (try dsimp only at hSw); (go_split_ands; go_simp); (try with_reducible rfl))
  try simp only [Act.put, List.setIfInBounds_toArray, List.set_cons_zero, List.set_cons_succ]
  refine wpAnyH_take (i := 13) (oi := { dst := some 115, op := Op.move (Operand.tmp 14), type := 30, pos := "law.go:40", after := #[{ on := 12, ground := Ground.guard }], guard := some (12, true) }) (v := ?_) rfl (by kernel_rfl) (by kernel_rfl) (by kernel_rfl) (fun _ _ _ h => h) (Or.inl ⟨by rfl, ?_⟩) (by assumption) ?_
  rotate_left
  · (intro w9 hSw; (try dsimp only at hSw); (go_split_ands; go_simp); (try with_reducible rfl))
  try simp only [Act.put, List.setIfInBounds_toArray, List.set_cons_zero, List.set_cons_succ]
  refine wpAnyH_take (i := 14) (oi := { dst := some 116, op := Op.binOp BinOp.eql 30 (Operand.tmp 115) (Operand.const (Value.int IntKind.i64 0)) 30, type := 4, pos := "law.go:40", after := #[{ on := 13, ground := Ground.data }, { on := 12, ground := Ground.guard }], guard := some (12, true) }) (v := ?_) rfl (by kernel_rfl) (by kernel_rfl) (by kernel_rfl) (fun _ _ _ h => h) (Or.inl ⟨by rfl, ?_⟩) (by assumption) ?_
  rotate_left
  · (intro w9 hSw; (try dsimp only at hSw); (go_split_ands; go_simp); (try with_reducible rfl))
  try simp only [Act.put, List.setIfInBounds_toArray, List.set_cons_zero, List.set_cons_succ]
  refine wpAnyH_take (i := 15) (oi := { dst := some 117, op := Op.pick (Operand.tmp 114) (Operand.tmp 116) (Operand.const (Value.bool false)), type := 4, pos := "law.go:40", after := #[{ on := 12, ground := Ground.data }, { on := 14, ground := Ground.data }], guard := none }) (v := ?_) rfl (by kernel_rfl) (by kernel_rfl) (by kernel_rfl) (fun _ _ _ h => h) (Or.inl ⟨by rfl, ?_⟩) (by assumption) ?_
  rotate_left
  · (intro w9 hSw; (try dsimp only at hSw); (go_split_ands; go_simp); (try with_reducible rfl))
  try simp only [Act.put, List.setIfInBounds_toArray, List.set_cons_zero, List.set_cons_succ]
  refine wpAnyH_take (i := 16) (oi := { dst := some 118, op := Op.move (Operand.tmp 117), type := 4, pos := "law.go:40", after := #[{ on := 15, ground := Ground.data }, { on := 12, ground := Ground.chain }], guard := none }) (v := ?_) rfl (by kernel_rfl) (by kernel_rfl) (by kernel_rfl) (fun _ _ _ h => h) (Or.inl ⟨by rfl, ?_⟩) (by assumption) ?_
  rotate_left
  · (intro w9 hSw; (try dsimp only at hSw); (go_split_ands; go_simp); (try with_reducible rfl))
  try simp only [Act.put, List.setIfInBounds_toArray, List.set_cons_zero, List.set_cons_succ]
  refine wpAnyH_take (i := 17) (oi := { dst := some 119, op := Op.move (Operand.tmp 15), type := 3, pos := "law.go:40", after := #[{ on := 16, ground := Ground.guard }], guard := some (16, true) }) (v := ?_) rfl (by kernel_rfl) (by kernel_rfl) (by kernel_rfl) (fun _ _ _ h => h) (Or.inl ⟨by rfl, ?_⟩) (by assumption) ?_
  rotate_left
  · (intro w9 hSw; (try dsimp only at hSw); (go_split_ands; go_simp); (try with_reducible rfl))
  try simp only [Act.put, List.setIfInBounds_toArray, List.set_cons_zero, List.set_cons_succ]
  refine wpAnyH_take (i := 18) (oi := { dst := some 120, op := Op.binOp BinOp.eql 3 (Operand.tmp 119) (Operand.const (Value.int IntKind.i64 1)) 3, type := 4, pos := "law.go:40", after := #[{ on := 17, ground := Ground.data }, { on := 16, ground := Ground.guard }], guard := some (16, true) }) (v := ?_) rfl (by kernel_rfl) (by kernel_rfl) (by kernel_rfl) (fun _ _ _ h => h) (Or.inl ⟨by rfl, ?_⟩) (by assumption) ?_
  rotate_left
  · (intro w9 hSw; (try dsimp only at hSw); (go_split_ands; go_simp); (try with_reducible rfl))
  try simp only [Act.put, List.setIfInBounds_toArray, List.set_cons_zero, List.set_cons_succ]
  refine wpAnyH_take (i := 19) (oi := { dst := some 121, op := Op.pick (Operand.tmp 118) (Operand.tmp 120) (Operand.const (Value.bool false)), type := 4, pos := "law.go:40", after := #[{ on := 16, ground := Ground.data }, { on := 18, ground := Ground.data }], guard := none }) (v := ?_) rfl (by kernel_rfl) (by kernel_rfl) (by kernel_rfl) (fun _ _ _ h => h) (Or.inl ⟨by rfl, ?_⟩) (by assumption) ?_
  rotate_left
  · (intro w9 hSw; (try dsimp only at hSw); (go_split_ands; go_simp); (try with_reducible rfl))
  try simp only [Act.put, List.setIfInBounds_toArray, List.set_cons_zero, List.set_cons_succ]
  refine wpAnyH_take (i := 20) (oi := { dst := some 122, op := Op.move (Operand.tmp 121), type := 4, pos := "law.go:40", after := #[{ on := 19, ground := Ground.data }, { on := 16, ground := Ground.chain }], guard := none }) (v := ?_) rfl (by kernel_rfl) (by kernel_rfl) (by kernel_rfl) (fun _ _ _ h => h) (Or.inl ⟨by rfl, ?_⟩) (by assumption) ?_
  rotate_left
  · (intro w9 hSw; (try dsimp only at hSw); (go_split_ands; go_simp); (try with_reducible rfl))
  try simp only [Act.put, List.setIfInBounds_toArray, List.set_cons_zero, List.set_cons_succ]
  refine wpAnyH_take (i := 21) (oi := { dst := some 123, op := Op.move (Operand.tmp 16), type := 3, pos := "law.go:40", after := #[{ on := 20, ground := Ground.guard }], guard := some (20, true) }) (v := ?_) rfl (by kernel_rfl) (by kernel_rfl) (by kernel_rfl) (fun _ _ _ h => h) (Or.inl ⟨by rfl, ?_⟩) (by assumption) ?_
  rotate_left
  · (intro w9 hSw; (try dsimp only at hSw); (go_split_ands; go_simp); (try with_reducible rfl))
  try simp only [Act.put, List.setIfInBounds_toArray, List.set_cons_zero, List.set_cons_succ]
  refine wpAnyH_take (i := 22) (oi := { dst := some 124, op := Op.binOp BinOp.eql 3 (Operand.tmp 123) (Operand.const (Value.int IntKind.i64 3)) 3, type := 4, pos := "law.go:40", after := #[{ on := 21, ground := Ground.data }, { on := 20, ground := Ground.guard }], guard := some (20, true) }) (v := ?_) rfl (by kernel_rfl) (by kernel_rfl) (by kernel_rfl) (fun _ _ _ h => h) (Or.inl ⟨by rfl, ?_⟩) (by assumption) ?_
  rotate_left
  · (intro w9 hSw; (try dsimp only at hSw); (go_split_ands; go_simp); (try with_reducible rfl))
  try simp only [Act.put, List.setIfInBounds_toArray, List.set_cons_zero, List.set_cons_succ]
  refine wpAnyH_take (i := 23) (oi := { dst := some 125, op := Op.pick (Operand.tmp 122) (Operand.tmp 124) (Operand.const (Value.bool false)), type := 4, pos := "law.go:40", after := #[{ on := 20, ground := Ground.data }, { on := 22, ground := Ground.data }], guard := none }) (v := ?_) rfl (by kernel_rfl) (by kernel_rfl) (by kernel_rfl) (fun _ _ _ h => h) (Or.inl ⟨by rfl, ?_⟩) (by assumption) ?_
  rotate_left
  · (intro w9 hSw; (try dsimp only at hSw); (go_split_ands; go_simp); (try with_reducible rfl))
  try simp only [Act.put, List.setIfInBounds_toArray, List.set_cons_zero, List.set_cons_succ]
  refine wpAnyH_take (i := 24) (oi := { dst := some 126, op := Op.move (Operand.tmp 125), type := 4, pos := "law.go:40", after := #[{ on := 23, ground := Ground.data }, { on := 20, ground := Ground.chain }], guard := none }) (v := ?_) rfl (by kernel_rfl) (by kernel_rfl) (by kernel_rfl) (fun _ _ _ h => h) (Or.inl ⟨by rfl, ?_⟩) (by assumption) ?_
  rotate_left
  · (intro w9 hSw; (try dsimp only at hSw); (go_split_ands; go_simp); (try with_reducible rfl))
  try simp only [Act.put, List.setIfInBounds_toArray, List.set_cons_zero, List.set_cons_succ]
  refine wpAnyH_take (i := 25) (oi := { dst := some 127, op := Op.move (Operand.tmp 17), type := 30, pos := "law.go:40", after := #[{ on := 24, ground := Ground.guard }], guard := some (24, true) }) (v := ?_) rfl (by kernel_rfl) (by kernel_rfl) (by kernel_rfl) (fun _ _ _ h => h) (Or.inl ⟨by rfl, ?_⟩) (by assumption) ?_
  rotate_left
  · (intro w9 hSw; (try dsimp only at hSw); (go_split_ands; go_simp); (try with_reducible rfl))
  try simp only [Act.put, List.setIfInBounds_toArray, List.set_cons_zero, List.set_cons_succ]
  refine wpAnyH_take (i := 26) (oi := { dst := some 128, op := Op.binOp BinOp.eql 30 (Operand.tmp 127) (Operand.const (Value.int IntKind.i64 0)) 30, type := 4, pos := "law.go:40", after := #[{ on := 25, ground := Ground.data }, { on := 24, ground := Ground.guard }], guard := some (24, true) }) (v := ?_) rfl (by kernel_rfl) (by kernel_rfl) (by kernel_rfl) (fun _ _ _ h => h) (Or.inl ⟨by rfl, ?_⟩) (by assumption) ?_
  rotate_left
  · (intro w9 hSw; (try dsimp only at hSw); (go_split_ands; go_simp); (try with_reducible rfl))
  try simp only [Act.put, List.setIfInBounds_toArray, List.set_cons_zero, List.set_cons_succ]
  refine wpAnyH_take (i := 27) (oi := { dst := some 129, op := Op.pick (Operand.tmp 126) (Operand.tmp 128) (Operand.const (Value.bool false)), type := 4, pos := "law.go:40", after := #[{ on := 24, ground := Ground.data }, { on := 26, ground := Ground.data }], guard := none }) (v := ?_) rfl (by kernel_rfl) (by kernel_rfl) (by kernel_rfl) (fun _ _ _ h => h) (Or.inl ⟨by rfl, ?_⟩) (by assumption) ?_
  rotate_left
  · (intro w9 hSw; (try dsimp only at hSw); (go_split_ands; go_simp); (try with_reducible rfl))
  try simp only [Act.put, List.setIfInBounds_toArray, List.set_cons_zero, List.set_cons_succ]
  refine wpAnyH_take (i := 28) (oi := { dst := some 130, op := Op.move (Operand.tmp 129), type := 4, pos := "law.go:40", after := #[{ on := 27, ground := Ground.data }, { on := 24, ground := Ground.chain }], guard := none }) (v := ?_) rfl (by kernel_rfl) (by kernel_rfl) (by kernel_rfl) (fun _ _ _ h => h) (Or.inl ⟨by rfl, ?_⟩) (by assumption) ?_
  rotate_left
  · (intro w9 hSw; (try dsimp only at hSw); (go_split_ands; go_simp); (try with_reducible rfl))
  try simp only [Act.put, List.setIfInBounds_toArray, List.set_cons_zero, List.set_cons_succ]
  refine wpAnyH_take (i := 29) (oi := { dst := some 131, op := Op.move (Operand.tmp 18), type := 37, pos := "law.go:40", after := #[{ on := 28, ground := Ground.guard }], guard := some (28, true) }) (v := ?_) rfl (by kernel_rfl) (by kernel_rfl) (by kernel_rfl) (fun _ _ _ h => h) (Or.inl ⟨by rfl, ?_⟩) (by assumption) ?_
  rotate_left
  · (intro w9 hSw; (try dsimp only at hSw); (go_split_ands; go_simp); (try with_reducible rfl))
  try simp only [Act.put, List.setIfInBounds_toArray, List.set_cons_zero, List.set_cons_succ]
  refine wpAnyH_ready (rs := [30]) (by kernel_rfl) (by simp) ?_
  refine AllReadyH.cons (o := { dst := some 132, op := Op.buildSlice 37 3 #[(0, Operand.const (Value.int IntKind.i64 4)), (1, Operand.const (Value.int IntKind.i64 2)), (2, Operand.const (Value.int IntKind.i64 1))], type := 37, pos := "law.go:40", after := #[{ on := 28, ground := Ground.guard }], guard := some (28, true) }) rfl (fun K hK => ?_) AllReadyH.nil
  go_simp
  skip
  go_wp2_with fail
  refine hK.out _ _ ?_ (fun hHeld => ?_)
  · exact ⟨cellAt (Rj.out.grow (ba _ _)) 0, cellAt (Rj.out.grow (ba _ _)) 1⟩
  clear hK K
  try simp only [Act.put, List.setIfInBounds_toArray, List.set_cons_zero, List.set_cons_succ]
  refine wpAnyH_ready (rs := [31]) (by kernel_rfl) (by simp) ?_
  refine AllReadyH.cons (o := { dst := some 133, op := Op.call { callee := Callee.value (Operand.func 27), args := #[Operand.tmp 131, Operand.tmp 132], argTypes := #[37, 37] }, type := 4, pos := "law.go:40", after := #[{ on := 29, ground := Ground.data }, { on := 30, ground := Ground.data }, { on := 28, ground := Ground.chain }, { on := 28, ground := Ground.guard }], guard := some (28, true) }) rfl (fun K hK => ?_) AllReadyH.nil
  go_simp
  refine (eqQ Rq.out).mono ?_; rintro e w9 ⟨rfl, hb⟩; replace Rj := Lib.hid (Rj.out.grow hb); replace Rl := Lib.hid (Rl.out.grow hb); replace Rq := Lib.hid (Rq.out.grow hb); replace B11 := Lib.hid (B11.out.next hb); clear hb
  go_wp2_with fail
  refine hK.out _ _ ?_ (fun hHeld => ?_)
  · exact ⟨cellAt Rj.out 0, cellAt Rj.out 1⟩
  clear hK K
  try simp only [Act.put, List.setIfInBounds_toArray, List.set_cons_zero, List.set_cons_succ]
  refine wpAnyH_take (i := 32) (oi := { dst := some 134, op := Op.pick (Operand.tmp 130) (Operand.tmp 133) (Operand.const (Value.bool false)), type := 4, pos := "law.go:40", after := #[{ on := 28, ground := Ground.data }, { on := 31, ground := Ground.data }], guard := none }) (v := ?_) rfl (by kernel_rfl) (by kernel_rfl) (by kernel_rfl) (fun _ _ _ h => h) (Or.inl ⟨by rfl, ?_⟩) (by assumption) ?_
  rotate_left
  · (intro w9 hSw; (try dsimp only at hSw); (go_split_ands; go_simp); (try with_reducible rfl))
  try simp only [Act.put, List.setIfInBounds_toArray, List.set_cons_zero, List.set_cons_succ]
  refine wpAnyH_take (i := 33) (oi := { dst := some 135, op := Op.move (Operand.tmp 134), type := 4, pos := "law.go:40", after := #[{ on := 32, ground := Ground.data }, { on := 31, ground := Ground.chain }], guard := none }) (v := ?_) rfl (by kernel_rfl) (by kernel_rfl) (by kernel_rfl) (fun _ _ _ h => h) (Or.inl ⟨by rfl, ?_⟩) (by assumption) ?_
  rotate_left
  · (intro w9 hSw; (try dsimp only at hSw); (go_split_ands; go_simp); (try with_reducible rfl))
  try simp only [Act.put, List.setIfInBounds_toArray, List.set_cons_zero, List.set_cons_succ]
  refine wpAnyH_take (i := 34) (oi := { dst := some 136, op := Op.move (Operand.tmp 19), type := 30, pos := "law.go:40", after := #[{ on := 33, ground := Ground.guard }], guard := some (33, true) }) (v := ?_) rfl (by kernel_rfl) (by kernel_rfl) (by kernel_rfl) (fun _ _ _ h => h) (Or.inl ⟨by rfl, ?_⟩) (by assumption) ?_
  rotate_left
  · (intro w9 hSw; (try dsimp only at hSw); (go_split_ands; go_simp); (try with_reducible rfl))
  try simp only [Act.put, List.setIfInBounds_toArray, List.set_cons_zero, List.set_cons_succ]
  refine wpAnyH_take (i := 35) (oi := { dst := some 137, op := Op.binOp BinOp.eql 30 (Operand.tmp 136) (Operand.const (Value.int IntKind.i64 0)) 30, type := 4, pos := "law.go:40", after := #[{ on := 34, ground := Ground.data }, { on := 33, ground := Ground.guard }], guard := some (33, true) }) (v := ?_) rfl (by kernel_rfl) (by kernel_rfl) (by kernel_rfl) (fun _ _ _ h => h) (Or.inl ⟨by rfl, ?_⟩) (by assumption) ?_
  rotate_left
  · (intro w9 hSw; (try dsimp only at hSw); (go_split_ands; go_simp); (try with_reducible rfl))
  try simp only [Act.put, List.setIfInBounds_toArray, List.set_cons_zero, List.set_cons_succ]
  refine wpAnyH_take (i := 36) (oi := { dst := some 138, op := Op.pick (Operand.tmp 135) (Operand.tmp 137) (Operand.const (Value.bool false)), type := 4, pos := "law.go:40", after := #[{ on := 33, ground := Ground.data }, { on := 35, ground := Ground.data }], guard := none }) (v := ?_) rfl (by kernel_rfl) (by kernel_rfl) (by kernel_rfl) (fun _ _ _ h => h) (Or.inl ⟨by rfl, ?_⟩) (by assumption) ?_
  rotate_left
  · (intro w9 hSw; (try dsimp only at hSw); (go_split_ands; go_simp); (try with_reducible rfl))
  try simp only [Act.put, List.setIfInBounds_toArray, List.set_cons_zero, List.set_cons_succ]
  refine wpAnyH_take (i := 37) (oi := { dst := some 0, op := Op.assign (Operand.tmp 138), type := 4, pos := "law.go:40", after := #[{ on := 36, ground := Ground.data }, { on := 33, ground := Ground.chain }, { on := 0, ground := Ground.phase }, { on := 1, ground := Ground.phase }, { on := 2, ground := Ground.phase }, { on := 3, ground := Ground.phase }, { on := 4, ground := Ground.phase }, { on := 5, ground := Ground.phase }, { on := 6, ground := Ground.phase }, { on := 7, ground := Ground.phase }, { on := 8, ground := Ground.phase }, { on := 9, ground := Ground.phase }, { on := 10, ground := Ground.phase }, { on := 11, ground := Ground.phase }, { on := 12, ground := Ground.phase }, { on := 13, ground := Ground.phase }, { on := 14, ground := Ground.phase }, { on := 15, ground := Ground.phase }, { on := 16, ground := Ground.phase }, { on := 17, ground := Ground.phase }, { on := 18, ground := Ground.phase }, { on := 19, ground := Ground.phase }, { on := 20, ground := Ground.phase }, { on := 21, ground := Ground.phase }, { on := 22, ground := Ground.phase }, { on := 23, ground := Ground.phase }, { on := 24, ground := Ground.phase }, { on := 25, ground := Ground.phase }, { on := 26, ground := Ground.phase }, { on := 27, ground := Ground.phase }, { on := 28, ground := Ground.phase }, { on := 29, ground := Ground.phase }, { on := 30, ground := Ground.phase }, { on := 31, ground := Ground.phase }, { on := 32, ground := Ground.phase }, { on := 33, ground := Ground.phase }, { on := 34, ground := Ground.phase }, { on := 35, ground := Ground.phase }, { on := 36, ground := Ground.phase }], guard := none }) (v := ?_) rfl (by kernel_rfl) (by kernel_rfl) (by kernel_rfl) (fun _ _ _ h => h) (Or.inl ⟨by rfl, ?_⟩) (by assumption) ?_
  rotate_left
  · (intro w9 hSw; (try dsimp only at hSw); (go_split_ands; go_simp); (try with_reducible rfl))
  try simp only [Act.put, List.setIfInBounds_toArray, List.set_cons_zero]
  refine wpAnyH_done (by kernel_rfl) ?_ _
  clear hHeld
  go_wp2_with fail
  go_ret
  exact ⟨rfl, B11.out⟩
end Go.Proofs.Ytbpeamppkdmdcaa
