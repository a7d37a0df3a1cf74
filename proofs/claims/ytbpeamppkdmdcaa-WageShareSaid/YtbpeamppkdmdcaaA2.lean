/-
  Walks: all that a ticket can be, one after another (a range over a function).
-/
import Derived.Test.YtbpeamppkdmdcaaA1
import Derived.RangeFuncNested
import Derived.RangeFuncBound
import Derived.RangeFuncCalls
import Derived.RangeFuncLeaves
import Derived.Shelf.Abstract
import Derived.Shelf.RegionOpen
import Derived.OwnWalkIn
import Derived.TacticsInMore
import Derived.LoopNIn
import Derived.LoopIn
namespace Go.Proofs.Ytbpeamppkdmdcaa
open Go.RowKit Go.Shelf

attribute [local go_sem] Oper.semAt_some

def kL (t : Tk) (a b : Int) (n : Nat) : List Kn := (List.range n).map fun (i : Nat) => ⟨a, b, t.dl + i⟩
def kN (t : Tk) : Nat := (t.dh - t.dl + 1).toNat
def bL (t : Tk) (a : Int) (n : Nat) : List Kn := (List.range n).flatMap fun (j : Nat) => kL t a (t.tl + j) (kN t)
def bN (t : Tk) : Nat := (t.th - t.tl + 1).toNat
def aL (t : Tk) (n : Nat) : List Kn := (List.range n).flatMap fun (i : Nat) => bL t (t.fl + i) (bN t)
def aN (t : Tk) : Nat := (t.fh - t.fl + 1).toNat
/-- All that a ticket can be. -/
def canL (t : Tk) : List Kn := aL t (aN t)
theorem kL_succ (t : Tk) (a b : Int) (n : Nat) : kL t a b (n + 1) = kL t a b n ++ [⟨a, b, t.dl + n⟩] := by simp [kL, List.range_succ]
theorem bL_succ (t : Tk) (a : Int) (n : Nat) : bL t a (n + 1) = bL t a n ++ kL t a (t.tl + n) (kN t) := by simp [bL, List.range_succ]
theorem aL_succ (t : Tk) (n : Nat) : aL t (n + 1) = aL t n ++ bL t (t.fl + n) (bN t) := by simp [aL, List.range_succ]
theorem kL_len (t : Tk) (a b : Int) (n : Nat) : (kL t a b n).length = n := by simp [kL]
theorem bL_len (t : Tk) (a : Int) (n : Nat) : (bL t a n).length = n * kN t := by
  induction n with
  | zero => simp [bL]
  | succ n ih => rw [bL_succ, List.length_append, ih, kL_len, Nat.succ_mul]
theorem aL_len (t : Tk) (n : Nat) : (aL t n).length = n * (bN t * kN t) := by
  induction n with
  | zero => simp [aL]
  | succ n ih => rw [aL_succ, List.length_append, ih, bL_len, Nat.succ_mul]
theorem pre_lt (t : Tk) (a b : Int) {i j k : Nat} (hi : i < aN t) (hj : j < bN t) (hk : k < kN t) : (aL t i ++ bL t a j ++ kL t a b k).length < (canL t).length := by
  simp only [canL, List.length_append, aL_len, bL_len, kL_len]
  have h1 : (i + 1) * (bN t * kN t) ≤ aN t * (bN t * kN t) := Nat.mul_le_mul_right _ hi
  have h2 : (j + 1) * kN t ≤ bN t * kN t := Nat.mul_le_mul_right _ hj
  rw [Nat.succ_mul] at h1 h2
  omega
/-- What a ticket can be. -/
def InT (t : Tk) (k : Kn) : Prop := t.fl ≤ k.fr ∧ k.fr ≤ t.fh ∧ t.tl ≤ k.to ∧ k.to ≤ t.th ∧ t.dl ≤ k.td ∧ k.td ≤ t.dh
theorem mem_canL {t : Tk} {k : Kn} (h : k ∈ canL t) : t.fl ≤ k.fr ∧ k.fr ≤ t.fh ∧ t.tl ≤ k.to ∧ k.to ≤ t.th ∧ t.dl ≤ k.td ∧ k.td ≤ t.dh := by
  simp only [canL, aL, bL, kL, List.mem_flatMap, List.mem_map, List.mem_range, aN, bN, kN] at h
  obtain ⟨i, hi, j, hj, m, hm, rfl⟩ := h
  dsimp only
  omega

def Tk.cells (t : Tk) : Array Value := #[.int .i64 t.crew, .int .i64 t.seam, .int .i64 t.fl, .int .i64 t.fh, .int .i64 t.tl, .int .i64 t.th, .int .i64 t.dl, .int .i64 t.dh]

theorem can_any (t : Tk) (w : World) :
    Calls Try.prog 80 #[t.v] w fun e w' => e = .returned (.func (.func 100) #[] #[.pointer (some ⟨w.heap.size, 0, none⟩)]) ∧ w.alloc (.cells t.cells 58) = w' := by
  unfold Tk.v Tk.cells
  go_enter Try.func80, Try.ntmps80
  go_wp2
  go_ret
  exact ⟨rfl, rfl⟩

/-- Block b lies as it lay. -/
def Same (b : Nat) (W W' : World) : Prop := W'.heap[b]? = W.heap[b]?
theorem Same.then {b : Nat} {A B C : World} (h : Same b A B) (k : Same b B C) : Same b A C := Eq.trans k h
theorem Same.of_below {b n : Nat} {A B : World} (h : Below n A B) (hb : b < n) : Same b A B := h.block b hb
theorem same_b {b : Nat} {w : World} (hn : b < w.heap.size) (W : World) (l : Nat) (o o' : Obj) (hl : w.heap.size ≤ l) (_h : W.heap[l]? = some o) (_ : o.isCells = false) (_ : o.isWalk = false) : Same b W (W.putObj l o') := World.putObj_heap_other (by omega)

set_option maxRecDepth 100000 in
set_option maxHeartbeats 2000000 in
theorem can1_in (F : Fence) (n : Nat) (hf : F.fn 100) (hro : F.round = none) (hn : 1 ≤ n) (l B : Nat) (t : Tk) (J Jx : List Kn → World → Prop)
    (h1 : 0 ≤ t.fl ∧ t.fl ≤ t.fh ∧ t.fh ≤ 20 ∧ 0 ≤ t.tl ∧ t.tl ≤ t.th ∧ t.th ≤ 20 ∧ 0 ≤ t.dl ∧ t.dl ≤ t.dh ∧ t.dh ≤ 40)
    (hY : ∀ pre x W, InT t x → J pre W → pre.length < (canL t).length → YieldAt F (n - 1) Try.prog l #[x.v] W fun e W' =>
      (e = .returned (.bool true) ∧ J (pre ++ [x]) W' ∧ Same B W W') ∨ (e = .returned (.bool false) ∧ Jx (pre ++ [x]) W'))
    (W : World) (hb : BoxAt W B t.cells 58) (h0 : J [] W) :
    CallsIn F n Try.prog 100 #[.func (.yield l) #[] #[], .pointer (some ⟨B, 0, none⟩)] W fun e W' => (∃ v, e = .returned v) ∧
      ((∃ ys, ys = canL t ∧ J ys W') ∨ (∃ pre, True ∧ Jx pre W')) := by
  obtain ⟨cr, se, fl, fh, tl, th, dl, dh⟩ := t
  dsimp only at h1
  obtain ⟨a0, a1, a2, b0, b1, b2, d0, d1, d2⟩ := h1
  refine callsIn_of_wp Try.func100 rfl hf ?_ hro
  simp only [Try.ntmps100, List.size_toArray, List.length_cons, List.length_nil, Nat.reduceAdd, Nat.reduceSub, Array.replicate_succ, Array.replicate_zero, List.push_toArray, List.append_toArray, List.nil_append, List.cons_append]
  have HB := Lib.hid hb
  have c2 := cellAt hb 2
  simp only [Tk.cells, List.getElem?_toArray, List.getElem?_cons_zero, List.getElem?_cons_succ] at c2
  clear hb
  gi_wp2
  gi_loopw [3] (fun a wr => ∃ i : Nat, i ≤ aN ⟨cr, se, fl, fh, tl, th, dl, dh⟩ ∧ a = .int .i64 (fl + i) ∧ J (aL ⟨cr, se, fl, fh, tl, th, dl, dh⟩ i) wr ∧ Same B W wr) (fun a _ => (fh + 1 - intOf a).toNat)
  case atStart => exact ⟨0, Nat.zero_le _, by simp, h0, rfl⟩
  case round =>
    clear h0 c2
    obtain ⟨i, hi, rfl, hJ, hnx⟩ := hrel
    have c3 := hnx.trans HB.out
    have c4 := cellAt c3 4
    have cc3 := cellAt c3 3
    simp only [Tk.cells, List.getElem?_toArray, List.getElem?_cons_zero, List.getElem?_cons_succ] at cc3 c4
    clear c3
    simp only [aN] at hi
    by_cases hlt : fl + i ≤ fh
    · have HJ := Lib.hid hJ
      have HN := Lib.hid hnx
      clear hJ hnx
      gi_wp2
      obtain ⟨wo, rfl⟩ : ∃ wo : World, wo = wr := ⟨_, rfl⟩
      gi_loopw [4, 5] (fun b _ wr => ∃ j : Nat, j ≤ bN ⟨cr, se, fl, fh, tl, th, dl, dh⟩ ∧ b = .int .i64 (tl + j) ∧ J (aL ⟨cr, se, fl, fh, tl, th, dl, dh⟩ i ++ bL ⟨cr, se, fl, fh, tl, th, dl, dh⟩ (fl + i) j) wr ∧ Same B W wr) (fun b _ _ => (th + 1 - intOf b).toNat)
      case atStart => exact ⟨0, Nat.zero_le _, by simp, by simp [bL]; exact HJ.out, HN.out⟩
      case round =>
        clear HJ HN cc3 c4
        obtain ⟨j, hj, rfl, hJ, hnx⟩ := hrel
        have c3 := hnx.trans HB.out
        have c5 := cellAt c3 5
        have c6 := cellAt c3 6
        have cc3 := cellAt c3 3
        simp only [Tk.cells, List.getElem?_toArray, List.getElem?_cons_zero, List.getElem?_cons_succ] at cc3 c5 c6
        clear c3
        simp only [bN] at hj
        by_cases hlt2 : tl + j ≤ th
        · have HJ := Lib.hid hJ
          have HN := Lib.hid hnx
          clear hJ hnx
          gi_wp2
          obtain ⟨wo2, rfl⟩ : ∃ wo : World, wo = wr := ⟨_, rfl⟩
          gi_loopw [5] (fun b wr => ∃ k : Nat, k ≤ kN ⟨cr, se, fl, fh, tl, th, dl, dh⟩ ∧ b = .int .i64 (dl + k) ∧ J (aL ⟨cr, se, fl, fh, tl, th, dl, dh⟩ i ++ bL ⟨cr, se, fl, fh, tl, th, dl, dh⟩ (fl + i) j ++ kL ⟨cr, se, fl, fh, tl, th, dl, dh⟩ (fl + i) (tl + j) k) wr ∧ Same B W wr) (fun b _ => (dh + 1 - intOf b).toNat)
          case atStart => exact ⟨0, Nat.zero_le _, by simp, by simp [kL]; exact HJ.out, HN.out⟩
          case round =>
            clear HJ HN c5 c6 cc3
            obtain ⟨k, hk, rfl, hJ, hnx⟩ := hrel
            have c3 := hnx.trans HB.out
            have c7 := cellAt c3 7
            simp only [Tk.cells, List.getElem?_toArray, List.getElem?_cons_zero, List.getElem?_cons_succ] at c7
            clear c3
            simp only [kN] at hk
            by_cases hlt3 : dl + k ≤ dh
            · obtain ⟨fn, tmps, assign, body, hy, hR⟩ := hY _ ⟨fl + i, tl + j, dl + k⟩ wr (by simp only [InT]; omega) hJ (pre_lt _ _ _ (by simp only [aN]; omega) (by simp only [bN]; omega) (by simp only [kN]; omega))
              simp only [Kn.v] at hy
              have HN := Lib.hid hnx
              have HR := Lib.hid hR
              clear hnx hJ hR
              gi_wp2
              refine HR.out.mono ?_
              rintro e W3 (⟨rfl, hJ3, hk3⟩ | ⟨rfl, hJx3⟩)
              · have HJ3 := Lib.hid hJ3
                have HK3 := Lib.hid hk3
                clear hJ3 hk3
                gi_wp2
                refine ⟨⟨k + 1, by simp only [kN]; omega, by congr 1; omega, by rw [kL_succ, ← List.append_assoc]; exact HJ3.out, HN.out.then HK3.out⟩, by simp [intOf]; omega⟩
              · have HJx := Lib.hid hJx3
                clear hJx3
                gi_wp2
                refine bodyPost_ret (results_none rfl _ _ _) rfl ?_
                exact ⟨⟨_, rfl⟩, .inr ⟨_, trivial, HJx.out⟩⟩
            · have e := Lib.hid (show k = kN ⟨cr, se, fl, fh, tl, th, dl, dh⟩ by simp only [kN]; omega)
              have HJ := Lib.hid hJ
              have HN := Lib.hid hnx
              clear hJ hnx
              gi_wp2
              refine ⟨⟨j + 1, by simp only [bN]; omega, by congr 1; omega, by rw [bL_succ, ← List.append_assoc]; rw [← e.out]; exact HJ.out, HN.out⟩, by simp [intOf]; omega⟩
        · have e := Lib.hid (show j = bN ⟨cr, se, fl, fh, tl, th, dl, dh⟩ by simp only [bN]; omega)
          have HJ := Lib.hid hJ
          have HN := Lib.hid hnx
          clear hJ hnx
          gi_wp2
          refine ⟨⟨i + 1, by simp only [aN]; omega, by congr 1; omega, by rw [aL_succ, ← e.out]; exact HJ.out, HN.out⟩, by simp [intOf]; omega⟩
    · have e := Lib.hid (show i = aN ⟨cr, se, fl, fh, tl, th, dl, dh⟩ by simp only [aN]; omega)
      gi_wp2
      go_end0
      exact ⟨⟨_, rfl⟩, .inl (by unfold canL; rw [← e.out]; exact hJ)⟩

abbrev KIn (t : Tk) := {k : Kn // InT t k}

theorem can_stops (F : Fence) (n : Nat) (hf : F.fn 100) (hro : F.round = none) (hn : 1 ≤ n) (B : Nat) (t : Tk) (w : World) (hb : BoxAt w B t.cells 58)
    (h1 : 0 ≤ t.fl ∧ t.fl ≤ t.fh ∧ t.fh ≤ 20 ∧ 0 ≤ t.tl ∧ t.tl ≤ t.th ∧ t.th ≤ 20 ∧ 0 ≤ t.dl ∧ t.dl ≤ t.dh ∧ t.dh ≤ 40) :
    SeqStopsK F n Try.prog 100 #[.pointer (some ⟨B, 0, none⟩)] (fun x : KIn t => #[x.1.v]) (Same B) (fun ys => ys.map (·.1) = canL t) (fun _ => True) (canL t).length w := fun l J Jx W hW _ _ hY h0 => by
  refine (can1_in F n hf hro hn l B t (fun pre W => ∃ l : List (KIn t), l.map (·.1) = pre ∧ J l W) (fun pre W => ∃ l : List (KIn t), l.map (·.1) = pre ∧ Jx l W) h1 ?_ W ((hW.block B (lt_of_heap hb)).trans hb) ⟨[], rfl, h0⟩).mono ?_
  · rintro pre x W hx ⟨l, rfl, hJ⟩ hlen
    refine YieldAt.mono (hY l ⟨x, hx⟩ W hJ (by simpa using hlen)) ?_
    rintro e W' (⟨he, hJ', hs⟩ | ⟨he, hJ'⟩)
    · exact .inl ⟨he, ⟨_, by simp, hJ'⟩, hs⟩
    · exact .inr ⟨he, ⟨_, by simp, hJ'⟩⟩
  · rintro e W' ⟨hv, ⟨ys, rfl, l, hl, hJ⟩ | ⟨pre, _, l, _, hJ⟩⟩
    · exact ⟨hv, .inl ⟨l, hl, hJ⟩⟩
    · exact ⟨hv, .inr ⟨l, trivial, hJ⟩⟩
end Go.Proofs.Ytbpeamppkdmdcaa
