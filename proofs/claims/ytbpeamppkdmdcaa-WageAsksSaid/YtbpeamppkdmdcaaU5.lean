/-
  Walks: all that a ticket can be, by the reference.
-/
import Derived.Test.YtbpeamppkdmdcaaU3
import Derived.Test.YtbpeamppkdmdcaaQ0
namespace Go.Proofs.Ytbpeamppkdmdcaa
open Go.RowKit

def Kn.cells (k : Kn) : Array Value := #[.int .i64 k.fr, .int .i64 k.to, .int .i64 k.td]
def knVals (l : List Kn) : List Value := l.flatMap fun k => k.cells.toList
abbrev knF (l : List Kn) : Nat → Kn := fun i => l.getD i ⟨0, 0, 0⟩
theorem knVals_snoc (l : List Kn) (k : Kn) : knVals (l ++ [k]) = knVals l ++ k.cells.toList := by simp [knVals]
theorem knVals_len (l : List Kn) : (knVals l).length = l.length * 3 := by
  induction l with
  | nil => rfl
  | cons k l ih => simp only [knVals, List.flatMap_cons, List.length_append, List.length_cons] at ih ⊢; rw [ih]; simp [Kn.cells]; omega
theorem Kn.cells_get (k : Kn) (j : Nat) (hj : j < 3) : k.cells.toList[j]? = some (k.cell j) := by
  obtain rfl | rfl | rfl : j = 0 ∨ j = 1 ∨ j = 2 := by omega
  all_goals rfl
theorem knVals_get : ∀ (l : List Kn) {i j : Nat}, i < l.length → j < 3 → (knVals l)[i * 3 + j]? = some ((knF l i).cell j)
  | [], i, j, hi, hj => by simp at hi
  | k :: l, i, j, hi, hj => by
    have hc : knVals (k :: l) = k.cells.toList ++ knVals l := by simp [knVals]
    rw [hc]
    have h3 : k.cells.toList.length = 3 := rfl
    cases i with
    | zero =>
      rw [List.getElem?_append_left (by omega), Nat.zero_mul, Nat.zero_add]
      exact k.cells_get j hj
    | succ i =>
      rw [List.getElem?_append_right (by omega), h3, show (i + 1) * 3 + j - 3 = i * 3 + j by omega]
      exact knVals_get l (by simpa using hi) hj
theorem Kn.cells_one (k : Kn) : ∀ y ∈ k.cells.toList, y.oneCell' = true := by
  intro y hy
  simp [Kn.cells] at hy
  rcases hy with rfl | rfl | rfl <;> rfl
theorem own_kns {W : World} {base n : Nat} {v : Value} {l : List Kn} (h : W.ownsRow base 128 3 v n (knVals l)) (hl : l.length = n) (hn : n ≤ maxLen) : ∃ oa cap, v = .slice oa n cap ∧ KnAt W oa n (knF l) ∧ (0 < n → base ≤ blk oa) := by
  rcases h.2 with ⟨rfl, rfl⟩ | ⟨g, cap, cur, rfl, hb, hg, _, _, _, ht⟩
  · exact ⟨none, 0, rfl, ⟨fun h => by omega, fun h => by omega, hn, fun i hi => by omega⟩, fun h => by omega⟩
  · refine ⟨some ⟨g, 0, none⟩, cap, rfl, ⟨fun _ => rfl, fun _ => lt_of_heap hg, hn, fun i hi j hj => ?_⟩, fun _ => hb⟩
    show W.cell? ⟨g, 0 + i * 3 + j, none⟩ = _
    have h := knVals_get l (i := i) (by omega) hj
    rw [← ht, List.getElem?_take, if_pos (by omega)] at h
    rw [cellAt hg, Nat.zero_add, ← h, Array.getElem?_toList]
theorem info128' : ∃ i, Try.prog.info? 128 = some i ∧ i.zero = some (.agg #[.int .i64 0, .int .i64 0, .int .i64 0]) ∧ i.size = 3 ∧ i.bytes = 24 := by
  have h : (Try.prog.info? 128).map (fun i => (i.zero, i.size, i.bytes)) = some (some (.agg #[.int .i64 0, .int .i64 0, .int .i64 0]), 3, 24) := by kernel_rfl
  cases hi : Try.prog.info? 128 with
  | none => rw [hi] at h; cases h
  | some i =>
    rw [hi] at h
    simp only [Option.map_some, Option.some.injEq, Prod.mk.injEq] at h
    exact ⟨i, rfl, h.1, h.2.1, h.2.2⟩
/-- A ticket's spans are those of valid wages. -/
def Spans (t : Tk) : Prop := 0 ≤ t.fl ∧ t.fl ≤ t.fh ∧ t.fh ≤ 20 ∧ t.fh - t.fl ≤ 3 ∧ 0 ≤ t.tl ∧ t.tl ≤ t.th ∧ t.th ≤ 20 ∧ t.th - t.tl ≤ 3 ∧ 0 ≤ t.dl ∧ t.dl ≤ t.dh ∧ t.dh ≤ 40 ∧ t.dh - t.dl ≤ 3
theorem canL_len {t : Tk} (h : Spans t) : (canL t).length ≤ 64 ∧ 0 < (canL t).length := by
  obtain ⟨_, h1, _, h2, _, h3, _, h4, _, h5, _, h6⟩ := h
  unfold canL
  rw [aL_len]
  have a1 : aN t ≤ 4 ∧ 0 < aN t := by unfold aN; omega
  have a2 : bN t ≤ 4 ∧ 0 < bN t := by unfold bN; omega
  have a3 : kN t ≤ 4 ∧ 0 < kN t := by unfold kN; omega
  exact ⟨Nat.le_trans (Nat.mul_le_mul a1.1 (Nat.mul_le_mul a2.1 a3.1)) (by decide), Nat.mul_pos a1.2 (Nat.mul_pos a2.2 a3.2)⟩
/-- What the walk keeps: the ticket, and the row that has been collected. -/
def CanI (w : World) (t : Tk) (w1 : World) (l : List Kn) (v : Value) (W : World) : Prop := OwnT 128 3 [] w1 [(w.heap.size, tkCells t, 58)] [(v, l.length, knVals l)] W

theorem ret_val {k : IntKind} {a b : Int} (h : a = b) : Value.int k a = .int k b := by rw [h]
def CanPost (w : World) (t : Tk) (e : Ending) (w' : World) : Prop := ∃ oa cap, e = .returned (.slice oa (canL t).length cap) ∧ KnAt w' oa (canL t).length (knF (canL t)) ∧ w.heap.size ≤ blk oa ∧ Below w.heap.size w w'
set_option maxHeartbeats 4000000 in
theorem canR_any (t : Tk) (h : Spans t) (w : World) :
    Calls Try.prog 82 #[t.v] w (CanPost w t) := by
  have hlen := canL_len h
  have HL := Lib.hid hlen
  have HS := Lib.hid h
  obtain ⟨h0, h1, h2, h3, h4, h5, h6, h7, h8, h9, h10, h11⟩ := h
  clear hlen
  have B0 := Lib.hid (ba w (.cells (tkCells t) 58))
  have O0 := Lib.hid (OwnT.start (E := 128) (sz := 3) (D := []) (w0 := w.alloc (.cells (tkCells t) 58)) (KB := [(w.heap.size, tkCells t, 58)]) (VS := [(.slice none 0 0, 0, [])]) (by intro e he; obtain rfl := List.mem_singleton.1 he; exact heap_alloc_new _ _) (by intro e he; simpa using he))
  have q2 := cellAt (O0.out.box _ List.mem_cons_self) 2
  simp only [List.getElem?_toArray, List.getElem?_cons_zero, List.getElem?_cons_succ] at q2
  unfold Tk.v
  go_enter Try.func82, Try.ntmps82
  go_wp2_with fail
  clear q2
  have LW : ∀ W, Out [] (w.alloc (.cells (tkCells t) 58)) W → Below w.heap.size w W := fun W ho => B0.out.trans (ho.to_below (by simp) (by rw [sizeAlloc]; omega))
  have LH := Lib.hid LW
  clear LW
  have LZ := Lib.hid (show w.heap.size ≤ (w.alloc (.cells (tkCells t) 58)).heap.size by rw [sizeAlloc]; omega)
  generalize World.alloc w (.cells (tkCells t) 58) = w1 at *
  go_loopw [3, 4] (fun v a wr => ∃ i : Nat, i ≤ aN t ∧ a = .int .i64 (t.fl + i) ∧ CanI w t w1 (aL t i) v wr) (fun _ a _ => (t.fh + 1 - intOf a).toNat)
  case atStart => exact ⟨0, Nat.zero_le _, by simp, O0.out⟩
  case round =>
    clear O0
    obtain ⟨i, hi, rfl, hI⟩ := hrel
    have HI := Lib.hid hI
    obtain ⟨-, -, -, c3, c4, -⟩ := hI.box _ List.mem_cons_self |> fun b => (⟨cellAt b 0, cellAt b 1, cellAt b 2, cellAt b 3, cellAt b 4, cellAt b 5⟩ : _ ∧ _ ∧ _ ∧ _ ∧ _ ∧ _)
    simp only [List.getElem?_toArray, List.getElem?_cons_zero, List.getElem?_cons_succ] at c3 c4
    clear hI
    simp only [aN] at hi
    by_cases hlt : t.fl + i ≤ t.fh
    · go_wp2_with fail
      clear c3 c4
      obtain ⟨wo, rfl⟩ : ∃ wo : World, wo = wr := ⟨_, rfl⟩
      go_loopw [3, 5] (fun v b wr => ∃ j : Nat, j ≤ bN t ∧ b = .int .i64 (t.tl + j) ∧ CanI w t w1 (aL t i ++ bL t (t.fl + i) j) v wr) (fun _ b _ => (t.th + 1 - intOf b).toNat)
      case atStart => exact ⟨0, Nat.zero_le _, by simp, by simpa [bL] using HI.out⟩
      case round =>
        clear HI
        obtain ⟨j, hj, rfl, hI⟩ := hrel
        have HI := Lib.hid hI
        have c5 := cellAt (hI.box _ List.mem_cons_self) 5
        have c6 := cellAt (hI.box _ List.mem_cons_self) 6
        simp only [List.getElem?_toArray, List.getElem?_cons_zero, List.getElem?_cons_succ] at c5 c6
        clear hI
        simp only [bN] at hj
        by_cases hlt2 : t.tl + j ≤ t.th
        · go_wp2_with fail
          clear c5 c6
          obtain ⟨wo, rfl⟩ : ∃ wo : World, wo = wr := ⟨_, rfl⟩
          go_loopw [3, 6] (fun v b wr => ∃ k : Nat, k ≤ kN t ∧ b = .int .i64 (t.dl + k) ∧ CanI w t w1 (aL t i ++ bL t (t.fl + i) j ++ kL t (t.fl + i) (t.tl + j) k) v wr) (fun _ b _ => (t.dh + 1 - intOf b).toNat)
          case atStart => exact ⟨0, Nat.zero_le _, by simp, by simpa [kL] using HI.out⟩
          case round =>
            clear HI
            obtain ⟨k, hk, rfl, hI⟩ := hrel
            have HI := Lib.hid hI
            have c7 := cellAt (hI.box _ List.mem_cons_self) 7
            simp only [List.getElem?_toArray, List.getElem?_cons_zero, List.getElem?_cons_succ] at c7
            clear hI
            simp only [kN] at hk
            by_cases hlt3 : t.dl + k ≤ t.dh
            · obtain ⟨i0, hi0, hz0, hz1, hz2⟩ := info128'
              have hpl := pre_lt t (t.fl + i) (t.tl + j) (i := i) (j := j) (k := k) (by simp only [aN]; omega) (by simp only [bN]; omega) (by simp only [kN]; omega)
              have hll := HL.out.1
              have O9 := Lib.hid (HI.out.new #[.int .i64 (t.fl + i), .int .i64 (t.tl + j), .int .i64 (t.dl + k)] 128)
              obtain ⟨nl, enl⟩ : ∃ nl, nl = (aL t i ++ bL t (t.fl + i) j ++ kL t (t.fl + i) (t.tl + j) k).length := ⟨_, rfl⟩
              have hnl : nl ≤ 1000 := by rw [enl]; omega
              rw [← enl] at O9
              have EN := Lib.hid enl
              clear enl hpl hll
              go_wp2_with (at_builtin; refine wpList_ownT Try.underlying104 hi0 hz0 hz1 hz2 rfl (by omega) (by omega) O9.out rfl (.tmp 37) (.tmp 42) rfl 0 nl rfl rfl (gb := wr.heap.size) (ys := (Kn.mk (t.fl + i) (t.tl + j) (t.dl + k)).cells) rfl List.mem_cons_self rfl (Kn.cells_one _) hnl ?_)
              intro g cap W9 hO
              rw [← knVals_snoc] at hO
              simp only [List.append_assoc] at hO
              rw [← kL_succ] at hO
              have hl : nl + 1 = (aL t i ++ (bL t (t.fl + i) j ++ kL t (t.fl + i) (t.tl + j) (k + 1))).length := by rw [EN.out, kL_succ]; simp only [List.length_append, List.length_cons, List.length_nil]; omega
              have O10 := Lib.hid (hO.sub (KB' := [(w.heap.size, tkCells t, 58)]) (fun e he => List.mem_cons_of_mem _ he))
              have HLL := Lib.hid hl
              clear hO O9 c7 hl
              go_wp2_with fail
              refine ⟨⟨k + 1, by simp only [kN]; omega, ret_val (by omega), ?_⟩, by simp [intOf]; omega⟩
              unfold CanI
              simp only [List.append_assoc]
              rw [← HLL.out]
              exact O10.out
            · have e := Lib.hid (show k = kN t by simp only [kN]; omega)
              go_wp2_with fail
              exact ⟨⟨j + 1, by simp only [bN]; omega, by congr 1; omega, by rw [bL_succ, ← List.append_assoc, ← e.out]; exact HI.out⟩, by simp [intOf]; omega⟩
        · have e := Lib.hid (show j = bN t by simp only [bN]; omega)
          go_wp2_with fail
          exact ⟨⟨i + 1, by simp only [aN]; omega, by congr 1; omega, by rw [aL_succ, ← e.out]; exact HI.out⟩, by simp [intOf]; omega⟩
    · have e := Lib.hid (show i = aN t by simp only [aN]; omega)
      have hv := HI.out.own _ List.mem_cons_self
      rw [show aL t i = canL t by rw [e.out]; rfl] at hv
      dsimp only at hv
      obtain ⟨oa, cap, rfl, hk, hbl⟩ := own_kns hv rfl (by have := HL.out.1; unfold maxLen; omega)
      have hbl := hbl HL.out.2
      have hw1 := LZ.out
      have HK := Lib.hid hk
      have HB := Lib.hid (LH.out _ HI.out.out)
      clear hv hk HI
      go_wp2_with fail
      go_ret
      exact ⟨oa, cap, rfl, HK.out, by omega, HB.out⟩
end Go.Proofs.Ytbpeamppkdmdcaa
