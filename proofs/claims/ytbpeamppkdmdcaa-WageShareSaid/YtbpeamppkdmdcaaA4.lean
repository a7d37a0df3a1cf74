/-
  Rows of tickets that the call makes: copied, and one of them written anew.
-/
import Derived.Test.YtbpeamppkdmdcaaA2
import Derived.Laws.CopyOwn
namespace Go.Proofs.Ytbpeamppkdmdcaa
open Go.RowKit

/-- copy of whole elements onto the head of a row. -/
theorem run_copy_row_sz {P : Program} (w : World) (dT sT ty elem : TypeId) (g dLen dCap : Nat) (a : Addr) (sLen sCap sz : Nat) (cur : Array Value) (t : TypeId) (cs : List Value)
    (hu : P.underlying dT = some (.slice elem)) (hs : (P.info? elem).map (·.size) = some sz)
    (hg : w.heap[g]? = some (.cells cur t (0, 0))) (hn : cs.length = Nat.min sLen dLen * sz)
    (hsrc : ∀ j v, cs[j]? = some v → w.cell? (a.add j) = some v) (hfit : cs.length ≤ cur.size) (h1 : ∀ v ∈ cs, v.oneCell' = true) :
    (Builtin.copy_ #[dT, sT] ty #[.slice (some ⟨g, 0, none⟩) dLen dCap, .slice (some a) sLen sCap]).run P w =
      .ok (goInt (Nat.min sLen dLen)) (w.setRow g (cs ++ cur.toList.drop cs.length).toArray) := by
  have hl := run_loadCells_list (P := P) w a cs hsrc
  have hst := run_storeCells_at P g 0 t cs 0 cur w hg (by simpa using hfit) h1
  cases hq : P.info? elem with
  | none => simp [hq] at hs
  | some i =>
    have hi : i.size = sz := by simpa [hq] using hs
    simp [Builtin.copy_, run_underlying hu, Builtin.lenOf, Builtin.firstCells, sizeOf, typeInfo, hq, hi, ← hn, hl, hst]

def tkVals (T : Nat → Tk) (n : Nat) : List Value := (List.range n).flatMap fun (i : Nat) => (T i).cells.toList
theorem tkVals_succ (T : Nat → Tk) (n : Nat) : tkVals T (n + 1) = tkVals T n ++ (T n).cells.toList := by simp [tkVals, List.range_succ]
theorem tkVals_len (T : Nat → Tk) (n : Nat) : (tkVals T n).length = n * 8 := by
  induction n with
  | zero => rfl
  | succ n ih => rw [tkVals_succ, List.length_append, ih]; simp [Tk.cells]; omega
theorem Tk.cells_get (t : Tk) (j : Nat) (hj : j < 8) : t.cells.toList[j]? = some (t.cell j) := by
  obtain rfl | rfl | rfl | rfl | rfl | rfl | rfl | rfl : j = 0 ∨ j = 1 ∨ j = 2 ∨ j = 3 ∨ j = 4 ∨ j = 5 ∨ j = 6 ∨ j = 7 := by omega
  all_goals rfl
theorem tkVals_get (T : Nat → Tk) (n : Nat) {i j : Nat} (hi : i < n) (hj : j < 8) : (tkVals T n)[i * 8 + j]? = some ((T i).cell j) := by
  induction n with
  | zero => omega
  | succ n ih =>
    rw [tkVals_succ]
    by_cases e : i = n
    · subst e
      rw [List.getElem?_append_right (by rw [tkVals_len]; omega), tkVals_len, show i * 8 + j - i * 8 = j by omega]
      exact (T i).cells_get j hj
    · rw [List.getElem?_append_left (by rw [tkVals_len]; omega)]
      exact ih (by omega)
theorem tkVals_one (T : Nat → Tk) (n : Nat) : ∀ v ∈ tkVals T n, v.oneCell' = true := by
  intro v hv
  simp only [tkVals, List.mem_flatMap, Tk.cells] at hv
  obtain ⟨i, _, h⟩ := hv
  simp at h
  rcases h with rfl | rfl | rfl | rfl | rfl | rfl | rfl | rfl
  all_goals rfl
theorem box_tickets {w : World} {g n : Nat} {T : Nat → Tk} {t : TypeId} (h : BoxAt w g (tkVals T n).toArray t) (hn : n ≤ maxLen) : TicketsAt w (some ⟨g, 0, none⟩) n T := by
  refine ⟨fun _ => rfl, fun _ => lt_of_heap h, hn, fun i hi j hj => ?_⟩
  show w.cell? ⟨g, 0 + i * 8 + j, none⟩ = _
  rw [cellAt h, Nat.zero_add, List.getElem?_toArray]
  exact tkVals_get T n hi hj
theorem tickets_src {w : World} {oa : Option Addr} {n : Nat} {T : Nat → Tk} (h : TicketsAt w oa n T) : ∀ j v, (tkVals T n)[j]? = some v → w.cell? ((⟨blk oa, ofs oa, none⟩ : Addr).add j) = some v := by
  intro j v hj
  have hlt : j < n * 8 := by rw [← tkVals_len T n]; exact (List.getElem?_eq_some_iff.1 hj).1
  have e : j = j / 8 * 8 + j % 8 := by omega
  rw [e, tkVals_get T n (by omega) (by omega)] at hj
  have := h.cells (j / 8) (by omega) (j % 8) (by omega)
  have ea : (⟨blk oa, ofs oa, none⟩ : Addr).add j = ⟨blk oa, ofs oa + j / 8 * 8 + j % 8, none⟩ := by
    unfold Addr.add
    split
    all_goals (simp <;> omega)
  rw [ea, this, ← hj]

theorem size8 : (Try.prog.info? 58).map (·.size) = some 8 := by kernel_rfl

theorem run_copy_tickets {w : World} {g n cap : Nat} {oa : Option Addr} {T : Nat → Tk} {cur : Array Value} (hg : BoxAt w g cur 58) (hc : cur.size = n * 8) (hT : TicketsAt w oa n T) (hn : 0 < n) (ty : TypeId) :
    (Builtin.copy_ #[23, 23] ty #[.slice (some ⟨g, 0, none⟩) n n, .slice oa n cap]).run Try.prog w = .ok (goInt n) (w.setRow g (tkVals T n).toArray) := by
  have h := run_copy_row_sz (P := Try.prog) w 23 23 ty 58 g n n ⟨blk oa, ofs oa, none⟩ n cap 8 cur 58 (tkVals T n) Try.underlying23 size8 hg (by rw [tkVals_len]; simp) (tickets_src hT) (by rw [tkVals_len, hc]; exact Nat.le_refl _) (tkVals_one T n)
  rw [hT.plain hn]
  have ed : cur.toList.drop (tkVals T n).length = [] := List.drop_eq_nil_of_le (by rw [tkVals_len, Array.length_toList, hc]; exact Nat.le_refl _)
  rw [ed, List.append_nil] at h
  simpa [blk, ofs] using h

def updT (T : Nat → Tk) (k : Nat) (t : Tk) : Nat → Tk := fun i => if i = k then t else T i
theorem tk_store {w : World} {g n k : Nat} {T : Nat → Tk} {ty : TypeId} (t : Tk) (hk : k < n) (hn : n ≤ maxLen)
    (h : BoxAt w g (((((((((tkVals T n).toArray.setIfInBounds (k * 8) (.int .i64 t.crew)).setIfInBounds (k * 8 + 1) (.int .i64 t.seam)).setIfInBounds (k * 8 + 2) (.int .i64 t.fl)).setIfInBounds (k * 8 + 3) (.int .i64 t.fh)).setIfInBounds (k * 8 + 4) (.int .i64 t.tl)).setIfInBounds (k * 8 + 5) (.int .i64 t.th)).setIfInBounds (k * 8 + 6) (.int .i64 t.dl)).setIfInBounds (k * 8 + 7) (.int .i64 t.dh)) ty) :
    TicketsAt w (some ⟨g, 0, none⟩) n (updT T k t) := by
  refine ⟨fun _ => rfl, fun _ => lt_of_heap h, hn, fun i hi j hj => ?_⟩
  show w.cell? ⟨g, 0 + i * 8 + j, none⟩ = _
  rw [cellAt h, Nat.zero_add]
  have hl := tkVals_len T n
  have hg := tkVals_get T n hi hj
  unfold updT
  by_cases e : i = k
  · subst e
    rw [if_pos rfl]
    obtain rfl | rfl | rfl | rfl | rfl | rfl | rfl | rfl : j = 0 ∨ j = 1 ∨ j = 2 ∨ j = 3 ∨ j = 4 ∨ j = 5 ∨ j = 6 ∨ j = 7 := by omega
    all_goals simp only [Nat.add_zero, Array.getElem?_setIfInBounds, Array.size_setIfInBounds, List.size_toArray, hl]
    all_goals simp [Tk.cell]
    all_goals omega
  · rw [if_neg e]
    simp only [Array.getElem?_setIfInBounds, List.getElem?_toArray]
    repeat rw [if_neg (by omega)]
    exact hg
end Go.Proofs.Ytbpeamppkdmdcaa
