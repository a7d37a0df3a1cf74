/-
  A region that draws its order, and whose last operations wait on all others: one walk of the lexical order for the first ones, which leave the class of worlds, then the last ones in order.
-/
import Derived.Test.YtikeihnhkiipgaaGreatQA8
namespace Go.Proofs.YtikeihnhkiipgaaGreat
open Go.RowKit

section
variable {P : Program} {ops : Array Oper} {Q : Exit → Act → World → Prop} {C : World → Prop}
/-- The first m are by themselves; each later one waits on the one ahead, the first of these on all the first m. -/
def tailB (ops : Array Oper) (m : Nat) : Bool :=
  decide (m ≤ ops.size) && (List.range ops.size).all fun i => match ops[i]? with
    | none => false
    | some o => o.after.all (fun e => !Region.binds .any e || decide (e.on < i)) && (if i < m then (match o.guard with
      | none => true
      | some (j, _) => decide (j < m))
      else if i = m then (List.range m).all (fun j => o.after.any fun e => Region.binds .any e && e.on == j) else o.after.any fun e => Region.binds .any e && e.on == i - 1)
theorem getD_lt {l : Array Bool} {j : Nat} (h : j < l.size) (x y : Bool) : l.getD j x = l.getD j y := by simp [Array.getD, h]
theorem getD_set_eq {l : Array Bool} {i : Nat} (h : i < l.size) (x : Bool) : (l.setIfInBounds i true).getD i x = true := by
  simp [Array.getD_eq_getD_getElem?, h]
theorem getD_set_ne {l : Array Bool} {i j : Nat} (h : i ≠ j) (x : Bool) : (l.setIfInBounds i true).getD j x = l.getD j x := by
  simp [Array.getD_eq_getD_getElem?, Array.getElem?_setIfInBounds_ne h]
theorem getD_rep {n j : Nat} (h : j < n) : (Array.replicate n false).getD j true = false := by simp [Array.getD, h]
theorem mem_ready {l : Array Bool} {i : Nat} : i ∈ Region.ready .any ops l ↔ i < ops.size ∧ l.getD i true = false ∧ ((ops[i]?).map (·.after.all fun e => !Region.binds .any e || l.getD e.on false)).getD false = true := by
  simp [Region.ready]
variable {m : Nat}
theorem tailB_at (h : tailB ops m = true) {i : Nat} {o : Oper} (ho : ops[i]? = some o) : (∀ e ∈ o.after, Region.binds .any e = true → e.on < i) ∧ (i < m → ∀ j b, o.guard = some (j, b) → j < m) ∧ (i = m → ∀ j, j < m → ∃ e ∈ o.after, Region.binds .any e = true ∧ e.on = j) ∧ (m < i → ∃ e ∈ o.after, Region.binds .any e = true ∧ e.on = i - 1) := by
  have hi := (Array.getElem?_eq_some_iff.1 ho).1
  simp only [tailB, Bool.and_eq_true, List.all_eq_true, List.mem_range] at h
  have h2 := h.2 i hi
  rw [ho] at h2
  simp only [Bool.and_eq_true] at h2
  refine ⟨fun e he hb => ?_, fun hm j b hg => ?_, fun hm j hj => ?_, fun hm => ?_⟩
  · have := Array.all_eq_true_iff_forall_mem.1 h2.1 e he
    simp only [hb, Bool.not_true, Bool.false_or, decide_eq_true_eq] at this
    exact this
  · have h3 := h2.2
    rw [if_pos hm, hg] at h3
    simpa using h3
  · have h3 := h2.2
    rw [if_neg (by omega), if_pos hm] at h3
    simp only [List.all_eq_true, List.mem_range] at h3
    obtain ⟨e, he, hb⟩ := Array.any_eq_true'.1 (h3 j hj)
    simp only [Bool.and_eq_true, beq_iff_eq] at hb
    exact ⟨e, he, hb⟩
  · have h3 := h2.2
    rw [if_neg (by omega), if_neg (by omega)] at h3
    obtain ⟨e, he, hb⟩ := Array.any_eq_true'.1 h3
    simp only [Bool.and_eq_true, beq_iff_eq] at hb
    exact ⟨e, he, hb⟩
theorem ready_edge {l : Array Bool} {i : Nat} {o : Oper} (hi : i ∈ Region.ready .any ops l) (ho : ops[i]? = some o) {e : Edge} (he : e ∈ o.after) (hb : Region.binds .any e = true) : l.getD e.on false = true := by
  have h := (mem_ready.1 hi).2.2
  rw [ho] at h
  simp only [Option.map_some, Option.getD_some] at h
  have := Array.all_eq_true_iff_forall_mem.1 h e he
  simpa [hb] using this
theorem ready_of {l : Array Bool} {i : Nat} {o : Oper} (ho : ops[i]? = some o) (hl : l.getD i true = false) (h : ∀ e ∈ o.after, Region.binds .any e = true → l.getD e.on false = true) : i ∈ Region.ready .any ops l := by
  refine mem_ready.2 ⟨(Array.getElem?_eq_some_iff.1 ho).1, hl, ?_⟩
  rw [ho]
  simp only [Option.map_some, Option.getD_some]
  exact Array.all_eq_true_iff_forall_mem.2 fun e he => by
    cases hb : Region.binds .any e with
    | false => rfl
    | true => simpa using h e he hb
/-- The last ones, in order. -/
theorem wpAny_tail (hB : tailB ops m = true) : ∀ (r k fuel : Nat) (l : Array Bool) (a : Act) (w : World), m ≤ k → k + r = ops.size → r ≤ fuel → l.size = ops.size → (∀ j, j < k → l.getD j true = true) → (∀ j, k ≤ j → j < ops.size → l.getD j true = false) →
    wpOps P ops Q (List.range' k r) a w → wpAny P .any ops Q fuel l a w
  | 0, k, fuel, l, a, w, hm, hk, hf, hs, h1, h2, h => by
    have hr : Region.ready .any ops l = [] := List.eq_nil_iff_forall_not_mem.2 fun i hi => by
      have := mem_ready.1 hi
      rw [h1 i (by omega)] at this
      exact absurd this.2.1 (by simp)
    cases fuel with
    | zero => exact ⟨hr, by simpa [wpOps] using h⟩
    | succ fuel => exact ⟨fun _ => by simpa [wpOps] using h, fun i hi => by rw [hr] at hi; cases hi⟩
  | r + 1, k, 0, l, a, w, hm, hk, hf, hs, h1, h2, h => absurd hf (by omega)
  | r + 1, k, fuel + 1, l, a, w, hm, hk, hf, hs, h1, h2, h => by
    have hk' : k < ops.size := by omega
    have hkm : k ∈ Region.ready .any ops l := ready_of (Array.getElem?_eq_getElem hk') (h2 k (Nat.le_refl _) hk') fun e he hb => by
      have := (tailB_at hB (Array.getElem?_eq_getElem hk')).1 e he hb
      rw [getD_lt (by omega) false true]
      exact h1 _ this
    refine ⟨fun h0 => (by rw [h0] at hkm; cases hkm), fun i hi => ?_⟩
    obtain ⟨hi1, hi2, -⟩ := mem_ready.1 hi
    have hik : i = k := by
      by_cases h3 : i < k
      · rw [h1 i h3] at hi2; cases hi2
      · by_cases h4 : i = k
        · exact h4
        · obtain ⟨e, he, hb, ho⟩ := (tailB_at hB (Array.getElem?_eq_getElem hi1)).2.2.2 (by omega)
          have := ready_edge hi (Array.getElem?_eq_getElem hi1) he hb
          rw [ho, getD_lt (by omega) false true, h2 (i - 1) (by omega) (by omega)] at this
          cases this
    subst hik
    rw [List.range'_succ, wpOps_cons] at h
    exact wpOp_mono (fun a w h => wpAny_tail hB r (i + 1) fuel _ a w (by omega) (by omega) (by omega) (by simpa using hs) (fun j hj => by
      by_cases e : i = j
      · subst e; exact getD_set_eq (by omega) true
      · rw [getD_set_ne e]; exact h1 j (by omega)) (fun j hj hj2 => by rw [getD_set_ne (by omega)]; exact h2 j (by omega) hj2) h) h
theorem ready_nil_all (hB : tailB ops m = true) {os : Array Oper} (hos : ∀ i, i < m → os[i]? = ops[i]?) (hsz : os.size = m) {l : Array Bool} (hl : l.size = m) (hr : Region.ready .any os l = []) : ∀ j, j < m → l.getD j true = true := by
  intro j
  induction j using Nat.strongRecOn with
  | _ j ih =>
    intro hj
    cases hc : l.getD j true with
    | true => rfl
    | false =>
      exfalso
      have hj' : j < os.size := by omega
      have ho := hos j hj
      rw [Array.getElem?_eq_getElem hj'] at ho
      have : j ∈ Region.ready .any os l := ready_of (Array.getElem?_eq_getElem hj') hc fun e he hb => by
        have := (tailB_at hB ho.symm).1 e he hb
        rw [getD_lt (by omega) false true]
        exact ih _ this (by omega)
      rw [hr] at this
      cases this
theorem wpAny_head (hB : tailB ops m = true) {os : Array Oper} (hos : ∀ i, i < m → os[i]? = ops[i]?) (hsz : os.size = m) (hm : m ≤ ops.size) : ∀ (fuel : Nat) (l' l : Array Bool) (a : Act) (w : World), l'.size = m → l.size = ops.size → (∀ j, j < m → l.getD j true = l'.getD j true) → (∀ j, m ≤ j → j < ops.size → l.getD j true = false) → C w →
    wpAnyQ P .any os C (fun a' => ∀ w', C w' → wpOps P ops Q (List.range' m (ops.size - m)) a' w') fuel l' a → wpAny P .any ops Q (fuel + (ops.size - m)) l a w := by
  have hend : ∀ (fuel : Nat) (l' l : Array Bool) (a : Act) (w : World), l'.size = m → l.size = ops.size → (∀ j, j < m → l.getD j true = l'.getD j true) → (∀ j, m ≤ j → j < ops.size → l.getD j true = false) → C w → Region.ready .any os l' = [] → (∀ w', C w' → wpOps P ops Q (List.range' m (ops.size - m)) a w') → wpAny P .any ops Q (fuel + (ops.size - m)) l a w :=
    fun fuel l' l a w h1 h2 h3 h4 hC hr h => wpAny_tail hB (ops.size - m) m _ l a w (Nat.le_refl _) (by omega) (by omega) h2 (fun j hj => by rw [h3 j hj]; exact ready_nil_all hB hos hsz h1 hr j hj) h4 (h w hC)
  intro fuel
  induction fuel with
  | zero => exact fun l' l a w h1 h2 h3 h4 hC h => hend 0 l' l a w h1 h2 h3 h4 hC h.1 h.2
  | succ fuel ih =>
    intro l' l a w h1 h2 h3 h4 hC h
    by_cases hr : Region.ready .any os l' = []
    · exact hend (fuel + 1) l' l a w h1 h2 h3 h4 hC hr (h.1 hr)
    · rw [show fuel + 1 + (ops.size - m) = (fuel + (ops.size - m)) + 1 by omega]
      have hsub : ∀ i, i ∈ Region.ready .any ops l → i ∈ Region.ready .any os l' := fun i hi => by
        obtain ⟨hi1, hi2, -⟩ := mem_ready.1 hi
        have ho := Array.getElem?_eq_getElem hi1
        rcases Nat.lt_trichotomy i m with h5 | h5 | h5
        · refine ready_of ((hos i h5).trans ho) (by rw [← h3 i h5]; exact hi2) fun e he hb => ?_
          have hlt := (tailB_at hB ho).1 e he hb
          have := ready_edge hi ho he hb
          rw [getD_lt (by omega) false true] at this ⊢
          rw [← h3 _ (by omega)]
          exact this
        · exfalso
          refine hr (List.eq_nil_iff_forall_not_mem.2 fun k hk => ?_)
          obtain ⟨hk1, hk2, -⟩ := mem_ready.1 hk
          obtain ⟨e, he, hb, he2⟩ := (tailB_at hB ho).2.2.1 h5 k (by omega)
          have := ready_edge hi ho he hb
          rw [he2, getD_lt (by omega) false true, h3 k (by omega), hk2] at this
          cases this
        · exfalso
          obtain ⟨e, he, hb, he2⟩ := (tailB_at hB ho).2.2.2 h5
          have := ready_edge hi ho he hb
          rw [he2, getD_lt (by omega) false true, h4 (i - 1) (by omega) (by omega)] at this
          cases this
      have hsub2 : ∀ i, i ∈ Region.ready .any os l' → i ∈ Region.ready .any ops l := fun i hi => by
        obtain ⟨hi1, hi2, -⟩ := mem_ready.1 hi
        have h5 : i < m := by omega
        have ho := Array.getElem?_eq_getElem hi1
        have ho2 := (hos i h5).symm.trans ho
        refine ready_of ho2 (by rw [h3 i h5]; exact hi2) fun e he hb => ?_
        have hlt := (tailB_at hB ho2).1 e he hb
        have := ready_edge hi ho he hb
        rw [getD_lt (by omega) false true] at this ⊢
        rw [h3 _ (by omega)]
        exact this
      refine ⟨fun h0 => absurd (List.eq_nil_iff_forall_not_mem.2 fun k hk => by
        have := hsub2 k hk
        rw [h0] at this
        cases this) hr, fun i hi => ?_⟩
      have hi' := hsub i hi
      have h5 : i < m := by have := (mem_ready.1 hi').1; omega
      have hq := h.2 i hi'
      have hq2 : qOp P ops C i (wpAnyQ P .any os C (fun a' => ∀ w', C w' → wpOps P ops Q (List.range' m (ops.size - m)) a' w') fuel (l'.setIfInBounds i true)) a := by
        unfold qOp at hq ⊢
        rw [hos i h5] at hq
        have ho := Array.getElem?_eq_getElem (show i < ops.size by omega)
        rw [ho] at hq ⊢
        dsimp only at hq ⊢
        have hw : Region.wanted ops[i] (yielded os a.tmps) = Region.wanted ops[i] (yielded ops a.tmps) := by
          unfold Region.wanted
          cases hg : (ops[i]).guard with
          | none => rfl
          | some x =>
            obtain ⟨j, b⟩ := x
            have := (tailB_at hB ho).2.1 h5 j b hg
            simp only [yielded, hos j this]
        rwa [hw] at hq
      exact wpOp_of_qOp hC (fun a' w' hC' hk => ih (l'.setIfInBounds i true) (l.setIfInBounds i true) a' w' (by simpa using h1) (by simpa using h2) (fun j hj => by
        by_cases e : i = j
        · subst e; rw [getD_set_eq (by omega), getD_set_eq (by omega)]
        · rw [getD_set_ne e, getD_set_ne e]; exact h3 j hj) (fun j hj hj2 => by rw [getD_set_ne (by omega)]; exact h4 j hj hj2) hC' hk) hq2
/-- The region, by one walk of its first operations, in a class of worlds, and then its last ones. -/
theorem region_tail {id : Nat} {os ts : List Oper} {a : Act} {w : World} (hm : P.follows .mixedOrders = true) (hB : tailB (os ++ ts).toArray os.length = true) (hL : Region.lexB .any os.toArray = true) (hC : C { w with drawn := w.drawn + 1 })
    (h : wpQuiet P os.toArray C (fun a' => ∀ w', C w' → wpOps P (os ++ ts).toArray Q (List.range' os.length ts.length) a' w') os a) : (Code.region id (os ++ ts).toArray true).wp P Q a w := by
  simp only [Region.lexB, Bool.and_eq_true] at hL
  have h1 := wpAnyQ_lex (P := P) (C := C) (md := .any) hL.1 os 0 (Array.replicate os.toArray.size false) a (by simp) (by simpa using hL.2) h
  refine wp_region_any hm ?_
  have h2 := wpAny_head (C := C) (Q := Q) hB (os := os.toArray) (fun i hi => by simp [List.getElem?_append_left hi]) (by simp) (by simp) os.length (Array.replicate os.toArray.size false) (Array.replicate (os ++ ts).toArray.size false) a { w with drawn := w.drawn + 1 } (by simp) (by simp)
    (fun j hj => (getD_rep (by simp; omega)).trans (getD_rep (by simpa using hj)).symm) (fun j hj hj2 => getD_rep hj2) hC (by simpa using h1)
  simpa using h2
/-- The same for operations that are written out, where the first ones but draw. -/
theorem region_tail_lit (m : Nat) {id : Nat} {l : List Oper} {a : Act} {w : World} (hm : P.follows .mixedOrders = true) (hl : m ≤ l.length) (hB : tailB l.toArray m = true) (hL : Region.lexB .any (l.take m).toArray = true)
    (h : wpQuiet P (l.take m).toArray (fun w' => ∃ n, w' = w.drewN n) (fun a' => ∀ n, wpOps P l.toArray Q (List.range' m (l.length - m)) a' (w.drewN n)) (l.take m) a) : (Code.region id l.toArray true).wp P Q a w := by
  have e : l.take m ++ l.drop m = l := List.take_append_drop m l
  have hlen : (l.take m).length = m := by simp [hl]
  have := region_tail (id := id) (os := l.take m) (ts := l.drop m) (Q := Q) (a := a) (w := w) (C := fun w' => ∃ n, w' = w.drewN n) hm (by rw [e, hlen]; exact hB) hL ⟨1, rfl⟩ (by
    rw [e, hlen]
    have e2 : (l.drop m).length = l.length - m := by simp
    rw [e2]
    have e3 : (fun a' : Act => ∀ w' : World, (∃ n, w' = w.drewN n) → wpOps P l.toArray Q (List.range' m (l.length - m)) a' w') = fun a' => ∀ n, wpOps P l.toArray Q (List.range' m (l.length - m)) a' (w.drewN n) := by
      funext a'
      exact propext ⟨fun h n => h _ ⟨n, rfl⟩, fun h w' ⟨n, e⟩ => by rw [e]; exact h n⟩
    rw [e3]
    exact h)
  rwa [e] at this
end
end Go.Proofs.YtikeihnhkiipgaaGreat
