/-
  All truths, as the reference lists them: the plain part, and how they lie in memory.
-/
import Derived.Test.YtbpeamppkdmdcaaU5
namespace Go.Proofs.Ytbpeamppkdmdcaa
open Go.RowKit

/-- All that goes on from some tickets that are known. -/
def ext (T : Nat → Tk) : Nat → Nat → List Kn → List (List Kn)
  | 0, _, bl => [bl]
  | d + 1, m, bl => (canL (T m)).flatMap fun k => ext T d (m + 1) (bl ++ [k])
theorem ext_len (T : Nat → Tk) : ∀ d m bl x, x ∈ ext T d m bl → x.length = bl.length + d
  | 0, m, bl, x, h => by simp only [ext, List.mem_singleton] at h; subst h; rfl
  | d + 1, m, bl, x, h => by
    simp only [ext, List.mem_flatMap] at h
    obtain ⟨k, _, h⟩ := h
    have := ext_len T d (m + 1) (bl ++ [k]) x h
    simp only [List.length_append, List.length_cons, List.length_nil] at this
    omega
/-- How many truths there are. -/
def countT (T : Nat → Tk) : Nat → Nat → Nat
  | 0, _ => 1
  | d + 1, m => (canL (T m)).length * countT T d (m + 1)
theorem flatMap_len {α β : Type} (l : List α) (f : α → List β) (c : Nat) (h : ∀ x ∈ l, (f x).length = c) : (l.flatMap f).length = l.length * c := by
  induction l with
  | nil => simp
  | cons x l ih =>
    rw [List.flatMap_cons, List.length_append, ih (fun y hy => h y (List.mem_cons_of_mem _ hy)), h x List.mem_cons_self, List.length_cons, Nat.succ_mul, Nat.add_comm]
theorem ext_count (T : Nat → Tk) : ∀ d m bl, (ext T d m bl).length = countT T d m
  | 0, m, bl => rfl
  | d + 1, m, bl => by
    simp only [ext, countT]
    exact flatMap_len _ _ _ fun k _ => ext_count T d (m + 1) (bl ++ [k])
/-- The first of them, ticket by ticket. -/
def extI (T : Nat → Tk) (d m : Nat) (bl : List Kn) (i : Nat) : List (List Kn) := ((canL (T m)).take i).flatMap fun k => ext T d (m + 1) (bl ++ [k])
theorem extI_zero (T : Nat → Tk) (d m : Nat) (bl : List Kn) : extI T d m bl 0 = [] := rfl
theorem extI_full (T : Nat → Tk) (d m : Nat) (bl : List Kn) : extI T d m bl (canL (T m)).length = ext T (d + 1) m bl := by simp [extI, ext]
theorem extI_succ (T : Nat → Tk) (d m : Nat) (bl : List Kn) {i : Nat} (hi : i < (canL (T m)).length) : extI T d m bl (i + 1) = extI T d m bl i ++ ext T d (m + 1) (bl ++ [knF (canL (T m)) i]) := by
  have h : (canL (T m))[i]? = some (knF (canL (T m)) i) := by simp [knF, hi]
  simp only [extI, List.take_add_one, h, Option.toList_some, List.flatMap_append, List.flatMap_cons, List.flatMap_nil, List.append_nil]
theorem extI_count (T : Nat → Tk) (d m : Nat) (bl : List Kn) {i : Nat} (hi : i ≤ (canL (T m)).length) : (extI T d m bl i).length = i * countT T d (m + 1) := by
  unfold extI
  rw [flatMap_len _ _ (countT T d (m + 1)) fun k _ => ext_count T d (m + 1) (bl ++ [k]), List.length_take, Nat.min_eq_left hi]

/-- A list of truths that the call has made: headers of rows that lie elsewhere. -/
structure OutAt (B tn : Nat) (v : Value) (ts : List (List Kn)) (W : World) : Prop where
  own : ∃ hs : List Value, W.ownsRow B 104 1 v ts.length hs ∧ ∀ i, i < ts.length → ∃ oa cap, hs[i]? = some (.slice oa tn cap) ∧ KnAt W oa tn (knF (ts.getD i [])) ∧ (0 < tn → v.ownBlock ≠ some (blk oa))
theorem OutAt.grow {B tn : Nat} {v : Value} {ts : List (List Kn)} {W W2 : World} (h : OutAt B tn v ts W) (hb : Below W.heap.size W W2) : OutAt B tn v ts W2 := by
  obtain ⟨hs, ho, hr⟩ := h.own
  refine ⟨hs, ho.kept (row := none) ⟨hb.os, hb.tape, hb.output, hb.size, fun k hk _ => hb.block k hk⟩ (by cases v.ownBlock <;> simp), fun i hi => ?_⟩
  obtain ⟨oa, cap, h1, h2, h3⟩ := hr i hi
  exact ⟨oa, cap, h1, h2.grow hb, h3⟩
theorem OutAt.nil (B tn : Nat) (W : World) : OutAt B tn (.slice none 0 0) [] W := ⟨[], World.ownsRow_nil W B 104 1, fun i hi => by simp at hi⟩
theorem Row.kept {W W2 : World} {oa : Option Addr} {n sz : Nat} {cell : Nat → Nat → Value} {row : Option Nat} (h : Row W oa n sz cell) (hg : W.grownBy W2 row) (hr : 0 < n → row ≠ some (blk oa)) : Row W2 oa n sz cell :=
  ⟨h.plain, fun hn => Nat.lt_of_lt_of_le (h.old hn) hg.size, h.small, fun i hi j hj => (World.cell?_of_block (hg.block _ (h.old (by omega)) (fun e => hr (by omega) e.symm))).trans (h.cells i hi j hj)⟩
/-- A header is appended. -/
theorem OutAt.put {B tn : Nat} {v : Value} {ts : List (List Kn)} {W W2 : World} {hs : List Value} (ho : W.ownsRow B 104 1 v ts.length hs) (hr : ∀ i, i < ts.length → ∃ oa cap, hs[i]? = some (.slice oa tn cap) ∧ KnAt W oa tn (knF (ts.getD i [])) ∧ (0 < tn → v.ownBlock ≠ some (blk oa))) {oa : Option Addr} {c : Nat} {bl : List Kn} (hk : KnAt W oa tn (knF bl)) (hne : 0 < tn → v.ownBlock ≠ some (blk oa))
    {g cap : Nat} (hown : W2.ownsRow B 104 1 (.slice (some ⟨g, 0, none⟩) (ts.length + 1) cap) (ts.length + 1) (hs ++ [.slice oa tn c])) (hg : W.grownBy W2 v.ownBlock) (hat : v.ownBlock = some g ∨ g = W.heap.size) :
    OutAt B tn (.slice (some ⟨g, 0, none⟩) (ts.length + 1) cap) (ts ++ [bl]) W2 := by
  have hlen : hs.length = ts.length := by simpa using ho.1
  have hgo : ∀ {ob : Option Addr} {f : Nat → Kn}, KnAt W ob tn f → (0 < tn → v.ownBlock ≠ some (blk ob)) → 0 < tn → (Value.slice (some ⟨g, 0, none⟩) (ts.length + 1) cap).ownBlock ≠ some (blk ob) := fun {ob f} hk hn h0 e => by
    have e1 : g = blk ob := Option.some.inj e
    rcases hat with h1 | h1
    · exact hn h0 (by rw [h1, e1])
    · have := hk.old h0
      omega
  refine ⟨hs ++ [.slice oa tn c], by simpa using hown, fun i hi => ?_⟩
  simp only [List.length_append, List.length_cons, List.length_nil] at hi
  by_cases e : i = ts.length
  · subst e
    refine ⟨oa, c, ?_, ?_, hgo hk hne⟩
    · rw [← hlen]; simp
    · rw [show (ts ++ [bl]).getD ts.length [] = bl by simp]
      exact Row.kept hk hg hne
  · obtain ⟨ob, cb, h1, h2, h3⟩ := hr i (by omega)
    refine ⟨ob, cb, ?_, ?_, hgo h2 h3⟩
    · rw [List.getElem?_append_left (by omega)]; exact h1
    · rw [show (ts ++ [bl]).getD i [] = ts.getD i [] by simp [List.getD, List.getElem?_append_left (show i < ts.length by omega)]]
      exact Row.kept h2 hg h3
end Go.Proofs.Ytbpeamppkdmdcaa
