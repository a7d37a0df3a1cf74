/-
  The array of known tickets in memory; the row of their numbers; who is asked for the truth.
-/
import Derived.Test.YtbpeamppkdmdcaaW5
import Derived.Test.YtbpeamppkdmdcaaK
namespace Go.Proofs.Ytbpeamppkdmdcaa
open Go.RowKit

structure Kn where
  fr : Int
  to : Int
  td : Int
def Kn.v (k : Kn) : Value := .agg #[.int .i64 k.fr, .int .i64 k.to, .int .i64 k.td]
def Tk.v (t : Tk) : Value := .agg #[.int .i64 t.crew, .int .i64 t.seam, .int .i64 t.fl, .int .i64 t.fh, .int .i64 t.tl, .int .i64 t.th, .int .i64 t.dl, .int .i64 t.dh]

/-- Block b holds six known tickets; it can be written. -/
structure Larr (w : World) (b : Nat) (f : Nat → Kn) : Prop where
  lt : b < w.heap.size
  fr : ∀ i, i < 6 → w.cell? ⟨b, i * 3, none⟩ = some (.int .i64 (f i).fr)
  to : ∀ i, i < 6 → w.cell? ⟨b, i * 3 + 1, none⟩ = some (.int .i64 (f i).to)
  td : ∀ i, i < 6 → w.cell? ⟨b, i * 3 + 2, none⟩ = some (.int .i64 (f i).td)
  free : ∀ i, i < 18 → w.frozen? ⟨b, i, none⟩ = false

theorem Larr.kept {w w' : World} {b : Nat} {f : Nat → Kn} {row : Option Nat} (h : Larr w b f) (hg : w.grownBy w' row) (hne : some b ≠ row) : Larr w' b f := by
  have e := hg.block b h.lt hne
  have c : ∀ o, w'.cell? ⟨b, o, none⟩ = w.cell? ⟨b, o, none⟩ := fun o => World.cell?_of_block (a := ⟨b, o, none⟩) e
  have d : ∀ o, w'.frozen? ⟨b, o, none⟩ = w.frozen? ⟨b, o, none⟩ := fun o => World.frozen?_of_block (a := ⟨b, o, none⟩) e
  exact ⟨Nat.lt_of_lt_of_le h.lt hg.size, fun i hi => (c _).trans (h.fr i hi), fun i hi => (c _).trans (h.to i hi), fun i hi => (c _).trans (h.td i hi), fun i hi => (d _).trans (h.free i hi)⟩
theorem Larr.grow {w w' : World} {b : Nat} {f : Nat → Kn} (h : Larr w b f) (hb : Below w.heap.size w w') : Larr w' b f := by
  have e := hb.block b h.lt
  have c : ∀ o, w'.cell? ⟨b, o, none⟩ = w.cell? ⟨b, o, none⟩ := fun o => World.cell?_of_block (a := ⟨b, o, none⟩) e
  have d : ∀ o, w'.frozen? ⟨b, o, none⟩ = w.frozen? ⟨b, o, none⟩ := fun o => World.frozen?_of_block (a := ⟨b, o, none⟩) e
  exact ⟨Nat.lt_of_lt_of_le h.lt hb.size, fun i hi => (c _).trans (h.fr i hi), fun i hi => (c _).trans (h.to i hi), fun i hi => (c _).trans (h.td i hi), fun i hi => (d _).trans (h.free i hi)⟩
theorem Larr.tides {w : World} {b : Nat} {f : Nat → Kn} (h : Larr w b f) : Tides w b (fun i => (f i).td) := h.td

def setk (f : Nat → Kn) (k : Nat) (x : Kn) : Nat → Kn := fun i => if i = k then x else f i

theorem size_setCell (w : World) (a : Addr) (v : Value) : (w.setCell a v).heap.size = w.heap.size := by simp [World.setCell]

/-- A cell behind three stores into one block. -/
theorem Larr.set {w : World} {b : Nat} {f : Nat → Kn} (h : Larr w b f) {k : Nat} (hk : k < 6) (x : Kn) :
    Larr (((w.setCell ⟨b, k * 3, none⟩ (.int .i64 x.fr)).setCell ⟨b, k * 3 + 1, none⟩ (.int .i64 x.to)).setCell ⟨b, k * 3 + 2, none⟩ (.int .i64 x.td)) b (setk f k x) where
  lt := by simp only [size_setCell]; exact h.lt
  fr := fun i hi => by
    rw [World.cell?_setCell_other _ _ _ _ (by simp <;> omega), World.cell?_setCell_other _ _ _ _ (by simp <;> omega)]
    by_cases e : i = k
    · subst e; rw [World.cell?_setCell_same' _ _ _ (by rw [h.fr i hi]; rfl)]; simp [setk]
    · rw [World.cell?_setCell_other _ _ _ _ (by simp <;> omega), h.fr i hi]; simp [setk, e]
  to := fun i hi => by
    rw [World.cell?_setCell_other _ _ _ _ (by simp <;> omega)]
    by_cases e : i = k
    · subst e; rw [World.cell?_setCell_same' _ _ _ (by rw [World.cell?_setCell_other _ _ _ _ (by simp <;> omega), h.to i hi]; rfl)]; simp [setk]
    · rw [World.cell?_setCell_other _ _ _ _ (by simp <;> omega), World.cell?_setCell_other _ _ _ _ (by simp <;> omega), h.to i hi]; simp [setk, e]
  td := fun i hi => by
    by_cases e : i = k
    · subst e; rw [World.cell?_setCell_same' _ _ _ (by rw [World.cell?_setCell_other _ _ _ _ (by simp <;> omega), World.cell?_setCell_other _ _ _ _ (by simp <;> omega), h.td i hi]; rfl)]; simp [setk]
    · rw [World.cell?_setCell_other _ _ _ _ (by simp <;> omega), World.cell?_setCell_other _ _ _ _ (by simp <;> omega), World.cell?_setCell_other _ _ _ _ (by simp <;> omega), h.td i hi]; simp [setk, e]
  free := fun i hi => by rw [World.frozen?_setCell, World.frozen?_setCell, World.frozen?_setCell]; exact h.free i hi

theorem grown3 (w : World) (b o1 o2 o3 : Nat) (u v x : Value) : w.grownBy (((w.setCell ⟨b, o1, none⟩ u).setCell ⟨b, o2, none⟩ v).setCell ⟨b, o3, none⟩ x) (some b) :=
  ⟨rfl, rfl, rfl, by simp only [size_setCell]; exact Nat.le_refl _, fun i _ hne => by
    rw [Below.heap_setCell _ _ _ _ (fun e => hne (by rw [e])), Below.heap_setCell _ _ _ _ (fun e => hne (by rw [e])), Below.heap_setCell _ _ _ _ (fun e => hne (by rw [e]))]⟩

def numVals (k : Nat) : List Value := (List.range k).map fun (i : Nat) => Value.int .i64 (i : Int)
theorem numVals_succ (k : Nat) : numVals (k + 1) = numVals k ++ [.int .i64 (k : Int)] := by simp [numVals, List.range_succ]
theorem numVals_get (k i : Nat) (h : i < k) : (numVals k)[i]? = some (.int .i64 (i : Int)) := by simp [numVals, h]

/-- The row of the first n numbers, as a slice that may be nil. -/
theorem row_nums {w : World} {base n : Nat} {v : Value} (h : w.ownsRow base 3 1 v n (numVals n)) :
    ∃ oa cap, v = .slice oa n cap ∧ (0 < n → oa = some ⟨blk oa, ofs oa, none⟩) ∧ Nums w (blk oa) (ofs oa) n (fun m => m) ∧ (0 < n → base ≤ blk oa ∧ blk oa < w.heap.size) ∧ (∀ b, b < base → 0 < n → b ≠ blk oa) := by
  rcases h.2 with ⟨rfl, rfl⟩ | ⟨g, cap, cur, rfl, hb, hg, hle, hm, hs, ht⟩
  · exact ⟨none, 0, rfl, fun h => by omega, ⟨fun i hi => by omega, fun i hi => by omega⟩, fun h => by omega, fun _ _ h => by omega⟩
  · refine ⟨some ⟨g, 0, none⟩, cap, rfl, fun _ => rfl, ⟨fun i hi => ?_, fun i hi => ?_⟩, fun _ => ⟨hb, lt_of_heap hg⟩, fun b hb' _ e => ?_⟩
    · show w.cell? ⟨g, 0 + i, none⟩ = _
      rw [cellAt hg, Nat.zero_add]
      have h1 := numVals_get n i hi
      rw [← ht] at h1
      rw [List.getElem?_take] at h1
      split at h1
      · rw [← Array.getElem?_toList]; exact h1
      · cases h1
    · exact freeAt hg _
    · simp only [blk] at e; omega
end Go.Proofs.Ytbpeamppkdmdcaa
