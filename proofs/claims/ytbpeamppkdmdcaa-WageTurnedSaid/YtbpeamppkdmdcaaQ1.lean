/-
  A row of numbers is copied; what is due by lists that are too long.
-/
import Derived.Test.YtbpeamppkdmdcaaT2
import Derived.Test.YtbpeamppkdmdcaaH0
namespace Go.Proofs.Ytbpeamppkdmdcaa
open Go.RowKit

theorem wpList_ints {W : World} {ops : Array Oper} {rest : List Oper} {o : Oper} {a : Act} {Q : Exit → Act → World → Prop} (hgd : o.guard = none) (s x : Operand)
    (ho : o.op = .call { callee := .builtin .append, args := #[s, x], argTypes := #[37, 37] }) {g0 : Nat} (hs : a.eval s = .slice (some ⟨g0, 0, none⟩) 0 0) (hE : BoxAt W g0 #[] 3)
    {g n c : Nat} {F : Nat → Int} (hx : a.eval x = .slice (some ⟨g, 0, none⟩) n c) (hF : BoxAt W g (rowVals F n).toArray 3) (h0 : 0 < n) (hn : n ≤ 1000)
    (k : ∀ g1 cap w', IntsAt w' (some ⟨g1, 0, none⟩) n F → W.grownBy w' (some g0) → g0 ≤ g1 → (g0 = g1 ∨ g1 = W.heap.size) → wpList Try.prog ops Q rest (a.put o.dst (.slice (some ⟨g1, 0, none⟩) n cap)) w') :
    wpList Try.prog ops Q (o :: rest) a W := by
  obtain ⟨i0, hi0, hz0, hz1, hz2⟩ := info_parts info3
  refine wpList_append_lies W hgd s x 37 ho g0 3 i0 _ 1 8 Try.underlying37 hi0 hz0 hz1 hz2 rfl (by omega) (.slice (some ⟨g0, 0, none⟩) 0 0) 0 [] hs
    ⟨rfl, .inr ⟨g0, 0, #[], rfl, Nat.le_refl _, hE, Nat.le_refl _, by unfold maxLen; omega, rfl, rfl⟩⟩ ⟨g, 0, none⟩ n c (rowVals F n) hx (by rw [rowVals_length]; omega)
    (fun j u hu => World.news_of_block hF j u (by simpa using hu)) (fun u hu => by simp only [rowVals, List.mem_map] at hu; obtain ⟨i, _, rfl⟩ := hu; rfl) h0 (by unfold maxLen; omega) (by omega) (Nat.le_of_lt (lt_of_heap hE)) _ rfl ?_
  intro g1 cap w' hown hg hat _
  rw [Nat.zero_add, List.nil_append] at hown
  rw [Nat.zero_add]
  obtain ⟨oa, cap', hv, hI, hB⟩ := row_ints hown (by unfold maxLen; omega)
  simp only [Value.slice.injEq] at hv
  obtain ⟨rfl, -, -⟩ := hv
  exact k g1 cap w' hI hg (hB h0) (hat.imp (fun e => Option.some.inj e) id)
theorem ExactPost.no {w : World} {V : Prop} {b : Bool} {F : Nat → Int} {n : Nat} {e : Ending} {w' : World} (h : ExactPost w V b F n e w') (hv : V) (hb : b = false) : e = .returned (.tuple #[.slice none 0 0, .int .i64 2]) ∧ Below w.heap.size w w' := by
  rcases h with ⟨h0, h | h | h⟩
  · rw [hb] at h; cases h.2.1
  · exact ⟨h.2.2, h0⟩
  · exact absurd hv h.1
theorem exB_long (tn : Nat) (T : Nat → Tk) (f g h : Nat → Int) : exB (tn + 1) tn tn tn T f g h = false := by unfold exB; simp
theorem intsEq_same (n : Nat) (f : Nat → Int) : intsEq n n f f = true := by simp [intsEq]
end Go.Proofs.Ytbpeamppkdmdcaa
