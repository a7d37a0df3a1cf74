/-
  Plain law: an insertion sort by a key that keeps the order of equal ones.
-/
import Derived.Lib.BitFns
namespace Go.Proofs.Ytbpeamppkdmdcaa

def lexlt (k : Nat → Int) (a b : Nat) : Prop := k a < k b ∨ (k a = k b ∧ a < b)

structure Pre (k : Nat → Int) (n i : Nat) (g : Nat → Nat) : Prop where
  lt : ∀ m, m < i → g m < i
  onto : ∀ v, v < i → ∃ m, m < i ∧ g m = v
  rest : ∀ m, i ≤ m → m < n → g m = m
  srt : ∀ a b, a < b → b < i → lexlt k (g a) (g b)

structure Ins (k : Nat → Int) (n i j : Nat) (g : Nat → Nat) : Prop where
  hj : j ≤ i
  atj : g j = i
  lt : ∀ m, m ≤ i → m ≠ j → g m < i
  onto : ∀ v, v ≤ i → ∃ m, m ≤ i ∧ g m = v
  rest : ∀ m, i < m → m < n → g m = m
  srt : ∀ a b, a < b → b ≤ i → a ≠ j → b ≠ j → lexlt k (g a) (g b)
  big : ∀ b, j < b → b ≤ i → k i < k (g b)

def swp (g : Nat → Nat) (j : Nat) : Nat → Nat := fun m => if m = j + 1 then g j else if m = j then g (j + 1) else g m

theorem Pre.start (k : Nat → Int) (n : Nat) : Pre k n 1 (fun m => m) where
  lt := fun m h => h
  onto := fun v h => ⟨v, h, rfl⟩
  rest := fun _ _ _ => rfl
  srt := fun a b _ _ => by omega

theorem Ins.start {k : Nat → Int} {n i : Nat} {g : Nat → Nat} (h : Pre k n i g) (hi : i < n) : Ins k n i i g where
  hj := Nat.le_refl _
  atj := h.rest i (Nat.le_refl _) hi
  lt := fun m h1 h2 => h.lt m (by omega)
  onto := fun v hv => by
    by_cases e : v = i
    · exact ⟨i, Nat.le_refl _, by rw [e]; exact h.rest i (Nat.le_refl _) hi⟩
    · obtain ⟨m, h1, h2⟩ := h.onto v (by omega)
      exact ⟨m, by omega, h2⟩
  rest := fun m h1 h2 => h.rest m (by omega) h2
  srt := fun a b h1 h2 _ h4 => h.srt a b h1 (by omega)
  big := fun b h1 h2 => by omega

theorem Ins.step {k : Nat → Int} {n i j : Nat} {g : Nat → Nat} (h : Ins k n i (j + 1) g) (hk : k (g (j + 1)) < k (g j)) : Ins k n i j (swp g j) := by
  have hj := h.hj
  have hat := h.atj
  refine ⟨by omega, by simp [swp, hat], ?_, ?_, ?_, ?_, ?_⟩
  · intro m h1 h2
    by_cases e : m = j + 1
    · simpa [swp, e] using h.lt j (by omega) (by omega)
    · simpa [swp, e, h2] using h.lt m h1 e
  · intro v hv
    obtain ⟨m, h1, h2⟩ := h.onto v hv
    by_cases e : m = j + 1
    · exact ⟨j, by omega, by simp [swp, ← h2, e]⟩
    · by_cases e' : m = j
      · exact ⟨j + 1, by omega, by simp [swp, ← h2, e']⟩
      · exact ⟨m, h1, by simp [swp, e, e', h2]⟩
  · intro m h1 h2
    simpa [swp, show m ≠ j + 1 by omega, show m ≠ j by omega] using h.rest m h1 h2
  · intro a b h1 h2 h3 h4
    by_cases ea : a = j + 1
    · have hb : b ≠ j + 1 := by omega
      subst ea
      simpa [swp, hb, h4] using h.srt j b (by omega) h2 (by omega) hb
    · by_cases eb : b = j + 1
      · subst eb
        simpa [swp, ea, h3] using h.srt a j (by omega) (by omega) ea (by omega)
      · simpa [swp, ea, eb, h3, h4] using h.srt a b h1 h2 ea eb
  · intro b h1 h2
    by_cases e : b = j + 1
    · rw [hat] at hk
      simpa [swp, e] using hk
    · simpa [swp, e, show b ≠ j by omega] using h.big b (by omega) h2

theorem Ins.done {k : Nat → Int} {n i j : Nat} {g : Nat → Nat} (h : Ins k n i j g) (hk : j = 0 ∨ ¬ k (g j) < k (g (j - 1))) : Pre k n (i + 1) g := by
  have hj := h.hj
  have hat := h.atj
  have before : ∀ a, a < j → lexlt k (g a) i := by
    intro a ha
    have hk' : ¬ k (g j) < k (g (j - 1)) := hk.resolve_left (by omega)
    rw [hat] at hk'
    have l1 := h.lt (j - 1) (by omega) (by omega)
    have base : lexlt k (g (j - 1)) i := by
      by_cases e : k (g (j - 1)) < k i
      · exact .inl e
      · exact .inr ⟨by omega, l1⟩
    by_cases e : a = j - 1
    · rw [e]; exact base
    · have := h.srt a (j - 1) (by omega) (by omega) (by omega) (by omega)
      unfold lexlt at *
      omega
  refine ⟨?_, ?_, fun m h1 h2 => h.rest m (by omega) h2, ?_⟩
  · intro m hm
    by_cases e : m = j
    · rw [e, hat]; omega
    · have := h.lt m (by omega) e; omega
  · intro v hv
    obtain ⟨m, h1, h2⟩ := h.onto v (by omega)
    exact ⟨m, by omega, h2⟩
  · intro a b h1 h2
    by_cases ea : a = j
    · rw [ea, hat]
      exact .inl (h.big b (by omega) (by omega))
    · by_cases eb : b = j
      · rw [eb, hat]; exact before a (by omega)
      · exact h.srt a b h1 (by omega) ea eb

theorem Pre.congr {k k' : Nat → Int} {n : Nat} {g : Nat → Nat} (h : Pre k n n g) (e : ∀ i, i < n → k i = k' i) : Pre k' n n g where
  lt := h.lt
  onto := h.onto
  rest := h.rest
  srt := fun a b h1 h2 => by
    have := h.srt a b h1 h2
    unfold lexlt at *
    rw [e _ (h.lt a (by omega)), e _ (h.lt b h2)] at this
    exact this
end Go.Proofs.Ytbpeamppkdmdcaa
