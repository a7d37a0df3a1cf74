/-
  Plain laws: a bit that is the other one is found, whichever; with two of them nothing is right.
-/
import Derived.Test.YtclbmlmlhiiaeaaGreatDoorQW5
namespace Go.Proofs.YtclbmlmlhiiaeaaGreatDoor
open Go.RowKit

theorem one_bits : ∀ c : Fin 8, 128 / 2 ^ c.val ≠ 0 ∧ Lib.onesCount (128 / 2 ^ c.val) = 1 ∧ 8 - Lib.bitLen (128 / 2 ^ c.val) = c.val := by decide +kernel
theorem wr_single {d : Nat → Nat} (hd : ∀ i, d i < 256) {k c : Nat} (hc : c < 8) (hk : d k = 128 / 2 ^ c) : ∀ n, k < n → (∀ j, j < n → j ≠ k → d j = 0) → wrN d n = 1 ∧ wrF d n = 8 * k + c
  | 0, h, _ => by omega
  | n + 1, h, ho => by
    obtain ⟨o1, o2, o3⟩ := one_bits ⟨c, hc⟩
    dsimp only at o1 o2 o3
    simp only [wrN, wrF]
    by_cases e : n = k
    · subst e
      rw [hk, if_neg o1, if_neg o1]
      have h0 := (wr_zero hd n).2 (fun j hj => ho j (by omega) (by omega))
      rw [h0, if_pos rfl, o2, o3]
      omega
    · rw [ho n (by omega) e, if_pos rfl, if_pos rfl]
      exact wr_single hd hc hk n (by omega) (fun j hj hne => ho j (by omega) hne)
theorem dif_sealed {b : Nat → Nat} (h8 : ∀ i, b i < 256) {n : Nat} (hs : ∀ k, k < szB n → sealB b n k = b k) {i : Nat} (hi : i < rowsB n + 1) : difB b n i = 0 :=
  (dif_zero h8).2 (hs (n + i) (by unfold szB; unfold rowsB at hi; omega)).symm
/-- One bit of a book that stands right: it is found. -/
theorem mend_flip {b : Nat → Nat} (h8 : ∀ i, b i < 256) {n t : Nat} (hs : ∀ k, k < szB n → sealB b n k = b k) (ht : t < 8 * szB n) : mendAt (flipB b t) n = .inl t := by
  have hz : szB n = n + rowsB n + 1 := rfl
  have hrn : 8 * rowsB n < n + 8 ∧ n ≤ 8 * rowsB n := by unfold rowsB; omega
  have hf8 : ∀ i, flipB b t i < 256 := flip_lt h8 t
  have hd := dif_lt hf8 n
  have hc8 : t % 8 < 8 := Nat.mod_lt _ (by omega)
  have zd : ∀ i, i < rowsB n + 1 → difB b n i = 0 := fun i hi => dif_sealed h8 hs hi
  have hE : ∀ i, i < rowsB n + 1 → b (n + i) = sealB b n (n + i) := fun i hi => (hs _ (by omega)).symm
  by_cases h1 : t / 8 < n
  · have hft : flipB b t (t / 8) = b (t / 8) ^^^ (128 / 2 ^ (t % 8)) := flip_at rfl
    have hfn : ∀ j, j ≠ t / 8 → flipB b t j = b j := fun j hj => flip_ne hj
    have hrow : ∀ i, i < rowsB n → difB (flipB b t) n i = if t / 8 / 8 = i then 128 / 2 ^ (t / 8 % 8) else 0 := fun i hi => by
      have e1 : sealB (flipB b t) n (n + i) = sealB b n (n + i) ^^^ (if t / 8 / 8 = i then 128 / 2 ^ (t / 8 % 8) else 0) := by
        unfold sealB rowB
        have x1 : ¬ n + i < n := by omega
        have x2 : n + i < n + rowsB n := by omega
        rw [if_neg x1, if_neg x1, if_pos x2, if_pos x2, show n + i - n = i by omega]
        exact pk_flip (t := t / 8) (by rw [hft]; exact odd_fin ⟨b (t / 8), h8 _⟩ ⟨t % 8, hc8⟩) (fun j hj => by rw [hfn j hj]) _ n h1
      unfold difB
      rw [e1, hfn (n + i) (by omega), hE i (by omega), ← Nat.xor_assoc, Nat.xor_self, Nat.zero_xor]
    have hcol : difB (flipB b t) n (rowsB n) = 128 / 2 ^ (t % 8) := by
      have e1 : sealB (flipB b t) n (n + rowsB n) = sealB b n (n + rowsB n) ^^^ (128 / 2 ^ (t % 8)) := by
        unfold sealB
        have x1 : ¬ n + rowsB n < n := by omega
        have x2 : ¬ n + rowsB n < n + rowsB n := by omega
        rw [if_neg x1, if_neg x1, if_neg x2, if_neg x2]
        exact col_flip hft hfn n h1
      unfold difB
      rw [e1, hfn (n + rowsB n) (by omega), hE (rowsB n) (by omega), ← Nat.xor_assoc, Nat.xor_self, Nat.zero_xor]
    have hr := wr_single hd (k := t / 8 / 8) (c := t / 8 % 8) (Nat.mod_lt _ (by omega)) (by rw [hrow _ (by omega), if_pos rfl]) (rowsB n) (by omega) (fun j hj hne => by rw [hrow j hj, if_neg (fun e => hne e.symm)])
    have hc := wr_single (d := fun i => difB (flipB b t) n (rowsB n + i)) (fun i => hd _) (k := 0) hc8 hcol 1 (by omega) (fun j hj hne => by omega)
    have r1 : rowsN (flipB b t) n = 1 := hr.1
    have c1 : colsN (flipB b t) n = 1 := hc.1
    have rF : rowF (flipB b t) n = t / 8 := by unfold rowF; rw [hr.2]; omega
    have cF : colF (flipB b t) n = t % 8 := by unfold colF; rw [hc.2]; omega
    unfold mendAt
    rw [r1, c1, rF, cF, if_neg (by omega), if_neg (by omega), if_neg (by omega), if_pos rfl, if_pos h1, show 8 * (t / 8) + t % 8 = t by omega]
  · have hcong : ∀ k, sealB (flipB b t) n k = sealB b n k := fun k => seal_congr (fun j hj => flip_ne (by omega)) k
    have hdif : ∀ i, i < rowsB n + 1 → difB (flipB b t) n i = if t / 8 = n + i then 128 / 2 ^ (t % 8) else 0 := fun i hi => by
      unfold difB
      rw [hcong, ← hE i hi]
      by_cases e : t / 8 = n + i
      · rw [if_pos e, flip_at e.symm, Nat.xor_comm (b (n + i)), Nat.xor_assoc, Nat.xor_self, Nat.xor_zero]
      · rw [if_neg e, flip_ne (fun h => e h.symm), Nat.xor_self]
    by_cases h2 : t / 8 < n + rowsB n
    · have hr := wr_single hd (k := t / 8 - n) hc8 (by rw [hdif _ (by omega), if_pos (by omega)]) (rowsB n) (by omega) (fun j hj hne => by rw [hdif j (by omega), if_neg (by omega)])
      have c0 : colsN (flipB b t) n = 0 := (wr_zero (d := fun i => difB (flipB b t) n (rowsB n + i)) (fun i => hd _) 1).2 (fun j hj => by
        show difB (flipB b t) n (rowsB n + j) = 0
        rw [hdif _ (by omega), if_neg (by omega)])
      have r1 : rowsN (flipB b t) n = 1 := hr.1
      have rF : rowF (flipB b t) n = 8 * (t / 8 - n) + t % 8 := hr.2
      unfold mendAt
      rw [r1, c0, rF, if_neg (by omega), if_neg (by omega), if_neg (by omega), if_neg (by omega), show 8 * n + (8 * (t / 8 - n) + t % 8) = t by omega]
    · have e0 : t / 8 = n + rowsB n := by omega
      have r0 : rowsN (flipB b t) n = 0 := (wr_zero hd (rowsB n)).2 (fun j hj => by rw [hdif j (by omega), if_neg (by omega)])
      have hc := wr_single (d := fun i => difB (flipB b t) n (rowsB n + i)) (fun i => hd _) (k := 0) hc8 (by show difB (flipB b t) n (rowsB n + 0) = _; rw [hdif _ (by omega), if_pos (by omega)]) 1 (by omega) (fun j hj hne => by omega)
      have c1 : colsN (flipB b t) n = 1 := hc.1
      have cF : colF (flipB b t) n = t % 8 := by unfold colF; rw [hc.2]; omega
      unfold mendAt
      rw [r0, c1, cF, if_neg (by omega), if_neg (by omega), if_pos rfl, show 8 * (n + rowsB n) + t % 8 = t by omega]
theorem flip_twice (b : Nat → Nat) (t : Nat) : flipB (flipB b t) t = b := by
  funext k
  unfold flipB
  split
  · rw [Nat.xor_assoc, Nat.xor_self, Nat.xor_zero]
  · rfl
/-- Whichever bit puts a book right, it is the one that is found. -/
theorem mend_only {b : Nat → Nat} (h8 : ∀ i, b i < 256) {n t : Nat} (ht : t < 8 * szB n) (hs : ∀ k, k < szB n → sealB (flipB b t) n k = flipB b t k) : mendAt b n = .inl t := by
  have h := mend_flip (flip_lt h8 t) hs ht
  rwa [flip_twice] at h
/-- Two bits that are the other ones: nothing stands right. -/
theorem flip_two {b : Nat → Nat} (h8 : ∀ i, b i < 256) {n s t : Nat} (hs : s < 8 * szB n) (ht : t < 8 * szB n) (hb : ∀ k, k < szB n → sealB b n k = b k) (h2 : ∀ k, k < szB n → sealB (flipB (flipB b s) t) n k = flipB (flipB b s) t k) : s = t := by
  have h1 := mend_flip h8 hb hs
  have h3 := mend_only (flip_lt h8 s) ht h2
  rw [h1] at h3
  injection h3
end Go.Proofs.YtclbmlmlhiiaeaaGreatDoor
