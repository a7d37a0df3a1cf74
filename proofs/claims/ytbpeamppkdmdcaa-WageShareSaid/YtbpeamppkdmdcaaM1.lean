/-
  Plain law: sets of fathoms as bits; how many there are.
-/
import Derived.Lib.BitFns
namespace Go.Proofs.Ytbpeamppkdmdcaa

/-- How many of the first n bits are set. -/
def bitsum : Nat → Nat → Nat
  | 0, _ => 0
  | n + 1, m => bitsum n m + if m.testBit n then 1 else 0
def popc (m : Nat) : Nat := bitsum 20 m

theorem bitsum_le (n m : Nat) : bitsum n m ≤ n := by
  induction n with
  | zero => exact Nat.le_refl _
  | succ n ih => simp only [bitsum]; split <;> omega
theorem bitsum_add (a b m : Nat) : bitsum (a + b) m = bitsum a m + bitsum b (m / 2 ^ a) := by
  induction b with
  | zero => rfl
  | succ b ih =>
    show bitsum (a + b) m + (if m.testBit (a + b) then 1 else 0) = bitsum a m + (bitsum b (m / 2 ^ a) + if (m / 2 ^ a).testBit b then 1 else 0)
    rw [ih, Nat.testBit_div_two_pow, Nat.add_comm b a]
    omega
theorem bitsum_mod (a m : Nat) : ∀ n, n ≤ a → bitsum n (m % 2 ^ a) = bitsum n m := by
  intro n
  induction n with
  | zero => intro _; rfl
  | succ n ih =>
    intro h
    simp only [bitsum]
    rw [ih (by omega), Nat.testBit_mod_two_pow]
    simp [show n < a by omega]
theorem pop8_bitsum : ∀ n : Fin 256, Lib.pop8 (n.val : Int) = (bitsum 8 n.val : Int) := by decide +kernel
theorem pop8_byte (m : Nat) : Lib.pop8 ((m : Int) % 256) = (bitsum 8 m : Int) := by
  have h := pop8_bitsum ⟨m % 256, by omega⟩
  simp only at h
  have e : ((m % 256 : Nat) : Int) = (m : Int) % 256 := by omega
  rw [e] at h
  rw [h]
  exact congrArg _ (bitsum_mod 8 m 8 (Nat.le_refl _))
theorem bitsum_zero (n m : Nat) (h : m = 0) : bitsum n m = 0 := by
  subst h
  induction n with
  | zero => rfl
  | succ n ih => simp [bitsum, ih]
/-- The sum of the bytes' counts. -/
theorem popc_bytes (m : Nat) (hm : m < 1048576) :
    (Lib.pop8 0 + Lib.pop8 ((m : Int) / 65536 % 256) + Lib.pop8 ((m : Int) / 256 % 256) + Lib.pop8 ((m : Int) % 256)) % 256 = (popc m : Int) := by
  have h0 : Lib.pop8 0 = 0 := by decide +kernel
  have e1 : ((m : Int) / 65536) = ((m / 65536 : Nat) : Int) := by omega
  have e2 : ((m : Int) / 256) = ((m / 256 : Nat) : Int) := by omega
  rw [h0, e1, e2, pop8_byte, pop8_byte, pop8_byte]
  have a1 := bitsum_add 8 8 m
  have a2 := bitsum_add 16 8 m
  have a3 := bitsum_add 20 4 m
  have z := bitsum_zero 4 (m / 2 ^ 20) (by omega)
  have l := bitsum_le 20 m
  simp only [popc, Nat.reduceAdd, Nat.reducePow] at *
  omega
theorem popc_le (m : Nat) : popc m ≤ 20 := bitsum_le 20 m
end Go.Proofs.Ytbpeamppkdmdcaa
