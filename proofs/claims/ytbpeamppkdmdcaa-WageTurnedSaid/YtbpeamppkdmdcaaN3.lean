/-
  Walks: a ticket that is known better, in a row of the call's own.
-/
import Derived.Test.YtbpeamppkdmdcaaN1
import Derived.Test.YtbpeamppkdmdcaaP7
namespace Go.Proofs.Ytbpeamppkdmdcaa
open Go.RowKit

/-- What a ticket known better does to what is told. -/
structure ThinW (cr : Int) (sn tn : Nat) (S : Nat → Sm) (T T' : Nat → Tk) : Prop where
  valid : Valid cr sn tn S T'
  lo : ∀ c, coinsOf S T (leastK c T) sn tn c ≤ coinsOf S T' (leastK c T') sn tn c
  hi : ∀ c, coinsOf S T' (mostK c T') sn tn c ≤ coinsOf S T (mostK c T) sn tn c
  own : ∀ c s f, ownerOf T' (mostK c T') tn s f = c → ownerOf T (mostK c T) tn s f = c
  set : ∀ s f m c, (setN T' tn s f m).testBit c = true → (setN T tn s f m).testBit c = true
theorem ThinW.same {cr : Int} {sn tn : Nat} {S : Nat → Sm} {T : Nat → Tk} (hv : Valid cr sn tn S T) : ThinW cr sn tn S T T := ⟨hv, fun _ => Int.le_refl _, fun _ => Int.le_refl _, fun _ _ _ h => h, fun _ _ _ _ h => h⟩
theorem ThinW.of {cr : Int} {sn tn : Nat} {S : Nat → Sm} {T : Nat → Tk} (hv : Valid cr sn tn S T) {n : Nat} {t' : Tk} (h : Thin (T n) t') : ThinW cr sn tn S T (updT T n t') :=
  ⟨h.valid hv, fun c => (thin_coins hv h c).1, fun c => (thin_coins hv h c).2, fun c s f => thin_owner hv h c s f, fun s f m c => thin_set hv h s f m c⟩
theorem ticks_rowc {W : World} {g n k : Nat} {T : Nat → Tk} (h : TicketsAt W (some ⟨g, 0, none⟩) n T) (hk : k < n) :
    W.cell? ⟨g, k * 8 + 2, none⟩ = some (.int .i64 (T k).fl) ∧ W.cell? ⟨g, k * 8 + 3, none⟩ = some (.int .i64 (T k).fh) ∧ W.cell? ⟨g, k * 8 + 4, none⟩ = some (.int .i64 (T k).tl) ∧ W.cell? ⟨g, k * 8 + 5, none⟩ = some (.int .i64 (T k).th) ∧ W.cell? ⟨g, k * 8 + 6, none⟩ = some (.int .i64 (T k).dl) ∧ W.cell? ⟨g, k * 8 + 7, none⟩ = some (.int .i64 (T k).dh) := by
  obtain ⟨-, -, h2, h3, h4, h5, h6, h7⟩ := TicketsAt.at h hk
  simp only [blk, ofs, Nat.zero_add] at h2 h3 h4 h5 h6 h7
  exact ⟨h2, h3, h4, h5, h6, h7⟩
theorem ticks_cell {W : World} {g n k j : Nat} {T : Nat → Tk} (h : TicketsAt W (some ⟨g, 0, none⟩) n T) (hk : k < n) (hj : j < 8) {t' : Tk} {v : Value} (hv : t'.cell j = v) (ho : ∀ l, l < 8 → l ≠ j → t'.cell l = (T k).cell l) :
    TicketsAt (W.setCell ⟨g, k * 8 + j, none⟩ v) (some ⟨g, 0, none⟩) n (updT T k t') := by
  refine ⟨h.plain, fun hn => by rw [show (W.setCell ⟨g, k * 8 + j, none⟩ v).heap.size = W.heap.size by simp [World.setCell]]; exact h.old hn, h.small, fun i hi l hl => ?_⟩
  have hc := h.cells i hi l hl
  simp only [blk, ofs, Nat.zero_add] at hc ⊢
  by_cases e : i * 8 + l = k * 8 + j
  · have e1 : i = k := by omega
    have e2 : l = j := by omega
    subst e1 e2
    rw [updT_eq, hv]
    exact World.cell?_setCell_same' _ _ _ (by rw [hc]; rfl)
  · have hne : (W.setCell ⟨g, k * 8 + j, none⟩ v).cell? ⟨g, i * 8 + l, none⟩ = W.cell? ⟨g, i * 8 + l, none⟩ := World.cell?_setCell_other _ _ _ _ (by intro h; simp only [Addr.mk.injEq] at h; omega)
    rw [hne, hc]
    by_cases e1 : i = k
    · subst e1
      rw [updT_eq, ho l hl (by omega)]
    · rw [updT_ne _ _ _ e1]
theorem wpList_tks {W : World} {ops : Array Oper} {rest : List Oper} {o : Oper} {a : Act} {Q : Exit → Act → World → Prop} {B : Nat} (hgd : o.guard = none) (s x : Operand)
    (ho : o.op = .call { callee := .builtin .append, args := #[s, x], argTypes := #[23, 23] }) {g0 cap0 n : Nat} {xs : List Value} (hs : a.eval s = .slice (some ⟨g0, 0, none⟩) n cap0) (hown : W.ownsRow B 58 8 (.slice (some ⟨g0, 0, none⟩) n cap0) n xs)
    {oa : Option Addr} {m c : Nat} {T : Nat → Tk} (hx : a.eval x = .slice oa m c) (hT : TicketsAt W oa m T) (hm : n + m ≤ 1000) (hz : n = 0 ∨ 0 < m) (hB : B ≤ W.heap.size)
    (k : ∀ g cap w', w'.ownsRow B 58 8 (.slice (some ⟨g, 0, none⟩) (n + m) cap) (n + m) (xs ++ tkVals T m) → W.grownBy w' (some g0) → (g0 = g ∨ g = W.heap.size) → wpList Try.prog ops Q rest (a.put o.dst (.slice (some ⟨g, 0, none⟩) (n + m) cap)) w') :
    wpList Try.prog ops Q (o :: rest) a W :=
  wpList_plain hgd fun K hK => by
    have hw : Region.wanted o (yielded ops a.tmps) = true := by simp [Region.wanted, hgd]
    have h := step_tks (W := W) (ops := ops) (o := o) (a := a) (K := K) (Q := Q) (E := True) hgd s x ho hs hown hx hT hm hz hB fun g cap w' h1 h2 h3 => hK _ _ (k g cap w' h1 h2 h3)
    rwa [if_pos hw] at h
theorem updT_updT (T : Nat → Tk) (k : Nat) (a b : Tk) : updT (updT T k a) k b = updT T k b := by
  funext i
  unfold updT
  split <;> rfl
def RowOf (W : World) (g : Nat) : Prop := ∃ cur, BoxAt W g cur 58
theorem RowOf.own {W : World} {base n g cap : Nat} {xs : List Value} (h : W.ownsRow base 58 8 (.slice (some ⟨g, 0, none⟩) n cap) n xs) : RowOf W g := by
  rcases h.2 with ⟨h, _⟩ | ⟨g', cap', cur, hv, _, hg, _, _, _, ht⟩
  · cases h
  · cases hv
    exact ⟨cur, hg⟩
theorem RowOf.set {W : World} {g : Nat} (h : RowOf W g) (q : Addr) (v : Value) (hne : q.block ≠ g) : RowOf (W.setCell q v) g := by
  obtain ⟨cur, h⟩ := h
  exact ⟨cur, h.set q v hne⟩
theorem RowOf.store {W : World} {g : Nat} (h : RowOf W g) (j : Nat) (v : Value) : RowOf (W.setCell ⟨g, j, none⟩ v) g := by
  obtain ⟨cur, h⟩ := h
  exact ⟨_, h.store j v⟩
theorem RowOf.drew {W : World} {g : Nat} (h : RowOf W g) : RowOf W.drew g := by
  obtain ⟨cur, h⟩ := h
  exact ⟨cur, h.grow (Below.drew (Below.refl _ _))⟩
theorem RowOf.free {W : World} {g : Nat} (h : RowOf W g) (j : Nat) : W.frozen? ⟨g, j, none⟩ = false := by
  obtain ⟨cur, h⟩ := h
  exact freeAt h j
end Go.Proofs.Ytbpeamppkdmdcaa
