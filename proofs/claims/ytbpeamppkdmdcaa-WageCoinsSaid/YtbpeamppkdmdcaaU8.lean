/-
  Steps of a drawn region: rows of tickets that are known are copied and appended to; a header is appended.
-/
import Derived.Test.YtbpeamppkdmdcaaU7
namespace Go.Proofs.Ytbpeamppkdmdcaa
open Go.RowKit

theorem kns_src {w : World} {oa : Option Addr} {l : List Kn} (h : KnAt w oa l.length (knF l)) : ∀ j v, (knVals l)[j]? = some v → w.cell? ((⟨blk oa, ofs oa, none⟩ : Addr).add j) = some v := by
  intro j v hj
  have hlt : j < l.length * 3 := by rw [← knVals_len l]; exact (List.getElem?_eq_some_iff.1 hj).1
  have e : j = j / 3 * 3 + j % 3 := by omega
  rw [e, knVals_get l (by omega) (by omega)] at hj
  have := h.cells (j / 3) (by omega) (j % 3) (by omega)
  have ea : (⟨blk oa, ofs oa, none⟩ : Addr).add j = ⟨blk oa, ofs oa + j / 3 * 3 + j % 3, none⟩ := by
    unfold Addr.add
    split
    all_goals (simp <;> omega)
  rw [ea, this, ← hj]
theorem knVals_one (l : List Kn) : ∀ v ∈ knVals l, v.oneCell' = true := by
  intro v hv
  simp only [knVals, List.mem_flatMap] at hv
  obtain ⟨k, _, h⟩ := hv
  exact Kn.cells_one k v h
theorem run_append_zero3 (g cap : Nat) (oa : Option Addr) (c : Nat) (ty : TypeId) (w : World) : (Builtin.append_ #[104, 104] ty #[.slice (some ⟨g, 0, none⟩) 0 cap, .slice oa 0 c]).run Try.prog w = .ok (.slice (some ⟨g, 0, none⟩) 0 cap) w := by
  obtain ⟨i, hi, _⟩ := info128'
  cases oa <;> simp [Builtin.append_, run_underlying Try.underlying104, sizeOf, typeInfo, hi, Builtin.lenOf, Builtin.firstCells, storeCells, loadCells, go_sem]
/-- 'append' of known tickets that lie in memory to a row of the call's own. -/
theorem step_kns {W : World} {ops : Array Oper} {o : Oper} {a : Act} {K : Act → World → Prop} {Q : Exit → Act → World → Prop} {E : Prop} {B : Nat} (hgd : o.guard = none) (s x : Operand)
    (ho : o.op = .call { callee := .builtin .append, args := #[s, x], argTypes := #[104, 104] }) {g0 cap0 n : Nat} {xs : List Value} (hs : a.eval s = .slice (some ⟨g0, 0, none⟩) n cap0) (hown : W.ownsRow B 128 3 (.slice (some ⟨g0, 0, none⟩) n cap0) n xs)
    {oa : Option Addr} {m c : Nat} {l : List Kn} (hm : l.length = m) (hx : a.eval x = .slice oa m c) (hT : KnAt W oa m (knF l)) (hn : n + m ≤ 1000) (hz : n = 0 ∨ 0 < m) (hB : B ≤ W.heap.size)
    (k : ∀ g cap w', w'.ownsRow B 128 3 (.slice (some ⟨g, 0, none⟩) (n + m) cap) (n + m) (xs ++ knVals l) → W.grownBy w' (some g0) → (g0 = g ∨ g = W.heap.size) → K (a.put o.dst (.slice (some ⟨g, 0, none⟩) (n + m) cap)) w') :
    if Region.wanted o (yielded ops a.tmps) = true then Oper.wp Try.prog o a W K Q else E := by
  by_cases h0 : 0 < m
  · obtain ⟨i0, hi0, hz0, hz1, hz2⟩ := info128'
    have hp := hT.plain h0
    refine step_append_lies W hgd s x 104 ho B 128 i0 _ 3 24 Try.underlying104 hi0 hz0 hz1 hz2 rfl (by omega) _ n xs hs hown ⟨blk oa, ofs oa, none⟩ m c (knVals l) (by rw [hx, hp]; rfl) (by rw [knVals_len, hm]) (kns_src (by rw [hm]; exact hT)) (knVals_one l) h0 (by unfold maxLen; omega) (by omega) hB _ rfl ?_
    intro g cap w' hown' hg hat _
    exact k g cap w' hown' hg (hat.imp (fun e => Option.some.inj e) id)
  · obtain rfl : m = 0 := by omega
    obtain rfl : n = 0 := by omega
    have hw : Region.wanted o (yielded ops a.tmps) = true := by simp [Region.wanted, hgd]
    rw [if_pos hw]
    have hxs : xs = [] := List.eq_nil_of_length_eq_zero (by simpa using hown.1)
    subst hxs
    have hl : l = [] := List.eq_nil_of_length_eq_zero hm
    subst hl
    unfold Oper.wp execOp
    simp only [ho, resolve, invoke, builtin, Sem.run_bind, Sem.run_pure, Result.andThen_ok, List.map_toArray, List.map_cons, List.map_nil, hs, hx, run_append_zero3]
    exact k g0 cap0 W (by simpa [knVals] using hown) (World.grownBy.refl _ _) (.inl rfl)
theorem info104' : ∃ i, Try.prog.info? 104 = some i ∧ i.zero = some (.slice none 0 0) ∧ i.size = 1 ∧ i.bytes = 24 := by
  have h : (Try.prog.info? 104).map (fun i => (i.zero, i.size, i.bytes)) = some (some (.slice none 0 0), 1, 24) := by kernel_rfl
  cases hi : Try.prog.info? 104 with
  | none => rw [hi] at h; cases h
  | some i =>
    rw [hi] at h
    simp only [Option.map_some, Option.some.injEq, Prod.mk.injEq] at h
    exact ⟨i, rfl, h.1, h.2.1, h.2.2⟩
/-- 'append(out, begin)': in a plain region. -/
theorem wpList_out {B tn : Nat} {v : Value} {ts : List (List Kn)} {W : World} {ops : Array Oper} {rest : List Oper} {o : Oper} {a : Act} {Q : Exit → Act → World → Prop} (h : OutAt B tn v ts W) (hgd : o.guard = none) (s x : Operand)
    (ho : o.op = .call { callee := .builtin .append, args := #[s, x], argTypes := #[101, 101] }) (hs : a.eval s = v) {gb : Nat} (hx : a.eval x = .slice (some ⟨gb, 0, none⟩) 1 1)
    {oa : Option Addr} {c : Nat} {bl : List Kn} (hb : BoxAt W gb #[.slice oa tn c] 104) (hk : KnAt W oa tn (knF bl)) (hne : 0 < tn → v.ownBlock ≠ some (blk oa)) (hn : ts.length ≤ 100000) (hB : B ≤ W.heap.size)
    (k : ∀ g cap w', OutAt B tn (.slice (some ⟨g, 0, none⟩) (ts.length + 1) cap) (ts ++ [bl]) w' → W.grownBy w' v.ownBlock → (v.ownBlock = some g ∨ g = W.heap.size) → wpList Try.prog ops Q rest (a.put o.dst (.slice (some ⟨g, 0, none⟩) (ts.length + 1) cap)) w') :
    wpList Try.prog ops Q (o :: rest) a W := by
  obtain ⟨i0, hi0, hz0, hz1, hz2⟩ := info104'
  obtain ⟨hs0, ho0, hr0⟩ := h.own
  refine wpList_append_lies W hgd s x 101 ho B 104 i0 _ 1 24 Try.underlying101 hi0 hz0 hz1 hz2 rfl (by omega) v ts.length hs0 hs ho0 ⟨gb, 0, none⟩ 1 1 [.slice oa tn c] hx rfl
    (World.news_of_block hb) (by simp [Value.oneCell']) (by omega) (by unfold maxLen; omega) (by omega) hB _ rfl ?_
  intro g cap w' hown hg hat _
  exact k g cap w' (OutAt.put ho0 hr0 hk hne hown hg hat) hg hat
end Go.Proofs.Ytbpeamppkdmdcaa
