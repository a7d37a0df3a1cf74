/-
  The map of what is owned: by place (seam and crew), in words that a walk can use.
-/
import Derived.Test.YtbpeamppkdmdcaaW1
import Derived.Maps.Own
import Derived.Maps.Views
import Derived.WideKeyEntry
import Derived.DeepKeys4
import Derived.KernelRfl
namespace Go.Proofs.Ytbpeamppkdmdcaa
open Go.RowKit

theorem laidOut : laidOutB Try.prog = true := by kernel_rfl
theorem rowPlace : (99 : TypeId) < Try.prog.types.size := of_decide_eq_true (by kernel_rfl)
theorem deepPlace : Try.prog.keyTypeAt 3 99 = true := by kernel_rfl
theorem lawPlace : WideMaps.KeyLaw Try.prog 99 := deep_law_laid laidOut (m := 3) (by omega) rowPlace deepPlace (by kernel_rfl)
theorem keyedPlace : Maps.Keyed Try.prog 99 := Maps.Keyed.of_law lawPlace
theorem zero91 (w : World) : (zeroValue 91).run Try.prog w = .ok (.int .u32 0) w := by kernel_rfl

def pkey (s c : Int) : Value := .agg #[.int .i64 s, .int .i64 c]
def pdom (s c : Int) : Prop := 0 ≤ s ∧ s ≤ 2 ∧ -1 ≤ c ∧ c ≤ 3
def pbytes (s c : Int) : List UInt8 := keyBytes [.int .i64 s, .int .i64 c]
def pkl (s c : Int) : Lit := .string (pbytes s c)

theorem dom_cases {s c : Int} (h : pdom s c) : (s = 0 ∨ s = 1 ∨ s = 2) ∧ (c = -1 ∨ c = 0 ∨ c = 1 ∨ c = 2 ∨ c = 3) := by unfold pdom at h; omega
theorem keyOf_place {s c : Int} (h : pdom s c) : keyOf Try.prog 99 (pkey s c) = some (pkl s c) := by
  obtain ⟨hs, hc⟩ := dom_cases h
  rcases hs with rfl | rfl | rfl <;> rcases hc with rfl | rfl | rfl | rfl | rfl <;> kernel_rfl
theorem pkl_fin : ∀ (a a' : Fin 3) (b b' : Fin 5), pbytes (a.val : Int) ((b.val : Int) - 1) = pbytes (a'.val : Int) ((b'.val : Int) - 1) → a = a' ∧ b = b' := by decide +kernel
theorem pkl_inj {s c s' c' : Int} (h : pdom s c) (h' : pdom s' c') (e : pkl s c = pkl s' c') : s = s' ∧ c = c' := by
  simp only [pkl, Lit.string.injEq] at e
  obtain ⟨h1, h2, h3, h4⟩ := h
  obtain ⟨h1', h2', h3', h4'⟩ := h'
  have := pkl_fin ⟨s.toNat, by omega⟩ ⟨s'.toNat, by omega⟩ ⟨(c + 1).toNat, by omega⟩ ⟨(c' + 1).toNat, by omega⟩ (by
    have e1 : ((s.toNat : Nat) : Int) = s := by omega
    have e2 : ((s'.toNat : Nat) : Int) = s' := by omega
    have e3 : (((c + 1).toNat : Nat) : Int) - 1 = c := by omega
    have e4 : (((c' + 1).toNat : Nat) : Int) - 1 = c' := by omega
    simp only [e1, e2, e3, e4, e])
  simp only [Fin.mk.injEq] at this
  omega

def MapAt (w : World) (B n : Nat) (G : Int → Int → Nat) : Prop :=
  ∃ D : DataW Unit, w.ownsMap Try.prog 99 (plainElem Try.prog 91) B n D ∧ ∀ s c, pdom s c → D.atKey (pkl s c) (.lit (.int .u32 0)) = .lit (.int .u32 (G s c))
def upd (G : Int → Int → Nat) (s c : Int) (v : Nat) : Int → Int → Nat := fun s' c' => if s' = s ∧ c' = c then v else G s' c'

theorem MapAt.made (w : World) : MapAt (w.alloc (.map #[] 0)) w.heap.size 0 (fun _ _ => 0) :=
  ⟨.map [], World.ownsMap_made _ _ _ _, fun _ _ _ => rfl⟩
theorem MapAt.lt {w : World} {B n : Nat} {G : Int → Int → Nat} (h : MapAt w B n G) : B < w.heap.size := by
  obtain ⟨D, h, _⟩ := h; exact h.lt
theorem MapAt.below {w w' : World} {B n C : Nat} {G : Int → Int → Nat} (h : MapAt w B n G) (hb : Below C w w') (hB : B < C) : MapAt w' B n G := by
  obtain ⟨D, ⟨es, clock, hh, F, hs, hD⟩, h2⟩ := h
  exact ⟨D, ⟨es, clock, (hb.block B hB).trans hh, F, hs, hD⟩, h2⟩
theorem MapAt.grow {w w' : World} {B n : Nat} {G : Int → Int → Nat} (h : MapAt w B n G) (hb : Below w.heap.size w w') : MapAt w' B n G := h.below hb h.lt
theorem MapAt.kept {w w' : World} {B n : Nat} {G : Int → Int → Nat} {row : Option Nat} (h : MapAt w B n G) (hg : w.grownBy w' row) (hne : some B ≠ row) : MapAt w' B n G := by
  obtain ⟨D, h1, h2⟩ := h
  exact ⟨D, h1.kept hg hne, h2⟩
theorem MapAt.drew {w : World} {B n : Nat} {G : Int → Int → Nat} (h : MapAt w B n G) : MapAt w.drew B n G := h
theorem MapAt.drewN {w : World} {B n : Nat} {G : Int → Int → Nat} (h : MapAt w B n G) (m : Nat) : MapAt (w.drewN m) B n G := h

theorem MapAt.look {w : World} {B n : Nat} {G : Int → Int → Nat} (h : MapAt w B n G) {s c : Int} (hd : pdom s c) :
    (Instr.lookup 96 (.map (some B)) (.agg #[.int .i64 s, .int .i64 c]) false).run Try.prog w = .ok (.int .u32 (G s c)) w := by
  obtain ⟨D, h1, h2⟩ := h
  obtain ⟨x, hrun, hat, _⟩ := h1.lookup_int keyedPlace Try.underlying96 Try.underlying91 (zero91 w) (keyOf_place hd)
  rw [h2 s c hd] at hat
  simp only [DataW.lit.injEq, Lit.int.injEq] at hat
  rw [hat.2]
  exact hrun

theorem wf_u32 (v : Nat) (h : v < 4294967296) : (Lit.int .u32 (v : Int)).wf = true := by
  simp [Lit.wf, IntKind.min, IntKind.max, IntKind.signed, IntKind.bits]
  omega

theorem isKey_pkl (s c : Int) : WideAt.IsKeyLit (pkl s c) := by simp [pkl, WideAt.IsKeyLit]

theorem MapAt.store {w : World} {B n : Nat} {G : Int → Int → Nat} (h : MapAt w B n G) {s c : Int} (hd : pdom s c) {v : Nat} (hv : v < 4294967296) (hn : n < maxLen) :
    ∃ w', (Instr.mapUpdate 96 (.map (some B)) (.agg #[.int .i64 s, .int .i64 c]) (.int .u32 v)).run Try.prog w = .ok () w' ∧ MapAt w' B (n + 1) (upd G s c v) ∧ w.grownBy w' (some B) := by
  obtain ⟨D, h1, h2⟩ := h
  obtain ⟨w', r1, r2, r3⟩ := h1.update keyedPlace Try.underlying96 hn (keyOf_place hd) (plainElem_int Try.underlying91 (wf_u32 v hv))
  refine ⟨w', r1, ⟨_, r2, fun s' c' hd' => ?_⟩, r3⟩
  obtain ⟨es, clock, _, _, _, hD⟩ := h1
  by_cases e : s' = s ∧ c' = c
  · obtain ⟨rfl, rfl⟩ := e
    rw [Maps.atKey_put_same ⟨_, hD⟩ (isKey_pkl _ _)]
    simp [upd]
  · rw [Maps.atKey_put_other (fun e' => e (pkl_inj hd' hd e')), h2 s' c' hd']
    simp [upd, e]

/-- What 'm[k] op= v' does: the entry is made or found, the look-up still reads the same, and the store behind it is the map's update. -/
theorem MapAt.entry {w : World} {B n : Nat} {G : Int → Int → Nat} (h : MapAt w B n G) {s c : Int} (hd : pdom s c) {v : Nat} (hv : v < 4294967296) (hn : n < maxLen) :
    ∃ (v0 : Value) (st : Nat) (w1 w2 : World),
      (Instr.mapEntry 96 (.map (some B)) (.agg #[.int .i64 s, .int .i64 c])).run Try.prog w = .ok (.tuple #[v0, goInt st]) w1 ∧
      (Instr.lookup 96 (.map (some B)) (.agg #[.int .i64 s, .int .i64 c]) false).run Try.prog w1 = .ok (.int .u32 (G s c)) w1 ∧
      (Instr.entryStore 96 (.map (some B)) (goInt st) (.int .u32 v)).run Try.prog w1 = .ok () w2 ∧
      MapAt w2 B (n + 1) (upd G s c v) ∧ w.grownBy w1 (some B) ∧ w.grownBy w2 (some B) := by
  have h0 := h
  have hl := h.look hd
  obtain ⟨w0, q1, q2, q3⟩ := h.store hd (v := 0) (by omega) hn
  obtain ⟨D, ⟨es, clock, hb, F, hs, hD⟩, h2⟩ := h
  have hkey := keyOf_place hd
  rcases lawPlace.find w hkey es.toList F.keys with ⟨h1, h3⟩ | ⟨j, e0, h1, h3, h4⟩
  · -- the key is new: its entry is made as a store of zero makes it
    have hm : (Instr.mapEntry 96 (.map (some B)) (pkey s c)).run Try.prog w = .ok (.tuple #[.int .u32 0, goInt clock]) (ChangeMaps.setBlock w B (.map (es.push ⟨pkey s c, .int .u32 0, clock⟩) (clock + 1))) := by
      simp [Instr.mapEntry, run_underlying Try.underlying96, MapKept.run_getObj_map hb, lawPlace.check w false hkey, h1, MapKept.run_setObj_map _ hb, Result.andThen, ChangeMaps.setBlock]
    have hu : (Instr.mapUpdate 96 (.map (some B)) (pkey s c) (.int .u32 ((0 : Nat) : Int))).run Try.prog w = .ok () (ChangeMaps.setBlock w B (.map (es.push ⟨pkey s c, .int .u32 0, clock⟩) (clock + 1))) := by
      simp [Instr.mapUpdate, run_underlying Try.underlying96, MapKept.run_getObj_map hb, lawPlace.check w false hkey, h1, MapKept.run_setObj_map _ hb, Result.andThen, ChangeMaps.setBlock]
    have e0 : w0 = ChangeMaps.setBlock w B (.map (es.push ⟨pkey s c, .int .u32 0, clock⟩) (clock + 1)) := by
      have := q1.symm.trans hu
      simpa using this
    have g0 : G s c = 0 := by
      have hlk : (Instr.lookup 96 (.map (some B)) (pkey s c) false).run Try.prog w = .ok (.int .u32 0) w := by
        simp [Instr.lookup, run_underlying Try.underlying96, MapKept.run_getObj_map hb, lawPlace.check w _ hkey, h1, Result.andThen]
      have := hl.symm.trans hlk
      simpa using this
    have hG : upd G s c 0 = G := by
      funext s' c'
      unfold upd
      split
      · rename_i e; rw [e.1, e.2, g0]
      · rfl
    rw [hG] at q2
    obtain ⟨v0, st, es1, clock1, e1, _, e3⟩ := WideElems.entry_then_store lawPlace Try.underlying96 zero91 hb F hkey
    obtain ⟨w', r1, r2, r3⟩ := h0.store hd hv hn
    rw [hm] at e1
    simp only [Result.ok.injEq] at e1
    obtain ⟨ev, ew⟩ := e1
    have hb1 : w0.heap[B]? = some (.map es1 clock1) := by rw [e0, ew]; exact ChangeMaps.heap_setBlock_same hb _
    obtain ⟨es', clock', s1, s2⟩ := e3 w0 (.int .u32 v) hb1
    have hw' : w' = ChangeMaps.setBlock w B (.map es' clock') := by
      have := r1.symm.trans s2
      simpa using this
    have hst : goInt clock = goInt st := by simp at ev; exact ev.2
    refine ⟨_, clock, w0, ChangeMaps.setBlock w0 B (.map es' clock'), by rw [e0]; exact hm, q2.look hd, by rw [hst]; exact s1, ?_, q3, ?_⟩
    · have : ChangeMaps.setBlock w0 B (.map es' clock') = w' := by rw [hw', e0]; simp [ChangeMaps.setBlock]
      rw [this]; exact r2
    · have : ChangeMaps.setBlock w0 B (.map es' clock') = w' := by rw [hw', e0]; simp [ChangeMaps.setBlock]
      rw [this]; exact r3
  · -- the key is there: nothing turns
    have hj : es[j]? = some e0 := by simpa using h3
    have hsame : es.modify j (fun e => { e with key := pkey s c }) = es := by
      apply Array.ext'
      rw [Array.toList_modify, ChangeMaps.modify_eq_set _ _ _ _ h3]
      have : ({ e0 with key := pkey s c } : MapEntry) = e0 := by rw [← h4]
      rw [this]
      exact WideElems.set_self _ _ _ h3
    have hm : (Instr.mapEntry 96 (.map (some B)) (pkey s c)).run Try.prog w = .ok (.tuple #[e0.val, goInt e0.born]) (ChangeMaps.setBlock w B (.map es clock)) := by
      simp [Instr.mapEntry, run_underlying Try.underlying96, MapKept.run_getObj_map hb, lawPlace.check w false hkey, h1, hj, h4, lawPlace.stays w hkey, hsame, MapKept.run_setObj_map _ hb, Result.andThen, ChangeMaps.setBlock]
    have hw : ChangeMaps.setBlock w B (.map es clock) = w := by
      have hlt : B < w.heap.size := lt_of_heap hb
      have : w.heap.setIfInBounds B (.map es clock) = w.heap := by
        apply Array.ext_getElem?
        intro i
        by_cases e : B = i
        · subst e
          rw [Array.getElem?_setIfInBounds_self_of_lt hlt, hb]
        · rw [Array.getElem?_setIfInBounds_ne e]
      unfold ChangeMaps.setBlock
      rw [this]
    rw [hw] at hm
    obtain ⟨v0, st, es1, clock1, e1, _, e3⟩ := WideElems.entry_then_store lawPlace Try.underlying96 zero91 hb F hkey
    obtain ⟨w', r1, r2, r3⟩ := h0.store hd hv hn
    rw [hm] at e1
    simp only [Result.ok.injEq] at e1
    obtain ⟨ev, ew⟩ := e1
    have hb1 : w.heap[B]? = some (.map es1 clock1) := by
      have := ChangeMaps.heap_setBlock_same hb (.map es1 clock1)
      rw [← ew] at this
      exact this
    obtain ⟨es', clock', s1, s2⟩ := e3 w (.int .u32 v) hb1
    have hw' : w' = ChangeMaps.setBlock w B (.map es' clock') := by
      have := r1.symm.trans s2
      simpa using this
    have hst : goInt e0.born = goInt st := by simp at ev; exact ev.2
    exact ⟨_, e0.born, w, ChangeMaps.setBlock w B (.map es' clock'), hm, hl, by rw [hst]; exact s1, by rw [← hw']; exact r2, World.grownBy.refl _ _, by rw [← hw']; exact r3⟩
end Go.Proofs.Ytbpeamppkdmdcaa
