/-
  Sets, at a crew.
-/
import Derived.Test.YtikeihnhkiipgaaD8
namespace Go.Proofs.Ytikeihnhkiipgaa
open Go.RowKit

theorem tin_zero (g : GN) (crew k : Nat) (T : Nat → Nat) (h : T 0 = 0) : ∀ n, (k = 0 → g.tin crew k T n = T) ∧ g.tin crew k T n 0 = 0
  | 0 => ⟨fun _ => rfl, h⟩
  | n + 1 => by
    obtain ⟨h1, h2⟩ := tin_zero g crew k T h n
    by_cases hk : k = 0
    · subst hk
      have e : g.tin crew 0 T (n + 1) = T := by
        unfold GN.tin
        rw [Nat.zero_testBit]
        simp only [Bool.false_and, Bool.false_eq_true, if_false]
        exact h1 rfl
      exact ⟨fun _ => e, by rw [e]; exact h⟩
    · refine ⟨fun e => absurd e hk, ?_⟩
      unfold GN.tin
      split
      · split
        · unfold updN
          rw [if_neg (fun e => hk e.symm)]
          exact h2
        · exact h2
      · exact h2
theorem tab_zero (g : GN) (crew : Nat) : ∀ k, g.tab crew k 0 = 0
  | 0 => rfl
  | k + 1 => by
    unfold GN.tab
    refine (tin_zero g crew k _ ?_ g.sn).2
    unfold updN
    by_cases hk : k = 0
    · simp [hk]
    · rw [if_neg (fun e => hk e.symm)]
      exact tab_zero g crew k
/-- A table is stored into a fresh box. -/
theorem store_tab (w : World) {X : Array Value} (hX : X.size = 32) (h1 : X.all (·.oneCell') = true) : ∃ W, (storeCells ⟨w.heap.size, 0, none⟩ X.toList).run Try.prog (w.alloc (.cells #[.int .i64 0, .int .i64 0, .int .i64 0, .int .i64 0, .int .i64 0, .int .i64 0, .int .i64 0, .int .i64 0, .int .i64 0, .int .i64 0, .int .i64 0, .int .i64 0, .int .i64 0, .int .i64 0, .int .i64 0, .int .i64 0, .int .i64 0, .int .i64 0, .int .i64 0, .int .i64 0, .int .i64 0, .int .i64 0, .int .i64 0, .int .i64 0, .int .i64 0, .int .i64 0, .int .i64 0, .int .i64 0, .int .i64 0, .int .i64 0, .int .i64 0, .int .i64 0] 108)) = .ok () W ∧ BoxAt W w.heap.size X 108 ∧ Below w.heap.size w W := by
  have h := run_storeCells_at Try.prog w.heap.size 0 108 X.toList 0 #[.int .i64 0, .int .i64 0, .int .i64 0, .int .i64 0, .int .i64 0, .int .i64 0, .int .i64 0, .int .i64 0, .int .i64 0, .int .i64 0, .int .i64 0, .int .i64 0, .int .i64 0, .int .i64 0, .int .i64 0, .int .i64 0, .int .i64 0, .int .i64 0, .int .i64 0, .int .i64 0, .int .i64 0, .int .i64 0, .int .i64 0, .int .i64 0, .int .i64 0, .int .i64 0, .int .i64 0, .int .i64 0, .int .i64 0, .int .i64 0, .int .i64 0, .int .i64 0] (w.alloc (.cells #[.int .i64 0, .int .i64 0, .int .i64 0, .int .i64 0, .int .i64 0, .int .i64 0, .int .i64 0, .int .i64 0, .int .i64 0, .int .i64 0, .int .i64 0, .int .i64 0, .int .i64 0, .int .i64 0, .int .i64 0, .int .i64 0, .int .i64 0, .int .i64 0, .int .i64 0, .int .i64 0, .int .i64 0, .int .i64 0, .int .i64 0, .int .i64 0, .int .i64 0, .int .i64 0, .int .i64 0, .int .i64 0, .int .i64 0, .int .i64 0, .int .i64 0, .int .i64 0] 108)) (heap_alloc_new _ _) (by simp [hX]) (fun v hv => Array.all_eq_true_iff_forall_mem.1 h1 v (Array.mem_toList_iff.1 hv))
  refine ⟨_, h, ?_, below_setRow ((Below.refl _ _).alloc (Nat.le_refl _) _) (Nat.le_refl _) _⟩
  have h2 := setRow_heap (w.alloc (.cells #[.int .i64 0, .int .i64 0, .int .i64 0, .int .i64 0, .int .i64 0, .int .i64 0, .int .i64 0, .int .i64 0, .int .i64 0, .int .i64 0, .int .i64 0, .int .i64 0, .int .i64 0, .int .i64 0, .int .i64 0, .int .i64 0, .int .i64 0, .int .i64 0, .int .i64 0, .int .i64 0, .int .i64 0, .int .i64 0, .int .i64 0, .int .i64 0, .int .i64 0, .int .i64 0, .int .i64 0, .int .i64 0, .int .i64 0, .int .i64 0, .int .i64 0, .int .i64 0] 108)) w.heap.size #[.int .i64 0, .int .i64 0, .int .i64 0, .int .i64 0, .int .i64 0, .int .i64 0, .int .i64 0, .int .i64 0, .int .i64 0, .int .i64 0, .int .i64 0, .int .i64 0, .int .i64 0, .int .i64 0, .int .i64 0, .int .i64 0, .int .i64 0, .int .i64 0, .int .i64 0, .int .i64 0, .int .i64 0, .int .i64 0, .int .i64 0, .int .i64 0, .int .i64 0, .int .i64 0, .int .i64 0, .int .i64 0, .int .i64 0, .int .i64 0, .int .i64 0, .int .i64 0] X 108 (0, 0) (heap_alloc_new _ _)
  have e : ((#[.int .i64 0, .int .i64 0, .int .i64 0, .int .i64 0, .int .i64 0, .int .i64 0, .int .i64 0, .int .i64 0, .int .i64 0, .int .i64 0, .int .i64 0, .int .i64 0, .int .i64 0, .int .i64 0, .int .i64 0, .int .i64 0, .int .i64 0, .int .i64 0, .int .i64 0, .int .i64 0, .int .i64 0, .int .i64 0, .int .i64 0, .int .i64 0, .int .i64 0, .int .i64 0, .int .i64 0, .int .i64 0, .int .i64 0, .int .i64 0, .int .i64 0, .int .i64 0] : Array Value).toList.take (0 + 0) ++ X.toList ++ (#[.int .i64 0, .int .i64 0, .int .i64 0, .int .i64 0, .int .i64 0, .int .i64 0, .int .i64 0, .int .i64 0, .int .i64 0, .int .i64 0, .int .i64 0, .int .i64 0, .int .i64 0, .int .i64 0, .int .i64 0, .int .i64 0, .int .i64 0, .int .i64 0, .int .i64 0, .int .i64 0, .int .i64 0, .int .i64 0, .int .i64 0, .int .i64 0, .int .i64 0, .int .i64 0, .int .i64 0, .int .i64 0, .int .i64 0, .int .i64 0, .int .i64 0, .int .i64 0] : Array Value).toList.drop (0 + 0 + X.toList.length)).toArray = X := by
    rw [Array.length_toList, hX]
    simp
  rw [e]
  exact h2
/-- What its loop keeps. -/
structure SI (g : GN) (a : GA) (w : World) (n t7 B0 : Nat) (X : Array Value) (v : Value) (m : Nat) (W : World) : Prop where
  fw : FW g a w n W
  tb : BoxAt W t7 X 108
  own : ∃ xs, W.ownsRow B0 3 1 v m xs
  sz : B0 ≤ W.heap.size
theorem SI.put {g : GN} {a : GA} {w W4 W5 : World} {n t7 B0 : Nat} {X : Array Value} {v v' : Value} {m : Nat} (h : SI g a w n t7 B0 X v m W4) (hA : g.At a w) (h1 : w.heap.size + 1 + 1 < B0) (h2 : t7 < B0) (hg : W4.grownBy W5 v.ownBlock) (ho : ∃ xs, W5.ownsRow B0 3 1 v' (m + 1) xs) : SI g a w n t7 B0 X v' (m + 1) W5 := by
  obtain ⟨xs, hx⟩ := h.own
  have hlt := own_lt hx
  have hne : ∀ i, i < B0 → (some i : Option Nat) ≠ v.ownBlock := fun i hi e => by have := (hlt i e.symm).1; omega
  have hsz := h.sz
  have hbel := h.fw.oi.bel.grown hg (by omega) fun j e => by have := (hlt j e).1; omega
  exact ⟨⟨⟨hbel, h.fw.oi.box.kept hg (hne _ (by omega)), hA.grow hbel⟩, h.fw.x.kept hg (hne _ (by omega)), h.fw.e.kept hg (hne _ (by omega))⟩, h.tb.kept hg (hne _ h2), ho, Nat.le_trans h.sz hg.size⟩
theorem SI.grow {g : GN} {a : GA} {w W W' : World} {n t7 B0 : Nat} {X : Array Value} {v : Value} {m : Nat} (h : SI g a w n t7 B0 X v m W) (hb : Below W.heap.size W W') : SI g a w n t7 B0 X v m W' := by
  obtain ⟨xs, hx⟩ := h.own
  exact ⟨h.fw.grow hb, h.tb.grow hb, ⟨xs, own_grow hx hb⟩, Nat.le_trans h.sz hb.size⟩
section
variable (g : GN) (ok : g.Ok) (a : GA)
include ok
set_option maxRecDepth 100000 in
set_option maxHeartbeats 2000000 in
theorem sets_any (n : Nat) (hn : n < g.cn) (w : World) (hA : g.At a w) :
    Calls Try.prog 11 #[.agg (g.cs a), .int .i64 n] w fun e w' => (∃ oa m cap, 0 < m ∧ e = .returned (.tuple #[.slice oa m cap, .int .i64 0])) ∧ Below w.heap.size w w' := by
  have I0 := Lib.hid (fw_start (n := n) hA)
  have C1 := Lib.hid (fun W (h : FW g a w n W) => gopen_any g ok a 43 #[bp (w.heap.size + 1)] W h.oi.at' (fun b W => by kernel_rfl) (fun b v W' hB hb => sets1_any g ok a b v (w.heap.size + 1) n hn W' hb (h.x.grow hB)))
  have C2 := Lib.hid (fun b r rc W (h : GW g a b r rc W) => table_any g ok a b r rc n hn W h)
  have OK := Lib.hid ok
  have H0 := Lib.hid hA
  have TZ := Lib.hid (fun X (h : X = tabC (g.tab n (2 ^ g.sn))) => (show (∀ i, i < 32 → ∃ y : Nat, X[i]? = some (.int .i64 y)) ∧ X[0]? = some (.int .i64 0) from by
    subst h
    exact ⟨fun i hi => ⟨_, tabC_at _ hi⟩, by rw [tabC_at _ (by omega), tab_zero]; rfl⟩))
  have XS := Lib.hid (tabC_len (g.tab n (2 ^ g.sn)))
  have X1 := Lib.hid (tabC_one (g.tab n (2 ^ g.sn)))
  obtain ⟨X, hX⟩ : ∃ X, tabC (g.tab n (2 ^ g.sn)) = X := ⟨_, rfl⟩
  have TX := Lib.hid (TZ.out X hX.symm)
  rw [hX] at C2 XS X1
  clear hA ok TZ hX
  unfold GN.cs at *
  go_enter_defers Try.func11, Try.ntmps11
  go_upto_region 2 with (fail)
  generalize World.alloc (World.alloc (World.alloc w _) _) _ = w0 at *
  obtain ⟨q0, q1, q2, q3, q4, q5, q6⟩ := I0.out.oi.cells
  go_upto_region 3 with (go_at_call 18; (with_reducible refine (C1.out _ I0.out).mono ?_); rintro e w1 ⟨b, r, rc, rfl, -, hgw, hb1⟩)
  have I1 := Lib.hid (I0.out.grow hb1)
  have G1 := Lib.hid hgw
  clear hgw hb1 q0 q1 q2 q3 q4 q5 q6 I0 C1
  have x0 := cellAt I1.out.x 0
  simp only [List.getElem?_toArray, List.getElem?_cons_zero] at x0
  obtain ⟨P, hP⟩ : ∃ P, 2 ^ g.sn = P := ⟨_, rfl⟩
  have hp32 : P ≤ 32 := by
    have : 2 ^ g.sn ≤ 2 ^ 5 := Nat.pow_le_pow_right (by omega) OK.out.hsn
    omega
  have hp1 : 1 ≤ P := by have := Nat.two_pow_pos g.sn; omega
  have HS1 := Lib.hid (show wrap64 ((2 : Int) ^ (min g.sn 64)) = (P : Int) from by rw [← hP, Nat.min_eq_left (by have := OK.out.hsn; omega)]; exact shl_one (by have := OK.out.hsn; omega))
  clear hP
  go_upto_region 4 with (first | (go_at_call 44; refine (C2.out b r rc _ G1.out).mono ?_; rintro e w2 ⟨rfl, hb2⟩; obtain ⟨w3, hs3, hx3, hb3⟩ := store_tab w2 XS.out X1.out))
  have I3 := Lib.hid ((I1.out.grow hb2).grow (hb3.mono (Nat.le_refl _)))
  have G3 := Lib.hid ((G1.out.grow hb2).grow hb3)
  have X3 := Lib.hid hx3
  clear hs3 hx3 hb3 hb2 I1 G1 C2 x0 XS X1
  generalize w2.heap.size = t7 at *
  have q0 := G3.out.cells.1
  go_wp2_with fail
  rw [HS1.out]
  have S0 := Lib.hid (show SI g a w n t7 w3.heap.size X (.slice none 0 0) 0 w3 from ⟨I3.out, X3.out, ⟨[], rfl, .inl ⟨rfl, rfl⟩⟩, Nat.le_refl _⟩)
  have HB1 := Lib.hid (show w.heap.size + 1 + 1 < w3.heap.size from lt_of_heap I3.out.e)
  have HB2 := Lib.hid (show t7 < w3.heap.size from lt_of_heap X3.out)
  clear I3 X3 G3 q0 HS1
  generalize w3.heap.size = B0 at *
  go_loopw [4, 22] (fun v i W => ∃ k m : Nat, k ≤ P ∧ (0 < k → 0 < m) ∧ m ≤ k ∧ i = .int .i64 k ∧ SI g a w n t7 B0 X v m W) (fun _ i _ => P - (intOf i).toNat)
  case atStart => exact ⟨0, 0, Nat.zero_le _, fun h => h, Nat.le_refl _, rfl, S0.out⟩
  case round =>
    clear S0
    obtain ⟨k, m, hk, hkm, hmk, rfl, hS⟩ := hrel
    have S1 := Lib.hid hS
    clear hS
    by_cases hlt : k < P
    · have hlt' : (k : Int) < (P : Int) := by omega
      have hk32 : (k : Int) < 32 := by omega
      have hk0 : (0 : Int) ≤ (k : Int) := by omega
      have hmeas : P - (k + 1) < P - k := by omega
      obtain ⟨y, hy⟩ := TX.out.1 k (by omega)
      have c0 := (cellAt S1.out.tb k).trans hy
      by_cases hd : y < 10000
      · have hd' : (y : Int) < 10000 := by omega
        have al := (Below.refl wr.heap.size wr).alloc (Nat.le_refl _) (.cells #[.int .i64 k] 3)
        have S2 := Lib.hid (S1.out.grow al)
        have X2 := Lib.hid (show BoxAt (wr.alloc (.cells #[.int .i64 k] 3)) wr.heap.size #[.int .i64 k] 3 from heap_alloc_new _ _)
        obtain ⟨xs, hxs⟩ := S2.out.own
        have OX := Lib.hid hxs
        have HM := Lib.hid (show m ≤ 32 by omega)
        have hmk2 : m + 1 ≤ k + 1 := by omega
        have hkk : 0 < k + 1 → 0 < m + 1 := fun _ => Nat.succ_pos m
        obtain ⟨i0, hi0, hz0, hz1, hz2⟩ := info_parts info_int
        clear al hxs hd hkm hmk
        go_wp2_with (at_builtin; refine wpList_append_own _ rfl _ _ 24 rfl B0 3 i0 _ 1 8 Try.underlying24 hi0 hz0 hz1 hz2 rfl (by decide) _ m xs rfl OX.out ⟨wr.heap.size, 0, none⟩ 1 1 [.int .i64 k] rfl rfl ?c1 ?c2 ?c3 ?c4 ?c5 ?_)
        case c1 =>
          intro j u hj
          match j, hj with
          | 0, hj => cases hj; exact cellAt X2.out 0
          | j + 1, hj => cases hj
        case c2 => intro u hu; rw [List.mem_singleton] at hu; rw [hu]; rfl
        case c3 => have := HM.out; unfold maxLen; omega
        case c4 => have := HM.out; omega
        case c5 => exact S2.out.sz
        intro v' w5 hown' hgrow _
        have S6 := Lib.hid (S2.out.put H0.out HB1.out HB2.out hgrow ⟨_, hown'⟩)
        clear hown' hgrow S1 S2 X2 OX hi0 hz0 hz1 hz2 c0 hd'
        go_wp2_with fail
        rw [show ((k : Int) + 1) = ((k + 1 : Nat) : Int) from rfl]
        exact ⟨⟨k + 1, m + 1, hlt, hkk, hmk2, rfl, S6.out⟩, hmeas⟩
      · have hd' : ¬ (y : Int) < 10000 := by omega
        have hk1 : 0 < k := by
          rcases Nat.eq_zero_or_pos k with e | e
          · subst e
            rw [TX.out.2] at hy
            simp only [Option.some.injEq, Value.int.injEq, true_and] at hy
            rw [← hy] at hd'
            exact absurd hd' (by decide)
          · exact e
        have hkk : 0 < k + 1 → 0 < m := fun _ => hkm hk1
        have hmk2 : m ≤ k + 1 := by omega
        clear hd hk1 hkm hmk
        go_wp2_with fail
        rw [show ((k : Int) + 1) = ((k + 1 : Nat) : Int) from rfl]
        exact ⟨⟨k + 1, m, hlt, hkk, hmk2, rfl, S1.out⟩, hmeas⟩
    · have hlt' : ¬ (k : Int) < (P : Int) := by omega
      obtain rfl : k = P := by omega
      have hm0 := hkm (by omega)
      obtain ⟨oa, cap, rfl⟩ : ∃ oa cap, u4 = .slice oa m cap := by
        obtain ⟨xs, -, h | ⟨gg, cap, cur, h, -⟩⟩ := S1.out.own
        · exact absurd h.2 (by omega)
        · exact ⟨_, cap, h⟩
      have r0 := cellAt S1.out.fw.e 0
      have f0 := freeAt S1.out.fw.e 0
      simp only [List.getElem?_toArray, List.getElem?_cons_zero] at r0
      clear hkm hmk hp32 hp1 hlt'
      go_wp2_with fail
      have E2 := Lib.hid (S1.out.fw.e.store 0 (.int .i64 0))
      have B2 := Lib.hid (S1.out.fw.oi.bel.setCell (p := ⟨w.heap.size + 1 + 1, 0, none⟩) (by dsimp only; omega) (.int .i64 0))
      have HM := Lib.hid hm0
      clear r0 f0 hm0
      generalize World.setCell _ _ _ = w2 at *
      have r0 := cellAt E2.out 0
      simp only [List.setIfInBounds_toArray, List.set_cons_zero, List.getElem?_toArray, List.getElem?_cons_zero] at r0
      refine leaves_cons (f := 17) (args := #[bp (w.heap.size + 1 + 1)]) (by simp) (by simp [go_sem]) ?_
      refine (Ga.answer_idle _ _).mono ?_
      rintro e u' w'' ⟨rfl, rfl, rfl⟩
      simp [Leaves, settle, results, Try.results11, go_sem, r0]
      exact ⟨HM.out, B2.out⟩
end
end Go.Proofs.Ytikeihnhkiipgaa
