/-
  Walks: deals' closure, one seam more.
  Walks: deals.
-/
import Derived.Test.YtikeihnhkiipgaaGreatQD7
namespace Go.Proofs.YtikeihnhkiipgaaGreat
open Go.RowKit

theorem ds_deal (m : Mk) {c : Nat} (hc : c < 3) : m.ds.setIfInBounds c (.int .u64 (m.b c ||| 2 ^ m.pot : Nat)) = (m.deal c).ds := by
  rcases (show c = 0 ∨ c = 1 ∨ c = 2 by omega) with rfl | rfl | rfl <;> rfl
theorem deal_pot (m : Mk) (c : Nat) : (m.deal c).pot = m.pot + 1 := by
  unfold Mk.deal
  exact Mk.set_pot _ _ _
theorem deal_b (m : Mk) (c : Nat) (h : ∀ i, m.b i < 2 ^ m.pot) : ∀ i, (m.deal c).b i < 2 ^ (m.deal c).pot := by
  rw [deal_pot]
  have hp : 2 ^ m.pot < 2 ^ (m.pot + 1) := Nat.pow_lt_pow_right (by omega) (by omega)
  have hn : ∀ i, m.b i ||| 2 ^ m.pot < 2 ^ (m.pot + 1) := fun i => Nat.or_lt_two_pow (Nat.lt_trans (h i) hp) hp
  have h0 := h 0
  have h1 := h 1
  have h2 := h 2
  have k0 := hn 0
  have k1 := hn 1
  have k2 := hn 2
  intro i
  unfold Mk.deal Mk.set Mk.b at *
  split <;> split <;> simp_all <;> omega
section
variable (g : GN) (ok : g.Ok) (a : GA) (b : Nat) (r : Option Addr) (rc : Nat) (la : Option Addr) (lc s : Nat)
include ok
set_option maxRecDepth 100000 in
set_option maxHeartbeats 2000000 in
theorem deals1_succ (k : Nat)
    (IH : ∀ (m : Mk) (W : World), m.pot + k = g.sn → (∀ c, m.b c < 2 ^ m.pot) → DW g a b r rc la lc s W → Calls Tryz.prog 56 #[.int .i64 m.pot, .agg m.ds, bp s, bp (s + 3), bp (s + 1), bp (s + 6), bp (s + 5), bp (s + 2)] W (DPost g s (g.dv k m) W))
    (m : Mk) (w : World) (hk : m.pot + (k + 1) = g.sn) (hb : ∀ c, m.b c < 2 ^ m.pot) (h : DW g a b r rc la lc s w) :
    Calls Tryz.prog 56 #[.int .i64 m.pot, .agg m.ds, bp s, bp (s + 3), bp (s + 1), bp (s + 6), bp (s + 5), bp (s + 2)] w (DPost g s (g.dv (k + 1) m) w) := by
  have al := (Below.refl w.heap.size w).alloc (Nat.le_refl _) (.cells m.ds 81)
  have I0 := Lib.hid (show DI g a b r rc la lc s m w (w.alloc (.cells m.ds 81)) from ⟨h.grow al, heap_alloc_new _ _, KeepX.below al⟩)
  have OK := Lib.hid ok
  have HP := Lib.hid (fun c => pot_lt ok hk hb c)
  have HB := Lib.hid hb
  have HK := Lib.hid hk
  have IHH := Lib.hid IH
  have hkey := Lib.hid (key_place m (⟨Nat.lt_trans (pot_lt ok hk hb 0) (by decide), Nat.lt_trans (pot_lt ok hk hb 1) (by decide), Nat.lt_trans (pot_lt ok hk hb 2) (by decide)⟩) (by have := ok.hsn; omega))
  have hne : ¬ (m.pot : Int) = (g.sn : Int) := by omega
  have C1 := Lib.hid (fun W => has_any (2 ^ g.sn - 1) m.pot W (by have : 2 ^ g.sn ≤ 2 ^ 5 := Nat.pow_le_pow_right (by omega) ok.hsn; omega) (by have := ok.hsn; omega))
  have tb : (2 ^ g.sn - 1).testBit m.pot = true := by rw [Nat.testBit_two_pow_sub_one]; exact decide_eq_true (by omega)
  rw [tb] at C1
  clear tb
  clear h al ok hk hb IH
  unfold Mk.ds at I0 ⊢
  go_enter Tryz.func56, Tryz.ntmps56
  go_upto_region 1 with (fail)
  generalize World.alloc w _ = w0 at *
  have q0 := I0.out.dw.gw.cells.1
  have g0 := cellAt I0.out.dw.gp 0
  have l0 := cellAt I0.out.dw.lb 0
  have s0 := cellAt I0.out.dw.sb 0
  have p0 := cellAt I0.out.dw.kp 0
  have d0 := cellAt I0.out.d 0
  have d1 := cellAt I0.out.d 1
  have d2 := cellAt I0.out.d 2
  simp only [Mk.ds, List.getElem?_toArray, List.getElem?_cons_zero, List.getElem?_cons_succ] at g0 l0 s0 p0 d0 d1 d2
  have hl := I0.out.dw.memo.look lawPlace Tryz.underlying123 (zero_int w0) hkey.out
  unfold Mk.v Mk.cs at hl
  rcases hl with hrun | ⟨v, ⟨m', hm', rfl⟩, hrun⟩
  · go_upto_region 15 with (go_at_call 57; refine (C1.out _).mono ?_; rintro e w' ⟨rfl, rfl⟩)
    clear hrun q0 g0 s0 p0 d0 d1 d2 C1 hne
    go_wp2_with fail
    clear l0
    go_loopw [16, 65] (fun v i W => ∃ c : Nat, c ≤ g.cn ∧ i = .int .i64 c ∧ v = .int .i64 (g.df k m c) ∧ DI g a b r rc la lc s m w W) (fun _ i _ => g.cn - (intOf i).toNat)
    case atStart => exact ⟨0, Nat.zero_le _, rfl, rfl, I0.out⟩
    case round =>
      clear I0
      obtain ⟨c, hc, rfl, rfl, hI⟩ := hrel
      have I1 := Lib.hid hI
      clear hI
      by_cases hlt : c < g.cn
      · have hlt' : (c : Int) < g.cn := by omega
        have hmeas : g.cn - (c + 1) < g.cn - c := by omega
        have hc3 : c < 3 := by have := OK.out.hcn; omega
        have hc3' : (c : Int) < 3 := by omega
        have hc0 : (0 : Int) ≤ (c : Int) := by omega
        have HN := Lib.hid (df_succ g k m c)
        have C1 := Lib.hid (fun W => has_any (2 ^ g.cn - 1) c W (by have : 2 ^ g.cn ≤ 2 ^ 3 := Nat.pow_le_pow_right (by omega) OK.out.hcn; omega) (by omega))
        have tb : (2 ^ g.cn - 1).testBit c = true := by rw [Nat.testBit_two_pow_sub_one]; exact decide_eq_true hlt
        rw [tb] at C1
        clear tb
        have HW2 := Lib.hid (succ64 (show m.pot < 100 by have := HK.out; have := OK.out.hsn; omega))
        have C2 := Lib.hid (fun W => with_any (m.b c) m.pot W (Nat.lt_trans (HP.out c) (by decide)) (by have := HK.out; have := OK.out.hsn; omega))
        have c0 := cellAt I1.out.dw.cb 0
        have d0 := cellAt I1.out.d 0
        have d1 := cellAt I1.out.d 1
        have d2 := cellAt I1.out.d 2
        simp only [Mk.ds, List.getElem?_toArray, List.getElem?_cons_zero, List.getElem?_cons_succ] at c0 d0 d1 d2
        go_upto_region 20 with (go_at_call 57; refine (C1.out _).mono ?_; rintro e w' ⟨rfl, rfl⟩)
        have al := (Below.refl wr.heap.size wr).alloc (Nat.le_refl _) (.cells m.ds 81)
        have I2 := Lib.hid (I1.out.grow al)
        have X2 := Lib.hid (show BoxAt (wr.alloc (.cells m.ds 81)) wr.heap.size m.ds 81 from heap_alloc_new wr _)
        unfold Mk.ds at I2
        obtain ⟨w2, hw2⟩ : ∃ w2, wr.alloc (.cells m.ds 81) = w2 := ⟨_, rfl⟩
        rw [hw2] at X2 al
        have I3 := Lib.hid (I1.out.grow (al.setCell (p := ⟨wr.heap.size, c, none⟩) (Nat.le_refl _) (.int .u64 (m.b c ||| 2 ^ m.pot : Nat))))
        have X3 := Lib.hid (X2.out.store c (.int .u64 (m.b c ||| 2 ^ m.pot : Nat)))
        rw [ds_deal m hc3] at X3
        unfold Mk.ds at hw2
        rw [hw2] at I2 ⊢
        clear hw2 al c0 d0 d1 d2 C1 I1
        generalize wr.heap.size = x18 at *
        have y0 := (cellAt X2.out c).trans (ds_at m hc3)
        have f0 := freeAt X2.out c
        go_upto_region 21 with (go_at_call 26; refine (C2.out _).mono ?_; rintro e w' ⟨rfl, rfl⟩)
        clear y0 f0 C2 I2 X2
        generalize World.setCell w2 _ _ = w3 at *
        have o0 := cellAt I3.out.dw.on 0
        have e0 := cellAt X3.out 0
        have e1 := cellAt X3.out 1
        have e2 := cellAt X3.out 2
        simp only [Mk.ds, onD, List.getElem?_toArray, List.getElem?_cons_zero, List.getElem?_cons_succ] at o0 e0 e1 e2
        have HDP := Lib.hid (deal_pot m c)
        have C3 := Lib.hid (IHH.out (m.deal c) w3 (by have := HK.out; have := HDP.out; omega) (deal_b m c HB.out) I3.out.dw)
        rw [HDP.out] at C3
        unfold Mk.ds at C3
        have n0 : ∀ (p q z : Nat) W, (callFunc 56 #[.int .i64 (m.pot + 1 : Nat), .agg #[.int .u64 p, .int .u64 q, .int .u64 z], bp s, bp (s + 3), bp (s + 1), bp (s + 6), bp (s + 5), bp (s + 2)]).run Tryz.prog W = .ok (.enter 56 #[.int .i64 (m.pot + 1 : Nat), .agg #[.int .u64 p, .int .u64 q, .int .u64 z], bp s, bp (s + 3), bp (s + 1), bp (s + 6), bp (s + 5), bp (s + 2)]) W := fun _ _ _ _ => by kernel_rfl
        generalize hmp : m.pot + 1 = mp at *
        have hw := HW2.out
        clear hmp
        go_wp2_with (go_at_call 56; refine C3.out.mono ?_; rintro e w4 ⟨rfl, hk4, hm4⟩)
        have I4 := Lib.hid (I3.out.keepX hk4 hm4)
        rw [show ((c : Int) + 1) = ((c + 1 : Nat) : Int) from rfl, min_nat]
        exact ⟨⟨c + 1, hlt, rfl, by rw [HN.out], I4.out⟩, hmeas⟩
      · have hlt' : ¬ (c : Int) < g.cn := by omega
        obtain rfl : c = g.cn := by omega
        have HV := Lib.hid (show g.dv (k + 1) m = g.df k m g.cn from rfl)
        obtain ⟨w8, hst, hm8, hg8⟩ := I1.out.dw.memo.store lawPlace Tryz.underlying123 hkey.out (v := .int .i64 (g.df k m g.cn)) ⟨m, rfl, by rw [show g.sn - m.pot = k + 1 by have := HK.out; omega]; rfl⟩
        have hk8 : KeepX (s + 4) wr w8 := (Keep.refl (fun i => i < wr.heap.size ∧ i ≠ s + 4) wr).grown hg8 (fun j e hC => by cases e; exact hC.2 rfl) fun j hC => hC.1
        have HK8 := Lib.hid (I1.out.keep.trans hk8)
        have HM8 := Lib.hid hm8
        unfold Mk.v Mk.cs at hst
        have p0 := cellAt I1.out.dw.kp 0
        have d0 := cellAt I1.out.d 0
        have d1 := cellAt I1.out.d 1
        have d2 := cellAt I1.out.d 2
        simp only [Mk.ds, List.getElem?_toArray, List.getElem?_cons_zero, List.getElem?_cons_succ] at p0 d0 d1 d2
        clear hm8 hg8 hk8
        go_wp2_with fail
        go_ret
        exact ⟨by rw [HV.out]; rfl, HK8.out, HM8.out⟩
  · have hmm : m = m' := mark_inj hm'
    clear hm'
    subst hmm
    have HV := Lib.hid (show g.sn - m.pot = k + 1 by have := HK.out; omega)
    rw [HV.out] at hrun
    go_wp2_with (go_at_call 57; refine (C1.out _).mono ?_; rintro e w' ⟨rfl, rfl⟩)
    go_ret
    exact ⟨rfl, I0.out.keep, I0.out.dw.memo⟩
/-- The closure: the hour of the best deal. -/
theorem deals1_any : ∀ (k : Nat) (m : Mk) (w : World), m.pot + k = g.sn → (∀ c, m.b c < 2 ^ m.pot) → DW g a b r rc la lc s w →
    Calls Tryz.prog 56 #[.int .i64 m.pot, .agg m.ds, bp s, bp (s + 3), bp (s + 1), bp (s + 6), bp (s + 5), bp (s + 2)] w (DPost g s (g.dv k m) w)
  | 0, m, w, hk, hb, h => deals1_zero g ok a b r rc la lc s m w hk hb h
  | k + 1, m, w, hk, hb, h => deals1_succ g ok a b r rc la lc s k (fun m W h1 h2 h3 => deals1_any k m W h1 h2 h3) m w hk hb h
end
end Go.Proofs.YtikeihnhkiipgaaGreat

namespace Go.Proofs.YtikeihnhkiipgaaGreat
open Go.RowKit

theorem blocks7 {w W : World} {a b c d e f k : Obj} (h : ((((((w.alloc a).alloc b).alloc c).alloc d).alloc e).alloc f).alloc k = W) :
    W.heap[w.heap.size]? = some a ∧ W.heap[w.heap.size + 1]? = some b ∧ W.heap[w.heap.size + 2]? = some c ∧ W.heap[w.heap.size + 3]? = some d ∧ W.heap[w.heap.size + 4]? = some e ∧ W.heap[w.heap.size + 5]? = some f ∧ W.heap[w.heap.size + 6]? = some k ∧ Below w.heap.size w W := by
  subst h
  have e1 : (w.alloc a).heap.size = w.heap.size + 1 := sizeAlloc _ _
  have e2 : ((w.alloc a).alloc b).heap.size = w.heap.size + 2 := by rw [sizeAlloc, e1]
  have e3 : (((w.alloc a).alloc b).alloc c).heap.size = w.heap.size + 3 := by rw [sizeAlloc, e2]
  have e4 : ((((w.alloc a).alloc b).alloc c).alloc d).heap.size = w.heap.size + 4 := by rw [sizeAlloc, e3]
  have e5 : (((((w.alloc a).alloc b).alloc c).alloc d).alloc e).heap.size = w.heap.size + 5 := by rw [sizeAlloc, e4]
  have e6 : ((((((w.alloc a).alloc b).alloc c).alloc d).alloc e).alloc f).heap.size = w.heap.size + 6 := by rw [sizeAlloc, e5]
  refine ⟨?_, ?_, ?_, ?_, ?_, ?_, ?_, ?_⟩
  · simp only [heapAlloc, e1, e2, e3, e4, e5, e6]; simp
  · simp only [heapAlloc, e1, e2, e3, e4, e5, e6]; simp
  · simp only [heapAlloc, e1, e2, e3, e4, e5, e6]; simp
  · simp only [heapAlloc, e1, e2, e3, e4, e5, e6]; simp
  · simp only [heapAlloc, e1, e2, e3, e4, e5, e6]; simp
  · simp only [heapAlloc, e1, e2, e3, e4, e5, e6]; simp
  · simp only [heapAlloc, e1, e2, e3, e4, e5, e6]; simp
  · exact ((((((((Below.refl _ _).alloc (Nat.le_refl _) _).alloc (by omega) _).alloc (by omega) _).alloc (by omega) _).alloc (by omega) _).alloc (by omega) _).alloc (by omega) _)
section
variable (g : GN) (a : GA) (b : Nat) (r : Option Addr) (rc : Nat) (la : Option Addr) (lc : Nat)
set_option maxHeartbeats 1000000 in
theorem gdeals_any (w : World) (h : GW g a b r rc w) (hl : Row w la g.cn 32 (fun c j => .int .i64 (g.tab c (2 ^ g.sn) j))) :
    Calls Tryz.prog 22 #[bp b, .int .u64 (2 ^ g.sn - 1 : Nat), .int .u64 (2 ^ g.cn - 1 : Nat), .slice la g.cn lc] w fun e w' => e = .returned (onD w.heap.size) ∧ DW g a b r rc la lc w.heap.size w' ∧ Below w.heap.size w w' := by
  have hmm : ∀ W : World, (Instr.makeMap 123 none).run Tryz.prog W = .ok (.map (some W.heap.size)) (W.alloc (.map #[] 0)) := fun W => by simp [Instr.makeMap, go_sem]
  have H := Lib.hid h
  have L := Lib.hid hl
  obtain ⟨sx, hsx⟩ : ∃ sx : Nat, 2 ^ g.sn - 1 = sx := ⟨_, rfl⟩
  obtain ⟨cx, hcx⟩ : ∃ cx : Nat, 2 ^ g.cn - 1 = cx := ⟨_, rfl⟩
  have SX := Lib.hid hsx
  have CX := Lib.hid hcx
  rw [hsx, hcx]
  clear h hl hsx hcx
  go_enter Tryz.func22, Tryz.ntmps22
  go_wp2_with fail
  generalize hW : World.alloc _ _ = W
  obtain ⟨h0, h1, h2, h3, h4, h5, h6, hB⟩ := blocks7 hW
  have HD := Lib.hid (show DW g a b r rc la lc w.heap.size W from ⟨h0, by rw [SX.out]; exact h1, by rw [CX.out]; exact h2, h3, h5, h6, H.out.grow hB, L.out.grow hB, ⟨#[], 0, h4, fun e he => by cases he⟩⟩)
  clear hW h0 h1 h2 h3 h4 h5 h6
  go_ret
  exact ⟨rfl, HD.out, hB⟩
end
end Go.Proofs.YtikeihnhkiipgaaGreat
