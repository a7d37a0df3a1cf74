/-
  Deal.
-/
import Derived.Test.YtikeihnhkiipgaaGreatQE4
namespace Go.Proofs.YtikeihnhkiipgaaGreat
open Go.RowKit

/-- The crew that is taken for the next seam. -/
def GN.pick (g : GN) (n k : Nat) (m : Mk) : Option Nat := (List.range g.cn).find? fun c => decide (g.dv k (m.deal c) = n)
def GN.dl (g : GN) (n : Nat) : Nat → Mk → List Nat
  | 0, _ => []
  | k + 1, m => match g.pick n k m with
    | none => []
    | some c => c :: g.dl n k (m.deal c)
theorem df_hit (g : GN) (k : Nat) (m : Mk) : ∀ c, g.df k m c = 10000 ∨ ∃ i, i < c ∧ g.dv k (m.deal i) = g.df k m c
  | 0 => .inl rfl
  | c + 1 => by
    rw [df_succ]
    rcases Nat.le_total (g.df k m c) (g.dv k (m.deal c)) with h | h
    · rw [Nat.min_eq_left h]
      rcases df_hit g k m c with h1 | ⟨i, hi, h1⟩
      · exact .inl h1
      · exact .inr ⟨i, by omega, h1⟩
    · rw [Nat.min_eq_right h]
      exact .inr ⟨c, by omega, rfl⟩
theorem pick_some {g : GN} {n k : Nat} {m : Mk} (h : g.dv (k + 1) m = n) (hn : n < 10000) : ∃ c, g.pick n k m = some c ∧ c < g.cn ∧ g.dv k (m.deal c) = n := by
  have hd : g.df k m g.cn = n := h
  rcases df_hit g k m g.cn with h1 | ⟨i, hi, h1⟩
  · omega
  · cases hp : g.pick n k m with
    | none =>
      have := List.find?_eq_none.1 hp i (List.mem_range.2 hi)
      exact absurd (h1.trans hd) (by simpa using this)
    | some c =>
      refine ⟨c, rfl, List.mem_range.1 (List.mem_of_find?_eq_some hp), ?_⟩
      have := List.find?_some hp
      simpa using this
theorem pick_first {g : GN} {n k : Nat} {m : Mk} {c : Nat} (hc : c < g.cn) (h1 : ∀ i, i < c → g.dv k (m.deal i) ≠ n) (h2 : g.dv k (m.deal c) = n) : g.pick n k m = some c := by
  unfold GN.pick
  obtain ⟨d, hd⟩ : ∃ d, g.cn = c + (1 + d) := ⟨g.cn - c - 1, by omega⟩
  rw [hd, List.range_eq_range', ← List.range'_append_1, List.find?_append, List.find?_eq_none.2 (fun i hi => by
    have := List.mem_range'_1.1 hi
    simpa using h1 i (by omega))]
  rw [show 1 + d = d + 1 by omega, List.range'_succ]
  simp [h2]
/-- What Deal hands back. -/
def DealPost (g : GN) (w : World) (e : Ending) (w' : World) : Prop := Below w.heap.size w w' ∧ if g.dv g.sn Mk.start < 10000 then ∃ oa cap, e = .returned (.tuple #[.int .i64 (g.dv g.sn Mk.start), .slice oa g.sn cap, .int .i64 0]) ∧ IntsAt w' oa g.sn (fun i => (((g.dl (g.dv g.sn Mk.start) g.sn Mk.start)[i]?.getD 0 : Nat) : Int))
  else e = .returned (.tuple #[.int .i64 0, .slice none 0 0, .int .i64 4])
/-- The argument's box, and the error's. -/
structure EW (g : GN) (a : GA) (w : World) (W : World) : Prop where
  oi : OI g a w W
  e : BoxAt W (w.heap.size + 1) #[.int .i64 0] 33
theorem EW.grow {g : GN} {a : GA} {w W W' : World} (h : EW g a w W) (hb : Below W.heap.size W W') : EW g a w W' := ⟨h.oi.grow hb, h.e.grow hb⟩
/-- What the loops keep, over the world w3 behind 'deals'. -/
structure EI (g : GN) (s t7 B0 : Nat) (m : Mk) (v : Value) (L : List Nat) (w3 : World) (W : World) : Prop where
  kp : KeepX (s + 4) w3 W
  memo : MemoAt 128 (OkD g) (s + 4) W
  d7 : BoxAt W t7 m.ds 81
  own : W.ownsRow B0 3 1 v L.length (L.map fun c => .int .i64 (c : Nat))
  sz : B0 ≤ W.heap.size
theorem own_keepX {kt : TypeId} {Ok : Value → Value → Prop} {kb base sz n : Nat} {A B : World} {e : TypeId} {v : Value} {xs : List Value} (h : A.ownsRow base e sz v n xs) (hm : MemoAt kt Ok kb A) (hk : KeepX kb A B) : B.ownsRow base e sz v n xs := by
  obtain ⟨hl, h | ⟨g, cap, cur, hv, hbg, hg, h3⟩⟩ := h
  · exact ⟨hl, .inl h⟩
  · refine ⟨hl, .inr ⟨g, cap, cur, hv, hbg, (hk.block g ⟨lt_of_heap hg, fun e => ?_⟩).trans hg, h3⟩⟩
    subst e
    obtain ⟨es, c, hb, -⟩ := hm
    rw [hb] at hg
    cases hg
section
variable {g : GN} {s t7 B0 : Nat} {m : Mk} {v : Value} {L : List Nat} {w3 A B : World}
theorem EI.keepX (h : EI g s t7 B0 m v L w3 A) (hk : KeepX (s + 4) A B) (hm : MemoAt 128 (OkD g) (s + 4) B) : EI g s t7 B0 m v L w3 B :=
  ⟨h.kp.trans hk, hm, box_keepX h.d7 h.memo hk, own_keepX h.own h.memo hk, Nat.le_trans h.sz hk.size⟩
theorem EI.grow (h : EI g s t7 B0 m v L w3 A) (hb : Below A.heap.size A B) : EI g s t7 B0 m v L w3 B := h.keepX (KeepX.below hb) (h.memo.grow hb)
theorem EI.put (h : EI g s t7 B0 m v L w3 A) {v' : Value} {c : Nat} (h1 : w3.heap.size < B0) (h2 : t7 < B0) (h3 : s + 4 < w3.heap.size) (hg : A.grownBy B v.ownBlock) (ho : B.ownsRow B0 3 1 v' (L.length + 1) (L.map (fun c => .int .i64 (c : Nat)) ++ [.int .i64 (c : Nat)])) : EI g s t7 B0 m v' (L ++ [c]) w3 B := by
  have hlt := own_lt h.own
  have hne : ∀ i, i < B0 → (some i : Option Nat) ≠ v.ownBlock := fun i hi e => by have := (hlt i e.symm).1; omega
  have hsz := h.sz
  refine ⟨h.kp.grown hg (fun j e hC => by have := (hlt j e).1; have := hC.1; omega) (fun j hC => hC.1), h.memo.same (hg.block (s + 4) h.memo.lt (hne _ (by omega))), h.d7.kept hg (hne _ h2), ?_, Nat.le_trans h.sz hg.size⟩
  simpa using ho
theorem EI.deal (h : EI g s t7 B0 m v L w3 A) {m' : Mk} (h1 : w3.heap.size ≤ t7) (h2 : t7 < B0) (h3 : s + 4 < w3.heap.size) (hk : Keep (fun i => i ≠ t7) A B) (hd : BoxAt B t7 m'.ds 81) : EI g s t7 B0 m' v L w3 B := by
  refine ⟨Keep.trans h.kp (hk.mono fun i hi => by have := hi.1; omega), h.memo.same (hk.block _ (by omega)), hd, ?_, Nat.le_trans h.sz hk.size⟩
  · obtain ⟨hl, h4 | ⟨gg, cap, cur, hv, hbg, hg, h5⟩⟩ := h.own
    · exact ⟨hl, .inl h4⟩
    · exact ⟨hl, .inr ⟨gg, cap, cur, hv, hbg, (hk.block gg (by omega)).trans hg, h5⟩⟩
end
/-- The argument's box and the error's, behind the calls. -/
theorem ew_keep {g : GN} {a : GA} {w w3 W : World} {b s t7 B0 : Nat} {r : Option Addr} {rc : Nat} {la : Option Addr} {lc : Nat} {m : Mk} {v : Value} {L : List Nat} (h : EW g a w w3) (hd : DW g a b r rc la lc s w3) (hs : w.heap.size + 1 < s) (he : EI g s t7 B0 m v L w3 W) (hA : g.At a w) : EW g a w W := by
  have hb : Below w.heap.size w W := h.oi.bel.trans (keepX_below he.kp (by omega) hd.memo.lt)
  exact ⟨⟨hb, box_keepX h.oi.box hd.memo he.kp, hA.grow hb⟩, box_keepX h.e hd.memo he.kp⟩
section
variable (g : GN) (ok : g.Ok) (a : GA)
include ok
set_option maxRecDepth 100000 in
set_option maxHeartbeats 4000000 in
theorem deal_any (w : World) (hA : g.At a w) : Calls Tryz.prog 6 #[.agg (g.cs a)] w (DealPost g w) := by
  have I0 := Lib.hid (show EW g a w ((w.alloc (.cells (g.cs a) 29)).alloc (.cells #[.int .i64 0] 33)) from by
    obtain ⟨z0, z1, -, hB⟩ := blocks2 (show (w.alloc (.cells (g.cs a) 29)).alloc (.cells #[.int .i64 0] 33) = _ from rfl)
    exact ⟨⟨hB, z0, hA.grow hB⟩, z1⟩)
  have C1 := Lib.hid (fun W (h : g.At a W) => gopen_any g ok a 21 #[] W h (fun b W => by kernel_rfl) (fun b v W' _ _ => galways_any b W'))
  have OK := Lib.hid ok
  have H0 := Lib.hid hA
  have E1 := Lib.hid (fun W => every_any g.sn W (by have := ok.hsn; omega))
  have E2 := Lib.hid (fun W => every_any g.cn W (by have := ok.hcn; omega))
  have E3 := Lib.hid (fun b r rc W (h : GW g a b r rc W) => tables_any g ok a b r rc W h)
  clear hA ok
  unfold GN.cs at *
  go_enter_defers Tryz.func6, Tryz.ntmps6
  go_upto_region 2 with (fail)
  generalize World.alloc (World.alloc w _) _ = w0 at *
  obtain ⟨q0, q1, q2, q3, q4, q5, q6⟩ := I0.out.oi.cells
  go_upto_region 3 with (go_at_call 20; (with_reducible refine (C1.out _ I0.out.oi.at').mono ?_); rintro e w1 ⟨b, r, rc, rfl, hbw, hgw, hb1⟩)
  have I1 := Lib.hid (I0.out.grow hb1)
  have G1 := Lib.hid hgw
  clear hgw hb1 q0 q1 q2 q3 q4 q5 q6 I0 C1
  have ID := Lib.hid (I1.out.grow (Below.drew (Below.refl w1.heap.size w1)))
  have GD := Lib.hid (G1.out.grow (Below.drew (Below.refl w1.heap.size w1)))
  obtain ⟨q0, q1, -⟩ := GD.out.cells
  refine wp_region_noPanic ?_
  go_region_held3 (fun w' => w'.cell? ⟨b, 0, none⟩ = some (.slice a.sa g.sn a.sc) ∧ w'.cell? ⟨b, 1, none⟩ = some (.slice a.ca g.cn a.cc))
    (first | exact ⟨q0, q1⟩ | exact ⟨(GD.out.grow hb2).cells.1, (GD.out.grow hb2).cells.2.1⟩ | exact ⟨((GD.out.grow hb2).grow hb3).cells.1, ((GD.out.grow hb2).grow hb3).cells.2.1⟩)
    (first
      | (go_at_call 23; (with_reducible refine (E1.out _).mono ?_); rintro e w' ⟨rfl, rfl⟩)
      | (go_at_call 23; (with_reducible refine (E2.out _).mono ?_); rintro e w' ⟨rfl, rfl⟩)
      | (go_at_call 24; (with_reducible refine (E3.out b r rc _ GD.out).mono ?_); rintro e w2 ⟨la, lcap, rfl, hrow, hb2⟩)
      | (go_at_call 22; (with_reducible refine (gdeals_any g a b r rc la lcap _ (GD.out.grow hb2) hrow).mono ?_); rintro e w3 ⟨rfl, hdw, hb3⟩))
  refine NoPanic.normal ?_
  have I3 := Lib.hid ((ID.out.grow hb2).grow hb3)
  have D3 := Lib.hid hdw
  have HSW := Lib.hid (show w.heap.size + 1 < w2.heap.size from lt_of_heap (ID.out.grow hb2).e)
  have HS3 := Lib.hid (show w2.heap.size + 6 < w3.heap.size from lt_of_heap hdw.on)
  clear hdw hrow hb2 hb3 q0 q1 ID GD I1 G1 E1 E2 E3
  generalize w2.heap.size = s at *
  unfold onD
  go_upto_region 5 with (fail)
  have al := (Below.refl w3.heap.size w3).alloc (Nat.le_refl _) (.cells Mk.start.ds 81)
  have E0 := Lib.hid (show EI g s w3.heap.size (w3.alloc (.cells Mk.start.ds 81)).heap.size Mk.start (.slice none 0 0) [] w3 (w3.alloc (.cells Mk.start.ds 81)) from ⟨KeepX.below al, D3.out.memo.grow al, heap_alloc_new _ _, ⟨rfl, .inl ⟨rfl, rfl⟩⟩, Nat.le_refl _⟩)
  have HB0 := Lib.hid (show w3.heap.size < (w3.alloc (.cells Mk.start.ds 81)).heap.size by rw [sizeAlloc]; exact Nat.lt_succ_self _)
  obtain ⟨w4, hw4⟩ : ∃ w4, w3.alloc (.cells Mk.start.ds 81) = w4 := ⟨_, rfl⟩
  rw [hw4] at E0 HB0
  unfold Mk.start Mk.ds at hw4
  dsimp only at hw4
  simp only [Int.natCast_zero] at hw4
  rw [hw4]
  clear hw4 al
  generalize w4.heap.size = B0 at *
  have C4 := Lib.hid (deals1_any g OK.out a b r rc la lcap s g.sn Mk.start w4 (Nat.zero_add _) (fun c => by unfold Mk.start Mk.b; dsimp only; split <;> decide) (D3.out.keep E0.out.kp E0.out.memo))
  have d0 := cellAt E0.out.d7 0
  have d1 := cellAt E0.out.d7 1
  have d2 := cellAt E0.out.d7 2
  simp only [Mk.ds, Mk.start, List.getElem?_toArray, List.getElem?_cons_zero, List.getElem?_cons_succ, Int.natCast_zero] at d0 d1 d2
  have n0 : ∀ (x p q z : Int) W, (callFunc 56 #[.int .i64 x, .agg #[.int .u64 p, .int .u64 q, .int .u64 z], bp s, bp (s + 3), bp (s + 1), bp (s + 6), bp (s + 5), bp (s + 2)]).run Tryz.prog W = .ok (.enter 56 #[.int .i64 x, .agg #[.int .u64 p, .int .u64 q, .int .u64 z], bp s, bp (s + 3), bp (s + 1), bp (s + 6), bp (s + 5), bp (s + 2)]) W := fun _ _ _ _ _ => by kernel_rfl
  go_upto_region 6 with (go_at_call 56; refine C4.out.mono ?_; rintro e w5 ⟨rfl, hk5, hm5⟩)
  have E5 := Lib.hid (E0.out.keepX hk5 hm5)
  have HSZ := Lib.hid (show w3.heap.size ≤ w3.heap.size from Nat.le_refl _)
  clear hk5 hm5 d0 d1 d2 C4 E0
  obtain ⟨n, hn0⟩ : ∃ n, g.dv g.sn Mk.start = n := ⟨_, rfl⟩
  have HN := Lib.hid hn0
  rw [hn0]
  clear hn0
  by_cases hn : n < 10000
  · have hn' : (n : Int) < 10000 := by omega
    go_upto_region 8 with (go_at_call 25; ((with_reducible refine (Ga.ask_true _ _).mono ?_); rintro e w' ⟨rfl, rfl⟩))
    have q0 := (D3.out.keep E5.out.kp E5.out.memo).gw.cells.1
    go_wp2_with fail
    clear q0 hn'
    go_loopw [9, 45] (fun v i W => ∃ (j : Nat) (m : Mk) (L : List Nat), j ≤ g.sn ∧ i = .int .i64 j ∧ m.pot = j ∧ (∀ c, m.b c < 2 ^ m.pot) ∧ L.length = j ∧ g.dl n g.sn Mk.start = L ++ g.dl n (g.sn - j) m ∧ g.dv (g.sn - j) m = n ∧ EI g s w3.heap.size B0 m v L w3 W) (fun _ i _ => g.sn - (intOf i).toNat)
    case atStart => exact ⟨0, Mk.start, [], Nat.zero_le _, rfl, rfl, (fun c => by unfold Mk.start Mk.b; dsimp only; split <;> decide), rfl, rfl, HN.out, E5.out⟩
    case round =>
      clear E5
      obtain ⟨j, m, L, hj, rfl, hmp, hmb, hL, hdl, hdv, hE⟩ := hrel
      have E1 := Lib.hid hE
      have HX := Lib.hid (And.intro hmp (And.intro hmb (And.intro hL (And.intro hdl hdv))))
      clear hE hmp hmb hL hdl hdv
      by_cases hlt : j < g.sn
      · have hlt' : (j : Int) < g.sn := by omega
        have hmeas : g.sn - (j + 1) < g.sn - j := by omega
        obtain ⟨k, hk⟩ : ∃ k, g.sn - j = k + 1 := ⟨g.sn - j - 1, by omega⟩
        have HK := Lib.hid hk
        have q1 := (D3.out.keep E1.out.kp E1.out.memo).gw.cells.2.1
        clear hk
        go_upto_region 11 with (fail)
        go_wp2_with fail
        clear q1
        go_loopw [9, 54] (fun v i W => ∃ c : Nat, c ≤ g.cn ∧ i = .int .i64 c ∧ (∀ i, i < c → g.dv k (m.deal i) ≠ n) ∧ EI g s w3.heap.size B0 m v L w3 W) (fun _ i _ => g.cn - (intOf i).toNat)
        case atStart => exact ⟨0, Nat.zero_le _, rfl, fun i hi => absurd hi (Nat.not_lt_zero i), E1.out⟩
        case round =>
          clear E1
          obtain ⟨c, hc, rfl, hno, hE⟩ := hrel
          have E1 := Lib.hid hE
          have NO := Lib.hid hno
          clear hE hno
          by_cases hct : c < g.cn
          · have hct' : (c : Int) < g.cn := by omega
            have hmeas2 : g.cn - (c + 1) < g.cn - c := by omega
            have hc3 : c < 3 := by have := OK.out.hcn; omega
            have hc3' : (c : Int) < 3 := by omega
            have hc0 : (0 : Int) ≤ (c : Int) := by omega
            have hj5 : j < 5 := by have := OK.out.hsn; omega
            have HPT := Lib.hid (show ∀ c, m.b c < 32 from fun c => pot_lt OK.out (k := k + 1) (by have := HX.out.1; have := HK.out; omega) HX.out.2.1 c)
            have C2 := Lib.hid (fun W => with_any (m.b c) j W (Nat.lt_trans (HPT.out c) (by decide)) (by omega))
            have d0 := cellAt E1.out.d7 0
            have d1 := cellAt E1.out.d7 1
            have d2 := cellAt E1.out.d7 2
            simp only [Mk.ds, List.getElem?_toArray, List.getElem?_cons_zero, List.getElem?_cons_succ] at d0 d1 d2
            go_upto_region 15 with (fail)
            have al := (Below.refl wr.heap.size wr).alloc (Nat.le_refl _) (.cells m.ds 81)
            have X2 := Lib.hid (show BoxAt (wr.alloc (.cells m.ds 81)) wr.heap.size m.ds 81 from heap_alloc_new wr _)
            obtain ⟨w2', hw2⟩ : ∃ w2, wr.alloc (.cells m.ds 81) = w2 := ⟨_, rfl⟩
            rw [hw2] at X2 al
            have E3 := Lib.hid (E1.out.grow (al.setCell (p := ⟨wr.heap.size, c, none⟩) (Nat.le_refl _) (.int .u64 (m.b c ||| 2 ^ j : Nat))))
            have X3 := Lib.hid (X2.out.store c (.int .u64 (m.b c ||| 2 ^ j : Nat)))
            have hds := ds_deal m hc3
            rw [HX.out.1] at hds
            rw [hds] at X3
            have HXB := Lib.hid (show B0 ≤ wr.heap.size from E1.out.sz)
            have HOX := Lib.hid (fun j e => (own_lt E1.out.own j e).2)
            unfold Mk.ds at hw2
            rw [hw2]
            clear hw2 al d0 d1 d2 E1 hds
            generalize wr.heap.size = x12 at *
            have y0 := (cellAt X2.out c).trans (ds_at m hc3)
            have f0 := freeAt X2.out c
            go_upto_region 16 with (go_at_call 26; refine (C2.out _).mono ?_; rintro e w' ⟨rfl, rfl⟩)
            clear y0 f0 C2 X2
            generalize World.setCell w2' _ _ = w4' at *
            have e0 := cellAt X3.out 0
            have e1 := cellAt X3.out 1
            have e2 := cellAt X3.out 2
            simp only [Mk.ds, List.getElem?_toArray, List.getElem?_cons_zero, List.getElem?_cons_succ] at e0 e1 e2
            have HDP := Lib.hid (deal_pot m c)
            have C3 := Lib.hid (deals1_any g OK.out a b r rc la lcap s k (m.deal c) w4' (by have := HK.out; have := HDP.out; have := HX.out.1; omega) (deal_b m c HX.out.2.1) (D3.out.keep E3.out.kp E3.out.memo))
            rw [HDP.out, HX.out.1] at C3
            unfold Mk.ds at C3
            rw [← succ64 (show j < 100 by omega)] at C3
            clear hj5 hct'
            by_cases hhit : g.dv k (m.deal c) = n
            · skip
              have hhit' : ((g.dv k (m.deal c) : Nat) : Int) = (n : Int) := by rw [hhit]
              go_upto_region 17 with (go_at_call 56; (with_reducible refine C3.out.mono ?_); rintro e w5' ⟨rfl, hk4, hm4⟩)
              have E4 := Lib.hid (E3.out.keepX hk4 hm4)
              have X4 := Lib.hid (box_keepX X3.out E3.out.memo hk4)
              clear hk4 hm4 E3 X3 e0 e1 e2 C3 hhit'
              have XD := Lib.hid (fun W (h : BoxAt W x12 (m.deal c).ds 81) => (show (W.cell? ⟨x12, 0, none⟩ = some (.int .u64 (m.deal c).b0) ∧ W.cell? ⟨x12, 1, none⟩ = some (.int .u64 (m.deal c).b1) ∧ W.cell? ⟨x12, 2, none⟩ = some (.int .u64 (m.deal c).b2)) from ⟨cellAt h 0, cellAt h 1, cellAt h 2⟩))
              refine wp_region_noPanic ?_
              refine wp_region_stg (S := (fun w' => (w'.cell? ⟨x12, 0, none⟩ = some (.int .u64 (m.deal c).b0) ∧ w'.cell? ⟨x12, 1, none⟩ = some (.int .u64 (m.deal c).b1) ∧ w'.cell? ⟨x12, 2, none⟩ = some (.int .u64 (m.deal c).b2)))) (L := []) (D := []) (by kernel_rfl) (by kernel_rfl) (XD.out _ (show BoxAt w5'.drew x12 (m.deal c).ds 81 from X4.out)) (by intro e he; cases he) (fun hC0 hH0 => ?_)
              refine wpAnyT_take (i := 0) (oi := _) (v := ?_) rfl (by kernel_rfl) (by kernel_rfl) (by kernel_rfl) (fun _ _ _ h => h) (by kernel_rfl) (by rfl) hC0 (Or.inl ⟨by rfl, ?_⟩) hH0 (fun hC1 hH1 => ?_)
              rotate_left
              · (intro w9 hSw; obtain ⟨hSw, hLw⟩ := hSw; clear hLw; (try dsimp only at hSw); (go_split_ands; go_simp); (try with_reducible rfl))
              clear hC0 hH0
              try simp only [Act.put, List.setIfInBounds_toArray]
              refine wpAnyT_take (i := 1) (oi := _) (v := ?_) rfl (by kernel_rfl) (by kernel_rfl) (by kernel_rfl) (fun _ _ _ h => h) (by kernel_rfl) (by rfl) hC1 (Or.inl ⟨by rfl, ?_⟩) hH1 (fun hC2 hH2 => ?_)
              rotate_left
              · (intro w9 hSw; obtain ⟨hSw, hLw⟩ := hSw; clear hLw; (try dsimp only at hSw); (go_split_ands; go_simp); (try with_reducible rfl))
              clear hC1 hH1
              try simp only [Act.put]
              refine wpAnyT_take (i := 4) (oi := _) (v := ?_) rfl (by kernel_rfl) (by kernel_rfl) (by kernel_rfl) (fun _ _ _ h => h) (by kernel_rfl) (by rfl) hC2 (Or.inl ⟨by rfl, ?_⟩) hH2 (fun hC3 hH3 => ?_)
              rotate_left
              · (intro w9 hSw; obtain ⟨hSw, hLw⟩ := hSw; clear hLw; (try dsimp only at hSw); (go_split_ands; go_simp); (try with_reducible rfl))
              clear hC2 hH2
              try simp only [Act.put]
              have al := (Below.refl w5'.heap.size w5').alloc (Nat.le_refl _) (.cells #[.int .i64 c] 3)
              have E5 := Lib.hid (E4.out.grow al.drew)
              have X5 := Lib.hid (X4.out.grow al.drew)
              have Y5 := Lib.hid (show BoxAt ((w5'.alloc (.cells #[.int .i64 c] 3)).drew) w5'.heap.size #[.int .i64 c] 3 from heap_alloc_new w5' _)
              refine wpAnyT_one (i := 2) (o := _) (by kernel_rfl) rfl (by kernel_rfl) hC3 (fun K hK => ?_)
              clear hC3 hH3
              go_simp
              refine hK.out _ _ ?_ (fun hC4 hH4 => ?_)
              · exact ⟨XD.out _ X5.out, fun e he => by cases he⟩
              clear hK K
              try simp only [Act.put, List.setIfInBounds_toArray, List.set_cons_zero, List.set_cons_succ]
              generalize World.drew (World.alloc w5' _) = w6 at *
              generalize w5'.heap.size = y12 at *
              refine wpAnyT_one (i := 3) (o := _) (by kernel_rfl) rfl (by kernel_rfl) hC4 (fun K hK => ?_)
              clear hC4 hH4
              refine step_appInt (w := w6) (by rfl) (.tmp 72) (.tmp 74) (by rfl) (by rfl) E5.out.own (b := y12) (u := c) (by rfl) Y5.out (by have := HX.out.2.2.1; have := OK.out.hsn; omega) E5.out.sz ?_
              intro gg gcap w7 hw7 hg7 _
              have E7 := Lib.hid (E5.out.put (c := c) HB0.out (by have := HB0.out; omega) (by have := HS3.out; omega) hg7 hw7)
              have X7 := Lib.hid (X5.out.kept hg7 (fun e => Nat.lt_irrefl _ (HOX.out x12 e.symm)))
              clear hw7 hg7 E5 X5 Y5
              refine hK.out _ _ ?_ (fun hC5 hH5 => ?_)
              · exact ⟨XD.out _ X7.out, fun e he => by cases he⟩
              clear hK K
              try simp only [Act.put, List.setIfInBounds_toArray]
              refine wpAnyT_take (i := 5) (oi := _) (v := ?_) rfl (by kernel_rfl) (by kernel_rfl) (by kernel_rfl) (fun _ _ _ h => h) (by kernel_rfl) (by rfl) hC5 (Or.inl ⟨by rfl, ?_⟩) hH5 (fun hC6 hH6 => ?_)
              rotate_left
              · (intro w9 hSw; obtain ⟨hSw, hLw⟩ := hSw; clear hLw; (try dsimp only at hSw); (go_split_ands; go_simp); (try with_reducible rfl))
              clear hC5 hH5
              try simp only [Act.put]
              refine wpAnyT_one (i := 6) (o := _) (by kernel_rfl) rfl (by kernel_rfl) hC6 (fun K hK => ?_)
              clear hC6 hH6
              have c0 := cellAt E7.out.d7 0
              have c1 := cellAt E7.out.d7 1
              have c2 := cellAt E7.out.d7 2
              have f0 := freeAt E7.out.d7 0
              have f1 := freeAt E7.out.d7 1
              have f2 := freeAt E7.out.d7 2
              simp only [Mk.ds, List.getElem?_toArray, List.getElem?_cons_zero, List.getElem?_cons_succ] at c0 c1 c2
              have E8 := Lib.hid (E7.out.deal (m' := m.deal c) (Nat.le_refl _) HB0.out (by have := HS3.out; omega) ((((Keep.refl (fun i => i ≠ w3.heap.size) w7).set w3.heap.size 0 (.int .u64 (m.deal c).b0) (fun h => h rfl)).set w3.heap.size 1 (.int .u64 (m.deal c).b1) (fun h => h rfl)).set w3.heap.size 2 (.int .u64 (m.deal c).b2) (fun h => h rfl)) (((E7.out.d7.store 0 (.int .u64 (m.deal c).b0)).store 1 (.int .u64 (m.deal c).b1)).store 2 (.int .u64 (m.deal c).b2)))
              have X8 := Lib.hid (((X7.out.set ⟨w3.heap.size, 0, none⟩ (.int .u64 (m.deal c).b0) (by show w3.heap.size ≠ x12; have := HB0.out; have := HXB.out; omega)).set ⟨w3.heap.size, 1, none⟩ (.int .u64 (m.deal c).b1) (by show w3.heap.size ≠ x12; have := HB0.out; have := HXB.out; omega)).set ⟨w3.heap.size, 2, none⟩ (.int .u64 (m.deal c).b2) (by show w3.heap.size ≠ x12; have := HB0.out; have := HXB.out; omega))
              go_simp
              refine hK.out _ _ ?_ (fun hC7 hH7 => ?_)
              · exact ⟨XD.out _ X8.out, fun e he => by cases he⟩
              clear hK K c0 c1 c2 f0 f1 f2 E7 X7 X8 XD
              try simp only [Act.put, List.setIfInBounds_toArray, List.set_cons_zero, List.set_cons_succ]
              generalize World.setCell (World.setCell (World.setCell w7 _ _) _ _) _ _ = w8 at *
              refine wpAnyT_done (by kernel_rfl) ?_ _
              clear hC7 hH7
              refine NoPanic.normal ?_
              have hpk := pick_first hct NO.out hhit
              have HF := Lib.hid (show g.dl n g.sn Mk.start = (L ++ [c]) ++ g.dl n (g.sn - (j + 1)) (m.deal c) from by
                rw [HX.out.2.2.2.1, HK.out, show g.sn - (j + 1) = k by have := HK.out; omega, List.append_assoc]
                simp [GN.dl, hpk])
              have HG := Lib.hid (show g.dv (g.sn - (j + 1)) (m.deal c) = n from by rw [show g.sn - (j + 1) = k by have := HK.out; omega]; exact hhit)
              have HJ := Lib.hid (succ64 (show j < 100 by have := OK.out.hsn; omega))
              have hp2 : (m.deal c).pot = j + 1 := by rw [HDP.out, HX.out.1]
              have hL2 : (L ++ [c]).length = j + 1 := by rw [List.length_append, HX.out.2.2.1]; rfl
              go_wp2_with fail
              rw [HJ.out]
              exact ⟨⟨j + 1, m.deal c, L ++ [c], hlt, rfl, hp2, deal_b m c HX.out.2.1, hL2, HF.out, HG.out, E8.out⟩, hmeas⟩
            · skip
              have hhit' : ¬ ((g.dv k (m.deal c) : Nat) : Int) = (n : Int) := by omega
              go_wp2_with (go_at_call 56; (with_reducible refine C3.out.mono ?_); rintro e w5' ⟨rfl, hk4, hm4⟩)
              have E4 := Lib.hid (E3.out.keepX hk4 hm4)
              rw [show ((c : Int) + 1) = ((c + 1 : Nat) : Int) from rfl]
              exact ⟨⟨c + 1, hct, rfl, fun i hi => by
                rcases Nat.lt_or_ge i c with h | h
                · exact NO.out i h
                · obtain rfl : i = c := by omega
                  exact hhit, E4.out⟩, hmeas2⟩
          · exfalso
            obtain ⟨c0, -, h2, h3⟩ := pick_some (g := g) (k := k) (m := m) (n := n) (by rw [← HK.out]; exact HX.out.2.2.2.2) hn
            exact NO.out c0 (by omega) h3
      · have hlt' : ¬ (j : Int) < g.sn := by omega
        obtain rfl : j = g.sn := by omega
        have hLn := HX.out.2.2.1
        have hLL : g.dl n g.sn Mk.start = L := by
          rw [HX.out.2.2.2.1, Nat.sub_self]
          simp [GN.dl]
        obtain ⟨oa, cap, hv, hrow, hbo⟩ := own_row (cell := fun i _ => .int .i64 ((L[i]?.getD 0 : Nat) : Int)) E1.out.own (by rw [hLn]; have := OK.out.hsn; unfold maxLen; omega) (fun i hi k hk => by
          obtain rfl : k = 0 := by omega
          rw [Nat.mul_one, Nat.add_zero, List.getElem?_map, List.getElem?_eq_getElem hi]
          rfl)
        rw [hLn] at hv hrow hbo
        subst hv
        have EW5 := Lib.hid (ew_keep I3.out D3.out HSW.out E1.out H0.out)
        have RW := Lib.hid hrow
        have HBO := Lib.hid hbo
        have HLL := Lib.hid hLL
        have r0 := cellAt EW5.out.e 0
        have f0 := freeAt EW5.out.e 0
        simp only [List.getElem?_toArray, List.getElem?_cons_zero] at r0
        clear hrow hbo hLL hLn hj
        go_wp2_with fail
        have r1 := cellAt (EW5.out.e.store 0 (.int .i64 0)) 0
        simp only [List.setIfInBounds_toArray, List.set_cons_zero, List.getElem?_toArray, List.getElem?_cons_zero] at r1
        have B5 := Lib.hid (EW5.out.oi.bel.setCell (p := ⟨w.heap.size + 1, 0, none⟩) (by simp) (.int .i64 0))
        have R5 := Lib.hid (RW.out.keep ((Keep.refl (fun i => i ≠ w.heap.size + 1) wr).set (w.heap.size + 1) 0 (.int .i64 0) (fun h => h rfl)) (fun hn => by have := HBO.out hn; have := HB0.out; have := HSW.out; have := HS3.out; omega))
        have HP := Lib.hid (show ∀ e W, Below w.heap.size w W → IntsAt W oa g.sn (fun i => ((L[i]?.getD 0 : Nat) : Int)) → e = .returned (.tuple #[.int .i64 n, .slice oa g.sn cap, .int .i64 0]) → DealPost g w e W from fun e W hb hr he => ⟨hb, by rw [HN.out, if_pos hn]; exact ⟨oa, cap, he, by rw [HLL.out]; exact hr⟩⟩)
        clear r0 f0
        generalize World.setCell _ _ _ = w6 at *
        refine leaves_cons (f := 19) (args := #[bp (w.heap.size + 1)]) (by simp) (by simp [go_sem]) ?_
        refine (Ga.answer_idle _ _).mono ?_
        rintro e u' w' ⟨rfl, rfl, rfl⟩
        simp [Leaves, settle, results, Tryz.results6, go_sem, r1]
        exact HP.out _ _ B5.out R5.out rfl
  · have hn' : ¬ (n : Int) < 10000 := by omega
    go_wp2_with (go_at_call 25; ((with_reducible refine (Ga.ask_false _ _).mono ?_); rintro e w' ⟨rfl, rfl⟩))
    have EW5 := Lib.hid (ew_keep I3.out D3.out HSW.out E5.out H0.out)
    refine leaves_cons (f := 19) (args := #[bp (w.heap.size + 1)]) (by simp) (by simp [go_sem]) ?_
    refine (Ga.answer_panicking _ 0 4 [] _ EW5.out.e).mono ?_
    rintro e u' w' ⟨rfl, rfl, rfl⟩
    have r1 := cellAt (EW5.out.e.store 0 (.int .i64 4)) 0
    simp only [List.setIfInBounds_toArray, List.set_cons_zero, List.getElem?_toArray, List.getElem?_cons_zero] at r1
    have B5 := Lib.hid (EW5.out.oi.bel.setCell (p := ⟨w.heap.size + 1, 0, none⟩) (by simp) (.int .i64 4))
    have HP := Lib.hid (show ∀ e W, Below w.heap.size w W → e = .returned (.tuple #[.int .i64 0, .slice none 0 0, .int .i64 4]) → DealPost g w e W from fun e W hb he => ⟨hb, by rw [HN.out, if_neg hn]; exact he⟩)
    generalize World.setCell _ _ _ = w6 at *
    simp [Leaves, settle, results, Tryz.results6, go_sem, r1]
    exact HP.out _ _ B5.out rfl
end
end Go.Proofs.YtikeihnhkiipgaaGreat
