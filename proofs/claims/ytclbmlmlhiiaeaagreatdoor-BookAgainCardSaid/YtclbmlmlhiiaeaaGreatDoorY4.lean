/-
  Walks: the irons of a text.
-/
import Derived.Test.YtclbmlmlhiiaeaaGreatDoorY3
namespace Go.Proofs.YtclbmlmlhiiaeaaGreatDoor
open Go.RowKit Go.Shelf

attribute [local go_sem] Oper.semAt_some
def wsI : List (List UInt8) := [[105, 114, 111, 110, 115, 32], [111, 119, 110, 101, 114, 32], [115, 116, 114, 97, 107, 101], [99, 108, 97, 105, 109, 32]]
def stepI : IrR × Nat → List UInt8 → Option (IrR × Nat) := lineStep 1 wsI ironTake
def markOf (p : Int × Int × Int) : IMark := ⟨p.1, p.2.1, p.2.2⟩
def claimOf (p : Int × Int × Bool) : IClaim := ⟨p.1, p.2.1, p.2.2⟩
theorem markVs_get : ∀ (l : List (Int × Int × Int)) (i : Nat), i < l.length → ∀ j, j < 3 → (markVs l)[i * 3 + j]? = some ((markOf (l.getD i (0, 0, 0))).cell j)
  | [], i, h, _, _ => by cases h
  | x :: l, 0, _, j, hj => by
    rcases (show j = 0 ∨ j = 1 ∨ j = 2 by omega) with rfl | rfl | rfl <;> rfl
  | x :: l, i + 1, h, j, hj => by
    have := markVs_get l i (by simpa using h) j hj
    rw [show (i + 1) * 3 + j = i * 3 + j + 1 + 1 + 1 by omega]
    exact this
theorem claimVs_get : ∀ (l : List (Int × Int × Bool)) (i : Nat), i < l.length → ∀ j, j < 3 → (claimVs l)[i * 3 + j]? = some ((claimOf (l.getD i (0, 0, false))).cell j)
  | [], i, h, _, _ => by cases h
  | x :: l, 0, _, j, hj => by
    rcases (show j = 0 ∨ j = 1 ∨ j = 2 by omega) with rfl | rfl | rfl <;> rfl
  | x :: l, i + 1, h, j, hj => by
    have := claimVs_get l i (by simpa using h) j hj
    rw [show (i + 1) * 3 + j = i * 3 + j + 1 + 1 + 1 by omega]
    exact this
/-- Irons that are read, as the writers know them. -/
def toV (x : IrR) : IronsV where
  f := x.f
  on := x.own.length
  ol i := (x.own.getD i []).length
  own i j := intOf' (x.own.getD i []) j
  mn := x.most.length
  most := intOf' x.most
  sn := x.str.length
  sl i := (x.str.getD i []).length
  mark i j := markOf ((x.str.getD i []).getD j (0, 0, 0))
  cn := x.cl.length
  claim i := claimOf (x.cl.getD i (0, 0, false))
/-- The blocks that irons lie in. -/
structure IrBlk (P : Nat → Prop) (x : IronsV) (oa ma sa ca : Option Addr) (op sp : Nat → Option Addr) : Prop where
  o : 0 < x.on → P (blk oa)
  oi : ∀ i, i < x.on → 0 < x.ol i → P (blk (op i))
  m : 0 < x.mn → P (blk ma)
  s : 0 < x.sn → P (blk sa)
  si : ∀ i, i < x.sn → 0 < x.sl i → P (blk (sp i))
  c : 0 < x.cn → P (blk ca)
section
variable {P Q C : Nat → Prop} {x : IronsV} {oa ma sa ca : Option Addr} {oc mc sc cc : Nat} {op sp : Nat → Option Addr} {ok sk : Nat → Nat} {A B : World}
theorem IrBlk.imp (h : IrBlk P x oa ma sa ca op sp) (f : ∀ b, P b → Q b) : IrBlk Q x oa ma sa ca op sp :=
  ⟨fun k => f _ (h.o k), fun i hi k => f _ (h.oi i hi k), fun k => f _ (h.m k), fun k => f _ (h.s k), fun i hi k => f _ (h.si i hi k), fun k => f _ (h.c k)⟩
theorem IrBlk.old (h : IrBlk P x oa ma sa ca op sp) (hA : IronsAt x oa ma sa ca oc mc sc cc op sp ok sk A) : IrBlk (fun b => P b ∧ b < A.heap.size) x oa ma sa ca op sp :=
  ⟨fun k => ⟨h.o k, hA.o.old k⟩, fun i hi k => ⟨h.oi i hi k, (hA.oi i hi).old k⟩, fun k => ⟨h.m k, hA.m.old k⟩, fun k => ⟨h.s k, hA.s.old k⟩, fun i hi k => ⟨h.si i hi k, (hA.si i hi).old k⟩, fun k => ⟨h.c k, hA.c.old k⟩⟩
theorem IronsAt.keep (h : IronsAt x oa ma sa ca oc mc sc cc op sp ok sk A) (hk : Keep C A B) (hb : IrBlk C x oa ma sa ca op sp) : IronsAt x oa ma sa ca oc mc sc cc op sp ok sk B :=
  ⟨Row.keep h.o hk hb.o, fun i hi => Row.keep (h.oi i hi) hk (hb.oi i hi), Row.keep h.m hk hb.m, Row.keep h.s hk hb.s, fun i hi => Row.keep (h.si i hi) hk (hb.si i hi), Row.keep h.c hk hb.c⟩
end
def sliceA : Value → Option Addr
  | .slice a _ _ => a
  | _ => none
def sliceC : Value → Nat
  | .slice _ _ c => c
  | _ => 0
theorem rowN_blk {w : World} {base n sz : Nat} {E : TypeId} {v : Value} {xs : List Value} {cell : Nat → Nat → Value} (h : w.ownsRow base E sz v n xs) (hn : n ≤ 100000) (hc : ∀ i, i < n → ∀ j, j < sz → xs[i * sz + j]? = some (cell i j)) {d : Nat} {o : Obj} (hd : w.heap[d]? = some o) (ho : o.isCells = false) :
    v = .slice (sliceA v) n (sliceC v) ∧ Row w (sliceA v) n sz cell ∧ (0 < n → base ≤ blk (sliceA v) ∧ blk (sliceA v) ≠ d) := by
  have hcell := row_cells h hd ho
  obtain ⟨oa, cap, rfl, hR, hB, _⟩ := rowN_of h (by unfold maxLen; omega) hc
  refine ⟨rfl, hR, fun hn => ⟨hB hn, fun e => hcell ?_⟩⟩
  show (Value.slice oa n cap).ownBlock = some d
  have hp := hR.plain hn
  rw [hp]
  show some (blk oa) = some d
  rw [show blk oa = d from e]
theorem IrLies.irons {base pb : Nat} {x : IrR} {v1 v2 v3 v4 : Value} {ys zs : List Value} {W : World} (h : IrLies base pb x v1 v2 v3 v4 ys zs W) (hc : shapeI.cnt x ≤ 100000) {d : Nat} {o : Obj} (hd : W.heap[d]? = some o) (ho : o.isCells = false) :
    ∃ oa ma sa ca oc mc sc cc op sp ok sk, BoxAt W pb #[.int .i64 (toV x).f, .slice oa (toV x).on oc, .slice ma (toV x).mn mc, .slice sa (toV x).sn sc, .slice ca (toV x).cn cc] 34 ∧ IronsAt (toV x) oa ma sa ca oc mc sc cc op sp ok sk W ∧ IrBlk (fun b => base ≤ b ∧ b ≠ d) (toV x) oa ma sa ca op sp := by
  have hc' : x.own.length + x.most.length + x.str.length + x.cl.length ≤ 100000 := hc
  have hoi : ∀ i, i < x.own.length → ys[i]? = some (.slice (sliceA (ys.getD i undef)) (x.own.getD i []).length (sliceC (ys.getD i undef))) ∧ IntsAt W (sliceA (ys.getD i undef)) (x.own.getD i []).length (intOf' (x.own.getD i [])) ∧ (0 < (x.own.getD i []).length → base ≤ blk (sliceA (ys.getD i undef)) ∧ blk (sliceA (ys.getD i undef)) ≠ d) := by
    intro i hi
    obtain ⟨hh, hg, hm⟩ := h.oi.get [] i hi
    obtain ⟨e, hr, hb⟩ := rowN_blk hh.1 hh.2.1 (fun i hi j hj => intsV_get _ i hi j hj) hd ho
    exact ⟨hg.trans (congrArg some e), hr, hb⟩
  have hsi : ∀ i, i < x.str.length → zs[i]? = some (.slice (sliceA (zs.getD i undef)) (x.str.getD i []).length (sliceC (zs.getD i undef))) ∧ MarksAt W (sliceA (zs.getD i undef)) (x.str.getD i []).length (fun j => markOf ((x.str.getD i []).getD j (0, 0, 0))) ∧ (0 < (x.str.getD i []).length → base ≤ blk (sliceA (zs.getD i undef)) ∧ blk (sliceA (zs.getD i undef)) ≠ d) := by
    intro i hi
    obtain ⟨hh, hg, hm⟩ := h.si.get [] i hi
    obtain ⟨e, hr, hb⟩ := rowN_blk hh.1 hh.2 (fun i hi j hj => markVs_get _ i hi j hj) hd ho
    exact ⟨hg.trans (congrArg some e), hr, hb⟩
  obtain ⟨e1, r1, b1⟩ := rowN_blk (cell := fun i _ => .slice (sliceA (ys.getD i undef)) (x.own.getD i []).length (sliceC (ys.getD i undef))) h.o (by omega) (fun i hi j hj => by
    obtain rfl : j = 0 := by omega
    rw [Nat.mul_one, Nat.add_zero]
    exact (hoi i hi).1) hd ho
  obtain ⟨e2, r2, b2⟩ := rowN_blk h.m (by omega) (fun i hi j hj => intsV_get _ i hi j hj) hd ho
  obtain ⟨e3, r3, b3⟩ := rowN_blk (cell := fun i _ => .slice (sliceA (zs.getD i undef)) (x.str.getD i []).length (sliceC (zs.getD i undef))) h.s (by omega) (fun i hi j hj => by
    obtain rfl : j = 0 := by omega
    rw [Nat.mul_one, Nat.add_zero]
    exact (hsi i hi).1) hd ho
  obtain ⟨e4, r4, b4⟩ := rowN_blk h.c (by omega) (fun i hi j hj => claimVs_get _ i hi j hj) hd ho
  refine ⟨sliceA v1, sliceA v2, sliceA v3, sliceA v4, sliceC v1, sliceC v2, sliceC v3, sliceC v4, fun i => sliceA (ys.getD i undef), fun i => sliceA (zs.getD i undef), fun i => sliceC (ys.getD i undef), fun i => sliceC (zs.getD i undef), ?_, ⟨r1, fun i hi => (hoi i hi).2.1, r2, r3, fun i hi => (hsi i hi).2.1, r4⟩, ⟨b1, fun i hi => (hoi i hi).2.2, b2, b3, fun i hi => (hsi i hi).2.2, b4⟩⟩
  have hb := h.b
  rw [e1, e2, e3, e4] at hb
  exact hb
/-- What is read of the text of irons. -/
def readI (t : List UInt8) : Option IrR := match linesR stepI (⟨0, [], [], [], []⟩, 0) t with
  | none => none
  | some (x, _) => if ironsB (toV x) ∧ ironsT (toV x) = t then some x else none
def ReadPostI (t : List UInt8) (w : World) (e : Ending) (w' : World) : Prop :=
  Below w.heap.size w w' ∧ if 1000 < t.length then e = err 3 else match readI t with
    | none => e = err 8
    | some x => ∃ oa ma sa ca oc mc sc cc op sp ok sk, e = .returned (.agg #[.int .i64 (toV x).f, .slice oa (toV x).on oc, .slice ma (toV x).mn mc, .slice sa (toV x).sn sc, .slice ca (toV x).cn cc]) ∧ IronsAt (toV x) oa ma sa ca oc mc sc cc op sp ok sk w' ∧ IrBlk (fun b => w.heap.size ≤ b) (toV x) oa ma sa ca op sp
set_option maxRecDepth 100000 in
set_option maxHeartbeats 8000000 in
theorem read83_any (kb : Nat) (t : List UInt8) (w : World) (hk : KindsIrons w kb) (hlim : Lim w) (htab : Tab w) (hkb : 1 < kb) :
    Calls Tryz.prog 83 #[fileIrons (some ⟨kb, 0, none⟩) 4 4, .string ⟨t.toArray⟩] w (ReadPostI t w) := by
  refine calls_of_wpOf (n := 9) Tryz.func83 rfl ?_
  simp only [Tryz.ntmps83, List.size_toArray, List.length_cons, List.length_nil, Nat.reduceAdd, Nat.reduceSub, Array.replicate_succ, Array.replicate_zero, List.push_toArray, List.append_toArray, List.nil_append, List.cons_append]
  have HK := Lib.hid hk
  have HL := Lib.hid hlim
  have HT := Lib.hid htab
  have hkl : kb < w.heap.size := lt_of_heap hk.1
  clear hk hlim htab
  refine wpOf_seq_wp ?_
  go_wp2_with fail
  generalize hW : World.alloc _ _ = w2
  obtain ⟨z0, z1, hz2, hB2⟩ := blocks2 hW
  clear hW
  have Z0 := Lib.hid (show BoxAt w2 w.heap.size #[.int .i64 1, .slice (some ⟨kb, 0, none⟩) 4 4, .func (.func 120) #[] #[], .func (.func 121) #[] #[]] 108 from z0)
  have Z1 := Lib.hid (show BoxAt w2 (w.heap.size + 1) #[.int .i64 0, .slice none 0 0, .slice none 0 0, .slice none 0 0, .slice none 0 0] 34 from z1)
  have B2 := Lib.hid hB2
  clear z0 z1 hB2
  by_cases ht : 1000 < t.length
  · have t0 : decide ((t.length : Int) ≤ 1000) = false := decide_eq_false (by omega)
    have HP := Lib.hid (show ∀ w', Below w.heap.size w w' → ReadPostI t w (err 3) w' from fun w' h => ⟨h, by rw [if_pos ht]⟩)
    clear ht
    refine wpOf_seq_wp ?_
    go_wp2_with (go_at_call 62; refine (ask_false _ _).mono ?_)
    rintro e w' ⟨rfl, rfl⟩
    exact HP.out w2 B2.out
  · have t0 : decide ((t.length : Int) ≤ 1000) = true := decide_eq_true (by omega)
    refine wpOf_seq_wp ?_
    go_wp2_with (go_at_call 62; refine (ask_true _ _).mono ?_)
    rintro e w' ⟨rfl, rfl⟩
    go_wp2_with fail
    refine wpOf_seq_wp ?_
    go_wp2_with fail
    have hal := (Below.refl w2.heap.size w2).alloc (Nat.le_refl _) (.cells #[.int .i64 0] 3)
    have hz3 : (w2.alloc (.cells #[.int .i64 0] 3)).heap.size = w.heap.size + 3 := by simp; omega
    have hz2' : w2.heap.size = w.heap.size + 2 := hz2
    have B3 := Lib.hid (B2.out.next hal)
    have Y0 := Lib.hid (Z0.out.grow hal)
    have Y1 := Lib.hid (Z1.out.grow hal)
    have Y2 := Lib.hid (show BoxAt (w2.alloc (.cells #[.int .i64 0] 3)) (w.heap.size + 2) #[.int .i64 0] 3 from by rw [← hz2']; exact heap_alloc_new _ _)
    have HZ2 := Lib.hid hz2'
    have HZ3 := Lib.hid hz3
    clear hal Z0 Z1 B2 hz2 hz2' hz3
    generalize World.alloc w2 _ = w3 at *
    refine wpOf_seq (wpOf_seq_wp ?_)
    go_wp2_with (go_at_call 138; refine (lines138_any t w3).mono ?_)
    rintro e w' ⟨rfl, rfl⟩
    go_wp2_with fail
    have hal := (Below.refl w3.heap.size w3).alloc (Nat.le_refl _) (.cells #[.string ⟨t.toArray⟩] 9)
    have hz4 : (w3.alloc (.cells #[.string ⟨t.toArray⟩] 9)).heap.size = w.heap.size + 4 := by have := HZ3.out; simp; omega
    have B4 := Lib.hid (B3.out.next hal)
    have X0 := Lib.hid (Y0.out.grow hal)
    have X1 := Lib.hid (Y1.out.grow hal)
    have X2 := Lib.hid (Y2.out.grow hal)
    have X3 := Lib.hid (show BoxAt (w3.alloc (.cells #[.string ⟨t.toArray⟩] 9)) (w.heap.size + 3) #[.string ⟨t.toArray⟩] 9 from by rw [← HZ3.out]; exact heap_alloc_new _ _)
    have HZ4 := Lib.hid hz4
    clear hal Y0 Y1 Y2 B3 hz4
    generalize World.alloc w3 _ = w4 at *
    rw [HZ3.out]
    clear HZ3 HZ2
    obtain ⟨R, hR⟩ : ∃ R, linesR stepI (⟨0, [], [], [], []⟩, 0) t = R := ⟨_, rfl⟩
    have HR := Lib.hid hR
    clear hR
    refine wpOf_block ?_
    refine wpOf_range_text (gf := 154) (lb := #[bp (w.heap.size + 3)]) (tb := w.heap.size + 3) (ty := 9) Tryz.func83 rfl (enters_of Tryz.func154 (by kernel_rfl) rfl) (lines154_any 9 (w.heap.size + 3) t (by omega)) rfl (by rw [HZ4.out]; omega)
      (fun t' W => ∃ x k D, RdX shapeI #[.int .i64 1, .slice (some ⟨kb, 0, none⟩) 4 4, .func (.func 120) #[] #[], .func (.func 121) #[] #[]] 108 stepI R w t.length 3 t' x k D W) (fun W => R = none ∧ Below w.heap.size w W) ?hI ?hIo ?hIp ?hPr ?h0 X3.out (fun line => { tmps := #[.agg #[.int .i64 1, .slice (some ⟨kb, 0, none⟩) 4 4, .func (.func 120) #[] #[], .func (.func 121) #[] #[]], .string ⟨t.toArray⟩, bp w.heap.size, undef, bp (w.heap.size + 1), bp (w.heap.size + 2), .string ⟨line.toArray⟩, undef, .string ⟨t.toArray⟩, .int .i64 t.length, .bool true, .tuple #[], .string ⟨t.toArray⟩, .func (.func 154) #[] #[bp (w.heap.size + 3)], .string ⟨line.toArray⟩, undef, undef, undef, undef, undef, undef, undef, undef, undef, undef, undef, undef, undef, undef, undef, undef, undef, undef, undef, undef, undef, undef, undef, undef, undef, undef, undef, undef, undef, undef, undef, undef, undef, undef, undef, undef, undef, undef, undef, undef, undef, undef, undef, undef, undef, undef, undef, undef, undef, undef, undef, undef, undef, undef, undef, undef, undef, undef, undef, undef, undef], defers := [] }) ?assign ?body ?done ?pan
    case hI =>
      rintro t' A B ⟨x, k, D, h⟩ hk
      exact ⟨x, k, D, h.keep hk (b := w.heap.size + 3) (fun k h1 h2 => ⟨h1, h2⟩) (Nat.le_refl _) (h.not _ (by omega))⟩
    case hIo =>
      rintro t' A l o o' ⟨x, k, D, h⟩ hl ho hc
      rw [HZ4.out] at hl
      exact ⟨x, k, D, h.keep (Keep.putObj A l o') (b := l) (fun k h1 h2 => ⟨h1, h2⟩) (by omega) (shapeI.cells h.ob ho hc)⟩
    case hIp =>
      rintro t' A ⟨x, k, D, h⟩ hb
      exact ⟨by rw [← h.res]; exact linesR_bad _ _ hb.1 hb.2, h.bel⟩
    case hPr =>
      rintro t' A ⟨x, k, D, h⟩
      exact HL.out.keep (Keep.of_below h.bel (C := fun k => k < w.heap.size) fun k hk => hk) (by omega)
    case h0 => exact ⟨⟨0, [], [], [], []⟩, 0, fun _ => False, ⟨B4.out, X0.out, ⟨.slice none 0 0, .slice none 0 0, .slice none 0 0, .slice none 0 0, [], [], ⟨X1.out, World.ownsRow_nil .., World.ownsRow_nil .., World.ownsRow_nil .., World.ownsRow_nil .., trivial, trivial⟩, fun g => ⟨fun h => h.elim, fun h => by rcases h with h | h | h | h | ⟨y, hy, _⟩ | ⟨y, hy, _⟩ <;> first | cases h | cases hy⟩⟩, X2.out, by rw [HZ4.out]; exact Nat.le_refl _, HR.out, by omega, by show 0 + _ ≤ _; omega⟩⟩
    case assign =>
      intro l x W K hK
      gi_wp2
      exact hK
    case body =>
      rintro l t' line rest W0 ⟨x, k, D, h⟩ hN hbx ⟨r, hr⟩
      have H0 := Lib.hid h
      have HN := Lib.hid hN
      have HBX := Lib.hid hbx
      have htx := h.tx
      have hk2 := h.k2
      have hln := h.len
      have hlen := cut_found t' (by rw [hN.2.1])
      rw [hN.2.1] at hlen
      dsimp only at hlen
      have HKA := Lib.hid (show KindsIrons W0 kb from ⟨BoxAt.grow HK.out.1 h.bel, BoxAt.grow HK.out.2.1 h.bel, HK.out.2.2⟩)
      have HF := Lib.hid h.f
      have HR1 := Lib.hid (show R = (stepI (x, k) line).bind fun s' => linesR stepI s' rest from by
        rw [← h.res]
        exact linesR_bind stepI (x, k) hN.1 hN.2.1)
      have hal := (Below.refl W0.heap.size W0).alloc (Nat.le_refl _) (.cells #[.string ⟨line.toArray⟩] 173)
      have hkp : Keep (OffD w.heap.size D W0) W0 (W0.alloc (.cells #[.string ⟨line.toArray⟩] 173)) := Keep.of_below hal fun k hk => hk.1
      have hkq : Keep (fun k => k < W0.heap.size) W0 (W0.alloc (.cells #[.string ⟨line.toArray⟩] 173)) := Keep.of_below hal fun k hk => hk
      have I1 := Lib.hid (show WhX shapeI w.heap.size x D W0 line k (W0.alloc (.cells #[.string ⟨line.toArray⟩] 173)) from
        ⟨hkp, heap_alloc_new _ _, shapeI.keep h.ob hkq (shapeI.old h.ob) (fun g hg => (shapeI.lt h.ob hg).2), BoxAt.grow h.q hal, fun g hg => shapeI.lt h.ob hg, htx⟩)
      clear h hN hbx hr hal hkp hkq
      gi_wp2
      generalize World.alloc W0 _ = W1 at *
      obtain ⟨J, hJ⟩ : ∃ J, kindFrom (wsI.drop k) k line = J := ⟨_, rfl⟩
      have HJ := Lib.hid hJ
      clear hJ
      gi_loopw [33] (fun _ wr => ∃ j : Nat, j ≤ 4 ∧ kindFrom (wsI.drop j) j line = J ∧ WhX shapeI w.heap.size x D W0 line j wr) (fun _ wr => 5 - kOf (w.heap.size + 2) wr)
      case atStart => exact ⟨k, by omega, HJ.out, I1.out⟩
      case round =>
        obtain ⟨j, hj, hjj, hi⟩ := hrel
        have I2 := Lib.hid hi
        have HJJ := Lib.hid hjj
        have hm := kOf_at hi.q
        have hKF := hi.keep
        have hfa := hKF.box HF.out ⟨by omega, by omega, by omega, H0.out.not _ (by omega)⟩
        have hka := hKF.box HKA.out.1 ⟨by omega, by omega, by omega, H0.out.not _ (by omega)⟩
        have fa1 := cellAt hfa 1
        have ka0 := cellAt hka 0
        have ka1 := cellAt hka 1
        have ka2 := cellAt hka 2
        have ka3 := cellAt hka 3
        have ka4 := cellAt hka 4
        have ka5 := cellAt hka 5
        have ka6 := cellAt hka 6
        have ka7 := cellAt hka 7
        have q0 := cellAt hi.q 0
        simp only [List.getElem?_toArray, List.getElem?_cons_zero, List.getElem?_cons_succ] at fa1 ka0 ka1 ka2 ka3 ka4 ka5 ka6 ka7 q0
        clear hi hjj I1 hKF hfa hka
        rcases (show j = 0 ∨ j = 1 ∨ j = 2 ∨ j = 3 ∨ j = 4 by omega) with rfl | rfl | rfl | rfl | rfl
        · have C2 := Lib.hid (sees_any W0.heap.size line [105, 114, 111, 110, 115, 32] wr I2.out.rd)
          gi_wp2
          refine ⟨trivial, ?_⟩
          refine (CallsIn.inRound l (callsIn_wide.2 C2.out)).mono ?_
          rintro e w2 ⟨rfl, rfl⟩
          cases hp : Lib.hasPrefix line [105, 114, 111, 110, 115, 32] with
          | true =>
            rw [seesT_yes hp]
            have hJJ : J = 0 := by rw [← HJJ.out]; show (if Lib.hasPrefix line [105, 114, 111, 110, 115, 32] = true then _ else _) = _; rw [if_pos hp]
            have HQ := Lib.hid (step_bind (J := 0) (u := line.drop 6) (HJ.out.trans hJJ) (by decide) rfl HR1.out)
            have I3 := Lib.hid (I2.out.see (line.drop 6))
            clear hp hJJ C2 I2 HJ HJJ HR1
            show _
            clear fa1 ka0 ka1 ka2 ka3 ka4 ka5 ka6 ka7 q0
            generalize World.setCell wr _ _ = w2 at *
            have hfa := I3.out.keep.box HF.out ⟨by omega, by omega, by omega, H0.out.not _ (by omega)⟩
            have hka := I3.out.keep.box HKA.out.1 ⟨by omega, by omega, by omega, H0.out.not _ (by omega)⟩
            have fa1 := cellAt hfa 1
            have ka1 := cellAt hka 1
            have q0 := cellAt I3.out.q 0
            simp only [List.getElem?_toArray, List.getElem?_cons_zero, List.getElem?_cons_succ] at fa1 ka1 q0
            clear hfa hka
            gi_wp2
            refine ⟨trivial, ?_⟩
            refine (CallsIn.inRound l (callsIn_wide.2 (ask_true _ _))).mono ?_
            rintro e w' ⟨rfl, rfl⟩
            gi_wp2
            have hdl : (line.drop 6).length ≤ line.length := by rw [List.length_drop]; omega
            have C3 := Lib.hid (take116_any I3.out.rd I3.out.ob (by omega) (fun hd => by have := (I3.out.lt _ hd).2; omega) (H0.out.not _ (by omega)) (by omega) (I3.out.keep.box HKA.out.2.1 ⟨by omega, by omega, by omega, H0.out.not _ (by omega)⟩))
            refine ⟨trivial, ?_⟩
            refine (CallsIn.inRound l (callsIn_wide.2 C3.out)).mono ?_
            intro e w3 hpost
            obtain ⟨ho, hh⟩ := hpost
            have K3 := I3.out.took ho
            have HOF := Lib.hid (H0.out.off K3)
            cases hr : ironTake 0 x (line.drop 6) with
            | none =>
              rw [hr] at hh HQ
              dsimp only at hh HQ
              subst hh
              exact ⟨rfl, rfl, by rw [HZ4.out]; exact HOF.out.2, HQ.out, HOF.out.1⟩
            | some p =>
            obtain ⟨x', r'⟩ := p
            rw [hr] at hh HQ
            dsimp only at HQ
            obtain ⟨he, hrd, D', hob', hown'⟩ := hh
            subst he
            have HK3 := Lib.hid K3
            have RD3 := Lib.hid hrd
            have OB3 := Lib.hid hob'
            have Q3 := Lib.hid (ho.box I3.out.q ⟨by have := I3.out.keep.size; omega, by omega, by omega, H0.out.not _ (by omega)⟩)
            have HSR := Lib.hid (ironTake_len hr)
            clear hrd hob' hown' ho K3 C3 hr fa1 ka1 q0
            have hrd0 := cellAt RD3.out 0
            simp only [List.getElem?_toArray, List.getElem?_cons_zero] at hrd0
            cases r' with
            | cons c r' =>
              gi_wp2
              refine ⟨trivial, (CallsIn.inRound l (callsIn_wide.2 (ask_false _ _))).mono ?_⟩
              rintro e w' ⟨rfl, rfl⟩
              exact ⟨rfl, rfl, by rw [HZ4.out]; exact HOF.out.2, by rw [HQ.out, if_neg (by simp)], HOF.out.1⟩
            | nil =>
              have hfa := HK3.out.box HF.out ⟨by omega, by omega, by omega, H0.out.not _ (by omega)⟩
              have fa0 := cellAt hfa 0
              have q0 := cellAt Q3.out 0
              have fq := freeAt Q3.out 0
              simp only [List.getElem?_toArray, List.getElem?_cons_zero] at fa0 q0
              clear hfa
              have hsl := HSR.out
              have hln9 := H0.out.len
              have hk4 : Keep (fun k => k ≠ w.heap.size + 2) w3 (w3.setCell ⟨w.heap.size + 2, 0, none⟩ (.int .i64 ((1 : Nat) : Int))) := Keep.set (Keep.refl _ _) _ _ _ (fun h => h rfl)
              have hk5 : Keep (OffD w.heap.size D W0) W0 (w3.setCell ⟨w.heap.size + 2, 0, none⟩ (.int .i64 ((1 : Nat) : Int))) := Keep.set HK3.out _ _ _ (fun hh => hh.2.2.1 rfl)
              have N5 := Lib.hid (H0.out.next (x' := x') (k' := 1) hk5 (shapeI.keep OB3.out hk4 (by omega) (fun g hg => by have := (shapeI.lt OB3.out hg).1; omega)) (Q3.out.store 0 _)
                (by rw [HQ.out, if_pos rfl]; rfl) (by omega) (by simp only [List.length_nil] at hsl; omega))
              have T5 := Lib.hid (H0.out.text hk5 HBX.out)
              have F5 := Lib.hid (H0.out.off hk5).2
              clear hk4 hk5 hsl hln9
              gi_wp2
              refine ⟨trivial, (CallsIn.inRound l (callsIn_wide.2 (ask_true _ _))).mono ?_⟩
              rintro e w' ⟨rfl, rfl⟩
              gi_wp2
              exact ⟨by rw [HZ4.out]; exact F5.out, ⟨_, _, _, N5.out⟩, T5.out⟩
          | false =>
            rw [seesT_no hp]
            have HJ1 := Lib.hid (show kindFrom (wsI.drop 1) 1 line = J from by rw [← HJJ.out]; exact (if_neg (by rw [hp]; decide)).symm)
            have I3 := Lib.hid (I2.out.see line)
            have I4 := Lib.hid (I3.out.inc 1)
            have q1 := cellAt I3.out.q 0
            have fq := freeAt I3.out.q 0
            simp only [List.getElem?_toArray, List.getElem?_cons_zero] at q1
            clear hp C2 I2 HJ HJJ q0 fa1 ka0 ka1 ka2 ka3 ka4 ka5 ka6 ka7
            gi_wp2
            exact ⟨⟨1, by omega, HJ1.out, I4.out⟩, Nat.lt_of_le_of_lt (Nat.le_of_eq (congrArg (5 - ·) (kOf_at I4.out.q))) (by omega)⟩
        · have C2 := Lib.hid (sees_any W0.heap.size line [111, 119, 110, 101, 114, 32] wr I2.out.rd)
          gi_wp2
          refine ⟨trivial, ?_⟩
          refine (CallsIn.inRound l (callsIn_wide.2 C2.out)).mono ?_
          rintro e w2 ⟨rfl, rfl⟩
          cases hp : Lib.hasPrefix line [111, 119, 110, 101, 114, 32] with
          | true =>
            rw [seesT_yes hp]
            have hJJ : J = 1 := by rw [← HJJ.out]; show (if Lib.hasPrefix line [111, 119, 110, 101, 114, 32] = true then _ else _) = _; rw [if_pos hp]
            have HQ := Lib.hid (step_bind (J := 1) (u := line.drop 6) (HJ.out.trans hJJ) (by decide) rfl HR1.out)
            have I3 := Lib.hid (I2.out.see (line.drop 6))
            clear hp hJJ C2 I2 HJ HJJ HR1
            show _
            clear fa1 ka0 ka1 ka2 ka3 ka4 ka5 ka6 ka7 q0
            generalize World.setCell wr _ _ = w2 at *
            have hfa := I3.out.keep.box HF.out ⟨by omega, by omega, by omega, H0.out.not _ (by omega)⟩
            have hka := I3.out.keep.box HKA.out.1 ⟨by omega, by omega, by omega, H0.out.not _ (by omega)⟩
            have fa1 := cellAt hfa 1
            have ka1 := cellAt hka 3
            have q0 := cellAt I3.out.q 0
            simp only [List.getElem?_toArray, List.getElem?_cons_zero, List.getElem?_cons_succ] at fa1 ka1 q0
            clear hfa hka
            gi_wp2
            refine ⟨trivial, ?_⟩
            refine (CallsIn.inRound l (callsIn_wide.2 (ask_true _ _))).mono ?_
            rintro e w' ⟨rfl, rfl⟩
            gi_wp2
            have hdl : (line.drop 6).length ≤ line.length := by rw [List.length_drop]; omega
            have C3 := Lib.hid (take117_any I3.out.rd I3.out.ob (by omega) (fun hd => by have := (I3.out.lt _ hd).2; omega) (H0.out.not _ (by omega)) (by omega) (I3.out.keep.box HKA.out.2.1 ⟨by omega, by omega, by omega, H0.out.not _ (by omega)⟩) (by omega) (by omega) (H0.out.not _ (by omega)) (by have := I3.out.keep.size; have := I3.out.hs; omega) (by have := H0.out.len; omega))
            refine ⟨trivial, ?_⟩
            refine (CallsIn.inRound l (callsIn_wide.2 C3.out)).mono ?_
            intro e w3 hpost
            obtain ⟨ho, hh⟩ := hpost
            have K3 := I3.out.took ho
            have HOF := Lib.hid (H0.out.off K3)
            cases hr : ironTake 1 x (line.drop 6) with
            | none =>
              rw [hr] at hh HQ
              dsimp only at hh HQ
              subst hh
              exact ⟨rfl, rfl, by rw [HZ4.out]; exact HOF.out.2, HQ.out, HOF.out.1⟩
            | some p =>
            obtain ⟨x', r'⟩ := p
            rw [hr] at hh HQ
            dsimp only at HQ
            obtain ⟨he, hrd, D', hob', hown'⟩ := hh
            subst he
            have HK3 := Lib.hid K3
            have RD3 := Lib.hid hrd
            have OB3 := Lib.hid hob'
            have Q3 := Lib.hid (ho.box I3.out.q ⟨by have := I3.out.keep.size; omega, by omega, by omega, H0.out.not _ (by omega)⟩)
            have HSR := Lib.hid (ironTake_len hr)
            clear hrd hob' hown' ho K3 C3 hr fa1 ka1 q0
            have hrd0 := cellAt RD3.out 0
            simp only [List.getElem?_toArray, List.getElem?_cons_zero] at hrd0
            cases r' with
            | cons c r' =>
              gi_wp2
              refine ⟨trivial, (CallsIn.inRound l (callsIn_wide.2 (ask_false _ _))).mono ?_⟩
              rintro e w' ⟨rfl, rfl⟩
              exact ⟨rfl, rfl, by rw [HZ4.out]; exact HOF.out.2, by rw [HQ.out, if_neg (by simp)], HOF.out.1⟩
            | nil =>
              have hfa := HK3.out.box HF.out ⟨by omega, by omega, by omega, H0.out.not _ (by omega)⟩
              have fa0 := cellAt hfa 0
              have q0 := cellAt Q3.out 0
              have fq := freeAt Q3.out 0
              simp only [List.getElem?_toArray, List.getElem?_cons_zero] at fa0 q0
              clear hfa
              have hsl := HSR.out
              have hln9 := H0.out.len
              have N5 := Lib.hid (H0.out.next (x' := x') (k' := 1) HK3.out OB3.out Q3.out
                (by rw [HQ.out, if_pos rfl]; rfl) (by omega) (by simp only [List.length_nil] at hsl; omega))
              have T5 := Lib.hid (H0.out.text HK3.out HBX.out)
              have F5 := Lib.hid (H0.out.off HK3.out).2
              clear hsl hln9
              gi_wp2
              refine ⟨trivial, (CallsIn.inRound l (callsIn_wide.2 (ask_true _ _))).mono ?_⟩
              rintro e w' ⟨rfl, rfl⟩
              gi_wp2
              exact ⟨by rw [HZ4.out]; exact F5.out, ⟨_, _, _, N5.out⟩, T5.out⟩
          | false =>
            rw [seesT_no hp]
            have HJ1 := Lib.hid (show kindFrom (wsI.drop 2) 2 line = J from by rw [← HJJ.out]; exact (if_neg (by rw [hp]; decide)).symm)
            have I3 := Lib.hid (I2.out.see line)
            have I4 := Lib.hid (I3.out.inc 2)
            have q1 := cellAt I3.out.q 0
            have fq := freeAt I3.out.q 0
            simp only [List.getElem?_toArray, List.getElem?_cons_zero] at q1
            clear hp C2 I2 HJ HJJ q0 fa1 ka0 ka1 ka2 ka3 ka4 ka5 ka6 ka7
            gi_wp2
            exact ⟨⟨2, by omega, HJ1.out, I4.out⟩, Nat.lt_of_le_of_lt (Nat.le_of_eq (congrArg (5 - ·) (kOf_at I4.out.q))) (by omega)⟩
        · have C2 := Lib.hid (sees_any W0.heap.size line [115, 116, 114, 97, 107, 101] wr I2.out.rd)
          gi_wp2
          refine ⟨trivial, ?_⟩
          refine (CallsIn.inRound l (callsIn_wide.2 C2.out)).mono ?_
          rintro e w2 ⟨rfl, rfl⟩
          cases hp : Lib.hasPrefix line [115, 116, 114, 97, 107, 101] with
          | true =>
            rw [seesT_yes hp]
            have hJJ : J = 2 := by rw [← HJJ.out]; show (if Lib.hasPrefix line [115, 116, 114, 97, 107, 101] = true then _ else _) = _; rw [if_pos hp]
            have HQ := Lib.hid (step_bind (J := 2) (u := line.drop 6) (HJ.out.trans hJJ) (by decide) rfl HR1.out)
            have I3 := Lib.hid (I2.out.see (line.drop 6))
            clear hp hJJ C2 I2 HJ HJJ HR1
            show _
            clear fa1 ka0 ka1 ka2 ka3 ka4 ka5 ka6 ka7 q0
            generalize World.setCell wr _ _ = w2 at *
            have hfa := I3.out.keep.box HF.out ⟨by omega, by omega, by omega, H0.out.not _ (by omega)⟩
            have hka := I3.out.keep.box HKA.out.1 ⟨by omega, by omega, by omega, H0.out.not _ (by omega)⟩
            have fa1 := cellAt hfa 1
            have ka1 := cellAt hka 5
            have q0 := cellAt I3.out.q 0
            simp only [List.getElem?_toArray, List.getElem?_cons_zero, List.getElem?_cons_succ] at fa1 ka1 q0
            clear hfa hka
            gi_wp2
            refine ⟨trivial, ?_⟩
            refine (CallsIn.inRound l (callsIn_wide.2 (ask_true _ _))).mono ?_
            rintro e w' ⟨rfl, rfl⟩
            gi_wp2
            have hdl : (line.drop 6).length ≤ line.length := by rw [List.length_drop]; omega
            have C3 := Lib.hid (take118_any I3.out.rd I3.out.ob (by omega) (fun hd => by have := (I3.out.lt _ hd).2; omega) (H0.out.not _ (by omega)) (by omega) (I3.out.keep.box HKA.out.2.1 ⟨by omega, by omega, by omega, H0.out.not _ (by omega)⟩) (by omega) (by omega) (H0.out.not _ (by omega)) (by have := I3.out.keep.size; have := I3.out.hs; omega) (by have := H0.out.len; omega))
            refine ⟨trivial, ?_⟩
            refine (CallsIn.inRound l (callsIn_wide.2 C3.out)).mono ?_
            intro e w3 hpost
            obtain ⟨ho, hh⟩ := hpost
            have K3 := I3.out.took ho
            have HOF := Lib.hid (H0.out.off K3)
            cases hr : ironTake 2 x (line.drop 6) with
            | none =>
              rw [hr] at hh HQ
              dsimp only at hh HQ
              subst hh
              exact ⟨rfl, rfl, by rw [HZ4.out]; exact HOF.out.2, HQ.out, HOF.out.1⟩
            | some p =>
            obtain ⟨x', r'⟩ := p
            rw [hr] at hh HQ
            dsimp only at HQ
            obtain ⟨he, hrd, D', hob', hown'⟩ := hh
            subst he
            have HK3 := Lib.hid K3
            have RD3 := Lib.hid hrd
            have OB3 := Lib.hid hob'
            have Q3 := Lib.hid (ho.box I3.out.q ⟨by have := I3.out.keep.size; omega, by omega, by omega, H0.out.not _ (by omega)⟩)
            have HSR := Lib.hid (ironTake_len hr)
            clear hrd hob' hown' ho K3 C3 hr fa1 ka1 q0
            have hrd0 := cellAt RD3.out 0
            simp only [List.getElem?_toArray, List.getElem?_cons_zero] at hrd0
            cases r' with
            | cons c r' =>
              gi_wp2
              refine ⟨trivial, (CallsIn.inRound l (callsIn_wide.2 (ask_false _ _))).mono ?_⟩
              rintro e w' ⟨rfl, rfl⟩
              exact ⟨rfl, rfl, by rw [HZ4.out]; exact HOF.out.2, by rw [HQ.out, if_neg (by simp)], HOF.out.1⟩
            | nil =>
              have hfa := HK3.out.box HF.out ⟨by omega, by omega, by omega, H0.out.not _ (by omega)⟩
              have fa0 := cellAt hfa 0
              have q0 := cellAt Q3.out 0
              have fq := freeAt Q3.out 0
              simp only [List.getElem?_toArray, List.getElem?_cons_zero] at fa0 q0
              clear hfa
              have hsl := HSR.out
              have hln9 := H0.out.len
              have N5 := Lib.hid (H0.out.next (x' := x') (k' := 2) HK3.out OB3.out Q3.out
                (by rw [HQ.out, if_pos rfl]; rfl) (by omega) (by simp only [List.length_nil] at hsl; omega))
              have T5 := Lib.hid (H0.out.text HK3.out HBX.out)
              have F5 := Lib.hid (H0.out.off HK3.out).2
              clear hsl hln9
              gi_wp2
              refine ⟨trivial, (CallsIn.inRound l (callsIn_wide.2 (ask_true _ _))).mono ?_⟩
              rintro e w' ⟨rfl, rfl⟩
              gi_wp2
              exact ⟨by rw [HZ4.out]; exact F5.out, ⟨_, _, _, N5.out⟩, T5.out⟩
          | false =>
            rw [seesT_no hp]
            have HJ1 := Lib.hid (show kindFrom (wsI.drop 3) 3 line = J from by rw [← HJJ.out]; exact (if_neg (by rw [hp]; decide)).symm)
            have I3 := Lib.hid (I2.out.see line)
            have I4 := Lib.hid (I3.out.inc 3)
            have q1 := cellAt I3.out.q 0
            have fq := freeAt I3.out.q 0
            simp only [List.getElem?_toArray, List.getElem?_cons_zero] at q1
            clear hp C2 I2 HJ HJJ q0 fa1 ka0 ka1 ka2 ka3 ka4 ka5 ka6 ka7
            gi_wp2
            exact ⟨⟨3, by omega, HJ1.out, I4.out⟩, Nat.lt_of_le_of_lt (Nat.le_of_eq (congrArg (5 - ·) (kOf_at I4.out.q))) (by omega)⟩
        · have C2 := Lib.hid (sees_any W0.heap.size line [99, 108, 97, 105, 109, 32] wr I2.out.rd)
          gi_wp2
          refine ⟨trivial, ?_⟩
          refine (CallsIn.inRound l (callsIn_wide.2 C2.out)).mono ?_
          rintro e w2 ⟨rfl, rfl⟩
          cases hp : Lib.hasPrefix line [99, 108, 97, 105, 109, 32] with
          | true =>
            rw [seesT_yes hp]
            have hJJ : J = 3 := by rw [← HJJ.out]; show (if Lib.hasPrefix line [99, 108, 97, 105, 109, 32] = true then _ else _) = _; rw [if_pos hp]
            have HQ := Lib.hid (step_bind (J := 3) (u := line.drop 6) (HJ.out.trans hJJ) (by decide) rfl HR1.out)
            have I3 := Lib.hid (I2.out.see (line.drop 6))
            clear hp hJJ C2 I2 HJ HJJ HR1
            show _
            clear fa1 ka0 ka1 ka2 ka3 ka4 ka5 ka6 ka7 q0
            generalize World.setCell wr _ _ = w2 at *
            have hfa := I3.out.keep.box HF.out ⟨by omega, by omega, by omega, H0.out.not _ (by omega)⟩
            have hka := I3.out.keep.box HKA.out.1 ⟨by omega, by omega, by omega, H0.out.not _ (by omega)⟩
            have fa1 := cellAt hfa 1
            have ka1 := cellAt hka 7
            have q0 := cellAt I3.out.q 0
            simp only [List.getElem?_toArray, List.getElem?_cons_zero, List.getElem?_cons_succ] at fa1 ka1 q0
            clear hfa hka
            gi_wp2
            refine ⟨trivial, ?_⟩
            refine (CallsIn.inRound l (callsIn_wide.2 (ask_true _ _))).mono ?_
            rintro e w' ⟨rfl, rfl⟩
            gi_wp2
            have hdl : (line.drop 6).length ≤ line.length := by rw [List.length_drop]; omega
            have C3 := Lib.hid (take119_any I3.out.rd I3.out.ob (by omega) (fun hd => by have := (I3.out.lt _ hd).2; omega) (H0.out.not _ (by omega)) (by omega) (I3.out.keep.box HKA.out.2.1 ⟨by omega, by omega, by omega, H0.out.not _ (by omega)⟩) (by omega) (by have := I3.out.keep.size; have := I3.out.hs; omega) (by have := H0.out.len; omega))
            refine ⟨trivial, ?_⟩
            refine (CallsIn.inRound l (callsIn_wide.2 C3.out)).mono ?_
            intro e w3 hpost
            obtain ⟨ho, hh⟩ := hpost
            have K3 := I3.out.took ho
            have HOF := Lib.hid (H0.out.off K3)
            cases hr : ironTake 3 x (line.drop 6) with
            | none =>
              rw [hr] at hh HQ
              dsimp only at hh HQ
              subst hh
              exact ⟨rfl, rfl, by rw [HZ4.out]; exact HOF.out.2, HQ.out, HOF.out.1⟩
            | some p =>
            obtain ⟨x', r'⟩ := p
            rw [hr] at hh HQ
            dsimp only at HQ
            obtain ⟨he, hrd, D', hob', hown'⟩ := hh
            subst he
            have HK3 := Lib.hid K3
            have RD3 := Lib.hid hrd
            have OB3 := Lib.hid hob'
            have Q3 := Lib.hid (ho.box I3.out.q ⟨by have := I3.out.keep.size; omega, by omega, by omega, H0.out.not _ (by omega)⟩)
            have HSR := Lib.hid (ironTake_len hr)
            clear hrd hob' hown' ho K3 C3 hr fa1 ka1 q0
            have hrd0 := cellAt RD3.out 0
            simp only [List.getElem?_toArray, List.getElem?_cons_zero] at hrd0
            cases r' with
            | cons c r' =>
              gi_wp2
              refine ⟨trivial, (CallsIn.inRound l (callsIn_wide.2 (ask_false _ _))).mono ?_⟩
              rintro e w' ⟨rfl, rfl⟩
              exact ⟨rfl, rfl, by rw [HZ4.out]; exact HOF.out.2, by rw [HQ.out, if_neg (by simp)], HOF.out.1⟩
            | nil =>
              have hfa := HK3.out.box HF.out ⟨by omega, by omega, by omega, H0.out.not _ (by omega)⟩
              have fa0 := cellAt hfa 0
              have q0 := cellAt Q3.out 0
              have fq := freeAt Q3.out 0
              simp only [List.getElem?_toArray, List.getElem?_cons_zero] at fa0 q0
              clear hfa
              have hsl := HSR.out
              have hln9 := H0.out.len
              have N5 := Lib.hid (H0.out.next (x' := x') (k' := 3) HK3.out OB3.out Q3.out
                (by rw [HQ.out, if_pos rfl]; rfl) (by omega) (by simp only [List.length_nil] at hsl; omega))
              have T5 := Lib.hid (H0.out.text HK3.out HBX.out)
              have F5 := Lib.hid (H0.out.off HK3.out).2
              clear hsl hln9
              gi_wp2
              refine ⟨trivial, (CallsIn.inRound l (callsIn_wide.2 (ask_true _ _))).mono ?_⟩
              rintro e w' ⟨rfl, rfl⟩
              gi_wp2
              exact ⟨by rw [HZ4.out]; exact F5.out, ⟨_, _, _, N5.out⟩, T5.out⟩
          | false =>
            rw [seesT_no hp]
            have HJ1 := Lib.hid (show kindFrom (wsI.drop 4) 4 line = J from by rw [← HJJ.out]; exact (if_neg (by rw [hp]; decide)).symm)
            have I3 := Lib.hid (I2.out.see line)
            have I4 := Lib.hid (I3.out.inc 4)
            have q1 := cellAt I3.out.q 0
            have fq := freeAt I3.out.q 0
            simp only [List.getElem?_toArray, List.getElem?_cons_zero] at q1
            clear hp C2 I2 HJ HJJ q0 fa1 ka0 ka1 ka2 ka3 ka4 ka5 ka6 ka7
            gi_wp2
            exact ⟨⟨4, by omega, HJ1.out, I4.out⟩, Nat.lt_of_le_of_lt (Nat.le_of_eq (congrArg (5 - ·) (kOf_at I4.out.q))) (by omega)⟩
        · have hJJ : J = 4 := by rw [← HJJ.out]; rfl
          have HQ := Lib.hid (show R = none from by rw [HR1.out]; unfold stepI; rw [lineStep_no (HJ.out.trans hJJ) (by decide)]; rfl)
          have HOF := Lib.hid (H0.out.off I2.out.keep)
          clear hJJ
          gi_wp2
          refine ⟨trivial, ?_⟩
          gi_wp2
          refine ⟨trivial, (CallsIn.inRound l (callsIn_wide.2 (ask_false _ _))).mono ?_⟩
          rintro e w' ⟨rfl, rfl⟩
          exact ⟨rfl, rfl, by rw [HZ4.out]; exact HOF.out.2, HQ.out, HOF.out.1⟩
    case done =>
      rintro W ⟨x, k, D, h⟩ hD
      have hR1 : R = some (x, k) := by rw [← h.res]; rfl
      have hln := h.len
      have hcn : shapeI.cnt x ≤ 100000 := by omega
      obtain ⟨v1, v2, v3, v4, ys, zs, hll, hDD⟩ := h.ob
      obtain ⟨oa, ma, sa, ca, oc, mc, sc, cc, op, sp, ok, sk, hbx, hII, hBK⟩ := hll.irons hcn hD rfl
      obtain ⟨X, hX⟩ : ∃ X, toV x = X := ⟨_, rfl⟩
      rw [hX] at hbx hII hBK
      have II := Lib.hid hII
      have BK := Lib.hid hBK
      have HB := Lib.hid h.bel
      have HF := Lib.hid h.f
      have HP := Lib.hid hbx
      have HX := Lib.hid (show ∀ W' e, Below w.heap.size w W' → (if ironsB X ∧ ironsT X = t then (∃ oa ma sa ca oc mc sc cc op sp ok sk, e = .returned (.agg #[.int .i64 X.f, .slice oa X.on oc, .slice ma X.mn mc, .slice sa X.sn sc, .slice ca X.cn cc]) ∧ IronsAt X oa ma sa ca oc mc sc cc op sp ok sk W' ∧ IrBlk (fun b => w.heap.size ≤ b) X oa ma sa ca op sp) else e = err 8) → ReadPostI t w e W' from fun W' e hb he => by
        refine ⟨hb, ?_⟩
        rw [if_neg ht]
        unfold readI
        rw [HR.out, hR1]
        dsimp only
        rw [← hX] at he
        by_cases hc : ironsB (toV x) ∧ ironsT (toV x) = t
        · rw [if_pos hc] at he ⊢
          exact he
        · rw [if_neg hc] at he ⊢
          exact he)
      have tx := h.tx
      have fa2 := cellAt h.f 2
      have fa3 := cellAt h.f 3
      have p0 := cellAt hbx 0
      have p1 := cellAt hbx 1
      have p2 := cellAt hbx 2
      have p3 := cellAt hbx 3
      have p4 := cellAt hbx 4
      simp only [List.getElem?_toArray, List.getElem?_cons_zero, List.getElem?_cons_succ] at fa2 fa3 p0 p1 p2 p3 p4
      have HDF := Lib.hid hD
      clear hR1 hII hBK h hD HR hbx hll hDD hcn hln hX
      show wpOf 83 9 Tryz.prog _ _ _ _
      refine wpOf_seq_wp ?_
      go_wp2_with fail
      refine (isIrons_any X oa ma sa ca oc mc sc cc op sp ok sk W II.out).mono ?_
      rintro e w5 ⟨rfl, hb5⟩
      have B5 := Lib.hid (HB.out.next hb5)
      have S5 := Lib.hid (II.out.grow hb5)
      have F5 := HF.out.grow hb5
      have P5 := Lib.hid (HP.out.grow hb5)
      have D5 := Lib.hid (show w5.heap[w4.heap.size]? = some (.deferred (some [])) from (hb5.block _ (Array.getElem?_eq_some_iff.1 HDF.out).1).trans HDF.out)
      have fa2 := cellAt F5 2
      have p0 := cellAt P5.out 0
      have p1 := cellAt P5.out 1
      have p2 := cellAt P5.out 2
      have p3 := cellAt P5.out 3
      have p4 := cellAt P5.out 4
      simp only [List.getElem?_toArray, List.getElem?_cons_zero, List.getElem?_cons_succ] at fa2 p0 p1 p2 p3 p4
      clear hb5 F5 II HF HP HDF HB
      cases hB : ironsB X with
      | false =>
        have HX2 := Lib.hid (show ∀ W', Below w.heap.size w W' → ReadPostI t w (err 8) W' from fun W' hb => HX.out W' _ hb (by rw [if_neg (by rw [hB]; simp)]))
        clear hB HX
        go_wp2_with fail
        refine (ask_false _ _).mono ?_
        rintro e w' ⟨rfl, rfl⟩
        refine ⟨by simp, .inl ⟨_, _, rfl, run_takeDeferred D5.out, ?_⟩⟩
        exact HX2.out _ (B5.out.grown (grownBy_putObj' w5 _ _) B5.out.size (fun k e => by cases e; rw [HZ4.out]; omega))
      | true =>
        have HOK := Lib.hid (irons_ok hB)
        go_wp2_with fail
        refine (irons5_any X oa ma sa ca oc mc sc cc op sp ok sk w5 S5.out HOK.out (HT.out.grow B5.out)).mono ?_
        rintro e w6 ⟨rfl, hb6⟩
        have B6 := Lib.hid (B5.out.next hb6)
        have S6 := Lib.hid (S5.out.grow hb6)
        have P6 := Lib.hid (P5.out.grow hb6)
        have D6 := Lib.hid (show w6.heap[w4.heap.size]? = some (.deferred (some [])) from (hb6.block _ (Array.getElem?_eq_some_iff.1 D5.out).1).trans D5.out)
        have p0 := cellAt P6.out 0
        have p1 := cellAt P6.out 1
        have p2 := cellAt P6.out 2
        have p3 := cellAt P6.out 3
        have p4 := cellAt P6.out 4
        simp only [List.getElem?_toArray, List.getElem?_cons_zero, List.getElem?_cons_succ] at p0 p1 p2 p3 p4
        clear hb6 S5 P5 D5 B5 fa2
        by_cases hT : ironsT X = t
        · have HX3 := Lib.hid (fun W' e hb h => HX.out W' e hb (by rw [if_pos ⟨hB, hT⟩]; exact h))
          rw [hT]
          clear hB HX hT
          have r0 := freeAt P6.out 0
          have r1 := freeAt P6.out 1
          have r2 := freeAt P6.out 2
          have r3 := freeAt P6.out 3
          have r4 := freeAt P6.out 4
          go_wp2_with fail
          refine (ask_true _ _).mono ?_
          rintro e w' ⟨rfl, rfl⟩
          go_wp2_with fail
          have P7 := Lib.hid (show BoxAt (((((w6.setCell ⟨w.heap.size + 1, 0, none⟩ (.int .i64 X.f)).setCell ⟨w.heap.size + 1, 1, none⟩ (.slice oa X.on oc)).setCell ⟨w.heap.size + 1, 2, none⟩ (.slice ma X.mn mc)).setCell ⟨w.heap.size + 1, 3, none⟩ (.slice sa X.sn sc)).setCell ⟨w.heap.size + 1, 4, none⟩ (.slice ca X.cn cc)) (w.heap.size + 1) #[.int .i64 X.f, .slice oa X.on oc, .slice ma X.mn mc, .slice sa X.sn sc, .slice ca X.cn cc] 34 from
            ((((P6.out.store 0 (.int .i64 X.f)).store 1 (.slice oa X.on oc)).store 2 (.slice ma X.mn mc)).store 3 (.slice sa X.sn sc)).store 4 (.slice ca X.cn cc))
          have hk7 : Keep (fun k => k ≠ w.heap.size + 1) w6 (((((w6.setCell ⟨w.heap.size + 1, 0, none⟩ (.int .i64 X.f)).setCell ⟨w.heap.size + 1, 1, none⟩ (.slice oa X.on oc)).setCell ⟨w.heap.size + 1, 2, none⟩ (.slice ma X.mn mc)).setCell ⟨w.heap.size + 1, 3, none⟩ (.slice sa X.sn sc)).setCell ⟨w.heap.size + 1, 4, none⟩ (.slice ca X.cn cc)) :=
            Keep.set (Keep.set (Keep.set (Keep.set (Keep.set (Keep.refl _ _) _ _ _ (fun h => h rfl)) _ _ _ (fun h => h rfl)) _ _ _ (fun h => h rfl)) _ _ _ (fun h => h rfl)) _ _ _ (fun h => h rfl)
          have B7 := Lib.hid (show Below w.heap.size w _ from B6.out.trans (hk7.to_below (fun k hk => by omega)))
          have S7 := Lib.hid (S6.out.keep hk7 (BK.out.imp fun b hb => by have := hb.1; omega))
          have D7 := Lib.hid ((hk7.block w4.heap.size (by rw [HZ4.out]; omega)).trans D6.out)
          clear hk7 S6 B6 D6
          refine wpOf_seq_wp ?_
          go_wp2_with fail
          generalize World.setCell (World.setCell (World.setCell (World.setCell (World.setCell w6 _ _) _ _) _ _) _ _) _ _ = w7 at *
          clear p0 p1 p2 p3 p4 r0 r1 r2 r3 r4
          refine wpOf_of_wp ?_
          go_wp2_with fail
          refine ⟨by simp, .inl ⟨_, _, rfl, run_takeDeferred D7.out, ?_⟩⟩
          have hk8 : Keep (fun k => k < w7.heap.size ∧ k ≠ w4.heap.size) w7 (w7.putObj w4.heap.size (.deferred none)) := Keep.putObj _ _ _
          have P8 := hk8.box P7.out ⟨lt_of_heap P7.out, by rw [HZ4.out]; omega⟩
          have p0 := cellAt P8 0
          have p1 := cellAt P8 1
          have p2 := cellAt P8 2
          have p3 := cellAt P8 3
          have p4 := cellAt P8 4
          simp only [List.getElem?_toArray, List.getElem?_cons_zero, List.getElem?_cons_succ] at p0 p1 p2 p3 p4
          refine ⟨.agg #[.int .i64 X.f, .slice oa X.on oc, .slice ma X.mn mc, .slice sa X.sn sc, .slice ca X.cn cc], by simp [results, Tryz.results83, go_sem, p0, p1, p2, p3, p4], HX3.out _ _ (B7.out.grown (grownBy_putObj' w7 _ _) B7.out.size (fun k e => by cases e; rw [HZ4.out]; omega)) ⟨oa, ma, sa, ca, oc, mc, sc, cc, op, sp, ok, sk, rfl, ?_, BK.out.imp fun b hb => by have := hb.1; omega⟩⟩
          exact S7.out.keep hk8 ((BK.out.old S7.out).imp fun b hb => ⟨hb.2, hb.1.2⟩)
        · have HX3 := Lib.hid (fun W' hb => HX.out W' (err 8) hb (by rw [if_neg (fun h => hT h.2)]))
          have HTT := Lib.hid hT
          clear hB HX hT
          go_wp2_with fail
          rw [show (ironsT X == t) = false from beq_eq_false_iff_ne.2 HTT.out]
          refine (ask_false _ _).mono ?_
          rintro e w' ⟨rfl, rfl⟩
          refine ⟨by simp, .inl ⟨_, _, rfl, run_takeDeferred D6.out, ?_⟩⟩
          exact HX3.out _ (B6.out.grown (grownBy_putObj' w6 _ _) B6.out.size (fun k e => by cases e; rw [HZ4.out]; omega))
    case pan =>
      rintro W ⟨hR, hb⟩ hD
      refine ⟨by simp, .inl ⟨_, _, rfl, run_takeDeferred hD, ?_⟩⟩
      refine ⟨hb.grown (grownBy_putObj' W _ _) hb.size (fun k e => by cases e; rw [HZ4.out]; omega), ?_⟩
      rw [if_neg ht]
      unfold readI
      rw [HR.out, hR]
      rfl
end Go.Proofs.YtclbmlmlhiiaeaaGreatDoor
