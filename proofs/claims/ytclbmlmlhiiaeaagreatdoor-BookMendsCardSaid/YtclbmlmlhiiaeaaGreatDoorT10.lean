/-
  Walks: the wages of a content, by the reference.
-/
import Derived.Test.YtclbmlmlhiiaeaaGreatDoorT9
namespace Go.Proofs.YtclbmlmlhiiaeaaGreatDoor
open Go.RowKit

theorem wpList_appRow {t E : TypeId} {i : TypeInfo} {z : Value} {size bytes : Nat} (he : Tryz.prog.underlying t = some (.slice E)) (hi : Tryz.prog.info? E = some i) (hz : i.zero = some z) (hsz : i.size = size) (hby : i.bytes = bytes)
    (hzs : z.cells.size = size) (hs0 : 0 < size) (hb64 : bytes ≤ 64) {ops : Array Oper} {rest : List Oper} {o : Oper} {a : Act} {w : World} {Q : Exit → Act → World → Prop} (hgd : o.guard = none) (s x : Operand)
    (ho : o.op = .call { callee := .builtin .append, args := #[s, x], argTypes := #[t, t] }) {base n : Nat} {v : Value} {xs : List Value} (hs : a.eval s = v) (hown : w.ownsRow base E size v n xs)
    {b : Nat} {us : List Value} (hx : a.eval x = .slice (some ⟨b, 0, none⟩) 1 1) (hu : BoxAt w b us.toArray E) (hus : us.length = size) (h1 : ∀ u ∈ us, u.oneCell' = true)
    (hlim : n ≤ 1000000) (hbase : base ≤ w.heap.size)
    (h : ∀ g cap w', w'.ownsRow base E size (.slice (some ⟨g, 0, none⟩) (n + 1) cap) (n + 1) (xs ++ us) → w.grownBy w' v.ownBlock → wpList Tryz.prog ops Q rest (a.put o.dst (.slice (some ⟨g, 0, none⟩) (n + 1) cap)) w') : wpList Tryz.prog ops Q (o :: rest) a w := by
  refine wpList_append_lies (w := w) hgd s x t ho base E i z size bytes he hi hz hsz hby hzs hs0 v n xs hs hown ⟨b, 0, none⟩ 1 1 us hx (by rw [hus, Nat.one_mul]) ?_ h1 (by decide) (by unfold maxLen; omega) ?_ hbase _ rfl
    fun g cap w' h2 h3 _ _ => h g cap w' h2 h3
  · intro j y hy
    have := cellAt hu j
    rw [List.getElem?_toArray, hy] at this
    rw [show (⟨b, 0, none⟩ : Addr).add j = ⟨b, j, none⟩ from by rw [Addr.add_lit, Nat.zero_add]]
    exact this
  · have : (n + 1) * bytes ≤ (n + 1) * 64 := Nat.mul_le_mul_left _ hb64
    omega
/-- Rows of different types lie in different blocks. -/
theorem own_ne {W : World} {b b' E E' z z' n n' : Nat} {v v' : Value} {xs xs' : List Value} (h : W.ownsRow b E z v n xs) (h' : W.ownsRow b' E' z' v' n' xs') (hE : E ≠ E') : ∀ g, v.ownBlock = some g → v'.ownBlock ≠ some g := by
  intro g e e'
  rcases h.2 with ⟨rfl, -⟩ | ⟨g1, cap, cur, rfl, -, hg, -⟩
  · cases e
  · rcases h'.2 with ⟨rfl, -⟩ | ⟨g2, cap', cur', rfl, -, hg', -⟩
    · cases e'
    · cases e
      cases e'
      rw [hg] at hg'
      cases hg'
      exact hE rfl
theorem Keep.of_grown {W W' : World} {row : Option Nat} (hg : W.grownBy W' row) : Keep (fun k => k < W.heap.size ∧ some k ≠ row) W W' := ⟨hg.os, hg.tape, hg.output, hg.size, fun k hk => hg.block k hk.1 hk.2⟩
theorem Keep.of_setCell (W : World) (p i : Nat) (v : Value) : Keep (fun k => k ≠ p) W (W.setCell ⟨p, i, none⟩ v) := (Keep.refl _ W).set p i v (fun h => h rfl)
theorem own_any {W W' : World} {base n size : Nat} {E : TypeId} {v : Value} {xs : List Value} (h : W.ownsRow base E size v n xs) (hb : Below W.heap.size W W') : W'.ownsRow base E size v n xs :=
  (Keep.of_below hb (C := fun k => k < W.heap.size) fun _ hk => hk).row h fun g e => (h.lt g e).2
def sC (l : List Bool) (i j : Nat) : Value := .int .i64 ((seamL l (5 + i * 11)).getD j 0 : Nat)
def tC (l : List Bool) (o : Nat) (i j : Nat) : Value := .int .i64 ((tickL l (o + i * 26)).getD j 0 : Nat)
/-- What stands while wages are taken. -/
structure RT (w : World) (ba : Option Addr) (l : List Bool) (o cr s1 i j : Nat) (v1 v2 : Value) (W : World) : Prop where
  bel : Below w.heap.size w W
  bits : BitRow W ba l
  bl : 0 < l.length → w.heap.size + 2 ≤ blk ba ∧ blk ba < s1
  r : BoxAt W w.heap.size #[.int .i64 0, .slice none 0 0, .slice none 0 0] 38
  ow : BoxAt W (w.heap.size + 1) #[.int .i64 cr, v1, v2] 38
  s : W.ownsRow s1 126 2 v1 i (rowVals (sC l) 2 i)
  t : W.ownsRow s1 130 8 v2 j (rowVals (tC l o) 8 j)
  size : s1 ≤ W.heap.size
  low : w.heap.size + 2 ≤ s1
theorem RT.grow {w W W' : World} {ba : Option Addr} {l : List Bool} {o cr s1 i j : Nat} {v1 v2 : Value} (h : RT w ba l o cr s1 i j v1 v2 W) (hb : Below W.heap.size W W') : RT w ba l o cr s1 i j v1 v2 W' :=
  ⟨h.bel.next hb, h.bits.grow hb, h.bl, h.r.grow hb, h.ow.grow hb, own_any h.s hb, own_any h.t hb, Nat.le_trans h.size hb.size, h.low⟩
theorem RT.nextS {w W W2 : World} {ba : Option Addr} {l : List Bool} {o cr s1 i j : Nat} {v1 v2 v : Value} (h : RT w ba l o cr s1 i j v1 v2 W) (hg : W.grownBy W2 v1.ownBlock) (hw : W2.ownsRow s1 126 2 v (i + 1) (rowVals (sC l) 2 (i + 1))) :
    RT w ba l o cr s1 (i + 1) j v v2 (W2.setCell ⟨w.heap.size + 1, 1, none⟩ v) := by
  have kg := Keep.of_grown hg
  have ks := Keep.of_setCell W2 (w.heap.size + 1) 1 v
  have lo := h.low
  have hs := h.size
  have ne : ∀ k, k < s1 → some k ≠ v1.ownBlock := fun k hk e => by have := (h.s.lt k e.symm).1; omega
  refine ⟨?_, ?_, h.bl, ?_, ?_, ?_, ?_, ?_, lo⟩
  · refine Below.setCell (h.bel.grown hg h.bel.size fun k e => by have := (h.s.lt k e).1; omega) (by (try dsimp only); omega) _
  · refine Row.keep (Row.keep h.bits kg fun hn => ?_) ks fun hn => ?_
    · have := h.bl hn
      exact ⟨by omega, ne _ this.2⟩
    · have := h.bl hn
      (try dsimp only); omega
  · exact BoxAt.set (kg.box h.r ⟨by omega, ne _ (by omega)⟩) _ _ (by (try dsimp only); omega)
  · exact BoxAt.store (kg.box h.ow ⟨by omega, ne _ (by omega)⟩) 1 v
  · exact ks.row hw fun g e => by have := (hw.lt g e).1; (try dsimp only); omega
  · exact ks.row (kg.row h.t fun g e => ⟨(h.t.lt g e).2, fun e2 => own_ne h.t h.s (by decide) g e e2.symm⟩) fun g e => by have := (h.t.lt g e).1; (try dsimp only); omega
  · rw [size_setCell]
    exact Nat.le_trans hs hg.size
theorem RT.nextT {w W W2 : World} {ba : Option Addr} {l : List Bool} {o cr s1 i j : Nat} {v1 v2 v : Value} (h : RT w ba l o cr s1 i j v1 v2 W) (hg : W.grownBy W2 v2.ownBlock) (hw : W2.ownsRow s1 130 8 v (j + 1) (rowVals (tC l o) 8 (j + 1))) :
    RT w ba l o cr s1 i (j + 1) v1 v (W2.setCell ⟨w.heap.size + 1, 2, none⟩ v) := by
  have kg := Keep.of_grown hg
  have ks := Keep.of_setCell W2 (w.heap.size + 1) 2 v
  have lo := h.low
  have hs := h.size
  have ne : ∀ k, k < s1 → some k ≠ v2.ownBlock := fun k hk e => by have := (h.t.lt k e.symm).1; omega
  refine ⟨?_, ?_, h.bl, ?_, ?_, ?_, ?_, ?_, lo⟩
  · refine Below.setCell (h.bel.grown hg h.bel.size fun k e => by have := (h.t.lt k e).1; omega) (by (try dsimp only); omega) _
  · refine Row.keep (Row.keep h.bits kg fun hn => ?_) ks fun hn => ?_
    · have := h.bl hn
      exact ⟨by omega, ne _ this.2⟩
    · have := h.bl hn
      (try dsimp only); omega
  · exact BoxAt.set (kg.box h.r ⟨by omega, ne _ (by omega)⟩) _ _ (by (try dsimp only); omega)
  · exact BoxAt.store (kg.box h.ow ⟨by omega, ne _ (by omega)⟩) 2 v
  · exact ks.row (kg.row h.s fun g e => ⟨(h.s.lt g e).2, fun e2 => own_ne h.s h.t (by decide) g e e2.symm⟩) fun g e => by have := (h.s.lt g e).1; (try dsimp only); omega
  · exact ks.row hw fun g e => by have := (hw.lt g e).1; (try dsimp only); omega
  · rw [size_setCell]
    exact Nat.le_trans hs hg.size
/-- The result laid down. -/
theorem RT.fin {w W : World} {ba : Option Addr} {l : List Bool} {o cr s1 i j sc tc : Nat} {sa ta : Option Addr} (h : RT w ba l o cr s1 i j (.slice sa i sc) (.slice ta j tc) W) (hS : Row W sa i 2 (sC l)) (hT : Row W ta j 8 (tC l o)) :
    NumsAt (((W.setCell ⟨w.heap.size, 0, none⟩ (.int .i64 cr)).setCell ⟨w.heap.size, 1, none⟩ (.slice sa i sc)).setCell ⟨w.heap.size, 2, none⟩ (.slice ta j tc)) sa i 2 (castW (rowsL (seamL l) 5 11 i)) ∧ NumsAt (((W.setCell ⟨w.heap.size, 0, none⟩ (.int .i64 cr)).setCell ⟨w.heap.size, 1, none⟩ (.slice sa i sc)).setCell ⟨w.heap.size, 2, none⟩ (.slice ta j tc)) ta j 8 (castW (rowsL (tickL l) o 26 j)) ∧ Below w.heap.size w (((W.setCell ⟨w.heap.size, 0, none⟩ (.int .i64 cr)).setCell ⟨w.heap.size, 1, none⟩ (.slice sa i sc)).setCell ⟨w.heap.size, 2, none⟩ (.slice ta j tc)) ∧ (0 < i → w.heap.size < blk sa) ∧ (0 < j → w.heap.size < blk ta) := by
  have nS : 0 < i → w.heap.size < blk sa := fun hn => by
    have h1 := hS.plain hn
    have h2 := (h.s.lt (blk sa) (by rw [h1]; rfl)).1
    have := h.low
    omega
  have nT : 0 < j → w.heap.size < blk ta := fun hn => by
    have h1 := hT.plain hn
    have h2 := (h.t.lt (blk ta) (by rw [h1]; rfl)).1
    have := h.low
    omega
  have eS : NumsAt W sa i 2 (castW (rowsL (seamL l) 5 11 i)) := ⟨hS.plain, hS.old, hS.small, fun a ha b hb => by
    rw [hS.cells a ha b hb]
    unfold sC castW rowsL
    rw [if_pos ha]⟩
  have eT : NumsAt W ta j 8 (castW (rowsL (tickL l) o 26 j)) := ⟨hT.plain, hT.old, hT.small, fun a ha b hb => by
    rw [hT.cells a ha b hb]
    unfold tC castW rowsL
    rw [if_pos ha]⟩
  have mS : 0 < i → w.heap.size ≠ blk sa := fun hn => by have := nS hn; omega
  have mT : 0 < j → w.heap.size ≠ blk ta := fun hn => by have := nT hn; omega
  exact ⟨Row.set (Row.set (Row.set eS _ _ mS) _ _ mS) _ _ mS, Row.set (Row.set (Row.set eT _ _ mT) _ _ mT) _ _ mT, ((h.bel.setCell (Nat.le_refl _) _).setCell (Nat.le_refl _) _).setCell (Nat.le_refl _) _, nS, nT⟩
theorem refW_eq {l : List Bool} {cr sn tn o : Nat} (h1 : valZ l 0 3 = cr) (h2 : valZ l 3 2 = sn) (h3 : valZ l (5 + sn * 11) 3 = tn) (h4 : 8 + sn * 11 = o) : refW l = ⟨cr, sn, rowsL (seamL l) 5 11 sn, tn, rowsL (tickL l) o 26 tn⟩ := by
  unfold refW
  rw [h2, h1, h3, show 5 + sn * 11 + 3 = o by omega]
set_option maxRecDepth 100000 in
set_option maxHeartbeats 8000000 in
theorem wages71_any (oa : Option Addr) (n nc : Nat) (g : Nat → Nat) (w : World) (hg : BytesAt w oa n g) (h8 : ∀ i, g i < 256) (hn : n ≤ 1000) :
    Calls Tryz.prog 71 #[.slice oa n nc] w fun e w' => ∃ sa sc ta tc, e = .returned (.agg #[.int .i64 (refW (bitsL n g)).cr, .slice sa (refW (bitsL n g)).sn sc, .slice ta (refW (bitsL n g)).tn tc]) ∧ NumsAt w' sa (refW (bitsL n g)).sn 2 (castW (refW (bitsL n g)).S) ∧ NumsAt w' ta (refW (bitsL n g)).tn 8 (castW (refW (bitsL n g)).T) ∧ Below w.heap.size w w' ∧ (0 < (refW (bitsL n g)).sn → w.heap.size < blk sa) ∧ (0 < (refW (bitsL n g)).tn → w.heap.size < blk ta) := by
  have C := Lib.hid (fun (W : World) (ba : Option Addr) (nc a m : Nat) (hb : BitRow W ba (bitsL n g)) (ha : a ≤ 9000) (hm : m ≤ 8) => take135_any ba nc (bitsL n g) a m W hb (by omega) hm)
  have D := Lib.hid (fun (W : World) (ba : Option Addr) (nc a m : Nat) (hb : BitRow W ba (bitsL n g)) (ha : a ≤ 9000) (hm : m ≤ 8) => takeSpan136_any ba nc (bitsL n g) a m W hb ha hm)
  have hln := bitsL_len n g
  have U := Lib.hid (fun W (h : Below w.heap.size w W) => (unpack134_any oa n nc g W (hg.grow h) h8 (by omega)).mono fun e w' ⟨ba, cap, he, hr, hl, hb⟩ => (show ∃ ba cap, e = Ending.returned (.slice ba (bitsL n g).length cap) ∧ BitRow w' ba (bitsL n g) ∧ (0 < (bitsL n g).length → W.heap.size ≤ blk ba) ∧ Below W.heap.size W w' from ⟨ba, cap, by rw [hln]; exact he, by
      unfold BitRow
      rw [hln]
      exact ⟨hr.plain, hr.old, hr.small, fun i hi j hj => by
        rw [hr.cells i hi j hj]
        show _ = some (Value.int .i64 (if (bitsL n g).getD i false then 1 else 0))
        rw [show (bitsL n g).getD i false = unpB g i from bits_getD n g hi]
        rfl⟩, by rw [hln]; exact hl, hb⟩))
  have hlb : (bitsL n g).length ≤ 8000 := by omega
  clear hg h8 hln
  generalize bitsL n g = l at *
  obtain ⟨z0, z1, hs0, hB⟩ := blocks2 (show (w.alloc (.cells #[.int .i64 0, .slice none 0 0, .slice none 0 0] 38)).alloc (.cells #[.int .i64 0, .slice none 0 0, .slice none 0 0] 38) = _ from rfl)
  have B0 := Lib.hid hB
  have Z0 := Lib.hid z0
  have Z1 := Lib.hid z1
  have HS0 := Lib.hid hs0
  clear z0 z1 hB hs0
  go_enter Tryz.func71, Tryz.ntmps71
  go_upto_region 2 with (fail)
  generalize World.alloc (World.alloc w _) _ = W0 at *
  go_wp2_with (go_at_call 134; refine (U.out _ B0.out).mono ?_)
  rintro e w1 ⟨ba, bc, rfl, hr, hl, hb1⟩
  have I0 := Lib.hid (show RT w ba l (8 + valZ l 3 2 * 11) 0 w1.heap.size 0 0 (.slice none 0 0) (.slice none 0 0) w1 from ⟨B0.out.next hb1, hr, fun h => ⟨by have := hl h; have := HS0.out; omega, hr.old h⟩, BoxAt.grow Z0.out hb1, BoxAt.grow Z1.out hb1, World.ownsRow_nil _ _ _ _, World.ownsRow_nil _ _ _ _, Nat.le_refl _, by have := hb1.size; have := HS0.out; omega⟩)
  generalize w1.heap.size = s1 at *
  clear hr hl hb1 B0 Z0 Z1 HS0 U
  have CC := Lib.hid (C.out w1 ba bc 0 3 I0.out.bits (by omega) (by omega))
  obtain ⟨cr, hcr⟩ : ∃ cr, valZ l 0 3 = cr := ⟨_, rfl⟩
  have HCR := Lib.hid hcr
  rw [hcr] at CC
  clear hcr
  have q0 := cellAt I0.out.ow 0
  have f0 := freeAt I0.out.ow 0
  simp only [List.getElem?_toArray, List.getElem?_cons_zero] at q0
  have I1 := Lib.hid (show RT w ba l (8 + valZ l 3 2 * 11) cr s1 0 0 (.slice none 0 0) (.slice none 0 0) (w1.setCell ⟨w.heap.size + 1, 0, none⟩ (.int .i64 cr)) from by
      have x := I0.out
      have lo := x.low
      exact ⟨x.bel.setCell (by (try dsimp only); omega) _, Row.set x.bits _ _ (fun hn => by have := x.bl hn; (try dsimp only); omega), x.bl, BoxAt.set x.r _ _ (by (try dsimp only); omega), x.ow.store 0 _, World.ownsRow_nil _ _ _ _, World.ownsRow_nil _ _ _ _, by rw [size_setCell]; exact x.size, lo⟩)
  go_upto_region 5 with (go_at_call 135; refine CC.out.mono ?_; rintro e w2 ⟨rfl, rfl⟩)
  clear q0 f0 I0 CC
  generalize World.setCell w1 _ _ = w3 at *
  have CC := Lib.hid (C.out w3 ba bc 3 2 I1.out.bits (by omega) (by omega))
  have s4 := valZ_lt l 3 2
  obtain ⟨sn, hsn⟩ : ∃ sn, valZ l 3 2 = sn := ⟨_, rfl⟩
  have HSN := Lib.hid hsn
  rw [hsn] at s4 I1 CC
  clear hsn
  replace s4 : sn < 4 := s4
  go_wp2_with (go_at_call 135; refine CC.out.mono ?_)
  rintro e w4 ⟨rfl, rfl⟩
  clear CC
  go_wp2_with fail
  go_loopw [6, 7] (fun a i wi => ∃ (k : Nat) (v1 : Value), k ≤ sn ∧ i = .int .i64 k ∧ a = .int .i64 ((5 + k * 11 : Nat) : Int) ∧ RT w ba l (8 + sn * 11) cr s1 k 0 v1 (.slice none 0 0) wi) (fun _ i _ => sn - (intOf i).toNat)
  case atStart => exact ⟨0, _, Nat.zero_le _, rfl, rfl, I1.out⟩
  case round =>
    clear I1
    obtain ⟨k, v1, hk, rfl, rfl, hI⟩ := hrel
    have I2 := Lib.hid hI
    clear hI
    by_cases hlt : k < sn
    case pos =>
      have HQ := Lib.hid (show sC l k 0 = .int .i64 ((valZ l (5 + k * 11) 5 : Nat) : Int) ∧ sC l k 1 = .int .i64 ((valZ l (5 + k * 11 + 5) 6 : Nat) : Int) from ⟨rfl, rfl⟩)
      obtain ⟨a0, ha0⟩ : ∃ a, 5 + k * 11 = a := ⟨_, rfl⟩
      have hab : a0 ≤ 300 := by omega
      have HA := Lib.hid ha0
      rw [ha0] at HQ ⊢
      clear ha0
      have B0 := Lib.hid ((Below.refl wr.heap.size wr).alloc (Nat.le_refl _) (.cells #[.int .i64 0, .int .i64 0] 126))
      have X0 := Lib.hid (show BoxAt (wr.alloc (.cells #[.int .i64 0, .int .i64 0] 126)) wr.heap.size #[.int .i64 0, .int .i64 0] 126 from heap_alloc_new _ _)
      go_upto_region 10 with (fail)
      generalize World.alloc wr _ = y0 at *
      have CC := Lib.hid (C.out y0 ba bc a0 5 (I2.out.grow B0.out).bits (by omega) (by omega))
      have d0 := valZ_small l a0 (show 5 ≤ 8 by omega)
      obtain ⟨f0, hf⟩ : ∃ f, valZ l a0 5 = f := ⟨_, rfl⟩
      rw [hf] at d0 HQ CC
      clear hf
      obtain ⟨a1, ha⟩ : ∃ a, a0 + 5 = a := ⟨_, rfl⟩
      have hab1 : a1 ≤ 310 := by omega
      rw [ha] at CC
      try rw [ha] at HQ
      have HA1 := Lib.hid ha
      clear ha
      have q0 := cellAt X0.out 0
      have g0 := freeAt X0.out 0
      simp only [List.getElem?_toArray, List.getElem?_cons_zero] at q0
      go_upto_region 11 with (go_at_call 135; refine CC.out.mono ?_; rintro e w' ⟨rfl, rfl⟩)
      have B1 := Lib.hid (show Below wr.heap.size wr (y0.setCell ⟨wr.heap.size, 0, none⟩ (.int .i64 f0)) from (Below.setCell (B0.out) (p := ⟨wr.heap.size, 0, none⟩) (Nat.le_refl _) (.int .i64 f0)))
      have X1 := Lib.hid (show BoxAt (y0.setCell ⟨wr.heap.size, 0, none⟩ (.int .i64 f0)) wr.heap.size #[.int .i64 f0, .int .i64 0] 126 from (BoxAt.store X0.out 0 (.int .i64 f0)))
      clear CC q0 g0
      generalize World.setCell y0 _ _ = y1 at *
      have CC := Lib.hid (C.out y1 ba bc a1 6 (I2.out.grow B1.out).bits (by omega) (by omega))
      have d1 := valZ_small l a1 (show 6 ≤ 8 by omega)
      obtain ⟨f1, hf⟩ : ∃ f, valZ l a1 6 = f := ⟨_, rfl⟩
      rw [hf] at d1 HQ CC
      clear hf
      obtain ⟨a2, ha⟩ : ∃ a, a1 + 6 = a := ⟨_, rfl⟩
      have hab2 : a2 ≤ 320 := by omega
      rw [ha] at CC
      try rw [ha] at HQ
      have HA2 := Lib.hid ha
      clear ha
      have q1 := cellAt X1.out 1
      have g1 := freeAt X1.out 1
      simp only [List.getElem?_toArray, List.getElem?_cons_zero, List.getElem?_cons_succ] at q1
      go_upto_region 12 with (go_at_call 135; refine CC.out.mono ?_; rintro e w' ⟨rfl, rfl⟩)
      have B2 := Lib.hid (show Below wr.heap.size wr (y1.setCell ⟨wr.heap.size, 1, none⟩ (.int .i64 f1)) from (Below.setCell (B1.out) (p := ⟨wr.heap.size, 1, none⟩) (Nat.le_refl _) (.int .i64 f1)))
      have X2 := Lib.hid (show BoxAt (y1.setCell ⟨wr.heap.size, 1, none⟩ (.int .i64 f1)) wr.heap.size #[.int .i64 f0, .int .i64 f1] 126 from (BoxAt.store X1.out 1 (.int .i64 f1)))
      clear CC q1 g1
      generalize World.setCell y1 _ _ = y2 at *
      have I3 := Lib.hid (I2.out.grow B2.out)
      have q := cellAt I3.out.ow 1
      simp only [List.getElem?_toArray, List.getElem?_cons_zero, List.getElem?_cons_succ] at q
      have p0 := cellAt X2.out 0
      have p1 := cellAt X2.out 1
      simp only [List.getElem?_toArray, List.getElem?_cons_zero, List.getElem?_cons_succ] at p0 p1
      have al := (Below.refl y2.heap.size y2).alloc (Nat.le_refl _) (.cells #[.int .i64 f0, .int .i64 f1] 126)
      have I4 := Lib.hid (I3.out.grow al)
      have Y4 := Lib.hid (show BoxAt (y2.alloc (.cells #[.int .i64 f0, .int .i64 f1] 126)) y2.heap.size [.int .i64 f0, .int .i64 f1].toArray 126 from heap_alloc_new _ _)
      clear al
      obtain ⟨i0, hi0, hz0, hz1, hz2⟩ := winfo126
      go_wp2_with (at_builtin; refine wpList_appRow wsl35 hi0 hz0 hz1 hz2 (by rfl) (by decide) (by decide) (by rfl) (.tmp 46) (.tmp 48) (by rfl) (by rfl) I4.out.s (by rfl) Y4.out (by rfl) (fun u hu => by simp only [List.mem_cons, List.not_mem_nil, or_false] at hu; rcases hu with rfl | rfl <;> rfl) (by omega) I4.out.size ?_)
      intro g cap w8 h2 h3
      have hw : w8.ownsRow s1 126 2 (.slice (some ⟨g, 0, none⟩) (k + 1) cap) (k + 1) (rowVals (sC l) 2 (k + 1)) := by
        show w8.ownsRow s1 126 2 _ _ (rowVals (sC l) 2 k ++ [sC l k 0, sC l k 1])
        obtain ⟨j0, j1⟩ := HQ.out
        rw [j0, j1]
        exact h2
      have I5 := Lib.hid (I4.out.nextS h3 hw)
      have kb := (Keep.of_grown h3).box I4.out.ow ⟨by have := I4.out.size; have := I4.out.low; omega, fun e => by have := (I4.out.s.lt _ e.symm).1; have := I4.out.low; omega⟩
      have qq := cellAt kb 1
      have ff := freeAt kb 1
      simp only [List.getElem?_toArray, List.getElem?_cons_zero, List.getElem?_cons_succ] at qq
      clear h2 h3 hw kb I3 I4 Y4 q hi0 hz0 hz1 hz2 p0 p1
      go_wp2_with fail
      exact ⟨⟨k + 1, _, hlt, by go_num, by rw [show 5 + (k + 1) * 11 = a2 from by have := HA.out; have := HA1.out; have := HA2.out; omega], I5.out⟩, by simp [intOf]; omega⟩
    case neg =>
      obtain rfl : k = sn := by omega
      have CC := Lib.hid (C.out wr ba bc (5 + k * 11) 3 I2.out.bits (by omega) (by omega))
      have t8 := valZ_lt l (5 + k * 11) 3
      obtain ⟨tn, htn⟩ : ∃ tn, valZ l (5 + k * 11) 3 = tn := ⟨_, rfl⟩
      have HTN := Lib.hid htn
      rw [htn] at t8 CC
      clear htn
      replace t8 : tn < 8 := t8
      have hk5 : 5 + k * 11 + 3 = 8 + k * 11 := by omega
      rw [hk5] at CC
      obtain ⟨a0, ha0⟩ : ∃ a, 5 + k * 11 = a := ⟨_, rfl⟩
      have h300 : a0 ≤ 100 := by omega
      rw [ha0] at CC ⊢
      obtain ⟨o, ho⟩ : ∃ o, 8 + k * 11 = o := ⟨_, rfl⟩
      have hob : o ≤ 100 := by omega
      have HO := Lib.hid ho
      rw [ho] at CC I2
      clear ho ha0 hk5
      go_wp2_with (go_at_call 135; refine CC.out.mono ?_)
      rintro e w5 ⟨rfl, rfl⟩
      clear CC
      obtain ⟨wo, hwo⟩ : ∃ wo : World, wo = wr := ⟨_, rfl⟩
      subst hwo
      go_wp2_with fail
      go_loopw [6, 9] (fun a i wi => ∃ (j : Nat) (v2 : Value), j ≤ tn ∧ i = .int .i64 j ∧ a = .int .i64 ((o + j * 26 : Nat) : Int) ∧ RT w ba l o cr s1 k j v1 v2 wi) (fun _ i _ => tn - (intOf i).toNat)
      case atStart => exact ⟨0, _, Nat.zero_le _, rfl, rfl, I2.out⟩
      case round =>
        clear I2
        obtain ⟨j, v2, hj, rfl, rfl, hI⟩ := hrel
        have I2 := Lib.hid hI
        clear hI
        by_cases hlt2 : j < tn
        case pos =>
          have HQ := Lib.hid (show tC l o j 0 = .int .i64 ((valZ l (o + j * 26) 2 : Nat) : Int) ∧ tC l o j 1 = .int .i64 ((valZ l (o + j * 26 + 2) 2 : Nat) : Int) ∧ tC l o j 2 = .int .i64 ((valZ l (o + j * 26 + 2 + 2) 5 : Nat) : Int) ∧ tC l o j 3 = .int .i64 ((valZ l (o + j * 26 + 2 + 2) 5 + valZ l (o + j * 26 + 2 + 2 + 5) 2 : Nat) : Int) ∧ tC l o j 4 = .int .i64 ((valZ l (o + j * 26 + 2 + 2 + 5 + 2) 5 : Nat) : Int) ∧ tC l o j 5 = .int .i64 ((valZ l (o + j * 26 + 2 + 2 + 5 + 2) 5 + valZ l (o + j * 26 + 2 + 2 + 5 + 2 + 5) 2 : Nat) : Int) ∧ tC l o j 6 = .int .i64 ((valZ l (o + j * 26 + 2 + 2 + 5 + 2 + 5 + 2) 6 : Nat) : Int) ∧ tC l o j 7 = .int .i64 ((valZ l (o + j * 26 + 2 + 2 + 5 + 2 + 5 + 2) 6 + valZ l (o + j * 26 + 2 + 2 + 5 + 2 + 5 + 2 + 6) 2 : Nat) : Int) from ⟨rfl, rfl, rfl, rfl, rfl, rfl, rfl, rfl⟩)
          obtain ⟨a0, ha0⟩ : ∃ a, o + j * 26 = a := ⟨_, rfl⟩
          have hab : a0 ≤ 300 := by omega
          have HA := Lib.hid ha0
          rw [ha0] at HQ ⊢
          clear ha0
          have B0 := Lib.hid ((Below.refl wr.heap.size wr).alloc (Nat.le_refl _) (.cells #[.int .i64 0, .int .i64 0, .int .i64 0, .int .i64 0, .int .i64 0, .int .i64 0, .int .i64 0, .int .i64 0] 130))
          have X0 := Lib.hid (show BoxAt (wr.alloc (.cells #[.int .i64 0, .int .i64 0, .int .i64 0, .int .i64 0, .int .i64 0, .int .i64 0, .int .i64 0, .int .i64 0] 130)) wr.heap.size #[.int .i64 0, .int .i64 0, .int .i64 0, .int .i64 0, .int .i64 0, .int .i64 0, .int .i64 0, .int .i64 0] 130 from heap_alloc_new _ _)
          go_upto_region 18 with (fail)
          generalize World.alloc wr _ = y0 at *
          have CC := Lib.hid (C.out y0 ba bc a0 2 (I2.out.grow B0.out).bits (by omega) (by omega))
          have d0 := valZ_small l a0 (show 2 ≤ 8 by omega)
          obtain ⟨f0, hf⟩ : ∃ f, valZ l a0 2 = f := ⟨_, rfl⟩
          rw [hf] at d0 HQ CC
          clear hf
          obtain ⟨a1, ha⟩ : ∃ a, a0 + 2 = a := ⟨_, rfl⟩
          have hab1 : a1 ≤ 310 := by omega
          rw [ha] at CC
          try rw [ha] at HQ
          have HA1 := Lib.hid ha
          clear ha
          have q0 := cellAt X0.out 0
          have g0 := freeAt X0.out 0
          simp only [List.getElem?_toArray, List.getElem?_cons_zero] at q0
          go_upto_region 19 with (go_at_call 135; refine CC.out.mono ?_; rintro e w' ⟨rfl, rfl⟩)
          have B1 := Lib.hid (show Below wr.heap.size wr (y0.setCell ⟨wr.heap.size, 0, none⟩ (.int .i64 f0)) from (Below.setCell (B0.out) (p := ⟨wr.heap.size, 0, none⟩) (Nat.le_refl _) (.int .i64 f0)))
          have X1 := Lib.hid (show BoxAt (y0.setCell ⟨wr.heap.size, 0, none⟩ (.int .i64 f0)) wr.heap.size #[.int .i64 f0, .int .i64 0, .int .i64 0, .int .i64 0, .int .i64 0, .int .i64 0, .int .i64 0, .int .i64 0] 130 from (BoxAt.store X0.out 0 (.int .i64 f0)))
          clear CC q0 g0
          generalize World.setCell y0 _ _ = y1 at *
          have CC := Lib.hid (C.out y1 ba bc a1 2 (I2.out.grow B1.out).bits (by omega) (by omega))
          have d1 := valZ_small l a1 (show 2 ≤ 8 by omega)
          obtain ⟨f1, hf⟩ : ∃ f, valZ l a1 2 = f := ⟨_, rfl⟩
          rw [hf] at d1 HQ CC
          clear hf
          obtain ⟨a2, ha⟩ : ∃ a, a1 + 2 = a := ⟨_, rfl⟩
          have hab2 : a2 ≤ 320 := by omega
          rw [ha] at CC
          try rw [ha] at HQ
          have HA2 := Lib.hid ha
          clear ha
          have q1 := cellAt X1.out 1
          have g1 := freeAt X1.out 1
          simp only [List.getElem?_toArray, List.getElem?_cons_zero, List.getElem?_cons_succ] at q1
          go_upto_region 20 with (go_at_call 135; refine CC.out.mono ?_; rintro e w' ⟨rfl, rfl⟩)
          have B2 := Lib.hid (show Below wr.heap.size wr (y1.setCell ⟨wr.heap.size, 1, none⟩ (.int .i64 f1)) from (Below.setCell (B1.out) (p := ⟨wr.heap.size, 1, none⟩) (Nat.le_refl _) (.int .i64 f1)))
          have X2 := Lib.hid (show BoxAt (y1.setCell ⟨wr.heap.size, 1, none⟩ (.int .i64 f1)) wr.heap.size #[.int .i64 f0, .int .i64 f1, .int .i64 0, .int .i64 0, .int .i64 0, .int .i64 0, .int .i64 0, .int .i64 0] 130 from (BoxAt.store X1.out 1 (.int .i64 f1)))
          clear CC q1 g1
          generalize World.setCell y1 _ _ = y2 at *
          have CC := Lib.hid (D.out y2 ba bc a2 5 (I2.out.grow B2.out).bits (by omega) (by omega))
          have d2 := valZ_small l a2 (show 5 ≤ 8 by omega)
          have d2w := valZ_small l (a2 + 5) (show 2 ≤ 8 by omega)
          obtain ⟨f2, hf⟩ : ∃ f, valZ l a2 5 = f := ⟨_, rfl⟩
          obtain ⟨h2, hh⟩ : ∃ h, valZ l a2 5 + valZ l (a2 + 5) 2 = h := ⟨_, rfl⟩
          rw [hh] at HQ CC
          rw [hf] at HQ CC
          clear hf hh d2 d2w
          obtain ⟨a3, ha⟩ : ∃ a, a2 + 5 + 2 = a := ⟨_, rfl⟩
          have hab3 : a3 ≤ 330 := by omega
          rw [ha] at CC
          try rw [ha] at HQ
          have HA3 := Lib.hid ha
          clear ha
          have q2 := cellAt X2.out 2
          have g2 := freeAt X2.out 2
          have q3 := cellAt X2.out 3
          have g3 := freeAt X2.out 3
          simp only [List.getElem?_toArray, List.getElem?_cons_zero, List.getElem?_cons_succ] at q2 q3
          go_wp2_with (go_at_call 136; refine CC.out.mono ?_)
          rintro e u2 ⟨rfl, hb⟩
          have Bu2 := Lib.hid (B2.out.trans (hb.mono B2.out.size))
          have Xu2 := Lib.hid (X2.out.grow hb)
          clear hb q2 q3 g2 g3
          have q2 := cellAt Xu2.out 2
          have g2 := freeAt Xu2.out 2
          have q3 := cellAt Xu2.out 3
          have g3 := freeAt Xu2.out 3
          simp only [List.getElem?_toArray, List.getElem?_cons_zero, List.getElem?_cons_succ] at q2 q3
          go_upto_region 21 with (fail)
          have B3 := Lib.hid (show Below wr.heap.size wr ((u2.setCell ⟨wr.heap.size, 2, none⟩ (.int .i64 f2)).setCell ⟨wr.heap.size, 3, none⟩ (.int .i64 h2)) from (Below.setCell ((Below.setCell (Bu2.out) (p := ⟨wr.heap.size, 2, none⟩) (Nat.le_refl _) (.int .i64 f2))) (p := ⟨wr.heap.size, 3, none⟩) (Nat.le_refl _) (.int .i64 h2)))
          have X3 := Lib.hid (show BoxAt ((u2.setCell ⟨wr.heap.size, 2, none⟩ (.int .i64 f2)).setCell ⟨wr.heap.size, 3, none⟩ (.int .i64 h2)) wr.heap.size #[.int .i64 f0, .int .i64 f1, .int .i64 f2, .int .i64 h2, .int .i64 0, .int .i64 0, .int .i64 0, .int .i64 0] 130 from (BoxAt.store (BoxAt.store Xu2.out 2 (.int .i64 f2)) 3 (.int .i64 h2)))
          clear CC q2 q3 g2 g3
          generalize World.setCell (World.setCell u2 _ _) _ _ = y3 at *
          have CC := Lib.hid (D.out y3 ba bc a3 5 (I2.out.grow B3.out).bits (by omega) (by omega))
          have d3 := valZ_small l a3 (show 5 ≤ 8 by omega)
          have d3w := valZ_small l (a3 + 5) (show 2 ≤ 8 by omega)
          obtain ⟨f3, hf⟩ : ∃ f, valZ l a3 5 = f := ⟨_, rfl⟩
          obtain ⟨h3, hh⟩ : ∃ h, valZ l a3 5 + valZ l (a3 + 5) 2 = h := ⟨_, rfl⟩
          rw [hh] at HQ CC
          rw [hf] at HQ CC
          clear hf hh d3 d3w
          obtain ⟨a4, ha⟩ : ∃ a, a3 + 5 + 2 = a := ⟨_, rfl⟩
          have hab4 : a4 ≤ 340 := by omega
          rw [ha] at CC
          try rw [ha] at HQ
          have HA4 := Lib.hid ha
          clear ha
          have q4 := cellAt X3.out 4
          have g4 := freeAt X3.out 4
          have q5 := cellAt X3.out 5
          have g5 := freeAt X3.out 5
          simp only [List.getElem?_toArray, List.getElem?_cons_zero, List.getElem?_cons_succ] at q4 q5
          go_wp2_with (go_at_call 136; refine CC.out.mono ?_)
          rintro e u3 ⟨rfl, hb⟩
          have Bu3 := Lib.hid (B3.out.trans (hb.mono B3.out.size))
          have Xu3 := Lib.hid (X3.out.grow hb)
          clear hb q4 q5 g4 g5
          have q4 := cellAt Xu3.out 4
          have g4 := freeAt Xu3.out 4
          have q5 := cellAt Xu3.out 5
          have g5 := freeAt Xu3.out 5
          simp only [List.getElem?_toArray, List.getElem?_cons_zero, List.getElem?_cons_succ] at q4 q5
          go_upto_region 22 with (fail)
          have B4 := Lib.hid (show Below wr.heap.size wr ((u3.setCell ⟨wr.heap.size, 4, none⟩ (.int .i64 f3)).setCell ⟨wr.heap.size, 5, none⟩ (.int .i64 h3)) from (Below.setCell ((Below.setCell (Bu3.out) (p := ⟨wr.heap.size, 4, none⟩) (Nat.le_refl _) (.int .i64 f3))) (p := ⟨wr.heap.size, 5, none⟩) (Nat.le_refl _) (.int .i64 h3)))
          have X4 := Lib.hid (show BoxAt ((u3.setCell ⟨wr.heap.size, 4, none⟩ (.int .i64 f3)).setCell ⟨wr.heap.size, 5, none⟩ (.int .i64 h3)) wr.heap.size #[.int .i64 f0, .int .i64 f1, .int .i64 f2, .int .i64 h2, .int .i64 f3, .int .i64 h3, .int .i64 0, .int .i64 0] 130 from (BoxAt.store (BoxAt.store Xu3.out 4 (.int .i64 f3)) 5 (.int .i64 h3)))
          clear CC q4 q5 g4 g5
          generalize World.setCell (World.setCell u3 _ _) _ _ = y4 at *
          have CC := Lib.hid (D.out y4 ba bc a4 6 (I2.out.grow B4.out).bits (by omega) (by omega))
          have d4 := valZ_small l a4 (show 6 ≤ 8 by omega)
          have d4w := valZ_small l (a4 + 6) (show 2 ≤ 8 by omega)
          obtain ⟨f4, hf⟩ : ∃ f, valZ l a4 6 = f := ⟨_, rfl⟩
          obtain ⟨h4, hh⟩ : ∃ h, valZ l a4 6 + valZ l (a4 + 6) 2 = h := ⟨_, rfl⟩
          rw [hh] at HQ CC
          rw [hf] at HQ CC
          clear hf hh d4 d4w
          obtain ⟨a5, ha⟩ : ∃ a, a4 + 6 + 2 = a := ⟨_, rfl⟩
          have hab5 : a5 ≤ 350 := by omega
          rw [ha] at CC
          try rw [ha] at HQ
          have HA5 := Lib.hid ha
          clear ha
          have q6 := cellAt X4.out 6
          have g6 := freeAt X4.out 6
          have q7 := cellAt X4.out 7
          have g7 := freeAt X4.out 7
          simp only [List.getElem?_toArray, List.getElem?_cons_zero, List.getElem?_cons_succ] at q6 q7
          go_wp2_with (go_at_call 136; refine CC.out.mono ?_)
          rintro e u4 ⟨rfl, hb⟩
          have Bu4 := Lib.hid (B4.out.trans (hb.mono B4.out.size))
          have Xu4 := Lib.hid (X4.out.grow hb)
          clear hb q6 q7 g6 g7
          have q6 := cellAt Xu4.out 6
          have g6 := freeAt Xu4.out 6
          have q7 := cellAt Xu4.out 7
          have g7 := freeAt Xu4.out 7
          simp only [List.getElem?_toArray, List.getElem?_cons_zero, List.getElem?_cons_succ] at q6 q7
          go_upto_region 23 with (fail)
          have B5 := Lib.hid (show Below wr.heap.size wr ((u4.setCell ⟨wr.heap.size, 6, none⟩ (.int .i64 f4)).setCell ⟨wr.heap.size, 7, none⟩ (.int .i64 h4)) from (Below.setCell ((Below.setCell (Bu4.out) (p := ⟨wr.heap.size, 6, none⟩) (Nat.le_refl _) (.int .i64 f4))) (p := ⟨wr.heap.size, 7, none⟩) (Nat.le_refl _) (.int .i64 h4)))
          have X5 := Lib.hid (show BoxAt ((u4.setCell ⟨wr.heap.size, 6, none⟩ (.int .i64 f4)).setCell ⟨wr.heap.size, 7, none⟩ (.int .i64 h4)) wr.heap.size #[.int .i64 f0, .int .i64 f1, .int .i64 f2, .int .i64 h2, .int .i64 f3, .int .i64 h3, .int .i64 f4, .int .i64 h4] 130 from (BoxAt.store (BoxAt.store Xu4.out 6 (.int .i64 f4)) 7 (.int .i64 h4)))
          clear CC q6 q7 g6 g7
          generalize World.setCell (World.setCell u4 _ _) _ _ = y5 at *
          have I3 := Lib.hid (I2.out.grow B5.out)
          have q := cellAt I3.out.ow 2
          simp only [List.getElem?_toArray, List.getElem?_cons_zero, List.getElem?_cons_succ] at q
          have p0 := cellAt X5.out 0
          have p1 := cellAt X5.out 1
          have p2 := cellAt X5.out 2
          have p3 := cellAt X5.out 3
          have p4 := cellAt X5.out 4
          have p5 := cellAt X5.out 5
          have p6 := cellAt X5.out 6
          have p7 := cellAt X5.out 7
          simp only [List.getElem?_toArray, List.getElem?_cons_zero, List.getElem?_cons_succ] at p0 p1 p2 p3 p4 p5 p6 p7
          have al := (Below.refl y5.heap.size y5).alloc (Nat.le_refl _) (.cells #[.int .i64 f0, .int .i64 f1, .int .i64 f2, .int .i64 h2, .int .i64 f3, .int .i64 h3, .int .i64 f4, .int .i64 h4] 130)
          have I4 := Lib.hid (I3.out.grow al)
          have Y4 := Lib.hid (show BoxAt (y5.alloc (.cells #[.int .i64 f0, .int .i64 f1, .int .i64 f2, .int .i64 h2, .int .i64 f3, .int .i64 h3, .int .i64 f4, .int .i64 h4] 130)) y5.heap.size [.int .i64 f0, .int .i64 f1, .int .i64 f2, .int .i64 h2, .int .i64 f3, .int .i64 h3, .int .i64 f4, .int .i64 h4].toArray 130 from heap_alloc_new _ _)
          clear al
          obtain ⟨i0, hi0, hz0, hz1, hz2⟩ := winfo130
          go_wp2_with (at_builtin; refine wpList_appRow wsl36 hi0 hz0 hz1 hz2 (by rfl) (by decide) (by decide) (by rfl) (.tmp 98) (.tmp 100) (by rfl) (by rfl) I4.out.t (by rfl) Y4.out (by rfl) (fun u hu => by simp only [List.mem_cons, List.not_mem_nil, or_false] at hu; rcases hu with rfl | rfl | rfl | rfl | rfl | rfl | rfl | rfl <;> rfl) (by omega) I4.out.size ?_)
          intro g cap w8 h2 h3
          have hw : w8.ownsRow s1 130 8 (.slice (some ⟨g, 0, none⟩) (j + 1) cap) (j + 1) (rowVals (tC l o) 8 (j + 1)) := by
            show w8.ownsRow s1 130 8 _ _ (rowVals (tC l o) 8 j ++ [tC l o j 0, tC l o j 1, tC l o j 2, tC l o j 3, tC l o j 4, tC l o j 5, tC l o j 6, tC l o j 7])
            obtain ⟨j0, j1, j2, j3, j4, j5, j6, j7⟩ := HQ.out
            rw [j0, j1, j2, j3, j4, j5, j6, j7]
            exact h2
          have I5 := Lib.hid (I4.out.nextT h3 hw)
          have kb := (Keep.of_grown h3).box I4.out.ow ⟨by have := I4.out.size; have := I4.out.low; omega, fun e => by have := (I4.out.t.lt _ e.symm).1; have := I4.out.low; omega⟩
          have qq := cellAt kb 2
          have ff := freeAt kb 2
          simp only [List.getElem?_toArray, List.getElem?_cons_zero, List.getElem?_cons_succ] at qq
          clear h2 h3 hw kb I3 I4 Y4 q hi0 hz0 hz1 hz2 p0 p1 p2 p3 p4 p5 p6 p7
          go_wp2_with fail
          exact ⟨⟨j + 1, _, hlt2, by go_num, by rw [show o + (j + 1) * 26 = a5 from by have := HA.out; have := HA1.out; have := HA2.out; have := HA3.out; have := HA4.out; have := HA5.out; omega], I5.out⟩, by simp [intOf]; omega⟩
        case neg =>
          obtain rfl : j = tn := by omega
          obtain ⟨sa, sc, hv1, hS, -, -⟩ := rowN_of (cell := sC l) I2.out.s (by unfold maxLen; omega) (fun i hi j hj => rowVals_get _ _ _ i hi j hj)
          obtain ⟨ta, tc, hv2, hT, -, -⟩ := rowN_of (cell := tC l o) I2.out.t (by unfold maxLen; omega) (fun i hi j hj => rowVals_get _ _ _ i hi j hj)
          subst hv1 hv2
          have q0 := cellAt I2.out.ow 0
          have q1 := cellAt I2.out.ow 1
          have q2 := cellAt I2.out.ow 2
          have p0 := cellAt I2.out.r 0
          have p1 := cellAt I2.out.r 1
          have p2 := cellAt I2.out.r 2
          have f0 := freeAt I2.out.r 0
          have f1 := freeAt I2.out.r 1
          have f2 := freeAt I2.out.r 2
          simp only [List.getElem?_toArray, List.getElem?_cons_zero, List.getElem?_cons_succ] at q0 q1 q2 p0 p1 p2
          have R3 := Lib.hid (((I2.out.r.store 0 (.int .i64 cr)).store 1 (.slice sa k sc)).store 2 (.slice ta j tc))
          have KS := Lib.hid (I2.out.fin (cr := cr) hS hT)
          clear hS hT
          go_wp2_with fail
          have d0 := cellAt R3.out 0
          have d1 := cellAt R3.out 1
          have d2 := cellAt R3.out 2
          simp at d0 d1 d2
          refine bodyPost_ret (v := .agg #[.int .i64 cr, .slice sa k sc, .slice ta j tc]) (by simp [results, Tryz.results71, go_sem, d0, d1, d2]) rfl ?_
          rw [refW_eq HCR.out HSN.out HTN.out HO.out]
          exact ⟨sa, sc, ta, tc, rfl, KS.out.1, KS.out.2.1, KS.out.2.2⟩
end Go.Proofs.YtclbmlmlhiiaeaaGreatDoor
