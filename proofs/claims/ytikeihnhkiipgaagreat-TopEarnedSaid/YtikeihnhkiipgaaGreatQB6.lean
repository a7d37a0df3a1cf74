/-
  Walks: tell; how many plans are right.
  Walks: Hot; what the best plan is told by.
  Plain: the best plan. Walks: Best, up to its loop.
-/
import Derived.Test.YtikeihnhkiipgaaGreatB5
import Derived.Lib.MinMax
import Derived.Laws.EntriesVeiled
namespace Go.Proofs.YtikeihnhkiipgaaGreat
open Go.RowKit

theorem rest_any (pot f h : Nat) (r : Int) (w : World) : Calls Tryz.prog 104 #[.int .i64 pot, plV f h, .int .i64 r] w fun e w' => e = .returned (.int .i64 r) ∧ Below w.heap.size w w' := by
  unfold plV
  go_enter Tryz.func104, Tryz.ntmps104
  go_wp2
  go_ret
  exact ⟨rfl, (Below.refl _ _).alloc (Nat.le_refl _) _⟩
theorem sum_any (a b : Int) (w : World) : Calls Tryz.prog 105 #[.int .i64 a, .int .i64 b] w fun e w' => e = .returned (.int .i64 (wrap64 (a + b))) ∧ w = w' := by
  go_enter Tryz.func105, Tryz.ntmps105
  go_wp2
  go_ret
  exact ⟨rfl, rfl⟩
theorem min_any (a b : Int) (w : World) : Calls Tryz.prog 79 #[.int .i64 a, .int .i64 b] w fun e w' => e = .returned (.int .i64 (min a b)) ∧ w = w' := by
  go_enter Tryz.func79, Tryz.ntmps79
  go_wp2
  go_ret
  exact ⟨rfl, rfl⟩
theorem always_any (b : Nat) (w : World) : Calls Tryz.prog 75 #[bp b] w fun e w' => e = .returned (.bool true) ∧ Below w.heap.size w w' := by
  go_enter Tryz.func75, Tryz.ntmps75
  go_wp2
  go_ret
  exact ⟨rfl, Below.refl _ _⟩
/-- Five blocks, one behind the other. -/
theorem blocks5' {w W : World} {a b c d e : Obj} (h : ((((w.alloc a).alloc b).alloc c).alloc d).alloc e = W) : W.heap[w.heap.size]? = some a ∧ W.heap[w.heap.size + 1]? = some b ∧ W.heap[w.heap.size + 2]? = some c ∧ W.heap[w.heap.size + 3]? = some d ∧ W.heap[w.heap.size + 4]? = some e ∧ Below w.heap.size w W := by
  obtain ⟨h0, h1, h2, h3, h4, -, hB⟩ := blocks5 h
  exact ⟨h0, h1, h2, h3, h4, hB⟩
/-- What tell makes, at s. -/
structure Told (b s : Nat) (vm vj : Value) (z : Int) (W : World) : Prop where
  ptr : BoxAt W s #[bp b] 154
  tal : BoxAt W (s + 1) #[.int .i64 z, vm, vj] 165
  map : W.heap[s + 2]? = some (.map #[] 0)
  kept : BoxAt W (s + 3) #[.map (some (s + 2))] 190
  on : BoxAt W (s + 4) #[.func (.func 99) #[] #[bp s, bp (s + 1), bp (s + 3), bp (s + 4)]] 162
def onV (s : Nat) : Value := .func (.func 99) #[] #[bp s, bp (s + 1), bp (s + 3), bp (s + 4)]
theorem tell_any (b : Nat) (vm vj : Value) (z : Int) (w : World) :
    Calls Tryz.prog 78 #[bp b, .agg #[.int .i64 z, vm, vj]] w fun e w' => e = .returned (onV w.heap.size) ∧ Told b w.heap.size vm vj z w' ∧ Below w.heap.size w w' := by
  have hmm : ∀ W : World, (Instr.makeMap 190 none).run Tryz.prog W = .ok (.map (some W.heap.size)) (W.alloc (.map #[] 0)) := fun W => by simp [Instr.makeMap, go_sem]
  go_enter Tryz.func78, Tryz.ntmps78
  go_wp2_with fail
  generalize hW : World.alloc _ _ = W
  obtain ⟨h0, h1, h2, h3, h4, hB⟩ := blocks5' hW
  have HT := Lib.hid (show Told b w.heap.size vm vj z W from ⟨h0, h1, h2, h3, h4⟩)
  clear hW h0 h1 h2 h3 h4
  go_ret
  exact ⟨rfl, HT.out, hB⟩
theorem Told.tw {p : PN} {fa qa : Option Addr} {fc qc b s : Nat} {vm vj : Value} {z : Int} {W : World} (h : Told b s vm vj z W) (T : Nat → Mk → Option Int) (MI : World → Prop) (hb : BoxAt W b (p.box fa qa fc qc) 160) (hA : p.At fa qa W) (mi : MI W) :
    TW p T fa qa fc qc b s (s + 1) (s + 3) (s + 4) (s + 2) vm vj z MI W := ⟨h.ptr, h.tal, h.kept, h.on, hb, hA, mi, ⟨#[], 0, h.map, fun e he => by cases he⟩⟩
theorem start_ok : Mk.start.Ok := ⟨by decide, by decide, by decide⟩
theorem foot_true : Foot (fun _ => True) (fun _ => False) := ⟨fun _ _ _ _ => trivial, fun _ _ _ h => h.elim⟩
theorem keepX_below {k : Nat} {A B : World} {n : Nat} (h : KeepX k A B) (hn : n ≤ k) (hk : k < A.heap.size) : Below n A B := h.to_below fun i hi => ⟨by omega, by omega⟩
set_option maxRecDepth 100000 in
set_option maxHeartbeats 4000000 in
theorem ways_any (p : PN) (ok : p.Ok) (fa qa : Option Addr) (fc qc b : Nat) (w : World) (hb : BoxAt w b (p.box fa qa fc qc) 160) (hA : p.At fa qa w) :
    Calls Tryz.prog 82 #[bp b] w fun e w' => (∃ x, e = .returned (.int .i64 x)) ∧ Below w.heap.size w w' := by
  have C1 := Lib.hid (tell_any b (.func (.func 104) #[] #[]) (.func (.func 105) #[] #[]) 1 w)
  have C2 := Lib.hid (fun W (h : Told b w.heap.size (.func (.func 104) #[] #[]) (.func (.func 105) #[] #[]) 1 W) (hB : Below w.heap.size w W) =>
    tell1_any p ok fa qa fc qc b w.heap.size (w.heap.size + 1) (w.heap.size + 3) (w.heap.size + 4) (w.heap.size + 2) 104 105 #[] #[] 1 (fun _ _ _ r => r) (fun a b => wrap64 (a + b)) (fun _ => True) (fun _ => False) foot_true
      (fun args W => by kernel_rfl) (fun args W => by kernel_rfl) (fun W pot f h r _ _ _ _ _ _ => rest_any pot f h r W) (fun W x y => sum_any x y W) p.qn Mk.start W (Nat.zero_add _) start_ok (h.tw _ _ (hb.grow hB) (hA.grow hB) trivial))
  unfold onV at C1
  unfold Mk.start Mk.v Mk.cs TellPost at C2
  dsimp only at C2
  clear hb hA
  go_enter Tryz.func82, Tryz.ntmps82
  go_wp2_with (go_at_call 78; refine C1.out.mono ?_; rintro e w1 ⟨rfl, ht, hb1⟩)
  have HT := Lib.hid ht
  have HB := Lib.hid hb1
  clear ht hb1
  refine (C2.out w1 HT.out HB.out).mono ?_
  rintro e w2 ⟨rfl, hk2, -⟩
  have HK := Lib.hid hk2
  clear hk2
  go_wp2_with fail
  go_ret
  exact ⟨⟨_, rfl⟩, HB.out.trans (keepX_below HK.out (by omega) (lt_of_heap HT.out.map))⟩
/-- The pitch's box, and the error's. -/
structure CI (w : World) (p : PN) (fa qa : Option Addr) (fc qc : Nat) (W : World) : Prop where
  bel : Below w.heap.size w W
  box : BoxAt W w.heap.size (p.cs fa qa fc qc) 27
  e : BoxAt W (w.heap.size + 1) #[.int .i64 0] 33
  at' : p.At fa qa W
theorem CI.grow {w W W' : World} {p : PN} {fa qa : Option Addr} {fc qc : Nat} (h : CI w p fa qa fc qc W) (hb : Below W.heap.size W W') : CI w p fa qa fc qc W' := ⟨h.bel.next hb, h.box.grow hb, h.e.grow hb, h.at'.grow hb⟩
theorem CI.cells {w W : World} {p : PN} {fa qa : Option Addr} {fc qc : Nat} (h : CI w p fa qa fc qc W) : W.cell? ⟨w.heap.size, 0, none⟩ = some (.int .i64 p.H) ∧ W.cell? ⟨w.heap.size, 1, none⟩ = some (.int .i64 p.fr) ∧ W.cell? ⟨w.heap.size, 2, none⟩ = some (.int .i64 p.pe) ∧ W.cell? ⟨w.heap.size, 3, none⟩ = some (.slice fa p.fn fc) ∧ W.cell? ⟨w.heap.size, 4, none⟩ = some (.slice qa p.qn qc) :=
  ⟨cellAt h.box 0, cellAt h.box 1, cellAt h.box 2, cellAt h.box 3, cellAt h.box 4⟩
set_option maxRecDepth 100000 in
set_option maxHeartbeats 4000000 in
theorem count_ok (p : PN) (ok : p.Ok) (fa qa : Option Addr) (fc qc : Nat) (w : World) (hA : p.At fa qa w) :
    Calls Tryz.prog 53 #[.agg (p.cs fa qa fc qc)] w fun e w' => (∃ x, e = .returned (.tuple #[.int .i64 x, .int .i64 0])) ∧ Below w.heap.size w w' := by
  have I0 := Lib.hid (show CI w p fa qa fc qc ((w.alloc (.cells (p.cs fa qa fc qc) 27)).alloc (.cells #[.int .i64 0] 33)) from by
    obtain ⟨z0, z1, -, hB⟩ := blocks2 (show (w.alloc (.cells (p.cs fa qa fc qc) 27)).alloc (.cells #[.int .i64 0] 33) = _ from rfl)
    exact ⟨hB, z0, z1, hA.grow hB⟩)
  have C1 := Lib.hid (fun W (h : p.At fa qa W) => open_any p ok fa qa fc qc 75 #[] W h (fun b W => by kernel_rfl) (fun b W _ _ => always_any b W))
  have C2 := Lib.hid (fun b W (h1 : BoxAt W b (p.box fa qa fc qc) 160) (h2 : p.At fa qa W) => ways_any p ok fa qa fc qc b W h1 h2)
  clear hA
  unfold PN.cs at *
  go_enter_defers Tryz.func53, Tryz.ntmps53
  go_upto_region 2 with (fail)
  generalize World.alloc (World.alloc w _) _ = w0 at *
  obtain ⟨q0, q1, q2, q3, q4⟩ := I0.out.cells
  have e0 := cellAt I0.out.e 0
  have f0 := freeAt I0.out.e 0
  simp only [List.getElem?_toArray, List.getElem?_cons_zero] at e0
  go_wp2_with (go_at_call 74; refine (C1.out _ I0.out.at').mono ?_; rintro e w1 ⟨b, rfl, hb0, hbx, hb1⟩)
  have X1 := Lib.hid hbx
  have I1 := Lib.hid (I0.out.grow hb1)
  clear hbx hb1 q0 q1 q2 q3 q4 e0 f0
  refine (C2.out b w1 X1.out I1.out.at').mono ?_
  rintro e w2 ⟨⟨x, rfl⟩, hb2⟩
  have I2 := Lib.hid (I1.out.grow hb2)
  clear hb2 X1 I1
  have r0 := cellAt I2.out.e 0
  have f0 := freeAt I2.out.e 0
  simp only [List.getElem?_toArray, List.getElem?_cons_zero] at r0
  go_wp2_with fail
  refine leaves_cons (f := 73) (args := #[bp (w.heap.size + 1)]) (by simp) (by simp [go_sem]) ?_
  refine (Pi.answer_idle _ _).mono ?_
  rintro e u' w'' ⟨rfl, rfl, rfl⟩
  simp [Leaves, settle, results, Tryz.results53, go_sem, r0]
  exact I2.out.bel.setCell (by dsimp only; omega) _
end Go.Proofs.YtikeihnhkiipgaaGreat

namespace Go.Proofs.YtikeihnhkiipgaaGreat
open Go.RowKit

theorem isPot_any (p : PN) (ok : p.Ok) (fa qa : Option Addr) (fc qc b n : Nat) (w : World) (hb : BoxAt w b (p.box fa qa fc qc) 160) (hn : n < p.qn) :
    Calls Tryz.prog 84 #[bp b, .int .i64 n] w fun e w' => e = .returned (.bool true) ∧ w = w' := by
  obtain ⟨q0, q1, q2, q3, q4, q5, q6⟩ := box_cells hb
  have hq := ok.hqn
  have hB := inB_true (n := (n : Int)) (lo := 0) (hi := (p.qn : Int) - 1) (by omega)
  go_enter Tryz.func84, Tryz.ntmps84
  go_wp2_with (go_at_call 94; refine (Pi.within_any _ _ _ _).mono ?_; rintro e w' ⟨rfl, rfl⟩)
  go_ret
  exact ⟨rfl, rfl⟩
theorem isHour_any (p : PN) (ok : p.Ok) (fa qa : Option Addr) (fc qc b n : Nat) (w : World) (hb : BoxAt w b (p.box fa qa fc qc) 160) (hn : n < p.H) :
    Calls Tryz.prog 85 #[bp b, .int .i64 n] w fun e w' => e = .returned (.bool true) ∧ w = w' := by
  obtain ⟨q0, q1, q2, q3, q4, q5, q6⟩ := box_cells hb
  have hq := ok.hH
  have hB := inB_true (n := (n : Int)) (lo := 0) (hi := (p.H : Int) - 1) (by omega)
  go_enter Tryz.func85, Tryz.ntmps85
  go_wp2_with (go_at_call 94; refine (Pi.within_any _ _ _ _).mono ?_; rintro e w' ⟨rfl, rfl⟩)
  go_ret
  exact ⟨rfl, rfl⟩
theorem hot1_any (p : PN) (ok : p.Ok) (fa qa : Option Addr) (fc qc b c1 c2 n h : Nat) (w : World) (hb : BoxAt w b (p.box fa qa fc qc) 160) (hn : n < p.qn) (hh : h < p.H) (x1 : BoxAt w c1 #[.int .i64 n] 3) (x2 : BoxAt w c2 #[.int .i64 h] 3) :
    Calls Tryz.prog 83 #[bp b, bp c1, bp c2] w fun e w' => e = .returned (.bool true) ∧ Below w.heap.size w w' := by
  have c0 := cellAt x1 0
  have d0 := cellAt x2 0
  simp only [List.getElem?_toArray, List.getElem?_cons_zero] at c0 d0
  have C1 := Lib.hid (isPot_any p ok fa qa fc qc b n w hb hn)
  have C2 := Lib.hid (isHour_any p ok fa qa fc qc b h w hb hh)
  clear hb x1 x2 ok
  go_enter Tryz.func83, Tryz.ntmps83
  go_wp2_with (first | (go_at_call 84; refine C1.out.mono ?_; rintro e w' ⟨rfl, rfl⟩) | (go_at_call 85; refine C2.out.mono ?_; rintro e w' ⟨rfl, rfl⟩))
  go_ret
  exact ⟨rfl, Below.refl _ _⟩
/-- The boxes of Hot. -/
structure HI (w : World) (p : PN) (fa qa : Option Addr) (fc qc n h : Nat) (W : World) : Prop where
  bel : Below w.heap.size w W
  box : BoxAt W w.heap.size (p.cs fa qa fc qc) 27
  x1 : BoxAt W (w.heap.size + 1) #[.int .i64 n] 3
  x2 : BoxAt W (w.heap.size + 2) #[.int .i64 h] 3
  r : BoxAt W (w.heap.size + 3) #[.int .i64 0, .int .i64 0] 50
  e : BoxAt W (w.heap.size + 4) #[.int .i64 0] 33
  at' : p.At fa qa W
theorem HI.grow {w W W' : World} {p : PN} {fa qa : Option Addr} {fc qc n h : Nat} (z : HI w p fa qa fc qc n h W) (hb : Below W.heap.size W W') : HI w p fa qa fc qc n h W' := ⟨z.bel.next hb, z.box.grow hb, z.x1.grow hb, z.x2.grow hb, z.r.grow hb, z.e.grow hb, z.at'.grow hb⟩
theorem HI.cells {w W : World} {p : PN} {fa qa : Option Addr} {fc qc n h : Nat} (z : HI w p fa qa fc qc n h W) : (W.cell? ⟨w.heap.size, 0, none⟩ = some (.int .i64 p.H) ∧ W.cell? ⟨w.heap.size, 1, none⟩ = some (.int .i64 p.fr) ∧ W.cell? ⟨w.heap.size, 2, none⟩ = some (.int .i64 p.pe) ∧ W.cell? ⟨w.heap.size, 3, none⟩ = some (.slice fa p.fn fc) ∧ W.cell? ⟨w.heap.size, 4, none⟩ = some (.slice qa p.qn qc)) ∧ W.cell? ⟨w.heap.size + 1, 0, none⟩ = some (.int .i64 n) ∧ W.cell? ⟨w.heap.size + 2, 0, none⟩ = some (.int .i64 h) :=
  ⟨⟨cellAt z.box 0, cellAt z.box 1, cellAt z.box 2, cellAt z.box 3, cellAt z.box 4⟩, cellAt z.x1 0, cellAt z.x2 0⟩
/-- .. with the pitch that is looked at. -/
structure HJ (w : World) (p : PN) (fa qa : Option Addr) (fc qc n h b : Nat) (W : World) : Prop where
  i : HI w p fa qa fc qc n h W
  bx : BoxAt W b (p.box fa qa fc qc) 160
theorem HJ.grow {w W W' : World} {p : PN} {fa qa : Option Addr} {fc qc n h b : Nat} (z : HJ w p fa qa fc qc n h b W) (hb : Below W.heap.size W W') : HJ w p fa qa fc qc n h b W' := ⟨z.i.grow hb, z.bx.grow hb⟩
theorem HJ.cells {w W : World} {p : PN} {fa qa : Option Addr} {fc qc n h b : Nat} (z : HJ w p fa qa fc qc n h b W) : (W.cell? ⟨w.heap.size + 1, 0, none⟩ = some (.int .i64 n) ∧ W.cell? ⟨w.heap.size + 2, 0, none⟩ = some (.int .i64 h) ∧ W.cell? ⟨b, 5, none⟩ = some (.int .u64 p.fr) ∧ W.cell? ⟨b, 6, none⟩ = some (.int .u64 (p.fr ||| p.pe : Nat))) ∧ HJ w p fa qa fc qc n h b W :=
  ⟨⟨z.i.cells.2.1, z.i.cells.2.2, (box_cells z.bx).2.2.2.2.2.1, (box_cells z.bx).2.2.2.2.2.2⟩, z⟩
theorem alloc_drewN {w w' : World} {o : Obj} {j : Nat} (h : ∃ k, w' = ((w.drewN j).alloc o).drewN k) : ∃ k, w' = (w.drewN k).alloc o := by
  obtain ⟨k, rfl⟩ := h
  exact ⟨j + k, by rw [← World.drewN_drewN]; rfl⟩
theorem drew_below {W w' : World} (h : ∃ j, w' = W.drewN j) : Below W.heap.size W w' := by
  obtain ⟨j, rfl⟩ := h
  exact below_drewN (Below.refl _ _) j
set_option maxRecDepth 100000 in
set_option maxHeartbeats 4000000 in
theorem hot_ok (p : PN) (ok : p.Ok) (fa qa : Option Addr) (fc qc n h : Nat) (w : World) (hA : p.At fa qa w) (hn : n < p.qn) (hh : h < p.H) (hhot : p.hot n h (p.fr ||| p.pe) ≤ p.H) :
    Calls Tryz.prog 54 #[.agg (p.cs fa qa fc qc), .int .i64 n, .int .i64 h] w fun e w' => e = .returned (.tuple #[.agg #[.int .i64 (p.hot n h p.fr), .int .i64 (p.hot n h (p.fr ||| p.pe))], .int .i64 0]) ∧ Below w.heap.size w w' := by
  have I0 := Lib.hid (show HI w p fa qa fc qc n h (((((w.alloc (.cells (p.cs fa qa fc qc) 27)).alloc (.cells #[.int .i64 n] 3)).alloc (.cells #[.int .i64 h] 3)).alloc (.cells #[.int .i64 0, .int .i64 0] 50)).alloc (.cells #[.int .i64 0] 33)) from by
    obtain ⟨z0, z1, z2, z3, z4, hB⟩ := blocks5' (show ((((w.alloc (.cells (p.cs fa qa fc qc) 27)).alloc (.cells #[.int .i64 n] 3)).alloc (.cells #[.int .i64 h] 3)).alloc (.cells #[.int .i64 0, .int .i64 0] 50)).alloc (.cells #[.int .i64 0] 33) = _ from rfl)
    exact ⟨hB, z0, z1, z2, z3, z4, hA.grow hB⟩)
  have C1 := Lib.hid (fun W (z : HI w p fa qa fc qc n h W) => open_any p ok fa qa fc qc 83 #[bp (w.heap.size + 1), bp (w.heap.size + 2)] W z.at' (fun b W => by kernel_rfl) (fun b W' hB hb => hot1_any p ok fa qa fc qc b (w.heap.size + 1) (w.heap.size + 2) n h W' hb hn hh (z.x1.grow hB) (z.x2.grow hB)))
  have hfr : p.fr < 4096 := by have := pow12 ok.hH; have := ok.hfr; omega
  have C2 := Lib.hid (fun b W (z : HJ w p fa qa fc qc n h b W) => hot_any p ok fa qa fc qc b n h p.fr W z.bx z.i.at' hn (by omega) hfr)
  have C3 := Lib.hid (fun b W (z : HJ w p fa qa fc qc n h b W) => hot_any p ok fa qa fc qc b n h (p.fr ||| p.pe) W z.bx z.i.at' hn (by omega) ok.col)
  have hle : decide ((p.hot n h (p.fr ||| p.pe) : Int) ≤ p.H) = true := decide_eq_true (by omega)
  have hle' : p.hot n h (p.fr ||| p.pe) ≤ p.H := hhot
  generalize p.hot n h (p.fr ||| p.pe) = y2 at *
  generalize p.hot n h p.fr = y1 at *
  clear hA ok hfr hhot
  unfold PN.cs at *
  go_enter_defers Tryz.func54, Tryz.ntmps54
  go_upto_region 2 with (fail)
  generalize World.alloc _ _ = w0 at *
  obtain ⟨⟨q0, q1, q2, q3, q4⟩, q5, q6⟩ := I0.out.cells
  go_upto_region 3 with (go_at_call 74; refine (C1.out _ I0.out).mono ?_; rintro e w1 ⟨b, rfl, hb0, hbx, hb1⟩)
  have J1 := Lib.hid (show HJ w p fa qa fc qc n h b w1 from ⟨I0.out.grow hb1, hbx⟩)
  clear hbx hb1 q0 q1 q2 q3 q4 q5 q6 I0 C1 hb0
  have D1 := Lib.hid (J1.out.grow (Below.drew (Below.refl w1.heap.size w1)))
  have HL1 := Lib.hid J1.out.i.bel.size
  have E1 := Lib.hid (fun j => J1.out.grow (below_drewN (Below.refl w1.heap.size w1) j))
  clear J1
  have J0 := Lib.hid (D1.out.cells.1)
  have J2 := Lib.hid (fun j => (E1.out j).cells.1)
  have J4 := Lib.hid (fun j o => ((E1.out j).grow ((Below.refl _ (w1.drewN j)).alloc (Nat.le_refl _) o)).cells.1)
  have J5 := Lib.hid (fun j o v v' => ((E1.out j).grow ((((Below.refl _ (w1.drewN j)).alloc (Nat.le_refl _) o).setCell (p := ⟨w1.heap.size, 0, none⟩) (Nat.le_refl _) v).setCell (p := ⟨w1.heap.size, 1, none⟩) (Nat.le_refl _) v')).cells.1)
  have K0 := Lib.hid (C2.out b w1.drew D1.out)
  have K1 := Lib.hid (fun j => C3.out b (w1.drewN j) (E1.out j))
  have K2 := Lib.hid (fun j o => (C3.out b ((w1.drewN j).alloc o) ((E1.out j).grow ((Below.refl _ (w1.drewN j)).alloc (Nat.le_refl _) o))).mono fun _ _ h => (⟨h.1, alloc_drewN h.2⟩ : _ ∧ _))
  have K3 := Lib.hid (fun j o => (C2.out b ((w1.drewN j).alloc o) ((E1.out j).grow ((Below.refl _ (w1.drewN j)).alloc (Nat.le_refl _) o))).mono fun _ _ h => (⟨h.1, alloc_drewN h.2⟩ : _ ∧ _))
  have J6 := Lib.hid (fun o => (D1.out.grow ((Below.refl _ w1.drew).alloc (Nat.le_refl _) o)).cells.1)
  have K4 := Lib.hid (fun o => (C2.out b ((w1.drewN 1).alloc o) ((E1.out 1).grow ((Below.refl _ (w1.drewN 1)).alloc (Nat.le_refl _) o))).mono fun _ _ h => (⟨h.1, alloc_drewN h.2⟩ : _ ∧ _))
  have g0 : ∀ k, ((w1.drewN k).alloc (.cells #[.int .i64 0, .int .i64 0] 50)).frozen? ⟨w1.heap.size, 0, none⟩ = false := fun k => freeAt (heap_alloc_new (w1.drewN k) _) 0
  have g1 : ∀ k, ((w1.drewN k).alloc (.cells #[.int .i64 0, .int .i64 0] 50)).frozen? ⟨w1.heap.size, 1, none⟩ = false := fun k => freeAt (heap_alloc_new (w1.drewN k) _) 1
  have g2 : ∀ k, ((w1.drewN k).alloc (.cells #[.int .i64 0, .int .i64 0] 50)).cell? ⟨w1.heap.size, 0, none⟩ = some (.int .i64 0) := fun k => cellAt (heap_alloc_new (w1.drewN k) _) 0
  have g3 : ∀ k, ((w1.drewN k).alloc (.cells #[.int .i64 0, .int .i64 0] 50)).cell? ⟨w1.heap.size, 1, none⟩ = some (.int .i64 0) := fun k => cellAt (heap_alloc_new (w1.drewN k) _) 1
  refine wp_region_noPanic ?_
  go_region_held3 (fun w' => (w'.cell? ⟨w.heap.size + 1, 0, none⟩ = some (.int .i64 n) ∧ w'.cell? ⟨w.heap.size + 2, 0, none⟩ = some (.int .i64 h) ∧ w'.cell? ⟨b, 5, none⟩ = some (.int .u64 p.fr) ∧ w'.cell? ⟨b, 6, none⟩ = some (.int .u64 (p.fr ||| p.pe : Nat))))
    (first | with_reducible exact J0.out | with_reducible exact J2.out _ | with_reducible exact J4.out _ _ | with_reducible exact J5.out _ _ _ _ | exact J6.out _)
    (first | (go_at_call 77; with_reducible refine K0.out.mono ?_; rintro e w4 ⟨rfl, j, rfl⟩) | (go_at_call 77; with_reducible refine (K1.out _).mono ?_; rintro e w4 ⟨rfl, j, rfl⟩) | (go_at_call 77; with_reducible refine (K2.out _ _).mono ?_; rintro e w4 ⟨rfl, j, rfl⟩) | (go_at_call 77; with_reducible refine (K3.out _ _).mono ?_; rintro e w4 ⟨rfl, j, rfl⟩) | (go_at_call 77; refine (K4.out _).mono ?_; rintro e w4 ⟨rfl, j, rfl⟩))
  all_goals
    refine NoPanic.normal ?_
    generalize hW : World.setCell (World.setCell (World.alloc (World.drewN w1 _) _) _ _) _ _ = w5
    have J9 := Lib.hid (show HJ w p fa qa fc qc n h b w5 from by rw [← hW]; exact (E1.out _).grow ((((Below.refl _ (w1.drewN _)).alloc (Nat.le_refl _) _).setCell (p := ⟨w1.heap.size, 0, none⟩) (Nat.le_refl _) _).setCell (p := ⟨w1.heap.size, 1, none⟩) (Nat.le_refl _) _))
    have T9 := Lib.hid (show BoxAt w5 w1.heap.size #[.int .i64 y1, .int .i64 y2] 50 from by rw [← hW]; exact BoxAt.store (BoxAt.store (show BoxAt ((w1.drewN _).alloc (.cells #[.int .i64 0, .int .i64 0] 50)) w1.heap.size #[.int .i64 0, .int .i64 0] 50 from heap_alloc_new (w1.drewN _) _) 0 _) 1 _)
    clear hW
    generalize w1.heap.size = t9 at *
    have t0 := cellAt T9.out 0
    have t1 := cellAt T9.out 1
    have q0 := (box_cells J9.out.bx).1
    simp only [List.getElem?_toArray, List.getElem?_cons_zero, List.getElem?_cons_succ] at t0 t1
    clear J0 J2 J4 J5 J6 K0 K1 K2 K3 K4 D1 E1 g0 g1 g2 g3
    go_wp2_with fail
    refine wp_region_noPanic ?_
    go_quiet ((go_at_call 80; exact Calls.quiet_of ((Pi.ask_true _ _).mono fun _ _ h => ⟨h.1, 0, h.2.symm⟩)))
    refine NoPanic.normal ?_
    have hd := below_drewN (Below.refl w5.heap.size w5) nq
    have J7 := Lib.hid (J9.out.grow hd)
    have T7 := Lib.hid (T9.out.grow hd)
    clear J9 T9 hd t0 t1 q0
    generalize World.drewN w5 nq = w7 at *
    have t0 := cellAt T7.out 0
    have t1 := cellAt T7.out 1
    have r0 := cellAt J7.out.i.r 0
    have r1 := cellAt J7.out.i.r 1
    have e0 := cellAt J7.out.i.e 0
    have f0 := freeAt J7.out.i.r 0
    have f1 := freeAt J7.out.i.r 1
    have f2 := freeAt J7.out.i.e 0
    simp only [List.getElem?_toArray, List.getElem?_cons_zero, List.getElem?_cons_succ] at t0 t1 r0 r1 e0
    go_wp2_with fail
    have R9 := Lib.hid (show BoxAt (((w7.setCell ⟨w.heap.size + 3, 0, none⟩ (.int .i64 y1)).setCell ⟨w.heap.size + 3, 1, none⟩ (.int .i64 y2)).setCell ⟨w.heap.size + 4, 0, none⟩ (.int .i64 0)) (w.heap.size + 3) #[.int .i64 y1, .int .i64 y2] 50 from ((J7.out.i.r.store 0 _).store 1 _).set _ _ (by dsimp only; omega))
    have E9 := Lib.hid (show BoxAt (((w7.setCell ⟨w.heap.size + 3, 0, none⟩ (.int .i64 y1)).setCell ⟨w.heap.size + 3, 1, none⟩ (.int .i64 y2)).setCell ⟨w.heap.size + 4, 0, none⟩ (.int .i64 0)) (w.heap.size + 4) #[.int .i64 0] 33 from ((J7.out.i.e.set _ _ (by dsimp only; omega)).set _ _ (by dsimp only; omega)).store 0 _)
    have B9 := Lib.hid (show Below w.heap.size w (((w7.setCell ⟨w.heap.size + 3, 0, none⟩ (.int .i64 y1)).setCell ⟨w.heap.size + 3, 1, none⟩ (.int .i64 y2)).setCell ⟨w.heap.size + 4, 0, none⟩ (.int .i64 0)) from ((J7.out.i.bel.setCell (by dsimp only; omega) _).setCell (by dsimp only; omega) _).setCell (by dsimp only; omega) _)
    clear t0 t1 r0 r1 e0 f0 f1 f2
    generalize World.setCell (World.setCell (World.setCell w7 _ _) _ _) _ _ = w9 at *
    have r0 := cellAt R9.out 0
    have r1 := cellAt R9.out 1
    have e0 := cellAt E9.out 0
    simp only [List.getElem?_toArray, List.getElem?_cons_zero, List.getElem?_cons_succ] at r0 r1 e0
    refine leaves_cons (f := 73) (args := #[bp (w.heap.size + 4)]) (by simp) (by simp [go_sem]) ?_
    refine (Pi.answer_idle _ _).mono ?_
    rintro e u' w'' ⟨rfl, rfl, rfl⟩
    simp [Leaves, settle, results, Tryz.results54, go_sem, r0, r1, e0]
    exact B9.out
/-- What a plan is told by: when all is hot. -/
def PN.late (p : PN) (pot _f h : Nat) (r : Int) : Int := max r (p.hot pot h (p.fr ||| p.pe))
set_option maxRecDepth 100000 in
set_option maxHeartbeats 4000000 in
theorem best1_any (p : PN) (ok : p.Ok) (fa qa : Option Addr) (fc qc b c pot f h : Nat) (r : Int) (w : World) (hc : BoxAt w c #[bp b] 154) (hb : BoxAt w b (p.box fa qa fc qc) 160) (hA : p.At fa qa w) (hp : pot < p.qn) (hh : h ≤ p.H) :
    Calls Tryz.prog 76 #[.int .i64 pot, plV f h, .int .i64 r, bp c] w fun e w' => e = .returned (.int .i64 (p.late pot f h r)) ∧ Below w.heap.size w w' := by
  have al := (Below.refl w.heap.size w).alloc (Nat.le_refl _) (.cells #[.int .i64 f, .int .i64 h] 122)
  have I0 := Lib.hid (show RW p fa qa fc qc b w.heap.size f h (w.alloc (.cells #[.int .i64 f, .int .i64 h] 122)) from ⟨hb.grow al, hA.grow al, heap_alloc_new _ _⟩)
  have X0 := Lib.hid (hc.grow al)
  have B0 := Lib.hid al
  have C1 := Lib.hid (fun W (z : RW p fa qa fc qc b w.heap.size f h W) j => hot_any p ok fa qa fc qc b pot h (p.fr ||| p.pe) (W.drewN j) (show BoxAt (W.drewN j) b (p.box fa qa fc qc) 160 from z.box) (z.at'.grow (below_drewN (Below.refl W.heap.size W) j)) hp hh ok.col)
  have HL := Lib.hid (show p.late pot f h r = max r (p.hot pot h (p.fr ||| p.pe)) from rfl)
  generalize p.late pot f h r = y at *
  generalize p.hot pot h (p.fr ||| p.pe) = x at *
  clear al hc hb hA ok
  unfold plV
  go_enter Tryz.func76, Tryz.ntmps76
  go_upto_region 1 with (fail)
  generalize World.alloc w _ = w0 at *
  obtain ⟨q0, q1, q2, q3, q4, q5, q6⟩ := box_cells I0.out.box
  have p1 := cellAt I0.out.pl 1
  have d0 := cellAt X0.out 0
  simp only [List.getElem?_toArray, List.getElem?_cons_zero, List.getElem?_cons_succ] at p1 d0
  go_quiet ((go_at_call 77; exact Calls.quiet_of (C1.out _ I0.out _)))
  go_wp2_with fail
  go_ret
  exact ⟨ret_int (by rw [HL.out]), below_drewN B0.out _⟩
end Go.Proofs.YtikeihnhkiipgaaGreat

namespace Go.Proofs.YtikeihnhkiipgaaGreat
open Go.RowKit

/-- When all is hot at best, from a mark on; whether a step is one of a best plan; the plan. -/
def PN.end' (p : PN) : Nat → Mk → Option Int := p.tell p.late min 0
def PN.fits (p : PN) (n : Int) (m : Mk) (x : Stp) : Bool := match p.end' (p.qn - x.m.pot) x.m with
  | none => false
  | some r => decide (p.late m.pot x.f x.h r ≤ n)
def PN.plan (p : PN) (n : Int) : Nat → Mk → List Stp
  | 0, _ => []
  | k + 1, m => match (p.steps m).find? (p.fits n m) with
    | none => []
    | some x => x :: p.plan n k x.m
/-- A fold that tells the least: it is that of one of the steps, and none is less. -/
theorem tell_min {more : Nat → Nat → Nat → Int → Int} {T : Mk → Option Int} {pot : Nat} : ∀ {L : List Stp} {acc : Option Int} {a : Int}, L.foldl (tellStep more min T pot) acc = some a →
    (acc = some a ∨ ∃ x ∈ L, ∃ r, T x.m = some r ∧ more pot x.f x.h r = a)
  | [], acc, a, h => .inl h
  | x :: L, acc, a, h => by
    rw [List.foldl_cons] at h
    rcases tell_min h with h1 | ⟨y, hy, r, h2, h3⟩
    · unfold tellStep at h1
      cases hT : T x.m with
      | none => rw [hT] at h1; exact .inl h1
      | some r =>
        rw [hT] at h1
        dsimp only at h1
        unfold accPut at h1
        cases acc with
        | none =>
          dsimp only at h1
          exact .inr ⟨x, by simp, r, hT, Option.some.inj h1⟩
        | some b =>
          dsimp only at h1
          have h4 := Option.some.inj h1
          by_cases e : b ≤ more pot x.f x.h r
          · exact .inl (by congr 1; omega)
          · exact .inr ⟨x, by simp, r, hT, by omega⟩
    · exact .inr ⟨y, by simp [hy], r, h2, h3⟩
theorem fits_some {p : PN} {n : Int} {k : Nat} {m : Mk} {r : Int} (ok : p.Ok) (hm : m.Ok) (hk : m.pot + (k + 1) = p.qn) (h : p.end' (k + 1) m = some r) (hr : r ≤ n) :
    ∃ x, (p.steps m).find? (p.fits n m) = some x ∧ x ∈ p.steps m ∧ x.m.Ok ∧ x.m.pot = m.pot + 1 ∧ ∃ r', p.end' k x.m = some r' ∧ p.late m.pot x.f x.h r' ≤ n ∧ r' ≤ n := by
  have hT : (p.steps m).foldl (tellStep p.late min (p.end' k) m.pot) none = some r := h
  rcases tell_min hT with h0 | ⟨y, hy, r', h1, h2⟩
  · cases h0
  · have hpot : ∀ x ∈ p.steps m, x.m.Ok ∧ x.m.pot = m.pot + 1 := fun x hx => by
      obtain ⟨-, -, -, h4⟩ := mem_steps.1 hx
      rw [h4]
      exact next_ok ok hm _ _
    have hfit : ∀ x ∈ p.steps m, p.fits n m x = true ↔ ∃ r', p.end' k x.m = some r' ∧ p.late m.pot x.f x.h r' ≤ n := fun x hx => by
      unfold PN.fits
      rw [(hpot x hx).2, show p.qn - (m.pot + 1) = k by omega]
      cases p.end' k x.m with
      | none => simp
      | some r' => simp
    have hyf : p.fits n m y = true := (hfit y hy).2 ⟨r', h1, by omega⟩
    cases hf : (p.steps m).find? (p.fits n m) with
    | none => exact absurd hyf (by simpa using List.find?_eq_none.1 hf y hy)
    | some x =>
      have hx := List.mem_of_find?_eq_some hf
      obtain ⟨r2, h3, h4⟩ := (hfit x hx).1 (List.find?_some hf)
      refine ⟨x, rfl, hx, (hpot x hx).1, (hpot x hx).2, r2, h3, h4, ?_⟩
      unfold PN.late at h4
      omega
end Go.Proofs.YtikeihnhkiipgaaGreat
