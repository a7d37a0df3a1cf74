/-
  Walks: ReadIrons.
-/
import Derived.Test.YtclbmlmlhiiaeaaGreatDoorY4
namespace Go.Proofs.YtclbmlmlhiiaeaaGreatDoor
open Go.RowKit

def noI : IrR := ⟨0, [], [], [], []⟩
/-- The irons of a text, and why there are none. -/
def ironRes (t : List UInt8) : Int × IrR := if 1000 < t.length then (3, noI) else match readI t with
  | none => (8, noI)
  | some x => (0, x)
def ReadIronsPost (t : List UInt8) (w : World) (e : Ending) (w' : World) : Prop :=
  Below w.heap.size w w' ∧ ∃ oa ma sa ca oc mc sc cc op sp ok sk, e = .returned (.tuple #[.agg #[.int .i64 (toV (ironRes t).2).f, .slice oa (toV (ironRes t).2).on oc, .slice ma (toV (ironRes t).2).mn mc, .slice sa (toV (ironRes t).2).sn sc, .slice ca (toV (ironRes t).2).cn cc], .int .i64 (ironRes t).1]) ∧ IronsAt (toV (ironRes t).2) oa ma sa ca oc mc sc cc op sp ok sk w' ∧ IrBlk (fun b => w.heap.size ≤ b) (toV (ironRes t).2) oa ma sa ca op sp
theorem irons_none (w : World) : IronsAt (toV noI) none none none none 0 0 0 0 (fun _ => none) (fun _ => none) (fun _ => 0) (fun _ => 0) w :=
  ⟨row_none _ _ _, fun i hi => absurd hi (Nat.not_lt_zero i), row_none _ _ _, row_none _ _ _, fun i hi => absurd hi (Nat.not_lt_zero i), row_none _ _ _⟩
theorem ReadIronsPost.no {t : List UInt8} {w w' : World} {x : Int} (hR : ironRes t = (x, noI)) (hb : Below w.heap.size w w') : ReadIronsPost t w (.returned (.tuple #[.agg #[.int .i64 0, .slice none 0 0, .slice none 0 0, .slice none 0 0, .slice none 0 0], .int .i64 x])) w' := by
  refine ⟨hb, none, none, none, none, 0, 0, 0, 0, fun _ => none, fun _ => none, fun _ => 0, fun _ => 0, ?_⟩
  rw [hR]
  exact ⟨rfl, irons_none _, ⟨fun h => absurd h (Nat.lt_irrefl 0), fun i h => absurd h (Nat.not_lt_zero i), fun h => absurd h (Nat.lt_irrefl 0), fun h => absurd h (Nat.lt_irrefl 0), fun i h => absurd h (Nat.not_lt_zero i), fun h => absurd h (Nat.lt_irrefl 0)⟩⟩
/-- The results in their cells. -/
structure RI2 (w W : World) : Prop where
  bel : Below w.heap.size w W
  a : BoxAt W w.heap.size #[.int .i64 0, .slice none 0 0, .slice none 0 0, .slice none 0 0, .slice none 0 0] 34
  e : BoxAt W (w.heap.size + 1) #[.int .i64 0] 41
theorem RI2.grow {w W W' : World} (h : RI2 w W) (hb : Below W.heap.size W W') : RI2 w W' := ⟨h.bel.next hb, h.a.grow hb, h.e.grow hb⟩
set_option maxRecDepth 100000 in
set_option maxHeartbeats 4000000 in
theorem readIrons39_any (t : List UInt8) (w : World) (hlim : Lim w) (htab : Tab w) (h1 : 1 < w.heap.size) :
    Calls Tryz.prog 39 #[.string ⟨t.toArray⟩] w (ReadIronsPost t w) := by
  have I0 := Lib.hid (show RI2 w ((w.alloc (.cells #[.int .i64 0, .slice none 0 0, .slice none 0 0, .slice none 0 0, .slice none 0 0] 34)).alloc (.cells #[.int .i64 0] 41)) from by
    obtain ⟨z0, z1, -, hB⟩ := blocks2 (show (w.alloc (.cells #[.int .i64 0, .slice none 0 0, .slice none 0 0, .slice none 0 0, .slice none 0 0] 34)).alloc (.cells #[.int .i64 0] 41) = _ from rfl)
    exact ⟨hB, z0, z1⟩)
  have HL := Lib.hid hlim
  have HT := Lib.hid htab
  clear hlim htab
  go_enter_defers Tryz.func39, Tryz.ntmps39
  go_upto_region 2 with (fail)
  generalize World.alloc _ _ = W at *
  go_wp2_with (go_at_call 60; refine (filesIrons_any _).mono ?_)
  rintro e w1 ⟨rfl, hb1, hk1⟩
  have hWz := I0.out.bel.size
  have HK := Lib.hid hk1
  have I1 := Lib.hid (I0.out.grow hb1)
  have hWz1 : w.heap.size + 1 < W.heap.size := lt_of_heap I0.out.e
  have hkb : 1 < W.heap.size + 2 := by omega
  generalize W.heap.size + 2 = kb at *
  clear hb1 hk1 I0
  go_wp2_with fail
  have C2 := Lib.hid (read83_any kb t w1 HK.out (HL.out.keep (Keep.of_below I1.out.bel (C := fun k => k < w.heap.size) fun k hk => hk) h1) (HT.out.grow I1.out.bel) hkb)
  refine C2.out.mono ?_
  intro e w2 hpost
  obtain ⟨hb2, hh⟩ := hpost
  have I2 := Lib.hid (I1.out.grow hb2)
  have r0 := cellAt I2.out.e 0
  have f0 := freeAt I2.out.e 0
  have a0 := cellAt I2.out.a 0
  have a1 := cellAt I2.out.a 1
  have a2 := cellAt I2.out.a 2
  have a3 := cellAt I2.out.a 3
  have a4 := cellAt I2.out.a 4
  have fa0 := freeAt I2.out.a 0
  have fa1 := freeAt I2.out.a 1
  have fa2 := freeAt I2.out.a 2
  have fa3 := freeAt I2.out.a 3
  have fa4 := freeAt I2.out.a 4
  simp only [List.getElem?_toArray, List.getElem?_cons_zero, List.getElem?_cons_succ] at r0 a0 a1 a2 a3 a4
  by_cases ht : 1000 < t.length
  · rw [if_pos ht] at hh
    subst hh
    have HR := Lib.hid (show ironRes t = (3, noI) from if_pos ht)
    clear hb2 ht
    simp only [err]
    refine leaves_cons (f := 52) (args := #[bp (w.heap.size + 1)]) (by simp) (by simp [go_sem]) ?_
    refine (answer_panicking _ 0 3 [] _ I2.out.e).mono ?_
    rintro e u' w'' ⟨rfl, rfl, rfl⟩
    simp [Leaves, settle, results, Tryz.results39, go_sem, r0, a0, a1, a2, a3, a4]
    exact ReadIronsPost.no HR.out (I2.out.bel.setCell (by dsimp only; omega) _)
  · rw [if_neg ht] at hh
    cases hr : readI t with
    | none =>
      rw [hr] at hh
      have he : e = err 8 := hh
      subst he
      have HR := Lib.hid (show ironRes t = (8, noI) from by unfold ironRes; rw [if_neg ht, hr])
      clear hb2 ht hr hh
      simp only [err]
      refine leaves_cons (f := 52) (args := #[bp (w.heap.size + 1)]) (by simp) (by simp [go_sem]) ?_
      refine (answer_panicking _ 0 8 [] _ I2.out.e).mono ?_
      rintro e u' w'' ⟨rfl, rfl, rfl⟩
      simp [Leaves, settle, results, Tryz.results39, go_sem, r0, a0, a1, a2, a3, a4]
      exact ReadIronsPost.no HR.out (I2.out.bel.setCell (by dsimp only; omega) _)
    | some x =>
      rw [hr] at hh
      have HR := Lib.hid (show ironRes t = (0, x) from by unfold ironRes; rw [if_neg ht, hr])
      obtain ⟨oa, ma, sa, ca, oc, mc, sc, cc, op, sp, ok, sk, he, hI, hB⟩ := hh
      subst he
      have HX := Lib.hid (show ∀ W', Below w.heap.size w W' → IronsAt (toV x) oa ma sa ca oc mc sc cc op sp ok sk W' → IrBlk (fun b => w.heap.size ≤ b) (toV x) oa ma sa ca op sp → ReadIronsPost t w (.returned (.tuple #[.agg #[.int .i64 (toV x).f, .slice oa (toV x).on oc, .slice ma (toV x).mn mc, .slice sa (toV x).sn sc, .slice ca (toV x).cn cc], .int .i64 0])) W' from fun W' h1 h2 h3 => by
        refine ⟨h1, oa, ma, sa, ca, oc, mc, sc, cc, op, sp, ok, sk, ?_⟩
        rw [HR.out]
        exact ⟨rfl, h2, h3⟩)
      generalize toV x = X at *
      have hk3 : Keep (fun k => k ≠ w.heap.size ∧ k ≠ w.heap.size + 1) w2 ((((((w2.setCell ⟨w.heap.size, 0, none⟩ (.int .i64 X.f)).setCell ⟨w.heap.size, 1, none⟩ (.slice oa X.on oc)).setCell ⟨w.heap.size, 2, none⟩ (.slice ma X.mn mc)).setCell ⟨w.heap.size, 3, none⟩ (.slice sa X.sn sc)).setCell ⟨w.heap.size, 4, none⟩ (.slice ca X.cn cc)).setCell ⟨w.heap.size + 1, 0, none⟩ (.int .i64 0)) := Keep.set (Keep.set (Keep.set (Keep.set (Keep.set (Keep.set (Keep.refl _ _) _ _ _ (fun h => h.1 rfl)) _ _ _ (fun h => h.1 rfl)) _ _ _ (fun h => h.1 rfl)) _ _ _ (fun h => h.1 rfl)) _ _ _ (fun h => h.1 rfl)) _ _ _ (fun h => h.2 rfl)
      have hsz := I1.out.bel.size
      have hl1 := lt_of_heap I1.out.e
      have S3 := Lib.hid (hI.keep hk3 (hB.imp fun b hb => by omega))
      have B3 := Lib.hid (show Below w.heap.size w ((((((w2.setCell ⟨w.heap.size, 0, none⟩ (.int .i64 X.f)).setCell ⟨w.heap.size, 1, none⟩ (.slice oa X.on oc)).setCell ⟨w.heap.size, 2, none⟩ (.slice ma X.mn mc)).setCell ⟨w.heap.size, 3, none⟩ (.slice sa X.sn sc)).setCell ⟨w.heap.size, 4, none⟩ (.slice ca X.cn cc)).setCell ⟨w.heap.size + 1, 0, none⟩ (.int .i64 0)) from I2.out.bel.trans (hk3.to_below (fun k hk => by omega)))
      have HSB := Lib.hid (show IrBlk (fun b => w.heap.size ≤ b) X oa ma sa ca op sp from hB.imp fun b hb => by omega)
      have A3 := Lib.hid (show BoxAt ((((((w2.setCell ⟨w.heap.size, 0, none⟩ (.int .i64 X.f)).setCell ⟨w.heap.size, 1, none⟩ (.slice oa X.on oc)).setCell ⟨w.heap.size, 2, none⟩ (.slice ma X.mn mc)).setCell ⟨w.heap.size, 3, none⟩ (.slice sa X.sn sc)).setCell ⟨w.heap.size, 4, none⟩ (.slice ca X.cn cc)).setCell ⟨w.heap.size + 1, 0, none⟩ (.int .i64 0)) w.heap.size #[.int .i64 X.f, .slice oa X.on oc, .slice ma X.mn mc, .slice sa X.sn sc, .slice ca X.cn cc] 34 from
        BoxAt.set (((((I2.out.a.store 0 (.int .i64 X.f)).store 1 (.slice oa X.on oc)).store 2 (.slice ma X.mn mc)).store 3 (.slice sa X.sn sc)).store 4 (.slice ca X.cn cc)) _ _ (by dsimp only; omega))
      have E3 := Lib.hid (show BoxAt ((((((w2.setCell ⟨w.heap.size, 0, none⟩ (.int .i64 X.f)).setCell ⟨w.heap.size, 1, none⟩ (.slice oa X.on oc)).setCell ⟨w.heap.size, 2, none⟩ (.slice ma X.mn mc)).setCell ⟨w.heap.size, 3, none⟩ (.slice sa X.sn sc)).setCell ⟨w.heap.size, 4, none⟩ (.slice ca X.cn cc)).setCell ⟨w.heap.size + 1, 0, none⟩ (.int .i64 0)) (w.heap.size + 1) #[.int .i64 0] 41 from
        BoxAt.store (BoxAt.set (BoxAt.set (BoxAt.set (BoxAt.set (BoxAt.set (I2.out.e) _ _ (by dsimp only; omega)) _ _ (by dsimp only; omega)) _ _ (by dsimp only; omega)) _ _ (by dsimp only; omega)) _ _ (by dsimp only; omega)) 0 _)
      clear hb2 ht hr hI hB hk3 C2 HK HR
      go_wp2_with fail
      clear r0 f0 a0 a1 a2 a3 a4 fa0 fa1 fa2 fa3 fa4 I2
      generalize World.setCell (World.setCell (World.setCell (World.setCell (World.setCell (World.setCell w2 _ _) _ _) _ _) _ _) _ _) _ _ = w3 at *
      have r0 := cellAt E3.out 0
      have a0 := cellAt A3.out 0
      have a1 := cellAt A3.out 1
      have a2 := cellAt A3.out 2
      have a3 := cellAt A3.out 3
      have a4 := cellAt A3.out 4
      simp only [List.getElem?_toArray, List.getElem?_cons_zero, List.getElem?_cons_succ] at r0 a0 a1 a2 a3 a4
      refine leaves_cons (f := 52) (args := #[bp (w.heap.size + 1)]) (by simp) (by simp [go_sem]) ?_
      refine (answer_idle _ _).mono ?_
      rintro e u' w'' ⟨rfl, rfl, rfl⟩
      simp [Leaves, settle, results, Tryz.results39, go_sem, r0, a0, a1, a2, a3, a4]
      exact HX.out _ B3.out S3.out HSB.out
end Go.Proofs.YtclbmlmlhiiaeaaGreatDoor
