/-
  Walks: the law of a ticket more.
-/
import Derived.Test.YtbpeamppkdmdcaaG10
import Derived.Test.YtbpeamppkdmdcaaP7
import Derived.Test.YtbpeamppkdmdcaaN3
import Derived.Test.YtbpeamppkdmdcaaN0
import Derived.Test.YtbpeamppkdmdcaaN4
import Derived.Test.YtbpeamppkdmdcaaE2
import Derived.Deep.CutRange
import Derived.StillTailTactics
import Derived.Deep.Light
namespace Go.Proofs.Ytbpeamppkdmdcaa
open Go.RowKit

/-- What the law of a ticket more keeps: the wages and the ticket. -/
structure MB (w : World) (cr : Int) (sa ta : Option Addr) (sn sc tn tc : Nat) (S : Nat → Sm) (T : Nat → Tk) (t : Tk) (W : World) : Prop where
  wb : WB w cr sa ta sn sc tn tc S T w.heap.size W
  tb : BoxAt W (w.heap.size + 1) (tkCells t) 58
section
variable {w W W2 : World} {cr : Int} {sa ta : Option Addr} {sn sc tn tc : Nat} {S : Nat → Sm} {T : Nat → Tk} {t : Tk}
theorem MB.grow (h : MB w cr sa ta sn sc tn tc S T t W) (hb : Below W.heap.size W W2) : MB w cr sa ta sn sc tn tc S T t W2 := ⟨h.wb.grow hb, h.tb.grow hb⟩
end
theorem tkc {W : World} {b : Nat} {t : Tk} {ty : TypeId} (h : BoxAt W b (tkCells t) ty) : W.cell? ⟨b, 0, none⟩ = some (.int .i64 t.crew) ∧ W.cell? ⟨b, 1, none⟩ = some (.int .i64 t.seam) ∧ W.cell? ⟨b, 2, none⟩ = some (.int .i64 t.fl) ∧ W.cell? ⟨b, 3, none⟩ = some (.int .i64 t.fh) ∧ W.cell? ⟨b, 4, none⟩ = some (.int .i64 t.tl) ∧ W.cell? ⟨b, 5, none⟩ = some (.int .i64 t.th) ∧ W.cell? ⟨b, 6, none⟩ = some (.int .i64 t.dl) ∧ W.cell? ⟨b, 7, none⟩ = some (.int .i64 t.dh) :=
  ⟨cellAt h 0, cellAt h 1, cellAt h 2, cellAt h 3, cellAt h 4, cellAt h 5, cellAt h 6, cellAt h 7⟩
theorem wgc {W : World} {b : Nat} {cr : Int} {sa ta : Option Addr} {sn sc tn tc : Nat} {ty : TypeId} (h : BoxAt W b #[.int .i64 cr, .slice sa sn sc, .slice ta tn tc] ty) : W.cell? ⟨b, 0, none⟩ = some (.int .i64 cr) ∧ W.cell? ⟨b, 1, none⟩ = some (.slice sa sn sc) ∧ W.cell? ⟨b, 2, none⟩ = some (.slice ta tn tc) := ⟨cellAt h 0, cellAt h 1, cellAt h 2⟩
/-- .. and the two other wages. -/
structure XB (w : World) (cr : Int) (sa ta : Option Addr) (sn sc tn tc : Nat) (S : Nat → Sm) (T : Nat → Tk) (t tt : Tk) (b1 b2 g2 cap2 : Nat) (W : World) : Prop where
  m : MB w cr sa ta sn sc tn tc S T t W
  x1 : BoxAt W b1 #[.int .i64 cr, .slice sa sn sc, .slice (some ⟨g2, 0, none⟩) (tn + 1) cap2] 25
  x2 : BoxAt W b2 #[.int .i64 cr, .slice sa sn sc, .slice ta tn tc] 25
  tk : TicketsAt W (some ⟨g2, 0, none⟩) (tn + 1) (updT T tn tt)
  f1 : 0 < sn → blk sa ≠ b2
  f2 : 0 < tn → blk ta ≠ b2
  f3 : w.heap.size + 1 < b2
  f4 : b1 ≠ b2
  f5 : g2 ≠ b2
theorem XB.grow {w W W2 : World} {cr : Int} {sa ta : Option Addr} {sn sc tn tc : Nat} {S : Nat → Sm} {T : Nat → Tk} {t tt : Tk} {b1 b2 g2 cap2 : Nat} (h : XB w cr sa ta sn sc tn tc S T t tt b1 b2 g2 cap2 W) (hb : Below W.heap.size W W2) : XB w cr sa ta sn sc tn tc S T t tt b1 b2 g2 cap2 W2 :=
  ⟨h.m.grow hb, h.x1.grow hb, h.x2.grow hb, h.tk.grow hb, h.f1, h.f2, h.f3, h.f4, h.f5⟩
/-- .. in a world of which all below a block is kept. -/
structure YB (w : World) (cr : Int) (sa ta : Option Addr) (sn sc tn tc : Nat) (S : Nat → Sm) (T : Nat → Tk) (t tt : Tk) (b1 b2 g2 cap2 : Nat) (o2 : Option Addr) (c2 : Nat) (B : Nat) (W : World) : Prop where
  m : MB w cr sa ta sn sc tn tc S T t W
  x1 : BoxAt W b1 #[.int .i64 cr, .slice sa sn sc, .slice (some ⟨g2, 0, none⟩) (tn + 1) cap2] 25
  x2 : BoxAt W b2 #[.int .i64 cr, .slice sa sn sc, .slice o2 tn c2] 25
  tk : TicketsAt W (some ⟨g2, 0, none⟩) (tn + 1) (updT T tn tt)
  l1 : b1 < B
  l2 : b2 < B
  l3 : g2 < B
  l4 : w.heap.size + 1 < B
  l5 : 0 < sn → blk sa < B
  l6 : 0 < tn → blk ta < B
theorem row_set {W : World} {oa : Option Addr} {n sz : Nat} {cell : Nat → Nat → Value} (h : Row W oa n sz cell) (q : Addr) (v : Value) (hne : 0 < n → blk oa ≠ q.block) : Row (W.setCell q v) oa n sz cell :=
  ⟨h.plain, fun hn => by rw [show (W.setCell q v).heap.size = W.heap.size by simp [World.setCell]]; exact h.old hn, h.small, fun i hi j hj => (World.cell?_of_block (Below.heap_setCell _ _ _ _ (by exact hne (by omega)))).trans (h.cells i hi j hj)⟩
theorem BoxAt.below {w w' : World} {b B : Nat} {x : Array Value} {t : TypeId} (h : BoxAt w b x t) (hb : Below B w w') (hl : b < B) : BoxAt w' b x t := (hb.block b hl).trans h
theorem YB.below {w W W2 : World} {cr : Int} {sa ta : Option Addr} {sn sc tn tc : Nat} {S : Nat → Sm} {T : Nat → Tk} {t tt : Tk} {b1 b2 g2 cap2 : Nat} {o2 : Option Addr} {c2 B : Nat} (h : YB w cr sa ta sn sc tn tc S T t tt b1 b2 g2 cap2 o2 c2 B W) (hb : Below B W W2) : YB w cr sa ta sn sc tn tc S T t tt b1 b2 g2 cap2 o2 c2 B W2 := by
  have h4 := h.l4
  exact ⟨⟨⟨h.m.wb.bel.trans (hb.mono (by omega)), h.m.wb.box.below hb (by omega), Row.below h.m.wb.ss hb h.l5, Row.below h.m.wb.tt hb h.l6⟩, h.m.tb.below hb (by omega)⟩, h.x1.below hb h.l1, h.x2.below hb h.l2, Row.below h.tk hb (fun _ => h.l3), h.l1, h.l2, h.l3, h.l4, h.l5, h.l6⟩
theorem valid_add {cr : Int} {sn tn : Nat} {S : Nat → Sm} {T : Nat → Tk} (hv : Valid cr sn tn S T) (ht : tn < 6) {t : Tk} (hk : 0 ≤ t.crew ∧ t.crew < cr ∧ 0 ≤ t.seam ∧ t.seam < sn) (hd : spanB t.dl t.dh 40 = true) (hf : spanB t.fl t.fh (S t.seam.toNat).fat = true) (hto : spanB t.tl t.th (S t.seam.toNat).fat = true) : Valid cr sn (tn + 1) S (updT T tn t) := by
  refine ⟨hv.cr0, hv.cr1, hv.sn3, by omega, hv.fat, hv.rate, fun i hi => ?_, fun i hi => ?_, fun i hi => ?_, fun i hi => ?_⟩
  all_goals
    by_cases e : i = tn
    · subst e
      rw [updT_eq]
      first | exact hk | exact hd | exact hf | exact hto
    · rw [updT_ne _ _ _ e]
      first | exact hv.tk i (by omega) | exact hv.td i (by omega) | exact hv.fr i (by omega) | exact hv.to i (by omega)
set_option maxHeartbeats 400000 in
theorem in2_yes (a0 a1 d0 d1 : Int) (h0 : a0 ≤ d0) (h1 : d1 ≤ a1) (w : World) : Calls Try.prog 43 #[.agg #[.int .i64 d0, .int .i64 d1], .agg #[.int .i64 a0, .int .i64 a1]] w fun e w' => e = .returned (.bool true) ∧ Below w.heap.size w w' := by
  go_enter Try.func43, Try.ntmps43
  go_wp2
  go_ret
  exact ⟨rfl, ((Below.refl _ _).alloc (Nat.le_refl _) _).alloc (by simp) _⟩
/-- Three wages. -/
structure ZB (w : World) (cr : Int) (sa ta : Option Addr) (sn sc tn tc : Nat) (S : Nat → Sm) (T : Nat → Tk) (t tt : Tk) (b1 b2 g2 cap2 : Nat) (o2 : Option Addr) (c2 : Nat) (T' : Nat → Tk) (W : World) : Prop where
  m : MB w cr sa ta sn sc tn tc S T t W
  x1 : BoxAt W b1 #[.int .i64 cr, .slice sa sn sc, .slice (some ⟨g2, 0, none⟩) (tn + 1) cap2] 25
  x2 : BoxAt W b2 #[.int .i64 cr, .slice sa sn sc, .slice o2 tn c2] 25
  tk : TicketsAt W (some ⟨g2, 0, none⟩) (tn + 1) (updT T tn tt)
  t2 : TicketsAt W o2 tn T'
theorem ZB.grow {w W W2 : World} {cr : Int} {sa ta : Option Addr} {sn sc tn tc : Nat} {S : Nat → Sm} {T : Nat → Tk} {t tt : Tk} {b1 b2 g2 cap2 : Nat} {o2 : Option Addr} {c2 : Nat} {T' : Nat → Tk} (h : ZB w cr sa ta sn sc tn tc S T t tt b1 b2 g2 cap2 o2 c2 T' W) (hb : Below W.heap.size W W2) : ZB w cr sa ta sn sc tn tc S T t tt b1 b2 g2 cap2 o2 c2 T' W2 :=
  ⟨h.m.grow hb, h.x1.grow hb, h.x2.grow hb, h.tk.grow hb, h.t2.grow hb⟩
/-- What a ticket more does to what is told. -/
theorem more_due {cr : Int} {sn tn : Nat} {S : Nat → Sm} {T : Nat → Tk} (hv : Valid cr sn tn S T) (t : Tk) (c : Int) :
    (c = t.crew → coinsOf S T (leastK c T) sn tn c ≤ coinsOf S (updT T tn t) (leastK c (updT T tn t)) sn (tn + 1) c ∧ coinsOf S T (mostK c T) sn tn c ≤ coinsOf S (updT T tn t) (mostK c (updT T tn t)) sn (tn + 1) c) ∧
    (c ≠ t.crew → coinsOf S (updT T tn t) (leastK c (updT T tn t)) sn (tn + 1) c ≤ coinsOf S T (leastK c T) sn tn c ∧ coinsOf S (updT T tn t) (mostK c (updT T tn t)) sn (tn + 1) c ≤ coinsOf S T (mostK c T) sn tn c) := by
  have hr := fun j hj => (hv.rate j hj).1
  refine ⟨fun e => ?_, fun e => ⟨coins_other hr (least_add c T tn t) e, coins_other hr (most_add c T tn t) e⟩⟩
  subst e
  exact ⟨coins_own hr (least_add _ T tn t), coins_own hr (most_add _ T tn t)⟩

theorem whose_yes' {w : World} {V : Prop} {b : Bool} {set : Nat} {none : Bool} {e : Ending} {w' : World} (h : WhosePost w V b set none e w') (hv : V) (hb : b = true) : e = .returned (.tuple #[.int .i64 set, .bool none, .int .i64 0]) ∧ Below w.heap.size w w' := by
  rcases h with ⟨h0, h | h | h⟩
  · exact ⟨h.2.2, h0⟩
  · rw [hb] at h; cases h.2.1
  · exact absurd hv h.1
set_option maxRecDepth 100000 in
set_option maxHeartbeats 100000000 in
theorem more_law (cr : Int) (sa ta : Option Addr) (sn sc tn tc : Nat) (S : Nat → Sm) (T : Nat → Tk) (t : Tk) (wh nn : Int) (hw : 0 ≤ wh ∧ wh ≤ 255) (hnn : 0 ≤ nn ∧ nn ≤ 255) (w : World) (hS : SeamsAt w sa sn S) (hT : TicketsAt w ta tn T) :
    Calls Try.prog 11 #[.agg #[.int .i64 cr, .slice sa sn sc, .slice ta tn tc], t.v, .int .u8 wh, .int .u8 nn] w fun e w' => e = .returned (.bool true) ∧ Below w.heap.size w w' := by
  have hsm := hS.small
  have htm := hT.small
  unfold maxLen at hsm htm
  have I0 := Lib.hid (WB.new (cr := cr) (sc := sc) (tc := tc) hS hT)
  have M0 := Lib.hid (MB.mk (t := t) (I0.out.grow ((Below.refl _ _).alloc (Nat.le_refl _) (.cells (tkCells t) 58))) (by rw [show w.heap.size + 1 = (w.alloc (.cells #[.int .i64 cr, .slice sa sn sc, .slice ta tn tc] 25)).heap.size from (sizeAlloc _ _).symm]; exact heap_alloc_new _ _))
  have q0 := cellAt M0.out.wb.box 0
  have q1 := cellAt M0.out.wb.box 1
  have q2 := cellAt M0.out.wb.box 2
  simp only [List.getElem?_toArray, List.getElem?_cons_zero, List.getElem?_cons_succ] at q0 q1 q2
  clear hS hT I0
  unfold Tk.v
  go_enter Try.func11, Try.ntmps11
  go_wp2_with (go_at_call 32; refine (fine_any cr sa ta sn sc tn tc S T _ M0.out.wb.ss M0.out.wb.tt).mono ?_)
  rintro e w1 ⟨b, rfl, hbv, hb1⟩
  have M1 := Lib.hid (M0.out.grow hb1)
  clear M0 hb1 q0 q1 q2
  have q0 := cellAt M1.out.wb.box 0
  have q1 := cellAt M1.out.wb.box 1
  have q2 := cellAt M1.out.wb.box 2
  simp only [List.getElem?_toArray, List.getElem?_cons_zero, List.getElem?_cons_succ] at q0 q1 q2
  cases b with
  | false =>
    clear hbv q0 q1 q2
    go_wp2_with (go_at_call 14; refine (awake_any _).mono ?_; rintro e w2 ⟨rfl, hb2⟩; have HB := Lib.hid (M1.out.wb.bel.next hb2))
    exact bodyPost_ret (v := .bool true) (by simp [results, Try.results11, go_sem]) rfl ⟨rfl, HB.out⟩
  | true =>
    have HV := Lib.hid (hbv.1 rfl)
    clear hbv
    have htn6 := HV.out.tn6
    by_cases ht : 6 ≤ tn
    · have ht2 : decide (6 ≤ tn) = true := decide_eq_true ht
      clear htn6
      go_wp2_with (go_at_call 14; refine (awake_any _).mono ?_; rintro e w2 ⟨rfl, hb2⟩; have HB := Lib.hid (M1.out.wb.bel.next hb2))
      exact bodyPost_ret (v := .bool true) (by simp [results, Try.results11, go_sem]) rfl ⟨rfl, HB.out⟩
    · by_cases hs0 : sn = 0
      · subst hs0
        go_wp2_with (go_at_call 14; refine (awake_any _).mono ?_; rintro e w2 ⟨rfl, hb2⟩; have HB := Lib.hid (M1.out.wb.bel.next hb2))
        exact bodyPost_ret (v := .bool true) (by simp [results, Try.results11, go_sem]) rfl ⟨rfl, HB.out⟩
      · have hs1 : ((sn : Int) == 0) = false := by simp; omega
        obtain ⟨n, rfl⟩ : ∃ n : Nat, cr = n := ⟨cr.toNat, by have := HV.out.cr0; omega⟩
        have hcr : 1 ≤ n ∧ n ≤ 4 := by have := HV.out.cr0; have := HV.out.cr1; omega
        have hsn3 := HV.out.sn3
        have htn : tn ≤ 6 := htn6
        have htl : tn < 6 := by omega
        clear htn6 ht
        obtain ⟨y0, y1, y2, y3, y4, y5, y6, y7⟩ := tkc M1.out.tb
        go_wp2_with (go_at_call 40; refine (add_any n sa ta sn sc tn tc T t w.heap.size _ M1.out.wb.box M1.out.wb.tt htn).mono ?_)
        rintro e w2 ⟨g, cap, hg, rfl, hx, hb2⟩
        have M2 := Lib.hid (M1.out.grow hb2)
        have X2 := Lib.hid hx
        clear hx hb2 hg y0 y1 y2 y3 y4 y5 y6 y7 M1 q0 q1 q2
        obtain ⟨W3, hW3⟩ : ∃ W3, W3 = w2.alloc (.cells #[.int .i64 n, .slice sa sn sc, .slice (some ⟨g, 0, none⟩) (tn + 1) cap] 25) := ⟨_, rfl⟩
        obtain ⟨z0, -, hb3⟩ := blocks1 hW3.symm
        have M3 := Lib.hid (M2.out.grow hb3)
        have X3 := Lib.hid (TicketsAt.grow X2.out hb3)
        have B3 := Lib.hid (show BoxAt W3 w2.heap.size #[.int .i64 n, .slice sa sn sc, .slice (some ⟨g, 0, none⟩) (tn + 1) cap] 25 from z0)
        clear z0 hb3 M2 X2
        go_upto_if 69 with (go_at_call 32; refine (fine_any n sa (some ⟨g, 0, none⟩) sn sc (tn + 1) cap S (updT T tn t) _ (by rw [← hW3]; exact M3.out.wb.ss) (by rw [← hW3]; exact X3.out)).mono ?_)
        rw [← hW3]
        rintro e w4 ⟨b, rfl, hbv, hb4⟩
        have M4 := Lib.hid (M3.out.grow hb4)
        have X4 := Lib.hid (TicketsAt.grow X3.out hb4)
        have B4 := Lib.hid (B3.out.grow hb4)
        have HX := Lib.hid hbv
        clear M3 X3 B3 hb4 hW3 hbv
        go_upto_if 69 with (fail)
        go_cut [] from 10 to 199 (fun W => MB w n sa ta sn sc tn tc S T t W)
        case rest =>
          clear M4 X4 B4 HX
          have M4 := Lib.hid hcut
          clear hcut
          obtain ⟨r, hr, hrl⟩ : ∃ r : Nat, Int.tmod nn sn = r ∧ r < sn := ⟨(nn % sn).toNat, by rw [Int.tmod_eq_emod_of_nonneg hnn.1]; have := Int.emod_nonneg nn (show (sn : Int) ≠ 0 by omega); omega, by have := Int.emod_nonneg nn (show (sn : Int) ≠ 0 by omega); have := Int.emod_lt_of_pos nn (show 0 < (sn : Int) by omega); omega⟩
          obtain ⟨q, hq, hql⟩ : ∃ q : Nat, Int.tmod nn n = q ∧ q < n := ⟨(nn % n).toNat, by rw [Int.tmod_eq_emod_of_nonneg hnn.1]; have := Int.emod_nonneg nn (show (n : Int) ≠ 0 by omega); omega, by have := Int.emod_nonneg nn (show (n : Int) ≠ 0 by omega); have := Int.emod_lt_of_pos nn (show 0 < (n : Int) by omega); omega⟩
          have hft := HV.out.fat r hrl
          obtain ⟨m3, hm3⟩ : ∃ m3, (if (S r).fat < 3 then (S r).fat else 3) = m3 := ⟨_, rfl⟩
          have HM3 := Lib.hid hm3
          clear hm3
          obtain ⟨x0, x1, x2⟩ := wgc M4.out.wb.box
          go_wp2_with fail
          clear x0 x1 x2
          go_cut [25] from 206 to 234 (fun v W => ∃ tb, v = bp tb ∧ BoxAt W tb (tkCells ⟨q, r, (S r).fat, (S r).fat, 0, m3, 0, 0⟩) 58 ∧ MB w n sa ta sn sc tn tc S T t W)
          case first =>
            as_aux_lemma =>
              have M5 := Lib.hid (M4.out.grow (Below.drew (Below.refl _ _)))
              have hix := fun w => run_indexAt_row (w := w) (cap := sc) Try.underlying22 size52 (M5.out.wb.ss.plain (by omega)) hrl
              have hn0 : ¬ n = 0 := by omega
              have hm3 := HM3.out
              have hwn : IntKind.i64.wrap nn = nn := IntWalk.i64_in _ (by omega)
              rename_i J1 K1 hJ hK1
              have HKK := Lib.hid (fun a' w' h => hK1 a' w' (Met.intro (hJ a' w' h)))
              clear hJ hK1
              go_light
              refine wp_region_held_drew (S := (fun w' => w'.cell? ⟨w.heap.size, 0, none⟩ = some (.int .i64 n) ∧ w'.cell? ⟨w.heap.size, 1, none⟩ = some (.slice sa sn sc) ∧ w'.cell? ⟨blk sa, ofs sa + r * 2, none⟩ = some (.int .i64 (S r).fat))) (by kernel_rfl) (by exact ⟨cellAt M5.out.wb.box 0, cellAt M5.out.wb.box 1, (M5.out.wb.ss.at hrl).1⟩) (fun hHeld => ?_)
              generalize World.drew wc = V5 at *
              have V0 := Lib.hid (Below.refl V5.heap.size V5)
              refine wpAnyH_take (i := 0) (oi := { dst := some 206, op := Op.move (Operand.tmp 3), type := 5, pos := "outright.go:318", after := #[], guard := none }) (v := ?_) rfl (by kernel_rfl) (by kernel_rfl) (by kernel_rfl) (fun _ _ _ h => h) (Or.inl ⟨by rfl, ?_⟩) (by assumption) ?_
              rotate_left
              · (intro w9 hSw; (try dsimp only at hSw); (go_split_ands; go_simp); (try with_reducible rfl))
              try simp only [Act.put, List.setIfInBounds_toArray, List.set_cons_zero, List.set_cons_succ]
              refine wpAnyH_take (i := 1) (oi := { dst := some 207, op := Op.convert 5 3 (Operand.tmp 206), type := 3, pos := "outright.go:318", after := #[{ on := 0, ground := Ground.data }], guard := none }) (v := ?_) rfl (by kernel_rfl) (by kernel_rfl) (by kernel_rfl) (fun _ _ _ h => h) (Or.inl ⟨by rfl, ?_⟩) (by assumption) ?_
              rotate_left
              · (intro w9 hSw; (try dsimp only at hSw); (go_split_ands; go_simp); (try with_reducible rfl))
              try simp only [Act.put, List.setIfInBounds_toArray, List.set_cons_zero, List.set_cons_succ]
              refine wpAnyH_take (i := 2) (oi := { dst := some 208, op := Op.fieldAddr 25 (Operand.tmp 4) 0, type := 0, pos := "outright.go:318", after := #[], guard := none }) (v := ?_) rfl (by kernel_rfl) (by kernel_rfl) (by kernel_rfl) (fun _ _ _ h => h) (Or.inl ⟨by rfl, ?_⟩) (by assumption) ?_
              rotate_left
              · (intro w9 hSw; (try dsimp only at hSw); (go_split_ands; go_simp); (try with_reducible rfl))
              try simp only [Act.put, List.setIfInBounds_toArray, List.set_cons_zero, List.set_cons_succ]
              refine wpAnyH_take (i := 3) (oi := { dst := some 209, op := Op.load 3 (Operand.tmp 208), type := 3, pos := "outright.go:318", after := #[{ on := 2, ground := Ground.data }], guard := none }) (v := ?_) rfl (by kernel_rfl) (by kernel_rfl) (by kernel_rfl) (fun _ _ _ h => h) (Or.inl ⟨by rfl, ?_⟩) (by assumption) ?_
              rotate_left
              · (intro w9 hSw; (try dsimp only at hSw); (go_split_ands; go_simp); (try with_reducible rfl))
              try simp only [Act.put, List.setIfInBounds_toArray, List.set_cons_zero, List.set_cons_succ]
              refine wpAnyH_take (i := 4) (oi := { dst := some 210, op := Op.binOp BinOp.rem 3 (Operand.tmp 207) (Operand.tmp 209) 3, type := 3, pos := "outright.go:318", after := #[{ on := 1, ground := Ground.data }, { on := 3, ground := Ground.data }], guard := none }) (v := ?_) rfl (by kernel_rfl) (by kernel_rfl) (by kernel_rfl) (fun _ _ _ h => h) (Or.inl ⟨by rfl, ?_⟩) (by assumption) ?_
              rotate_left
              · (intro w9 hSw; (try dsimp only at hSw); (go_split_ands; go_simp); (try with_reducible rfl))
              try simp only [Act.put, List.setIfInBounds_toArray, List.set_cons_zero, List.set_cons_succ]
              refine wpAnyH_take (i := 5) (oi := { dst := some 211, op := Op.move (Operand.tmp 24), type := 3, pos := "outright.go:318", after := #[], guard := none }) (v := ?_) rfl (by kernel_rfl) (by kernel_rfl) (by kernel_rfl) (fun _ _ _ h => h) (Or.inl ⟨by rfl, ?_⟩) (by assumption) ?_
              rotate_left
              · (intro w9 hSw; (try dsimp only at hSw); (go_split_ands; go_simp); (try with_reducible rfl))
              try simp only [Act.put, List.setIfInBounds_toArray, List.set_cons_zero, List.set_cons_succ]
              refine wpAnyH_take (i := 6) (oi := { dst := some 212, op := Op.fieldAddr 25 (Operand.tmp 4) 1, type := 0, pos := "outright.go:318", after := #[], guard := none }) (v := ?_) rfl (by kernel_rfl) (by kernel_rfl) (by kernel_rfl) (fun _ _ _ h => h) (Or.inl ⟨by rfl, ?_⟩) (by assumption) ?_
              rotate_left
              · (intro w9 hSw; (try dsimp only at hSw); (go_split_ands; go_simp); (try with_reducible rfl))
              try simp only [Act.put, List.setIfInBounds_toArray, List.set_cons_zero, List.set_cons_succ]
              refine wpAnyH_take (i := 7) (oi := { dst := some 213, op := Op.load 22 (Operand.tmp 212), type := 22, pos := "outright.go:318", after := #[{ on := 6, ground := Ground.data }], guard := none }) (v := ?_) rfl (by kernel_rfl) (by kernel_rfl) (by kernel_rfl) (fun _ _ _ h => h) (Or.inl ⟨by rfl, ?_⟩) (by assumption) ?_
              rotate_left
              · (intro w9 hSw; (try dsimp only at hSw); (go_split_ands; go_simp); (try with_reducible rfl))
              try simp only [Act.put, List.setIfInBounds_toArray, List.set_cons_zero, List.set_cons_succ]
              refine wpAnyH_take (i := 8) (oi := { dst := some 214, op := Op.move (Operand.tmp 24), type := 3, pos := "outright.go:318", after := #[], guard := none }) (v := ?_) rfl (by kernel_rfl) (by kernel_rfl) (by kernel_rfl) (fun _ _ _ h => h) (Or.inl ⟨by rfl, ?_⟩) (by assumption) ?_
              rotate_left
              · (intro w9 hSw; (try dsimp only at hSw); (go_split_ands; go_simp); (try with_reducible rfl))
              try simp only [Act.put, List.setIfInBounds_toArray, List.set_cons_zero, List.set_cons_succ]
              refine wpAnyH_take (i := 9) (oi := { dst := some 215, op := Op.indexAddr 22 (Operand.tmp 213) (Operand.tmp 214), type := 0, pos := "outright.go:318", after := #[{ on := 7, ground := Ground.data }, { on := 8, ground := Ground.data }], guard := none }) (v := ?_) rfl (by kernel_rfl) (by kernel_rfl) (by kernel_rfl) (fun _ _ _ h => h) (Or.inl ⟨by rfl, ?_⟩) (by assumption) ?_
              rotate_left
              · (intro w9 hSw; (try dsimp only at hSw); (go_split_ands; go_simp); (try with_reducible rfl))
              try simp only [Act.put, List.setIfInBounds_toArray, List.set_cons_zero, List.set_cons_succ]
              refine wpAnyH_take (i := 10) (oi := { dst := some 216, op := Op.fieldAddr 52 (Operand.tmp 215) 0, type := 0, pos := "outright.go:318", after := #[{ on := 9, ground := Ground.data }], guard := none }) (v := ?_) rfl (by kernel_rfl) (by kernel_rfl) (by kernel_rfl) (fun _ _ _ h => h) (Or.inl ⟨by rfl, ?_⟩) (by assumption) ?_
              rotate_left
              · (intro w9 hSw; (try dsimp only at hSw); (go_split_ands; go_simp); (try with_reducible rfl))
              try simp only [Act.put, List.setIfInBounds_toArray, List.set_cons_zero, List.set_cons_succ]
              refine wpAnyH_take (i := 11) (oi := { dst := some 217, op := Op.load 3 (Operand.tmp 216), type := 3, pos := "outright.go:318", after := #[{ on := 10, ground := Ground.data }], guard := none }) (v := ?_) rfl (by kernel_rfl) (by kernel_rfl) (by kernel_rfl) (fun _ _ _ h => h) (Or.inl ⟨by rfl, ?_⟩) (by assumption) ?_
              rotate_left
              · (intro w9 hSw; (try dsimp only at hSw); (go_split_ands; go_simp); (try with_reducible rfl))
              try simp only [Act.put, List.setIfInBounds_toArray, List.set_cons_zero, List.set_cons_succ]
              refine wpAnyH_take (i := 12) (oi := { dst := some 218, op := Op.fieldAddr 25 (Operand.tmp 4) 1, type := 0, pos := "outright.go:318", after := #[], guard := none }) (v := ?_) rfl (by kernel_rfl) (by kernel_rfl) (by kernel_rfl) (fun _ _ _ h => h) (Or.inl ⟨by rfl, ?_⟩) (by assumption) ?_
              rotate_left
              · (intro w9 hSw; (try dsimp only at hSw); (go_split_ands; go_simp); (try with_reducible rfl))
              try simp only [Act.put, List.setIfInBounds_toArray, List.set_cons_zero, List.set_cons_succ]
              refine wpAnyH_take (i := 13) (oi := { dst := some 219, op := Op.load 22 (Operand.tmp 218), type := 22, pos := "outright.go:318", after := #[{ on := 12, ground := Ground.data }], guard := none }) (v := ?_) rfl (by kernel_rfl) (by kernel_rfl) (by kernel_rfl) (fun _ _ _ h => h) (Or.inl ⟨by rfl, ?_⟩) (by assumption) ?_
              rotate_left
              · (intro w9 hSw; (try dsimp only at hSw); (go_split_ands; go_simp); (try with_reducible rfl))
              try simp only [Act.put, List.setIfInBounds_toArray, List.set_cons_zero, List.set_cons_succ]
              refine wpAnyH_take (i := 14) (oi := { dst := some 220, op := Op.move (Operand.tmp 24), type := 3, pos := "outright.go:318", after := #[], guard := none }) (v := ?_) rfl (by kernel_rfl) (by kernel_rfl) (by kernel_rfl) (fun _ _ _ h => h) (Or.inl ⟨by rfl, ?_⟩) (by assumption) ?_
              rotate_left
              · (intro w9 hSw; (try dsimp only at hSw); (go_split_ands; go_simp); (try with_reducible rfl))
              try simp only [Act.put, List.setIfInBounds_toArray, List.set_cons_zero, List.set_cons_succ]
              refine wpAnyH_take (i := 15) (oi := { dst := some 221, op := Op.indexAddr 22 (Operand.tmp 219) (Operand.tmp 220), type := 0, pos := "outright.go:318", after := #[{ on := 13, ground := Ground.data }, { on := 14, ground := Ground.data }], guard := none }) (v := ?_) rfl (by kernel_rfl) (by kernel_rfl) (by kernel_rfl) (fun _ _ _ h => h) (Or.inl ⟨by rfl, ?_⟩) (by assumption) ?_
              rotate_left
              · (intro w9 hSw; (try dsimp only at hSw); (go_split_ands; go_simp); (try with_reducible rfl))
              try simp only [Act.put, List.setIfInBounds_toArray, List.set_cons_zero, List.set_cons_succ]
              refine wpAnyH_take (i := 16) (oi := { dst := some 222, op := Op.fieldAddr 52 (Operand.tmp 221) 0, type := 0, pos := "outright.go:318", after := #[{ on := 15, ground := Ground.data }], guard := none }) (v := ?_) rfl (by kernel_rfl) (by kernel_rfl) (by kernel_rfl) (fun _ _ _ h => h) (Or.inl ⟨by rfl, ?_⟩) (by assumption) ?_
              rotate_left
              · (intro w9 hSw; (try dsimp only at hSw); (go_split_ands; go_simp); (try with_reducible rfl))
              try simp only [Act.put, List.setIfInBounds_toArray, List.set_cons_zero, List.set_cons_succ]
              refine wpAnyH_take (i := 17) (oi := { dst := some 223, op := Op.load 3 (Operand.tmp 222), type := 3, pos := "outright.go:318", after := #[{ on := 16, ground := Ground.data }], guard := none }) (v := ?_) rfl (by kernel_rfl) (by kernel_rfl) (by kernel_rfl) (fun _ _ _ h => h) (Or.inl ⟨by rfl, ?_⟩) (by assumption) ?_
              rotate_left
              · (intro w9 hSw; (try dsimp only at hSw); (go_split_ands; go_simp); (try with_reducible rfl))
              try simp only [Act.put, List.setIfInBounds_toArray, List.set_cons_zero, List.set_cons_succ]
              refine wpAnyH_take (i := 19) (oi := { dst := some 225, op := Op.fieldAddr 25 (Operand.tmp 4) 1, type := 0, pos := "outright.go:318", after := #[], guard := none }) (v := ?_) rfl (by kernel_rfl) (by kernel_rfl) (by kernel_rfl) (fun _ _ _ h => h) (Or.inl ⟨by rfl, ?_⟩) (by assumption) ?_
              rotate_left
              · (intro w9 hSw; (try dsimp only at hSw); (go_split_ands; go_simp); (try with_reducible rfl))
              try simp only [Act.put, List.setIfInBounds_toArray, List.set_cons_zero, List.set_cons_succ]
              refine wpAnyH_take (i := 20) (oi := { dst := some 226, op := Op.load 22 (Operand.tmp 225), type := 22, pos := "outright.go:318", after := #[{ on := 19, ground := Ground.data }], guard := none }) (v := ?_) rfl (by kernel_rfl) (by kernel_rfl) (by kernel_rfl) (fun _ _ _ h => h) (Or.inl ⟨by rfl, ?_⟩) (by assumption) ?_
              rotate_left
              · (intro w9 hSw; (try dsimp only at hSw); (go_split_ands; go_simp); (try with_reducible rfl))
              try simp only [Act.put, List.setIfInBounds_toArray, List.set_cons_zero, List.set_cons_succ]
              refine wpAnyH_take (i := 21) (oi := { dst := some 227, op := Op.move (Operand.tmp 24), type := 3, pos := "outright.go:318", after := #[], guard := none }) (v := ?_) rfl (by kernel_rfl) (by kernel_rfl) (by kernel_rfl) (fun _ _ _ h => h) (Or.inl ⟨by rfl, ?_⟩) (by assumption) ?_
              rotate_left
              · (intro w9 hSw; (try dsimp only at hSw); (go_split_ands; go_simp); (try with_reducible rfl))
              try simp only [Act.put, List.setIfInBounds_toArray, List.set_cons_zero, List.set_cons_succ]
              refine wpAnyH_take (i := 22) (oi := { dst := some 228, op := Op.indexAddr 22 (Operand.tmp 226) (Operand.tmp 227), type := 0, pos := "outright.go:318", after := #[{ on := 20, ground := Ground.data }, { on := 21, ground := Ground.data }], guard := none }) (v := ?_) rfl (by kernel_rfl) (by kernel_rfl) (by kernel_rfl) (fun _ _ _ h => h) (Or.inl ⟨by rfl, ?_⟩) (by assumption) ?_
              rotate_left
              · (intro w9 hSw; (try dsimp only at hSw); (go_split_ands; go_simp); (try with_reducible rfl))
              try simp only [Act.put, List.setIfInBounds_toArray, List.set_cons_zero, List.set_cons_succ]
              refine wpAnyH_take (i := 23) (oi := { dst := some 229, op := Op.fieldAddr 52 (Operand.tmp 228) 0, type := 0, pos := "outright.go:318", after := #[{ on := 22, ground := Ground.data }], guard := none }) (v := ?_) rfl (by kernel_rfl) (by kernel_rfl) (by kernel_rfl) (fun _ _ _ h => h) (Or.inl ⟨by rfl, ?_⟩) (by assumption) ?_
              rotate_left
              · (intro w9 hSw; (try dsimp only at hSw); (go_split_ands; go_simp); (try with_reducible rfl))
              try simp only [Act.put, List.setIfInBounds_toArray, List.set_cons_zero, List.set_cons_succ]
              refine wpAnyH_take (i := 24) (oi := { dst := some 230, op := Op.load 3 (Operand.tmp 229), type := 3, pos := "outright.go:318", after := #[{ on := 23, ground := Ground.data }], guard := none }) (v := ?_) rfl (by kernel_rfl) (by kernel_rfl) (by kernel_rfl) (fun _ _ _ h => h) (Or.inl ⟨by rfl, ?_⟩) (by assumption) ?_
              rotate_left
              · (intro w9 hSw; (try dsimp only at hSw); (go_split_ands; go_simp); (try with_reducible rfl))
              try simp only [Act.put, List.setIfInBounds_toArray, List.set_cons_zero, List.set_cons_succ]
              refine wpAnyH_take (i := 25) (oi := { dst := some 231, op := Op.call { callee := Callee.builtin Builtin.min, args := #[Operand.const (Value.int IntKind.i64 3), Operand.tmp 230], argTypes := #[3, 3] }, type := 3, pos := "outright.go:318", after := #[{ on := 24, ground := Ground.data }], guard := none }) (v := ?_) rfl (by kernel_rfl) (by kernel_rfl) (by kernel_rfl) (fun _ _ _ h => h) (Or.inl ⟨by rfl, ?_⟩) (by assumption) ?_
              rotate_left
              · (intro w9 hSw; (try dsimp only at hSw); (go_split_ands; go_simp); (try with_reducible rfl))
              try simp only [Act.put, List.setIfInBounds_toArray, List.set_cons_zero, List.set_cons_succ]
              refine wpAnyH_ready (rs := [18, 29]) (by kernel_rfl) (by simp) ?_
              refine AllReadyH.cons (o := { dst := some 224, op := Op.call { callee := Callee.value (Operand.func 42), args := #[Operand.tmp 217, Operand.tmp 223], argTypes := #[3, 3] }, type := 29, pos := "outright.go:318", after := #[{ on := 11, ground := Ground.data }, { on := 17, ground := Ground.data }], guard := none }) rfl (fun K hK => ?_) (AllReadyH.cons (o := { dst := some 25, op := Op.alloc 58, type := 0, pos := "outright.go:318", after := #[], guard := none }) rfl (fun K hK => ?_) (AllReadyH.nil))
              · clear hHeld
                go_simp
                refine (span_any _ _ _).mono ?_
                rintro e w1c ⟨rfl, hb1⟩
                have V1 := Lib.hid (V0.out.next hb1)
                clear hb1
                go_wp2_with fail
                refine hK.out _ _ ?_ (fun hHeld => ?_)
                · exact ⟨cellAt (M5.out.grow V1.out).wb.box 0, cellAt (M5.out.grow V1.out).wb.box 1, ((M5.out.grow V1.out).wb.ss.at hrl).1⟩
                clear hK K
                try simp only [Act.put, List.setIfInBounds_toArray, List.set_cons_zero, List.set_cons_succ]
                refine wpAnyH_ready (rs := [26, 29]) (by kernel_rfl) (by simp) ?_
                refine AllReadyH.cons (o := { dst := some 232, op := Op.call { callee := Callee.value (Operand.func 42), args := #[Operand.const (Value.int IntKind.i64 0), Operand.tmp 231], argTypes := #[3, 3] }, type := 29, pos := "outright.go:318", after := #[{ on := 25, ground := Ground.data }, { on := 18, ground := Ground.chain }], guard := none }) rfl (fun K hK => ?_) (AllReadyH.cons (o := { dst := some 25, op := Op.alloc 58, type := 0, pos := "outright.go:318", after := #[], guard := none }) rfl (fun K hK => ?_) (AllReadyH.nil))
                · clear hHeld
                  go_simp
                  refine (span_any _ _ _).mono ?_
                  rintro e w2c ⟨rfl, hb2⟩
                  have V2 := Lib.hid (V1.out.next hb2)
                  clear hb2
                  go_wp2_with fail
                  refine hK.out _ _ ?_ (fun hHeld => ?_)
                  · exact ⟨cellAt (M5.out.grow V2.out).wb.box 0, cellAt (M5.out.grow V2.out).wb.box 1, ((M5.out.grow V2.out).wb.ss.at hrl).1⟩
                  clear hK K
                  try simp only [Act.put, List.setIfInBounds_toArray, List.set_cons_zero, List.set_cons_succ]
                  refine wpAnyH_ready (rs := [27, 29]) (by kernel_rfl) (by simp) ?_
                  refine AllReadyH.cons (o := { dst := some 233, op := Op.call { callee := Callee.value (Operand.func 42), args := #[Operand.const (Value.int IntKind.i64 0), Operand.const (Value.int IntKind.i64 0)], argTypes := #[3, 3] }, type := 29, pos := "outright.go:318", after := #[{ on := 26, ground := Ground.chain }], guard := none }) rfl (fun K hK => ?_) (AllReadyH.cons (o := { dst := some 25, op := Op.alloc 58, type := 0, pos := "outright.go:318", after := #[], guard := none }) rfl (fun K hK => ?_) (AllReadyH.nil))
                  · clear hHeld
                    go_simp
                    refine (span_any _ _ _).mono ?_
                    rintro e w3c ⟨rfl, hb3⟩
                    have V3 := Lib.hid (V2.out.next hb3)
                    clear hb3
                    go_wp2_with fail
                    refine hK.out _ _ ?_ (fun hHeld => ?_)
                    · exact ⟨cellAt (M5.out.grow V3.out).wb.box 0, cellAt (M5.out.grow V3.out).wb.box 1, ((M5.out.grow V3.out).wb.ss.at hrl).1⟩
                    clear hK K
                    try simp only [Act.put, List.setIfInBounds_toArray, List.set_cons_zero, List.set_cons_succ]
                    refine wpAnyH_ready (rs := [28, 29]) (by kernel_rfl) (by simp) ?_
                    refine AllReadyH.cons (o := { dst := some 234, op := Op.call { callee := Callee.value (Operand.func 41), args := #[Operand.tmp 210, Operand.tmp 211, Operand.tmp 224, Operand.tmp 232, Operand.tmp 233], argTypes := #[3, 3, 29, 29, 29] }, type := 58, pos := "outright.go:318", after := #[{ on := 4, ground := Ground.data }, { on := 5, ground := Ground.data }, { on := 18, ground := Ground.data }, { on := 26, ground := Ground.data }, { on := 27, ground := Ground.data }, { on := 27, ground := Ground.chain }], guard := none }) rfl (fun K hK => ?_) (AllReadyH.cons (o := { dst := some 25, op := Op.alloc 58, type := 0, pos := "outright.go:318", after := #[], guard := none }) rfl (fun K hK => ?_) (AllReadyH.nil))
                    · clear hHeld
                      go_simp
                      refine (ticket_any _ _ _ _ _ _ _ _ _).mono ?_
                      rintro e w4c ⟨rfl, hb4⟩
                      have V4 := Lib.hid (V3.out.next hb4)
                      clear hb4
                      go_wp2_with fail
                      refine hK.out _ _ ?_ (fun hHeld => ?_)
                      · exact ⟨cellAt (M5.out.grow V4.out).wb.box 0, cellAt (M5.out.grow V4.out).wb.box 1, ((M5.out.grow V4.out).wb.ss.at hrl).1⟩
                      clear hK K
                      try simp only [Act.put, List.setIfInBounds_toArray, List.set_cons_zero, List.set_cons_succ]
                      refine wpAnyH_ready (rs := [29]) (by kernel_rfl) (by simp) ?_
                      refine AllReadyH.cons (o := { dst := some 25, op := Op.alloc 58, type := 0, pos := "outright.go:318", after := #[], guard := none }) rfl (fun K hK => ?_) (AllReadyH.nil)
                      clear hHeld
                      go_simp
                      go_wp2_with fail
                      generalize hW : World.alloc _ _ = w5c at *
                      obtain ⟨n5, -, b5⟩ := blocks1 hW
                      have lz5 := V4.out.size
                      have V5 := Lib.hid (V4.out.next b5)
                      have Z5 := Lib.hid (show BoxAt w5c w4c.heap.size (tkCells ⟨0, 0, 0, 0, 0, 0, 0, 0⟩) 58 from n5)
                      clear n5 b5 hW
                      refine hK.out _ _ ?_ (fun hHeld => ?_)
                      · exact ⟨cellAt (M5.out.grow V5.out).wb.box 0, cellAt (M5.out.grow V5.out).wb.box 1, ((M5.out.grow V5.out).wb.ss.at hrl).1⟩
                      clear hK K
                      try simp only [Act.put, List.setIfInBounds_toArray, List.set_cons_zero, List.set_cons_succ]
                      refine wpAnyH_ready (rs := [30]) (by kernel_rfl) (by simp) ?_
                      refine AllReadyH.cons (o := { dst := none, op := Op.store 58 (Operand.tmp 25) (Operand.tmp 234), type := 0, pos := "outright.go:318", after := #[{ on := 29, ground := Ground.data }, { on := 28, ground := Ground.data }, { on := 28, ground := Ground.chain }, { on := 0, ground := Ground.phase }, { on := 1, ground := Ground.phase }, { on := 2, ground := Ground.phase }, { on := 3, ground := Ground.phase }, { on := 4, ground := Ground.phase }, { on := 5, ground := Ground.phase }, { on := 6, ground := Ground.phase }, { on := 7, ground := Ground.phase }, { on := 8, ground := Ground.phase }, { on := 9, ground := Ground.phase }, { on := 10, ground := Ground.phase }, { on := 11, ground := Ground.phase }, { on := 12, ground := Ground.phase }, { on := 13, ground := Ground.phase }, { on := 14, ground := Ground.phase }, { on := 15, ground := Ground.phase }, { on := 16, ground := Ground.phase }, { on := 17, ground := Ground.phase }, { on := 18, ground := Ground.phase }, { on := 19, ground := Ground.phase }, { on := 20, ground := Ground.phase }, { on := 21, ground := Ground.phase }, { on := 22, ground := Ground.phase }, { on := 23, ground := Ground.phase }, { on := 24, ground := Ground.phase }, { on := 25, ground := Ground.phase }, { on := 26, ground := Ground.phase }, { on := 27, ground := Ground.phase }, { on := 28, ground := Ground.phase }, { on := 29, ground := Ground.phase }], guard := none }) rfl (fun K hK => ?_) (AllReadyH.nil)
                      clear hHeld
                      refine step_store (by rfl) 58 (.tmp 25) (.tmp 234) (by rfl) (g := w4c.heap.size) (cells := tkCells ⟨q, r, (S r).fat, (S r).fat, 0, m3, 0, 0⟩) (by rfl) (by rfl) Z5.out size8 (by rfl) (tkCells_all _) ?_
                      intro w6c hz hg
                      have Z6 := Lib.hid hz
                      have V6 := Lib.hid (V5.out.of_grown hg (by omega) V5.out.size)
                      clear hz hg
                      refine hK.out _ _ ?_ (fun hHeld => ?_)
                      · exact ⟨cellAt (M5.out.grow V6.out).wb.box 0, cellAt (M5.out.grow V6.out).wb.box 1, ((M5.out.grow V6.out).wb.ss.at hrl).1⟩
                      clear hK K
                      try simp only [Act.put]
                      refine wpAnyH_done (by kernel_rfl) ?_ _
                      refine HKK.out _ _ ?_
                      (repeat apply Exists.intro)
                      refine ⟨?_, rfl⟩
                      exact ⟨_, rfl, Z6.out, M5.out.grow V6.out⟩
                    · clear hHeld
                      go_simp
                      go_wp2_with fail
                      generalize hW : World.alloc _ _ = w7c at *
                      obtain ⟨n7, -, b7⟩ := blocks1 hW
                      have lz7 := V3.out.size
                      have V7 := Lib.hid (V3.out.next b7)
                      have Z7 := Lib.hid (show BoxAt w7c w3c.heap.size (tkCells ⟨0, 0, 0, 0, 0, 0, 0, 0⟩) 58 from n7)
                      clear n7 b7 hW
                      refine hK.out _ _ ?_ (fun hHeld => ?_)
                      · exact ⟨cellAt (M5.out.grow V7.out).wb.box 0, cellAt (M5.out.grow V7.out).wb.box 1, ((M5.out.grow V7.out).wb.ss.at hrl).1⟩
                      clear hK K
                      try simp only [Act.put, List.setIfInBounds_toArray, List.set_cons_zero, List.set_cons_succ]
                      refine wpAnyH_ready (rs := [28]) (by kernel_rfl) (by simp) ?_
                      refine AllReadyH.cons (o := { dst := some 234, op := Op.call { callee := Callee.value (Operand.func 41), args := #[Operand.tmp 210, Operand.tmp 211, Operand.tmp 224, Operand.tmp 232, Operand.tmp 233], argTypes := #[3, 3, 29, 29, 29] }, type := 58, pos := "outright.go:318", after := #[{ on := 4, ground := Ground.data }, { on := 5, ground := Ground.data }, { on := 18, ground := Ground.data }, { on := 26, ground := Ground.data }, { on := 27, ground := Ground.data }, { on := 27, ground := Ground.chain }], guard := none }) rfl (fun K hK => ?_) (AllReadyH.nil)
                      clear hHeld
                      go_simp
                      refine (ticket_any _ _ _ _ _ _ _ _ _).mono ?_
                      rintro e w8c ⟨rfl, hb8⟩
                      have V8 := Lib.hid (V7.out.next hb8)
                      have Z8 := Lib.hid (BoxAt.grow Z7.out hb8)
                      clear hb8
                      go_wp2_with fail
                      refine hK.out _ _ ?_ (fun hHeld => ?_)
                      · exact ⟨cellAt (M5.out.grow V8.out).wb.box 0, cellAt (M5.out.grow V8.out).wb.box 1, ((M5.out.grow V8.out).wb.ss.at hrl).1⟩
                      clear hK K
                      try simp only [Act.put, List.setIfInBounds_toArray, List.set_cons_zero, List.set_cons_succ]
                      refine wpAnyH_ready (rs := [30]) (by kernel_rfl) (by simp) ?_
                      refine AllReadyH.cons (o := { dst := none, op := Op.store 58 (Operand.tmp 25) (Operand.tmp 234), type := 0, pos := "outright.go:318", after := #[{ on := 29, ground := Ground.data }, { on := 28, ground := Ground.data }, { on := 28, ground := Ground.chain }, { on := 0, ground := Ground.phase }, { on := 1, ground := Ground.phase }, { on := 2, ground := Ground.phase }, { on := 3, ground := Ground.phase }, { on := 4, ground := Ground.phase }, { on := 5, ground := Ground.phase }, { on := 6, ground := Ground.phase }, { on := 7, ground := Ground.phase }, { on := 8, ground := Ground.phase }, { on := 9, ground := Ground.phase }, { on := 10, ground := Ground.phase }, { on := 11, ground := Ground.phase }, { on := 12, ground := Ground.phase }, { on := 13, ground := Ground.phase }, { on := 14, ground := Ground.phase }, { on := 15, ground := Ground.phase }, { on := 16, ground := Ground.phase }, { on := 17, ground := Ground.phase }, { on := 18, ground := Ground.phase }, { on := 19, ground := Ground.phase }, { on := 20, ground := Ground.phase }, { on := 21, ground := Ground.phase }, { on := 22, ground := Ground.phase }, { on := 23, ground := Ground.phase }, { on := 24, ground := Ground.phase }, { on := 25, ground := Ground.phase }, { on := 26, ground := Ground.phase }, { on := 27, ground := Ground.phase }, { on := 28, ground := Ground.phase }, { on := 29, ground := Ground.phase }], guard := none }) rfl (fun K hK => ?_) (AllReadyH.nil)
                      clear hHeld
                      refine step_store (by rfl) 58 (.tmp 25) (.tmp 234) (by rfl) (g := w3c.heap.size) (cells := tkCells ⟨q, r, (S r).fat, (S r).fat, 0, m3, 0, 0⟩) (by rfl) (by rfl) Z8.out size8 (by rfl) (tkCells_all _) ?_
                      intro w9c hz hg
                      have Z9 := Lib.hid hz
                      have V9 := Lib.hid (V8.out.of_grown hg (by omega) V8.out.size)
                      clear hz hg
                      refine hK.out _ _ ?_ (fun hHeld => ?_)
                      · exact ⟨cellAt (M5.out.grow V9.out).wb.box 0, cellAt (M5.out.grow V9.out).wb.box 1, ((M5.out.grow V9.out).wb.ss.at hrl).1⟩
                      clear hK K
                      try simp only [Act.put]
                      refine wpAnyH_done (by kernel_rfl) ?_ _
                      refine HKK.out _ _ ?_
                      (repeat apply Exists.intro)
                      refine ⟨?_, rfl⟩
                      exact ⟨_, rfl, Z9.out, M5.out.grow V9.out⟩
                  · clear hHeld
                    go_simp
                    go_wp2_with fail
                    generalize hW : World.alloc _ _ = w10c at *
                    obtain ⟨n10, -, b10⟩ := blocks1 hW
                    have lz10 := V2.out.size
                    have V10 := Lib.hid (V2.out.next b10)
                    have Z10 := Lib.hid (show BoxAt w10c w2c.heap.size (tkCells ⟨0, 0, 0, 0, 0, 0, 0, 0⟩) 58 from n10)
                    clear n10 b10 hW
                    refine hK.out _ _ ?_ (fun hHeld => ?_)
                    · exact ⟨cellAt (M5.out.grow V10.out).wb.box 0, cellAt (M5.out.grow V10.out).wb.box 1, ((M5.out.grow V10.out).wb.ss.at hrl).1⟩
                    clear hK K
                    try simp only [Act.put, List.setIfInBounds_toArray, List.set_cons_zero, List.set_cons_succ]
                    refine wpAnyH_ready (rs := [27]) (by kernel_rfl) (by simp) ?_
                    refine AllReadyH.cons (o := { dst := some 233, op := Op.call { callee := Callee.value (Operand.func 42), args := #[Operand.const (Value.int IntKind.i64 0), Operand.const (Value.int IntKind.i64 0)], argTypes := #[3, 3] }, type := 29, pos := "outright.go:318", after := #[{ on := 26, ground := Ground.chain }], guard := none }) rfl (fun K hK => ?_) (AllReadyH.nil)
                    clear hHeld
                    go_simp
                    refine (span_any _ _ _).mono ?_
                    rintro e w11c ⟨rfl, hb11⟩
                    have V11 := Lib.hid (V10.out.next hb11)
                    have Z11 := Lib.hid (BoxAt.grow Z10.out hb11)
                    clear hb11
                    go_wp2_with fail
                    refine hK.out _ _ ?_ (fun hHeld => ?_)
                    · exact ⟨cellAt (M5.out.grow V11.out).wb.box 0, cellAt (M5.out.grow V11.out).wb.box 1, ((M5.out.grow V11.out).wb.ss.at hrl).1⟩
                    clear hK K
                    try simp only [Act.put, List.setIfInBounds_toArray, List.set_cons_zero, List.set_cons_succ]
                    refine wpAnyH_ready (rs := [28]) (by kernel_rfl) (by simp) ?_
                    refine AllReadyH.cons (o := { dst := some 234, op := Op.call { callee := Callee.value (Operand.func 41), args := #[Operand.tmp 210, Operand.tmp 211, Operand.tmp 224, Operand.tmp 232, Operand.tmp 233], argTypes := #[3, 3, 29, 29, 29] }, type := 58, pos := "outright.go:318", after := #[{ on := 4, ground := Ground.data }, { on := 5, ground := Ground.data }, { on := 18, ground := Ground.data }, { on := 26, ground := Ground.data }, { on := 27, ground := Ground.data }, { on := 27, ground := Ground.chain }], guard := none }) rfl (fun K hK => ?_) (AllReadyH.nil)
                    clear hHeld
                    go_simp
                    refine (ticket_any _ _ _ _ _ _ _ _ _).mono ?_
                    rintro e w12c ⟨rfl, hb12⟩
                    have V12 := Lib.hid (V11.out.next hb12)
                    have Z12 := Lib.hid (BoxAt.grow Z11.out hb12)
                    clear hb12
                    go_wp2_with fail
                    refine hK.out _ _ ?_ (fun hHeld => ?_)
                    · exact ⟨cellAt (M5.out.grow V12.out).wb.box 0, cellAt (M5.out.grow V12.out).wb.box 1, ((M5.out.grow V12.out).wb.ss.at hrl).1⟩
                    clear hK K
                    try simp only [Act.put, List.setIfInBounds_toArray, List.set_cons_zero, List.set_cons_succ]
                    refine wpAnyH_ready (rs := [30]) (by kernel_rfl) (by simp) ?_
                    refine AllReadyH.cons (o := { dst := none, op := Op.store 58 (Operand.tmp 25) (Operand.tmp 234), type := 0, pos := "outright.go:318", after := #[{ on := 29, ground := Ground.data }, { on := 28, ground := Ground.data }, { on := 28, ground := Ground.chain }, { on := 0, ground := Ground.phase }, { on := 1, ground := Ground.phase }, { on := 2, ground := Ground.phase }, { on := 3, ground := Ground.phase }, { on := 4, ground := Ground.phase }, { on := 5, ground := Ground.phase }, { on := 6, ground := Ground.phase }, { on := 7, ground := Ground.phase }, { on := 8, ground := Ground.phase }, { on := 9, ground := Ground.phase }, { on := 10, ground := Ground.phase }, { on := 11, ground := Ground.phase }, { on := 12, ground := Ground.phase }, { on := 13, ground := Ground.phase }, { on := 14, ground := Ground.phase }, { on := 15, ground := Ground.phase }, { on := 16, ground := Ground.phase }, { on := 17, ground := Ground.phase }, { on := 18, ground := Ground.phase }, { on := 19, ground := Ground.phase }, { on := 20, ground := Ground.phase }, { on := 21, ground := Ground.phase }, { on := 22, ground := Ground.phase }, { on := 23, ground := Ground.phase }, { on := 24, ground := Ground.phase }, { on := 25, ground := Ground.phase }, { on := 26, ground := Ground.phase }, { on := 27, ground := Ground.phase }, { on := 28, ground := Ground.phase }, { on := 29, ground := Ground.phase }], guard := none }) rfl (fun K hK => ?_) (AllReadyH.nil)
                    clear hHeld
                    refine step_store (by rfl) 58 (.tmp 25) (.tmp 234) (by rfl) (g := w2c.heap.size) (cells := tkCells ⟨q, r, (S r).fat, (S r).fat, 0, m3, 0, 0⟩) (by rfl) (by rfl) Z12.out size8 (by rfl) (tkCells_all _) ?_
                    intro w13c hz hg
                    have Z13 := Lib.hid hz
                    have V13 := Lib.hid (V12.out.of_grown hg (by omega) V12.out.size)
                    clear hz hg
                    refine hK.out _ _ ?_ (fun hHeld => ?_)
                    · exact ⟨cellAt (M5.out.grow V13.out).wb.box 0, cellAt (M5.out.grow V13.out).wb.box 1, ((M5.out.grow V13.out).wb.ss.at hrl).1⟩
                    clear hK K
                    try simp only [Act.put]
                    refine wpAnyH_done (by kernel_rfl) ?_ _
                    refine HKK.out _ _ ?_
                    (repeat apply Exists.intro)
                    refine ⟨?_, rfl⟩
                    exact ⟨_, rfl, Z13.out, M5.out.grow V13.out⟩
                · clear hHeld
                  go_simp
                  go_wp2_with fail
                  generalize hW : World.alloc _ _ = w14c at *
                  obtain ⟨n14, -, b14⟩ := blocks1 hW
                  have lz14 := V1.out.size
                  have V14 := Lib.hid (V1.out.next b14)
                  have Z14 := Lib.hid (show BoxAt w14c w1c.heap.size (tkCells ⟨0, 0, 0, 0, 0, 0, 0, 0⟩) 58 from n14)
                  clear n14 b14 hW
                  refine hK.out _ _ ?_ (fun hHeld => ?_)
                  · exact ⟨cellAt (M5.out.grow V14.out).wb.box 0, cellAt (M5.out.grow V14.out).wb.box 1, ((M5.out.grow V14.out).wb.ss.at hrl).1⟩
                  clear hK K
                  try simp only [Act.put, List.setIfInBounds_toArray, List.set_cons_zero, List.set_cons_succ]
                  refine wpAnyH_ready (rs := [26]) (by kernel_rfl) (by simp) ?_
                  refine AllReadyH.cons (o := { dst := some 232, op := Op.call { callee := Callee.value (Operand.func 42), args := #[Operand.const (Value.int IntKind.i64 0), Operand.tmp 231], argTypes := #[3, 3] }, type := 29, pos := "outright.go:318", after := #[{ on := 25, ground := Ground.data }, { on := 18, ground := Ground.chain }], guard := none }) rfl (fun K hK => ?_) (AllReadyH.nil)
                  clear hHeld
                  go_simp
                  refine (span_any _ _ _).mono ?_
                  rintro e w15c ⟨rfl, hb15⟩
                  have V15 := Lib.hid (V14.out.next hb15)
                  have Z15 := Lib.hid (BoxAt.grow Z14.out hb15)
                  clear hb15
                  go_wp2_with fail
                  refine hK.out _ _ ?_ (fun hHeld => ?_)
                  · exact ⟨cellAt (M5.out.grow V15.out).wb.box 0, cellAt (M5.out.grow V15.out).wb.box 1, ((M5.out.grow V15.out).wb.ss.at hrl).1⟩
                  clear hK K
                  try simp only [Act.put, List.setIfInBounds_toArray, List.set_cons_zero, List.set_cons_succ]
                  refine wpAnyH_ready (rs := [27]) (by kernel_rfl) (by simp) ?_
                  refine AllReadyH.cons (o := { dst := some 233, op := Op.call { callee := Callee.value (Operand.func 42), args := #[Operand.const (Value.int IntKind.i64 0), Operand.const (Value.int IntKind.i64 0)], argTypes := #[3, 3] }, type := 29, pos := "outright.go:318", after := #[{ on := 26, ground := Ground.chain }], guard := none }) rfl (fun K hK => ?_) (AllReadyH.nil)
                  clear hHeld
                  go_simp
                  refine (span_any _ _ _).mono ?_
                  rintro e w16c ⟨rfl, hb16⟩
                  have V16 := Lib.hid (V15.out.next hb16)
                  have Z16 := Lib.hid (BoxAt.grow Z15.out hb16)
                  clear hb16
                  go_wp2_with fail
                  refine hK.out _ _ ?_ (fun hHeld => ?_)
                  · exact ⟨cellAt (M5.out.grow V16.out).wb.box 0, cellAt (M5.out.grow V16.out).wb.box 1, ((M5.out.grow V16.out).wb.ss.at hrl).1⟩
                  clear hK K
                  try simp only [Act.put, List.setIfInBounds_toArray, List.set_cons_zero, List.set_cons_succ]
                  refine wpAnyH_ready (rs := [28]) (by kernel_rfl) (by simp) ?_
                  refine AllReadyH.cons (o := { dst := some 234, op := Op.call { callee := Callee.value (Operand.func 41), args := #[Operand.tmp 210, Operand.tmp 211, Operand.tmp 224, Operand.tmp 232, Operand.tmp 233], argTypes := #[3, 3, 29, 29, 29] }, type := 58, pos := "outright.go:318", after := #[{ on := 4, ground := Ground.data }, { on := 5, ground := Ground.data }, { on := 18, ground := Ground.data }, { on := 26, ground := Ground.data }, { on := 27, ground := Ground.data }, { on := 27, ground := Ground.chain }], guard := none }) rfl (fun K hK => ?_) (AllReadyH.nil)
                  clear hHeld
                  go_simp
                  refine (ticket_any _ _ _ _ _ _ _ _ _).mono ?_
                  rintro e w17c ⟨rfl, hb17⟩
                  have V17 := Lib.hid (V16.out.next hb17)
                  have Z17 := Lib.hid (BoxAt.grow Z16.out hb17)
                  clear hb17
                  go_wp2_with fail
                  refine hK.out _ _ ?_ (fun hHeld => ?_)
                  · exact ⟨cellAt (M5.out.grow V17.out).wb.box 0, cellAt (M5.out.grow V17.out).wb.box 1, ((M5.out.grow V17.out).wb.ss.at hrl).1⟩
                  clear hK K
                  try simp only [Act.put, List.setIfInBounds_toArray, List.set_cons_zero, List.set_cons_succ]
                  refine wpAnyH_ready (rs := [30]) (by kernel_rfl) (by simp) ?_
                  refine AllReadyH.cons (o := { dst := none, op := Op.store 58 (Operand.tmp 25) (Operand.tmp 234), type := 0, pos := "outright.go:318", after := #[{ on := 29, ground := Ground.data }, { on := 28, ground := Ground.data }, { on := 28, ground := Ground.chain }, { on := 0, ground := Ground.phase }, { on := 1, ground := Ground.phase }, { on := 2, ground := Ground.phase }, { on := 3, ground := Ground.phase }, { on := 4, ground := Ground.phase }, { on := 5, ground := Ground.phase }, { on := 6, ground := Ground.phase }, { on := 7, ground := Ground.phase }, { on := 8, ground := Ground.phase }, { on := 9, ground := Ground.phase }, { on := 10, ground := Ground.phase }, { on := 11, ground := Ground.phase }, { on := 12, ground := Ground.phase }, { on := 13, ground := Ground.phase }, { on := 14, ground := Ground.phase }, { on := 15, ground := Ground.phase }, { on := 16, ground := Ground.phase }, { on := 17, ground := Ground.phase }, { on := 18, ground := Ground.phase }, { on := 19, ground := Ground.phase }, { on := 20, ground := Ground.phase }, { on := 21, ground := Ground.phase }, { on := 22, ground := Ground.phase }, { on := 23, ground := Ground.phase }, { on := 24, ground := Ground.phase }, { on := 25, ground := Ground.phase }, { on := 26, ground := Ground.phase }, { on := 27, ground := Ground.phase }, { on := 28, ground := Ground.phase }, { on := 29, ground := Ground.phase }], guard := none }) rfl (fun K hK => ?_) (AllReadyH.nil)
                  clear hHeld
                  refine step_store (by rfl) 58 (.tmp 25) (.tmp 234) (by rfl) (g := w1c.heap.size) (cells := tkCells ⟨q, r, (S r).fat, (S r).fat, 0, m3, 0, 0⟩) (by rfl) (by rfl) Z17.out size8 (by rfl) (tkCells_all _) ?_
                  intro w18c hz hg
                  have Z18 := Lib.hid hz
                  have V18 := Lib.hid (V17.out.of_grown hg (by omega) V17.out.size)
                  clear hz hg
                  refine hK.out _ _ ?_ (fun hHeld => ?_)
                  · exact ⟨cellAt (M5.out.grow V18.out).wb.box 0, cellAt (M5.out.grow V18.out).wb.box 1, ((M5.out.grow V18.out).wb.ss.at hrl).1⟩
                  clear hK K
                  try simp only [Act.put]
                  refine wpAnyH_done (by kernel_rfl) ?_ _
                  refine HKK.out _ _ ?_
                  (repeat apply Exists.intro)
                  refine ⟨?_, rfl⟩
                  exact ⟨_, rfl, Z18.out, M5.out.grow V18.out⟩
              · clear hHeld
                go_simp
                go_wp2_with fail
                generalize hW : World.alloc _ _ = w19c at *
                obtain ⟨n19, -, b19⟩ := blocks1 hW
                have lz19 := V0.out.size
                have V19 := Lib.hid (V0.out.next b19)
                have Z19 := Lib.hid (show BoxAt w19c V5.heap.size (tkCells ⟨0, 0, 0, 0, 0, 0, 0, 0⟩) 58 from n19)
                clear n19 b19 hW
                refine hK.out _ _ ?_ (fun hHeld => ?_)
                · exact ⟨cellAt (M5.out.grow V19.out).wb.box 0, cellAt (M5.out.grow V19.out).wb.box 1, ((M5.out.grow V19.out).wb.ss.at hrl).1⟩
                clear hK K
                try simp only [Act.put, List.setIfInBounds_toArray, List.set_cons_zero, List.set_cons_succ]
                refine wpAnyH_ready (rs := [18]) (by kernel_rfl) (by simp) ?_
                refine AllReadyH.cons (o := { dst := some 224, op := Op.call { callee := Callee.value (Operand.func 42), args := #[Operand.tmp 217, Operand.tmp 223], argTypes := #[3, 3] }, type := 29, pos := "outright.go:318", after := #[{ on := 11, ground := Ground.data }, { on := 17, ground := Ground.data }], guard := none }) rfl (fun K hK => ?_) (AllReadyH.nil)
                clear hHeld
                go_simp
                refine (span_any _ _ _).mono ?_
                rintro e w20c ⟨rfl, hb20⟩
                have V20 := Lib.hid (V19.out.next hb20)
                have Z20 := Lib.hid (BoxAt.grow Z19.out hb20)
                clear hb20
                go_wp2_with fail
                refine hK.out _ _ ?_ (fun hHeld => ?_)
                · exact ⟨cellAt (M5.out.grow V20.out).wb.box 0, cellAt (M5.out.grow V20.out).wb.box 1, ((M5.out.grow V20.out).wb.ss.at hrl).1⟩
                clear hK K
                try simp only [Act.put, List.setIfInBounds_toArray, List.set_cons_zero, List.set_cons_succ]
                refine wpAnyH_ready (rs := [26]) (by kernel_rfl) (by simp) ?_
                refine AllReadyH.cons (o := { dst := some 232, op := Op.call { callee := Callee.value (Operand.func 42), args := #[Operand.const (Value.int IntKind.i64 0), Operand.tmp 231], argTypes := #[3, 3] }, type := 29, pos := "outright.go:318", after := #[{ on := 25, ground := Ground.data }, { on := 18, ground := Ground.chain }], guard := none }) rfl (fun K hK => ?_) (AllReadyH.nil)
                clear hHeld
                go_simp
                refine (span_any _ _ _).mono ?_
                rintro e w21c ⟨rfl, hb21⟩
                have V21 := Lib.hid (V20.out.next hb21)
                have Z21 := Lib.hid (BoxAt.grow Z20.out hb21)
                clear hb21
                go_wp2_with fail
                refine hK.out _ _ ?_ (fun hHeld => ?_)
                · exact ⟨cellAt (M5.out.grow V21.out).wb.box 0, cellAt (M5.out.grow V21.out).wb.box 1, ((M5.out.grow V21.out).wb.ss.at hrl).1⟩
                clear hK K
                try simp only [Act.put, List.setIfInBounds_toArray, List.set_cons_zero, List.set_cons_succ]
                refine wpAnyH_ready (rs := [27]) (by kernel_rfl) (by simp) ?_
                refine AllReadyH.cons (o := { dst := some 233, op := Op.call { callee := Callee.value (Operand.func 42), args := #[Operand.const (Value.int IntKind.i64 0), Operand.const (Value.int IntKind.i64 0)], argTypes := #[3, 3] }, type := 29, pos := "outright.go:318", after := #[{ on := 26, ground := Ground.chain }], guard := none }) rfl (fun K hK => ?_) (AllReadyH.nil)
                clear hHeld
                go_simp
                refine (span_any _ _ _).mono ?_
                rintro e w22c ⟨rfl, hb22⟩
                have V22 := Lib.hid (V21.out.next hb22)
                have Z22 := Lib.hid (BoxAt.grow Z21.out hb22)
                clear hb22
                go_wp2_with fail
                refine hK.out _ _ ?_ (fun hHeld => ?_)
                · exact ⟨cellAt (M5.out.grow V22.out).wb.box 0, cellAt (M5.out.grow V22.out).wb.box 1, ((M5.out.grow V22.out).wb.ss.at hrl).1⟩
                clear hK K
                try simp only [Act.put, List.setIfInBounds_toArray, List.set_cons_zero, List.set_cons_succ]
                refine wpAnyH_ready (rs := [28]) (by kernel_rfl) (by simp) ?_
                refine AllReadyH.cons (o := { dst := some 234, op := Op.call { callee := Callee.value (Operand.func 41), args := #[Operand.tmp 210, Operand.tmp 211, Operand.tmp 224, Operand.tmp 232, Operand.tmp 233], argTypes := #[3, 3, 29, 29, 29] }, type := 58, pos := "outright.go:318", after := #[{ on := 4, ground := Ground.data }, { on := 5, ground := Ground.data }, { on := 18, ground := Ground.data }, { on := 26, ground := Ground.data }, { on := 27, ground := Ground.data }, { on := 27, ground := Ground.chain }], guard := none }) rfl (fun K hK => ?_) (AllReadyH.nil)
                clear hHeld
                go_simp
                refine (ticket_any _ _ _ _ _ _ _ _ _).mono ?_
                rintro e w23c ⟨rfl, hb23⟩
                have V23 := Lib.hid (V22.out.next hb23)
                have Z23 := Lib.hid (BoxAt.grow Z22.out hb23)
                clear hb23
                go_wp2_with fail
                refine hK.out _ _ ?_ (fun hHeld => ?_)
                · exact ⟨cellAt (M5.out.grow V23.out).wb.box 0, cellAt (M5.out.grow V23.out).wb.box 1, ((M5.out.grow V23.out).wb.ss.at hrl).1⟩
                clear hK K
                try simp only [Act.put, List.setIfInBounds_toArray, List.set_cons_zero, List.set_cons_succ]
                refine wpAnyH_ready (rs := [30]) (by kernel_rfl) (by simp) ?_
                refine AllReadyH.cons (o := { dst := none, op := Op.store 58 (Operand.tmp 25) (Operand.tmp 234), type := 0, pos := "outright.go:318", after := #[{ on := 29, ground := Ground.data }, { on := 28, ground := Ground.data }, { on := 28, ground := Ground.chain }, { on := 0, ground := Ground.phase }, { on := 1, ground := Ground.phase }, { on := 2, ground := Ground.phase }, { on := 3, ground := Ground.phase }, { on := 4, ground := Ground.phase }, { on := 5, ground := Ground.phase }, { on := 6, ground := Ground.phase }, { on := 7, ground := Ground.phase }, { on := 8, ground := Ground.phase }, { on := 9, ground := Ground.phase }, { on := 10, ground := Ground.phase }, { on := 11, ground := Ground.phase }, { on := 12, ground := Ground.phase }, { on := 13, ground := Ground.phase }, { on := 14, ground := Ground.phase }, { on := 15, ground := Ground.phase }, { on := 16, ground := Ground.phase }, { on := 17, ground := Ground.phase }, { on := 18, ground := Ground.phase }, { on := 19, ground := Ground.phase }, { on := 20, ground := Ground.phase }, { on := 21, ground := Ground.phase }, { on := 22, ground := Ground.phase }, { on := 23, ground := Ground.phase }, { on := 24, ground := Ground.phase }, { on := 25, ground := Ground.phase }, { on := 26, ground := Ground.phase }, { on := 27, ground := Ground.phase }, { on := 28, ground := Ground.phase }, { on := 29, ground := Ground.phase }], guard := none }) rfl (fun K hK => ?_) (AllReadyH.nil)
                clear hHeld
                refine step_store (by rfl) 58 (.tmp 25) (.tmp 234) (by rfl) (g := V5.heap.size) (cells := tkCells ⟨q, r, (S r).fat, (S r).fat, 0, m3, 0, 0⟩) (by rfl) (by rfl) Z23.out size8 (by rfl) (tkCells_all _) ?_
                intro w24c hz hg
                have Z24 := Lib.hid hz
                have V24 := Lib.hid (V23.out.of_grown hg (by omega) V23.out.size)
                clear hz hg
                refine hK.out _ _ ?_ (fun hHeld => ?_)
                · exact ⟨cellAt (M5.out.grow V24.out).wb.box 0, cellAt (M5.out.grow V24.out).wb.box 1, ((M5.out.grow V24.out).wb.ss.at hrl).1⟩
                clear hK K
                try simp only [Act.put]
                refine wpAnyH_done (by kernel_rfl) ?_ _
                refine HKK.out _ _ ?_
                (repeat apply Exists.intro)
                refine ⟨?_, rfl⟩
                exact ⟨_, rfl, Z24.out, M5.out.grow V24.out⟩
          case rest =>
            obtain ⟨tb, rfl, hz, hm⟩ := hcut
            clear M4
            have M6 := Lib.hid hm
            have Z6 := Lib.hid hz
            clear hm hz
            obtain ⟨tt, ett⟩ : ∃ tt : Tk, tt = ⟨q, r, (S r).fat, (S r).fat, 0, m3, 0, 0⟩ := ⟨_, rfl⟩
            rw [← ett] at Z6
            have HTT := Lib.hid ett
            clear ett
            go_wp2_with fail
            go_cut [26, 27] from 235 to 238 (fun v u W => ∃ b1 b2 g2 cap2, v = bp b1 ∧ u = bp b2 ∧ XB w n sa ta sn sc tn tc S T t tt b1 b2 g2 cap2 W)
            case first =>
              as_aux_lemma =>
                rename_i J1 K1 hJ hK1
                have HKK := Lib.hid (fun a' w' h => hK1 a' w' (Met.intro (hJ a' w' h)))
                clear hJ hK1
                go_light
                have M7 := Lib.hid (M6.out.grow (Below.drew (Below.refl _ _)))
                have Z7 := Lib.hid (Z6.out.grow (Below.drew (Below.refl _ _)))
                clear M6 Z6
                refine wp_region_held_drew (S := (fun w' => w'.cell? ⟨w.heap.size, 0, none⟩ = some (.int .i64 n) ∧ w'.cell? ⟨w.heap.size, 1, none⟩ = some (.slice sa sn sc) ∧ w'.cell? ⟨w.heap.size, 2, none⟩ = some (.slice ta tn tc) ∧ w'.cell? ⟨tb, 0, none⟩ = some (.int .i64 tt.crew) ∧ w'.cell? ⟨tb, 1, none⟩ = some (.int .i64 tt.seam) ∧ w'.cell? ⟨tb, 2, none⟩ = some (.int .i64 tt.fl) ∧ w'.cell? ⟨tb, 3, none⟩ = some (.int .i64 tt.fh) ∧ w'.cell? ⟨tb, 4, none⟩ = some (.int .i64 tt.tl) ∧ w'.cell? ⟨tb, 5, none⟩ = some (.int .i64 tt.th) ∧ w'.cell? ⟨tb, 6, none⟩ = some (.int .i64 tt.dl) ∧ w'.cell? ⟨tb, 7, none⟩ = some (.int .i64 tt.dh))) (by kernel_rfl) (by exact (have hm := M7.out; have hz := Z7.out; ⟨cellAt hm.wb.box 0, cellAt hm.wb.box 1, cellAt hm.wb.box 2, cellAt hz 0, cellAt hz 1, cellAt hz 2, cellAt hz 3, cellAt hz 4, cellAt hz 5, cellAt hz 6, cellAt hz 7⟩)) (fun hHeld => ?_)
                generalize World.drew wc = WW7 at *
                have V0 := Lib.hid (Below.refl WW7.heap.size WW7)
                refine wpAnyH_take (i := 0) (oi := { dst := some 235, op := Op.move (Operand.tmp 9), type := 66, pos := "outright.go:319", after := #[], guard := none }) (v := ?_) rfl (by kernel_rfl) (by kernel_rfl) (by kernel_rfl) (fun _ _ _ h => h) (Or.inl ⟨by rfl, ?_⟩) (by assumption) ?_
                rotate_left
                · (intro w9 hSw; (try dsimp only at hSw); (go_split_ands; go_simp); (try with_reducible rfl))
                try simp only [Act.put, List.setIfInBounds_toArray, List.set_cons_zero, List.set_cons_succ]
                refine wpAnyH_take (i := 1) (oi := { dst := some 236, op := Op.load 58 (Operand.tmp 25), type := 58, pos := "outright.go:319", after := #[], guard := none }) (v := ?_) rfl (by kernel_rfl) (by kernel_rfl) (by kernel_rfl) (fun _ _ _ h => h) (Or.inl ⟨by rfl, ?_⟩) (by assumption) ?_
                rotate_left
                · (intro w9 hSw; (try dsimp only at hSw); (go_split_ands; go_simp); (try with_reducible rfl))
                try simp only [Act.put, List.setIfInBounds_toArray, List.set_cons_zero, List.set_cons_succ]
                refine wpAnyH_take (i := 3) (oi := { dst := some 238, op := Op.load 25 (Operand.tmp 4), type := 25, pos := "outright.go:319", after := #[{ on := 6, ground := Ground.gcOnly Departure.lateStores }], guard := none }) (v := ?_) rfl (by kernel_rfl) (by kernel_rfl) (by kernel_rfl) (fun _ _ _ h => h) (Or.inl ⟨by rfl, ?_⟩) (by assumption) ?_
                rotate_left
                · (intro w9 hSw; (try dsimp only at hSw); (go_split_ands; go_simp); (try with_reducible rfl))
                try simp only [Act.put, List.setIfInBounds_toArray, List.set_cons_zero, List.set_cons_succ]
                refine wpAnyH_ready (rs := [2, 4, 5]) (by kernel_rfl) (by simp) ?_
                refine AllReadyH.cons (o := { dst := some 237, op := Op.call { callee := Callee.value (Operand.tmp 235), args := #[Operand.tmp 236], argTypes := #[58] }, type := 25, pos := "outright.go:319", after := #[{ on := 0, ground := Ground.data }, { on := 1, ground := Ground.data }], guard := none }) rfl (fun K hK => ?_) (AllReadyH.cons (o := { dst := some 26, op := Op.alloc 25, type := 0, pos := "outright.go:319", after := #[], guard := none }) rfl (fun K hK => ?_) (AllReadyH.cons (o := { dst := some 27, op := Op.alloc 25, type := 0, pos := "outright.go:319", after := #[], guard := none }) rfl (fun K hK => ?_) (AllReadyH.nil)))
                · clear hHeld
                  go_simp
                  refine (add_any n sa ta sn sc tn tc T tt w.heap.size _ (M7.out.grow V0.out).wb.box (M7.out.grow V0.out).wb.tt htn).mono ?_
                  rintro e w1c ⟨g2, cap2, lg, rfl, hx1, hb1⟩
                  have V1 := Lib.hid (V0.out.next hb1)
                  have X1 := Lib.hid hx1
                  have lgs := hx1.old (by omega)
                  simp only [blk] at lgs
                  clear hb1 hx1
                  go_wp2_with fail
                  refine hK.out _ _ ?_ (fun hHeld => ?_)
                  · exact (have hm := M7.out.grow V1.out; have hz := BoxAt.grow Z7.out V1.out; ⟨cellAt hm.wb.box 0, cellAt hm.wb.box 1, cellAt hm.wb.box 2, cellAt hz 0, cellAt hz 1, cellAt hz 2, cellAt hz 3, cellAt hz 4, cellAt hz 5, cellAt hz 6, cellAt hz 7⟩)
                  clear hK K
                  try simp only [Act.put, List.setIfInBounds_toArray, List.set_cons_zero, List.set_cons_succ]
                  refine wpAnyH_ready (rs := [4, 5]) (by kernel_rfl) (by simp) ?_
                  refine AllReadyH.cons (o := { dst := some 26, op := Op.alloc 25, type := 0, pos := "outright.go:319", after := #[], guard := none }) rfl (fun K hK => ?_) (AllReadyH.cons (o := { dst := some 27, op := Op.alloc 25, type := 0, pos := "outright.go:319", after := #[], guard := none }) rfl (fun K hK => ?_) (AllReadyH.nil))
                  · clear hHeld
                    go_simp
                    go_wp2_with fail
                    generalize hW : World.alloc _ _ = w2c at *
                    obtain ⟨n2, s2, b2⟩ := blocks1 hW
                    have l2 := V1.out.size
                    have d2 : w1c.heap.size < w2c.heap.size := by omega
                    have V2 := Lib.hid (V1.out.next b2)
                    have X2 := Lib.hid (TicketsAt.grow X1.out b2)
                    have A2 := Lib.hid (show BoxAt w2c w1c.heap.size #[.int .i64 0, .slice none 0 0, .slice none 0 0] 25 from n2)
                    clear n2 s2 b2 hW
                    refine hK.out _ _ ?_ (fun hHeld => ?_)
                    · exact (have hm := M7.out.grow V2.out; have hz := BoxAt.grow Z7.out V2.out; ⟨cellAt hm.wb.box 0, cellAt hm.wb.box 1, cellAt hm.wb.box 2, cellAt hz 0, cellAt hz 1, cellAt hz 2, cellAt hz 3, cellAt hz 4, cellAt hz 5, cellAt hz 6, cellAt hz 7⟩)
                    clear hK K
                    try simp only [Act.put, List.setIfInBounds_toArray, List.set_cons_zero, List.set_cons_succ]
                    refine wpAnyH_ready (rs := [5]) (by kernel_rfl) (by simp) ?_
                    refine AllReadyH.cons (o := { dst := some 27, op := Op.alloc 25, type := 0, pos := "outright.go:319", after := #[], guard := none }) rfl (fun K hK => ?_) (AllReadyH.nil)
                    clear hHeld
                    go_simp
                    go_wp2_with fail
                    generalize hW : World.alloc _ _ = w3c at *
                    obtain ⟨n3, s3, b3⟩ := blocks1 hW
                    have l3 := V2.out.size
                    have d3 : w2c.heap.size < w3c.heap.size := by omega
                    have V3 := Lib.hid (V2.out.next b3)
                    have A3 := Lib.hid (BoxAt.grow A2.out b3)
                    have X3 := Lib.hid (TicketsAt.grow X2.out b3)
                    have B3 := Lib.hid (show BoxAt w3c w2c.heap.size #[.int .i64 0, .slice none 0 0, .slice none 0 0] 25 from n3)
                    clear n3 s3 b3 hW
                    refine hK.out _ _ ?_ (fun hHeld => ?_)
                    · exact (have hm := M7.out.grow V3.out; have hz := BoxAt.grow Z7.out V3.out; ⟨cellAt hm.wb.box 0, cellAt hm.wb.box 1, cellAt hm.wb.box 2, cellAt hz 0, cellAt hz 1, cellAt hz 2, cellAt hz 3, cellAt hz 4, cellAt hz 5, cellAt hz 6, cellAt hz 7⟩)
                    clear hK K
                    try simp only [Act.put, List.setIfInBounds_toArray, List.set_cons_zero, List.set_cons_succ]
                    refine wpAnyH_ready (rs := [6]) (by kernel_rfl) (by simp) ?_
                    refine AllReadyH.cons (o := { dst := none, op := Op.store 25 (Operand.tmp 26) (Operand.tmp 237), type := 0, pos := "outright.go:319", after := #[{ on := 4, ground := Ground.data }, { on := 2, ground := Ground.data }, { on := 2, ground := Ground.chain }, { on := 0, ground := Ground.phase }, { on := 1, ground := Ground.phase }, { on := 2, ground := Ground.phase }, { on := 3, ground := Ground.textOnly Departure.lateStores }, { on := 4, ground := Ground.phase }, { on := 5, ground := Ground.phase }], guard := none }) rfl (fun K hK => ?_) (AllReadyH.nil)
                    clear hHeld
                    have f0 := freeAt A3.out 0
                    have f1 := freeAt A3.out 1
                    have f2 := freeAt A3.out 2
                    have c0 := cellAt A3.out 0
                    have c1 := cellAt A3.out 1
                    have c2 := cellAt A3.out 2
                    simp only [List.getElem?_toArray, List.getElem?_cons_zero, List.getElem?_cons_succ] at c0 c1 c2
                    go_simp
                    have A4 := Lib.hid (show BoxAt _ w1c.heap.size #[.int .i64 n, .slice sa sn sc, (.slice (some ⟨g2, 0, none⟩) (tn + 1) cap2)] 25 from (((A3.out.store 0 (.int .i64 n)).store 1 (.slice sa sn sc)).store 2 (.slice (some ⟨g2, 0, none⟩) (tn + 1) cap2)))
                    have V4 := Lib.hid (((V3.out.setCell (p := ⟨w1c.heap.size, 0, none⟩) (by dsimp only; omega) (.int .i64 n)).setCell (p := ⟨w1c.heap.size, 1, none⟩) (by dsimp only; omega) (.slice sa sn sc)).setCell (p := ⟨w1c.heap.size, 2, none⟩) (by dsimp only; omega) (.slice (some ⟨g2, 0, none⟩) (tn + 1) cap2))
                    have X4 := Lib.hid (tickets_set (tickets_set (tickets_set X3.out ⟨w1c.heap.size, 0, none⟩ (.int .i64 n) (fun _ => by simp only [blk]; omega)) ⟨w1c.heap.size, 1, none⟩ (.slice sa sn sc) (fun _ => by simp only [blk]; omega)) ⟨w1c.heap.size, 2, none⟩ (.slice (some ⟨g2, 0, none⟩) (tn + 1) cap2) (fun _ => by simp only [blk]; omega))
                    have B4 := Lib.hid (BoxAt.set (BoxAt.set (BoxAt.set B3.out ⟨w1c.heap.size, 0, none⟩ (.int .i64 n) (by dsimp only; omega)) ⟨w1c.heap.size, 1, none⟩ (.slice sa sn sc) (by dsimp only; omega)) ⟨w1c.heap.size, 2, none⟩ (.slice (some ⟨g2, 0, none⟩) (tn + 1) cap2) (by dsimp only; omega))
                    clear f0 f1 f2 c0 c1 c2
                    obtain ⟨w4c, hW⟩ : ∃ W, W = (((w3c.setCell ⟨w1c.heap.size, 0, none⟩ (.int .i64 n)).setCell ⟨w1c.heap.size, 1, none⟩ (.slice sa sn sc)).setCell ⟨w1c.heap.size, 2, none⟩ (.slice (some ⟨g2, 0, none⟩) (tn + 1) cap2)) := ⟨_, rfl⟩
                    rw [← hW] at A4 V4 X4 B4 ⊢
                    clear hW
                    refine hK.out _ _ ?_ (fun hHeld => ?_)
                    · exact (have hm := M7.out.grow V4.out; have hz := BoxAt.grow Z7.out V4.out; ⟨cellAt hm.wb.box 0, cellAt hm.wb.box 1, cellAt hm.wb.box 2, cellAt hz 0, cellAt hz 1, cellAt hz 2, cellAt hz 3, cellAt hz 4, cellAt hz 5, cellAt hz 6, cellAt hz 7⟩)
                    clear hK K
                    try simp only [Act.put]
                    refine wpAnyH_ready (rs := [7]) (by kernel_rfl) (by simp) ?_
                    refine AllReadyH.cons (o := { dst := none, op := Op.store 25 (Operand.tmp 27) (Operand.tmp 238), type := 0, pos := "outright.go:319", after := #[{ on := 5, ground := Ground.data }, { on := 3, ground := Ground.data }, { on := 6, ground := Ground.chain }, { on := 0, ground := Ground.phase }, { on := 1, ground := Ground.phase }, { on := 2, ground := Ground.phase }, { on := 3, ground := Ground.phase }, { on := 4, ground := Ground.phase }, { on := 5, ground := Ground.phase }, { on := 6, ground := Ground.phase }], guard := none }) rfl (fun K hK => ?_) (AllReadyH.nil)
                    clear hHeld
                    have f0 := freeAt B4.out 0
                    have f1 := freeAt B4.out 1
                    have f2 := freeAt B4.out 2
                    have c0 := cellAt B4.out 0
                    have c1 := cellAt B4.out 1
                    have c2 := cellAt B4.out 2
                    simp only [List.getElem?_toArray, List.getElem?_cons_zero, List.getElem?_cons_succ] at c0 c1 c2
                    go_simp
                    have B5 := Lib.hid (show BoxAt _ w2c.heap.size #[.int .i64 n, .slice sa sn sc, (.slice ta tn tc)] 25 from (((B4.out.store 0 (.int .i64 n)).store 1 (.slice sa sn sc)).store 2 (.slice ta tn tc)))
                    have V5 := Lib.hid (((V4.out.setCell (p := ⟨w2c.heap.size, 0, none⟩) (by dsimp only; omega) (.int .i64 n)).setCell (p := ⟨w2c.heap.size, 1, none⟩) (by dsimp only; omega) (.slice sa sn sc)).setCell (p := ⟨w2c.heap.size, 2, none⟩) (by dsimp only; omega) (.slice ta tn tc))
                    have X5 := Lib.hid (tickets_set (tickets_set (tickets_set X4.out ⟨w2c.heap.size, 0, none⟩ (.int .i64 n) (fun _ => by simp only [blk]; omega)) ⟨w2c.heap.size, 1, none⟩ (.slice sa sn sc) (fun _ => by simp only [blk]; omega)) ⟨w2c.heap.size, 2, none⟩ (.slice ta tn tc) (fun _ => by simp only [blk]; omega))
                    have A5 := Lib.hid (BoxAt.set (BoxAt.set (BoxAt.set A4.out ⟨w2c.heap.size, 0, none⟩ (.int .i64 n) (by dsimp only; omega)) ⟨w2c.heap.size, 1, none⟩ (.slice sa sn sc) (by dsimp only; omega)) ⟨w2c.heap.size, 2, none⟩ (.slice ta tn tc) (by dsimp only; omega))
                    clear f0 f1 f2 c0 c1 c2
                    obtain ⟨w5c, hW⟩ : ∃ W, W = (((w4c.setCell ⟨w2c.heap.size, 0, none⟩ (.int .i64 n)).setCell ⟨w2c.heap.size, 1, none⟩ (.slice sa sn sc)).setCell ⟨w2c.heap.size, 2, none⟩ (.slice ta tn tc)) := ⟨_, rfl⟩
                    rw [← hW] at B5 V5 X5 A5 ⊢
                    clear hW
                    refine hK.out _ _ ?_ (fun hHeld => ?_)
                    · exact (have hm := M7.out.grow V5.out; have hz := BoxAt.grow Z7.out V5.out; ⟨cellAt hm.wb.box 0, cellAt hm.wb.box 1, cellAt hm.wb.box 2, cellAt hz 0, cellAt hz 1, cellAt hz 2, cellAt hz 3, cellAt hz 4, cellAt hz 5, cellAt hz 6, cellAt hz 7⟩)
                    clear hK K
                    try simp only [Act.put]
                    refine wpAnyH_done (by kernel_rfl) ?_ _
                    refine HKK.out _ _ ?_
                    (repeat apply Exists.intro)
                    refine ⟨?_, rfl⟩
                    exact ⟨_, _, _, _, rfl, rfl, M7.out.grow V5.out, A5.out, B5.out, X5.out, (fun h => by have := M7.out.wb.ss.old h; omega), (fun h => by have := M7.out.wb.tt.old h; omega), (by have := lt_of_heap M7.out.tb; omega), (by omega), (by omega)⟩
                  · clear hHeld
                    go_simp
                    go_wp2_with fail
                    generalize hW : World.alloc _ _ = w6c at *
                    obtain ⟨n6, s6, b6⟩ := blocks1 hW
                    have l6 := V1.out.size
                    have d6 : w1c.heap.size < w6c.heap.size := by omega
                    have V6 := Lib.hid (V1.out.next b6)
                    have X6 := Lib.hid (TicketsAt.grow X1.out b6)
                    have B6 := Lib.hid (show BoxAt w6c w1c.heap.size #[.int .i64 0, .slice none 0 0, .slice none 0 0] 25 from n6)
                    clear n6 s6 b6 hW
                    refine hK.out _ _ ?_ (fun hHeld => ?_)
                    · exact (have hm := M7.out.grow V6.out; have hz := BoxAt.grow Z7.out V6.out; ⟨cellAt hm.wb.box 0, cellAt hm.wb.box 1, cellAt hm.wb.box 2, cellAt hz 0, cellAt hz 1, cellAt hz 2, cellAt hz 3, cellAt hz 4, cellAt hz 5, cellAt hz 6, cellAt hz 7⟩)
                    clear hK K
                    try simp only [Act.put, List.setIfInBounds_toArray, List.set_cons_zero, List.set_cons_succ]
                    refine wpAnyH_ready (rs := [4]) (by kernel_rfl) (by simp) ?_
                    refine AllReadyH.cons (o := { dst := some 26, op := Op.alloc 25, type := 0, pos := "outright.go:319", after := #[], guard := none }) rfl (fun K hK => ?_) (AllReadyH.nil)
                    clear hHeld
                    go_simp
                    go_wp2_with fail
                    generalize hW : World.alloc _ _ = w7c at *
                    obtain ⟨n7, s7, b7⟩ := blocks1 hW
                    have l7 := V6.out.size
                    have d7 : w6c.heap.size < w7c.heap.size := by omega
                    have V7 := Lib.hid (V6.out.next b7)
                    have B7 := Lib.hid (BoxAt.grow B6.out b7)
                    have X7 := Lib.hid (TicketsAt.grow X6.out b7)
                    have A7 := Lib.hid (show BoxAt w7c w6c.heap.size #[.int .i64 0, .slice none 0 0, .slice none 0 0] 25 from n7)
                    clear n7 s7 b7 hW
                    refine hK.out _ _ ?_ (fun hHeld => ?_)
                    · exact (have hm := M7.out.grow V7.out; have hz := BoxAt.grow Z7.out V7.out; ⟨cellAt hm.wb.box 0, cellAt hm.wb.box 1, cellAt hm.wb.box 2, cellAt hz 0, cellAt hz 1, cellAt hz 2, cellAt hz 3, cellAt hz 4, cellAt hz 5, cellAt hz 6, cellAt hz 7⟩)
                    clear hK K
                    try simp only [Act.put, List.setIfInBounds_toArray, List.set_cons_zero, List.set_cons_succ]
                    refine wpAnyH_ready (rs := [6]) (by kernel_rfl) (by simp) ?_
                    refine AllReadyH.cons (o := { dst := none, op := Op.store 25 (Operand.tmp 26) (Operand.tmp 237), type := 0, pos := "outright.go:319", after := #[{ on := 4, ground := Ground.data }, { on := 2, ground := Ground.data }, { on := 2, ground := Ground.chain }, { on := 0, ground := Ground.phase }, { on := 1, ground := Ground.phase }, { on := 2, ground := Ground.phase }, { on := 3, ground := Ground.textOnly Departure.lateStores }, { on := 4, ground := Ground.phase }, { on := 5, ground := Ground.phase }], guard := none }) rfl (fun K hK => ?_) (AllReadyH.nil)
                    clear hHeld
                    have f0 := freeAt A7.out 0
                    have f1 := freeAt A7.out 1
                    have f2 := freeAt A7.out 2
                    have c0 := cellAt A7.out 0
                    have c1 := cellAt A7.out 1
                    have c2 := cellAt A7.out 2
                    simp only [List.getElem?_toArray, List.getElem?_cons_zero, List.getElem?_cons_succ] at c0 c1 c2
                    go_simp
                    have A8 := Lib.hid (show BoxAt _ w6c.heap.size #[.int .i64 n, .slice sa sn sc, (.slice (some ⟨g2, 0, none⟩) (tn + 1) cap2)] 25 from (((A7.out.store 0 (.int .i64 n)).store 1 (.slice sa sn sc)).store 2 (.slice (some ⟨g2, 0, none⟩) (tn + 1) cap2)))
                    have V8 := Lib.hid (((V7.out.setCell (p := ⟨w6c.heap.size, 0, none⟩) (by dsimp only; omega) (.int .i64 n)).setCell (p := ⟨w6c.heap.size, 1, none⟩) (by dsimp only; omega) (.slice sa sn sc)).setCell (p := ⟨w6c.heap.size, 2, none⟩) (by dsimp only; omega) (.slice (some ⟨g2, 0, none⟩) (tn + 1) cap2))
                    have X8 := Lib.hid (tickets_set (tickets_set (tickets_set X7.out ⟨w6c.heap.size, 0, none⟩ (.int .i64 n) (fun _ => by simp only [blk]; omega)) ⟨w6c.heap.size, 1, none⟩ (.slice sa sn sc) (fun _ => by simp only [blk]; omega)) ⟨w6c.heap.size, 2, none⟩ (.slice (some ⟨g2, 0, none⟩) (tn + 1) cap2) (fun _ => by simp only [blk]; omega))
                    have B8 := Lib.hid (BoxAt.set (BoxAt.set (BoxAt.set B7.out ⟨w6c.heap.size, 0, none⟩ (.int .i64 n) (by dsimp only; omega)) ⟨w6c.heap.size, 1, none⟩ (.slice sa sn sc) (by dsimp only; omega)) ⟨w6c.heap.size, 2, none⟩ (.slice (some ⟨g2, 0, none⟩) (tn + 1) cap2) (by dsimp only; omega))
                    clear f0 f1 f2 c0 c1 c2
                    obtain ⟨w8c, hW⟩ : ∃ W, W = (((w7c.setCell ⟨w6c.heap.size, 0, none⟩ (.int .i64 n)).setCell ⟨w6c.heap.size, 1, none⟩ (.slice sa sn sc)).setCell ⟨w6c.heap.size, 2, none⟩ (.slice (some ⟨g2, 0, none⟩) (tn + 1) cap2)) := ⟨_, rfl⟩
                    rw [← hW] at A8 V8 X8 B8 ⊢
                    clear hW
                    refine hK.out _ _ ?_ (fun hHeld => ?_)
                    · exact (have hm := M7.out.grow V8.out; have hz := BoxAt.grow Z7.out V8.out; ⟨cellAt hm.wb.box 0, cellAt hm.wb.box 1, cellAt hm.wb.box 2, cellAt hz 0, cellAt hz 1, cellAt hz 2, cellAt hz 3, cellAt hz 4, cellAt hz 5, cellAt hz 6, cellAt hz 7⟩)
                    clear hK K
                    try simp only [Act.put]
                    refine wpAnyH_ready (rs := [7]) (by kernel_rfl) (by simp) ?_
                    refine AllReadyH.cons (o := { dst := none, op := Op.store 25 (Operand.tmp 27) (Operand.tmp 238), type := 0, pos := "outright.go:319", after := #[{ on := 5, ground := Ground.data }, { on := 3, ground := Ground.data }, { on := 6, ground := Ground.chain }, { on := 0, ground := Ground.phase }, { on := 1, ground := Ground.phase }, { on := 2, ground := Ground.phase }, { on := 3, ground := Ground.phase }, { on := 4, ground := Ground.phase }, { on := 5, ground := Ground.phase }, { on := 6, ground := Ground.phase }], guard := none }) rfl (fun K hK => ?_) (AllReadyH.nil)
                    clear hHeld
                    have f0 := freeAt B8.out 0
                    have f1 := freeAt B8.out 1
                    have f2 := freeAt B8.out 2
                    have c0 := cellAt B8.out 0
                    have c1 := cellAt B8.out 1
                    have c2 := cellAt B8.out 2
                    simp only [List.getElem?_toArray, List.getElem?_cons_zero, List.getElem?_cons_succ] at c0 c1 c2
                    go_simp
                    have B9 := Lib.hid (show BoxAt _ w1c.heap.size #[.int .i64 n, .slice sa sn sc, (.slice ta tn tc)] 25 from (((B8.out.store 0 (.int .i64 n)).store 1 (.slice sa sn sc)).store 2 (.slice ta tn tc)))
                    have V9 := Lib.hid (((V8.out.setCell (p := ⟨w1c.heap.size, 0, none⟩) (by dsimp only; omega) (.int .i64 n)).setCell (p := ⟨w1c.heap.size, 1, none⟩) (by dsimp only; omega) (.slice sa sn sc)).setCell (p := ⟨w1c.heap.size, 2, none⟩) (by dsimp only; omega) (.slice ta tn tc))
                    have X9 := Lib.hid (tickets_set (tickets_set (tickets_set X8.out ⟨w1c.heap.size, 0, none⟩ (.int .i64 n) (fun _ => by simp only [blk]; omega)) ⟨w1c.heap.size, 1, none⟩ (.slice sa sn sc) (fun _ => by simp only [blk]; omega)) ⟨w1c.heap.size, 2, none⟩ (.slice ta tn tc) (fun _ => by simp only [blk]; omega))
                    have A9 := Lib.hid (BoxAt.set (BoxAt.set (BoxAt.set A8.out ⟨w1c.heap.size, 0, none⟩ (.int .i64 n) (by dsimp only; omega)) ⟨w1c.heap.size, 1, none⟩ (.slice sa sn sc) (by dsimp only; omega)) ⟨w1c.heap.size, 2, none⟩ (.slice ta tn tc) (by dsimp only; omega))
                    clear f0 f1 f2 c0 c1 c2
                    obtain ⟨w9c, hW⟩ : ∃ W, W = (((w8c.setCell ⟨w1c.heap.size, 0, none⟩ (.int .i64 n)).setCell ⟨w1c.heap.size, 1, none⟩ (.slice sa sn sc)).setCell ⟨w1c.heap.size, 2, none⟩ (.slice ta tn tc)) := ⟨_, rfl⟩
                    rw [← hW] at B9 V9 X9 A9 ⊢
                    clear hW
                    refine hK.out _ _ ?_ (fun hHeld => ?_)
                    · exact (have hm := M7.out.grow V9.out; have hz := BoxAt.grow Z7.out V9.out; ⟨cellAt hm.wb.box 0, cellAt hm.wb.box 1, cellAt hm.wb.box 2, cellAt hz 0, cellAt hz 1, cellAt hz 2, cellAt hz 3, cellAt hz 4, cellAt hz 5, cellAt hz 6, cellAt hz 7⟩)
                    clear hK K
                    try simp only [Act.put]
                    refine wpAnyH_done (by kernel_rfl) ?_ _
                    refine HKK.out _ _ ?_
                    (repeat apply Exists.intro)
                    refine ⟨?_, rfl⟩
                    exact ⟨_, _, _, _, rfl, rfl, M7.out.grow V9.out, A9.out, B9.out, X9.out, (fun h => by have := M7.out.wb.ss.old h; omega), (fun h => by have := M7.out.wb.tt.old h; omega), (by have := lt_of_heap M7.out.tb; omega), (by omega), (by omega)⟩
                · clear hHeld
                  go_simp
                  go_wp2_with fail
                  generalize hW : World.alloc _ _ = w10c at *
                  obtain ⟨n10, s10, b10⟩ := blocks1 hW
                  have l10 := V0.out.size
                  have d10 : WW7.heap.size < w10c.heap.size := by omega
                  have V10 := Lib.hid (V0.out.next b10)
                  have A10 := Lib.hid (show BoxAt w10c WW7.heap.size #[.int .i64 0, .slice none 0 0, .slice none 0 0] 25 from n10)
                  clear n10 s10 b10 hW
                  refine hK.out _ _ ?_ (fun hHeld => ?_)
                  · exact (have hm := M7.out.grow V10.out; have hz := BoxAt.grow Z7.out V10.out; ⟨cellAt hm.wb.box 0, cellAt hm.wb.box 1, cellAt hm.wb.box 2, cellAt hz 0, cellAt hz 1, cellAt hz 2, cellAt hz 3, cellAt hz 4, cellAt hz 5, cellAt hz 6, cellAt hz 7⟩)
                  clear hK K
                  try simp only [Act.put, List.setIfInBounds_toArray, List.set_cons_zero, List.set_cons_succ]
                  refine wpAnyH_ready (rs := [2, 5]) (by kernel_rfl) (by simp) ?_
                  refine AllReadyH.cons (o := { dst := some 237, op := Op.call { callee := Callee.value (Operand.tmp 235), args := #[Operand.tmp 236], argTypes := #[58] }, type := 25, pos := "outright.go:319", after := #[{ on := 0, ground := Ground.data }, { on := 1, ground := Ground.data }], guard := none }) rfl (fun K hK => ?_) (AllReadyH.cons (o := { dst := some 27, op := Op.alloc 25, type := 0, pos := "outright.go:319", after := #[], guard := none }) rfl (fun K hK => ?_) (AllReadyH.nil))
                  · clear hHeld
                    go_simp
                    refine (add_any n sa ta sn sc tn tc T tt w.heap.size _ (M7.out.grow V10.out).wb.box (M7.out.grow V10.out).wb.tt htn).mono ?_
                    rintro e w11c ⟨g2, cap2, lg, rfl, hx11, hb11⟩
                    have V11 := Lib.hid (V10.out.next hb11)
                    have A11 := Lib.hid (BoxAt.grow A10.out hb11)
                    have X11 := Lib.hid hx11
                    have lgs := hx11.old (by omega)
                    simp only [blk] at lgs
                    clear hb11 hx11
                    go_wp2_with fail
                    refine hK.out _ _ ?_ (fun hHeld => ?_)
                    · exact (have hm := M7.out.grow V11.out; have hz := BoxAt.grow Z7.out V11.out; ⟨cellAt hm.wb.box 0, cellAt hm.wb.box 1, cellAt hm.wb.box 2, cellAt hz 0, cellAt hz 1, cellAt hz 2, cellAt hz 3, cellAt hz 4, cellAt hz 5, cellAt hz 6, cellAt hz 7⟩)
                    clear hK K
                    try simp only [Act.put, List.setIfInBounds_toArray, List.set_cons_zero, List.set_cons_succ]
                    refine wpAnyH_ready (rs := [5]) (by kernel_rfl) (by simp) ?_
                    refine AllReadyH.cons (o := { dst := some 27, op := Op.alloc 25, type := 0, pos := "outright.go:319", after := #[], guard := none }) rfl (fun K hK => ?_) (AllReadyH.nil)
                    clear hHeld
                    go_simp
                    go_wp2_with fail
                    generalize hW : World.alloc _ _ = w12c at *
                    obtain ⟨n12, s12, b12⟩ := blocks1 hW
                    have l12 := V11.out.size
                    have d12 : w11c.heap.size < w12c.heap.size := by omega
                    have V12 := Lib.hid (V11.out.next b12)
                    have A12 := Lib.hid (BoxAt.grow A11.out b12)
                    have X12 := Lib.hid (TicketsAt.grow X11.out b12)
                    have B12 := Lib.hid (show BoxAt w12c w11c.heap.size #[.int .i64 0, .slice none 0 0, .slice none 0 0] 25 from n12)
                    clear n12 s12 b12 hW
                    refine hK.out _ _ ?_ (fun hHeld => ?_)
                    · exact (have hm := M7.out.grow V12.out; have hz := BoxAt.grow Z7.out V12.out; ⟨cellAt hm.wb.box 0, cellAt hm.wb.box 1, cellAt hm.wb.box 2, cellAt hz 0, cellAt hz 1, cellAt hz 2, cellAt hz 3, cellAt hz 4, cellAt hz 5, cellAt hz 6, cellAt hz 7⟩)
                    clear hK K
                    try simp only [Act.put, List.setIfInBounds_toArray, List.set_cons_zero, List.set_cons_succ]
                    refine wpAnyH_ready (rs := [6]) (by kernel_rfl) (by simp) ?_
                    refine AllReadyH.cons (o := { dst := none, op := Op.store 25 (Operand.tmp 26) (Operand.tmp 237), type := 0, pos := "outright.go:319", after := #[{ on := 4, ground := Ground.data }, { on := 2, ground := Ground.data }, { on := 2, ground := Ground.chain }, { on := 0, ground := Ground.phase }, { on := 1, ground := Ground.phase }, { on := 2, ground := Ground.phase }, { on := 3, ground := Ground.textOnly Departure.lateStores }, { on := 4, ground := Ground.phase }, { on := 5, ground := Ground.phase }], guard := none }) rfl (fun K hK => ?_) (AllReadyH.nil)
                    clear hHeld
                    have f0 := freeAt A12.out 0
                    have f1 := freeAt A12.out 1
                    have f2 := freeAt A12.out 2
                    have c0 := cellAt A12.out 0
                    have c1 := cellAt A12.out 1
                    have c2 := cellAt A12.out 2
                    simp only [List.getElem?_toArray, List.getElem?_cons_zero, List.getElem?_cons_succ] at c0 c1 c2
                    go_simp
                    have A13 := Lib.hid (show BoxAt _ WW7.heap.size #[.int .i64 n, .slice sa sn sc, (.slice (some ⟨g2, 0, none⟩) (tn + 1) cap2)] 25 from (((A12.out.store 0 (.int .i64 n)).store 1 (.slice sa sn sc)).store 2 (.slice (some ⟨g2, 0, none⟩) (tn + 1) cap2)))
                    have V13 := Lib.hid (((V12.out.setCell (p := ⟨WW7.heap.size, 0, none⟩) (by dsimp only; omega) (.int .i64 n)).setCell (p := ⟨WW7.heap.size, 1, none⟩) (by dsimp only; omega) (.slice sa sn sc)).setCell (p := ⟨WW7.heap.size, 2, none⟩) (by dsimp only; omega) (.slice (some ⟨g2, 0, none⟩) (tn + 1) cap2))
                    have X13 := Lib.hid (tickets_set (tickets_set (tickets_set X12.out ⟨WW7.heap.size, 0, none⟩ (.int .i64 n) (fun _ => by simp only [blk]; omega)) ⟨WW7.heap.size, 1, none⟩ (.slice sa sn sc) (fun _ => by simp only [blk]; omega)) ⟨WW7.heap.size, 2, none⟩ (.slice (some ⟨g2, 0, none⟩) (tn + 1) cap2) (fun _ => by simp only [blk]; omega))
                    have B13 := Lib.hid (BoxAt.set (BoxAt.set (BoxAt.set B12.out ⟨WW7.heap.size, 0, none⟩ (.int .i64 n) (by dsimp only; omega)) ⟨WW7.heap.size, 1, none⟩ (.slice sa sn sc) (by dsimp only; omega)) ⟨WW7.heap.size, 2, none⟩ (.slice (some ⟨g2, 0, none⟩) (tn + 1) cap2) (by dsimp only; omega))
                    clear f0 f1 f2 c0 c1 c2
                    obtain ⟨w13c, hW⟩ : ∃ W, W = (((w12c.setCell ⟨WW7.heap.size, 0, none⟩ (.int .i64 n)).setCell ⟨WW7.heap.size, 1, none⟩ (.slice sa sn sc)).setCell ⟨WW7.heap.size, 2, none⟩ (.slice (some ⟨g2, 0, none⟩) (tn + 1) cap2)) := ⟨_, rfl⟩
                    rw [← hW] at A13 V13 X13 B13 ⊢
                    clear hW
                    refine hK.out _ _ ?_ (fun hHeld => ?_)
                    · exact (have hm := M7.out.grow V13.out; have hz := BoxAt.grow Z7.out V13.out; ⟨cellAt hm.wb.box 0, cellAt hm.wb.box 1, cellAt hm.wb.box 2, cellAt hz 0, cellAt hz 1, cellAt hz 2, cellAt hz 3, cellAt hz 4, cellAt hz 5, cellAt hz 6, cellAt hz 7⟩)
                    clear hK K
                    try simp only [Act.put]
                    refine wpAnyH_ready (rs := [7]) (by kernel_rfl) (by simp) ?_
                    refine AllReadyH.cons (o := { dst := none, op := Op.store 25 (Operand.tmp 27) (Operand.tmp 238), type := 0, pos := "outright.go:319", after := #[{ on := 5, ground := Ground.data }, { on := 3, ground := Ground.data }, { on := 6, ground := Ground.chain }, { on := 0, ground := Ground.phase }, { on := 1, ground := Ground.phase }, { on := 2, ground := Ground.phase }, { on := 3, ground := Ground.phase }, { on := 4, ground := Ground.phase }, { on := 5, ground := Ground.phase }, { on := 6, ground := Ground.phase }], guard := none }) rfl (fun K hK => ?_) (AllReadyH.nil)
                    clear hHeld
                    have f0 := freeAt B13.out 0
                    have f1 := freeAt B13.out 1
                    have f2 := freeAt B13.out 2
                    have c0 := cellAt B13.out 0
                    have c1 := cellAt B13.out 1
                    have c2 := cellAt B13.out 2
                    simp only [List.getElem?_toArray, List.getElem?_cons_zero, List.getElem?_cons_succ] at c0 c1 c2
                    go_simp
                    have B14 := Lib.hid (show BoxAt _ w11c.heap.size #[.int .i64 n, .slice sa sn sc, (.slice ta tn tc)] 25 from (((B13.out.store 0 (.int .i64 n)).store 1 (.slice sa sn sc)).store 2 (.slice ta tn tc)))
                    have V14 := Lib.hid (((V13.out.setCell (p := ⟨w11c.heap.size, 0, none⟩) (by dsimp only; omega) (.int .i64 n)).setCell (p := ⟨w11c.heap.size, 1, none⟩) (by dsimp only; omega) (.slice sa sn sc)).setCell (p := ⟨w11c.heap.size, 2, none⟩) (by dsimp only; omega) (.slice ta tn tc))
                    have X14 := Lib.hid (tickets_set (tickets_set (tickets_set X13.out ⟨w11c.heap.size, 0, none⟩ (.int .i64 n) (fun _ => by simp only [blk]; omega)) ⟨w11c.heap.size, 1, none⟩ (.slice sa sn sc) (fun _ => by simp only [blk]; omega)) ⟨w11c.heap.size, 2, none⟩ (.slice ta tn tc) (fun _ => by simp only [blk]; omega))
                    have A14 := Lib.hid (BoxAt.set (BoxAt.set (BoxAt.set A13.out ⟨w11c.heap.size, 0, none⟩ (.int .i64 n) (by dsimp only; omega)) ⟨w11c.heap.size, 1, none⟩ (.slice sa sn sc) (by dsimp only; omega)) ⟨w11c.heap.size, 2, none⟩ (.slice ta tn tc) (by dsimp only; omega))
                    clear f0 f1 f2 c0 c1 c2
                    obtain ⟨w14c, hW⟩ : ∃ W, W = (((w13c.setCell ⟨w11c.heap.size, 0, none⟩ (.int .i64 n)).setCell ⟨w11c.heap.size, 1, none⟩ (.slice sa sn sc)).setCell ⟨w11c.heap.size, 2, none⟩ (.slice ta tn tc)) := ⟨_, rfl⟩
                    rw [← hW] at B14 V14 X14 A14 ⊢
                    clear hW
                    refine hK.out _ _ ?_ (fun hHeld => ?_)
                    · exact (have hm := M7.out.grow V14.out; have hz := BoxAt.grow Z7.out V14.out; ⟨cellAt hm.wb.box 0, cellAt hm.wb.box 1, cellAt hm.wb.box 2, cellAt hz 0, cellAt hz 1, cellAt hz 2, cellAt hz 3, cellAt hz 4, cellAt hz 5, cellAt hz 6, cellAt hz 7⟩)
                    clear hK K
                    try simp only [Act.put]
                    refine wpAnyH_done (by kernel_rfl) ?_ _
                    refine HKK.out _ _ ?_
                    (repeat apply Exists.intro)
                    refine ⟨?_, rfl⟩
                    exact ⟨_, _, _, _, rfl, rfl, M7.out.grow V14.out, A14.out, B14.out, X14.out, (fun h => by have := M7.out.wb.ss.old h; omega), (fun h => by have := M7.out.wb.tt.old h; omega), (by have := lt_of_heap M7.out.tb; omega), (by omega), (by omega)⟩
                  · clear hHeld
                    go_simp
                    go_wp2_with fail
                    generalize hW : World.alloc _ _ = w15c at *
                    obtain ⟨n15, s15, b15⟩ := blocks1 hW
                    have l15 := V10.out.size
                    have d15 : w10c.heap.size < w15c.heap.size := by omega
                    have V15 := Lib.hid (V10.out.next b15)
                    have A15 := Lib.hid (BoxAt.grow A10.out b15)
                    have B15 := Lib.hid (show BoxAt w15c w10c.heap.size #[.int .i64 0, .slice none 0 0, .slice none 0 0] 25 from n15)
                    clear n15 s15 b15 hW
                    refine hK.out _ _ ?_ (fun hHeld => ?_)
                    · exact (have hm := M7.out.grow V15.out; have hz := BoxAt.grow Z7.out V15.out; ⟨cellAt hm.wb.box 0, cellAt hm.wb.box 1, cellAt hm.wb.box 2, cellAt hz 0, cellAt hz 1, cellAt hz 2, cellAt hz 3, cellAt hz 4, cellAt hz 5, cellAt hz 6, cellAt hz 7⟩)
                    clear hK K
                    try simp only [Act.put, List.setIfInBounds_toArray, List.set_cons_zero, List.set_cons_succ]
                    refine wpAnyH_ready (rs := [2]) (by kernel_rfl) (by simp) ?_
                    refine AllReadyH.cons (o := { dst := some 237, op := Op.call { callee := Callee.value (Operand.tmp 235), args := #[Operand.tmp 236], argTypes := #[58] }, type := 25, pos := "outright.go:319", after := #[{ on := 0, ground := Ground.data }, { on := 1, ground := Ground.data }], guard := none }) rfl (fun K hK => ?_) (AllReadyH.nil)
                    clear hHeld
                    go_simp
                    refine (add_any n sa ta sn sc tn tc T tt w.heap.size _ (M7.out.grow V15.out).wb.box (M7.out.grow V15.out).wb.tt htn).mono ?_
                    rintro e w16c ⟨g2, cap2, lg, rfl, hx16, hb16⟩
                    have V16 := Lib.hid (V15.out.next hb16)
                    have A16 := Lib.hid (BoxAt.grow A15.out hb16)
                    have B16 := Lib.hid (BoxAt.grow B15.out hb16)
                    have X16 := Lib.hid hx16
                    have lgs := hx16.old (by omega)
                    simp only [blk] at lgs
                    clear hb16 hx16
                    go_wp2_with fail
                    refine hK.out _ _ ?_ (fun hHeld => ?_)
                    · exact (have hm := M7.out.grow V16.out; have hz := BoxAt.grow Z7.out V16.out; ⟨cellAt hm.wb.box 0, cellAt hm.wb.box 1, cellAt hm.wb.box 2, cellAt hz 0, cellAt hz 1, cellAt hz 2, cellAt hz 3, cellAt hz 4, cellAt hz 5, cellAt hz 6, cellAt hz 7⟩)
                    clear hK K
                    try simp only [Act.put, List.setIfInBounds_toArray, List.set_cons_zero, List.set_cons_succ]
                    refine wpAnyH_ready (rs := [6]) (by kernel_rfl) (by simp) ?_
                    refine AllReadyH.cons (o := { dst := none, op := Op.store 25 (Operand.tmp 26) (Operand.tmp 237), type := 0, pos := "outright.go:319", after := #[{ on := 4, ground := Ground.data }, { on := 2, ground := Ground.data }, { on := 2, ground := Ground.chain }, { on := 0, ground := Ground.phase }, { on := 1, ground := Ground.phase }, { on := 2, ground := Ground.phase }, { on := 3, ground := Ground.textOnly Departure.lateStores }, { on := 4, ground := Ground.phase }, { on := 5, ground := Ground.phase }], guard := none }) rfl (fun K hK => ?_) (AllReadyH.nil)
                    clear hHeld
                    have f0 := freeAt A16.out 0
                    have f1 := freeAt A16.out 1
                    have f2 := freeAt A16.out 2
                    have c0 := cellAt A16.out 0
                    have c1 := cellAt A16.out 1
                    have c2 := cellAt A16.out 2
                    simp only [List.getElem?_toArray, List.getElem?_cons_zero, List.getElem?_cons_succ] at c0 c1 c2
                    go_simp
                    have A17 := Lib.hid (show BoxAt _ WW7.heap.size #[.int .i64 n, .slice sa sn sc, (.slice (some ⟨g2, 0, none⟩) (tn + 1) cap2)] 25 from (((A16.out.store 0 (.int .i64 n)).store 1 (.slice sa sn sc)).store 2 (.slice (some ⟨g2, 0, none⟩) (tn + 1) cap2)))
                    have V17 := Lib.hid (((V16.out.setCell (p := ⟨WW7.heap.size, 0, none⟩) (by dsimp only; omega) (.int .i64 n)).setCell (p := ⟨WW7.heap.size, 1, none⟩) (by dsimp only; omega) (.slice sa sn sc)).setCell (p := ⟨WW7.heap.size, 2, none⟩) (by dsimp only; omega) (.slice (some ⟨g2, 0, none⟩) (tn + 1) cap2))
                    have X17 := Lib.hid (tickets_set (tickets_set (tickets_set X16.out ⟨WW7.heap.size, 0, none⟩ (.int .i64 n) (fun _ => by simp only [blk]; omega)) ⟨WW7.heap.size, 1, none⟩ (.slice sa sn sc) (fun _ => by simp only [blk]; omega)) ⟨WW7.heap.size, 2, none⟩ (.slice (some ⟨g2, 0, none⟩) (tn + 1) cap2) (fun _ => by simp only [blk]; omega))
                    have B17 := Lib.hid (BoxAt.set (BoxAt.set (BoxAt.set B16.out ⟨WW7.heap.size, 0, none⟩ (.int .i64 n) (by dsimp only; omega)) ⟨WW7.heap.size, 1, none⟩ (.slice sa sn sc) (by dsimp only; omega)) ⟨WW7.heap.size, 2, none⟩ (.slice (some ⟨g2, 0, none⟩) (tn + 1) cap2) (by dsimp only; omega))
                    clear f0 f1 f2 c0 c1 c2
                    obtain ⟨w17c, hW⟩ : ∃ W, W = (((w16c.setCell ⟨WW7.heap.size, 0, none⟩ (.int .i64 n)).setCell ⟨WW7.heap.size, 1, none⟩ (.slice sa sn sc)).setCell ⟨WW7.heap.size, 2, none⟩ (.slice (some ⟨g2, 0, none⟩) (tn + 1) cap2)) := ⟨_, rfl⟩
                    rw [← hW] at A17 V17 X17 B17 ⊢
                    clear hW
                    refine hK.out _ _ ?_ (fun hHeld => ?_)
                    · exact (have hm := M7.out.grow V17.out; have hz := BoxAt.grow Z7.out V17.out; ⟨cellAt hm.wb.box 0, cellAt hm.wb.box 1, cellAt hm.wb.box 2, cellAt hz 0, cellAt hz 1, cellAt hz 2, cellAt hz 3, cellAt hz 4, cellAt hz 5, cellAt hz 6, cellAt hz 7⟩)
                    clear hK K
                    try simp only [Act.put]
                    refine wpAnyH_ready (rs := [7]) (by kernel_rfl) (by simp) ?_
                    refine AllReadyH.cons (o := { dst := none, op := Op.store 25 (Operand.tmp 27) (Operand.tmp 238), type := 0, pos := "outright.go:319", after := #[{ on := 5, ground := Ground.data }, { on := 3, ground := Ground.data }, { on := 6, ground := Ground.chain }, { on := 0, ground := Ground.phase }, { on := 1, ground := Ground.phase }, { on := 2, ground := Ground.phase }, { on := 3, ground := Ground.phase }, { on := 4, ground := Ground.phase }, { on := 5, ground := Ground.phase }, { on := 6, ground := Ground.phase }], guard := none }) rfl (fun K hK => ?_) (AllReadyH.nil)
                    clear hHeld
                    have f0 := freeAt B17.out 0
                    have f1 := freeAt B17.out 1
                    have f2 := freeAt B17.out 2
                    have c0 := cellAt B17.out 0
                    have c1 := cellAt B17.out 1
                    have c2 := cellAt B17.out 2
                    simp only [List.getElem?_toArray, List.getElem?_cons_zero, List.getElem?_cons_succ] at c0 c1 c2
                    go_simp
                    have B18 := Lib.hid (show BoxAt _ w10c.heap.size #[.int .i64 n, .slice sa sn sc, (.slice ta tn tc)] 25 from (((B17.out.store 0 (.int .i64 n)).store 1 (.slice sa sn sc)).store 2 (.slice ta tn tc)))
                    have V18 := Lib.hid (((V17.out.setCell (p := ⟨w10c.heap.size, 0, none⟩) (by dsimp only; omega) (.int .i64 n)).setCell (p := ⟨w10c.heap.size, 1, none⟩) (by dsimp only; omega) (.slice sa sn sc)).setCell (p := ⟨w10c.heap.size, 2, none⟩) (by dsimp only; omega) (.slice ta tn tc))
                    have X18 := Lib.hid (tickets_set (tickets_set (tickets_set X17.out ⟨w10c.heap.size, 0, none⟩ (.int .i64 n) (fun _ => by simp only [blk]; omega)) ⟨w10c.heap.size, 1, none⟩ (.slice sa sn sc) (fun _ => by simp only [blk]; omega)) ⟨w10c.heap.size, 2, none⟩ (.slice ta tn tc) (fun _ => by simp only [blk]; omega))
                    have A18 := Lib.hid (BoxAt.set (BoxAt.set (BoxAt.set A17.out ⟨w10c.heap.size, 0, none⟩ (.int .i64 n) (by dsimp only; omega)) ⟨w10c.heap.size, 1, none⟩ (.slice sa sn sc) (by dsimp only; omega)) ⟨w10c.heap.size, 2, none⟩ (.slice ta tn tc) (by dsimp only; omega))
                    clear f0 f1 f2 c0 c1 c2
                    obtain ⟨w18c, hW⟩ : ∃ W, W = (((w17c.setCell ⟨w10c.heap.size, 0, none⟩ (.int .i64 n)).setCell ⟨w10c.heap.size, 1, none⟩ (.slice sa sn sc)).setCell ⟨w10c.heap.size, 2, none⟩ (.slice ta tn tc)) := ⟨_, rfl⟩
                    rw [← hW] at B18 V18 X18 A18 ⊢
                    clear hW
                    refine hK.out _ _ ?_ (fun hHeld => ?_)
                    · exact (have hm := M7.out.grow V18.out; have hz := BoxAt.grow Z7.out V18.out; ⟨cellAt hm.wb.box 0, cellAt hm.wb.box 1, cellAt hm.wb.box 2, cellAt hz 0, cellAt hz 1, cellAt hz 2, cellAt hz 3, cellAt hz 4, cellAt hz 5, cellAt hz 6, cellAt hz 7⟩)
                    clear hK K
                    try simp only [Act.put]
                    refine wpAnyH_done (by kernel_rfl) ?_ _
                    refine HKK.out _ _ ?_
                    (repeat apply Exists.intro)
                    refine ⟨?_, rfl⟩
                    exact ⟨_, _, _, _, rfl, rfl, M7.out.grow V18.out, A18.out, B18.out, X18.out, (fun h => by have := M7.out.wb.ss.old h; omega), (fun h => by have := M7.out.wb.tt.old h; omega), (by have := lt_of_heap M7.out.tb; omega), (by omega), (by omega)⟩
                · clear hHeld
                  go_simp
                  go_wp2_with fail
                  generalize hW : World.alloc _ _ = w19c at *
                  obtain ⟨n19, s19, b19⟩ := blocks1 hW
                  have l19 := V0.out.size
                  have d19 : WW7.heap.size < w19c.heap.size := by omega
                  have V19 := Lib.hid (V0.out.next b19)
                  have B19 := Lib.hid (show BoxAt w19c WW7.heap.size #[.int .i64 0, .slice none 0 0, .slice none 0 0] 25 from n19)
                  clear n19 s19 b19 hW
                  refine hK.out _ _ ?_ (fun hHeld => ?_)
                  · exact (have hm := M7.out.grow V19.out; have hz := BoxAt.grow Z7.out V19.out; ⟨cellAt hm.wb.box 0, cellAt hm.wb.box 1, cellAt hm.wb.box 2, cellAt hz 0, cellAt hz 1, cellAt hz 2, cellAt hz 3, cellAt hz 4, cellAt hz 5, cellAt hz 6, cellAt hz 7⟩)
                  clear hK K
                  try simp only [Act.put, List.setIfInBounds_toArray, List.set_cons_zero, List.set_cons_succ]
                  refine wpAnyH_ready (rs := [2, 4]) (by kernel_rfl) (by simp) ?_
                  refine AllReadyH.cons (o := { dst := some 237, op := Op.call { callee := Callee.value (Operand.tmp 235), args := #[Operand.tmp 236], argTypes := #[58] }, type := 25, pos := "outright.go:319", after := #[{ on := 0, ground := Ground.data }, { on := 1, ground := Ground.data }], guard := none }) rfl (fun K hK => ?_) (AllReadyH.cons (o := { dst := some 26, op := Op.alloc 25, type := 0, pos := "outright.go:319", after := #[], guard := none }) rfl (fun K hK => ?_) (AllReadyH.nil))
                  · clear hHeld
                    go_simp
                    refine (add_any n sa ta sn sc tn tc T tt w.heap.size _ (M7.out.grow V19.out).wb.box (M7.out.grow V19.out).wb.tt htn).mono ?_
                    rintro e w20c ⟨g2, cap2, lg, rfl, hx20, hb20⟩
                    have V20 := Lib.hid (V19.out.next hb20)
                    have B20 := Lib.hid (BoxAt.grow B19.out hb20)
                    have X20 := Lib.hid hx20
                    have lgs := hx20.old (by omega)
                    simp only [blk] at lgs
                    clear hb20 hx20
                    go_wp2_with fail
                    refine hK.out _ _ ?_ (fun hHeld => ?_)
                    · exact (have hm := M7.out.grow V20.out; have hz := BoxAt.grow Z7.out V20.out; ⟨cellAt hm.wb.box 0, cellAt hm.wb.box 1, cellAt hm.wb.box 2, cellAt hz 0, cellAt hz 1, cellAt hz 2, cellAt hz 3, cellAt hz 4, cellAt hz 5, cellAt hz 6, cellAt hz 7⟩)
                    clear hK K
                    try simp only [Act.put, List.setIfInBounds_toArray, List.set_cons_zero, List.set_cons_succ]
                    refine wpAnyH_ready (rs := [4]) (by kernel_rfl) (by simp) ?_
                    refine AllReadyH.cons (o := { dst := some 26, op := Op.alloc 25, type := 0, pos := "outright.go:319", after := #[], guard := none }) rfl (fun K hK => ?_) (AllReadyH.nil)
                    clear hHeld
                    go_simp
                    go_wp2_with fail
                    generalize hW : World.alloc _ _ = w21c at *
                    obtain ⟨n21, s21, b21⟩ := blocks1 hW
                    have l21 := V20.out.size
                    have d21 : w20c.heap.size < w21c.heap.size := by omega
                    have V21 := Lib.hid (V20.out.next b21)
                    have B21 := Lib.hid (BoxAt.grow B20.out b21)
                    have X21 := Lib.hid (TicketsAt.grow X20.out b21)
                    have A21 := Lib.hid (show BoxAt w21c w20c.heap.size #[.int .i64 0, .slice none 0 0, .slice none 0 0] 25 from n21)
                    clear n21 s21 b21 hW
                    refine hK.out _ _ ?_ (fun hHeld => ?_)
                    · exact (have hm := M7.out.grow V21.out; have hz := BoxAt.grow Z7.out V21.out; ⟨cellAt hm.wb.box 0, cellAt hm.wb.box 1, cellAt hm.wb.box 2, cellAt hz 0, cellAt hz 1, cellAt hz 2, cellAt hz 3, cellAt hz 4, cellAt hz 5, cellAt hz 6, cellAt hz 7⟩)
                    clear hK K
                    try simp only [Act.put, List.setIfInBounds_toArray, List.set_cons_zero, List.set_cons_succ]
                    refine wpAnyH_ready (rs := [6]) (by kernel_rfl) (by simp) ?_
                    refine AllReadyH.cons (o := { dst := none, op := Op.store 25 (Operand.tmp 26) (Operand.tmp 237), type := 0, pos := "outright.go:319", after := #[{ on := 4, ground := Ground.data }, { on := 2, ground := Ground.data }, { on := 2, ground := Ground.chain }, { on := 0, ground := Ground.phase }, { on := 1, ground := Ground.phase }, { on := 2, ground := Ground.phase }, { on := 3, ground := Ground.textOnly Departure.lateStores }, { on := 4, ground := Ground.phase }, { on := 5, ground := Ground.phase }], guard := none }) rfl (fun K hK => ?_) (AllReadyH.nil)
                    clear hHeld
                    have f0 := freeAt A21.out 0
                    have f1 := freeAt A21.out 1
                    have f2 := freeAt A21.out 2
                    have c0 := cellAt A21.out 0
                    have c1 := cellAt A21.out 1
                    have c2 := cellAt A21.out 2
                    simp only [List.getElem?_toArray, List.getElem?_cons_zero, List.getElem?_cons_succ] at c0 c1 c2
                    go_simp
                    have A22 := Lib.hid (show BoxAt _ w20c.heap.size #[.int .i64 n, .slice sa sn sc, (.slice (some ⟨g2, 0, none⟩) (tn + 1) cap2)] 25 from (((A21.out.store 0 (.int .i64 n)).store 1 (.slice sa sn sc)).store 2 (.slice (some ⟨g2, 0, none⟩) (tn + 1) cap2)))
                    have V22 := Lib.hid (((V21.out.setCell (p := ⟨w20c.heap.size, 0, none⟩) (by dsimp only; omega) (.int .i64 n)).setCell (p := ⟨w20c.heap.size, 1, none⟩) (by dsimp only; omega) (.slice sa sn sc)).setCell (p := ⟨w20c.heap.size, 2, none⟩) (by dsimp only; omega) (.slice (some ⟨g2, 0, none⟩) (tn + 1) cap2))
                    have X22 := Lib.hid (tickets_set (tickets_set (tickets_set X21.out ⟨w20c.heap.size, 0, none⟩ (.int .i64 n) (fun _ => by simp only [blk]; omega)) ⟨w20c.heap.size, 1, none⟩ (.slice sa sn sc) (fun _ => by simp only [blk]; omega)) ⟨w20c.heap.size, 2, none⟩ (.slice (some ⟨g2, 0, none⟩) (tn + 1) cap2) (fun _ => by simp only [blk]; omega))
                    have B22 := Lib.hid (BoxAt.set (BoxAt.set (BoxAt.set B21.out ⟨w20c.heap.size, 0, none⟩ (.int .i64 n) (by dsimp only; omega)) ⟨w20c.heap.size, 1, none⟩ (.slice sa sn sc) (by dsimp only; omega)) ⟨w20c.heap.size, 2, none⟩ (.slice (some ⟨g2, 0, none⟩) (tn + 1) cap2) (by dsimp only; omega))
                    clear f0 f1 f2 c0 c1 c2
                    obtain ⟨w22c, hW⟩ : ∃ W, W = (((w21c.setCell ⟨w20c.heap.size, 0, none⟩ (.int .i64 n)).setCell ⟨w20c.heap.size, 1, none⟩ (.slice sa sn sc)).setCell ⟨w20c.heap.size, 2, none⟩ (.slice (some ⟨g2, 0, none⟩) (tn + 1) cap2)) := ⟨_, rfl⟩
                    rw [← hW] at A22 V22 X22 B22 ⊢
                    clear hW
                    refine hK.out _ _ ?_ (fun hHeld => ?_)
                    · exact (have hm := M7.out.grow V22.out; have hz := BoxAt.grow Z7.out V22.out; ⟨cellAt hm.wb.box 0, cellAt hm.wb.box 1, cellAt hm.wb.box 2, cellAt hz 0, cellAt hz 1, cellAt hz 2, cellAt hz 3, cellAt hz 4, cellAt hz 5, cellAt hz 6, cellAt hz 7⟩)
                    clear hK K
                    try simp only [Act.put]
                    refine wpAnyH_ready (rs := [7]) (by kernel_rfl) (by simp) ?_
                    refine AllReadyH.cons (o := { dst := none, op := Op.store 25 (Operand.tmp 27) (Operand.tmp 238), type := 0, pos := "outright.go:319", after := #[{ on := 5, ground := Ground.data }, { on := 3, ground := Ground.data }, { on := 6, ground := Ground.chain }, { on := 0, ground := Ground.phase }, { on := 1, ground := Ground.phase }, { on := 2, ground := Ground.phase }, { on := 3, ground := Ground.phase }, { on := 4, ground := Ground.phase }, { on := 5, ground := Ground.phase }, { on := 6, ground := Ground.phase }], guard := none }) rfl (fun K hK => ?_) (AllReadyH.nil)
                    clear hHeld
                    have f0 := freeAt B22.out 0
                    have f1 := freeAt B22.out 1
                    have f2 := freeAt B22.out 2
                    have c0 := cellAt B22.out 0
                    have c1 := cellAt B22.out 1
                    have c2 := cellAt B22.out 2
                    simp only [List.getElem?_toArray, List.getElem?_cons_zero, List.getElem?_cons_succ] at c0 c1 c2
                    go_simp
                    have B23 := Lib.hid (show BoxAt _ WW7.heap.size #[.int .i64 n, .slice sa sn sc, (.slice ta tn tc)] 25 from (((B22.out.store 0 (.int .i64 n)).store 1 (.slice sa sn sc)).store 2 (.slice ta tn tc)))
                    have V23 := Lib.hid (((V22.out.setCell (p := ⟨WW7.heap.size, 0, none⟩) (by dsimp only; omega) (.int .i64 n)).setCell (p := ⟨WW7.heap.size, 1, none⟩) (by dsimp only; omega) (.slice sa sn sc)).setCell (p := ⟨WW7.heap.size, 2, none⟩) (by dsimp only; omega) (.slice ta tn tc))
                    have X23 := Lib.hid (tickets_set (tickets_set (tickets_set X22.out ⟨WW7.heap.size, 0, none⟩ (.int .i64 n) (fun _ => by simp only [blk]; omega)) ⟨WW7.heap.size, 1, none⟩ (.slice sa sn sc) (fun _ => by simp only [blk]; omega)) ⟨WW7.heap.size, 2, none⟩ (.slice ta tn tc) (fun _ => by simp only [blk]; omega))
                    have A23 := Lib.hid (BoxAt.set (BoxAt.set (BoxAt.set A22.out ⟨WW7.heap.size, 0, none⟩ (.int .i64 n) (by dsimp only; omega)) ⟨WW7.heap.size, 1, none⟩ (.slice sa sn sc) (by dsimp only; omega)) ⟨WW7.heap.size, 2, none⟩ (.slice ta tn tc) (by dsimp only; omega))
                    clear f0 f1 f2 c0 c1 c2
                    obtain ⟨w23c, hW⟩ : ∃ W, W = (((w22c.setCell ⟨WW7.heap.size, 0, none⟩ (.int .i64 n)).setCell ⟨WW7.heap.size, 1, none⟩ (.slice sa sn sc)).setCell ⟨WW7.heap.size, 2, none⟩ (.slice ta tn tc)) := ⟨_, rfl⟩
                    rw [← hW] at B23 V23 X23 A23 ⊢
                    clear hW
                    refine hK.out _ _ ?_ (fun hHeld => ?_)
                    · exact (have hm := M7.out.grow V23.out; have hz := BoxAt.grow Z7.out V23.out; ⟨cellAt hm.wb.box 0, cellAt hm.wb.box 1, cellAt hm.wb.box 2, cellAt hz 0, cellAt hz 1, cellAt hz 2, cellAt hz 3, cellAt hz 4, cellAt hz 5, cellAt hz 6, cellAt hz 7⟩)
                    clear hK K
                    try simp only [Act.put]
                    refine wpAnyH_done (by kernel_rfl) ?_ _
                    refine HKK.out _ _ ?_
                    (repeat apply Exists.intro)
                    refine ⟨?_, rfl⟩
                    exact ⟨_, _, _, _, rfl, rfl, M7.out.grow V23.out, A23.out, B23.out, X23.out, (fun h => by have := M7.out.wb.ss.old h; omega), (fun h => by have := M7.out.wb.tt.old h; omega), (by have := lt_of_heap M7.out.tb; omega), (by omega), (by omega)⟩
                  · clear hHeld
                    go_simp
                    go_wp2_with fail
                    generalize hW : World.alloc _ _ = w24c at *
                    obtain ⟨n24, s24, b24⟩ := blocks1 hW
                    have l24 := V19.out.size
                    have d24 : w19c.heap.size < w24c.heap.size := by omega
                    have V24 := Lib.hid (V19.out.next b24)
                    have B24 := Lib.hid (BoxAt.grow B19.out b24)
                    have A24 := Lib.hid (show BoxAt w24c w19c.heap.size #[.int .i64 0, .slice none 0 0, .slice none 0 0] 25 from n24)
                    clear n24 s24 b24 hW
                    refine hK.out _ _ ?_ (fun hHeld => ?_)
                    · exact (have hm := M7.out.grow V24.out; have hz := BoxAt.grow Z7.out V24.out; ⟨cellAt hm.wb.box 0, cellAt hm.wb.box 1, cellAt hm.wb.box 2, cellAt hz 0, cellAt hz 1, cellAt hz 2, cellAt hz 3, cellAt hz 4, cellAt hz 5, cellAt hz 6, cellAt hz 7⟩)
                    clear hK K
                    try simp only [Act.put, List.setIfInBounds_toArray, List.set_cons_zero, List.set_cons_succ]
                    refine wpAnyH_ready (rs := [2]) (by kernel_rfl) (by simp) ?_
                    refine AllReadyH.cons (o := { dst := some 237, op := Op.call { callee := Callee.value (Operand.tmp 235), args := #[Operand.tmp 236], argTypes := #[58] }, type := 25, pos := "outright.go:319", after := #[{ on := 0, ground := Ground.data }, { on := 1, ground := Ground.data }], guard := none }) rfl (fun K hK => ?_) (AllReadyH.nil)
                    clear hHeld
                    go_simp
                    refine (add_any n sa ta sn sc tn tc T tt w.heap.size _ (M7.out.grow V24.out).wb.box (M7.out.grow V24.out).wb.tt htn).mono ?_
                    rintro e w25c ⟨g2, cap2, lg, rfl, hx25, hb25⟩
                    have V25 := Lib.hid (V24.out.next hb25)
                    have A25 := Lib.hid (BoxAt.grow A24.out hb25)
                    have B25 := Lib.hid (BoxAt.grow B24.out hb25)
                    have X25 := Lib.hid hx25
                    have lgs := hx25.old (by omega)
                    simp only [blk] at lgs
                    clear hb25 hx25
                    go_wp2_with fail
                    refine hK.out _ _ ?_ (fun hHeld => ?_)
                    · exact (have hm := M7.out.grow V25.out; have hz := BoxAt.grow Z7.out V25.out; ⟨cellAt hm.wb.box 0, cellAt hm.wb.box 1, cellAt hm.wb.box 2, cellAt hz 0, cellAt hz 1, cellAt hz 2, cellAt hz 3, cellAt hz 4, cellAt hz 5, cellAt hz 6, cellAt hz 7⟩)
                    clear hK K
                    try simp only [Act.put, List.setIfInBounds_toArray, List.set_cons_zero, List.set_cons_succ]
                    refine wpAnyH_ready (rs := [6]) (by kernel_rfl) (by simp) ?_
                    refine AllReadyH.cons (o := { dst := none, op := Op.store 25 (Operand.tmp 26) (Operand.tmp 237), type := 0, pos := "outright.go:319", after := #[{ on := 4, ground := Ground.data }, { on := 2, ground := Ground.data }, { on := 2, ground := Ground.chain }, { on := 0, ground := Ground.phase }, { on := 1, ground := Ground.phase }, { on := 2, ground := Ground.phase }, { on := 3, ground := Ground.textOnly Departure.lateStores }, { on := 4, ground := Ground.phase }, { on := 5, ground := Ground.phase }], guard := none }) rfl (fun K hK => ?_) (AllReadyH.nil)
                    clear hHeld
                    have f0 := freeAt A25.out 0
                    have f1 := freeAt A25.out 1
                    have f2 := freeAt A25.out 2
                    have c0 := cellAt A25.out 0
                    have c1 := cellAt A25.out 1
                    have c2 := cellAt A25.out 2
                    simp only [List.getElem?_toArray, List.getElem?_cons_zero, List.getElem?_cons_succ] at c0 c1 c2
                    go_simp
                    have A26 := Lib.hid (show BoxAt _ w19c.heap.size #[.int .i64 n, .slice sa sn sc, (.slice (some ⟨g2, 0, none⟩) (tn + 1) cap2)] 25 from (((A25.out.store 0 (.int .i64 n)).store 1 (.slice sa sn sc)).store 2 (.slice (some ⟨g2, 0, none⟩) (tn + 1) cap2)))
                    have V26 := Lib.hid (((V25.out.setCell (p := ⟨w19c.heap.size, 0, none⟩) (by dsimp only; omega) (.int .i64 n)).setCell (p := ⟨w19c.heap.size, 1, none⟩) (by dsimp only; omega) (.slice sa sn sc)).setCell (p := ⟨w19c.heap.size, 2, none⟩) (by dsimp only; omega) (.slice (some ⟨g2, 0, none⟩) (tn + 1) cap2))
                    have X26 := Lib.hid (tickets_set (tickets_set (tickets_set X25.out ⟨w19c.heap.size, 0, none⟩ (.int .i64 n) (fun _ => by simp only [blk]; omega)) ⟨w19c.heap.size, 1, none⟩ (.slice sa sn sc) (fun _ => by simp only [blk]; omega)) ⟨w19c.heap.size, 2, none⟩ (.slice (some ⟨g2, 0, none⟩) (tn + 1) cap2) (fun _ => by simp only [blk]; omega))
                    have B26 := Lib.hid (BoxAt.set (BoxAt.set (BoxAt.set B25.out ⟨w19c.heap.size, 0, none⟩ (.int .i64 n) (by dsimp only; omega)) ⟨w19c.heap.size, 1, none⟩ (.slice sa sn sc) (by dsimp only; omega)) ⟨w19c.heap.size, 2, none⟩ (.slice (some ⟨g2, 0, none⟩) (tn + 1) cap2) (by dsimp only; omega))
                    clear f0 f1 f2 c0 c1 c2
                    obtain ⟨w26c, hW⟩ : ∃ W, W = (((w25c.setCell ⟨w19c.heap.size, 0, none⟩ (.int .i64 n)).setCell ⟨w19c.heap.size, 1, none⟩ (.slice sa sn sc)).setCell ⟨w19c.heap.size, 2, none⟩ (.slice (some ⟨g2, 0, none⟩) (tn + 1) cap2)) := ⟨_, rfl⟩
                    rw [← hW] at A26 V26 X26 B26 ⊢
                    clear hW
                    refine hK.out _ _ ?_ (fun hHeld => ?_)
                    · exact (have hm := M7.out.grow V26.out; have hz := BoxAt.grow Z7.out V26.out; ⟨cellAt hm.wb.box 0, cellAt hm.wb.box 1, cellAt hm.wb.box 2, cellAt hz 0, cellAt hz 1, cellAt hz 2, cellAt hz 3, cellAt hz 4, cellAt hz 5, cellAt hz 6, cellAt hz 7⟩)
                    clear hK K
                    try simp only [Act.put]
                    refine wpAnyH_ready (rs := [7]) (by kernel_rfl) (by simp) ?_
                    refine AllReadyH.cons (o := { dst := none, op := Op.store 25 (Operand.tmp 27) (Operand.tmp 238), type := 0, pos := "outright.go:319", after := #[{ on := 5, ground := Ground.data }, { on := 3, ground := Ground.data }, { on := 6, ground := Ground.chain }, { on := 0, ground := Ground.phase }, { on := 1, ground := Ground.phase }, { on := 2, ground := Ground.phase }, { on := 3, ground := Ground.phase }, { on := 4, ground := Ground.phase }, { on := 5, ground := Ground.phase }, { on := 6, ground := Ground.phase }], guard := none }) rfl (fun K hK => ?_) (AllReadyH.nil)
                    clear hHeld
                    have f0 := freeAt B26.out 0
                    have f1 := freeAt B26.out 1
                    have f2 := freeAt B26.out 2
                    have c0 := cellAt B26.out 0
                    have c1 := cellAt B26.out 1
                    have c2 := cellAt B26.out 2
                    simp only [List.getElem?_toArray, List.getElem?_cons_zero, List.getElem?_cons_succ] at c0 c1 c2
                    go_simp
                    have B27 := Lib.hid (show BoxAt _ WW7.heap.size #[.int .i64 n, .slice sa sn sc, (.slice ta tn tc)] 25 from (((B26.out.store 0 (.int .i64 n)).store 1 (.slice sa sn sc)).store 2 (.slice ta tn tc)))
                    have V27 := Lib.hid (((V26.out.setCell (p := ⟨WW7.heap.size, 0, none⟩) (by dsimp only; omega) (.int .i64 n)).setCell (p := ⟨WW7.heap.size, 1, none⟩) (by dsimp only; omega) (.slice sa sn sc)).setCell (p := ⟨WW7.heap.size, 2, none⟩) (by dsimp only; omega) (.slice ta tn tc))
                    have X27 := Lib.hid (tickets_set (tickets_set (tickets_set X26.out ⟨WW7.heap.size, 0, none⟩ (.int .i64 n) (fun _ => by simp only [blk]; omega)) ⟨WW7.heap.size, 1, none⟩ (.slice sa sn sc) (fun _ => by simp only [blk]; omega)) ⟨WW7.heap.size, 2, none⟩ (.slice ta tn tc) (fun _ => by simp only [blk]; omega))
                    have A27 := Lib.hid (BoxAt.set (BoxAt.set (BoxAt.set A26.out ⟨WW7.heap.size, 0, none⟩ (.int .i64 n) (by dsimp only; omega)) ⟨WW7.heap.size, 1, none⟩ (.slice sa sn sc) (by dsimp only; omega)) ⟨WW7.heap.size, 2, none⟩ (.slice ta tn tc) (by dsimp only; omega))
                    clear f0 f1 f2 c0 c1 c2
                    obtain ⟨w27c, hW⟩ : ∃ W, W = (((w26c.setCell ⟨WW7.heap.size, 0, none⟩ (.int .i64 n)).setCell ⟨WW7.heap.size, 1, none⟩ (.slice sa sn sc)).setCell ⟨WW7.heap.size, 2, none⟩ (.slice ta tn tc)) := ⟨_, rfl⟩
                    rw [← hW] at B27 V27 X27 A27 ⊢
                    clear hW
                    refine hK.out _ _ ?_ (fun hHeld => ?_)
                    · exact (have hm := M7.out.grow V27.out; have hz := BoxAt.grow Z7.out V27.out; ⟨cellAt hm.wb.box 0, cellAt hm.wb.box 1, cellAt hm.wb.box 2, cellAt hz 0, cellAt hz 1, cellAt hz 2, cellAt hz 3, cellAt hz 4, cellAt hz 5, cellAt hz 6, cellAt hz 7⟩)
                    clear hK K
                    try simp only [Act.put]
                    refine wpAnyH_done (by kernel_rfl) ?_ _
                    refine HKK.out _ _ ?_
                    (repeat apply Exists.intro)
                    refine ⟨?_, rfl⟩
                    exact ⟨_, _, _, _, rfl, rfl, M7.out.grow V27.out, A27.out, B27.out, X27.out, (fun h => by have := M7.out.wb.ss.old h; omega), (fun h => by have := M7.out.wb.tt.old h; omega), (by have := lt_of_heap M7.out.tb; omega), (by omega), (by omega)⟩
            case rest =>
              obtain ⟨b1, b2, g2, cap2, rfl, rfl, hxb⟩ := hcut
              clear M6 Z6
              have X8 := Lib.hid hxb
              clear hxb
              obtain ⟨x0, x1, x2⟩ := wgc X8.out.m.wb.box
              go_upto_if 242 with (fail)
              clear x0 x1 x2
              go_cut [] from 239 to 316 (fun W => ∃ o2 c2 T' B, TicketsAt W o2 tn T' ∧ ThinW n sn tn S T T' ∧ YB w n sa ta sn sc tn tc S T t tt b1 b2 g2 cap2 o2 c2 B W)
              case first =>
                as_aux_lemma =>
                  rename_i J1 K1 hJ hK1
                  have HKK := Lib.hid (fun a' w' h => hK1 a' w' (Met.intro (hJ a' w' h)))
                  by_cases h0 : 0 < tn
                  · obtain ⟨i, hi, hil⟩ : ∃ i : Nat, Int.tmod wh tn = i ∧ i < tn := ⟨(wh % tn).toNat, by rw [Int.tmod_eq_emod_of_nonneg hw.1]; have := Int.emod_nonneg wh (show (tn : Int) ≠ 0 by omega); omega, by have := Int.emod_nonneg wh (show (tn : Int) ≠ 0 by omega); have := Int.emod_lt_of_pos wh (show 0 < (tn : Int) by omega); omega⟩
                    obtain ⟨x0, x1, x2⟩ := wgc X8.out.m.wb.box
                    obtain ⟨z0, z1, z2⟩ := wgc X8.out.x2
                    have E0 := Lib.hid (show BoxAt (wc.alloc (.cells #[] 58)) wc.heap.size #[] 58 from heap_alloc_new _ _)
                    have T0 := Lib.hid (TicketsAt.grow X8.out.m.wb.tt ((Below.refl _ _).alloc (Nat.le_refl _) (.cells #[] 58)))
                    have L0 := Lib.hid (((Below.refl wc.heap.size wc).alloc (Nat.le_refl _) (.cells #[] 58)).size)
                    have xa := fun o => cellAt (BoxAt.grow X8.out.m.wb.box ((Below.refl _ _).alloc (Nat.le_refl _) o)) 2
                    simp only [List.getElem?_toArray, List.getElem?_cons_zero, List.getElem?_cons_succ] at xa
                    go_wp2_with (at_builtin; refine wpList_tks rfl (.tmp 249) (.tmp 251) rfl (n := 0) rfl (own_nilbox E0.out (Nat.le_refl _)) rfl T0.out (by omega) (.inl rfl) L0.out ?_)
                    intro g3 cap3 W9 ho hg _
                    try simp only [Nat.zero_add, List.nil_append] at ho
                    try simp only [Nat.zero_add]
                    have hb9 : Below wc.heap.size wc W9 := ((Below.refl wc.heap.size wc).alloc (Nat.le_refl _) (.cells #[] 58)).grown hg (by simp) (fun k e => by cases e; exact Nat.le_refl _)
                    have X9 := Lib.hid (X8.out.grow hb9)
                    have R9 := Lib.hid (own_tickets ho (by unfold maxLen; omega))
                    have F9 := Lib.hid (RowOf.own ho)
                    have hg3 := (ho.lt _ rfl).1
                    have hb2l := lt_of_heap X8.out.x2
                    have W10 := Lib.hid (show ∃ W, W = W9.setCell ⟨b2, 2, none⟩ (.slice (some ⟨g3, 0, none⟩) tn cap3) from ⟨_, rfl⟩)
                    have Y10 := Lib.hid (show YB w n sa ta sn sc tn tc S T t tt b1 b2 g2 cap2 (some ⟨g3, 0, none⟩) cap3 wc.heap.size (W9.setCell ⟨b2, 2, none⟩ (.slice (some ⟨g3, 0, none⟩) tn cap3)) from
                      ⟨⟨⟨X9.out.m.wb.bel.setCell (by have := X9.out.f3; dsimp only; omega) _, X9.out.m.wb.box.set _ _ (by have := X9.out.f3; dsimp only; omega), row_set X9.out.m.wb.ss _ _ X9.out.f1, row_set X9.out.m.wb.tt _ _ X9.out.f2⟩, X9.out.m.tb.set _ _ (by have := X9.out.f3; dsimp only; omega)⟩,
                        X9.out.x1.set _ _ (by have := X9.out.f4; dsimp only; omega), X9.out.x2.store 2 _, tickets_set X9.out.tk _ _ (fun _ => by have := X9.out.f5; simp only [blk]; omega), lt_of_heap X8.out.x1, hb2l, X8.out.tk.old (by omega), lt_of_heap X8.out.m.tb, X8.out.m.wb.ss.old, X8.out.m.wb.tt.old⟩)
                    have R10 := Lib.hid (tickets_set R9.out ⟨b2, 2, none⟩ (.slice (some ⟨g3, 0, none⟩) tn cap3) (fun _ => by simp only [blk]; omega))
                    have F10 := Lib.hid (F9.out.set ⟨b2, 2, none⟩ (.slice (some ⟨g3, 0, none⟩) tn cap3) (by dsimp only; omega))
                    have f2 := freeAt X9.out.x2 2
                    have c2 := cellAt X9.out.x2 2
                    simp only [List.getElem?_toArray, List.getElem?_cons_zero, List.getElem?_cons_succ] at c2
                    have hix := fun w => run_indexAt_row (w := w) (oa := some ⟨g3, 0, none⟩) (cap := cap3) Try.underlying23 size58 rfl hil
                    simp only [blk, ofs, Nat.zero_add] at hix
                    clear ho hg hb9 x0 x1 x2 z0 z1 z2 xa E0 T0 L0 W10
                    go_wp2_with fail
                    generalize World.setCell _ _ _ = W10 at *
                    clear f2 c2 hix X9 R9 F9
                    have hsp := HV.out.spans hil
                    have hwn : IntKind.i64.wrap nn = nn := IntWalk.i64_in _ (by omega)
                    obtain ⟨p1, hp1, p10, p11⟩ : ∃ p1, Int.tmod nn 2 = p1 ∧ 0 ≤ p1 ∧ p1 ≤ 1 := ⟨_, rfl, by rw [Int.tmod_eq_emod_of_nonneg hnn.1]; omega, by rw [Int.tmod_eq_emod_of_nonneg hnn.1]; omega⟩
                    obtain ⟨d2, hd2, d20, d21⟩ : ∃ d2, Int.tdiv nn 2 = d2 ∧ 0 ≤ d2 ∧ d2 ≤ 255 := ⟨_, rfl, by rw [Int.tdiv_eq_ediv_of_nonneg hnn.1]; omega, by rw [Int.tdiv_eq_ediv_of_nonneg hnn.1]; omega⟩
                    obtain ⟨p2, hp2, p20, p21⟩ : ∃ p2, Int.tmod d2 2 = p2 ∧ 0 ≤ p2 ∧ p2 ≤ 1 := ⟨_, rfl, by rw [Int.tmod_eq_emod_of_nonneg d20]; omega, by rw [Int.tmod_eq_emod_of_nonneg d20]; omega⟩
                    obtain ⟨d4, hd4, d40, d41⟩ : ∃ d4, Int.tdiv nn 4 = d4 ∧ 0 ≤ d4 ∧ d4 ≤ 255 := ⟨_, rfl, by rw [Int.tdiv_eq_ediv_of_nonneg hnn.1]; omega, by rw [Int.tdiv_eq_ediv_of_nonneg hnn.1]; omega⟩
                    obtain ⟨p3, hp3, p30, p31⟩ : ∃ p3, Int.tmod d4 2 = p3 ∧ 0 ≤ p3 ∧ p3 ≤ 1 := ⟨_, rfl, by rw [Int.tmod_eq_emod_of_nonneg d40]; omega, by rw [Int.tmod_eq_emod_of_nonneg d40]; omega⟩
                    have hwd2 : IntKind.i64.wrap d2 = d2 := IntWalk.i64_in _ (by omega)
                    have hwd4 : IntKind.i64.wrap d4 = d4 := IntWalk.i64_in _ (by omega)
                    have e1 : IntKind.i64.wrap ((T i).fl + p1) = (T i).fl + p1 := IntWalk.i64_in _ (by omega)
                    have e2 : IntKind.i64.wrap ((T i).th - p2) = (T i).th - p2 := IntWalk.i64_in _ (by omega)
                    have e3 : IntKind.i64.wrap ((T i).dl + p3) = (T i).dl + p3 := IntWalk.i64_in _ (by omega)
                    obtain ⟨x1, hx1, x1a, x1b⟩ : ∃ x1, (if (T i).fl + p1 < (T i).fh then (T i).fl + p1 else (T i).fh) = x1 ∧ (T i).fl ≤ x1 ∧ x1 ≤ (T i).fh := ⟨_, rfl, by split <;> omega, by split <;> omega⟩
                    obtain ⟨x2, hx2, x2a, x2b⟩ : ∃ x2, (if (T i).tl < (T i).th - p2 then (T i).th - p2 else (T i).tl) = x2 ∧ (T i).tl ≤ x2 ∧ x2 ≤ (T i).th := ⟨_, rfl, by split <;> omega, by split <;> omega⟩
                    obtain ⟨x3, hx3, x3a, x3b⟩ : ∃ x3, (if (T i).dl + p3 < (T i).dh then (T i).dl + p3 else (T i).dh) = x3 ∧ (T i).dl ≤ x3 ∧ x3 ≤ (T i).dh := ⟨_, rfl, by split <;> omega, by split <;> omega⟩
                    have THIN := Lib.hid (ThinW.of HV.out (n := i) (t' := { { { T i with fl := x1 } with th := x2 } with dl := x3 }) ⟨rfl, rfl, ⟨x1a, x1b⟩, rfl, ⟨x2a, x2b⟩, rfl, ⟨x3a, x3b⟩, rfl⟩)
                    have YV := Lib.hid (Y10.out.below (Below.drew (Below.refl _ _)))
                    have R0 := Lib.hid (TicketsAt.grow R10.out (Below.drew (Below.refl _ _)))
                    have F0 := Lib.hid F10.out.drew
                    clear Y10 R10 X8 F10
                    go_light
                    refine wp_region_stg (S := (fun w' => w'.cell? ⟨g3, i * 8 + 3, none⟩ = some (.int .i64 (T i).fh) ∧ w'.cell? ⟨g3, i * 8 + 4, none⟩ = some (.int .i64 (T i).tl) ∧ w'.cell? ⟨g3, i * 8 + 7, none⟩ = some (.int .i64 (T i).dh))) (L := [(53, (fun w' : World => w'.cell? ⟨g3, i * 8 + 2, none⟩ = some (.int .i64 (T i).fl))), (57, (fun w' : World => w'.cell? ⟨g3, i * 8 + 5, none⟩ = some (.int .i64 (T i).th))), (61, (fun w' : World => w'.cell? ⟨g3, i * 8 + 6, none⟩ = some (.int .i64 (T i).dl)))]) (D := [(53, 12), (57, 27), (61, 43)]) (by kernel_rfl) (by kernel_rfl) (by obtain ⟨y2, y3, y4, y5, y6, y7⟩ := ticks_rowc R0.out hil; exact ⟨y3, y4, y7⟩) (by obtain ⟨y2, y3, y4, y5, y6, y7⟩ := ticks_rowc R0.out hil; intro e he; simp only [List.mem_cons, List.mem_nil_iff, or_false] at he; rcases he with rfl | rfl | rfl <;> first | exact y2 | exact y5 | exact y6) (fun hC0 hH0 => ?_)
                    generalize World.drew W10 = WW at *
                    refine wpAnyT_take (i := 0) (oi := { dst := some 258, op := Op.move (Operand.tmp 29), type := 69, pos := "outright.go:324", after := #[], guard := none }) (v := ?_) rfl (by kernel_rfl) (by kernel_rfl) (by kernel_rfl) (fun _ _ _ h => h) (by kernel_rfl) (by rfl) hC0 (Or.inl ⟨by rfl, ?_⟩) hH0 (fun hC1 hH1 => ?_)
                    rotate_left
                    · (intro w9 hSw; obtain ⟨hSw, hLw⟩ := hSw; clear hLw; (try dsimp only at hSw); (go_split_ands; go_simp); (try with_reducible rfl))
                    clear hC0 hH0
                    try simp only [Act.put, List.setIfInBounds_toArray, List.set_cons_zero, List.set_cons_succ]
                    refine wpAnyT_take (i := 1) (oi := { dst := some 259, op := Op.move (Operand.tmp 29), type := 69, pos := "outright.go:324", after := #[{ on := 53, ground := Ground.gcOnly Departure.lateStores }], guard := none }) (v := ?_) rfl (by kernel_rfl) (by kernel_rfl) (by kernel_rfl) (fun _ _ _ h => h) (by kernel_rfl) (by rfl) hC1 (Or.inl ⟨by rfl, ?_⟩) hH1 (fun hC2 hH2 => ?_)
                    rotate_left
                    · (intro w9 hSw; obtain ⟨hSw, hLw⟩ := hSw; clear hLw; (try dsimp only at hSw); (go_split_ands; go_simp); (try with_reducible rfl))
                    clear hC1 hH1
                    try simp only [Act.put, List.setIfInBounds_toArray, List.set_cons_zero, List.set_cons_succ]
                    refine wpAnyT_take (i := 2) (oi := { dst := some 260, op := Op.move (Operand.tmp 29), type := 69, pos := "outright.go:324", after := #[{ on := 57, ground := Ground.gcOnly Departure.lateStores }], guard := none }) (v := ?_) rfl (by kernel_rfl) (by kernel_rfl) (by kernel_rfl) (fun _ _ _ h => h) (by kernel_rfl) (by rfl) hC2 (Or.inl ⟨by rfl, ?_⟩) hH2 (fun hC3 hH3 => ?_)
                    rotate_left
                    · (intro w9 hSw; obtain ⟨hSw, hLw⟩ := hSw; clear hLw; (try dsimp only at hSw); (go_split_ands; go_simp); (try with_reducible rfl))
                    clear hC2 hH2
                    try simp only [Act.put, List.setIfInBounds_toArray, List.set_cons_zero, List.set_cons_succ]
                    refine wpAnyT_take (i := 3) (oi := { dst := some 261, op := Op.move (Operand.tmp 29), type := 69, pos := "outright.go:324", after := #[], guard := none }) (v := ?_) rfl (by kernel_rfl) (by kernel_rfl) (by kernel_rfl) (fun _ _ _ h => h) (by kernel_rfl) (by rfl) hC3 (Or.inl ⟨by rfl, ?_⟩) hH3 (fun hC4 hH4 => ?_)
                    rotate_left
                    · (intro w9 hSw; obtain ⟨hSw, hLw⟩ := hSw; clear hLw; (try dsimp only at hSw); (go_split_ands; go_simp); (try with_reducible rfl))
                    clear hC3 hH3
                    try simp only [Act.put, List.setIfInBounds_toArray, List.set_cons_zero, List.set_cons_succ]
                    refine wpAnyT_take (i := 4) (oi := { dst := some 262, op := Op.nilCheck (Operand.tmp 261), type := 0, pos := "outright.go:324", after := #[{ on := 3, ground := Ground.data }], guard := none }) (v := ?_) rfl (by kernel_rfl) (by kernel_rfl) (by kernel_rfl) (fun _ _ _ h => h) (by kernel_rfl) (by rfl) hC4 (Or.inl ⟨by rfl, ?_⟩) hH4 (fun hC5 hH5 => ?_)
                    rotate_left
                    · (intro w9 hSw; obtain ⟨hSw, hLw⟩ := hSw; clear hLw; (try dsimp only at hSw); (go_split_ands; go_simp); (try with_reducible rfl))
                    clear hC4 hH4
                    try simp only [Act.put, List.setIfInBounds_toArray, List.set_cons_zero, List.set_cons_succ]
                    refine wpAnyT_take (i := 5) (oi := { dst := some 263, op := Op.fieldAddr 58 (Operand.tmp 262) 2, type := 0, pos := "outright.go:324", after := #[{ on := 4, ground := Ground.data }], guard := none }) (v := ?_) rfl (by kernel_rfl) (by kernel_rfl) (by kernel_rfl) (fun _ _ _ h => h) (by kernel_rfl) (by rfl) hC5 (Or.inl ⟨by rfl, ?_⟩) hH5 (fun hC6 hH6 => ?_)
                    rotate_left
                    · (intro w9 hSw; obtain ⟨hSw, hLw⟩ := hSw; clear hLw; (try dsimp only at hSw); (go_split_ands; go_simp); (try with_reducible rfl))
                    clear hC5 hH5
                    try simp only [Act.put, List.setIfInBounds_toArray, List.set_cons_zero, List.set_cons_succ]
                    refine wpAnyT_take (i := 6) (oi := { dst := some 264, op := Op.fieldAddr 29 (Operand.tmp 263) 1, type := 0, pos := "outright.go:324", after := #[{ on := 5, ground := Ground.data }], guard := none }) (v := ?_) rfl (by kernel_rfl) (by kernel_rfl) (by kernel_rfl) (fun _ _ _ h => h) (by kernel_rfl) (by rfl) hC6 (Or.inl ⟨by rfl, ?_⟩) hH6 (fun hC7 hH7 => ?_)
                    rotate_left
                    · (intro w9 hSw; obtain ⟨hSw, hLw⟩ := hSw; clear hLw; (try dsimp only at hSw); (go_split_ands; go_simp); (try with_reducible rfl))
                    clear hC6 hH6
                    try simp only [Act.put, List.setIfInBounds_toArray, List.set_cons_zero, List.set_cons_succ]
                    refine wpAnyT_take (i := 7) (oi := { dst := some 265, op := Op.load 3 (Operand.tmp 264), type := 3, pos := "outright.go:324", after := #[{ on := 6, ground := Ground.data }], guard := none }) (v := ?_) rfl (by kernel_rfl) (by kernel_rfl) (by kernel_rfl) (fun _ _ _ h => h) (by kernel_rfl) (by rfl) hC7 (Or.inl ⟨by rfl, ?_⟩) hH7 (fun hC8 hH8 => ?_)
                    rotate_left
                    · (intro w9 hSw; obtain ⟨hSw, hLw⟩ := hSw; clear hLw; (try dsimp only at hSw); (go_split_ands; go_simp); (try with_reducible rfl))
                    clear hC7 hH7
                    try simp only [Act.put, List.setIfInBounds_toArray, List.set_cons_zero, List.set_cons_succ]
                    refine wpAnyT_take (i := 8) (oi := { dst := some 266, op := Op.move (Operand.tmp 29), type := 69, pos := "outright.go:324", after := #[], guard := none }) (v := ?_) rfl (by kernel_rfl) (by kernel_rfl) (by kernel_rfl) (fun _ _ _ h => h) (by kernel_rfl) (by rfl) hC8 (Or.inl ⟨by rfl, ?_⟩) hH8 (fun hC9 hH9 => ?_)
                    rotate_left
                    · (intro w9 hSw; obtain ⟨hSw, hLw⟩ := hSw; clear hLw; (try dsimp only at hSw); (go_split_ands; go_simp); (try with_reducible rfl))
                    clear hC8 hH8
                    try simp only [Act.put, List.setIfInBounds_toArray, List.set_cons_zero, List.set_cons_succ]
                    refine wpAnyT_take (i := 9) (oi := { dst := some 267, op := Op.nilCheck (Operand.tmp 266), type := 0, pos := "outright.go:324", after := #[{ on := 8, ground := Ground.data }], guard := none }) (v := ?_) rfl (by kernel_rfl) (by kernel_rfl) (by kernel_rfl) (fun _ _ _ h => h) (by kernel_rfl) (by rfl) hC9 (Or.inl ⟨by rfl, ?_⟩) hH9 (fun hC10 hH10 => ?_)
                    rotate_left
                    · (intro w9 hSw; obtain ⟨hSw, hLw⟩ := hSw; clear hLw; (try dsimp only at hSw); (go_split_ands; go_simp); (try with_reducible rfl))
                    clear hC9 hH9
                    try simp only [Act.put, List.setIfInBounds_toArray, List.set_cons_zero, List.set_cons_succ]
                    refine wpAnyT_take (i := 10) (oi := { dst := some 268, op := Op.fieldAddr 58 (Operand.tmp 267) 2, type := 0, pos := "outright.go:324", after := #[{ on := 9, ground := Ground.data }], guard := none }) (v := ?_) rfl (by kernel_rfl) (by kernel_rfl) (by kernel_rfl) (fun _ _ _ h => h) (by kernel_rfl) (by rfl) hC10 (Or.inl ⟨by rfl, ?_⟩) hH10 (fun hC11 hH11 => ?_)
                    rotate_left
                    · (intro w9 hSw; obtain ⟨hSw, hLw⟩ := hSw; clear hLw; (try dsimp only at hSw); (go_split_ands; go_simp); (try with_reducible rfl))
                    clear hC10 hH10
                    try simp only [Act.put, List.setIfInBounds_toArray, List.set_cons_zero, List.set_cons_succ]
                    refine wpAnyT_take (i := 11) (oi := { dst := some 269, op := Op.fieldAddr 29 (Operand.tmp 268) 0, type := 0, pos := "outright.go:324", after := #[{ on := 10, ground := Ground.data }], guard := none }) (v := ?_) rfl (by kernel_rfl) (by kernel_rfl) (by kernel_rfl) (fun _ _ _ h => h) (by kernel_rfl) (by rfl) hC11 (Or.inl ⟨by rfl, ?_⟩) hH11 (fun hC12 hH12 => ?_)
                    rotate_left
                    · (intro w9 hSw; obtain ⟨hSw, hLw⟩ := hSw; clear hLw; (try dsimp only at hSw); (go_split_ands; go_simp); (try with_reducible rfl))
                    clear hC11 hH11
                    try simp only [Act.put, List.setIfInBounds_toArray, List.set_cons_zero, List.set_cons_succ]
                    refine wpAnyT_take (i := 12) (oi := { dst := some 270, op := Op.load 3 (Operand.tmp 269), type := 3, pos := "outright.go:324", after := #[{ on := 11, ground := Ground.data }], guard := none }) (v := ?_) rfl (by kernel_rfl) (by kernel_rfl) (by kernel_rfl) (fun _ _ _ h => h) (by kernel_rfl) (by rfl) hC12 (Or.inl ⟨by rfl, ?_⟩) hH12 (fun hC13 hH13 => ?_)
                    rotate_left
                    · (intro w9 hSw; obtain ⟨hSw, hLw⟩ := hSw; have hl53 := hLw _ List.mem_cons_self rfl; dsimp only at hl53; clear hLw; (try dsimp only at hSw); (go_split_ands; go_simp); (try with_reducible rfl))
                    clear hC12 hH12
                    try simp only [Act.put, List.setIfInBounds_toArray, List.set_cons_zero, List.set_cons_succ]
                    refine wpAnyT_take (i := 13) (oi := { dst := some 271, op := Op.move (Operand.tmp 3), type := 5, pos := "outright.go:324", after := #[], guard := none }) (v := ?_) rfl (by kernel_rfl) (by kernel_rfl) (by kernel_rfl) (fun _ _ _ h => h) (by kernel_rfl) (by rfl) hC13 (Or.inl ⟨by rfl, ?_⟩) hH13 (fun hC14 hH14 => ?_)
                    rotate_left
                    · (intro w9 hSw; obtain ⟨hSw, hLw⟩ := hSw; clear hLw; (try dsimp only at hSw); (go_split_ands; go_simp); (try with_reducible rfl))
                    clear hC13 hH13
                    try simp only [Act.put, List.setIfInBounds_toArray, List.set_cons_zero, List.set_cons_succ]
                    refine wpAnyT_take (i := 14) (oi := { dst := some 272, op := Op.convert 5 3 (Operand.tmp 271), type := 3, pos := "outright.go:324", after := #[{ on := 13, ground := Ground.data }], guard := none }) (v := ?_) rfl (by kernel_rfl) (by kernel_rfl) (by kernel_rfl) (fun _ _ _ h => h) (by kernel_rfl) (by rfl) hC14 (Or.inl ⟨by rfl, ?_⟩) hH14 (fun hC15 hH15 => ?_)
                    rotate_left
                    · (intro w9 hSw; obtain ⟨hSw, hLw⟩ := hSw; clear hLw; (try dsimp only at hSw); (go_split_ands; go_simp); (try with_reducible rfl))
                    clear hC14 hH14
                    try simp only [Act.put, List.setIfInBounds_toArray, List.set_cons_zero, List.set_cons_succ]
                    refine wpAnyT_take (i := 15) (oi := { dst := some 273, op := Op.binOp BinOp.rem 3 (Operand.tmp 272) (Operand.const (Value.int IntKind.i64 2)) 3, type := 3, pos := "outright.go:324", after := #[{ on := 14, ground := Ground.data }], guard := none }) (v := ?_) rfl (by kernel_rfl) (by kernel_rfl) (by kernel_rfl) (fun _ _ _ h => h) (by kernel_rfl) (by rfl) hC15 (Or.inl ⟨by rfl, ?_⟩) hH15 (fun hC16 hH16 => ?_)
                    rotate_left
                    · (intro w9 hSw; obtain ⟨hSw, hLw⟩ := hSw; clear hLw; (try dsimp only at hSw); (go_split_ands; go_simp); (try with_reducible rfl))
                    clear hC15 hH15
                    try simp only [Act.put, List.setIfInBounds_toArray, List.set_cons_zero, List.set_cons_succ]
                    refine wpAnyT_take (i := 16) (oi := { dst := some 274, op := Op.binOp BinOp.add 3 (Operand.tmp 270) (Operand.tmp 273) 3, type := 3, pos := "outright.go:324", after := #[{ on := 12, ground := Ground.data }, { on := 15, ground := Ground.data }], guard := none }) (v := ?_) rfl (by kernel_rfl) (by kernel_rfl) (by kernel_rfl) (fun _ _ _ h => h) (by kernel_rfl) (by rfl) hC16 (Or.inl ⟨by rfl, ?_⟩) hH16 (fun hC17 hH17 => ?_)
                    rotate_left
                    · (intro w9 hSw; obtain ⟨hSw, hLw⟩ := hSw; clear hLw; (try dsimp only at hSw); (go_split_ands; go_simp); (try with_reducible rfl))
                    clear hC16 hH16
                    try simp only [Act.put, List.setIfInBounds_toArray, List.set_cons_zero, List.set_cons_succ]
                    refine wpAnyT_take (i := 17) (oi := { dst := some 275, op := Op.call { callee := Callee.builtin Builtin.min, args := #[Operand.tmp 265, Operand.tmp 274], argTypes := #[3, 3] }, type := 3, pos := "outright.go:324", after := #[{ on := 7, ground := Ground.data }, { on := 16, ground := Ground.data }], guard := none }) (v := ?_) rfl (by kernel_rfl) (by kernel_rfl) (by kernel_rfl) (fun _ _ _ h => h) (by kernel_rfl) (by rfl) hC17 (Or.inl ⟨by rfl, ?_⟩) hH17 (fun hC18 hH18 => ?_)
                    rotate_left
                    · (intro w9 hSw; obtain ⟨hSw, hLw⟩ := hSw; clear hLw; (try dsimp only at hSw); (go_split_ands; go_simp); (try with_reducible rfl))
                    clear hC17 hH17
                    try simp only [Act.put, List.setIfInBounds_toArray, List.set_cons_zero, List.set_cons_succ]
                    refine wpAnyT_take (i := 18) (oi := { dst := some 276, op := Op.move (Operand.tmp 29), type := 69, pos := "outright.go:324", after := #[], guard := none }) (v := ?_) rfl (by kernel_rfl) (by kernel_rfl) (by kernel_rfl) (fun _ _ _ h => h) (by kernel_rfl) (by rfl) hC18 (Or.inl ⟨by rfl, ?_⟩) hH18 (fun hC19 hH19 => ?_)
                    rotate_left
                    · (intro w9 hSw; obtain ⟨hSw, hLw⟩ := hSw; clear hLw; (try dsimp only at hSw); (go_split_ands; go_simp); (try with_reducible rfl))
                    clear hC18 hH18
                    try simp only [Act.put, List.setIfInBounds_toArray, List.set_cons_zero, List.set_cons_succ]
                    refine wpAnyT_take (i := 19) (oi := { dst := some 277, op := Op.nilCheck (Operand.tmp 276), type := 0, pos := "outright.go:324", after := #[{ on := 18, ground := Ground.data }], guard := none }) (v := ?_) rfl (by kernel_rfl) (by kernel_rfl) (by kernel_rfl) (fun _ _ _ h => h) (by kernel_rfl) (by rfl) hC19 (Or.inl ⟨by rfl, ?_⟩) hH19 (fun hC20 hH20 => ?_)
                    rotate_left
                    · (intro w9 hSw; obtain ⟨hSw, hLw⟩ := hSw; clear hLw; (try dsimp only at hSw); (go_split_ands; go_simp); (try with_reducible rfl))
                    clear hC19 hH19
                    try simp only [Act.put, List.setIfInBounds_toArray, List.set_cons_zero, List.set_cons_succ]
                    refine wpAnyT_take (i := 20) (oi := { dst := some 278, op := Op.fieldAddr 58 (Operand.tmp 277) 3, type := 0, pos := "outright.go:324", after := #[{ on := 19, ground := Ground.data }], guard := none }) (v := ?_) rfl (by kernel_rfl) (by kernel_rfl) (by kernel_rfl) (fun _ _ _ h => h) (by kernel_rfl) (by rfl) hC20 (Or.inl ⟨by rfl, ?_⟩) hH20 (fun hC21 hH21 => ?_)
                    rotate_left
                    · (intro w9 hSw; obtain ⟨hSw, hLw⟩ := hSw; clear hLw; (try dsimp only at hSw); (go_split_ands; go_simp); (try with_reducible rfl))
                    clear hC20 hH20
                    try simp only [Act.put, List.setIfInBounds_toArray, List.set_cons_zero, List.set_cons_succ]
                    refine wpAnyT_take (i := 21) (oi := { dst := some 279, op := Op.fieldAddr 29 (Operand.tmp 278) 0, type := 0, pos := "outright.go:324", after := #[{ on := 20, ground := Ground.data }], guard := none }) (v := ?_) rfl (by kernel_rfl) (by kernel_rfl) (by kernel_rfl) (fun _ _ _ h => h) (by kernel_rfl) (by rfl) hC21 (Or.inl ⟨by rfl, ?_⟩) hH21 (fun hC22 hH22 => ?_)
                    rotate_left
                    · (intro w9 hSw; obtain ⟨hSw, hLw⟩ := hSw; clear hLw; (try dsimp only at hSw); (go_split_ands; go_simp); (try with_reducible rfl))
                    clear hC21 hH21
                    try simp only [Act.put, List.setIfInBounds_toArray, List.set_cons_zero, List.set_cons_succ]
                    refine wpAnyT_take (i := 22) (oi := { dst := some 280, op := Op.load 3 (Operand.tmp 279), type := 3, pos := "outright.go:324", after := #[{ on := 21, ground := Ground.data }], guard := none }) (v := ?_) rfl (by kernel_rfl) (by kernel_rfl) (by kernel_rfl) (fun _ _ _ h => h) (by kernel_rfl) (by rfl) hC22 (Or.inl ⟨by rfl, ?_⟩) hH22 (fun hC23 hH23 => ?_)
                    rotate_left
                    · (intro w9 hSw; obtain ⟨hSw, hLw⟩ := hSw; clear hLw; (try dsimp only at hSw); (go_split_ands; go_simp); (try with_reducible rfl))
                    clear hC22 hH22
                    try simp only [Act.put, List.setIfInBounds_toArray, List.set_cons_zero, List.set_cons_succ]
                    refine wpAnyT_take (i := 23) (oi := { dst := some 281, op := Op.move (Operand.tmp 29), type := 69, pos := "outright.go:324", after := #[], guard := none }) (v := ?_) rfl (by kernel_rfl) (by kernel_rfl) (by kernel_rfl) (fun _ _ _ h => h) (by kernel_rfl) (by rfl) hC23 (Or.inl ⟨by rfl, ?_⟩) hH23 (fun hC24 hH24 => ?_)
                    rotate_left
                    · (intro w9 hSw; obtain ⟨hSw, hLw⟩ := hSw; clear hLw; (try dsimp only at hSw); (go_split_ands; go_simp); (try with_reducible rfl))
                    clear hC23 hH23
                    try simp only [Act.put, List.setIfInBounds_toArray, List.set_cons_zero, List.set_cons_succ]
                    refine wpAnyT_take (i := 24) (oi := { dst := some 282, op := Op.nilCheck (Operand.tmp 281), type := 0, pos := "outright.go:324", after := #[{ on := 23, ground := Ground.data }], guard := none }) (v := ?_) rfl (by kernel_rfl) (by kernel_rfl) (by kernel_rfl) (fun _ _ _ h => h) (by kernel_rfl) (by rfl) hC24 (Or.inl ⟨by rfl, ?_⟩) hH24 (fun hC25 hH25 => ?_)
                    rotate_left
                    · (intro w9 hSw; obtain ⟨hSw, hLw⟩ := hSw; clear hLw; (try dsimp only at hSw); (go_split_ands; go_simp); (try with_reducible rfl))
                    clear hC24 hH24
                    try simp only [Act.put, List.setIfInBounds_toArray, List.set_cons_zero, List.set_cons_succ]
                    refine wpAnyT_take (i := 25) (oi := { dst := some 283, op := Op.fieldAddr 58 (Operand.tmp 282) 3, type := 0, pos := "outright.go:324", after := #[{ on := 24, ground := Ground.data }], guard := none }) (v := ?_) rfl (by kernel_rfl) (by kernel_rfl) (by kernel_rfl) (fun _ _ _ h => h) (by kernel_rfl) (by rfl) hC25 (Or.inl ⟨by rfl, ?_⟩) hH25 (fun hC26 hH26 => ?_)
                    rotate_left
                    · (intro w9 hSw; obtain ⟨hSw, hLw⟩ := hSw; clear hLw; (try dsimp only at hSw); (go_split_ands; go_simp); (try with_reducible rfl))
                    clear hC25 hH25
                    try simp only [Act.put, List.setIfInBounds_toArray, List.set_cons_zero, List.set_cons_succ]
                    refine wpAnyT_take (i := 26) (oi := { dst := some 284, op := Op.fieldAddr 29 (Operand.tmp 283) 1, type := 0, pos := "outright.go:324", after := #[{ on := 25, ground := Ground.data }], guard := none }) (v := ?_) rfl (by kernel_rfl) (by kernel_rfl) (by kernel_rfl) (fun _ _ _ h => h) (by kernel_rfl) (by rfl) hC26 (Or.inl ⟨by rfl, ?_⟩) hH26 (fun hC27 hH27 => ?_)
                    rotate_left
                    · (intro w9 hSw; obtain ⟨hSw, hLw⟩ := hSw; clear hLw; (try dsimp only at hSw); (go_split_ands; go_simp); (try with_reducible rfl))
                    clear hC26 hH26
                    try simp only [Act.put, List.setIfInBounds_toArray, List.set_cons_zero, List.set_cons_succ]
                    refine wpAnyT_take (i := 27) (oi := { dst := some 285, op := Op.load 3 (Operand.tmp 284), type := 3, pos := "outright.go:324", after := #[{ on := 26, ground := Ground.data }], guard := none }) (v := ?_) rfl (by kernel_rfl) (by kernel_rfl) (by kernel_rfl) (fun _ _ _ h => h) (by kernel_rfl) (by rfl) hC27 (Or.inl ⟨by rfl, ?_⟩) hH27 (fun hC28 hH28 => ?_)
                    rotate_left
                    · (intro w9 hSw; obtain ⟨hSw, hLw⟩ := hSw; have hl57 := hLw _ (List.mem_cons_of_mem _ List.mem_cons_self) rfl; dsimp only at hl57; clear hLw; (try dsimp only at hSw); (go_split_ands; go_simp); (try with_reducible rfl))
                    clear hC27 hH27
                    try simp only [Act.put, List.setIfInBounds_toArray, List.set_cons_zero, List.set_cons_succ]
                    refine wpAnyT_take (i := 28) (oi := { dst := some 286, op := Op.move (Operand.tmp 3), type := 5, pos := "outright.go:324", after := #[], guard := none }) (v := ?_) rfl (by kernel_rfl) (by kernel_rfl) (by kernel_rfl) (fun _ _ _ h => h) (by kernel_rfl) (by rfl) hC28 (Or.inl ⟨by rfl, ?_⟩) hH28 (fun hC29 hH29 => ?_)
                    rotate_left
                    · (intro w9 hSw; obtain ⟨hSw, hLw⟩ := hSw; clear hLw; (try dsimp only at hSw); (go_split_ands; go_simp); (try with_reducible rfl))
                    clear hC28 hH28
                    try simp only [Act.put, List.setIfInBounds_toArray, List.set_cons_zero, List.set_cons_succ]
                    refine wpAnyT_take (i := 29) (oi := { dst := some 287, op := Op.convert 5 3 (Operand.tmp 286), type := 3, pos := "outright.go:324", after := #[{ on := 28, ground := Ground.data }], guard := none }) (v := ?_) rfl (by kernel_rfl) (by kernel_rfl) (by kernel_rfl) (fun _ _ _ h => h) (by kernel_rfl) (by rfl) hC29 (Or.inl ⟨by rfl, ?_⟩) hH29 (fun hC30 hH30 => ?_)
                    rotate_left
                    · (intro w9 hSw; obtain ⟨hSw, hLw⟩ := hSw; clear hLw; (try dsimp only at hSw); (go_split_ands; go_simp); (try with_reducible rfl))
                    clear hC29 hH29
                    try simp only [Act.put, List.setIfInBounds_toArray, List.set_cons_zero, List.set_cons_succ]
                    refine wpAnyT_take (i := 30) (oi := { dst := some 288, op := Op.binOp BinOp.quo 3 (Operand.tmp 287) (Operand.const (Value.int IntKind.i64 2)) 3, type := 3, pos := "outright.go:324", after := #[{ on := 29, ground := Ground.data }], guard := none }) (v := ?_) rfl (by kernel_rfl) (by kernel_rfl) (by kernel_rfl) (fun _ _ _ h => h) (by kernel_rfl) (by rfl) hC30 (Or.inl ⟨by rfl, ?_⟩) hH30 (fun hC31 hH31 => ?_)
                    rotate_left
                    · (intro w9 hSw; obtain ⟨hSw, hLw⟩ := hSw; clear hLw; (try dsimp only at hSw); (go_split_ands; go_simp); (try with_reducible rfl))
                    clear hC30 hH30
                    try simp only [Act.put, List.setIfInBounds_toArray, List.set_cons_zero, List.set_cons_succ]
                    refine wpAnyT_take (i := 31) (oi := { dst := some 289, op := Op.binOp BinOp.rem 3 (Operand.tmp 288) (Operand.const (Value.int IntKind.i64 2)) 3, type := 3, pos := "outright.go:324", after := #[{ on := 30, ground := Ground.data }], guard := none }) (v := ?_) rfl (by kernel_rfl) (by kernel_rfl) (by kernel_rfl) (fun _ _ _ h => h) (by kernel_rfl) (by rfl) hC31 (Or.inl ⟨by rfl, ?_⟩) hH31 (fun hC32 hH32 => ?_)
                    rotate_left
                    · (intro w9 hSw; obtain ⟨hSw, hLw⟩ := hSw; clear hLw; (try dsimp only at hSw); (go_split_ands; go_simp); (try with_reducible rfl))
                    clear hC31 hH31
                    try simp only [Act.put, List.setIfInBounds_toArray, List.set_cons_zero, List.set_cons_succ]
                    refine wpAnyT_take (i := 32) (oi := { dst := some 290, op := Op.binOp BinOp.sub 3 (Operand.tmp 285) (Operand.tmp 289) 3, type := 3, pos := "outright.go:324", after := #[{ on := 27, ground := Ground.data }, { on := 31, ground := Ground.data }], guard := none }) (v := ?_) rfl (by kernel_rfl) (by kernel_rfl) (by kernel_rfl) (fun _ _ _ h => h) (by kernel_rfl) (by rfl) hC32 (Or.inl ⟨by rfl, ?_⟩) hH32 (fun hC33 hH33 => ?_)
                    rotate_left
                    · (intro w9 hSw; obtain ⟨hSw, hLw⟩ := hSw; clear hLw; (try dsimp only at hSw); (go_split_ands; go_simp); (try with_reducible rfl))
                    clear hC32 hH32
                    try simp only [Act.put, List.setIfInBounds_toArray, List.set_cons_zero, List.set_cons_succ]
                    refine wpAnyT_take (i := 33) (oi := { dst := some 291, op := Op.call { callee := Callee.builtin Builtin.max, args := #[Operand.tmp 280, Operand.tmp 290], argTypes := #[3, 3] }, type := 3, pos := "outright.go:324", after := #[{ on := 22, ground := Ground.data }, { on := 32, ground := Ground.data }], guard := none }) (v := ?_) rfl (by kernel_rfl) (by kernel_rfl) (by kernel_rfl) (fun _ _ _ h => h) (by kernel_rfl) (by rfl) hC33 (Or.inl ⟨by rfl, ?_⟩) hH33 (fun hC34 hH34 => ?_)
                    rotate_left
                    · (intro w9 hSw; obtain ⟨hSw, hLw⟩ := hSw; clear hLw; (try dsimp only at hSw); (go_split_ands; go_simp); (try with_reducible rfl))
                    clear hC33 hH33
                    try simp only [Act.put, List.setIfInBounds_toArray, List.set_cons_zero, List.set_cons_succ]
                    refine wpAnyT_take (i := 34) (oi := { dst := some 292, op := Op.move (Operand.tmp 29), type := 69, pos := "outright.go:324", after := #[], guard := none }) (v := ?_) rfl (by kernel_rfl) (by kernel_rfl) (by kernel_rfl) (fun _ _ _ h => h) (by kernel_rfl) (by rfl) hC34 (Or.inl ⟨by rfl, ?_⟩) hH34 (fun hC35 hH35 => ?_)
                    rotate_left
                    · (intro w9 hSw; obtain ⟨hSw, hLw⟩ := hSw; clear hLw; (try dsimp only at hSw); (go_split_ands; go_simp); (try with_reducible rfl))
                    clear hC34 hH34
                    try simp only [Act.put, List.setIfInBounds_toArray, List.set_cons_zero, List.set_cons_succ]
                    refine wpAnyT_take (i := 35) (oi := { dst := some 293, op := Op.nilCheck (Operand.tmp 292), type := 0, pos := "outright.go:324", after := #[{ on := 34, ground := Ground.data }], guard := none }) (v := ?_) rfl (by kernel_rfl) (by kernel_rfl) (by kernel_rfl) (fun _ _ _ h => h) (by kernel_rfl) (by rfl) hC35 (Or.inl ⟨by rfl, ?_⟩) hH35 (fun hC36 hH36 => ?_)
                    rotate_left
                    · (intro w9 hSw; obtain ⟨hSw, hLw⟩ := hSw; clear hLw; (try dsimp only at hSw); (go_split_ands; go_simp); (try with_reducible rfl))
                    clear hC35 hH35
                    try simp only [Act.put, List.setIfInBounds_toArray, List.set_cons_zero, List.set_cons_succ]
                    refine wpAnyT_take (i := 36) (oi := { dst := some 294, op := Op.fieldAddr 58 (Operand.tmp 293) 4, type := 0, pos := "outright.go:324", after := #[{ on := 35, ground := Ground.data }], guard := none }) (v := ?_) rfl (by kernel_rfl) (by kernel_rfl) (by kernel_rfl) (fun _ _ _ h => h) (by kernel_rfl) (by rfl) hC36 (Or.inl ⟨by rfl, ?_⟩) hH36 (fun hC37 hH37 => ?_)
                    rotate_left
                    · (intro w9 hSw; obtain ⟨hSw, hLw⟩ := hSw; clear hLw; (try dsimp only at hSw); (go_split_ands; go_simp); (try with_reducible rfl))
                    clear hC36 hH36
                    try simp only [Act.put, List.setIfInBounds_toArray, List.set_cons_zero, List.set_cons_succ]
                    refine wpAnyT_take (i := 37) (oi := { dst := some 295, op := Op.fieldAddr 29 (Operand.tmp 294) 1, type := 0, pos := "outright.go:324", after := #[{ on := 36, ground := Ground.data }], guard := none }) (v := ?_) rfl (by kernel_rfl) (by kernel_rfl) (by kernel_rfl) (fun _ _ _ h => h) (by kernel_rfl) (by rfl) hC37 (Or.inl ⟨by rfl, ?_⟩) hH37 (fun hC38 hH38 => ?_)
                    rotate_left
                    · (intro w9 hSw; obtain ⟨hSw, hLw⟩ := hSw; clear hLw; (try dsimp only at hSw); (go_split_ands; go_simp); (try with_reducible rfl))
                    clear hC37 hH37
                    try simp only [Act.put, List.setIfInBounds_toArray, List.set_cons_zero, List.set_cons_succ]
                    refine wpAnyT_take (i := 38) (oi := { dst := some 296, op := Op.load 3 (Operand.tmp 295), type := 3, pos := "outright.go:324", after := #[{ on := 37, ground := Ground.data }], guard := none }) (v := ?_) rfl (by kernel_rfl) (by kernel_rfl) (by kernel_rfl) (fun _ _ _ h => h) (by kernel_rfl) (by rfl) hC38 (Or.inl ⟨by rfl, ?_⟩) hH38 (fun hC39 hH39 => ?_)
                    rotate_left
                    · (intro w9 hSw; obtain ⟨hSw, hLw⟩ := hSw; clear hLw; (try dsimp only at hSw); (go_split_ands; go_simp); (try with_reducible rfl))
                    clear hC38 hH38
                    try simp only [Act.put, List.setIfInBounds_toArray, List.set_cons_zero, List.set_cons_succ]
                    refine wpAnyT_take (i := 39) (oi := { dst := some 297, op := Op.move (Operand.tmp 29), type := 69, pos := "outright.go:324", after := #[], guard := none }) (v := ?_) rfl (by kernel_rfl) (by kernel_rfl) (by kernel_rfl) (fun _ _ _ h => h) (by kernel_rfl) (by rfl) hC39 (Or.inl ⟨by rfl, ?_⟩) hH39 (fun hC40 hH40 => ?_)
                    rotate_left
                    · (intro w9 hSw; obtain ⟨hSw, hLw⟩ := hSw; clear hLw; (try dsimp only at hSw); (go_split_ands; go_simp); (try with_reducible rfl))
                    clear hC39 hH39
                    try simp only [Act.put, List.setIfInBounds_toArray, List.set_cons_zero, List.set_cons_succ]
                    refine wpAnyT_take (i := 40) (oi := { dst := some 298, op := Op.nilCheck (Operand.tmp 297), type := 0, pos := "outright.go:324", after := #[{ on := 39, ground := Ground.data }], guard := none }) (v := ?_) rfl (by kernel_rfl) (by kernel_rfl) (by kernel_rfl) (fun _ _ _ h => h) (by kernel_rfl) (by rfl) hC40 (Or.inl ⟨by rfl, ?_⟩) hH40 (fun hC41 hH41 => ?_)
                    rotate_left
                    · (intro w9 hSw; obtain ⟨hSw, hLw⟩ := hSw; clear hLw; (try dsimp only at hSw); (go_split_ands; go_simp); (try with_reducible rfl))
                    clear hC40 hH40
                    try simp only [Act.put, List.setIfInBounds_toArray, List.set_cons_zero, List.set_cons_succ]
                    refine wpAnyT_take (i := 41) (oi := { dst := some 299, op := Op.fieldAddr 58 (Operand.tmp 298) 4, type := 0, pos := "outright.go:324", after := #[{ on := 40, ground := Ground.data }], guard := none }) (v := ?_) rfl (by kernel_rfl) (by kernel_rfl) (by kernel_rfl) (fun _ _ _ h => h) (by kernel_rfl) (by rfl) hC41 (Or.inl ⟨by rfl, ?_⟩) hH41 (fun hC42 hH42 => ?_)
                    rotate_left
                    · (intro w9 hSw; obtain ⟨hSw, hLw⟩ := hSw; clear hLw; (try dsimp only at hSw); (go_split_ands; go_simp); (try with_reducible rfl))
                    clear hC41 hH41
                    try simp only [Act.put, List.setIfInBounds_toArray, List.set_cons_zero, List.set_cons_succ]
                    refine wpAnyT_take (i := 42) (oi := { dst := some 300, op := Op.fieldAddr 29 (Operand.tmp 299) 0, type := 0, pos := "outright.go:324", after := #[{ on := 41, ground := Ground.data }], guard := none }) (v := ?_) rfl (by kernel_rfl) (by kernel_rfl) (by kernel_rfl) (fun _ _ _ h => h) (by kernel_rfl) (by rfl) hC42 (Or.inl ⟨by rfl, ?_⟩) hH42 (fun hC43 hH43 => ?_)
                    rotate_left
                    · (intro w9 hSw; obtain ⟨hSw, hLw⟩ := hSw; clear hLw; (try dsimp only at hSw); (go_split_ands; go_simp); (try with_reducible rfl))
                    clear hC42 hH42
                    try simp only [Act.put, List.setIfInBounds_toArray, List.set_cons_zero, List.set_cons_succ]
                    refine wpAnyT_take (i := 43) (oi := { dst := some 301, op := Op.load 3 (Operand.tmp 300), type := 3, pos := "outright.go:324", after := #[{ on := 42, ground := Ground.data }], guard := none }) (v := ?_) rfl (by kernel_rfl) (by kernel_rfl) (by kernel_rfl) (fun _ _ _ h => h) (by kernel_rfl) (by rfl) hC43 (Or.inl ⟨by rfl, ?_⟩) hH43 (fun hC44 hH44 => ?_)
                    rotate_left
                    · (intro w9 hSw; obtain ⟨hSw, hLw⟩ := hSw; have hl61 := hLw _ (List.mem_cons_of_mem _ (List.mem_cons_of_mem _ List.mem_cons_self)) rfl; dsimp only at hl61; clear hLw; (try dsimp only at hSw); (go_split_ands; go_simp); (try with_reducible rfl))
                    clear hC43 hH43
                    try simp only [Act.put, List.setIfInBounds_toArray, List.set_cons_zero, List.set_cons_succ]
                    refine wpAnyT_take (i := 44) (oi := { dst := some 302, op := Op.move (Operand.tmp 3), type := 5, pos := "outright.go:324", after := #[], guard := none }) (v := ?_) rfl (by kernel_rfl) (by kernel_rfl) (by kernel_rfl) (fun _ _ _ h => h) (by kernel_rfl) (by rfl) hC44 (Or.inl ⟨by rfl, ?_⟩) hH44 (fun hC45 hH45 => ?_)
                    rotate_left
                    · (intro w9 hSw; obtain ⟨hSw, hLw⟩ := hSw; clear hLw; (try dsimp only at hSw); (go_split_ands; go_simp); (try with_reducible rfl))
                    clear hC44 hH44
                    try simp only [Act.put, List.setIfInBounds_toArray, List.set_cons_zero, List.set_cons_succ]
                    refine wpAnyT_take (i := 45) (oi := { dst := some 303, op := Op.convert 5 3 (Operand.tmp 302), type := 3, pos := "outright.go:324", after := #[{ on := 44, ground := Ground.data }], guard := none }) (v := ?_) rfl (by kernel_rfl) (by kernel_rfl) (by kernel_rfl) (fun _ _ _ h => h) (by kernel_rfl) (by rfl) hC45 (Or.inl ⟨by rfl, ?_⟩) hH45 (fun hC46 hH46 => ?_)
                    rotate_left
                    · (intro w9 hSw; obtain ⟨hSw, hLw⟩ := hSw; clear hLw; (try dsimp only at hSw); (go_split_ands; go_simp); (try with_reducible rfl))
                    clear hC45 hH45
                    try simp only [Act.put, List.setIfInBounds_toArray, List.set_cons_zero, List.set_cons_succ]
                    refine wpAnyT_take (i := 46) (oi := { dst := some 304, op := Op.binOp BinOp.quo 3 (Operand.tmp 303) (Operand.const (Value.int IntKind.i64 4)) 3, type := 3, pos := "outright.go:324", after := #[{ on := 45, ground := Ground.data }], guard := none }) (v := ?_) rfl (by kernel_rfl) (by kernel_rfl) (by kernel_rfl) (fun _ _ _ h => h) (by kernel_rfl) (by rfl) hC46 (Or.inl ⟨by rfl, ?_⟩) hH46 (fun hC47 hH47 => ?_)
                    rotate_left
                    · (intro w9 hSw; obtain ⟨hSw, hLw⟩ := hSw; clear hLw; (try dsimp only at hSw); (go_split_ands; go_simp); (try with_reducible rfl))
                    clear hC46 hH46
                    try simp only [Act.put, List.setIfInBounds_toArray, List.set_cons_zero, List.set_cons_succ]
                    refine wpAnyT_take (i := 47) (oi := { dst := some 305, op := Op.binOp BinOp.rem 3 (Operand.tmp 304) (Operand.const (Value.int IntKind.i64 2)) 3, type := 3, pos := "outright.go:324", after := #[{ on := 46, ground := Ground.data }], guard := none }) (v := ?_) rfl (by kernel_rfl) (by kernel_rfl) (by kernel_rfl) (fun _ _ _ h => h) (by kernel_rfl) (by rfl) hC47 (Or.inl ⟨by rfl, ?_⟩) hH47 (fun hC48 hH48 => ?_)
                    rotate_left
                    · (intro w9 hSw; obtain ⟨hSw, hLw⟩ := hSw; clear hLw; (try dsimp only at hSw); (go_split_ands; go_simp); (try with_reducible rfl))
                    clear hC47 hH47
                    try simp only [Act.put, List.setIfInBounds_toArray, List.set_cons_zero, List.set_cons_succ]
                    refine wpAnyT_take (i := 48) (oi := { dst := some 306, op := Op.binOp BinOp.add 3 (Operand.tmp 301) (Operand.tmp 305) 3, type := 3, pos := "outright.go:324", after := #[{ on := 43, ground := Ground.data }, { on := 47, ground := Ground.data }], guard := none }) (v := ?_) rfl (by kernel_rfl) (by kernel_rfl) (by kernel_rfl) (fun _ _ _ h => h) (by kernel_rfl) (by rfl) hC48 (Or.inl ⟨by rfl, ?_⟩) hH48 (fun hC49 hH49 => ?_)
                    rotate_left
                    · (intro w9 hSw; obtain ⟨hSw, hLw⟩ := hSw; clear hLw; (try dsimp only at hSw); (go_split_ands; go_simp); (try with_reducible rfl))
                    clear hC48 hH48
                    try simp only [Act.put, List.setIfInBounds_toArray, List.set_cons_zero, List.set_cons_succ]
                    refine wpAnyT_take (i := 49) (oi := { dst := some 307, op := Op.call { callee := Callee.builtin Builtin.min, args := #[Operand.tmp 296, Operand.tmp 306], argTypes := #[3, 3] }, type := 3, pos := "outright.go:324", after := #[{ on := 38, ground := Ground.data }, { on := 48, ground := Ground.data }], guard := none }) (v := ?_) rfl (by kernel_rfl) (by kernel_rfl) (by kernel_rfl) (fun _ _ _ h => h) (by kernel_rfl) (by rfl) hC49 (Or.inl ⟨by rfl, ?_⟩) hH49 (fun hC50 hH50 => ?_)
                    rotate_left
                    · (intro w9 hSw; obtain ⟨hSw, hLw⟩ := hSw; clear hLw; (try dsimp only at hSw); (go_split_ands; go_simp); (try with_reducible rfl))
                    clear hC49 hH49
                    try simp only [Act.put, List.setIfInBounds_toArray, List.set_cons_zero, List.set_cons_succ]
                    refine wpAnyT_take (i := 50) (oi := { dst := some 308, op := Op.nilCheck (Operand.tmp 258), type := 0, pos := "outright.go:324", after := #[{ on := 0, ground := Ground.data }, { on := 0, ground := Ground.phase }, { on := 1, ground := Ground.textOnly Departure.lateStores }, { on := 2, ground := Ground.textOnly Departure.lateStores }, { on := 3, ground := Ground.phase }, { on := 4, ground := Ground.phase }, { on := 5, ground := Ground.phase }, { on := 6, ground := Ground.phase }, { on := 7, ground := Ground.phase }, { on := 8, ground := Ground.phase }, { on := 9, ground := Ground.phase }, { on := 10, ground := Ground.phase }, { on := 11, ground := Ground.phase }, { on := 12, ground := Ground.phase }, { on := 13, ground := Ground.phase }, { on := 14, ground := Ground.phase }, { on := 15, ground := Ground.phase }, { on := 16, ground := Ground.phase }, { on := 17, ground := Ground.phase }, { on := 18, ground := Ground.textOnly Departure.lateStores }, { on := 19, ground := Ground.textOnly Departure.lateStoresUnsure }, { on := 20, ground := Ground.textOnly Departure.lateStoresUnsure }, { on := 21, ground := Ground.textOnly Departure.lateStoresUnsure }, { on := 22, ground := Ground.phase }, { on := 23, ground := Ground.textOnly Departure.lateStores }, { on := 24, ground := Ground.textOnly Departure.lateStoresUnsure }, { on := 25, ground := Ground.textOnly Departure.lateStoresUnsure }, { on := 26, ground := Ground.textOnly Departure.lateStoresUnsure }, { on := 27, ground := Ground.phase }, { on := 28, ground := Ground.textOnly Departure.lateStores }, { on := 29, ground := Ground.textOnly Departure.lateStores }, { on := 30, ground := Ground.textOnly Departure.lateStores }, { on := 31, ground := Ground.textOnly Departure.lateStores }, { on := 32, ground := Ground.textOnly Departure.lateStoresUnsure }, { on := 33, ground := Ground.textOnly Departure.lateStoresUnsure }, { on := 34, ground := Ground.textOnly Departure.lateStores }, { on := 35, ground := Ground.textOnly Departure.lateStoresUnsure }, { on := 36, ground := Ground.textOnly Departure.lateStoresUnsure }, { on := 37, ground := Ground.textOnly Departure.lateStoresUnsure }, { on := 38, ground := Ground.phase }, { on := 39, ground := Ground.textOnly Departure.lateStores }, { on := 40, ground := Ground.textOnly Departure.lateStoresUnsure }, { on := 41, ground := Ground.textOnly Departure.lateStoresUnsure }, { on := 42, ground := Ground.textOnly Departure.lateStoresUnsure }, { on := 43, ground := Ground.phase }, { on := 44, ground := Ground.textOnly Departure.lateStores }, { on := 45, ground := Ground.textOnly Departure.lateStores }, { on := 46, ground := Ground.textOnly Departure.lateStores }, { on := 47, ground := Ground.textOnly Departure.lateStores }, { on := 48, ground := Ground.textOnly Departure.lateStoresUnsure }, { on := 49, ground := Ground.textOnly Departure.lateStoresUnsure }], guard := none }) (v := ?_) rfl (by kernel_rfl) (by kernel_rfl) (by kernel_rfl) (fun _ _ _ h => h) (by kernel_rfl) (by rfl) hC50 (Or.inl ⟨by rfl, ?_⟩) hH50 (fun hC51 hH51 => ?_)
                    rotate_left
                    · (intro w9 hSw; obtain ⟨hSw, hLw⟩ := hSw; clear hLw; (try dsimp only at hSw); (go_split_ands; go_simp); (try with_reducible rfl))
                    clear hC50 hH50
                    try simp only [Act.put, List.setIfInBounds_toArray, List.set_cons_zero, List.set_cons_succ]
                    refine wpAnyT_take (i := 51) (oi := { dst := some 309, op := Op.fieldAddr 58 (Operand.tmp 308) 2, type := 0, pos := "outright.go:324", after := #[{ on := 50, ground := Ground.data }, { on := 0, ground := Ground.phase }, { on := 1, ground := Ground.textOnly Departure.lateStores }, { on := 2, ground := Ground.textOnly Departure.lateStores }, { on := 3, ground := Ground.phase }, { on := 4, ground := Ground.phase }, { on := 5, ground := Ground.phase }, { on := 6, ground := Ground.phase }, { on := 7, ground := Ground.phase }, { on := 8, ground := Ground.phase }, { on := 9, ground := Ground.phase }, { on := 10, ground := Ground.phase }, { on := 11, ground := Ground.phase }, { on := 12, ground := Ground.phase }, { on := 13, ground := Ground.phase }, { on := 14, ground := Ground.phase }, { on := 15, ground := Ground.phase }, { on := 16, ground := Ground.phase }, { on := 17, ground := Ground.phase }, { on := 18, ground := Ground.textOnly Departure.lateStores }, { on := 19, ground := Ground.textOnly Departure.lateStoresUnsure }, { on := 20, ground := Ground.textOnly Departure.lateStoresUnsure }, { on := 21, ground := Ground.textOnly Departure.lateStoresUnsure }, { on := 22, ground := Ground.phase }, { on := 23, ground := Ground.textOnly Departure.lateStores }, { on := 24, ground := Ground.textOnly Departure.lateStoresUnsure }, { on := 25, ground := Ground.textOnly Departure.lateStoresUnsure }, { on := 26, ground := Ground.textOnly Departure.lateStoresUnsure }, { on := 27, ground := Ground.phase }, { on := 28, ground := Ground.textOnly Departure.lateStores }, { on := 29, ground := Ground.textOnly Departure.lateStores }, { on := 30, ground := Ground.textOnly Departure.lateStores }, { on := 31, ground := Ground.textOnly Departure.lateStores }, { on := 32, ground := Ground.textOnly Departure.lateStoresUnsure }, { on := 33, ground := Ground.textOnly Departure.lateStoresUnsure }, { on := 34, ground := Ground.textOnly Departure.lateStores }, { on := 35, ground := Ground.textOnly Departure.lateStoresUnsure }, { on := 36, ground := Ground.textOnly Departure.lateStoresUnsure }, { on := 37, ground := Ground.textOnly Departure.lateStoresUnsure }, { on := 38, ground := Ground.phase }, { on := 39, ground := Ground.textOnly Departure.lateStores }, { on := 40, ground := Ground.textOnly Departure.lateStoresUnsure }, { on := 41, ground := Ground.textOnly Departure.lateStoresUnsure }, { on := 42, ground := Ground.textOnly Departure.lateStoresUnsure }, { on := 43, ground := Ground.phase }, { on := 44, ground := Ground.textOnly Departure.lateStores }, { on := 45, ground := Ground.textOnly Departure.lateStores }, { on := 46, ground := Ground.textOnly Departure.lateStores }, { on := 47, ground := Ground.textOnly Departure.lateStores }, { on := 48, ground := Ground.textOnly Departure.lateStoresUnsure }, { on := 49, ground := Ground.textOnly Departure.lateStoresUnsure }], guard := none }) (v := ?_) rfl (by kernel_rfl) (by kernel_rfl) (by kernel_rfl) (fun _ _ _ h => h) (by kernel_rfl) (by rfl) hC51 (Or.inl ⟨by rfl, ?_⟩) hH51 (fun hC52 hH52 => ?_)
                    rotate_left
                    · (intro w9 hSw; obtain ⟨hSw, hLw⟩ := hSw; clear hLw; (try dsimp only at hSw); (go_split_ands; go_simp); (try with_reducible rfl))
                    clear hC51 hH51
                    try simp only [Act.put, List.setIfInBounds_toArray, List.set_cons_zero, List.set_cons_succ]
                    refine wpAnyT_take (i := 52) (oi := { dst := some 310, op := Op.fieldAddr 29 (Operand.tmp 309) 0, type := 0, pos := "outright.go:324", after := #[{ on := 51, ground := Ground.data }, { on := 0, ground := Ground.phase }, { on := 1, ground := Ground.textOnly Departure.lateStores }, { on := 2, ground := Ground.textOnly Departure.lateStores }, { on := 3, ground := Ground.phase }, { on := 4, ground := Ground.phase }, { on := 5, ground := Ground.phase }, { on := 6, ground := Ground.phase }, { on := 7, ground := Ground.phase }, { on := 8, ground := Ground.phase }, { on := 9, ground := Ground.phase }, { on := 10, ground := Ground.phase }, { on := 11, ground := Ground.phase }, { on := 12, ground := Ground.phase }, { on := 13, ground := Ground.phase }, { on := 14, ground := Ground.phase }, { on := 15, ground := Ground.phase }, { on := 16, ground := Ground.phase }, { on := 17, ground := Ground.phase }, { on := 18, ground := Ground.textOnly Departure.lateStores }, { on := 19, ground := Ground.textOnly Departure.lateStoresUnsure }, { on := 20, ground := Ground.textOnly Departure.lateStoresUnsure }, { on := 21, ground := Ground.textOnly Departure.lateStoresUnsure }, { on := 22, ground := Ground.phase }, { on := 23, ground := Ground.textOnly Departure.lateStores }, { on := 24, ground := Ground.textOnly Departure.lateStoresUnsure }, { on := 25, ground := Ground.textOnly Departure.lateStoresUnsure }, { on := 26, ground := Ground.textOnly Departure.lateStoresUnsure }, { on := 27, ground := Ground.phase }, { on := 28, ground := Ground.textOnly Departure.lateStores }, { on := 29, ground := Ground.textOnly Departure.lateStores }, { on := 30, ground := Ground.textOnly Departure.lateStores }, { on := 31, ground := Ground.textOnly Departure.lateStores }, { on := 32, ground := Ground.textOnly Departure.lateStoresUnsure }, { on := 33, ground := Ground.textOnly Departure.lateStoresUnsure }, { on := 34, ground := Ground.textOnly Departure.lateStores }, { on := 35, ground := Ground.textOnly Departure.lateStoresUnsure }, { on := 36, ground := Ground.textOnly Departure.lateStoresUnsure }, { on := 37, ground := Ground.textOnly Departure.lateStoresUnsure }, { on := 38, ground := Ground.phase }, { on := 39, ground := Ground.textOnly Departure.lateStores }, { on := 40, ground := Ground.textOnly Departure.lateStoresUnsure }, { on := 41, ground := Ground.textOnly Departure.lateStoresUnsure }, { on := 42, ground := Ground.textOnly Departure.lateStoresUnsure }, { on := 43, ground := Ground.phase }, { on := 44, ground := Ground.textOnly Departure.lateStores }, { on := 45, ground := Ground.textOnly Departure.lateStores }, { on := 46, ground := Ground.textOnly Departure.lateStores }, { on := 47, ground := Ground.textOnly Departure.lateStores }, { on := 48, ground := Ground.textOnly Departure.lateStoresUnsure }, { on := 49, ground := Ground.textOnly Departure.lateStoresUnsure }], guard := none }) (v := ?_) rfl (by kernel_rfl) (by kernel_rfl) (by kernel_rfl) (fun _ _ _ h => h) (by kernel_rfl) (by rfl) hC52 (Or.inl ⟨by rfl, ?_⟩) hH52 (fun hC53 hH53 => ?_)
                    rotate_left
                    · (intro w9 hSw; obtain ⟨hSw, hLw⟩ := hSw; clear hLw; (try dsimp only at hSw); (go_split_ands; go_simp); (try with_reducible rfl))
                    clear hC52 hH52
                    try simp only [Act.put, List.setIfInBounds_toArray, List.set_cons_zero, List.set_cons_succ]
                    refine wpAnyT_one (i := 53) (o := { dst := none, op := Op.store 3 (Operand.tmp 310) (Operand.tmp 275), type := 0, pos := "outright.go:324", after := #[{ on := 52, ground := Ground.data }, { on := 17, ground := Ground.data }, { on := 0, ground := Ground.phase }, { on := 1, ground := Ground.textOnly Departure.lateStores }, { on := 2, ground := Ground.textOnly Departure.lateStores }, { on := 3, ground := Ground.phase }, { on := 4, ground := Ground.phase }, { on := 5, ground := Ground.phase }, { on := 6, ground := Ground.phase }, { on := 7, ground := Ground.phase }, { on := 8, ground := Ground.phase }, { on := 9, ground := Ground.phase }, { on := 10, ground := Ground.phase }, { on := 11, ground := Ground.phase }, { on := 12, ground := Ground.phase }, { on := 13, ground := Ground.phase }, { on := 14, ground := Ground.phase }, { on := 15, ground := Ground.phase }, { on := 16, ground := Ground.phase }, { on := 17, ground := Ground.phase }, { on := 18, ground := Ground.textOnly Departure.lateStores }, { on := 19, ground := Ground.textOnly Departure.lateStoresUnsure }, { on := 20, ground := Ground.textOnly Departure.lateStoresUnsure }, { on := 21, ground := Ground.textOnly Departure.lateStoresUnsure }, { on := 22, ground := Ground.phase }, { on := 23, ground := Ground.textOnly Departure.lateStores }, { on := 24, ground := Ground.textOnly Departure.lateStoresUnsure }, { on := 25, ground := Ground.textOnly Departure.lateStoresUnsure }, { on := 26, ground := Ground.textOnly Departure.lateStoresUnsure }, { on := 27, ground := Ground.phase }, { on := 28, ground := Ground.textOnly Departure.lateStores }, { on := 29, ground := Ground.textOnly Departure.lateStores }, { on := 30, ground := Ground.textOnly Departure.lateStores }, { on := 31, ground := Ground.textOnly Departure.lateStores }, { on := 32, ground := Ground.textOnly Departure.lateStoresUnsure }, { on := 33, ground := Ground.textOnly Departure.lateStoresUnsure }, { on := 34, ground := Ground.textOnly Departure.lateStores }, { on := 35, ground := Ground.textOnly Departure.lateStoresUnsure }, { on := 36, ground := Ground.textOnly Departure.lateStoresUnsure }, { on := 37, ground := Ground.textOnly Departure.lateStoresUnsure }, { on := 38, ground := Ground.phase }, { on := 39, ground := Ground.textOnly Departure.lateStores }, { on := 40, ground := Ground.textOnly Departure.lateStoresUnsure }, { on := 41, ground := Ground.textOnly Departure.lateStoresUnsure }, { on := 42, ground := Ground.textOnly Departure.lateStoresUnsure }, { on := 43, ground := Ground.phase }, { on := 44, ground := Ground.textOnly Departure.lateStores }, { on := 45, ground := Ground.textOnly Departure.lateStores }, { on := 46, ground := Ground.textOnly Departure.lateStores }, { on := 47, ground := Ground.textOnly Departure.lateStores }, { on := 48, ground := Ground.textOnly Departure.lateStoresUnsure }, { on := 49, ground := Ground.textOnly Departure.lateStoresUnsure }], guard := none }) (by kernel_rfl) rfl (by kernel_rfl) hC53 (fun K hK => ?_)
                    clear hC53 hH53
                    have fz := F0.out.free (i * 8 + 2)
                    obtain ⟨y2, -, -, y5, y6, -⟩ := ticks_rowc R0.out hil
                    go_simp
                    clear y2 y5 y6 fz
                    have R1 := Lib.hid (ticks_cell (j := 2) R0.out hil (by omega) (t' := ({ (T i) with fl := x1 })) (v := .int .i64 x1) rfl (by intro l hl hne; rcases (by omega : l = 0 ∨ l = 1 ∨ l = 2 ∨ l = 3 ∨ l = 4 ∨ l = 5 ∨ l = 6 ∨ l = 7) with rfl | rfl | rfl | rfl | rfl | rfl | rfl | rfl <;> first | rfl | exact absurd rfl hne))
                    have Y1 := Lib.hid (YV.out.below ((Below.refl _ _).setCell (p := ⟨g3, i * 8 + 2, none⟩) (by dsimp only; omega) (.int .i64 x1)))
                    have F1 := Lib.hid (F0.out.store (i * 8 + 2) (.int .i64 x1))
                    generalize World.setCell _ _ _ = w1c at *
                    refine hK.out _ _ ?_ (fun hC54 hH54 => ?_)
                    · obtain ⟨y2, y3, y4, y5, y6, y7⟩ := ticks_rowc R1.out hil
                      simp only [updT_eq] at y2 y3 y4 y5 y6 y7
                      refine ⟨⟨y3, y4, y7⟩, fun e he h => ?_⟩
                      simp only [List.mem_cons, List.mem_nil_iff, or_false] at he
                      rcases he with rfl | rfl | rfl
                      · exact absurd h (by intro hx; exact Bool.false_ne_true (hx.symm.trans (by kernel_rfl)))
                      · exact y5
                      · exact y6
                    clear hK K
                    try simp only [Act.put]
                    refine wpAnyT_take (i := 54) (oi := { dst := some 311, op := Op.nilCheck (Operand.tmp 259), type := 0, pos := "outright.go:324", after := #[{ on := 1, ground := Ground.data }, { on := 0, ground := Ground.phase }, { on := 1, ground := Ground.phase }, { on := 2, ground := Ground.textOnly Departure.lateStores }, { on := 3, ground := Ground.phase }, { on := 4, ground := Ground.phase }, { on := 5, ground := Ground.phase }, { on := 6, ground := Ground.phase }, { on := 7, ground := Ground.phase }, { on := 8, ground := Ground.phase }, { on := 9, ground := Ground.phase }, { on := 10, ground := Ground.phase }, { on := 11, ground := Ground.phase }, { on := 12, ground := Ground.phase }, { on := 13, ground := Ground.phase }, { on := 14, ground := Ground.phase }, { on := 15, ground := Ground.phase }, { on := 16, ground := Ground.phase }, { on := 17, ground := Ground.phase }, { on := 18, ground := Ground.phase }, { on := 19, ground := Ground.phase }, { on := 20, ground := Ground.phase }, { on := 21, ground := Ground.phase }, { on := 22, ground := Ground.phase }, { on := 23, ground := Ground.phase }, { on := 24, ground := Ground.phase }, { on := 25, ground := Ground.phase }, { on := 26, ground := Ground.phase }, { on := 27, ground := Ground.phase }, { on := 28, ground := Ground.phase }, { on := 29, ground := Ground.phase }, { on := 30, ground := Ground.phase }, { on := 31, ground := Ground.phase }, { on := 32, ground := Ground.phase }, { on := 33, ground := Ground.phase }, { on := 34, ground := Ground.textOnly Departure.lateStores }, { on := 35, ground := Ground.textOnly Departure.lateStoresUnsure }, { on := 36, ground := Ground.textOnly Departure.lateStoresUnsure }, { on := 37, ground := Ground.textOnly Departure.lateStoresUnsure }, { on := 38, ground := Ground.phase }, { on := 39, ground := Ground.textOnly Departure.lateStores }, { on := 40, ground := Ground.textOnly Departure.lateStoresUnsure }, { on := 41, ground := Ground.textOnly Departure.lateStoresUnsure }, { on := 42, ground := Ground.textOnly Departure.lateStoresUnsure }, { on := 43, ground := Ground.phase }, { on := 44, ground := Ground.textOnly Departure.lateStores }, { on := 45, ground := Ground.textOnly Departure.lateStores }, { on := 46, ground := Ground.textOnly Departure.lateStores }, { on := 47, ground := Ground.textOnly Departure.lateStores }, { on := 48, ground := Ground.textOnly Departure.lateStoresUnsure }, { on := 49, ground := Ground.textOnly Departure.lateStoresUnsure }, { on := 50, ground := Ground.phase }, { on := 51, ground := Ground.phase }, { on := 52, ground := Ground.phase }, { on := 53, ground := Ground.phase }], guard := none }) (v := ?_) rfl (by kernel_rfl) (by kernel_rfl) (by kernel_rfl) (fun _ _ _ h => h) (by kernel_rfl) (by rfl) hC54 (Or.inl ⟨by rfl, ?_⟩) hH54 (fun hC55 hH55 => ?_)
                    rotate_left
                    · (intro w9 hSw; obtain ⟨hSw, hLw⟩ := hSw; clear hLw; (try dsimp only at hSw); (go_split_ands; go_simp); (try with_reducible rfl))
                    clear hC54 hH54
                    try simp only [Act.put, List.setIfInBounds_toArray, List.set_cons_zero, List.set_cons_succ]
                    refine wpAnyT_take (i := 55) (oi := { dst := some 312, op := Op.fieldAddr 58 (Operand.tmp 311) 3, type := 0, pos := "outright.go:324", after := #[{ on := 54, ground := Ground.data }, { on := 0, ground := Ground.phase }, { on := 1, ground := Ground.phase }, { on := 2, ground := Ground.textOnly Departure.lateStores }, { on := 3, ground := Ground.phase }, { on := 4, ground := Ground.phase }, { on := 5, ground := Ground.phase }, { on := 6, ground := Ground.phase }, { on := 7, ground := Ground.phase }, { on := 8, ground := Ground.phase }, { on := 9, ground := Ground.phase }, { on := 10, ground := Ground.phase }, { on := 11, ground := Ground.phase }, { on := 12, ground := Ground.phase }, { on := 13, ground := Ground.phase }, { on := 14, ground := Ground.phase }, { on := 15, ground := Ground.phase }, { on := 16, ground := Ground.phase }, { on := 17, ground := Ground.phase }, { on := 18, ground := Ground.phase }, { on := 19, ground := Ground.phase }, { on := 20, ground := Ground.phase }, { on := 21, ground := Ground.phase }, { on := 22, ground := Ground.phase }, { on := 23, ground := Ground.phase }, { on := 24, ground := Ground.phase }, { on := 25, ground := Ground.phase }, { on := 26, ground := Ground.phase }, { on := 27, ground := Ground.phase }, { on := 28, ground := Ground.phase }, { on := 29, ground := Ground.phase }, { on := 30, ground := Ground.phase }, { on := 31, ground := Ground.phase }, { on := 32, ground := Ground.phase }, { on := 33, ground := Ground.phase }, { on := 34, ground := Ground.textOnly Departure.lateStores }, { on := 35, ground := Ground.textOnly Departure.lateStoresUnsure }, { on := 36, ground := Ground.textOnly Departure.lateStoresUnsure }, { on := 37, ground := Ground.textOnly Departure.lateStoresUnsure }, { on := 38, ground := Ground.phase }, { on := 39, ground := Ground.textOnly Departure.lateStores }, { on := 40, ground := Ground.textOnly Departure.lateStoresUnsure }, { on := 41, ground := Ground.textOnly Departure.lateStoresUnsure }, { on := 42, ground := Ground.textOnly Departure.lateStoresUnsure }, { on := 43, ground := Ground.phase }, { on := 44, ground := Ground.textOnly Departure.lateStores }, { on := 45, ground := Ground.textOnly Departure.lateStores }, { on := 46, ground := Ground.textOnly Departure.lateStores }, { on := 47, ground := Ground.textOnly Departure.lateStores }, { on := 48, ground := Ground.textOnly Departure.lateStoresUnsure }, { on := 49, ground := Ground.textOnly Departure.lateStoresUnsure }, { on := 50, ground := Ground.phase }, { on := 51, ground := Ground.phase }, { on := 52, ground := Ground.phase }, { on := 53, ground := Ground.phase }], guard := none }) (v := ?_) rfl (by kernel_rfl) (by kernel_rfl) (by kernel_rfl) (fun _ _ _ h => h) (by kernel_rfl) (by rfl) hC55 (Or.inl ⟨by rfl, ?_⟩) hH55 (fun hC56 hH56 => ?_)
                    rotate_left
                    · (intro w9 hSw; obtain ⟨hSw, hLw⟩ := hSw; clear hLw; (try dsimp only at hSw); (go_split_ands; go_simp); (try with_reducible rfl))
                    clear hC55 hH55
                    try simp only [Act.put, List.setIfInBounds_toArray, List.set_cons_zero, List.set_cons_succ]
                    refine wpAnyT_take (i := 56) (oi := { dst := some 313, op := Op.fieldAddr 29 (Operand.tmp 312) 1, type := 0, pos := "outright.go:324", after := #[{ on := 55, ground := Ground.data }, { on := 0, ground := Ground.phase }, { on := 1, ground := Ground.phase }, { on := 2, ground := Ground.textOnly Departure.lateStores }, { on := 3, ground := Ground.phase }, { on := 4, ground := Ground.phase }, { on := 5, ground := Ground.phase }, { on := 6, ground := Ground.phase }, { on := 7, ground := Ground.phase }, { on := 8, ground := Ground.phase }, { on := 9, ground := Ground.phase }, { on := 10, ground := Ground.phase }, { on := 11, ground := Ground.phase }, { on := 12, ground := Ground.phase }, { on := 13, ground := Ground.phase }, { on := 14, ground := Ground.phase }, { on := 15, ground := Ground.phase }, { on := 16, ground := Ground.phase }, { on := 17, ground := Ground.phase }, { on := 18, ground := Ground.phase }, { on := 19, ground := Ground.phase }, { on := 20, ground := Ground.phase }, { on := 21, ground := Ground.phase }, { on := 22, ground := Ground.phase }, { on := 23, ground := Ground.phase }, { on := 24, ground := Ground.phase }, { on := 25, ground := Ground.phase }, { on := 26, ground := Ground.phase }, { on := 27, ground := Ground.phase }, { on := 28, ground := Ground.phase }, { on := 29, ground := Ground.phase }, { on := 30, ground := Ground.phase }, { on := 31, ground := Ground.phase }, { on := 32, ground := Ground.phase }, { on := 33, ground := Ground.phase }, { on := 34, ground := Ground.textOnly Departure.lateStores }, { on := 35, ground := Ground.textOnly Departure.lateStoresUnsure }, { on := 36, ground := Ground.textOnly Departure.lateStoresUnsure }, { on := 37, ground := Ground.textOnly Departure.lateStoresUnsure }, { on := 38, ground := Ground.phase }, { on := 39, ground := Ground.textOnly Departure.lateStores }, { on := 40, ground := Ground.textOnly Departure.lateStoresUnsure }, { on := 41, ground := Ground.textOnly Departure.lateStoresUnsure }, { on := 42, ground := Ground.textOnly Departure.lateStoresUnsure }, { on := 43, ground := Ground.phase }, { on := 44, ground := Ground.textOnly Departure.lateStores }, { on := 45, ground := Ground.textOnly Departure.lateStores }, { on := 46, ground := Ground.textOnly Departure.lateStores }, { on := 47, ground := Ground.textOnly Departure.lateStores }, { on := 48, ground := Ground.textOnly Departure.lateStoresUnsure }, { on := 49, ground := Ground.textOnly Departure.lateStoresUnsure }, { on := 50, ground := Ground.phase }, { on := 51, ground := Ground.phase }, { on := 52, ground := Ground.phase }, { on := 53, ground := Ground.phase }], guard := none }) (v := ?_) rfl (by kernel_rfl) (by kernel_rfl) (by kernel_rfl) (fun _ _ _ h => h) (by kernel_rfl) (by rfl) hC56 (Or.inl ⟨by rfl, ?_⟩) hH56 (fun hC57 hH57 => ?_)
                    rotate_left
                    · (intro w9 hSw; obtain ⟨hSw, hLw⟩ := hSw; clear hLw; (try dsimp only at hSw); (go_split_ands; go_simp); (try with_reducible rfl))
                    clear hC56 hH56
                    try simp only [Act.put, List.setIfInBounds_toArray, List.set_cons_zero, List.set_cons_succ]
                    refine wpAnyT_one (i := 57) (o := { dst := none, op := Op.store 3 (Operand.tmp 313) (Operand.tmp 291), type := 0, pos := "outright.go:324", after := #[{ on := 56, ground := Ground.data }, { on := 33, ground := Ground.data }, { on := 53, ground := Ground.chain }, { on := 0, ground := Ground.phase }, { on := 1, ground := Ground.phase }, { on := 2, ground := Ground.textOnly Departure.lateStores }, { on := 3, ground := Ground.phase }, { on := 4, ground := Ground.phase }, { on := 5, ground := Ground.phase }, { on := 6, ground := Ground.phase }, { on := 7, ground := Ground.phase }, { on := 8, ground := Ground.phase }, { on := 9, ground := Ground.phase }, { on := 10, ground := Ground.phase }, { on := 11, ground := Ground.phase }, { on := 12, ground := Ground.phase }, { on := 13, ground := Ground.phase }, { on := 14, ground := Ground.phase }, { on := 15, ground := Ground.phase }, { on := 16, ground := Ground.phase }, { on := 17, ground := Ground.phase }, { on := 18, ground := Ground.phase }, { on := 19, ground := Ground.phase }, { on := 20, ground := Ground.phase }, { on := 21, ground := Ground.phase }, { on := 22, ground := Ground.phase }, { on := 23, ground := Ground.phase }, { on := 24, ground := Ground.phase }, { on := 25, ground := Ground.phase }, { on := 26, ground := Ground.phase }, { on := 27, ground := Ground.phase }, { on := 28, ground := Ground.phase }, { on := 29, ground := Ground.phase }, { on := 30, ground := Ground.phase }, { on := 31, ground := Ground.phase }, { on := 32, ground := Ground.phase }, { on := 33, ground := Ground.phase }, { on := 34, ground := Ground.textOnly Departure.lateStores }, { on := 35, ground := Ground.textOnly Departure.lateStoresUnsure }, { on := 36, ground := Ground.textOnly Departure.lateStoresUnsure }, { on := 37, ground := Ground.textOnly Departure.lateStoresUnsure }, { on := 38, ground := Ground.phase }, { on := 39, ground := Ground.textOnly Departure.lateStores }, { on := 40, ground := Ground.textOnly Departure.lateStoresUnsure }, { on := 41, ground := Ground.textOnly Departure.lateStoresUnsure }, { on := 42, ground := Ground.textOnly Departure.lateStoresUnsure }, { on := 43, ground := Ground.phase }, { on := 44, ground := Ground.textOnly Departure.lateStores }, { on := 45, ground := Ground.textOnly Departure.lateStores }, { on := 46, ground := Ground.textOnly Departure.lateStores }, { on := 47, ground := Ground.textOnly Departure.lateStores }, { on := 48, ground := Ground.textOnly Departure.lateStoresUnsure }, { on := 49, ground := Ground.textOnly Departure.lateStoresUnsure }, { on := 50, ground := Ground.phase }, { on := 51, ground := Ground.phase }, { on := 52, ground := Ground.phase }, { on := 53, ground := Ground.phase }], guard := none }) (by kernel_rfl) rfl (by kernel_rfl) hC57 (fun K hK => ?_)
                    clear hC57 hH57
                    have fz := F1.out.free (i * 8 + 5)
                    obtain ⟨y2, -, -, y5, y6, -⟩ := ticks_rowc R1.out hil
                    simp only [updT_eq] at y2 y5 y6
                    go_simp
                    (try rw [show i * 8 + 4 + 1 = i * 8 + 5 from rfl])
                    clear y2 y5 y6 fz
                    have R2 := Lib.hid (ticks_cell (j := 5) R1.out hil (by omega) (t' := ({ ({ (T i) with fl := x1 }) with th := x2 })) (v := .int .i64 x2) rfl (by intro l hl hne; rw [updT_eq]; rcases (by omega : l = 0 ∨ l = 1 ∨ l = 2 ∨ l = 3 ∨ l = 4 ∨ l = 5 ∨ l = 6 ∨ l = 7) with rfl | rfl | rfl | rfl | rfl | rfl | rfl | rfl <;> first | rfl | exact absurd rfl hne))
                    have Y2 := Lib.hid (Y1.out.below ((Below.refl _ _).setCell (p := ⟨g3, i * 8 + 5, none⟩) (by dsimp only; omega) (.int .i64 x2)))
                    have F2 := Lib.hid (F1.out.store (i * 8 + 5) (.int .i64 x2))
                    generalize World.setCell _ _ _ = w2c at *
                    rw [updT_updT] at R2
                    refine hK.out _ _ ?_ (fun hC58 hH58 => ?_)
                    · obtain ⟨y2, y3, y4, y5, y6, y7⟩ := ticks_rowc R2.out hil
                      simp only [updT_eq] at y2 y3 y4 y5 y6 y7
                      refine ⟨⟨y3, y4, y7⟩, fun e he h => ?_⟩
                      simp only [List.mem_cons, List.mem_nil_iff, or_false] at he
                      rcases he with rfl | rfl | rfl
                      · exact absurd h (by intro hx; exact Bool.false_ne_true (hx.symm.trans (by kernel_rfl)))
                      · exact absurd h (by intro hx; exact Bool.false_ne_true (hx.symm.trans (by kernel_rfl)))
                      · exact y6
                    clear hK K
                    try simp only [Act.put]
                    refine wpAnyT_take (i := 58) (oi := { dst := some 314, op := Op.nilCheck (Operand.tmp 260), type := 0, pos := "outright.go:324", after := #[{ on := 2, ground := Ground.data }, { on := 0, ground := Ground.phase }, { on := 1, ground := Ground.phase }, { on := 2, ground := Ground.phase }, { on := 3, ground := Ground.phase }, { on := 4, ground := Ground.phase }, { on := 5, ground := Ground.phase }, { on := 6, ground := Ground.phase }, { on := 7, ground := Ground.phase }, { on := 8, ground := Ground.phase }, { on := 9, ground := Ground.phase }, { on := 10, ground := Ground.phase }, { on := 11, ground := Ground.phase }, { on := 12, ground := Ground.phase }, { on := 13, ground := Ground.phase }, { on := 14, ground := Ground.phase }, { on := 15, ground := Ground.phase }, { on := 16, ground := Ground.phase }, { on := 17, ground := Ground.phase }, { on := 18, ground := Ground.phase }, { on := 19, ground := Ground.phase }, { on := 20, ground := Ground.phase }, { on := 21, ground := Ground.phase }, { on := 22, ground := Ground.phase }, { on := 23, ground := Ground.phase }, { on := 24, ground := Ground.phase }, { on := 25, ground := Ground.phase }, { on := 26, ground := Ground.phase }, { on := 27, ground := Ground.phase }, { on := 28, ground := Ground.phase }, { on := 29, ground := Ground.phase }, { on := 30, ground := Ground.phase }, { on := 31, ground := Ground.phase }, { on := 32, ground := Ground.phase }, { on := 33, ground := Ground.phase }, { on := 34, ground := Ground.phase }, { on := 35, ground := Ground.phase }, { on := 36, ground := Ground.phase }, { on := 37, ground := Ground.phase }, { on := 38, ground := Ground.phase }, { on := 39, ground := Ground.phase }, { on := 40, ground := Ground.phase }, { on := 41, ground := Ground.phase }, { on := 42, ground := Ground.phase }, { on := 43, ground := Ground.phase }, { on := 44, ground := Ground.phase }, { on := 45, ground := Ground.phase }, { on := 46, ground := Ground.phase }, { on := 47, ground := Ground.phase }, { on := 48, ground := Ground.phase }, { on := 49, ground := Ground.phase }, { on := 50, ground := Ground.phase }, { on := 51, ground := Ground.phase }, { on := 52, ground := Ground.phase }, { on := 53, ground := Ground.phase }, { on := 54, ground := Ground.phase }, { on := 55, ground := Ground.phase }, { on := 56, ground := Ground.phase }, { on := 57, ground := Ground.phase }], guard := none }) (v := ?_) rfl (by kernel_rfl) (by kernel_rfl) (by kernel_rfl) (fun _ _ _ h => h) (by kernel_rfl) (by rfl) hC58 (Or.inl ⟨by rfl, ?_⟩) hH58 (fun hC59 hH59 => ?_)
                    rotate_left
                    · (intro w9 hSw; obtain ⟨hSw, hLw⟩ := hSw; clear hLw; (try dsimp only at hSw); (go_split_ands; go_simp); (try with_reducible rfl))
                    clear hC58 hH58
                    try simp only [Act.put, List.setIfInBounds_toArray, List.set_cons_zero, List.set_cons_succ]
                    refine wpAnyT_take (i := 59) (oi := { dst := some 315, op := Op.fieldAddr 58 (Operand.tmp 314) 4, type := 0, pos := "outright.go:324", after := #[{ on := 58, ground := Ground.data }, { on := 0, ground := Ground.phase }, { on := 1, ground := Ground.phase }, { on := 2, ground := Ground.phase }, { on := 3, ground := Ground.phase }, { on := 4, ground := Ground.phase }, { on := 5, ground := Ground.phase }, { on := 6, ground := Ground.phase }, { on := 7, ground := Ground.phase }, { on := 8, ground := Ground.phase }, { on := 9, ground := Ground.phase }, { on := 10, ground := Ground.phase }, { on := 11, ground := Ground.phase }, { on := 12, ground := Ground.phase }, { on := 13, ground := Ground.phase }, { on := 14, ground := Ground.phase }, { on := 15, ground := Ground.phase }, { on := 16, ground := Ground.phase }, { on := 17, ground := Ground.phase }, { on := 18, ground := Ground.phase }, { on := 19, ground := Ground.phase }, { on := 20, ground := Ground.phase }, { on := 21, ground := Ground.phase }, { on := 22, ground := Ground.phase }, { on := 23, ground := Ground.phase }, { on := 24, ground := Ground.phase }, { on := 25, ground := Ground.phase }, { on := 26, ground := Ground.phase }, { on := 27, ground := Ground.phase }, { on := 28, ground := Ground.phase }, { on := 29, ground := Ground.phase }, { on := 30, ground := Ground.phase }, { on := 31, ground := Ground.phase }, { on := 32, ground := Ground.phase }, { on := 33, ground := Ground.phase }, { on := 34, ground := Ground.phase }, { on := 35, ground := Ground.phase }, { on := 36, ground := Ground.phase }, { on := 37, ground := Ground.phase }, { on := 38, ground := Ground.phase }, { on := 39, ground := Ground.phase }, { on := 40, ground := Ground.phase }, { on := 41, ground := Ground.phase }, { on := 42, ground := Ground.phase }, { on := 43, ground := Ground.phase }, { on := 44, ground := Ground.phase }, { on := 45, ground := Ground.phase }, { on := 46, ground := Ground.phase }, { on := 47, ground := Ground.phase }, { on := 48, ground := Ground.phase }, { on := 49, ground := Ground.phase }, { on := 50, ground := Ground.phase }, { on := 51, ground := Ground.phase }, { on := 52, ground := Ground.phase }, { on := 53, ground := Ground.phase }, { on := 54, ground := Ground.phase }, { on := 55, ground := Ground.phase }, { on := 56, ground := Ground.phase }, { on := 57, ground := Ground.phase }], guard := none }) (v := ?_) rfl (by kernel_rfl) (by kernel_rfl) (by kernel_rfl) (fun _ _ _ h => h) (by kernel_rfl) (by rfl) hC59 (Or.inl ⟨by rfl, ?_⟩) hH59 (fun hC60 hH60 => ?_)
                    rotate_left
                    · (intro w9 hSw; obtain ⟨hSw, hLw⟩ := hSw; clear hLw; (try dsimp only at hSw); (go_split_ands; go_simp); (try with_reducible rfl))
                    clear hC59 hH59
                    try simp only [Act.put, List.setIfInBounds_toArray, List.set_cons_zero, List.set_cons_succ]
                    refine wpAnyT_take (i := 60) (oi := { dst := some 316, op := Op.fieldAddr 29 (Operand.tmp 315) 0, type := 0, pos := "outright.go:324", after := #[{ on := 59, ground := Ground.data }, { on := 0, ground := Ground.phase }, { on := 1, ground := Ground.phase }, { on := 2, ground := Ground.phase }, { on := 3, ground := Ground.phase }, { on := 4, ground := Ground.phase }, { on := 5, ground := Ground.phase }, { on := 6, ground := Ground.phase }, { on := 7, ground := Ground.phase }, { on := 8, ground := Ground.phase }, { on := 9, ground := Ground.phase }, { on := 10, ground := Ground.phase }, { on := 11, ground := Ground.phase }, { on := 12, ground := Ground.phase }, { on := 13, ground := Ground.phase }, { on := 14, ground := Ground.phase }, { on := 15, ground := Ground.phase }, { on := 16, ground := Ground.phase }, { on := 17, ground := Ground.phase }, { on := 18, ground := Ground.phase }, { on := 19, ground := Ground.phase }, { on := 20, ground := Ground.phase }, { on := 21, ground := Ground.phase }, { on := 22, ground := Ground.phase }, { on := 23, ground := Ground.phase }, { on := 24, ground := Ground.phase }, { on := 25, ground := Ground.phase }, { on := 26, ground := Ground.phase }, { on := 27, ground := Ground.phase }, { on := 28, ground := Ground.phase }, { on := 29, ground := Ground.phase }, { on := 30, ground := Ground.phase }, { on := 31, ground := Ground.phase }, { on := 32, ground := Ground.phase }, { on := 33, ground := Ground.phase }, { on := 34, ground := Ground.phase }, { on := 35, ground := Ground.phase }, { on := 36, ground := Ground.phase }, { on := 37, ground := Ground.phase }, { on := 38, ground := Ground.phase }, { on := 39, ground := Ground.phase }, { on := 40, ground := Ground.phase }, { on := 41, ground := Ground.phase }, { on := 42, ground := Ground.phase }, { on := 43, ground := Ground.phase }, { on := 44, ground := Ground.phase }, { on := 45, ground := Ground.phase }, { on := 46, ground := Ground.phase }, { on := 47, ground := Ground.phase }, { on := 48, ground := Ground.phase }, { on := 49, ground := Ground.phase }, { on := 50, ground := Ground.phase }, { on := 51, ground := Ground.phase }, { on := 52, ground := Ground.phase }, { on := 53, ground := Ground.phase }, { on := 54, ground := Ground.phase }, { on := 55, ground := Ground.phase }, { on := 56, ground := Ground.phase }, { on := 57, ground := Ground.phase }], guard := none }) (v := ?_) rfl (by kernel_rfl) (by kernel_rfl) (by kernel_rfl) (fun _ _ _ h => h) (by kernel_rfl) (by rfl) hC60 (Or.inl ⟨by rfl, ?_⟩) hH60 (fun hC61 hH61 => ?_)
                    rotate_left
                    · (intro w9 hSw; obtain ⟨hSw, hLw⟩ := hSw; clear hLw; (try dsimp only at hSw); (go_split_ands; go_simp); (try with_reducible rfl))
                    clear hC60 hH60
                    try simp only [Act.put, List.setIfInBounds_toArray, List.set_cons_zero, List.set_cons_succ]
                    refine wpAnyT_one (i := 61) (o := { dst := none, op := Op.store 3 (Operand.tmp 316) (Operand.tmp 307), type := 0, pos := "outright.go:324", after := #[{ on := 60, ground := Ground.data }, { on := 49, ground := Ground.data }, { on := 57, ground := Ground.chain }, { on := 0, ground := Ground.phase }, { on := 1, ground := Ground.phase }, { on := 2, ground := Ground.phase }, { on := 3, ground := Ground.phase }, { on := 4, ground := Ground.phase }, { on := 5, ground := Ground.phase }, { on := 6, ground := Ground.phase }, { on := 7, ground := Ground.phase }, { on := 8, ground := Ground.phase }, { on := 9, ground := Ground.phase }, { on := 10, ground := Ground.phase }, { on := 11, ground := Ground.phase }, { on := 12, ground := Ground.phase }, { on := 13, ground := Ground.phase }, { on := 14, ground := Ground.phase }, { on := 15, ground := Ground.phase }, { on := 16, ground := Ground.phase }, { on := 17, ground := Ground.phase }, { on := 18, ground := Ground.phase }, { on := 19, ground := Ground.phase }, { on := 20, ground := Ground.phase }, { on := 21, ground := Ground.phase }, { on := 22, ground := Ground.phase }, { on := 23, ground := Ground.phase }, { on := 24, ground := Ground.phase }, { on := 25, ground := Ground.phase }, { on := 26, ground := Ground.phase }, { on := 27, ground := Ground.phase }, { on := 28, ground := Ground.phase }, { on := 29, ground := Ground.phase }, { on := 30, ground := Ground.phase }, { on := 31, ground := Ground.phase }, { on := 32, ground := Ground.phase }, { on := 33, ground := Ground.phase }, { on := 34, ground := Ground.phase }, { on := 35, ground := Ground.phase }, { on := 36, ground := Ground.phase }, { on := 37, ground := Ground.phase }, { on := 38, ground := Ground.phase }, { on := 39, ground := Ground.phase }, { on := 40, ground := Ground.phase }, { on := 41, ground := Ground.phase }, { on := 42, ground := Ground.phase }, { on := 43, ground := Ground.phase }, { on := 44, ground := Ground.phase }, { on := 45, ground := Ground.phase }, { on := 46, ground := Ground.phase }, { on := 47, ground := Ground.phase }, { on := 48, ground := Ground.phase }, { on := 49, ground := Ground.phase }, { on := 50, ground := Ground.phase }, { on := 51, ground := Ground.phase }, { on := 52, ground := Ground.phase }, { on := 53, ground := Ground.phase }, { on := 54, ground := Ground.phase }, { on := 55, ground := Ground.phase }, { on := 56, ground := Ground.phase }, { on := 57, ground := Ground.phase }], guard := none }) (by kernel_rfl) rfl (by kernel_rfl) hC61 (fun K hK => ?_)
                    clear hC61 hH61
                    have fz := F2.out.free (i * 8 + 6)
                    obtain ⟨y2, -, -, y5, y6, -⟩ := ticks_rowc R2.out hil
                    simp only [updT_eq] at y2 y5 y6
                    go_simp
                    clear y2 y5 y6 fz
                    have R3 := Lib.hid (ticks_cell (j := 6) R2.out hil (by omega) (t' := ({ ({ ({ (T i) with fl := x1 }) with th := x2 }) with dl := x3 })) (v := .int .i64 x3) rfl (by intro l hl hne; rw [updT_eq]; rcases (by omega : l = 0 ∨ l = 1 ∨ l = 2 ∨ l = 3 ∨ l = 4 ∨ l = 5 ∨ l = 6 ∨ l = 7) with rfl | rfl | rfl | rfl | rfl | rfl | rfl | rfl <;> first | rfl | exact absurd rfl hne))
                    have Y3 := Lib.hid (Y2.out.below ((Below.refl _ _).setCell (p := ⟨g3, i * 8 + 6, none⟩) (by dsimp only; omega) (.int .i64 x3)))
                    have F3 := Lib.hid (F2.out.store (i * 8 + 6) (.int .i64 x3))
                    generalize World.setCell _ _ _ = w3c at *
                    rw [updT_updT] at R3
                    refine hK.out _ _ ?_ (fun hC62 hH62 => ?_)
                    · obtain ⟨y2, y3, y4, y5, y6, y7⟩ := ticks_rowc R3.out hil
                      simp only [updT_eq] at y2 y3 y4 y5 y6 y7
                      refine ⟨⟨y3, y4, y7⟩, fun e he h => ?_⟩
                      simp only [List.mem_cons, List.mem_nil_iff, or_false] at he
                      rcases he with rfl | rfl | rfl
                      · exact absurd h (by intro hx; exact Bool.false_ne_true (hx.symm.trans (by kernel_rfl)))
                      · exact absurd h (by intro hx; exact Bool.false_ne_true (hx.symm.trans (by kernel_rfl)))
                      · exact absurd h (by intro hx; exact Bool.false_ne_true (hx.symm.trans (by kernel_rfl)))
                    clear hK K
                    try simp only [Act.put]
                    refine wpAnyT_done (by kernel_rfl) ?_ _
                    clear hC62 hH62
                    refine HKK.out _ _ ?_
                    (repeat apply Exists.intro)
                    refine ⟨?_, rfl⟩
                    exact ⟨_, _, _, _, R3.out, THIN.out, Y3.out⟩
                  · obtain rfl : tn = 0 := by omega
                    go_wp2_with fail
                    go_meet
                    case rel => exact ⟨_, _, _, wc.heap.size, X8.out.m.wb.tt, ThinW.same HV.out, X8.out.m, X8.out.x1, X8.out.x2, X8.out.tk, lt_of_heap X8.out.x1, lt_of_heap X8.out.x2, X8.out.tk.old (by omega), lt_of_heap X8.out.m.tb, X8.out.m.wb.ss.old, X8.out.m.wb.tt.old⟩
              case rest =>
                obtain ⟨o2, c2, T', B, ht2, hth, hy⟩ := hcut
                clear X8
                have Z9 := Lib.hid (ZB.mk hy.m hy.x1 hy.x2 hy.tk ht2)
                have TH := Lib.hid hth
                clear ht2 hth hy
                have hm3 := HM3.out
                have HNO := Lib.hid (show NoneOf S tt by rw [HTT.out]; exact ⟨Int.le_refl _, Int.le_refl _, by dsimp only; omega⟩)
                have HVX := Lib.hid (show Valid n sn (tn + 1) S (updT T tn tt) from valid_add HV.out htl (by rw [HTT.out]; dsimp only; omega) (by rw [HTT.out]; rfl) (by rw [HTT.out, spanB_iff]; simp only [Int.toNat_natCast]; omega) (by rw [HTT.out, spanB_iff]; simp only [Int.toNat_natCast]; split at hm3 <;> omega))
                clear hm3
                obtain ⟨x0, x1, x2⟩ := wgc Z9.out.m.wb.box
                go_wp2_with fail
                clear x0 x1 x2
                go_loopw [319] (fun v wi => ∃ c : Nat, c ≤ n ∧ v = .int .i64 c ∧ ZB w n sa ta sn sc tn tc S T t tt b1 b2 g2 cap2 o2 c2 T' wi) (fun v _ => n - (intOf v).toNat)
                case atStart => exact ⟨0, Nat.zero_le _, rfl, Z9.out⟩
                case round =>
                  as_aux_lemma =>
                    clear Z9
                    obtain ⟨c, hc, rfl, hz⟩ := hrel
                    have Z10 := Lib.hid hz
                    clear hz
                    obtain ⟨x0, x1, x2⟩ := wgc Z10.out.m.wb.box
                    by_cases hlt : c < n
                    · have CD := Lib.hid (fun W (h1 : SeamsAt W sa sn S) (h2 : TicketsAt W ta tn T) => (dues_any n sa ta sn sc tn tc S T c W h1 h2).mono fun e w' h => h.yes HV.out (by rw [inB_iff.2 ⟨by omega, by omega⟩]))
                      have CE := Lib.hid (fun W (h1 : SeamsAt W sa sn S) (h2 : TicketsAt W (some ⟨g2, 0, none⟩) (tn + 1) (updT T tn tt)) => (dues_any n sa (some ⟨g2, 0, none⟩) sn sc (tn + 1) cap2 S (updT T tn tt) c W h1 h2).mono fun e w' h => h.yes HVX.out (by rw [inB_iff.2 ⟨by omega, by omega⟩]))
                      have CF := Lib.hid (fun W (h1 : SeamsAt W sa sn S) (h2 : TicketsAt W o2 tn T') => (dues_any n sa o2 sn sc tn c2 S T' c W h1 h2).mono fun e w' h => h.yes TH.out.valid (by rw [inB_iff.2 ⟨by omega, by omega⟩]))
                      rw [none_coins HNO.out (least_add c T tn tt) (least_fr c T tn tt), none_coins HNO.out (most_add c T tn tt) (most_fr c T tn tt)] at CE
                      have k1 := TH.out.lo c
                      have k2 := TH.out.hi c
                      obtain ⟨a0, ea0⟩ : ∃ x, x = coinsOf S T (leastK c T) sn tn c := ⟨_, rfl⟩
                      obtain ⟨a1, ea1⟩ : ∃ x, x = coinsOf S T (mostK c T) sn tn c := ⟨_, rfl⟩
                      obtain ⟨d0, ed0⟩ : ∃ x, x = coinsOf S T' (leastK c T') sn tn c := ⟨_, rfl⟩
                      obtain ⟨d1, ed1⟩ : ∃ x, x = coinsOf S T' (mostK c T') sn tn c := ⟨_, rfl⟩
                      rw [← ea0, ← ea1] at CD CE
                      rw [← ed0, ← ed1] at CF
                      rw [← ea0, ← ed0] at k1
                      rw [← ea1, ← ed1] at k2
                      have CI := Lib.hid (fun W => in2_yes a0 a1 d0 d1 k1 k2 W)
                      clear ea0 ea1 ed0 ed1 k1 k2
                      go_wp2_with (go_at_call 21; refine (CD.out _ Z10.out.m.wb.ss Z10.out.m.wb.tt).mono ?_)
                      intro e w6
                      first | rintro rfl hbw6 | rintro ⟨rfl, hbw6⟩
                      have hba := ((Below.refl w6.heap.size w6).alloc (Nat.le_refl _) (.cells #[.int .i64 a0, .int .i64 a1] 29))
                      have Z11 := Lib.hid ((Z10.out.grow hbw6).grow hba)
                      have D6 := Lib.hid (show BoxAt (w6.alloc (.cells #[.int .i64 a0, .int .i64 a1] 29)) w6.heap.size #[.int .i64 a0, .int .i64 a1] 29 from heap_alloc_new _ _)
                      clear hbw6 hba Z10 x0 x1 x2
                      obtain ⟨x0, x1, x2⟩ := wgc Z11.out.x1
                      go_wp2_with (go_at_call 21; refine (CE.out _ Z11.out.m.wb.ss Z11.out.tk).mono ?_)
                      generalize hW : World.alloc _ _ = W6 at *
                      intro e w7
                      first | rintro rfl hbw7 | rintro ⟨rfl, hbw7⟩
                      have hba := ((Below.refl w7.heap.size w7).alloc (Nat.le_refl _) (.cells #[.int .i64 a0, .int .i64 a1] 29))
                      have Z12 := Lib.hid ((Z11.out.grow hbw7).grow hba)
                      have E7 := Lib.hid ((D6.out.grow hbw7).grow hba)
                      have D7 := Lib.hid (show BoxAt (w7.alloc (.cells #[.int .i64 a0, .int .i64 a1] 29)) w7.heap.size #[.int .i64 a0, .int .i64 a1] 29 from heap_alloc_new _ _)
                      clear hbw7 hba Z11 D6 hW x0 x1 x2
                      obtain ⟨x0, x1, x2⟩ := wgc Z12.out.x2
                      go_wp2_with (go_at_call 21; refine (CF.out _ Z12.out.m.wb.ss Z12.out.t2).mono ?_)
                      generalize hW : World.alloc _ _ = W7 at *
                      intro e w8
                      first | rintro rfl hbw8 | rintro ⟨rfl, hbw8⟩
                      have hba := ((Below.refl w8.heap.size w8).alloc (Nat.le_refl _) (.cells #[.int .i64 d0, .int .i64 d1] 29))
                      have Z13 := Lib.hid ((Z12.out.grow hbw8).grow hba)
                      have E8 := Lib.hid ((E7.out.grow hbw8).grow hba)
                      have F8 := Lib.hid ((D7.out.grow hbw8).grow hba)
                      have D8 := Lib.hid (show BoxAt (w8.alloc (.cells #[.int .i64 d0, .int .i64 d1] 29)) w8.heap.size #[.int .i64 d0, .int .i64 d1] 29 from heap_alloc_new _ _)
                      clear hbw8 hba Z12 E7 D7 hW x0 x1 x2
                      have y0 := cellAt E8.out 0
                      have y1 := cellAt E8.out 1
                      have y2 := cellAt F8.out 0
                      have y3 := cellAt F8.out 1
                      have y4 := cellAt D8.out 0
                      have y5 := cellAt D8.out 1
                      simp only [List.getElem?_toArray, List.getElem?_cons_zero, List.getElem?_cons_succ] at y0 y1 y2 y3 y4 y5
                      go_wp2_with (go_at_call 43; refine (CI.out _).mono ?_; rintro e w9 ⟨rfl, hb9⟩)
                      exact ⟨⟨c + 1, hlt, by go_num, Z13.out.grow hb9⟩, by simp [intOf]; omega⟩
                    · obtain rfl : c = n := by omega
                      have hix := fun w => run_indexAt_row (w := w) (cap := sc) Try.underlying22 size52 (Z10.out.m.wb.ss.plain (by omega)) hrl
                      have g0 := (Z10.out.m.wb.ss.at hrl).1
                      go_wp2_with fail
                      clear hix g0 x0 x1 x2
                      go_loopw [369] (fun v wi => ∃ f : Nat, f ≤ (S r).fat.toNat ∧ v = .int .i64 f ∧ ZB w c sa ta sn sc tn tc S T t tt b1 b2 g2 cap2 o2 c2 T' wi) (fun v _ => (S r).fat.toNat - (intOf v).toNat)
                      case atStart => exact ⟨0, Nat.zero_le _, rfl, Z10.out⟩
                      case round =>
                        as_aux_lemma =>
                          clear Z10
                          obtain ⟨f, hf, rfl, hz⟩ := hrel
                          have Z11 := Lib.hid hz
                          clear hz
                          obtain ⟨x0, x1, x2⟩ := wgc Z11.out.m.wb.box
                          by_cases hlt3 : f < (S r).fat.toNat
                          · have hlt4 : (f : Int) < (S r).fat := by omega
                            have CA := Lib.hid (fun W (h1 : SeamsAt W sa sn S) (h2 : TicketsAt W ta tn T) => (whoses_any c sa ta sn sc tn tc S T r f W h1 h2).mono fun e w' h => whose_yes' h HV.out (by rw [inB_iff.2 ⟨by omega, by omega⟩, Int.toNat_natCast, inB_iff.2 ⟨by omega, by omega⟩]; rfl))
                            have CB := Lib.hid (fun W (h1 : SeamsAt W sa sn S) (h2 : TicketsAt W (some ⟨g2, 0, none⟩) (tn + 1) (updT T tn tt)) => (whoses_any c sa (some ⟨g2, 0, none⟩) sn sc (tn + 1) cap2 S (updT T tn tt) r f W h1 h2).mono fun e w' h => whose_yes' h HVX.out (by rw [inB_iff.2 ⟨by omega, by omega⟩, Int.toNat_natCast, inB_iff.2 ⟨by omega, by omega⟩]; rfl))
                            have CC := Lib.hid (fun W (h1 : SeamsAt W sa sn S) (h2 : TicketsAt W o2 tn T') => (whoses_any c sa o2 sn sc tn c2 S T' r f W h1 h2).mono fun e w' h => whose_yes' h TH.out.valid (by rw [inB_iff.2 ⟨by omega, by omega⟩, Int.toNat_natCast, inB_iff.2 ⟨by omega, by omega⟩]; rfl))
                            simp only [Int.toNat_natCast] at CA CB CC
                            have hdd : decide (ownerOf (updT T tn tt) (mostK (-1) (updT T tn tt)) (tn + 1) r f = -1) = decide (ownerOf T (mostK (-1) T) tn r f = -1) := decide_eq_decide.2 (by rw [none_owner HNO.out (most_add (-1) T tn tt) (most_fr (-1) T tn tt) hlt4])
                            rw [none_set HNO.out hlt4, hdd] at CB
                            clear hdd
                            have hbs := andNot_sub (setN_lt16' T' tn r f c (by omega)) (setN_lt16' T tn r f c (by omega)) (fun k => TH.out.set r f c k)
                            have hown := TH.out.own (-1) r f
                            obtain ⟨a, ea⟩ : ∃ x, x = setN T tn r f c := ⟨_, rfl⟩
                            obtain ⟨d, ed⟩ : ∃ x, x = setN T' tn r f c := ⟨_, rfl⟩
                            obtain ⟨p, ep⟩ : ∃ x, x = decide (ownerOf T (mostK (-1) T) tn r f = -1) := ⟨_, rfl⟩
                            obtain ⟨q, eq⟩ : ∃ x, x = decide (ownerOf T' (mostK (-1) T') tn r f = -1) := ⟨_, rfl⟩
                            have hqp : q = true → p = true := by rw [ep, eq]; intro h; exact decide_eq_true (hown (of_decide_eq_true h))
                            rw [← ea, ← ep] at CA CB
                            rw [← ed, ← eq] at CC
                            rw [← ea, ← ed] at hbs
                            clear hown ea ed ep eq
                            have HQP := Lib.hid hqp
                            have HBS := Lib.hid hbs
                            clear hqp hbs
                            go_wp2_with (go_at_call 19; refine (CA.out _ Z11.out.m.wb.ss Z11.out.m.wb.tt).mono ?_)
                            rintro e w9 ⟨rfl, hb9⟩
                            have Z12 := Lib.hid (Z11.out.grow hb9)
                            clear Z11 hb9 x0 x1 x2 CA
                            obtain ⟨x0, x1, x2⟩ := wgc Z12.out.x1
                            go_wp2_with (go_at_call 19; refine (CB.out _ Z12.out.m.wb.ss Z12.out.tk).mono ?_)
                            rintro e w10 ⟨rfl, hb10⟩
                            have Z13 := Lib.hid (Z12.out.grow hb10)
                            clear Z12 hb10 x0 x1 x2 CB
                            obtain ⟨x0, x1, x2⟩ := wgc Z13.out.x2
                            go_wp2_with (go_at_call 19; refine (CC.out _ Z13.out.m.wb.ss Z13.out.t2).mono ?_)
                            rintro e w11 ⟨rfl, hb11⟩
                            have Z14 := Lib.hid (Z13.out.grow hb11)
                            clear Z13 hb11 x0 x1 x2 CC
                            have hbs := HBS.out
                            cases p <;> cases q
                            case false.true => exact absurd (HQP.out rfl) (by simp)
                            all_goals
                              go_wp2_with fail
                              exact ⟨⟨f + 1, by omega, by go_num, Z14.out⟩, by simp [intOf]; omega⟩
                          · have hlt5 : ¬ (f : Int) < (S r).fat := by omega
                            go_wp2_with (go_at_call 14; refine (awake_any _).mono ?_; rintro e w12 ⟨rfl, hb12⟩; have HB := Lib.hid (Z11.out.m.wb.bel.next hb12))
                            exact bodyPost_ret (v := .bool true) (by simp [results, Try.results11, go_sem]) rfl ⟨rfl, HB.out⟩
        case first =>
          as_aux_lemma =>
            --FIRST{
            cases b with
            | false =>
              go_wp2_with fail
              go_meet
              case rel => exact M4.out
            | true =>
              have HVX := Lib.hid (HX.out.1 rfl)
              have htk := HVX.out.tk tn (by omega)
              rw [updT_eq] at htk
              obtain ⟨tk0, tk1, tk2, tk3⟩ := htk
              clear HX
              obtain ⟨x0, x1, x2⟩ := wgc M4.out.wb.box
              go_wp2_with fail
              clear x0 x1 x2
              go_loopw [72] (fun v wi => ∃ c : Nat, c ≤ n ∧ v = .int .i64 c ∧ MB w n sa ta sn sc tn tc S T t wi ∧ TicketsAt wi (some ⟨g, 0, none⟩) (tn + 1) (updT T tn t) ∧ BoxAt wi w2.heap.size #[.int .i64 n, .slice sa sn sc, .slice (some ⟨g, 0, none⟩) (tn + 1) cap] 25) (fun v _ => n - (intOf v).toNat)
              case atStart => exact ⟨0, Nat.zero_le _, rfl, M4.out, X4.out, B4.out⟩
              case round =>
                as_aux_lemma =>
                  clear M4 X4 B4
                  obtain ⟨c, hc, rfl, hm, hx, hbx⟩ := hrel
                  have M5 := Lib.hid hm
                  have X5 := Lib.hid hx
                  have B5 := Lib.hid hbx
                  clear hm hx hbx
                  obtain ⟨x0, x1, x2⟩ := wgc M5.out.wb.box
                  by_cases hlt : c < n
                  · have CD := Lib.hid ((dues_any n sa ta sn sc tn tc S T c _ M5.out.wb.ss M5.out.wb.tt).mono fun e w' h => h.yes HV.out (by rw [inB_iff.2 ⟨by omega, by omega⟩]))
                    have CE := Lib.hid (fun W (h1 : SeamsAt W sa sn S) (h2 : TicketsAt W (some ⟨g, 0, none⟩) (tn + 1) (updT T tn t)) => (dues_any n sa (some ⟨g, 0, none⟩) sn sc (tn + 1) cap S (updT T tn t) c W h1 h2).mono fun e w' h => h.yes HVX.out (by rw [inB_iff.2 ⟨by omega, by omega⟩]))
                    have hmd := more_due HV.out t c
                    obtain ⟨a0, ea0⟩ : ∃ x, x = coinsOf S T (leastK c T) sn tn c := ⟨_, rfl⟩
                    obtain ⟨a1, ea1⟩ : ∃ x, x = coinsOf S T (mostK c T) sn tn c := ⟨_, rfl⟩
                    obtain ⟨b0, eb0⟩ : ∃ x, x = coinsOf S (updT T tn t) (leastK c (updT T tn t)) sn (tn + 1) c := ⟨_, rfl⟩
                    obtain ⟨b1, eb1⟩ : ∃ x, x = coinsOf S (updT T tn t) (mostK c (updT T tn t)) sn (tn + 1) c := ⟨_, rfl⟩
                    rw [← ea0, ← ea1] at CD
                    rw [← eb0, ← eb1] at CE
                    rw [← ea0, ← ea1, ← eb0, ← eb1] at hmd
                    have HMD := Lib.hid hmd
                    clear ea0 ea1 eb0 eb1 hmd
                    go_wp2_with (go_at_call 21; refine CD.out.mono ?_)
                    rintro e w6 ⟨rfl, hb6⟩
                    have hba := ((Below.refl w6.heap.size w6).alloc (Nat.le_refl _) (.cells #[.int .i64 a0, .int .i64 a1] 29))
                    have M6 := Lib.hid ((M5.out.grow hb6).grow hba)
                    have X6 := Lib.hid (TicketsAt.grow (TicketsAt.grow X5.out hb6) hba)
                    have B6 := Lib.hid ((B5.out.grow hb6).grow hba)
                    have D6 := Lib.hid (show BoxAt (w6.alloc (.cells #[.int .i64 a0, .int .i64 a1] 29)) w6.heap.size #[.int .i64 a0, .int .i64 a1] 29 from heap_alloc_new _ _)
                    clear hb6 hba M5 X5 B5 x0 x1 x2 CD
                    obtain ⟨x0, x1, x2⟩ := wgc B6.out
                    go_wp2_with (go_at_call 21; refine (CE.out _ M6.out.wb.ss X6.out).mono ?_)
                    generalize hW : World.alloc _ _ = W6 at *
                    rintro e w7 ⟨rfl, hb7⟩
                    have hba := ((Below.refl w7.heap.size w7).alloc (Nat.le_refl _) (.cells #[.int .i64 b0, .int .i64 b1] 29))
                    have M7 := Lib.hid ((M6.out.grow hb7).grow hba)
                    have X7 := Lib.hid (TicketsAt.grow (TicketsAt.grow X6.out hb7) hba)
                    have B7 := Lib.hid ((B6.out.grow hb7).grow hba)
                    have D7 := Lib.hid ((D6.out.grow hb7).grow hba)
                    clear hb7 hba M6 X6 B6 D6 x0 x1 x2 CE hW
                    have y0 := cellAt D7.out 0
                    have y1 := cellAt D7.out 1
                    have y2 := (tkc M7.out.tb).1
                    simp only [List.getElem?_toArray, List.getElem?_cons_zero, List.getElem?_cons_succ] at y0 y1
                    by_cases hcc : (c : Int) = t.crew
                    · have k1 : ((c : Int) == t.crew) = true := by simp [hcc]
                      have k2 : ((c : Int) != t.crew) = false := by simp [hcc]
                      obtain ⟨k3, k4⟩ := HMD.out.1 hcc
                      have k5 : ¬ b0 < a0 := by omega
                      have k6 : ¬ b1 < a1 := by omega
                      clear hcc
                      go_wp2_with fail
                      exact ⟨⟨c + 1, hlt, by go_num, M7.out, X7.out, B7.out⟩, by simp [intOf]; omega⟩
                    · have k1 : ((c : Int) == t.crew) = false := by simp [hcc]
                      have k2 : ((c : Int) != t.crew) = true := by simp [hcc]
                      obtain ⟨k3, k4⟩ := HMD.out.2 hcc
                      have k5 : ¬ a0 < b0 := by omega
                      have k6 : ¬ a1 < b1 := by omega
                      clear hcc
                      go_wp2_with fail
                      exact ⟨⟨c + 1, hlt, by go_num, M7.out, X7.out, B7.out⟩, by simp [intOf]; omega⟩
                  · obtain rfl : c = n := by omega
                    have CL := Lib.hid (fun W (h1 : SeamsAt W sa sn S) (h2 : TicketsAt W ta tn T) => (left_any c sa ta sn sc tn tc S T t.seam W h1 h2).mono fun e w' h => h.yes HV.out (by rw [inB_iff.2 ⟨by omega, by omega⟩]))
                    have CM := Lib.hid (fun W (h1 : SeamsAt W sa sn S) (h2 : TicketsAt W (some ⟨g, 0, none⟩) (tn + 1) (updT T tn t)) => (left_any c sa (some ⟨g, 0, none⟩) sn sc (tn + 1) cap S (updT T tn t) t.seam W h1 h2).mono fun e w' h => h.yes HVX.out (by rw [inB_iff.2 ⟨by omega, by omega⟩]))
                    have CP := Lib.hid (fun W (h1 : SeamsAt W sa sn S) (h2 : TicketsAt W ta tn T) => (paid_any c sa ta sn sc tn tc S T W h1 h2).mono fun e w' h => h.yes HV.out rfl)
                    have CQ := Lib.hid (fun W (h1 : SeamsAt W sa sn S) (h2 : TicketsAt W (some ⟨g, 0, none⟩) (tn + 1) (updT T tn t)) => (paid_any c sa (some ⟨g, 0, none⟩) sn sc (tn + 1) cap S (updT T tn t) W h1 h2).mono fun e w' h => h.yes HVX.out rfl)
                    have h1 := many_other (S := S) (T := T) (t := t) (least_add (-1) T tn t) t.seam (show (-1 : Int) ≠ t.crew by omega)
                    have h2 := many_other (S := S) (T := T) (t := t) (most_add (-1) T tn t) t.seam (show (-1 : Int) ≠ t.crew by omega)
                    have h3 := (more_due HV.out t (-1)).2 (by omega)
                    obtain ⟨l0, e0⟩ : ∃ x, x = manyOf S T (leastK (-1) T) tn t.seam (-1) := ⟨_, rfl⟩
                    obtain ⟨l1, e1⟩ : ∃ x, x = manyOf S T (mostK (-1) T) tn t.seam (-1) := ⟨_, rfl⟩
                    obtain ⟨m0, e2⟩ : ∃ x, x = manyOf S (updT T tn t) (leastK (-1) (updT T tn t)) (tn + 1) t.seam (-1) := ⟨_, rfl⟩
                    obtain ⟨m1, e3⟩ : ∃ x, x = manyOf S (updT T tn t) (mostK (-1) (updT T tn t)) (tn + 1) t.seam (-1) := ⟨_, rfl⟩
                    obtain ⟨p0, e4⟩ : ∃ x, x = allOf S sn - coinsOf S T (mostK (-1) T) sn tn (-1) := ⟨_, rfl⟩
                    obtain ⟨p1, e5⟩ : ∃ x, x = allOf S sn - coinsOf S T (leastK (-1) T) sn tn (-1) := ⟨_, rfl⟩
                    obtain ⟨r0, e6⟩ : ∃ x, x = allOf S sn - coinsOf S (updT T tn t) (mostK (-1) (updT T tn t)) sn (tn + 1) (-1) := ⟨_, rfl⟩
                    obtain ⟨r1, e7⟩ : ∃ x, x = allOf S sn - coinsOf S (updT T tn t) (leastK (-1) (updT T tn t)) sn (tn + 1) (-1) := ⟨_, rfl⟩
                    rw [← e0, ← e1] at CL
                    rw [← e2, ← e3] at CM
                    rw [← e4, ← e5] at CP
                    rw [← e6, ← e7] at CQ
                    rw [← e0, ← e2] at h1
                    rw [← e1, ← e3] at h2
                    have k1 : ¬ l0 < m0 := by omega
                    have k2 : ¬ l1 < m1 := by omega
                    have k3 : ¬ r0 < p0 := by omega
                    have k4 : ¬ r1 < p1 := by omega
                    clear e0 e1 e2 e3 e4 e5 e6 e7 h1 h2 h3
                    obtain ⟨-, s1, -⟩ := tkc M5.out.tb
                    go_wp2_with (go_at_call 17; refine (CL.out _ M5.out.wb.ss M5.out.wb.tt).mono ?_)
                    intro e w6
                    first | rintro rfl hbw6 | rintro ⟨rfl, hbw6⟩
                    have hba := ((Below.refl w6.heap.size w6).alloc (Nat.le_refl _) (.cells #[.int .i64 l0, .int .i64 l1] 29))
                    have M6 := Lib.hid ((M5.out.grow hbw6).grow hba)
                    have X6 := Lib.hid (TicketsAt.grow (TicketsAt.grow X5.out hbw6) hba)
                    have B6 := Lib.hid ((B5.out.grow hbw6).grow hba)
                    have D6 := Lib.hid (show BoxAt (w6.alloc (.cells #[.int .i64 l0, .int .i64 l1] 29)) w6.heap.size #[.int .i64 l0, .int .i64 l1] 29 from heap_alloc_new _ _)
                    clear hbw6 hba M5 X5 B5 x0 x1 x2 s1
                    obtain ⟨x0, x1, x2⟩ := wgc B6.out
                    obtain ⟨-, s1, -⟩ := tkc M6.out.tb
                    go_wp2_with (go_at_call 17; refine (CM.out _ M6.out.wb.ss X6.out).mono ?_)
                    generalize hW : World.alloc _ _ = W6 at *
                    intro e w7
                    first | rintro rfl hbw7 | rintro ⟨rfl, hbw7⟩
                    have hba := ((Below.refl w7.heap.size w7).alloc (Nat.le_refl _) (.cells #[.int .i64 m0, .int .i64 m1] 29))
                    have M7 := Lib.hid ((M6.out.grow hbw7).grow hba)
                    have X7 := Lib.hid (TicketsAt.grow (TicketsAt.grow X6.out hbw7) hba)
                    have B7 := Lib.hid ((B6.out.grow hbw7).grow hba)
                    have E7 := Lib.hid ((D6.out.grow hbw7).grow hba)
                    have D7 := Lib.hid (show BoxAt (w7.alloc (.cells #[.int .i64 m0, .int .i64 m1] 29)) w7.heap.size #[.int .i64 m0, .int .i64 m1] 29 from heap_alloc_new _ _)
                    clear hbw7 hba M6 X6 B6 D6 hW x0 x1 x2 s1
                    obtain ⟨x0, x1, x2⟩ := wgc M7.out.wb.box
                    go_wp2_with (go_at_call 23; refine (CP.out _ M7.out.wb.ss M7.out.wb.tt).mono ?_)
                    generalize hW : World.alloc _ _ = W7 at *
                    intro e w8
                    first | rintro rfl hbw8 | rintro ⟨rfl, hbw8⟩
                    have hba := ((Below.refl w8.heap.size w8).alloc (Nat.le_refl _) (.cells #[.int .i64 p0, .int .i64 p1] 29))
                    have M8 := Lib.hid ((M7.out.grow hbw8).grow hba)
                    have X8 := Lib.hid (TicketsAt.grow (TicketsAt.grow X7.out hbw8) hba)
                    have B8 := Lib.hid ((B7.out.grow hbw8).grow hba)
                    have E8 := Lib.hid ((E7.out.grow hbw8).grow hba)
                    have F8 := Lib.hid ((D7.out.grow hbw8).grow hba)
                    have D8 := Lib.hid (show BoxAt (w8.alloc (.cells #[.int .i64 p0, .int .i64 p1] 29)) w8.heap.size #[.int .i64 p0, .int .i64 p1] 29 from heap_alloc_new _ _)
                    clear hbw8 hba M7 X7 B7 E7 D7 hW x0 x1 x2
                    obtain ⟨x0, x1, x2⟩ := wgc B8.out
                    go_wp2_with (go_at_call 23; refine (CQ.out _ M8.out.wb.ss X8.out).mono ?_)
                    generalize hW : World.alloc _ _ = W8 at *
                    intro e w9
                    first | rintro rfl hbw9 | rintro ⟨rfl, hbw9⟩
                    have hba := ((Below.refl w9.heap.size w9).alloc (Nat.le_refl _) (.cells #[.int .i64 r0, .int .i64 r1] 29))
                    have M9 := Lib.hid ((M8.out.grow hbw9).grow hba)
                    have E9 := Lib.hid ((E8.out.grow hbw9).grow hba)
                    have F9 := Lib.hid ((F8.out.grow hbw9).grow hba)
                    have G9 := Lib.hid ((D8.out.grow hbw9).grow hba)
                    have D9 := Lib.hid (show BoxAt (w9.alloc (.cells #[.int .i64 r0, .int .i64 r1] 29)) w9.heap.size #[.int .i64 r0, .int .i64 r1] 29 from heap_alloc_new _ _)
                    clear hbw9 hba M8 E8 F8 D8 hW x0 x1 x2 B8 X8
                    have y0 := cellAt E9.out 0
                    have y1 := cellAt E9.out 1
                    have y2 := cellAt F9.out 0
                    have y3 := cellAt F9.out 1
                    have y4 := cellAt G9.out 0
                    have y5 := cellAt G9.out 1
                    have y6 := cellAt D9.out 0
                    have y7 := cellAt D9.out 1
                    simp only [List.getElem?_toArray, List.getElem?_cons_zero, List.getElem?_cons_succ] at y0 y1 y2 y3 y4 y5 y6 y7
                    go_wp2_with fail
                    generalize hW : World.alloc _ _ = W9 at *
                    go_meet
                    case rel => exact M9.out
            --}FIRST
end Go.Proofs.Ytbpeamppkdmdcaa
