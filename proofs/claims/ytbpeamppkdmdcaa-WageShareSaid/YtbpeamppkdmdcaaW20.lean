/-
  Walks: the exported functions: what is due by tickets that are known.
-/
import Derived.Test.YtbpeamppkdmdcaaW19
namespace Go.Proofs.Ytbpeamppkdmdcaa
open Go.RowKit

def exVals (F : Nat → Int) (k n : Nat) : List Value := (List.range n).map fun i => if i < k then .int .i64 (F i) else .int .i64 0
theorem exVals_zero (F : Nat → Int) (n : Nat) : exVals F 0 n = List.replicate n (.int .i64 0) := by
  apply List.ext_getElem (by simp [exVals])
  intro i h1 h2
  simp [exVals]
theorem exVals_full (F : Nat → Int) (n : Nat) : exVals F n n = rowVals F n := by
  apply List.ext_getElem (by simp [exVals, rowVals])
  intro i h1 h2
  have : i < n := by simpa [exVals] using h1
  simp [exVals, rowVals, this]
theorem exVals_set (F : Nat → Int) (k n : Nat) : (exVals F k n).set k (.int .i64 (F k)) = exVals F (k + 1) n := by
  apply List.ext_getElem (by simp [exVals])
  intro i h1 h2
  simp only [List.getElem_set, exVals, List.getElem_map, List.getElem_range]
  by_cases e : k = i
  · subst e; simp
  · have : (i < k + 1) = (i < k) := by simp; omega
    simp [e, this]
theorem BoxAt.store {w : World} {b : Nat} {xs : Array Value} {t : TypeId} (h : BoxAt w b xs t) (i : Nat) (v : Value) : BoxAt (w.setCell ⟨b, i, none⟩ v) b (xs.setIfInBounds i v) t := by
  unfold BoxAt at h ⊢
  simp [World.setCell, Array.getElem?_modify, h]

theorem own_zero {w : World} {base g n : Nat} {F : Nat → Int} (h : w.ownsRow base 3 1 (.slice (some ⟨g, 0, none⟩) n n) n (madeCells (Value.cells (.int .i64 0)) (n * 1)).toList) : BoxAt w g (exVals F 0 n).toArray 3 := by
  obtain ⟨hl, ⟨h1, _⟩ | ⟨g', cap, cur, hv, hb, hg, hle, hm, hs, ht⟩⟩ := h
  · cases h1
  · injection hv with e1 e2 e3
    injection e1 with e1
    injection e1 with e1 _ _
    subst e1 e3
    have : cur.toList = List.replicate n (.int .i64 0) := by
      rw [List.take_of_length_le (by simp; omega)] at ht
      rw [ht]
      apply List.ext_getElem (by simp [madeCells])
      intro i h1 h2
      simp [madeCells, Value.cells, Nat.mod_one]
    rw [exVals_zero, ← this]
    exact hg

def ExactPost (w : World) (V : Prop) (b : Bool) (F : Nat → Int) (n : Nat) (e : Ending) (w' : World) : Prop :=
  Below w.heap.size w w' ∧ ((V ∧ b = true ∧ ∃ g, w.heap.size ≤ g ∧ e = .returned (.tuple #[.slice (some ⟨g, 0, none⟩) n n, .int .i64 0]) ∧ BoxAt w' g (rowVals F n).toArray 3) ∨ (V ∧ b = false ∧ e = .returned (.tuple #[.slice none 0 0, .int .i64 2])) ∨ (¬ V ∧ e = .returned (.tuple #[.slice none 0 0, .int .i64 1])))

theorem ex_known {cr : Int} {sn tn : Nat} {S : Nat → Sm} {T : Nat → Tk} (hv : Valid cr sn tn S T) {fn gn hn : Nat} {f g h : Nat → Int} (hb : exB fn gn hn tn T f g h = true) : ∀ i, i < tn → KnOk (toldK f g h i) := by
  intro i hi
  have hs := hv.spans hi
  simp only [exB, Bool.and_eq_true, List.all_eq_true] at hb
  have := hb.2 i (by simpa using hi)
  simp only [exOk, Bool.and_eq_true, inB_iff] at this
  constructor <;> simp only [toldK] <;> omega
theorem exB_len {fn gn hn tn : Nat} {T : Nat → Tk} {f g h : Nat → Int} (hb : exB fn gn hn tn T f g h = true) : fn = tn ∧ gn = tn ∧ hn = tn := by
  simp only [exB, Bool.and_eq_true, decide_eq_true_eq] at hb
  exact ⟨hb.1.1.1, hb.1.1.2, hb.1.2⟩

structure X1 (w : World) (bx : Nat) (x : Array Value) (v1 v2 v3 : Value) (w' : World) : Prop where
  bel : Below w.heap.size w w'
  box : BoxAt w' bx x 77
  x1 : BoxAt w' (w.heap.size + 1) #[v1] 37
  x2 : BoxAt w' (w.heap.size + 1 + 1) #[v2] 37
  x3 : BoxAt w' (w.heap.size + 1 + 1 + 1) #[v3] 37
  r1 : BoxAt w' (w.heap.size + 1 + 1 + 1 + 1) #[.int .i64 0] 30
  hi : w.heap.size ≤ bx
theorem X1.grow {w : World} {bx : Nat} {x : Array Value} {v1 v2 v3 : Value} {w1 w2 : World} (h : X1 w bx x v1 v2 v3 w1) (hb : Below w1.heap.size w1 w2) : X1 w bx x v1 v2 v3 w2 :=
  ⟨h.bel.trans (hb.mono (by have := lt_of_heap h.x1; omega)), h.box.grow hb, h.x1.grow hb, h.x2.grow hb, h.x3.grow hb, h.r1.grow hb, h.hi⟩

theorem X1.set {w : World} {bx : Nat} {x : Array Value} {v1 v2 v3 : Value} {w1 : World} (h : X1 w bx x v1 v2 v3 w1) (p : Addr) (v : Value) (h1 : bx < p.block) (h2 : w.heap.size + 1 + 1 + 1 + 1 < p.block) : X1 w bx x v1 v2 v3 (w1.setCell p v) :=
  ⟨h.bel.setCell (by omega) v, h.box.set p v (by omega), h.x1.set p v (by omega), h.x2.set p v (by omega), h.x3.set p v (by omega), h.r1.set p v (by omega), h.hi⟩
theorem exVals_at (F : Nat → Int) {k n : Nat} (m : Nat) (h : k < n) : (exVals F m n).toArray[k]? = some (if k < m then .int .i64 (F k) else .int .i64 0) := by simp [exVals, h]
def XR (w : World) (bx gb : Nat) (x : Array Value) (v1 v2 v3 : Value) (F : Nat → Int) (n : Nat) (i : Value) (wr : World) : Prop :=
  ∃ k : Nat, k ≤ n ∧ i = .int .i64 k ∧ BoxAt wr gb (exVals F k n).toArray 3 ∧ X1 w bx x v1 v2 v3 wr

set_option maxRecDepth 100000 in
set_option maxHeartbeats 4000000 in
theorem exacts_any (cr : Int) (sa ta : Option Addr) (sn sc tn tc : Nat) (S : Nat → Sm) (T : Nat → Tk) (fa ga ha : Option Addr) (fn fc gn gc hn hc : Nat) (f g h : Nat → Int) (w : World) (hS : SeamsAt w sa sn S) (hT : TicketsAt w ta tn T)
    (hf : IntsAt w fa fn f) (hg : IntsAt w ga gn g) (hh : IntsAt w ha hn h) :
    Calls Try.prog 25 #[.agg #[.int .i64 cr, .slice sa sn sc, .slice ta tn tc], .slice fa fn fc, .slice ga gn gc, .slice ha hn hc] w
      (ExactPost w (Valid cr sn tn S T) (exB fn gn hn tn T f g h) (fun c => coinsOf S T (toldK f g h) sn tn c) cr.toNat) := by
  have HS := Lib.hid hS
  have HT := Lib.hid hT
  have HF := Lib.hid hf
  have HG := Lib.hid hg
  have HH := Lib.hid hh
  clear hS hT hf hg hh
  have hmf : ∀ (fn : Fn) (first cap : Array Value) (w : World), (Instr.makeFunc fn first cap).run Try.prog w = .ok (.func fn first cap) w := fun _ _ _ _ => rfl
  go_enter_defers Try.func25, Try.ntmps25
  go_wp2_with fail
  generalize hW : World.alloc _ _ = W
  obtain ⟨q0, q1, q2, q3, q4, hz, hB⟩ := blocks5 hW
  clear hW hz
  have HB := Lib.hid hB
  have X := Lib.hid (show X1 w w.heap.size #[.int .i64 cr, .slice sa sn sc, .slice ta tn tc] (.slice fa fn fc) (.slice ga gn gc) (.slice ha hn hc) W → True from fun _ => trivial)
  have Q1 := Lib.hid (show BoxAt W (w.heap.size + 1) #[.slice fa fn fc] 37 from q1)
  have Q2 := Lib.hid (show BoxAt W (w.heap.size + 1 + 1) #[.slice ga gn gc] 37 from q2)
  have Q3 := Lib.hid (show BoxAt W (w.heap.size + 1 + 1 + 1) #[.slice ha hn hc] 37 from q3)
  have Q4 := Lib.hid (show BoxAt W (w.heap.size + 1 + 1 + 1 + 1) #[.int .i64 0] 30 from q4)
  clear X q0 q1 q2 q3 q4 hB
  have hcf : ∀ W, (callFunc 73 (#[.agg #[.int .i64 cr, .slice sa sn sc, .slice ta tn tc]] ++ #[bp (w.heap.size + 1), bp (w.heap.size + 1 + 1), bp (w.heap.size + 1 + 1 + 1)])).run Try.prog W = .ok (.enter 73 (#[.agg #[.int .i64 cr, .slice sa sn sc, .slice ta tn tc]] ++ #[bp (w.heap.size + 1), bp (w.heap.size + 1 + 1), bp (w.heap.size + 1 + 1 + 1)])) W := by intro W1; kernel_rfl
  have HCF := Lib.hid hcf
  clear hcf
  refine (open_any cr sa ta sn sc tn tc S T W (HS.out.grow HB.out) (HT.out.grow HB.out) 73 _ (exB fn gn hn tn T f g h) HCF.out ?_).mono ?_
  · intro W1 hb hv
    have hb' := HB.out.next hb
    exact exact1_any cr sa ta sn sc tn tc T fa ga ha fn fc gn gc hn hc f g h _ _ _ W1 hv.tn6 (HT.out.grow hb') (HF.out.grow hb') (HG.out.grow hb') (HH.out.grow hb') (Q1.out.grow hb) (Q2.out.grow hb) (Q3.out.grow hb)
  rintro e w1 ⟨hb, hD⟩
  have B1 := Lib.hid hb
  have Q4' := Lib.hid (Q4.out.grow hb)
  clear hb
  rcases hD with ⟨hv, hbt, rfl⟩ | ⟨hv, hbf, rfl⟩ | ⟨hnv, rfl⟩
  · have HV := Lib.hid hv
    have HT2 := Lib.hid hbt
    have HK := Lib.hid (ex_known hv hbt)
    obtain ⟨n, rfl⟩ : ∃ n : Nat, cr = n := ⟨cr.toNat, by have := hv.cr0; omega⟩
    have n4 : n ≤ 4 := by have := hv.cr1; omega
    obtain ⟨l1, l2, l3⟩ := exB_len hbt
    have CC := Lib.hid (fun W' (hb : Below w.heap.size w W') (c : Int) (c0 : -1 ≤ c) (c1 : c ≤ 3) => coins_c n sa ta sn sc tn tc S T (toldK f g h) W' (HS.out.grow hb) (HT.out.grow hb) hv HK.out 112 _ 125 (truth_told W' fa ga ha fn gn hn f g h fc gc hc tn T (HF.out.grow hb) (HG.out.grow hb) (HH.out.grow hb) (by omega) (by omega) (by omega)) c c0 c1)
    clear hbt hv l1 l2 l3
    go_wp2_with fail
    generalize hW2 : World.alloc _ _ = W2
    obtain ⟨q0, hz, hB⟩ := blocks1 hW2
    have hl1 := lt_of_heap Q4'.out
    have I2 := Lib.hid (show X1 w w1.heap.size #[.int .i64 n, .slice sa sn sc, .slice ta tn tc] (.slice fa fn fc) (.slice ga gn gc) (.slice ha hn hc) W2 from ⟨(HB.out.next B1.out).trans (hB.mono (by omega)), q0, (Q1.out.grow B1.out).grow hB, (Q2.out.grow B1.out).grow hB, (Q3.out.grow B1.out).grow hB, Q4'.out.grow hB, by omega⟩)
    obtain ⟨bx, hbx⟩ : ∃ bx, bx = w1.heap.size := ⟨_, rfl⟩
    rw [← hbx] at I2 hl1 ⊢
    clear hW2 q0 hz hB hbx
    have b0 := cellAt I2.out.box 0
    have b1 := cellAt I2.out.box 1
    have b2 := cellAt I2.out.box 2
    simp only [List.getElem?_toArray, List.getElem?_cons_zero, List.getElem?_cons_succ] at b0 b1 b2
    obtain ⟨i0, hi0, hz0, hz1, hz2⟩ := info_parts info3
    obtain ⟨W3, hrun, hown, hgr⟩ := run_make_full (P := Try.prog) W2 w.heap.size 37 3 i0 _ 1 Try.underlying37 hi0 hz0 hz1 .i64 .i64 n (by rw [hz2]; omega) (by unfold maxLen; omega) I2.out.bel.size
    go_wp2_with fail
    rw [hrun]
    simp only [Result.andThen, Oper.upon_value]
    have HO : Hid (BoxAt W3 W2.heap.size (exVals (fun c => coinsOf S T (toldK f g h) sn tn c) 0 n).toArray 3) := own_zero hown
    have I3 := Lib.hid (I2.out.grow (Below.grown (Below.refl _ _) hgr (Nat.le_refl _) (fun _ e => by cases e)))
    have hg0 := I2.out.bel.size
    have hg1 := lt_of_heap I2.out.box
    have hg2 := lt_of_heap I2.out.r1
    clear b0 b1 b2 hrun hown hgr hi0 hz0 hz1 hz2 I2
    obtain ⟨gb, hgb⟩ : ∃ gb, gb = W2.heap.size := ⟨_, rfl⟩
    rw [← hgb] at HO hg0 hg1 hg2 ⊢
    clear hgb
    go_wp2_with fail
    go_loopw [25] (XR w bx gb #[.int .i64 n, .slice sa sn sc, .slice ta tn tc] (.slice fa fn fc) (.slice ga gn gc) (.slice ha hn hc) (fun c => coinsOf S T (toldK f g h) sn tn c) n) (fun i _ => n - (intOf i).toNat)
    case atStart => exact ⟨0, Nat.zero_le _, rfl, HO.out, I3.out⟩
    case round =>
      clear HO I3
      obtain ⟨k, hk, rfl, hrow, hinv⟩ := hrel
      have HR := Lib.hid hrow
      have HI := Lib.hid hinv
      clear hrow hinv
      by_cases hlt : k < n
      · have hi := fun w => run_indexAt_row (w := w) (oa := some ⟨gb, 0, none⟩) (cap := n) Try.underlying37 size3 rfl hlt
        simp only [blk, ofs, Nat.zero_add, Nat.mul_one] at hi
        have b1 := cellAt HI.out.x1 0
        have b2 := cellAt HI.out.x2 0
        have b3 := cellAt HI.out.x3 0
        have hklt : (k : Int) ≤ 3 := by omega
        have hk0 : (-1 : Int) ≤ (k : Int) := by omega
        simp only [List.getElem?_toArray, List.getElem?_cons_zero] at b1 b2 b3
        go_wp2_with (first | (go_at_call 70; refine (CC.out _ HI.out.bel _ hk0 hklt).mono ?_; rintro e w4 ⟨rfl, hb4⟩; have HR4 := Lib.hid (HR.out.grow hb4); have HI4 := Lib.hid (HI.out.grow hb4); clear hb4; have d0 := cellAt HR4.out k; have f0 := freeAt HR4.out k; rw [exVals_at _ _ hlt] at d0))
        refine ⟨⟨k + 1, hlt, by go_num, ?_, HI4.out.set _ _ hg1 hg2⟩, by simp [intOf]; omega⟩
        have hst := HR4.out.store k (.int .i64 (coinsOf S T (toldK f g h) sn tn k))
        rw [List.setIfInBounds_toArray, exVals_set (fun c => coinsOf S T (toldK f g h) sn tn c) k n] at hst
        exact hst
      · obtain rfl : k = n := by omega
        have r2 := cellAt HI.out.r1 0
        have f2 := freeAt HI.out.r1 0
        simp only [List.getElem?_toArray, List.getElem?_cons_zero] at r2
        go_wp2_with fail
        refine leaves_cons (f := 45) (args := #[bp (w.heap.size + 1 + 1 + 1 + 1)]) (by simp) (by simp [go_sem]) ?_
        refine (answer_idle _ _).mono ?_
        rintro e u' w'' ⟨rfl, rfl, rfl⟩
        simp [Leaves, settle, results, Try.results25, go_sem, r2]
        refine ⟨HI.out.bel.setCell (by dsimp only; omega) _, .inl ⟨HV.out, HT2.out, gb, by omega, rfl, ?_⟩⟩
        have hst := HR.out.set ⟨w.heap.size + 1 + 1 + 1 + 1, 0, none⟩ (.int .i64 0) (by dsimp only; omega)
        rw [exVals_full] at hst
        exact hst
  · have HV := Lib.hid hv
    have HT2 := Lib.hid hbf
    clear hv hbf
    simp only [err]
    go_wp2_with fail
    refine leaves_cons (f := 45) (args := #[bp (w.heap.size + 1 + 1 + 1 + 1)]) (by simp) (by simp [go_sem]) ?_
    refine (answer_panicking _ 0 2 [] _ Q4'.out).mono ?_
    rintro e u' w'' ⟨rfl, rfl, rfl⟩
    have r2 := cellAt Q4'.out 0
    simp only [List.getElem?_toArray, List.getElem?_cons_zero] at r2
    simp [Leaves, settle, results, Try.results25, go_sem, r2]
    exact ⟨(HB.out.next B1.out).setCell (by dsimp only; omega) _, .inr (.inl ⟨HV.out, HT2.out, rfl⟩)⟩
  · have HV := Lib.hid hnv
    clear hnv
    simp only [err]
    go_wp2_with fail
    refine leaves_cons (f := 45) (args := #[bp (w.heap.size + 1 + 1 + 1 + 1)]) (by simp) (by simp [go_sem]) ?_
    refine (answer_panicking _ 0 1 [] _ Q4'.out).mono ?_
    rintro e u' w'' ⟨rfl, rfl, rfl⟩
    have r2 := cellAt Q4'.out 0
    simp only [List.getElem?_toArray, List.getElem?_cons_zero] at r2
    simp [Leaves, settle, results, Try.results25, go_sem, r2]
    exact ⟨(HB.out.next B1.out).setCell (by dsimp only; omega) _, .inr (.inr ⟨HV.out, rfl⟩)⟩
end Go.Proofs.Ytbpeamppkdmdcaa
