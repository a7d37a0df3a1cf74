/-
  Walks: all truths, by the reference.
-/
import Derived.Test.YtbpeamppkdmdcaaU8
import Derived.Test.YtbpeamppkdmdcaaN4
import Derived.Deep.Light
namespace Go.Proofs.Ytbpeamppkdmdcaa
open Go.RowKit
attribute [local go_sem ↓] Go.wp_at_zero Go.wp_at_succ

/-- What 'truths' leaves: the list has grown, and nothing else that was there has changed. -/
def NextV (w : World) (v v' : Value) : Prop := v'.ownBlock = v.ownBlock ∨ ∃ g, v'.ownBlock = some g ∧ w.heap.size ≤ g
theorem NextV.refl (w : World) (v : Value) : NextV w v v := .inl rfl
theorem NextV.trans {w w1 : World} {v v1 v2 : Value} (h : NextV w v v1) (k : NextV w1 v1 v2) (hs : w.heap.size ≤ w1.heap.size) : NextV w v v2 := by
  rcases k with k | ⟨g, k, hg⟩
  · rcases h with h | ⟨g, h, hg⟩
    · exact .inl (k.trans h)
    · exact .inr ⟨g, k.trans h, hg⟩
  · exact .inr ⟨g, k, by omega⟩
theorem NextV.ne {w : World} {v v' : Value} {b : Nat} (h : NextV w v v') (hb : b < w.heap.size) (hn : v.ownBlock ≠ some b) : v'.ownBlock ≠ some b := by
  rcases h with h | ⟨g, h, hg⟩
  · rw [h]; exact hn
  · rw [h]; intro e; have := Option.some.inj e; omega
theorem grownBy_next {w w1 w2 : World} {v v1 : Value} (h : w.grownBy w1 v.ownBlock) (hv : NextV w v v1) (k : w1.grownBy w2 v1.ownBlock) : w.grownBy w2 v.ownBlock :=
  ⟨k.os.trans h.os, k.tape.trans h.tape, k.output.trans h.output, Nat.le_trans h.size k.size, fun b hb hne => (k.block b (by have := h.size; omega) (by
    rcases hv with e | ⟨g, e, hg⟩
    · rw [e]; exact hne
    · rw [e]; intro x; have := Option.some.inj x; omega)).trans (h.block b hb hne)⟩
theorem grownBy_below {w w1 w2 : World} {row : Option Nat} (h : w.grownBy w1 row) (k : Below w1.heap.size w1 w2) : w.grownBy w2 row :=
  ⟨k.os.trans h.os, k.tape.trans h.tape, k.output.trans h.output, Nat.le_trans h.size k.size, fun b hb hne => (k.block b (by have := h.size; omega)).trans (h.block b hb hne)⟩
theorem below_grownBy {w w1 : World} {row : Option Nat} (k : Below w.heap.size w w1) : w.grownBy w1 row :=
  ⟨k.os, k.tape, k.output, k.size, fun b hb _ => k.block b hb⟩
def TrPost (B tn : Nat) (v : Value) (ts : List (List Kn)) (w : World) (e : Ending) (w' : World) : Prop :=
  ∃ v', e = .returned v' ∧ OutAt B tn v' ts w' ∧ w.grownBy w' v.ownBlock ∧ NextV w v v'
/-- What is there beside the list. -/
structure TrI (w : World) (cr : Int) (sa ta : Option Addr) (sn sc tn tc : Nat) (S : Nat → Sm) (T : Nat → Tk) (ob : Option Addr) (bl : List Kn) (v : Value) (W : World) : Prop where
  ss : SeamsAt W sa sn S
  tt : TicketsAt W ta tn T
  beg : KnAt W ob bl.length (knF bl)
  ns : 0 < sn → v.ownBlock ≠ some (blk sa)
  nt : 0 < tn → v.ownBlock ≠ some (blk ta)
  nb : 0 < bl.length → v.ownBlock ≠ some (blk ob)
section
variable {w W W2 : World} {cr : Int} {sa ta : Option Addr} {sn sc tn tc : Nat} {S : Nat → Sm} {T : Nat → Tk} {ob : Option Addr} {bl : List Kn} {v v' : Value}
theorem TrI.grow (h : TrI w cr sa ta sn sc tn tc S T ob bl v W) (hb : Below W.heap.size W W2) : TrI w cr sa ta sn sc tn tc S T ob bl v W2 := ⟨h.ss.grow hb, h.tt.grow hb, h.beg.grow hb, h.ns, h.nt, h.nb⟩
theorem TrI.next (h : TrI w cr sa ta sn sc tn tc S T ob bl v W) (hg : W.grownBy W2 v.ownBlock) (hv : NextV W v v') : TrI w cr sa ta sn sc tn tc S T ob bl v' W2 :=
  ⟨Row.kept h.ss hg h.ns, Row.kept h.tt hg h.nt, Row.kept h.beg hg h.nb, fun hn => hv.ne (h.ss.old hn) (h.ns hn), fun hn => hv.ne (h.tt.old hn) (h.nt hn), fun hn => hv.ne (h.beg.old hn) (h.nb hn)⟩
end

theorem own_up {W W2 : World} {B E sz n : Nat} {v : Value} {xs : List Value} (h : W.ownsRow B E sz v n xs) (hb : Below W.heap.size W W2) : W2.ownsRow B E sz v n xs :=
  h.kept (row := none) ⟨hb.os, hb.tape, hb.output, hb.size, fun k hk _ => hb.block k hk⟩ (by cases v.ownBlock <;> simp)
theorem own_nil128 {W : World} {g B : Nat} (h : BoxAt W g #[] 128) (hB : B ≤ g) : W.ownsRow B 128 3 (.slice (some ⟨g, 0, none⟩) 0 0) 0 [] :=
  ⟨rfl, .inr ⟨g, 0, #[], rfl, hB, h, Nat.le_refl _, by unfold maxLen; omega, rfl, rfl⟩⟩
theorem box_kn {W : World} {g : Nat} {k : Kn} (h : BoxAt W g k.cells 128) : KnAt W (some ⟨g, 0, none⟩) 1 (knF [k]) := by
  refine ⟨fun _ => rfl, fun _ => lt_of_heap h, by unfold maxLen; omega, fun i hi j hj => ?_⟩
  obtain rfl : i = 0 := by omega
  show W.cell? ⟨g, 0 + 0 * 3 + j, none⟩ = _
  rw [cellAt h, show 0 + 0 * 3 + j = j by omega, ← Array.getElem?_toList]
  exact k.cells_get j hj
theorem knVals_app (l : List Kn) (k : Kn) : knVals l ++ knVals [k] = knVals (l ++ [k]) := by simp [knVals]

set_option maxRecDepth 100000 in
set_option maxHeartbeats 8000000 in
theorem truthsR_any (cr : Int) (sa ta : Option Addr) (sn sc tn tc : Nat) (S : Nat → Sm) (T : Nat → Tk) (B : Nat) (hsp : ∀ i, i < tn → Spans (T i)) (ht6 : tn ≤ 6) :
    ∀ (d : Nat) (ob : Option Addr) (bc : Nat) (bl : List Kn) (v : Value) (ts : List (List Kn)) (w : World), bl.length + d = tn → TrI w cr sa ta sn sc tn tc S T ob bl v w → OutAt B tn v ts w → B ≤ w.heap.size → ts.length + countT T d bl.length ≤ 100000 →
    Calls Try.prog 98 #[.agg #[.int .i64 cr, .slice sa sn sc, .slice ta tn tc], .slice ob bl.length bc, v] w (TrPost B tn v (ts ++ ext T d bl.length bl) w) := by
  intro d
  induction d with
  | zero =>
    intro ob bc bl v ts w hd hI hO hB hc
    obtain rfl : bl.length = tn := by omega
    have hb1 := ba w (.cells #[.int .i64 cr, .slice sa sn sc, .slice ta bl.length tc] 25)
    have hb2 := ba (w.alloc (.cells #[.int .i64 cr, .slice sa sn sc, .slice ta bl.length tc] 25)) (.cells #[.slice ob bl.length bc] 104)
    have O2 := Lib.hid ((hO.grow hb1).grow hb2)
    have I2 := Lib.hid ((hI.grow hb1).grow hb2)
    have hbx := heap_alloc_new (w.alloc (.cells #[.int .i64 cr, .slice sa sn sc, .slice ta bl.length tc] 25)) (.cells #[.slice ob bl.length bc] 104)
    rw [sizeAlloc] at hbx
    have BX := Lib.hid (show BoxAt ((w.alloc (.cells #[.int .i64 cr, .slice sa sn sc, .slice ta bl.length tc] 25)).alloc (.cells #[.slice ob bl.length bc] 104)) (w.heap.size + 1) #[.slice ob bl.length bc] 104 from hbx)
    have HB := Lib.hid (hb1.next hb2)
    have hsz : w.heap.size + 2 = ((w.alloc (.cells #[.int .i64 cr, .slice sa sn sc, .slice ta bl.length tc] 25)).alloc (.cells #[.slice ob bl.length bc] 104)).heap.size := by rw [sizeAlloc, sizeAlloc]
    have HZ := Lib.hid hsz
    have htc : ts.length ≤ 100000 := by omega
    clear hb1 hb2 hsz hO hI hbx
    go_enter Try.func98, Try.ntmps98
    go_wp2_with (at_builtin; refine wpList_out O2.out rfl (.tmp 15) (.tmp 17) rfl rfl (gb := w.heap.size + 1) rfl BX.out I2.out.beg I2.out.nb htc (by rw [← HZ.out]; omega) ?_)
    intro g cap W2 hO2 hg hat
    have HO := Lib.hid hO2
    have HG := Lib.hid (grownBy_next (below_grownBy (row := v.ownBlock) HB.out) (NextV.refl _ v) hg)
    have HN := Lib.hid (show NextV w v (.slice (some ⟨g, 0, none⟩) (ts.length + 1) cap) from hat.imp (fun e => e.symm) (fun e => ⟨g, rfl, by rw [e]; omega⟩))
    clear hO2 hg hat O2 I2 BX HB HZ
    go_wp2_with fail
    go_ret
    exact ⟨_, rfl, HO.out, HG.out, HN.out⟩
  | succ d ih =>
    intro ob bc bl v ts w hd hI hO hB hc
    have hmlt : bl.length < tn := by omega
    have hcl := canL_len (hsp _ hmlt)
    have hcnt : countT T (d + 1) bl.length = (canL (T bl.length)).length * countT T d (bl.length + 1) := rfl
    have IH := Lib.hid ih
    clear ih
    have hvw : ∀ b, w.heap.size ≤ b → v.ownBlock ≠ some b := fun b hb e => by obtain ⟨hs, ho, _⟩ := hO.own; have := (ho.lt _ e).2; omega
    have hba := ba w (.cells #[.int .i64 cr, .slice sa sn sc, .slice ta tn tc] 25)
    have I1 := Lib.hid (hI.grow hba)
    have O1 := Lib.hid (hO.grow hba)
    have X1 := Lib.hid (show BoxAt (w.alloc (.cells #[.int .i64 cr, .slice sa sn sc, .slice ta tn tc] 25)) w.heap.size #[.int .i64 cr, .slice sa sn sc, .slice ta tn tc] 25 from heap_alloc_new _ _)
    have HB := Lib.hid hba
    have HVW := Lib.hid hvw
    have HSP := Lib.hid hsp
    have hix := fun w => run_indexAt_row (w := w) (cap := tc) Try.underlying23 size58 (hI.tt.plain (by omega)) hmlt
    obtain ⟨g0, g1, g2, g3, g4, g5, g6, g7⟩ := I1.out.tt.at hmlt
    have hb : ((bl.length : Int) == tn) = false := by simp; omega
    clear hvw hba hI hO hsp
    go_enter Try.func98, Try.ntmps98
    go_wp2_with (go_at_call 82; refine (canR_any (T bl.length) (HSP.out _ hmlt) _).mono ?_)
    rintro e w2 ⟨oc, cc, rfl, hk, hbl, hb2⟩
    have I2 := Lib.hid (I1.out.grow hb2)
    have O2 := Lib.hid (O1.out.grow hb2)
    have X2 := Lib.hid (X1.out.grow hb2)
    have HB2 := Lib.hid (HB.out.next hb2)
    have CK := Lib.hid hk
    have hwl : w.heap.size ≤ blk oc := by have := sizeAlloc w (.cells #[.int .i64 cr, .slice sa sn sc, .slice ta tn tc] 25); omega
    obtain ⟨N, eN⟩ : ∃ N, N = (canL (T bl.length)).length := ⟨_, rfl⟩
    rw [← eN] at hcl hcnt CK ⊢
    have HN := Lib.hid eN
    have HC := Lib.hid hcnt
    clear hk hbl hb2 I1 O1 X1 HB g0 g1 g2 g3 g4 g5 g6 g7 hix eN hcnt
    go_wp2_with fail
    go_loopw [2, 8] (fun vv a W => ∃ i : Nat, i ≤ N ∧ a = .int .i64 i ∧ OutAt B tn vv (ts ++ extI T d bl.length bl i) W ∧ TrI w cr sa ta sn sc tn tc S T ob bl vv W ∧ BoxAt W w.heap.size #[.int .i64 cr, .slice sa sn sc, .slice ta tn tc] 25 ∧ vv.ownBlock ≠ some w.heap.size ∧ KnAt W oc N (knF (canL (T bl.length))) ∧ vv.ownBlock ≠ some (blk oc) ∧ w.grownBy W v.ownBlock ∧ NextV w v vv) (fun _ a _ => N - (intOf a).toNat)
    case atStart => exact ⟨0, Nat.zero_le _, rfl, by rw [extI_zero, List.append_nil]; exact O2.out, I2.out, X2.out, HVW.out _ (Nat.le_refl _), CK.out, HVW.out _ hwl, below_grownBy HB2.out, NextV.refl _ _⟩
    case round =>
      clear O2 I2 X2 CK HB2
      obtain ⟨i, hi, rfl, ho, hti, hx, hn1, hk, hn2, hg, hnv⟩ := hrel
      have O3 := Lib.hid ho
      have I3 := Lib.hid hti
      have X3 := Lib.hid hx
      have CK := Lib.hid hk
      have HG := Lib.hid hg
      have HNV := Lib.hid hnv
      have HN1 := Lib.hid hn1
      have HN2 := Lib.hid hn2
      clear ho hti hx hk hg hnv hn1 hn2
      by_cases hlt : i < N
      · have hjx := fun w => run_indexAt_row (w := w) (cap := cc) Try.underlying104 size128 (CK.out.plain (by omega)) hlt
        have hes := extI_succ T d bl.length bl (show i < (canL (T bl.length)).length by rw [← HN.out]; exact hlt)
        have hec := extI_count T d bl.length bl (show i ≤ (canL (T bl.length)).length by rw [← HN.out]; exact hi)
        have hmc : (i + 1) * countT T d (bl.length + 1) ≤ N * countT T d (bl.length + 1) := Nat.mul_le_mul_right _ hlt
        obtain ⟨k, ek⟩ : ∃ k, k = knF (canL (T bl.length)) i := ⟨_, rfl⟩
        obtain ⟨c0, c1, c2⟩ := CK.out.at hlt
        rw [← ek] at c0 c1 c2 hes
        have hct : (ts ++ extI T d bl.length bl i).length + countT T d (bl.length + 1) ≤ 100000 := by
          rw [List.length_append, hec]
          have := HC.out
          rw [Nat.succ_mul] at hmc
          omega
        have HES := Lib.hid hes
        have HCT := Lib.hid hct
        have HK := Lib.hid ek
        clear hes hec hmc hct ek c0 c1 c2
        go_wp2_with fail
        have V0 := Lib.hid (Below.drew (Below.refl wr.heap.size wr))
        have hbl6 : bl.length ≤ 6 := by omega
        refine wp_region_held_drew (S := (fun w' => w'.cell? ⟨w.heap.size, 0, none⟩ = some (.int .i64 cr) ∧ w'.cell? ⟨w.heap.size, 1, none⟩ = some (.slice sa sn sc) ∧ w'.cell? ⟨w.heap.size, 2, none⟩ = some (.slice ta tn tc) ∧ w'.cell? ⟨blk oc, ofs oc + i * 3, none⟩ = some (.int .i64 k.fr) ∧ w'.cell? ⟨blk oc, ofs oc + i * 3 + 1, none⟩ = some (.int .i64 k.to) ∧ w'.cell? ⟨blk oc, ofs oc + i * 3 + 2, none⟩ = some (.int .i64 k.td))) (by kernel_rfl) (by exact (by have hx := X3.out.grow V0.out; have hk := (CK.out.grow V0.out).at hlt; rw [← HK.out] at hk; exact ⟨cellAt hx 0, cellAt hx 1, cellAt hx 2, hk⟩)) (fun hHeld => ?_)
        generalize World.drew wr = WW at *
        refine wpAnyH_take (i := 0) (oi := { dst := some 32, op := Op.load 25 (Operand.tmp 3), type := 25, pos := "ref.go:128", after := #[], guard := none }) (v := ?_) rfl (by kernel_rfl) (by kernel_rfl) (by kernel_rfl) (fun _ _ _ h => h) (Or.inl ⟨by rfl, ?_⟩) (by assumption) ?_
        rotate_left
        · (intro w9 hSw; (try dsimp only at hSw); (go_split_ands; go_simp); (try with_reducible rfl))
        try simp only [Act.put, List.setIfInBounds_toArray, List.set_cons_zero, List.set_cons_succ]
        refine wpAnyH_take (i := 2) (oi := { dst := some 34, op := Op.move (Operand.tmp 1), type := 104, pos := "ref.go:128", after := #[], guard := none }) (v := ?_) rfl (by kernel_rfl) (by kernel_rfl) (by kernel_rfl) (fun _ _ _ h => h) (Or.inl ⟨by rfl, ?_⟩) (by assumption) ?_
        rotate_left
        · (intro w9 hSw; (try dsimp only at hSw); (go_split_ands; go_simp); (try with_reducible rfl))
        try simp only [Act.put, List.setIfInBounds_toArray, List.set_cons_zero, List.set_cons_succ]
        refine wpAnyH_take (i := 4) (oi := { dst := some 36, op := Op.move (Operand.tmp 7), type := 104, pos := "ref.go:128", after := #[], guard := none }) (v := ?_) rfl (by kernel_rfl) (by kernel_rfl) (by kernel_rfl) (fun _ _ _ h => h) (Or.inl ⟨by rfl, ?_⟩) (by assumption) ?_
        rotate_left
        · (intro w9 hSw; (try dsimp only at hSw); (go_split_ands; go_simp); (try with_reducible rfl))
        try simp only [Act.put, List.setIfInBounds_toArray, List.set_cons_zero, List.set_cons_succ]
        refine wpAnyH_take (i := 5) (oi := { dst := some 37, op := Op.move (Operand.tmp 8), type := 3, pos := "ref.go:128", after := #[], guard := none }) (v := ?_) rfl (by kernel_rfl) (by kernel_rfl) (by kernel_rfl) (fun _ _ _ h => h) (Or.inl ⟨by rfl, ?_⟩) (by assumption) ?_
        rotate_left
        · (intro w9 hSw; (try dsimp only at hSw); (go_split_ands; go_simp); (try with_reducible rfl))
        try simp only [Act.put, List.setIfInBounds_toArray, List.set_cons_zero, List.set_cons_succ]
        refine wpAnyH_take (i := 6) (oi := { dst := some 38, op := Op.indexAddr 104 (Operand.tmp 36) (Operand.tmp 37), type := 0, pos := "ref.go:128", after := #[{ on := 4, ground := Ground.data }, { on := 5, ground := Ground.data }], guard := none }) (v := ?_) rfl (by kernel_rfl) (by kernel_rfl) (by kernel_rfl) (fun _ _ _ h => h) (Or.inl ⟨by rfl, ?_⟩) (by assumption) ?_
        rotate_left
        · (intro w9 hSw; (try dsimp only at hSw); (go_split_ands; go_simp); (try with_reducible rfl))
        try simp only [Act.put, List.setIfInBounds_toArray, List.set_cons_zero, List.set_cons_succ]
        refine wpAnyH_take (i := 7) (oi := { dst := some 39, op := Op.load 128 (Operand.tmp 38), type := 128, pos := "ref.go:128", after := #[{ on := 6, ground := Ground.data }], guard := none }) (v := ?_) rfl (by kernel_rfl) (by kernel_rfl) (by kernel_rfl) (fun _ _ _ h => h) (Or.inl ⟨by rfl, ?_⟩) (by assumption) ?_
        rotate_left
        · (intro w9 hSw; (try dsimp only at hSw); (go_split_ands; go_simp); (try with_reducible rfl))
        try simp only [Act.put, List.setIfInBounds_toArray, List.set_cons_zero, List.set_cons_succ]
        refine wpAnyH_take (i := 10) (oi := { dst := some 42, op := Op.move (Operand.tmp 2), type := 101, pos := "ref.go:128", after := #[], guard := none }) (v := ?_) rfl (by kernel_rfl) (by kernel_rfl) (by kernel_rfl) (fun _ _ _ h => h) (Or.inl ⟨by rfl, ?_⟩) (by assumption) ?_
        rotate_left
        · (intro w9 hSw; (try dsimp only at hSw); (go_split_ands; go_simp); (try with_reducible rfl))
        try simp only [Act.put, List.setIfInBounds_toArray, List.set_cons_zero, List.set_cons_succ]
        refine wpAnyH_ready (rs := [1, 8]) (by kernel_rfl) (by simp) ?_
        refine AllReadyH.cons (o := { dst := some 33, op := Op.buildSlice 104 0 #[], type := 104, pos := "ref.go:128", after := #[], guard := none }) rfl (fun K hK => ?_) (AllReadyH.cons (o := { dst := some 40, op := Op.buildSlice 104 1 #[(0, Operand.tmp 39)], type := 104, pos := "ref.go:128", after := #[{ on := 7, ground := Ground.data }], guard := none }) rfl (fun K hK => ?_) (AllReadyH.nil))
        · clear hHeld
          go_simp
          go_wp2_with fail
          generalize hW : World.alloc _ _ = w1c at *
          obtain ⟨n1, s1, b1⟩ := blocks1 hW
          have z1 := V0.out.size
          have V1 := Lib.hid (V0.out.next b1)
          have E1 := Lib.hid (own_nil128 (B := wr.heap.size) n1 (by omega))
          clear n1 s1 b1 hW
          refine hK.out _ _ ?_ (fun hHeld => ?_)
          · exact (by have hx := X3.out.grow V1.out; have hk := (CK.out.grow V1.out).at hlt; rw [← HK.out] at hk; exact ⟨cellAt hx 0, cellAt hx 1, cellAt hx 2, hk⟩)
          clear hK K
          try simp only [Act.put, List.setIfInBounds_toArray, List.set_cons_zero, List.set_cons_succ]
          refine wpAnyH_ready (rs := [3, 8]) (by kernel_rfl) (by simp) ?_
          refine AllReadyH.cons (o := { dst := some 35, op := Op.call { callee := Callee.builtin Builtin.append, args := #[Operand.tmp 33, Operand.tmp 34], argTypes := #[104, 104] }, type := 104, pos := "ref.go:128", after := #[{ on := 1, ground := Ground.data }, { on := 2, ground := Ground.data }], guard := none }) rfl (fun K hK => ?_) (AllReadyH.cons (o := { dst := some 40, op := Op.buildSlice 104 1 #[(0, Operand.tmp 39)], type := 104, pos := "ref.go:128", after := #[{ on := 7, ground := Ground.data }], guard := none }) rfl (fun K hK => ?_) (AllReadyH.nil))
          · clear hHeld
            refine step_kns (by rfl) (.tmp 33) (.tmp 34) (by rfl) (n := 0) (by rfl) E1.out (l := bl) rfl (by rfl) (I3.out.grow V1.out).beg (by omega) (.inl rfl) V1.out.size ?_
            intro g2 p2 w2c ho hgr hat
            simp only [Nat.zero_add, List.nil_append] at ho ⊢
            have V2 := Lib.hid (V1.out.of_grown hgr (E1.out.lt _ rfl).1 V1.out.size)
            have E2 := Lib.hid ho
            clear ho hgr hat
            refine hK.out _ _ ?_ (fun hHeld => ?_)
            · exact (by have hx := X3.out.grow V2.out; have hk := (CK.out.grow V2.out).at hlt; rw [← HK.out] at hk; exact ⟨cellAt hx 0, cellAt hx 1, cellAt hx 2, hk⟩)
            clear hK K
            try simp only [Act.put, List.setIfInBounds_toArray, List.set_cons_zero, List.set_cons_succ]
            refine wpAnyH_ready (rs := [8]) (by kernel_rfl) (by simp) ?_
            refine AllReadyH.cons (o := { dst := some 40, op := Op.buildSlice 104 1 #[(0, Operand.tmp 39)], type := 104, pos := "ref.go:128", after := #[{ on := 7, ground := Ground.data }], guard := none }) rfl (fun K hK => ?_) (AllReadyH.nil)
            clear hHeld
            go_simp
            go_wp2_with fail
            generalize hW : World.alloc _ _ = w3c at *
            obtain ⟨n3, s3, b3⟩ := blocks1 hW
            have z3 := V2.out.size
            have V3 := Lib.hid (V2.out.next b3)
            have E3 := Lib.hid (own_up E2.out b3)
            have Y3 := Lib.hid (show BoxAt w3c w2c.heap.size k.cells 128 from n3)
            clear n3 s3 b3 hW
            refine hK.out _ _ ?_ (fun hHeld => ?_)
            · exact (by have hx := X3.out.grow V3.out; have hk := (CK.out.grow V3.out).at hlt; rw [← HK.out] at hk; exact ⟨cellAt hx 0, cellAt hx 1, cellAt hx 2, hk⟩)
            clear hK K
            try simp only [Act.put, List.setIfInBounds_toArray, List.set_cons_zero, List.set_cons_succ]
            refine wpAnyH_ready (rs := [9]) (by kernel_rfl) (by simp) ?_
            refine AllReadyH.cons (o := { dst := some 41, op := Op.call { callee := Callee.builtin Builtin.append, args := #[Operand.tmp 35, Operand.tmp 40], argTypes := #[104, 104] }, type := 104, pos := "ref.go:128", after := #[{ on := 3, ground := Ground.data }, { on := 8, ground := Ground.data }, { on := 3, ground := Ground.chain }], guard := none }) rfl (fun K hK => ?_) (AllReadyH.nil)
            clear hHeld
            refine step_kns (by rfl) (.tmp 35) (.tmp 40) (by rfl) (n := bl.length) (m := 1) (by rfl) E3.out (l := [k]) rfl (by rfl) (box_kn Y3.out) (by omega) (.inr (by omega)) V3.out.size ?_
            intro g4 p4 w4c ho hgr hat
            rw [knVals_app] at ho
            have V4 := Lib.hid (V3.out.of_grown hgr (E3.out.lt _ rfl).1 V3.out.size)
            have hkn := own_kns ho (by simp) (show bl.length + 1 ≤ maxLen by unfold maxLen; omega)
            have G4 := Lib.hid hkn
            clear ho hgr hat hkn
            refine hK.out _ _ ?_ (fun hHeld => ?_)
            · exact (by have hx := X3.out.grow V4.out; have hk := (CK.out.grow V4.out).at hlt; rw [← HK.out] at hk; exact ⟨cellAt hx 0, cellAt hx 1, cellAt hx 2, hk⟩)
            clear hK K
            try simp only [Act.put, List.setIfInBounds_toArray, List.set_cons_zero, List.set_cons_succ]
            refine wpAnyH_ready (rs := [11]) (by kernel_rfl) (by simp) ?_
            refine AllReadyH.cons (o := { dst := some 43, op := Op.call { callee := Callee.value (Operand.func 98), args := #[Operand.tmp 32, Operand.tmp 41, Operand.tmp 42], argTypes := #[25, 104, 101] }, type := 101, pos := "ref.go:128", after := #[{ on := 0, ground := Ground.data }, { on := 9, ground := Ground.data }, { on := 10, ground := Ground.data }, { on := 9, ground := Ground.chain }], guard := none }) rfl (fun K hK => ?_) (AllReadyH.nil)
            clear hHeld
            obtain ⟨o9, q9, hv9, hk9, hb9⟩ := G4.out
            simp only [Value.slice.injEq] at hv9
            obtain ⟨rfl, -, -⟩ := hv9
            have I4 := I3.out.grow V4.out
            have O4 := O3.out.grow V4.out
            have hvlt : ∀ b, wr.heap.size ≤ b → u2.ownBlock ≠ some b := fun b hb e => by obtain ⟨hs, ho, _⟩ := O3.out.own; have := (ho.lt _ e).2; omega
            have CX := Lib.hid (IH.out (some ⟨g4, 0, none⟩) p4 (bl ++ [k]) u2 (ts ++ extI T d bl.length bl i) w4c (by simp; omega) ⟨I4.ss, I4.tt, by simpa using hk9, I4.ns, I4.nt, fun _ => hvlt _ (hb9 (Nat.succ_pos _))⟩ O4 (by have := HG.out.size; have := V4.out.size; omega) (by simpa using HCT.out))
            simp only [List.length_append, List.length_cons, List.length_nil, Nat.zero_add] at CX
            clear I4 O4 hvlt hk9 hb9
            go_simp
            refine CX.out.mono ?_
            rintro e w12 ⟨v', rfl, ho, hg, hnv⟩
            have O5 := Lib.hid ho
            have HG5 := Lib.hid hg
            have HN5 := Lib.hid hnv
            clear ho hg hnv CX
            go_wp2_with fail
            refine hK.out _ _ ?_ (fun hHeld => ?_)
            · have hx := BoxAt.kept (X3.out.grow V4.out) HG5.out (fun e => HN1.out e.symm); have hk := (show KnAt w12 oc N (knF (canL (T bl.length))) from Row.kept (CK.out.grow V4.out) HG5.out (fun _ => HN2.out)).at hlt; rw [← HK.out] at hk; exact ⟨cellAt hx 0, cellAt hx 1, cellAt hx 2, hk⟩
            clear hK K
            try simp only [Act.put, List.setIfInBounds_toArray, List.set_cons_zero, List.set_cons_succ]
            refine wpAnyH_take (i := 12) (oi := { dst := some 2, op := Op.assign (Operand.tmp 43), type := 101, pos := "ref.go:128", after := #[{ on := 11, ground := Ground.data }, { on := 11, ground := Ground.chain }, { on := 0, ground := Ground.phase }, { on := 1, ground := Ground.phase }, { on := 2, ground := Ground.phase }, { on := 3, ground := Ground.phase }, { on := 4, ground := Ground.phase }, { on := 5, ground := Ground.phase }, { on := 6, ground := Ground.phase }, { on := 7, ground := Ground.phase }, { on := 8, ground := Ground.phase }, { on := 9, ground := Ground.phase }, { on := 10, ground := Ground.phase }, { on := 11, ground := Ground.phase }], guard := none }) (v := ?_) rfl (by kernel_rfl) (by kernel_rfl) (by kernel_rfl) (fun _ _ _ h => h) (Or.inl ⟨by rfl, ?_⟩) (by assumption) ?_
            rotate_left
            · (intro w9 hSw; (try dsimp only at hSw); (go_split_ands; go_simp); (try with_reducible rfl))
            try simp only [Act.put, List.setIfInBounds_toArray, List.set_cons_zero, List.set_cons_succ]
            refine wpAnyH_done (by kernel_rfl) ?_ _
            go_wp2_with fail
            have hzz := V4.out.size
            have hx := BoxAt.kept (X3.out.grow V4.out) HG5.out (fun e => HN1.out e.symm)
            have hck : KnAt w12 oc N (knF (canL (T bl.length))) := Row.kept (CK.out.grow V4.out) HG5.out (fun _ => HN2.out)
            have hti := (I3.out.grow V4.out).next HG5.out HN5.out
            have hl1 := lt_of_heap X3.out
            have hl2 := CK.out.old (by omega)
            have hfr := grownBy_next (grownBy_below HG.out V4.out) HNV.out HG5.out
            have hnx := HNV.out.trans HN5.out (by have := HG.out.size; omega)
            exact ⟨⟨i + 1, hlt, by go_num, by rw [HES.out, ← List.append_assoc]; exact O5.out, hti, hx, HN5.out.ne (by omega) HN1.out, hck, HN5.out.ne (by omega) HN2.out, hfr, hnx⟩, by simp [intOf]; omega⟩
          · clear hHeld
            go_simp
            go_wp2_with fail
            generalize hW : World.alloc _ _ = w6c at *
            obtain ⟨n6, s6, b6⟩ := blocks1 hW
            have z6 := V1.out.size
            have yne : w1c.heap.size ≠ WW.heap.size := by have hq : WW.heap.size < w1c.heap.size := (E1.out.lt _ rfl).2; omega
            have V6 := Lib.hid (V1.out.next b6)
            have E6 := Lib.hid (own_up E1.out b6)
            have Y6 := Lib.hid (show BoxAt w6c w1c.heap.size k.cells 128 from n6)
            clear n6 s6 b6 hW
            refine hK.out _ _ ?_ (fun hHeld => ?_)
            · exact (by have hx := X3.out.grow V6.out; have hk := (CK.out.grow V6.out).at hlt; rw [← HK.out] at hk; exact ⟨cellAt hx 0, cellAt hx 1, cellAt hx 2, hk⟩)
            clear hK K
            try simp only [Act.put, List.setIfInBounds_toArray, List.set_cons_zero, List.set_cons_succ]
            refine wpAnyH_ready (rs := [3]) (by kernel_rfl) (by simp) ?_
            refine AllReadyH.cons (o := { dst := some 35, op := Op.call { callee := Callee.builtin Builtin.append, args := #[Operand.tmp 33, Operand.tmp 34], argTypes := #[104, 104] }, type := 104, pos := "ref.go:128", after := #[{ on := 1, ground := Ground.data }, { on := 2, ground := Ground.data }], guard := none }) rfl (fun K hK => ?_) (AllReadyH.nil)
            clear hHeld
            refine step_kns (by rfl) (.tmp 33) (.tmp 34) (by rfl) (n := 0) (by rfl) E6.out (l := bl) rfl (by rfl) (I3.out.grow V6.out).beg (by omega) (.inl rfl) V6.out.size ?_
            intro g7 p7 w7c ho hgr hat
            simp only [Nat.zero_add, List.nil_append] at ho ⊢
            have V7 := Lib.hid (V6.out.of_grown hgr (E6.out.lt _ rfl).1 V6.out.size)
            have Y7 := Lib.hid (Y6.out.kept hgr (by simp; exact yne))
            have E7 := Lib.hid ho
            clear ho hgr hat
            refine hK.out _ _ ?_ (fun hHeld => ?_)
            · exact (by have hx := X3.out.grow V7.out; have hk := (CK.out.grow V7.out).at hlt; rw [← HK.out] at hk; exact ⟨cellAt hx 0, cellAt hx 1, cellAt hx 2, hk⟩)
            clear hK K
            try simp only [Act.put, List.setIfInBounds_toArray, List.set_cons_zero, List.set_cons_succ]
            refine wpAnyH_ready (rs := [9]) (by kernel_rfl) (by simp) ?_
            refine AllReadyH.cons (o := { dst := some 41, op := Op.call { callee := Callee.builtin Builtin.append, args := #[Operand.tmp 35, Operand.tmp 40], argTypes := #[104, 104] }, type := 104, pos := "ref.go:128", after := #[{ on := 3, ground := Ground.data }, { on := 8, ground := Ground.data }, { on := 3, ground := Ground.chain }], guard := none }) rfl (fun K hK => ?_) (AllReadyH.nil)
            clear hHeld
            refine step_kns (by rfl) (.tmp 35) (.tmp 40) (by rfl) (n := bl.length) (m := 1) (by rfl) E7.out (l := [k]) rfl (by rfl) (box_kn Y7.out) (by omega) (.inr (by omega)) V7.out.size ?_
            intro g8 p8 w8c ho hgr hat
            rw [knVals_app] at ho
            have V8 := Lib.hid (V7.out.of_grown hgr (E7.out.lt _ rfl).1 V7.out.size)
            have hkn := own_kns ho (by simp) (show bl.length + 1 ≤ maxLen by unfold maxLen; omega)
            have G8 := Lib.hid hkn
            clear ho hgr hat hkn
            refine hK.out _ _ ?_ (fun hHeld => ?_)
            · exact (by have hx := X3.out.grow V8.out; have hk := (CK.out.grow V8.out).at hlt; rw [← HK.out] at hk; exact ⟨cellAt hx 0, cellAt hx 1, cellAt hx 2, hk⟩)
            clear hK K
            try simp only [Act.put, List.setIfInBounds_toArray, List.set_cons_zero, List.set_cons_succ]
            refine wpAnyH_ready (rs := [11]) (by kernel_rfl) (by simp) ?_
            refine AllReadyH.cons (o := { dst := some 43, op := Op.call { callee := Callee.value (Operand.func 98), args := #[Operand.tmp 32, Operand.tmp 41, Operand.tmp 42], argTypes := #[25, 104, 101] }, type := 101, pos := "ref.go:128", after := #[{ on := 0, ground := Ground.data }, { on := 9, ground := Ground.data }, { on := 10, ground := Ground.data }, { on := 9, ground := Ground.chain }], guard := none }) rfl (fun K hK => ?_) (AllReadyH.nil)
            clear hHeld
            obtain ⟨o9, q9, hv9, hk9, hb9⟩ := G8.out
            simp only [Value.slice.injEq] at hv9
            obtain ⟨rfl, -, -⟩ := hv9
            have I4 := I3.out.grow V8.out
            have O4 := O3.out.grow V8.out
            have hvlt : ∀ b, wr.heap.size ≤ b → u2.ownBlock ≠ some b := fun b hb e => by obtain ⟨hs, ho, _⟩ := O3.out.own; have := (ho.lt _ e).2; omega
            have CX := Lib.hid (IH.out (some ⟨g8, 0, none⟩) p8 (bl ++ [k]) u2 (ts ++ extI T d bl.length bl i) w8c (by simp; omega) ⟨I4.ss, I4.tt, by simpa using hk9, I4.ns, I4.nt, fun _ => hvlt _ (hb9 (Nat.succ_pos _))⟩ O4 (by have := HG.out.size; have := V8.out.size; omega) (by simpa using HCT.out))
            simp only [List.length_append, List.length_cons, List.length_nil, Nat.zero_add] at CX
            clear I4 O4 hvlt hk9 hb9
            go_simp
            refine CX.out.mono ?_
            rintro e w12 ⟨v', rfl, ho, hg, hnv⟩
            have O5 := Lib.hid ho
            have HG5 := Lib.hid hg
            have HN5 := Lib.hid hnv
            clear ho hg hnv CX
            go_wp2_with fail
            refine hK.out _ _ ?_ (fun hHeld => ?_)
            · have hx := BoxAt.kept (X3.out.grow V8.out) HG5.out (fun e => HN1.out e.symm); have hk := (show KnAt w12 oc N (knF (canL (T bl.length))) from Row.kept (CK.out.grow V8.out) HG5.out (fun _ => HN2.out)).at hlt; rw [← HK.out] at hk; exact ⟨cellAt hx 0, cellAt hx 1, cellAt hx 2, hk⟩
            clear hK K
            try simp only [Act.put, List.setIfInBounds_toArray, List.set_cons_zero, List.set_cons_succ]
            refine wpAnyH_take (i := 12) (oi := { dst := some 2, op := Op.assign (Operand.tmp 43), type := 101, pos := "ref.go:128", after := #[{ on := 11, ground := Ground.data }, { on := 11, ground := Ground.chain }, { on := 0, ground := Ground.phase }, { on := 1, ground := Ground.phase }, { on := 2, ground := Ground.phase }, { on := 3, ground := Ground.phase }, { on := 4, ground := Ground.phase }, { on := 5, ground := Ground.phase }, { on := 6, ground := Ground.phase }, { on := 7, ground := Ground.phase }, { on := 8, ground := Ground.phase }, { on := 9, ground := Ground.phase }, { on := 10, ground := Ground.phase }, { on := 11, ground := Ground.phase }], guard := none }) (v := ?_) rfl (by kernel_rfl) (by kernel_rfl) (by kernel_rfl) (fun _ _ _ h => h) (Or.inl ⟨by rfl, ?_⟩) (by assumption) ?_
            rotate_left
            · (intro w9 hSw; (try dsimp only at hSw); (go_split_ands; go_simp); (try with_reducible rfl))
            try simp only [Act.put, List.setIfInBounds_toArray, List.set_cons_zero, List.set_cons_succ]
            refine wpAnyH_done (by kernel_rfl) ?_ _
            go_wp2_with fail
            have hzz := V8.out.size
            have hx := BoxAt.kept (X3.out.grow V8.out) HG5.out (fun e => HN1.out e.symm)
            have hck : KnAt w12 oc N (knF (canL (T bl.length))) := Row.kept (CK.out.grow V8.out) HG5.out (fun _ => HN2.out)
            have hti := (I3.out.grow V8.out).next HG5.out HN5.out
            have hl1 := lt_of_heap X3.out
            have hl2 := CK.out.old (by omega)
            have hfr := grownBy_next (grownBy_below HG.out V8.out) HNV.out HG5.out
            have hnx := HNV.out.trans HN5.out (by have := HG.out.size; omega)
            exact ⟨⟨i + 1, hlt, by go_num, by rw [HES.out, ← List.append_assoc]; exact O5.out, hti, hx, HN5.out.ne (by omega) HN1.out, hck, HN5.out.ne (by omega) HN2.out, hfr, hnx⟩, by simp [intOf]; omega⟩
        · clear hHeld
          go_simp
          go_wp2_with fail
          generalize hW : World.alloc _ _ = w10c at *
          obtain ⟨n10, s10, b10⟩ := blocks1 hW
          have z10 := V0.out.size
          have V10 := Lib.hid (V0.out.next b10)
          have Y10 := Lib.hid (show BoxAt w10c WW.heap.size k.cells 128 from n10)
          clear n10 s10 b10 hW
          refine hK.out _ _ ?_ (fun hHeld => ?_)
          · exact (by have hx := X3.out.grow V10.out; have hk := (CK.out.grow V10.out).at hlt; rw [← HK.out] at hk; exact ⟨cellAt hx 0, cellAt hx 1, cellAt hx 2, hk⟩)
          clear hK K
          try simp only [Act.put, List.setIfInBounds_toArray, List.set_cons_zero, List.set_cons_succ]
          refine wpAnyH_ready (rs := [1]) (by kernel_rfl) (by simp) ?_
          refine AllReadyH.cons (o := { dst := some 33, op := Op.buildSlice 104 0 #[], type := 104, pos := "ref.go:128", after := #[], guard := none }) rfl (fun K hK => ?_) (AllReadyH.nil)
          clear hHeld
          go_simp
          go_wp2_with fail
          generalize hW : World.alloc _ _ = w11c at *
          obtain ⟨n11, s11, b11⟩ := blocks1 hW
          have z11 := V10.out.size
          have yl := lt_of_heap Y10.out
          have yne : WW.heap.size ≠ w10c.heap.size := by omega
          have V11 := Lib.hid (V10.out.next b11)
          have Y11 := Lib.hid (BoxAt.grow Y10.out b11)
          have E11 := Lib.hid (own_nil128 (B := wr.heap.size) n11 (by omega))
          clear n11 s11 b11 hW
          refine hK.out _ _ ?_ (fun hHeld => ?_)
          · exact (by have hx := X3.out.grow V11.out; have hk := (CK.out.grow V11.out).at hlt; rw [← HK.out] at hk; exact ⟨cellAt hx 0, cellAt hx 1, cellAt hx 2, hk⟩)
          clear hK K
          try simp only [Act.put, List.setIfInBounds_toArray, List.set_cons_zero, List.set_cons_succ]
          refine wpAnyH_ready (rs := [3]) (by kernel_rfl) (by simp) ?_
          refine AllReadyH.cons (o := { dst := some 35, op := Op.call { callee := Callee.builtin Builtin.append, args := #[Operand.tmp 33, Operand.tmp 34], argTypes := #[104, 104] }, type := 104, pos := "ref.go:128", after := #[{ on := 1, ground := Ground.data }, { on := 2, ground := Ground.data }], guard := none }) rfl (fun K hK => ?_) (AllReadyH.nil)
          clear hHeld
          refine step_kns (by rfl) (.tmp 33) (.tmp 34) (by rfl) (n := 0) (by rfl) E11.out (l := bl) rfl (by rfl) (I3.out.grow V11.out).beg (by omega) (.inl rfl) V11.out.size ?_
          intro g12 p12 w12c ho hgr hat
          simp only [Nat.zero_add, List.nil_append] at ho ⊢
          have V12 := Lib.hid (V11.out.of_grown hgr (E11.out.lt _ rfl).1 V11.out.size)
          have Y12 := Lib.hid (Y11.out.kept hgr (by simp; exact yne))
          have E12 := Lib.hid ho
          clear ho hgr hat
          refine hK.out _ _ ?_ (fun hHeld => ?_)
          · exact (by have hx := X3.out.grow V12.out; have hk := (CK.out.grow V12.out).at hlt; rw [← HK.out] at hk; exact ⟨cellAt hx 0, cellAt hx 1, cellAt hx 2, hk⟩)
          clear hK K
          try simp only [Act.put, List.setIfInBounds_toArray, List.set_cons_zero, List.set_cons_succ]
          refine wpAnyH_ready (rs := [9]) (by kernel_rfl) (by simp) ?_
          refine AllReadyH.cons (o := { dst := some 41, op := Op.call { callee := Callee.builtin Builtin.append, args := #[Operand.tmp 35, Operand.tmp 40], argTypes := #[104, 104] }, type := 104, pos := "ref.go:128", after := #[{ on := 3, ground := Ground.data }, { on := 8, ground := Ground.data }, { on := 3, ground := Ground.chain }], guard := none }) rfl (fun K hK => ?_) (AllReadyH.nil)
          clear hHeld
          refine step_kns (by rfl) (.tmp 35) (.tmp 40) (by rfl) (n := bl.length) (m := 1) (by rfl) E12.out (l := [k]) rfl (by rfl) (box_kn Y12.out) (by omega) (.inr (by omega)) V12.out.size ?_
          intro g13 p13 w13c ho hgr hat
          rw [knVals_app] at ho
          have V13 := Lib.hid (V12.out.of_grown hgr (E12.out.lt _ rfl).1 V12.out.size)
          have hkn := own_kns ho (by simp) (show bl.length + 1 ≤ maxLen by unfold maxLen; omega)
          have G13 := Lib.hid hkn
          clear ho hgr hat hkn
          refine hK.out _ _ ?_ (fun hHeld => ?_)
          · exact (by have hx := X3.out.grow V13.out; have hk := (CK.out.grow V13.out).at hlt; rw [← HK.out] at hk; exact ⟨cellAt hx 0, cellAt hx 1, cellAt hx 2, hk⟩)
          clear hK K
          try simp only [Act.put, List.setIfInBounds_toArray, List.set_cons_zero, List.set_cons_succ]
          refine wpAnyH_ready (rs := [11]) (by kernel_rfl) (by simp) ?_
          refine AllReadyH.cons (o := { dst := some 43, op := Op.call { callee := Callee.value (Operand.func 98), args := #[Operand.tmp 32, Operand.tmp 41, Operand.tmp 42], argTypes := #[25, 104, 101] }, type := 101, pos := "ref.go:128", after := #[{ on := 0, ground := Ground.data }, { on := 9, ground := Ground.data }, { on := 10, ground := Ground.data }, { on := 9, ground := Ground.chain }], guard := none }) rfl (fun K hK => ?_) (AllReadyH.nil)
          clear hHeld
          obtain ⟨o9, q9, hv9, hk9, hb9⟩ := G13.out
          simp only [Value.slice.injEq] at hv9
          obtain ⟨rfl, -, -⟩ := hv9
          have I4 := I3.out.grow V13.out
          have O4 := O3.out.grow V13.out
          have hvlt : ∀ b, wr.heap.size ≤ b → u2.ownBlock ≠ some b := fun b hb e => by obtain ⟨hs, ho, _⟩ := O3.out.own; have := (ho.lt _ e).2; omega
          have CX := Lib.hid (IH.out (some ⟨g13, 0, none⟩) p13 (bl ++ [k]) u2 (ts ++ extI T d bl.length bl i) w13c (by simp; omega) ⟨I4.ss, I4.tt, by simpa using hk9, I4.ns, I4.nt, fun _ => hvlt _ (hb9 (Nat.succ_pos _))⟩ O4 (by have := HG.out.size; have := V13.out.size; omega) (by simpa using HCT.out))
          simp only [List.length_append, List.length_cons, List.length_nil, Nat.zero_add] at CX
          clear I4 O4 hvlt hk9 hb9
          go_simp
          refine CX.out.mono ?_
          rintro e w12 ⟨v', rfl, ho, hg, hnv⟩
          have O5 := Lib.hid ho
          have HG5 := Lib.hid hg
          have HN5 := Lib.hid hnv
          clear ho hg hnv CX
          go_wp2_with fail
          refine hK.out _ _ ?_ (fun hHeld => ?_)
          · have hx := BoxAt.kept (X3.out.grow V13.out) HG5.out (fun e => HN1.out e.symm); have hk := (show KnAt w12 oc N (knF (canL (T bl.length))) from Row.kept (CK.out.grow V13.out) HG5.out (fun _ => HN2.out)).at hlt; rw [← HK.out] at hk; exact ⟨cellAt hx 0, cellAt hx 1, cellAt hx 2, hk⟩
          clear hK K
          try simp only [Act.put, List.setIfInBounds_toArray, List.set_cons_zero, List.set_cons_succ]
          refine wpAnyH_take (i := 12) (oi := { dst := some 2, op := Op.assign (Operand.tmp 43), type := 101, pos := "ref.go:128", after := #[{ on := 11, ground := Ground.data }, { on := 11, ground := Ground.chain }, { on := 0, ground := Ground.phase }, { on := 1, ground := Ground.phase }, { on := 2, ground := Ground.phase }, { on := 3, ground := Ground.phase }, { on := 4, ground := Ground.phase }, { on := 5, ground := Ground.phase }, { on := 6, ground := Ground.phase }, { on := 7, ground := Ground.phase }, { on := 8, ground := Ground.phase }, { on := 9, ground := Ground.phase }, { on := 10, ground := Ground.phase }, { on := 11, ground := Ground.phase }], guard := none }) (v := ?_) rfl (by kernel_rfl) (by kernel_rfl) (by kernel_rfl) (fun _ _ _ h => h) (Or.inl ⟨by rfl, ?_⟩) (by assumption) ?_
          rotate_left
          · (intro w9 hSw; (try dsimp only at hSw); (go_split_ands; go_simp); (try with_reducible rfl))
          try simp only [Act.put, List.setIfInBounds_toArray, List.set_cons_zero, List.set_cons_succ]
          refine wpAnyH_done (by kernel_rfl) ?_ _
          go_wp2_with fail
          have hzz := V13.out.size
          have hx := BoxAt.kept (X3.out.grow V13.out) HG5.out (fun e => HN1.out e.symm)
          have hck : KnAt w12 oc N (knF (canL (T bl.length))) := Row.kept (CK.out.grow V13.out) HG5.out (fun _ => HN2.out)
          have hti := (I3.out.grow V13.out).next HG5.out HN5.out
          have hl1 := lt_of_heap X3.out
          have hl2 := CK.out.old (by omega)
          have hfr := grownBy_next (grownBy_below HG.out V13.out) HNV.out HG5.out
          have hnx := HNV.out.trans HN5.out (by have := HG.out.size; omega)
          exact ⟨⟨i + 1, hlt, by go_num, by rw [HES.out, ← List.append_assoc]; exact O5.out, hti, hx, HN5.out.ne (by omega) HN1.out, hck, HN5.out.ne (by omega) HN2.out, hfr, hnx⟩, by simp [intOf]; omega⟩
      · obtain rfl : N = i := by omega
        have HE := Lib.hid (extI_full T d bl.length bl)
        go_wp2_with fail
        go_ret
        exact ⟨_, rfl, by rw [← HE.out, ← HN.out]; exact O3.out, HG.out, HNV.out⟩
end Go.Proofs.Ytbpeamppkdmdcaa
