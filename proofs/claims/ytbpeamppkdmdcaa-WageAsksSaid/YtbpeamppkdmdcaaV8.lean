/-
  Walks: of which ticket one should know more, by the reference: all tickets are tried.
-/
import Derived.Test.YtbpeamppkdmdcaaV3
import Derived.Test.YtbpeamppkdmdcaaG11
import Derived.Deep.Light
namespace Go.Proofs.Ytbpeamppkdmdcaa
open Go.RowKit
attribute [local go_sem ↓] Go.wp_at_zero Go.wp_at_succ

theorem countT_mono {T T' : Nat → Tk} {tn : Nat} (h : ∀ i, i < tn → (canL (T' i)).length ≤ (canL (T i)).length) : ∀ d m, m + d ≤ tn → countT T' d m ≤ countT T d m
  | 0, _, _ => Nat.le_refl _
  | d + 1, m, hm => Nat.mul_le_mul (h m (by omega)) (countT_mono h d (m + 1) (by omega))
theorem canL_exact (t : Tk) (k : Kn) : (canL (t.exact k)).length = 1 := by
  unfold canL
  rw [aL_len]
  unfold aN bN kN Tk.exact
  simp only [Int.sub_self]
  rfl
theorem countT_fix {cr : Int} {sn tn : Nat} {S : Nat → Sm} {T : Nat → Tk} (hv : Valid cr sn tn S T) {n : Nat} (_hn : n < tn) (k : Kn) : countT (updT T n ((T n).exact k)) tn 0 ≤ countT T tn 0 :=
  countT_mono (fun i hi => by
    unfold updT
    split
    · rw [canL_exact]; exact (canL_len (hv.allSpans i hi)).2
    · exact Nat.le_refl _) tn 0 (by omega)
def bestI (g : Nat → Int) (n : Nat) : Int := if n = 0 then -1 else ((fewI g n : Nat) : Int)
theorem take_snoc (l : List Kn) {i : Nat} (hi : i < l.length) : l.take (i + 1) = l.take i ++ [knF l i] := by
  rw [List.take_add_one]
  congr 1
  unfold knF
  rw [List.getD_eq_getElem?_getD, List.getElem?_eq_getElem hi]
  rfl
theorem knF_mem (l : List Kn) {i : Nat} (hi : i < l.length) : knF l i ∈ l := by
  unfold knF
  rw [List.getD_eq_getElem?_getD, List.getElem?_eq_getElem hi]
  exact List.getElem_mem hi

structure AL (w : World) (cr : Int) (sa ta : Option Addr) (sn sc tn tc : Nat) (S : Nat → Sm) (T : Nat → Tk) (w2 : World) (oa : Option Addr) (len : Nat) (L : Nat → Kn) (W : World) : Prop where
  wb : WB w cr sa ta sn sc tn tc S T w.heap.size W
  l : KnAt W oa len L
  so : 0 < sn → blk sa < w.heap.size
  tq : 0 < tn → blk ta < w.heap.size
  lo : 0 < len → blk oa < w2.heap.size
  sz : w.heap.size < w2.heap.size
  up : w2.heap.size ≤ W.heap.size
section
variable {w : World} {cr : Int} {sa ta : Option Addr} {sn sc tn tc : Nat} {S : Nat → Sm} {T : Nat → Tk} {w2 : World} {oa : Option Addr} {len : Nat} {L : Nat → Kn} {W W2 : World}
theorem AL.grow (h : AL w cr sa ta sn sc tn tc S T w2 oa len L W) (hb : Below W.heap.size W W2) : AL w cr sa ta sn sc tn tc S T w2 oa len L W2 := ⟨h.wb.grow hb, h.l.grow hb, h.so, h.tq, h.lo, h.sz, Nat.le_trans h.up hb.size⟩
theorem AL.set (h : AL w cr sa ta sn sc tn tc S T w2 oa len L W) (p : Addr) (v : Value) (hp : w2.heap.size ≤ p.block) : AL w cr sa ta sn sc tn tc S T w2 oa len L (W.setCell p v) := by
  have := h.sz
  refine ⟨⟨h.wb.bel.setCell (by omega) v, h.wb.box.set p v (by omega), h.wb.ss.set p v (fun h0 => by have := h.so h0; omega), h.wb.tt.set p v (fun h0 => by have := h.tq h0; omega)⟩, Row.set h.l p v (fun h0 => by have := h.lo h0; omega), h.so, h.tq, h.lo, h.sz, ?_⟩
  rw [size_setCell]
  exact h.up
end

attribute [local go_sem] List.getElem?_toArray List.getElem?_cons_zero List.getElem?_cons_succ
set_option maxRecDepth 100000 in
set_option maxHeartbeats 4000000 in
theorem askR_any (cr : Int) (sa ta : Option Addr) (sn sc tn tc : Nat) (S : Nat → Sm) (T : Nat → Tk) (c : Int) (w : World) (hS : SeamsAt w sa sn S) (hT : TicketsAt w ta tn T) (hc : Valid cr sn tn S T → countT T tn 0 ≤ 2000) :
    Calls Try.prog 29 #[.agg #[.int .i64 cr, .slice sa sn sc, .slice ta tn tc], .int .i64 c] w (AskSaid w (Valid cr sn tn S T) (inB c 0 (cr - 1)) S T sn tn c) := by
  have I0 := Lib.hid (WB.new (cr := cr) (sc := sc) (tc := tc) hS hT)
  have SO := Lib.hid (show 0 < sn → blk sa < w.heap.size from hS.old)
  have TO := Lib.hid (show 0 < tn → blk ta < w.heap.size from hT.old)
  have HC := Lib.hid hc
  clear hS hT hc
  go_enter Try.func29, Try.ntmps29
  go_wp2_with (go_at_call 22; refine (dueR_any cr sa ta sn sc tn tc S T c _ I0.out.ss I0.out.tt HC.out).mono ?_)
  rintro e w1 ⟨hb, ⟨hv, hi, rfl⟩ | ⟨hv, hi, rfl⟩ | ⟨hv, rfl⟩⟩
  rotate_left
  · have I1 := Lib.hid (I0.out.grow hb)
    have HV := Lib.hid hv
    have HT := Lib.hid hi
    clear hv hi hb I0
    go_wp2_with fail
    refine bodyPost_ret (v := .tuple #[.int .i64 0, .int .i64 0, .int .i64 2]) (by simp [results, Try.results29, go_sem]) rfl ?_
    exact ⟨(I1.out.grow (ba _ _)).bel, .inr (.inr (.inl ⟨HV.out, HT.out, rfl⟩))⟩
  · have I1 := Lib.hid (I0.out.grow hb)
    have HV := Lib.hid hv
    clear hv hb I0
    go_wp2_with fail
    refine bodyPost_ret (v := .tuple #[.int .i64 0, .int .i64 0, .int .i64 1]) (by simp [results, Try.results29, go_sem]) rfl ?_
    exact ⟨(I1.out.grow (ba _ _)).bel, .inr (.inr (.inr ⟨HV.out, rfl⟩))⟩
  have I1 := Lib.hid (I0.out.grow hb)
  have HV := Lib.hid hv
  have HT := Lib.hid hi
  have htn6 := hv.tn6
  have hlo := coinsOf_bd hv (leastK c T) c
  have hhi := coinsOf_bd hv (mostK c T) c
  obtain ⟨lo, elo⟩ : ∃ lo, lo = coinsOf S T (leastK c T) sn tn c := ⟨_, rfl⟩
  obtain ⟨hi9, ehi⟩ : ∃ hi9, hi9 = coinsOf S T (mostK c T) sn tn c := ⟨_, rfl⟩
  have hsp : spreadOf S T sn tn c = hi9 - lo := by rw [elo, ehi]; rfl
  rw [← elo, ← ehi]
  rw [← elo] at hlo
  rw [← ehi] at hhi
  have HSP := Lib.hid hsp
  clear hv hi hb I0 elo ehi hsp
  have d0 := cellAt I1.out.box 0
  have d1 := cellAt I1.out.box 1
  have d2 := cellAt I1.out.box 2
  simp only [List.getElem?_toArray, List.getElem?_cons_zero, List.getElem?_cons_succ] at d0 d1 d2
  by_cases hz : lo = hi9
  · subst hz
    go_wp2_with fail
    refine bodyPost_ret (v := .tuple #[.int .i64 0, .int .i64 0, .int .i64 11]) (by simp [results, Try.results29, go_sem]) rfl ?_
    exact ⟨(I1.out.grow (ba _ _)).bel, .inr (.inl ⟨HV.out, HT.out, by rw [HSP.out]; omega, rfl⟩)⟩
  have hbe : (lo == hi9) = false := by simpa using hz
  go_wp2_with fail
  clear hbe
  have I3 := Lib.hid (show WB w cr sa ta sn sc tn tc S T w.heap.size (w1.alloc (.cells #[.int .i64 lo, .int .i64 hi9] 29)) from I1.out.grow (ba w1 _))
  have hsz := I1.out.bel.size
  have hsz3 : w.heap.size < (w1.alloc (.cells #[.int .i64 lo, .int .i64 hi9] 29)).heap.size := by rw [sizeAlloc]; omega
  generalize World.alloc _ _ = w3 at *
  have htn0 : 0 < tn := by
    rcases Nat.eq_zero_or_pos tn with h | h
    · subst h; have := spread_none S T sn c; have := HSP.out; omega
    · exact h
  obtain ⟨g, eg⟩ : ∃ g : Nat → Int, g = wideOf S T sn tn c := ⟨_, rfl⟩
  have HG := Lib.hid eg
  clear eg d0 d1 d2 I1 hsz
  go_loopw [9, 10, 11] (fun b m i W => ∃ n : Nat, n ≤ tn ∧ i = .int .i64 n ∧ b = .int .i64 (bestI g n) ∧ m = .int .i64 (fewV g n) ∧ WB w cr sa ta sn sc tn tc S T w.heap.size W ∧ w3.heap.size ≤ W.heap.size) (fun _ _ i _ => tn - (intOf i).toNat)
  case atStart => exact ⟨0, Nat.zero_le _, rfl, rfl, rfl, I3.out, Nat.le_refl _⟩
  case round =>
    clear I3
    obtain ⟨n, hn, rfl, hbv, hmv, hI, hsW⟩ := hrel
    obtain ⟨bv, ebv⟩ : ∃ bv, bv = bestI g n := ⟨_, rfl⟩
    obtain ⟨mv, emv⟩ : ∃ mv, mv = fewV g n := ⟨_, rfl⟩
    rw [← ebv] at hbv
    rw [← emv] at hmv
    subst hbv
    subst hmv
    have HBV := Lib.hid ebv
    have HMV := Lib.hid emv
    clear ebv emv
    have HI := Lib.hid hI
    clear hI
    have d2 := cellAt HI.out.box 2
    simp only [List.getElem?_toArray, List.getElem?_cons_zero, List.getElem?_cons_succ] at d2
    by_cases hlt : n < tn
    · have hti := fun w => run_indexAt_row (w := w) (cap := tc) Try.underlying23 size58 (HI.out.tt.plain (by omega)) hlt
      obtain ⟨k0, k1, k2, k3, k4, k5, k6, k7⟩ := HI.out.tt.at hlt
      go_wp2_with (go_at_call 82; refine (canR_any (T n) (HV.out.allSpans n hlt) _).mono ?_)
      rintro e w4 ⟨oa, cap, rfl, hkn, hob, hb4⟩
      obtain ⟨len, elen⟩ : ∃ len, len = (canL (T n)).length := ⟨_, rfl⟩
      have A0 := Lib.hid (show AL w cr sa ta sn sc tn tc S T w4 oa len (knF (canL (T n))) w4 from ⟨HI.out.grow hb4, elen ▸ hkn, SO.out, TO.out, fun h => hkn.old (elen ▸ h), Nat.lt_of_lt_of_le hsz3 (Nat.le_trans hsW hb4.size), Nat.le_refl _⟩)
      rw [← elen]
      have hsW4 := Nat.le_trans hsW hb4.size
      have HLN := Lib.hid elen
      have hl64 : len ≤ 64 := by rw [elen]; exact (canL_len (HV.out.allSpans n hlt)).1
      clear hkn hob hb4 HI k0 k1 k2 k3 k4 k5 k6 k7 d2 hti elen hsW
      go_wp2_with fail
      go_loopw [13, 14] (fun m i W => ∃ j : Nat, j ≤ len ∧ i = .int .i64 j ∧ m = .int .i64 (worst S T sn tn c n ((canL (T n)).take j)) ∧ AL w cr sa ta sn sc tn tc S T w4 oa len (knF (canL (T n))) W) (fun _ i _ => len - (intOf i).toNat)
      case atStart => exact ⟨0, Nat.zero_le _, rfl, rfl, A0.out⟩
      case round =>
        clear A0
        obtain ⟨j, hj, rfl, hMv, hA⟩ := hrel
        obtain ⟨M, eM⟩ : ∃ M, M = worst S T sn tn c n ((canL (T n)).take j) := ⟨_, rfl⟩
        rw [← eM] at hMv
        subst hMv
        have HA := Lib.hid hA
        clear hA
        by_cases hjl : j < len
        · have hjl' : j < (canL (T n)).length := by rw [← HLN.out]; exact hjl
          have hin := mem_canL (knF_mem (canL (T n)) hjl')
          have hwo := worst_snoc S T sn tn c n ((canL (T n)).take j) (knF (canL (T n)) j)
          rw [← take_snoc (canL (T n)) hjl'] at hwo
          obtain ⟨K, eK⟩ : ∃ K, K = knF (canL (T n)) j := ⟨_, rfl⟩
          rw [← eK] at hin hwo
          have HKJ := Lib.hid eK
          have hvf := HV.out.fix hlt (k := K) hin
          have hcf : countT (updT T n ((T n).exact K)) tn 0 ≤ 2000 := Nat.le_trans (countT_fix HV.out hlt K) (HC.out HV.out)
          have hbl := coinsOf_bd hvf (leastK c (updT T n ((T n).exact K))) c
          have hbh := coinsOf_bd hvf (mostK c (updT T n ((T n).exact K))) c
          have FX := Lib.hid (fun W (hA : AL w cr sa ta sn sc tn tc S T w4 oa len (knF (canL (T n))) W) => fixed_ref cr sa ta sn sc tn tc T W hA.wb.tt htn6 n hlt K)
          have DX := Lib.hid (fun W (hA : AL w cr sa ta sn sc tn tc S T w4 oa len (knF (canL (T n))) W) g2 cap2 (h2 : TicketsAt W (some ⟨g2, 0, none⟩) tn (updT T n ((T n).exact K))) => (show Calls Try.prog 68 _ _ (fun e w' => e = .returned (.agg #[.int .i64 (coinsOf S (updT T n ((T n).exact K)) (leastK c (updT T n ((T n).exact K))) sn tn c), .int .i64 (coinsOf S (updT T n ((T n).exact K)) (mostK c (updT T n ((T n).exact K))) sn tn c)]) ∧ Below _ _ w') from by
            have h := duesR_any cr sa (some ⟨g2, 0, none⟩) sn sc tn cap2 S (updT T n ((T n).exact K)) c W hvf hA.wb.ss h2 hcf
            rw [(coins_span hvf c).1, (coins_span hvf c).2] at h
            exact h))
          have hsd : spreadOf S (updT T n ((T n).exact K)) sn tn c = coinsOf S (updT T n ((T n).exact K)) (mostK c (updT T n ((T n).exact K))) sn tn c - coinsOf S (updT T n ((T n).exact K)) (leastK c (updT T n ((T n).exact K))) sn tn c := rfl
          obtain ⟨l2, el2⟩ : ∃ l2, l2 = coinsOf S (updT T n ((T n).exact K)) (leastK c (updT T n ((T n).exact K))) sn tn c := ⟨_, rfl⟩
          obtain ⟨h2, eh2⟩ : ∃ h2, h2 = coinsOf S (updT T n ((T n).exact K)) (mostK c (updT T n ((T n).exact K))) sn tn c := ⟨_, rfl⟩
          rw [← el2] at DX hsd hbl
          rw [← eh2] at DX hsd hbh
          rw [hsd] at hwo
          have hwr : IntKind.i64.wrap (h2 - l2) = h2 - l2 := IntWalk.i64_in _ (by omega)
          rw [← eM] at hwo
          rw [max_if] at hwo
          obtain ⟨d, ed⟩ : ∃ d, d = h2 - l2 := ⟨_, rfl⟩
          rw [← ed] at hwo hwr
          have HWO := Lib.hid hwo
          have HW6 := Lib.hid (show wrap64 (h2 - l2) = d by rw [← ed, ← IntWalk.i64_left]; exact hwr)
          clear hwo hsd el2 eh2 eM ed hwr hbl hbh hvf hcf hin eK
          have hix := fun w => run_indexAt_row (w := w) (cap := cap) Try.underlying104 size128 (HA.out.l.plain (by omega)) hjl
          go_wp2_with fail
          have P0 := Lib.hid (HA.out.grow (Below.drew (Below.refl _ _)))
          clear HA
          refine wp_region_held_drew (S := (fun w' => w'.cell? ⟨w.heap.size, 0, none⟩ = some (.int .i64 cr) ∧ w'.cell? ⟨w.heap.size, 1, none⟩ = some (.slice sa sn sc) ∧ w'.cell? ⟨w.heap.size, 2, none⟩ = some (.slice ta tn tc) ∧ w'.cell? ⟨blk oa, ofs oa + j * 3, none⟩ = some (.int .i64 K.fr) ∧ w'.cell? ⟨blk oa, ofs oa + j * 3 + 1, none⟩ = some (.int .i64 K.to) ∧ w'.cell? ⟨blk oa, ofs oa + j * 3 + 2, none⟩ = some (.int .i64 K.td))) (by kernel_rfl) (by exact (by have hm := P0.out; have hl := hm.l.at hjl; rw [← HKJ.out] at hl; exact ⟨cellAt hm.wb.box 0, cellAt hm.wb.box 1, cellAt hm.wb.box 2, hl.1, hl.2.1, hl.2.2⟩)) (fun hHeld => ?_)
          generalize World.drew wr = WW at *
          refine wpAnyH_take (i := 0) (oi := { dst := some 49, op := Op.load 25 (Operand.tmp 2), type := 25, pos := "ref.go:301", after := #[], guard := none }) (v := ?_) rfl (by kernel_rfl) (by kernel_rfl) (by kernel_rfl) (fun _ _ _ h => h) (Or.inl ⟨by rfl, ?_⟩) (by assumption) ?_
          rotate_left
          · (intro w9 hSw; (try dsimp only at hSw); (go_split_ands; go_simp); (try with_reducible rfl))
          try simp only [Act.put, List.setIfInBounds_toArray, List.set_cons_zero, List.set_cons_succ]
          refine wpAnyH_take (i := 1) (oi := { dst := some 50, op := Op.move (Operand.tmp 11), type := 3, pos := "ref.go:301", after := #[], guard := none }) (v := ?_) rfl (by kernel_rfl) (by kernel_rfl) (by kernel_rfl) (fun _ _ _ h => h) (Or.inl ⟨by rfl, ?_⟩) (by assumption) ?_
          rotate_left
          · (intro w9 hSw; (try dsimp only at hSw); (go_split_ands; go_simp); (try with_reducible rfl))
          try simp only [Act.put, List.setIfInBounds_toArray, List.set_cons_zero, List.set_cons_succ]
          refine wpAnyH_take (i := 2) (oi := { dst := some 51, op := Op.move (Operand.tmp 12), type := 104, pos := "ref.go:301", after := #[], guard := none }) (v := ?_) rfl (by kernel_rfl) (by kernel_rfl) (by kernel_rfl) (fun _ _ _ h => h) (Or.inl ⟨by rfl, ?_⟩) (by assumption) ?_
          rotate_left
          · (intro w9 hSw; (try dsimp only at hSw); (go_split_ands; go_simp); (try with_reducible rfl))
          try simp only [Act.put, List.setIfInBounds_toArray, List.set_cons_zero, List.set_cons_succ]
          refine wpAnyH_take (i := 3) (oi := { dst := some 52, op := Op.move (Operand.tmp 14), type := 3, pos := "ref.go:301", after := #[], guard := none }) (v := ?_) rfl (by kernel_rfl) (by kernel_rfl) (by kernel_rfl) (fun _ _ _ h => h) (Or.inl ⟨by rfl, ?_⟩) (by assumption) ?_
          rotate_left
          · (intro w9 hSw; (try dsimp only at hSw); (go_split_ands; go_simp); (try with_reducible rfl))
          try simp only [Act.put, List.setIfInBounds_toArray, List.set_cons_zero, List.set_cons_succ]
          refine wpAnyH_take (i := 4) (oi := { dst := some 53, op := Op.indexAddr 104 (Operand.tmp 51) (Operand.tmp 52), type := 0, pos := "ref.go:301", after := #[{ on := 2, ground := Ground.data }, { on := 3, ground := Ground.data }], guard := none }) (v := ?_) rfl (by kernel_rfl) (by kernel_rfl) (by kernel_rfl) (fun _ _ _ h => h) (Or.inl ⟨by rfl, ?_⟩) (by assumption) ?_
          rotate_left
          · (intro w9 hSw; (try dsimp only at hSw); (go_split_ands; go_simp); (try with_reducible rfl))
          try simp only [Act.put, List.setIfInBounds_toArray, List.set_cons_zero, List.set_cons_succ]
          refine wpAnyH_take (i := 5) (oi := { dst := some 54, op := Op.load 128 (Operand.tmp 53), type := 128, pos := "ref.go:301", after := #[{ on := 4, ground := Ground.data }], guard := none }) (v := ?_) rfl (by kernel_rfl) (by kernel_rfl) (by kernel_rfl) (fun _ _ _ h => h) (Or.inl ⟨by rfl, ?_⟩) (by assumption) ?_
          rotate_left
          · (intro w9 hSw; (try dsimp only at hSw); (go_split_ands; go_simp); (try with_reducible rfl))
          try simp only [Act.put, List.setIfInBounds_toArray, List.set_cons_zero, List.set_cons_succ]
          refine wpAnyH_take (i := 7) (oi := { dst := some 56, op := Op.move (Operand.tmp 1), type := 3, pos := "ref.go:301", after := #[], guard := none }) (v := ?_) rfl (by kernel_rfl) (by kernel_rfl) (by kernel_rfl) (fun _ _ _ h => h) (Or.inl ⟨by rfl, ?_⟩) (by assumption) ?_
          rotate_left
          · (intro w9 hSw; (try dsimp only at hSw); (go_split_ands; go_simp); (try with_reducible rfl))
          try simp only [Act.put, List.setIfInBounds_toArray, List.set_cons_zero, List.set_cons_succ]
          refine wpAnyH_ready (rs := [6, 9]) (by kernel_rfl) (by simp) ?_
          refine AllReadyH.cons (o := { dst := some 55, op := Op.call { callee := Callee.value (Operand.func 83), args := #[Operand.tmp 49, Operand.tmp 50, Operand.tmp 54], argTypes := #[25, 3, 128] }, type := 25, pos := "ref.go:301", after := #[{ on := 0, ground := Ground.data }, { on := 1, ground := Ground.data }, { on := 5, ground := Ground.data }], guard := none }) rfl (fun K1 hK => ?_) (AllReadyH.cons (o := { dst := some 15, op := Op.alloc 29, type := 0, pos := "ref.go:301", after := #[], guard := none }) rfl (fun K1 hK => ?_) (AllReadyH.nil))
          · clear hHeld
            go_simp
            refine (FX.out _ P0.out).mono ?_
            rintro e W1 ⟨g2, cap2, hg2, rfl, ht2, hb1⟩
            have P1 := Lib.hid (P0.out.grow hb1)
            have T1 := Lib.hid ht2
            clear hb1 ht2 hg2
            go_wp2_with fail
            refine hK.out _ _ ?_ (fun hHeld => ?_)
            · exact (by have hm := P1.out; have hl := hm.l.at hjl; rw [← HKJ.out] at hl; exact ⟨cellAt hm.wb.box 0, cellAt hm.wb.box 1, cellAt hm.wb.box 2, hl.1, hl.2.1, hl.2.2⟩)
            clear hK K1
            try simp only [Act.put, List.setIfInBounds_toArray, List.set_cons_zero, List.set_cons_succ]
            refine wpAnyH_ready (rs := [8, 9]) (by kernel_rfl) (by simp) ?_
            refine AllReadyH.cons (o := { dst := some 57, op := Op.call { callee := Callee.value (Operand.func 68), args := #[Operand.tmp 55, Operand.tmp 56], argTypes := #[25, 3] }, type := 29, pos := "ref.go:301", after := #[{ on := 6, ground := Ground.data }, { on := 7, ground := Ground.data }, { on := 6, ground := Ground.chain }], guard := none }) rfl (fun K1 hK => ?_) (AllReadyH.cons (o := { dst := some 15, op := Op.alloc 29, type := 0, pos := "ref.go:301", after := #[], guard := none }) rfl (fun K1 hK => ?_) (AllReadyH.nil))
            · clear hHeld
              go_simp
              refine (DX.out _ P1.out g2 cap2 T1.out).mono ?_
              rintro e W2 ⟨rfl, hb2⟩
              have P2 := Lib.hid (P1.out.grow hb2)
              have T2 := Lib.hid (T1.out.grow hb2)
              clear hb2
              go_wp2_with fail
              refine hK.out _ _ ?_ (fun hHeld => ?_)
              · exact (by have hm := P2.out; have hl := hm.l.at hjl; rw [← HKJ.out] at hl; exact ⟨cellAt hm.wb.box 0, cellAt hm.wb.box 1, cellAt hm.wb.box 2, hl.1, hl.2.1, hl.2.2⟩)
              clear hK K1
              try simp only [Act.put, List.setIfInBounds_toArray, List.set_cons_zero, List.set_cons_succ]
              refine wpAnyH_ready (rs := [9]) (by kernel_rfl) (by simp) ?_
              refine AllReadyH.cons (o := { dst := some 15, op := Op.alloc 29, type := 0, pos := "ref.go:301", after := #[], guard := none }) rfl (fun K1 hK => ?_) (AllReadyH.nil)
              clear hHeld
              go_simp
              go_wp2_with fail
              have hbs3 := P2.out.up
              generalize hW : World.alloc _ _ = W3 at *
              obtain ⟨n3, s3, b3⟩ := blocks1 hW
              have P3 := Lib.hid (P2.out.grow b3)
              have T3 := Lib.hid (T2.out.grow b3)
              have B3 := Lib.hid (show BoxAt W3 W2.heap.size #[.int .i64 0, .int .i64 0] 29 from n3)
              clear n3 s3 b3 hW
              refine hK.out _ _ ?_ (fun hHeld => ?_)
              · exact (by have hm := P3.out; have hl := hm.l.at hjl; rw [← HKJ.out] at hl; exact ⟨cellAt hm.wb.box 0, cellAt hm.wb.box 1, cellAt hm.wb.box 2, hl.1, hl.2.1, hl.2.2⟩)
              clear hK K1
              try simp only [Act.put, List.setIfInBounds_toArray, List.set_cons_zero, List.set_cons_succ]
              refine wpAnyH_ready (rs := [10]) (by kernel_rfl) (by simp) ?_
              refine AllReadyH.cons (o := { dst := none, op := Op.store 29 (Operand.tmp 15) (Operand.tmp 57), type := 0, pos := "ref.go:301", after := #[{ on := 9, ground := Ground.data }, { on := 8, ground := Ground.data }, { on := 8, ground := Ground.chain }, { on := 0, ground := Ground.phase }, { on := 1, ground := Ground.phase }, { on := 2, ground := Ground.phase }, { on := 3, ground := Ground.phase }, { on := 4, ground := Ground.phase }, { on := 5, ground := Ground.phase }, { on := 6, ground := Ground.phase }, { on := 7, ground := Ground.phase }, { on := 8, ground := Ground.phase }, { on := 9, ground := Ground.phase }], guard := none }) rfl (fun K1 hK => ?_) (AllReadyH.nil)
              clear hHeld
              have f0 := freeAt B3.out 0
              have f1 := freeAt B3.out 1
              have c0 := cellAt B3.out 0
              have c1 := cellAt B3.out 1
              simp only [List.getElem?_toArray, List.getElem?_cons_zero, List.getElem?_cons_succ] at c0 c1
              go_simp
              have PZ := Lib.hid ((P3.out.set ⟨W2.heap.size, 0, none⟩ (.int .i64 l2) hbs3).set ⟨W2.heap.size, 1, none⟩ (.int .i64 h2) hbs3)
              have BZ := Lib.hid ((B3.out.store 0 (.int .i64 l2)).store 1 (.int .i64 h2))
              clear f0 f1 c0 c1
              obtain ⟨WZ, hW⟩ : ∃ W, W = (W3.setCell ⟨W2.heap.size, 0, none⟩ (.int .i64 l2)).setCell ⟨W2.heap.size, 1, none⟩ (.int .i64 h2) := ⟨_, rfl⟩
              rw [← hW] at PZ BZ ⊢
              clear hW
              refine hK.out _ _ ?_ (fun hHeld => ?_)
              · exact (by have hm := PZ.out; have hl := hm.l.at hjl; rw [← HKJ.out] at hl; exact ⟨cellAt hm.wb.box 0, cellAt hm.wb.box 1, cellAt hm.wb.box 2, hl.1, hl.2.1, hl.2.2⟩)
              clear hK K1
              try simp only [Act.put]
              refine wpAnyH_done (by kernel_rfl) ?_ _
              clear hHeld
              have z0 := cellAt BZ.out 0
              have z1 := cellAt BZ.out 1
              simp at z0 z1
              by_cases hMd : M < d
              · rw [if_pos hMd] at HWO
                have HMD := Lib.hid hMd
                clear hMd
                go_wp2_with fail
                exact ⟨⟨j + 1, hjl, by go_num, by rw [HWO.out, HW6.out, if_pos HMD.out], PZ.out⟩, by simp [intOf]; omega⟩
              · rw [if_neg hMd] at HWO
                have HMD := Lib.hid hMd
                clear hMd
                go_wp2_with fail
                exact ⟨⟨j + 1, hjl, by go_num, by rw [HWO.out, HW6.out, if_neg HMD.out], PZ.out⟩, by simp [intOf]; omega⟩
            · clear hHeld
              go_simp
              go_wp2_with fail
              have hbs5 := P1.out.up
              generalize hW : World.alloc _ _ = W5 at *
              obtain ⟨n5, s5, b5⟩ := blocks1 hW
              have P5 := Lib.hid (P1.out.grow b5)
              have T5 := Lib.hid (T1.out.grow b5)
              have B5 := Lib.hid (show BoxAt W5 W1.heap.size #[.int .i64 0, .int .i64 0] 29 from n5)
              clear n5 s5 b5 hW
              refine hK.out _ _ ?_ (fun hHeld => ?_)
              · exact (by have hm := P5.out; have hl := hm.l.at hjl; rw [← HKJ.out] at hl; exact ⟨cellAt hm.wb.box 0, cellAt hm.wb.box 1, cellAt hm.wb.box 2, hl.1, hl.2.1, hl.2.2⟩)
              clear hK K1
              try simp only [Act.put, List.setIfInBounds_toArray, List.set_cons_zero, List.set_cons_succ]
              refine wpAnyH_ready (rs := [8]) (by kernel_rfl) (by simp) ?_
              refine AllReadyH.cons (o := { dst := some 57, op := Op.call { callee := Callee.value (Operand.func 68), args := #[Operand.tmp 55, Operand.tmp 56], argTypes := #[25, 3] }, type := 29, pos := "ref.go:301", after := #[{ on := 6, ground := Ground.data }, { on := 7, ground := Ground.data }, { on := 6, ground := Ground.chain }], guard := none }) rfl (fun K1 hK => ?_) (AllReadyH.nil)
              clear hHeld
              go_simp
              refine (DX.out _ P5.out g2 cap2 T5.out).mono ?_
              rintro e W6 ⟨rfl, hb6⟩
              have P6 := Lib.hid (P5.out.grow hb6)
              have T6 := Lib.hid (T5.out.grow hb6)
              have B6 := Lib.hid (BoxAt.grow B5.out hb6)
              clear hb6
              go_wp2_with fail
              refine hK.out _ _ ?_ (fun hHeld => ?_)
              · exact (by have hm := P6.out; have hl := hm.l.at hjl; rw [← HKJ.out] at hl; exact ⟨cellAt hm.wb.box 0, cellAt hm.wb.box 1, cellAt hm.wb.box 2, hl.1, hl.2.1, hl.2.2⟩)
              clear hK K1
              try simp only [Act.put, List.setIfInBounds_toArray, List.set_cons_zero, List.set_cons_succ]
              refine wpAnyH_ready (rs := [10]) (by kernel_rfl) (by simp) ?_
              refine AllReadyH.cons (o := { dst := none, op := Op.store 29 (Operand.tmp 15) (Operand.tmp 57), type := 0, pos := "ref.go:301", after := #[{ on := 9, ground := Ground.data }, { on := 8, ground := Ground.data }, { on := 8, ground := Ground.chain }, { on := 0, ground := Ground.phase }, { on := 1, ground := Ground.phase }, { on := 2, ground := Ground.phase }, { on := 3, ground := Ground.phase }, { on := 4, ground := Ground.phase }, { on := 5, ground := Ground.phase }, { on := 6, ground := Ground.phase }, { on := 7, ground := Ground.phase }, { on := 8, ground := Ground.phase }, { on := 9, ground := Ground.phase }], guard := none }) rfl (fun K1 hK => ?_) (AllReadyH.nil)
              clear hHeld
              have f0 := freeAt B6.out 0
              have f1 := freeAt B6.out 1
              have c0 := cellAt B6.out 0
              have c1 := cellAt B6.out 1
              simp only [List.getElem?_toArray, List.getElem?_cons_zero, List.getElem?_cons_succ] at c0 c1
              go_simp
              have PZ := Lib.hid ((P6.out.set ⟨W1.heap.size, 0, none⟩ (.int .i64 l2) hbs5).set ⟨W1.heap.size, 1, none⟩ (.int .i64 h2) hbs5)
              have BZ := Lib.hid ((B6.out.store 0 (.int .i64 l2)).store 1 (.int .i64 h2))
              clear f0 f1 c0 c1
              obtain ⟨WZ, hW⟩ : ∃ W, W = (W6.setCell ⟨W1.heap.size, 0, none⟩ (.int .i64 l2)).setCell ⟨W1.heap.size, 1, none⟩ (.int .i64 h2) := ⟨_, rfl⟩
              rw [← hW] at PZ BZ ⊢
              clear hW
              refine hK.out _ _ ?_ (fun hHeld => ?_)
              · exact (by have hm := PZ.out; have hl := hm.l.at hjl; rw [← HKJ.out] at hl; exact ⟨cellAt hm.wb.box 0, cellAt hm.wb.box 1, cellAt hm.wb.box 2, hl.1, hl.2.1, hl.2.2⟩)
              clear hK K1
              try simp only [Act.put]
              refine wpAnyH_done (by kernel_rfl) ?_ _
              clear hHeld
              have z0 := cellAt BZ.out 0
              have z1 := cellAt BZ.out 1
              simp at z0 z1
              by_cases hMd : M < d
              · rw [if_pos hMd] at HWO
                have HMD := Lib.hid hMd
                clear hMd
                go_wp2_with fail
                exact ⟨⟨j + 1, hjl, by go_num, by rw [HWO.out, HW6.out, if_pos HMD.out], PZ.out⟩, by simp [intOf]; omega⟩
              · rw [if_neg hMd] at HWO
                have HMD := Lib.hid hMd
                clear hMd
                go_wp2_with fail
                exact ⟨⟨j + 1, hjl, by go_num, by rw [HWO.out, HW6.out, if_neg HMD.out], PZ.out⟩, by simp [intOf]; omega⟩
          · clear hHeld
            go_simp
            go_wp2_with fail
            have hbs8 := P0.out.up
            generalize hW : World.alloc _ _ = W8 at *
            obtain ⟨n8, s8, b8⟩ := blocks1 hW
            have P8 := Lib.hid (P0.out.grow b8)
            have B8 := Lib.hid (show BoxAt W8 WW.heap.size #[.int .i64 0, .int .i64 0] 29 from n8)
            clear n8 s8 b8 hW
            refine hK.out _ _ ?_ (fun hHeld => ?_)
            · exact (by have hm := P8.out; have hl := hm.l.at hjl; rw [← HKJ.out] at hl; exact ⟨cellAt hm.wb.box 0, cellAt hm.wb.box 1, cellAt hm.wb.box 2, hl.1, hl.2.1, hl.2.2⟩)
            clear hK K1
            try simp only [Act.put, List.setIfInBounds_toArray, List.set_cons_zero, List.set_cons_succ]
            refine wpAnyH_ready (rs := [6]) (by kernel_rfl) (by simp) ?_
            refine AllReadyH.cons (o := { dst := some 55, op := Op.call { callee := Callee.value (Operand.func 83), args := #[Operand.tmp 49, Operand.tmp 50, Operand.tmp 54], argTypes := #[25, 3, 128] }, type := 25, pos := "ref.go:301", after := #[{ on := 0, ground := Ground.data }, { on := 1, ground := Ground.data }, { on := 5, ground := Ground.data }], guard := none }) rfl (fun K1 hK => ?_) (AllReadyH.nil)
            clear hHeld
            go_simp
            refine (FX.out _ P8.out).mono ?_
            rintro e W9 ⟨g2, cap2, hg2, rfl, ht2, hb9⟩
            have P9 := Lib.hid (P8.out.grow hb9)
            have B9 := Lib.hid (BoxAt.grow B8.out hb9)
            have T9 := Lib.hid ht2
            clear hb9 ht2 hg2
            go_wp2_with fail
            refine hK.out _ _ ?_ (fun hHeld => ?_)
            · exact (by have hm := P9.out; have hl := hm.l.at hjl; rw [← HKJ.out] at hl; exact ⟨cellAt hm.wb.box 0, cellAt hm.wb.box 1, cellAt hm.wb.box 2, hl.1, hl.2.1, hl.2.2⟩)
            clear hK K1
            try simp only [Act.put, List.setIfInBounds_toArray, List.set_cons_zero, List.set_cons_succ]
            refine wpAnyH_ready (rs := [8]) (by kernel_rfl) (by simp) ?_
            refine AllReadyH.cons (o := { dst := some 57, op := Op.call { callee := Callee.value (Operand.func 68), args := #[Operand.tmp 55, Operand.tmp 56], argTypes := #[25, 3] }, type := 29, pos := "ref.go:301", after := #[{ on := 6, ground := Ground.data }, { on := 7, ground := Ground.data }, { on := 6, ground := Ground.chain }], guard := none }) rfl (fun K1 hK => ?_) (AllReadyH.nil)
            clear hHeld
            go_simp
            refine (DX.out _ P9.out g2 cap2 T9.out).mono ?_
            rintro e W10 ⟨rfl, hb10⟩
            have P10 := Lib.hid (P9.out.grow hb10)
            have T10 := Lib.hid (T9.out.grow hb10)
            have B10 := Lib.hid (BoxAt.grow B9.out hb10)
            clear hb10
            go_wp2_with fail
            refine hK.out _ _ ?_ (fun hHeld => ?_)
            · exact (by have hm := P10.out; have hl := hm.l.at hjl; rw [← HKJ.out] at hl; exact ⟨cellAt hm.wb.box 0, cellAt hm.wb.box 1, cellAt hm.wb.box 2, hl.1, hl.2.1, hl.2.2⟩)
            clear hK K1
            try simp only [Act.put, List.setIfInBounds_toArray, List.set_cons_zero, List.set_cons_succ]
            refine wpAnyH_ready (rs := [10]) (by kernel_rfl) (by simp) ?_
            refine AllReadyH.cons (o := { dst := none, op := Op.store 29 (Operand.tmp 15) (Operand.tmp 57), type := 0, pos := "ref.go:301", after := #[{ on := 9, ground := Ground.data }, { on := 8, ground := Ground.data }, { on := 8, ground := Ground.chain }, { on := 0, ground := Ground.phase }, { on := 1, ground := Ground.phase }, { on := 2, ground := Ground.phase }, { on := 3, ground := Ground.phase }, { on := 4, ground := Ground.phase }, { on := 5, ground := Ground.phase }, { on := 6, ground := Ground.phase }, { on := 7, ground := Ground.phase }, { on := 8, ground := Ground.phase }, { on := 9, ground := Ground.phase }], guard := none }) rfl (fun K1 hK => ?_) (AllReadyH.nil)
            clear hHeld
            have f0 := freeAt B10.out 0
            have f1 := freeAt B10.out 1
            have c0 := cellAt B10.out 0
            have c1 := cellAt B10.out 1
            simp only [List.getElem?_toArray, List.getElem?_cons_zero, List.getElem?_cons_succ] at c0 c1
            go_simp
            have PZ := Lib.hid ((P10.out.set ⟨WW.heap.size, 0, none⟩ (.int .i64 l2) hbs8).set ⟨WW.heap.size, 1, none⟩ (.int .i64 h2) hbs8)
            have BZ := Lib.hid ((B10.out.store 0 (.int .i64 l2)).store 1 (.int .i64 h2))
            clear f0 f1 c0 c1
            obtain ⟨WZ, hW⟩ : ∃ W, W = (W10.setCell ⟨WW.heap.size, 0, none⟩ (.int .i64 l2)).setCell ⟨WW.heap.size, 1, none⟩ (.int .i64 h2) := ⟨_, rfl⟩
            rw [← hW] at PZ BZ ⊢
            clear hW
            refine hK.out _ _ ?_ (fun hHeld => ?_)
            · exact (by have hm := PZ.out; have hl := hm.l.at hjl; rw [← HKJ.out] at hl; exact ⟨cellAt hm.wb.box 0, cellAt hm.wb.box 1, cellAt hm.wb.box 2, hl.1, hl.2.1, hl.2.2⟩)
            clear hK K1
            try simp only [Act.put]
            refine wpAnyH_done (by kernel_rfl) ?_ _
            clear hHeld
            have z0 := cellAt BZ.out 0
            have z1 := cellAt BZ.out 1
            simp at z0 z1
            by_cases hMd : M < d
            · rw [if_pos hMd] at HWO
              have HMD := Lib.hid hMd
              clear hMd
              go_wp2_with fail
              exact ⟨⟨j + 1, hjl, by go_num, by rw [HWO.out, HW6.out, if_pos HMD.out], PZ.out⟩, by simp [intOf]; omega⟩
            · rw [if_neg hMd] at HWO
              have HMD := Lib.hid hMd
              clear hMd
              go_wp2_with fail
              exact ⟨⟨j + 1, hjl, by go_num, by rw [HWO.out, HW6.out, if_neg HMD.out], PZ.out⟩, by simp [intOf]; omega⟩
        · obtain rfl : len = j := by omega
          have hfull : M = g n := by rw [eM, HLN.out, List.take_length, HG.out]; rfl
          have hup := HA.out.up
          have hbs : fewI g (n + 1) = if n = 0 ∨ g n < g (fewI g n) then n else fewI g n := rfl
          have hfv : fewV g (n + 1) = g (fewI g (n + 1)) := rfl
          have hb1 : bestI g (n + 1) = ((fewI g (n + 1) : Nat) : Int) := rfl
          by_cases hn0 : n = 0
          · subst hn0
            rw [if_pos (.inl rfl)] at hbs
            rw [hbs] at hfv hb1
            have HB1 := Lib.hid hb1
            have HFV := Lib.hid hfv
            have HM := Lib.hid hfull
            clear hbs hfv hb1 hfull eM
            obtain rfl : bv = -1 := HBV.out
            obtain rfl : mv = 0 := HMV.out
            go_wp2_with fail
            exact ⟨⟨0 + 1, hlt, by go_num, by rw [HB1.out], by rw [HFV.out, ← HM.out], HA.out.wb, Nat.le_trans hsW4 hup⟩, by simp [intOf]; omega⟩
          · obtain ⟨B, eB⟩ : ∃ B, B = fewI g n := ⟨_, rfl⟩
            obtain rfl : bv = (B : Int) := by rw [HBV.out, eB]; exact if_neg hn0
            have hmv : mv = g (fewI g n) := by rw [HMV.out]; exact if_neg hn0
            rw [← hmv, ← hfull, ← eB] at hbs
            have HEG := Lib.hid hmv
            have HEB := Lib.hid eB
            have HM := Lib.hid hfull
            have hn0' : 0 < n := by omega
            clear eM hmv eB hfull HMV HBV
            by_cases hmg : M < mv
            · rw [if_pos (.inr hmg)] at hbs
              rw [hbs] at hfv hb1
              have HB1 := Lib.hid hb1
              have HFV := Lib.hid hfv
              clear hbs hfv hb1 hn0
              go_wp2_with fail
              exact ⟨⟨n + 1, hlt, by go_num, by rw [HB1.out], by rw [HFV.out, ← HM.out], HA.out.wb, Nat.le_trans hsW4 hup⟩, by simp [intOf]; omega⟩
            · rw [if_neg (fun h => by rcases h with h | h <;> omega)] at hbs
              rw [hbs] at hfv hb1
              have HB1 := Lib.hid hb1
              have HFV := Lib.hid hfv
              clear hbs hfv hb1 hn0
              go_wp2_with fail
              exact ⟨⟨n + 1, hlt, by go_num, by rw [HB1.out], by rw [HFV.out, HEG.out, HEB.out], HA.out.wb, Nat.le_trans hsW4 hup⟩, by simp [intOf]; omega⟩
    · obtain rfl : tn = n := by omega
      obtain rfl : bv = ((fewI g tn : Nat) : Int) := by rw [HBV.out]; exact if_neg (by omega)
      obtain rfl : mv = fewV g tn := HMV.out
      go_wp2_with fail
      refine bodyPost_ret (v := .tuple #[.int .i64 ((fewI g tn : Nat) : Int), .int .i64 (fewV g tn), .int .i64 0]) (by simp [results, Try.results29, go_sem]) rfl ?_
      exact ⟨HI.out.bel, .inl ⟨HV.out, HT.out, by rw [HSP.out]; omega, by rw [HG.out]; rfl⟩⟩
end Go.Proofs.Ytbpeamppkdmdcaa
