/-
  Walks: whether a fathom is one; whose a fathom can be, by the reference.
-/
import Derived.Test.YtbpeamppkdmdcaaV3
import Derived.Deep.Light
namespace Go.Proofs.Ytbpeamppkdmdcaa
open Go.RowKit
attribute [local go_sem ↓] Go.wp_at_zero Go.wp_at_succ

def FathomPost (w : World) (V : Prop) (b : Bool) (e : Ending) (w' : World) : Prop := ∃ x, e = .returned (.bool x) ∧ (V → x = b) ∧ Below w.heap.size w w'
set_option maxHeartbeats 1000000 in
theorem fathomR_any (cr : Int) (sa ta : Option Addr) (sn sc tn tc : Nat) (S : Nat → Sm) (T : Nat → Tk) (s f : Int) (w : World) (hS : SeamsAt w sa sn S) (hT : TicketsAt w ta tn T) :
    Calls Try.prog 62 #[.agg #[.int .i64 cr, .slice sa sn sc, .slice ta tn tc], .int .i64 s, .int .i64 f] w (FathomPost w (Valid cr sn tn S T) (inB s 0 (sn - 1) && inB f 0 ((S s.toNat).fat - 1))) := by
  have nsl := hS.small
  have I0 := Lib.hid (WB.new (cr := cr) (sc := sc) (tc := tc) hS hT)
  obtain ⟨q, hq⟩ : ∃ q, q = inB s 0 (sn - 1) := ⟨_, rfl⟩
  have CS := Lib.hid (fun W => hq ▸ seam_ref cr sa ta sn sc tn tc s W nsl)
  clear hS hT nsl
  rcases q with _ | _
  · rw [← hq]
    clear hq
    go_enter Try.func62, Try.ntmps62
    go_wp2_with (go_at_call 52; refine (CS.out _).mono ?_; rintro e w1 ⟨rfl, hb1⟩; have I1 := Lib.hid (I0.out.grow hb1); clear hb1)
    go_ret
    exact ⟨false, rfl, fun _ => by rw [Bool.false_and], I1.out.bel⟩
  · have h := inB_iff.1 hq.symm
    obtain ⟨k, ek⟩ : ∃ k : Nat, s = k := ⟨s.toNat, by omega⟩
    subst ek
    have hk : k < sn := by omega
    rw [← hq, Int.toNat_natCast]
    obtain ⟨z, ez⟩ : ∃ z, IntKind.i64.wrap ((S k).fat - 1) = z := ⟨_, rfl⟩
    have HZ := Lib.hid (show Valid cr sn tn S T → z = (S k).fat - 1 from fun hv => by have := hv.fat k hk; rw [← ez]; exact IntWalk.i64_in _ (by omega))
    clear hq h
    go_enter Try.func62, Try.ntmps62
    go_wp2_with (first | (go_at_call 52; refine (CS.out _).mono ?_; rintro e w1 ⟨rfl, hb1⟩; have I1 := Lib.hid (I0.out.grow hb1); clear hb1; have g0 := (I1.out.ss.at hk).1; have d1 := cellAt I1.out.box 1; simp only [List.getElem?_toArray, List.getElem?_cons_zero, List.getElem?_cons_succ] at d1; have hix := fun w => run_indexAt_row (w := w) (cap := sc) Try.underlying22 size52 (I1.out.ss.plain (by omega)) hk) | (go_at_call 88; refine (in_any _ _ _ _).mono ?_; rintro e w2 ⟨rfl, rfl⟩))
    go_ret
    exact ⟨_, rfl, fun hv => by rw [HZ.out hv, Bool.true_and], I1.out.bel⟩

theorem setR_succ (T : Nat → Tk) (tn : Nat) (s : Int) (f k : Nat) : setR T tn s f (k + 1) = if 0 ≤ ownerOf T (trK T tn k) tn s f ∧ setR T tn s f k / 2 ^ (ownerOf T (trK T tn k) tn s f).toNat % 2 = 0 then setR T tn s f k + 2 ^ (ownerOf T (trK T tn k) tn s f).toNat else setR T tn s f k := rfl
theorem quo_fin : ∀ a : Fin 16, ∀ o : Fin 4, ((wrap64 ((a.val : Int) / 2 ^ o.val)).tmod 2 == 0) = decide (a.val / 2 ^ o.val % 2 = 0) ∧ wrap64 ((a.val : Int) + 2 ^ o.val) = ((a.val + 2 ^ o.val : Nat) : Int) := by decide +kernel
theorem quo_test {a o : Nat} (ha : a < 16) (ho : o ≤ 3) : ((wrap64 ((a : Int) / 2 ^ o)).tmod 2 == 0) = decide (a / 2 ^ o % 2 = 0) ∧ wrap64 ((a : Int) + 2 ^ o) = ((a + 2 ^ o : Nat) : Int) := quo_fin ⟨a, ha⟩ ⟨o, by omega⟩
structure WO (w : World) (cr : Int) (sa ta : Option Addr) (sn sc tn tc : Nat) (S : Nat → Sm) (T : Nat → Tk) (B : Nat) (v : Value) (W : World) : Prop where
  wb : WB w cr sa ta sn sc tn tc S T w.heap.size W
  out : OutAt B tn v (truthsL T tn) W
theorem WO.grow {w : World} {cr : Int} {sa ta : Option Addr} {sn sc tn tc : Nat} {S : Nat → Sm} {T : Nat → Tk} {B : Nat} {v : Value} {W W2 : World} (h : WO w cr sa ta sn sc tn tc S T B v W) (hb : Below W.heap.size W W2) : WO w cr sa ta sn sc tn tc S T B v W2 := ⟨h.wb.grow hb, h.out.grow hb⟩

set_option maxRecDepth 100000 in
set_option maxHeartbeats 4000000 in
theorem whoseR_any (cr : Int) (sa ta : Option Addr) (sn sc tn tc : Nat) (S : Nat → Sm) (T : Nat → Tk) (s f : Int) (w : World) (hS : SeamsAt w sa sn S) (hT : TicketsAt w ta tn T) (hc : Valid cr sn tn S T → countT T tn 0 ≤ 2000) :
    Calls Try.prog 20 #[.agg #[.int .i64 cr, .slice sa sn sc, .slice ta tn tc], .int .i64 s, .int .i64 f] w
      (WhosePost w (Valid cr sn tn S T) (inB s 0 (sn - 1) && inB f 0 ((S s.toNat).fat - 1)) (setN T tn s f.toNat cr.toNat) (decide (ownerOf T (mostK (-1) T) tn s f.toNat = -1))) := by
  have I0 := Lib.hid (WB.new (cr := cr) (sc := sc) (tc := tc) hS hT)
  have HC := Lib.hid hc
  clear hS hT hc
  go_enter Try.func20, Try.ntmps20
  go_wp2_with fail
  generalize World.alloc _ _ = W0 at *
  go_cut [9] from 15 to 20 (fun v W => ∃ x b, v = .int .i64 x ∧ checkE (Valid cr sn tn S T) b x ∧ (Valid cr sn tn S T → b = (inB s 0 (sn - 1) && inB f 0 ((S s.toNat).fat - 1))) ∧ WB w cr sa ta sn sc tn tc S T w.heap.size W)
  case first =>
    rename_i J1 K1 hJ hK1
    have HKK := Lib.hid (fun a' w' h => hK1 a' w' (Met.intro (hJ a' w' h)))
    clear hJ hK1
    go_light
    have P0 := Lib.hid (I0.out.grow (Below.drew (Below.refl _ _)))
    clear I0
    refine wp_region_held_drew (S := (fun w' => w'.cell? ⟨w.heap.size, 0, none⟩ = some (.int .i64 cr) ∧ w'.cell? ⟨w.heap.size, 1, none⟩ = some (.slice sa sn sc) ∧ w'.cell? ⟨w.heap.size, 2, none⟩ = some (.slice ta tn tc))) (by kernel_rfl) (by exact (by have hm := P0.out.box; exact ⟨cellAt hm 0, cellAt hm 1, cellAt hm 2⟩)) (fun hHeld => ?_)
    refine wpAnyH_take (i := 0) (oi := { dst := some 15, op := Op.load 25 (Operand.tmp 3), type := 25, pos := "ref.go:228", after := #[], guard := none }) (v := ?_) rfl (by kernel_rfl) (by kernel_rfl) (by kernel_rfl) (fun _ _ _ h => h) (Or.inl ⟨by rfl, ?_⟩) (by assumption) ?_
    rotate_left
    · (intro w9 hSw; (try dsimp only at hSw); (go_split_ands; go_simp); (try with_reducible rfl))
    try simp only [Act.put, List.setIfInBounds_toArray, List.set_cons_zero, List.set_cons_succ]
    refine wpAnyH_take (i := 1) (oi := { dst := some 16, op := Op.load 25 (Operand.tmp 3), type := 25, pos := "ref.go:228", after := #[], guard := none }) (v := ?_) rfl (by kernel_rfl) (by kernel_rfl) (by kernel_rfl) (fun _ _ _ h => h) (Or.inl ⟨by rfl, ?_⟩) (by assumption) ?_
    rotate_left
    · (intro w9 hSw; (try dsimp only at hSw); (go_split_ands; go_simp); (try with_reducible rfl))
    try simp only [Act.put, List.setIfInBounds_toArray, List.set_cons_zero, List.set_cons_succ]
    refine wpAnyH_take (i := 2) (oi := { dst := some 17, op := Op.move (Operand.tmp 1), type := 3, pos := "ref.go:228", after := #[], guard := none }) (v := ?_) rfl (by kernel_rfl) (by kernel_rfl) (by kernel_rfl) (fun _ _ _ h => h) (Or.inl ⟨by rfl, ?_⟩) (by assumption) ?_
    rotate_left
    · (intro w9 hSw; (try dsimp only at hSw); (go_split_ands; go_simp); (try with_reducible rfl))
    try simp only [Act.put, List.setIfInBounds_toArray, List.set_cons_zero, List.set_cons_succ]
    refine wpAnyH_take (i := 3) (oi := { dst := some 18, op := Op.move (Operand.tmp 2), type := 3, pos := "ref.go:228", after := #[], guard := none }) (v := ?_) rfl (by kernel_rfl) (by kernel_rfl) (by kernel_rfl) (fun _ _ _ h => h) (Or.inl ⟨by rfl, ?_⟩) (by assumption) ?_
    rotate_left
    · (intro w9 hSw; (try dsimp only at hSw); (go_split_ands; go_simp); (try with_reducible rfl))
    try simp only [Act.put, List.setIfInBounds_toArray, List.set_cons_zero, List.set_cons_succ]
    refine wpAnyH_ready (rs := [4]) (by kernel_rfl) (by simp) ?_
    refine AllReadyH.cons (o := { dst := some 19, op := Op.call { callee := Callee.value (Operand.func 62), args := #[Operand.tmp 16, Operand.tmp 17, Operand.tmp 18], argTypes := #[25, 3, 3] }, type := 4, pos := "ref.go:228", after := #[{ on := 1, ground := Ground.data }, { on := 2, ground := Ground.data }, { on := 3, ground := Ground.data }], guard := none }) rfl (fun K hK => ?_) (AllReadyH.nil)
    clear hHeld
    go_simp
    refine (fathomR_any cr sa ta sn sc tn tc S T s f _ P0.out.ss P0.out.tt).mono ?_; rintro e W1 ⟨b, rfl, hbb, hb1⟩; have HBB := Lib.hid hbb; clear hbb
    have P1 := Lib.hid (P0.out.grow hb1)
    clear hb1
    go_wp2_with fail
    refine hK.out _ _ ?_ (fun hHeld => ?_)
    · exact (by have hm := P1.out.box; exact ⟨cellAt hm 0, cellAt hm 1, cellAt hm 2⟩)
    clear hK K
    try simp only [Act.put, List.setIfInBounds_toArray, List.set_cons_zero, List.set_cons_succ]
    refine wpAnyH_ready (rs := [5]) (by kernel_rfl) (by simp) ?_
    refine AllReadyH.cons (o := { dst := some 20, op := Op.call { callee := Callee.value (Operand.func 51), args := #[Operand.tmp 15, Operand.tmp 19], argTypes := #[25, 4] }, type := 30, pos := "ref.go:228", after := #[{ on := 0, ground := Ground.data }, { on := 4, ground := Ground.data }, { on := 4, ground := Ground.chain }], guard := none }) rfl (fun K hK => ?_) (AllReadyH.nil)
    clear hHeld
    go_simp
    refine (check_any cr sa ta sn sc tn tc S T b _ P1.out.ss P1.out.tt).mono ?_; rintro e W2 ⟨x, rfl, hx, hb2⟩; have HX := Lib.hid hx; clear hx
    have P2 := Lib.hid (P1.out.grow hb2)
    clear hb2
    go_wp2_with fail
    refine hK.out _ _ ?_ (fun hHeld => ?_)
    · exact (by have hm := P2.out.box; exact ⟨cellAt hm 0, cellAt hm 1, cellAt hm 2⟩)
    clear hK K
    try simp only [Act.put, List.setIfInBounds_toArray, List.set_cons_zero, List.set_cons_succ]
    refine wpAnyH_take (i := 6) (oi := { dst := some 9, op := Op.assign (Operand.tmp 20), type := 30, pos := "ref.go:228", after := #[{ on := 5, ground := Ground.data }, { on := 5, ground := Ground.chain }, { on := 0, ground := Ground.phase }, { on := 1, ground := Ground.phase }, { on := 2, ground := Ground.phase }, { on := 3, ground := Ground.phase }, { on := 4, ground := Ground.phase }, { on := 5, ground := Ground.phase }], guard := none }) (v := ?_) rfl (by kernel_rfl) (by kernel_rfl) (by kernel_rfl) (fun _ _ _ h => h) (Or.inl ⟨by rfl, ?_⟩) (by assumption) ?_
    rotate_left
    · (intro w9 hSw; (try dsimp only at hSw); (go_split_ands; go_simp); (try with_reducible rfl))
    try simp only [Act.put, List.setIfInBounds_toArray, List.set_cons_zero, List.set_cons_succ]
    refine wpAnyH_done (by kernel_rfl) ?_ _
    refine HKK.out _ _ ?_
    (repeat apply Exists.intro)
    refine ⟨?_, rfl⟩
    exact ⟨_, _, rfl, HX.out, HBB.out, P2.out⟩
  case rest =>
    obtain ⟨x, b, rfl, hx, hbb, hd⟩ := hcut
    have D1 := Lib.hid hd
    have HBB := Lib.hid hbb
    clear hd hbb I0
    rcases hx with ⟨hv, rfl, rfl⟩ | ⟨hv, rfl, rfl⟩ | ⟨hv, rfl⟩
    rotate_left
    · have HV := Lib.hid hv
      have HT := Lib.hid (HBB.out hv)
      clear hv
      go_wp2_with fail
      refine bodyPost_ret (v := .tuple #[.int .i64 0, .bool false, .int .i64 2]) (by simp [results, Try.results20, go_sem]) rfl ?_
      exact ⟨D1.out.bel, .inr (.inl ⟨HV.out, HT.out.symm, rfl⟩)⟩
    · have HV := Lib.hid hv
      clear hv
      go_wp2_with fail
      refine bodyPost_ret (v := .tuple #[.int .i64 0, .bool false, .int .i64 1]) (by simp [results, Try.results20, go_sem]) rfl ?_
      exact ⟨D1.out.bel, .inr (.inr ⟨HV.out, rfl⟩)⟩
    have HT := Lib.hid (HBB.out hv)
    have hsf : inB s 0 (sn - 1) = true ∧ inB f 0 ((S s.toNat).fat - 1) = true := by have h := HT.out; simp only [Bool.true_eq, Bool.and_eq_true] at h; exact h
    have h1 := inB_iff.1 hsf.1
    have h2 := inB_iff.1 hsf.2
    obtain ⟨sN, eS⟩ : ∃ sN : Nat, s = sN := ⟨s.toNat, by omega⟩
    obtain ⟨fN, eF⟩ : ∃ fN : Nat, f = fN := ⟨f.toNat, by omega⟩
    subst eS
    subst eF
    rw [Int.toNat_natCast] at h2
    have hfat := hv.fat sN (by omega)
    have hlen : (truthsL T tn).length = countT T tn 0 := ext_count T tn 0 []
    have hpos := countT_pos (hv.allSpans) tn 0 (by omega)
    have htn6 := hv.tn6
    have hcc := HC.out hv
    have hsr := setR_eq hv (sN : Int) fN
    have hno := nobR_eq hv (sN : Int) fN
    obtain ⟨N, eN⟩ : ∃ N, N = (truthsL T tn).length := ⟨_, rfl⟩
    rw [← eN] at hlen hsr hno
    rw [← hlen] at hpos hcc
    have HN := Lib.hid eN
    have HL := Lib.hid hlen
    have HV := Lib.hid hv
    have HSR := Lib.hid hsr
    have HNO := Lib.hid hno
    have hfN : fN ≤ 20 := by omega
    have hsN : sN < sn := by omega
    have d0 := cellAt D1.out.box 0
    have d1 := cellAt D1.out.box 1
    have d2 := cellAt D1.out.box 2
    simp only [List.getElem?_toArray, List.getElem?_cons_zero, List.getElem?_cons_succ] at d0 d1 d2
    clear eN hlen hv HC hsr hno hsf h1 h2 hfat HBB
    go_wp2_with (go_at_call 63; refine (truthsAll_any cr sa ta sn sc tn tc S T _ D1.out.ss D1.out.tt HV.out.allSpans htn6 (by rw [← HL.out]; omega)).mono ?_)
    rintro e w1 ⟨v', rfl, ho, hb⟩
    have M1 := Lib.hid (show WO w cr sa ta sn sc tn tc S T _ v' w1 from ⟨D1.out.grow hb, ho⟩)
    have MW := Lib.hid (fun W (h : Below w1.heap.size w1 W) => M1.out.grow h)
    have AT := Lib.hid (fun W (h : Below w1.heap.size w1 W) (i : Nat) (hi : i < N) => (M1.out.grow h).out.at (i := i) (by rw [← HN.out]; exact hi))
    obtain ⟨g, gc, oa0, c0, hv', -⟩ := AT.out _ (Below.refl _ _) 0 hpos
    rw [← HN.out] at hv'
    subst hv'
    clear ho hb M1 d0 d1 d2 D1
    go_wp2_with fail
    go_loopw [10, 11, 13] (fun a n i W => ∃ k : Nat, k ≤ N ∧ i = .int .i64 k ∧ a = .int .i64 ((setR T tn sN fN k : Nat) : Int) ∧ n = .bool (nobR T tn sN fN k) ∧ Below w1.heap.size w1 W) (fun _ _ i _ => N - (intOf i).toNat)
    case atStart => exact ⟨0, Nat.zero_le _, rfl, rfl, rfl, Below.refl _ _⟩
    case round =>
      obtain ⟨k, hk, rfl, rfl, rfl, ho⟩ := hrel
      have O2 := Lib.hid ho
      clear ho
      by_cases hlt : k < N
      · have hix := fun w => run_indexAt_row (w := w) (oa := some ⟨g, 0, none⟩) (cap := gc) Try.underlying101 size104 rfl hlt
        simp only [blk, ofs, Nat.zero_add, Nat.mul_one] at hix
        obtain ⟨g', gc', oa, oc, hv2, hgl, hcell, hkn⟩ := AT.out _ (Below.refl _ _) k hlt
        simp only [Value.slice.injEq, Option.some.injEq, Addr.mk.injEq] at hv2
        obtain ⟨⟨rfl, -, -⟩, -, rfl⟩ := hv2
        have AC := Lib.hid (fun W2 (h : Below w1.heap.size w1 W2) => (⟨(h.cell (p := ⟨g, k, none⟩) hgl).trans hcell, KnAt.grow hkn h⟩ : W2.cell? ⟨g, k, none⟩ = some (.slice oa tn oc) ∧ KnAt W2 oa tn (knF ((truthsL T tn).getD k []))))
        clear hcell hkn
        have hs1 := setR_succ T tn sN fN k
        have hn1 := nobR_succ T tn sN fN k
        have hbd := owner_bd HV.out (trK T tn k) sN fN
        have hs16 := setR_lt HV.out sN fN k
        obtain ⟨o, eo⟩ : ∃ o, o = ownerOf T (trK T tn k) tn sN fN := ⟨_, rfl⟩
        obtain ⟨a, ea⟩ : ∃ a, a = setR T tn sN fN k := ⟨_, rfl⟩
        obtain ⟨n, en⟩ : ∃ n, n = nobR T tn sN fN k := ⟨_, rfl⟩
        rw [← eo] at hs1 hn1 hbd
        rw [← ea] at hs1 hs16 ⊢
        rw [← en] at hn1 ⊢
        have HO := Lib.hid eo
        have HS1 := Lib.hid hs1
        have HN1 := Lib.hid hn1
        clear eo ea en hs1 hn1
        go_wp2_with fail
        have O3 := Lib.hid (show Below w1.heap.size w1 _ from O2.out.drew)
        refine wp_region_held_drew (S := (fun w' => w'.cell? ⟨w.heap.size, 0, none⟩ = some (.int .i64 cr) ∧ w'.cell? ⟨w.heap.size, 1, none⟩ = some (.slice sa sn sc) ∧ w'.cell? ⟨w.heap.size, 2, none⟩ = some (.slice ta tn tc) ∧ w'.cell? ⟨g, k, none⟩ = some (.slice oa tn oc))) (by kernel_rfl) (by exact (by have hm := (MW.out _ O3.out).wb.box; exact ⟨cellAt hm 0, cellAt hm 1, cellAt hm 2, (AC.out _ O3.out).1⟩)) (fun hHeld => ?_)
        refine wpAnyH_take (i := 0) (oi := { dst := some 32, op := Op.load 25 (Operand.tmp 3), type := 25, pos := "ref.go:235", after := #[], guard := none }) (v := ?_) rfl (by kernel_rfl) (by kernel_rfl) (by kernel_rfl) (fun _ _ _ h => h) (Or.inl ⟨by rfl, ?_⟩) (by assumption) ?_
        rotate_left
        · (intro w9 hSw; (try dsimp only at hSw); (go_split_ands; go_simp); (try with_reducible rfl))
        try simp only [Act.put, List.setIfInBounds_toArray, List.set_cons_zero, List.set_cons_succ]
        refine wpAnyH_take (i := 1) (oi := { dst := some 33, op := Op.move (Operand.tmp 12), type := 101, pos := "ref.go:235", after := #[], guard := none }) (v := ?_) rfl (by kernel_rfl) (by kernel_rfl) (by kernel_rfl) (fun _ _ _ h => h) (Or.inl ⟨by rfl, ?_⟩) (by assumption) ?_
        rotate_left
        · (intro w9 hSw; (try dsimp only at hSw); (go_split_ands; go_simp); (try with_reducible rfl))
        try simp only [Act.put, List.setIfInBounds_toArray, List.set_cons_zero, List.set_cons_succ]
        refine wpAnyH_take (i := 2) (oi := { dst := some 34, op := Op.move (Operand.tmp 13), type := 3, pos := "ref.go:235", after := #[], guard := none }) (v := ?_) rfl (by kernel_rfl) (by kernel_rfl) (by kernel_rfl) (fun _ _ _ h => h) (Or.inl ⟨by rfl, ?_⟩) (by assumption) ?_
        rotate_left
        · (intro w9 hSw; (try dsimp only at hSw); (go_split_ands; go_simp); (try with_reducible rfl))
        try simp only [Act.put, List.setIfInBounds_toArray, List.set_cons_zero, List.set_cons_succ]
        refine wpAnyH_take (i := 3) (oi := { dst := some 35, op := Op.indexAddr 101 (Operand.tmp 33) (Operand.tmp 34), type := 0, pos := "ref.go:235", after := #[{ on := 1, ground := Ground.data }, { on := 2, ground := Ground.data }], guard := none }) (v := ?_) rfl (by kernel_rfl) (by kernel_rfl) (by kernel_rfl) (fun _ _ _ h => h) (Or.inl ⟨by rfl, ?_⟩) (by assumption) ?_
        rotate_left
        · (intro w9 hSw; (try dsimp only at hSw); (go_split_ands; go_simp); (try with_reducible rfl))
        try simp only [Act.put, List.setIfInBounds_toArray, List.set_cons_zero, List.set_cons_succ]
        refine wpAnyH_take (i := 4) (oi := { dst := some 36, op := Op.load 104 (Operand.tmp 35), type := 104, pos := "ref.go:235", after := #[{ on := 3, ground := Ground.data }], guard := none }) (v := ?_) rfl (by kernel_rfl) (by kernel_rfl) (by kernel_rfl) (fun _ _ _ h => h) (Or.inl ⟨by rfl, ?_⟩) (by assumption) ?_
        rotate_left
        · (intro w9 hSw; (try dsimp only at hSw); (go_split_ands; go_simp); (try with_reducible rfl))
        try simp only [Act.put, List.setIfInBounds_toArray, List.set_cons_zero, List.set_cons_succ]
        refine wpAnyH_take (i := 5) (oi := { dst := some 37, op := Op.move (Operand.tmp 1), type := 3, pos := "ref.go:235", after := #[], guard := none }) (v := ?_) rfl (by kernel_rfl) (by kernel_rfl) (by kernel_rfl) (fun _ _ _ h => h) (Or.inl ⟨by rfl, ?_⟩) (by assumption) ?_
        rotate_left
        · (intro w9 hSw; (try dsimp only at hSw); (go_split_ands; go_simp); (try with_reducible rfl))
        try simp only [Act.put, List.setIfInBounds_toArray, List.set_cons_zero, List.set_cons_succ]
        refine wpAnyH_take (i := 6) (oi := { dst := some 38, op := Op.move (Operand.tmp 2), type := 3, pos := "ref.go:235", after := #[], guard := none }) (v := ?_) rfl (by kernel_rfl) (by kernel_rfl) (by kernel_rfl) (fun _ _ _ h => h) (Or.inl ⟨by rfl, ?_⟩) (by assumption) ?_
        rotate_left
        · (intro w9 hSw; (try dsimp only at hSw); (go_split_ands; go_simp); (try with_reducible rfl))
        try simp only [Act.put, List.setIfInBounds_toArray, List.set_cons_zero, List.set_cons_succ]
        refine wpAnyH_ready (rs := [7]) (by kernel_rfl) (by simp) ?_
        refine AllReadyH.cons (o := { dst := some 39, op := Op.call { callee := Callee.value (Operand.func 64), args := #[Operand.tmp 32, Operand.tmp 36, Operand.tmp 37, Operand.tmp 38], argTypes := #[25, 104, 3, 3] }, type := 3, pos := "ref.go:235", after := #[{ on := 0, ground := Ground.data }, { on := 4, ground := Ground.data }, { on := 5, ground := Ground.data }, { on := 6, ground := Ground.data }], guard := none }) rfl (fun K hK => ?_) (AllReadyH.nil)
        clear hHeld
        have M4 := MW.out _ O3.out
        have CM := Lib.hid (ownerR_any cr sa ta sn sc tn tc S T oa oc (trK T tn k) sN fN _ M4.wb.ss M4.wb.tt (AC.out _ O3.out).2 (by omega))
        rw [← HO.out] at CM
        clear M4
        go_simp
        refine CM.out.mono ?_
        rintro e W1 ⟨rfl, hb1⟩
        have P1 := Lib.hid (show Below w1.heap.size w1 W1 from O3.out.trans (hb1.mono O3.out.size))
        clear hb1 CM
        go_wp2_with fail
        refine hK.out _ _ ?_ (fun hHeld => ?_)
        · exact (by have hm := (MW.out _ P1.out).wb.box; exact ⟨cellAt hm 0, cellAt hm 1, cellAt hm 2, (AC.out _ P1.out).1⟩)
        clear hK K
        try simp only [Act.put, List.setIfInBounds_toArray, List.set_cons_zero, List.set_cons_succ]
        refine wpAnyH_take (i := 8) (oi := { dst := some 14, op := Op.assign (Operand.tmp 39), type := 3, pos := "ref.go:235", after := #[{ on := 7, ground := Ground.data }, { on := 7, ground := Ground.chain }, { on := 0, ground := Ground.phase }, { on := 1, ground := Ground.phase }, { on := 2, ground := Ground.phase }, { on := 3, ground := Ground.phase }, { on := 4, ground := Ground.phase }, { on := 5, ground := Ground.phase }, { on := 6, ground := Ground.phase }, { on := 7, ground := Ground.phase }], guard := none }) (v := ?_) rfl (by kernel_rfl) (by kernel_rfl) (by kernel_rfl) (fun _ _ _ h => h) (Or.inl ⟨by rfl, ?_⟩) (by assumption) ?_
        rotate_left
        · (intro w9 hSw; (try dsimp only at hSw); (go_split_ands; go_simp); (try with_reducible rfl))
        try simp only [Act.put, List.setIfInBounds_toArray, List.set_cons_zero, List.set_cons_succ]
        refine wpAnyH_done (by kernel_rfl) ?_ _
        clear hHeld
        by_cases h0 : o < 0
        · go_wp2_with fail
          have h1 : setR T tn sN fN (k + 1) = a := by rw [HS1.out, if_neg (fun h => by omega)]
          have h2 : nobR T tn sN fN (k + 1) = true := by rw [HN1.out, decide_eq_true h0, Bool.or_true]
          exact ⟨⟨k + 1, hlt, by go_num, by rw [h1], by rw [h2], P1.out⟩, by simp [intOf]; omega⟩
        · obtain ⟨oN, eo⟩ : ∃ oN : Nat, o = oN := ⟨o.toNat, by omega⟩
          subst eo
          have hq := quo_test hs16 (o := oN) (by omega)
          have h2 : nobR T tn sN fN (k + 1) = n := by rw [HN1.out, decide_eq_false h0, Bool.or_false]
          have HQ := Lib.hid hq
          have H2 := Lib.hid h2
          clear hq h2
          have hpz : ¬ ((2 : Int) ^ oN = 0) := Int.pow_ne_zero (by omega)
          go_wp2_with (go_at_call 65; refine (power_any _ (by omega) _).mono ?_; rintro e w5 ⟨rfl, rfl⟩)
          · rename_i ht
            rw [HQ.out.1, decide_eq_true_eq] at ht
            have h1 : setR T tn sN fN (k + 1) = a + 2 ^ oN := by rw [HS1.out, Int.toNat_natCast, if_pos ⟨by omega, ht⟩]
            exact ⟨⟨k + 1, hlt, by go_num, by rw [h1, HQ.out.2], by rw [H2.out], P1.out⟩, by simp [intOf]; omega⟩
          · rename_i ht
            rw [HQ.out.1, decide_eq_false_iff_not] at ht
            have h1 : setR T tn sN fN (k + 1) = a := by rw [HS1.out, Int.toNat_natCast, if_neg (fun h => ht h.2)]
            exact ⟨⟨k + 1, hlt, by go_num, by rw [h1], by rw [H2.out], P1.out⟩, by simp [intOf]; omega⟩
      · obtain rfl : N = k := by omega
        go_wp2_with fail
        refine bodyPost_ret (v := .tuple #[.int .i64 ((setR T tn sN fN N : Nat) : Int), .bool (nobR T tn sN fN N), .int .i64 0]) (by simp [results, Try.results20, go_sem]) rfl ?_
        exact ⟨(MW.out _ O2.out).wb.bel, .inl ⟨HV.out, HT.out.symm, by rw [HSR.out, HNO.out]; rfl⟩⟩
end Go.Proofs.Ytbpeamppkdmdcaa
