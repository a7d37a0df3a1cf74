/-
  Walks: the law of whose a fathom can be.
-/
import Derived.Test.YtbpeamppkdmdcaaG10
import Derived.Test.YtbpeamppkdmdcaaE1
import Derived.Deep.CutRange
namespace Go.Proofs.Ytbpeamppkdmdcaa
open Go.RowKit

theorem WhosePost.yes {w : World} {V : Prop} {b : Bool} {set : Nat} {none : Bool} {e : Ending} {w' : World} (h : WhosePost w V b set none e w') (hv : V) (hb : b = true) : e = .returned (.tuple #[.int .i64 set, .bool none, .int .i64 0]) ∧ Below w.heap.size w w' := by
  rcases h with ⟨h0, h | h | h⟩
  · exact ⟨h.2.2, h0⟩
  · rw [hb] at h; cases h.2.1
  · exact absurd hv h.1
theorem WhosePost.no {w : World} {V : Prop} {b : Bool} {set : Nat} {none : Bool} {e : Ending} {w' : World} (h : WhosePost w V b set none e w') (hv : V) (hb : b = false) : e = .returned (.tuple #[.int .i64 0, .bool false, .int .i64 2]) ∧ Below w.heap.size w w' := by
  rcases h with ⟨h0, h | h | h⟩
  · rw [hb] at h; cases h.2.1
  · exact ⟨h.2.2, h0⟩
  · exact absurd hv h.1
theorem inB_no {n lo hi : Int} (h : ¬ (lo ≤ n ∧ n ≤ hi)) : inB n lo hi = false := by
  cases hb : inB n lo hi with
  | false => rfl
  | true => exact absurd (inB_iff.1 hb) h

/-- All tickets as little, as late, as they can. -/
def lowK (T : Nat → Tk) (i : Nat) : Kn := ⟨(T i).fh, (T i).tl, (T i).dh⟩
def mustB (T : Nat → Tk) (s : Int) (f : Nat) : Nat → Bool
  | 0 => false
  | k + 1 => mustB T s f k || hasB T (lowK T) s f k
theorem mustB_iff (T : Nat → Tk) (s : Int) (f : Nat) : ∀ n, mustB T s f n = false ↔ ∀ i, i < n → hasB T (lowK T) s f i = false
  | 0 => by simp [mustB]
  | n + 1 => by
    simp only [mustB, Bool.or_eq_false_iff, mustB_iff T s f n]
    refine ⟨fun h i hi => ?_, fun h => ⟨fun i hi => h i (by omega), h n (by omega)⟩⟩
    by_cases e : i = n
    · rw [e]; exact h.2
    · exact h.1 i (by omega)
theorem low_owner {T : Nat → Tk} {tn : Nat} (hc : ∀ i, i < tn → 0 ≤ (T i).crew) (s : Int) (f : Nat) : ownerOf T (mostK (-1) T) tn s f = ownerOf T (lowK T) tn s f :=
  owner_congr fun i hi => by
    have := hc i hi
    unfold mostK lowK
    rw [if_neg (by omega), if_neg (by omega), if_neg (by omega)]
theorem nobody_must {T : Nat → Tk} {tn : Nat} (hc : ∀ i, i < tn → 0 ≤ (T i).crew) (s : Int) (f : Nat) : decide (ownerOf T (mostK (-1) T) tn s f = -1) = !mustB T s f tn := by
  rw [low_owner hc]
  cases h : mustB T s f tn with
  | false => simpa using (owner_none_iff hc).2 ((mustB_iff T s f tn).1 h)
  | true =>
    simp only [Bool.not_true, decide_eq_false_iff_not]
    intro e
    rw [(mustB_iff T s f tn).2 ((owner_none_iff hc).1 e)] at h
    cases h
theorem Own.rot {B : Nat} {w0 W : World} {KB : List (Nat × Array Value × TypeId)} {l1 l2 : List (Value × List Value)} (h : Own B w0 KB (l1 ++ l2) W) : Own B w0 KB (l2 ++ l1) W where
  bel := h.bel
  low := h.low
  box := h.box
  own := fun e he => h.own e (List.mem_append.2 (List.mem_append.1 he).symm)
  far := fun e he => h.far e (List.mem_append.2 (List.mem_append.1 he).symm)
  dis := fun i j e f hi hj hij => by
    have conv : ∀ (i : Nat) (e : Value × List Value), (l2 ++ l1)[i]? = some e → (l1 ++ l2)[if i < l2.length then i + l1.length else i - l2.length]? = some e := fun i e h => by
      by_cases c : i < l2.length
      · rw [if_pos c, List.getElem?_append_right (by omega), Nat.add_sub_cancel]
        rwa [List.getElem?_append_left c] at h
      · rw [if_neg c]
        rw [List.getElem?_append_right (by omega)] at h
        rw [List.getElem?_append_left (List.getElem?_eq_some_iff.1 h).1]
        exact h
    have l1' := (List.getElem?_eq_some_iff.1 hi).1
    have l2' := (List.getElem?_eq_some_iff.1 hj).1
    rw [List.length_append] at l1' l2'
    refine h.dis _ _ e f (conv i e hi) (conv j f hj) ?_
    split <;> split <;> omega
theorem own_start6 {w : World} (K L : Nat → Kn) : Own w.heap.size w [] (threeVS (.slice none 0 0) (.slice none 0 0) (.slice none 0 0) K 0 ++ threeVS (.slice none 0 0) (.slice none 0 0) (.slice none 0 0) L 0) w :=
  Own.start (Below.refl _ _) (Nat.le_refl _) (fun e he => by cases he) (fun e he => by
    simp only [threeVS, List.cons_append, List.nil_append, List.mem_cons, List.mem_nil_iff, or_false] at he
    rcases he with rfl | rfl | rfl | rfl | rfl | rfl <;> rfl)

theorem and_shr (a c : Nat) (ha : a < 16) (hc : c ≤ 3) : (bits .and .i64 ((a : Int) / 2 ^ c) 1 == 1) = a.testBit c := by
  have h : ∀ a : Fin 16, ∀ c : Fin 4, (bits .and .i64 (((a : Nat) : Int) / 2 ^ (c : Nat)) 1 == 1) = (a : Nat).testBit c := by decide +kernel
  exact h ⟨a, ha⟩ ⟨c, by omega⟩
theorem setN_lt16 (T : Nat → Tk) (tn : Nat) (s : Int) (f n : Nat) (hn : n ≤ 4) : setN T tn s f n < 16 := by
  have h : setN T tn s f n < 2 ^ 4 := Nat.lt_pow_two_of_testBit _ fun i hi => by
    rw [setN_bit]
    simp
    omega
  exact h
def WhR (w7 : World) (T : Nat → Tk) (tn : Nat) (c : Int) (s : Int) (f : Nat) (v1 v2 v3 v4 v5 v6 m i : Value) (wr : World) : Prop :=
  ∃ k : Nat, k ≤ tn ∧ i = .int .i64 k ∧ m = .bool (mustB T s f k) ∧ Own w7.heap.size w7 [] (threeVS v4 v5 v6 (lowK T) k ++ threeVS v1 v2 v3 (mostK c T) k) wr

set_option maxRecDepth 100000 in
set_option maxHeartbeats 4000000 in
theorem whose_law (cr : Int) (sa ta : Option Addr) (sn sc tn tc : Nat) (S : Nat → Sm) (T : Nat → Tk) (which who fat : Int) (hw : 0 ≤ which ∧ which ≤ 255) (hk : 0 ≤ who ∧ who ≤ 255) (hf : 0 ≤ fat ∧ fat ≤ 255) (w : World) (hS : SeamsAt w sa sn S) (hT : TicketsAt w ta tn T) :
    Calls Try.prog 8 #[.agg #[.int .i64 cr, .slice sa sn sc, .slice ta tn tc], .int .u8 which, .int .u8 who, .int .u8 fat] w fun e w' => e = .returned (.bool true) ∧ Below w.heap.size w w' := by
  have I0 := Lib.hid (WB.new (cr := cr) (sc := sc) (tc := tc) hS hT)
  have q0 := cellAt I0.out.box 0
  have q1 := cellAt I0.out.box 1
  have q2 := cellAt I0.out.box 2
  simp only [List.getElem?_toArray, List.getElem?_cons_zero, List.getElem?_cons_succ] at q0 q1 q2
  clear hS hT
  by_cases hs0 : sn = 0
  · subst hs0
    go_enter Try.func8, Try.ntmps8
    go_wp2_with (first | (go_at_call 32; refine (fine_any cr sa ta 0 sc tn tc S T _ I0.out.ss I0.out.tt).mono ?_))
    rintro e w1 ⟨b, rfl, hbv, hb1⟩
    have I1 := Lib.hid (I0.out.grow hb1)
    clear I0 hb1 q0 q1 q2 hbv
    have q0 := cellAt I1.out.box 0
    have q1 := cellAt I1.out.box 1
    have q2 := cellAt I1.out.box 2
    simp only [List.getElem?_toArray, List.getElem?_cons_zero, List.getElem?_cons_succ] at q0 q1 q2
    cases b
    all_goals
      go_wp2_with (go_at_call 14; refine (awake_any _).mono ?_; rintro e w2 ⟨rfl, hb2⟩; have HB := Lib.hid (I1.out.bel.next hb2))
      exact bodyPost_ret (v := .bool true) (by simp [results, Try.results8, go_sem]) rfl ⟨rfl, HB.out⟩
  · go_enter Try.func8, Try.ntmps8
    go_wp2_with (first | (go_at_call 32; refine (fine_any cr sa ta sn sc tn tc S T _ I0.out.ss I0.out.tt).mono ?_))
    rintro e w1 ⟨b, rfl, hbv, hb1⟩
    have I1 := Lib.hid (I0.out.grow hb1)
    clear I0 hb1 q0 q1 q2
    have q0 := cellAt I1.out.box 0
    have q1 := cellAt I1.out.box 1
    have q2 := cellAt I1.out.box 2
    simp only [List.getElem?_toArray, List.getElem?_cons_zero, List.getElem?_cons_succ] at q0 q1 q2
    cases b with
    | false =>
      clear hbv q0 q1 q2
      go_wp2_with (go_at_call 14; refine (awake_any _).mono ?_; rintro e w2 ⟨rfl, hb2⟩; have HB := Lib.hid (I1.out.bel.next hb2))
      exact bodyPost_ret (v := .bool true) (by simp [results, Try.results8, go_sem]) rfl ⟨rfl, HB.out⟩
    | true =>
      have HV := Lib.hid (hbv.1 rfl)
      clear hbv
      have hcr := Lib.hid (show 1 ≤ cr ∧ cr ≤ 4 by have := HV.out.cr0; have := HV.out.cr1; omega)
      have hcr1 := hcr.out
      have hsn3 := HV.out.sn3
      obtain ⟨c, hr, hrl⟩ : ∃ c : Nat, Int.tmod who cr = c ∧ (c : Int) < cr := ⟨(who % cr).toNat, by rw [Int.tmod_eq_emod_of_nonneg hk.1]; have := Int.emod_nonneg who (show cr ≠ 0 by omega); omega, by have := Int.emod_nonneg who (show cr ≠ 0 by omega); have := Int.emod_lt_of_pos who (show 0 < cr by omega); omega⟩
      obtain ⟨s, gr, grl⟩ : ∃ s : Nat, Int.tmod which sn = s ∧ s < sn := ⟨(which % sn).toNat, by rw [Int.tmod_eq_emod_of_nonneg hw.1]; have := Int.emod_nonneg which (show (sn : Int) ≠ 0 by omega); omega, by have := Int.emod_nonneg which (show (sn : Int) ≠ 0 by omega); have := Int.emod_lt_of_pos which (show 0 < (sn : Int) by omega); omega⟩
      have hft := HV.out.fat s grl
      have CW := fun (f : Int) W (h1 : SeamsAt W sa sn S) (h2 : TicketsAt W ta tn T) (hno : ¬ (0 ≤ f ∧ f ≤ (S s).fat - 1)) => (whoses_any cr sa ta sn sc tn tc S T s f W h1 h2).mono fun e w' h => h.no HV.out (by rw [Int.toNat_natCast, inB_no hno, Bool.and_false])
      have CX := fun W (h1 : SeamsAt W sa sn S) (h2 : TicketsAt W ta tn T) => (whoses_any cr sa ta sn sc tn tc S T sn 0 W h1 h2).mono fun e w' h => h.no HV.out (by rw [inB_no (by omega), Bool.false_and])
      have CY := fun (f : Nat) (hf : (f : Int) < (S s).fat) W (h1 : SeamsAt W sa sn S) (h2 : TicketsAt W ta tn T) => (whoses_any cr sa ta sn sc tn tc S T s f W h1 h2).mono fun e w' h => h.yes HV.out (by rw [Int.toNat_natCast, inB_iff.2 ⟨by omega, by omega⟩, inB_iff.2 ⟨by omega, by omega⟩]; rfl)
      simp only [Int.toNat_natCast] at CY
      have CW := Lib.hid CW
      have CX := Lib.hid CX
      have CY := Lib.hid CY
      go_wp2_with fail
      go_quiet (fail)
      have I2 := Lib.hid (I1.out.grow (below_drewN (Below.refl _ _) nq))
      generalize World.drewN _ _ = w2 at *
      clear I1 q0 q1 q2 hw hk gr hr
      have g0 := (I2.out.ss.at grl).1
      have hix := fun w => run_indexAt_row (w := w) (cap := sc) Try.underlying22 size52 (I2.out.ss.plain (by omega)) grl
      go_wp2_with fail
      have I3 := Lib.hid (I2.out.grow (Below.drew (Below.refl _ _)))
      refine wp_region_held_drew (S := (fun w' => w'.cell? ⟨w.heap.size, 0, none⟩ = some (.int .i64 cr) ∧ w'.cell? ⟨w.heap.size, 1, none⟩ = some (.slice sa sn sc) ∧ w'.cell? ⟨w.heap.size, 2, none⟩ = some (.slice ta tn tc) ∧ w'.cell? ⟨blk sa, ofs sa + s * 2, none⟩ = some (.int .i64 (S s).fat))) (by kernel_rfl) (by exact ⟨cellAt I3.out.box 0, cellAt I3.out.box 1, cellAt I3.out.box 2, (I3.out.ss.at grl).1⟩) (fun hHeld => ?_)
      refine wpAnyH_take (i := 0) (oi := { dst := some 55, op := Op.load 25 (Operand.tmp 4), type := 25, pos := "outright.go:169", after := #[], guard := none }) (v := ?_) rfl (by kernel_rfl) (by kernel_rfl) (by kernel_rfl) (fun _ _ _ h => h) (Or.inl ⟨by rfl, ?_⟩) (by assumption) ?_
      rotate_left
      · (intro w9 hSw; (try dsimp only at hSw); (go_split_ands; go_simp); (try with_reducible rfl))
      try simp only [Act.put, List.setIfInBounds_toArray, List.set_cons_zero, List.set_cons_succ]
      refine wpAnyH_take (i := 1) (oi := { dst := some 56, op := Op.move (Operand.tmp 9), type := 3, pos := "outright.go:169", after := #[], guard := none }) (v := ?_) rfl (by kernel_rfl) (by kernel_rfl) (by kernel_rfl) (fun _ _ _ h => h) (Or.inl ⟨by rfl, ?_⟩) (by assumption) ?_
      rotate_left
      · (intro w9 hSw; (try dsimp only at hSw); (go_split_ands; go_simp); (try with_reducible rfl))
      try simp only [Act.put, List.setIfInBounds_toArray, List.set_cons_zero, List.set_cons_succ]
      refine wpAnyH_take (i := 2) (oi := { dst := some 57, op := Op.fieldAddr 25 (Operand.tmp 4) 1, type := 0, pos := "outright.go:169", after := #[], guard := none }) (v := ?_) rfl (by kernel_rfl) (by kernel_rfl) (by kernel_rfl) (fun _ _ _ h => h) (Or.inl ⟨by rfl, ?_⟩) (by assumption) ?_
      rotate_left
      · (intro w9 hSw; (try dsimp only at hSw); (go_split_ands; go_simp); (try with_reducible rfl))
      try simp only [Act.put, List.setIfInBounds_toArray, List.set_cons_zero, List.set_cons_succ]
      refine wpAnyH_take (i := 3) (oi := { dst := some 58, op := Op.load 22 (Operand.tmp 57), type := 22, pos := "outright.go:169", after := #[{ on := 2, ground := Ground.data }], guard := none }) (v := ?_) rfl (by kernel_rfl) (by kernel_rfl) (by kernel_rfl) (fun _ _ _ h => h) (Or.inl ⟨by rfl, ?_⟩) (by assumption) ?_
      rotate_left
      · (intro w9 hSw; (try dsimp only at hSw); (go_split_ands; go_simp); (try with_reducible rfl))
      try simp only [Act.put, List.setIfInBounds_toArray, List.set_cons_zero, List.set_cons_succ]
      refine wpAnyH_take (i := 4) (oi := { dst := some 59, op := Op.move (Operand.tmp 9), type := 3, pos := "outright.go:169", after := #[], guard := none }) (v := ?_) rfl (by kernel_rfl) (by kernel_rfl) (by kernel_rfl) (fun _ _ _ h => h) (Or.inl ⟨by rfl, ?_⟩) (by assumption) ?_
      rotate_left
      · (intro w9 hSw; (try dsimp only at hSw); (go_split_ands; go_simp); (try with_reducible rfl))
      try simp only [Act.put, List.setIfInBounds_toArray, List.set_cons_zero, List.set_cons_succ]
      refine wpAnyH_take (i := 5) (oi := { dst := some 60, op := Op.indexAddr 22 (Operand.tmp 58) (Operand.tmp 59), type := 0, pos := "outright.go:169", after := #[{ on := 3, ground := Ground.data }, { on := 4, ground := Ground.data }], guard := none }) (v := ?_) rfl (by kernel_rfl) (by kernel_rfl) (by kernel_rfl) (fun _ _ _ h => h) (Or.inl ⟨by rfl, ?_⟩) (by assumption) ?_
      rotate_left
      · (intro w9 hSw; (try dsimp only at hSw); (go_split_ands; go_simp); (try with_reducible rfl))
      try simp only [Act.put, List.setIfInBounds_toArray, List.set_cons_zero, List.set_cons_succ]
      refine wpAnyH_take (i := 6) (oi := { dst := some 61, op := Op.fieldAddr 52 (Operand.tmp 60) 0, type := 0, pos := "outright.go:169", after := #[{ on := 5, ground := Ground.data }], guard := none }) (v := ?_) rfl (by kernel_rfl) (by kernel_rfl) (by kernel_rfl) (fun _ _ _ h => h) (Or.inl ⟨by rfl, ?_⟩) (by assumption) ?_
      rotate_left
      · (intro w9 hSw; (try dsimp only at hSw); (go_split_ands; go_simp); (try with_reducible rfl))
      try simp only [Act.put, List.setIfInBounds_toArray, List.set_cons_zero, List.set_cons_succ]
      refine wpAnyH_take (i := 7) (oi := { dst := some 62, op := Op.load 3 (Operand.tmp 61), type := 3, pos := "outright.go:169", after := #[{ on := 6, ground := Ground.data }], guard := none }) (v := ?_) rfl (by kernel_rfl) (by kernel_rfl) (by kernel_rfl) (fun _ _ _ h => h) (Or.inl ⟨by rfl, ?_⟩) (by assumption) ?_
      rotate_left
      · (intro w9 hSw; (try dsimp only at hSw); (go_split_ands; go_simp); (try with_reducible rfl))
      try simp only [Act.put, List.setIfInBounds_toArray, List.set_cons_zero, List.set_cons_succ]
      refine wpAnyH_ready (rs := [8]) (by kernel_rfl) (by simp) ?_
      refine AllReadyH.cons (o := { dst := some 63, op := Op.call { callee := Callee.value (Operand.func 19), args := #[Operand.tmp 55, Operand.tmp 56, Operand.tmp 62], argTypes := #[25, 3, 3] }, type := 34, pos := "outright.go:169", after := #[{ on := 0, ground := Ground.data }, { on := 1, ground := Ground.data }, { on := 7, ground := Ground.data }], guard := none }) rfl (fun K hK => ?_) AllReadyH.nil
      go_simp
      refine (CW.out _ _ I3.out.ss I3.out.tt (by omega)).mono ?_; rintro e w4 ⟨rfl, hb4⟩; have I4 := Lib.hid (I3.out.grow hb4); clear hb4
      go_wp2_with fail
      refine hK.out _ _ ?_ (fun hHeld => ?_)
      · exact ⟨cellAt I4.out.box 0, cellAt I4.out.box 1, cellAt I4.out.box 2, (I4.out.ss.at grl).1⟩
      clear hK K
      try simp only [Act.put, List.setIfInBounds_toArray, List.set_cons_zero, List.set_cons_succ]
      refine wpAnyH_take (i := 9) (oi := { dst := some 54, op := Op.move (Operand.tmp 63), type := 34, pos := "outright.go:169", after := #[{ on := 8, ground := Ground.data }], guard := none }) (v := ?_) rfl (by kernel_rfl) (by kernel_rfl) (by kernel_rfl) (fun _ _ _ h => h) (Or.inl ⟨by rfl, ?_⟩) (by assumption) ?_
      rotate_left
      · (intro w9 hSw; (try dsimp only at hSw); (go_split_ands; go_simp); (try with_reducible rfl))
      try simp only [Act.put, List.setIfInBounds_toArray, List.set_cons_zero, List.set_cons_succ]
      refine wpAnyH_take (i := 10) (oi := { dst := some 64, op := Op.extract (Operand.tmp 54) 0, type := 3, pos := "outright.go:169", after := #[{ on := 9, ground := Ground.data }], guard := none }) (v := ?_) rfl (by kernel_rfl) (by kernel_rfl) (by kernel_rfl) (fun _ _ _ h => h) (Or.inl ⟨by rfl, ?_⟩) (by assumption) ?_
      rotate_left
      · (intro w9 hSw; (try dsimp only at hSw); (go_split_ands; go_simp); (try with_reducible rfl))
      try simp only [Act.put, List.setIfInBounds_toArray, List.set_cons_zero, List.set_cons_succ]
      refine wpAnyH_take (i := 11) (oi := { dst := some 65, op := Op.extract (Operand.tmp 54) 1, type := 4, pos := "outright.go:169", after := #[{ on := 9, ground := Ground.data }, { on := 13, ground := Ground.gcOnly Departure.lateStores }], guard := none }) (v := ?_) rfl (by kernel_rfl) (by kernel_rfl) (by kernel_rfl) (fun _ _ _ h => h) (Or.inl ⟨by rfl, ?_⟩) (by assumption) ?_
      rotate_left
      · (intro w9 hSw; (try dsimp only at hSw); (go_split_ands; go_simp); (try with_reducible rfl))
      try simp only [Act.put, List.setIfInBounds_toArray, List.set_cons_zero, List.set_cons_succ]
      refine wpAnyH_take (i := 12) (oi := { dst := some 66, op := Op.extract (Operand.tmp 54) 2, type := 30, pos := "outright.go:169", after := #[{ on := 9, ground := Ground.data }, { on := 14, ground := Ground.gcOnly Departure.lateStores }], guard := none }) (v := ?_) rfl (by kernel_rfl) (by kernel_rfl) (by kernel_rfl) (fun _ _ _ h => h) (Or.inl ⟨by rfl, ?_⟩) (by assumption) ?_
      rotate_left
      · (intro w9 hSw; (try dsimp only at hSw); (go_split_ands; go_simp); (try with_reducible rfl))
      try simp only [Act.put, List.setIfInBounds_toArray, List.set_cons_zero, List.set_cons_succ]
      refine wpAnyH_take (i := 13) (oi := { dst := some 11, op := Op.assign (Operand.tmp 64), type := 3, pos := "outright.go:169", after := #[{ on := 10, ground := Ground.data }, { on := 8, ground := Ground.chain }, { on := 0, ground := Ground.phase }, { on := 1, ground := Ground.phase }, { on := 2, ground := Ground.phase }, { on := 3, ground := Ground.phase }, { on := 4, ground := Ground.phase }, { on := 5, ground := Ground.phase }, { on := 6, ground := Ground.phase }, { on := 7, ground := Ground.phase }, { on := 8, ground := Ground.phase }, { on := 9, ground := Ground.phase }, { on := 10, ground := Ground.phase }, { on := 11, ground := Ground.textOnly Departure.lateStores }, { on := 12, ground := Ground.textOnly Departure.lateStores }], guard := none }) (v := ?_) rfl (by kernel_rfl) (by kernel_rfl) (by kernel_rfl) (fun _ _ _ h => h) (Or.inl ⟨by rfl, ?_⟩) (by assumption) ?_
      rotate_left
      · (intro w9 hSw; (try dsimp only at hSw); (go_split_ands; go_simp); (try with_reducible rfl))
      try simp only [Act.put, List.setIfInBounds_toArray, List.set_cons_zero, List.set_cons_succ]
      refine wpAnyH_take (i := 14) (oi := { dst := some 12, op := Op.assign (Operand.tmp 65), type := 4, pos := "outright.go:169", after := #[{ on := 11, ground := Ground.data }, { on := 13, ground := Ground.chain }, { on := 0, ground := Ground.phase }, { on := 1, ground := Ground.phase }, { on := 2, ground := Ground.phase }, { on := 3, ground := Ground.phase }, { on := 4, ground := Ground.phase }, { on := 5, ground := Ground.phase }, { on := 6, ground := Ground.phase }, { on := 7, ground := Ground.phase }, { on := 8, ground := Ground.phase }, { on := 9, ground := Ground.phase }, { on := 10, ground := Ground.phase }, { on := 11, ground := Ground.phase }, { on := 12, ground := Ground.textOnly Departure.lateStores }, { on := 13, ground := Ground.phase }], guard := none }) (v := ?_) rfl (by kernel_rfl) (by kernel_rfl) (by kernel_rfl) (fun _ _ _ h => h) (Or.inl ⟨by rfl, ?_⟩) (by assumption) ?_
      rotate_left
      · (intro w9 hSw; (try dsimp only at hSw); (go_split_ands; go_simp); (try with_reducible rfl))
      try simp only [Act.put, List.setIfInBounds_toArray, List.set_cons_zero, List.set_cons_succ]
      refine wpAnyH_take (i := 15) (oi := { dst := some 13, op := Op.assign (Operand.tmp 66), type := 30, pos := "outright.go:169", after := #[{ on := 12, ground := Ground.data }, { on := 14, ground := Ground.chain }, { on := 0, ground := Ground.phase }, { on := 1, ground := Ground.phase }, { on := 2, ground := Ground.phase }, { on := 3, ground := Ground.phase }, { on := 4, ground := Ground.phase }, { on := 5, ground := Ground.phase }, { on := 6, ground := Ground.phase }, { on := 7, ground := Ground.phase }, { on := 8, ground := Ground.phase }, { on := 9, ground := Ground.phase }, { on := 10, ground := Ground.phase }, { on := 11, ground := Ground.phase }, { on := 12, ground := Ground.phase }, { on := 13, ground := Ground.phase }, { on := 14, ground := Ground.phase }], guard := none }) (v := ?_) rfl (by kernel_rfl) (by kernel_rfl) (by kernel_rfl) (fun _ _ _ h => h) (Or.inl ⟨by rfl, ?_⟩) (by assumption) ?_
      rotate_left
      · (intro w9 hSw; (try dsimp only at hSw); (go_split_ands; go_simp); (try with_reducible rfl))
      try simp only [Act.put, List.setIfInBounds_toArray, List.set_cons_zero, List.set_cons_succ]
      refine wpAnyH_done (by kernel_rfl) ?_ _
      clear hHeld
      clear hix g0 I2 I3
      have q0 := cellAt I4.out.box 0
      have q1 := cellAt I4.out.box 1
      have q2 := cellAt I4.out.box 2
      simp only [List.getElem?_toArray, List.getElem?_cons_zero, List.getElem?_cons_succ] at q0 q1 q2
      go_wp2_with (go_at_call 19; refine (CW.out (-1) _ I4.out.ss I4.out.tt (by omega)).mono ?_)
      rintro e w5 ⟨rfl, hb5⟩
      have I5 := Lib.hid (I4.out.grow hb5)
      clear I4 hb5 q0 q1 q2
      have q0 := cellAt I5.out.box 0
      have q1 := cellAt I5.out.box 1
      have q2 := cellAt I5.out.box 2
      simp only [List.getElem?_toArray, List.getElem?_cons_zero, List.getElem?_cons_succ] at q0 q1 q2
      go_wp2_with (go_at_call 19; refine (CX.out _ I5.out.ss I5.out.tt).mono ?_)
      rintro e w6 ⟨rfl, hb6⟩
      have I6 := Lib.hid (I5.out.grow hb6)
      clear I5 hb6 q0 q1 q2 CW CX
      have q0 := cellAt I6.out.box 0
      have q1 := cellAt I6.out.box 1
      have q2 := cellAt I6.out.box 2
      simp only [List.getElem?_toArray, List.getElem?_cons_zero, List.getElem?_cons_succ] at q0 q1 q2
      have g0 := (I6.out.ss.at grl).1
      have hix := fun w => run_indexAt_row (w := w) (cap := sc) Try.underlying22 size52 (I6.out.ss.plain (by omega)) grl
      by_cases hF : (S s).fat = 0
      · have hF0 : ((S s).fat == 0) = true := by simp [hF]
        clear hF hft
        go_wp2_with (go_at_call 14; refine (awake_any _).mono ?_; rintro e w2 ⟨rfl, hb2⟩; have HB := Lib.hid (I6.out.bel.next hb2))
        exact bodyPost_ret (v := .bool true) (by simp [results, Try.results8, go_sem]) rfl ⟨rfl, HB.out⟩
      · have hF0 : ((S s).fat == 0) = false := by simp [hF]
        obtain ⟨f, fr, frl⟩ : ∃ f : Nat, Int.tmod fat (S s).fat = f ∧ (f : Int) < (S s).fat := ⟨(fat % (S s).fat).toNat, by rw [Int.tmod_eq_emod_of_nonneg hf.1]; have := Int.emod_nonneg fat hF; omega, by have := Int.emod_nonneg fat hF; have := Int.emod_lt_of_pos fat (show 0 < (S s).fat by omega); omega⟩
        have CZ := Lib.hid (CY.out f frl)
        clear CY
        have hF1 : 1 ≤ (S s).fat := by omega
        clear hF
        go_wp2_with (go_at_call 19; refine (CZ.out _ I6.out.ss I6.out.tt).mono ?_)
        rintro e w7 ⟨rfl, hb7⟩
        have I7 := Lib.hid (I6.out.grow hb7)
        clear I6 hb7 q0 q1 q2 g0 hix CZ hf fr hF0
        have q0 := cellAt I7.out.box 0
        have q1 := cellAt I7.out.box 1
        have q2 := cellAt I7.out.box 2
        simp only [List.getElem?_toArray, List.getElem?_cons_zero, List.getElem?_cons_succ] at q0 q1 q2
        rw [nobody_must HV.out.crews]
        obtain ⟨st, hst⟩ : ∃ st, st = setN T tn s f cr.toNat := ⟨_, rfl⟩
        rw [← hst]
        have HST := Lib.hid hst
        obtain ⟨mu, hmu⟩ : ∃ mu, mu = mustB T s f tn := ⟨_, rfl⟩
        rw [← hmu]
        have HMU := Lib.hid hmu
        clear hst hmu
        go_wp2_with fail
        clear q0 q1 q2
        go_loopw [24, 25, 26, 27, 28, 29, 30, 123] (WhR w7 T tn c s f) (fun _ _ _ _ _ _ _ i _ => tn - (intOf i).toNat)
        case atStart => exact ⟨0, Nat.zero_le _, rfl, rfl, own_start6 _ _⟩
        case round =>
          obtain ⟨k, hk, rfl, rfl, hown⟩ := hrel
          have HO := Lib.hid hown
          have I8 := Lib.hid (I7.out.grow hown.bel)
          clear hown
          have htn6 := HV.out.tn6
          by_cases hlt : k < tn
          · have hi := fun w => run_indexAt_row (w := w) (cap := tc) Try.underlying23 size58 (I8.out.tt.plain (by omega)) hlt
            obtain ⟨k0, k1, k2, k3, k4, k5, k6, k7⟩ := TicketsAt.at I8.out.tt hlt
            have HO1 := Lib.hid (HO.out.new #[.int .i64 (T k).crew, .int .i64 (T k).seam, .int .i64 (T k).fl, .int .i64 (T k).fh, .int .i64 (T k).tl, .int .i64 (T k).th, .int .i64 (T k).dl, .int .i64 (T k).dh] 58)
            go_upto_region 18 with (fail)
            generalize hW : World.alloc _ _ = W at *
            clear hW k0 k1 k2 k3 k4 k5 k6 k7 hi
            have z0 := cellAt (HO1.out.box _ List.mem_cons_self) 1
            have z1 := cellAt (HO1.out.box _ List.mem_cons_self) 3
            have z2 := cellAt (HO1.out.box _ List.mem_cons_self) 4
            simp only [List.getElem?_toArray, List.getElem?_cons_zero, List.getElem?_cons_succ] at z0 z1 z2
            go_cut [30] from 127 to 205 (fun v wc => v = .bool (mustB T s f (k + 1)) ∧ wc = W)
            case first =>
              obtain ⟨m, hm⟩ : ∃ m, m = mustB T s f k := ⟨_, rfl⟩
              have HM := Lib.hid hm
              rw [← hm]
              clear hm
              obtain ⟨b1, h1⟩ : ∃ b, ((T k).seam == (s : Int)) = b := ⟨_, rfl⟩
              obtain ⟨b2, h2⟩ : ∃ b, decide ((T k).fh ≤ (f : Int)) = b := ⟨_, rfl⟩
              obtain ⟨b3, h3⟩ : ∃ b, decide ((f : Int) < (T k).tl) = b := ⟨_, rfl⟩
              have HB : Hid (mustB T s f (k + 1) = (m || (b1 && b2 && b3))) := by
                show (mustB T s f k || _) = _
                rw [← HM.out, ← h1, ← h2, ← h3]
                rfl
              cases m
              · cases b1
                · go_wp2_with fail
                  go_meet
                  exact ⟨by rw [HB.out]; rfl, rfl⟩
                · cases b2
                  · go_wp2_with fail
                    go_meet
                    exact ⟨by rw [HB.out]; rfl, rfl⟩
                  · cases b3
                    all_goals
                      go_wp2_with fail
                      go_meet
                      exact ⟨by rw [HB.out]; rfl, rfl⟩
              · go_wp2_with fail
                go_meet
                exact ⟨by rw [HB.out]; rfl, rfl⟩
            case rest =>
              obtain ⟨rfl, rfl⟩ := hcut
              clear z0 z1 z2
              have z1 := cellAt (HO1.out.box _ List.mem_cons_self) 3
              have z2 := cellAt (HO1.out.box _ List.mem_cons_self) 4
              have z3 := cellAt (HO1.out.box _ List.mem_cons_self) 7
              simp only [List.getElem?_toArray, List.getElem?_cons_zero, List.getElem?_cons_succ] at z1 z2 z3
              go_wp2_with fail
              refine wp_region_held_drew (S := (fun w' => w'.cell? ⟨wr.heap.size, 3, none⟩ = some (.int .i64 (T k).fh) ∧ w'.cell? ⟨wr.heap.size, 4, none⟩ = some (.int .i64 (T k).tl) ∧ w'.cell? ⟨wr.heap.size, 7, none⟩ = some (.int .i64 (T k).dh))) (by kernel_rfl) (by exact ⟨z1, z2, z3⟩) (fun hHeld => ?_)
              refine wpAnyH_take (i := 0) (oi := { dst := some 148, op := Op.move (Operand.tmp 27), type := 37, pos := "outright.go:184", after := #[], guard := none }) (v := ?_) rfl (by kernel_rfl) (by kernel_rfl) (by kernel_rfl) (fun _ _ _ h => h) (Or.inl ⟨by rfl, ?_⟩) (by assumption) ?_
              rotate_left
              · (intro w9 hSw; (try dsimp only at hSw); (go_split_ands; go_simp); (try with_reducible rfl))
              try simp only [Act.put, List.setIfInBounds_toArray, List.set_cons_zero, List.set_cons_succ]
              refine wpAnyH_take (i := 1) (oi := { dst := some 149, op := Op.fieldAddr 58 (Operand.tmp 32) 2, type := 0, pos := "outright.go:184", after := #[], guard := none }) (v := ?_) rfl (by kernel_rfl) (by kernel_rfl) (by kernel_rfl) (fun _ _ _ h => h) (Or.inl ⟨by rfl, ?_⟩) (by assumption) ?_
              rotate_left
              · (intro w9 hSw; (try dsimp only at hSw); (go_split_ands; go_simp); (try with_reducible rfl))
              try simp only [Act.put, List.setIfInBounds_toArray, List.set_cons_zero, List.set_cons_succ]
              refine wpAnyH_take (i := 2) (oi := { dst := some 150, op := Op.fieldAddr 29 (Operand.tmp 149) 1, type := 0, pos := "outright.go:184", after := #[{ on := 1, ground := Ground.data }], guard := none }) (v := ?_) rfl (by kernel_rfl) (by kernel_rfl) (by kernel_rfl) (fun _ _ _ h => h) (Or.inl ⟨by rfl, ?_⟩) (by assumption) ?_
              rotate_left
              · (intro w9 hSw; (try dsimp only at hSw); (go_split_ands; go_simp); (try with_reducible rfl))
              try simp only [Act.put, List.setIfInBounds_toArray, List.set_cons_zero, List.set_cons_succ]
              refine wpAnyH_take (i := 3) (oi := { dst := some 151, op := Op.load 3 (Operand.tmp 150), type := 3, pos := "outright.go:184", after := #[{ on := 2, ground := Ground.data }], guard := none }) (v := ?_) rfl (by kernel_rfl) (by kernel_rfl) (by kernel_rfl) (fun _ _ _ h => h) (Or.inl ⟨by rfl, ?_⟩) (by assumption) ?_
              rotate_left
              · (intro w9 hSw; (try dsimp only at hSw); (go_split_ands; go_simp); (try with_reducible rfl))
              try simp only [Act.put, List.setIfInBounds_toArray, List.set_cons_zero, List.set_cons_succ]
              refine wpAnyH_take (i := 6) (oi := { dst := some 154, op := Op.move (Operand.tmp 28), type := 37, pos := "outright.go:184", after := #[], guard := none }) (v := ?_) rfl (by kernel_rfl) (by kernel_rfl) (by kernel_rfl) (fun _ _ _ h => h) (Or.inl ⟨by rfl, ?_⟩) (by assumption) ?_
              rotate_left
              · (intro w9 hSw; (try dsimp only at hSw); (go_split_ands; go_simp); (try with_reducible rfl))
              try simp only [Act.put, List.setIfInBounds_toArray, List.set_cons_zero, List.set_cons_succ]
              refine wpAnyH_take (i := 7) (oi := { dst := some 155, op := Op.fieldAddr 58 (Operand.tmp 32) 3, type := 0, pos := "outright.go:184", after := #[], guard := none }) (v := ?_) rfl (by kernel_rfl) (by kernel_rfl) (by kernel_rfl) (fun _ _ _ h => h) (Or.inl ⟨by rfl, ?_⟩) (by assumption) ?_
              rotate_left
              · (intro w9 hSw; (try dsimp only at hSw); (go_split_ands; go_simp); (try with_reducible rfl))
              try simp only [Act.put, List.setIfInBounds_toArray, List.set_cons_zero, List.set_cons_succ]
              refine wpAnyH_take (i := 8) (oi := { dst := some 156, op := Op.fieldAddr 29 (Operand.tmp 155) 0, type := 0, pos := "outright.go:184", after := #[{ on := 7, ground := Ground.data }], guard := none }) (v := ?_) rfl (by kernel_rfl) (by kernel_rfl) (by kernel_rfl) (fun _ _ _ h => h) (Or.inl ⟨by rfl, ?_⟩) (by assumption) ?_
              rotate_left
              · (intro w9 hSw; (try dsimp only at hSw); (go_split_ands; go_simp); (try with_reducible rfl))
              try simp only [Act.put, List.setIfInBounds_toArray, List.set_cons_zero, List.set_cons_succ]
              refine wpAnyH_take (i := 9) (oi := { dst := some 157, op := Op.load 3 (Operand.tmp 156), type := 3, pos := "outright.go:184", after := #[{ on := 8, ground := Ground.data }], guard := none }) (v := ?_) rfl (by kernel_rfl) (by kernel_rfl) (by kernel_rfl) (fun _ _ _ h => h) (Or.inl ⟨by rfl, ?_⟩) (by assumption) ?_
              rotate_left
              · (intro w9 hSw; (try dsimp only at hSw); (go_split_ands; go_simp); (try with_reducible rfl))
              try simp only [Act.put, List.setIfInBounds_toArray, List.set_cons_zero, List.set_cons_succ]
              refine wpAnyH_take (i := 12) (oi := { dst := some 160, op := Op.move (Operand.tmp 29), type := 37, pos := "outright.go:184", after := #[], guard := none }) (v := ?_) rfl (by kernel_rfl) (by kernel_rfl) (by kernel_rfl) (fun _ _ _ h => h) (Or.inl ⟨by rfl, ?_⟩) (by assumption) ?_
              rotate_left
              · (intro w9 hSw; (try dsimp only at hSw); (go_split_ands; go_simp); (try with_reducible rfl))
              try simp only [Act.put, List.setIfInBounds_toArray, List.set_cons_zero, List.set_cons_succ]
              refine wpAnyH_take (i := 13) (oi := { dst := some 161, op := Op.fieldAddr 58 (Operand.tmp 32) 4, type := 0, pos := "outright.go:184", after := #[], guard := none }) (v := ?_) rfl (by kernel_rfl) (by kernel_rfl) (by kernel_rfl) (fun _ _ _ h => h) (Or.inl ⟨by rfl, ?_⟩) (by assumption) ?_
              rotate_left
              · (intro w9 hSw; (try dsimp only at hSw); (go_split_ands; go_simp); (try with_reducible rfl))
              try simp only [Act.put, List.setIfInBounds_toArray, List.set_cons_zero, List.set_cons_succ]
              refine wpAnyH_take (i := 14) (oi := { dst := some 162, op := Op.fieldAddr 29 (Operand.tmp 161) 1, type := 0, pos := "outright.go:184", after := #[{ on := 13, ground := Ground.data }], guard := none }) (v := ?_) rfl (by kernel_rfl) (by kernel_rfl) (by kernel_rfl) (fun _ _ _ h => h) (Or.inl ⟨by rfl, ?_⟩) (by assumption) ?_
              rotate_left
              · (intro w9 hSw; (try dsimp only at hSw); (go_split_ands; go_simp); (try with_reducible rfl))
              try simp only [Act.put, List.setIfInBounds_toArray, List.set_cons_zero, List.set_cons_succ]
              refine wpAnyH_take (i := 15) (oi := { dst := some 163, op := Op.load 3 (Operand.tmp 162), type := 3, pos := "outright.go:184", after := #[{ on := 14, ground := Ground.data }], guard := none }) (v := ?_) rfl (by kernel_rfl) (by kernel_rfl) (by kernel_rfl) (fun _ _ _ h => h) (Or.inl ⟨by rfl, ?_⟩) (by assumption) ?_
              rotate_left
              · (intro w9 hSw; (try dsimp only at hSw); (go_split_ands; go_simp); (try with_reducible rfl))
              try simp only [Act.put, List.setIfInBounds_toArray, List.set_cons_zero, List.set_cons_succ]
              refine chains3 (c1 := ⟨4, 5, 152, 153, .tmp 148, .tmp 151, (T k).fh, u27, rowVals (fun i => (lowK T i).fr) k⟩) (c2 := ⟨10, 11, 158, 159, .tmp 154, .tmp 157, (T k).tl, u28, rowVals (fun i => (lowK T i).«to») k⟩) (c3 := ⟨16, 17, 164, 165, .tmp 160, .tmp 163, (T k).dh, u29, rowVals (fun i => (lowK T i).td) k⟩) (VR := threeVS u24 u25 u26 (mostK c T) k) (by exact HO1.out.drew) (by kernel_rfl) (by kernel_rfl) (by kernel_rfl) ?_ ?_ ?_ ?_ ?_
              rotate_left 4
              · intro b11 g11 p11 b12 g12 p12 b13 g13 p13 W13 hO3 hHeld3
                try simp only [Act.put, List.setIfInBounds_toArray, List.set_cons_zero, List.set_cons_succ]
                refine wpAnyH_take (i := 18) (oi := { dst := some 27, op := Op.assign (Operand.tmp 153), type := 37, pos := "outright.go:184", after := #[{ on := 5, ground := Ground.data }, { on := 17, ground := Ground.chain }, { on := 0, ground := Ground.phase }, { on := 1, ground := Ground.phase }, { on := 2, ground := Ground.phase }, { on := 3, ground := Ground.phase }, { on := 4, ground := Ground.phase }, { on := 5, ground := Ground.phase }, { on := 6, ground := Ground.textOnly Departure.lateStores }, { on := 7, ground := Ground.textOnly Departure.lateStores }, { on := 8, ground := Ground.textOnly Departure.lateStores }, { on := 9, ground := Ground.textOnly Departure.lateStores }, { on := 10, ground := Ground.textOnly Departure.lateStores }, { on := 11, ground := Ground.textOnly Departure.lateStoresUnsure }, { on := 12, ground := Ground.textOnly Departure.lateStores }, { on := 13, ground := Ground.textOnly Departure.lateStores }, { on := 14, ground := Ground.textOnly Departure.lateStores }, { on := 15, ground := Ground.textOnly Departure.lateStores }, { on := 16, ground := Ground.textOnly Departure.lateStores }, { on := 17, ground := Ground.textOnly Departure.lateStoresUnsure }], guard := none }) (v := ?_) rfl (by kernel_rfl) (by kernel_rfl) (by kernel_rfl) (fun _ _ _ h => h) (Or.inl ⟨by rfl, ?_⟩) (by assumption) ?_
                rotate_left
                · (intro w9 hSw; (try dsimp only at hSw); (go_split_ands; go_simp); (try with_reducible rfl))
                try simp only [Act.put, List.setIfInBounds_toArray, List.set_cons_zero, List.set_cons_succ]
                refine wpAnyH_take (i := 19) (oi := { dst := some 28, op := Op.assign (Operand.tmp 159), type := 37, pos := "outright.go:184", after := #[{ on := 11, ground := Ground.data }, { on := 18, ground := Ground.chain }, { on := 0, ground := Ground.phase }, { on := 1, ground := Ground.phase }, { on := 2, ground := Ground.phase }, { on := 3, ground := Ground.phase }, { on := 4, ground := Ground.phase }, { on := 5, ground := Ground.phase }, { on := 6, ground := Ground.phase }, { on := 7, ground := Ground.phase }, { on := 8, ground := Ground.phase }, { on := 9, ground := Ground.phase }, { on := 10, ground := Ground.phase }, { on := 11, ground := Ground.phase }, { on := 12, ground := Ground.textOnly Departure.lateStores }, { on := 13, ground := Ground.textOnly Departure.lateStores }, { on := 14, ground := Ground.textOnly Departure.lateStores }, { on := 15, ground := Ground.textOnly Departure.lateStores }, { on := 16, ground := Ground.textOnly Departure.lateStores }, { on := 17, ground := Ground.textOnly Departure.lateStoresUnsure }, { on := 18, ground := Ground.phase }], guard := none }) (v := ?_) rfl (by kernel_rfl) (by kernel_rfl) (by kernel_rfl) (fun _ _ _ h => h) (Or.inl ⟨by rfl, ?_⟩) (by assumption) ?_
                rotate_left
                · (intro w9 hSw; (try dsimp only at hSw); (go_split_ands; go_simp); (try with_reducible rfl))
                try simp only [Act.put, List.setIfInBounds_toArray, List.set_cons_zero, List.set_cons_succ]
                refine wpAnyH_take (i := 20) (oi := { dst := some 29, op := Op.assign (Operand.tmp 165), type := 37, pos := "outright.go:184", after := #[{ on := 17, ground := Ground.data }, { on := 19, ground := Ground.chain }, { on := 0, ground := Ground.phase }, { on := 1, ground := Ground.phase }, { on := 2, ground := Ground.phase }, { on := 3, ground := Ground.phase }, { on := 4, ground := Ground.phase }, { on := 5, ground := Ground.phase }, { on := 6, ground := Ground.phase }, { on := 7, ground := Ground.phase }, { on := 8, ground := Ground.phase }, { on := 9, ground := Ground.phase }, { on := 10, ground := Ground.phase }, { on := 11, ground := Ground.phase }, { on := 12, ground := Ground.phase }, { on := 13, ground := Ground.phase }, { on := 14, ground := Ground.phase }, { on := 15, ground := Ground.phase }, { on := 16, ground := Ground.phase }, { on := 17, ground := Ground.phase }, { on := 18, ground := Ground.phase }, { on := 19, ground := Ground.phase }], guard := none }) (v := ?_) rfl (by kernel_rfl) (by kernel_rfl) (by kernel_rfl) (fun _ _ _ h => h) (Or.inl ⟨by rfl, ?_⟩) (by assumption) ?_
                rotate_left
                · (intro w9 hSw; (try dsimp only at hSw); (go_split_ands; go_simp); (try with_reducible rfl))
                try simp only [Act.put, List.setIfInBounds_toArray, List.set_cons_zero, List.set_cons_succ]
                refine wpAnyH_done (by kernel_rfl) ?_ _
                clear hHeld hHeld3
                have HZ := Lib.hid (threeVS_snoc (by rfl) (by rfl) (by rfl) hO3).rot
                clear hO3 z1 z2 z3
                have y0 := cellAt (HZ.out.box _ List.mem_cons_self) 0
                simp only [List.getElem?_toArray, List.getElem?_cons_zero] at y0
                cases hc : decide ((T k).crew = (c : Int)) with
                | true =>
                  have HC := Lib.hid (of_decide_eq_true hc)
                  have hc0 : ((T k).crew == (c : Int)) = true := by simpa using HC.out
                  clear hc
                  go_wp2_with fail
                  clear hc0 y0
                  have z1 := cellAt (HZ.out.box _ List.mem_cons_self) 2
                  have z2 := cellAt (HZ.out.box _ List.mem_cons_self) 5
                  have z3 := cellAt (HZ.out.box _ List.mem_cons_self) 6
                  simp only [List.getElem?_toArray, List.getElem?_cons_zero, List.getElem?_cons_succ] at z1 z2 z3
                  refine wp_region_held_drew (S := (fun w' => w'.cell? ⟨wr.heap.size, 2, none⟩ = some (.int .i64 (T k).fl) ∧ w'.cell? ⟨wr.heap.size, 5, none⟩ = some (.int .i64 (T k).th) ∧ w'.cell? ⟨wr.heap.size, 6, none⟩ = some (.int .i64 (T k).dl))) (by kernel_rfl) (by exact ⟨z1, z2, z3⟩) (fun hHeld => ?_)
                  refine wpAnyH_take (i := 0) (oi := { dst := some 170, op := Op.move (Operand.tmp 24), type := 37, pos := "outright.go:186", after := #[], guard := none }) (v := ?_) rfl (by kernel_rfl) (by kernel_rfl) (by kernel_rfl) (fun _ _ _ h => h) (Or.inl ⟨by rfl, ?_⟩) (by assumption) ?_
                  rotate_left
                  · (intro w9 hSw; (try dsimp only at hSw); (go_split_ands; go_simp); (try with_reducible rfl))
                  try simp only [Act.put, List.setIfInBounds_toArray, List.set_cons_zero, List.set_cons_succ]
                  refine wpAnyH_take (i := 1) (oi := { dst := some 171, op := Op.fieldAddr 58 (Operand.tmp 32) 2, type := 0, pos := "outright.go:186", after := #[], guard := none }) (v := ?_) rfl (by kernel_rfl) (by kernel_rfl) (by kernel_rfl) (fun _ _ _ h => h) (Or.inl ⟨by rfl, ?_⟩) (by assumption) ?_
                  rotate_left
                  · (intro w9 hSw; (try dsimp only at hSw); (go_split_ands; go_simp); (try with_reducible rfl))
                  try simp only [Act.put, List.setIfInBounds_toArray, List.set_cons_zero, List.set_cons_succ]
                  refine wpAnyH_take (i := 2) (oi := { dst := some 172, op := Op.fieldAddr 29 (Operand.tmp 171) 0, type := 0, pos := "outright.go:186", after := #[{ on := 1, ground := Ground.data }], guard := none }) (v := ?_) rfl (by kernel_rfl) (by kernel_rfl) (by kernel_rfl) (fun _ _ _ h => h) (Or.inl ⟨by rfl, ?_⟩) (by assumption) ?_
                  rotate_left
                  · (intro w9 hSw; (try dsimp only at hSw); (go_split_ands; go_simp); (try with_reducible rfl))
                  try simp only [Act.put, List.setIfInBounds_toArray, List.set_cons_zero, List.set_cons_succ]
                  refine wpAnyH_take (i := 3) (oi := { dst := some 173, op := Op.load 3 (Operand.tmp 172), type := 3, pos := "outright.go:186", after := #[{ on := 2, ground := Ground.data }], guard := none }) (v := ?_) rfl (by kernel_rfl) (by kernel_rfl) (by kernel_rfl) (fun _ _ _ h => h) (Or.inl ⟨by rfl, ?_⟩) (by assumption) ?_
                  rotate_left
                  · (intro w9 hSw; (try dsimp only at hSw); (go_split_ands; go_simp); (try with_reducible rfl))
                  try simp only [Act.put, List.setIfInBounds_toArray, List.set_cons_zero, List.set_cons_succ]
                  refine wpAnyH_take (i := 6) (oi := { dst := some 176, op := Op.move (Operand.tmp 25), type := 37, pos := "outright.go:186", after := #[], guard := none }) (v := ?_) rfl (by kernel_rfl) (by kernel_rfl) (by kernel_rfl) (fun _ _ _ h => h) (Or.inl ⟨by rfl, ?_⟩) (by assumption) ?_
                  rotate_left
                  · (intro w9 hSw; (try dsimp only at hSw); (go_split_ands; go_simp); (try with_reducible rfl))
                  try simp only [Act.put, List.setIfInBounds_toArray, List.set_cons_zero, List.set_cons_succ]
                  refine wpAnyH_take (i := 7) (oi := { dst := some 177, op := Op.fieldAddr 58 (Operand.tmp 32) 3, type := 0, pos := "outright.go:186", after := #[], guard := none }) (v := ?_) rfl (by kernel_rfl) (by kernel_rfl) (by kernel_rfl) (fun _ _ _ h => h) (Or.inl ⟨by rfl, ?_⟩) (by assumption) ?_
                  rotate_left
                  · (intro w9 hSw; (try dsimp only at hSw); (go_split_ands; go_simp); (try with_reducible rfl))
                  try simp only [Act.put, List.setIfInBounds_toArray, List.set_cons_zero, List.set_cons_succ]
                  refine wpAnyH_take (i := 8) (oi := { dst := some 178, op := Op.fieldAddr 29 (Operand.tmp 177) 1, type := 0, pos := "outright.go:186", after := #[{ on := 7, ground := Ground.data }], guard := none }) (v := ?_) rfl (by kernel_rfl) (by kernel_rfl) (by kernel_rfl) (fun _ _ _ h => h) (Or.inl ⟨by rfl, ?_⟩) (by assumption) ?_
                  rotate_left
                  · (intro w9 hSw; (try dsimp only at hSw); (go_split_ands; go_simp); (try with_reducible rfl))
                  try simp only [Act.put, List.setIfInBounds_toArray, List.set_cons_zero, List.set_cons_succ]
                  refine wpAnyH_take (i := 9) (oi := { dst := some 179, op := Op.load 3 (Operand.tmp 178), type := 3, pos := "outright.go:186", after := #[{ on := 8, ground := Ground.data }], guard := none }) (v := ?_) rfl (by kernel_rfl) (by kernel_rfl) (by kernel_rfl) (fun _ _ _ h => h) (Or.inl ⟨by rfl, ?_⟩) (by assumption) ?_
                  rotate_left
                  · (intro w9 hSw; (try dsimp only at hSw); (go_split_ands; go_simp); (try with_reducible rfl))
                  try simp only [Act.put, List.setIfInBounds_toArray, List.set_cons_zero, List.set_cons_succ]
                  refine wpAnyH_take (i := 12) (oi := { dst := some 182, op := Op.move (Operand.tmp 26), type := 37, pos := "outright.go:186", after := #[], guard := none }) (v := ?_) rfl (by kernel_rfl) (by kernel_rfl) (by kernel_rfl) (fun _ _ _ h => h) (Or.inl ⟨by rfl, ?_⟩) (by assumption) ?_
                  rotate_left
                  · (intro w9 hSw; (try dsimp only at hSw); (go_split_ands; go_simp); (try with_reducible rfl))
                  try simp only [Act.put, List.setIfInBounds_toArray, List.set_cons_zero, List.set_cons_succ]
                  refine wpAnyH_take (i := 13) (oi := { dst := some 183, op := Op.fieldAddr 58 (Operand.tmp 32) 4, type := 0, pos := "outright.go:186", after := #[], guard := none }) (v := ?_) rfl (by kernel_rfl) (by kernel_rfl) (by kernel_rfl) (fun _ _ _ h => h) (Or.inl ⟨by rfl, ?_⟩) (by assumption) ?_
                  rotate_left
                  · (intro w9 hSw; (try dsimp only at hSw); (go_split_ands; go_simp); (try with_reducible rfl))
                  try simp only [Act.put, List.setIfInBounds_toArray, List.set_cons_zero, List.set_cons_succ]
                  refine wpAnyH_take (i := 14) (oi := { dst := some 184, op := Op.fieldAddr 29 (Operand.tmp 183) 0, type := 0, pos := "outright.go:186", after := #[{ on := 13, ground := Ground.data }], guard := none }) (v := ?_) rfl (by kernel_rfl) (by kernel_rfl) (by kernel_rfl) (fun _ _ _ h => h) (Or.inl ⟨by rfl, ?_⟩) (by assumption) ?_
                  rotate_left
                  · (intro w9 hSw; (try dsimp only at hSw); (go_split_ands; go_simp); (try with_reducible rfl))
                  try simp only [Act.put, List.setIfInBounds_toArray, List.set_cons_zero, List.set_cons_succ]
                  refine wpAnyH_take (i := 15) (oi := { dst := some 185, op := Op.load 3 (Operand.tmp 184), type := 3, pos := "outright.go:186", after := #[{ on := 14, ground := Ground.data }], guard := none }) (v := ?_) rfl (by kernel_rfl) (by kernel_rfl) (by kernel_rfl) (fun _ _ _ h => h) (Or.inl ⟨by rfl, ?_⟩) (by assumption) ?_
                  rotate_left
                  · (intro w9 hSw; (try dsimp only at hSw); (go_split_ands; go_simp); (try with_reducible rfl))
                  try simp only [Act.put, List.setIfInBounds_toArray, List.set_cons_zero, List.set_cons_succ]
                  refine chains3 (c1 := ⟨4, 5, 174, 175, .tmp 170, .tmp 173, (T k).fl, u24, rowVals (fun i => (mostK c T i).fr) k⟩) (c2 := ⟨10, 11, 180, 181, .tmp 176, .tmp 179, (T k).th, u25, rowVals (fun i => (mostK c T i).«to») k⟩) (c3 := ⟨16, 17, 186, 187, .tmp 182, .tmp 185, (T k).dl, u26, rowVals (fun i => (mostK c T i).td) k⟩) (VR := threeVS _ _ _ (lowK T) (k + 1)) (by exact HZ.out.drew) (by kernel_rfl) (by kernel_rfl) (by kernel_rfl) ?_ ?_ ?_ ?_ ?_
                  rotate_left 4
                  · intro b21 g21 p21 b22 g22 p22 b23 g23 p23 W23 hO3 hHeld3
                    try simp only [Act.put, List.setIfInBounds_toArray, List.set_cons_zero, List.set_cons_succ]
                    refine wpAnyH_take (i := 18) (oi := { dst := some 24, op := Op.assign (Operand.tmp 175), type := 37, pos := "outright.go:186", after := #[{ on := 5, ground := Ground.data }, { on := 17, ground := Ground.chain }, { on := 0, ground := Ground.phase }, { on := 1, ground := Ground.phase }, { on := 2, ground := Ground.phase }, { on := 3, ground := Ground.phase }, { on := 4, ground := Ground.phase }, { on := 5, ground := Ground.phase }, { on := 6, ground := Ground.textOnly Departure.lateStores }, { on := 7, ground := Ground.textOnly Departure.lateStores }, { on := 8, ground := Ground.textOnly Departure.lateStores }, { on := 9, ground := Ground.textOnly Departure.lateStores }, { on := 10, ground := Ground.textOnly Departure.lateStores }, { on := 11, ground := Ground.textOnly Departure.lateStoresUnsure }, { on := 12, ground := Ground.textOnly Departure.lateStores }, { on := 13, ground := Ground.textOnly Departure.lateStores }, { on := 14, ground := Ground.textOnly Departure.lateStores }, { on := 15, ground := Ground.textOnly Departure.lateStores }, { on := 16, ground := Ground.textOnly Departure.lateStores }, { on := 17, ground := Ground.textOnly Departure.lateStoresUnsure }], guard := none }) (v := ?_) rfl (by kernel_rfl) (by kernel_rfl) (by kernel_rfl) (fun _ _ _ h => h) (Or.inl ⟨by rfl, ?_⟩) (by assumption) ?_
                    rotate_left
                    · (intro w9 hSw; (try dsimp only at hSw); (go_split_ands; go_simp); (try with_reducible rfl))
                    try simp only [Act.put, List.setIfInBounds_toArray, List.set_cons_zero, List.set_cons_succ]
                    refine wpAnyH_take (i := 19) (oi := { dst := some 25, op := Op.assign (Operand.tmp 181), type := 37, pos := "outright.go:186", after := #[{ on := 11, ground := Ground.data }, { on := 18, ground := Ground.chain }, { on := 0, ground := Ground.phase }, { on := 1, ground := Ground.phase }, { on := 2, ground := Ground.phase }, { on := 3, ground := Ground.phase }, { on := 4, ground := Ground.phase }, { on := 5, ground := Ground.phase }, { on := 6, ground := Ground.phase }, { on := 7, ground := Ground.phase }, { on := 8, ground := Ground.phase }, { on := 9, ground := Ground.phase }, { on := 10, ground := Ground.phase }, { on := 11, ground := Ground.phase }, { on := 12, ground := Ground.textOnly Departure.lateStores }, { on := 13, ground := Ground.textOnly Departure.lateStores }, { on := 14, ground := Ground.textOnly Departure.lateStores }, { on := 15, ground := Ground.textOnly Departure.lateStores }, { on := 16, ground := Ground.textOnly Departure.lateStores }, { on := 17, ground := Ground.textOnly Departure.lateStoresUnsure }, { on := 18, ground := Ground.phase }], guard := none }) (v := ?_) rfl (by kernel_rfl) (by kernel_rfl) (by kernel_rfl) (fun _ _ _ h => h) (Or.inl ⟨by rfl, ?_⟩) (by assumption) ?_
                    rotate_left
                    · (intro w9 hSw; (try dsimp only at hSw); (go_split_ands; go_simp); (try with_reducible rfl))
                    try simp only [Act.put, List.setIfInBounds_toArray, List.set_cons_zero, List.set_cons_succ]
                    refine wpAnyH_take (i := 20) (oi := { dst := some 26, op := Op.assign (Operand.tmp 187), type := 37, pos := "outright.go:186", after := #[{ on := 17, ground := Ground.data }, { on := 19, ground := Ground.chain }, { on := 0, ground := Ground.phase }, { on := 1, ground := Ground.phase }, { on := 2, ground := Ground.phase }, { on := 3, ground := Ground.phase }, { on := 4, ground := Ground.phase }, { on := 5, ground := Ground.phase }, { on := 6, ground := Ground.phase }, { on := 7, ground := Ground.phase }, { on := 8, ground := Ground.phase }, { on := 9, ground := Ground.phase }, { on := 10, ground := Ground.phase }, { on := 11, ground := Ground.phase }, { on := 12, ground := Ground.phase }, { on := 13, ground := Ground.phase }, { on := 14, ground := Ground.phase }, { on := 15, ground := Ground.phase }, { on := 16, ground := Ground.phase }, { on := 17, ground := Ground.phase }, { on := 18, ground := Ground.phase }, { on := 19, ground := Ground.phase }], guard := none }) (v := ?_) rfl (by kernel_rfl) (by kernel_rfl) (by kernel_rfl) (fun _ _ _ h => h) (Or.inl ⟨by rfl, ?_⟩) (by assumption) ?_
                    rotate_left
                    · (intro w9 hSw; (try dsimp only at hSw); (go_split_ands; go_simp); (try with_reducible rfl))
                    try simp only [Act.put, List.setIfInBounds_toArray, List.set_cons_zero, List.set_cons_succ]
                    refine wpAnyH_done (by kernel_rfl) ?_ _
                    clear hHeld hHeld3
                    have HY := Lib.hid (Own.sub (KB' := []) (threeVS_snoc (by simp [mostK, HC.out]) (by simp [mostK, HC.out]) (by simp [mostK, HC.out]) hO3) (fun e he => by cases he)).rot
                    clear hO3
                    go_wp2_with fail
                    simp only [rowVals_length]
                    exact ⟨⟨k + 1, hlt, by go_num, rfl, HY.out⟩, by simp [intOf]; omega⟩
                  · exact ⟨⟨_, rfl, rfl, rfl, rfl⟩, ⟨_, rfl, rfl, rfl, rfl⟩, (by rfl), (by rfl), (by rw [rowVals_length]; omega), (by simp)⟩
                  · exact ⟨⟨_, rfl, rfl, rfl, rfl⟩, ⟨_, rfl, rfl, rfl, rfl⟩, (by rfl), (by rfl), (by rw [rowVals_length]; omega), (by simp)⟩
                  · exact ⟨⟨_, rfl, rfl, rfl, rfl⟩, ⟨_, rfl, rfl, rfl, rfl⟩, (by rfl), (by rfl), (by rw [rowVals_length]; omega), (by simp)⟩
                  · intro KB' VS' W' hk hO; have hb := hO.box _ (hk _ List.mem_cons_self); exact ⟨cellAt hb 2, cellAt hb 5, cellAt hb 6⟩
                | false =>
                  have HC := Lib.hid (of_decide_eq_false hc)
                  have hc0 : ((T k).crew == (c : Int)) = false := by simpa using HC.out
                  clear hc
                  go_wp2_with fail
                  clear hc0 y0
                  have z1 := cellAt (HZ.out.box _ List.mem_cons_self) 3
                  have z2 := cellAt (HZ.out.box _ List.mem_cons_self) 4
                  have z3 := cellAt (HZ.out.box _ List.mem_cons_self) 7
                  simp only [List.getElem?_toArray, List.getElem?_cons_zero, List.getElem?_cons_succ] at z1 z2 z3
                  refine wp_region_held_drew (S := (fun w' => w'.cell? ⟨wr.heap.size, 3, none⟩ = some (.int .i64 (T k).fh) ∧ w'.cell? ⟨wr.heap.size, 4, none⟩ = some (.int .i64 (T k).tl) ∧ w'.cell? ⟨wr.heap.size, 7, none⟩ = some (.int .i64 (T k).dh))) (by kernel_rfl) (by exact ⟨z1, z2, z3⟩) (fun hHeld => ?_)
                  refine wpAnyH_take (i := 0) (oi := { dst := some 188, op := Op.move (Operand.tmp 24), type := 37, pos := "outright.go:188", after := #[], guard := none }) (v := ?_) rfl (by kernel_rfl) (by kernel_rfl) (by kernel_rfl) (fun _ _ _ h => h) (Or.inl ⟨by rfl, ?_⟩) (by assumption) ?_
                  rotate_left
                  · (intro w9 hSw; (try dsimp only at hSw); (go_split_ands; go_simp); (try with_reducible rfl))
                  try simp only [Act.put, List.setIfInBounds_toArray, List.set_cons_zero, List.set_cons_succ]
                  refine wpAnyH_take (i := 1) (oi := { dst := some 189, op := Op.fieldAddr 58 (Operand.tmp 32) 2, type := 0, pos := "outright.go:188", after := #[], guard := none }) (v := ?_) rfl (by kernel_rfl) (by kernel_rfl) (by kernel_rfl) (fun _ _ _ h => h) (Or.inl ⟨by rfl, ?_⟩) (by assumption) ?_
                  rotate_left
                  · (intro w9 hSw; (try dsimp only at hSw); (go_split_ands; go_simp); (try with_reducible rfl))
                  try simp only [Act.put, List.setIfInBounds_toArray, List.set_cons_zero, List.set_cons_succ]
                  refine wpAnyH_take (i := 2) (oi := { dst := some 190, op := Op.fieldAddr 29 (Operand.tmp 189) 1, type := 0, pos := "outright.go:188", after := #[{ on := 1, ground := Ground.data }], guard := none }) (v := ?_) rfl (by kernel_rfl) (by kernel_rfl) (by kernel_rfl) (fun _ _ _ h => h) (Or.inl ⟨by rfl, ?_⟩) (by assumption) ?_
                  rotate_left
                  · (intro w9 hSw; (try dsimp only at hSw); (go_split_ands; go_simp); (try with_reducible rfl))
                  try simp only [Act.put, List.setIfInBounds_toArray, List.set_cons_zero, List.set_cons_succ]
                  refine wpAnyH_take (i := 3) (oi := { dst := some 191, op := Op.load 3 (Operand.tmp 190), type := 3, pos := "outright.go:188", after := #[{ on := 2, ground := Ground.data }], guard := none }) (v := ?_) rfl (by kernel_rfl) (by kernel_rfl) (by kernel_rfl) (fun _ _ _ h => h) (Or.inl ⟨by rfl, ?_⟩) (by assumption) ?_
                  rotate_left
                  · (intro w9 hSw; (try dsimp only at hSw); (go_split_ands; go_simp); (try with_reducible rfl))
                  try simp only [Act.put, List.setIfInBounds_toArray, List.set_cons_zero, List.set_cons_succ]
                  refine wpAnyH_take (i := 6) (oi := { dst := some 194, op := Op.move (Operand.tmp 25), type := 37, pos := "outright.go:188", after := #[], guard := none }) (v := ?_) rfl (by kernel_rfl) (by kernel_rfl) (by kernel_rfl) (fun _ _ _ h => h) (Or.inl ⟨by rfl, ?_⟩) (by assumption) ?_
                  rotate_left
                  · (intro w9 hSw; (try dsimp only at hSw); (go_split_ands; go_simp); (try with_reducible rfl))
                  try simp only [Act.put, List.setIfInBounds_toArray, List.set_cons_zero, List.set_cons_succ]
                  refine wpAnyH_take (i := 7) (oi := { dst := some 195, op := Op.fieldAddr 58 (Operand.tmp 32) 3, type := 0, pos := "outright.go:188", after := #[], guard := none }) (v := ?_) rfl (by kernel_rfl) (by kernel_rfl) (by kernel_rfl) (fun _ _ _ h => h) (Or.inl ⟨by rfl, ?_⟩) (by assumption) ?_
                  rotate_left
                  · (intro w9 hSw; (try dsimp only at hSw); (go_split_ands; go_simp); (try with_reducible rfl))
                  try simp only [Act.put, List.setIfInBounds_toArray, List.set_cons_zero, List.set_cons_succ]
                  refine wpAnyH_take (i := 8) (oi := { dst := some 196, op := Op.fieldAddr 29 (Operand.tmp 195) 0, type := 0, pos := "outright.go:188", after := #[{ on := 7, ground := Ground.data }], guard := none }) (v := ?_) rfl (by kernel_rfl) (by kernel_rfl) (by kernel_rfl) (fun _ _ _ h => h) (Or.inl ⟨by rfl, ?_⟩) (by assumption) ?_
                  rotate_left
                  · (intro w9 hSw; (try dsimp only at hSw); (go_split_ands; go_simp); (try with_reducible rfl))
                  try simp only [Act.put, List.setIfInBounds_toArray, List.set_cons_zero, List.set_cons_succ]
                  refine wpAnyH_take (i := 9) (oi := { dst := some 197, op := Op.load 3 (Operand.tmp 196), type := 3, pos := "outright.go:188", after := #[{ on := 8, ground := Ground.data }], guard := none }) (v := ?_) rfl (by kernel_rfl) (by kernel_rfl) (by kernel_rfl) (fun _ _ _ h => h) (Or.inl ⟨by rfl, ?_⟩) (by assumption) ?_
                  rotate_left
                  · (intro w9 hSw; (try dsimp only at hSw); (go_split_ands; go_simp); (try with_reducible rfl))
                  try simp only [Act.put, List.setIfInBounds_toArray, List.set_cons_zero, List.set_cons_succ]
                  refine wpAnyH_take (i := 12) (oi := { dst := some 200, op := Op.move (Operand.tmp 26), type := 37, pos := "outright.go:188", after := #[], guard := none }) (v := ?_) rfl (by kernel_rfl) (by kernel_rfl) (by kernel_rfl) (fun _ _ _ h => h) (Or.inl ⟨by rfl, ?_⟩) (by assumption) ?_
                  rotate_left
                  · (intro w9 hSw; (try dsimp only at hSw); (go_split_ands; go_simp); (try with_reducible rfl))
                  try simp only [Act.put, List.setIfInBounds_toArray, List.set_cons_zero, List.set_cons_succ]
                  refine wpAnyH_take (i := 13) (oi := { dst := some 201, op := Op.fieldAddr 58 (Operand.tmp 32) 4, type := 0, pos := "outright.go:188", after := #[], guard := none }) (v := ?_) rfl (by kernel_rfl) (by kernel_rfl) (by kernel_rfl) (fun _ _ _ h => h) (Or.inl ⟨by rfl, ?_⟩) (by assumption) ?_
                  rotate_left
                  · (intro w9 hSw; (try dsimp only at hSw); (go_split_ands; go_simp); (try with_reducible rfl))
                  try simp only [Act.put, List.setIfInBounds_toArray, List.set_cons_zero, List.set_cons_succ]
                  refine wpAnyH_take (i := 14) (oi := { dst := some 202, op := Op.fieldAddr 29 (Operand.tmp 201) 1, type := 0, pos := "outright.go:188", after := #[{ on := 13, ground := Ground.data }], guard := none }) (v := ?_) rfl (by kernel_rfl) (by kernel_rfl) (by kernel_rfl) (fun _ _ _ h => h) (Or.inl ⟨by rfl, ?_⟩) (by assumption) ?_
                  rotate_left
                  · (intro w9 hSw; (try dsimp only at hSw); (go_split_ands; go_simp); (try with_reducible rfl))
                  try simp only [Act.put, List.setIfInBounds_toArray, List.set_cons_zero, List.set_cons_succ]
                  refine wpAnyH_take (i := 15) (oi := { dst := some 203, op := Op.load 3 (Operand.tmp 202), type := 3, pos := "outright.go:188", after := #[{ on := 14, ground := Ground.data }], guard := none }) (v := ?_) rfl (by kernel_rfl) (by kernel_rfl) (by kernel_rfl) (fun _ _ _ h => h) (Or.inl ⟨by rfl, ?_⟩) (by assumption) ?_
                  rotate_left
                  · (intro w9 hSw; (try dsimp only at hSw); (go_split_ands; go_simp); (try with_reducible rfl))
                  try simp only [Act.put, List.setIfInBounds_toArray, List.set_cons_zero, List.set_cons_succ]
                  refine chains3 (c1 := ⟨4, 5, 192, 193, .tmp 188, .tmp 191, (T k).fh, u24, rowVals (fun i => (mostK c T i).fr) k⟩) (c2 := ⟨10, 11, 198, 199, .tmp 194, .tmp 197, (T k).tl, u25, rowVals (fun i => (mostK c T i).«to») k⟩) (c3 := ⟨16, 17, 204, 205, .tmp 200, .tmp 203, (T k).dh, u26, rowVals (fun i => (mostK c T i).td) k⟩) (VR := threeVS _ _ _ (lowK T) (k + 1)) (by exact HZ.out.drew) (by kernel_rfl) (by kernel_rfl) (by kernel_rfl) ?_ ?_ ?_ ?_ ?_
                  rotate_left 4
                  · intro b21 g21 p21 b22 g22 p22 b23 g23 p23 W23 hO3 hHeld3
                    try simp only [Act.put, List.setIfInBounds_toArray, List.set_cons_zero, List.set_cons_succ]
                    refine wpAnyH_take (i := 18) (oi := { dst := some 24, op := Op.assign (Operand.tmp 193), type := 37, pos := "outright.go:188", after := #[{ on := 5, ground := Ground.data }, { on := 17, ground := Ground.chain }, { on := 0, ground := Ground.phase }, { on := 1, ground := Ground.phase }, { on := 2, ground := Ground.phase }, { on := 3, ground := Ground.phase }, { on := 4, ground := Ground.phase }, { on := 5, ground := Ground.phase }, { on := 6, ground := Ground.textOnly Departure.lateStores }, { on := 7, ground := Ground.textOnly Departure.lateStores }, { on := 8, ground := Ground.textOnly Departure.lateStores }, { on := 9, ground := Ground.textOnly Departure.lateStores }, { on := 10, ground := Ground.textOnly Departure.lateStores }, { on := 11, ground := Ground.textOnly Departure.lateStoresUnsure }, { on := 12, ground := Ground.textOnly Departure.lateStores }, { on := 13, ground := Ground.textOnly Departure.lateStores }, { on := 14, ground := Ground.textOnly Departure.lateStores }, { on := 15, ground := Ground.textOnly Departure.lateStores }, { on := 16, ground := Ground.textOnly Departure.lateStores }, { on := 17, ground := Ground.textOnly Departure.lateStoresUnsure }], guard := none }) (v := ?_) rfl (by kernel_rfl) (by kernel_rfl) (by kernel_rfl) (fun _ _ _ h => h) (Or.inl ⟨by rfl, ?_⟩) (by assumption) ?_
                    rotate_left
                    · (intro w9 hSw; (try dsimp only at hSw); (go_split_ands; go_simp); (try with_reducible rfl))
                    try simp only [Act.put, List.setIfInBounds_toArray, List.set_cons_zero, List.set_cons_succ]
                    refine wpAnyH_take (i := 19) (oi := { dst := some 25, op := Op.assign (Operand.tmp 199), type := 37, pos := "outright.go:188", after := #[{ on := 11, ground := Ground.data }, { on := 18, ground := Ground.chain }, { on := 0, ground := Ground.phase }, { on := 1, ground := Ground.phase }, { on := 2, ground := Ground.phase }, { on := 3, ground := Ground.phase }, { on := 4, ground := Ground.phase }, { on := 5, ground := Ground.phase }, { on := 6, ground := Ground.phase }, { on := 7, ground := Ground.phase }, { on := 8, ground := Ground.phase }, { on := 9, ground := Ground.phase }, { on := 10, ground := Ground.phase }, { on := 11, ground := Ground.phase }, { on := 12, ground := Ground.textOnly Departure.lateStores }, { on := 13, ground := Ground.textOnly Departure.lateStores }, { on := 14, ground := Ground.textOnly Departure.lateStores }, { on := 15, ground := Ground.textOnly Departure.lateStores }, { on := 16, ground := Ground.textOnly Departure.lateStores }, { on := 17, ground := Ground.textOnly Departure.lateStoresUnsure }, { on := 18, ground := Ground.phase }], guard := none }) (v := ?_) rfl (by kernel_rfl) (by kernel_rfl) (by kernel_rfl) (fun _ _ _ h => h) (Or.inl ⟨by rfl, ?_⟩) (by assumption) ?_
                    rotate_left
                    · (intro w9 hSw; (try dsimp only at hSw); (go_split_ands; go_simp); (try with_reducible rfl))
                    try simp only [Act.put, List.setIfInBounds_toArray, List.set_cons_zero, List.set_cons_succ]
                    refine wpAnyH_take (i := 20) (oi := { dst := some 26, op := Op.assign (Operand.tmp 205), type := 37, pos := "outright.go:188", after := #[{ on := 17, ground := Ground.data }, { on := 19, ground := Ground.chain }, { on := 0, ground := Ground.phase }, { on := 1, ground := Ground.phase }, { on := 2, ground := Ground.phase }, { on := 3, ground := Ground.phase }, { on := 4, ground := Ground.phase }, { on := 5, ground := Ground.phase }, { on := 6, ground := Ground.phase }, { on := 7, ground := Ground.phase }, { on := 8, ground := Ground.phase }, { on := 9, ground := Ground.phase }, { on := 10, ground := Ground.phase }, { on := 11, ground := Ground.phase }, { on := 12, ground := Ground.phase }, { on := 13, ground := Ground.phase }, { on := 14, ground := Ground.phase }, { on := 15, ground := Ground.phase }, { on := 16, ground := Ground.phase }, { on := 17, ground := Ground.phase }, { on := 18, ground := Ground.phase }, { on := 19, ground := Ground.phase }], guard := none }) (v := ?_) rfl (by kernel_rfl) (by kernel_rfl) (by kernel_rfl) (fun _ _ _ h => h) (Or.inl ⟨by rfl, ?_⟩) (by assumption) ?_
                    rotate_left
                    · (intro w9 hSw; (try dsimp only at hSw); (go_split_ands; go_simp); (try with_reducible rfl))
                    try simp only [Act.put, List.setIfInBounds_toArray, List.set_cons_zero, List.set_cons_succ]
                    refine wpAnyH_done (by kernel_rfl) ?_ _
                    clear hHeld hHeld3
                    have HY := Lib.hid (Own.sub (KB' := []) (threeVS_snoc (by simp [mostK, HC.out]) (by simp [mostK, HC.out]) (by simp [mostK, HC.out]) hO3) (fun e he => by cases he)).rot
                    clear hO3
                    go_wp2_with fail
                    simp only [rowVals_length]
                    exact ⟨⟨k + 1, hlt, by go_num, rfl, HY.out⟩, by simp [intOf]; omega⟩
                  · exact ⟨⟨_, rfl, rfl, rfl, rfl⟩, ⟨_, rfl, rfl, rfl, rfl⟩, (by rfl), (by rfl), (by rw [rowVals_length]; omega), (by simp)⟩
                  · exact ⟨⟨_, rfl, rfl, rfl, rfl⟩, ⟨_, rfl, rfl, rfl, rfl⟩, (by rfl), (by rfl), (by rw [rowVals_length]; omega), (by simp)⟩
                  · exact ⟨⟨_, rfl, rfl, rfl, rfl⟩, ⟨_, rfl, rfl, rfl, rfl⟩, (by rfl), (by rfl), (by rw [rowVals_length]; omega), (by simp)⟩
                  · intro KB' VS' W' hk hO; have hb := hO.box _ (hk _ List.mem_cons_self); exact ⟨cellAt hb 3, cellAt hb 4, cellAt hb 7⟩
              · exact ⟨⟨_, rfl, rfl, rfl, rfl⟩, ⟨_, rfl, rfl, rfl, rfl⟩, (by rfl), (by rfl), (by rw [rowVals_length]; omega), (by simp)⟩
              · exact ⟨⟨_, rfl, rfl, rfl, rfl⟩, ⟨_, rfl, rfl, rfl, rfl⟩, (by rfl), (by rfl), (by rw [rowVals_length]; omega), (by simp)⟩
              · exact ⟨⟨_, rfl, rfl, rfl, rfl⟩, ⟨_, rfl, rfl, rfl, rfl⟩, (by rfl), (by rfl), (by rw [rowVals_length]; omega), (by simp)⟩
              · intro KB' VS' W' hk hO; have hb := hO.box _ (hk _ List.mem_cons_self); exact ⟨cellAt hb 3, cellAt hb 4, cellAt hb 7⟩
          · obtain rfl : k = tn := by omega
            obtain ⟨o1, c1, rfl, i1, -⟩ := HO.out.ints (v := u24) (f := fun i => (mostK c T i).fr) (k := k) (by simp [threeVS]) (by unfold maxLen; omega)
            obtain ⟨o2, c2, rfl, i2, -⟩ := HO.out.ints (v := u25) (f := fun i => (mostK c T i).«to») (k := k) (by simp [threeVS]) (by unfold maxLen; omega)
            obtain ⟨o3, c3, rfl, i3, -⟩ := HO.out.ints (v := u26) (f := fun i => (mostK c T i).td) (k := k) (by simp [threeVS]) (by unfold maxLen; omega)
            obtain ⟨o4, c4, rfl, i4, -⟩ := HO.out.ints (v := u27) (f := fun i => (lowK T i).fr) (k := k) (by simp [threeVS]) (by unfold maxLen; omega)
            obtain ⟨o5, c5, rfl, i5, -⟩ := HO.out.ints (v := u28) (f := fun i => (lowK T i).«to») (k := k) (by simp [threeVS]) (by unfold maxLen; omega)
            obtain ⟨o6, c6, rfl, i6, -⟩ := HO.out.ints (v := u29) (f := fun i => (lowK T i).td) (k := k) (by simp [threeVS]) (by unfold maxLen; omega)
            have A1 := Lib.hid (fun W (hb : Below wr.heap.size wr W) (h1 : SeamsAt W sa sn S) (h2 : TicketsAt W ta k T) => owner_any cr sa ta sn sc k tc S T o1 o2 o3 c1 c2 c3 _ _ _ s f W h1 h2 (i1.grow hb) (i2.grow hb) (i3.grow hb) HV.out.crews (by omega))
            have A2 := Lib.hid (fun W (hb : Below wr.heap.size wr W) (h1 : SeamsAt W sa sn S) (h2 : TicketsAt W ta k T) => owner_any cr sa ta sn sc k tc S T o4 o5 o6 c4 c5 c6 _ _ _ s f W h1 h2 (i4.grow hb) (i5.grow hb) (i6.grow hb) HV.out.crews (by omega))
            clear i1 i2 i3 i4 i5 i6
            obtain ⟨m, hm⟩ : ∃ m, m = mustB T s f k := ⟨_, rfl⟩
            have hMU := HMU.out
            rw [← hm] at hMU
            subst hMU
            have hbit : (bits .and .i64 ((st : Int) / 2 ^ c) 1 == 1) = (ownerOf T (toldK (fun i => (mostK c T i).fr) (fun i => (mostK c T i).«to») (fun i => (mostK c T i).td)) k s f == (c : Int)) := by
              have h1 := setN_lt16 T k s f cr.toNat (by have := hcr.out; omega)
              have h2 : (setN T k s f cr.toNat).testBit c = decide (ownerOf T (mostK c T) k s f = c) := setN_owner (by omega)
              rw [← HST.out] at h1 h2
              rw [and_shr st c h1 (by omega), h2]
              exact (Bool.beq_eq_decide_eq _ _).symm
            have hlow : decide (ownerOf T (toldK (fun i => (lowK T i).fr) (fun i => (lowK T i).«to») (fun i => (lowK T i).td)) k s f < 0) = !mu := by
              have h1 := nobody_must HV.out.crews (tn := k) s f
              rw [low_owner HV.out.crews, ← hm] at h1
              rw [← h1]
              have h2 := (owner_range (K := lowK T) (s := s) (f := f) (cr := cr) (fun i hi => by have := HV.out.tk i hi; omega : ∀ i, i < k → 0 ≤ (T i).crew ∧ (T i).crew ≤ cr - 1) (by omega)).1
              show decide (ownerOf T (lowK T) k s f < 0) = decide (ownerOf T (lowK T) k s f = -1)
              rw [decide_eq_decide]
              omega
            obtain ⟨x1, hx1⟩ : ∃ x, x = ownerOf T (toldK (fun i => (mostK c T i).fr) (fun i => (mostK c T i).«to») (fun i => (mostK c T i).td)) k s f := ⟨_, rfl⟩
            obtain ⟨x2, hx2⟩ : ∃ x, x = ownerOf T (toldK (fun i => (lowK T i).fr) (fun i => (lowK T i).«to») (fun i => (lowK T i).td)) k s f := ⟨_, rfl⟩
            rw [← hx1] at hbit A1
            rw [← hx2] at hlow A2
            obtain ⟨b1, hb1⟩ : ∃ b, (x1 == (c : Int)) = b := ⟨_, rfl⟩
            rw [hb1] at hbit
            rw [← hm]
            clear hm hx1 hx2
            go_wp2_with fail
            have J0 := Lib.hid (I8.out.grow (Below.drew (Below.refl _ _)))
            have B0 := Lib.hid (Below.drew (Below.refl wr.heap.size wr))
            refine wp_region_held_drew (S := (fun w' => w'.cell? ⟨w.heap.size, 0, none⟩ = some (.int .i64 cr) ∧ w'.cell? ⟨w.heap.size, 1, none⟩ = some (.slice sa sn sc) ∧ w'.cell? ⟨w.heap.size, 2, none⟩ = some (.slice ta k tc))) (by kernel_rfl) (by exact ⟨cellAt J0.out.box 0, cellAt J0.out.box 1, cellAt J0.out.box 2⟩) (fun hHeld => ?_)
            refine wpAnyH_take (i := 0) (oi := { dst := some 207, op := Op.move (Operand.tmp 23), type := 30, pos := "outright.go:191", after := #[], guard := none }) (v := ?_) rfl (by kernel_rfl) (by kernel_rfl) (by kernel_rfl) (fun _ _ _ h => h) (Or.inl ⟨by rfl, ?_⟩) (by assumption) ?_
            rotate_left
            · (intro w9 hSw; (try dsimp only at hSw); (go_split_ands; go_simp); (try with_reducible rfl))
            try simp only [Act.put, List.setIfInBounds_toArray, List.set_cons_zero, List.set_cons_succ]
            refine wpAnyH_take (i := 1) (oi := { dst := some 208, op := Op.binOp BinOp.eql 30 (Operand.tmp 207) (Operand.const (Value.int IntKind.i64 0)) 30, type := 4, pos := "outright.go:191", after := #[{ on := 0, ground := Ground.data }], guard := none }) (v := ?_) rfl (by kernel_rfl) (by kernel_rfl) (by kernel_rfl) (fun _ _ _ h => h) (Or.inl ⟨by rfl, ?_⟩) (by assumption) ?_
            rotate_left
            · (intro w9 hSw; (try dsimp only at hSw); (go_split_ands; go_simp); (try with_reducible rfl))
            try simp only [Act.put, List.setIfInBounds_toArray, List.set_cons_zero, List.set_cons_succ]
            refine wpAnyH_take (i := 2) (oi := { dst := some 209, op := Op.move (Operand.tmp 208), type := 4, pos := "outright.go:191", after := #[{ on := 1, ground := Ground.data }], guard := none }) (v := ?_) rfl (by kernel_rfl) (by kernel_rfl) (by kernel_rfl) (fun _ _ _ h => h) (Or.inl ⟨by rfl, ?_⟩) (by assumption) ?_
            rotate_left
            · (intro w9 hSw; (try dsimp only at hSw); (go_split_ands; go_simp); (try with_reducible rfl))
            try simp only [Act.put, List.setIfInBounds_toArray, List.set_cons_zero, List.set_cons_succ]
            refine wpAnyH_take (i := 3) (oi := { dst := some 210, op := Op.move (Operand.tmp 22), type := 4, pos := "outright.go:191", after := #[{ on := 2, ground := Ground.guard }], guard := some (2, true) }) (v := ?_) rfl (by kernel_rfl) (by kernel_rfl) (by kernel_rfl) (fun _ _ _ h => h) (Or.inl ⟨by rfl, ?_⟩) (by assumption) ?_
            rotate_left
            · (intro w9 hSw; (try dsimp only at hSw); (go_split_ands; go_simp); (try with_reducible rfl))
            try simp only [Act.put, List.setIfInBounds_toArray, List.set_cons_zero, List.set_cons_succ]
            refine wpAnyH_take (i := 4) (oi := { dst := some 211, op := Op.move (Operand.tmp 30), type := 4, pos := "outright.go:191", after := #[{ on := 2, ground := Ground.guard }], guard := some (2, true) }) (v := ?_) rfl (by kernel_rfl) (by kernel_rfl) (by kernel_rfl) (fun _ _ _ h => h) (Or.inl ⟨by rfl, ?_⟩) (by assumption) ?_
            rotate_left
            · (intro w9 hSw; (try dsimp only at hSw); (go_split_ands; go_simp); (try with_reducible rfl))
            try simp only [Act.put, List.setIfInBounds_toArray, List.set_cons_zero, List.set_cons_succ]
            refine wpAnyH_take (i := 5) (oi := { dst := some 212, op := Op.unOp UnOp.not 4 (Operand.tmp 211), type := 4, pos := "outright.go:191", after := #[{ on := 4, ground := Ground.data }, { on := 2, ground := Ground.guard }], guard := some (2, true) }) (v := ?_) rfl (by kernel_rfl) (by kernel_rfl) (by kernel_rfl) (fun _ _ _ h => h) (Or.inl ⟨by rfl, ?_⟩) (by assumption) ?_
            rotate_left
            · (intro w9 hSw; (try dsimp only at hSw); (go_split_ands; go_simp); (try with_reducible rfl))
            try simp only [Act.put, List.setIfInBounds_toArray, List.set_cons_zero, List.set_cons_succ]
            refine wpAnyH_take (i := 6) (oi := { dst := some 213, op := Op.binOp BinOp.eql 4 (Operand.tmp 210) (Operand.tmp 212) 4, type := 4, pos := "outright.go:191", after := #[{ on := 3, ground := Ground.data }, { on := 5, ground := Ground.data }, { on := 2, ground := Ground.guard }], guard := some (2, true) }) (v := ?_) rfl (by kernel_rfl) (by kernel_rfl) (by kernel_rfl) (fun _ _ _ h => h) (Or.inl ⟨by rfl, ?_⟩) (by assumption) ?_
            rotate_left
            · (intro w9 hSw; (try dsimp only at hSw); (go_split_ands; go_simp); (try with_reducible rfl))
            try simp only [Act.put, List.setIfInBounds_toArray, List.set_cons_zero, List.set_cons_succ]
            refine wpAnyH_take (i := 7) (oi := { dst := some 214, op := Op.pick (Operand.tmp 209) (Operand.tmp 213) (Operand.const (Value.bool false)), type := 4, pos := "outright.go:191", after := #[{ on := 2, ground := Ground.data }, { on := 6, ground := Ground.data }], guard := none }) (v := ?_) rfl (by kernel_rfl) (by kernel_rfl) (by kernel_rfl) (fun _ _ _ h => h) (Or.inl ⟨by rfl, ?_⟩) (by assumption) ?_
            rotate_left
            · (intro w9 hSw; (try dsimp only at hSw); (go_split_ands; go_simp); (try with_reducible rfl))
            try simp only [Act.put, List.setIfInBounds_toArray, List.set_cons_zero, List.set_cons_succ]
            refine wpAnyH_take (i := 8) (oi := { dst := some 215, op := Op.move (Operand.tmp 214), type := 4, pos := "outright.go:191", after := #[{ on := 7, ground := Ground.data }, { on := 2, ground := Ground.chain }], guard := none }) (v := ?_) rfl (by kernel_rfl) (by kernel_rfl) (by kernel_rfl) (fun _ _ _ h => h) (Or.inl ⟨by rfl, ?_⟩) (by assumption) ?_
            rotate_left
            · (intro w9 hSw; (try dsimp only at hSw); (go_split_ands; go_simp); (try with_reducible rfl))
            try simp only [Act.put, List.setIfInBounds_toArray, List.set_cons_zero, List.set_cons_succ]
            refine wpAnyH_take (i := 9) (oi := { dst := some 216, op := Op.move (Operand.tmp 21), type := 3, pos := "outright.go:191", after := #[{ on := 8, ground := Ground.guard }], guard := some (8, true) }) (v := ?_) rfl (by kernel_rfl) (by kernel_rfl) (by kernel_rfl) (fun _ _ _ h => h) (Or.inl ⟨by rfl, ?_⟩) (by assumption) ?_
            rotate_left
            · (intro w9 hSw; (try dsimp only at hSw); (go_split_ands; go_simp); (try with_reducible rfl))
            try simp only [Act.put, List.setIfInBounds_toArray, List.set_cons_zero, List.set_cons_succ]
            refine wpAnyH_take (i := 10) (oi := { dst := some 217, op := Op.move (Operand.tmp 10), type := 3, pos := "outright.go:191", after := #[{ on := 8, ground := Ground.guard }], guard := some (8, true) }) (v := ?_) rfl (by kernel_rfl) (by kernel_rfl) (by kernel_rfl) (fun _ _ _ h => h) (Or.inl ⟨by rfl, ?_⟩) (by assumption) ?_
            rotate_left
            · (intro w9 hSw; (try dsimp only at hSw); (go_split_ands; go_simp); (try with_reducible rfl))
            try simp only [Act.put, List.setIfInBounds_toArray, List.set_cons_zero, List.set_cons_succ]
            refine wpAnyH_take (i := 11) (oi := { dst := some 218, op := Op.binOp BinOp.shr 3 (Operand.tmp 216) (Operand.tmp 217) 3, type := 3, pos := "outright.go:191", after := #[{ on := 9, ground := Ground.data }, { on := 10, ground := Ground.data }, { on := 8, ground := Ground.guard }], guard := some (8, true) }) (v := ?_) rfl (by kernel_rfl) (by kernel_rfl) (by kernel_rfl) (fun _ _ _ h => h) (Or.inl ⟨by rfl, ?_⟩) (by assumption) ?_
            rotate_left
            · (intro w9 hSw; (try dsimp only at hSw); (go_split_ands; go_simp); (try with_reducible rfl))
            try simp only [Act.put, List.setIfInBounds_toArray, List.set_cons_zero, List.set_cons_succ]
            refine wpAnyH_take (i := 12) (oi := { dst := some 219, op := Op.binOp BinOp.and 3 (Operand.tmp 218) (Operand.const (Value.int IntKind.i64 1)) 3, type := 3, pos := "outright.go:191", after := #[{ on := 11, ground := Ground.data }, { on := 8, ground := Ground.guard }], guard := some (8, true) }) (v := ?_) rfl (by kernel_rfl) (by kernel_rfl) (by kernel_rfl) (fun _ _ _ h => h) (Or.inl ⟨by rfl, ?_⟩) (by assumption) ?_
            rotate_left
            · (intro w9 hSw; (try dsimp only at hSw); (go_split_ands; go_simp); (try with_reducible rfl))
            try simp only [Act.put, List.setIfInBounds_toArray, List.set_cons_zero, List.set_cons_succ]
            refine wpAnyH_take (i := 13) (oi := { dst := some 220, op := Op.binOp BinOp.eql 3 (Operand.tmp 219) (Operand.const (Value.int IntKind.i64 1)) 3, type := 4, pos := "outright.go:191", after := #[{ on := 12, ground := Ground.data }, { on := 8, ground := Ground.guard }], guard := some (8, true) }) (v := ?_) rfl (by kernel_rfl) (by kernel_rfl) (by kernel_rfl) (fun _ _ _ h => h) (Or.inl ⟨by rfl, ?_⟩) (by assumption) ?_
            rotate_left
            · (intro w9 hSw; (try dsimp only at hSw); (go_split_ands; go_simp); (try with_reducible rfl))
            try simp only [Act.put, List.setIfInBounds_toArray, List.set_cons_zero, List.set_cons_succ]
            refine wpAnyH_take (i := 14) (oi := { dst := some 221, op := Op.load 25 (Operand.tmp 4), type := 25, pos := "outright.go:191", after := #[{ on := 8, ground := Ground.guard }], guard := some (8, true) }) (v := ?_) rfl (by kernel_rfl) (by kernel_rfl) (by kernel_rfl) (fun _ _ _ h => h) (Or.inl ⟨by rfl, ?_⟩) (by assumption) ?_
            rotate_left
            · (intro w9 hSw; (try dsimp only at hSw); (go_split_ands; go_simp); (try with_reducible rfl))
            try simp only [Act.put, List.setIfInBounds_toArray, List.set_cons_zero, List.set_cons_succ]
            refine wpAnyH_take (i := 15) (oi := { dst := some 222, op := Op.move (Operand.tmp 24), type := 37, pos := "outright.go:191", after := #[{ on := 8, ground := Ground.guard }], guard := some (8, true) }) (v := ?_) rfl (by kernel_rfl) (by kernel_rfl) (by kernel_rfl) (fun _ _ _ h => h) (Or.inl ⟨by rfl, ?_⟩) (by assumption) ?_
            rotate_left
            · (intro w9 hSw; (try dsimp only at hSw); (go_split_ands; go_simp); (try with_reducible rfl))
            try simp only [Act.put, List.setIfInBounds_toArray, List.set_cons_zero, List.set_cons_succ]
            refine wpAnyH_take (i := 16) (oi := { dst := some 223, op := Op.move (Operand.tmp 25), type := 37, pos := "outright.go:191", after := #[{ on := 8, ground := Ground.guard }], guard := some (8, true) }) (v := ?_) rfl (by kernel_rfl) (by kernel_rfl) (by kernel_rfl) (fun _ _ _ h => h) (Or.inl ⟨by rfl, ?_⟩) (by assumption) ?_
            rotate_left
            · (intro w9 hSw; (try dsimp only at hSw); (go_split_ands; go_simp); (try with_reducible rfl))
            try simp only [Act.put, List.setIfInBounds_toArray, List.set_cons_zero, List.set_cons_succ]
            refine wpAnyH_take (i := 17) (oi := { dst := some 224, op := Op.move (Operand.tmp 26), type := 37, pos := "outright.go:191", after := #[{ on := 8, ground := Ground.guard }], guard := some (8, true) }) (v := ?_) rfl (by kernel_rfl) (by kernel_rfl) (by kernel_rfl) (fun _ _ _ h => h) (Or.inl ⟨by rfl, ?_⟩) (by assumption) ?_
            rotate_left
            · (intro w9 hSw; (try dsimp only at hSw); (go_split_ands; go_simp); (try with_reducible rfl))
            try simp only [Act.put, List.setIfInBounds_toArray, List.set_cons_zero, List.set_cons_succ]
            refine wpAnyH_take (i := 18) (oi := { dst := some 225, op := Op.move (Operand.tmp 9), type := 3, pos := "outright.go:191", after := #[{ on := 8, ground := Ground.guard }], guard := some (8, true) }) (v := ?_) rfl (by kernel_rfl) (by kernel_rfl) (by kernel_rfl) (fun _ _ _ h => h) (Or.inl ⟨by rfl, ?_⟩) (by assumption) ?_
            rotate_left
            · (intro w9 hSw; (try dsimp only at hSw); (go_split_ands; go_simp); (try with_reducible rfl))
            try simp only [Act.put, List.setIfInBounds_toArray, List.set_cons_zero, List.set_cons_succ]
            refine wpAnyH_take (i := 19) (oi := { dst := some 226, op := Op.move (Operand.tmp 20), type := 3, pos := "outright.go:191", after := #[{ on := 8, ground := Ground.guard }], guard := some (8, true) }) (v := ?_) rfl (by kernel_rfl) (by kernel_rfl) (by kernel_rfl) (fun _ _ _ h => h) (Or.inl ⟨by rfl, ?_⟩) (by assumption) ?_
            rotate_left
            · (intro w9 hSw; (try dsimp only at hSw); (go_split_ands; go_simp); (try with_reducible rfl))
            try simp only [Act.put, List.setIfInBounds_toArray, List.set_cons_zero, List.set_cons_succ]
            refine wpAnyH_take (i := 21) (oi := { dst := some 228, op := Op.move (Operand.tmp 10), type := 3, pos := "outright.go:191", after := #[{ on := 8, ground := Ground.guard }], guard := some (8, true) }) (v := ?_) rfl (by kernel_rfl) (by kernel_rfl) (by kernel_rfl) (fun _ _ _ h => h) (Or.inl ⟨by rfl, ?_⟩) (by assumption) ?_
            rotate_left
            · (intro w9 hSw; (try dsimp only at hSw); (go_split_ands; go_simp); (try with_reducible rfl))
            try simp only [Act.put, List.setIfInBounds_toArray, List.set_cons_zero, List.set_cons_succ]
            refine wpAnyH_ready (rs := [20]) (by kernel_rfl) (by simp) ?_
            refine AllReadyH.cons (o := { dst := some 227, op := Op.call { callee := Callee.value (Operand.func 34), args := #[Operand.tmp 221, Operand.tmp 222, Operand.tmp 223, Operand.tmp 224, Operand.tmp 225, Operand.tmp 226], argTypes := #[25, 37, 37, 37, 3, 3] }, type := 3, pos := "outright.go:191", after := #[{ on := 14, ground := Ground.data }, { on := 15, ground := Ground.data }, { on := 16, ground := Ground.data }, { on := 17, ground := Ground.data }, { on := 18, ground := Ground.data }, { on := 19, ground := Ground.data }, { on := 8, ground := Ground.chain }, { on := 8, ground := Ground.guard }], guard := some (8, true) }) rfl (fun K hK => ?_) AllReadyH.nil
            go_simp
            refine (A1.out _ B0.out J0.out.ss J0.out.tt).mono ?_; rintro e w9 ⟨rfl, hb9⟩; have J1 := Lib.hid (J0.out.grow hb9); have B1 := Lib.hid (B0.out.next hb9); clear hb9
            go_wp2_with fail
            refine hK.out _ _ ?_ (fun hHeld => ?_)
            · exact ⟨cellAt J1.out.box 0, cellAt J1.out.box 1, cellAt J1.out.box 2⟩
            clear hK K
            try simp only [Act.put, List.setIfInBounds_toArray, List.set_cons_zero, List.set_cons_succ]
            refine wpAnyH_take (i := 22) (oi := { dst := some 229, op := Op.binOp BinOp.eql 3 (Operand.tmp 227) (Operand.tmp 228) 3, type := 4, pos := "outright.go:191", after := #[{ on := 20, ground := Ground.data }, { on := 21, ground := Ground.data }, { on := 8, ground := Ground.guard }], guard := some (8, true) }) (v := ?_) rfl (by kernel_rfl) (by kernel_rfl) (by kernel_rfl) (fun _ _ _ h => h) (Or.inl ⟨by rfl, ?_⟩) (by assumption) ?_
            rotate_left
            · (intro w9 hSw; (try dsimp only at hSw); (go_split_ands; go_simp); (try with_reducible rfl))
            try simp only [Act.put, List.setIfInBounds_toArray, List.set_cons_zero, List.set_cons_succ]
            refine wpAnyH_take (i := 23) (oi := { dst := some 230, op := Op.binOp BinOp.eql 4 (Operand.tmp 220) (Operand.tmp 229) 4, type := 4, pos := "outright.go:191", after := #[{ on := 13, ground := Ground.data }, { on := 22, ground := Ground.data }, { on := 8, ground := Ground.guard }], guard := some (8, true) }) (v := ?_) rfl (by kernel_rfl) (by kernel_rfl) (by kernel_rfl) (fun _ _ _ h => h) (Or.inl ⟨by rfl, ?_⟩) (by assumption) ?_
            rotate_left
            · (intro w9 hSw; (try dsimp only at hSw); (go_split_ands; go_simp); (try with_reducible rfl))
            try simp only [Act.put, List.setIfInBounds_toArray, List.set_cons_zero, List.set_cons_succ]
            refine wpAnyH_take (i := 24) (oi := { dst := some 231, op := Op.pick (Operand.tmp 215) (Operand.tmp 230) (Operand.const (Value.bool false)), type := 4, pos := "outright.go:191", after := #[{ on := 8, ground := Ground.data }, { on := 23, ground := Ground.data }], guard := none }) (v := ?_) rfl (by kernel_rfl) (by kernel_rfl) (by kernel_rfl) (fun _ _ _ h => h) (Or.inl ⟨by rfl, ?_⟩) (by assumption) ?_
            rotate_left
            · (intro w9 hSw; (try dsimp only at hSw); (go_split_ands; go_simp); (try with_reducible rfl))
            try simp only [Act.put, List.setIfInBounds_toArray, List.set_cons_zero, List.set_cons_succ]
            refine wpAnyH_take (i := 25) (oi := { dst := some 232, op := Op.move (Operand.tmp 231), type := 4, pos := "outright.go:191", after := #[{ on := 24, ground := Ground.data }, { on := 20, ground := Ground.chain }], guard := none }) (v := ?_) rfl (by kernel_rfl) (by kernel_rfl) (by kernel_rfl) (fun _ _ _ h => h) (Or.inl ⟨by rfl, ?_⟩) (by assumption) ?_
            rotate_left
            · (intro w9 hSw; (try dsimp only at hSw); (go_split_ands; go_simp); (try with_reducible rfl))
            try simp only [Act.put, List.setIfInBounds_toArray, List.set_cons_zero, List.set_cons_succ]
            refine wpAnyH_take (i := 26) (oi := { dst := some 233, op := Op.load 25 (Operand.tmp 4), type := 25, pos := "outright.go:191", after := #[{ on := 25, ground := Ground.guard }], guard := some (25, true) }) (v := ?_) rfl (by kernel_rfl) (by kernel_rfl) (by kernel_rfl) (fun _ _ _ h => h) (Or.inl ⟨by rfl, ?_⟩) (by assumption) ?_
            rotate_left
            · (intro w9 hSw; (try dsimp only at hSw); (go_split_ands; go_simp); (try with_reducible rfl))
            try simp only [Act.put, List.setIfInBounds_toArray, List.set_cons_zero, List.set_cons_succ]
            refine wpAnyH_take (i := 27) (oi := { dst := some 234, op := Op.move (Operand.tmp 27), type := 37, pos := "outright.go:191", after := #[{ on := 25, ground := Ground.guard }], guard := some (25, true) }) (v := ?_) rfl (by kernel_rfl) (by kernel_rfl) (by kernel_rfl) (fun _ _ _ h => h) (Or.inl ⟨by rfl, ?_⟩) (by assumption) ?_
            rotate_left
            · (intro w9 hSw; (try dsimp only at hSw); (go_split_ands; go_simp); (try with_reducible rfl))
            try simp only [Act.put, List.setIfInBounds_toArray, List.set_cons_zero, List.set_cons_succ]
            refine wpAnyH_take (i := 28) (oi := { dst := some 235, op := Op.move (Operand.tmp 28), type := 37, pos := "outright.go:191", after := #[{ on := 25, ground := Ground.guard }], guard := some (25, true) }) (v := ?_) rfl (by kernel_rfl) (by kernel_rfl) (by kernel_rfl) (fun _ _ _ h => h) (Or.inl ⟨by rfl, ?_⟩) (by assumption) ?_
            rotate_left
            · (intro w9 hSw; (try dsimp only at hSw); (go_split_ands; go_simp); (try with_reducible rfl))
            try simp only [Act.put, List.setIfInBounds_toArray, List.set_cons_zero, List.set_cons_succ]
            refine wpAnyH_take (i := 29) (oi := { dst := some 236, op := Op.move (Operand.tmp 29), type := 37, pos := "outright.go:191", after := #[{ on := 25, ground := Ground.guard }], guard := some (25, true) }) (v := ?_) rfl (by kernel_rfl) (by kernel_rfl) (by kernel_rfl) (fun _ _ _ h => h) (Or.inl ⟨by rfl, ?_⟩) (by assumption) ?_
            rotate_left
            · (intro w9 hSw; (try dsimp only at hSw); (go_split_ands; go_simp); (try with_reducible rfl))
            try simp only [Act.put, List.setIfInBounds_toArray, List.set_cons_zero, List.set_cons_succ]
            refine wpAnyH_take (i := 30) (oi := { dst := some 237, op := Op.move (Operand.tmp 9), type := 3, pos := "outright.go:191", after := #[{ on := 25, ground := Ground.guard }], guard := some (25, true) }) (v := ?_) rfl (by kernel_rfl) (by kernel_rfl) (by kernel_rfl) (fun _ _ _ h => h) (Or.inl ⟨by rfl, ?_⟩) (by assumption) ?_
            rotate_left
            · (intro w9 hSw; (try dsimp only at hSw); (go_split_ands; go_simp); (try with_reducible rfl))
            try simp only [Act.put, List.setIfInBounds_toArray, List.set_cons_zero, List.set_cons_succ]
            refine wpAnyH_take (i := 31) (oi := { dst := some 238, op := Op.move (Operand.tmp 20), type := 3, pos := "outright.go:191", after := #[{ on := 25, ground := Ground.guard }], guard := some (25, true) }) (v := ?_) rfl (by kernel_rfl) (by kernel_rfl) (by kernel_rfl) (fun _ _ _ h => h) (Or.inl ⟨by rfl, ?_⟩) (by assumption) ?_
            rotate_left
            · (intro w9 hSw; (try dsimp only at hSw); (go_split_ands; go_simp); (try with_reducible rfl))
            try simp only [Act.put, List.setIfInBounds_toArray, List.set_cons_zero, List.set_cons_succ]
            refine wpAnyH_take (i := 34) (oi := { dst := some 241, op := Op.move (Operand.tmp 22), type := 4, pos := "outright.go:191", after := #[{ on := 25, ground := Ground.guard }], guard := some (25, true) }) (v := ?_) rfl (by kernel_rfl) (by kernel_rfl) (by kernel_rfl) (fun _ _ _ h => h) (Or.inl ⟨by rfl, ?_⟩) (by assumption) ?_
            rotate_left
            · (intro w9 hSw; (try dsimp only at hSw); (go_split_ands; go_simp); (try with_reducible rfl))
            try simp only [Act.put, List.setIfInBounds_toArray, List.set_cons_zero, List.set_cons_succ]
            refine wpAnyH_ready (rs := [32]) (by kernel_rfl) (by simp) ?_
            refine AllReadyH.cons (o := { dst := some 239, op := Op.call { callee := Callee.value (Operand.func 34), args := #[Operand.tmp 233, Operand.tmp 234, Operand.tmp 235, Operand.tmp 236, Operand.tmp 237, Operand.tmp 238], argTypes := #[25, 37, 37, 37, 3, 3] }, type := 3, pos := "outright.go:191", after := #[{ on := 26, ground := Ground.data }, { on := 27, ground := Ground.data }, { on := 28, ground := Ground.data }, { on := 29, ground := Ground.data }, { on := 30, ground := Ground.data }, { on := 31, ground := Ground.data }, { on := 25, ground := Ground.chain }, { on := 25, ground := Ground.guard }], guard := some (25, true) }) rfl (fun K hK => ?_) AllReadyH.nil
            go_simp
            refine (A2.out _ B1.out J1.out.ss J1.out.tt).mono ?_; rintro e w10 ⟨rfl, hb10⟩; have J2 := Lib.hid (J1.out.grow hb10); clear hb10
            go_wp2_with fail
            refine hK.out _ _ ?_ (fun hHeld => ?_)
            · exact ⟨cellAt J2.out.box 0, cellAt J2.out.box 1, cellAt J2.out.box 2⟩
            clear hK K
            try simp only [Act.put, List.setIfInBounds_toArray, List.set_cons_zero, List.set_cons_succ]
            refine wpAnyH_take (i := 33) (oi := { dst := some 240, op := Op.binOp BinOp.lss 3 (Operand.tmp 239) (Operand.const (Value.int IntKind.i64 0)) 3, type := 4, pos := "outright.go:191", after := #[{ on := 32, ground := Ground.data }, { on := 25, ground := Ground.guard }], guard := some (25, true) }) (v := ?_) rfl (by kernel_rfl) (by kernel_rfl) (by kernel_rfl) (fun _ _ _ h => h) (Or.inl ⟨by rfl, ?_⟩) (by assumption) ?_
            rotate_left
            · (intro w9 hSw; (try dsimp only at hSw); (go_split_ands; go_simp); (try with_reducible rfl))
            try simp only [Act.put, List.setIfInBounds_toArray, List.set_cons_zero, List.set_cons_succ]
            refine wpAnyH_take (i := 35) (oi := { dst := some 242, op := Op.binOp BinOp.eql 4 (Operand.tmp 240) (Operand.tmp 241) 4, type := 4, pos := "outright.go:191", after := #[{ on := 33, ground := Ground.data }, { on := 34, ground := Ground.data }, { on := 25, ground := Ground.guard }], guard := some (25, true) }) (v := ?_) rfl (by kernel_rfl) (by kernel_rfl) (by kernel_rfl) (fun _ _ _ h => h) (Or.inl ⟨by rfl, ?_⟩) (by assumption) ?_
            rotate_left
            · (intro w9 hSw; (try dsimp only at hSw); (go_split_ands; go_simp); (try with_reducible rfl))
            try simp only [Act.put, List.setIfInBounds_toArray, List.set_cons_zero, List.set_cons_succ]
            refine wpAnyH_take (i := 36) (oi := { dst := some 243, op := Op.pick (Operand.tmp 232) (Operand.tmp 242) (Operand.const (Value.bool false)), type := 4, pos := "outright.go:191", after := #[{ on := 25, ground := Ground.data }, { on := 35, ground := Ground.data }], guard := none }) (v := ?_) rfl (by kernel_rfl) (by kernel_rfl) (by kernel_rfl) (fun _ _ _ h => h) (Or.inl ⟨by rfl, ?_⟩) (by assumption) ?_
            rotate_left
            · (intro w9 hSw; (try dsimp only at hSw); (go_split_ands; go_simp); (try with_reducible rfl))
            try simp only [Act.put, List.setIfInBounds_toArray, List.set_cons_zero, List.set_cons_succ]
            refine wpAnyH_take (i := 37) (oi := { dst := some 244, op := Op.move (Operand.tmp 243), type := 4, pos := "outright.go:191", after := #[{ on := 36, ground := Ground.data }, { on := 32, ground := Ground.chain }], guard := none }) (v := ?_) rfl (by kernel_rfl) (by kernel_rfl) (by kernel_rfl) (fun _ _ _ h => h) (Or.inl ⟨by rfl, ?_⟩) (by assumption) ?_
            rotate_left
            · (intro w9 hSw; (try dsimp only at hSw); (go_split_ands; go_simp); (try with_reducible rfl))
            try simp only [Act.put, List.setIfInBounds_toArray, List.set_cons_zero, List.set_cons_succ]
            refine wpAnyH_ready (rs := [38]) (by kernel_rfl) (by simp) ?_
            refine AllReadyH.cons (o := { dst := some 245, op := Op.call { callee := Callee.value (Operand.func 14), args := #[], argTypes := #[] }, type := 4, pos := "outright.go:191", after := #[{ on := 37, ground := Ground.chain }, { on := 37, ground := Ground.guard }], guard := some (37, true) }) rfl (fun K hK => ?_) AllReadyH.nil
            go_simp
            refine (awake_any _).mono ?_; rintro e w11 ⟨rfl, hb11⟩; have J3 := Lib.hid (J2.out.grow hb11); clear hb11
            go_wp2_with fail
            refine hK.out _ _ ?_ (fun hHeld => ?_)
            · exact ⟨cellAt J3.out.box 0, cellAt J3.out.box 1, cellAt J3.out.box 2⟩
            clear hK K
            try simp only [Act.put, List.setIfInBounds_toArray, List.set_cons_zero, List.set_cons_succ]
            refine wpAnyH_take (i := 39) (oi := { dst := some 246, op := Op.pick (Operand.tmp 244) (Operand.tmp 245) (Operand.const (Value.bool false)), type := 4, pos := "outright.go:191", after := #[{ on := 37, ground := Ground.data }, { on := 38, ground := Ground.data }], guard := none }) (v := ?_) rfl (by kernel_rfl) (by kernel_rfl) (by kernel_rfl) (fun _ _ _ h => h) (Or.inl ⟨by rfl, ?_⟩) (by assumption) ?_
            rotate_left
            · (intro w9 hSw; (try dsimp only at hSw); (go_split_ands; go_simp); (try with_reducible rfl))
            try simp only [Act.put, List.setIfInBounds_toArray, List.set_cons_zero, List.set_cons_succ]
            refine wpAnyH_take (i := 40) (oi := { dst := some 8, op := Op.assign (Operand.tmp 246), type := 4, pos := "outright.go:191", after := #[{ on := 39, ground := Ground.data }, { on := 38, ground := Ground.chain }, { on := 0, ground := Ground.phase }, { on := 1, ground := Ground.phase }, { on := 2, ground := Ground.phase }, { on := 3, ground := Ground.phase }, { on := 4, ground := Ground.phase }, { on := 5, ground := Ground.phase }, { on := 6, ground := Ground.phase }, { on := 7, ground := Ground.phase }, { on := 8, ground := Ground.phase }, { on := 9, ground := Ground.phase }, { on := 10, ground := Ground.phase }, { on := 11, ground := Ground.phase }, { on := 12, ground := Ground.phase }, { on := 13, ground := Ground.phase }, { on := 14, ground := Ground.phase }, { on := 15, ground := Ground.phase }, { on := 16, ground := Ground.phase }, { on := 17, ground := Ground.phase }, { on := 18, ground := Ground.phase }, { on := 19, ground := Ground.phase }, { on := 20, ground := Ground.phase }, { on := 21, ground := Ground.phase }, { on := 22, ground := Ground.phase }, { on := 23, ground := Ground.phase }, { on := 24, ground := Ground.phase }, { on := 25, ground := Ground.phase }, { on := 26, ground := Ground.phase }, { on := 27, ground := Ground.phase }, { on := 28, ground := Ground.phase }, { on := 29, ground := Ground.phase }, { on := 30, ground := Ground.phase }, { on := 31, ground := Ground.phase }, { on := 32, ground := Ground.phase }, { on := 33, ground := Ground.phase }, { on := 34, ground := Ground.phase }, { on := 35, ground := Ground.phase }, { on := 36, ground := Ground.phase }, { on := 37, ground := Ground.phase }, { on := 38, ground := Ground.phase }, { on := 39, ground := Ground.phase }], guard := none }) (v := ?_) rfl (by kernel_rfl) (by kernel_rfl) (by kernel_rfl) (fun _ _ _ h => h) (Or.inl ⟨by rfl, ?_⟩) (by assumption) ?_
            rotate_left
            · (intro w9 hSw; (try dsimp only at hSw); (go_split_ands; go_simp); (try with_reducible rfl))
            try simp only [Act.put, List.setIfInBounds_toArray, List.set_cons_zero, List.set_cons_succ]
            refine wpAnyH_done (by kernel_rfl) ?_ _
            clear hHeld
            go_wp2_with fail
            exact bodyPost_ret (v := .bool true) (by simp [results, Try.results8, go_sem]) rfl ⟨rfl, J3.out.bel⟩
end Go.Proofs.Ytbpeamppkdmdcaa
