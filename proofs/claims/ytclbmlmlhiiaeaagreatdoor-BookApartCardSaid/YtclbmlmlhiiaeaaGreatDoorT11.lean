/-
  BookApart: for every hull, hull, pitch, pitch, irons, irons, wages, wages the law returns true, and they read as they did; no condition beyond the tied variables.
-/
import Derived.Test.YtclbmlmlhiiaeaaGreatDoorCards
import Derived.Test.YtclbmlmlhiiaeaaGreatDoorTie
import Derived.Test.YtclbmlmlhiiaeaaGreatDoorFR
import Derived.Test.YtclbmlmlhiiaeaaGreatDoorT7
namespace Go.Proofs.YtclbmlmlhiiaeaaGreatDoor.bookApart
open Go.ChangeShapes Go.WideShapes Go.ChangeAt Go.RowKit Go.Proofs.YtclbmlmlhiiaeaaGreatDoor Go.Proofs.YtclbmlmlhiiaeaaGreatDoor.fr

def laid : List (String × DataW Unit) := Rows.bookApartRow.laid
set_option maxRecDepth 100000 in
theorem lifted (os : Os) (started : os.Started) (H : Type) (enc : TypeId × Value → H) :
    ReturnsInHanded {} Tryz.checked os 5 .any (fun w args => (Rows.bookApartSpec.pre enc Tryz.prog Tryz.f5 [] false w args ∧ laidMetH Tryz.prog laid w) ∧ sizedMet enc Tryz.prog Tryz.f5 (OpenSpec.ofChange Rows.bookApartSpec) false w args)
      (Rows.bookApartSpec.post enc Tryz.prog Tryz.f5 false true false false) := by
  refine returns_shaped (C := Tryz.checked) (X := fun w _ => laidMetH Tryz.prog laid w) (fun _ _ _ hh h => h.of_heap hh) own started (by kernel_rfl) Tryz.func5
    (ChangeSpec.witness_shaped (enc := enc) (C := Tryz.checked) (os := os) (X := fun w _ => laidMetH Tryz.prog laid w) false (World.laidAll Tryz.prog os laid) #[.agg #[.slice none 0 0, .slice none 0 0], .agg #[.slice none 0 0, .slice none 0 0], .agg #[.int .i64 0, .int .i64 0, .int .i64 0, .slice none 0 0, .slice none 0 0], .agg #[.int .i64 0, .int .i64 0, .int .i64 0, .slice none 0 0, .slice none 0 0], .agg #[.int .i64 0, .slice none 0 0, .slice none 0 0, .slice none 0 0, .slice none 0 0], .agg #[.int .i64 0, .slice none 0 0, .slice none 0 0, .slice none 0 0, .slice none 0 0], .agg #[.int .i64 0, .slice none 0 0, .slice none 0 0], .agg #[.int .i64 0, .slice none 0 0, .slice none 0 0]] 40 (World.laidAll_os _ _ _)
      (World.shaped_of_ZipB (by kernel_rfl) (by kernel_rfl)) (by kernel_rfl) (by kernel_rfl) (by kernel_rfl)
      (by rw [MakeChecks.laidMetH_plain _ _ _ (by kernel_rfl)]; exact laidMet_laidAll _ (by kernel_rfl) (by kernel_rfl))) ?_
  intro W base args ds gs before hval0 hW hL0 hsh
  have hL : laidMetH Tryz.prog fr.laid W := hL0
  have hval : ∀ (j : Nat) t v, Tryz.f5.params[j]? = some t → args[j]? = some v → Value.okWide Tryz.prog W .any base t v := hval0
  have hW' := hW
  obtain ⟨p, q, hA0, hV, rfl, hfz, hnd⟩ := hW
  have hA : DataW.TrodAll enc Tryz.prog W 0 (fun _ => true) true Tryz.f5.params.toList args.toList ds p := hA0
  rw [Tryz.params5] at hA hval
  obtain ⟨v0, vs0, d0, ds0, p0, q0, hargs, rfl, rfl, h0, r0⟩ := trodAll_cons hA
  obtain ⟨v1, vs1, d1, ds1, p1, q1, rfl, rfl, rfl, h1, r1⟩ := trodAll_cons r0
  obtain ⟨v2, vs2, d2, ds2, p2, q2, rfl, rfl, rfl, h2, r2⟩ := trodAll_cons r1
  obtain ⟨v3, vs3, d3, ds3, p3, q3, rfl, rfl, rfl, h3, r3⟩ := trodAll_cons r2
  obtain ⟨v4, vs4, d4, ds4, p4, q4, rfl, rfl, rfl, h4, r4⟩ := trodAll_cons r3
  obtain ⟨v5, vs5, d5, ds5, p5, q5, rfl, rfl, rfl, h5, r5⟩ := trodAll_cons r4
  obtain ⟨v6, vs6, d6, ds6, p6, q6, rfl, rfl, rfl, h6, r6⟩ := trodAll_cons r5
  obtain ⟨v7, vs7, d7, ds7, p7, q7, rfl, rfl, rfl, h7, r7⟩ := trodAll_cons r6
  obtain ⟨rfl, rfl, rfl⟩ := trodAll_nil r7
  obtain rfl : args = #[v0, v1, v2, v3, v4, v5, v6, v7] := by cases args; simp_all
  obtain ⟨rfl, rfl⟩ := trodVars_none hV
  have lt0 : ∀ x ∈ p0, x.block < W.heap.size := by obtain ⟨m, hm⟩ := h0; exact DataW.trod_lt m _ _ _ hm
  have e0 := fun (W' : World) (bel : Below W.heap.size W W') => Below.trod laidOut (by kernel_rfl) (of_decide_eq_true (by kernel_rfl)) h0 bel lt0
  have lt1 : ∀ x ∈ p1, x.block < W.heap.size := by obtain ⟨m, hm⟩ := h1; exact DataW.trod_lt m _ _ _ hm
  have e1 := fun (W' : World) (bel : Below W.heap.size W W') => Below.trod laidOut (by kernel_rfl) (of_decide_eq_true (by kernel_rfl)) h1 bel lt1
  have lt2 : ∀ x ∈ p2, x.block < W.heap.size := by obtain ⟨m, hm⟩ := h2; exact DataW.trod_lt m _ _ _ hm
  have e2 := fun (W' : World) (bel : Below W.heap.size W W') => Below.trod laidOut (by kernel_rfl) (of_decide_eq_true (by kernel_rfl)) h2 bel lt2
  have lt3 : ∀ x ∈ p3, x.block < W.heap.size := by obtain ⟨m, hm⟩ := h3; exact DataW.trod_lt m _ _ _ hm
  have e3 := fun (W' : World) (bel : Below W.heap.size W W') => Below.trod laidOut (by kernel_rfl) (of_decide_eq_true (by kernel_rfl)) h3 bel lt3
  have lt4 : ∀ x ∈ p4, x.block < W.heap.size := by obtain ⟨m, hm⟩ := h4; exact DataW.trod_lt m _ _ _ hm
  have e4 := fun (W' : World) (bel : Below W.heap.size W W') => Below.trod laidOut (by kernel_rfl) (of_decide_eq_true (by kernel_rfl)) h4 bel lt4
  have lt5 : ∀ x ∈ p5, x.block < W.heap.size := by obtain ⟨m, hm⟩ := h5; exact DataW.trod_lt m _ _ _ hm
  have e5 := fun (W' : World) (bel : Below W.heap.size W W') => Below.trod laidOut (by kernel_rfl) (of_decide_eq_true (by kernel_rfl)) h5 bel lt5
  have lt6 : ∀ x ∈ p6, x.block < W.heap.size := by obtain ⟨m, hm⟩ := h6; exact DataW.trod_lt m _ _ _ hm
  have e6 := fun (W' : World) (bel : Below W.heap.size W W') => Below.trod laidOut (by kernel_rfl) (of_decide_eq_true (by kernel_rfl)) h6 bel lt6
  have lt7 : ∀ x ∈ p7, x.block < W.heap.size := by obtain ⟨m, hm⟩ := h7; exact DataW.trod_lt m _ _ _ hm
  have e7 := fun (W' : World) (bel : Below W.heap.size W W') => Below.trod laidOut (by kernel_rfl) (of_decide_eq_true (by kernel_rfl)) h7 bel lt7
  obtain ⟨sa0, sn0, sc0, ua0, un0, uc0, S0, U0, rfl, hS0, hU0⟩ := open_hull (hval 0 25 v0 rfl rfl) h0
  obtain ⟨sa1, sn1, sc1, ua1, un1, uc1, S1, U1, rfl, hS1, hU1⟩ := open_hull (hval 1 25 v1 rfl rfl) h1
  obtain ⟨hr2, fr2, pe2, fa2, qa2, fn2, fc2, qn2, qc2, F2, Q2, rfl, hF2, hQ2⟩ := open_pitch (hval 2 29 v2 rfl rfl) h2
  obtain ⟨hr3, fr3, pe3, fa3, qa3, fn3, fc3, qn3, qc3, F3, Q3, rfl, hF3, hQ3⟩ := open_pitch (hval 3 29 v3 rfl rfl) h3
  obtain ⟨x4, oa4, ma4, sa4, ca4, oc4, mc4, sc4, cc4, op4, sp4, ok4, sk4, rfl, hI4⟩ := open_irons (hval 4 34 v4 rfl rfl) h4
  obtain ⟨x5, oa5, ma5, sa5, ca5, oc5, mc5, sc5, cc5, op5, sp5, ok5, sk5, rfl, hI5⟩ := open_irons (hval 5 34 v5 rfl rfl) h5
  obtain ⟨cr6, sa6, sn6, sc6, ta6, tn6, tc6, S6, T6, rfl, hS6, hT6⟩ := open_wages (hval 6 38 v6 rfl rfl) h6
  obtain ⟨cr7, sa7, sn7, sc7, ta7, tn7, tc7, S7, T7, rfl, hS7, hT7⟩ := open_wages (hval 7 38 v7 rfl rfl) h7
  have hst : Stands W := ⟨sides_of hL, lim_of hsh, tab_of hL, size_of hsh⟩
  clear hA0 hval0
  refine (bookApart5_any ⟨sa0, ua0, sn0, sc0, un0, uc0, S0, U0⟩ ⟨sa1, ua1, sn1, sc1, un1, uc1, S1, U1⟩ ⟨hr2, fr2, pe2, fa2, qa2, fn2, fc2, qn2, qc2, F2, Q2⟩ ⟨hr3, fr3, pe3, fa3, qa3, fn3, fc3, qn3, qc3, F3, Q3⟩ ⟨x4, oa4, ma4, sa4, ca4, oc4, mc4, sc4, cc4, op4, sp4, ok4, sk4⟩ ⟨x5, oa5, ma5, sa5, ca5, oc5, mc5, sc5, cc5, op5, sp5, ok5, sk5⟩ ⟨cr6, sa6, ta6, sn6, sc6, tn6, tc6, S6, T6⟩ ⟨cr7, sa7, ta7, sn7, sc7, tn7, tc7, S7, T7⟩ W ⟨hS0, hU0⟩ ⟨hS1, hU1⟩ ⟨hF2, hQ2⟩ ⟨hF3, hQ3⟩ hI4 hI5 ⟨hS6, hT6⟩ ⟨hS7, hT7⟩ hst).mono fun e W' ⟨he, bel⟩ => ?_
  subst he
  exact ⟨_, rfl, _, _, _, [], _, [], hW', trodAll_mk1 (shut_bool Tryz.underlying4 _), (trodAll_cons_mk (e0 W' bel) (trodAll_cons_mk (e1 W' bel) (trodAll_cons_mk (e2 W' bel) (trodAll_cons_mk (e3 W' bel) (trodAll_cons_mk (e4 W' bel) (trodAll_cons_mk (e5 W' bel) (trodAll_cons_mk (e6 W' bel) (trodAll_cons_mk (e7 W' bel) trodAll_mk0)))))))), rfl, bel.frame _, fun h => by cases h⟩
theorem row_holds : Rows.BookApartSaid :=
  OpenClaim.holds_of_wide 5 Tryz.f5 rfl rfl rfl rfl rfl rfl rfl ⟨rfl, rfl, rfl, rfl, rfl⟩ rfl rfl rfl rfl rfl (by kernel_rfl) Tryz.func5 (by kernel_rfl)
    (of_decide_eq_true (by kernel_rfl)) (by unfold Func.isWrapper; first | (rw [if_pos (by decide +kernel)]; kernel_rfl) | (rw [if_neg (by decide +kernel)]; exact ⟨rfl, rfl⟩))
    (fun os started H enc _ => lifted os started H enc)
theorem card_holds : Rows.BookApartCardSaid :=
  Claim7.holds_tied_plain_at .later [] [.data, .data, .data, .data] true (true, "066b7237fe145d4ac2878657bdd85e45b31ce7cfdb8d2acbb89a388b3fa40ac5") true row_holds (fun _ h => by cases h) (by kernel_rfl) (fun _ h => by cases h) bookApart_row_tie rfl ⟨rfl, rfl⟩ (by kernel_rfl) rfl
    (fun f fn hf hfn => by
      obtain rfl : f = 5 := Option.some.inj ((show Tryz.prog.funcNamed "caulkworks/caulkworkslaw14.BookApart" = some 5 by kernel_rfl).symm.trans hf) |>.symm
      obtain rfl : fn = Tryz.f5 := (Option.some.inj (Tryz.func5.symm.trans hfn)).symm
      exact ⟨by kernel_rfl, fun j t ht => by
        rw [Tryz.params5] at ht
        have hm : t ∈ [25, 25, 29, 29, 34, 34, 38, 38] := by simpa using Array.mem_of_getElem? ht
        have hall : ([25, 25, 29, 29, 34, 34, 38, 38].all fun u => !Tryz.prog.wantsStandIn u) = true := by kernel_rfl
        exact (show Tryz.prog.wantsStandIn t = false by simpa using List.all_eq_true.1 hall t hm)⟩)
    (by kernel_rfl)
#print axioms card_holds
end Go.Proofs.YtclbmlmlhiiaeaaGreatDoor.bookApart
