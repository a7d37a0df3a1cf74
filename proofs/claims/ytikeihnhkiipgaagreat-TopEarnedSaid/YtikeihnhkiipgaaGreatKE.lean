/-
  TopEarned: for all gangs, every rate, share and other crew the law returns true, and the arguments read as they did; no condition.
-/
import Derived.Test.YtikeihnhkiipgaaGreatRows
import Derived.Test.YtikeihnhkiipgaaGreatL4
import Derived.Test.YtikeihnhkiipgaaGreatK1
namespace Go.Proofs.YtikeihnhkiipgaaGreat.topEarned
open Go.ChangeShapes Go.WideShapes Go.ChangeAt Go.RowKit Go.Proofs.YtikeihnhkiipgaaGreat Go.Proofs.YtikeihnhkiipgaaGreat.fr
set_option linter.unusedVariables false

theorem own : ownKnob Tryz.prog.godebug = none := by kernel_rfl
theorem earned_all (x : AG) (ra : Option Addr) (rn rc : Nat) (rf : Nat → Nat) (sp : Option Addr) (spn spc : Nat) (spf : Nat → Nat) (ot : Nat) (w : World) (h : x.At w) (hra : Row w ra rn 1 (fun i _ => .int .u8 (rf i : Nat))) (hrf : ∀ i, rf i < 256) (hsp : Row w sp spn 1 (fun i _ => .int .u8 (spf i : Nat))) (hspf : ∀ i, spf i < 256) (hot : ot < 256) :
    Calls Tryz.prog 3 #[.agg x.cs, .slice ra rn rc, .slice sp spn spc, .int .u8 ot] w (LawPost w) := by
  by_cases hl : 40 < max (max (max x.sn x.cn) x.fn) x.qn
  · exact earned_bad x ra rn rc sp spn spc ot w h (.inl hl)
  · cases hB : x.B with
    | false => exact earned_bad x ra rn rc sp spn spc ot w h (.inr hB)
    | true =>
      obtain ⟨ok, e, hat⟩ := ag_ok hB
      have CG : ∀ W, Below w.heap.size w W → Calls Tryz.prog 4 #[.agg (x.gn.cs x.a)] W fun e w' => e = .returned (.bool true) ∧ Below W.heap.size W w' := fun W hb => by
        have := gangs8_any x W (h.grow hb)
        rw [hB, ← e] at this
        exact this
      rw [← e]
      have hl' : max (max (max x.gn.sn x.gn.cn) x.gn.p.fn) x.gn.p.qn ≤ 40 := by show max (max (max x.sn x.cn) x.fn) x.qn ≤ 40; omega
      by_cases h3 : 3 < x.gn.sn
      · exact earned_out x.gn x.a ra rn rc sp spn spc ot w (hat w h) hl' CG (.inl h3)
      · by_cases h0 : x.gn.cn = 0
        · exact earned_out x.gn x.a ra rn rc sp spn spc ot w (hat w h) hl' CG (.inr h0)
        · by_cases hdv : x.gn.dv x.gn.sn Mk.start < 10000
          · exact earned_good x.gn ok x.a ra rn rc rf sp spn spc spf ot w (hat w h) hra hrf hsp hspf hot hl' CG h3 h0 hdv
          · exact earned_none x.gn ok x.a ra rn rc sp spn spc ot w (hat w h) hl' CG h3 h0 hdv
set_option maxRecDepth 100000 in
theorem lifted (os : Os) (started : os.Started) (H : Type) (enc : TypeId × Value → H) :
    ReturnsInHanded {} Tryz.checked os 3 .any (Rows.topEarnedSpec.pre6 enc Tryz.prog Tryz.f3 Rows.topEarnedRow.domain false) (Rows.topEarnedSpec.post enc Tryz.prog Tryz.f3 false true false false) := by
  refine returnsInHanded_of_change (C := Tryz.checked) own started (by kernel_rfl) Tryz.func3
    (ChangeSpec.witness6 (enc := enc) (C := Tryz.checked) false ⟨#[], #[.agg #[.slice none 0 0, .slice none 0 0, .int .i64 0, .int .i64 0, .int .i64 0, .slice none 0 0, .slice none 0 0], .slice none 0 0, .slice none 0 0, .int .u8 0], []⟩ 20 (by kernel_rfl) (by kernel_rfl) (by kernel_rfl) (by kernel_rfl)) ?_
  intro W base args ds gs before hval0 hW hcnd _
  have hval : ∀ (j : Nat) t v, Tryz.f3.params[j]? = some t → args[j]? = some v → Value.okWide Tryz.prog W .any base t v := hval0
  have hW' := hW
  obtain ⟨p, q, hA0, hV, rfl, hfz, hnd⟩ := hW
  have hA : DataW.TrodAll enc Tryz.prog W 0 (fun _ => true) true Tryz.f3.params.toList args.toList ds p := hA0
  rw [Tryz.params3] at hA hval
  obtain ⟨v0, vs0, d0, ds0, p0, q0, hargs, rfl, rfl, h0, r0⟩ := trodAll_cons hA
  obtain ⟨v1, vs1, d1, ds1, p1, q1, rfl, rfl, rfl, h1, r1⟩ := trodAll_cons r0
  obtain ⟨v2, vs2, d2, ds2, p2, q2, rfl, rfl, rfl, h2, r2⟩ := trodAll_cons r1
  obtain ⟨v3, vs3, d3, ds3, p3, q3, rfl, rfl, rfl, h3, r3⟩ := trodAll_cons r2
  obtain ⟨rfl, rfl, rfl⟩ := trodAll_nil r3
  obtain rfl : args = #[v0, v1, v2, v3] := by cases args; simp_all
  obtain ⟨rfl, rfl⟩ := trodVars_none hV
  have lt0 : ∀ x ∈ p0, x.block < W.heap.size := by obtain ⟨m, hm⟩ := h0; exact DataW.trod_lt m _ _ _ hm
  have e0 := fun (W' : World) (bel : Below W.heap.size W W') => Below.trod laidOut (by kernel_rfl) (of_decide_eq_true (by kernel_rfl)) h0 bel lt0
  have lt1 : ∀ x ∈ p1, x.block < W.heap.size := by obtain ⟨m, hm⟩ := h1; exact DataW.trod_lt m _ _ _ hm
  have e1 := fun (W' : World) (bel : Below W.heap.size W W') => Below.trod laidOut (by kernel_rfl) (of_decide_eq_true (by kernel_rfl)) h1 bel lt1
  have lt2 : ∀ x ∈ p2, x.block < W.heap.size := by obtain ⟨m, hm⟩ := h2; exact DataW.trod_lt m _ _ _ hm
  have e2 := fun (W' : World) (bel : Below W.heap.size W W') => Below.trod laidOut (by kernel_rfl) (of_decide_eq_true (by kernel_rfl)) h2 bel lt2
  have lt3 : ∀ x ∈ p3, x.block < W.heap.size := by obtain ⟨m, hm⟩ := h3; exact DataW.trod_lt m _ _ _ hm
  have e3 := fun (W' : World) (bel : Below W.heap.size W W') => Below.trod laidOut (by kernel_rfl) (of_decide_eq_true (by kernel_rfl)) h3 bel lt3
  obtain ⟨x, rfl, hx⟩ := open_gangs (hval 0 29 v0 rfl rfl) h0
  obtain ⟨ra, rn, rc, rf, rfl, hra, hrf⟩ := open_u8s (hval 1 30 v1 rfl rfl) h1
  obtain ⟨sp, spn, spc, spf, rfl, hsp, hspf⟩ := open_u8s (hval 2 30 v2 rfl rfl) h2
  obtain ⟨a3, rfl, rfl, rfl, w3⟩ := open_int Tryz.underlying5 (hval 3 5 v3 rfl rfl) h3
  clear hA0 hval0
  have hb3 := u8_wf w3
  obtain ⟨k, rfl⟩ := Int.eq_ofNat_of_zero_le hb3.1
  refine (earned_all x ra rn rc rf sp spn spc spf k W hx hra hrf hsp hspf (by omega)).mono fun e W' ⟨he, bel⟩ => ?_
  subst he
  exact ⟨_, rfl, _, _, _, [], _, [], hW', trodAll_mk1 (shut_bool Tryz.underlying4 _), (trodAll_cons_mk (e0 W' bel) (trodAll_cons_mk (e1 W' bel) (trodAll_cons_mk (e2 W' bel) (trodAll_cons_mk (e3 W' bel) trodAll_mk0)))), rfl, bel.frame _, fun h => by cases h⟩

theorem over : Rows.topEarnedRow.holds Tryz.pinned (OpenSpec.ofChange Rows.topEarnedSpec) :=
  OpenClaim.holds_of_wide 3 Tryz.f3 rfl rfl rfl rfl rfl rfl rfl ⟨rfl, rfl, rfl, rfl, rfl⟩ rfl rfl rfl rfl rfl (by kernel_rfl) Tryz.func3 (by kernel_rfl)
    (of_decide_eq_true (by kernel_rfl)) (by unfold Func.isWrapper; first | (rw [if_pos (by decide +kernel)]; kernel_rfl) | (rw [if_neg (by decide +kernel)]; exact ⟨rfl, rfl⟩))
    (fun os started H enc _ => lifted os started H enc)

theorem proved : Rows.TopEarnedSaid := over
#print axioms proved
end Go.Proofs.YtikeihnhkiipgaaGreat.topEarned
