/-
  TopCaulked: for all gangs, every frost and every speed of the crews the law returns true, and the arguments read as they did; no condition.
-/
import Derived.Test.YtikeihnhkiipgaaRows
import Derived.Test.YtikeihnhkiipgaaH5
import Derived.Test.YtikeihnhkiipgaaK1
namespace Go.Proofs.Ytikeihnhkiipgaa.topCaulked
open Go.ChangeShapes Go.WideShapes Go.ChangeAt Go.RowKit Go.Proofs.Ytikeihnhkiipgaa Go.Proofs.Ytikeihnhkiipgaa.fr
set_option linter.unusedVariables false

theorem own : ownKnob Try.prog.godebug = none := by kernel_rfl
theorem caulked_all (x : AG) (fr : Nat) (sp : Option Addr) (spn spc : Nat) (spf : Nat → Nat) (w : World) (h : x.At w) (hfr : fr < 65536) (hsp : Row w sp spn 1 (fun i _ => .int .u8 (spf i : Nat))) (hspf : ∀ i, spf i < 256) :
    Calls Try.prog 3 #[.agg x.cs, .int .u16 fr, .slice sp spn spc] w (LawPost w) := by
  by_cases hl : 40 < max (max (max x.sn x.cn) x.fn) x.qn
  · exact caulked_bad x fr sp spn spc w h (.inl hl)
  · cases hB : x.B with
    | false => exact caulked_bad x fr sp spn spc w h (.inr hB)
    | true =>
      obtain ⟨ok, e, hat⟩ := ag_ok hB
      have CG : ∀ W, Below w.heap.size w W → Calls Try.prog 4 #[.agg (x.gn.cs x.a)] W fun e w' => e = .returned (.bool true) ∧ Below W.heap.size W w' := fun W hb => by
        have := gangs8_any x W (h.grow hb)
        rw [hB, ← e] at this
        exact this
      rw [← e]
      by_cases hdv : x.gn.dv x.gn.sn Mk.start < 10000
      · cases hend : x.gn.p.end' x.gn.p.qn Mk.start with
        | none => exact caulked_none x.gn ok x.a fr sp spn spc w (hat w h) (by show max (max (max x.sn x.cn) x.fn) x.qn ≤ 40; omega) CG (.inr hend)
        | some n => exact caulked_good x.gn ok x.a fr sp spn spc spf w (hat w h) hfr hsp hspf (by show max (max (max x.sn x.cn) x.fn) x.qn ≤ 40; omega) CG hdv n hend
      · exact caulked_none x.gn ok x.a fr sp spn spc w (hat w h) (by show max (max (max x.sn x.cn) x.fn) x.qn ≤ 40; omega) CG (.inl hdv)
set_option maxRecDepth 100000 in
theorem lifted (os : Os) (started : os.Started) (H : Type) (enc : TypeId × Value → H) :
    ReturnsInHanded {} Try.checked os 3 .any (Rows.topCaulkedSpec.pre6 enc Try.prog Try.f3 Rows.topCaulkedRow.domain false) (Rows.topCaulkedSpec.post enc Try.prog Try.f3 false true false false) := by
  refine returnsInHanded_of_change (C := Try.checked) own started (by kernel_rfl) Try.func3
    (ChangeSpec.witness6 (enc := enc) (C := Try.checked) false ⟨#[], #[.agg #[.slice none 0 0, .slice none 0 0, .int .i64 0, .int .i64 0, .int .i64 0, .slice none 0 0, .slice none 0 0], .int .u16 0, .slice none 0 0], []⟩ 20 (by kernel_rfl) (by kernel_rfl) (by kernel_rfl) (by kernel_rfl)) ?_
  intro W base args ds gs before hval0 hW hcnd _
  have hval : ∀ (j : Nat) t v, Try.f3.params[j]? = some t → args[j]? = some v → Value.okWide Try.prog W .any base t v := hval0
  have hW' := hW
  obtain ⟨p, q, hA0, hV, rfl, hfz, hnd⟩ := hW
  have hA : DataW.TrodAll enc Try.prog W 0 (fun _ => true) true Try.f3.params.toList args.toList ds p := hA0
  rw [Try.params3] at hA hval
  obtain ⟨v0, vs0, d0, ds0, p0, q0, hargs, rfl, rfl, h0, r0⟩ := trodAll_cons hA
  obtain ⟨v1, vs1, d1, ds1, p1, q1, rfl, rfl, rfl, h1, r1⟩ := trodAll_cons r0
  obtain ⟨v2, vs2, d2, ds2, p2, q2, rfl, rfl, rfl, h2, r2⟩ := trodAll_cons r1
  obtain ⟨rfl, rfl, rfl⟩ := trodAll_nil r2
  obtain rfl : args = #[v0, v1, v2] := by cases args; simp_all
  obtain ⟨rfl, rfl⟩ := trodVars_none hV
  have lt0 : ∀ x ∈ p0, x.block < W.heap.size := by obtain ⟨m, hm⟩ := h0; exact DataW.trod_lt m _ _ _ hm
  have e0 := fun (W' : World) (bel : Below W.heap.size W W') => Below.trod laidOut (by kernel_rfl) (of_decide_eq_true (by kernel_rfl)) h0 bel lt0
  have lt1 : ∀ x ∈ p1, x.block < W.heap.size := by obtain ⟨m, hm⟩ := h1; exact DataW.trod_lt m _ _ _ hm
  have e1 := fun (W' : World) (bel : Below W.heap.size W W') => Below.trod laidOut (by kernel_rfl) (of_decide_eq_true (by kernel_rfl)) h1 bel lt1
  have lt2 : ∀ x ∈ p2, x.block < W.heap.size := by obtain ⟨m, hm⟩ := h2; exact DataW.trod_lt m _ _ _ hm
  have e2 := fun (W' : World) (bel : Below W.heap.size W W') => Below.trod laidOut (by kernel_rfl) (of_decide_eq_true (by kernel_rfl)) h2 bel lt2
  obtain ⟨x, rfl, hx⟩ := open_gangs (hval 0 29 v0 rfl rfl) h0
  obtain ⟨a1, rfl, rfl, rfl, w1⟩ := open_int Try.underlying30 (hval 1 30 v1 rfl rfl) h1
  obtain ⟨sp, spn, spc, spf, rfl, hsp, hspf⟩ := open_u8s (hval 2 31 v2 rfl rfl) h2
  clear hA0 hval0
  have hb1 := u16_wf w1
  obtain ⟨k, rfl⟩ := Int.eq_ofNat_of_zero_le hb1.1
  refine (caulked_all x k sp spn spc spf W hx (by omega) hsp hspf).mono fun e W' ⟨he, bel⟩ => ?_
  subst he
  exact ⟨_, rfl, _, _, _, [], _, [], hW', trodAll_mk1 (shut_bool Try.underlying4 _), (trodAll_cons_mk (e0 W' bel) (trodAll_cons_mk (e1 W' bel) (trodAll_cons_mk (e2 W' bel) trodAll_mk0))), rfl, bel.frame _, fun h => by cases h⟩

theorem over : Rows.topCaulkedRow.holds Try.pinned (OpenSpec.ofChange Rows.topCaulkedSpec) :=
  OpenClaim.holds_of_wide 3 Try.f3 rfl rfl rfl rfl rfl rfl rfl ⟨rfl, rfl, rfl, rfl, rfl⟩ rfl rfl rfl rfl rfl (by kernel_rfl) Try.func3 (by kernel_rfl)
    (of_decide_eq_true (by kernel_rfl)) (by unfold Func.isWrapper; first | (rw [if_pos (by decide +kernel)]; kernel_rfl) | (rw [if_neg (by decide +kernel)]; exact ⟨rfl, rfl⟩))
    (fun os started H enc _ => lifted os started H enc)

theorem proved : Rows.TopCaulkedSaid := over
#print axioms proved
end Go.Proofs.Ytikeihnhkiipgaa.topCaulked
