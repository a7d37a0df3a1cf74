/-
  A region that draws its order and stores to cells that it loads, each load bound ahead of the store that overwrites its cell: a condition on the world that hangs on what has come up. No program in sight.
-/
import Derived.Deep.RegionHeld
namespace Go.Proofs.YtikeihnhkiipgaaGreat

section
variable {P : Program} {ops : Array Oper} {Q : Exit → Act → World → Prop} {md : Region.Mode} {S : World → Prop} {L : List (Nat × (World → Prop))} {D : List (Nat × Nat)}

/-- S holds, and of each entry (k, q) of L: q holds as long as number k has not come up. -/
def Stg (S : World → Prop) (L : List (Nat × (World → Prop))) (l : Array Bool) (w : World) : Prop := S w ∧ ∀ e ∈ L, l.getD e.1 true = false → e.2 w
/-- What may be known of the world when number i is carried out: S, and whatever holds till a number comes up that waits for i. -/
def StgAt (S : World → Prop) (L : List (Nat × (World → Prop))) (D : List (Nat × Nat)) (i : Nat) (w : World) : Prop := S w ∧ ∀ e ∈ L, D.contains (e.1, i) = true → e.2 w
/-- D's pairs (k, p): k waits for p. -/
def waitsB (md : Region.Mode) (ops : Array Oper) (D : List (Nat × Nat)) : Bool :=
  D.all fun d => match ops[d.1]? with
    | some o => o.after.any fun e => Region.binds md e && e.on == d.2
    | none => false
def Cls (D : List (Nat × Nat)) (l : Array Bool) : Prop := ∀ d ∈ D, l.getD d.2 true = false → l.getD d.1 true = false

theorem getD_set_self {l : Array Bool} {i : Nat} : (l.setIfInBounds i true).getD i true = true := by
  by_cases h : i < l.size
  · simp [h]
  · simp [h]
theorem Cls.next (hD : waitsB md ops D = true) {l : Array Bool} (h : Cls D l) {j : Nat} (hj : j ∈ Region.ready md ops l) : Cls D (l.setIfInBounds j true) := fun d hd h2 => by
  have hdj : d.2 ≠ j := fun e => by rw [e, getD_set_self] at h2; cases h2
  rw [getD_set_ne true (fun e => hdj e.symm)] at h2
  have h1 := h d hd h2
  by_cases e : d.1 = j
  · exfalso
    obtain ⟨_, o, ho, hall⟩ := mem_ready.1 hj
    have hw := List.all_eq_true.1 hD d hd
    rw [e, ho] at hw
    obtain ⟨b, hb, hbe⟩ := Array.any_eq_true'.1 hw
    rw [Bool.and_eq_true, beq_iff_eq] at hbe
    have h3 := hall b hb hbe.1
    rw [hbe.2] at h3
    rcases Nat.lt_or_ge d.2 l.size with h' | h'
    · simp [h'] at h3 h2; rw [h2] at h3; cases h3
    · simp [Array.getElem?_eq_none h'] at h3
  · rw [getD_set_ne true (fun x => e x.symm)]; exact h1

/-- Whatever order is picked from here on, and the condition holds behind every operation that is carried out. -/
def wpAnyT (P : Program) (md : Region.Mode) (ops : Array Oper) (Q : Exit → Act → World → Prop) (S : World → Prop) (L : List (Nat × (World → Prop))) : Nat → Array Bool → Act → World → Prop
  | 0, l, a, w => Region.ready md ops l = [] ∧ Q .normal a w
  | n + 1, l, a, w => (Region.ready md ops l = [] → Q .normal a w) ∧
    ∀ i ∈ Region.ready md ops l, wpOp P ops Q i (fun a' w' => Stg S L (l.setIfInBounds i true) w' ∧ wpAnyT P md ops Q S L n (l.setIfInBounds i true) a' w') a w
theorem wpAny_of_stg : ∀ (n : Nat) (l : Array Bool) (a : Act) (w : World), wpAnyT P md ops Q S L n l a w → wpAny P md ops Q n l a w
  | 0, _, _, _, h => h
  | n + 1, _, _, _, h => ⟨h.1, fun i hi => wpOp_mono (fun a' w' h' => wpAny_of_stg n _ a' w' h'.2) (h.2 i hi)⟩

theorem Stg.set {l : Array Bool} {w : World} {i : Nat} (hL : ∀ e ∈ L, e.1 ≠ i) : Stg S L (l.setIfInBounds i true) w ↔ Stg S L l w := by
  unfold Stg
  refine and_congr Iff.rfl ⟨fun h e he h2 => h e he ?_, fun h e he h2 => h e he ?_⟩
  · rw [getD_set_ne true (fun x => hL e he x.symm)]; exact h2
  · rwa [getD_set_ne true (fun x => hL e he x.symm)] at h2
theorem Stg.at {l : Array Bool} {w : World} {i : Nat} (h : Stg S L l w) (hc : Cls D l) (hi : l.getD i true = false) : StgAt S L D i w :=
  ⟨h.1, fun e he hd => h.2 e he (hc (e.1, i) (by simpa using hd) hi)⟩

theorem wpAnyT_first {i : Nat} {oi : Oper} {v : Value} (hi : ops[i]? = some oi) (hsel : ∀ (j : Nat) (o : Oper) cs b, ops[j]? = some o → o.op ≠ .select cs b)
    (hQ : ∀ c a w, Q (.panic c) (a.put oi.dst v) w → Q (.panic c) a w) (hD : waitsB md ops D = true) (hL : ∀ e ∈ L, e.1 ≠ i) :
    ∀ (n : Nat) (l : Array Bool) (a : Act) (w : World), Cls D l →
      (∀ j oj, ops[j]? = some oj → j ≠ i → l.getD j true = false → (∀ e ∈ oj.after, Region.binds md e = true → e.on ≠ i) → oi.apart ops oj = true) →
      i ∈ Region.ready md ops l → YieldsIf P ops (StgAt S L D i) oi v a → Stg S L l w →
      wpAnyT P md ops Q S L n (l.setIfInBounds i true) (a.put oi.dst v) w → wpAnyT P md ops Q S L (n + 1) l a w := by
  intro n
  induction n with
  | zero =>
    intro l a w hc _ hr hy hS H
    refine ⟨(fun h => by rw [h] at hr; cases hr), fun j hj => ?_⟩
    by_cases hji : j = i
    · subst hji
      exact hy.wpOp hi (hS.at hc (mem_ready.1 hr).1) ⟨(Stg.set hL).2 hS, H⟩
    · have := ready_mono hj hji
      rw [H.1] at this
      cases this
  | succ n ih =>
    intro l a w hc hfree hr hy hS H
    refine ⟨(fun h => by rw [h] at hr; cases hr), fun j hj => ?_⟩
    by_cases hji : j = i
    · subst hji
      exact hy.wpOp hi (hS.at hc (mem_ready.1 hr).1) ⟨(Stg.set hL).2 hS, H⟩
    · obtain ⟨hjun, oj, hoj, hall⟩ := mem_ready.1 hj
      have hno : ∀ e ∈ oj.after, Region.binds md e = true → e.on ≠ i := fun e he hb heq => by
        have h1 := hall e he hb
        have h0 := (mem_ready.1 hr).1
        rw [heq] at h1
        rcases Nat.lt_or_ge i l.size with h' | h'
        · simp [h'] at h0 h1; rw [h0] at h1; cases h1
        · simp [Array.getElem?_eq_none h'] at h1
      have h2 := wpOp_putIf hoj (hfree j oj hoj hji hjun hno) (fun cs b => hsel i oi cs b hi) (fun cs b => hsel j oj cs b hoj) hQ hy (H.2 j (ready_mono hj hji))
      refine wpOp_mono (fun a' w' h3 => ?_) h2
      have h4 := h3.2
      rw [Array.setIfInBounds_comm _ _ (fun x => hji x.symm)] at h4
      have hSj := (Stg.set hL).1 h4.1
      refine ⟨hSj, ih (l.setIfInBounds j true) a' w' (hc.next hD hj) (fun k ok hk hki hun hn => hfree k ok hk hki ?_ hn) (ready_mono hr (Ne.symm hji)) h3.1 hSj h4.2⟩
      by_cases hjk : j = k
      · subst hjk; exact hjun
      · rwa [getD_set_ne true hjk] at hun
theorem wpAnyT_take {i : Nat} {oi : Oper} {v : Value} {n : Nat} {l : Array Bool} {a : Act} {w : World} (hi : ops[i]? = some oi) (hs : Region.noSelect ops = true) (hf : Region.free md ops l i = true)
    (hr : (Region.ready md ops l).contains i = true) (hQ : ∀ c a w, Q (.panic c) (a.put oi.dst v) w → Q (.panic c) a w) (hD : waitsB md ops D = true) (hL : (L.map Prod.fst).all (fun k => decide (k ≠ i)) = true)
    (hc : Cls D l) (hy : YieldsIf P ops (StgAt S L D i) oi v a) (hS : Stg S L l w)
    (h : Cls D (l.setIfInBounds i true) → Stg S L (l.setIfInBounds i true) w → wpAnyT P md ops Q S L n (l.setIfInBounds i true) (a.put oi.dst v) w) : wpAnyT P md ops Q S L (n + 1) l a w := by
  have hL' : ∀ e ∈ L, e.1 ≠ i := fun e he => of_decide_eq_true (List.all_eq_true.1 hL e.1 (List.mem_map_of_mem he))
  have hr' : i ∈ Region.ready md ops l := by simpa using hr
  exact wpAnyT_first hi (Region.noSelect_spec hs) hQ hD hL' n l a w hc (Region.free_spec hi hf) hr' hy hS (h (hc.next hD hr') ((Stg.set hL').2 hS))
/-- The one operation that can come up. -/
theorem wpAnyT_one {i : Nat} {o : Oper} {n : Nat} {l : Array Bool} {a : Act} {w : World} (hr : Region.ready md ops l = [i]) (ho : ops[i]? = some o) (hD : waitsB md ops D = true) (hc : Cls D l)
    (h : ∀ K' : Act → World → Prop, Shut (∀ a w, Stg S L (l.setIfInBounds i true) w → (Cls D (l.setIfInBounds i true) → Stg S L (l.setIfInBounds i true) w → wpAnyT P md ops Q S L n (l.setIfInBounds i true) a w) → K' a w) → if Region.wanted o (yielded ops a.tmps) = true then Oper.wp P o a w K' Q else K' (a.put o.dst undef) w) :
    wpAnyT P md ops Q S L (n + 1) l a w := by
  refine ⟨(fun h0 => by rw [hr] at h0; cases h0), fun j hj => ?_⟩
  have hj2 := hj
  rw [hr, List.mem_singleton] at hj
  subst hj
  exact wpOp_step ho fun K' hK => h K' fun a w hS hW => hK a w ⟨hS, hW (hc.next hD hj2) hS⟩
theorem wpAnyT_done {l : Array Bool} {a : Act} {w : World} (hr : Region.ready md ops l = []) (h : Q .normal a w) : ∀ n, wpAnyT P md ops Q S L n l a w
  | 0 => ⟨hr, h⟩
  | _ + 1 => ⟨fun _ => h, by rw [hr]; simp⟩
theorem wp_region_stg {id : Nat} {a : Act} {w : World} (hm : P.follows .mixedOrders = true) (hD : (D.all fun d => decide (d.1 < ops.size) && decide (d.2 < ops.size)) = true) (hS : S w.drew) (hL : ∀ e ∈ L, e.2 w.drew)
    (h : Cls D (Array.replicate ops.size false) → Stg S L (Array.replicate ops.size false) w.drew → wpAnyT P .any ops Q S L ops.size (Array.replicate ops.size false) a w.drew) : (Code.region id ops true).wp P Q a w :=
  wp_region_any hm (wpAny_of_stg _ _ _ _ (h (fun d hd _ => by
    have hh := List.all_eq_true.1 hD d hd
    rw [Bool.and_eq_true, decide_eq_true_eq] at hh
    simp [hh.1]) ⟨hS, fun e he _ => hL e he⟩))
end
end Go.Proofs.YtikeihnhkiipgaaGreat
