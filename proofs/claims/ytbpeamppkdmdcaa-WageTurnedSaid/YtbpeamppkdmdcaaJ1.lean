/-
  A region that draws its order: several chains side by side, each of which lays a number into a box and appends it to a slice of its own.
-/
import Derived.Test.YtbpeamppkdmdcaaH0
namespace Go.Proofs.Ytbpeamppkdmdcaa
open Go.RowKit

/-- How far a chain is: not begun, boxed, appended. -/
inductive Stt where
  | n0
  | n1 (g : Nat)
  | n2 (g h cap : Nat)
def Stt.lv : Stt → Nat
  | .n0 => 0
  | .n1 _ => 1
  | .n2 _ _ _ => 2
/-- A chain: the numbers of its two operations, their slots, the operands, and what they are. -/
structure Ch where
  bi : Nat
  ai : Nat
  bd : Nat
  ad : Nat
  s : Operand
  x : Operand
  y : Int
  v : Value
  xs : List Value
abbrev slc (g : Nat) : Value := .slice (some ⟨g, 0, none⟩) 1 1
def Ch.put (c : Ch) : Stt → Act → Act
  | .n0, a => a
  | .n1 g, a => a.put (some c.bd) (slc g)
  | .n2 g h cap, a => (a.put (some c.bd) (slc g)).put (some c.ad) (.slice (some ⟨h, 0, none⟩) (c.xs.length + 1) cap)
def Ch.mark (c : Ch) : Stt → Array Bool → Array Bool
  | .n0, l => l
  | .n1 _, l => l.setIfInBounds c.bi true
  | .n2 _ _ _, l => (l.setIfInBounds c.bi true).setIfInBounds c.ai true
def Ch.ent (c : Ch) : Stt → Value × List Value
  | .n2 _ h cap => (.slice (some ⟨h, 0, none⟩) (c.xs.length + 1) cap, c.xs ++ [.int .i64 c.y])
  | _ => (c.v, c.xs)
def putAll : List (Ch × Stt) → Act → Act
  | [], a => a
  | (c, s) :: l, a => putAll l (c.put s a)
def markAll : List (Ch × Stt) → Array Bool → Array Bool
  | [], a => a
  | (c, s) :: l, a => markAll l (c.mark s a)
def offSlots (d : Nat) (l : List Ch) : Prop := ∀ c ∈ l, c.bd ≠ d ∧ c.ad ≠ d
def offIdx (i : Nat) (l : List Ch) : Prop := ∀ c ∈ l, c.bi ≠ i ∧ c.ai ≠ i
theorem Ch.put_comm (c : Ch) (s : Stt) (a : Act) (d : Nat) (v : Value) (h : c.bd ≠ d ∧ c.ad ≠ d) : c.put s (a.put (some d) v) = (c.put s a).put (some d) v := by
  have h1 : ∀ (a : Act) (u : Value), (a.put (some d) v).put (some c.bd) u = (a.put (some c.bd) u).put (some d) v := fun a u => Act.put_comm a v u (fun e he hf => h.1 (by cases he; cases hf; rfl))
  have h2 : ∀ (a : Act) (u : Value), (a.put (some d) v).put (some c.ad) u = (a.put (some c.ad) u).put (some d) v := fun a u => Act.put_comm a v u (fun e he hf => h.2 (by cases he; cases hf; rfl))
  cases s with
  | n0 => rfl
  | n1 g => exact h1 _ _
  | n2 g h cap => unfold Ch.put; dsimp only; rw [h1, h2]
theorem putAll_comm (d : Nat) (v : Value) : ∀ (l : List (Ch × Stt)) (a : Act), offSlots d (l.map Prod.fst) → putAll l (a.put (some d) v) = (putAll l a).put (some d) v
  | [], _, _ => rfl
  | (c, s) :: l, a, h => by
    unfold putAll
    rw [Ch.put_comm c s a d v (h c (by simp)), putAll_comm d v l _ fun e he => h e (by simp only [List.map_cons, List.mem_cons]; exact .inr he)]
theorem Ch.mark_comm (c : Ch) (s : Stt) (m : Array Bool) (i : Nat) (h : c.bi ≠ i ∧ c.ai ≠ i) : c.mark s (m.setIfInBounds i true) = (c.mark s m).setIfInBounds i true := by
  have h1 : ∀ (a : Array Bool), (a.setIfInBounds i true).setIfInBounds c.bi true = (a.setIfInBounds c.bi true).setIfInBounds i true := fun a => Array.setIfInBounds_comm _ _ (fun e => h.1 e.symm)
  have h2 : ∀ (a : Array Bool), (a.setIfInBounds i true).setIfInBounds c.ai true = (a.setIfInBounds c.ai true).setIfInBounds i true := fun a => Array.setIfInBounds_comm _ _ (fun e => h.2 e.symm)
  cases s with
  | n0 => rfl
  | n1 g => exact h1 _
  | n2 g h cap => unfold Ch.mark; dsimp only; rw [h1, h2]
theorem markAll_comm (i : Nat) : ∀ (l : List (Ch × Stt)) (m : Array Bool), offIdx i (l.map Prod.fst) → markAll l (m.setIfInBounds i true) = (markAll l m).setIfInBounds i true
  | [], _, _ => rfl
  | (c, s) :: l, a, h => by
    unfold markAll
    rw [Ch.mark_comm c s a i (h c (by simp)), markAll_comm i l _ fun e he => h e (by simp only [List.map_cons, List.mem_cons]; exact .inr he)]
theorem putAll_append : ∀ (l1 l2 : List (Ch × Stt)) (a : Act), putAll (l1 ++ l2) a = putAll l2 (putAll l1 a)
  | [], _, _ => rfl
  | (c, s) :: l1, l2, a => putAll_append l1 l2 (c.put s a)
theorem markAll_append : ∀ (l1 l2 : List (Ch × Stt)) (a : Array Bool), markAll (l1 ++ l2) a = markAll l2 (markAll l1 a)
  | [], _, _ => rfl
  | (c, s) :: l1, l2, a => markAll_append l1 l2 (c.mark s a)
theorem Ch.put_size (c : Ch) (s : Stt) (a : Act) : (c.put s a).tmps.size = a.tmps.size := by cases s <;> simp [Ch.put, Act.put]
theorem putAll_size : ∀ (l : List (Ch × Stt)) (a : Act), (putAll l a).tmps.size = a.tmps.size
  | [], _ => rfl
  | (c, s) :: l, a => (putAll_size l _).trans (c.put_size s a)
theorem Ch.put_eval (c : Ch) (s : Stt) (a : Act) (x : Operand) (h : x ≠ .tmp c.bd ∧ x ≠ .tmp c.ad) : (c.put s a).eval x = a.eval x := by
  cases s with
  | n0 => rfl
  | n1 g => exact Act.eval_put fun d hd => by cases hd; exact h.1
  | n2 g h cap =>
    rename_i hh
    unfold Ch.put
    rw [Act.eval_put fun d hd => by cases hd; exact hh.2, Act.eval_put fun d hd => by cases hd; exact hh.1]
theorem putAll_eval (x : Operand) : ∀ (l : List (Ch × Stt)) (a : Act), (∀ c ∈ l.map Prod.fst, x ≠ .tmp c.bd ∧ x ≠ .tmp c.ad) → (putAll l a).eval x = a.eval x
  | [], _, _ => rfl
  | (c, s) :: l, a, h => by
    unfold putAll
    rw [putAll_eval x l _ fun e he => h e (by simp only [List.map_cons, List.mem_cons]; exact .inr he), c.put_eval s a x (h c (by simp))]
theorem eval_put_same (a : Act) (d : Nat) (v : Value) (h : d < a.tmps.size) : (a.put (some d) v).eval (.tmp d) = v := by
  simp [Act.eval, Act.put, h]
def slotsOk : List Ch → Bool
  | [] => true
  | c :: l => decide (c.bd ≠ c.ad) && decide (c.bi ≠ c.ai) && l.all (fun e => decide (e.bd ≠ c.bd ∧ e.ad ≠ c.bd ∧ e.bd ≠ c.ad ∧ e.ad ≠ c.ad ∧ e.bi ≠ c.bi ∧ e.ai ≠ c.bi ∧ e.bi ≠ c.ai ∧ e.ai ≠ c.ai)) && slotsOk l
theorem slotsOk_mid : ∀ {l1 : List Ch} {c : Ch} {l2 : List Ch}, slotsOk (l1 ++ c :: l2) = true → c.bd ≠ c.ad ∧ c.bi ≠ c.ai ∧ offSlots c.bd l2 ∧ offSlots c.ad l2 ∧ offIdx c.bi l2 ∧ offIdx c.ai l2 ∧ offSlots c.bd l1 ∧ offSlots c.ad l1
  | [], c, l2, h => by
    simp only [List.nil_append, slotsOk, Bool.and_eq_true, decide_eq_true_eq, List.all_eq_true] at h
    obtain ⟨⟨⟨h1, h2⟩, h3⟩, h4⟩ := h
    refine ⟨h1, h2, fun e he => ?_, fun e he => ?_, fun e he => ?_, fun e he => ?_, (by intro e he; cases he), (by intro e he; cases he)⟩
    all_goals have := h3 e he
    · exact ⟨this.1, this.2.1⟩
    · exact ⟨this.2.2.1, this.2.2.2.1⟩
    · exact ⟨this.2.2.2.2.1, this.2.2.2.2.2.1⟩
    · exact ⟨this.2.2.2.2.2.2.1, this.2.2.2.2.2.2.2⟩
  | k :: l1, c, l2, h => by
    simp only [List.cons_append, slotsOk, Bool.and_eq_true, decide_eq_true_eq, List.all_eq_true] at h
    obtain ⟨⟨⟨h1, h2⟩, h3⟩, h4⟩ := h
    obtain ⟨g1, g2, g3, g4, g5, g6, g7, g8⟩ := slotsOk_mid h4
    have hk := h3 c (by simp)
    refine ⟨g1, g2, g3, g4, g5, g6, fun e he => ?_, fun e he => ?_⟩
    · rcases List.mem_cons.1 he with rfl | he
      · exact ⟨fun e => hk.1 e.symm, fun e => hk.2.2.1 e.symm⟩
      · exact g7 e he
    · rcases List.mem_cons.1 he with rfl | he
      · exact ⟨fun e => hk.2.1 e.symm, fun e => hk.2.2.2.1 e.symm⟩
      · exact g8 e he
/-- All ways in which so many chains can stand. -/
def lvAll : Nat → List (List Nat)
  | 0 => [[]]
  | n + 1 => (lvAll n).flatMap fun l => [0 :: l, 1 :: l, 2 :: l]
theorem mem_lvAll : ∀ (l : List Nat), (∀ k ∈ l, k ≤ 2) → l ∈ lvAll l.length
  | [], _ => by simp [lvAll]
  | k :: l, h => by
    have := mem_lvAll l fun e he => h e (List.mem_cons_of_mem _ he)
    have := h k List.mem_cons_self
    simp only [lvAll, List.length_cons, List.mem_flatMap]
    refine ⟨l, by assumption, ?_⟩
    have : k = 0 ∨ k = 1 ∨ k = 2 := by omega
    rcases this with rfl | rfl | rfl <;> simp
def markL : List Ch → List Nat → Array Bool → Array Bool
  | c :: l, k :: ks, m => markL l ks (if k = 0 then m else if k = 1 then m.setIfInBounds c.bi true else (m.setIfInBounds c.bi true).setIfInBounds c.ai true)
  | _, _, m => m
def rdyAt (i : Nat) : Bool → List Ch → List Nat → Bool
  | pre, c :: l, k :: ks => (decide (k = 0) && decide (i = c.bi)) || (decide (k = 1) && decide (i = c.ai) && pre) || rdyAt i (pre && decide (k = 2)) l ks
  | _, _, _ => false
/-- Chains come to their ends one after the other. -/
def monoL : List Nat → Bool
  | [] => true
  | k :: ks => (decide (k = 2) || ks.all fun x => decide (x ≠ 2)) && monoL ks
theorem monoL_box : ∀ (l1 l2 : List Nat), monoL (l1 ++ 0 :: l2) = true → monoL (l1 ++ 1 :: l2) = true
  | [], l2, h => h
  | k :: l1, l2, h => by
    simp only [List.cons_append, monoL, Bool.and_eq_true, Bool.or_eq_true, decide_eq_true_eq, List.all_append, List.all_cons] at h
    simp only [List.cons_append, monoL, Bool.and_eq_true, Bool.or_eq_true, decide_eq_true_eq, List.all_append, List.all_cons]
    exact ⟨h.1.imp id fun h => ⟨h.1, by decide, h.2.2⟩, monoL_box l1 l2 h.2⟩
theorem monoL_app : ∀ (l1 l2 : List Nat), (∀ k ∈ l1, k = 2) → monoL (l1 ++ 1 :: l2) = true → monoL (l1 ++ 2 :: l2) = true
  | [], l2, _, h => by
    simp only [List.nil_append, monoL, Bool.and_eq_true] at h ⊢
    exact ⟨rfl, h.2⟩
  | k :: l1, l2, hk, h => by
    simp only [List.cons_append, monoL, Bool.and_eq_true] at h ⊢
    exact ⟨by rw [hk k List.mem_cons_self]; rfl, monoL_app l1 l2 (fun e he => hk e (List.mem_cons_of_mem _ he)) h.2⟩
/-- Only the chains' next operations can come up, and one does, unless all are at their ends. -/
def rdyOk (md : Region.Mode) (ops : Array Oper) (m : Array Bool) (cs : List Ch) : Bool :=
  (lvAll cs.length).all fun lv => lv.all (fun k => decide (k = 2)) || !monoL lv || ((Region.ready md ops (markL cs lv m)).all (fun i => rdyAt i true cs lv) && !(Region.ready md ops (markL cs lv m)).isEmpty)
theorem markAll_L : ∀ (l : List (Ch × Stt)) (m : Array Bool), markAll l m = markL (l.map Prod.fst) (l.map fun e => e.2.lv) m
  | [], _ => rfl
  | (c, s) :: l, m => by
    unfold markAll
    rw [markAll_L l]
    cases s <;> rfl
theorem rdyAt_mem (i : Nat) : ∀ (pre : Bool) (l : List (Ch × Stt)), rdyAt i pre (l.map Prod.fst) (l.map fun e => e.2.lv) = true → ∃ l1 e l2, l = l1 ++ e :: l2 ∧ ((e.2.lv = 0 ∧ i = e.1.bi) ∨ (e.2.lv = 1 ∧ i = e.1.ai ∧ pre = true ∧ ∀ x ∈ l1.map (fun e => e.2.lv), x = 2))
  | _, [], h => by cases h
  | pre, (c, s) :: l, h => by
    simp only [List.map_cons, rdyAt, Bool.or_eq_true, Bool.and_eq_true, decide_eq_true_eq] at h
    rcases h with (h | h) | h
    · exact ⟨[], (c, s), l, rfl, .inl h⟩
    · exact ⟨[], (c, s), l, rfl, .inr ⟨h.1.1, h.1.2, h.2, by simp⟩⟩
    · obtain ⟨l1, e, l2, rfl, he⟩ := rdyAt_mem i _ l h
      refine ⟨(c, s) :: l1, e, l2, rfl, he.imp id fun ⟨h1, h2, h3, h4⟩ => ⟨h1, h2, ?_, ?_⟩⟩
      · exact (Bool.and_eq_true _ _ ▸ h3).1
      · intro x hx
        rcases List.mem_cons.1 hx with rfl | hx
        · exact of_decide_eq_true (Bool.and_eq_true _ _ ▸ h3).2
        · exact h4 x hx
theorem lv_le (s : Stt) : s.lv ≤ 2 := by cases s <;> simp [Stt.lv]
theorem lv_two {s : Stt} (h : s.lv = 2) : ∃ g h cap, s = .n2 g h cap := by cases s <;> simp [Stt.lv] at h; exact ⟨_, _, _, rfl⟩

/-- The operations of a chain, as the region has them. -/
structure Ch.fits (c : Ch) (os : Array Oper) (a : Act) : Prop where
  box : ∃ o, os[c.bi]? = some o ∧ o.guard = none ∧ o.op = .buildSlice 37 1 #[(0, c.x)] ∧ o.dst = some c.bd
  app : ∃ o, os[c.ai]? = some o ∧ o.guard = none ∧ o.op = .call { callee := .builtin .append, args := #[c.s, .tmp c.bd], argTypes := #[37, 37] } ∧ o.dst = some c.ad
  ev : a.eval c.s = c.v
  ex : a.eval c.x = .int .i64 c.y
  small : c.xs.length ≤ 1000
  lt : c.bd < a.tmps.size
/-- Operands that no chain writes. -/
def offAll (x : Operand) (l : List Ch) : Bool :=
  match x with
  | .tmp t => l.all fun c => decide (t ≠ c.bd) && decide (t ≠ c.ad)
  | _ => true
theorem offAll_spec {x : Operand} {l : List Ch} (h : offAll x l = true) : ∀ c ∈ l, x ≠ .tmp c.bd ∧ x ≠ .tmp c.ad := fun c hc => by
  cases x with
  | tmp t =>
    have := List.all_eq_true.1 h c hc
    simpa using this
  | _ => exact ⟨(fun e => by cases e), (fun e => by cases e)⟩
structure Par (B : Nat) (w0 : World) (KB : List (Nat × Array Value × TypeId)) (VR : List (Value × List Value)) (l : List (Ch × Stt)) (W : World) : Prop where
  ex : ∃ KB', (∀ e ∈ KB, e ∈ KB') ∧ (∀ c g, (c, Stt.n1 g) ∈ l → (g, #[.int .i64 c.y], 3) ∈ KB') ∧ Own B w0 KB' (l.map (fun e => e.1.ent e.2) ++ VR) W
def lvSum : List (Ch × Stt) → Nat
  | [] => 0
  | e :: l => e.2.lv + lvSum l
theorem lvSum_append : ∀ l1 l2, lvSum (l1 ++ l2) = lvSum l1 + lvSum l2
  | [], l2 => by simp [lvSum]
  | e :: l1, l2 => by simp only [List.cons_append, lvSum, lvSum_append l1 l2]; omega
theorem lvSum_le : ∀ l : List (Ch × Stt), lvSum l ≤ 2 * l.length
  | [] => by simp [lvSum]
  | e :: l => by have := lvSum_le l; have := lv_le e.2; simp only [lvSum, List.length_cons]; omega
theorem lvSum_all : ∀ l : List (Ch × Stt), (l.map fun e => e.2.lv).all (fun k => decide (k = 2)) = true → lvSum l = 2 * l.length
  | [], _ => by simp [lvSum]
  | e :: l, h => by
    simp only [List.map_cons, List.all_cons, Bool.and_eq_true, decide_eq_true_eq] at h
    have := lvSum_all l h.2
    simp only [lvSum, List.length_cons]
    omega

section
variable {B : Nat} {w0 : World} {KB : List (Nat × Array Value × TypeId)} {VR : List (Value × List Value)} {ops : Array Oper} {Q : Exit → Act → World → Prop} {md : Region.Mode} {S : World → Prop}
theorem chains_go {cs : List Ch} {m0 : Array Bool} {a0 : Act} (hsl : slotsOk cs = true) (hrd : rdyOk md ops m0 cs = true) (hoff : cs.all (fun c => offAll c.s cs && offAll c.x cs) = true) (hops : ∀ c ∈ cs, c.fits ops a0)
    (hS : ∀ KB' VS' W, (∀ e ∈ KB, e ∈ KB') → Own B w0 KB' VS' W → S W) {fuel : Nat}
    (hK : ∀ (l : List (Ch × Stt)) W, l.map Prod.fst = cs → lvSum l = 2 * cs.length → Own B w0 KB (l.map (fun e => e.1.ent e.2) ++ VR) W → S W → wpAnyH Try.prog md ops Q S fuel (markAll l m0) (putAll l a0) W) :
    ∀ (k : Nat) (l : List (Ch × Stt)) (W : World), l.map Prod.fst = cs → monoL (l.map fun e => e.2.lv) = true → lvSum l + k = 2 * cs.length → Par B w0 KB VR l W → wpAnyH Try.prog md ops Q S (fuel + k) (markAll l m0) (putAll l a0) W
  | 0, l, W, hl, _, hk, h => by
    obtain ⟨KB', h1, _, h3⟩ := h.ex
    exact hK l W hl hk (h3.sub h1) (hS KB' _ W h1 h3)
  | k + 1, l, W, hl, hmo, hk, h => by
    have hlen : l.length = cs.length := by rw [← hl, List.length_map]
    have hmem : (l.map fun e => e.2.lv) ∈ lvAll cs.length := by
      have := mem_lvAll (l.map fun e => e.2.lv) fun k hk => by
        obtain ⟨e, _, rfl⟩ := List.mem_map.1 hk
        exact lv_le _
      rwa [List.length_map, hlen] at this
    have hchk := List.all_eq_true.1 hrd _ hmem
    rw [← hl, ← markAll_L l m0, Bool.or_eq_true, Bool.or_eq_true, Bool.and_eq_true, hmo] at hchk
    obtain ⟨hc1, hc2⟩ : _ ∧ _ := hchk.resolve_left fun h => h.elim (fun h => by
      have := lvSum_all l h
      omega) (fun h => by cases h)
    have hne : Region.ready md ops (markAll l m0) ≠ [] := fun e => by
      rw [e] at hc2
      cases hc2
    refine wpAnyH_all rfl hne fun i hi => ?_
    have hr := List.all_eq_true.1 hc1 i hi
    obtain ⟨l1, ⟨c, s⟩, l2, rfl, hcs⟩ := rdyAt_mem i true l hr
    rw [List.map_append, List.map_cons] at hmo
    have hcm : c ∈ cs := by rw [← hl]; simp
    have ho := hops c hcm
    have hof := List.all_eq_true.1 hoff c hcm
    rw [Bool.and_eq_true] at hof
    have hmid := hsl
    rw [← hl, List.map_append, List.map_cons] at hmid
    obtain ⟨g1, g2, g3, g4, g5, g6, g7, g8⟩ := slotsOk_mid hmid
    obtain ⟨KB', k1, k2, k3⟩ := h.ex
    have hev : (putAll (l1 ++ (c, s) :: l2) a0).eval c.s = c.v := by rw [putAll_eval _ _ _ (by rw [hl]; exact offAll_spec hof.1)]; exact ho.ev
    have hex : (putAll (l1 ++ (c, s) :: l2) a0).eval c.x = .int .i64 c.y := by rw [putAll_eval _ _ _ (by rw [hl]; exact offAll_spec hof.2)]; exact ho.ex
    rcases hcs with ⟨hs, rfl⟩ | ⟨hs, rfl, -, hpre⟩
    · dsimp only at hs ⊢
      obtain rfl : s = .n0 := by cases s <;> simp [Stt.lv] at hs; rfl
      obtain ⟨o, o1, o2, o3, o4⟩ := ho.box
      refine wpOp_step o1 fun K' hK' => ?_
      refine step_box k3 o2 c.x o3 hex fun g w' h' => ?_
      rw [o4]
      have hp : (putAll (l1 ++ (c, Stt.n0) :: l2) a0).put (some c.bd) (slc g) = putAll (l1 ++ (c, .n1 g) :: l2) a0 := by
        rw [putAll_append, putAll_append]
        unfold putAll
        rw [← putAll_comm _ _ _ _ g3]
        rfl
      have hm : (markAll (l1 ++ (c, Stt.n0) :: l2) m0).setIfInBounds c.bi true = markAll (l1 ++ (c, .n1 g) :: l2) m0 := by
        rw [markAll_append, markAll_append]
        unfold markAll
        rw [← markAll_comm _ _ _ g5]
        rfl
      have hP : Par B w0 KB VR (l1 ++ (c, .n1 g) :: l2) w' := by
        refine ⟨⟨(g, #[.int .i64 c.y], 3) :: KB', fun e he => List.mem_cons_of_mem _ (k1 e he), fun c' g' hcg => ?_, ?_⟩⟩
        · rcases List.mem_append.1 hcg with hh | hh
          · exact List.mem_cons_of_mem _ (k2 c' g' (List.mem_append_left _ hh))
          · rcases List.mem_cons.1 hh with hh | hh
            · cases hh
              exact List.mem_cons_self
            · exact List.mem_cons_of_mem _ (k2 c' g' (List.mem_append_right _ (List.mem_cons_of_mem _ hh)))
        · have e : (l1 ++ (c, Stt.n1 g) :: l2).map (fun e => e.1.ent e.2) = (l1 ++ (c, Stt.n0) :: l2).map (fun e => e.1.ent e.2) := by
            simp [List.map_append, List.map_cons, Ch.ent]
          rw [e]
          exact h'
      rw [hp]
      refine hK' _ _ ⟨hS _ _ _ (fun e he => List.mem_cons_of_mem _ (k1 e he)) h', ?_⟩
      rw [hm]
      exact chains_go hsl hrd hoff hops hS hK k _ w' (by rw [← hl]; simp) (by rw [List.map_append, List.map_cons]; exact monoL_box _ _ hmo) (by rw [lvSum_append] at hk ⊢; simp only [lvSum, Stt.lv] at hk ⊢; omega) hP
    · dsimp only at hs ⊢
      obtain ⟨gb, rfl⟩ : ∃ gb, s = .n1 gb := by cases s <;> simp [Stt.lv] at hs; exact ⟨_, rfl⟩
      obtain ⟨o, o1, o2, o3, o4⟩ := ho.app
      refine wpOp_step o1 fun K' hK' => ?_
      have hi : (((l1 ++ (c, Stt.n1 gb) :: l2).map (fun e => e.1.ent e.2)) ++ VR)[l1.length]? = some (c.v, c.xs) := by
        rw [List.map_append, List.append_assoc, List.getElem?_append_right (by simp)]
        simp [Ch.ent]
      have hbx : (putAll (l1 ++ (c, Stt.n1 gb) :: l2) a0).eval (.tmp c.bd) = slc gb := by
        rw [putAll_append]
        unfold putAll
        rw [putAll_eval _ _ _ (fun e he => ⟨fun x => (g3 e he).1 (Operand.tmp.inj x).symm, fun x => (g3 e he).2 (Operand.tmp.inj x).symm⟩)]
        exact eval_put_same _ _ _ (by rw [putAll_size]; exact ho.lt)
      refine step_own k3 o2 c.s (.tmp c.bd) o3 l1.length hi hev hbx (k2 c gb (by simp)) rfl ho.small fun g cap w' h' => ?_
      rw [o4]
      have hset : (((l1 ++ (c, Stt.n1 gb) :: l2).map (fun e => e.1.ent e.2)) ++ VR).set l1.length (.slice (some ⟨g, 0, none⟩) (c.xs.length + 1) cap, c.xs ++ [.int .i64 c.y]) = ((l1 ++ (c, Stt.n2 gb g cap) :: l2).map (fun e => e.1.ent e.2)) ++ VR := by
        simp [List.map_append, List.map_cons, Ch.ent]
      rw [hset] at h'
      have hp : (putAll (l1 ++ (c, Stt.n1 gb) :: l2) a0).put (some c.ad) (.slice (some ⟨g, 0, none⟩) (c.xs.length + 1) cap) = putAll (l1 ++ (c, .n2 gb g cap) :: l2) a0 := by
        rw [putAll_append, putAll_append]
        unfold putAll
        rw [← putAll_comm _ _ _ _ g4]
        rfl
      have hm : (markAll (l1 ++ (c, Stt.n1 gb) :: l2) m0).setIfInBounds c.ai true = markAll (l1 ++ (c, .n2 gb g cap) :: l2) m0 := by
        rw [markAll_append, markAll_append]
        unfold markAll
        rw [← markAll_comm _ _ _ g6]
        rfl
      have hP : Par B w0 KB VR (l1 ++ (c, .n2 gb g cap) :: l2) w' := by
        refine ⟨⟨KB', k1, fun c' g' hcg => ?_, h'⟩⟩
        rcases List.mem_append.1 hcg with hh | hh
        · exact k2 c' g' (List.mem_append_left _ hh)
        · rcases List.mem_cons.1 hh with hh | hh
          · cases hh
          · exact k2 c' g' (List.mem_append_right _ (List.mem_cons_of_mem _ hh))
      rw [hp]
      refine hK' _ _ ⟨hS _ _ _ k1 h', ?_⟩
      rw [hm]
      exact chains_go hsl hrd hoff hops hS hK k _ w' (by rw [← hl]; simp) (by rw [List.map_append, List.map_cons]; exact monoL_app _ _ hpre hmo) (by rw [lvSum_append] at hk ⊢; simp only [lvSum, Stt.lv] at hk ⊢; omega) hP
/-- Three chains, from their beginnings to their ends. -/
theorem chains3 {c1 c2 c3 : Ch} {m0 : Array Bool} {a0 : Act} {W : World} {fuel : Nat} (hO : Own B w0 KB ((c1.v, c1.xs) :: (c2.v, c2.xs) :: (c3.v, c3.xs) :: VR) W)
    (hsl : slotsOk [c1, c2, c3] = true) (hrd : rdyOk md ops m0 [c1, c2, c3] = true) (hoff : [c1, c2, c3].all (fun c => offAll c.s [c1, c2, c3] && offAll c.x [c1, c2, c3]) = true)
    (h1 : c1.fits ops a0) (h2 : c2.fits ops a0) (h3 : c3.fits ops a0)
    (hS : ∀ KB' VS' W, (∀ e ∈ KB, e ∈ KB') → Own B w0 KB' VS' W → S W)
    (hK : ∀ b1 g1 p1 b2 g2 p2 b3 g3 p3 W, Own B w0 KB ((.slice (some ⟨g1, 0, none⟩) (c1.xs.length + 1) p1, c1.xs ++ [.int .i64 c1.y]) :: (.slice (some ⟨g2, 0, none⟩) (c2.xs.length + 1) p2, c2.xs ++ [.int .i64 c2.y]) :: (.slice (some ⟨g3, 0, none⟩) (c3.xs.length + 1) p3, c3.xs ++ [.int .i64 c3.y]) :: VR) W → S W →
      wpAnyH Try.prog md ops Q S fuel ((((((m0.setIfInBounds c1.bi true).setIfInBounds c1.ai true).setIfInBounds c2.bi true).setIfInBounds c2.ai true).setIfInBounds c3.bi true).setIfInBounds c3.ai true)
        ((((((a0.put (some c1.bd) (slc b1)).put (some c1.ad) (.slice (some ⟨g1, 0, none⟩) (c1.xs.length + 1) p1)).put (some c2.bd) (slc b2)).put (some c2.ad) (.slice (some ⟨g2, 0, none⟩) (c2.xs.length + 1) p2)).put (some c3.bd) (slc b3)).put (some c3.ad) (.slice (some ⟨g3, 0, none⟩) (c3.xs.length + 1) p3)) W) :
    wpAnyH Try.prog md ops Q S (fuel + 6) m0 a0 W := by
  have hall : ∀ c ∈ [c1, c2, c3], c.fits ops a0 := fun c hc => by
    simp only [List.mem_cons, List.mem_nil_iff, or_false] at hc
    rcases hc with rfl | rfl | rfl <;> assumption
  refine chains_go (KB := KB) (VR := VR) hsl hrd hoff hall hS (fuel := fuel) ?_ 6 [(c1, .n0), (c2, .n0), (c3, .n0)] W rfl rfl rfl ⟨KB, fun e he => he, fun c g h => ?_, hO⟩
  · intro l W hl hk hO hSW
    match l, hl, hk, hO with
    | [(_, s1), (_, s2), (_, s3)], hl, hk, hO =>
      simp only [List.map_cons, List.map_nil, List.cons.injEq, and_true] at hl
      obtain ⟨rfl, rfl, rfl⟩ := hl
      simp only [lvSum, List.length_cons, List.length_nil] at hk
      have e1 := lv_le s1
      have e2 := lv_le s2
      have e3 := lv_le s3
      have f1 : s1.lv = 2 := by omega
      have f2 : s2.lv = 2 := by omega
      have f3 : s3.lv = 2 := by omega
      obtain ⟨b1, g1, p1, rfl⟩ := lv_two f1
      obtain ⟨b2, g2, p2, rfl⟩ := lv_two f2
      obtain ⟨b3, g3, p3, rfl⟩ := lv_two f3
      exact hK b1 g1 p1 b2 g2 p2 b3 g3 p3 W hO hSW
  · simp at h
end
end Go.Proofs.Ytbpeamppkdmdcaa
