/-
  What is taken of a line of irons.
-/
import Derived.Test.YtclbmlmlhiiaeaaGreatDoorY2
namespace Go.Proofs.YtclbmlmlhiiaeaaGreatDoor
open Go.RowKit Go.Shelf

/-- Rows within a row, one for each. -/
def Nest {α : Type} (P : Value → α → Prop) : List Value → List α → Prop
  | [], [] => True
  | y :: ys, a :: l => P y a ∧ Nest P ys l
  | _, _ => False
section
variable {α : Type} {P Q : Value → α → Prop}
theorem Nest.imp : ∀ {_ys : List Value} {_l : List α}, Nest P _ys _l → (∀ y a, y ∈ _ys → P y a → Q y a) → Nest Q _ys _l
  | [], [], _, _ => trivial
  | y :: _, a :: _, h, f => ⟨f y a (List.mem_cons_self ..) h.1, Nest.imp h.2 fun y a hy => f y a (List.mem_cons_of_mem _ hy)⟩
  | [], _ :: _, h, _ => h.elim
  | _ :: _, [], h, _ => h.elim
theorem Nest.snoc : ∀ {ys : List Value} {l : List α} {y : Value} {a : α}, Nest P ys l → P y a → Nest P (ys ++ [y]) (l ++ [a])
  | [], [], _, _, _, h => ⟨h, trivial⟩
  | _ :: _, _ :: _, _, _, h, h' => ⟨h.1, Nest.snoc h.2 h'⟩
  | [], _ :: _, _, _, h, _ => h.elim
  | _ :: _, [], _, _, h, _ => h.elim
theorem Nest.get : ∀ {ys : List Value} {l : List α} (d : α), Nest P ys l → ∀ i, i < l.length → P (ys.getD i undef) (l.getD i d) ∧ ys[i]? = some (ys.getD i undef) ∧ ys.getD i undef ∈ ys
  | [], [], _, _, i, hi => by cases hi
  | y :: ys, a :: l, d, h, 0, _ => ⟨h.1, rfl, List.mem_cons_self ..⟩
  | y :: ys, a :: l, d, h, i + 1, hi => by
    have := Nest.get d h.2 i (by simpa using hi)
    simp only [List.getD_cons_succ, List.getElem?_cons_succ]
    exact ⟨this.1, this.2.1, List.mem_cons_of_mem _ this.2.2⟩
  | [], _ :: _, _, h, _, _ => h.elim
theorem Nest.mem : ∀ {ys : List Value} {l : List α}, Nest P ys l → ∀ y, y ∈ ys → ∃ a, P y a
  | [], _, _, y, hy => by cases hy
  | y :: ys, a :: l, h, z, hz => by
    rcases List.mem_cons.1 hz with rfl | hz
    · exact ⟨a, h.1⟩
    · exact Nest.mem h.2 z hz
  | _ :: _, [], h, _, _ => h.elim
end
structure IrR where
  f : Int
  own : List (List Int)
  most : List Int
  str : List (List (Int × Int × Int))
  cl : List (Int × Int × Bool)
def claimVs (l : List (Int × Int × Bool)) : List Value := l.flatMap fun c => [.int .i64 c.1, .int .i64 c.2.1, .bool c.2.2]
theorem claimVs_snoc (l : List (Int × Int × Bool)) (c : Int × Int × Bool) : claimVs (l ++ [c]) = claimVs l ++ [.int .i64 c.1, .int .i64 c.2.1, .bool c.2.2] := by
  unfold claimVs
  rw [List.flatMap_append]
  rfl
/-- Where irons that are read lie: the blocks of their own are those of the rows and of the rows within. -/
structure IrLies (base pb : Nat) (x : IrR) (v1 v2 v3 v4 : Value) (ys zs : List Value) (W : World) : Prop where
  b : BoxAt W pb #[.int .i64 x.f, v1, v2, v3, v4] 34
  o : W.ownsRow base 26 1 v1 x.own.length ys
  m : W.ownsRow base 3 1 v2 x.most.length (intsV x.most)
  s : W.ownsRow base 85 1 v3 x.str.length zs
  c : W.ownsRow base 82 3 v4 x.cl.length (claimVs x.cl)
  oi : Nest (fun y l => W.ownsRow base 3 1 y l.length (intsV l) ∧ l.length ≤ 100000 ∧ ∀ g, y.ownBlock = some g → v2.ownBlock ≠ some g) ys x.own
  si : Nest (fun y l => W.ownsRow base 149 3 y l.length (markVs l) ∧ l.length ≤ 100000) zs x.str
def IrD (v1 v2 v3 v4 : Value) (ys zs : List Value) (g : Nat) : Prop := v1.ownBlock = some g ∨ v2.ownBlock = some g ∨ v3.ownBlock = some g ∨ v4.ownBlock = some g ∨ (∃ y, y ∈ ys ∧ y.ownBlock = some g) ∨ ∃ y, y ∈ zs ∧ y.ownBlock = some g
def IrAt (base pb : Nat) (D : Nat → Prop) (x : IrR) (W : World) : Prop := ∃ v1 v2 v3 v4 ys zs, IrLies base pb x v1 v2 v3 v4 ys zs W ∧ ∀ g, D g ↔ IrD v1 v2 v3 v4 ys zs g
def shapeI : Shape IrR where
  At := IrAt
  keep := by
    rintro base pb D x A B C ⟨v1, v2, v3, v4, ys, zs, h, hD⟩ hk hp hg
    refine ⟨v1, v2, v3, v4, ys, zs, ⟨hk.box h.b hp, hk.row h.o fun g e => hg g ((hD g).2 (.inl e)), hk.row h.m fun g e => hg g ((hD g).2 (.inr (.inl e))), hk.row h.s fun g e => hg g ((hD g).2 (.inr (.inr (.inl e)))), hk.row h.c fun g e => hg g ((hD g).2 (.inr (.inr (.inr (.inl e))))), h.oi.imp fun y l hy hh => ⟨hk.row hh.1 fun g e => hg g ((hD g).2 (.inr (.inr (.inr (.inr (.inl ⟨y, hy, e⟩)))))), hh.2⟩, h.si.imp fun y l hy hh => ⟨hk.row hh.1 fun g e => hg g ((hD g).2 (.inr (.inr (.inr (.inr (.inr ⟨y, hy, e⟩)))))), hh.2⟩⟩, hD⟩
  lt := by
    rintro base pb D x W g ⟨v1, v2, v3, v4, ys, zs, h, hD⟩ hg
    rcases (hD g).1 hg with e | e | e | e | ⟨y, hy, e⟩ | ⟨y, hy, e⟩
    · exact h.o.lt g e
    · exact h.m.lt g e
    · exact h.s.lt g e
    · exact h.c.lt g e
    · obtain ⟨l, hl⟩ := h.oi.mem y hy
      exact hl.1.lt g e
    · obtain ⟨l, hl⟩ := h.si.mem y hy
      exact hl.1.lt g e
  cells := by
    rintro base pb D x W l o ⟨v1, v2, v3, v4, ys, zs, h, hD⟩ hl hc hg
    rcases (hD l).1 hg with e | e | e | e | ⟨y, hy, e⟩ | ⟨y, hy, e⟩
    · exact row_cells h.o hl hc e
    · exact row_cells h.m hl hc e
    · exact row_cells h.s hl hc e
    · exact row_cells h.c hl hc e
    · obtain ⟨l', hl'⟩ := h.oi.mem y hy
      exact row_cells hl'.1 hl hc e
    · obtain ⟨l', hl'⟩ := h.si.mem y hy
      exact row_cells hl'.1 hl hc e
  old := by
    rintro base pb D x W ⟨v1, v2, v3, v4, ys, zs, h, hD⟩
    exact lt_of_heap h.b
  cnt := fun x => x.own.length + x.most.length + x.str.length + x.cl.length
/-- What is taken of a line of irons, by its kind. -/
def ironTake (k : Nat) (x : IrR) (t : List UInt8) : Option (IrR × List UInt8) :=
  if k = 0 then (numP t).map fun p => ({ x with f := p.1 }, p.2)
  else if k = 1 then (ownerR t).map fun p => ({ x with own := x.own ++ [p.1.2], most := x.most ++ [p.1.1] }, p.2)
  else if k = 2 then (strakeR t).map fun p => ({ x with str := x.str ++ [p.1] }, p.2)
  else (claimRd t).map fun p => ({ x with cl := x.cl ++ [p.1] }, p.2)
theorem intsP_len : ∀ (k : Nat) (t : List UInt8) (l : List Int) {l' : List Int} {r : List UInt8}, intsP k t l = some (l', r) → l'.length + r.length ≤ l.length + t.length
  | 0, t, l, l', r, h => by cases h; exact Nat.le_refl _
  | k + 1, t, l, l', r, h => by
    cases hp : Lib.hasPrefix t [32] with
    | false => rw [intsP_end _ _ _ hp] at h; cases h; exact Nat.le_refl _
    | true =>
      rw [intsP_step _ _ _ hp] at h
      cases hn : numP (t.drop 1) with
      | none => rw [hn] at h; cases h
      | some p =>
        obtain ⟨n, r1⟩ := p
        rw [hn] at h
        have h1 := numP_shorter hn
        have h2 := intsP_len k r1 _ h
        rw [List.length_drop] at h1
        rw [List.length_append, List.length_singleton] at h2
        omega
theorem ownerR_len {t r : List UInt8} {q : Int × List Int} (h : ownerR t = some (q, r)) : q.2.length + r.length < t.length := by
  unfold ownerR at h
  cases hn : numP t with
  | none => rw [hn] at h; cases h
  | some p =>
    obtain ⟨n, r1⟩ := p
    rw [hn] at h
    dsimp only at h
    have h1 := numP_shorter hn
    cases hi : intsP r1.length r1 [] with
    | none => rw [hi] at h; cases h
    | some p =>
      rw [hi] at h
      cases h
      have h2 := intsP_len _ _ _ hi
      simp only [List.length_nil] at h2
      dsimp only
      omega
theorem markR_len {t r : List UInt8} {q : Int × Int × Int} (h : markR t = some (q, r)) : r.length < t.length := by
  unfold markR at h
  cases hn : numP t with
  | none => rw [hn] at h; cases h
  | some p =>
    obtain ⟨n, r1⟩ := p
    rw [hn] at h
    dsimp only at h
    have h1 := numP_shorter hn
    split at h
    · cases hs : spanP (r1.drop 1) with
      | none => rw [hs] at h; cases h
      | some p =>
        obtain ⟨q', r2⟩ := p
        rw [hs] at h
        cases h
        have h2 := spanP_shorter hs
        rw [List.length_drop] at h2
        omega
    · cases h
theorem marksP_len : ∀ (k : Nat) (t : List UInt8) (l : List (Int × Int × Int)) {l' : List (Int × Int × Int)} {r : List UInt8}, marksP k t l = some (l', r) → l'.length + r.length ≤ l.length + t.length
  | 0, t, l, l', r, h => by cases h; exact Nat.le_refl _
  | k + 1, t, l, l', r, h => by
    cases hp : Lib.hasPrefix t [32] with
    | false => rw [marksP_end _ _ _ hp] at h; cases h; exact Nat.le_refl _
    | true =>
      rw [marksP_step _ _ _ hp] at h
      cases hn : markR (t.drop 1) with
      | none => rw [hn] at h; cases h
      | some p =>
        obtain ⟨n, r1⟩ := p
        rw [hn] at h
        have h1 := markR_len hn
        have h2 := marksP_len k r1 _ h
        rw [List.length_drop] at h1
        rw [List.length_append, List.length_singleton] at h2
        omega
theorem claimRd_len {t r : List UInt8} {q : Int × Int × Bool} (h : claimRd t = some (q, r)) : r.length < t.length := by
  unfold claimRd at h
  cases hn : numP t with
  | none => rw [hn] at h; cases h
  | some p =>
    obtain ⟨n, r1⟩ := p
    rw [hn] at h
    dsimp only at h
    have h1 := numP_shorter hn
    split at h
    · cases hs : numP (seesT (r1.drop 1) [33]) with
      | none => rw [hs] at h; cases h
      | some p =>
        obtain ⟨q', r2⟩ := p
        rw [hs] at h
        cases h
        have h2 := numP_shorter hs
        have h3 := seesT_le (r1.drop 1) [33]
        rw [List.length_drop] at h3
        omega
    · cases h
theorem ironTake_len {J : Nat} {x x' : IrR} {u r : List UInt8} (h : ironTake J x u = some (x', r)) : shapeI.cnt x' + r.length ≤ shapeI.cnt x + u.length + 1 := by
  show x'.own.length + x'.most.length + x'.str.length + x'.cl.length + _ ≤ x.own.length + x.most.length + x.str.length + x.cl.length + _ + 1
  unfold ironTake at h
  split at h
  · cases h1 : numP u with
    | none => rw [h1] at h; cases h
    | some p => rw [h1] at h; cases h; have := numP_shorter h1; dsimp only; omega
  · split at h
    · cases h1 : ownerR u with
      | none => rw [h1] at h; cases h
      | some p => rw [h1] at h; cases h; have := ownerR_len h1; dsimp only; simp only [List.length_append, List.length_cons, List.length_nil]; omega
    · split at h
      · cases h1 : strakeR u with
        | none => rw [h1] at h; cases h
        | some p => rw [h1] at h; cases h; have := marksP_len _ _ _ h1; simp only [List.length_nil] at this; dsimp only; simp only [List.length_append, List.length_cons, List.length_nil]; omega
      · cases h1 : claimRd u with
        | none => rw [h1] at h; cases h
        | some p => rw [h1] at h; cases h; have := claimRd_len h1; dsimp only; simp only [List.length_append, List.length_cons, List.length_nil]; omega
section
variable {rb pb fb base : Nat} {D : Nat → Prop} {x : IrR} {t : List UInt8} {w : World}
theorem take116_any (h : RdAt w rb t) (hx : shapeI.At base pb D x w) (hne : pb ≠ rb) (hrb : ¬ D rb) (hpb : ¬ D pb) (hl : t.length ≤ 2000) (hf : NumBox w fb) :
    Calls Tryz.prog 116 #[bp pb, bp rb, bp fb] w (TakePost shapeI rb pb base D (ironTake 0 x t) w) := by
  obtain ⟨v1, v2, v3, v4, ys, zs, hi, hD⟩ := hx
  refine (whose116_any rb pb fb _ _ _ _ _ t w h hi.b hf hne hl).mono ?_
  rintro e w' ⟨hk, hh⟩
  have hk' : Keep (fun k => k < w.heap.size ∧ k ≠ rb ∧ k ≠ pb) w w' := hk
  refine ⟨Keep.mono hk fun k hk => ⟨hk.1, hk.2.1, hk.2.2.1⟩, ?_⟩
  rw [show ironTake 0 x t = (numP t).map (fun p => (({ x with f := p.1 } : IrR), p.2)) from rfl]
  cases hr : numP t with
  | none => rw [hr] at hh; exact hh
  | some p =>
    obtain ⟨n, r⟩ := p
    rw [hr] at hh
    obtain ⟨he, hrd, hbx⟩ := hh
    have hg : ∀ g, D g → g ≠ rb ∧ g ≠ pb := fun g hg => ⟨fun e => hrb (e ▸ hg), fun e => hpb (e ▸ hg)⟩
    refine ⟨he, hrd, D, ⟨v1, v2, v3, v4, ys, zs, ⟨hbx, hk'.row hi.o fun g e => ⟨(hi.o.lt g e).2, hg g ((hD g).2 (.inl e))⟩, hk'.row hi.m fun g e => ⟨(hi.m.lt g e).2, hg g ((hD g).2 (.inr (.inl e)))⟩, hk'.row hi.s fun g e => ⟨(hi.s.lt g e).2, hg g ((hD g).2 (.inr (.inr (.inl e))))⟩, hk'.row hi.c fun g e => ⟨(hi.c.lt g e).2, hg g ((hD g).2 (.inr (.inr (.inr (.inl e)))))⟩, hi.oi.imp fun y l hy hh => ⟨hk'.row hh.1 fun g e => ⟨(hh.1.lt g e).2, hg g ((hD g).2 (.inr (.inr (.inr (.inr (.inl ⟨y, hy, e⟩))))))⟩, hh.2⟩, hi.si.imp fun y l hy hh => ⟨hk'.row hh.1 fun g e => ⟨(hh.1.lt g e).2, hg g ((hD g).2 (.inr (.inr (.inr (.inr (.inr ⟨y, hy, e⟩))))))⟩, hh.2⟩⟩, hD⟩, fun g hg => .inl hg⟩
theorem take117_any (h : RdAt w rb t) (hx : shapeI.At base pb D x w) (hne : pb ≠ rb) (hrb : ¬ D rb) (hpb : ¬ D pb) (hl : t.length ≤ 2000) (hf : NumBox w fb) (hfr : fb ≠ rb) (hfp : fb ≠ pb) (hfd : ¬ D fb) (hbase : base ≤ w.heap.size) (hc : shapeI.cnt x ≤ 100000) :
    Calls Tryz.prog 117 #[bp pb, bp rb, bp fb] w (TakePost shapeI rb pb base D (ironTake 1 x t) w) := by
  obtain ⟨v1, v2, v3, v4, ys, zs, hi, hD⟩ := hx
  have hc' : x.own.length + x.most.length + x.str.length + x.cl.length ≤ 100000 := hc
  refine (owner117_any rb pb fb base _ v3 v4 v1 v2 _ _ x.own.length x.most.length t w h ⟨hi.b, hf, hi.o, hi.m⟩ ⟨hne, hfr, hfp, fun e => hrb ((hD _).2 (.inl e)), fun e => hrb ((hD _).2 (.inr (.inl e))), fun e => hpb ((hD _).2 (.inl e)), fun e => hpb ((hD _).2 (.inr (.inl e))), fun e => hfd ((hD _).2 (.inl e)), fun e => hfd ((hD _).2 (.inr (.inl e)))⟩ hbase (by omega) (by omega) hl).mono ?_
  rintro e w' ⟨hk, hh⟩
  have hk' : Keep (fun k => k < w.heap.size ∧ k ≠ rb ∧ k ≠ pb ∧ v1.ownBlock ≠ some k ∧ v2.ownBlock ≠ some k) w w' := hk
  refine ⟨Keep.mono hk fun k hk => ⟨hk.1, hk.2.1, hk.2.2.1, fun e => hk.2.2.2 ((hD k).2 (.inl e)), fun e => hk.2.2.2 ((hD k).2 (.inr (.inl e)))⟩, ?_⟩
  rw [show ironTake 1 x t = (ownerR t).map (fun p => (({ x with own := x.own ++ [p.1.2], most := x.most ++ [p.1.1] } : IrR), p.2)) from rfl]
  cases hr : ownerR t with
  | none => rw [hr] at hh; exact hh
  | some p =>
    obtain ⟨⟨a, b⟩, r⟩ := p
    rw [hr] at hh
    obtain ⟨he, hrd, v1', v2', y, hbx, h1, h2, hy, ho1, ho2, hoy⟩ := hh
    have hlen := ownerR_len hr
    have hg : ∀ g, D g → g ≠ rb ∧ g ≠ pb := fun g hg => ⟨fun e => hrb (e ▸ hg), fun e => hpb (e ▸ hg)⟩
    refine ⟨he, hrd, IrD v1' v2' v3 v4 (ys ++ [y]) zs, ⟨v1', v2', v3, v4, ys ++ [y], zs, ⟨hbx, ?_, ?_, ?_, ?_, ?_, ?_⟩, fun g => Iff.rfl⟩, ?_⟩
    · rw [List.length_append]
      exact h1
    · rw [List.length_append, intsV, List.map_append]
      exact h2
    · exact hk'.row hi.s fun g e => ⟨(hi.s.lt g e).2, (hg g ((hD g).2 (.inr (.inr (.inl e))))).1, (hg g ((hD g).2 (.inr (.inr (.inl e))))).2, own_apart hi.s hi.o (by decide) g e, own_apart hi.s hi.m (by decide) g e⟩
    · exact hk'.row hi.c fun g e => ⟨(hi.c.lt g e).2, (hg g ((hD g).2 (.inr (.inr (.inr (.inl e)))))).1, (hg g ((hD g).2 (.inr (.inr (.inr (.inl e)))))).2, own_apart hi.c hi.o (by decide) g e, own_apart hi.c hi.m (by decide) g e⟩
    · refine Nest.snoc (hi.oi.imp fun z l hz hh => ⟨hk'.row hh.1 fun g e => ?_, hh.2.1, fun g e e2 => ?_⟩) ⟨hy, by dsimp only at hlen ⊢; omega, fun g e => (hoy g e).2⟩
      · have hgg := hg g ((hD g).2 (.inr (.inr (.inr (.inr (.inl ⟨z, hz, e⟩))))))
        exact ⟨(hh.1.lt g e).2, hgg.1, hgg.2, own_apart hh.1 hi.o (by decide) g e, hh.2.2 g e⟩
      · rcases ho2 g e2 with h | h
        · exact hh.2.2 g e h
        · have := (hh.1.lt g e).2
          omega
    · refine hi.si.imp fun z l hz hh => ⟨hk'.row hh.1 fun g e => ?_, hh.2⟩
      have hgg := hg g ((hD g).2 (.inr (.inr (.inr (.inr (.inr ⟨z, hz, e⟩))))))
      exact ⟨(hh.1.lt g e).2, hgg.1, hgg.2, own_apart hh.1 hi.o (by decide) g e, own_apart hh.1 hi.m (by decide) g e⟩
    · intro g hd
      rcases hd with e | e | e | e | ⟨z, hz, e⟩ | e
      · rcases ho1 g e with h | h
        · exact .inl ((hD g).2 (.inl h))
        · exact .inr h
      · rcases ho2 g e with h | h
        · exact .inl ((hD g).2 (.inr (.inl h)))
        · exact .inr h
      · exact .inl ((hD g).2 (.inr (.inr (.inl e))))
      · exact .inl ((hD g).2 (.inr (.inr (.inr (.inl e)))))
      · rcases List.mem_append.1 hz with hz | hz
        · exact .inl ((hD g).2 (.inr (.inr (.inr (.inr (.inl ⟨z, hz, e⟩))))))
        · rw [List.mem_singleton] at hz
          subst hz
          exact .inr (hoy g e).1
      · exact .inl ((hD g).2 (.inr (.inr (.inr (.inr (.inr e))))))
theorem take118_any (h : RdAt w rb t) (hx : shapeI.At base pb D x w) (hne : pb ≠ rb) (hrb : ¬ D rb) (hpb : ¬ D pb) (hl : t.length ≤ 2000) (hf : NumBox w fb) (hfr : fb ≠ rb) (hfp : fb ≠ pb) (hfd : ¬ D fb) (hbase : base ≤ w.heap.size) (hc : shapeI.cnt x ≤ 100000) :
    Calls Tryz.prog 118 #[bp pb, bp rb, bp fb] w (TakePost shapeI rb pb base D (ironTake 2 x t) w) := by
  obtain ⟨v1, v2, v3, v4, ys, zs, hi, hD⟩ := hx
  have hc' : x.own.length + x.most.length + x.str.length + x.cl.length ≤ 100000 := hc
  refine (strake118_any rb pb fb base _ v1 v2 v3 v4 _ x.str.length t w h ⟨hi.b, hf, hi.s⟩ ⟨hne, hfr, hfp, fun e => hrb ((hD _).2 (.inr (.inr (.inl e)))), fun e => hpb ((hD _).2 (.inr (.inr (.inl e)))), fun e => hfd ((hD _).2 (.inr (.inr (.inl e))))⟩ hbase (by omega) hl).mono ?_
  rintro e w' ⟨hk, hh⟩
  have hk' : Keep (fun k => k < w.heap.size ∧ k ≠ rb ∧ k ≠ pb ∧ v3.ownBlock ≠ some k) w w' := hk
  refine ⟨Keep.mono hk fun k hk => ⟨hk.1, hk.2.1, hk.2.2.1, fun e => hk.2.2.2 ((hD k).2 (.inr (.inr (.inl e))))⟩, ?_⟩
  rw [show ironTake 2 x t = (strakeR t).map (fun p => (({ x with str := x.str ++ [p.1] } : IrR), p.2)) from rfl]
  cases hr : strakeR t with
  | none => rw [hr] at hh; exact hh
  | some p =>
    obtain ⟨l, r⟩ := p
    rw [hr] at hh
    obtain ⟨he, hrd, v3', y, hbx, h3, hy, ho3, hoy⟩ := hh
    have hlen := marksP_len _ _ _ hr
    simp only [List.length_nil] at hlen
    have hg : ∀ g, D g → g ≠ rb ∧ g ≠ pb := fun g hg => ⟨fun e => hrb (e ▸ hg), fun e => hpb (e ▸ hg)⟩
    refine ⟨he, hrd, IrD v1 v2 v3' v4 ys (zs ++ [y]), ⟨v1, v2, v3', v4, ys, zs ++ [y], ⟨hbx, ?_, ?_, ?_, ?_, ?_, ?_⟩, fun g => Iff.rfl⟩, ?_⟩
    · exact hk'.row hi.o fun g e => ⟨(hi.o.lt g e).2, (hg g ((hD g).2 (.inl e))).1, (hg g ((hD g).2 (.inl e))).2, own_apart hi.o hi.s (by decide) g e⟩
    · exact hk'.row hi.m fun g e => ⟨(hi.m.lt g e).2, (hg g ((hD g).2 (.inr (.inl e)))).1, (hg g ((hD g).2 (.inr (.inl e)))).2, own_apart hi.m hi.s (by decide) g e⟩
    · rw [List.length_append]
      exact h3
    · exact hk'.row hi.c fun g e => ⟨(hi.c.lt g e).2, (hg g ((hD g).2 (.inr (.inr (.inr (.inl e)))))).1, (hg g ((hD g).2 (.inr (.inr (.inr (.inl e)))))).2, own_apart hi.c hi.s (by decide) g e⟩
    · refine hi.oi.imp fun z l hz hh => ⟨hk'.row hh.1 fun g e => ?_, hh.2⟩
      have hgg := hg g ((hD g).2 (.inr (.inr (.inr (.inr (.inl ⟨z, hz, e⟩))))))
      exact ⟨(hh.1.lt g e).2, hgg.1, hgg.2, own_apart hh.1 hi.s (by decide) g e⟩
    · refine Nest.snoc (hi.si.imp fun z l hz hh => ⟨hk'.row hh.1 fun g e => ?_, hh.2⟩) ⟨hy, by dsimp only; omega⟩
      have hgg := hg g ((hD g).2 (.inr (.inr (.inr (.inr (.inr ⟨z, hz, e⟩))))))
      exact ⟨(hh.1.lt g e).2, hgg.1, hgg.2, own_apart hh.1 hi.s (by decide) g e⟩
    · intro g hd
      rcases hd with e | e | e | e | e | ⟨z, hz, e⟩
      · exact .inl ((hD g).2 (.inl e))
      · exact .inl ((hD g).2 (.inr (.inl e)))
      · rcases ho3 g e with h | h
        · exact .inl ((hD g).2 (.inr (.inr (.inl h))))
        · exact .inr h
      · exact .inl ((hD g).2 (.inr (.inr (.inr (.inl e)))))
      · exact .inl ((hD g).2 (.inr (.inr (.inr (.inr (.inl e))))))
      · rcases List.mem_append.1 hz with hz | hz
        · exact .inl ((hD g).2 (.inr (.inr (.inr (.inr (.inr ⟨z, hz, e⟩))))))
        · rw [List.mem_singleton] at hz
          subst hz
          exact .inr (hoy g e)
theorem take119_any (h : RdAt w rb t) (hx : shapeI.At base pb D x w) (hne : pb ≠ rb) (hrb : ¬ D rb) (hpb : ¬ D pb) (hl : t.length ≤ 2000) (hf : NumBox w fb) (hfr : fb ≠ rb) (hbase : base ≤ w.heap.size) (hc : shapeI.cnt x ≤ 100000) :
    Calls Tryz.prog 119 #[bp pb, bp rb, bp fb] w (TakePost shapeI rb pb base D (ironTake 3 x t) w) := by
  obtain ⟨v1, v2, v3, v4, ys, zs, hi, hD⟩ := hx
  have hc' : x.own.length + x.most.length + x.str.length + x.cl.length ≤ 100000 := hc
  refine (claim119_any rb pb fb base _ _ _ _ v4 _ x.cl.length t w h hi.b hf hfr hne (fun e => hrb ((hD _).2 (.inr (.inr (.inr (.inl e)))))) (fun e => hpb ((hD _).2 (.inr (.inr (.inr (.inl e)))))) hbase hi.c (by omega) hl).mono ?_
  rintro e w' ⟨hk, hh⟩
  have hk' : Keep (fun k => k < w.heap.size ∧ k ≠ rb ∧ k ≠ pb ∧ v4.ownBlock ≠ some k) w w' := hk
  refine ⟨Keep.mono hk fun k hk => ⟨hk.1, hk.2.1, hk.2.2.1, fun e => hk.2.2.2 ((hD k).2 (.inr (.inr (.inr (.inl e)))))⟩, ?_⟩
  rw [show ironTake 3 x t = (claimRd t).map (fun p => (({ x with cl := x.cl ++ [p.1] } : IrR), p.2)) from rfl]
  cases hr : claimRd t with
  | none => rw [hr] at hh; exact hh
  | some p =>
    obtain ⟨⟨a, b, c⟩, r⟩ := p
    rw [hr] at hh
    obtain ⟨he, hrd, v4', hbx, h4, ho4⟩ := hh
    have hg : ∀ g, D g → g ≠ rb ∧ g ≠ pb := fun g hg => ⟨fun e => hrb (e ▸ hg), fun e => hpb (e ▸ hg)⟩
    refine ⟨he, hrd, IrD v1 v2 v3 v4' ys zs, ⟨v1, v2, v3, v4', ys, zs, ⟨hbx, ?_, ?_, ?_, ?_, ?_, ?_⟩, fun g => Iff.rfl⟩, ?_⟩
    · exact hk'.row hi.o fun g e => ⟨(hi.o.lt g e).2, (hg g ((hD g).2 (.inl e))).1, (hg g ((hD g).2 (.inl e))).2, own_apart hi.o hi.c (by decide) g e⟩
    · exact hk'.row hi.m fun g e => ⟨(hi.m.lt g e).2, (hg g ((hD g).2 (.inr (.inl e)))).1, (hg g ((hD g).2 (.inr (.inl e)))).2, own_apart hi.m hi.c (by decide) g e⟩
    · exact hk'.row hi.s fun g e => ⟨(hi.s.lt g e).2, (hg g ((hD g).2 (.inr (.inr (.inl e))))).1, (hg g ((hD g).2 (.inr (.inr (.inl e))))).2, own_apart hi.s hi.c (by decide) g e⟩
    · dsimp only
      rw [List.length_append, claimVs_snoc]
      exact h4
    · refine hi.oi.imp fun z l hz hh => ⟨hk'.row hh.1 fun g e => ?_, hh.2⟩
      have hgg := hg g ((hD g).2 (.inr (.inr (.inr (.inr (.inl ⟨z, hz, e⟩))))))
      exact ⟨(hh.1.lt g e).2, hgg.1, hgg.2, own_apart hh.1 hi.c (by decide) g e⟩
    · refine hi.si.imp fun z l hz hh => ⟨hk'.row hh.1 fun g e => ?_, hh.2⟩
      have hgg := hg g ((hD g).2 (.inr (.inr (.inr (.inr (.inr ⟨z, hz, e⟩))))))
      exact ⟨(hh.1.lt g e).2, hgg.1, hgg.2, own_apart hh.1 hi.c (by decide) g e⟩
    · intro g hd
      rcases hd with e | e | e | e | e | e
      · exact .inl ((hD g).2 (.inl e))
      · exact .inl ((hD g).2 (.inr (.inl e)))
      · exact .inl ((hD g).2 (.inr (.inr (.inl e))))
      · rcases ho4 g e with h | h
        · exact .inl ((hD g).2 (.inr (.inr (.inr (.inl h)))))
        · exact .inr h
      · exact .inl ((hD g).2 (.inr (.inr (.inr (.inr (.inl e))))))
      · exact .inl ((hD g).2 (.inr (.inr (.inr (.inr (.inr e))))))
end
end Go.Proofs.YtclbmlmlhiiaeaaGreatDoor
