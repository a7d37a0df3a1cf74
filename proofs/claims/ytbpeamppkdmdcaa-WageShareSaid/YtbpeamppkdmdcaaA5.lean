/-
  Walks: how well it is known what is due to a crew, at worst, if a ticket is known.
-/
import Derived.Test.YtbpeamppkdmdcaaA3
import Derived.Test.YtbpeamppkdmdcaaA4
namespace Go.Proofs.Ytbpeamppkdmdcaa
open Go.RowKit Go.Shelf

attribute [local go_sem] Oper.semAt_some

/-- How well it is known what is due to a crew. -/
def spreadOf (S : Nat → Sm) (T : Nat → Tk) (sn tn : Nat) (c : Int) : Int := coinsOf S T (mostK c T) sn tn c - coinsOf S T (leastK c T) sn tn c
/-- .. at worst, of some of what a ticket can be. -/
def worst (S : Nat → Sm) (T : Nat → Tk) (sn tn : Nat) (c : Int) (n : Nat) (l : List Kn) : Int := l.foldl (fun m k => max m (spreadOf S (updT T n ((T n).exact k)) sn tn c)) 0
theorem worst_snoc (S : Nat → Sm) (T : Nat → Tk) (sn tn : Nat) (c : Int) (n : Nat) (l : List Kn) (k : Kn) :
    worst S T sn tn c n (l ++ [k]) = max (worst S T sn tn c n l) (spreadOf S (updT T n ((T n).exact k)) sn tn c) := by simp [worst]
def wideOf (S : Nat → Sm) (T : Nat → Tk) (sn tn : Nat) (c : Int) (n : Nat) : Int := worst S T sn tn c n (canL (T n))

/-- Between two rounds: the number, how wide it is so far. -/
structure AskI (S : Nat → Sm) (T : Nat → Tk) (w : World) (sn tn : Nat) (c : Int) (n : Nat) (pre : List (KIn (T n))) (W : World) : Prop where
  x : BoxAt W w.heap.size #[.int .i64 n] 3
  wide : BoxAt W (w.heap.size + 1) #[.int .i64 (worst S T sn tn c n (pre.map (·.1)))] 3
  bel : Below w.heap.size w W
  lt : w.heap.size + 2 < W.heap.size
theorem own_box {A B : World} {b : Nat} {xs : Array Value} {t : TypeId} {row : Option Nat} {n : Nat} (h : BoxAt A b xs t) (hg : A.grownBy B row) (hr : ∀ r, row = some r → n ≤ r ∧ ∃ o : Obj, A.heap[r]? = some o ∧ o.isCells = false) : BoxAt B b xs t :=
  h.kept hg (fun e => by
    obtain ⟨_, o, ho, hc⟩ := hr b e.symm
    have h' : A.heap[b]? = some (.cells xs t (0, 0)) := h
    rw [h'] at ho
    cases ho
    cases hc)
theorem AskI.grow {S : Nat → Sm} {T : Nat → Tk} {w : World} {sn tn : Nat} {c : Int} {n : Nat} {pre : List (KIn (T n))} {W W' : World} (h : AskI S T w sn tn c n pre W) (hb : Below W.heap.size W W') : AskI S T w sn tn c n pre W' :=
  ⟨h.x.grow hb, h.wide.grow hb, h.bel.trans (hb.mono h.bel.size), Nat.lt_of_lt_of_le h.lt hb.size⟩
theorem AskI.own {S : Nat → Sm} {T : Nat → Tk} {w : World} {sn tn : Nat} {c : Int} {n : Nat} (B : Nat) (hB : w.heap.size ≤ B) : OwnFrom B (fun (pre : List (KIn (T n))) W => AskI S T w sn tn c n pre W) := fun _ _ _ _ hs hg hr =>
  ⟨own_box hs.x hg hr, own_box hs.wide hg hr, hs.bel.grown hg hs.bel.size (fun k e => Nat.le_trans hB (hr k e).1), Nat.lt_of_lt_of_le hs.lt hg.size⟩

theorem Valid.fix {cr : Int} {sn tn : Nat} {S : Nat → Sm} {T : Nat → Tk} (h : Valid cr sn tn S T) {n : Nat} (hn : n < tn) {k : Kn} (hk : InT (T n) k) : Valid cr sn tn S (updT T n ((T n).exact k)) := by
  have e1 : ∀ i, (updT T n ((T n).exact k) i).crew = (T i).crew ∧ (updT T n ((T n).exact k) i).seam = (T i).seam := fun i => by
    unfold updT
    split
    · rename_i e; subst e; exact ⟨rfl, rfl⟩
    · exact ⟨rfl, rfl⟩
  have hk' := hk
  unfold InT at hk'
  have h1 := spanB_iff.1 (h.td n hn)
  have h2 := spanB_iff.1 (h.fr n hn)
  have h3 := spanB_iff.1 (h.to n hn)
  refine ⟨h.cr0, h.cr1, h.sn3, h.tn6, h.fat, h.rate, fun i hi => ?_, fun i hi => ?_, fun i hi => ?_, fun i hi => ?_⟩
  · rw [(e1 i).1, (e1 i).2]; exact h.tk i hi
  · by_cases e : i = n
    · subst e; simp only [updT, if_true, Tk.exact]; exact spanB_iff.2 (by omega)
    · simp only [updT, if_neg e]; exact h.td i hi
  · rw [(e1 i).2]
    by_cases e : i = n
    · subst e; simp only [updT, if_true, Tk.exact]; exact spanB_iff.2 (by omega)
    · simp only [updT, if_neg e]; exact h.fr i hi
  · rw [(e1 i).2]
    by_cases e : i = n
    · subst e; simp only [updT, if_true, Tk.exact]; exact spanB_iff.2 (by omega)
    · simp only [updT, if_neg e]; exact h.to i hi

/-- What the region reads: all but the tickets that are written. -/
structure A5S (w : World) (s bw Bx : Nat) (sa ta : Option Addr) (sn sc tn tc : Nat) (cr fr to td : Int) (T : Nat → Tk) (n : Nat) (W' : World) : Prop where
  own : BoxAt W' s #[.int .i64 cr, .slice sa sn sc, .slice (some ⟨s + 1, 0, none⟩) tn tn] 77
  num : BoxAt W' w.heap.size #[.int .i64 n] 3
  kn : BoxAt W' Bx #[.int .i64 fr, .int .i64 to, .int .i64 td] 93
  wag : BoxAt W' bw #[.int .i64 cr, .slice sa sn sc, .slice ta tn tc] 77
  tkt : TicketsAt W' ta tn T
  lt : w.heap.size < s ∧ bw < s ∧ Bx < s
structure A5R (w : World) (s bw Bx : Nat) (sa ta : Option Addr) (sn sc tn tc : Nat) (cr fr to td : Int) (T : Nat → Tk) (n : Nat) (W' : World) : Prop extends A5S w s bw Bx sa ta sn sc tn tc cr fr to td T n W' where
  row : BoxAt W' (s + 1) (tkVals T tn).toArray 58
section
variable {w : World} {s bw Bx : Nat} {sa ta : Option Addr} {sn sc tn tc : Nat} {cr fr to td : Int} {T : Nat → Tk} {n : Nat} {W1 W2 : World}
theorem A5S.far (h : A5S w s bw Bx sa ta sn sc tn tc cr fr to td T n W1) (p : Addr) (v : Value) (hp : p.block = s + 1) (ht : blk ta < s) : A5S w s bw Bx sa ta sn sc tn tc cr fr to td T n (W1.setCell p v) := by
  have := h.lt
  exact ⟨h.own.set _ _ (by omega), h.num.set _ _ (by omega), h.kn.set _ _ (by omega), h.wag.set _ _ (by omega), ⟨h.tkt.plain, fun hn => by rw [size_setCell]; exact h.tkt.old hn, h.tkt.small, fun i hi j hj => (World.cell?_setCell_other _ _ _ _ (fun e => by have e' := congrArg Addr.block e; dsimp only at e'; omega)).trans (h.tkt.cells i hi j hj)⟩, h.lt⟩
theorem A5R.grow (h : A5R w s bw Bx sa ta sn sc tn tc cr fr to td T n W1) (hb : Below W1.heap.size W1 W2) : A5R w s bw Bx sa ta sn sc tn tc cr fr to td T n W2 :=
  ⟨⟨h.own.grow hb, h.num.grow hb, h.kn.grow hb, h.wag.grow hb, h.tkt.grow hb, h.lt⟩, h.row.grow hb⟩
end

theorem own_made {w : World} {base g n : Nat} {xs : List Value} (h : w.ownsRow base 58 8 (.slice (some ⟨g, 0, none⟩) n n) n xs) : ∃ cur, BoxAt w g cur 58 ∧ cur.size = n * 8 := by
  rcases h.2 with ⟨h', _⟩ | ⟨g', cap, cur, h', hb, hg, hle, hm, hs, ht⟩
  · cases h'
  · cases h'
    exact ⟨cur, hg, hs⟩
theorem A5end {S : Nat → Sm} {T : Nat → Tk} {w : World} {sn tn : Nat} {c : Int} {n : Nat} {pre : List (KIn (T n))} {W W9 : World} {k : KIn (T n)} {B : Nat} {a : Act} {x : Int} (hb : Below W.heap.size W W9) (J : AskI S T w sn tn c n pre W9)
    (hx : x = max (worst S T sn tn c n (pre.map (·.1))) (spreadOf S (updT T n ((T n).exact k.1)) sn tn c)) (hlt : w.heap.size + 2 < W.heap.size) :
    ownPostG B (Same (w.heap.size + 1 + 1)) (fun pre W => AskI S T w sn tn c n pre W) (fun _ _ _ => False) (pre ++ [k]) W .normal a (W9.setCell ⟨w.heap.size + 1, 0, none⟩ (.int .i64 x)) := by
  refine ⟨KeepsFrom.trans ⟨hb.size, fun i o _ hi _ => (hb.block i (Array.getElem?_eq_some_iff.1 hi).1).trans hi⟩ ((KeepsOthers.setCell _ _ _).from _), Same.then (Same.of_below hb (by omega)) (Below.heap_setCell _ _ _ _ (by dsimp only; omega)), ?_⟩
  refine ⟨J.x.set _ _ (by dsimp only; omega), ?_, J.bel.setCell (by dsimp only; omega) _, by rw [size_setCell]; exact J.lt⟩
  have := BoxAt.store J.wide 0 (.int .i64 x)
  rw [List.map_append, List.map_cons, List.map_nil, worst_snoc, ← hx]
  exact this
theorem info58 : (Try.prog.info? 58).map (fun i => (i.zero, i.size, i.bytes)) = some (some (.agg #[.int .i64 0, .int .i64 0, .int .i64 0, .int .i64 0, .int .i64 0, .int .i64 0, .int .i64 0, .int .i64 0]), 8, 64) := by kernel_rfl

set_option maxRecDepth 100000 in
set_option maxHeartbeats 4000000 in
theorem ask2_any (cr : Int) (sa ta : Option Addr) (sn sc tn tc : Nat) (S : Nat → Sm) (T : Nat → Tk) (w : World) (hS : SeamsAt w sa sn S) (hT : TicketsAt w ta tn T) (hv : Valid cr sn tn S T) (c : Int) (c0 : 0 ≤ c) (c1 : c ≤ 3)
    (bw bc n : Nat) (hn : n < tn) (xw : BoxAt w bw #[.int .i64 cr, .slice sa sn sc, .slice ta tn tc] 77) (xc : BoxAt w bc #[.int .i64 c] 3) :
    Calls Try.prog 79 #[.int .i64 n, bp bw, bp bc] w fun e w' => e = .returned (.int .i64 (wideOf S T sn tn c n)) ∧ Below w.heap.size w w' := by
  have hi := fun w => run_indexAt_row (w := w) (cap := tc) Try.underlying23 size8 (hT.plain (by omega)) hn
  have HS := Lib.hid hS
  have HT := Lib.hid hT
  have HV := Lib.hid hv
  have lw := lt_of_heap xw
  have lc := lt_of_heap xc
  obtain ⟨k0, k1, k2, k3, k4, k5, k6, k7⟩ := hT.at hn
  have w2 := cellAt xw 2
  simp only [List.getElem?_toArray, List.getElem?_cons_zero, List.getElem?_cons_succ] at w2
  have HXW := Lib.hid xw
  have HXC := Lib.hid xc
  have lt := hT.old (by omega)
  clear hS hT hv xw xc
  refine (callsIn_wide (n := 9)).1 ?_
  refine callsIn_of_wp_marks Try.func79 rfl trivial ?_ rfl
  simp only [Try.ntmps79, List.size_toArray, List.length_cons, List.length_nil, Nat.reduceAdd, Nat.reduceSub, Array.replicate_succ, Array.replicate_zero, List.push_toArray, List.append_toArray, List.nil_append, List.cons_append]
  gi_wp2_with (refine ⟨trivial, ?_⟩; gi_at_call 80; refine (callsIn_wide.2 (can_any (T n) _)).mono ?_; rintro e w' ⟨rfl, rfl⟩)
  generalize hW : World.alloc _ _ = W0
  obtain ⟨q0, q1, q2, hz, hB⟩ := blocks3 hW
  clear hW
  have HB := Lib.hid hB
  have hz' : W0.heap.size = w.heap.size + 3 := hz
  have H0 := Lib.hid (show BoxAt W0 w.heap.size #[.int .i64 n] 3 from q0)
  have H1 := Lib.hid (show BoxAt W0 (w.heap.size + 1) #[.int .i64 0] 3 from q1)
  have H2 := Lib.hid (show BoxAt W0 (w.heap.size + 1 + 1) (T n).cells 58 from q2)
  have hsp := HV.out.spans hn
  have HZ := Lib.hid hz'
  clear q0 q1 q2 hz hB hz'
  refine wpIn_rangeFunc_ownH (w := W0) rfl (by omega) (gf := 100) (lb := #[.pointer (some ⟨w.heap.size + 1 + 1, 0, none⟩)]) rfl trivial (enters_of Try.func100 (by kernel_rfl) rfl)
    (can_stops Fence.wide 8 trivial rfl (by omega) (w.heap.size + 1 + 1) (T n) W0 H2.out hsp) (fun h k => Same.then h k) (same_b (by have := HZ.out; omega)) (Below.refl _ _) (fun _ => rfl)
    (fun pre W => AskI S T w sn tn c n pre W) (fun _ _ _ => False) (AskI.own _ (by have := HZ.out; omega)) (fun _ _ _ _ _ hs _ _ => hs) ⟨H0.out, H1.out, HB.out, by have := HZ.out; omega⟩
    (fun x a' W => ∃ Bx, w.heap.size + 1 + 1 < Bx ∧ BoxAt W Bx #[.int .i64 x.1.fr, .int .i64 x.1.to, .int .i64 x.1.td] 93 ∧ a' = { tmps := #[.int .i64 n, bp bw, bp bc, bp w.heap.size, .int .i64 0, bp (w.heap.size + 1), bp Bx, undef, undef, bp bw, .pointer (some ⟨bw, 2, none⟩), .slice ta tn tc, .int .i64 n, .pointer (some ⟨blk ta, ofs ta + n * 8, none⟩), (T n).v, .func (.func 100) #[] #[bp (w.heap.size + 1 + 1)], .agg #[.int .i64 x.1.fr, .int .i64 x.1.to, .int .i64 x.1.td], undef, undef, undef, undef, undef, undef, undef, undef, undef, undef, undef, undef, undef, undef, undef, undef, undef, undef, undef, undef, undef, undef, undef, undef, undef, undef, undef, undef, undef, undef, undef, undef, undef, undef, undef, undef, undef, undef, undef], defers := [] })
    (fun x a' s A B row hs hg hr => by obtain ⟨Bx, h1, h2, h3⟩ := hs; exact ⟨Bx, h1, own_box h2 hg hr, h3⟩) ?assign ?body ?done ?stop
  case assign =>
    intro l pre x W K hi hK
    obtain ⟨⟨fr, to, td⟩, hx⟩ := x
    simp only [Kn.v] at *
    have HI := Lib.hid hi
    have HX := Lib.hid hK
    clear hi hK
    gi_wp2
    exact HX.out _ _ ((KeepsOthers.alloc _ _).from _) (Same.of_below ((Below.refl _ _).alloc (Nat.le_refl _) _) (by have := HI.out.lt; omega)) (HI.out.grow ((Below.refl _ _).alloc (Nat.le_refl _) _)) ⟨W.heap.size, by have := HI.out.lt; omega, (blocks1 rfl).1, rfl⟩
  case body =>
    rintro l pre ⟨⟨fr, to, td⟩, hx⟩ a' W hl _ hi ⟨Bx, hBx, hbx, rfl⟩ _
    have HI := Lib.hid hi
    have HX := Lib.hid hx
    have lx := lt_of_heap hbx
    have HBX := Lib.hid (show BoxAt W Bx #[.int .i64 fr, .int .i64 to, .int .i64 td] 93 from hbx)
    dsimp only [Tk.v]
    have hlt := hi.lt
    have hxw := HXW.out.grow hi.bel
    have hxt := HT.out.grow hi.bel
    have hxs := HS.out.grow hi.bel
    have w0 := cellAt hxw 0
    have w1 := cellAt hxw 1
    have w2 := cellAt hxw 2
    simp only [List.getElem?_toArray, List.getElem?_cons_zero, List.getElem?_cons_succ] at w0 w1 w2
    clear hi hbx k0 k1 k2 k3 k4 k5 k6 k7
    have hbs := lt_of_heap hxw
    have hne1 : ¬ bw = W.heap.size := by omega
    have hal := (Below.refl W.heap.size W).alloc (Nat.le_refl _) (.cells #[.int .i64 cr, .slice sa sn sc, .slice ta tn tc] 77)
    obtain ⟨i0, hi0, hz0, hz1, hz2⟩ := info_parts info58
    obtain ⟨W3, hrun, hown, hgr⟩ := run_make_full (P := Try.prog) (W.alloc (.cells #[.int .i64 cr, .slice sa sn sc, .slice ta tn tc] 77)) W.heap.size 23 58 i0 _ 8 Try.underlying23 hi0 hz0 hz1 .i64 .i64 tn (by rw [hz2]; have := HV.out.tn6; omega) (by have := HV.out.tn6; unfold maxLen; omega) (by simp)
    have hb3 := hal.grown hgr (by simp) (fun _ e => by cases e)
    simp only [sizeAlloc] at hrun hown
    have o3 : BoxAt W3 W.heap.size #[.int .i64 cr, .slice sa sn sc, .slice ta tn tc] 77 := BoxAt.kept (blocks1 (w := W) rfl).1 hgr (fun e => by cases e)
    obtain ⟨cur, hg3, hcur⟩ := own_made hown
    obtain ⟨W4, hW4⟩ : ∃ W4, W3.setCell ⟨W.heap.size, 2, none⟩ (.slice (some ⟨W.heap.size + 1, 0, none⟩) tn tn) = W4 := ⟨_, rfl⟩
    have g4 : BoxAt W4 (W.heap.size + 1) cur 58 := by rw [← hW4]; exact BoxAt.set hg3 _ _ (by simp)
    have o4 : BoxAt W4 W.heap.size #[.int .i64 cr, .slice sa sn sc, .slice (some ⟨W.heap.size + 1, 0, none⟩) tn tn] 77 := by rw [← hW4]; exact BoxAt.store o3 2 _
    have hb4 : Below W.heap.size W W4 := by rw [← hW4]; exact hb3.setCell (Nat.le_refl _) _
    have hcp := run_copy_tickets g4 hcur (hxt.grow hb4) (cap := tc) (by omega) 3
    have f3 := freeAt o3 2
    have y3 := cellAt o3 2
    have y4 := cellAt (hxw.grow hb4) 2
    have z4 := cellAt o4 2
    simp only [List.getElem?_toArray, List.getElem?_cons_zero, List.getElem?_cons_succ] at y3 y4 z4
    rw [← hW4] at hcp y4 z4
    have HO3 := Lib.hid o4
    have HG4 := Lib.hid g4
    have HB4 := Lib.hid hb4
    have HW4 := Lib.hid hW4
    have HC := Lib.hid hcur
    have w3 := cellAt (hxw.grow hal) 2
    simp only [List.getElem?_toArray, List.getElem?_cons_zero, List.getElem?_cons_succ] at w3
    clear o3 o4 g4 hb4 hb3 hal hW4 hcur hg3 hown hgr hi0 hz0 hz1 hz2
    gi_wp2
    have HXT := Lib.hid (hxt.grow HB4.out)
    generalize hW5 : World.setRow _ _ _ = W5
    have hg5 : W4.grownBy W5 (some (W.heap.size + 1)) := by rw [← hW5, HW4.out]; exact ⟨rfl, rfl, rfl, by simp [World.setRow], fun k _ hk => setRow_other W4 _ k _ (fun e => hk (by rw [e]))⟩
    have hg5' : BoxAt W5 (W.heap.size + 1) (tkVals T tn).toArray 58 := by rw [← hW5, HW4.out]; exact setRow_heap W4 _ cur _ 58 _ HG4.out
    have hb5 : Below W.heap.size W W5 := HB4.out.grown hg5 HB4.out.size (fun k e => by cases e; omega)
    have HI5 := Lib.hid (HI.out.grow hb5)
    have R0 := Lib.hid (show A5R w W.heap.size bw Bx sa ta sn sc tn tc cr fr to td T n W5 from ⟨⟨HO3.out.kept hg5 (fun e => by simp at e), HI5.out.x, HBX.out.grow hb5, hxw.grow hb5, hxt.grow hb5, ⟨by omega, by omega, by omega⟩⟩, hg5'⟩)
    have HB5 := Lib.hid hb5
    clear hW5 hg5 hg5' hb5 HB4 HG4 HW4 HO3 hcp f3 y3 y4 z4 w3 hrun w0 w1 w2
    have hta : blk ta < W.heap.size := hxt.old (by omega)
    have hms : w.heap.size < W.heap.size := by omega
    have hal : (Fence.wide.inRound l).round = some l := rfl
    clear hal
    have R1 := Lib.hid (R0.out.grow (Below.drew (Below.refl _ _)))
    have HB6 := Lib.hid (HB5.out.drew)
    have CE := fun W => exact_any ⟨fr, to, td⟩ (T n) W
    simp only [Kn.v, Tk.v, Tk.exact] at CE
    have hix := fun w => run_indexAt_row (w := w) (oa := some ⟨W.heap.size + 1, 0, none⟩) (cap := tn) Try.underlying23 size8 rfl hn
    simp only [blk, ofs, Nat.zero_add] at hix
    refine wp_region_held_round (S := (fun w' => (w'.cell? ⟨W.heap.size, 2, none⟩ = some (.slice (some ⟨W.heap.size + 1, 0, none⟩) tn tn) ∧ w'.cell? ⟨w.heap.size, 0, none⟩ = some (.int .i64 n) ∧ (w'.cell? ⟨Bx, 0, none⟩ = some (.int .i64 fr) ∧ w'.cell? ⟨Bx, 1, none⟩ = some (.int .i64 to) ∧ w'.cell? ⟨Bx, 2, none⟩ = some (.int .i64 td)) ∧ w'.cell? ⟨bw, 2, none⟩ = some (.slice ta tn tc) ∧ (w'.cell? ⟨blk ta, ofs ta + n * 8, none⟩ = some (.int .i64 (T n).crew) ∧ w'.cell? ⟨blk ta, ofs ta + n * 8 + 1, none⟩ = some (.int .i64 (T n).seam) ∧ w'.cell? ⟨blk ta, ofs ta + n * 8 + 2, none⟩ = some (.int .i64 (T n).fl) ∧ w'.cell? ⟨blk ta, ofs ta + n * 8 + 3, none⟩ = some (.int .i64 (T n).fh) ∧ w'.cell? ⟨blk ta, ofs ta + n * 8 + 4, none⟩ = some (.int .i64 (T n).tl) ∧ w'.cell? ⟨blk ta, ofs ta + n * 8 + 5, none⟩ = some (.int .i64 (T n).th) ∧ w'.cell? ⟨blk ta, ofs ta + n * 8 + 6, none⟩ = some (.int .i64 (T n).dl) ∧ w'.cell? ⟨blk ta, ofs ta + n * 8 + 7, none⟩ = some (.int .i64 (T n).dh))))) (by kernel_rfl) (by kernel_rfl) (fun ⟨_, _, h⟩ => h) (by exact ⟨cellAt R1.out.own 2, cellAt R1.out.num 0, ⟨cellAt R1.out.kn 0, cellAt R1.out.kn 1, cellAt R1.out.kn 2⟩, cellAt R1.out.wag 2, R1.out.tkt.at hn⟩) (fun hHeld => ?_)
    refine wpAnyH_take (i := 0) (oi := { dst := some 32, op := Op.fieldAddr 77 (Operand.tmp 7) 0, type := 0, pos := "wage.go:305", after := #[], guard := none }) (v := ?_) rfl (by kernel_rfl) (by kernel_rfl) (by kernel_rfl) (fun _ _ _ h => h) (Or.inl ⟨by rfl, ?_⟩) (by assumption) ?_
    rotate_left
    · (intro w9 hSw; (try dsimp only at hSw); (go_split_ands; go_simp); (try with_reducible rfl))
    try simp only [Act.put, List.setIfInBounds_toArray, List.set_cons_zero, List.set_cons_succ]
    refine wpAnyH_take (i := 1) (oi := { dst := some 33, op := Op.fieldAddr 25 (Operand.tmp 32) 2, type := 0, pos := "wage.go:305", after := #[{ on := 0, ground := Ground.data }], guard := none }) (v := ?_) rfl (by kernel_rfl) (by kernel_rfl) (by kernel_rfl) (fun _ _ _ h => h) (Or.inl ⟨by rfl, ?_⟩) (by assumption) ?_
    rotate_left
    · (intro w9 hSw; (try dsimp only at hSw); (go_split_ands; go_simp); (try with_reducible rfl))
    try simp only [Act.put, List.setIfInBounds_toArray, List.set_cons_zero, List.set_cons_succ]
    refine wpAnyH_take (i := 2) (oi := { dst := some 34, op := Op.load 23 (Operand.tmp 33), type := 23, pos := "wage.go:305", after := #[{ on := 1, ground := Ground.data }], guard := none }) (v := ?_) rfl (by kernel_rfl) (by kernel_rfl) (by kernel_rfl) (fun _ _ _ h => h) (Or.inl ⟨by rfl, ?_⟩) (by assumption) ?_
    rotate_left
    · (intro w9 hSw; (try dsimp only at hSw); (go_split_ands; go_simp); (try with_reducible rfl))
    try simp only [Act.put, List.setIfInBounds_toArray, List.set_cons_zero, List.set_cons_succ]
    refine wpAnyH_take (i := 3) (oi := { dst := some 35, op := Op.load 3 (Operand.tmp 3), type := 3, pos := "wage.go:305", after := #[], guard := none }) (v := ?_) rfl (by kernel_rfl) (by kernel_rfl) (by kernel_rfl) (fun _ _ _ h => h) (Or.inl ⟨by rfl, ?_⟩) (by assumption) ?_
    rotate_left
    · (intro w9 hSw; (try dsimp only at hSw); (go_split_ands; go_simp); (try with_reducible rfl))
    try simp only [Act.put, List.setIfInBounds_toArray, List.set_cons_zero, List.set_cons_succ]
    refine wpAnyH_take (i := 4) (oi := { dst := some 36, op := Op.load 93 (Operand.tmp 6), type := 93, pos := "wage.go:305", after := #[], guard := none }) (v := ?_) rfl (by kernel_rfl) (by kernel_rfl) (by kernel_rfl) (fun _ _ _ h => h) (Or.inl ⟨by rfl, ?_⟩) (by assumption) ?_
    rotate_left
    · (intro w9 hSw; (try dsimp only at hSw); (go_split_ands; go_simp); (try with_reducible rfl))
    try simp only [Act.put, List.setIfInBounds_toArray, List.set_cons_zero, List.set_cons_succ]
    refine wpAnyH_take (i := 5) (oi := { dst := some 37, op := Op.fieldAddr 77 (Operand.tmp 1) 0, type := 0, pos := "wage.go:305", after := #[], guard := none }) (v := ?_) rfl (by kernel_rfl) (by kernel_rfl) (by kernel_rfl) (fun _ _ _ h => h) (Or.inl ⟨by rfl, ?_⟩) (by assumption) ?_
    rotate_left
    · (intro w9 hSw; (try dsimp only at hSw); (go_split_ands; go_simp); (try with_reducible rfl))
    try simp only [Act.put, List.setIfInBounds_toArray, List.set_cons_zero, List.set_cons_succ]
    refine wpAnyH_take (i := 6) (oi := { dst := some 38, op := Op.fieldAddr 25 (Operand.tmp 37) 2, type := 0, pos := "wage.go:305", after := #[{ on := 5, ground := Ground.data }], guard := none }) (v := ?_) rfl (by kernel_rfl) (by kernel_rfl) (by kernel_rfl) (fun _ _ _ h => h) (Or.inl ⟨by rfl, ?_⟩) (by assumption) ?_
    rotate_left
    · (intro w9 hSw; (try dsimp only at hSw); (go_split_ands; go_simp); (try with_reducible rfl))
    try simp only [Act.put, List.setIfInBounds_toArray, List.set_cons_zero, List.set_cons_succ]
    refine wpAnyH_take (i := 7) (oi := { dst := some 39, op := Op.load 23 (Operand.tmp 38), type := 23, pos := "wage.go:305", after := #[{ on := 6, ground := Ground.data }], guard := none }) (v := ?_) rfl (by kernel_rfl) (by kernel_rfl) (by kernel_rfl) (fun _ _ _ h => h) (Or.inl ⟨by rfl, ?_⟩) (by assumption) ?_
    rotate_left
    · (intro w9 hSw; (try dsimp only at hSw); (go_split_ands; go_simp); (try with_reducible rfl))
    try simp only [Act.put, List.setIfInBounds_toArray, List.set_cons_zero, List.set_cons_succ]
    refine wpAnyH_take (i := 8) (oi := { dst := some 40, op := Op.load 3 (Operand.tmp 3), type := 3, pos := "wage.go:305", after := #[], guard := none }) (v := ?_) rfl (by kernel_rfl) (by kernel_rfl) (by kernel_rfl) (fun _ _ _ h => h) (Or.inl ⟨by rfl, ?_⟩) (by assumption) ?_
    rotate_left
    · (intro w9 hSw; (try dsimp only at hSw); (go_split_ands; go_simp); (try with_reducible rfl))
    try simp only [Act.put, List.setIfInBounds_toArray, List.set_cons_zero, List.set_cons_succ]
    refine wpAnyH_take (i := 9) (oi := { dst := some 41, op := Op.indexAddr 23 (Operand.tmp 39) (Operand.tmp 40), type := 0, pos := "wage.go:305", after := #[{ on := 7, ground := Ground.data }, { on := 8, ground := Ground.data }], guard := none }) (v := ?_) rfl (by kernel_rfl) (by kernel_rfl) (by kernel_rfl) (fun _ _ _ h => h) (Or.inl ⟨by rfl, ?_⟩) (by assumption) ?_
    rotate_left
    · (intro w9 hSw; (try dsimp only at hSw); (go_split_ands; go_simp); (try with_reducible rfl))
    try simp only [Act.put, List.setIfInBounds_toArray, List.set_cons_zero, List.set_cons_succ]
    refine wpAnyH_take (i := 10) (oi := { dst := some 42, op := Op.load 58 (Operand.tmp 41), type := 58, pos := "wage.go:305", after := #[{ on := 9, ground := Ground.data }], guard := none }) (v := ?_) rfl (by kernel_rfl) (by kernel_rfl) (by kernel_rfl) (fun _ _ _ h => h) (Or.inl ⟨by rfl, ?_⟩) (by assumption) ?_
    rotate_left
    · (intro w9 hSw; (try dsimp only at hSw); (go_split_ands; go_simp); (try with_reducible rfl))
    try simp only [Act.put, List.setIfInBounds_toArray, List.set_cons_zero, List.set_cons_succ]
    refine wpAnyH_ready (rs := [11]) (by kernel_rfl) (by simp) ?_
    refine AllReadyH.cons (o := { dst := some 43, op := Op.call { callee := Callee.value (Operand.func 81), args := #[Operand.tmp 36, Operand.tmp 42], argTypes := #[93, 58] }, type := 58, pos := "wage.go:305", after := #[{ on := 4, ground := Ground.data }, { on := 10, ground := Ground.data }], guard := none }) rfl (fun K hK => ?_) AllReadyH.nil
    go_simp
    refine (CE _).mono ?_; rintro e w6 ⟨rfl, hb6⟩; have R2 := Lib.hid (R1.out.grow hb6); have HB7 := Lib.hid (HB6.out.trans (hb6.mono HB6.out.size)); clear hb6
    go_wp2_with fail
    refine hK.out _ _ ?_ (fun hHeld => ?_)
    · exact ⟨cellAt R2.out.own 2, cellAt R2.out.num 0, ⟨cellAt R2.out.kn 0, cellAt R2.out.kn 1, cellAt R2.out.kn 2⟩, cellAt R2.out.wag 2, R2.out.tkt.at hn⟩
    clear hK K
    try simp only [Act.put, List.setIfInBounds_toArray, List.set_cons_zero, List.set_cons_succ]
    refine wpAnyH_take (i := 12) (oi := { dst := some 44, op := Op.indexAddr 23 (Operand.tmp 34) (Operand.tmp 35), type := 0, pos := "wage.go:305", after := #[{ on := 2, ground := Ground.data }, { on := 3, ground := Ground.data }, { on := 0, ground := Ground.phase }, { on := 1, ground := Ground.phase }, { on := 2, ground := Ground.phase }, { on := 3, ground := Ground.phase }, { on := 4, ground := Ground.phase }, { on := 5, ground := Ground.phase }, { on := 6, ground := Ground.phase }, { on := 7, ground := Ground.phase }, { on := 8, ground := Ground.phase }, { on := 9, ground := Ground.phase }, { on := 10, ground := Ground.phase }, { on := 11, ground := Ground.phase }], guard := none }) (v := ?_) rfl (by kernel_rfl) (by kernel_rfl) (by kernel_rfl) (fun _ _ _ h => h) (Or.inl ⟨by rfl, ?_⟩) (by assumption) ?_
    rotate_left
    · (intro w9 hSw; (try dsimp only at hSw); (go_split_ands; go_simp); (try with_reducible rfl))
    try simp only [Act.put, List.setIfInBounds_toArray, List.set_cons_zero, List.set_cons_succ]
    have gc0 : w6.cell? ⟨W.heap.size + 1, n * 8 + 0, none⟩ = some ((T n).cell 0) := by rw [cellAt R2.out.row, List.getElem?_toArray]; exact tkVals_get T tn hn (by omega)
    have gc1 : w6.cell? ⟨W.heap.size + 1, n * 8 + 1, none⟩ = some ((T n).cell 1) := by rw [cellAt R2.out.row, List.getElem?_toArray]; exact tkVals_get T tn hn (by omega)
    have gc2 : w6.cell? ⟨W.heap.size + 1, n * 8 + 2, none⟩ = some ((T n).cell 2) := by rw [cellAt R2.out.row, List.getElem?_toArray]; exact tkVals_get T tn hn (by omega)
    have gc3 : w6.cell? ⟨W.heap.size + 1, n * 8 + 3, none⟩ = some ((T n).cell 3) := by rw [cellAt R2.out.row, List.getElem?_toArray]; exact tkVals_get T tn hn (by omega)
    have gc4 : w6.cell? ⟨W.heap.size + 1, n * 8 + 4, none⟩ = some ((T n).cell 4) := by rw [cellAt R2.out.row, List.getElem?_toArray]; exact tkVals_get T tn hn (by omega)
    have gc5 : w6.cell? ⟨W.heap.size + 1, n * 8 + 5, none⟩ = some ((T n).cell 5) := by rw [cellAt R2.out.row, List.getElem?_toArray]; exact tkVals_get T tn hn (by omega)
    have gc6 : w6.cell? ⟨W.heap.size + 1, n * 8 + 6, none⟩ = some ((T n).cell 6) := by rw [cellAt R2.out.row, List.getElem?_toArray]; exact tkVals_get T tn hn (by omega)
    have gc7 : w6.cell? ⟨W.heap.size + 1, n * 8 + 7, none⟩ = some ((T n).cell 7) := by rw [cellAt R2.out.row, List.getElem?_toArray]; exact tkVals_get T tn hn (by omega)
    have gf0 := freeAt R2.out.row (n * 8 + 0)
    have gf1 := freeAt R2.out.row (n * 8 + 1)
    have gf2 := freeAt R2.out.row (n * 8 + 2)
    have gf3 := freeAt R2.out.row (n * 8 + 3)
    have gf4 := freeAt R2.out.row (n * 8 + 4)
    have gf5 := freeAt R2.out.row (n * 8 + 5)
    have gf6 := freeAt R2.out.row (n * 8 + 6)
    have gf7 := freeAt R2.out.row (n * 8 + 7)
    simp only [Nat.add_zero] at gc0 gf0
    refine wpAnyH_ready (rs := [13]) (by kernel_rfl) (by simp) ?_
    refine AllReadyH.cons (o := { dst := none, op := Op.store 58 (Operand.tmp 44) (Operand.tmp 43), type := 0, pos := "wage.go:305", after := #[{ on := 12, ground := Ground.data }, { on := 11, ground := Ground.data }, { on := 11, ground := Ground.chain }, { on := 0, ground := Ground.phase }, { on := 1, ground := Ground.phase }, { on := 2, ground := Ground.phase }, { on := 3, ground := Ground.phase }, { on := 4, ground := Ground.phase }, { on := 5, ground := Ground.phase }, { on := 6, ground := Ground.phase }, { on := 7, ground := Ground.phase }, { on := 8, ground := Ground.phase }, { on := 9, ground := Ground.phase }, { on := 10, ground := Ground.phase }, { on := 11, ground := Ground.phase }], guard := none }) rfl (fun K hK => ?_) AllReadyH.nil
    go_simp
    skip
    go_wp2_with fail
    refine hK.out _ _ ?_ (fun hHeld => ?_)
    · exact ⟨cellAt ((((((((R2.out.toA5S.far _ _ rfl hta).far _ _ rfl hta).far _ _ rfl hta).far _ _ rfl hta).far _ _ rfl hta).far _ _ rfl hta).far _ _ rfl hta).far _ _ rfl hta).own 2, cellAt ((((((((R2.out.toA5S.far _ _ rfl hta).far _ _ rfl hta).far _ _ rfl hta).far _ _ rfl hta).far _ _ rfl hta).far _ _ rfl hta).far _ _ rfl hta).far _ _ rfl hta).num 0, ⟨cellAt ((((((((R2.out.toA5S.far _ _ rfl hta).far _ _ rfl hta).far _ _ rfl hta).far _ _ rfl hta).far _ _ rfl hta).far _ _ rfl hta).far _ _ rfl hta).far _ _ rfl hta).kn 0, cellAt ((((((((R2.out.toA5S.far _ _ rfl hta).far _ _ rfl hta).far _ _ rfl hta).far _ _ rfl hta).far _ _ rfl hta).far _ _ rfl hta).far _ _ rfl hta).far _ _ rfl hta).kn 1, cellAt ((((((((R2.out.toA5S.far _ _ rfl hta).far _ _ rfl hta).far _ _ rfl hta).far _ _ rfl hta).far _ _ rfl hta).far _ _ rfl hta).far _ _ rfl hta).far _ _ rfl hta).kn 2⟩, cellAt ((((((((R2.out.toA5S.far _ _ rfl hta).far _ _ rfl hta).far _ _ rfl hta).far _ _ rfl hta).far _ _ rfl hta).far _ _ rfl hta).far _ _ rfl hta).far _ _ rfl hta).wag 2, ((((((((R2.out.toA5S.far _ _ rfl hta).far _ _ rfl hta).far _ _ rfl hta).far _ _ rfl hta).far _ _ rfl hta).far _ _ rfl hta).far _ _ rfl hta).far _ _ rfl hta).tkt.at hn⟩
    clear hK K
    try simp only [Act.put, List.setIfInBounds_toArray, List.set_cons_zero, List.set_cons_succ]
    refine wpAnyH_done (by kernel_rfl) ?_ _
    generalize hW7 : World.setCell _ _ _ = W7
    have hb7 : Below W.heap.size W W7 := by rw [← hW7]; exact ((((((((HB7.out).setCell (by dsimp only; omega) _).setCell (by dsimp only; omega) _).setCell (by dsimp only; omega) _).setCell (by dsimp only; omega) _).setCell (by dsimp only; omega) _).setCell (by dsimp only; omega) _).setCell (by dsimp only; omega) _).setCell (by dsimp only; omega) _
    have ho7 : BoxAt W7 W.heap.size #[.int .i64 cr, .slice sa sn sc, .slice (some ⟨W.heap.size + 1, 0, none⟩) tn tn] 77 := by rw [← hW7]; exact ((((((((R2.out.toA5S.far _ _ rfl hta).far _ _ rfl hta).far _ _ rfl hta).far _ _ rfl hta).far _ _ rfl hta).far _ _ rfl hta).far _ _ rfl hta).far _ _ rfl hta).own
    have ht7 : TicketsAt W7 (some ⟨W.heap.size + 1, 0, none⟩) tn (updT T n ((T n).exact ⟨fr, to, td⟩)) := tk_store (ty := 58) ((T n).exact ⟨fr, to, td⟩) hn (by have := HV.out.tn6; unfold maxLen; omega) (by rw [← hW7]; exact (((((((R2.out.row.store _ _).store _ _).store _ _).store _ _).store _ _).store _ _).store _ _).store _ _)
    have HI7 := Lib.hid (HI.out.grow hb7)
    have hc7 := (HXC.out.grow HI.out.bel).grow hb7
    have CD := Lib.hid (due_any cr sa (some ⟨W.heap.size + 1, 0, none⟩) sn sc tn tn S (updT T n ((T n).exact ⟨fr, to, td⟩)) W7 (hxs.grow hb7) ht7 (HV.out.fix hn HX.out) c (by omega) c1)
    have hbd1 := coinsOf_bd (HV.out.fix hn HX.out) (leastK c (updT T n ((T n).exact ⟨fr, to, td⟩))) c
    have hbd2 := coinsOf_bd (HV.out.fix hn HX.out) (mostK c (updT T n ((T n).exact ⟨fr, to, td⟩))) c
    obtain ⟨hi, hhi⟩ : ∃ x, x = coinsOf S (updT T n ((T n).exact ⟨fr, to, td⟩)) (mostK c (updT T n ((T n).exact ⟨fr, to, td⟩))) sn tn c := ⟨_, rfl⟩
    obtain ⟨lo, hlo⟩ : ∃ x, x = coinsOf S (updT T n ((T n).exact ⟨fr, to, td⟩)) (leastK c (updT T n ((T n).exact ⟨fr, to, td⟩))) sn tn c := ⟨_, rfl⟩
    rw [← hhi] at CD hbd2
    rw [← hlo] at CD hbd1
    have hsp2 : spreadOf S (updT T n ((T n).exact ⟨fr, to, td⟩)) sn tn c = hi - lo := by rw [hhi, hlo]; rfl
    have HSP := Lib.hid hsp2
    obtain ⟨wv, hwv⟩ : ∃ wv, wv = worst S T sn tn c n (pre.map (·.1)) := ⟨_, rfl⟩
    have HWV := Lib.hid hwv
    have HO7 := Lib.hid ho7
    have HB7' := Lib.hid hb7
    have p0 := cellAt ho7 0
    have p1 := cellAt ho7 1
    have p2 := cellAt ho7 2
    have p3 := cellAt hc7 0
    simp only [List.getElem?_toArray, List.getElem?_cons_zero, List.getElem?_cons_succ] at p0 p1 p2 p3
    clear hwv hW7 hb7 ho7 ht7 hsp2 hhi hlo R0 R1 R2 HB5 HB6 HB7 hHeld gc0 gf0 gc1 gf1 gc2 gf2 gc3 gf3 gc4 gf4 gc5 gf5 gc6 gf6 gc7 gf7 CE hix HBX HXT
    gi_wp2_with (refine ⟨trivial, ?_⟩; gi_at_call 67; refine (calls_round CD.out).mono ?_; rintro e w8 ⟨rfl, hb8⟩; have HB8 := Lib.hid (hb8.trans ((Below.refl _ w8).alloc (Nat.le_refl _) (.cells #[.int .i64 lo, .int .i64 hi] 29) |>.mono hb8.size)); have J8 := Lib.hid (HI7.out.grow HB8.out); have v1 := cellAt J8.out.wide 0; have v2 := freeAt J8.out.wide 0; simp only [List.getElem?_toArray, List.getElem?_cons_zero] at v1; rw [← HWV.out] at v1; clear hb8)
    all_goals refine A5end (HB7'.out.trans (HB8.out.mono HB7'.out.size)) J8.out ?_ (by have := HI.out.lt; omega)
    all_goals rw [← HWV.out, HSP.out]
    all_goals omega
  case done =>
    rintro D ys W hD hys hi hK
    have v1 := cellAt hi.wide 0
    simp only [List.getElem?_toArray, List.getElem?_cons_zero] at v1
    have HI := Lib.hid hi
    have HY := Lib.hid hys
    have HZ2 := HZ.out
    rw [hys] at v1
    obtain ⟨wv, hwv⟩ : ∃ wv, wv = worst S T sn tn c n (canL (T n)) := ⟨_, rfl⟩
    rw [← hwv] at v1
    have HWV := Lib.hid hwv
    clear hi hys hwv k0 k1 k2 k3 k4 k5 k6 k7 w2
    gi_wp2
    refine ⟨by simp, .inl ⟨_, _, rfl, run_takeDeferred hK, ?_⟩⟩
    exact ⟨_, results_tmp rfl _ _ _, by rw [HWV.out]; rfl, HI.out.bel.trans (belowK_b (w := w) (Nat.le_refl _) W D _ _ (by omega) hK rfl rfl)⟩
  case stop =>
    rintro D c pre W _ _ h _
    exact h.elim
end Go.Proofs.Ytbpeamppkdmdcaa
