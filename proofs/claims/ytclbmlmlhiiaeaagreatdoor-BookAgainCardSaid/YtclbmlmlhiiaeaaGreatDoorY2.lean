/-
  Walks: a strake of irons is read.
-/
import Derived.Test.YtclbmlmlhiiaeaaGreatDoorY1
namespace Go.Proofs.YtclbmlmlhiiaeaaGreatDoor
open Go.RowKit

theorem info149 : ∃ i, Tryz.prog.info? 149 = some i ∧ i.zero = some (.agg #[.int .i64 0, .int .i64 0, .int .i64 0]) ∧ i.size = 3 ∧ i.bytes = 24 :=
  ⟨(Tryz.prog.info? 149).get (by kernel_rfl), by kernel_rfl, by kernel_rfl, by kernel_rfl, by kernel_rfl⟩
theorem info85 : ∃ i, Tryz.prog.info? 85 = some i ∧ i.zero = some (.slice none 0 0) ∧ i.size = 1 ∧ i.bytes = 24 :=
  ⟨(Tryz.prog.info? 85).get (by kernel_rfl), by kernel_rfl, by kernel_rfl, by kernel_rfl, by kernel_rfl⟩
theorem st31 : Tryz.prog.underlying 31 = some (.slice 85) := by kernel_rfl
theorem mk85 : Tryz.prog.underlying 85 = some (.slice 149) := by kernel_rfl
/-- A mark: whose, from where, to where. -/
def markR (t : List UInt8) : Option ((Int × Int × Int) × List UInt8) :=
  match numP t with
  | none => none
  | some (n, t1) => if Lib.hasPrefix t1 [61] then match spanP (t1.drop 1) with
      | none => none
      | some (p, t2) => some ((n, p.1, p.2), t2)
    else none
def marksP : Nat → List UInt8 → List (Int × Int × Int) → Option (List (Int × Int × Int) × List UInt8)
  | 0, t, l => some (l, t)
  | k + 1, t, l => if Lib.hasPrefix t [32] then match markR (t.drop 1) with
      | none => none
      | some (n, r) => marksP k r (l ++ [n])
    else some (l, t)
theorem marksP_end (k : Nat) (t : List UInt8) (l : List (Int × Int × Int)) (h : Lib.hasPrefix t [32] = false) : marksP k t l = some (l, t) := by
  cases k with
  | zero => rfl
  | succ k => simp only [marksP]; rw [h]; rfl
theorem marksP_step (k : Nat) (t : List UInt8) (l : List (Int × Int × Int)) (h : Lib.hasPrefix t [32] = true) : marksP (k + 1) t l = match markR (t.drop 1) with | none => none | some (n, r) => marksP k r (l ++ [n]) := by
  simp only [marksP]
  rw [if_pos h]
def markVs (l : List (Int × Int × Int)) : List Value := l.flatMap fun m => [.int .i64 m.1, .int .i64 m.2.1, .int .i64 m.2.2]
theorem markVs_snoc (l : List (Int × Int × Int)) (a b c : Int) : markVs (l ++ [(a, b, c)]) = markVs l ++ [.int .i64 a, .int .i64 b, .int .i64 c] := by
  unfold markVs
  rw [List.flatMap_append]
  rfl
theorem own_growN {W W' : World} {b E n z : Nat} {v : Value} {xs : List Value} (h : W.ownsRow b E z v n xs) (hb : Below W.heap.size W W') : W'.ownsRow b E z v n xs :=
  Keep.row (Keep.of_below hb (C := fun k => k < W.heap.size) fun _ hk => hk) h fun g e => (h.lt g e).2
def strakeR (t : List UInt8) : Option (List (Int × Int × Int) × List UInt8) := marksP t.length t []
structure OS (pb fb base : Nat) (x0 v1 v2 v3 x4 : Value) (sk : List Value) (n3 : Nat) (W : World) : Prop where
  p : BoxAt W pb #[x0, v1, v2, v3, x4] 34
  f : NumBox W fb
  s : W.ownsRow base 85 1 v3 n3 sk
variable {pb fb base n3 : Nat} {x0 x4 v1 v2 v3 : Value} {sk : List Value} {W W' : World}
theorem OS.keep (h : OS pb fb base x0 v1 v2 v3 x4 sk n3 W) {C : Nat → Prop} (hk : Keep C W W') (hp : C pb) (hf : C fb) (h1 : ∀ g, v3.ownBlock = some g → C g) : OS pb fb base x0 v1 v2 v3 x4 sk n3 W' :=
  ⟨hk.box h.p hp, hk.box h.f hf, hk.row h.s h1⟩
theorem OS.grow (h : OS pb fb base x0 v1 v2 v3 x4 sk n3 W) (hb : Below W.heap.size W W') : OS pb fb base x0 v1 v2 v3 x4 sk n3 W' :=
  h.keep (Keep.of_below hb (C := fun k => k < W.heap.size) fun _ hk => hk) (lt_of_heap h.p) (lt_of_heap h.f) (fun g e => (h.s.lt g e).2)
structure ApartS (rb pb fb : Nat) (v3 : Value) : Prop where
  pr : pb ≠ rb
  fr : fb ≠ rb
  fp : fb ≠ pb
  r : v3.ownBlock ≠ some rb
  p : v3.ownBlock ≠ some pb
  f : v3.ownBlock ≠ some fb
theorem OS.off {rb : Nat} (h : OS pb fb base x0 v1 v2 v3 x4 sk n3 W) (a : ApartS rb pb fb v3) (hk : OffR rb W W') : OS pb fb base x0 v1 v2 v3 x4 sk n3 W' :=
  h.keep hk ⟨lt_of_heap h.p, a.pr⟩ ⟨lt_of_heap h.f, a.fr⟩ (fun g e => ⟨(h.s.lt g e).2, fun e' => a.r (e' ▸ e)⟩)
abbrev KeepS (rb pb : Nat) (v3 : Value) (w : World) : Nat → Prop := fun k => k < w.heap.size ∧ k ≠ rb ∧ k ≠ pb ∧ v3.ownBlock ≠ some k
theorem keepS_off {rb : Nat} {w : World} (hk : Keep (KeepS rb pb v3 w) w W) (ho : OffR rb W W') : Keep (KeepS rb pb v3 w) w W' :=
  hk.trans (Keep.mono ho fun _ h => ⟨Nat.lt_of_lt_of_le h.1 hk.size, h.2.1⟩)
theorem keepS_grow {rb : Nat} {w : World} (hk : Keep (KeepS rb pb v3 w) w W) (hb : Below W.heap.size W W') : Keep (KeepS rb pb v3 w) w W' :=
  hk.below hb fun _ h => h.1
/-- What the reading of a strake leaves behind. -/
def StrakePost (rb pb base : Nat) (x0 v1 v2 v3 x4 : Value) (sk : List Value) (n3 : Nat) (R : Option (List (Int × Int × Int) × List UInt8)) (w : World) (e : Ending) (w' : World) : Prop :=
  Keep (KeepS rb pb v3 w) w w' ∧ match R with
  | none => e = err 8
  | some (l, r) => e = .returned (.tuple #[]) ∧ RdAt w' rb r ∧ ∃ v3' y, BoxAt w' pb #[x0, v1, v2, v3', x4] 34 ∧ w'.ownsRow base 85 1 v3' (n3 + 1) (sk ++ [y]) ∧ w'.ownsRow base 149 3 y l.length (markVs l) ∧
    (∀ g, v3'.ownBlock = some g → v3.ownBlock = some g ∨ w.heap.size ≤ g) ∧ (∀ g, y.ownBlock = some g → w.heap.size ≤ g)
/-- How it stands between two marks. -/
structure MI (rb pb fb base s2 : Nat) (x0 v1 v2 v3 x4 : Value) (sk : List Value) (n3 : Nat) (R : Option (List (Int × Int × Int) × List UInt8)) (w : World) (fuel : Nat) (l : List (Int × Int × Int)) (r : List UInt8) (y : Value) (W : World) : Prop where
  rd : RdAt W rb r
  om : OS pb fb base x0 v1 v2 v3 x4 sk n3 W
  y : W.ownsRow s2 149 3 y l.length (markVs l)
  keep : Keep (KeepS rb pb v3 w) w W
  s2 : s2 ≤ W.heap.size
  res : marksP fuel r l = R
  fuel : r.length ≤ fuel
  len : l.length + r.length ≤ 3000
set_option maxRecDepth 100000 in
set_option maxHeartbeats 8000000 in
theorem strake118_any (rb pb fb base : Nat) (x0 v1 v2 v3 x4 : Value) (sk : List Value) (n3 : Nat) (t : List UInt8) (w : World) (h : RdAt w rb t) (hm : OS pb fb base x0 v1 v2 v3 x4 sk n3 w) (ha : ApartS rb pb fb v3) (hbase : base ≤ w.heap.size) (hn3 : n3 ≤ 100000) (hl : t.length ≤ 2000) :
    Calls Tryz.prog 118 #[bp pb, bp rb, bp fb] w (StrakePost rb pb base x0 v1 v2 v3 x4 sk n3 (strakeR t) w) := by
  have HA5 := Lib.hid ha
  have hpw := lt_of_heap hm.p
  have hrw := lt_of_heap h
  have hfw := lt_of_heap hm.f
  obtain ⟨R, hR⟩ : ∃ R, marksP t.length t [] = R := ⟨_, rfl⟩
  have HS := Lib.hid (show strakeR t = R from hR)
  have HM5 := Lib.hid (show ∀ g, v3.ownBlock = some g → g < w.heap.size from fun g e => (hm.s.lt g e).2)
  have I0 := Lib.hid (show MI rb pb fb base w.heap.size x0 v1 v2 v3 x4 sk n3 R w t.length [] t (.slice none 0 0) w from ⟨h, hm, World.ownsRow_nil _ _ _ _, Keep.refl _ _, Nat.le_refl _, hR, Nat.le_refl _, by simp only [List.length_nil]; omega⟩)
  obtain ⟨s2, hs2⟩ : ∃ s2, w.heap.size = s2 := ⟨_, rfl⟩
  rw [hs2] at I0 HM5
  clear hR h hm ha
  go_enter Tryz.func118, Tryz.ntmps118
  go_wp2_with fail
  go_loopw [5] (fun y wr => ∃ fuel l r, MI rb pb fb base s2 x0 v1 v2 v3 x4 sk n3 R w fuel l r y wr ∧ r.length ≤ 2000) (fun _ wr => rdLen rb wr)
  case atStart => exact ⟨_, _, _, I0.out, by omega⟩
  case round =>
    obtain ⟨fuel, l, r, hi, hrl2⟩ := hrel
    have I1 := Lib.hid hi
    clear hi I0
    obtain ⟨y, rfl⟩ : ∃ y, y = u5 := ⟨_, rfl⟩
    have hm := rdLen_at I1.out.rd
    have C1 := Lib.hid (sees_any rb r [32] _ I1.out.rd)
    go_wp2_with (go_at_call 95; refine C1.out.mono ?_)
    rintro e w1 ⟨rfl, rfl⟩
    have hf : OffR rb wr (wr.setCell ⟨rb, 0, none⟩ (.string ⟨(seesT r [32]).toArray⟩)) := OffR.set _
    have hyr : ∀ g, y.ownBlock = some g → g ≠ rb := fun g e e2 => by have := (I1.out.y.lt g e).1; omega
    have M2 := Lib.hid (I1.out.om.off HA5.out hf)
    have K2 := Lib.hid (keepS_off I1.out.keep hf)
    have R2 := Lib.hid (I1.out.rd.set (seesT r [32]))
    have Y2 := Lib.hid (Keep.row hf I1.out.y fun g e => ⟨(I1.out.y.lt g e).2, hyr g e⟩)
    have hz2 := I1.out.s2
    have hz3 : wr.heap.size = (wr.setCell ⟨rb, 0, none⟩ (.string ⟨(seesT r [32]).toArray⟩)).heap.size := (size_setCell _ _ _).symm
    rw [hz3] at hz2
    have HRES := Lib.hid I1.out.res
    have hfu := I1.out.fuel
    have hln := I1.out.len
    clear hf hyr hz3 C1 I1
    cases hp : Lib.hasPrefix r [32] with
    | false =>
      rw [seesT_no hp] at R2 M2 K2 Y2 hz2 ⊢
      have HR := Lib.hid (show R = some (l, r) from by rw [← HRES.out]; exact marksP_end _ _ _ hp)
      clear hp HRES
      generalize World.setCell wr _ _ = p5 at *
      obtain ⟨ya, yc, hy⟩ := own_slice Y2.out
      subst hy
      have al := (Below.refl p5.heap.size p5).alloc (Nat.le_refl _) (.cells #[.slice ya l.length yc] 85)
      have c1 := cellAt M2.out.p 3
      simp only [List.getElem?_toArray, List.getElem?_cons_zero, List.getElem?_cons_succ] at c1
      have M3 := Lib.hid (M2.out.grow al)
      have R3 := Lib.hid (show RdAt (p5.alloc (.cells #[.slice ya l.length yc] 85)) rb r from BoxAt.grow R2.out al)
      have K3 := Lib.hid (keepS_grow K2.out al)
      have Y3 := Lib.hid (Keep.row (Keep.of_below al (C := fun k => k < p5.heap.size) fun _ hk => hk) Y2.out fun g e => (Y2.out.lt g e).2)
      have N3 := Lib.hid (show BoxAt (p5.alloc (.cells #[.slice ya l.length yc] 85)) p5.heap.size [.slice ya l.length yc].toArray 85 from heap_alloc_new _ _)
      have hy1 : (Value.slice ya l.length yc).oneCell' = true := rfl
      have hsz3 := al.size
      clear al
      obtain ⟨i0, hi0, hz0, hz1, hz4⟩ := info85
      go_wp2_with (at_builtin; refine wpList_appR st31 hi0 hz0 hz1 hz4 (by rfl) (by decide) (by decide) (by rfl) (.tmp 32) (.tmp 34) (by rfl) (by rfl) M3.out.s (by rfl) N3.out (by rfl) (fun u hu => by rw [List.mem_singleton] at hu; rw [hu]; exact hy1) (by omega) (by have := K3.out.size; omega) ?_)
      intro g2 cap2 w8 h2 h3 h4
      have ka := keep_grown h3
      have hney : ∀ g, (Value.slice ya l.length yc).ownBlock = some g → v3.ownBlock ≠ some g := own_apart Y3.out M3.out.s (by decide)
      have P4 := Lib.hid (ka.box M3.out.p ⟨lt_of_heap M3.out.p, fun e => HA5.out.p e.symm⟩)
      have Y4 := Lib.hid (ka.row Y3.out fun g e => ⟨(Y3.out.lt g e).2, fun e2 => hney g e e2.symm⟩)
      have R4 := Lib.hid (show RdAt w8 rb r from ka.box R3.out ⟨lt_of_heap R3.out, fun e => HA5.out.r e.symm⟩)
      have hk3 := K3.out.size
      have K4 := Lib.hid (show Keep (KeepS rb pb v3 w) w w8 from K3.out.trans (Keep.mono ka fun k hk => ⟨Nat.lt_of_lt_of_le hk.1 hk3, fun e => hk.2.2.2 e.symm⟩))
      have O4b := Lib.hid (show ∀ k, (Value.slice (some ⟨g2, 0, none⟩) (n3 + 1) cap2).ownBlock = some k → v3.ownBlock = some k ∨ w.heap.size ≤ k from fun k e => by
        cases e
        rcases h4 with h | h
        · exact .inl h
        · exact .inr (show w.heap.size ≤ g2 by omega))
      have W4 := Lib.hid h2
      have c2 := cellAt P4.out 3
      have f2 := freeAt P4.out 3
      simp only [List.getElem?_toArray, List.getElem?_cons_zero, List.getElem?_cons_succ] at c2
      clear h2 h3 h4 ka hney hi0 hz0 hz1 hz4 M3 R3 K3 Y3 N3 c1
      go_wp2_with fail
      go_end0
      have hk : Keep (fun k => k ≠ pb) w8 (w8.setCell ⟨pb, 3, none⟩ (.slice (some ⟨g2, 0, none⟩) (n3 + 1) cap2)) := (Keep.refl _ _).set pb 3 _ (fun h => h rfl)
      refine ⟨Keep.set K4.out pb 3 _ (fun hh => hh.2.2.1 rfl), ?_⟩
      rw [HS.out, HR.out]
      refine ⟨rfl, BoxAt.set R4.out _ _ (by dsimp only; exact HA5.out.pr), _, .slice ya l.length yc, P4.out.store 3 _, hk.row W4.out (fun k e e2 => by subst e2; rcases O4b.out _ e with h | h; exact HA5.out.p h; omega), own_low (hk.row Y4.out (fun k e e2 => by have := (Y4.out.lt k e).1; omega)) (by omega), O4b.out, fun g e => by have := (Y4.out.lt g e).1; omega⟩
    | true =>
      rw [seesT_yes hp] at R2 M2 K2 Y2 hz2 ⊢
      have hdl : (r.drop 1).length + 1 = r.length := by have := drop_prefix_length hp; rw [List.length_drop]; simp only [List.length_cons, List.length_nil] at this; omega
      have HST := Lib.hid (show R = (match markR (r.drop 1) with | none => none | some (n, r) => marksP (fuel - 1) r (l ++ [n])) from by
          rw [← HRES.out]
          obtain ⟨k, rfl⟩ : ∃ k, fuel = k + 1 := ⟨fuel - 1, by omega⟩
          exact marksP_step k r l hp)
      clear hp HRES
      generalize hq : r.drop 1 = q at *
      generalize World.setCell wr _ _ = p5 at *
      clear hq
      have HMR := Lib.hid (show markR q = (match numP q with
          | none => none
          | some (n, t1) => if Lib.hasPrefix t1 [61] then match spanP (t1.drop 1) with
              | none => none
              | some (p, t2) => some ((n, p.1, p.2), t2)
            else none) from rfl)
      have C2 := Lib.hid (number94_any rb q p5 R2.out (by omega))
      have d0 := cellAt M2.out.f 0
      simp only [List.getElem?_toArray, List.getElem?_cons_zero] at d0
      go_wp2_with fail
      refine C2.out.mono ?_
      intro e p6 hpost
      obtain ⟨ho, hh⟩ := hpost
      have hk3 := keepS_off K2.out ho
      cases hr : numP q with
      | none =>
        rw [hr] at hh
        dsimp only at hh
        subst hh
        simp only [err]
        exact ⟨rfl, hk3, by rw [HS.out, HST.out, HMR.out, hr]; rfl⟩
      | some p =>
      obtain ⟨z, t3⟩ := p
      rw [hr] at hh HMR
      obtain ⟨he, hrd⟩ := hh
      subst he
      dsimp only at HMR
      have hl3 := numP_shorter hr
      have hal := (Below.refl p6.heap.size p6).alloc (Nat.le_refl _) (.cells #[.int .i64 z, .int .i64 0, .int .i64 0] 149)
      have M3 := Lib.hid ((M2.out.off HA5.out ho).grow hal)
      have K3 := Lib.hid (keepS_grow hk3 hal)
      have R3 := Lib.hid (show RdAt (p6.alloc (.cells #[.int .i64 z, .int .i64 0, .int .i64 0] 149)) rb t3 from BoxAt.grow hrd hal)
      have Y3 := Lib.hid (own_growN (Keep.row ho Y2.out fun g e => ⟨(Y2.out.lt g e).2, fun e2 => by have := (Y2.out.lt g e).1; omega⟩) hal)
      have B3 := Lib.hid (show BoxAt (p6.alloc (.cells #[.int .i64 z, .int .i64 0, .int .i64 0] 149)) p6.heap.size #[.int .i64 z, .int .i64 0, .int .i64 0] 149 from heap_alloc_new _ _)
      have hs3 := ho.size
      have hyp : ∀ g, y.ownBlock = some g → g < p6.heap.size := fun g e => Nat.lt_of_lt_of_le (Y2.out.lt g e).2 ho.size
      have hs3b := hal.size
      clear ho hrd hr hk3 hal M2 R2 K2 Y2 C2 d0
      go_upto_region 3 with (fail)
      generalize p6.heap.size = q1 at *
      generalize World.alloc p6 _ = p7 at *
      have hrq : rb < q1 := by omega
      have C3 := Lib.hid (word_any rb t3 [61] p7 R3.out)
      go_wp2_with fail
      refine C3.out.mono ?_
      intro e p8 hpost
      obtain ⟨ho, hh⟩ := hpost
      have hk3 := keepS_off K3.out ho
      cases hp1 : Lib.hasPrefix t3 [61] with
      | false =>
        rw [hp1] at hh
        have he : e = err 8 := hh
        subst he
        simp only [err]
        exact ⟨rfl, hk3, by rw [HS.out, HST.out, HMR.out, hp1]; rfl⟩
      | true =>
      rw [hp1] at hh
      obtain ⟨he, hrd⟩ := (show e = .returned (.tuple #[]) ∧ RdAt p8 rb (t3.drop 1) from hh)
      subst he
      have HM1 := Lib.hid (show markR q = (match spanP (t3.drop 1) with
              | none => none
              | some (p, t2) => some ((z, p.1, p.2), t2)) from by rw [HMR.out, hp1]; rfl)
      have hd3 : (t3.drop 1).length ≤ t3.length := by rw [List.length_drop]; omega
      have M4 := Lib.hid (M3.out.off HA5.out ho)
      have K4 := Lib.hid hk3
      have R4 := Lib.hid hrd
      have Y4 := Lib.hid (Keep.row ho Y3.out fun g e => ⟨(Y3.out.lt g e).2, fun e2 => by have := (Y3.out.lt g e).1; omega⟩)
      have B4 := Lib.hid (ho.box B3.out (by omega))
      have hs4 := ho.size
      clear ho hh hrd hp1 hk3 C3 M3 K3 R3 Y3 B3 HMR
      generalize t3.drop 1 = t4 at *
      go_upto_region 4 with (fail)
      have C4 := Lib.hid (span99_any rb t4 p8 R4.out (by omega))
      go_wp2_with fail
      refine C4.out.mono ?_
      intro e p9 hpost
      obtain ⟨ho, hh⟩ := hpost
      have hk3 := keepS_off K4.out ho
      cases hr : spanP t4 with
      | none =>
        rw [hr] at hh
        dsimp only at hh
        subst hh
        simp only [err]
        exact ⟨rfl, hk3, by rw [HS.out, HST.out, HM1.out, hr]; rfl⟩
      | some p =>
      obtain ⟨⟨lo, hi⟩, t5⟩ := p
      rw [hr] at hh HM1
      obtain ⟨he, hrd⟩ := hh
      subst he
      dsimp only at HM1
      have hl5 := spanP_shorter hr
      have HST1 := Lib.hid (show R = marksP (fuel - 1) t5 (l ++ [(z, lo, hi)]) from by rw [HST.out, HM1.out])
      have hal := (Below.refl p9.heap.size p9).alloc (Nat.le_refl _) (.cells #[.int .i64 lo, .int .i64 hi] 128)
      have M5 := Lib.hid ((M4.out.off HA5.out ho).grow hal)
      have K5 := Lib.hid (keepS_grow hk3 hal)
      have R5 := Lib.hid (show RdAt (p9.alloc (.cells #[.int .i64 lo, .int .i64 hi] 128)) rb t5 from BoxAt.grow hrd hal)
      have Y5 := Lib.hid (own_growN (Keep.row ho Y4.out fun g e => ⟨(Y4.out.lt g e).2, fun e2 => by have := (Y4.out.lt g e).1; omega⟩) hal)
      have B5 := Lib.hid ((ho.box B4.out (by omega)).grow hal)
      have D5 := Lib.hid (show BoxAt (p9.alloc (.cells #[.int .i64 lo, .int .i64 hi] 128)) p9.heap.size #[.int .i64 lo, .int .i64 hi] 128 from heap_alloc_new _ _)
      have hs5 := ho.size
      have hs5b := hal.size
      have hq12 := lt_of_heap (ho.box B4.out (by omega))
      clear ho hrd hr hk3 hal M4 R4 K4 Y4 B4 C4 HST HM1
      go_upto_region 5 with (fail)
      generalize p9.heap.size = q2 at *
      generalize World.alloc p9 _ = pA at *
      refine wp_region_held_drew (S := (fun w' : World => w'.cell? ⟨q2, 0, none⟩ = some (.int .i64 lo) ∧ w'.cell? ⟨q2, 1, none⟩ = some (.int .i64 hi))) (by kernel_rfl) ⟨cellAt (D5.out.grow (Below.drew (Below.refl _ _))) 0, cellAt (D5.out.grow (Below.drew (Below.refl _ _))) 1⟩ (fun hHeld => ?_)
      have hbd := Below.drew (Below.refl pA.heap.size pA)
      have M6 := Lib.hid (M5.out.grow hbd)
      have K6 := Lib.hid (keepS_grow K5.out hbd)
      have R6 := Lib.hid (show RdAt pA.drew rb t5 from BoxAt.grow R5.out hbd)
      have Y6 := Lib.hid (own_growN Y5.out hbd)
      have B6 := Lib.hid (B5.out.grow hbd)
      have D6 := Lib.hid (D5.out.grow hbd)
      have hs6 := hbd.size
      clear hbd M5 K5 R5 Y5 B5 D5
      generalize World.drew pA = p0 at *
      have c5 := cellAt B6.out 1
      have f5 := freeAt B6.out 1
      simp only [List.getElem?_toArray, List.getElem?_cons_zero, List.getElem?_cons_succ] at c5
      refine wpAnyH_take (i := 0) (oi := { dst := some 18, op := Op.fieldAddr 128 (Operand.tmp 7) 0, type := 0, pos := "book.go:278", after := #[], guard := none }) (v := ?_) rfl (by kernel_rfl) (by kernel_rfl) (by kernel_rfl) (fun _ _ _ h => h) (Or.inl ⟨by rfl, ?_⟩) (by assumption) ?_
      rotate_left
      · (intro w9 hSw; (try dsimp only at hSw); (go_split_ands; go_simp); (try with_reducible rfl))
      try simp only [Act.put, List.setIfInBounds_toArray, List.set_cons_zero, List.set_cons_succ]
      refine wpAnyH_take (i := 1) (oi := { dst := some 19, op := Op.load 3 (Operand.tmp 18), type := 3, pos := "book.go:278", after := #[{ on := 0, ground := Ground.data }], guard := none }) (v := ?_) rfl (by kernel_rfl) (by kernel_rfl) (by kernel_rfl) (fun _ _ _ h => h) (Or.inl ⟨by rfl, ?_⟩) (by assumption) ?_
      rotate_left
      · (intro w9 hSw; (try dsimp only at hSw); (go_split_ands; go_simp); (try with_reducible rfl))
      try simp only [Act.put, List.setIfInBounds_toArray, List.set_cons_zero, List.set_cons_succ]
      refine wpAnyH_take (i := 2) (oi := { dst := some 20, op := Op.fieldAddr 128 (Operand.tmp 7) 1, type := 0, pos := "book.go:278", after := #[{ on := 5, ground := Ground.gcOnly Departure.lateStores }], guard := none }) (v := ?_) rfl (by kernel_rfl) (by kernel_rfl) (by kernel_rfl) (fun _ _ _ h => h) (Or.inl ⟨by rfl, ?_⟩) (by assumption) ?_
      rotate_left
      · (intro w9 hSw; (try dsimp only at hSw); (go_split_ands; go_simp); (try with_reducible rfl))
      try simp only [Act.put, List.setIfInBounds_toArray, List.set_cons_zero, List.set_cons_succ]
      refine wpAnyH_take (i := 3) (oi := { dst := some 21, op := Op.load 3 (Operand.tmp 20), type := 3, pos := "book.go:278", after := #[{ on := 2, ground := Ground.data }, { on := 5, ground := Ground.gcOnly Departure.lateStores }], guard := none }) (v := ?_) rfl (by kernel_rfl) (by kernel_rfl) (by kernel_rfl) (fun _ _ _ h => h) (Or.inl ⟨by rfl, ?_⟩) (by assumption) ?_
      rotate_left
      · (intro w9 hSw; (try dsimp only at hSw); (go_split_ands; go_simp); (try with_reducible rfl))
      try simp only [Act.put, List.setIfInBounds_toArray, List.set_cons_zero, List.set_cons_succ]
      refine wpAnyH_take (i := 4) (oi := { dst := some 22, op := Op.fieldAddr 149 (Operand.tmp 6) 1, type := 0, pos := "book.go:278", after := #[{ on := 0, ground := Ground.phase }, { on := 1, ground := Ground.phase }, { on := 2, ground := Ground.textOnly Departure.lateStores }, { on := 3, ground := Ground.textOnly Departure.lateStores }], guard := none }) (v := ?_) rfl (by kernel_rfl) (by kernel_rfl) (by kernel_rfl) (fun _ _ _ h => h) (Or.inl ⟨by rfl, ?_⟩) (by assumption) ?_
      rotate_left
      · (intro w9 hSw; (try dsimp only at hSw); (go_split_ands; go_simp); (try with_reducible rfl))
      try simp only [Act.put, List.setIfInBounds_toArray, List.set_cons_zero, List.set_cons_succ]
      refine wpAnyH_ready (rs := [5]) (by kernel_rfl) (by simp) ?_
      refine AllReadyH.cons (o := { dst := none, op := Op.store 3 (Operand.tmp 22) (Operand.tmp 19), type := 0, pos := "book.go:278", after := #[{ on := 4, ground := Ground.data }, { on := 1, ground := Ground.data }, { on := 0, ground := Ground.phase }, { on := 1, ground := Ground.phase }, { on := 2, ground := Ground.textOnly Departure.lateStores }, { on := 3, ground := Ground.textOnly Departure.lateStores }], guard := none }) rfl (fun K hK => ?_) AllReadyH.nil
      go_simp
      skip
      go_wp2_with fail
      refine hK.out _ _ ?_ (fun hHeld => ?_)
      · exact ⟨cellAt (BoxAt.set D6.out _ _ (by dsimp only; omega)) 0, cellAt (BoxAt.set D6.out _ _ (by dsimp only; omega)) 1⟩
      clear hK K
      try simp only [Act.put]
      clear c5 f5
      have B7 := Lib.hid (show BoxAt (p0.setCell ⟨q1, 1, none⟩ (.int .i64 lo)) q1 #[.int .i64 z, .int .i64 lo, .int .i64 0] 149 from B6.out.store 1 _)
      have D7 := Lib.hid (show BoxAt (p0.setCell ⟨q1, 1, none⟩ (.int .i64 lo)) q2 #[.int .i64 lo, .int .i64 hi] 128 from BoxAt.set D6.out _ _ (by dsimp only; omega))
      have c7 := cellAt B7.out 2
      have f7 := freeAt B7.out 2
      simp only [List.getElem?_toArray, List.getElem?_cons_zero, List.getElem?_cons_succ] at c7
      refine wpAnyH_take (i := 6) (oi := { dst := some 23, op := Op.fieldAddr 149 (Operand.tmp 6) 2, type := 0, pos := "book.go:278", after := #[{ on := 0, ground := Ground.phase }, { on := 1, ground := Ground.phase }, { on := 2, ground := Ground.phase }, { on := 3, ground := Ground.phase }, { on := 4, ground := Ground.phase }, { on := 5, ground := Ground.phase }], guard := none }) (v := ?_) rfl (by kernel_rfl) (by kernel_rfl) (by kernel_rfl) (fun _ _ _ h => h) (Or.inl ⟨by rfl, ?_⟩) (by assumption) ?_
      rotate_left
      · (intro w9 hSw; (try dsimp only at hSw); (go_split_ands; go_simp); (try with_reducible rfl))
      try simp only [Act.put, List.setIfInBounds_toArray, List.set_cons_zero, List.set_cons_succ]
      refine wpAnyH_ready (rs := [7]) (by kernel_rfl) (by simp) ?_
      refine AllReadyH.cons (o := { dst := none, op := Op.store 3 (Operand.tmp 23) (Operand.tmp 21), type := 0, pos := "book.go:278", after := #[{ on := 6, ground := Ground.data }, { on := 3, ground := Ground.data }, { on := 5, ground := Ground.chain }, { on := 0, ground := Ground.phase }, { on := 1, ground := Ground.phase }, { on := 2, ground := Ground.phase }, { on := 3, ground := Ground.phase }, { on := 4, ground := Ground.phase }, { on := 5, ground := Ground.phase }], guard := none }) rfl (fun K hK => ?_) AllReadyH.nil
      go_simp
      skip
      go_wp2_with fail
      refine hK.out _ _ ?_ (fun hHeld => ?_)
      · exact ⟨cellAt (BoxAt.set D7.out _ _ (by dsimp only; omega)) 0, cellAt (BoxAt.set D7.out _ _ (by dsimp only; omega)) 1⟩
      clear hK K
      try simp only [Act.put]
      refine wpAnyH_done (by kernel_rfl) ?_ _
      have hyq : ∀ g, y.ownBlock = some g → g ≠ q1 := fun g e e2 => by have := hyp g e; omega
      have O8 : Keep (fun k => k ≠ q1) p0 ((p0.setCell ⟨q1, 1, none⟩ (.int .i64 lo)).setCell ⟨q1, 2, none⟩ (.int .i64 hi)) := ((Keep.refl _ _).set q1 1 _ (fun h => h rfl)).set q1 2 _ (fun h => h rfl)
      have B8 := Lib.hid (show BoxAt ((p0.setCell ⟨q1, 1, none⟩ (.int .i64 lo)).setCell ⟨q1, 2, none⟩ (.int .i64 hi)) q1 #[.int .i64 z, .int .i64 lo, .int .i64 hi] 149 from BoxAt.store (show BoxAt (p0.setCell ⟨q1, 1, none⟩ (.int .i64 lo)) q1 #[.int .i64 z, .int .i64 lo, .int .i64 0] 149 from B6.out.store 1 _) 2 _)
      have hpl6 := lt_of_heap M6.out.p
      have M8 := Lib.hid (M6.out.keep O8 (by omega) (by omega) (fun g e => by have := HM5.out g e; omega))
      have R8 := Lib.hid (show RdAt _ rb t5 from O8.box R6.out (by omega))
      have K8 := Lib.hid (show Keep (KeepS rb pb v3 w) w _ from K6.out.trans (Keep.mono O8 fun k hk => by have := hk.1; omega))
      have Y8 := Lib.hid (O8.row Y6.out hyq)
      have hs8 := O8.size
      clear O8 M6 R6 K6 Y6 B6 D6
      generalize World.setCell (World.setCell p0 _ _) _ _ = pB at *
      have hal := (Below.refl pB.heap.size pB).alloc (Nat.le_refl _) (.cells #[.int .i64 z, .int .i64 lo, .int .i64 hi] 149)
      have M4 := Lib.hid (M8.out.grow hal)
      have R4 := Lib.hid (show RdAt (pB.alloc (.cells #[.int .i64 z, .int .i64 lo, .int .i64 hi] 149)) rb t5 from BoxAt.grow R8.out hal)
      have K4 := Lib.hid (keepS_grow K8.out hal)
      have Y4 := Lib.hid (own_growN Y8.out hal)
      have N5 := Lib.hid (show BoxAt (pB.alloc (.cells #[.int .i64 z, .int .i64 lo, .int .i64 hi] 149)) pB.heap.size [.int .i64 z, .int .i64 lo, .int .i64 hi].toArray 149 from heap_alloc_new _ _)
      have hs4b := hal.size
      clear hal
      have g0 := cellAt B8.out 0
      have g1 := cellAt B8.out 1
      have g2 := cellAt B8.out 2
      simp only [List.getElem?_toArray, List.getElem?_cons_zero, List.getElem?_cons_succ] at g0 g1 g2
      obtain ⟨i0, hi0, hz0, hz1, hz4⟩ := info149
      go_wp2_with (at_builtin; refine wpList_appR mk85 hi0 hz0 hz1 hz4 (by rfl) (by decide) (by decide) (by rfl) (.tmp 24) (.tmp 26) (by rfl) (by rfl) Y4.out (by rfl) N5.out (by rfl) (fun u hu => by simp only [List.mem_cons, List.mem_nil_iff, or_false] at hu; rcases hu with rfl | rfl | rfl <;> rfl) (by omega) (by omega) ?_)
      intro g2 cap2 w8 h2 h3 h4
      have ka := keep_grown h3
      have hyb : ∀ k, k < s2 → some k ≠ y.ownBlock := fun k hk e => by have := (Y4.out.lt k e.symm).1; omega
      have M5 := Lib.hid (M4.out.keep ka ⟨lt_of_heap M4.out.p, hyb _ (by omega)⟩ ⟨lt_of_heap M4.out.f, hyb _ (by omega)⟩ (fun g e => ⟨(M4.out.s.lt g e).2, hyb _ (HM5.out g e)⟩))
      have R5 := Lib.hid (show RdAt w8 rb t5 from ka.box R4.out ⟨lt_of_heap R4.out, hyb _ (by omega)⟩)
      have hk4 := K4.out.size
      have K5 := Lib.hid (show Keep (KeepS rb pb v3 w) w w8 from K4.out.trans (Keep.mono ka fun k hk => ⟨Nat.lt_of_lt_of_le hk.1 hk4, hyb _ (by have := hk.1; omega)⟩))
      have Y5 := Lib.hid (show w8.ownsRow s2 149 3 (.slice (some ⟨g2, 0, none⟩) (l.length + 1) cap2) (l ++ [(z, lo, hi)]).length (markVs (l ++ [(z, lo, hi)])) from by
          rw [List.length_append, markVs_snoc]
          exact h2)
      have hs5 := ka.size
      clear h2 h3 h4 ka hyb hi0 hz0 hz1 hz4 M4 R4 K4 Y4 N5
      go_wp2_with fail
      have hm8 := rdLen_at R5.out
      exact ⟨⟨_, _, _, ⟨R5.out, M5.out, Y5.out, K5.out, by omega, HST1.out.symm, by omega, by rw [List.length_append, List.length_singleton]; omega⟩, by omega⟩, by rw [hm8]; omega⟩
end Go.Proofs.YtclbmlmlhiiaeaaGreatDoor
