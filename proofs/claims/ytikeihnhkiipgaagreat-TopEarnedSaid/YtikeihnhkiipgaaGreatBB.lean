/-
  Walks: Best.
-/
import Derived.Test.YtikeihnhkiipgaaGreatQA8
import Derived.Test.YtikeihnhkiipgaaGreatQBA
namespace Go.Proofs.YtikeihnhkiipgaaGreat
open Go.RowKit Go.Shelf

attribute [local go_sem] Oper.semAt_some

theorem find_first {f : Stp → Bool} {x : Stp} {q s L : List Stp} (h : q ++ x :: s = L) (hq : ∀ z ∈ q, f z = false) (hx : f x = true) : L.find? f = some x := by
  subst h
  rw [List.find?_append, List.find?_eq_none.2 (fun z hz => by rw [hq z hz]; exact Bool.false_ne_true)]
  simp [hx]
/-- What Best hands back. -/
def BestPost (p : PN) (w : World) (e : Ending) (w' : World) : Prop := Below w.heap.size w w' ∧ match p.end' p.qn Mk.start with
  | none => e = .returned (.tuple #[.int .i64 0, .slice none 0 0, .int .i64 4])
  | some n => ∃ a, e = .returned (.tuple #[.int .i64 n, .slice a p.qn p.qn, .int .i64 0]) ∧ Row w' a p.qn 2 (pC (p.plan n p.qn Mk.start)) ∧ (0 < p.qn → w.heap.size ≤ blk a)
set_option maxRecDepth 100000 in
set_option maxHeartbeats 1000000 in
theorem best_any (p : PN) (ok : p.Ok) (fa qa : Option Addr) (fc qc : Nat) (w : World) (hA : p.At fa qa w) :
    Calls Tryz.prog 52 #[.agg (p.cs fa qa fc qc)] w (BestPost p w) := by
  have I0 := Lib.hid (show CI w p fa qa fc qc ((w.alloc (.cells (p.cs fa qa fc qc) 27)).alloc (.cells #[.int .i64 0] 33)) from by
    obtain ⟨z0, z1, -, hB⟩ := blocks2 (show (w.alloc (.cells (p.cs fa qa fc qc) 27)).alloc (.cells #[.int .i64 0] 33) = _ from rfl)
    exact ⟨hB, z0, z1, hA.grow hB⟩)
  have C1 := Lib.hid (fun W (h : p.At fa qa W) => open_any p ok fa qa fc qc 75 #[] W h (fun b W => by kernel_rfl) (fun b W _ _ => always_any b W))
  have OK := Lib.hid ok
  have HA0 := Lib.hid hA
  clear hA ok
  unfold PN.cs at *
  refine (callsIn_wide (n := 9)).1 ?_
  refine callsIn_of_wp_marks Tryz.func52 rfl trivial ?_ rfl
  simp only [Tryz.ntmps52, List.size_toArray, List.length_cons, List.length_nil, Nat.reduceAdd, Nat.reduceSub, Array.replicate_succ, Array.replicate_zero, List.push_toArray, List.append_toArray, List.nil_append, List.cons_append]
  gi_upto_region 2 with (fail)
  generalize World.alloc (World.alloc w _) _ = w0 at *
  obtain ⟨q0, q1, q2, q3, q4⟩ := I0.out.cells
  gi_wp2
  refine ⟨trivial, ?_⟩
  refine (callsIn_wide.2 (C1.out _ I0.out.at')).mono ?_
  rintro e w1 ⟨b, rfl, hb0, hbx, hb1⟩
  have X1 := Lib.hid hbx
  have NEb := Lib.hid (show b < w1.heap.size from lt_of_heap hbx)
  have I1 := Lib.hid (I0.out.grow hb1)
  clear hbx hb1 q0 q1 q2 q3 q4 I0 C1 hb0
  gi_upto_region 4 with (fail)
  obtain ⟨W, hW⟩ : ∃ W, (w1.alloc (.cells #[bp b] 154)).alloc (.cells #[.func (.func 76) #[] #[bp w1.heap.size]] 161) = W := ⟨_, rfl⟩
  obtain ⟨z0, z1, -, hB⟩ := blocks2 hW
  rw [hW]
  have X2 := Lib.hid (X1.out.grow hB)
  have I2 := Lib.hid (I1.out.grow hB)
  have P2 := Lib.hid (show BoxAt W w1.heap.size #[bp b] 154 from z0)
  have Q2 := Lib.hid (show BoxAt W (w1.heap.size + 1) #[.func (.func 76) #[] #[bp w1.heap.size]] 161 from z1)
  have NE5 := Lib.hid (show w.heap.size + 1 < w1.heap.size from lt_of_heap I1.out.e)
  clear hW z0 z1 hB X1 I1
  generalize w1.heap.size = c5 at *
  generalize ht6 : c5 + 1 = c6 at *
  have NE6 := Lib.hid (show c5 < c6 by omega)
  clear ht6
  have d5 := cellAt P2.out 0
  have d6 := cellAt Q2.out 0
  simp only [List.getElem?_toArray, List.getElem?_cons_zero] at d5 d6
  have C3 := Lib.hid (tell_any b (.func (.func 76) #[] #[bp c5]) (.func (.func 79) #[] #[]) 0 W)
  unfold onV at C3
  gi_wp2
  refine ⟨trivial, ?_⟩
  refine (callsIn_wide.2 C3.out).mono ?_
  rintro e w2 ⟨rfl, ht, hb2⟩
  have I3 := Lib.hid (I2.out.grow hb2)
  have P3 := Lib.hid (P2.out.grow hb2)
  have Q3 := Lib.hid (Q2.out.grow hb2)
  have T3 := Lib.hid (ht.tw p.end' (fun W => BoxAt W c5 #[bp b] 154) (X2.out.grow hb2) I3.out.at' P3.out)
  have HS := Lib.hid (show c6 < W.heap.size from lt_of_heap Q2.out)
  clear ht hb2 X2 I2 P2 Q2 C3 d5 d6
  generalize W.heap.size = s at *
  have C4 := Lib.hid (fun W (tw : TW p p.end' fa qa fc qc b s (s + 1) (s + 3) (s + 4) (s + 2) (.func (.func 76) #[] #[bp c5]) (.func (.func 79) #[] #[]) 0 (fun W => BoxAt W c5 #[bp b] 154) W) k m (hk : m.pot + k = p.qn) (hm : m.Ok) =>
    tell1_any p OK.out fa qa fc qc b s (s + 1) (s + 3) (s + 4) (s + 2) 76 79 #[bp c5] #[] 0 p.late min (fun W => BoxAt W c5 #[bp b] 154) (fun k => k = c5) (foot_ptr c5 b)
      (fun args W => by kernel_rfl) (fun args W => by kernel_rfl) (fun W pot f h r mi hA hb hp _ hh => best1_any p OK.out fa qa fc qc b c5 pot f h r W mi hb hA hp (Nat.le_of_lt hh)) (fun W x y => min_any x y W) k m W hk hm tw)
  gi_upto_region 5 with (fail)
  have al := (Below.refl w2.heap.size w2).alloc (Nat.le_refl _) (.cells #[onV s] 162)
  have O4 := Lib.hid (show BoxAt (w2.alloc (.cells #[onV s] 162)) w2.heap.size #[onV s] 162 from heap_alloc_new _ _)
  have I4 := Lib.hid (I3.out.grow al)
  have P4 := Lib.hid (P3.out.grow al)
  have Q4 := Lib.hid (Q3.out.grow al)
  have T4 := Lib.hid (T3.out.grow (foot_ptr c5 b) al)
  have HC7 := Lib.hid (show s + 4 < w2.heap.size from lt_of_heap T3.out.on)
  unfold onV at O4 I4 P4 Q4 T4
  clear al I3 P3 Q3 T3
  generalize World.alloc w2 _ = w3 at *
  generalize w2.heap.size = c7 at *
  have d7 := cellAt O4.out 0
  simp only [List.getElem?_toArray, List.getElem?_cons_zero] at d7
  have C5 := Lib.hid (C4.out w3 T4.out p.qn Mk.start (Nat.zero_add _) start_ok)
  unfold Mk.start Mk.v Mk.cs TellPost at C5
  gi_wp2
  refine ⟨trivial, ?_⟩
  refine (callsIn_wide.2 C5.out).mono ?_
  rintro e w4 ⟨rfl, hk, hm⟩
  have hle : w.heap.size ≤ s + 2 := by have := NE5.out; have := NE6.out; have := HS.out; omega
  have T5 := Lib.hid (T4.out.keep (foot_ptr c5 b) hk hm)
  have I5 := Lib.hid (I4.out.keepX T4.out.memo hk hle T5.out.at')
  have P5 := Lib.hid (TW.box_keep' P4.out T4.out.memo hk)
  have Q5 := Lib.hid (TW.box_keep' Q4.out T4.out.memo hk)
  have O5 := Lib.hid (TW.box_keep' O4.out T4.out.memo hk)
  have HO := Lib.hid (show p.tell p.late min 0 p.qn ⟨0, 0, 0, 0⟩ = p.end' p.qn Mk.start from rfl)
  rw [HO.out]
  clear hk hm d7 C5 HO T4 I4 P4 Q4 O4
  generalize ho : p.end' p.qn Mk.start = o at *
  have HO := Lib.hid ho
  clear ho
  gi_upto_region 6 with (fail)
  cases o with
  | none =>
    have al := (Below.refl w4.heap.size w4).alloc (Nat.le_refl _) (.cells #[.int .i64 0] 3)
    have I6 := Lib.hid (I5.out.grow al)
    clear al T5 I5 P5 Q5 O5
    simp only [knownX, Option.getD, Option.isSome]
    generalize World.alloc w4 _ = w6 at *
    gi_wp2
    refine ⟨trivial, ?_⟩
    refine (callsIn_wide.2 (Pi.ask_false 4 w6)).mono ?_
    rintro e w7 ⟨rfl, rfl⟩
    have r0 := cellAt I6.out.e 0
    simp only [List.getElem?_toArray, List.getElem?_cons_zero] at r0
    refine ⟨by simp, .inr ⟨(fun h => by cases h), _, _, 73, #[bp (w.heap.size + 1)], rfl, ?_, fun _ _ => trivial, ?_⟩⟩
    · simp [invoke, go_sem]
    · refine (Pi.answerIn_panicking _ _ 0 4 [] _ I6.out.e).mono ?_
      rintro e u' w' ⟨rfl, rfl, rfl⟩
      have hb7 : Below w.heap.size w (w6.setCell ⟨w.heap.size + 1, 0, none⟩ (.int .i64 4)) := I6.out.bel.setCell (by simp) _
      have r1 := cellAt (I6.out.e.store 0 (.int .i64 4)) 0
      simp only [List.setIfInBounds_toArray, List.set_cons_zero, List.getElem?_toArray, List.getElem?_cons_zero] at r1
      exact ⟨.tuple #[.int .i64 0, .slice none 0 0, .int .i64 4], by simp [results, Tryz.results52, go_sem, r1], hb7, by rw [HO.out]⟩
  | some n =>
    simp only [knownX, Option.getD, Option.isSome]
    have HC78 := Lib.hid (show c7 < w4.heap.size from lt_of_heap O5.out)
    have N5 := Lib.hid (show BoxAt (w4.alloc (.cells #[.int .i64 n] 3)) w4.heap.size #[.int .i64 n] 3 from heap_alloc_new _ _)
    have al := (Below.refl w4.heap.size w4).alloc (Nat.le_refl _) (.cells #[.int .i64 n] 3)
    have I6 := Lib.hid (I5.out.grow al)
    have T6 := Lib.hid (T5.out.grow (foot_ptr c5 b) al)
    have Q6 := Lib.hid (Q5.out.grow al)
    have O6 := Lib.hid (O5.out.grow al)
    clear al T5 I5 P5 Q5 O5
    generalize World.alloc w4 _ = w5 at *
    generalize w4.heap.size = c8 at *
    gi_wp2
    refine ⟨trivial, ?_⟩
    refine (callsIn_wide.2 (Pi.ask_true 4 w5)).mono ?_
    rintro e w7 ⟨rfl, rfl⟩
    gi_wp2
    have AB := Lib.hid (blocks2 (w := w5) (a := .cells #[.int .i64 0, .int .i64 0, .int .i64 0, .int .i64 0, .int .i64 0, .int .i64 0, .int .i64 0, .int .i64 0] 170) (b := .cells #[.int .i64 0, .int .u64 0, .int .u64 0, .int .u64 0] 169) rfl)
    generalize World.alloc (World.alloc w5 _) _ = w6 at *
    have HC8 := Lib.hid (show c8 < w5.heap.size from lt_of_heap N5.out)
    generalize hca : w5.heap.size = ca at *
    generalize hcb : ca + 1 = cb at *
    have hab : ca < cb := by omega
    have L6 := Lib.hid (show LI p fa qa fc qc ⟨b, s, c5, c6, c7, c8, ca, cb⟩ n w [] Mk.start [] w6 from by
      obtain ⟨z0, z1, -, hB⟩ := AB.out
      rw [← hca] at hB
      exact ⟨I6.out.grow hB, T6.out.grow (foot_ptr c5 b) hB, Q6.out.grow hB, O6.out.grow hB, N5.out.grow hB, z0, z1, fun _ h => by cases h⟩)
    clear AB I6 T6 Q6 O6 N5 hca hcb
    clear w5
    have HM0 := Lib.hid (show p.plan n p.qn Mk.start = [] ++ p.plan n (p.qn - Mk.start.pot) Mk.start from rfl)
    have HE0 := Lib.hid (show ∃ r, p.end' (p.qn - Mk.start.pot) Mk.start = some r ∧ r ≤ n from ⟨n, HO.out, Int.le_refl _⟩)
    refine wpIn_loop (fun a' W => ∃ (L : List Stp) (m : Mk) (Ds : List Nat) (u0 u12 u13 u14 u15 u16 u17 u18 u19 u20 u21 u22 u23 u24 u25 u26 u27 u28 u29 u30 u31 u32 u33 u34 u35 u36 u37 u38 u39 u40 u41 u42 u43 u44 u45 : Value), LI p fa qa fc qc ⟨b, s, c5, c6, c7, c8, ca, cb⟩ n w L m Ds W ∧ Ds.Nodup ∧ L.length = m.pot ∧ m.Ok ∧ m.pot ≤ p.qn ∧ p.plan n p.qn Mk.start = L ++ p.plan n (p.qn - m.pot) m ∧ (∃ r, p.end' (p.qn - m.pot) m = some r ∧ r ≤ n) ∧
      a' = { tmps := #[u0, bp w.heap.size, .int .i64 0, .slice none 0 0, bp (w.heap.size + 1), bp c5, bp c6, bp c7, bp c8, .bool true, bp ca, bp cb, u12, u13, u14, u15, u16, u17, u18, u19, u20, u21, u22, u23, u24, u25, u26, u27, u28, u29, u30, u31, u32, u33, u34, u35, u36, u37, u38, u39, u40, u41, u42, u43, u44, u45, undef, undef, undef, undef, undef, undef, undef, undef, undef, undef, undef, undef, undef, undef, undef, undef, undef, undef, undef, undef, undef, undef, undef, undef, undef, undef, undef, undef, undef, undef, undef, undef, undef, undef, undef, undef], defers := Ds.map (fun D => { target := .collected D, args := #[] }) ++ [{ target := .fn (.func 73) #[], args := #[bp (w.heap.size + 1)] }] })
      (fun _ W => p.qn - (intOf ((W.cell? ⟨cb, 0, none⟩).getD undef)).toNat) ⟨[], Mk.start, [], _, _, _, _, _, _, _, _, _, _, _, _, _, _, _, _, _, _, _, _, _, _, _, _, _, _, _, _, _, _, _, _, _, _, _, L6.out, List.nodup_nil, rfl, start_ok, Nat.zero_le _, HM0.out, HE0.out, rfl⟩ ?_
    clear L6 HM0 HE0
    rintro a' W ⟨L, m, Ds, u0, u12, u13, u14, u15, u16, u17, u18, u19, u20, u21, u22, u23, u24, u25, u26, u27, u28, u29, u30, u31, u32, u33, u34, u35, u36, u37, u38, u39, u40, u41, u42, u43, u44, u45, hi, hnd, hlen, hmo, hle', hpl, hend, rfl⟩
    have HX := Lib.hid (And.intro hnd (And.intro hlen (And.intro hmo (And.intro hle' (And.intro hpl hend)))))
    have HI := Lib.hid hi
    have c0 := cellAt hi.mk' 0
    have d5 := cellAt (show BoxAt W c5 #[bp b] 154 from hi.tw.mi) 0
    obtain ⟨q0, q1, q2, q3, q4, q5, q6⟩ := box_cells hi.tw.box
    simp only [Mk.cs, List.getElem?_toArray, List.getElem?_cons_zero] at c0 d5
    clear hnd hlen hmo hle' hpl hend hi
    by_cases hlt : m.pot < p.qn
    · have hlt' : (m.pot : Int) < p.qn := by omega
      gi_wp2
      gi_quiet (fail)
      have hd := below_drewN (Below.refl W.heap.size W) nq
      have H1 := Lib.hid (HI.out.grow hle hd)
      have HMU := Lib.hid c0
      clear hd HI c0 d5 q0 q1 q2 q3 q4 q5 q6
      generalize World.drewN W nq = W1 at *
      have m0 := cellAt H1.out.mk' 0
      have m1 := cellAt H1.out.mk' 1
      have m2 := cellAt H1.out.mk' 2
      have m3 := cellAt H1.out.mk' 3
      have d5 := cellAt (show BoxAt W1 c5 #[bp b] 154 from H1.out.tw.mi) 0
      simp only [Mk.cs, List.getElem?_toArray, List.getElem?_cons_zero, List.getElem?_cons_succ] at m0 m1 m2 m3 d5
      have CS := Lib.hid (steps_any b m W1)
      unfold Mk.v Mk.cs at CS
      gi_wp2
      refine ⟨trivial, ?_⟩
      refine (callsIn_wide.2 CS.out).mono ?_
      rintro e W2 ⟨rfl, hw2⟩
      obtain ⟨x0, x1, -, hB⟩ := blocks2 hw2.symm
      have S2 := Lib.hid (show StW p fa qa fc qc b W1.heap.size (W1.heap.size + 1) m W2 from ⟨x0, x1, H1.out.tw.box.grow hB, H1.out.tw.at'.grow hB⟩)
      have H2 := Lib.hid (H1.out.grow hle hB)
      have hs1 : cb < W1.heap.size := lt_of_heap H1.out.mk'
      have hs2 := lt_of_heap x1
      have hsk : s + 2 < W2.heap.size := H2.out.tw.memo.lt
      have hDs : ∀ D ∈ Ds, D < W2.heap.size := fun D hD => lt_of_heap (H2.out.ds D hD).2
      have hww : w.heap.size ≤ W2.heap.size := by omega
      clear hw2 x0 x1 hB H1 m0 m1 m2 m3 d5 CS
      generalize W1.heap.size = s1 at *
      gi_wp2
      generalize hA : Act.mk _ _ = A0
      have hmo := HX.out.2.2.1
      refine wpIn_rangeFunc_ownH (w := W2) rfl (by omega) (gf := 100) (lb := #[bp s1, bp (s1 + 1)]) (by rw [← hA]; rfl) trivial (enters_of Tryz.func100 (by kernel_rfl) rfl)
        (steps_stops 8 p OK.out fa qa fc qc b s1 (s1 + 1) m hmo hlt W2 S2.out) (fun h k => KpC.trans h k) (kpC_b S2.out.lt) (Below.refl _ _) (fun _ => rfl)
        (fun (pre : List (StpIn p m)) W => (LI p fa qa fc qc ⟨b, s, c5, c6, c7, c8, ca, cb⟩ n w L m Ds W ∧ StW p fa qa fc qc b s1 (s1 + 1) m W) ∧ ∀ x ∈ pre, p.fits n m x.1 = false)
        (fun c (pre : List (StpIn p m)) W => c = .exit 2 ∧ ∃ q x, pre = q ++ [x] ∧ (∀ y ∈ q, p.fits n m y.1 = false) ∧ p.fits n m x.1 = true ∧ LI p fa qa fc qc ⟨b, s, c5, c6, c7, c8, ca, cb⟩ n w (L ++ [x.1]) x.1.m Ds W)
        (fun _ _ _ _ hs hg hr => ⟨⟨hs.1.1.own hww hsk hDs hg hr, hs.1.2.keep ⟨hg.size, fun _ hC => by
          obtain ⟨o, ho, hc⟩ := hs.1.2.cells hC
          exact grown_cells ho hc hg hr⟩⟩, hs.2⟩)
        (fun _ _ _ _ _ hs hg hr => by
          obtain ⟨h1, q, x, h2, h3, h4, h5⟩ := hs
          exact ⟨h1, q, x, h2, h3, h4, h5.own hww hsk hDs hg hr⟩) ⟨⟨H2.out, S2.out⟩, fun _ h => by cases h⟩
        (fun x a' W => ∃ Bx By, BoxAt W Bx #[.int .i64 x.1.f, .int .i64 x.1.h] 122 ∧ BoxAt W By x.1.m.cs 169 ∧ cb < Bx ∧ cb < By ∧ a' = { tmps := (((A0.tmps.setIfInBounds 46 (plV x.1.f x.1.h)).setIfInBounds 47 x.1.m.v).setIfInBounds 12 (bp Bx)).setIfInBounds 13 (bp By), defers := [] })
        (fun x a' s A B row hs hg hr => by obtain ⟨Bx, By, h1, h2, h3, h4, h5⟩ := hs; exact ⟨Bx, By, own_box h1 hg hr, own_box h2 hg hr, h3, h4, h5⟩) ?assign ?body ?done ?stop
      case assign =>
        subst hA
        intro l pre x W K hi hK
        obtain ⟨⟨xf, xh, xm⟩, hx⟩ := x
        have HI := Lib.hid hi
        have HK := Lib.hid hK
        clear hi hK
        simp only [Stp.vs, plV, Mk.v, Mk.cs] at *
        gi_wp2
        have hlt : cb < W.heap.size := lt_of_heap HI.out.1.1.mk'
        have al := ((Below.refl W.heap.size W).alloc (Nat.le_refl _) (.cells #[.int .i64 xf, .int .i64 xh] 122)).alloc (by simp) (.cells #[.int .i64 xm.pot, .int .u64 xm.b0, .int .u64 xm.b1, .int .u64 xm.b2] 169)
        obtain ⟨z0, z1, -, -⟩ := blocks2 (w := W) (a := .cells #[.int .i64 xf, .int .i64 xh] 122) (b := .cells #[.int .i64 xm.pot, .int .u64 xm.b0, .int .u64 xm.b1, .int .u64 xm.b2] 169) rfl
        exact HK.out _ _ (((KeepsOthers.alloc _ _).trans (KeepsOthers.alloc _ _)).from _) (KpC.below al HI.out.1.2.lt) ⟨⟨HI.out.1.1.grow hle al, HI.out.1.2.grow al⟩, HI.out.2⟩ ⟨W.heap.size, W.heap.size + 1, z0, z1, hlt, Nat.lt_succ_of_lt hlt, rfl⟩
      case body =>
        subst hA
        rintro l pre ⟨⟨xf, xh, xm⟩, hx⟩ a' W hl _ hi ⟨Bx, By, hbx, hby, nx, ny, rfl⟩ _
        obtain ⟨h1, h2, h3, h4⟩ := mem_steps.1 hx
        dsimp only at h1 h2 h3 h4
        have hno := next_ok OK.out hmo xf xh
        rw [← h4] at hno
        have HI := Lib.hid hi
        have PX := Lib.hid hbx
        have PY := Lib.hid hby
        have HXP := Lib.hid hno.2
        have HXO := Lib.hid hno.1
        have CR := Lib.hid (C4.out W HI.out.1.1.tw (p.qn - xm.pot) xm (by have := HXP.out; omega) hno.1)
        have HFT := Lib.hid (show p.fits n m ⟨xf, xh, xm⟩ = match p.end' (p.qn - xm.pot) xm with
          | none => false
          | some r => decide (p.late m.pot xf xh r ≤ n) from rfl)
        have HTE := Lib.hid (show p.tell p.late min 0 (p.qn - xm.pot) xm = p.end' (p.qn - xm.pot) xm from rfl)
        clear hi hbx hby h3 h4 hno
        have d7 := cellAt (show BoxAt W c7 #[.func (.func 99) #[] #[bp s, bp (s + 1), bp (s + 3), bp (s + 4)]] 162 from HI.out.1.1.of) 0
        have y0 := cellAt PY.out 0
        have y1 := cellAt PY.out 1
        have y2 := cellAt PY.out 2
        have y3 := cellAt PY.out 3
        unfold Mk.v at CR
        simp only [Mk.cs, Mk.v, plV, List.getElem?_toArray, List.getElem?_cons_zero, List.getElem?_cons_succ, List.setIfInBounds_toArray, List.set_cons_zero, List.set_cons_succ] at d7 y0 y1 y2 y3 CR ⊢
        gi_wp2
        refine ⟨trivial, ?_⟩
        with_reducible refine (calls_round CR.out).mono ?_
        rintro e w5 ⟨rfl, hk5, hm5⟩
        have I5 := Lib.hid (HI.out.1.1.keepX hle hk5 hm5)
        have X5 := Lib.hid (TW.box_keep' PX.out HI.out.1.1.tw.memo hk5)
        have Y5 := Lib.hid (TW.box_keep' PY.out HI.out.1.1.tw.memo hk5)
        have KP5 := Lib.hid (show KpC (StC p fa qa b s1 (s1 + 1)) W w5 from ⟨hk5.size, fun _ hC => by
          obtain ⟨o, ho, hc⟩ := HI.out.1.2.cells hC
          exact hk5.block _ ⟨lt_of_heap ho, cells_ne ho hc HI.out.1.1.tw.memo⟩⟩)
        have S5 := Lib.hid (HI.out.1.2.keep KP5.out)
        have KF5 := Lib.hid (keepsFrom_of hk5 hsk)
        have PRE := Lib.hid HI.out.2
        rw [HTE.out]
        clear hk5 hm5 HI PX PY CR d7 y0 y1 y2 y3 HTE
        generalize p.end' (p.qn - xm.pot) xm = o at *
        cases o with
        | none =>
          have HF2 := Lib.hid (show p.fits n m ⟨xf, xh, xm⟩ = false from HFT.out)
          simp only [knownX, Option.getD, Option.isSome]
          gi_wp2
          refine quiet_inRound (C := fun w' => ∃ j, w' = w5.drewN j) rfl (by kernel_rfl) (by kernel_rfl) (by kernel_rfl) ⟨1, rfl⟩ ?_
          repeat (first | gi_big_quiet_step (fail) | (refine wpQuietIn_step (fun _ _ _ _ => trivial) (fun K hK => ?_); go_simp; refine hK _ ?_; clear hK K))
          refine wpQuietIn_nil ?_
          rintro _ ⟨j, rfl⟩
          have hd := below_drewN (Below.refl w5.heap.size w5) j
          gi_wp2
          refine ⟨KF5.out.trans (keepsFrom_of (KeepX.below hd) hsk), KP5.out.trans (KpC.below hd S5.out.lt), ⟨I5.out.grow hle hd, S5.out.grow hd⟩, fun y hy => ?_⟩
          rcases List.mem_append.1 hy with h | h
          · exact PRE.out y h
          · rw [List.mem_singleton.1 h]; exact HF2.out
        | some r =>
          simp only [knownX, Option.getD, Option.isSome]
          gi_wp2
          refine quiet_inRound (C := fun w' => Below w5.heap.size w5 w') rfl (by kernel_rfl) (by kernel_rfl) (by kernel_rfl) (below_drewN (Below.refl w5.heap.size w5) 1) ?_
          have LD6 : ∀ W', Below w5.heap.size w5 W' → W'.cell? ⟨c6, 0, none⟩ = some (.func (.func 76) #[] #[bp c5]) := fun W' h => cellAt (I5.out.fn.grow h) 0
          have LD8 : ∀ W', Below w5.heap.size w5 W' → W'.cell? ⟨c8, 0, none⟩ = some (.int .i64 n) := fun W' h => cellAt (I5.out.n'.grow h) 0
          have LDb : ∀ W', Below w5.heap.size w5 W' → W'.cell? ⟨cb, 0, none⟩ = some (.int .i64 m.pot) := fun W' h => cellAt (I5.out.mk'.grow h) 0
          have LDx : ∀ W', Below w5.heap.size w5 W' → W'.cell? ⟨Bx, 0, none⟩ = some (.int .i64 xf) := fun W' h => cellAt (X5.out.grow h) 0
          have LDy : ∀ W', Below w5.heap.size w5 W' → W'.cell? ⟨Bx, 1, none⟩ = some (.int .i64 xh) := fun W' h => cellAt (X5.out.grow h) 1
          gi_big_quiet_step (fail)
          gi_big_quiet_step (fail)
          refine wpQuietIn_step (fun _ _ _ _ => trivial) (fun K hK => ?_)
          rw [if_pos (by rfl)]
          refine ⟨.func (.func 76) #[] #[bp c5], fun W' hW' => ?_, hK _ ?_⟩
          · skip; have k0 := LD6 W' hW'
            unfold Oper.quietAtIn
            simp [go_sem, k0, Oper.quietUponIn]
          clear hK K
          simp only [Act.put, List.setIfInBounds_toArray, List.set_cons_succ, List.set_cons_zero]
          refine wpQuietIn_step (fun _ _ _ _ => trivial) (fun K hK => ?_)
          rw [if_pos (by rfl)]
          refine ⟨bp cb, fun W' hW' => ?_, hK _ ?_⟩
          · skip
            unfold Oper.quietAtIn
            simp [go_sem, Oper.quietUponIn]
          clear hK K
          simp only [Act.put, List.setIfInBounds_toArray, List.set_cons_succ, List.set_cons_zero]
          refine wpQuietIn_step (fun _ _ _ _ => trivial) (fun K hK => ?_)
          rw [if_pos (by rfl)]
          refine ⟨.int .i64 m.pot, fun W' hW' => ?_, hK _ ?_⟩
          · skip; have k0 := LDb W' hW'
            unfold Oper.quietAtIn
            simp [go_sem, k0, Oper.quietUponIn]
          clear hK K
          simp only [Act.put, List.setIfInBounds_toArray, List.set_cons_succ, List.set_cons_zero]
          refine wpQuietIn_step (fun _ _ _ _ => trivial) (fun K hK => ?_)
          rw [if_pos (by rfl)]
          refine ⟨.agg #[.int .i64 xf, .int .i64 xh], fun W' hW' => ?_, hK _ ?_⟩
          · skip; have k0 := LDx W' hW'; have k1 := LDy W' hW'
            unfold Oper.quietAtIn
            simp [go_sem, k0, k1, Oper.quietUponIn]
          clear hK K
          simp only [Act.put, List.setIfInBounds_toArray, List.set_cons_succ, List.set_cons_zero]
          gi_big_quiet_step (fail)
          have CL : ∀ W', Below w5.heap.size w5 W' → Calls Tryz.prog 76 #[.int .i64 m.pot, plV xf xh, .int .i64 r, bp c5] W' fun e w' => e = .returned (.int .i64 (p.late m.pot xf xh r)) ∧ Below w5.heap.size w5 w' := fun W' h =>
            (best1_any p OK.out fa qa fc qc b c5 m.pot xf xh r W' ((show BoxAt w5 c5 #[bp b] 154 from I5.out.tw.mi).grow h) (I5.out.tw.box.grow h) (I5.out.tw.at'.grow h) hlt (Nat.le_of_lt h2)).mono fun e w' k => ⟨k.1, h.next k.2⟩
          refine wpQuietIn_step (fun _ _ _ _ => trivial) (fun K hK => ?_)
          rw [if_pos (by rfl)]
          refine ⟨.int .i64 (p.late m.pot xf xh r), fun W' hW' => ?_, hK _ ?_⟩
          · have k0 := Lib.hid ((callsIn_wide (n := 6)).2 (CL W' hW'))
            clear hK K CL LD6 LD8 LDb LDx LDy
            unfold plV at k0
            unfold Oper.quietAtIn
            simp [go_sem, Oper.quietUponIn]
            exact k0.out
          clear hK K
          simp only [Act.put, List.setIfInBounds_toArray, List.set_cons_succ, List.set_cons_zero]
          refine wpQuietIn_step (fun _ _ _ _ => trivial) (fun K hK => ?_)
          rw [if_pos (by rfl)]
          refine ⟨.int .i64 n, fun W' hW' => ?_, hK _ ?_⟩
          · skip; have k0 := LD8 W' hW'
            unfold Oper.quietAtIn
            simp [go_sem, k0, Oper.quietUponIn]
          clear hK K
          simp only [Act.put, List.setIfInBounds_toArray, List.set_cons_succ, List.set_cons_zero]
          clear LD6 LD8 LDb LDx LDy CL
          by_cases hyn : p.late m.pot xf xh r ≤ n
          · have HF2 := Lib.hid (show p.fits n m ⟨xf, xh, xm⟩ = true from HFT.out.trans (decide_eq_true hyn))
            refine wpQuietIn_step (fun _ _ _ _ => trivial) (fun K hK => ?_)
            rw [if_pos (by rfl)]
            refine ⟨.bool true, fun W' hW' => ?_, hK _ ?_⟩
            · skip
              unfold Oper.quietAtIn
              simp [go_sem, hyn, Oper.quietUponIn]
            clear hK K
            simp only [Act.put, List.setIfInBounds_toArray, List.set_cons_succ, List.set_cons_zero]
            refine wpQuietIn_step (fun _ _ _ _ => trivial) (fun K hK => ?_)
            rw [if_pos (by rfl)]
            refine ⟨.bool true, fun W' hW' => ?_, hK _ ?_⟩
            · unfold Oper.quietAtIn
              simp [go_sem, Oper.quietUponIn]
            clear hK K
            simp only [Act.put, List.setIfInBounds_toArray, List.set_cons_succ, List.set_cons_zero]
            refine wpQuietIn_nil ?_
            intro w6' hb6
            have I6 := Lib.hid (I5.out.grow hle hb6)
            have X6 := Lib.hid (X5.out.grow hb6)
            have Y6 := Lib.hid (Y5.out.grow hb6)
            have KF6 := Lib.hid (KF5.out.trans (keepsFrom_of (KeepX.below hb6) hsk))
            clear hb6 KP5 S5 I5 X5 Y5 KF5
            gi_wp2
            have hp4 : m.pot < 4 := Nat.lt_of_lt_of_le hlt OK.out.hqn
            have hd0 := below_drewN (Below.refl w6'.heap.size w6') 1
            refine region_inRound rfl (by kernel_rfl) (by kernel_rfl) (wpAnyIn_seven (St := fun b0 b1 b2 b3 b4 b5 b6 a' W' => ((b6 = true → b5 = true) ∧ (b5 = true → b4 = true) ∧ (b4 = true → b1 = true)) ∧ (∃ v65 v66 v67 v68 v69, (b0 = true → v65 = bp cb) ∧ (b1 = true → v66 = .int .i64 m.pot) ∧ (b2 = true → v67 = .agg #[.int .i64 xf, .int .i64 xh]) ∧ (b3 = true → v68 = .agg #[.int .i64 xm.pot, .int .u64 xm.b0, .int .u64 xm.b1, .int .u64 xm.b2]) ∧ (b4 = true → v69 = .pointer (some ⟨ca, m.pot * 2, none⟩)) ∧
                a' = { tmps := #[u0, bp w.heap.size, .int .i64 0, .slice none 0 0, bp (w.heap.size + 1), bp c5, bp c6, bp c7, bp c8, .bool true, bp ca, bp cb, bp Bx, bp By, .int .i64 r, .bool true, u16, u17, u18, u19, u20, u21, u22, u23, u24, u25, u26, u27, u28, u29, u30, u31, u32, u33, bp cb, .int .i64 m.pot, bp b, bp b, bp b, .pointer (some ⟨b, 4, none⟩), .slice qa p.qn qc, .int .i64 p.qn, .bool true, bp b, .agg #[.int .i64 m.pot, .int .u64 m.b0, .int .u64 m.b1, .int .u64 m.b2], .func (.func 100) #[] #[bp s1, bp (s1 + 1)], .agg #[.int .i64 xf, .int .i64 xh], .agg #[.int .i64 xm.pot, .int .u64 xm.b0, .int .u64 xm.b1, .int .u64 xm.b2], .tuple #[.int .i64 r, .bool true], .func (.func 99) #[] #[bp s, bp (s + 1), bp (s + 3), bp (s + 4)], .agg #[.int .i64 xm.pot, .int .u64 xm.b0, .int .u64 xm.b1, .int .u64 xm.b2], .tuple #[.int .i64 r, .bool true], .int .i64 r, .bool true, .bool true, .bool true, .func (.func 76) #[] #[bp c5], bp cb, .int .i64 m.pot, .agg #[.int .i64 xf, .int .i64 xh], .int .i64 r, .int .i64 (p.late m.pot xf xh r), .int .i64 n, .bool true, .bool true, v65, v66, v67, v68, v69, undef, undef, undef, undef, undef, undef, undef, undef, undef, undef, undef, undef], defers := [] }) ∧
                LI p fa qa fc qc ⟨b, s, c5, c6, c7, c8, ca, cb⟩ n w (if b5 then L ++ [⟨xf, xh, xm⟩] else L) (if b6 then xm else m) Ds W' ∧ BoxAt W' Bx #[.int .i64 xf, .int .i64 xh] 122 ∧ BoxAt W' By #[.int .i64 xm.pot, .int .u64 xm.b0, .int .u64 xm.b1, .int .u64 xm.b2] 169 ∧ KeepsFrom W2.heap.size W W')
              (fun i l => match i with
                | 0 => !l[0]!
                | 1 => l[0]! && !l[1]!
                | 2 => !l[2]!
                | 3 => !l[3]!
                | 4 => l[0]! && l[1]! && l[2]! && !l[4]!
                | 5 => l[4]! && l[2]! && !l[5]!
                | 6 => l[3]! && l[5]! && !l[6]!
                | _ => false) rfl (by kernel_rfl) ?fin ?step ?start)
            case start => exact ⟨⟨nofun, nofun, nofun⟩, ⟨_, _, _, _, _, nofun, nofun, nofun, nofun, nofun, rfl⟩, I6.out.grow hle hd0, X6.out.grow hd0, Y6.out.grow hd0, KF6.out.trans (keepsFrom_of (KeepX.below hd0) hsk)⟩
            case fin =>
              rintro a' W' ⟨-, ⟨v65, v66, v67, v68, v69, -, -, -, -, -, rfl⟩, hi, -, -, hkf⟩
              have I7 := Lib.hid hi
              have KF7 := Lib.hid hkf
              clear hi hkf I6 X6 Y6 KF6
              have HP := Lib.hid (show ∃ q x, pre ++ [(⟨⟨xf, xh, xm⟩, hx⟩ : StpIn p m)] = q ++ [x] ∧ (∀ y ∈ q, p.fits n m y.1 = false) ∧ p.fits n m x.1 = true ∧ LI p fa qa fc qc ⟨b, s, c5, c6, c7, c8, ca, cb⟩ n w (L ++ [x.1]) x.1.m Ds W' from ⟨pre, _, rfl, PRE.out, HF2.out, I7.out⟩)
              gi_wp2
              refine ⟨KF7.out, rfl, pre, ⟨xf, xh, xm⟩, ⟨hx, rfl⟩, fun y hy hm => PRE.out ⟨y, hy⟩ hm, HF2.out, I7.out⟩
            case step =>
              clear I6 X6 Y6 KF6
              have HC := Lib.hid (show w.heap.size + 1 < ca ∧ b < ca ∧ s + 4 < ca ∧ c5 < ca ∧ c6 < ca ∧ c7 < ca ∧ c8 < ca by have := NE5.out; have := NEb.out; have := NE6.out; have := HS.out; have := HC7.out; have := HC78.out; have := HC8.out; omega)
              rintro b0 b1 b2 b3 b4 b5 b6 a' W' ⟨e6, ⟨v65, v66, v67, v68, v69, e0, e1, e2, e3, e4, rfl⟩, hi, hxx, hyy, hkf⟩ i hf K hK
              match i, hf with
              | 0, hf =>
                simp [wpOpIn, go_sem, Oper.uponIn]
                exact hK true b1 b2 b3 b4 b5 b6 _ _ rfl ⟨e6, ⟨_, _, _, _, _, fun _ => rfl, e1, e2, e3, e4, rfl⟩, hi, hxx, hyy, hkf⟩
              | 1, hf =>
                have hf' : (b0 && !b1) = true := hf
                simp only [Bool.and_eq_true, Bool.not_eq_true'] at hf'
                obtain ⟨h0, h1⟩ := hf'
                subst h1
                have h6 : b6 = false := by
                  cases h : b6
                  · rfl
                  · exact (Bool.noConfusion (e6.2.2 (e6.2.1 (e6.1 h))))
                subst h6
                have h0 := e0 h0
                subst h0
                have k0 := cellAt hi.mk' 0
                simp only [Mk.cs, List.getElem?_toArray, List.getElem?_cons_zero, Bool.false_eq_true, if_false] at k0
                simp [wpOpIn, go_sem, Oper.uponIn, k0]
                exact hK b0 true b2 b3 b4 b5 false _ _ rfl ⟨⟨e6.1, e6.2.1, fun _ => rfl⟩, ⟨_, _, _, _, _, e0, fun _ => rfl, e2, e3, e4, rfl⟩, hi, hxx, hyy, hkf⟩
              | 2, hf =>
                have k0 := cellAt hxx 0
                have k1 := cellAt hxx 1
                simp only [List.getElem?_toArray, List.getElem?_cons_zero, List.getElem?_cons_succ] at k0 k1
                simp [wpOpIn, go_sem, Oper.uponIn, k0, k1]
                exact hK b0 b1 true b3 b4 b5 b6 _ _ rfl ⟨e6, ⟨_, _, _, _, _, e0, e1, fun _ => rfl, e3, e4, rfl⟩, hi, hxx, hyy, hkf⟩
              | 3, hf =>
                have k0 := cellAt hyy 0
                have k1 := cellAt hyy 1
                have k2 := cellAt hyy 2
                have k3 := cellAt hyy 3
                simp only [List.getElem?_toArray, List.getElem?_cons_zero, List.getElem?_cons_succ] at k0 k1 k2 k3
                simp [wpOpIn, go_sem, Oper.uponIn, k0, k1, k2, k3]
                exact hK b0 b1 b2 true b4 b5 b6 _ _ rfl ⟨e6, ⟨_, _, _, _, _, e0, e1, e2, fun _ => rfl, e4, rfl⟩, hi, hxx, hyy, hkf⟩
              | 4, hf =>
                have hf' : (b0 && b1 && b2 && !b4) = true := hf
                simp only [Bool.and_eq_true, Bool.not_eq_true'] at hf'
                obtain ⟨⟨⟨-, h1⟩, -⟩, -⟩ := hf'
                have h1' := e1 h1
                subst h1'
                have hp4i : (m.pot : Int) < 4 := by omega
                simp [wpOpIn, go_sem, Oper.uponIn, hp4i]
                exact hK b0 b1 b2 b3 true b5 b6 _ _ rfl ⟨⟨e6.1, fun _ => rfl, fun _ => h1⟩, ⟨_, _, _, _, _, e0, e1, e2, e3, fun _ => rfl, rfl⟩, hi, hxx, hyy, hkf⟩
              | 5, hf =>
                have hf' : (b4 && b2 && !b5) = true := hf
                simp only [Bool.and_eq_true, Bool.not_eq_true'] at hf'
                obtain ⟨⟨h4, h2⟩, h5⟩ := hf'
                subst h5
                have h6 : b6 = false := by
                  cases h : b6
                  · rfl
                  · exact (Bool.noConfusion (e6.1 h))
                subst h6
                have h4' := e4 h4
                have h2' := e2 h2
                subst h4' h2'
                simp only [Bool.false_eq_true, if_false] at hi
                have hl := HX.out.2.1
                have k0 := (cellAt hi.list (m.pot * 2)).trans (listC_at L (j := 0) hp4 (by decide))
                have k1 := (cellAt hi.list (m.pot * 2 + 1)).trans (listC_at L (j := 1) hp4 (by decide))
                have z0 := freeAt hi.list (m.pot * 2)
                have z1 := freeAt hi.list (m.pot * 2 + 1)
                simp [wpOpIn, go_sem, Oper.uponIn, k0, k1, z0, z1]
                refine hK b0 b1 b2 b3 b4 true false _ _ rfl ⟨⟨nofun, fun _ => h4, e6.2.2⟩, ⟨_, _, _, _, _, e0, e1, fun _ => rfl, e3, fun _ => rfl, rfl⟩, ?_, ?_, ?_, ?_⟩
                · have k := hi.write (L' := L ++ [⟨xf, xh, xm⟩]) (m' := m) (B := (W'.setCell ⟨ca, m.pot * 2, none⟩ (.int .i64 xf)).setCell ⟨ca, m.pot * 2 + 1, none⟩ (.int .i64 xh)) HA0.out (((Keep.refl _ _).set ca _ _ (by simp)).set ca _ _ (by simp)) HC.out
                    (by have h := (hi.list.store (m.pot * 2) (.int .i64 xf)).store (m.pot * 2 + 1) (.int .i64 xh)
                        rw [← hl] at h ⊢
                        rwa [listC_put L ⟨xf, xh, xm⟩ (by omega)] at h)
                    ((hi.mk'.set _ _ (by show ca ≠ cb; omega)).set _ _ (by show ca ≠ cb; omega))
                    (fun D hD => (Below.heap_setCell _ _ _ _ (by show D ≠ ca; dsimp only at hD; omega)).trans (Below.heap_setCell _ _ _ _ (by show D ≠ ca; dsimp only at hD; omega)))
                  exact k
                · exact (hxx.set _ _ (by show ca ≠ Bx; omega)).set _ _ (by show ca ≠ Bx; omega)
                · exact (hyy.set _ _ (by show ca ≠ By; omega)).set _ _ (by show ca ≠ By; omega)
                · exact hkf.trans (((KeepsOthers.setCell _ _ _).trans (KeepsOthers.setCell _ _ _)).from _)
              | 6, hf =>
                have hf' : (b3 && b5 && !b6) = true := hf
                simp only [Bool.and_eq_true, Bool.not_eq_true'] at hf'
                obtain ⟨⟨h3, h5⟩, h6⟩ := hf'
                subst h6 h5
                have h3' := e3 h3
                subst h3'
                simp only [Bool.false_eq_true, if_false] at hi
                have k0 := cellAt hi.mk' 0
                have k1 := cellAt hi.mk' 1
                have k2 := cellAt hi.mk' 2
                have k3 := cellAt hi.mk' 3
                simp only [Mk.cs, List.getElem?_toArray, List.getElem?_cons_zero, List.getElem?_cons_succ] at k0 k1 k2 k3
                have z0 := freeAt hi.mk' 0
                have z1 := freeAt hi.mk' 1
                have z2 := freeAt hi.mk' 2
                have z3 := freeAt hi.mk' 3
                simp [wpOpIn, go_sem, Oper.uponIn, k0, k1, k2, k3, z0, z1, z2, z3]
                refine hK b0 b1 b2 b3 b4 true true _ _ rfl ⟨⟨fun _ => rfl, e6.2.1, e6.2.2⟩, ⟨_, _, _, _, _, e0, e1, e2, fun _ => rfl, e4, rfl⟩, ?_, ?_, ?_, ?_⟩
                · have k := hi.write (L' := L ++ [⟨xf, xh, xm⟩]) (m' := xm) (B := (((W'.setCell ⟨cb, 0, none⟩ (.int .i64 xm.pot)).setCell ⟨cb, 1, none⟩ (.int .u64 xm.b0)).setCell ⟨cb, 2, none⟩ (.int .u64 xm.b1)).setCell ⟨cb, 3, none⟩ (.int .u64 xm.b2)) HA0.out
                    (((((Keep.refl _ _).set cb _ _ (by show ¬ cb < ca; omega)).set cb _ _ (by show ¬ cb < ca; omega)).set cb _ _ (by show ¬ cb < ca; omega)).set cb _ _ (by show ¬ cb < ca; omega)) HC.out
                    ((((hi.list.set _ _ (by show cb ≠ ca; omega)).set _ _ (by show cb ≠ ca; omega)).set _ _ (by show cb ≠ ca; omega)).set _ _ (by show cb ≠ ca; omega))
                    ((((hi.mk'.store 0 (.int .i64 xm.pot)).store 1 (.int .u64 xm.b0)).store 2 (.int .u64 xm.b1)).store 3 (.int .u64 xm.b2))
                    (fun D hD => (((Below.heap_setCell _ _ _ _ (by show D ≠ cb; dsimp only at hD; omega)).trans (Below.heap_setCell _ _ _ _ (by show D ≠ cb; dsimp only at hD; omega))).trans (Below.heap_setCell _ _ _ _ (by show D ≠ cb; dsimp only at hD; omega))).trans (Below.heap_setCell _ _ _ _ (by show D ≠ cb; dsimp only at hD; omega)))
                  exact k
                · exact (((hxx.set _ _ (by show cb ≠ Bx; omega)).set _ _ (by show cb ≠ Bx; omega)).set _ _ (by show cb ≠ Bx; omega)).set _ _ (by show cb ≠ Bx; omega)
                · exact (((hyy.set _ _ (by show cb ≠ By; omega)).set _ _ (by show cb ≠ By; omega)).set _ _ (by show cb ≠ By; omega)).set _ _ (by show cb ≠ By; omega)
                · exact hkf.trans ((((KeepsOthers.setCell _ _ _).trans (KeepsOthers.setCell _ _ _)).trans ((KeepsOthers.setCell _ _ _).trans (KeepsOthers.setCell _ _ _))).from _)
          · have HF2 := Lib.hid (show p.fits n m ⟨xf, xh, xm⟩ = false from HFT.out.trans (decide_eq_false hyn))
            refine wpQuietIn_step (fun _ _ _ _ => trivial) (fun K hK => ?_)
            rw [if_pos (by rfl)]
            refine ⟨.bool false, fun W' hW' => ?_, hK _ ?_⟩
            · skip
              unfold Oper.quietAtIn
              simp [go_sem, hyn, Oper.quietUponIn]
            clear hK K
            simp only [Act.put, List.setIfInBounds_toArray, List.set_cons_succ, List.set_cons_zero]
            refine wpQuietIn_step (fun _ _ _ _ => trivial) (fun K hK => ?_)
            rw [if_pos (by rfl)]
            refine ⟨.bool false, fun W' hW' => ?_, hK _ ?_⟩
            · unfold Oper.quietAtIn
              simp [go_sem, Oper.quietUponIn]
            clear hK K
            simp only [Act.put, List.setIfInBounds_toArray, List.set_cons_succ, List.set_cons_zero]
            refine wpQuietIn_nil ?_
            intro w6' hb6
            have HP := Lib.hid (show ∀ x ∈ pre ++ [(⟨⟨xf, xh, xm⟩, hx⟩ : StpIn p m)], p.fits n m x.1 = false from fun y hy => by
              rcases List.mem_append.1 hy with h | h
              · exact PRE.out y h
              · rw [List.mem_singleton.1 h]; exact HF2.out)
            gi_wp2
            refine ⟨KF5.out.trans (keepsFrom_of (KeepX.below hb6) hsk), KP5.out.trans (KpC.below hb6 S5.out.lt), ⟨I5.out.grow hle hb6, S5.out.grow hb6⟩, ?_⟩
            first | exact HP.out | exact fun y hs hy => HP.out ⟨y, hs⟩ hy | simpa using HP.out
      case done =>
        intro D xs W' _ hxs hi _
        obtain ⟨-, -, hmo, -, -, r, hr1, hr2⟩ := HX.out
        obtain ⟨k, hk⟩ : ∃ k, p.qn - m.pot = k + 1 := ⟨p.qn - m.pot - 1, by omega⟩
        rw [hk] at hr1
        obtain ⟨x, hf, hx, -⟩ := fits_some OK.out hmo (by omega) hr1 hr2
        rw [← hxs] at hx
        obtain ⟨y, hy, rfl⟩ := List.mem_map.1 hx
        exact absurd (List.find?_some hf) (by rw [hi.2 y hy]; exact Bool.false_ne_true)
      case stop =>
        rintro D c pre W' hD ⟨s', hs'⟩ ⟨rfl, q, x, rfl, hq, hfx, hli⟩ hDm
        obtain ⟨hnd, hlen, hmo, hle', hpl, r, hr1, hr2⟩ := HX.out
        obtain ⟨k, hk⟩ : ∃ k, p.qn - m.pot = k + 1 := ⟨p.qn - m.pot - 1, by omega⟩
        rw [hk] at hr1
        obtain ⟨y, hf, hy, hyo, hyp, r', hr3, hr4, hr5⟩ := fits_some OK.out hmo (by omega) hr1 hr2
        have hfind : (p.steps m).find? (p.fits n m) = some x.1 := find_first (q := q.map fun x => x.1) (s := s') (Eq.trans (by simp) hs') (fun z hz => by
            obtain ⟨z', hz', rfl⟩ := List.mem_map.1 hz
            exact hq z' hz') hfx
        rw [hfind] at hf
        obtain rfl := Option.some.inj hf
        have hkk : k = p.qn - x.1.m.pot := by omega
        have hpl' : p.plan n p.qn Mk.start = (L ++ [x.1]) ++ p.plan n (p.qn - x.1.m.pot) x.1.m := by
          rw [hpl, hk, List.append_assoc, ← hkk]
          simp [PN.plan, hfind]
        have hm1 : W'.cell? ⟨cb, 0, none⟩ = some (.int .i64 x.1.m.pot) := cellAt hli.mk' 0
        subst hA
        refine wpIn_exit ?_
        show _ ∧ _
        refine ⟨⟨L ++ [x.1], x.1.m, D :: Ds, _, _, _, _, _, _, _, _, _, _, _, _, _, _, _, _, _, _, _, _, _, _, _, _, _, _, _, _, _, _, _, _, _, _, _, hli.mark (Nat.lt_of_lt_of_le (show cb < W2.heap.size by omega) hD) hDm, List.nodup_cons.2 ⟨fun h => Nat.lt_irrefl _ (Nat.lt_of_le_of_lt hD (hDs D h)), hnd⟩, by simp [hlen, hyp], hyo, by omega, hpl', ⟨r', by rw [← hkk]; exact hr3, hr5⟩, rfl⟩, ?_⟩
        rw [hm1, HMU.out]
        simp only [Option.getD_some, intOf]
        omega
    · have hlt' : ¬ (m.pot : Int) < p.qn := by omega
      gi_wp2
      gi_quiet (fail)
      have hd := below_drewN (Below.refl W.heap.size W) nq
      have H1 := Lib.hid (HI.out.grow hle hd)
      clear hd HI c0 d5 q0 q1 q2 q3 q4 q5 q6
      generalize World.drewN W nq = W1 at *
      have HL := Lib.hid (show L = p.plan n p.qn Mk.start ∧ L.length = p.qn from by
        obtain ⟨-, h1, -, h2, h3, -⟩ := HX.out
        have e : m.pot = p.qn := by omega
        rw [e, Nat.sub_self] at h3
        exact ⟨by simpa [PN.plan] using h3.symm, h1.trans e⟩)
      have d5 := cellAt (show BoxAt W1 c5 #[bp b] 154 from H1.out.tw.mi) 0
      obtain ⟨q0, q1, q2, q3, q4, q5, q6⟩ := box_cells H1.out.tw.box
      simp only [List.getElem?_toArray, List.getElem?_cons_zero] at d5
      obtain ⟨cs, hcs, hmk⟩ := make_places W1 p.qn OK.out.hqn
      gi_upto_region 17 with (fail)
      have al := (Below.refl W1.heap.size W1).alloc (Nat.le_refl _) (.cells cs 122)
      have GG := Lib.hid (show BoxAt (W1.alloc (.cells cs 122)) W1.heap.size cs 122 from heap_alloc_new _ _)
      have H2 := Lib.hid (H1.out.grow hle al)
      have HG := Lib.hid (show w.heap.size ≤ W1.heap.size from H1.out.ci.bel.size)
      have HG2 := Lib.hid (show ca < W1.heap.size ∧ cb < W1.heap.size ∧ w.heap.size + 1 < W1.heap.size ∧ c8 < W1.heap.size from ⟨lt_of_heap H1.out.list, lt_of_heap H1.out.mk', lt_of_heap H1.out.ci.e, lt_of_heap H1.out.n'⟩)
      have HDG := Lib.hid (show ∀ D ∈ Ds, D < W1.heap.size from fun D hD => lt_of_heap (H1.out.ds D hD).2)
      have HCS := Lib.hid hcs
      clear hmk al d5 q0 q1 q2 q3 q4 q5 q6 hcs H1
      generalize World.alloc W1 _ = W2 at *
      generalize W1.heap.size = g at *
      clear W1
      obtain ⟨W3, hcp, hrow, hbel⟩ := copy_places GG.out HCS.out H2.out.list OK.out.hqn 3
      gi_upto_region 18 with (fail)
      have KW := Lib.hid (hbel g W2 (Below.refl _ _) (Nat.le_refl _))
      have BW := Lib.hid (hbel w.heap.size w H2.out.ci.bel HG.out)
      have RW := Lib.hid hrow
      have N3 := Lib.hid (show BoxAt W3 c8 #[.int .i64 n] 3 from (KW.out.block _ HG2.out.2.2.2).trans H2.out.n')
      have E3 := Lib.hid (show BoxAt W3 (w.heap.size + 1) #[.int .i64 0] 33 from (KW.out.block _ HG2.out.2.2.1).trans H2.out.ci.e)
      have D3 := Lib.hid (show ∀ D ∈ Ds, cb < D ∧ W3.heap[D]? = some (.deferred (some [])) from fun D hD => ⟨(H2.out.ds D hD).1, (KW.out.block _ (HDG.out D hD)).trans (H2.out.ds D hD).2⟩)
      clear hcp hrow hbel H2 KW GG
      have k0 := cellAt N3.out 0
      have k1 := cellAt E3.out 0
      have f1 := freeAt E3.out 0
      simp only [List.getElem?_toArray, List.getElem?_cons_zero] at k0 k1
      gi_wp2
      refine leaves_marks (by simp) Ds _ HX.out.1 (fun D hD => ?_) (fun W5 hk5 => ?_)
      · rw [Below.heap_setCell _ _ _ _ (by show D ≠ w.heap.size + 1; have := (D3.out D hD).1; have := hab; have := HG2.out; have := NE5.out; have := NE6.out; have := HS.out; have := HC7.out; have := HC78.out; have := HC8.out; omega)]
        exact (D3.out D hD).2
      · refine ⟨by simp, .inr ⟨(fun h => by cases h), _, _, 73, #[bp (w.heap.size + 1)], rfl, ?_, fun _ _ => trivial, ?_⟩⟩
        · simp [invoke, go_sem]
        · refine (Pi.answerIn_idle _ _ _).mono ?_
          rintro e u' w' ⟨rfl, rfl, rfl⟩
          have nd : ∀ D ∈ Ds, w.heap.size + 1 < D := fun D hD => by have := (D3.out D hD).1; have := NE5.out; have := NE6.out; have := HS.out; have := HC7.out; have := HC78.out; have := HC8.out; omega
          have hk : Keep (fun i => i ∉ Ds ∧ i ≠ w.heap.size + 1) W3 w' := ((Keep.refl _ _).set _ _ _ (by simp)).trans (hk5.mono fun i h => h.1)
          have r1 := (hk5.box (E3.out.store 0 (.int .i64 0)) (fun h => absurd (nd _ h) (Nat.lt_irrefl _)))
          have r2 := cellAt r1 0
          simp only [List.setIfInBounds_toArray, List.set_cons_zero, List.getElem?_toArray, List.getElem?_cons_zero] at r2
          exact ⟨.tuple #[.int .i64 n, .slice (some ⟨g, 0, none⟩) p.qn p.qn, .int .i64 0], by simp [results, Tryz.results52, go_sem, r2],
            BW.out.trans (hk.to_below fun k hk => ⟨fun h => by have := nd k h; omega, by omega⟩), by
              rw [HO.out]
              refine ⟨some ⟨g, 0, none⟩, rfl, ?_, fun _ => HG.out⟩
              rw [← HL.out.1]
              exact RW.out.keep hk fun _ => ⟨fun h => Nat.lt_irrefl _ (HDG.out _ h), by show g ≠ _; have := HG2.out; omega⟩⟩
end Go.Proofs.YtikeihnhkiipgaaGreat
