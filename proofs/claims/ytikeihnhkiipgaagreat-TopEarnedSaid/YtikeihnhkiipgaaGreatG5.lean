/-
  rows: the closure that goes on.
-/
import Derived.Test.YtikeihnhkiipgaaGreatQD7c
namespace Go.Proofs.YtikeihnhkiipgaaGreat
open Go.RowKit

/-- How it ends. -/
def OnPost (Jx : RE → World → Prop) (r0 : List Nat) (o : Option (List Nat)) (w : World) (e : Ending) (w' : World) : Prop :=
  (o = none ∧ e = .returned (.bool true) ∧ Below w.heap.size w w') ∨ (o = some r0 ∧ e = .returned (.bool false) ∧ ∃ y, Jx y w')
/-- What the loop keeps. -/
structure RJ (x : RX) (J : World → Prop) (w : World) (s : St) (oa : Option Addr) (row : List Nat) (W : World) : Prop where
  bel : Below w.heap.size w W
  rw : RK x J W
  st : BoxAt W w.heap.size s.cs 94
  row : IntsAt W oa row.length (natsF row)
theorem RJ.grow {x : RX} {J : World → Prop} {w A B : World} {s : St} {oa : Option Addr} {row : List Nat} (hJ : ∀ A B, J A → Below A.heap.size A B → J B) (h : RJ x J w s oa row A) (hb : Below A.heap.size A B) : RJ x J w s oa row B :=
  ⟨h.bel.next hb, h.rw.grow hJ hb, h.st.grow hb, h.row.grow hb⟩
theorem fs_none {sn : Nat} {p : Nat → Bool} {f : Nat → Option (List Nat)} (h : ∀ i, i < sn → p i = true → f i = none) : ((List.range sn).findSome? fun n => if p n then f n else none) = none :=
  List.findSome?_eq_none_iff.2 fun i hi => by
    split
    · rename_i hc
      exact h i (List.mem_range.1 hi) hc
    · rfl
theorem fs_hit {sn n : Nat} {p : Nat → Bool} {f : Nat → Option (List Nat)} {r : List Nat} (hn : n < sn) (h1 : ∀ i, i < n → p i = true → f i = none) (h2 : p n = true) (h3 : f n = some r) : ((List.range sn).findSome? fun n => if p n then f n else none) = some r := by
  obtain ⟨d, hd⟩ : ∃ d, sn = n + (1 + d) := ⟨sn - n - 1, by omega⟩
  rw [hd, List.range_eq_range', ← List.range'_append_1, List.findSome?_append, List.findSome?_eq_none_iff.2 (fun i hi => by
    have := List.mem_range'_1.1 hi
    split
    · rename_i hc
      exact h1 i (by omega) hc
    · rfl)]
  rw [show 1 + d = d + 1 by omega, List.range'_succ]
  simp [h2, h3]
theorem ext_none {n : Nat} {p : Nat → Bool} {f : Nat → Option (List Nat)} (h : ∀ i, i < n → p i = true → f i = none) (hn : p n = true → f n = none) : ∀ i, i < n + 1 → p i = true → f i = none := fun i hi hp => by
  rcases Nat.lt_or_ge i n with h1 | h1
  · exact h i h1 hp
  · obtain rfl : i = n := by omega
    exact hn hp
set_option maxRecDepth 100000 in
set_option maxHeartbeats 4000000 in
theorem on_loop (x : RX) (ok : x.g.Ok) (J : World → Prop) (Jx : RE → World → Prop) (hJ : ∀ A B, J A → Below A.heap.size A B → J B) (r0 : List Nat) (hcr : x.crew < x.g.cn) (hso : x.some < 2 ^ x.g.sn)
    (oa : Option Addr) (cap : Nat) (row : List Nat) (s : St) (w : World) (h : RK x J w) (hs : s.s ≠ x.some) (hs32 : s.s < 32) (hsh : s.h ≤ 24) (hA : IntsAt w oa row.length (natsF row))
    (FN : Nat → Option (List Nat)) (hlen : ∀ n, n < x.g.sn → x.g.cnx x.crew x.some s n = true → row.length ≤ 4)
    (hres : ∀ r, ((List.range x.g.sn).findSome? fun n => if x.g.cnx x.crew x.some s n then FN n else none) = some r → r = r0)
    (IH : ∀ n oa' cap' W, n < x.g.sn → x.g.cnx x.crew x.some s n = true → (∀ r, FN n = some r → r = r0) → RK x J W → IntsAt W oa' (row.length + 1) (natsF (row ++ [n])) → x.lo ≤ blk oa' →
      Calls Tryz.prog 62 #[.slice oa' (row.length + 1) cap', (x.g.nxt s x.crew n).v, bp x.s3, bp x.s4, bp x.s1, bp x.s5, bp x.s2, bp x.s6] W (OnPost Jx r0 (FN n) W)) :
    Calls Tryz.prog 62 #[.slice oa row.length cap, s.v, bp x.s3, bp x.s4, bp x.s1, bp x.s5, bp x.s2, bp x.s6] w (OnPost Jx r0 ((List.range x.g.sn).findSome? fun n => if x.g.cnx x.crew x.some s n then FN n else none) w) := by
  have al := (Below.refl w.heap.size w).alloc (Nat.le_refl _) (.cells s.cs 94)
  have I0 := Lib.hid (show RJ x J w s oa row (w.alloc (.cells s.cs 94)) from ⟨al, h.grow hJ al, heap_alloc_new _ _, hA.grow al⟩)
  have OK := Lib.hid ok
  have HJ := Lib.hid hJ
  have HRES := Lib.hid hres
  have HLEN := Lib.hid hlen
  have HIH := Lib.hid IH
  have HCR := Lib.hid hcr
  have HSO := Lib.hid (show x.some < 32 from Nat.lt_of_lt_of_le hso (by have : 2 ^ x.g.sn ≤ 2 ^ 5 := Nat.pow_le_pow_right (by omega) ok.hsn; omega))
  have HS32 := Lib.hid hs32
  have HSH := Lib.hid hsh
  have hne : ((s.s : Int) == (x.some : Int)) = false := beq_false_of_ne (by omega)
  clear al h hA hJ hres hlen IH hcr hso hs32 hsh hs ok
  unfold St.v
  generalize hF : ((List.range x.g.sn).findSome? fun n => if x.g.cnx x.crew x.some s n then FN n else none) = FF at *
  have HF := Lib.hid hF
  clear hF
  go_enter Tryz.func62, Tryz.ntmps62
  unfold St.cs at *
  go_wp2_with fail
  go_step3
  go_upto_region 1 with (fail)
  generalize World.alloc w _ = w0 at *
  have c0 := cellAt I0.out.st 0
  have d0 := cellAt I0.out.rw.sb 0
  simp only [St.cs, List.getElem?_toArray, List.getElem?_cons_zero] at c0 d0
  go_wp2_with fail
  clear c0 d0 hne
  go_step3
  have g0 := cellAt I0.out.rw.gb 0
  obtain ⟨q0, -, -⟩ := I0.out.rw.kw.gw.cells
  simp only [List.getElem?_toArray, List.getElem?_cons_zero] at g0
  go_wp2_with fail
  clear g0 q0
  go_loopw [28] (fun i W => ∃ n : Nat, n ≤ x.g.sn ∧ i = .int .i64 n ∧ (∀ j, j < n → x.g.cnx x.crew x.some s j = true → FN j = none) ∧ RJ x J w s oa row W) (fun i _ => x.g.sn - (intOf i).toNat)
  case atStart => exact ⟨0, Nat.zero_le _, rfl, fun j hj => by omega, I0.out⟩
  case round =>
    clear I0
    obtain ⟨n, hn, rfl, hno, hI⟩ := hrel
    have I1 := Lib.hid hI
    have NO := Lib.hid hno
    clear hI hno
    by_cases hlt : n < x.g.sn
    · have hlt' : (n : Int) < x.g.sn := by omega
      have hmeas : x.g.sn - (n + 1) < x.g.sn - n := by omega
      have HW := Lib.hid (succ64 (show n < 100 by have := OK.out.hsn; omega))
      have C1 := Lib.hid (fun W => without_any x.some s.s W (by have := HSO.out; omega) (by have := HS32.out; omega))
      have HM := Lib.hid (or_mask (s := s.s) (m := x.some) (n := n) (by have := HS32.out; omega) (by have := OK.out.hsn; omega))
      have HML := Lib.hid (show x.some &&& (18446744073709551615 - s.s) < 18446744073709551616 from Nat.lt_of_le_of_lt Nat.and_le_left (by have := HSO.out; omega))
      have HCX := Lib.hid (show x.g.cnx x.crew x.some s n = (x.some.testBit n && !s.s.testBit n && x.g.kn x.crew n && decide ((x.g.nxt s x.crew n).h ≤ x.g.fl n)) from rfl)
      rw [← HM.out] at HCX
      generalize x.some &&& (18446744073709551615 - s.s) = mk at *
      have C2 := Lib.hid (fun W => has_any mk n W HML.out (by have := OK.out.hsn; omega))
      generalize mk.testBit n = tb at *
      clear HM
      have C3 := Lib.hid (fun W (h : KW x.g x.a x.b x.r x.rc x.crew x.c W) => knows1_any x.g OK.out x.a x.b x.r x.rc x.crew x.c n HCR.out hlt W h)
      have m0 : ∀ W, (callFunc 87 #[.int .i64 n, bp (x.c + 1), bp x.c]).run Tryz.prog W = .ok (.enter 87 #[.int .i64 n, bp (x.c + 1), bp x.c]) W := fun _ => by kernel_rfl
      generalize hkn : x.g.kn x.crew n = kn at *
      clear hkn
      have c0 := cellAt I1.out.st 0
      have d0 := cellAt I1.out.rw.sb 0
      have k0 := cellAt I1.out.rw.kb 0
      unfold knV at k0
      simp only [St.cs, List.getElem?_toArray, List.getElem?_cons_zero] at c0 d0 k0
      cases tb with
      | false =>
        have HN := Lib.hid (show x.g.cnx x.crew x.some s n = true → FN n = none from fun e => by rw [HCX.out] at e; cases e)
        go_wp2_with (first
          | (go_at_call 63; refine (C1.out _).mono ?_; rintro e w' ⟨rfl, rfl⟩)
          | (go_at_call 57; refine (C2.out _).mono ?_; rintro e w' ⟨rfl, rfl⟩))
        rw [HW.out]
        exact ⟨⟨n + 1, hlt, rfl, ext_none NO.out HN.out, I1.out⟩, hmeas⟩
      | true =>
        cases kn with
        | false =>
          have HN := Lib.hid (show x.g.cnx x.crew x.some s n = true → FN n = none from fun e => by rw [HCX.out] at e; cases e)
          go_wp2_with (first
            | (go_at_call 63; refine (C1.out _).mono ?_; rintro e w' ⟨rfl, rfl⟩)
            | (go_at_call 57; refine (C2.out _).mono ?_; rintro e w' ⟨rfl, rfl⟩)
            | (go_at_call 87; refine (C3.out _ I1.out.rw.kw).mono ?_; rintro e w' ⟨rfl, rfl⟩))
          rw [HW.out]
          exact ⟨⟨n + 1, hlt, rfl, ext_none NO.out HN.out, I1.out⟩, hmeas⟩
        | true =>
          go_upto_region 7 with (first
            | (go_at_call 63; refine (C1.out _).mono ?_; rintro e w' ⟨rfl, rfl⟩)
            | (go_at_call 57; refine (C2.out _).mono ?_; rintro e w' ⟨rfl, rfl⟩)
            | (go_at_call 87; refine (C3.out _ I1.out.rw.kw).mono ?_; rintro e w' ⟨rfl, rfl⟩))
          clear C1 C2 C3 m0 HML d0 k0
          have g0 := cellAt I1.out.rw.gb 0
          have b0 := cellAt I1.out.rw.cb 0
          have c1 := cellAt I1.out.st 1
          simp only [St.cs, List.getElem?_toArray, List.getElem?_cons_zero, List.getElem?_cons_succ] at g0 b0 c1
          have C5 := Lib.hid (next_any x.g OK.out x.a x.b x.r x.rc s x.crew n HCR.out hlt (by have := HS32.out; omega) (by have := HSH.out; omega) wr I1.out.rw.kw.gw)
          unfold St.v St.cs slowV at C5
          have HZ := Lib.hid (fun oa' cap' W => HIH.out n oa' cap' W hlt)
          have HZS := Lib.hid (HS32.out)
          generalize hz : x.g.nxt s x.crew n = z at *
          clear hz HIH
          go_upto_region 8 with (go_at_call 64; refine C5.out.mono ?_; rintro e w4 ⟨rfl, hb4⟩)
          have al4 := (Below.refl w4.heap.size w4).alloc (Nat.le_refl _) (.cells #[.int .u64 z.s, .int .i64 z.h] 94)
          have I5 := Lib.hid ((I1.out.grow HJ.out hb4).grow HJ.out al4)
          have Y5 := Lib.hid (show BoxAt (w4.alloc (.cells #[.int .u64 z.s, .int .i64 z.h] 94)) w4.heap.size z.cs 94 from heap_alloc_new w4 _)
          clear hb4 al4 C5 I1 g0 b0 c0 c1
          generalize World.alloc w4 _ = w5 at *
          generalize w4.heap.size = x12 at *
          have y1 := cellAt Y5.out 1
          have g0 := cellAt I5.out.rw.gb 0
          obtain ⟨q0, -, -⟩ := I5.out.rw.kw.gw.cells
          have hi := fun W => run_indexAt_row (w := W) (cap := x.a.sc) Tryz.underlying22 size_seam (I5.out.rw.kw.gw.at'.s.plain (by omega)) hlt
          have s0 := (I5.out.rw.kw.gw.at'.seams hlt).2.2.1
          simp only [St.cs, List.getElem?_toArray, List.getElem?_cons_zero, List.getElem?_cons_succ] at y1 g0
          by_cases d2 : z.h ≤ x.g.fl n
          · have d2' : ¬ (x.g.fl n : Int) < (z.h : Int) := by omega
            have HC := Lib.hid (show x.g.cnx x.crew x.some s n = true from by rw [HCX.out, decide_eq_true d2]; rfl)
            have hl4 := HLEN.out n hlt HC.out
            clear HCX HLEN d2
            go_quiet (fail)
            have I6 := Lib.hid (I5.out.grow HJ.out (below_drewN (Below.refl w5.heap.size w5) nq))
            have Y6 := Lib.hid (Y5.out.grow (below_drewN (Below.refl w5.heap.size w5) nq))
            clear y1 g0 q0 s0 d2' hi I5 Y5
            generalize World.drewN w5 nq = w6 at *
            obtain ⟨cs, hcs, hmk⟩ := make_row w6 row.length (by omega)
            rw [show ((row.length + 1 : Nat) : Int) = (row.length : Int) + 1 from rfl] at hmk
            go_upto_region 10 with (fail)
            have al := (Below.refl w6.heap.size w6).alloc (Nat.le_refl _) (.cells cs 3)
            have GG := Lib.hid (show BoxAt (w6.alloc (.cells cs 3)) w6.heap.size cs 3 from heap_alloc_new _ _)
            have B7 := Lib.hid al
            obtain ⟨w8, hcp, hown, hbel⟩ := copy_row (cap := cap) GG.out hcs ((I6.out.grow HJ.out al).row) (by omega) 3
            clear hmk al
            generalize World.alloc w6 _ = w7 at *
            go_upto_region 11 with (fail)
            have B8 := Lib.hid (hbel w6.heap.size w6 B7.out (Nat.le_refl _))
            have O8 := Lib.hid (hown w6.heap.size (Nat.le_refl _))
            have FX := Lib.hid (fun W (h : Below w6.heap.size w6 W) => (show W.cell? ⟨x.s6, 0, none⟩ = some x.onV ∧ W.cell? ⟨x12, 0, none⟩ = some (.int .u64 z.s) ∧ W.cell? ⟨x12, 1, none⟩ = some (.int .i64 z.h) from ⟨cellAt (I6.out.grow HJ.out h).rw.ob 0, cellAt (Y6.out.grow h) 0, cellAt (Y6.out.grow h) 1⟩))
            unfold RX.onV at FX
            clear hcp hown hbel GG B7 hcs Y6
            have HR := Lib.hid (fun r (hr : FN n = some r) => HRES.out r (HF.out.symm.trans (fs_hit hlt NO.out HC.out hr)))
            have HL5 := Lib.hid (show row.length ≤ 5 by omega)
            refine wp_region_stg (S := fun _ => True) (L := [(6, fun W : World => W.cell? ⟨x.s6, 0, none⟩ = some (.func (.func 62) #[] #[bp x.s3, bp x.s4, bp x.s1, bp x.s5, bp x.s2, bp x.s6]) ∧ W.cell? ⟨x12, 0, none⟩ = some (.int .u64 z.s) ∧ W.cell? ⟨x12, 1, none⟩ = some (.int .i64 z.h))]) (D := [(6, 0), (6, 5)]) (by kernel_rfl) (by kernel_rfl) trivial (by intro e he; simp only [List.mem_cons, List.mem_nil_iff, or_false] at he; subst he; exact FX.out _ B8.out.drew) (fun hC0 hH0 => ?_)
            refine wpAnyT_take (i := 0) (oi := _) (v := ?_) rfl (by kernel_rfl) (by kernel_rfl) (by kernel_rfl) (fun _ _ _ h => h) (by kernel_rfl) (by rfl) hC0 (Or.inl ⟨by rfl, ?_⟩) hH0 (fun hC1 hH1 => ?_)
            rotate_left
            · (intro w9 hSw; obtain ⟨-, hLw⟩ := hSw; have hL := hLw _ (List.mem_singleton.2 rfl) (by kernel_rfl); dsimp only at hL; (go_split_ands; go_simp); (try with_reducible rfl))
            clear hC0 hH0
            try simp only [Act.put, List.setIfInBounds_toArray]
            refine wpAnyT_take (i := 1) (oi := _) (v := ?_) rfl (by kernel_rfl) (by kernel_rfl) (by kernel_rfl) (fun _ _ _ h => h) (by kernel_rfl) (by rfl) hC1 (Or.inl ⟨by rfl, ?_⟩) hH1 (fun hC2 hH2 => ?_)
            rotate_left
            · (intro w9 hSw; obtain ⟨-, hLw⟩ := hSw; clear hLw; (go_split_ands; go_simp); (try with_reducible rfl))
            clear hC1 hH1
            try simp only [Act.put]
            refine wpAnyT_take (i := 2) (oi := _) (v := ?_) rfl (by kernel_rfl) (by kernel_rfl) (by kernel_rfl) (fun _ _ _ h => h) (by kernel_rfl) (by rfl) hC2 (Or.inl ⟨by rfl, ?_⟩) hH2 (fun hC3 hH3 => ?_)
            rotate_left
            · (intro w9 hSw; obtain ⟨-, hLw⟩ := hSw; clear hLw; (go_split_ands; go_simp); (try with_reducible rfl))
            clear hC2 hH2
            try simp only [Act.put]
            refine wpAnyT_take (i := 5) (oi := _) (v := ?_) rfl (by kernel_rfl) (by kernel_rfl) (by kernel_rfl) (fun _ _ _ h => h) (by kernel_rfl) (by rfl) hC3 (Or.inl ⟨by rfl, ?_⟩) hH3 (fun hC4 hH4 => ?_)
            rotate_left
            · (intro w9 hSw; obtain ⟨-, hLw⟩ := hSw; have hL := hLw _ (List.mem_singleton.2 rfl) (by kernel_rfl); dsimp only at hL; (go_split_ands; go_simp); (try with_reducible rfl))
            clear hC3 hH3
            try simp only [Act.put]
            have al := (Below.refl w8.heap.size w8).alloc (Nat.le_refl _) (.cells #[.int .i64 n] 3)
            have B9 := Lib.hid ((B8.out.trans (al.mono B8.out.size)).drew)
            have O9 := Lib.hid (own_grow O8.out al.drew)
            have Y9 := Lib.hid (show BoxAt ((w8.alloc (.cells #[.int .i64 n] 3)).drew) w8.heap.size #[.int .i64 n] 3 from heap_alloc_new w8 _)
            clear al
            refine wpAnyT_one (i := 3) (o := _) (by kernel_rfl) rfl (by kernel_rfl) hC4 (fun K hK => ?_)
            clear hC4 hH4
            go_simp
            refine hK.out _ _ ?_ (fun hC5 hH5 => ?_)
            · exact ⟨trivial, fun e he _ => by simp only [List.mem_cons, List.mem_nil_iff, or_false] at he; subst he; exact FX.out _ B9.out⟩
            clear hK K O8 B8
            try simp only [Act.put, List.setIfInBounds_toArray, List.set_cons_zero, List.set_cons_succ]
            generalize World.drew (World.alloc w8 _) = w9 at *
            generalize w8.heap.size = y9 at *
            refine wpAnyT_one (i := 4) (o := _) (by kernel_rfl) rfl (by kernel_rfl) hC5 (fun K hK => ?_)
            clear hC5 hH5
            refine step_appInt (w := w9) (by rfl) (.tmp 73) (.tmp 75) (by rfl) (by rfl) O9.out (b := y9) (u := n) (by rfl) Y9.out (by have := HL5.out; omega) B9.out.size ?_
            intro gg gcap wA hwA hgA _
            have BA := Lib.hid (B9.out.grown hgA B9.out.size (fun k e => by cases e; exact Nat.le_refl _))
            obtain ⟨oa2, cap2, hv2, hrow2, hbl⟩ := own_row (cell := fun i _ => .int .i64 (natsF (row ++ [n]) i)) hwA (by have := HL5.out; unfold maxLen; omega) (fun i hi j hj => by
              obtain rfl : j = 0 := by omega
              have e := rowVals_nats (row ++ [n])
              rw [List.map_append, List.map_cons, List.map_nil] at e
              rw [Nat.mul_one, Nat.add_zero, ← e, rowVals_get _ _ _ (by rw [List.length_append]; exact hi)])
            cases hv2
            have RA := Lib.hid hrow2
            clear hwA hgA hrow2 O9 Y9
            refine hK.out _ _ ?_ (fun hC6 hH6 => ?_)
            · exact ⟨trivial, fun e he _ => by simp only [List.mem_cons, List.mem_nil_iff, or_false] at he; subst he; exact FX.out _ BA.out⟩
            clear hK K B9
            try simp only [Act.put, List.setIfInBounds_toArray]
            have C6 := Lib.hid (HZ.out (some ⟨gg, 0, none⟩) gcap wA HC.out HR.out ((I6.out.grow HJ.out BA.out).rw) RA.out (Nat.le_trans I6.out.rw.lo (hbl (Nat.succ_pos _))))
            unfold St.v St.cs at C6
            clear hbl
            refine wpAnyT_one (i := 6) (o := _) (by kernel_rfl) rfl (by kernel_rfl) hC6 (fun K hK => ?_)
            clear hC6 hH6
            go_simp
            (with_reducible refine C6.out.mono ?_)
            rintro e wB (⟨hfn, rfl, hbB⟩ | ⟨hfn, rfl, hjx⟩)
            · have HN := Lib.hid (fun _ : x.g.cnx x.crew x.some s n = true => hfn)
              have IB := Lib.hid ((I6.out.grow HJ.out BA.out).grow HJ.out hbB)
              clear hfn hbB C6
              go_wp2_with fail
              refine hK.out _ _ ?_ (fun hC7 hH7 => ?_)
              · exact ⟨trivial, fun e he h => by simp only [List.mem_cons, List.mem_nil_iff, or_false] at he; subst he; exact absurd h (by intro hx; exact Bool.false_ne_true (hx.symm.trans (by kernel_rfl)))⟩
              clear hK K
              try simp only [Act.put, List.setIfInBounds_toArray, List.set_cons_zero, List.set_cons_succ]
              refine wpAnyT_take (i := 7) (oi := _) (v := ?_) rfl (by kernel_rfl) (by kernel_rfl) (by kernel_rfl) (fun _ _ _ h => h) (by kernel_rfl) (by rfl) hC7 (Or.inl ⟨by rfl, ?_⟩) hH7 (fun hC8 hH8 => ?_)
              rotate_left
              · (intro w9 hSw; obtain ⟨-, hLw⟩ := hSw; clear hLw; (go_split_ands; go_simp); (try with_reducible rfl))
              clear hC7 hH7
              try simp only [Act.put, List.setIfInBounds_toArray]
              refine wpAnyT_done (by kernel_rfl) ?_ _
              clear hC8 hH8
              go_wp2_with fail
              rw [HW.out]
              exact ⟨⟨n + 1, hlt, rfl, ext_none NO.out HN.out, IB.out⟩, hmeas⟩
            · have HN := Lib.hid (show FF = some r0 from HF.out.symm.trans (fs_hit hlt NO.out HC.out hfn))
              have JX := Lib.hid hjx
              clear hfn hjx C6
              go_wp2_with fail
              refine hK.out _ _ ?_ (fun hC7 hH7 => ?_)
              · exact ⟨trivial, fun e he h => by simp only [List.mem_cons, List.mem_nil_iff, or_false] at he; subst he; exact absurd h (by intro hx; exact Bool.false_ne_true (hx.symm.trans (by kernel_rfl)))⟩
              clear hK K
              try simp only [Act.put, List.setIfInBounds_toArray, List.set_cons_zero, List.set_cons_succ]
              refine wpAnyT_take (i := 7) (oi := _) (v := ?_) rfl (by kernel_rfl) (by kernel_rfl) (by kernel_rfl) (fun _ _ _ h => h) (by kernel_rfl) (by rfl) hC7 (Or.inl ⟨by rfl, ?_⟩) hH7 (fun hC8 hH8 => ?_)
              rotate_left
              · (intro w9 hSw; obtain ⟨-, hLw⟩ := hSw; clear hLw; (go_split_ands; go_simp); (try with_reducible rfl))
              clear hC7 hH7
              try simp only [Act.put, List.setIfInBounds_toArray]
              refine wpAnyT_done (by kernel_rfl) ?_ _
              clear hC8 hH8
              go_wp2_with fail
              go_ret
              exact .inr ⟨HN.out, rfl, JX.out⟩
          · have d2' : (x.g.fl n : Int) < (z.h : Int) := by omega
            have HN := Lib.hid (show x.g.cnx x.crew x.some s n = true → FN n = none from fun e => by rw [HCX.out, decide_eq_false d2] at e; cases e)
            clear HCX HLEN d2
            go_quiet (fail)
            have I6 := Lib.hid (I5.out.grow HJ.out (below_drewN (Below.refl w5.heap.size w5) nq))
            clear y1 g0 q0 s0 d2' hi I5 Y5
            generalize World.drewN w5 nq = w6 at *
            go_wp2_with fail
            rw [HW.out]
            exact ⟨⟨n + 1, hlt, rfl, ext_none NO.out HN.out, I6.out⟩, hmeas⟩
    · have hlt' : ¬ (n : Int) < x.g.sn := by omega
      obtain rfl : n = x.g.sn := by omega
      have HN := Lib.hid (HF.out.symm.trans (fs_none NO.out))
      go_wp2_with fail
      go_ret
      exact .inl ⟨HN.out, rfl, I1.out.bel⟩
end Go.Proofs.YtikeihnhkiipgaaGreat
