/-
  Walks: awake.
  Plain laws: what is put right is right: a book of which one bit was spoilt.
  Walks: BookMend.
-/
import Derived.Test.YtclbmlmlhiiaeaaGreatDoorQRG
import Derived.Test.YtclbmlmlhiiaeaaGreatDoorQN0
import Derived.Test.YtclbmlmlhiiaeaaGreatDoorQA7
namespace Go.Proofs.YtclbmlmlhiiaeaaGreatDoor
open Go.RowKit

theorem seal47_ex (w : World) : Calls Tryz.prog 47 #[] w (fun e w' => e = .returned (.slice (some ⟨w.heap.size, 0, none⟩) 5 5) ∧ w' = w.alloc (.cells #[.int .u8 73, .int .u8 5, .int .u8 0, .int .u8 128, .int .u8 76] 5)) := by
  go_enter Tryz.func47, Tryz.ntmps47
  go_wp2_with fail
  go_ret
  exact ⟨rfl, rfl⟩
/-- What stands, and grows with the world. -/
structure AG (w : World) (P : World → Prop) (W : World) : Prop where
  bel : Below w.heap.size w W
  p : P W
  g : ∀ W W', P W → Below W.heap.size W W' → P W'
theorem AG.grow {w W W' : World} {P : World → Prop} (h : AG w P W) (hb : Below W.heap.size W W') : AG w P W' := ⟨h.bel.next hb, h.g _ _ h.p hb, h.g⟩
theorem AG.add {w W : World} {P Q : World → Prop} (h : AG w P W) (hq : Q W) (gq : ∀ W W', Q W → Below W.heap.size W W' → Q W') : AG w (fun W => P W ∧ Q W) W := ⟨h.bel, ⟨h.p, hq⟩, fun _ _ a hb => ⟨h.g _ _ a.1 hb, gq _ _ a.2 hb⟩⟩
set_option maxRecDepth 100000 in
set_option maxHeartbeats 8000000 in
theorem awake13_any (w : World) (hs : Sides w) (hlim : Lim w) (htab : Tab w) (h1 : 1 < w.heap.size) : Calls Tryz.prog 13 #[] w fun e w' => e = .returned (.bool true) ∧ Below w.heap.size w w' := by
  have HS := Lib.hid (fun W (h : Below w.heap.size w W) => hs.grow h)
  have HT := Lib.hid (fun W (h : Below w.heap.size w W) => htab.grow h)
  have HL := Lib.hid (fun W (h : Below w.heap.size w W) => hlim.keep (Keep.of_below h (C := fun k => k < w.heap.size) fun k hk => hk) h1)
  have H1 := Lib.hid (fun W (h : Below w.heap.size w W) => Nat.lt_of_lt_of_le h1 h.size)
  have I0 := Lib.hid (show AG w (fun _ => True) w from ⟨Below.refl _ _, trivial, fun _ _ _ _ => trivial⟩)
  clear hs hlim htab h1
  go_enter Tryz.func13, Tryz.ntmps13
  go_upto_region 2 with (first
    | (go_at_call 48; refine (hull48_any _).mono ?_; rintro e w1 ⟨sa, sc, ua, uc, rfl, hS, hU, hb1⟩)
    | (go_at_call 14; refine (s14 _ _ _ _ _ hS hU (HT.out _ (I0.out.bel.next hb1)) (HS.out _ (I0.out.bel.next hb1))).mono ?_; rintro e w2 ⟨rfl, hb2⟩))
  have I2 := Lib.hid ((I0.out.grow hb1).grow hb2)
  clear hS hU hb1 hb2 I0
  go_upto_region 3 with (first
    | (go_at_call 49; refine (fires49_any _).mono ?_; rintro e w3 ⟨fa, fc, qa, qc, rfl, hF, hQ, hb1⟩)
    | (go_at_call 16; refine (s16 _ _ _ _ _ hF hQ (HT.out _ (I2.out.bel.next hb1))).mono ?_; rintro e w4 ⟨rfl, hb2⟩))
  have I3 := Lib.hid ((I2.out.grow hb1).grow hb2)
  clear hF hQ hb1 hb2 I2
  go_upto_region 4 with (first
    | (go_at_call 50; refine (marks50_any _).mono ?_; rintro e w5 ⟨oa, ma, ia, ca, oc, mc, ic, cc, op, sp, ok, sk, rfl, hR, hb1⟩)
    | (go_at_call 18; refine (s18 _ _ _ _ _ _ _ _ _ _ _ _ _ hR (HT.out _ (I3.out.bel.next hb1))).mono ?_; rintro e w6 ⟨rfl, hb2⟩))
  have I4 := Lib.hid ((I3.out.grow hb1).grow hb2)
  clear hR hb1 hb2 I3
  go_upto_region 5 with (first
    | (go_at_call 51; refine (pay51_any _).mono ?_; rintro e w7 ⟨pa, pc, rfl, hS, hb1⟩)
    | (go_at_call 20; refine (s20 _ _ _ hS).mono ?_; rintro e w8 ⟨o7, c7, rfl, hB7, hb2⟩))
  have I5 := Lib.hid (((I4.out.grow hb1).grow hb2).add (Q := fun W => BytesAt W o7 5 sealS) hB7 (fun _ _ a hb => BytesAt.grow a hb))
  clear hS hb1 hb2 hB7 I4
  go_upto_region 6 with (go_at_call 35; refine (s35 _ (HS.out _ I5.out.bel) (HL.out _ I5.out.bel) (HT.out _ I5.out.bel) (H1.out _ I5.out.bel)).mono ?_; rintro e w9 ⟨ra, rc, va, vc, rfl, hS, hU, hb1⟩)
  generalize hW : World.alloc _ _ = W6
  obtain ⟨z, -, hb2⟩ := blocks1 hW
  have I6 := Lib.hid ((((I5.out.grow hb1).add (Q := fun W => SeasAt W ra 3 (seaOf rdH.s) ∧ SousAt W va 2 (souOf rdH.u)) ⟨hS, hU⟩ (fun _ _ a hb => ⟨a.1.grow hb, a.2.grow hb⟩)).grow hb2).add (Q := fun W => BoxAt W w9.heap.size #[.slice ra 3 rc, .slice va 2 vc] 25) z (fun _ _ a hb => BoxAt.grow a hb))
  clear hW z hb1 hb2 hS hU I5
  generalize w9.heap.size = b9 at *
  go_upto_region 7 with (first
    | (go_at_call 47; refine (seal47_any _).mono ?_; rintro e w10 ⟨p6, pc6, rfl, hB6, -, hc6, hb1⟩)
    | (go_at_call 23; refine (s23 _ _ _ hB6 hc6).mono ?_; rintro e w11 ⟨xa, xc, ya, yc, rfl, hS, hU, hb2⟩))
  generalize hW : World.alloc _ _ = W7
  obtain ⟨z, -, hb3⟩ := blocks1 hW
  have I7 := Lib.hid (((((I6.out.grow hb1).grow hb2).add (Q := fun W => Row W xa 1 2 (fun i j => .int .i64 (rdW.S i j : Nat)) ∧ Row W ya 0 8 (fun i j => .int .i64 (rdW.T i j : Nat))) ⟨hS, hU⟩ (fun _ _ a hb => ⟨Row.grow a.1 hb, Row.grow a.2 hb⟩)).grow hb3).add (Q := fun W => BoxAt W w11.heap.size #[.int .i64 2, .slice xa 1 xc, .slice ya 0 yc] 38) z (fun _ _ a hb => BoxAt.grow a hb))
  clear hW z hb1 hb2 hb3 hS hU hB6 hc6 I6
  generalize w11.heap.size = b11 at *
  go_upto_region 8 with (go_at_call 47; refine (seal47_ex _).mono ?_; rintro e w12 ⟨rfl, hw12⟩)
  subst hw12
  go_upto_region 9 with (fail)
  generalize hW : World.alloc _ _ = W9
  obtain ⟨z, -, hb1⟩ := blocks1 hW
  generalize hg : W7.heap.size = g at *
  have hB9 : BytesAt W9 (some ⟨g, 0, none⟩) 5 spoiltS := row_lit z (by unfold maxLen; omega) (fun i hi j hj => by
    obtain rfl : j = 0 := by omega
    have : i = 0 ∨ i = 1 ∨ i = 2 ∨ i = 3 ∨ i = 4 := by omega
    rcases this with rfl | rfl | rfl | rfl | rfl <;> rfl)
  have I9 := Lib.hid ((I7.out.grow (by rw [hg]; exact hb1)).add (Q := fun W => BytesAt W (some ⟨g, 0, none⟩) 5 spoiltS) hB9 (fun _ _ a hb => BytesAt.grow a hb))
  clear hW hg hb1 z hB9 I7
  go_upto_region 10 with (go_at_call 25; refine (s25 _ _ _ I9.out.p.2 (Nat.le_refl _)).mono ?_; rintro e w13 ⟨o14, c14, rfl, hB, hb1⟩)
  have I10 := Lib.hid ((I9.out.grow hb1).add (Q := fun W => BytesAt W o14 5 sealS) hB (fun _ _ a hb => BytesAt.grow a hb))
  clear hb1 hB I9
  go_upto_region 11 with (go_at_call 23; refine (s23' _ _ _ I10.out.p.1.2 (Nat.le_refl _)).mono ?_; rintro e w14 ⟨cr, za, zn, zc, za', zn', zc', rfl, hb1⟩)
  generalize hW : World.alloc _ _ = W11
  obtain ⟨z, -, hb2⟩ := blocks1 hW
  have I11 := Lib.hid ((I10.out.grow hb1).grow hb2)
  clear hb1 hb2 z hW I10
  generalize w14.heap.size = b16 at *
  go_upto_region 12 with (go_at_call 37; refine (s37 _ (HL.out _ I11.out.bel) (HT.out _ I11.out.bel) (H1.out _ I11.out.bel)).mono ?_; rintro e w15 ⟨hr, fr, pe, ka, kn, kc, la, ln, lc, rfl, hb1⟩)
  generalize hW : World.alloc _ _ = W12
  obtain ⟨z, -, hb2⟩ := blocks1 hW
  have I12 := Lib.hid ((I11.out.grow hb1).grow hb2)
  clear hb1 hb2 z hW I11
  generalize w15.heap.size = b18 at *
  go_wp2_with (first
    | (go_at_call 47; refine (seal47_any _).mono ?_; rintro e w16 ⟨p12, pc12, rfl, hB, -, -, hb1⟩)
    | (go_at_call 22; refine (s22 _ _ _ _ _ (BytesAt.grow I12.out.p.1.1.1.1.1.1.2 hb1) hB).mono ?_; rintro e w17 ⟨rfl, rfl⟩))
  have J0 := Lib.hid (I12.out.grow hb1)
  clear hB hb1 I12
  generalize w17 = W0 at *
  refine wp_region_stg (S := (fun w' : World => w'.cell? ⟨b9, 0, none⟩ = some (.slice ra 3 rc) ∧ w'.cell? ⟨b9, 1, none⟩ = some (.slice va 2 vc) ∧ w'.cell? ⟨b11, 0, none⟩ = some (.int .i64 2) ∧ w'.cell? ⟨b11, 1, none⟩ = some (.slice xa 1 xc) ∧ w'.cell? ⟨b11, 2, none⟩ = some (.slice ya 0 yc))) (L := []) (D := []) (by kernel_rfl) (by kernel_rfl) (by have I0 := Lib.hid (J0.out.grow (Below.drew (Below.refl _ _))); exact ⟨cellAt I0.out.p.1.1.1.1.2 0, cellAt I0.out.p.1.1.1.1.2 1, cellAt I0.out.p.1.1.2 0, cellAt I0.out.p.1.1.2 1, cellAt I0.out.p.1.1.2 2⟩) (fun e he => by cases he) (fun hC0 hH0 => ?_)
  have R14I0 := Lib.hid (J0.out.grow (Below.drew (Below.refl _ _)))
  clear J0
  generalize World.drew W0 = R14v0 at *
  refine wpAnyT_take (i := 0) (oi := { dst := some 98, op := Op.load 25 (Operand.tmp 9), type := 25, pos := "law.go:48", after := #[], guard := none }) (v := ?_) rfl (by kernel_rfl) (by kernel_rfl) (by kernel_rfl) (fun _ _ _ h => h) (by kernel_rfl) (by rfl) hC0 (Or.inl ⟨by rfl, ?_⟩) hH0 (fun hC1 hH1 => ?_)
  rotate_left
  · (intro w9 hSw; obtain ⟨hSw, hLw⟩ := hSw; clear hLw; (try dsimp only at hSw); (go_split_ands; go_simp); (try with_reducible rfl))
  clear hC0 hH0
  try simp only [Act.put, List.setIfInBounds_toArray, List.set_cons_zero, List.set_cons_succ]
  refine wpAnyT_one (i := 1) (o := { dst := some 99, op := Op.call { callee := Callee.value (Operand.func 48), args := #[], argTypes := #[] }, type := 25, pos := "law.go:48", after := #[], guard := none }) (by kernel_rfl) rfl (by kernel_rfl) hC1 (fun K hK => ?_)
  clear hC1 hH1
  go_simp
  refine (hull48_any R14v0).mono ?_
  rintro e R14v1 ⟨sa', sc', ua', uc', rfl, hS, hU, hb1⟩
  have R14I1 := Lib.hid (R14I0.out.grow hb1)
  have LS := Lib.hid hS
  have LU := Lib.hid hU
  clear hb1 R14I0 hS hU
  go_wp2_with fail
  refine hK.out _ _ ?_ (fun hC2 hH2 => ?_)
  · exact ⟨⟨cellAt R14I1.out.p.1.1.1.1.2 0, cellAt R14I1.out.p.1.1.1.1.2 1, cellAt R14I1.out.p.1.1.2 0, cellAt R14I1.out.p.1.1.2 1, cellAt R14I1.out.p.1.1.2 2⟩, fun e he => by cases he⟩
  clear hK K
  try simp only [Act.put, List.setIfInBounds_toArray, List.set_cons_zero, List.set_cons_succ]
  refine wpAnyT_one (i := 2) (o := { dst := some 100, op := Op.call { callee := Callee.value (Operand.func 28), args := #[Operand.tmp 98, Operand.tmp 99], argTypes := #[25, 25] }, type := 4, pos := "law.go:48", after := #[{ on := 0, ground := Ground.data }, { on := 1, ground := Ground.data }, { on := 1, ground := Ground.chain }], guard := none }) (by kernel_rfl) rfl (by kernel_rfl) hC2 (fun K hK => ?_)
  clear hC2 hH2
  go_simp
  refine (s28 _ _ _ _ _ _ _ _ R14v1 R14I1.out.p.1.1.1.1.1.2.1 R14I1.out.p.1.1.1.1.1.2.2 LS.out LU.out (HT.out _ R14I1.out.bel)).mono ?_
  rintro e R14v2 ⟨rfl, hb2⟩
  have R14I2 := Lib.hid (R14I1.out.grow hb2)
  clear hb2 R14I1 LS LU
  go_wp2_with fail
  refine hK.out _ _ ?_ (fun hC3 hH3 => ?_)
  · exact ⟨⟨cellAt R14I2.out.p.1.1.1.1.2 0, cellAt R14I2.out.p.1.1.1.1.2 1, cellAt R14I2.out.p.1.1.2 0, cellAt R14I2.out.p.1.1.2 1, cellAt R14I2.out.p.1.1.2 2⟩, fun e he => by cases he⟩
  clear hK K
  try simp only [Act.put, List.setIfInBounds_toArray, List.set_cons_zero, List.set_cons_succ]
  refine wpAnyT_take (i := 3) (oi := { dst := some 101, op := Op.move (Operand.tmp 100), type := 4, pos := "law.go:48", after := #[{ on := 2, ground := Ground.data }, { on := 2, ground := Ground.chain }], guard := none }) (v := ?_) rfl (by kernel_rfl) (by kernel_rfl) (by kernel_rfl) (fun _ _ _ h => h) (by kernel_rfl) (by rfl) hC3 (Or.inl ⟨by rfl, ?_⟩) hH3 (fun hC4 hH4 => ?_)
  rotate_left
  · (intro w9 hSw; obtain ⟨hSw, hLw⟩ := hSw; clear hLw; (try dsimp only at hSw); (go_split_ands; go_simp); (try with_reducible rfl))
  clear hC3 hH3
  try simp only [Act.put, List.setIfInBounds_toArray, List.set_cons_zero, List.set_cons_succ]
  refine wpAnyT_take (i := 4) (oi := { dst := some 102, op := Op.move (Operand.tmp 10), type := 41, pos := "law.go:48", after := #[{ on := 3, ground := Ground.guard }], guard := some (3, true) }) (v := ?_) rfl (by kernel_rfl) (by kernel_rfl) (by kernel_rfl) (fun _ _ _ h => h) (by kernel_rfl) (by rfl) hC4 (Or.inl ⟨by rfl, ?_⟩) hH4 (fun hC5 hH5 => ?_)
  rotate_left
  · (intro w9 hSw; obtain ⟨hSw, hLw⟩ := hSw; clear hLw; (try dsimp only at hSw); (go_split_ands; go_simp); (try with_reducible rfl))
  clear hC4 hH4
  try simp only [Act.put, List.setIfInBounds_toArray, List.set_cons_zero, List.set_cons_succ]
  refine wpAnyT_take (i := 5) (oi := { dst := some 103, op := Op.binOp BinOp.eql 41 (Operand.tmp 102) (Operand.const (Value.int IntKind.i64 0)) 41, type := 4, pos := "law.go:48", after := #[{ on := 4, ground := Ground.data }, { on := 3, ground := Ground.guard }], guard := some (3, true) }) (v := ?_) rfl (by kernel_rfl) (by kernel_rfl) (by kernel_rfl) (fun _ _ _ h => h) (by kernel_rfl) (by rfl) hC5 (Or.inl ⟨by rfl, ?_⟩) hH5 (fun hC6 hH6 => ?_)
  rotate_left
  · (intro w9 hSw; obtain ⟨hSw, hLw⟩ := hSw; clear hLw; (try dsimp only at hSw); (go_split_ands; go_simp); (try with_reducible rfl))
  clear hC5 hH5
  try simp only [Act.put, List.setIfInBounds_toArray, List.set_cons_zero, List.set_cons_succ]
  refine wpAnyT_take (i := 6) (oi := { dst := some 104, op := Op.pick (Operand.tmp 101) (Operand.tmp 103) (Operand.const (Value.bool false)), type := 4, pos := "law.go:48", after := #[{ on := 3, ground := Ground.data }, { on := 5, ground := Ground.data }], guard := none }) (v := ?_) rfl (by kernel_rfl) (by kernel_rfl) (by kernel_rfl) (fun _ _ _ h => h) (by kernel_rfl) (by rfl) hC6 (Or.inl ⟨by rfl, ?_⟩) hH6 (fun hC7 hH7 => ?_)
  rotate_left
  · (intro w9 hSw; obtain ⟨hSw, hLw⟩ := hSw; clear hLw; (try dsimp only at hSw); (go_split_ands; go_simp); (try with_reducible rfl))
  clear hC6 hH6
  try simp only [Act.put, List.setIfInBounds_toArray, List.set_cons_zero, List.set_cons_succ]
  refine wpAnyT_take (i := 7) (oi := { dst := some 105, op := Op.move (Operand.tmp 104), type := 4, pos := "law.go:48", after := #[{ on := 6, ground := Ground.data }, { on := 3, ground := Ground.chain }], guard := none }) (v := ?_) rfl (by kernel_rfl) (by kernel_rfl) (by kernel_rfl) (fun _ _ _ h => h) (by kernel_rfl) (by rfl) hC7 (Or.inl ⟨by rfl, ?_⟩) hH7 (fun hC8 hH8 => ?_)
  rotate_left
  · (intro w9 hSw; obtain ⟨hSw, hLw⟩ := hSw; clear hLw; (try dsimp only at hSw); (go_split_ands; go_simp); (try with_reducible rfl))
  clear hC7 hH7
  try simp only [Act.put, List.setIfInBounds_toArray, List.set_cons_zero, List.set_cons_succ]
  refine wpAnyT_take (i := 8) (oi := { dst := some 106, op := Op.load 38 (Operand.tmp 11), type := 38, pos := "law.go:48", after := #[{ on := 7, ground := Ground.guard }], guard := some (7, true) }) (v := ?_) rfl (by kernel_rfl) (by kernel_rfl) (by kernel_rfl) (fun _ _ _ h => h) (by kernel_rfl) (by rfl) hC8 (Or.inl ⟨by rfl, ?_⟩) hH8 (fun hC9 hH9 => ?_)
  rotate_left
  · (intro w9 hSw; obtain ⟨hSw, hLw⟩ := hSw; clear hLw; (try dsimp only at hSw); (go_split_ands; go_simp); (try with_reducible rfl))
  clear hC8 hH8
  try simp only [Act.put, List.setIfInBounds_toArray, List.set_cons_zero, List.set_cons_succ]
  refine wpAnyT_one (i := 9) (o := { dst := some 107, op := Op.call { callee := Callee.value (Operand.func 51), args := #[], argTypes := #[] }, type := 38, pos := "law.go:48", after := #[{ on := 7, ground := Ground.chain }, { on := 7, ground := Ground.guard }], guard := some (7, true) }) (by kernel_rfl) rfl (by kernel_rfl) hC9 (fun K hK => ?_)
  clear hC9 hH9
  go_simp
  refine (pay51_any R14v2).mono ?_
  rintro e R14v3 ⟨pa', pc', rfl, hS, hb3⟩
  have R14I3 := Lib.hid (R14I2.out.grow hb3)
  have LS := Lib.hid hS
  clear hb3 R14I2 hS
  go_wp2_with fail
  refine hK.out _ _ ?_ (fun hC10 hH10 => ?_)
  · exact ⟨⟨cellAt R14I3.out.p.1.1.1.1.2 0, cellAt R14I3.out.p.1.1.1.1.2 1, cellAt R14I3.out.p.1.1.2 0, cellAt R14I3.out.p.1.1.2 1, cellAt R14I3.out.p.1.1.2 2⟩, fun e he => by cases he⟩
  clear hK K
  try simp only [Act.put, List.setIfInBounds_toArray, List.set_cons_zero, List.set_cons_succ]
  refine wpAnyT_one (i := 10) (o := { dst := some 108, op := Op.call { callee := Callee.value (Operand.func 27), args := #[Operand.tmp 106, Operand.tmp 107], argTypes := #[38, 38] }, type := 4, pos := "law.go:48", after := #[{ on := 8, ground := Ground.data }, { on := 9, ground := Ground.data }, { on := 9, ground := Ground.chain }, { on := 7, ground := Ground.guard }], guard := some (7, true) }) (by kernel_rfl) rfl (by kernel_rfl) hC10 (fun K hK => ?_)
  clear hC10 hH10
  go_simp
  refine (s27 _ _ _ _ _ _ R14v3 R14I3.out.p.1.1.1.2.1 R14I3.out.p.1.1.1.2.2 LS.out).mono ?_
  rintro e R14v4 ⟨rfl, hb4⟩
  have R14I4 := Lib.hid (R14I3.out.grow hb4)
  clear hb4 R14I3 LS
  go_wp2_with fail
  refine hK.out _ _ ?_ (fun hC11 hH11 => ?_)
  · exact ⟨⟨cellAt R14I4.out.p.1.1.1.1.2 0, cellAt R14I4.out.p.1.1.1.1.2 1, cellAt R14I4.out.p.1.1.2 0, cellAt R14I4.out.p.1.1.2 1, cellAt R14I4.out.p.1.1.2 2⟩, fun e he => by cases he⟩
  clear hK K
  try simp only [Act.put, List.setIfInBounds_toArray, List.set_cons_zero, List.set_cons_succ]
  refine wpAnyT_take (i := 11) (oi := { dst := some 109, op := Op.pick (Operand.tmp 105) (Operand.tmp 108) (Operand.const (Value.bool false)), type := 4, pos := "law.go:48", after := #[{ on := 7, ground := Ground.data }, { on := 10, ground := Ground.data }], guard := none }) (v := ?_) rfl (by kernel_rfl) (by kernel_rfl) (by kernel_rfl) (fun _ _ _ h => h) (by kernel_rfl) (by rfl) hC11 (Or.inl ⟨by rfl, ?_⟩) hH11 (fun hC12 hH12 => ?_)
  rotate_left
  · (intro w9 hSw; obtain ⟨hSw, hLw⟩ := hSw; clear hLw; (try dsimp only at hSw); (go_split_ands; go_simp); (try with_reducible rfl))
  clear hC11 hH11
  try simp only [Act.put, List.setIfInBounds_toArray, List.set_cons_zero, List.set_cons_succ]
  refine wpAnyT_take (i := 12) (oi := { dst := some 110, op := Op.move (Operand.tmp 109), type := 4, pos := "law.go:48", after := #[{ on := 11, ground := Ground.data }, { on := 10, ground := Ground.chain }], guard := none }) (v := ?_) rfl (by kernel_rfl) (by kernel_rfl) (by kernel_rfl) (fun _ _ _ h => h) (by kernel_rfl) (by rfl) hC12 (Or.inl ⟨by rfl, ?_⟩) hH12 (fun hC13 hH13 => ?_)
  rotate_left
  · (intro w9 hSw; obtain ⟨hSw, hLw⟩ := hSw; clear hLw; (try dsimp only at hSw); (go_split_ands; go_simp); (try with_reducible rfl))
  clear hC12 hH12
  try simp only [Act.put, List.setIfInBounds_toArray, List.set_cons_zero, List.set_cons_succ]
  refine wpAnyT_take (i := 13) (oi := { dst := some 111, op := Op.move (Operand.tmp 12), type := 41, pos := "law.go:48", after := #[{ on := 12, ground := Ground.guard }], guard := some (12, true) }) (v := ?_) rfl (by kernel_rfl) (by kernel_rfl) (by kernel_rfl) (fun _ _ _ h => h) (by kernel_rfl) (by rfl) hC13 (Or.inl ⟨by rfl, ?_⟩) hH13 (fun hC14 hH14 => ?_)
  rotate_left
  · (intro w9 hSw; obtain ⟨hSw, hLw⟩ := hSw; clear hLw; (try dsimp only at hSw); (go_split_ands; go_simp); (try with_reducible rfl))
  clear hC13 hH13
  try simp only [Act.put, List.setIfInBounds_toArray, List.set_cons_zero, List.set_cons_succ]
  refine wpAnyT_take (i := 14) (oi := { dst := some 112, op := Op.binOp BinOp.eql 41 (Operand.tmp 111) (Operand.const (Value.int IntKind.i64 0)) 41, type := 4, pos := "law.go:48", after := #[{ on := 13, ground := Ground.data }, { on := 12, ground := Ground.guard }], guard := some (12, true) }) (v := ?_) rfl (by kernel_rfl) (by kernel_rfl) (by kernel_rfl) (fun _ _ _ h => h) (by kernel_rfl) (by rfl) hC14 (Or.inl ⟨by rfl, ?_⟩) hH14 (fun hC15 hH15 => ?_)
  rotate_left
  · (intro w9 hSw; obtain ⟨hSw, hLw⟩ := hSw; clear hLw; (try dsimp only at hSw); (go_split_ands; go_simp); (try with_reducible rfl))
  clear hC14 hH14
  try simp only [Act.put, List.setIfInBounds_toArray, List.set_cons_zero, List.set_cons_succ]
  refine wpAnyT_take (i := 15) (oi := { dst := some 113, op := Op.pick (Operand.tmp 110) (Operand.tmp 112) (Operand.const (Value.bool false)), type := 4, pos := "law.go:48", after := #[{ on := 12, ground := Ground.data }, { on := 14, ground := Ground.data }], guard := none }) (v := ?_) rfl (by kernel_rfl) (by kernel_rfl) (by kernel_rfl) (fun _ _ _ h => h) (by kernel_rfl) (by rfl) hC15 (Or.inl ⟨by rfl, ?_⟩) hH15 (fun hC16 hH16 => ?_)
  rotate_left
  · (intro w9 hSw; obtain ⟨hSw, hLw⟩ := hSw; clear hLw; (try dsimp only at hSw); (go_split_ands; go_simp); (try with_reducible rfl))
  clear hC15 hH15
  try simp only [Act.put, List.setIfInBounds_toArray, List.set_cons_zero, List.set_cons_succ]
  refine wpAnyT_take (i := 16) (oi := { dst := some 114, op := Op.move (Operand.tmp 113), type := 4, pos := "law.go:48", after := #[{ on := 15, ground := Ground.data }, { on := 12, ground := Ground.chain }], guard := none }) (v := ?_) rfl (by kernel_rfl) (by kernel_rfl) (by kernel_rfl) (fun _ _ _ h => h) (by kernel_rfl) (by rfl) hC16 (Or.inl ⟨by rfl, ?_⟩) hH16 (fun hC17 hH17 => ?_)
  rotate_left
  · (intro w9 hSw; obtain ⟨hSw, hLw⟩ := hSw; clear hLw; (try dsimp only at hSw); (go_split_ands; go_simp); (try with_reducible rfl))
  clear hC16 hH16
  try simp only [Act.put, List.setIfInBounds_toArray, List.set_cons_zero, List.set_cons_succ]
  refine wpAnyT_take (i := 17) (oi := { dst := some 115, op := Op.move (Operand.tmp 14), type := 46, pos := "law.go:48", after := #[{ on := 16, ground := Ground.guard }], guard := some (16, true) }) (v := ?_) rfl (by kernel_rfl) (by kernel_rfl) (by kernel_rfl) (fun _ _ _ h => h) (by kernel_rfl) (by rfl) hC17 (Or.inl ⟨by rfl, ?_⟩) hH17 (fun hC18 hH18 => ?_)
  rotate_left
  · (intro w9 hSw; obtain ⟨hSw, hLw⟩ := hSw; clear hLw; (try dsimp only at hSw); (go_split_ands; go_simp); (try with_reducible rfl))
  clear hC17 hH17
  try simp only [Act.put, List.setIfInBounds_toArray, List.set_cons_zero, List.set_cons_succ]
  refine wpAnyT_one (i := 18) (o := { dst := some 116, op := Op.call { callee := Callee.value (Operand.func 47), args := #[], argTypes := #[] }, type := 46, pos := "law.go:48", after := #[{ on := 16, ground := Ground.chain }, { on := 16, ground := Ground.guard }], guard := some (16, true) }) (by kernel_rfl) rfl (by kernel_rfl) hC18 (fun K hK => ?_)
  clear hC18 hH18
  go_simp
  refine (seal47_any R14v4).mono ?_
  rintro e R14v5 ⟨q14, qc14, rfl, hB, -, -, hb5⟩
  have R14I5 := Lib.hid (R14I4.out.grow hb5)
  have LS := Lib.hid hB
  clear hb5 R14I4 hB
  go_wp2_with fail
  refine hK.out _ _ ?_ (fun hC19 hH19 => ?_)
  · exact ⟨⟨cellAt R14I5.out.p.1.1.1.1.2 0, cellAt R14I5.out.p.1.1.1.1.2 1, cellAt R14I5.out.p.1.1.2 0, cellAt R14I5.out.p.1.1.2 1, cellAt R14I5.out.p.1.1.2 2⟩, fun e he => by cases he⟩
  clear hK K
  try simp only [Act.put, List.setIfInBounds_toArray, List.set_cons_zero, List.set_cons_succ]
  refine wpAnyT_one (i := 19) (o := { dst := some 117, op := Op.call { callee := Callee.value (Operand.func 22), args := #[Operand.tmp 115, Operand.tmp 116], argTypes := #[46, 46] }, type := 4, pos := "law.go:48", after := #[{ on := 17, ground := Ground.data }, { on := 18, ground := Ground.data }, { on := 18, ground := Ground.chain }, { on := 16, ground := Ground.guard }], guard := some (16, true) }) (by kernel_rfl) rfl (by kernel_rfl) hC19 (fun K hK => ?_)
  clear hC19 hH19
  go_simp
  refine (s22 _ _ _ _ R14v5 R14I5.out.p.2 LS.out).mono ?_
  rintro e R14v6 ⟨rfl, he6⟩; subst he6; have hb6 := Below.refl R14v6.heap.size R14v6
  have R14I6 := Lib.hid (R14I5.out.grow hb6)
  clear hb6 R14I5 LS
  go_wp2_with fail
  refine hK.out _ _ ?_ (fun hC20 hH20 => ?_)
  · exact ⟨⟨cellAt R14I6.out.p.1.1.1.1.2 0, cellAt R14I6.out.p.1.1.1.1.2 1, cellAt R14I6.out.p.1.1.2 0, cellAt R14I6.out.p.1.1.2 1, cellAt R14I6.out.p.1.1.2 2⟩, fun e he => by cases he⟩
  clear hK K
  try simp only [Act.put, List.setIfInBounds_toArray, List.set_cons_zero, List.set_cons_succ]
  refine wpAnyT_take (i := 20) (oi := { dst := some 118, op := Op.pick (Operand.tmp 114) (Operand.tmp 117) (Operand.const (Value.bool false)), type := 4, pos := "law.go:48", after := #[{ on := 16, ground := Ground.data }, { on := 19, ground := Ground.data }], guard := none }) (v := ?_) rfl (by kernel_rfl) (by kernel_rfl) (by kernel_rfl) (fun _ _ _ h => h) (by kernel_rfl) (by rfl) hC20 (Or.inl ⟨by rfl, ?_⟩) hH20 (fun hC21 hH21 => ?_)
  rotate_left
  · (intro w9 hSw; obtain ⟨hSw, hLw⟩ := hSw; clear hLw; (try dsimp only at hSw); (go_split_ands; go_simp); (try with_reducible rfl))
  clear hC20 hH20
  try simp only [Act.put, List.setIfInBounds_toArray, List.set_cons_zero, List.set_cons_succ]
  refine wpAnyT_take (i := 21) (oi := { dst := some 119, op := Op.move (Operand.tmp 118), type := 4, pos := "law.go:48", after := #[{ on := 20, ground := Ground.data }, { on := 19, ground := Ground.chain }], guard := none }) (v := ?_) rfl (by kernel_rfl) (by kernel_rfl) (by kernel_rfl) (fun _ _ _ h => h) (by kernel_rfl) (by rfl) hC21 (Or.inl ⟨by rfl, ?_⟩) hH21 (fun hC22 hH22 => ?_)
  rotate_left
  · (intro w9 hSw; obtain ⟨hSw, hLw⟩ := hSw; clear hLw; (try dsimp only at hSw); (go_split_ands; go_simp); (try with_reducible rfl))
  clear hC21 hH21
  try simp only [Act.put, List.setIfInBounds_toArray, List.set_cons_zero, List.set_cons_succ]
  refine wpAnyT_take (i := 22) (oi := { dst := some 120, op := Op.move (Operand.tmp 15), type := 41, pos := "law.go:48", after := #[{ on := 21, ground := Ground.guard }], guard := some (21, true) }) (v := ?_) rfl (by kernel_rfl) (by kernel_rfl) (by kernel_rfl) (fun _ _ _ h => h) (by kernel_rfl) (by rfl) hC22 (Or.inl ⟨by rfl, ?_⟩) hH22 (fun hC23 hH23 => ?_)
  rotate_left
  · (intro w9 hSw; obtain ⟨hSw, hLw⟩ := hSw; clear hLw; (try dsimp only at hSw); (go_split_ands; go_simp); (try with_reducible rfl))
  clear hC22 hH22
  try simp only [Act.put, List.setIfInBounds_toArray, List.set_cons_zero, List.set_cons_succ]
  refine wpAnyT_take (i := 23) (oi := { dst := some 121, op := Op.binOp BinOp.eql 41 (Operand.tmp 120) (Operand.const (Value.int IntKind.i64 0)) 41, type := 4, pos := "law.go:48", after := #[{ on := 22, ground := Ground.data }, { on := 21, ground := Ground.guard }], guard := some (21, true) }) (v := ?_) rfl (by kernel_rfl) (by kernel_rfl) (by kernel_rfl) (fun _ _ _ h => h) (by kernel_rfl) (by rfl) hC23 (Or.inl ⟨by rfl, ?_⟩) hH23 (fun hC24 hH24 => ?_)
  rotate_left
  · (intro w9 hSw; obtain ⟨hSw, hLw⟩ := hSw; clear hLw; (try dsimp only at hSw); (go_split_ands; go_simp); (try with_reducible rfl))
  clear hC23 hH23
  try simp only [Act.put, List.setIfInBounds_toArray, List.set_cons_zero, List.set_cons_succ]
  refine wpAnyT_take (i := 24) (oi := { dst := some 122, op := Op.pick (Operand.tmp 119) (Operand.tmp 121) (Operand.const (Value.bool false)), type := 4, pos := "law.go:48", after := #[{ on := 21, ground := Ground.data }, { on := 23, ground := Ground.data }], guard := none }) (v := ?_) rfl (by kernel_rfl) (by kernel_rfl) (by kernel_rfl) (fun _ _ _ h => h) (by kernel_rfl) (by rfl) hC24 (Or.inl ⟨by rfl, ?_⟩) hH24 (fun hC25 hH25 => ?_)
  rotate_left
  · (intro w9 hSw; obtain ⟨hSw, hLw⟩ := hSw; clear hLw; (try dsimp only at hSw); (go_split_ands; go_simp); (try with_reducible rfl))
  clear hC24 hH24
  try simp only [Act.put, List.setIfInBounds_toArray, List.set_cons_zero, List.set_cons_succ]
  refine wpAnyT_take (i := 25) (oi := { dst := some 123, op := Op.move (Operand.tmp 122), type := 4, pos := "law.go:48", after := #[{ on := 24, ground := Ground.data }, { on := 21, ground := Ground.chain }], guard := none }) (v := ?_) rfl (by kernel_rfl) (by kernel_rfl) (by kernel_rfl) (fun _ _ _ h => h) (by kernel_rfl) (by rfl) hC25 (Or.inl ⟨by rfl, ?_⟩) hH25 (fun hC26 hH26 => ?_)
  rotate_left
  · (intro w9 hSw; obtain ⟨hSw, hLw⟩ := hSw; clear hLw; (try dsimp only at hSw); (go_split_ands; go_simp); (try with_reducible rfl))
  clear hC25 hH25
  try simp only [Act.put, List.setIfInBounds_toArray, List.set_cons_zero, List.set_cons_succ]
  refine wpAnyT_take (i := 26) (oi := { dst := some 124, op := Op.move (Operand.tmp 17), type := 41, pos := "law.go:48", after := #[{ on := 25, ground := Ground.guard }], guard := some (25, true) }) (v := ?_) rfl (by kernel_rfl) (by kernel_rfl) (by kernel_rfl) (fun _ _ _ h => h) (by kernel_rfl) (by rfl) hC26 (Or.inl ⟨by rfl, ?_⟩) hH26 (fun hC27 hH27 => ?_)
  rotate_left
  · (intro w9 hSw; obtain ⟨hSw, hLw⟩ := hSw; clear hLw; (try dsimp only at hSw); (go_split_ands; go_simp); (try with_reducible rfl))
  clear hC26 hH26
  try simp only [Act.put, List.setIfInBounds_toArray, List.set_cons_zero, List.set_cons_succ]
  refine wpAnyT_take (i := 27) (oi := { dst := some 125, op := Op.binOp BinOp.eql 41 (Operand.tmp 124) (Operand.const (Value.int IntKind.i64 10)) 41, type := 4, pos := "law.go:48", after := #[{ on := 26, ground := Ground.data }, { on := 25, ground := Ground.guard }], guard := some (25, true) }) (v := ?_) rfl (by kernel_rfl) (by kernel_rfl) (by kernel_rfl) (fun _ _ _ h => h) (by kernel_rfl) (by rfl) hC27 (Or.inl ⟨by rfl, ?_⟩) hH27 (fun hC28 hH28 => ?_)
  rotate_left
  · (intro w9 hSw; obtain ⟨hSw, hLw⟩ := hSw; clear hLw; (try dsimp only at hSw); (go_split_ands; go_simp); (try with_reducible rfl))
  clear hC27 hH27
  try simp only [Act.put, List.setIfInBounds_toArray, List.set_cons_zero, List.set_cons_succ]
  refine wpAnyT_take (i := 28) (oi := { dst := some 126, op := Op.pick (Operand.tmp 123) (Operand.tmp 125) (Operand.const (Value.bool false)), type := 4, pos := "law.go:48", after := #[{ on := 25, ground := Ground.data }, { on := 27, ground := Ground.data }], guard := none }) (v := ?_) rfl (by kernel_rfl) (by kernel_rfl) (by kernel_rfl) (fun _ _ _ h => h) (by kernel_rfl) (by rfl) hC28 (Or.inl ⟨by rfl, ?_⟩) hH28 (fun hC29 hH29 => ?_)
  rotate_left
  · (intro w9 hSw; obtain ⟨hSw, hLw⟩ := hSw; clear hLw; (try dsimp only at hSw); (go_split_ands; go_simp); (try with_reducible rfl))
  clear hC28 hH28
  try simp only [Act.put, List.setIfInBounds_toArray, List.set_cons_zero, List.set_cons_succ]
  refine wpAnyT_take (i := 29) (oi := { dst := some 127, op := Op.move (Operand.tmp 126), type := 4, pos := "law.go:48", after := #[{ on := 28, ground := Ground.data }, { on := 25, ground := Ground.chain }], guard := none }) (v := ?_) rfl (by kernel_rfl) (by kernel_rfl) (by kernel_rfl) (fun _ _ _ h => h) (by kernel_rfl) (by rfl) hC29 (Or.inl ⟨by rfl, ?_⟩) hH29 (fun hC30 hH30 => ?_)
  rotate_left
  · (intro w9 hSw; obtain ⟨hSw, hLw⟩ := hSw; clear hLw; (try dsimp only at hSw); (go_split_ands; go_simp); (try with_reducible rfl))
  clear hC29 hH29
  try simp only [Act.put, List.setIfInBounds_toArray, List.set_cons_zero, List.set_cons_succ]
  refine wpAnyT_take (i := 30) (oi := { dst := some 128, op := Op.move (Operand.tmp 19), type := 41, pos := "law.go:48", after := #[{ on := 29, ground := Ground.guard }], guard := some (29, true) }) (v := ?_) rfl (by kernel_rfl) (by kernel_rfl) (by kernel_rfl) (fun _ _ _ h => h) (by kernel_rfl) (by rfl) hC30 (Or.inl ⟨by rfl, ?_⟩) hH30 (fun hC31 hH31 => ?_)
  rotate_left
  · (intro w9 hSw; obtain ⟨hSw, hLw⟩ := hSw; clear hLw; (try dsimp only at hSw); (go_split_ands; go_simp); (try with_reducible rfl))
  clear hC30 hH30
  try simp only [Act.put, List.setIfInBounds_toArray, List.set_cons_zero, List.set_cons_succ]
  refine wpAnyT_take (i := 31) (oi := { dst := some 129, op := Op.binOp BinOp.eql 41 (Operand.tmp 128) (Operand.const (Value.int IntKind.i64 8)) 41, type := 4, pos := "law.go:48", after := #[{ on := 30, ground := Ground.data }, { on := 29, ground := Ground.guard }], guard := some (29, true) }) (v := ?_) rfl (by kernel_rfl) (by kernel_rfl) (by kernel_rfl) (fun _ _ _ h => h) (by kernel_rfl) (by rfl) hC31 (Or.inl ⟨by rfl, ?_⟩) hH31 (fun hC32 hH32 => ?_)
  rotate_left
  · (intro w9 hSw; obtain ⟨hSw, hLw⟩ := hSw; clear hLw; (try dsimp only at hSw); (go_split_ands; go_simp); (try with_reducible rfl))
  clear hC31 hH31
  try simp only [Act.put, List.setIfInBounds_toArray, List.set_cons_zero, List.set_cons_succ]
  refine wpAnyT_take (i := 32) (oi := { dst := some 130, op := Op.pick (Operand.tmp 127) (Operand.tmp 129) (Operand.const (Value.bool false)), type := 4, pos := "law.go:48", after := #[{ on := 29, ground := Ground.data }, { on := 31, ground := Ground.data }], guard := none }) (v := ?_) rfl (by kernel_rfl) (by kernel_rfl) (by kernel_rfl) (fun _ _ _ h => h) (by kernel_rfl) (by rfl) hC32 (Or.inl ⟨by rfl, ?_⟩) hH32 (fun hC33 hH33 => ?_)
  rotate_left
  · (intro w9 hSw; obtain ⟨hSw, hLw⟩ := hSw; clear hLw; (try dsimp only at hSw); (go_split_ands; go_simp); (try with_reducible rfl))
  clear hC32 hH32
  try simp only [Act.put, List.setIfInBounds_toArray, List.set_cons_zero, List.set_cons_succ]
  refine wpAnyT_take (i := 33) (oi := { dst := some 0, op := Op.assign (Operand.tmp 130), type := 4, pos := "law.go:48", after := #[{ on := 32, ground := Ground.data }, { on := 29, ground := Ground.chain }, { on := 0, ground := Ground.phase }, { on := 1, ground := Ground.phase }, { on := 2, ground := Ground.phase }, { on := 3, ground := Ground.phase }, { on := 4, ground := Ground.phase }, { on := 5, ground := Ground.phase }, { on := 6, ground := Ground.phase }, { on := 7, ground := Ground.phase }, { on := 8, ground := Ground.phase }, { on := 9, ground := Ground.phase }, { on := 10, ground := Ground.phase }, { on := 11, ground := Ground.phase }, { on := 12, ground := Ground.phase }, { on := 13, ground := Ground.phase }, { on := 14, ground := Ground.phase }, { on := 15, ground := Ground.phase }, { on := 16, ground := Ground.phase }, { on := 17, ground := Ground.phase }, { on := 18, ground := Ground.phase }, { on := 19, ground := Ground.phase }, { on := 20, ground := Ground.phase }, { on := 21, ground := Ground.phase }, { on := 22, ground := Ground.phase }, { on := 23, ground := Ground.phase }, { on := 24, ground := Ground.phase }, { on := 25, ground := Ground.phase }, { on := 26, ground := Ground.phase }, { on := 27, ground := Ground.phase }, { on := 28, ground := Ground.phase }, { on := 29, ground := Ground.phase }, { on := 30, ground := Ground.phase }, { on := 31, ground := Ground.phase }, { on := 32, ground := Ground.phase }], guard := none }) (v := ?_) rfl (by kernel_rfl) (by kernel_rfl) (by kernel_rfl) (fun _ _ _ h => h) (by kernel_rfl) (by rfl) hC33 (Or.inl ⟨by rfl, ?_⟩) hH33 (fun hC34 hH34 => ?_)
  rotate_left
  · (intro w9 hSw; obtain ⟨hSw, hLw⟩ := hSw; clear hLw; (try dsimp only at hSw); (go_split_ands; go_simp); (try with_reducible rfl))
  clear hC33 hH33
  try simp only [Act.put, List.setIfInBounds_toArray, List.set_cons_zero]
  refine wpAnyT_done (by kernel_rfl) ?_ _
  clear hC34 hH34
  go_wp2_with fail
  go_ret
  exact ⟨rfl, R14I6.out.bel⟩
end Go.Proofs.YtclbmlmlhiiaeaaGreatDoor

namespace Go.Proofs.YtclbmlmlhiiaeaaGreatDoor
open Go.RowKit

theorem xor_back (x y : Nat) : x ^^^ (x ^^^ y) = y := by rw [← Nat.xor_assoc, Nat.xor_self, Nat.zero_xor]
theorem wr_zero {d : Nat → Nat} (hd : ∀ i, d i < 256) : ∀ n, wrN d n = 0 ↔ ∀ k, k < n → d k = 0
  | 0 => by simp [wrN]
  | n + 1 => by
    have ih := wr_zero hd n
    simp only [wrN]
    constructor
    · intro h k hk
      by_cases e : d n = 0
      · rw [if_pos e] at h
        by_cases e2 : k = n
        · subst e2; exact e
        · exact ih.1 h k (by omega)
      · rw [if_neg e] at h
        have := (len_fin ⟨d n, hd n⟩ e).2
        dsimp only at this
        omega
    · intro h
      rw [if_pos (h n (by omega))]
      exact ih.2 (fun k hk => h k (by omega))
theorem one_fin : ∀ x : Fin 256, Lib.onesCount x.val = 1 → x.val = 128 / 2 ^ (8 - Lib.bitLen x.val) ∧ 8 - Lib.bitLen x.val < 8 := by decide +kernel
theorem wr_one {d : Nat → Nat} (hd : ∀ i, d i < 256) : ∀ n, wrN d n = 1 → ∃ k c, k < n ∧ c < 8 ∧ d k = 128 / 2 ^ c ∧ wrF d n = 8 * k + c ∧ ∀ j, j < n → j ≠ k → d j = 0
  | 0, h => by simp [wrN] at h
  | n + 1, h => by
    simp only [wrN] at h
    simp only [wrF]
    by_cases e : d n = 0
    · rw [if_pos e] at h ⊢
      obtain ⟨k, c, h1, h2, h3, h4, h5⟩ := wr_one hd n h
      exact ⟨k, c, by omega, h2, h3, h4, fun j hj hne => by
        by_cases e2 : j = n
        · subst e2; exact e
        · exact h5 j (by omega) hne⟩
    · rw [if_neg e] at h ⊢
      have hp := (len_fin ⟨d n, hd n⟩ e).2
      dsimp only at hp
      have h0 : wrN d n = 0 := by omega
      have h1 : Lib.onesCount (d n) = 1 := by omega
      obtain ⟨o1, o2⟩ := one_fin ⟨d n, hd n⟩ h1
      rw [if_pos h0]
      exact ⟨n, 8 - Lib.bitLen (d n), by omega, o2, o1, rfl, fun j hj hne => (wr_zero hd n).1 h0 j (by omega)⟩
/-- What a bit adds to a byte. -/
def tmB (r : Nat → Bool) (i k : Nat) : Nat := if i / 8 = k ∧ r i = true then 128 / 2 ^ (i % 8) else 0
theorem xor_pow_fin : ∀ a : Fin 256, ∀ c : Fin 8, a.val % 2 ^ (8 - c.val) = 0 → a.val + 128 / 2 ^ c.val = a.val ^^^ (128 / 2 ^ c.val) := by decide +kernel
theorem pk_xor (r : Nat → Bool) (i k : Nat) : pkB r (i + 1) k = pkB r i k ^^^ tmB r i k := by
  unfold tmB
  show (if i / 8 = k ∧ r i = true then _ else _) = _
  by_cases c : i / 8 = k ∧ r i = true
  · rw [if_pos c, if_pos c]
    exact xor_pow_fin ⟨pkB r i k, pk_lt r i k⟩ ⟨i % 8, Nat.mod_lt _ (by omega)⟩ ((pk_inv r i k).2.2 c.1)
  · rw [if_neg c, if_neg c, Nat.xor_zero]
theorem pk_congr {r s : Nat → Bool} : ∀ i k, (∀ j, j < i → r j = s j) → pkB r i k = pkB s i k
  | 0, _, _ => rfl
  | i + 1, k, h => by
    rw [pk_xor, pk_xor, pk_congr i k (fun j hj => h j (by omega))]
    unfold tmB
    rw [h i (by omega)]
/-- One bit the other one: one byte the other one, by one bit. -/
theorem pk_flip {r s : Nat → Bool} {t : Nat} (ht : s t = !r t) (hs : ∀ j, j ≠ t → s j = r j) (k : Nat) : ∀ i, t < i → pkB s i k = pkB r i k ^^^ (if t / 8 = k then 128 / 2 ^ (t % 8) else 0)
  | 0, h => by omega
  | i + 1, h => by
    rw [pk_xor, pk_xor]
    by_cases e : i = t
    · subst e
      rw [pk_congr i k (fun j hj => hs j (by omega)), Nat.xor_assoc]
      congr 1
      unfold tmB
      rw [ht]
      by_cases c : i / 8 = k
      · cases hr : r i <;> simp [c]
      · simp [c]
    · rw [pk_flip ht hs k i (by omega), Nat.xor_assoc, Nat.xor_assoc]
      congr 1
      rw [Nat.xor_comm]
      congr 1
      unfold tmB
      rw [hs i e]
theorem col_congr {g h : Nat → Nat} : ∀ n, (∀ j, j < n → g j = h j) → colB g n = colB h n
  | 0, _ => rfl
  | n + 1, e => by simp only [colB]; rw [col_congr n (fun j hj => e j (by omega)), e n (by omega)]
theorem col_flip {g h : Nat → Nat} {t p : Nat} (ht : h t = g t ^^^ p) (hs : ∀ j, j ≠ t → h j = g j) : ∀ n, t < n → colB h n = colB g n ^^^ p
  | 0, e => by omega
  | n + 1, e => by
    simp only [colB]
    by_cases c : n = t
    · subst c
      rw [col_congr n (fun j hj => hs j (by omega)), ht, Nat.xor_assoc]
    · rw [col_flip ht hs n (by omega), hs n c, Nat.xor_assoc, Nat.xor_assoc]
      congr 1
      exact Nat.xor_comm _ _
theorem seal_congr {g h : Nat → Nat} {n : Nat} (e : ∀ j, j < n → g j = h j) (k : Nat) : sealB g n k = sealB h n k := by
  unfold sealB rowB
  by_cases c : k < n
  · rw [if_pos c, if_pos c, e k c]
  · rw [if_neg c, if_neg c, pk_congr n _ (fun j hj => by rw [e j hj]), col_congr n e]
theorem odd_fin : ∀ x : Fin 256, ∀ c : Fin 8, oddB (x.val ^^^ (128 / 2 ^ c.val)) = !oddB x.val := by decide +kernel
theorem dif_lt {b : Nat → Nat} (h8 : ∀ i, b i < 256) (n i : Nat) : difB b n i < 256 := xor_lt (h8 _) (seal_lt h8 n _)
theorem dif_zero {b : Nat → Nat} (h8 : ∀ i, b i < 256) {n i : Nat} : difB b n i = 0 ↔ b (n + i) = sealB b n (n + i) := xor_zero (h8 _) (seal_lt h8 n _)
theorem cols_dif {b : Nat → Nat} (n : Nat) : wrN (fun i => difB b n (rowsB n + i)) 1 = if difB b n (rowsB n) = 0 then 0 else Lib.onesCount (difB b n (rowsB n)) := by
  simp [wrN]
/-- Nothing is wrong just if rows and column are those of the content. -/
theorem seal_right {b : Nat → Nat} (h8 : ∀ i, b i < 256) (n : Nat) : (∀ k, k < szB n → sealB b n k = b k) ↔ rowsN b n + colsN b n = 0 := by
  have hr : rowsN b n = 0 ↔ _ := wr_zero (dif_lt h8 n) (rowsB n)
  have hc : colsN b n = 0 ↔ _ := wr_zero (d := fun i => difB b n (rowsB n + i)) (fun i => dif_lt h8 n _) 1
  have hz : szB n = n + rowsB n + 1 := rfl
  constructor
  · intro h
    have h1 : rowsN b n = 0 := hr.2 (fun k hk => (dif_zero h8).2 (h _ (by omega)).symm)
    have h2 : colsN b n = 0 := hc.2 (fun k hk => (dif_zero h8).2 (h _ (by omega)).symm)
    omega
  · intro h k hk
    by_cases c : k < n
    · unfold sealB; rw [if_pos c]
    · by_cases c2 : k < n + rowsB n
      · have := (dif_zero h8).1 (hr.1 (by omega) (k - n) (by omega))
        rw [show n + (k - n) = k by omega] at this
        exact this.symm
      · have := (dif_zero h8).1 (hc.1 (by omega) 0 (by omega))
        rw [show n + (rowsB n + 0) = k by omega] at this
        exact this.symm
theorem flip_at {b : Nat → Nat} {i k : Nat} (h : k = i / 8) : flipB b i k = b k ^^^ (128 / 2 ^ (i % 8)) := if_pos h
theorem flip_ne {b : Nat → Nat} {i k : Nat} (h : k ≠ i / 8) : flipB b i k = b k := if_neg h
/-- What is put right has nothing to put right. -/
theorem mend_right {b : Nat → Nat} (h8 : ∀ i, b i < 256) {n i : Nat} (h : mendAt b n = .inl i) : i < 8 * szB n ∧ ∀ k, k < szB n → sealB (flipB b i) n k = flipB b i k := by
  have hz : szB n = n + rowsB n + 1 := rfl
  have hd := dif_lt h8 n
  unfold mendAt at h
  by_cases h0 : rowsN b n + colsN b n = 0
  · rw [if_pos h0] at h; cases h
  rw [if_neg h0] at h
  by_cases h1 : rowsN b n ≤ 1 ∧ colsN b n ≤ 1
  case neg => rw [if_pos h1] at h; cases h
  rw [if_neg (fun x => x h1)] at h
  -- the rows that are right, and the column
  have rowOk : ∀ k, k < rowsB n → difB b n k = 0 → b (n + k) = sealB b n (n + k) := fun k _ e => (dif_zero h8).1 e
  by_cases h2 : rowsN b n = 0
  · rw [if_pos h2] at h
    injection h with h
    have hr0 := (wr_zero hd (rowsB n)).1 h2
    have hc1 : colsN b n = 1 := by omega
    obtain ⟨k, c, k1, c8, dk, fk, -⟩ := wr_one (d := fun i => difB b n (rowsB n + i)) (fun i => hd _) 1 hc1
    obtain rfl : k = 0 := by omega
    have hF : colF b n = c := by unfold colF; omega
    rw [hF] at h
    have hi8 : i / 8 = n + rowsB n := by omega
    have hi9 : i % 8 = c := by omega
    refine ⟨by omega, fun k hk => ?_⟩
    rw [seal_congr (h := b) (fun j hj => flip_ne (by omega)) k]
    by_cases e : k = n + rowsB n
    · rw [flip_at (by omega), hi9]
      simp only [Nat.add_zero] at dk
      rw [e, ← dk]
      unfold difB
      rw [xor_back]
    · rw [flip_ne (by omega)]
      by_cases e1 : k < n
      · unfold sealB; rw [if_pos e1]
      · have := rowOk (k - n) (by omega) (hr0 _ (by omega))
        rw [show n + (k - n) = k by omega] at this
        exact this.symm
  · rw [if_neg h2] at h
    have hr1 : rowsN b n = 1 := by omega
    obtain ⟨k0, c0, k1, c8, dk, fk, hoth⟩ := wr_one hd (rowsB n) hr1
    have hF : rowF b n = 8 * k0 + c0 := fk
    by_cases h3 : colsN b n = 1
    · rw [if_pos h3] at h
      by_cases h4 : rowF b n < n
      case neg => rw [if_neg h4] at h; cases h
      rw [if_pos h4] at h
      injection h with h
      obtain ⟨kk, c, kk1, cc8, dkk, fkk, -⟩ := wr_one (d := fun i => difB b n (rowsB n + i)) (fun i => hd _) 1 h3
      obtain rfl : kk = 0 := by omega
      have hF2 : colF b n = c := by unfold colF; omega
      rw [hF2] at h
      obtain ⟨t, et⟩ : ∃ t, t = rowF b n := ⟨_, rfl⟩
      rw [← et] at h h4 hF
      have hi8 : i / 8 = t := by omega
      have hi9 : i % 8 = c := by omega
      refine ⟨by omega, fun k hk => ?_⟩
      have hft : flipB b i t = b t ^^^ (128 / 2 ^ c) := by rw [flip_at hi8.symm, hi9]
      have hfn : ∀ j, j ≠ t → flipB b i j = b j := fun j hj => flip_ne (by omega)
      by_cases e1 : k < n
      · unfold sealB; rw [if_pos e1]
      · rw [hfn k (by omega)]
        by_cases e2 : k < n + rowsB n
        · have hs : sealB (flipB b i) n k = sealB b n k ^^^ (if t / 8 = k - n then 128 / 2 ^ (t % 8) else 0) := by
            unfold sealB rowB
            rw [if_neg e1, if_neg e1, if_pos e2, if_pos e2]
            exact pk_flip (t := t) (by rw [hft]; exact odd_fin ⟨b t, h8 t⟩ ⟨c, cc8⟩) (fun j hj => by rw [hfn j hj]) _ n h4
          rw [hs]
          by_cases e3 : t / 8 = k - n
          · rw [if_pos e3, show t % 8 = c0 by omega, ← dk, show k0 = k - n by omega]
            unfold difB
            rw [show n + (k - n) = k by omega, Nat.xor_comm (b k), xor_back]
          · rw [if_neg e3, Nat.xor_zero]
            have := rowOk (k - n) (by omega) (hoth (k - n) (by omega) (by omega))
            rw [show n + (k - n) = k by omega] at this
            exact this.symm
        · have hk2 : k = n + rowsB n := by omega
          have hs : sealB (flipB b i) n k = sealB b n k ^^^ (128 / 2 ^ c) := by
            unfold sealB
            rw [if_neg e1, if_neg e1, if_neg e2, if_neg e2]
            exact col_flip hft hfn n h4
          simp only [Nat.add_zero] at dkk
          rw [hs, ← dkk]
          unfold difB
          rw [← hk2, Nat.xor_comm (b k), xor_back]
    · rw [if_neg h3] at h
      injection h with h
      have hc0 : colsN b n = 0 := by omega
      have hcol := (wr_zero (d := fun i => difB b n (rowsB n + i)) (fun i => hd _) 1).1 hc0 0 (by omega)
      rw [hF] at h
      have hi8 : i / 8 = n + k0 := by omega
      have hi9 : i % 8 = c0 := by omega
      refine ⟨by omega, fun k hk => ?_⟩
      rw [seal_congr (h := b) (fun j hj => flip_ne (by omega)) k]
      by_cases e : k = n + k0
      · rw [flip_at (by omega), hi9, e, ← dk]
        unfold difB
        rw [xor_back]
      · rw [flip_ne (by omega)]
        by_cases e1 : k < n
        · unfold sealB; rw [if_pos e1]
        · by_cases e2 : k < n + rowsB n
          · have := rowOk (k - n) (by omega) (hoth _ (by omega) (by omega))
            rw [show n + (k - n) = k by omega] at this
            exact this.symm
          · have := (dif_zero h8).1 hcol
            rw [show n + (rowsB n + 0) = k by omega] at this
            exact this.symm
end Go.Proofs.YtclbmlmlhiiaeaaGreatDoor

namespace Go.Proofs.YtclbmlmlhiiaeaaGreatDoor
open Go.RowKit

/-- A bit that is turned, in what differs. -/
theorem flip_xor {b : Nat → Nat} (i k : Nat) : flipB b i k ^^^ b k = if k = i / 8 then 128 / 2 ^ (i % 8) else 0 := by
  unfold flipB
  split
  · rw [Nat.xor_comm (b k), Nat.xor_assoc, Nat.xor_self, Nat.xor_zero]
  · exact Nat.xor_self _
theorem bit_pow (i : Nat) : ∃ t, t < 8 ∧ 128 / 2 ^ (i % 8) = 2 ^ t := by
  have h : i % 8 < 8 := Nat.mod_lt _ (by omega)
  have key : ∀ c : Fin 8, 128 / 2 ^ c.val = 2 ^ (7 - c.val) := by decide
  exact ⟨7 - i % 8, by omega, key ⟨i % 8, h⟩⟩
/-- What is put right stands right. -/
theorem mend_again {b : Nat → Nat} (h8 : ∀ i, b i < 256) {n i : Nat} (h : mendAt b n = .inl i) : mendAt (flipB b i) n = .inr 4 := by
  have hf : ∀ k, flipB b i k < 256 := fun k => by
    obtain ⟨t, ht, e⟩ := bit_pow i
    unfold flipB
    split
    · rw [e]
      exact Nat.xor_lt_two_pow (n := 8) (h8 k) (Nat.pow_lt_pow_right (by omega) ht)
    · exact h8 k
  have h2 := (seal_right hf n).1 (mend_right h8 h).2
  unfold mendAt
  rw [if_pos h2]
theorem flip_lt {b : Nat → Nat} (h8 : ∀ i, b i < 256) (i k : Nat) : flipB b i k < 256 := by
  obtain ⟨t, ht, e⟩ := bit_pow i
  unfold flipB
  split
  · rw [e]
    exact Nat.xor_lt_two_pow (n := 8) (h8 k) (Nat.pow_lt_pow_right (by omega) ht)
  · exact h8 k
theorem mend_no {b : Nat → Nat} {n : Nat} {x : Int} (h : mendAt b n = .inr x) : (x = 4 ∧ rowsN b n + colsN b n = 0) ∨ (x = 11 ∧ rowsN b n + colsN b n ≠ 0) := by
  unfold mendAt at h
  split at h
  · injection h with h; exact .inl ⟨h.symm, by assumption⟩
  · refine .inr ⟨?_, by assumption⟩
    split at h
    · injection h with h; exact h.symm
    · split at h
      · cases h
      · split at h
        · split at h
          · cases h
          · injection h with h; exact h.symm
        · cases h
theorem mend_yes {b : Nat → Nat} {n i : Nat} (h : mendAt b n = .inl i) : rowsN b n + colsN b n ≠ 0 := by
  intro e
  unfold mendAt at h
  rw [if_pos e] at h
  cases h
/-- Whether a content stands sealed, said by what is wrong. -/
theorem right_iff {b : Nat → Nat} (h8 : ∀ i, b i < 256) (n : Nat) : eqB (szB n) (szB n) (sealB b n) b = decide (rowsN b n + colsN b n = 0) := by
  rw [Bool.eq_iff_iff, eqB_iff, decide_eq_true_eq, ← seal_right h8 n]
  exact ⟨fun h => h.2, fun h => ⟨rfl, h⟩⟩
set_option maxRecDepth 100000 in
set_option maxHeartbeats 4000000 in
theorem bookMend7_any (oa : Option Addr) (L nc : Nat) (b : Nat → Nat) (w : World) (hb : BytesAt w oa L b) (h8 : ∀ i, b i < 256) (hcap : L ≤ nc) (hs : Sides w) (hlim : Lim w) (htab : Tab w) (h1 : 1 < w.heap.size) :
    Calls Tryz.prog 7 #[.slice oa L nc] w fun e w' => e = .returned (.bool true) ∧ Below w.heap.size w w' := by
  have CA := Lib.hid (fun W (h : Below w.heap.size w W) => awake13_any W (hs.grow h) (hlim.keep (Keep.of_below h (C := fun k => k < w.heap.size) fun k hk => hk) h1) (htab.grow h) (Nat.lt_of_lt_of_le h1 h.size))
  have HM := Lib.hid (mend_any oa L nc b w hb h8 hcap)
  have LG := Lib.hid (fun W (h : Below w.heap.size w W) => BytesAt.grow hb h)
  have H8 := Lib.hid h8
  have hsm := hb.small
  unfold maxLen at hsm
  clear hs hlim htab h1 hb h8
  go_enter Tryz.func7, Tryz.ntmps7
  by_cases hL : 1010 < L
  · go_wp2_with (go_at_call 13; refine (CA.out _ (Below.refl _ _)).mono ?_; rintro e w1 ⟨rfl, hb1⟩)
    go_ret
    exact ⟨rfl, hb1⟩
  have CC := Lib.hid (fun W => contentR_any L W (by omega))
  go_wp2_with (go_at_call 25; refine HM.out.mono ?_)
  rintro e w1 ⟨hb1, hm⟩
  have B1 := Lib.hid hb1
  clear hb1 HM
  rcases hm with ⟨hl, rfl⟩ | ⟨hl, hno, rfl⟩ | ⟨n, hn0, hn, hl, ⟨x, hx, rfl⟩ | ⟨i, g, cap, hi, hi8, hcap2, hg, rfl, hB⟩⟩
  · unfold badB
    go_wp2_with (go_at_call 33; refine (CC.out _).mono ?_)
    rintro e w2 ⟨rfl, ⟨n, -, -, rfl⟩ | ⟨-, rfl⟩⟩ <;>
    · go_wp2_with (go_at_call 13; refine (CA.out _ B1.out).mono ?_; rintro e w3 ⟨rfl, hb3⟩)
      go_ret
      exact ⟨rfl, B1.out.next hb3⟩
  · unfold badB
    go_wp2_with (go_at_call 33; refine (CC.out _).mono ?_)
    rintro e w2 ⟨rfl, ⟨n, h0, h, rfl⟩ | ⟨-, rfl⟩⟩
    · exact absurd h (hno n h0)
    · go_wp2_with (go_at_call 13; refine (CA.out _ B1.out).mono ?_; rintro e w3 ⟨rfl, hb3⟩)
      go_ret
      exact ⟨rfl, B1.out.next hb3⟩
  · unfold badB
    have hnl : n ≤ L := by unfold szB at hn; omega
    have HOP := Lib.hid ((LG.out _ B1.out).plain (show 0 < L by omega))
    have C1 := Lib.hid (fun W (h : Below w.heap.size w W) => sealR_any oa n nc b W ((LG.out _ h).head hnl) H8.out hn0 (by omega))
    have HN := Lib.hid hn
    go_wp2_with (go_at_call 33; refine (CC.out _).mono ?_)
    rintro e w2 ⟨rfl, ⟨n', h0, h, rfl⟩ | ⟨hno, -⟩⟩
    case inr => exact absurd hn (hno n hn0)
    obtain rfl := szB_inj (hn.trans h.symm)
    clear h h0
    clear hn
    have t0 : ((n : Int) == 0) = false := beq_eq_false_iff_ne.2 (by omega)
    go_upto_region 9 with (fail)
    have s1 := fun W => run_head (n := L) (c := nc) (h := n) HOP.out (by omega) (by omega) W
    have hn1 : n ≤ 1000 := by omega
    clear hl hL hsm
    go_wp2_with (go_at_call 34; refine (C1.out _ B1.out).mono ?_)
    rintro e w3 ⟨qa, qc, rfl, hq, -, -, hb3⟩
    have B3 := Lib.hid (B1.out.next hb3)
    have C2 := Lib.hid (bytes_any qa oa (szB n) qc L nc (sealB b n) b w3 hq (LG.out _ B3.out) (fun i _ => seal_lt H8.out n i) (fun i _ => H8.out i))
    rw [HN.out] at C2 hq ⊢
    have hE := right_iff H8.out n
    rw [HN.out] at hE
    rw [hE] at C2
    clear hq hb3 C1 hE s1
    rcases mend_no hx with ⟨rfl, h0⟩ | ⟨rfl, h0⟩
    · rw [decide_eq_true h0] at C2
      clear h0 hx
      go_wp2_with (first | (go_at_call 22; refine C2.out.mono ?_; rintro e w' ⟨rfl, rfl⟩) | (go_at_call 13; refine (CA.out _ B3.out).mono ?_; rintro e w3 ⟨rfl, hb3⟩))
      go_ret
      exact ⟨rfl, B3.out.next hb3⟩
    · rw [decide_eq_false h0] at C2
      clear h0 hx
      go_wp2_with (first | (go_at_call 22; refine C2.out.mono ?_; rintro e w' ⟨rfl, rfl⟩) | (go_at_call 13; refine (CA.out _ B3.out).mono ?_; rintro e w3 ⟨rfl, hb3⟩))
      go_ret
      exact ⟨rfl, B3.out.next hb3⟩
  · have hnl : n ≤ L := by unfold szB at hn; omega
    have HOP := Lib.hid ((LG.out _ B1.out).plain (show 0 < L by omega))
    have C1 := Lib.hid (fun W (h : Below w.heap.size w W) => sealR_any oa n nc b W ((LG.out _ h).head hnl) H8.out hn0 (by omega))
    have HN := Lib.hid hn
    have HB := Lib.hid (fun W (h : Below w1.heap.size w1 W) => BytesAt.grow hB h)
    clear hB
    go_wp2_with (go_at_call 33; refine (CC.out _).mono ?_)
    rintro e w2 ⟨rfl, ⟨n', h0, h, rfl⟩ | ⟨hno, -⟩⟩
    case inr => exact absurd hn (hno n hn0)
    obtain rfl := szB_inj (hn.trans h.symm)
    clear h h0
    clear hn
    have t0 : ((n : Int) == 0) = false := beq_eq_false_iff_ne.2 (by omega)
    go_upto_region 9 with (fail)
    have s1 := fun W => run_head (n := L) (c := nc) (h := n) HOP.out (by omega) (by omega) W
    have hn1 : n ≤ 1000 := by omega
    clear hl hL hsm
    go_wp2_with (go_at_call 34; refine (C1.out _ B1.out).mono ?_)
    rintro e w3 ⟨qa, qc, rfl, hq, -, -, hb3⟩
    have B3 := Lib.hid (B1.out.next hb3)
    have HB3 := Lib.hid hb3
    have C2 := Lib.hid (bytes_any qa oa (szB n) qc L nc (sealB b n) b w3 hq (LG.out _ B3.out) (fun i _ => seal_lt H8.out n i) (fun i _ => H8.out i))
    rw [HN.out] at C2 hq ⊢
    have hE := right_iff H8.out n
    rw [HN.out] at hE
    rw [hE, decide_eq_false (mend_yes hi)] at C2
    clear hq hb3 C1 hE s1
    go_wp2_with (go_at_call 22; refine C2.out.mono ?_; rintro e w' ⟨rfl, rfl⟩)
    obtain ⟨p, hp⟩ : ∃ p, i / 8 = p := ⟨_, rfl⟩
    have HP := Lib.hid hp
    have hpL : p < L := by omega
    have HI := Lib.hid hi
    clear hp hi8 hi C2
    go_loop [7, 89] (fun m j => ∃ k : Nat, k ≤ L ∧ j = .int .i64 k ∧ ((p < k ∧ m = .int .i64 1) ∨ (k ≤ p ∧ m = .int .i64 0)))  (fun _ j => L - (intOf j).toNat)
    case atStart => exact ⟨0, Nat.zero_le _, rfl, .inr ⟨Nat.zero_le _, rfl⟩⟩
    case round =>
      obtain ⟨k, hk, rfl, hm⟩ := hrel
      by_cases hlt : k < L
      · have HO := Lib.hid hm
        have hi1 := fun w' => run_indexAt_row (w := w') (oa := some ⟨g, 0, none⟩) (n := L) (cap := cap) elem5.slice size5 rfl hlt
        simp only [blk, ofs, Nat.zero_add, Nat.mul_one] at hi1
        have hi2 := fun w => run_indexAt_row (w := w) (cap := nc) elem5.slice size5 HOP.out hlt
        simp only [Nat.mul_one] at hi2
        have c1 := (HB.out _ HB3.out).at hlt
        simp only [blk, ofs, Nat.zero_add] at c1
        have c2 := (LG.out _ B3.out).at hlt
        have f8 := flip_lt H8.out i k
        have b8 := H8.out k
        have hx : bits .xor .u8 ((flipB b i k : Nat) : Int) ((b k : Nat) : Int) = ((flipB b i k ^^^ b k : Nat) : Int) := u8_xor_nat _ _ f8 b8
        rw [flip_xor, HP.out] at hx
        obtain ⟨X, hX⟩ : ∃ X, (if k = p then 128 / 2 ^ (i % 8) else 0) = X := ⟨_, rfl⟩
        rw [hX] at hx
        have HX := Lib.hid hX
        generalize flipB b i k = F at *
        generalize b k = G at *
        clear hX hm
        go_wp2_with fail
        go_loop [7, 10] (fun m x => ∃ y : Nat, x = .int .u8 y ∧ (((∃ t, t < 8 ∧ y = 2 ^ t) ∧ k = p ∧ m = .int .i64 0) ∨ (y = 0 ∧ ((p < k + 1 ∧ m = .int .i64 1) ∨ (k + 1 ≤ p ∧ m = .int .i64 0))))) (fun _ x => (intOf x).toNat)
        case atStart =>
          refine ⟨X, rfl, ?_⟩
          by_cases hkp : k = p
          · rcases HO.out with ⟨h, -⟩ | ⟨-, h⟩
            · omega
            · refine .inl ⟨?_, hkp, h⟩
              have h2 := HX.out
              rw [if_pos hkp] at h2
              obtain ⟨t, ht, e⟩ := bit_pow i
              exact ⟨t, ht, by rw [← h2, e]⟩
          · have h2 := HX.out
            rw [if_neg hkp] at h2
            refine .inr ⟨h2.symm, ?_⟩
            rcases HO.out with ⟨h, h3⟩ | ⟨h, h3⟩
            · exact .inl ⟨by omega, h3⟩
            · exact .inr ⟨by omega, h3⟩
        case round =>
          obtain ⟨y, rfl, hc⟩ := hrel
          clear c1 c2 hi1 hi2 hx f8 b8
          rcases hc with ⟨⟨t, ht, rfl⟩, hkp, rfl⟩ | ⟨rfl, hm⟩
          · have h : t = 0 ∨ t = 1 ∨ t = 2 ∨ t = 3 ∨ t = 4 ∨ t = 5 ∨ t = 6 ∨ t = 7 := by omega
            rcases h with rfl | rfl | rfl | rfl | rfl | rfl | rfl | rfl
            · go_wp2_with fail
              exact ⟨⟨0, rfl, .inr ⟨rfl, .inl ⟨by omega, rfl⟩⟩⟩, by simp [intOf]⟩
            · go_wp2_with fail
              exact ⟨⟨1, rfl, .inl ⟨⟨0, by omega, rfl⟩, hkp, rfl⟩⟩, by simp [intOf]⟩
            · go_wp2_with fail
              exact ⟨⟨2, rfl, .inl ⟨⟨1, by omega, rfl⟩, hkp, rfl⟩⟩, by simp [intOf]⟩
            · go_wp2_with fail
              exact ⟨⟨4, rfl, .inl ⟨⟨2, by omega, rfl⟩, hkp, rfl⟩⟩, by simp [intOf]⟩
            · go_wp2_with fail
              exact ⟨⟨8, rfl, .inl ⟨⟨3, by omega, rfl⟩, hkp, rfl⟩⟩, by simp [intOf]⟩
            · go_wp2_with fail
              exact ⟨⟨16, rfl, .inl ⟨⟨4, by omega, rfl⟩, hkp, rfl⟩⟩, by simp [intOf]⟩
            · go_wp2_with fail
              exact ⟨⟨32, rfl, .inl ⟨⟨5, by omega, rfl⟩, hkp, rfl⟩⟩, by simp [intOf]⟩
            · go_wp2_with fail
              exact ⟨⟨64, rfl, .inl ⟨⟨6, by omega, rfl⟩, hkp, rfl⟩⟩, by simp [intOf]⟩
          · have HM := Lib.hid hm
            clear hm
            go_wp2_with fail
            exact ⟨⟨k + 1, hlt, by go_num, HM.out⟩, by simp [intOf]; omega⟩
      · have hm1 : u7 = .int .i64 1 := by
          rcases hm with ⟨-, h⟩ | ⟨h, -⟩
          · exact h
          · omega
        subst hm1
        clear hm
        have hf8 : ∀ k, flipB b i k < 256 := flip_lt H8.out i
        have C3 := Lib.hid (mend_any (some ⟨g, 0, none⟩) L cap (flipB b i) _ (HB.out _ HB3.out) hf8 hcap2)
        go_wp2_with (go_at_call 25; refine C3.out.mono ?_)
        rintro e w4 ⟨hb4, ⟨h, -⟩ | ⟨-, h, -⟩ | ⟨n', -, h2, -, h⟩⟩
        · exact absurd h (by omega)
        · exact absurd HN.out (h n hn0)
        · obtain rfl := szB_inj (HN.out.trans h2.symm)
          rcases h with ⟨x, h, rfl⟩ | ⟨i', g', cap', h, -⟩
          · rw [mend_again H8.out HI.out] at h
            injection h with h
            subst h
            unfold badB
            have B4 := Lib.hid (B3.out.next hb4)
            clear hb4 C3
            go_wp2_with (go_at_call 13; refine (CA.out _ B4.out).mono ?_; rintro e w5 ⟨rfl, hb5⟩)
            go_ret
            exact ⟨rfl, B4.out.next hb5⟩
          · rw [mend_again H8.out HI.out] at h
            cases h
end Go.Proofs.YtclbmlmlhiiaeaaGreatDoor
