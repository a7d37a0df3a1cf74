/- Walks: awake. -/
import Derived.Test.YtclbmlmlhiiaeaaGreatDoorQRG
import Derived.Test.YtclbmlmlhiiaeaaGreatDoorQN0
import Derived.Test.YtclbmlmlhiiaeaaGreatDoorQA7
namespace Go.Proofs.YtclbmlmlhiiaeaaGreatDoor
open Go.RowKit
theorem seal47_ex(w:World):Calls Tryz.prog 47 #[] w (fun e w'=>e = .returned (.slice (some ⟨w.heap.size,0,none⟩) 5 5)∧w'=w.alloc (.cells #[.int .u8 73,.int .u8 5,.int .u8 0,.int .u8 128,.int .u8 76] 5)):=by
 go_enter Tryz.func47,Tryz.ntmps47;go_wp2_with fail;go_ret;exact⟨rfl,rfl⟩
structure AG (w:World) (P:World→Prop) (W:World):Prop where
 bel:Below w.heap.size w W
 p:P W
 g:∀ W W',P W→Below W.heap.size W W'→P W'
theorem AG.grow{w W W':World}{P:World→Prop}(h:AG w P W)(hb:Below W.heap.size W W'):AG w P W':=⟨h.bel.next hb,h.g _ _ h.p hb,h.g⟩
theorem AG.add{w W:World}{P Q:World→Prop}(h:AG w P W)(hq:Q W)(gq:∀ W W',Q W→Below W.heap.size W W'→Q W'):AG w (fun W=>P W∧Q W) W:=⟨h.bel,⟨h.p,hq⟩,fun _ _ a hb=>⟨h.g _ _ a.1 hb,gq _ _ a.2 hb⟩⟩
set_option maxRecDepth 100000 in
set_option maxHeartbeats 8000000 in
theorem awake13_any(w:World)(hs:Sides w)(hlim:Lim w)(htab:Tab w)(h1:1<w.heap.size):Calls Tryz.prog 13 #[] w fun e w'=>e = .returned (.bool true)∧Below w.heap.size w w':=by
 have HS:=Lib.hid (fun W (h:Below w.heap.size w W)=>hs.grow h);have HT:=Lib.hid (fun W (h:Below w.heap.size w W)=>htab.grow h);have HL:=Lib.hid (fun W (h:Below w.heap.size w W)=>hlim.keep (Keep.of_below h (C:=fun k=>k<w.heap.size) fun k hk=>hk) h1);have H1:=Lib.hid (fun W (h:Below w.heap.size w W)=>Nat.lt_of_lt_of_le h1 h.size);have I0:=Lib.hid (show AG w (fun _=>True) w from⟨Below.refl _ _,trivial,fun _ _ _ _=>trivial⟩);clear hs hlim htab h1;go_enter Tryz.func13,Tryz.ntmps13
 go_upto_region 2 with (first
  | (go_at_call 48; refine(hull48_any _).mono ?_; rintro e w1 ⟨sa,sc,ua,uc,rfl,hS,hU,hb1⟩)
  | (go_at_call 14; refine(s14 _ _ _ _ _ hS hU (HT.out _ (I0.out.bel.next hb1)) (HS.out _ (I0.out.bel.next hb1))).mono ?_; rintro e w2 ⟨rfl,hb2⟩))
 have I2:=Lib.hid ((I0.out.grow hb1).grow hb2);clear hS hU hb1 hb2 I0
 go_upto_region 3 with (first
  | (go_at_call 49; refine(fires49_any _).mono ?_; rintro e w3 ⟨fa,fc,qa,qc,rfl,hF,hQ,hb1⟩)
  | (go_at_call 16; refine(s16 _ _ _ _ _ hF hQ (HT.out _ (I2.out.bel.next hb1))).mono ?_; rintro e w4 ⟨rfl,hb2⟩))
 have I3:=Lib.hid ((I2.out.grow hb1).grow hb2);clear hF hQ hb1 hb2 I2
 go_upto_region 4 with (first
  | (go_at_call 50; refine(marks50_any _).mono ?_; rintro e w5 ⟨oa,ma,ia,ca,oc,mc,ic,cc,op,sp,ok,sk,rfl,hR,hb1⟩)
  | (go_at_call 18; refine(s18 _ _ _ _ _ _ _ _ _ _ _ _ _ hR (HT.out _ (I3.out.bel.next hb1))).mono ?_; rintro e w6 ⟨rfl,hb2⟩))
 have I4:=Lib.hid ((I3.out.grow hb1).grow hb2);clear hR hb1 hb2 I3
 go_upto_region 5 with (first
  | (go_at_call 51; refine(pay51_any _).mono ?_; rintro e w7 ⟨pa,pc,rfl,hS,hb1⟩)
  | (go_at_call 20; refine(s20 _ _ _ hS).mono ?_; rintro e w8 ⟨o7,c7,rfl,hB7,hb2⟩))
 have I5:=Lib.hid (((I4.out.grow hb1).grow hb2).add (Q:=fun W=>BytesAt W o7 5 sealS) hB7 (fun _ _ a hb=>BytesAt.grow a hb));clear hS hb1 hb2 hB7 I4;go_upto_region 6 with (go_at_call 35; refine(s35 _ (HS.out _ I5.out.bel) (HL.out _ I5.out.bel) (HT.out _ I5.out.bel) (H1.out _ I5.out.bel)).mono ?_; rintro e w9 ⟨ra,rc,va,vc,rfl,hS,hU,hb1⟩)
 generalize hW:World.alloc _ _=W6;obtain⟨z,-,hb2⟩:=blocks1 hW;have I6:=Lib.hid ((((I5.out.grow hb1).add (Q:=fun W=>SeasAt W ra 3 (seaOf rdH.s)∧SousAt W va 2 (souOf rdH.u)) ⟨hS,hU⟩ (fun _ _ a hb=>⟨a.1.grow hb,a.2.grow hb⟩)).grow hb2).add (Q:=fun W=>BoxAt W w9.heap.size #[.slice ra 3 rc,.slice va 2 vc] 25) z (fun _ _ a hb=>BoxAt.grow a hb));clear hW z hb1 hb2 hS hU I5;generalize w9.heap.size=b9 at *
 go_upto_region 7 with (first
  | (go_at_call 47; refine(seal47_any _).mono ?_; rintro e w10 ⟨p6,pc6,rfl,hB6,-,hc6,hb1⟩)
  | (go_at_call 23; refine(s23 _ _ _ hB6 hc6).mono ?_; rintro e w11 ⟨xa,xc,ya,yc,rfl,hS,hU,hb2⟩))
 generalize hW:World.alloc _ _=W7;obtain⟨z,-,hb3⟩:=blocks1 hW;have I7:=Lib.hid (((((I6.out.grow hb1).grow hb2).add (Q:=fun W=>Row W xa 1 2 (fun i j=>.int .i64 (rdW.S i j:Nat))∧Row W ya 0 8 (fun i j=>.int .i64 (rdW.T i j:Nat))) ⟨hS,hU⟩ (fun _ _ a hb=>⟨Row.grow a.1 hb,Row.grow a.2 hb⟩)).grow hb3).add (Q:=fun W=>BoxAt W w11.heap.size #[.int .i64 2,.slice xa 1 xc,.slice ya 0 yc] 38) z (fun _ _ a hb=>BoxAt.grow a hb));clear hW z hb1 hb2 hb3 hS hU hB6 hc6 I6;generalize w11.heap.size=b11 at *;go_upto_region 8 with (go_at_call 47; refine(seal47_ex _).mono ?_; rintro e w12 ⟨rfl,hw12⟩)
 subst hw12;go_upto_region 9 with (fail)
 generalize hW:World.alloc _ _=W9;obtain⟨z,-,hb1⟩:=blocks1 hW;generalize hg:W7.heap.size=g at *
 have hB9:BytesAt W9 (some ⟨g,0,none⟩) 5 spoiltS:=row_lit z (by unfold maxLen; omega) (fun i hi j hj=>by
  obtain rfl:j=0:=by omega
  have:i=0∨i=1∨i=2∨i=3∨i=4:=by omega
  rcases this with rfl | rfl | rfl | rfl | rfl <;> rfl)
 have I9:=Lib.hid ((I7.out.grow (by rw [hg]; exact hb1)).add (Q:=fun W=>BytesAt W (some ⟨g,0,none⟩) 5 spoiltS) hB9 (fun _ _ a hb=>BytesAt.grow a hb));clear hW hg hb1 z hB9 I7;go_upto_region 10 with (go_at_call 25; refine(s25 _ _ _ I9.out.p.2 (Nat.le_refl _)).mono ?_; rintro e w13 ⟨o14,c14,rfl,hB,hb1⟩)
 have I10:=Lib.hid ((I9.out.grow hb1).add (Q:=fun W=>BytesAt W o14 5 sealS) hB (fun _ _ a hb=>BytesAt.grow a hb));clear hb1 hB I9;go_upto_region 11 with (go_at_call 23; refine(s23' _ _ _ I10.out.p.1.2 (Nat.le_refl _)).mono ?_; rintro e w14 ⟨cr,za,zn,zc,za',zn',zc',rfl,hb1⟩)
 generalize hW:World.alloc _ _=W11;obtain⟨z,-,hb2⟩:=blocks1 hW;have I11:=Lib.hid ((I10.out.grow hb1).grow hb2);clear hb1 hb2 z hW I10;generalize w14.heap.size=b16 at *;go_upto_region 12 with (go_at_call 37; refine(s37 _ (HL.out _ I11.out.bel) (HT.out _ I11.out.bel) (H1.out _ I11.out.bel)).mono ?_; rintro e w15 ⟨hr,fr,pe,ka,kn,kc,la,ln,lc,rfl,hb1⟩)
 generalize hW:World.alloc _ _=W12;obtain⟨z,-,hb2⟩:=blocks1 hW;have I12:=Lib.hid ((I11.out.grow hb1).grow hb2);clear hb1 hb2 z hW I11;generalize w15.heap.size=b18 at *
 go_wp2_with (first
  | (go_at_call 47; refine(seal47_any _).mono ?_; rintro e w16 ⟨p12,pc12,rfl,hB,-,-,hb1⟩)
  | (go_at_call 22; refine(s22 _ _ _ _ _ (BytesAt.grow I12.out.p.1.1.1.1.1.1.2 hb1) hB).mono ?_; rintro e w17 ⟨rfl,rfl⟩))
 have J0:=Lib.hid (I12.out.grow hb1);clear hB hb1 I12;generalize w17=W0 at *;refine wp_region_stg (S:=(fun w':World=>w'.cell? ⟨b9,0,none⟩=some (.slice ra 3 rc)∧w'.cell? ⟨b9,1,none⟩=some (.slice va 2 vc)∧w'.cell? ⟨b11,0,none⟩=some (.int .i64 2)∧w'.cell? ⟨b11,1,none⟩=some (.slice xa 1 xc)∧w'.cell? ⟨b11,2,none⟩=some (.slice ya 0 yc))) (L:=[]) (D:=[]) (by kernel_rfl) (by kernel_rfl) (by have I0:=Lib.hid (J0.out.grow (Below.drew (Below.refl _ _))); exact⟨cellAt I0.out.p.1.1.1.1.2 0,cellAt I0.out.p.1.1.1.1.2 1,cellAt I0.out.p.1.1.2 0,cellAt I0.out.p.1.1.2 1,cellAt I0.out.p.1.1.2 2⟩) (fun e he=>by cases he) (fun hC0 hH0=>?_);have R14I0:=Lib.hid (J0.out.grow (Below.drew (Below.refl _ _)));clear J0;generalize World.drew W0=R14v0 at *;refine tkA (i:=0) (v:=?_) rfl hC0 (Or.inl ⟨by rfl,?_⟩) hH0 (fun hC1 hH1=>?_);rotate_left
 ·(intro w9 hSw; obtain⟨hSw,hLw⟩:=hSw; clear hLw; (try dsimp only at hSw); (go_split_ands; go_simp); (try with_reducible rfl))
 clear hC0 hH0
 try simp only [Act.put,List.setIfInBounds_toArray,List.set_cons_zero,List.set_cons_succ]
 refine onA (i:=1) rfl hC1 (fun K hK=>?_);clear hC1 hH1;go_simp;refine(hull48_any R14v0).mono ?_;rintro e R14v1 ⟨sa',sc',ua',uc',rfl,hS,hU,hb1⟩;have R14I1:=Lib.hid (R14I0.out.grow hb1);have LS:=Lib.hid hS;have LU:=Lib.hid hU;clear hb1 R14I0 hS hU;go_wp2_with fail;refine hK.out _ _ ?_ (fun hC2 hH2=>?_)
 ·exact⟨⟨cellAt R14I1.out.p.1.1.1.1.2 0,cellAt R14I1.out.p.1.1.1.1.2 1,cellAt R14I1.out.p.1.1.2 0,cellAt R14I1.out.p.1.1.2 1,cellAt R14I1.out.p.1.1.2 2⟩,fun e he=>by cases he⟩
 clear hK K
 try simp only [Act.put,List.setIfInBounds_toArray,List.set_cons_zero,List.set_cons_succ]
 refine onA (i:=2) rfl hC2 (fun K hK=>?_);clear hC2 hH2;go_simp;refine(s28 _ _ _ _ _ _ _ _ R14v1 R14I1.out.p.1.1.1.1.1.2.1 R14I1.out.p.1.1.1.1.1.2.2 LS.out LU.out (HT.out _ R14I1.out.bel)).mono ?_;rintro e R14v2 ⟨rfl,hb2⟩;have R14I2:=Lib.hid (R14I1.out.grow hb2);clear hb2 R14I1 LS LU;go_wp2_with fail;refine hK.out _ _ ?_ (fun hC3 hH3=>?_)
 ·exact⟨⟨cellAt R14I2.out.p.1.1.1.1.2 0,cellAt R14I2.out.p.1.1.1.1.2 1,cellAt R14I2.out.p.1.1.2 0,cellAt R14I2.out.p.1.1.2 1,cellAt R14I2.out.p.1.1.2 2⟩,fun e he=>by cases he⟩
 clear hK K
 try simp only [Act.put,List.setIfInBounds_toArray,List.set_cons_zero,List.set_cons_succ]
 refine tkA (i:=3) (v:=?_) rfl hC3 (Or.inl ⟨by rfl,?_⟩) hH3 (fun hC4 hH4=>?_);rotate_left
 ·(intro w9 hSw; obtain⟨hSw,hLw⟩:=hSw; clear hLw; (try dsimp only at hSw); (go_split_ands; go_simp); (try with_reducible rfl))
 clear hC3 hH3
 try simp only [Act.put,List.setIfInBounds_toArray,List.set_cons_zero,List.set_cons_succ]
 refine tkA (i:=4) (v:=?_) rfl hC4 (Or.inl ⟨by rfl,?_⟩) hH4 (fun hC5 hH5=>?_);rotate_left
 ·(intro w9 hSw; obtain⟨hSw,hLw⟩:=hSw; clear hLw; (try dsimp only at hSw); (go_split_ands; go_simp); (try with_reducible rfl))
 clear hC4 hH4
 try simp only [Act.put,List.setIfInBounds_toArray,List.set_cons_zero,List.set_cons_succ]
 refine tkA (i:=5) (v:=?_) rfl hC5 (Or.inl ⟨by rfl,?_⟩) hH5 (fun hC6 hH6=>?_);rotate_left
 ·(intro w9 hSw; obtain⟨hSw,hLw⟩:=hSw; clear hLw; (try dsimp only at hSw); (go_split_ands; go_simp); (try with_reducible rfl))
 clear hC5 hH5
 try simp only [Act.put,List.setIfInBounds_toArray,List.set_cons_zero,List.set_cons_succ]
 refine tkA (i:=6) (v:=?_) rfl hC6 (Or.inl ⟨by rfl,?_⟩) hH6 (fun hC7 hH7=>?_);rotate_left
 ·(intro w9 hSw; obtain⟨hSw,hLw⟩:=hSw; clear hLw; (try dsimp only at hSw); (go_split_ands; go_simp); (try with_reducible rfl))
 clear hC6 hH6
 try simp only [Act.put,List.setIfInBounds_toArray,List.set_cons_zero,List.set_cons_succ]
 refine tkA (i:=7) (v:=?_) rfl hC7 (Or.inl ⟨by rfl,?_⟩) hH7 (fun hC8 hH8=>?_);rotate_left
 ·(intro w9 hSw; obtain⟨hSw,hLw⟩:=hSw; clear hLw; (try dsimp only at hSw); (go_split_ands; go_simp); (try with_reducible rfl))
 clear hC7 hH7
 try simp only [Act.put,List.setIfInBounds_toArray,List.set_cons_zero,List.set_cons_succ]
 refine tkA (i:=8) (v:=?_) rfl hC8 (Or.inl ⟨by rfl,?_⟩) hH8 (fun hC9 hH9=>?_);rotate_left
 ·(intro w9 hSw; obtain⟨hSw,hLw⟩:=hSw; clear hLw; (try dsimp only at hSw); (go_split_ands; go_simp); (try with_reducible rfl))
 clear hC8 hH8
 try simp only [Act.put,List.setIfInBounds_toArray,List.set_cons_zero,List.set_cons_succ]
 refine onA (i:=9) rfl hC9 (fun K hK=>?_);clear hC9 hH9;go_simp;refine(pay51_any R14v2).mono ?_;rintro e R14v3 ⟨pa',pc',rfl,hS,hb3⟩;have R14I3:=Lib.hid (R14I2.out.grow hb3);have LS:=Lib.hid hS;clear hb3 R14I2 hS;go_wp2_with fail;refine hK.out _ _ ?_ (fun hC10 hH10=>?_)
 ·exact⟨⟨cellAt R14I3.out.p.1.1.1.1.2 0,cellAt R14I3.out.p.1.1.1.1.2 1,cellAt R14I3.out.p.1.1.2 0,cellAt R14I3.out.p.1.1.2 1,cellAt R14I3.out.p.1.1.2 2⟩,fun e he=>by cases he⟩
 clear hK K
 try simp only [Act.put,List.setIfInBounds_toArray,List.set_cons_zero,List.set_cons_succ]
 refine onA (i:=10) rfl hC10 (fun K hK=>?_);clear hC10 hH10;go_simp;refine(s27 _ _ _ _ _ _ R14v3 R14I3.out.p.1.1.1.2.1 R14I3.out.p.1.1.1.2.2 LS.out).mono ?_;rintro e R14v4 ⟨rfl,hb4⟩;have R14I4:=Lib.hid (R14I3.out.grow hb4);clear hb4 R14I3 LS;go_wp2_with fail;refine hK.out _ _ ?_ (fun hC11 hH11=>?_)
 ·exact⟨⟨cellAt R14I4.out.p.1.1.1.1.2 0,cellAt R14I4.out.p.1.1.1.1.2 1,cellAt R14I4.out.p.1.1.2 0,cellAt R14I4.out.p.1.1.2 1,cellAt R14I4.out.p.1.1.2 2⟩,fun e he=>by cases he⟩
 clear hK K
 try simp only [Act.put,List.setIfInBounds_toArray,List.set_cons_zero,List.set_cons_succ]
 refine tkA (i:=11) (v:=?_) rfl hC11 (Or.inl ⟨by rfl,?_⟩) hH11 (fun hC12 hH12=>?_);rotate_left
 ·(intro w9 hSw; obtain⟨hSw,hLw⟩:=hSw; clear hLw; (try dsimp only at hSw); (go_split_ands; go_simp); (try with_reducible rfl))
 clear hC11 hH11
 try simp only [Act.put,List.setIfInBounds_toArray,List.set_cons_zero,List.set_cons_succ]
 refine tkA (i:=12) (v:=?_) rfl hC12 (Or.inl ⟨by rfl,?_⟩) hH12 (fun hC13 hH13=>?_);rotate_left
 ·(intro w9 hSw; obtain⟨hSw,hLw⟩:=hSw; clear hLw; (try dsimp only at hSw); (go_split_ands; go_simp); (try with_reducible rfl))
 clear hC12 hH12
 try simp only [Act.put,List.setIfInBounds_toArray,List.set_cons_zero,List.set_cons_succ]
 refine tkA (i:=13) (v:=?_) rfl hC13 (Or.inl ⟨by rfl,?_⟩) hH13 (fun hC14 hH14=>?_);rotate_left
 ·(intro w9 hSw; obtain⟨hSw,hLw⟩:=hSw; clear hLw; (try dsimp only at hSw); (go_split_ands; go_simp); (try with_reducible rfl))
 clear hC13 hH13
 try simp only [Act.put,List.setIfInBounds_toArray,List.set_cons_zero,List.set_cons_succ]
 refine tkA (i:=14) (v:=?_) rfl hC14 (Or.inl ⟨by rfl,?_⟩) hH14 (fun hC15 hH15=>?_);rotate_left
 ·(intro w9 hSw; obtain⟨hSw,hLw⟩:=hSw; clear hLw; (try dsimp only at hSw); (go_split_ands; go_simp); (try with_reducible rfl))
 clear hC14 hH14
 try simp only [Act.put,List.setIfInBounds_toArray,List.set_cons_zero,List.set_cons_succ]
 refine tkA (i:=15) (v:=?_) rfl hC15 (Or.inl ⟨by rfl,?_⟩) hH15 (fun hC16 hH16=>?_);rotate_left
 ·(intro w9 hSw; obtain⟨hSw,hLw⟩:=hSw; clear hLw; (try dsimp only at hSw); (go_split_ands; go_simp); (try with_reducible rfl))
 clear hC15 hH15
 try simp only [Act.put,List.setIfInBounds_toArray,List.set_cons_zero,List.set_cons_succ]
 refine tkA (i:=16) (v:=?_) rfl hC16 (Or.inl ⟨by rfl,?_⟩) hH16 (fun hC17 hH17=>?_);rotate_left
 ·(intro w9 hSw; obtain⟨hSw,hLw⟩:=hSw; clear hLw; (try dsimp only at hSw); (go_split_ands; go_simp); (try with_reducible rfl))
 clear hC16 hH16
 try simp only [Act.put,List.setIfInBounds_toArray,List.set_cons_zero,List.set_cons_succ]
 refine tkA (i:=17) (v:=?_) rfl hC17 (Or.inl ⟨by rfl,?_⟩) hH17 (fun hC18 hH18=>?_);rotate_left
 ·(intro w9 hSw; obtain⟨hSw,hLw⟩:=hSw; clear hLw; (try dsimp only at hSw); (go_split_ands; go_simp); (try with_reducible rfl))
 clear hC17 hH17
 try simp only [Act.put,List.setIfInBounds_toArray,List.set_cons_zero,List.set_cons_succ]
 refine onA (i:=18) rfl hC18 (fun K hK=>?_);clear hC18 hH18;go_simp;refine(seal47_any R14v4).mono ?_;rintro e R14v5 ⟨q14,qc14,rfl,hB,-,-,hb5⟩;have R14I5:=Lib.hid (R14I4.out.grow hb5);have LS:=Lib.hid hB;clear hb5 R14I4 hB;go_wp2_with fail;refine hK.out _ _ ?_ (fun hC19 hH19=>?_)
 ·exact⟨⟨cellAt R14I5.out.p.1.1.1.1.2 0,cellAt R14I5.out.p.1.1.1.1.2 1,cellAt R14I5.out.p.1.1.2 0,cellAt R14I5.out.p.1.1.2 1,cellAt R14I5.out.p.1.1.2 2⟩,fun e he=>by cases he⟩
 clear hK K
 try simp only [Act.put,List.setIfInBounds_toArray,List.set_cons_zero,List.set_cons_succ]
 refine onA (i:=19) rfl hC19 (fun K hK=>?_);clear hC19 hH19;go_simp;refine(s22 _ _ _ _ R14v5 R14I5.out.p.2 LS.out).mono ?_;rintro e R14v6 ⟨rfl,he6⟩; subst he6; have hb6:=Below.refl R14v6.heap.size R14v6;have R14I6:=Lib.hid (R14I5.out.grow hb6);clear hb6 R14I5 LS;go_wp2_with fail;refine hK.out _ _ ?_ (fun hC20 hH20=>?_)
 ·exact⟨⟨cellAt R14I6.out.p.1.1.1.1.2 0,cellAt R14I6.out.p.1.1.1.1.2 1,cellAt R14I6.out.p.1.1.2 0,cellAt R14I6.out.p.1.1.2 1,cellAt R14I6.out.p.1.1.2 2⟩,fun e he=>by cases he⟩
 clear hK K
 try simp only [Act.put,List.setIfInBounds_toArray,List.set_cons_zero,List.set_cons_succ]
 refine tkA (i:=20) (v:=?_) rfl hC20 (Or.inl ⟨by rfl,?_⟩) hH20 (fun hC21 hH21=>?_);rotate_left
 ·(intro w9 hSw; obtain⟨hSw,hLw⟩:=hSw; clear hLw; (try dsimp only at hSw); (go_split_ands; go_simp); (try with_reducible rfl))
 clear hC20 hH20
 try simp only [Act.put,List.setIfInBounds_toArray,List.set_cons_zero,List.set_cons_succ]
 refine tkA (i:=21) (v:=?_) rfl hC21 (Or.inl ⟨by rfl,?_⟩) hH21 (fun hC22 hH22=>?_);rotate_left
 ·(intro w9 hSw; obtain⟨hSw,hLw⟩:=hSw; clear hLw; (try dsimp only at hSw); (go_split_ands; go_simp); (try with_reducible rfl))
 clear hC21 hH21
 try simp only [Act.put,List.setIfInBounds_toArray,List.set_cons_zero,List.set_cons_succ]
 refine tkA (i:=22) (v:=?_) rfl hC22 (Or.inl ⟨by rfl,?_⟩) hH22 (fun hC23 hH23=>?_);rotate_left
 ·(intro w9 hSw; obtain⟨hSw,hLw⟩:=hSw; clear hLw; (try dsimp only at hSw); (go_split_ands; go_simp); (try with_reducible rfl))
 clear hC22 hH22
 try simp only [Act.put,List.setIfInBounds_toArray,List.set_cons_zero,List.set_cons_succ]
 refine tkA (i:=23) (v:=?_) rfl hC23 (Or.inl ⟨by rfl,?_⟩) hH23 (fun hC24 hH24=>?_);rotate_left
 ·(intro w9 hSw; obtain⟨hSw,hLw⟩:=hSw; clear hLw; (try dsimp only at hSw); (go_split_ands; go_simp); (try with_reducible rfl))
 clear hC23 hH23
 try simp only [Act.put,List.setIfInBounds_toArray,List.set_cons_zero,List.set_cons_succ]
 refine tkA (i:=24) (v:=?_) rfl hC24 (Or.inl ⟨by rfl,?_⟩) hH24 (fun hC25 hH25=>?_);rotate_left
 ·(intro w9 hSw; obtain⟨hSw,hLw⟩:=hSw; clear hLw; (try dsimp only at hSw); (go_split_ands; go_simp); (try with_reducible rfl))
 clear hC24 hH24
 try simp only [Act.put,List.setIfInBounds_toArray,List.set_cons_zero,List.set_cons_succ]
 refine tkA (i:=25) (v:=?_) rfl hC25 (Or.inl ⟨by rfl,?_⟩) hH25 (fun hC26 hH26=>?_);rotate_left
 ·(intro w9 hSw; obtain⟨hSw,hLw⟩:=hSw; clear hLw; (try dsimp only at hSw); (go_split_ands; go_simp); (try with_reducible rfl))
 clear hC25 hH25
 try simp only [Act.put,List.setIfInBounds_toArray,List.set_cons_zero,List.set_cons_succ]
 refine tkA (i:=26) (v:=?_) rfl hC26 (Or.inl ⟨by rfl,?_⟩) hH26 (fun hC27 hH27=>?_);rotate_left
 ·(intro w9 hSw; obtain⟨hSw,hLw⟩:=hSw; clear hLw; (try dsimp only at hSw); (go_split_ands; go_simp); (try with_reducible rfl))
 clear hC26 hH26
 try simp only [Act.put,List.setIfInBounds_toArray,List.set_cons_zero,List.set_cons_succ]
 refine tkA (i:=27) (v:=?_) rfl hC27 (Or.inl ⟨by rfl,?_⟩) hH27 (fun hC28 hH28=>?_);rotate_left
 ·(intro w9 hSw; obtain⟨hSw,hLw⟩:=hSw; clear hLw; (try dsimp only at hSw); (go_split_ands; go_simp); (try with_reducible rfl))
 clear hC27 hH27
 try simp only [Act.put,List.setIfInBounds_toArray,List.set_cons_zero,List.set_cons_succ]
 refine tkA (i:=28) (v:=?_) rfl hC28 (Or.inl ⟨by rfl,?_⟩) hH28 (fun hC29 hH29=>?_);rotate_left
 ·(intro w9 hSw; obtain⟨hSw,hLw⟩:=hSw; clear hLw; (try dsimp only at hSw); (go_split_ands; go_simp); (try with_reducible rfl))
 clear hC28 hH28
 try simp only [Act.put,List.setIfInBounds_toArray,List.set_cons_zero,List.set_cons_succ]
 refine tkA (i:=29) (v:=?_) rfl hC29 (Or.inl ⟨by rfl,?_⟩) hH29 (fun hC30 hH30=>?_);rotate_left
 ·(intro w9 hSw; obtain⟨hSw,hLw⟩:=hSw; clear hLw; (try dsimp only at hSw); (go_split_ands; go_simp); (try with_reducible rfl))
 clear hC29 hH29
 try simp only [Act.put,List.setIfInBounds_toArray,List.set_cons_zero,List.set_cons_succ]
 refine tkA (i:=30) (v:=?_) rfl hC30 (Or.inl ⟨by rfl,?_⟩) hH30 (fun hC31 hH31=>?_);rotate_left
 ·(intro w9 hSw; obtain⟨hSw,hLw⟩:=hSw; clear hLw; (try dsimp only at hSw); (go_split_ands; go_simp); (try with_reducible rfl))
 clear hC30 hH30
 try simp only [Act.put,List.setIfInBounds_toArray,List.set_cons_zero,List.set_cons_succ]
 refine tkA (i:=31) (v:=?_) rfl hC31 (Or.inl ⟨by rfl,?_⟩) hH31 (fun hC32 hH32=>?_);rotate_left
 ·(intro w9 hSw; obtain⟨hSw,hLw⟩:=hSw; clear hLw; (try dsimp only at hSw); (go_split_ands; go_simp); (try with_reducible rfl))
 clear hC31 hH31
 try simp only [Act.put,List.setIfInBounds_toArray,List.set_cons_zero,List.set_cons_succ]
 refine tkA (i:=32) (v:=?_) rfl hC32 (Or.inl ⟨by rfl,?_⟩) hH32 (fun hC33 hH33=>?_);rotate_left
 ·(intro w9 hSw; obtain⟨hSw,hLw⟩:=hSw; clear hLw; (try dsimp only at hSw); (go_split_ands; go_simp); (try with_reducible rfl))
 clear hC32 hH32
 try simp only [Act.put,List.setIfInBounds_toArray,List.set_cons_zero,List.set_cons_succ]
 refine tkA (i:=33) (v:=?_) rfl hC33 (Or.inl ⟨by rfl,?_⟩) hH33 (fun hC34 hH34=>?_);rotate_left
 ·(intro w9 hSw; obtain⟨hSw,hLw⟩:=hSw; clear hLw; (try dsimp only at hSw); (go_split_ands; go_simp); (try with_reducible rfl))
 clear hC33 hH33
 try simp only [Act.put,List.setIfInBounds_toArray,List.set_cons_zero]
 refine wpAnyT_done (by kernel_rfl) ?_ _;clear hC34 hH34;go_wp2_with fail;go_ret;exact⟨rfl,R14I6.out.bel⟩
end Go.Proofs.YtclbmlmlhiiaeaaGreatDoor
