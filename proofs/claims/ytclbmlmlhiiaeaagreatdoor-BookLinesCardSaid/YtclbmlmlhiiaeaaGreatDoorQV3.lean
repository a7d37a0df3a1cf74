/- Walks: the bits of wages, by the reference. Walks: a content -/
import Derived.Test.YtclbmlmlhiiaeaaGreatDoorQV2
import Derived.Test.YtclbmlmlhiiaeaaGreatDoorK4
import Derived.Test.YtclbmlmlhiiaeaaGreatDoorQA6
namespace Go.Proofs.YtclbmlmlhiiaeaaGreatDoor
open Go.RowKit
structure SmallW (x:WagesV):Prop where
 cr:x.cr≤1000
 sn:x.sn≤100
 tn:x.tn≤100
 s:∀ i,i<x.sn→x.S i 0≤1000∧x.S i 1≤1000
 t:∀ i,i<x.tn→x.T i 0≤1000∧x.T i 1≤1000
 pre:∀ i,i<x.tn→TPre (x.T i)
structure WI (w:World) (x:WagesV) (sa ta:Option Addr) (sc tc:Nat) (oa:Option Addr) (l:List Bool) (W:World):Prop where
 bel:Below w.heap.size w W
 bx:BoxAt W w.heap.size #[.int .i64 x.cr,.slice sa x.sn sc,.slice ta x.tn tc] 38
 ss:Row W sa x.sn 2 (fun i j=>.int .i64 (x.S i j:Nat))
 tt:Row W ta x.tn 8 (fun i j=>.int .i64 (x.T i j:Nat))
 l:BitsAt W oa l
section
variable {w W W':World} {x:WagesV} {sa ta:Option Addr} {sc tc b:Nat} {oa oa':Option Addr} {l l':List Bool} {cs:Array Value}
theorem WI.grow(h:WI w x sa ta sc tc oa l W)(hb:Below W.heap.size W W'):WI w x sa ta sc tc oa l W':=⟨h.bel.next hb,h.bx.grow hb,Row.grow h.ss hb,Row.grow h.tt hb,h.l.grow hb⟩
theorem WI.put(h:WI w x sa ta sc tc oa l W)(hb:Below W.heap.size W W')(hl:BitsAt W' oa' l'):WI w x sa ta sc tc oa' l' W':=⟨h.bel.next hb,h.bx.grow hb,Row.grow h.ss hb,Row.grow h.tt hb,hl⟩
structure WT (w:World) (x:WagesV) (sa ta:Option Addr) (sc tc b:Nat) (cs:Array Value) (oa:Option Addr) (l:List Bool) (W:World):Prop where
 i:WI w x sa ta sc tc oa l W
 tk:BoxAt W b cs 130
theorem WT.grow(h:WT w x sa ta sc tc b cs oa l W)(hb:Below W.heap.size W W'):WT w x sa ta sc tc b cs oa l W':=⟨h.i.grow hb,h.tk.grow hb⟩
theorem WT.put(h:WT w x sa ta sc tc b cs oa l W)(hb:Below W.heap.size W W')(hl:BitsAt W' oa' l'):WT w x sa ta sc tc b cs oa' l' W':=⟨h.i.put hb hl,h.tk.grow hb⟩
end
theorem WI.c1{w W:World}{x:WagesV}{sa ta:Option Addr}{sc tc:Nat}{oa:Option Addr}{l:List Bool}(h:WI w x sa ta sc tc oa l W){k:Nat}(hk:k<x.sn):W.cell? ⟨w.heap.size,1,none⟩=some (.slice sa x.sn sc)∧W.cell? ⟨blk sa,ofs sa+k * 2,none⟩=some (.int .i64 (x.S k 0:Nat))∧W.cell? ⟨blk sa,ofs sa+k * 2+1,none⟩=some (.int .i64 (x.S k 1:Nat)):=by
 have g0:=h.ss.cells k hk 0 (by omega);have g1:=h.ss.cells k hk 1 (by omega);simp only [Nat.add_zero] at g0;exact⟨cellAt h.bx 1,g0,g1⟩
theorem tk_cells{W:World}{b:Nat}{a0 a1 a2 a3 a4 a5 a6 a7:Nat}(h:BoxAt W b #[.int .i64 a0,.int .i64 a1,.int .i64 a2,.int .i64 a3,.int .i64 a4,.int .i64 a5,.int .i64 a6,.int .i64 a7] 130):W.cell? ⟨b,2,none⟩=some (.int .i64 a2)∧W.cell? ⟨b,3,none⟩=some (.int .i64 a3)∧W.cell? ⟨b,4,none⟩=some (.int .i64 a4)∧W.cell? ⟨b,5,none⟩=some (.int .i64 a5)∧W.cell? ⟨b,6,none⟩=some (.int .i64 a6)∧W.cell? ⟨b,7,none⟩=some (.int .i64 a7) :=
 ⟨cellAt h 2,cellAt h 3,cellAt h 4,cellAt h 5,cellAt h 6,cellAt h 7⟩
theorem bits_nil(W:World):BitsAt W none []:=row_none _ _ _
set_option maxRecDepth 100000 in
set_option maxHeartbeats 8000000 in
theorem bits126_any(x:WagesV)(sa ta:Option Addr)(sc tc:Nat)(w:World)(hS:Row w sa x.sn 2 (fun i j=>.int .i64 (x.S i j:Nat)))(hT:Row w ta x.tn 8 (fun i j=>.int .i64 (x.T i j:Nat)))(hx:SmallW x) :
  Calls Tryz.prog 126 #[.agg #[.int .i64 x.cr,.slice sa x.sn sc,.slice ta x.tn tc]] w (PutPost (wageBits x) w):=by
 have hb0:=(Below.refl w.heap.size w).alloc (Nat.le_refl _) (.cells #[.int .i64 x.cr,.slice sa x.sn sc,.slice ta x.tn tc] 38);have J0:=Lib.hid (show WI w x sa ta sc tc none [] (w.alloc (.cells #[.int .i64 x.cr,.slice sa x.sn sc,.slice ta x.tn tc] 38)) from⟨hb0,heap_alloc_new _ _,Row.grow hS hb0,Row.grow hT hb0,bits_nil _⟩);obtain⟨h1,h2,h3,h4,h5,h6⟩:=hx;have H4:=Lib.hid h4;have H5:=Lib.hid h5;have H6:=Lib.hid h6;clear hS hT hb0 h4 h5 h6;obtain⟨L1,e1⟩:∃ L1,[]++bitsH x.cr 3=L1:=⟨_,rfl⟩
 obtain⟨L2,e2⟩:∃ L2,L1++bitsH x.sn 2=L2:=⟨_,rfl⟩
 have n1:L1.length≤3:=by rw [← e1,List.length_append,bitsH_len]; simp
 have n2:L2.length≤5:=by rw [← e2,List.length_append,bitsH_len]; omega
 have E1:=Lib.hid e1;have E2:=Lib.hid e2;clear e1 e2;go_enter Tryz.func126,Tryz.ntmps126;go_upto_region 1 with (fail)
 generalize World.alloc w _=W0 at *;have K0:=Lib.hid (fun W (h:WI w x sa ta sc tc none [] W)=>(show W.cell? ⟨w.heap.size,0,none⟩=some (.int .i64 (x.cr:Nat))∧W.cell? ⟨w.heap.size,1,none⟩=some (.slice sa x.sn sc) from⟨cellAt h.bx 0,cellAt h.bx 1⟩));refine wp_region_stg (S:=(fun w':World=>w'.cell? ⟨w.heap.size,0,none⟩=some (.int .i64 (x.cr:Nat))∧w'.cell? ⟨w.heap.size,1,none⟩=some (.slice sa x.sn sc))) (L:=[]) (D:=[]) (by kernel_rfl) (by kernel_rfl) (by have I0:=Lib.hid (J0.out.grow (Below.drew (Below.refl _ _))); exact⟨cellAt I0.out.bx 0,cellAt I0.out.bx 1⟩) (fun e he=>by cases he) (fun hC0 hH0=>?_);have R1I0:=Lib.hid (J0.out.grow (Below.drew (Below.refl _ _)));clear J0;generalize World.drew W0=R1v0 at *;refine tkA (i:=0) (v:=?_) rfl hC0 (Or.inl ⟨by rfl,?_⟩) hH0 (fun hC1 hH1=>?_);rotate_left
 ·(intro w9 hSw; obtain⟨hSw,hLw⟩:=hSw; clear hLw; (try dsimp only at hSw); (go_split_ands; go_simp); (try with_reducible rfl))
 clear hC0 hH0
 try simp only [Act.put,List.setIfInBounds_toArray,List.set_cons_zero,List.set_cons_succ]
 refine tkA (i:=1) (v:=?_) rfl hC1 (Or.inl ⟨by rfl,?_⟩) hH1 (fun hC2 hH2=>?_);rotate_left
 ·(intro w9 hSw; obtain⟨hSw,hLw⟩:=hSw; clear hLw; (try dsimp only at hSw); (go_split_ands; go_simp); (try with_reducible rfl))
 clear hC1 hH1
 try simp only [Act.put,List.setIfInBounds_toArray,List.set_cons_zero,List.set_cons_succ]
 refine tkA (i:=3) (v:=?_) rfl hC2 (Or.inl ⟨by rfl,?_⟩) hH2 (fun hC3 hH3=>?_);rotate_left
 ·(intro w9 hSw; obtain⟨hSw,hLw⟩:=hSw; clear hLw; (try dsimp only at hSw); (go_split_ands; go_simp); (try with_reducible rfl))
 clear hC2 hH2
 try simp only [Act.put,List.setIfInBounds_toArray,List.set_cons_zero,List.set_cons_succ]
 refine tkA (i:=4) (v:=?_) rfl hC3 (Or.inl ⟨by rfl,?_⟩) hH3 (fun hC4 hH4=>?_);rotate_left
 ·(intro w9 hSw; obtain⟨hSw,hLw⟩:=hSw; clear hLw; (try dsimp only at hSw); (go_split_ands; go_simp); (try with_reducible rfl))
 clear hC3 hH3
 try simp only [Act.put,List.setIfInBounds_toArray,List.set_cons_zero,List.set_cons_succ]
 refine tkA (i:=5) (v:=?_) rfl hC4 (Or.inl ⟨by rfl,?_⟩) hH4 (fun hC5 hH5=>?_);rotate_left
 ·(intro w9 hSw; obtain⟨hSw,hLw⟩:=hSw; clear hLw; (try dsimp only at hSw); (go_split_ands; go_simp); (try with_reducible rfl))
 clear hC4 hH4
 try simp only [Act.put,List.setIfInBounds_toArray,List.set_cons_zero,List.set_cons_succ]
 refine onA (i:=2) rfl hC5 (fun K hK=>?_);clear hC5 hH5;go_simp;refine(show Calls Tryz.prog 151 #[.slice none 0 0,.int .i64 (x.cr:Int),.int .i64 3] R1v0 (PutPost L1 R1v0) from by rw [← E1.out]; exact put_any none 0 [] x.cr 3 R1v0 R1I0.out.l (by omega) (by omega) (by simp)).mono ?_;rintro e R1v1 ⟨R1o1,R1c1,rfl,hl1,hb1⟩;have R1I1:=Lib.hid (R1I0.out.put hb1 hl1);clear hl1 hb1 R1I0;go_wp2_with fail;refine hK.out _ _ ?_ (fun hC6 hH6=>?_)
 ·exact⟨⟨cellAt R1I1.out.bx 0,cellAt R1I1.out.bx 1⟩,fun e he=>by cases he⟩
 clear hK K
 try simp only [Act.put,List.setIfInBounds_toArray,List.set_cons_zero,List.set_cons_succ]
 refine onA (i:=6) rfl hC6 (fun K hK=>?_);clear hC6 hH6;go_simp;refine(show Calls Tryz.prog 151 #[.slice R1o1 L1.length R1c1,.int .i64 (x.sn:Int),.int .i64 2] R1v1 (PutPost L2 R1v1) from by rw [← E2.out]; exact put_any R1o1 R1c1 L1 (x.sn) 2 R1v1 R1I1.out.l (by omega) (by omega) (by omega)).mono ?_;rintro e R1v2 ⟨R1o2,R1c2,rfl,hl2,hb2⟩;have R1I2:=Lib.hid (R1I1.out.put hb2 hl2);clear hl2 hb2 R1I1;go_wp2_with fail;refine hK.out _ _ ?_ (fun hC7 hH7=>?_)
 ·exact⟨⟨cellAt R1I2.out.bx 0,cellAt R1I2.out.bx 1⟩,fun e he=>by cases he⟩
 clear hK K
 try simp only [Act.put,List.setIfInBounds_toArray,List.set_cons_zero,List.set_cons_succ]
 refine tkA (i:=7) (v:=?_) rfl hC7 (Or.inl ⟨by rfl,?_⟩) hH7 (fun hC8 hH8=>?_);rotate_left
 ·(intro w9 hSw; obtain⟨hSw,hLw⟩:=hSw; clear hLw; (try dsimp only at hSw); (go_split_ands; go_simp); (try with_reducible rfl))
 clear hC7 hH7
 try simp only [Act.put,List.setIfInBounds_toArray,List.set_cons_zero,List.set_cons_succ]
 refine wpAnyT_done (by kernel_rfl) ?_ _;clear hC8 hH8;go_wp2_with fail;clear K0
 go_loopw [3,4] (fun s i wr => ∃ (k:Nat) (oa':Option Addr) (c':Nat),k≤x.sn∧i = .int .i64 k∧s = .slice oa' (L2++listBits seamBits x.S k).length c'∧WI w x sa ta sc tc oa' (L2++listBits seamBits x.S k) wr) (fun _ i _=>x.sn - (intOf i).toNat)
 case atStart=>exact⟨0,R1o2,R1c2,Nat.zero_le _,rfl,by simp [listBits],by simpa [listBits] using R1I2.out⟩
 case round =>
  clear R1I2;obtain⟨k,oa',c',hk,rfl,rfl,h1⟩:=hrel;have I1:=Lib.hid h1;clear h1;have n3:(L2++listBits seamBits x.S k).length≤1200:=by rw [List.length_append,listBits_len seamBits_len]; omega
  by_cases hlt:k<x.sn
  ·have HN:=Lib.hid (show L2++listBits seamBits x.S (k+1)=((L2++listBits seamBits x.S k)++bitsH (x.S k 0) 5)++bitsH (x.S k 1) 6 from by simp only [listBits,seamBits,List.append_assoc])
   have hi:=fun w=>run_indexAt_row (w:=w) (cap:=sc) wseams35 size126 (I1.out.ss.plain (by omega)) hlt;obtain⟨s0,s1⟩:=H4.out k hlt;obtain⟨L,hL⟩:∃ L,L2++listBits seamBits x.S k=L:=⟨_,rfl⟩
   rw [hL] at I1 HN n3 ⊢;clear hL;obtain⟨M1,e1⟩:∃ M1,L++bitsH (x.S k 0) 5=M1:=⟨_,rfl⟩
   obtain⟨M2,e2⟩:∃ M2,M1++bitsH (x.S k 1) 6=M2:=⟨_,rfl⟩
   have n4:M1.length≤1210:=by rw [← e1,List.length_append,bitsH_len]; omega
   have F1:=Lib.hid e1;have F2:=Lib.hid e2;rw [e1,e2] at HN;clear e1 e2;have q1:=cellAt I1.out.bx 1;simp only [List.getElem?_toArray,List.getElem?_cons_zero,List.getElem?_cons_succ] at q1;go_upto_region 5 with (fail)
   clear q1;refine wp_region_stg (S:=(fun w':World=>w'.cell? ⟨w.heap.size,1,none⟩=some (.slice sa x.sn sc)∧w'.cell? ⟨blk sa,ofs sa+k * 2,none⟩=some (.int .i64 (x.S k 0:Nat))∧w'.cell? ⟨blk sa,ofs sa+k * 2+1,none⟩=some (.int .i64 (x.S k 1:Nat)))) (L:=[]) (D:=[]) (by kernel_rfl) (by kernel_rfl) (by have I0:=Lib.hid (I1.out.grow (Below.drew (Below.refl _ _))); exact I0.out.c1 hlt) (fun e he=>by cases he) (fun hC0 hH0=>?_);have R5I0:=Lib.hid (I1.out.grow (Below.drew (Below.refl _ _)));clear I1;generalize World.drew wr=R5v0 at *;refine tkA (i:=0) (v:=?_) rfl hC0 (Or.inl ⟨by rfl,?_⟩) hH0 (fun hC1 hH1=>?_);rotate_left
   ·(intro w9 hSw; obtain⟨hSw,hLw⟩:=hSw; clear hLw; (try dsimp only at hSw); (go_split_ands; go_simp); (try with_reducible rfl))
   clear hC0 hH0
   try simp only [Act.put,List.setIfInBounds_toArray,List.set_cons_zero,List.set_cons_succ]
   refine tkA (i:=1) (v:=?_) rfl hC1 (Or.inl ⟨by rfl,?_⟩) hH1 (fun hC2 hH2=>?_);rotate_left
   ·(intro w9 hSw; obtain⟨hSw,hLw⟩:=hSw; clear hLw; (try dsimp only at hSw); (go_split_ands; go_simp); (try with_reducible rfl))
   clear hC1 hH1
   try simp only [Act.put,List.setIfInBounds_toArray,List.set_cons_zero,List.set_cons_succ]
   refine tkA (i:=2) (v:=?_) rfl hC2 (Or.inl ⟨by rfl,?_⟩) hH2 (fun hC3 hH3=>?_);rotate_left
   ·(intro w9 hSw; obtain⟨hSw,hLw⟩:=hSw; clear hLw; (try dsimp only at hSw); (go_split_ands; go_simp); (try with_reducible rfl))
   clear hC2 hH2
   try simp only [Act.put,List.setIfInBounds_toArray,List.set_cons_zero,List.set_cons_succ]
   refine tkA (i:=3) (v:=?_) rfl hC3 (Or.inl ⟨by rfl,?_⟩) hH3 (fun hC4 hH4=>?_);rotate_left
   ·(intro w9 hSw; obtain⟨hSw,hLw⟩:=hSw; clear hLw; (try dsimp only at hSw); (go_split_ands; go_simp); (try with_reducible rfl))
   clear hC3 hH3
   try simp only [Act.put,List.setIfInBounds_toArray,List.set_cons_zero,List.set_cons_succ]
   refine tkA (i:=4) (v:=?_) rfl hC4 (Or.inl ⟨by rfl,?_⟩) hH4 (fun hC5 hH5=>?_);rotate_left
   ·(intro w9 hSw; obtain⟨hSw,hLw⟩:=hSw; clear hLw; (try dsimp only at hSw); (go_split_ands; go_simp); (try with_reducible rfl))
   clear hC4 hH4
   try simp only [Act.put,List.setIfInBounds_toArray,List.set_cons_zero,List.set_cons_succ]
   refine tkA (i:=5) (v:=?_) rfl hC5 (Or.inl ⟨by rfl,?_⟩) hH5 (fun hC6 hH6=>?_);rotate_left
   ·(intro w9 hSw; obtain⟨hSw,hLw⟩:=hSw; clear hLw; (try dsimp only at hSw); (go_split_ands; go_simp); (try with_reducible rfl))
   clear hC5 hH5
   try simp only [Act.put,List.setIfInBounds_toArray,List.set_cons_zero,List.set_cons_succ]
   refine tkA (i:=6) (v:=?_) rfl hC6 (Or.inl ⟨by rfl,?_⟩) hH6 (fun hC7 hH7=>?_);rotate_left
   ·(intro w9 hSw; obtain⟨hSw,hLw⟩:=hSw; clear hLw; (try dsimp only at hSw); (go_split_ands; go_simp); (try with_reducible rfl))
   clear hC6 hH6
   try simp only [Act.put,List.setIfInBounds_toArray,List.set_cons_zero,List.set_cons_succ]
   refine tkA (i:=8) (v:=?_) rfl hC7 (Or.inl ⟨by rfl,?_⟩) hH7 (fun hC8 hH8=>?_);rotate_left
   ·(intro w9 hSw; obtain⟨hSw,hLw⟩:=hSw; clear hLw; (try dsimp only at hSw); (go_split_ands; go_simp); (try with_reducible rfl))
   clear hC7 hH7
   try simp only [Act.put,List.setIfInBounds_toArray,List.set_cons_zero,List.set_cons_succ]
   refine tkA (i:=9) (v:=?_) rfl hC8 (Or.inl ⟨by rfl,?_⟩) hH8 (fun hC9 hH9=>?_);rotate_left
   ·(intro w9 hSw; obtain⟨hSw,hLw⟩:=hSw; clear hLw; (try dsimp only at hSw); (go_split_ands; go_simp); (try with_reducible rfl))
   clear hC8 hH8
   try simp only [Act.put,List.setIfInBounds_toArray,List.set_cons_zero,List.set_cons_succ]
   refine tkA (i:=10) (v:=?_) rfl hC9 (Or.inl ⟨by rfl,?_⟩) hH9 (fun hC10 hH10=>?_);rotate_left
   ·(intro w9 hSw; obtain⟨hSw,hLw⟩:=hSw; clear hLw; (try dsimp only at hSw); (go_split_ands; go_simp); (try with_reducible rfl))
   clear hC9 hH9
   try simp only [Act.put,List.setIfInBounds_toArray,List.set_cons_zero,List.set_cons_succ]
   refine tkA (i:=11) (v:=?_) rfl hC10 (Or.inl ⟨by rfl,?_⟩) hH10 (fun hC11 hH11=>?_);rotate_left
   ·(intro w9 hSw; obtain⟨hSw,hLw⟩:=hSw; clear hLw; (try dsimp only at hSw); (go_split_ands; go_simp); (try with_reducible rfl))
   clear hC10 hH10
   try simp only [Act.put,List.setIfInBounds_toArray,List.set_cons_zero,List.set_cons_succ]
   refine tkA (i:=12) (v:=?_) rfl hC11 (Or.inl ⟨by rfl,?_⟩) hH11 (fun hC12 hH12=>?_);rotate_left
   ·(intro w9 hSw; obtain⟨hSw,hLw⟩:=hSw; clear hLw; (try dsimp only at hSw); (go_split_ands; go_simp); (try with_reducible rfl))
   clear hC11 hH11
   try simp only [Act.put,List.setIfInBounds_toArray,List.set_cons_zero,List.set_cons_succ]
   refine tkA (i:=13) (v:=?_) rfl hC12 (Or.inl ⟨by rfl,?_⟩) hH12 (fun hC13 hH13=>?_);rotate_left
   ·(intro w9 hSw; obtain⟨hSw,hLw⟩:=hSw; clear hLw; (try dsimp only at hSw); (go_split_ands; go_simp); (try with_reducible rfl))
   clear hC12 hH12
   try simp only [Act.put,List.setIfInBounds_toArray,List.set_cons_zero,List.set_cons_succ]
   refine onA (i:=7) rfl hC13 (fun K hK=>?_);clear hC13 hH13;go_simp;refine(show Calls Tryz.prog 151 #[.slice oa' L.length c',.int .i64 (x.S k 0:Int),.int .i64 5] R5v0 (PutPost M1 R5v0) from by rw [← F1.out]; exact put_any oa' c' L (x.S k 0) 5 R5v0 R5I0.out.l (by omega) (by omega) (by omega)).mono ?_;rintro e R5v1 ⟨R5o1,R5c1,rfl,hl1,hb1⟩;have R5I1:=Lib.hid (R5I0.out.put hb1 hl1);clear hl1 hb1 R5I0;go_wp2_with fail;refine hK.out _ _ ?_ (fun hC14 hH14=>?_)
   ·exact⟨R5I1.out.c1 hlt,fun e he=>by cases he⟩
   clear hK K
   try simp only [Act.put,List.setIfInBounds_toArray,List.set_cons_zero,List.set_cons_succ]
   refine onA (i:=14) rfl hC14 (fun K hK=>?_);clear hC14 hH14;go_simp;refine(show Calls Tryz.prog 151 #[.slice R5o1 M1.length R5c1,.int .i64 (x.S k 1:Int),.int .i64 6] R5v1 (PutPost M2 R5v1) from by rw [← F2.out]; exact put_any R5o1 R5c1 M1 (x.S k 1) 6 R5v1 R5I1.out.l (by omega) (by omega) (by omega)).mono ?_;rintro e R5v2 ⟨R5o2,R5c2,rfl,hl2,hb2⟩;have R5I2:=Lib.hid (R5I1.out.put hb2 hl2);clear hl2 hb2 R5I1;go_wp2_with fail;refine hK.out _ _ ?_ (fun hC15 hH15=>?_)
   ·exact⟨R5I2.out.c1 hlt,fun e he=>by cases he⟩
   clear hK K
   try simp only [Act.put,List.setIfInBounds_toArray,List.set_cons_zero,List.set_cons_succ]
   refine tkA (i:=15) (v:=?_) rfl hC15 (Or.inl ⟨by rfl,?_⟩) hH15 (fun hC16 hH16=>?_);rotate_left
   ·(intro w9 hSw; obtain⟨hSw,hLw⟩:=hSw; clear hLw; (try dsimp only at hSw); (go_split_ands; go_simp); (try with_reducible rfl))
   clear hC15 hH15
   try simp only [Act.put,List.setIfInBounds_toArray,List.set_cons_zero,List.set_cons_succ]
   refine wpAnyT_done (by kernel_rfl) ?_ _;clear hC16 hH16;go_wp2_with fail;exact⟨⟨k+1,R5o2,R5c2,hlt,by go_num,by rw [HN.out],by rw [HN.out]; exact R5I2.out⟩,by simp [intOf]; omega⟩
  ·have hke:k=x.sn:=by omega
   subst hke;obtain⟨L3,e3⟩:∃ L3,L2++listBits seamBits x.S x.sn=L3:=⟨_,rfl⟩
   obtain⟨L4,e4⟩:∃ L4,L3++bitsH x.tn 3=L4:=⟨_,rfl⟩
   have HW:=Lib.hid (show wageBits x=L4++listBits tickBits x.T x.tn from by rw [← e4,← e3,← E2.out,← E1.out]; rfl);rw [e3] at I1 n3 ⊢;have n5:L4.length≤1210:=by rw [← e4,List.length_append,bitsH_len]; omega
   have E4:=Lib.hid e4;clear e3 e4 hlt hk;have q2:=cellAt I1.out.bx 2;have q1:=cellAt I1.out.bx 1;simp only [List.getElem?_toArray,List.getElem?_cons_zero,List.getElem?_cons_succ] at q2 q1;have CP:=Lib.hid (fun W (h:WI w x sa ta sc tc oa' L3 W)=>(show Calls Tryz.prog 151 #[.slice oa' L3.length c',.int .i64 (x.tn:Int),.int .i64 3] W (PutPost L4 W) from by rw [← E4.out]; exact put_any oa' c' L3 x.tn 3 W h.l (by omega) (by omega) (by omega)));go_wp2_with (go_at_call 151; refine(CP.out _ I1.out).mono ?_; rintro e w4 ⟨o4,c4,rfl,hl4,hb4⟩; have I2:=Lib.hid (I1.out.put hb4 hl4); clear hl4 hb4 I1 q2 q1);clear CP
   go_loopw [3,5] (fun s i wr => ∃ (k:Nat) (oa':Option Addr) (c':Nat),k≤x.tn∧i = .int .i64 k∧s = .slice oa' (L4++listBits tickBits x.T k).length c'∧WI w x sa ta sc tc oa' (L4++listBits tickBits x.T k) wr) (fun _ i _=>x.tn - (intOf i).toNat)
   case atStart=>exact⟨0,o4,c4,Nat.zero_le _,rfl,by simp [listBits],by simpa [listBits] using I2.out⟩
   case round =>
    clear I2;obtain⟨k,oa2,cc2,hk,rfl,rfl,hj1⟩:=hrel;have J1:=Lib.hid hj1;clear hj1;have n6:(L4++listBits tickBits x.T k).length≤5000:=by rw [List.length_append,listBits_len tickBits_len]; omega
    by_cases hlt:k<x.tn
    ·have HN:=Lib.hid (show L4++listBits tickBits x.T (k+1)=(((((L4++listBits tickBits x.T k)++bitsH (x.T k 0) 2)++bitsH (x.T k 1) 2)++spanBits (x.T k 2) (x.T k 3) 5)++spanBits (x.T k 4) (x.T k 5) 5)++spanBits (x.T k 6) (x.T k 7) 6 from by simp only [listBits,tickBits,List.append_assoc])
     have hi:=fun w=>run_indexAt_row (w:=w) (cap:=tc) wticks36 size130 (J1.out.tt.plain (by omega)) hlt;obtain⟨t0,t1⟩:=H5.out k hlt;obtain⟨p1,p2,p3,p4,p5,p6⟩:=H6.out k hlt;have g0:=J1.out.tt.cells k hlt 0 (by omega);have g1:=J1.out.tt.cells k hlt 1 (by omega);have g2:=J1.out.tt.cells k hlt 2 (by omega);have g3:=J1.out.tt.cells k hlt 3 (by omega);have g4:=J1.out.tt.cells k hlt 4 (by omega);have g5:=J1.out.tt.cells k hlt 5 (by omega);have g6:=J1.out.tt.cells k hlt 6 (by omega);have g7:=J1.out.tt.cells k hlt 7 (by omega);simp only [Nat.add_zero] at g0;generalize x.T k 0=a0 at *;generalize x.T k 1=a1 at *;generalize x.T k 2=a2 at *;generalize x.T k 3=a3 at *;generalize x.T k 4=a4 at *;generalize x.T k 5=a5 at *;generalize x.T k 6=a6 at *;generalize x.T k 7=a7 at *;obtain⟨L,hL⟩:∃ L,L4++listBits tickBits x.T k=L:=⟨_,rfl⟩
     rw [hL] at J1 HN n6 ⊢;clear hL;obtain⟨M1,e1⟩:∃ M1,L++bitsH a0 2=M1:=⟨_,rfl⟩
     obtain⟨M2,e2⟩:∃ M2,M1++bitsH a1 2=M2:=⟨_,rfl⟩
     obtain⟨M3,e3⟩:∃ M3,M2++spanBits a2 a3 5=M3:=⟨_,rfl⟩
     obtain⟨M4,e4⟩:∃ M4,M3++spanBits a4 a5 5=M4:=⟨_,rfl⟩
     obtain⟨M5,e5⟩:∃ M5,M4++spanBits a6 a7 6=M5:=⟨_,rfl⟩
     have m1:M1.length≤5002:=by rw [← e1,List.length_append,bitsH_len]; omega
     have m2:M2.length≤5004:=by rw [← e2,List.length_append,bitsH_len]; omega
     have m3:M3.length≤5020:=by rw [← e3,List.length_append,spanBits,List.length_append,bitsH_len,bitsH_len]; omega
     have m4:M4.length≤5040:=by rw [← e4,List.length_append,spanBits,List.length_append,bitsH_len,bitsH_len]; omega
     rw [e1,e2,e3,e4,e5] at HN;have F1:=Lib.hid e1;have F2:=Lib.hid e2;have F3:=Lib.hid e3;have F4:=Lib.hid e4;have F5:=Lib.hid e5;clear e1 e2 e3 e4 e5;have q2:=cellAt J1.out.bx 2;simp only [List.getElem?_toArray,List.getElem?_cons_zero,List.getElem?_cons_succ] at q2;go_upto_region 11 with (fail)
     generalize hW:World.alloc _ _=W;obtain⟨z0,hz,hB⟩:=blocks1 hW;have I1:=Lib.hid (show WT w x sa ta sc tc wr.heap.size #[.int .i64 a0,.int .i64 a1,.int .i64 a2,.int .i64 a3,.int .i64 a4,.int .i64 a5,.int .i64 a6,.int .i64 a7] oa2 L W from⟨J1.out.grow hB,z0⟩);clear hW hz hB z0 J1 g0 g1 g2 g3 g4 g5 g6 g7 hi q2;generalize wr.heap.size=b at *;clear wr;refine wp_region_stg (S:=(fun w':World=>w'.cell? ⟨b,0,none⟩=some (.int .i64 (a0:Nat))∧w'.cell? ⟨b,1,none⟩=some (.int .i64 (a1:Nat)))) (L:=[]) (D:=[]) (by kernel_rfl) (by kernel_rfl) (by have I0:=Lib.hid (I1.out.grow (Below.drew (Below.refl _ _))); exact⟨cellAt I0.out.tk 0,cellAt I0.out.tk 1⟩) (fun e he=>by cases he) (fun hC0 hH0=>?_);have RBI0:=Lib.hid (I1.out.grow (Below.drew (Below.refl _ _)));clear I1;generalize World.drew W=RBv0 at *;refine tkA (i:=0) (v:=?_) rfl hC0 (Or.inl ⟨by rfl,?_⟩) hH0 (fun hC1 hH1=>?_);rotate_left
     ·(intro w9 hSw; obtain⟨hSw,hLw⟩:=hSw; clear hLw; (try dsimp only at hSw); (go_split_ands; go_simp); (try with_reducible rfl))
     clear hC0 hH0
     try simp only [Act.put,List.setIfInBounds_toArray,List.set_cons_zero,List.set_cons_succ]
     refine tkA (i:=1) (v:=?_) rfl hC1 (Or.inl ⟨by rfl,?_⟩) hH1 (fun hC2 hH2=>?_);rotate_left
     ·(intro w9 hSw; obtain⟨hSw,hLw⟩:=hSw; clear hLw; (try dsimp only at hSw); (go_split_ands; go_simp); (try with_reducible rfl))
     clear hC1 hH1
     try simp only [Act.put,List.setIfInBounds_toArray,List.set_cons_zero,List.set_cons_succ]
     refine tkA (i:=2) (v:=?_) rfl hC2 (Or.inl ⟨by rfl,?_⟩) hH2 (fun hC3 hH3=>?_);rotate_left
     ·(intro w9 hSw; obtain⟨hSw,hLw⟩:=hSw; clear hLw; (try dsimp only at hSw); (go_split_ands; go_simp); (try with_reducible rfl))
     clear hC2 hH2
     try simp only [Act.put,List.setIfInBounds_toArray,List.set_cons_zero,List.set_cons_succ]
     refine tkA (i:=4) (v:=?_) rfl hC3 (Or.inl ⟨by rfl,?_⟩) hH3 (fun hC4 hH4=>?_);rotate_left
     ·(intro w9 hSw; obtain⟨hSw,hLw⟩:=hSw; clear hLw; (try dsimp only at hSw); (go_split_ands; go_simp); (try with_reducible rfl))
     clear hC3 hH3
     try simp only [Act.put,List.setIfInBounds_toArray,List.set_cons_zero,List.set_cons_succ]
     refine tkA (i:=5) (v:=?_) rfl hC4 (Or.inl ⟨by rfl,?_⟩) hH4 (fun hC5 hH5=>?_);rotate_left
     ·(intro w9 hSw; obtain⟨hSw,hLw⟩:=hSw; clear hLw; (try dsimp only at hSw); (go_split_ands; go_simp); (try with_reducible rfl))
     clear hC4 hH4
     try simp only [Act.put,List.setIfInBounds_toArray,List.set_cons_zero,List.set_cons_succ]
     refine onA (i:=3) rfl hC5 (fun K hK=>?_);clear hC5 hH5;go_simp;refine(show Calls Tryz.prog 151 #[.slice oa2 L.length cc2,.int .i64 (a0:Int),.int .i64 2] RBv0 (PutPost M1 RBv0) from by rw [← F1.out]; exact put_any oa2 cc2 L (a0) 2 RBv0 RBI0.out.i.l (by omega) (by omega) (by omega)).mono ?_;rintro e RBv1 ⟨RBo1,RBc1,rfl,hl1,hb1⟩;have RBI1:=Lib.hid (RBI0.out.put hb1 hl1);clear hl1 hb1 RBI0;go_wp2_with fail;refine hK.out _ _ ?_ (fun hC6 hH6=>?_)
     ·exact⟨⟨cellAt RBI1.out.tk 0,cellAt RBI1.out.tk 1⟩,fun e he=>by cases he⟩
     clear hK K
     try simp only [Act.put,List.setIfInBounds_toArray,List.set_cons_zero,List.set_cons_succ]
     refine onA (i:=6) rfl hC6 (fun K hK=>?_);clear hC6 hH6;go_simp;refine(show Calls Tryz.prog 151 #[.slice RBo1 M1.length RBc1,.int .i64 (a1:Int),.int .i64 2] RBv1 (PutPost M2 RBv1) from by rw [← F2.out]; exact put_any RBo1 RBc1 M1 (a1) 2 RBv1 RBI1.out.i.l (by omega) (by omega) (by omega)).mono ?_;rintro e RBv2 ⟨RBo2,RBc2,rfl,hl2,hb2⟩;have RBI2:=Lib.hid (RBI1.out.put hb2 hl2);clear hl2 hb2 RBI1;go_wp2_with fail;refine hK.out _ _ ?_ (fun hC7 hH7=>?_)
     ·exact⟨⟨cellAt RBI2.out.tk 0,cellAt RBI2.out.tk 1⟩,fun e he=>by cases he⟩
     clear hK K
     try simp only [Act.put,List.setIfInBounds_toArray,List.set_cons_zero,List.set_cons_succ]
     refine tkA (i:=7) (v:=?_) rfl hC7 (Or.inl ⟨by rfl,?_⟩) hH7 (fun hC8 hH8=>?_);rotate_left
     ·(intro w9 hSw; obtain⟨hSw,hLw⟩:=hSw; clear hLw; (try dsimp only at hSw); (go_split_ands; go_simp); (try with_reducible rfl))
     clear hC7 hH7
     try simp only [Act.put,List.setIfInBounds_toArray,List.set_cons_zero,List.set_cons_succ]
     refine wpAnyT_done (by kernel_rfl) ?_ _;clear hC8 hH8;go_upto_region 12 with (fail)
     refine wp_region_stg (S:=(fun w':World=>w'.cell? ⟨b,2,none⟩=some (.int .i64 (a2:Nat))∧w'.cell? ⟨b,3,none⟩=some (.int .i64 (a3:Nat))∧w'.cell? ⟨b,4,none⟩=some (.int .i64 (a4:Nat))∧w'.cell? ⟨b,5,none⟩=some (.int .i64 (a5:Nat))∧w'.cell? ⟨b,6,none⟩=some (.int .i64 (a6:Nat))∧w'.cell? ⟨b,7,none⟩=some (.int .i64 (a7:Nat)))) (L:=[]) (D:=[]) (by kernel_rfl) (by kernel_rfl) (by have I0:=Lib.hid (RBI2.out.grow (Below.drew (Below.refl _ _))); exact tk_cells I0.out.tk) (fun e he=>by cases he) (fun hC0 hH0=>?_);have RCI0:=Lib.hid (RBI2.out.grow (Below.drew (Below.refl _ _)));clear RBI2;generalize World.drew RBv2=RCv0 at *;refine tkA (i:=0) (v:=?_) rfl hC0 (Or.inl ⟨by rfl,?_⟩) hH0 (fun hC1 hH1=>?_);rotate_left
     ·(intro w9 hSw; obtain⟨hSw,hLw⟩:=hSw; clear hLw; (try dsimp only at hSw); (go_split_ands; go_simp); (try with_reducible rfl))
     clear hC0 hH0
     try simp only [Act.put,List.setIfInBounds_toArray,List.set_cons_zero,List.set_cons_succ]
     refine tkA (i:=1) (v:=?_) rfl hC1 (Or.inl ⟨by rfl,?_⟩) hH1 (fun hC2 hH2=>?_);rotate_left
     ·(intro w9 hSw; obtain⟨hSw,hLw⟩:=hSw; clear hLw; (try dsimp only at hSw); (go_split_ands; go_simp); (try with_reducible rfl))
     clear hC1 hH1
     try simp only [Act.put,List.setIfInBounds_toArray,List.set_cons_zero,List.set_cons_succ]
     refine tkA (i:=2) (v:=?_) rfl hC2 (Or.inl ⟨by rfl,?_⟩) hH2 (fun hC3 hH3=>?_);rotate_left
     ·(intro w9 hSw; obtain⟨hSw,hLw⟩:=hSw; clear hLw; (try dsimp only at hSw); (go_split_ands; go_simp); (try with_reducible rfl))
     clear hC2 hH2
     try simp only [Act.put,List.setIfInBounds_toArray,List.set_cons_zero,List.set_cons_succ]
     refine tkA (i:=4) (v:=?_) rfl hC3 (Or.inl ⟨by rfl,?_⟩) hH3 (fun hC4 hH4=>?_);rotate_left
     ·(intro w9 hSw; obtain⟨hSw,hLw⟩:=hSw; clear hLw; (try dsimp only at hSw); (go_split_ands; go_simp); (try with_reducible rfl))
     clear hC3 hH3
     try simp only [Act.put,List.setIfInBounds_toArray,List.set_cons_zero,List.set_cons_succ]
     refine tkA (i:=5) (v:=?_) rfl hC4 (Or.inl ⟨by rfl,?_⟩) hH4 (fun hC5 hH5=>?_);rotate_left
     ·(intro w9 hSw; obtain⟨hSw,hLw⟩:=hSw; clear hLw; (try dsimp only at hSw); (go_split_ands; go_simp); (try with_reducible rfl))
     clear hC4 hH4
     try simp only [Act.put,List.setIfInBounds_toArray,List.set_cons_zero,List.set_cons_succ]
     refine tkA (i:=7) (v:=?_) rfl hC5 (Or.inl ⟨by rfl,?_⟩) hH5 (fun hC6 hH6=>?_);rotate_left
     ·(intro w9 hSw; obtain⟨hSw,hLw⟩:=hSw; clear hLw; (try dsimp only at hSw); (go_split_ands; go_simp); (try with_reducible rfl))
     clear hC5 hH5
     try simp only [Act.put,List.setIfInBounds_toArray,List.set_cons_zero,List.set_cons_succ]
     refine tkA (i:=8) (v:=?_) rfl hC6 (Or.inl ⟨by rfl,?_⟩) hH6 (fun hC7 hH7=>?_);rotate_left
     ·(intro w9 hSw; obtain⟨hSw,hLw⟩:=hSw; clear hLw; (try dsimp only at hSw); (go_split_ands; go_simp); (try with_reducible rfl))
     clear hC6 hH6
     try simp only [Act.put,List.setIfInBounds_toArray,List.set_cons_zero,List.set_cons_succ]
     refine onA (i:=3) rfl hC7 (fun K hK=>?_);clear hC7 hH7;go_simp;refine(show Calls Tryz.prog 152 #[.slice RBo2 M2.length RBc2,.agg #[.int .i64 (a2:Int),.int .i64 (a3:Int)],.int .i64 5] RCv0 (PutPost M3 RCv0) from by rw [← F3.out]; exact putSpan_any RBo2 RBc2 M2 a2 a3 5 RCv0 RCI0.out.i.l (by omega) (by omega) (by omega) (by omega)).mono ?_;rintro e RCv1 ⟨RCo1,RCc1,rfl,hl1,hb1⟩;have RCI1:=Lib.hid (RCI0.out.put hb1 hl1);clear hl1 hb1 RCI0;go_wp2_with fail;refine hK.out _ _ ?_ (fun hC8 hH8=>?_)
     ·exact⟨tk_cells RCI1.out.tk,fun e he=>by cases he⟩
     clear hK K
     try simp only [Act.put,List.setIfInBounds_toArray,List.set_cons_zero,List.set_cons_succ]
     refine onA (i:=6) rfl hC8 (fun K hK=>?_);clear hC8 hH8;go_simp;refine(show Calls Tryz.prog 152 #[.slice RCo1 M3.length RCc1,.agg #[.int .i64 (a4:Int),.int .i64 (a5:Int)],.int .i64 5] RCv1 (PutPost M4 RCv1) from by rw [← F4.out]; exact putSpan_any RCo1 RCc1 M3 a4 a5 5 RCv1 RCI1.out.i.l (by omega) (by omega) (by omega) (by omega)).mono ?_;rintro e RCv2 ⟨RCo2,RCc2,rfl,hl2,hb2⟩;have RCI2:=Lib.hid (RCI1.out.put hb2 hl2);clear hl2 hb2 RCI1;go_wp2_with fail;refine hK.out _ _ ?_ (fun hC9 hH9=>?_)
     ·exact⟨tk_cells RCI2.out.tk,fun e he=>by cases he⟩
     clear hK K
     try simp only [Act.put,List.setIfInBounds_toArray,List.set_cons_zero,List.set_cons_succ]
     refine onA (i:=9) rfl hC9 (fun K hK=>?_);clear hC9 hH9;go_simp;refine(show Calls Tryz.prog 152 #[.slice RCo2 M4.length RCc2,.agg #[.int .i64 (a6:Int),.int .i64 (a7:Int)],.int .i64 6] RCv2 (PutPost M5 RCv2) from by rw [← F5.out]; exact putSpan_any RCo2 RCc2 M4 a6 a7 6 RCv2 RCI2.out.i.l (by omega) (by omega) (by omega) (by omega)).mono ?_;rintro e RCv3 ⟨RCo3,RCc3,rfl,hl3,hb3⟩;have RCI3:=Lib.hid (RCI2.out.put hb3 hl3);clear hl3 hb3 RCI2;go_wp2_with fail;refine hK.out _ _ ?_ (fun hC10 hH10=>?_)
     ·exact⟨tk_cells RCI3.out.tk,fun e he=>by cases he⟩
     clear hK K
     try simp only [Act.put,List.setIfInBounds_toArray,List.set_cons_zero,List.set_cons_succ]
     refine tkA (i:=10) (v:=?_) rfl hC10 (Or.inl ⟨by rfl,?_⟩) hH10 (fun hC11 hH11=>?_);rotate_left
     ·(intro w9 hSw; obtain⟨hSw,hLw⟩:=hSw; clear hLw; (try dsimp only at hSw); (go_split_ands; go_simp); (try with_reducible rfl))
     clear hC10 hH10
     try simp only [Act.put,List.setIfInBounds_toArray,List.set_cons_zero,List.set_cons_succ]
     refine wpAnyT_done (by kernel_rfl) ?_ _;clear hC11 hH11;go_wp2_with fail;exact⟨⟨k+1,RCo3,RCc3,hlt,by go_num,by rw [HN.out],by rw [HN.out]; exact RCI3.out.i⟩,by simp [intOf]; omega⟩
    ·have hke:k=x.tn:=by omega
     subst hke;rw [← HW.out] at J1 ⊢;have q2:=cellAt J1.out.bx 2;simp only [List.getElem?_toArray,List.getElem?_cons_zero,List.getElem?_cons_succ] at q2;go_wp2_with fail;go_ret;exact⟨oa2,cc2,rfl,J1.out.l,J1.out.bel⟩
structure SQ (w:World) (oa:Option Addr) (n:Nat) (g:Nat→Nat) (k:Nat) (v:Value) (W:World):Prop where
 bel:Below w.heap.size w W
 l:BytesAt W oa n g
 own:W.ownsRow w.heap.size 3 1 v k (valsOf (intV (fun j=>if oddB (g j) then 1 else 0)) k)
set_option maxRecDepth 100000 in
set_option maxHeartbeats 4000000 in
theorem sealR_any(oa:Option Addr)(n nc:Nat)(g:Nat→Nat)(w:World)(hg:BytesAt w oa n g)(h8:∀ i,g i<256)(h0:0<n)(hn:n≤100000) :
  Calls Tryz.prog 34 #[.slice oa n nc] w (SlicePost (szB n) (sealB g n) w):=by
 have HO:=Lib.hid hg.old;have I0:=Lib.hid (show SQ w oa n g 0 (.slice none 0 0) w from⟨Below.refl _ _,hg,World.ownsRow_nil _ _ _ _⟩);have LG:=Lib.hid (fun W (h:Below w.heap.size w W)=>BytesAt.grow hg h);have H8:=Lib.hid h8;have HC:=Lib.hid (col_lt h8);clear hg h8;go_enter Tryz.func34,Tryz.ntmps34;go_wp2_with fail
 go_loopw [3,4,5] (fun v c i wi => ∃ k:Nat,k≤n∧i = .int .i64 k∧c = .int .u8 (colB g k:Nat)∧SQ w oa n g k v wi) (fun _ _ i _=>n - (intOf i).toNat)
 case atStart=>exact⟨0,Nat.zero_le _,rfl,rfl,I0.out⟩
 case round =>
  clear I0;obtain⟨k,hk,rfl,rfl,h1⟩:=hrel;have I1:=Lib.hid h1;clear h1;by_cases hlt:k<n
  ·have hi:=fun w=>run_indexAt_row (w:=w) (cap:=nc) elem5.slice size5 (I1.out.l.plain (by omega)) hlt
   simp only [Nat.mul_one] at hi;have hc:=I1.out.l.at hlt;have hgk:=H8.out k;have hck:=HC.out k;obtain⟨o,eo⟩:∃ o,Lib.onesCount (g k) % 2=o:=⟨_,rfl⟩
   have C77:=Lib.hid (fun W=>odd_any (g k) W (by omega));rw [eo] at C77;have hx:bits .xor .u8 ((colB g k:Nat):Int) ((g k:Nat):Int)=((colB g (k+1):Nat):Int):=u8_xor_nat _ _ hck hgk;have ho2:o=0∨o=1:=by omega
   have eo1:(if oddB (g k) then 1 else 0:Int)=o:=by
    unfold oddB;rw [eo];rcases ho2 with rfl | rfl <;> rfl
   have EO:=Lib.hid eo1;clear eo1 ho2;clear eo;have hb1:=(Below.refl wr.heap.size wr).alloc (Nat.le_refl _) (.cells #[.int .i64 o] 3);have R1:=Lib.hid (row_box (cell:=intV fun _=>o) (n:=1) (heap_alloc_new wr (.cells #[.int .i64 o] 3)) (by unfold maxLen; omega));have O1:=Lib.hid (own_grow I1.out.own hb1);have L1:=Lib.hid (Nat.le_trans I1.out.bel.size hb1.size);have B1:=Lib.hid (I1.out.bel.next hb1);clear hb1;go_wp2_with (first | (go_at_call 77; refine(C77.out _).mono ?_; rintro e w' ⟨rfl,rfl⟩) | (at_builtin; refine wpList_app elem3 rfl (.tmp 12) (.tmp 18) rfl rfl O1.out rfl (by omega) R1.out (fun _=>rfl) (by omega) L1.out ?_));intro v' w' h2 h3;have B2:=Lib.hid (B1.out.grown h3 L1.out (fun q e=>(O1.out.lt q e).1))
   have O2:=Lib.hid (show w'.ownsRow w.heap.size 3 1 v' (k+1) (valsOf (intV (fun j=>if oddB (g j) then 1 else 0)) (k+1)) from by
    rw [valsOf_congr (g:=intV (fun j=>if oddB (g j) then 1 else 0)) (fun j hj=>?_)] at h2
    ·exact h2
    ·by_cases e:j<k
     ·rw [if_pos e]
     ·rw [if_neg e]
      have:j=k:=by omega
      subst this
      show Value.int .i64 o=Value.int .i64 (if oddB (g j) then 1 else 0)
      rw [EO.out])
   clear h2 h3 R1 O1 L1 B1 C77;have B3:=LG.out _ B2.out;have hc:=B3.at hlt;clear B3;go_wp2_with fail;exact⟨⟨k+1,hlt,by go_num,rfl,B2.out,LG.out _ B2.out,O2.out⟩,by simp [intOf]; omega⟩
  ·obtain rfl:n=k:=by omega
   obtain⟨ra,rc,rfl,hrow,-,-⟩:=row_of I1.out.own (by unfold maxLen; omega);have HR:=Lib.hid hrow;clear hrow;have hck:=HC.out n;have E0:=Lib.hid (own_empty (B:=wr.heap.size) (heap_alloc_new wr (.cells #[] 5)) (Nat.le_refl _) (byteV g));have HB0:=Lib.hid ((Below.refl wr.heap.size wr).alloc (Nat.le_refl _) (.cells #[] 5));have LG0:=Lib.hid (I1.out.l.grow HB0.out);go_wp2_with (at_builtin; refine wpList_app elem5 rfl (.tmp 26) (.tmp 27) rfl rfl E0.out rfl h0 LG0.out (fun _=>rfl) (by omega) HB0.out.size ?_);intro v1 w1 h2 h3;have B1:=Lib.hid (HB0.out.grown h3 HB0.out.size (fun x e=>(E0.out.lt x e).1))
   have O1:=Lib.hid (show w1.ownsRow wr.heap.size 5 1 v1 n (valsOf (byteV g) n) from by
    exact h2)
   clear h2 h3 E0 HB0 LG0;go_wp2_with (go_at_call 78; refine(packR_any ra n rc _ _ (HR.out.grow B1.out) hn).mono ?_);rintro e w2 ⟨qa,qc,rfl,hrow,-,-,hb2⟩;have h7:0<rowsB n:=by unfold rowsB; omega
   have h6:rowsB n≤100000:=by unfold rowsB; omega
   have hB:Below wr.heap.size wr w2:=B1.out.next hb2;have O2:=Lib.hid (own_grow O1.out hb2);have HB:=Lib.hid hB;have HW:=Lib.hid hrow;clear hb2 hB hrow O1 B1;have HZ:=Lib.hid (show szB n=n+rowsB n+1 from rfl);have HF:=Lib.hid (show sealB g n=fun i=>if i<n then g i else if i<n+rowsB n then rowB g n (i - n) else colB g n from rfl);rw [HZ.out];generalize rowsB n=m at *;go_wp2_with (at_builtin; refine wpList_app elem5 rfl (.tmp 28) (.tmp 30) rfl rfl O2.out rfl h7 HW.out (fun _=>rfl) (by omega) HB.out.size ?_);intro v2 w3 h2 h3;have B3:=Lib.hid (HB.out.grown h3 HB.out.size (fun q e=>(O2.out.lt q e).1));have O3:=Lib.hid (own_grow h2 ((Below.refl w3.heap.size w3).alloc (Nat.le_refl _) (.cells #[.int .u8 (colB g n:Nat)] 5)));clear h2 h3 O2 HW;have R3:=Lib.hid (row_box (cell:=byteV fun _=>colB g n) (n:=1) (heap_alloc_new w3 (.cells #[.int .u8 (colB g n:Nat)] 5)) (by unfold maxLen; omega));have B4:=Lib.hid (B3.out.next ((Below.refl w3.heap.size w3).alloc (Nat.le_refl _) (.cells #[.int .u8 (colB g n:Nat)] 5)));go_wp2_with (at_builtin; refine wpList_app elem5 rfl (.tmp 31) (.tmp 33) rfl rfl O3.out rfl (by omega) R3.out (fun _=>rfl) (by omega) B4.out.size ?_);intro v3 w4 h2 h3;have B5:=Lib.hid (B4.out.grown h3 B4.out.size (fun q e=>(O3.out.lt q e).1))
   have hO:w4.ownsRow wr.heap.size 5 1 v3 (n+m+1) (valsOf (byteV (sealB g n)) (n+m+1)):=by
    rw [valsOf_congr (g:=byteV (sealB g n)) (fun j hj=>?_)] at h2
    ·exact h2
    ·rw [HF.out]
     unfold byteV rowB;dsimp only;by_cases e1:j<n+m
     ·rw [if_pos e1]
      by_cases e2:j<n
      ·rw [if_pos e2,if_pos e2]
      ·rw [if_neg e2,if_neg e2,if_pos e1]
     ·rw [if_neg e1,if_neg (by omega),if_neg e1]
   obtain⟨fa,fc,rfl,hrow,hlo,hcap⟩:=row_of hO (by unfold maxLen; omega);have HW:=Lib.hid hrow;have HL:=Lib.hid hlo;clear h2 h3 hO hrow hlo O3 R3 B3 B4;go_wp2_with fail;go_ret;exact⟨fa,fc,by rw [HZ.out]; rfl,by rw [HZ.out]; exact HW.out,fun h=>Nat.le_trans I1.out.bel.size (HL.out (by omega)),by rw [HZ.out]; exact hcap,I1.out.bel.next B5.out⟩
theorem bookN_le{x:WagesV}(hx:SmallW x):0<bookN x∧bookN x≤1000:=by
 have h1:=hx.sn;have h2:=hx.tn;unfold bookN rowsB;rw [wageBits_len];omega
theorem pack_wages(x:WagesV)(hl:(wageBits x).length≤100000)(W:World)(oa:Option Addr)(c:Nat)(h:BitsAt W oa (wageBits x)):Calls Tryz.prog 78 #[.slice oa (wageBits x).length c] W (SlicePost (bookN x) (bookG x) W):=by
 unfold bookN bookG;unfold BitsAt bI at h;generalize wageBits x=l at *;exact packR_any oa l.length c (fun i=>l.getD i false) W h hl
theorem seal_wages(x:WagesV)(h0:0<bookN x)(hn:bookN x≤100000)(W:World)(oa:Option Addr)(c:Nat)(h:BytesAt W oa (bookN x) (bookG x)):Calls Tryz.prog 34 #[.slice oa (bookN x) c] W (SlicePost (szB (bookN x)) (bookB x) W):=by
 have h8:∀ i,bookG x i<256:=fun i=>pk_lt _ _ _;unfold bookB;generalize bookG x=G at *;generalize bookN x=m at *;exact sealR_any oa m c G W h h8 h0 hn
set_option maxRecDepth 100000 in
set_option maxHeartbeats 1000000 in
theorem wages65_any(x:WagesV)(sa ta:Option Addr)(sc tc:Nat)(w:World)(hS:Row w sa x.sn 2 (fun i j=>.int .i64 (x.S i j:Nat)))(hT:Row w ta x.tn 8 (fun i j=>.int .i64 (x.T i j:Nat)))(hx:SmallW x) :
  Calls Tryz.prog 65 #[.agg #[.int .i64 x.cr,.slice sa x.sn sc,.slice ta x.tn tc]] w (SlicePost (szB (bookN x)) (bookB x) w):=by
 have hb0:=(Below.refl w.heap.size w).alloc (Nat.le_refl _) (.cells #[.int .i64 x.cr,.slice sa x.sn sc,.slice ta x.tn tc] 38);have J0:=Lib.hid (show WI w x sa ta sc tc none [] (w.alloc (.cells #[.int .i64 x.cr,.slice sa x.sn sc,.slice ta x.tn tc] 38)) from⟨hb0,heap_alloc_new _ _,Row.grow hS hb0,Row.grow hT hb0,bits_nil _⟩);obtain⟨n1,n2⟩:=bookN_le hx;have hl:(wageBits x).length≤100000:=by rw [wageBits_len]; have:=hx.sn; have:=hx.tn; omega
 have C1:=Lib.hid (fun W oa oa' (h1:Row W oa x.sn 2 (fun i j=>.int .i64 (x.S i j:Nat))) (h2:Row W oa' x.tn 8 (fun i j=>.int .i64 (x.T i j:Nat)))=>bits126_any x oa oa' sc tc W h1 h2 hx);have C2:=Lib.hid (pack_wages x hl);have C3:=Lib.hid (seal_wages x n1 (by omega));clear hS hT hb0 hx hl n1 n2;generalize bookB x=F at *;generalize szB (bookN x)=z at *;generalize bookG x=G at *;generalize bookN x=m at *;generalize wageBits x=l at *;go_enter Tryz.func65,Tryz.ntmps65;go_upto_region 1 with (fail)
 generalize World.alloc w _=W0 at *;have q0:=cellAt J0.out.bx 0;have q1:=cellAt J0.out.bx 1;have q2:=cellAt J0.out.bx 2;simp only [List.getElem?_toArray,List.getElem?_cons_zero,List.getElem?_cons_succ] at q0 q1 q2;have D1:=Lib.hid (C1.out W0 _ _ J0.out.ss J0.out.tt);have B0:=Lib.hid J0.out.bel;clear J0 C1;go_wp2_with (first | (go_at_call 126; refine D1.out.mono ?_; rintro e w1 ⟨o1,c1,rfl,hl1,hb1⟩) | (go_at_call 78; refine(C2.out _ _ _ hl1).mono ?_; rintro e w2 ⟨o2,c2,rfl,hl2,-,-,hb2⟩) | (go_at_call 34; refine(C3.out _ _ _ hl2).mono ?_; rintro e w3 ⟨o3,c3,rfl,hl3,hlo,hcap,hb3⟩));go_ret;have B1:=B0.out.next hb1;have B2:=B1.next hb2;exact⟨o3,c3,rfl,hl3,fun h=>Nat.le_trans B2.size (hlo h),hcap,B2.next hb3⟩
end Go.Proofs.YtclbmlmlhiiaeaaGreatDoor
