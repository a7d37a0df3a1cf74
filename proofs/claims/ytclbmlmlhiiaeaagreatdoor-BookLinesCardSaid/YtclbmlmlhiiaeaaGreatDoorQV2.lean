/- Walks: a span put behind bits, by the reference. Walks: what -/
import Derived.Test.YtclbmlmlhiiaeaaGreatDoorQV1
import Derived.Test.YtclbmlmlhiiaeaaGreatDoorK2
import Derived.Test.YtclbmlmlhiiaeaaGreatDoorQC2
import Derived.Test.YtclbmlmlhiiaeaaGreatDoorQC8
namespace Go.Proofs.YtclbmlmlhiiaeaaGreatDoor
open Go.RowKit
structure SB (w:World) (cs:Array Value) (t:TypeId) (oa:Option Addr) (l:List Bool) (W:World):Prop where
 bel:Below w.heap.size w W
 bx:BoxAt W w.heap.size cs t
 l:BitsAt W oa l
theorem SB.grow{w W W':World}{cs:Array Value}{t:TypeId}{oa:Option Addr}{l:List Bool}(h:SB w cs t oa l W)(hb:Below W.heap.size W W'):SB w cs t oa l W':=⟨h.bel.next hb,h.bx.grow hb,h.l.grow hb⟩
theorem SB.put{w W W':World}{cs:Array Value}{t:TypeId}{oa oa':Option Addr}{l l':List Bool}(h:SB w cs t oa l W)(hb:Below W.heap.size W W')(hl:BitsAt W' oa' l'):SB w cs t oa' l' W':=⟨h.bel.next hb,h.bx.grow hb,hl⟩
set_option maxRecDepth 100000 in
set_option maxHeartbeats 4000000 in
theorem putSpan_any(o0:Option Addr)(c0:Nat)(l:List Bool)(lo hi m:Nat)(w:World)(hl:BitsAt w o0 l)(hm:1≤m∧m≤8)(hlo:lo≤hi)(hhi:hi≤1000)(hll:l.length≤9000) :
  Calls Tryz.prog 152 #[.slice o0 l.length c0,.agg #[.int .i64 lo,.int .i64 hi],.int .i64 m] w (PutPost (l++spanBits lo hi m) w):=by
 have HE:=Lib.hid (show l++spanBits lo hi m=(l++bitsH lo m)++bitsH (hi - lo) 2 from by unfold spanBits; rw [List.append_assoc])
 have J0:=Lib.hid (show SB w #[.int .i64 lo,.int .i64 hi] 128 o0 l (w.alloc (.cells #[.int .i64 lo,.int .i64 hi] 128)) from by
  have hb:=(Below.refl w.heap.size w).alloc (Nat.le_refl _) (.cells #[.int .i64 lo,.int .i64 hi] 128)
  exact⟨hb,heap_alloc_new _ _,hl.grow hb⟩)
 clear hl;go_enter Tryz.func152,Tryz.ntmps152;go_upto_region 1 with (fail)
 generalize World.alloc w _=W0 at *;obtain⟨d,hd⟩:∃ d,hi - lo=d:=⟨_,rfl⟩
 have hd9:d≤1000:=by omega
 have hsub2:(hi:Int) - (lo:Int)=(d:Int):=by omega
 have hsub:IntKind.i64.wrap (d:Int)=(d:Int):=IntWalk.i64_in _ (by omega);rw [hd] at HE;clear hd;obtain⟨l1,e1⟩:∃ l1,l++bitsH lo m=l1:=⟨_,rfl⟩
 obtain⟨l2,e2⟩:∃ l2,l1++bitsH d 2=l2:=⟨_,rfl⟩
 rw [e1,e2] at HE;have hl1:l1.length≤9010:=by rw [← e1,List.length_append,bitsH_len]; omega
 have E1:=Lib.hid e1;have E2:=Lib.hid e2;clear e1 e2;refine wp_region_stg (S:=(fun w':World=>w'.cell? ⟨w.heap.size,0,none⟩=some (.int .i64 lo)∧w'.cell? ⟨w.heap.size,1,none⟩=some (.int .i64 hi))) (L:=[]) (D:=[]) (by kernel_rfl) (by kernel_rfl) (by have I0:=J0.out.grow (Below.drew (Below.refl _ _)); exact⟨cellAt I0.bx 0,cellAt I0.bx 1⟩) (fun e he=>by cases he) (fun hC0 hH0=>?_);have I0:=Lib.hid (J0.out.grow (Below.drew (Below.refl _ _)));clear J0;generalize World.drew W0=v0 at *;refine tkA (i:=0) (v:=?_) rfl hC0 (Or.inl ⟨by rfl,?_⟩) hH0 (fun hC1 hH1=>?_);rotate_left
 ·(intro w9 hSw; obtain⟨hSw,hLw⟩:=hSw; clear hLw; (try dsimp only at hSw); (go_split_ands; go_simp); (try with_reducible rfl))
 clear hC0 hH0
 try simp only [Act.put,List.setIfInBounds_toArray,List.set_cons_zero,List.set_cons_succ]
 refine tkA (i:=1) (v:=?_) rfl hC1 (Or.inl ⟨by rfl,?_⟩) hH1 (fun hC2 hH2=>?_);rotate_left
 ·(intro w9 hSw; obtain⟨hSw,hLw⟩:=hSw; clear hLw; (try dsimp only at hSw); (go_split_ands; go_simp); (try with_reducible rfl))
 clear hC1 hH1
 try simp only [Act.put,List.setIfInBounds_toArray,List.set_cons_zero,List.set_cons_succ]
 refine tkA (i:=2) (v:=?_) rfl hC2 (Or.inl ⟨by rfl,?_⟩) hH2 (fun hC3 hH3=>?_);rotate_left
 ·(intro w9 hSw; obtain⟨hSw,hLw⟩:=hSw; clear hLw; (try dsimp only at hSw); (go_split_ands; go_simp); (try with_reducible rfl))
 clear hC2 hH2
 try simp only [Act.put,List.setIfInBounds_toArray,List.set_cons_zero,List.set_cons_succ]
 refine tkA (i:=3) (v:=?_) rfl hC3 (Or.inl ⟨by rfl,?_⟩) hH3 (fun hC4 hH4=>?_);rotate_left
 ·(intro w9 hSw; obtain⟨hSw,hLw⟩:=hSw; clear hLw; (try dsimp only at hSw); (go_split_ands; go_simp); (try with_reducible rfl))
 clear hC3 hH3
 try simp only [Act.put,List.setIfInBounds_toArray,List.set_cons_zero,List.set_cons_succ]
 refine tkA (i:=5) (v:=?_) rfl hC4 (Or.inl ⟨by rfl,?_⟩) hH4 (fun hC5 hH5=>?_);rotate_left
 ·(intro w9 hSw; obtain⟨hSw,hLw⟩:=hSw; clear hLw; (try dsimp only at hSw); (go_split_ands; go_simp); (try with_reducible rfl))
 clear hC4 hH4
 try simp only [Act.put,List.setIfInBounds_toArray,List.set_cons_zero,List.set_cons_succ]
 refine tkA (i:=6) (v:=?_) rfl hC5 (Or.inl ⟨by rfl,?_⟩) hH5 (fun hC6 hH6=>?_);rotate_left
 ·(intro w9 hSw; obtain⟨hSw,hLw⟩:=hSw; clear hLw; (try dsimp only at hSw); (go_split_ands; go_simp); (try with_reducible rfl))
 clear hC5 hH5
 try simp only [Act.put,List.setIfInBounds_toArray,List.set_cons_zero,List.set_cons_succ]
 refine tkA (i:=7) (v:=?_) rfl hC6 (Or.inl ⟨by rfl,?_⟩) hH6 (fun hC7 hH7=>?_);rotate_left
 ·(intro w9 hSw; obtain⟨hSw,hLw⟩:=hSw; clear hLw; (try dsimp only at hSw); (go_split_ands; go_simp); (try with_reducible rfl))
 clear hC6 hH6
 try simp only [Act.put,List.setIfInBounds_toArray,List.set_cons_zero,List.set_cons_succ]
 refine tkA (i:=8) (v:=?_) rfl hC7 (Or.inl ⟨by rfl,?_⟩) hH7 (fun hC8 hH8=>?_);rotate_left
 ·(intro w9 hSw; obtain⟨hSw,hLw⟩:=hSw; clear hLw; (try dsimp only at hSw); (go_split_ands; go_simp); (try with_reducible rfl))
 clear hC7 hH7
 try simp only [Act.put,List.setIfInBounds_toArray,List.set_cons_zero,List.set_cons_succ]
 refine tkA (i:=9) (v:=?_) rfl hC8 (Or.inl ⟨by rfl,?_⟩) hH8 (fun hC9 hH9=>?_);rotate_left
 ·(intro w9 hSw; obtain⟨hSw,hLw⟩:=hSw; clear hLw; (try dsimp only at hSw); (go_split_ands; go_simp); (try with_reducible rfl))
 clear hC8 hH8
 try simp only [Act.put,List.setIfInBounds_toArray,List.set_cons_zero,List.set_cons_succ]
 refine onA (i:=4) rfl hC9 (fun K hK=>?_);clear hC9 hH9;go_simp;refine(show Calls Tryz.prog 151 #[.slice o0 l.length c0,.int .i64 (lo:Int),.int .i64 (m:Int)] v0 (PutPost l1 v0) from by rw [← E1.out]; exact put_any o0 c0 l lo m v0 I0.out.l hm (by omega) (by omega)).mono ?_;rintro e v1 ⟨o1,c1,rfl,hl1,hb1⟩;have I1:=Lib.hid (I0.out.put hb1 hl1);clear hl1 hb1 I0;go_wp2_with fail;refine hK.out _ _ ?_ (fun hC10 hH10=>?_)
 ·exact⟨⟨cellAt I1.out.bx 0,cellAt I1.out.bx 1⟩,fun e he=>by cases he⟩
 clear hK K
 try simp only [Act.put,List.setIfInBounds_toArray,List.set_cons_zero,List.set_cons_succ]
 refine onA (i:=10) rfl hC10 (fun K hK=>?_);clear hC10 hH10;go_simp;refine(show Calls Tryz.prog 151 #[.slice o1 l1.length c1,.int .i64 (d:Int),.int .i64 2] v1 (PutPost l2 v1) from by rw [← E2.out]; exact put_any o1 c1 l1 d 2 v1 I1.out.l (by omega) (by omega) (by omega)).mono ?_;rintro e v2 ⟨o2,c2,rfl,hl2,hb2⟩;have I2:=Lib.hid (I1.out.put hb2 hl2);clear hl2 hb2 I1;go_wp2_with fail;refine hK.out _ _ ?_ (fun hC11 hH11=>?_)
 ·exact⟨⟨cellAt I2.out.bx 0,cellAt I2.out.bx 1⟩,fun e he=>by cases he⟩
 clear hK K
 try simp only [Act.put,List.setIfInBounds_toArray,List.set_cons_zero,List.set_cons_succ]
 refine tkA (i:=11) (v:=?_) rfl hC11 (Or.inl ⟨by rfl,?_⟩) hH11 (fun hC12 hH12=>?_);rotate_left
 ·(intro w9 hSw; obtain⟨hSw,hLw⟩:=hSw; clear hLw; (try dsimp only at hSw); (go_split_ands; go_simp); (try with_reducible rfl))
 clear hC11 hH11
 try simp only [Act.put,List.setIfInBounds_toArray,List.set_cons_zero,List.set_cons_succ]
 refine wpAnyT_done (by kernel_rfl) ?_ _;clear hC12 hH12;go_wp2_with fail;go_ret;exact⟨o2,c2,by rw [HE.out]; rfl,by rw [HE.out]; exact I2.out.l,I2.out.bel⟩
def NumsAt(w:World)(oa:Option Addr)(n z:Nat)(X:Nat→Nat→Int):Prop:=Row w oa n z (fun i j=>.int .i64 (X i j))
theorem NumsAt.grow{w w':World}{oa:Option Addr}{n z:Nat}{X:Nat→Nat→Int}(h:NumsAt w oa n z X)(hb:Below w.heap.size w w'):NumsAt w' oa n z X:=Row.grow h hb
def nearB(lo hi high:Int):Bool:=spanB lo hi 0 high&&decide (hi - lo≤3)
def headW(cr:Int)(sn tn:Nat):Bool:=inB cr 1 4&&decide ((sn:Int)≤3)&&decide ((tn:Int)≤6)
def okSm(x:Nat→Int):Bool:=inB (x 0) 0 20&&inB (x 1) 0 50
def okTk(cr:Int)(sn:Nat)(S:Nat→Nat→Int)(t:Nat→Int):Bool :=
 inB (t 0) 0 (cr - 1)&&inB (t 1) 0 ((sn:Int) - 1)&&nearB (t 2) (t 3) (S (t 1).toNat 0)&&nearB (t 4) (t 5) (S (t 1).toNat 0)&&nearB (t 6) (t 7) 40
def wagesB(cr:Int)(S:Nat→Nat→Int)(sn:Nat)(T:Nat→Nat→Int)(tn:Nat):Bool :=
 headW cr sn tn&&allB (fun i=>okSm (S i)) sn&&allB (fun i=>okTk cr sn S (T i)) tn
theorem size126:(Tryz.prog.info? 126).map (·.size)=some 2:=by kernel_rfl
theorem size130:(Tryz.prog.info? 130).map (·.size)=some 8:=by kernel_rfl
theorem wseams35:Tryz.prog.underlying 35=some (.slice 126):=by kernel_rfl
theorem wticks36:Tryz.prog.underlying 36=some (.slice 130):=by kernel_rfl
structure WB (w:World) (cr:Int) (sa ta:Option Addr) (sn sc tn tc:Nat) (S T:Nat→Nat→Int) (W:World):Prop where
 bel:Below w.heap.size w W
 box:BoxAt W w.heap.size #[.int .i64 cr,.slice sa sn sc,.slice ta tn tc] 38
 ss:NumsAt W sa sn 2 S
 tt:NumsAt W ta tn 8 T
theorem WB.grow{w W W':World}{cr:Int}{sa ta:Option Addr}{sn sc tn tc:Nat}{S T:Nat→Nat→Int}(h:WB w cr sa ta sn sc tn tc S T W)(hb:Below W.heap.size W W'):WB w cr sa ta sn sc tn tc S T W' :=
 ⟨h.bel.next hb,h.box.grow hb,h.ss.grow hb,h.tt.grow hb⟩
theorem WB.cells{w W:World}{cr:Int}{sa ta:Option Addr}{sn sc tn tc:Nat}{S T:Nat→Nat→Int}(h:WB w cr sa ta sn sc tn tc S T W) :
  W.cell? ⟨w.heap.size,0,none⟩=some (.int .i64 cr)∧W.cell? ⟨w.heap.size,1,none⟩=some (.slice sa sn sc)∧W.cell? ⟨w.heap.size,2,none⟩=some (.slice ta tn tc) :=
 ⟨cellAt h.box 0,cellAt h.box 1,cellAt h.box 2⟩
set_option maxHeartbeats 1000000 in
theorem near123_any(lo hi high:Int)(w:World)(hh:high≤1000) :
  Calls Tryz.prog 123 #[.agg #[.int .i64 lo,.int .i64 hi],.int .i64 high] w fun e w'=>e = .returned (.bool (nearB lo hi high))∧Below w.heap.size w w':=by
 have hb0:=(Below.refl w.heap.size w).alloc (Nat.le_refl _) (.cells #[.int .i64 lo,.int .i64 hi] 128);have B0:=Lib.hid hb0;have Z0:=Lib.hid (show BoxAt (w.alloc (.cells #[.int .i64 lo,.int .i64 hi] 128)) w.heap.size #[.int .i64 lo,.int .i64 hi] 128 from heap_alloc_new _ _);clear hb0;by_cases hs:spanB lo hi 0 high=true
 ·have h1:0≤lo∧lo≤hi∧hi≤high:=by
   unfold spanB at hs;simp only [Bool.and_eq_true,decide_eq_true_eq] at hs;omega
  have HN:=Lib.hid (show nearB lo hi high=decide (hi - lo≤3) from by unfold nearB; rw [hs]; rfl);go_enter Tryz.func123,Tryz.ntmps123;go_upto_region 1 with (fail)
  generalize World.alloc _ _=W0 at *;have c0:=cellAt Z0.out 0;have c1:=cellAt Z0.out 1;simp only [List.getElem?_toArray,List.getElem?_cons_zero,List.getElem?_cons_succ] at c0 c1;go_wp2_with (go_at_call 124; refine(isSpan_any _ _ _ _ _).mono ?_);rintro e w5 ⟨rfl,hb5⟩;have B5:=Lib.hid (B0.out.next hb5);have Z5:=Lib.hid (BoxAt.grow Z0.out hb5);clear hb5 c0 c1 B0 Z0;rw [hs];have c0:=cellAt Z5.out 0;have c1:=cellAt Z5.out 1;simp only [List.getElem?_toArray,List.getElem?_cons_zero,List.getElem?_cons_succ] at c0 c1;clear hs;go_wp2_with fail;go_ret;exact⟨ret_bool (by rw [HN.out]),B5.out⟩
 ·have hs':spanB lo hi 0 high=false:=by simpa using hs
  have HN:=Lib.hid (show nearB lo hi high=false from by unfold nearB; rw [hs']; rfl);clear hs;go_enter Tryz.func123,Tryz.ntmps123;go_upto_region 1 with (fail)
  generalize World.alloc _ _=W0 at *;have c0:=cellAt Z0.out 0;have c1:=cellAt Z0.out 1;simp only [List.getElem?_toArray,List.getElem?_cons_zero,List.getElem?_cons_succ] at c0 c1;go_wp2_with (go_at_call 124; refine(isSpan_any _ _ _ _ _).mono ?_);rintro e w5 ⟨rfl,hb5⟩;have B5:=Lib.hid (B0.out.next hb5);rw [hs'];go_wp2_with fail;go_ret;exact⟨ret_bool (by rw [HN.out]),B5.out⟩
theorem wages_no{cr:Int}{S T:Nat→Nat→Int}{sn tn k:Nat}(hk:k<tn)(h:(headW cr sn tn&&allB (fun i=>okSm (S i)) sn)=true→okTk cr sn S (T k)=false):false=wagesB cr S sn T tn:=by
 symm
 rw [← Bool.not_eq_true];intro e;unfold wagesB at e;rw [Bool.and_eq_true] at e;have h1:okTk cr sn S (T k)=true:=allB_iff.1 e.2 k hk;rw [h e.1] at h1
 cases h1
set_option maxRecDepth 100000 in
set_option maxHeartbeats 8000000 in
theorem isWages_any(cr:Int)(sa ta:Option Addr)(sn sc tn tc:Nat)(S T:Nat→Nat→Int)(w:World)(hS:NumsAt w sa sn 2 S)(hT:NumsAt w ta tn 8 T) :
  Calls Tryz.prog 63 #[.agg #[.int .i64 cr,.slice sa sn sc,.slice ta tn tc]] w fun e w'=>e = .returned (.bool (wagesB cr S sn T tn))∧Below w.heap.size w w':=by
 have hsm:=hS.small;have htm:=hT.small;unfold maxLen at hsm htm;have hb0:=(Below.refl w.heap.size w).alloc (Nat.le_refl _) (.cells #[.int .i64 cr,.slice sa sn sc,.slice ta tn tc] 38);have I0:=Lib.hid (show WB w cr sa ta sn sc tn tc S T (w.alloc (.cells #[.int .i64 cr,.slice sa sn sc,.slice ta tn tc] 38)) from⟨hb0,heap_alloc_new _ _,hS.grow hb0,hT.grow hb0⟩);clear hS hT hb0;go_enter Tryz.func63,Tryz.ntmps63;go_upto_region 1 with (fail)
 generalize hW:World.alloc _ _=W0 at *;obtain⟨q0,q1,q2⟩:=I0.out.cells;clear hW;go_cut [3] from 10 to 24 (fun v W=>v = .bool (headW cr sn tn)∧W=W0)
 case first =>
  go_wp2_with (go_at_call 122; refine(within_any _ _ _ _).mono ?_; rintro e w' ⟨rfl,rfl⟩)
  all_goals (go_meet; exact⟨by (simp_all [headW]) <;> omega,rfl⟩)
 case rest =>
  obtain⟨rfl,rfl⟩:=hcut
  have HGB:=Lib.hid (show headW cr sn tn=true→1≤cr∧cr≤4 from fun h=>by
   unfold headW at h;simp only [Bool.and_eq_true] at h
   exact inB_iff.1 h.1.1)
  go_wp2_with fail
  go_loopw [3,28] (fun v i wi => ∃ k:Nat,k≤sn∧i = .int .i64 k∧v = .bool (headW cr sn tn&&allB (fun i=>okSm (S i)) k)∧WB w cr sa ta sn sc tn tc S T wi) (fun _ i _=>sn - (intOf i).toNat)
  case atStart=>exact⟨0,Nat.zero_le _,rfl,by simp [allB],I0.out⟩
  case round =>
   clear I0 q0 q1 q2;obtain⟨k,hk,rfl,rfl,h1⟩:=hrel;have I1:=Lib.hid h1;clear h1;generalize hG:headW cr sn tn=G;have HG:=Lib.hid hG;clear hG;by_cases hlt:k<sn
   ·have hi:=fun w=>run_indexAt_row (w:=w) (cap:=sc) wseams35 size126 (I1.out.ss.plain (by omega)) hlt
    have g0:=I1.out.ss.cells k hlt 0 (by omega);have g1:=I1.out.ss.cells k hlt 1 (by omega);simp only [Nat.add_zero] at g0;have HA:=Lib.hid (show allB (fun i=>okSm (S i)) (k+1)=(allB (fun i=>okSm (S i)) k&&okSm (S k)) from rfl);have HX:=Lib.hid (show okSm (S k)=(inB (S k 0) 0 20&&inB (S k 1) 0 50) from rfl);generalize S k 0=x0 at *;generalize S k 1=x1 at *;generalize okSm (S k)=X at *;generalize allB (fun i=>okSm (S i)) k=A at *
    go_upto_block 1 with (fail)
    go_cut [3] from 30 to 42 (fun v wc=>v = .bool (G&&A&&X)∧WB w cr sa ta sn sc tn tc S T wc)
    case first =>
     go_upto_region 5 with (fail)
     generalize hW:World.alloc _ _=W;obtain⟨z0,hz,hB⟩:=blocks1 hW;have I2:=Lib.hid (I1.out.grow hB);have c0:=cellAt z0 0;have c1:=cellAt z0 1;simp only [List.getElem?_toArray,List.getElem?_cons_zero,List.getElem?_cons_succ] at c0 c1;clear hW hz hB z0;go_wp2_with (go_at_call 122; refine(within_any _ _ _ _).mono ?_; rintro e w' ⟨rfl,rfl⟩)
     all_goals (go_meet; exact⟨by rw [HX.out]; simp_all,I2.out⟩)
    case rest =>
     obtain⟨rfl,h2⟩:=hcut;have I2:=Lib.hid h2;clear h2 I1;go_wp2_with fail;exact⟨⟨k+1,hlt,by go_num,by rw [HA.out,← Bool.and_assoc],I2.out⟩,by simp [intOf]; omega⟩
   ·obtain rfl:k=sn:=by omega
    generalize hA1:(G&&allB (fun i=>okSm (S i)) k)=A1;have HA1:=Lib.hid hA1;have HNO:=Lib.hid (fun(j:Nat) (hj:j<tn) (h:A1=true→okTk cr k S (T j)=false)=>wages_no (cr:=cr) (S:=S) (T:=T) (sn:=k) (tn:=tn) hj (fun h2=>h (by rw [← hA1,← HG.out]; exact h2)));have HZ:=Lib.hid (show wagesB cr S k T tn=(A1&&allB (fun i=>okTk cr k S (T i)) tn) from by unfold wagesB; rw [HG.out,hA1])
    have HGB1:=Lib.hid (show A1=true→(1≤cr∧cr≤4)∧allB (fun i=>okSm (S i)) k=true from fun h=>by
     rw [← hA1,Bool.and_eq_true] at h
     exact⟨HGB.out (by rw [HG.out]; exact h.1),h.2⟩)
    clear hA1;obtain⟨E,hE⟩:∃ E,RowKit.wrap64 (cr - 1)=E:=⟨_,rfl⟩
    have HE:=Lib.hid hE;clear hE;have wN:RowKit.wrap64 ((k:Int) - 1)=(k:Int) - 1:=IntWalk.wrap64_in _ (by omega);have HWN:=Lib.hid wN;clear wN;obtain⟨q0,q1,q2⟩:=I1.out.cells;go_wp2_with fail
    go_loopw [3,47] (fun v i wi => ∃ j:Nat,j≤tn∧i = .int .i64 j∧v = .bool (A1&&allB (fun i=>okTk cr k S (T i)) j)∧WB w cr sa ta k sc tn tc S T wi) (fun _ i _=>tn - (intOf i).toNat)
    case atStart=>exact⟨0,Nat.zero_le _,rfl,by simp [allB],I1.out⟩
    case round =>
     clear I1 q0 q1 q2;obtain⟨j,hj,rfl,rfl,h1⟩:=hrel;have I1:=Lib.hid h1;clear h1;by_cases hlt:j<tn
     ·have hi:=fun w=>run_indexAt_row (w:=w) (cap:=tc) wticks36 size130 (I1.out.tt.plain (by omega)) hlt
      have g0:=I1.out.tt.cells j hlt 0 (by omega);have g1:=I1.out.tt.cells j hlt 1 (by omega);have g2:=I1.out.tt.cells j hlt 2 (by omega);have g3:=I1.out.tt.cells j hlt 3 (by omega);have g4:=I1.out.tt.cells j hlt 4 (by omega);have g5:=I1.out.tt.cells j hlt 5 (by omega);have g6:=I1.out.tt.cells j hlt 6 (by omega);have g7:=I1.out.tt.cells j hlt 7 (by omega);simp only [Nat.add_zero] at g0;have HA:=Lib.hid (show allB (fun i=>okTk cr k S (T i)) (j+1)=(allB (fun i=>okTk cr k S (T i)) j&&okTk cr k S (T j)) from rfl);have HX:=Lib.hid (show okTk cr k S (T j)=(inB (T j 0) 0 (cr - 1)&&inB (T j 1) 0 ((k:Int) - 1)&&nearB (T j 2) (T j 3) (S (T j 1).toNat 0)&&nearB (T j 4) (T j 5) (S (T j 1).toNat 0)&&nearB (T j 6) (T j 7) 40) from rfl);have HN:=Lib.hid (HNO.out j hlt);generalize T j 0=x0 at *;generalize T j 1=x1 at *;generalize T j 2=x2 at *;generalize T j 3=x3 at *;generalize T j 4=x4 at *;generalize T j 5=x5 at *;generalize T j 6=x6 at *;generalize T j 7=x7 at *;generalize okTk cr k S (T j)=X at *;generalize allB (fun i=>okTk cr k S (T i)) j=A at *;go_upto_region 11 with (fail)
      generalize hW:World.alloc _ _=W;obtain⟨z0,hz,hB⟩:=blocks1 hW;have I2:=Lib.hid (I1.out.grow hB);have Z2:=Lib.hid (show BoxAt W wr.heap.size #[.int .i64 x0,.int .i64 x1,.int .i64 x2,.int .i64 x3,.int .i64 x4,.int .i64 x5,.int .i64 x6,.int .i64 x7] 130 from z0);have c0:=cellAt z0 0;have c1:=cellAt z0 1;simp only [List.getElem?_toArray,List.getElem?_cons_zero,List.getElem?_cons_succ] at c0 c1;clear hW hz hB z0 I1 g0 g1 g2 g3 g4 g5 g6 g7 hi;generalize wr.heap.size=b at *;obtain⟨q0,q1,q2⟩:=I2.out.cells;have hE:=HE.out;have wN:=HWN.out;by_cases hb1:inB x0 0 E=true
      case neg =>
       have hb1':inB x0 0 E=false:=by simpa using hb1
       have HF:=Lib.hid (HN.out (fun h=>by
        have hc:=(HGB1.out h).1;have:E=cr - 1:=by rw [← hE]; exact IntWalk.wrap64_in _ (by omega)
        rw [HX.out,← this,hb1']
        rfl))
       clear hb1;go_wp2_with (go_at_call 122; refine(within_any _ _ _ _).mono ?_; rintro e w' ⟨rfl,rfl⟩);go_ret;exact⟨ret_bool HF.out,I2.out.bel⟩
      by_cases hb2:inB x1 0 ((k:Int) - 1)=true
      case neg =>
       have hb2':inB x1 0 ((k:Int) - 1)=false:=by simpa using hb2
       have HF:=Lib.hid (HN.out (fun h=>by
        rw [HX.out,hb2']
        simp))
       clear hb2;go_wp2_with (go_at_call 122; refine(within_any _ _ _ _).mono ?_; rintro e w' ⟨rfl,rfl⟩);go_ret;exact⟨ret_bool HF.out,I2.out.bel⟩
      have hx1:=inB_iff.1 hb2;obtain⟨q,rfl⟩:∃ q:Nat,x1=q:=⟨x1.toNat,by omega⟩
      have hqk:q<k:=by omega
      have HX2:=Lib.hid (show A1=true→X=(nearB x2 x3 (S q 0)&&nearB x4 x5 (S q 0)&&nearB x6 x7 40) from fun h=>by
       have hc:=(HGB1.out h).1;have:E=cr - 1:=by rw [← hE]; exact IntWalk.wrap64_in _ (by omega)
       rw [HX.out,← this,hb1,hb2,Int.toNat_natCast]
       rfl)
      have HFAT:=Lib.hid (show A1=true→S q 0≤20 from fun h=>by
       have:=allB_iff.1 (HGB1.out h).2 q hqk;unfold okSm at this;simp only [Bool.and_eq_true] at this
       exact(inB_iff.1 this.1).2)
      have hi2:=fun w=>run_indexAt_row (w:=w) (cap:=sc) wseams35 size126 (I2.out.ss.plain (by omega)) hqk;have gs:=I2.out.ss.cells q hqk 0 (by omega);simp only [Nat.add_zero] at gs;generalize S q 0=f at *;go_upto_region 14 with (go_at_call 122; refine(within_any _ _ _ _).mono ?_; rintro e w' ⟨rfl,rfl⟩)
      clear hE wN hb1 hb2 hx1 hi2 gs q0 q1 q2 c0 c1;by_cases hD:(A1&&A)=true
      case neg =>
       have hD':(A1&&A)=false:=by simpa using hD
       have HF:=Lib.hid (show(A1&&allB (fun i=>okTk cr k S (T i)) (j+1))=false from by rw [HA.out,← Bool.and_assoc,hD']; rfl);clear hD;rw [hD'];go_wp2_with fail;exact⟨⟨j+1,hlt,by go_num,by rw [HF.out],I2.out⟩,by simp [intOf]; omega⟩
      have hA1:A1=true:=by rw [Bool.and_eq_true] at hD; exact hD.1
      have hf20:=HFAT.out hA1;have HF:=Lib.hid (show(A1&&allB (fun i=>okTk cr k S (T i)) (j+1))=(nearB x2 x3 f&&nearB x4 x5 f&&nearB x6 x7 40) from by rw [HA.out,← Bool.and_assoc,hD,HX2.out hA1]; rfl);rw [hD];clear hD hA1;generalize hn1:nearB x2 x3 f=n1 at *;generalize hn2:nearB x4 x5 f=n2 at *;generalize hn3:nearB x6 x7 40=n3 at *;have HN1:=Lib.hid hn1;have HN2:=Lib.hid hn2;have HN3:=Lib.hid hn3;clear hn1 hn2 hn3;have d0:=cellAt Z2.out 2;have d1:=cellAt Z2.out 3;simp only [List.getElem?_toArray,List.getElem?_cons_zero,List.getElem?_cons_succ] at d0 d1;go_wp2_with fail;refine(near123_any _ _ _ _ (by omega)).mono ?_;rintro e w5 ⟨rfl,hb5⟩;have I3:=Lib.hid (I2.out.grow hb5);have Z3:=Lib.hid (BoxAt.grow Z2.out hb5);clear hb5 d0 d1 I2 Z2;rw [HN1.out]
      cases n1 with
      | false =>
       go_wp2_with fail;exact⟨⟨j+1,hlt,by go_num,by rw [HF.out]; rfl,I3.out⟩,by simp [intOf]; omega⟩
      | true =>
       have d0:=cellAt Z3.out 4;have d1:=cellAt Z3.out 5;simp only [List.getElem?_toArray,List.getElem?_cons_zero,List.getElem?_cons_succ] at d0 d1;go_wp2_with fail;refine(near123_any _ _ _ _ (by omega)).mono ?_;rintro e w6 ⟨rfl,hb5⟩;have I4:=Lib.hid (I3.out.grow hb5);have Z4:=Lib.hid (BoxAt.grow Z3.out hb5);clear hb5 d0 d1 I3 Z3;rw [HN2.out]
       cases n2 with
       | false =>
        go_wp2_with fail;exact⟨⟨j+1,hlt,by go_num,by rw [HF.out]; rfl,I4.out⟩,by simp [intOf]; omega⟩
       | true =>
        have d0:=cellAt Z4.out 6;have d1:=cellAt Z4.out 7;simp only [List.getElem?_toArray,List.getElem?_cons_zero,List.getElem?_cons_succ] at d0 d1;go_wp2_with fail;refine(near123_any _ _ _ _ (by omega)).mono ?_;rintro e w7 ⟨rfl,hb5⟩;have I5:=Lib.hid (I4.out.grow hb5);have Z5:=Lib.hid (BoxAt.grow Z4.out hb5);clear hb5 d0 d1 I4 Z4;rw [HN3.out]
        cases n3 with
        | false =>
         go_wp2_with fail;exact⟨⟨j+1,hlt,by go_num,by rw [HF.out]; rfl,I5.out⟩,by simp [intOf]; omega⟩
        | true =>
         go_wp2_with fail;exact⟨⟨j+1,hlt,by go_num,by rw [HF.out]; rfl,I5.out⟩,by simp [intOf]; omega⟩
     ·obtain rfl:j=tn:=by omega
      go_wp2_with fail;go_ret;exact⟨ret_bool (by rw [HZ.out]),I1.out.bel⟩
attribute [local go_sem] ba_app List.append_toArray List.length_append
set_option maxRecDepth 100000 in
set_option maxHeartbeats 4000000 in
theorem hulls3_any(sa ua:Option Addr)(sn sc un uc:Nat)(S:Nat→Sea)(U:Nat→Sou)(w:World)(hS:SeasAt w sa sn S)(hU:SousAt w ua un U)(hok:HullOk S sn U un)(ht:Tab w)(hsd:Sides w) :
  Calls Tryz.prog 100 #[.agg #[.slice sa sn sc,.slice ua un uc]] w fun e w'=>e = .returned (.string ⟨(hullT S sn U un).toArray⟩)∧Below w.heap.size w w':=by
 obtain⟨hsm,hum,okS',okU'⟩:=hok;have KS:=Lib.hid okS';have KU:=Lib.hid okU';have hb0:=(Below.refl w.heap.size w).alloc (Nat.le_refl _) (.cells #[.slice sa sn sc,.slice ua un uc] 25);have I0:=Lib.hid (show HT w sa ua sn sc un uc S U (w.alloc (.cells #[.slice sa sn sc,.slice ua un uc] 25)) from⟨⟨hb0,heap_alloc_new _ _,hS.grow hb0,hU.grow hb0⟩,ht.grow hb0⟩);have SD:=Lib.hid (fun W (h:Below w.heap.size w W)=>Sides.grow hsd h);clear hS hU hb0 ht okS' okU' hsd;go_enter Tryz.func100,Tryz.ntmps100;go_upto_region 2 with (fail)
 generalize hW:World.alloc _ _=W0 at *;have q0:=cellAt I0.out.inv.box 0;have q1:=cellAt I0.out.inv.box 1;simp only [List.getElem?_toArray,List.getElem?_cons_zero,List.getElem?_cons_succ] at q0 q1;clear hW;go_wp2_with fail
 go_loopw [3,11] (fun v i wi => ∃ k:Nat,k≤sn∧i = .int .i64 k∧v = .string ⟨(seasT S k).toArray⟩∧HT w sa ua sn sc un uc S U wi) (fun _ i _=>sn - (intOf i).toNat)
 case atStart=>exact⟨0,Nat.zero_le _,rfl,rfl,I0.out⟩
 case round =>
  clear I0 q0 q1;obtain⟨k,hk,rfl,rfl,h1⟩:=hrel;have I1:=Lib.hid h1;clear h1;have q0:=cellAt I1.out.inv.box 0;have q1:=cellAt I1.out.inv.box 1;simp only [List.getElem?_toArray,List.getElem?_cons_zero,List.getElem?_cons_succ] at q0 q1;by_cases hlt:k<sn
  ·have hi:=fun w=>run_indexAt_row (w:=w) (cap:=sc) seams22 size142 (I1.out.inv.ss.plain (by omega)) hlt
   obtain⟨g0,g1,g2⟩:=I1.out.inv.ss.at hlt;have HK:=Lib.hid (show seasT S (k+1)=seasT S k++seaT (S k) from rfl);have hokk:=okS_iff (KS.out k hlt);have CS:=Lib.hid (SD.out _ I1.out.inv.bel);have PO:=Lib.hid (seaP_ok (KS.out k hlt));have hlen:=seasT_len (S:=S) (n:=k) (fun i hi=>KS.out i (by omega));generalize S k=x at *
   have l5:(seaT x).length≤100:=by
    have l1:=itoa_len x.h (by omega);have l2:=itoa_len x.m (by omega);have l3:=sideT_len x.s;simp only [seaT,List.length_append,List.length_cons];omega
   generalize seasT S k=T at *;have n1:¬ (9223372036854775807<T.length+(seaT x).length):=by omega
   obtain⟨⟨h0,h1⟩,⟨s0,s1⟩,m0,m1⟩:=hokk;have hcs:=CS.out.cell s0 s1;clear hlen;go_upto_region 5 with (fail)
   generalize hW:World.alloc _ _=W;obtain⟨z0,hz,hB⟩:=blocks1 hW;have I2:=Lib.hid (show HX w sa ua sn sc un uc S U wr.heap.size #[.int .i64 x.h,.int .i64 x.s,.int .i64 x.m] 142 W from⟨I1.out.grow hB,z0⟩);clear hW hz hB z0 I1 q0 q1;have hg:=Lib.hid (show blk sa<1∨True from .inr trivial);generalize wr.heap.size=b at *;have wi:IntKind.i64.wrap (x.s+1)=x.s+1:=by rw [IntKind.wrap_i64]; omega
   have i0:(0:Int)≤x.s+1:=by omega
   have i1:x.s+1<3:=by omega
   have I2d:=Lib.hid (I2.out.grow (Below.drew (Below.refl W.heap.size W)));have I3:=Lib.hid (I2.out.grow (((Below.refl W.heap.size W).alloc (Nat.le_refl _) (.cells #[.iface 9 (.string ⟨#[32]⟩),.iface 3 (.int .i64 x.h),.iface 9 (.string ⟨(sideT x.s).toArray⟩),.iface 3 (.int .i64 x.m)] 20)).drew))
   have KP:=Lib.hid (fun W' (h:HX w sa ua sn sc un uc S U b #[.int .i64 x.h,.int .i64 x.s,.int .i64 x.m] 142 W')=>(show(W'.cell? ⟨b,0,none⟩=some (.int .i64 x.h)∧W'.cell? ⟨b,1,none⟩=some (.int .i64 x.s)∧W'.cell? ⟨b,2,none⟩=some (.int .i64 x.m))∧W'.cell? ⟨0,(x.s+1).toNat,none⟩=some (.string ⟨(sideT x.s).toArray⟩)∧HX w sa ua sn sc un uc S U b #[.int .i64 x.h,.int .i64 x.s,.int .i64 x.m] 142 W' from
    ⟨h.cells3.1,Sides.cell (SD.out _ h.h.inv.bel) s0 s1,h⟩))
   have C1:=Lib.hid (said_any (some ⟨W.heap.size,0,none⟩) 4 4 (seaP x) (W.alloc (.cells #[.iface 9 (.string ⟨#[32]⟩),.iface 3 (.int .i64 x.h),.iface 9 (.string ⟨(sideT x.s).toArray⟩),.iface 3 (.int .i64 x.m)] 20)).drew (show PartsAt _ _ 4 (seaP x) from row_box (n:=4) (t:=20) (cell:=fun i=>(seaP x i).v) (heap_alloc_new W (.cells #[.iface 9 (.string ⟨#[32]⟩),.iface 3 (.int .i64 x.h),.iface 9 (.string ⟨(sideT x.s).toArray⟩),.iface 3 (.int .i64 x.m)] 20)) (by unfold maxLen; omega)) (fun i _=>PO.out i) (by omega) I3.out.h.tab);rw [seaP_text] at C1
   go_region_held3 (fun w'=>(w'.cell? ⟨b,0,none⟩=some (.int .i64 x.h)∧w'.cell? ⟨b,1,none⟩=some (.int .i64 x.s)∧w'.cell? ⟨b,2,none⟩=some (.int .i64 x.m))∧w'.cell? ⟨0,(x.s+1).toNat,none⟩=some (.string ⟨(sideT x.s).toArray⟩)∧HX w sa ua sn sc un uc S U b #[.int .i64 x.h,.int .i64 x.s,.int .i64 x.m] 142 w')
    (first | exact KP.out _ I2d.out | exact KP.out _ I3.out | (go_split_ands; exact KP.out _ (HX.grow I3.out hb1)) | (go_split_ands; exact⟨⟨by assumption,by assumption,by assumption⟩,by assumption,by assumption⟩))
    (first | (go_at_call 101; refine C1.out.mono ?_; rintro e w4 ⟨rfl,hb1⟩))
   obtain⟨_,_,J⟩ := ‹_∧_∧HX w sa ua sn sc un uc S U b _ 142 _›;have HJ:=Lib.hid J;clear J;go_wp2_with fail;exact⟨⟨k+1,hlt,by go_num,by rw [HK.out],HJ.out.h⟩,by simp [intOf]; omega⟩
  ·obtain rfl:k=sn:=by omega
   have hlen:=seasT_len (S:=S) (n:=k) (fun i hi=>KS.out i (by omega));have HE:=Lib.hid (show hullT S k U un=sousT (seasT S k ++ [10]) U un from rfl);generalize seasT S k=T at *;have n1:¬ (9223372036854775807<T.length+1):=by omega
   go_wp2_with fail;obtain⟨T2,eT⟩:∃ T2,T ++ [10]=T2:=⟨_,rfl⟩
   have hl2:T2.length≤50000:=by rw [← eT]; simp; omega
   have HE2:=Lib.hid (show hullT S k U un=sousT T2 U un from by rw [HE.out,eT]);rw [eT];clear eT n1 hlen HE
   go_loopw [3,38] (fun v i wi => ∃ j:Nat,j≤un∧i = .int .i64 j∧v = .string ⟨(sousT T2 U j).toArray⟩∧HT w sa ua k sc un uc S U wi) (fun _ i _=>un - (intOf i).toNat)
   case atStart=>exact⟨0,Nat.zero_le _,rfl,rfl,I1.out⟩
   case round =>
    clear I1 q0 q1;obtain⟨j,hj,rfl,rfl,h1⟩:=hrel;have I1:=Lib.hid h1;clear h1;by_cases hlt:j<un
    ·have hi:=fun w=>run_indexAt_row (w:=w) (cap:=uc) sounds23 size144 (I1.out.inv.uu.plain (by omega)) hlt
     obtain⟨g0,g1,g2,g3⟩:=I1.out.inv.uu.at hlt;have HK:=Lib.hid (show sousT T2 U (j+1)=sousT T2 U j++souT (U j) from rfl);have PO:=Lib.hid (souP_ok (KU.out j hlt));have hsl:=souT_len (KU.out j hlt);have hlen:=sousT_len (t:=T2) (U:=U) (n:=j) (fun i hi=>KU.out i (by omega));generalize U j=x at *;generalize sousT T2 U j=V at *;have n1:¬ (9223372036854775807<V.length+(souT x).length):=by omega
     clear hsl hlen;go_upto_region 11 with (fail)
     generalize hW:World.alloc _ _=W;obtain⟨z0,hz,hB⟩:=blocks1 hW;have I2:=Lib.hid (show HX w sa ua k sc un uc S U wr.heap.size #[.int .i64 x.d,.int .i64 x.l,.int .i64 x.lo,.int .i64 x.hi] 144 W from⟨I1.out.grow hB,z0⟩);clear hW hz hB z0 I1;generalize wr.heap.size=b at *;obtain⟨c0,c1,c2,c3⟩:=I2.out.cells4.1;have I3:=Lib.hid (I2.out.grow ((Below.refl W.heap.size W).alloc (Nat.le_refl _) (.cells #[.iface 3 (.int .i64 x.d),.iface 9 (.string ⟨#[32]⟩),.iface 3 (.int .i64 x.l),.iface 9 (.string ⟨#[32]⟩),.iface 128 (.agg #[.int .i64 x.lo,.int .i64 x.hi]),.iface 9 (.string ⟨#[10]⟩)] 20)));have C1:=Lib.hid (said_any (some ⟨W.heap.size,0,none⟩) 6 6 (souP x) (W.alloc (.cells #[.iface 3 (.int .i64 x.d),.iface 9 (.string ⟨#[32]⟩),.iface 3 (.int .i64 x.l),.iface 9 (.string ⟨#[32]⟩),.iface 128 (.agg #[.int .i64 x.lo,.int .i64 x.hi]),.iface 9 (.string ⟨#[10]⟩)] 20)) (show PartsAt _ _ 6 (souP x) from row_box (n:=6) (t:=20) (cell:=fun i=>(souP x i).v) (heap_alloc_new W (.cells #[.iface 3 (.int .i64 x.d),.iface 9 (.string ⟨#[32]⟩),.iface 3 (.int .i64 x.l),.iface 9 (.string ⟨#[32]⟩),.iface 128 (.agg #[.int .i64 x.lo,.int .i64 x.hi]),.iface 9 (.string ⟨#[10]⟩)] 20)) (by unfold maxLen; omega)) (fun i _=>PO.out i) (by omega) I3.out.h.tab);rw [souP_text] at C1;go_wp2_with (go_at_call 101; refine C1.out.mono ?_);rintro e w4 ⟨rfl,hb1⟩;have HJ:=Lib.hid (I3.out.grow hb1);clear hb1;go_wp2_with fail;exact⟨⟨j+1,hlt,by go_num,by rw [HK.out],HJ.out.h⟩,by simp [intOf]; omega⟩
    ·obtain rfl:j=un:=by omega
     go_wp2_with fail;go_ret;exact⟨by rw [HE2.out]; rfl,I1.out.inv.bel⟩
end Go.Proofs.YtclbmlmlhiiaeaaGreatDoor
