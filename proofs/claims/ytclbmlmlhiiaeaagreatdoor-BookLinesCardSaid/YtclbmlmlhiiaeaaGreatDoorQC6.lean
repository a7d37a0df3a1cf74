/- Walks: the reference's text of a hull. Walks: the reference' -/
import Derived.Test.YtclbmlmlhiiaeaaGreatDoorQC2
namespace Go.Proofs.YtclbmlmlhiiaeaaGreatDoor
open Go.RowKit
attribute [local go_sem] ba_app List.append_toArray List.length_append
theorem sideT_len(s:Int):(sideT s).length=1:=by unfold sideT; split <;> (try split) <;> rfl
def HullOk(S:Nat→Sea)(n:Nat)(U:Nat→Sou)(m:Nat):Prop:=n≤1000∧m≤1000∧(∀ i,i<n→okS (S i)=true) ∧ ∀ i,i<m→okU (U i)=true
theorem okS_iff{x:Sea}(h:okS x=true):(0≤x.h∧x.h≤12)∧(-1≤x.s∧x.s≤1)∧0≤x.m∧x.m≤4:=by
 unfold okS inB at h;simp only [Bool.and_eq_true,decide_eq_true_eq] at h;omega
theorem okU_iff{x:Sou}(h:okU x=true):(0≤x.d∧x.d≤12)∧(-3≤x.l∧x.l≤3)∧0≤x.lo∧x.lo≤x.hi∧x.hi≤24:=by
 unfold okU spanB inB at h;simp only [Bool.and_eq_true,decide_eq_true_eq] at h;omega
theorem seaT_len{x:Sea}(h:okS x=true):(seaT x).length≤44:=by
 have h:=okS_iff h;have h1:=itoa_len x.h (by omega);have h2:=itoa_len x.m (by omega);have h3:=sideT_len x.s;simp only [seaT,List.length_append,List.length_cons];omega
theorem spanT_len{lo hi:Int}(h1 : -1000000≤lo∧lo≤1000000)(h2 : -1000000≤hi∧hi≤1000000):(spanT lo hi).length≤44:=by
 have h1:=itoa_len lo h1;have h2:=itoa_len hi h2;unfold spanT
 split
 ·omega
 ·simp only [List.length_append,List.length_cons]; omega
theorem souT_len{x:Sou}(h:okU x=true):(souT x).length≤89:=by
 have h:=okU_iff h;have h1:=itoa_len x.d (by omega);have h2:=itoa_len x.l (by omega);have h3:=spanT_len (lo:=x.lo) (hi:=x.hi) (by omega) (by omega);simp only [souT,List.length_append,List.length_cons,List.length_nil];omega
theorem seasT_len{S:Nat→Sea}:∀ {n:Nat},(∀ i,i<n→okS (S i)=true)→(seasT S n).length≤4+44 * n
 | 0,_=>by simp [seasT]
 | n+1,h=>by
  have:=seasT_len (n:=n) (fun i hi=>h i (by omega));have:=seaT_len (h n (by omega));simp only [seasT,List.length_append];omega
theorem sousT_len{t:List UInt8}{U:Nat→Sou}:∀ {n:Nat},(∀ i,i<n→okU (U i)=true)→(sousT t U n).length≤t.length+89 * n
 | 0,_=>by simp [sousT]
 | n+1,h=>by
  have:=sousT_len (t:=t) (n:=n) (fun i hi=>h i (by omega));have:=souT_len (h n (by omega));simp only [sousT,List.length_append];omega
structure HT (w:World) (sa ua:Option Addr) (sn sc un uc:Nat) (S:Nat→Sea) (U:Nat→Sou) (W:World):Prop where
 inv:HI w sa ua sn sc un uc S U W
 tab:Tab W
theorem HT.grow{w W W':World}{sa ua:Option Addr}{sn sc un uc:Nat}{S:Nat→Sea}{U:Nat→Sou}(h:HT w sa ua sn sc un uc S U W)(hb:Below W.heap.size W W'):HT w sa ua sn sc un uc S U W' :=
 ⟨h.inv.grow hb,h.tab.grow hb⟩
structure HX (w:World) (sa ua:Option Addr) (sn sc un uc:Nat) (S:Nat→Sea) (U:Nat→Sou) (b:Nat) (x:Array Value) (t:TypeId) (W:World):Prop where
 h:HT w sa ua sn sc un uc S U W
 bx:BoxAt W b x t
theorem HX.grow{w W W':World}{sa ua:Option Addr}{sn sc un uc:Nat}{S:Nat→Sea}{U:Nat→Sou}{b:Nat}{x:Array Value}{t:TypeId}(h:HX w sa ua sn sc un uc S U b x t W)(hb:Below W.heap.size W W'):HX w sa ua sn sc un uc S U b x t W' :=
 ⟨h.h.grow hb,h.bx.grow hb⟩
theorem HX.cells3{w W:World}{sa ua:Option Addr}{sn sc un uc:Nat}{S:Nat→Sea}{U:Nat→Sou}{b:Nat}{p q r:Int}{t:TypeId}(h:HX w sa ua sn sc un uc S U b #[.int .i64 p,.int .i64 q,.int .i64 r] t W) :
  (W.cell? ⟨b,0,none⟩=some (.int .i64 p)∧W.cell? ⟨b,1,none⟩=some (.int .i64 q)∧W.cell? ⟨b,2,none⟩=some (.int .i64 r))∧HX w sa ua sn sc un uc S U b #[.int .i64 p,.int .i64 q,.int .i64 r] t W :=
 ⟨⟨cellAt h.bx 0,cellAt h.bx 1,cellAt h.bx 2⟩,h⟩
theorem HX.cells4{w W:World}{sa ua:Option Addr}{sn sc un uc:Nat}{S:Nat→Sea}{U:Nat→Sou}{b:Nat}{p q r s:Int}{t:TypeId}(h:HX w sa ua sn sc un uc S U b #[.int .i64 p,.int .i64 q,.int .i64 r,.int .i64 s] t W) :
  (W.cell? ⟨b,0,none⟩=some (.int .i64 p)∧W.cell? ⟨b,1,none⟩=some (.int .i64 q)∧W.cell? ⟨b,2,none⟩=some (.int .i64 r)∧W.cell? ⟨b,3,none⟩=some (.int .i64 s))∧HX w sa ua sn sc un uc S U b #[.int .i64 p,.int .i64 q,.int .i64 r,.int .i64 s] t W :=
 ⟨⟨cellAt h.bx 0,cellAt h.bx 1,cellAt h.bx 2,cellAt h.bx 3⟩,h⟩
end Go.Proofs.YtclbmlmlhiiaeaaGreatDoor
namespace Go.Proofs.YtclbmlmlhiiaeaaGreatDoor
open Go.RowKit
attribute [local go_sem] ba_app List.append_toArray List.length_append
set_option maxRecDepth 100000 in
set_option maxHeartbeats 4000000 in
theorem hullText_any(sa ua:Option Addr)(sn sc un uc:Nat)(S:Nat→Sea)(U:Nat→Sou)(w:World)(hS:SeasAt w sa sn S)(hU:SousAt w ua un U)(hok:HullOk S sn U un)(ht:Tab w) :
  Calls Tryz.prog 55 #[.agg #[.slice sa sn sc,.slice ua un uc]] w fun e w'=>e = .returned (.string ⟨(hullT S sn U un).toArray⟩)∧Below w.heap.size w w':=by
 obtain⟨hsm,hum,okS',okU'⟩:=hok;have KS:=Lib.hid okS';have KU:=Lib.hid okU';have hb0:=(Below.refl w.heap.size w).alloc (Nat.le_refl _) (.cells #[.slice sa sn sc,.slice ua un uc] 25);have I0:=Lib.hid (show HT w sa ua sn sc un uc S U (w.alloc (.cells #[.slice sa sn sc,.slice ua un uc] 25)) from⟨⟨hb0,heap_alloc_new _ _,hS.grow hb0,hU.grow hb0⟩,ht.grow hb0⟩);clear hS hU hb0 ht okS' okU';go_enter Tryz.func55,Tryz.ntmps55;go_wp2_with fail;generalize hW:World.alloc _ _=W0 at *;clear hW
 go_loopw [3,4] (fun v i wi => ∃ k:Nat,k≤sn∧i = .int .i64 k∧v = .string ⟨(seasT S k).toArray⟩∧HT w sa ua sn sc un uc S U wi) (fun _ i _=>sn - (intOf i).toNat)
 case atStart=>exact⟨0,Nat.zero_le _,rfl,rfl,I0.out⟩
 case round =>
  clear I0;obtain⟨k,hk,rfl,rfl,h1⟩:=hrel;have I1:=Lib.hid h1;clear h1;have q0:=cellAt I1.out.inv.box 0;have q1:=cellAt I1.out.inv.box 1;simp only [List.getElem?_toArray,List.getElem?_cons_zero,List.getElem?_cons_succ] at q0 q1;by_cases hlt:k<sn
  ·have hi:=fun w=>run_indexAt_row (w:=w) (cap:=sc) seams22 size142 (I1.out.inv.ss.plain (by omega)) hlt
   obtain⟨g0,g1,g2⟩:=I1.out.inv.ss.at hlt;have HK:=Lib.hid (show seasT S (k+1)=seasT S k++seaT (S k) from rfl);have hokk:=okS_iff (KS.out k hlt);have hlen:=seasT_len (S:=S) (n:=k) (fun i hi=>KS.out i (by omega));generalize S k=x at *;have HX1:=Lib.hid (show seaT x=32::Lib.itoa x.h++sideT x.s++Lib.itoa x.m from rfl);have l1:=itoa_len x.h (by omega);have l2:=itoa_len x.m (by omega);have l3:=sideT_len x.s;have C1:=Lib.hid (fun W (h:Tab W)=>number_any x.h W (by omega) h);have C2:=Lib.hid (fun W=>side_any x.s W);have C3:=Lib.hid (fun W (h:Tab W)=>number_any x.m W (by omega) h);generalize Lib.itoa x.h=A at *;generalize sideT x.s=B at *;generalize Lib.itoa x.m=C at *;generalize seasT S k=T at *;have n1:¬ (9223372036854775807<T.length+1):=by omega
   have n2:¬ (9223372036854775807<T.length+1+A.length):=by omega
   have n3:¬ (9223372036854775807<T.length+(A.length+1)+B.length):=by omega
   have n4:¬ (9223372036854775807<T.length+(A.length+B.length+1)+C.length):=by omega
   clear hokk hlen l1 l2 l3;go_upto_region 6 with (fail)
   generalize hW:World.alloc _ _=W;obtain⟨z0,hz,hB⟩:=blocks1 hW;have I2:=Lib.hid (show HX w sa ua sn sc un uc S U wr.heap.size #[.int .i64 x.h,.int .i64 x.s,.int .i64 x.m] 142 W from⟨I1.out.grow hB,z0⟩);clear hW hz hB z0 I1 q0 q1;generalize wr.heap.size=b at *;have J0:=Lib.hid ((I2.out.grow (Below.drew (Below.refl _ _))).cells3)
   go_region_held3 (fun w'=>(w'.cell? ⟨b,0,none⟩=some (.int .i64 x.h)∧w'.cell? ⟨b,1,none⟩=some (.int .i64 x.s)∧w'.cell? ⟨b,2,none⟩=some (.int .i64 x.m))∧HX w sa ua sn sc un uc S U b #[.int .i64 x.h,.int .i64 x.s,.int .i64 x.m] 142 w')
    (first | exact J0.out | (go_split_ands; exact HX.cells3 (HX.grow (by assumption) hb1)) | (go_split_ands; exact⟨⟨by assumption,by assumption,by assumption⟩,by assumption⟩))
    (first | (go_at_call 104; refine(C2.out _).mono ?_; rintro e w' ⟨rfl,rfl⟩) | (go_at_call 103; go_split_ands; have HH := ‹HX _ _ _ _ _ _ _ _ _ _ _ _ _›; refine(C1.out _ HH.h.tab).mono ?_; clear HH; rintro e w4 ⟨rfl,hb1⟩) | (go_at_call 103; go_split_ands; have HH := ‹HX _ _ _ _ _ _ _ _ _ _ _ _ _›; refine(C3.out _ HH.h.tab).mono ?_; clear HH; rintro e w4 ⟨rfl,hb1⟩))
   obtain⟨_,J⟩ := ‹_∧HX w sa ua sn sc un uc S U b _ 142 _›;have HJ:=Lib.hid J;clear J;go_wp2_with fail;exact⟨⟨k+1,hlt,by go_num,by rw [HK.out,HX1.out]; simp,HJ.out.h⟩,by simp [intOf]; omega⟩
  ·obtain rfl:k=sn:=by omega
   have hlen:=seasT_len (S:=S) (n:=k) (fun i hi=>KS.out i (by omega));have HE:=Lib.hid (show hullT S k U un=sousT (seasT S k ++ [10]) U un from rfl);generalize seasT S k=T at *;have n1:¬ (9223372036854775807<T.length+1):=by omega
   go_wp2_with fail;obtain⟨T2,eT⟩:∃ T2,T ++ [10]=T2:=⟨_,rfl⟩
   have hl2:T2.length≤50000:=by rw [← eT]; simp; omega
   have HE2:=Lib.hid (show hullT S k U un=sousT T2 U un from by rw [HE.out,eT]);rw [eT];clear eT n1 hlen HE
   go_loopw [3,6] (fun v i wi => ∃ j:Nat,j≤un∧i = .int .i64 j∧v = .string ⟨(sousT T2 U j).toArray⟩∧HT w sa ua k sc un uc S U wi) (fun _ i _=>un - (intOf i).toNat)
   case atStart=>exact⟨0,Nat.zero_le _,rfl,rfl,I1.out⟩
   case round =>
    clear I1 q0 q1;obtain⟨j,hj,rfl,rfl,h1⟩:=hrel;have I1:=Lib.hid h1;clear h1;have q0:=cellAt I1.out.inv.box 0;have q1:=cellAt I1.out.inv.box 1;simp only [List.getElem?_toArray,List.getElem?_cons_zero,List.getElem?_cons_succ] at q0 q1;by_cases hlt:j<un
    ·have hi:=fun w=>run_indexAt_row (w:=w) (cap:=uc) sounds23 size144 (I1.out.inv.uu.plain (by omega)) hlt
     obtain⟨g0,g1,g2,g3⟩:=I1.out.inv.uu.at hlt;have HK:=Lib.hid (show sousT T2 U (j+1)=sousT T2 U j++souT (U j) from rfl);have hokk:=okU_iff (KU.out j hlt);have hlen:=sousT_len (t:=T2) (U:=U) (n:=j) (fun i hi=>KU.out i (by omega));generalize U j=x at *;have HX1:=Lib.hid (show souT x=Lib.itoa x.d++(32::Lib.itoa x.l)++(32::spanT x.lo x.hi) ++ [10] from rfl);have l1:=itoa_len x.d (by omega);have l2:=itoa_len x.l (by omega);have l3:=spanT_len (lo:=x.lo) (hi:=x.hi) (by omega) (by omega);have C1:=Lib.hid (fun W (h:Tab W)=>number_any x.d W (by omega) h);have C2:=Lib.hid (fun W (h:Tab W)=>number_any x.l W (by omega) h);have C3:=Lib.hid (fun W (h:Tab W)=>span_any x.lo x.hi W (by omega) (by omega) h);generalize Lib.itoa x.d=A at *;generalize Lib.itoa x.l=B at *;generalize spanT x.lo x.hi=D at *;generalize sousT T2 U j=V at *;have n1:¬ (9223372036854775807<V.length+A.length):=by omega
     have n2:¬ (9223372036854775807<V.length+A.length+1):=by omega
     have n3:¬ (9223372036854775807<V.length+(A.length+1)+B.length):=by omega
     have n4:¬ (9223372036854775807<V.length+(A.length+(B.length+1))+1):=by omega
     have n5:¬ (9223372036854775807<V.length+(A.length+(B.length+1+1))+D.length):=by omega
     have n5':¬ (9223372036854775807<V.length+(A.length+(B.length+2))+D.length):=by omega
     have n6:¬ (9223372036854775807<V.length+(A.length+(B.length+(D.length+1)+1))+1):=by omega
     clear hokk hlen l1 l2 l3;go_upto_region 12 with (fail)
     generalize hW:World.alloc _ _=W;obtain⟨z0,hz,hB⟩:=blocks1 hW;have I2:=Lib.hid (show HX w sa ua k sc un uc S U wr.heap.size #[.int .i64 x.d,.int .i64 x.l,.int .i64 x.lo,.int .i64 x.hi] 144 W from⟨I1.out.grow hB,z0⟩);clear hW hz hB z0 I1 q0 q1;generalize wr.heap.size=b at *;have J0:=Lib.hid ((I2.out.grow (Below.drew (Below.refl _ _))).cells4)
     go_region_held3 (fun w'=>(w'.cell? ⟨b,0,none⟩=some (.int .i64 x.d)∧w'.cell? ⟨b,1,none⟩=some (.int .i64 x.l)∧w'.cell? ⟨b,2,none⟩=some (.int .i64 x.lo)∧w'.cell? ⟨b,3,none⟩=some (.int .i64 x.hi))∧HX w sa ua k sc un uc S U b #[.int .i64 x.d,.int .i64 x.l,.int .i64 x.lo,.int .i64 x.hi] 144 w')
      (first | exact J0.out | (go_split_ands; exact HX.cells4 (HX.grow (by assumption) hb1)) | (go_split_ands; exact⟨⟨by assumption,by assumption,by assumption,by assumption⟩,by assumption⟩))
      (first | (go_at_call 105; go_split_ands; have HH := ‹HX _ _ _ _ _ _ _ _ _ _ _ _ _›; refine(C3.out _ HH.h.tab).mono ?_; clear HH; rintro e w4 ⟨rfl,hb1⟩) | (go_at_call 103; go_split_ands; have HH := ‹HX _ _ _ _ _ _ _ _ _ _ _ _ _›; refine(C1.out _ HH.h.tab).mono ?_; clear HH; rintro e w4 ⟨rfl,hb1⟩) | (go_at_call 103; go_split_ands; have HH := ‹HX _ _ _ _ _ _ _ _ _ _ _ _ _›; refine(C2.out _ HH.h.tab).mono ?_; clear HH; rintro e w4 ⟨rfl,hb1⟩))
     obtain⟨_,J⟩ := ‹_∧HX w sa ua k sc un uc S U b _ 144 _›;have HJ:=Lib.hid J;clear J;go_wp2_with fail;exact⟨⟨j+1,hlt,by go_num,by rw [HK.out,HX1.out]; simp,HJ.out.h⟩,by simp [intOf]; omega⟩
    ·obtain rfl:j=un:=by omega
     go_wp2_with fail;go_ret;exact⟨by rw [HE2.out]; rfl,I1.out.inv.bel⟩
end Go.Proofs.YtclbmlmlhiiaeaaGreatDoor
namespace Go.Proofs.YtclbmlmlhiiaeaaGreatDoor
open Go.RowKit
end Go.Proofs.YtclbmlmlhiiaeaaGreatDoor
