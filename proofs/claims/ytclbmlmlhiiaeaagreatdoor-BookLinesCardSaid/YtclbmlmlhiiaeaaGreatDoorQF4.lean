/- Walks: the text of irons, by the reference. Walks: what iron -/
import Derived.Test.YtclbmlmlhiiaeaaGreatDoorQE6
import Derived.Test.YtclbmlmlhiiaeaaGreatDoorQE4
namespace Go.Proofs.YtclbmlmlhiiaeaaGreatDoor
open Go.RowKit
attribute [local go_sem] ba_app List.append_toArray List.length_append
set_option maxRecDepth 100000 in
set_option maxHeartbeats 8000000 in
theorem ironsText_any(x:IronsV)(oa ma sa ca:Option Addr)(oc mc sc cc:Nat)(op sp:Nat→Option Addr)(ok sk:Nat→Nat)(w:World)(hR:IronsAt x oa ma sa ca oc mc sc cc op sp ok sk w)(hok:IrOk x)(ht:Tab w) :
  Calls Tryz.prog 61 #[.agg #[.int .i64 x.f,.slice oa x.on oc,.slice ma x.mn mc,.slice sa x.sn sc,.slice ca x.cn cc]] w fun e w'=>e = .returned (.string ⟨(ironsT x).toArray⟩)∧Below w.heap.size w w':=by
 have OK:=Lib.hid hok;have hb0:=(Below.refl w.heap.size w).alloc (Nat.le_refl _) (.cells #[.int .i64 x.f,.slice oa x.on oc,.slice ma x.mn mc,.slice sa x.sn sc,.slice ca x.cn cc] 34);have I0:=Lib.hid (show IT w x oa ma sa ca oc mc sc cc op sp ok sk (w.alloc (.cells #[.int .i64 x.f,.slice oa x.on oc,.slice ma x.mn mc,.slice sa x.sn sc,.slice ca x.cn cc] 34)) from⟨⟨hb0,heap_alloc_new _ _,hR.grow hb0⟩,ht.grow hb0⟩);clear hR hb0 ht;have lon:=hok.on;have lsn:=hok.sn;have lcn:=hok.cn;have hfl:=itoa_len x.f (by have:=hok.f; omega);have HE:=Lib.hid (show ironsT x=claimsT (strakesT (ownersT (ironH x.f) x x.on) x x.sn) x.claim x.cn from rfl);have HH:=Lib.hid (show ironH x.f = [105,114,111,110,115,32]++Lib.itoa x.f ++ [10] from rfl);have C1:=Lib.hid (fun W (h:Tab W)=>number_any x.f W (by have:=OK.out.f; omega) h);clear hok;go_enter Tryz.func61,Tryz.ntmps61;go_upto_region 1 with (fail)
 generalize hW:World.alloc _ _=W0 at *;obtain⟨q0,q1,q2,q3,q4⟩:=I0.out.inv.cells;clear hW;generalize ironH x.f=T0 at *;generalize Lib.itoa x.f=A at *;have n1:¬ (9223372036854775807<6+A.length):=by omega
 have n2:¬ (9223372036854775807<A.length+1+1+1+1+1+1+1):=by omega
 have n3:¬ (9223372036854775807<A.length+6+1):=by omega
 go_wp2_with (go_at_call 103; refine(C1.out _ I0.out.tab).mono ?_);rintro e w1 ⟨rfl,hb1⟩;have I2:=Lib.hid (I0.out.grow hb1);clear hb1 q0 q1 q2 q3 q4 C1 I0;have hl0:T0.length≤100:=by rw [HH.out]; simp only [List.length_append,List.length_cons,List.length_nil]; omega
 have eT : [105,114,111,110,115,32]++A ++ [10]=T0:=HH.out.symm;simp only [List.cons_append,List.nil_append] at eT;clear hfl;go_wp2_with fail;clear eT
 go_loopw [3,4] (fun v i wi => ∃ k:Nat,k≤x.on∧i = .int .i64 k∧v = .string ⟨(ownersT T0 x k).toArray⟩∧IT w x oa ma sa ca oc mc sc cc op sp ok sk wi) (fun _ i _=>x.on - (intOf i).toNat)
 case atStart=>exact⟨0,Nat.zero_le _,rfl,rfl,I2.out⟩
 case round =>
  clear I2;obtain⟨k,hk,rfl,rfl,h1⟩:=hrel;have I1:=Lib.hid h1;clear h1;obtain⟨q0,q1,q2,q3,q4⟩:=I1.out.inv.cells;by_cases hlt:k<x.on
  ·have hi2:=fun w=>run_indexAt_row (w:=w) (cap:=mc) (n:=x.mn) (k:=k) ints26 size3 (I1.out.inv.rr.m.plain (by have:=OK.out.mn; omega)) (by have:=OK.out.mn; omega)
   simp only [Nat.mul_one] at hi2;have hcm:=I1.out.inv.rr.m.at (k:=k) (by have:=OK.out.mn; omega);have HK:=Lib.hid (show ownersT T0 x (k+1)=numsT (ownersT T0 x k++([111,119,110,101,114,32]++Lib.itoa (x.most k))) (x.own k) (x.ol k) ++ [10] from rfl);have hmb:=OK.out.most k (by have:=OK.out.mn; omega);have hol:=OK.out.ol k hlt;have hof:=OK.out.f;have hol4:x.ol k≤4:=by omega
   have HOL:=Lib.hid hol.2;have hlen:=ownersT_len T0 OK.out k hk;clear hol hof;have hml:=itoa_len (x.most k) (by omega);generalize x.most k=y at *;have C1:=Lib.hid (number_any y wr (by omega) I1.out.tab);generalize ownersT T0 x k=T at *;generalize Lib.itoa y=U at *;have n1:¬ (9223372036854775807<T.length+6):=by omega
   have n2:¬ (9223372036854775807<T.length+6+U.length):=by omega
   go_wp2_with (go_at_call 103; refine C1.out.mono ?_);rintro e w4 ⟨rfl,hb1⟩;have I3:=Lib.hid (I1.out.grow hb1);clear hb1 C1 I1 hcm hi2 q0 q1 q2 q3 q4;obtain⟨V,eV⟩:∃ V,T++([111,119,110,101,114,32]++U)=V:=⟨_,rfl⟩
   have hlV:V.length≤3000:=by rw [← eV]; simp only [List.length_append,List.length_cons,List.length_nil]; omega
   rw [eV] at HK;simp only [List.cons_append,List.nil_append] at eV;clear hlen hml;go_wp2_with fail;clear eV
   go_loopw [3,5] (fun v i wi => ∃ j:Nat,j≤x.ol k∧i = .int .i64 j∧v = .string ⟨(numsT V (x.own k) j).toArray⟩∧IT w x oa ma sa ca oc mc sc cc op sp ok sk wi) (fun _ i _=>x.ol k - (intOf i).toNat)
   case atStart=>exact⟨0,Nat.zero_le _,rfl,rfl,I3.out⟩
   case round =>
    clear I3;obtain⟨j,hj,rfl,rfl,h1⟩:=hrel;have I1:=Lib.hid h1;clear h1;obtain⟨q0,q1,q2,q3,q4⟩:=I1.out.inv.cells;have hi:=fun w=>run_indexAt_row (w:=w) (cap:=oc) owners30 size26 (I1.out.inv.rr.o.plain (by omega)) hlt;simp only [Nat.mul_one] at hi;have hc:=I1.out.inv.rr.o.at1 hlt;by_cases hlj:j<x.ol k
    ·have hi2:=fun w=>run_indexAt_row (w:=w) (cap:=ok k) ints26 size3 ((I1.out.inv.rr.oi k hlt).plain (by omega)) hlj
     simp only [Nat.mul_one] at hi2;have hc2:=(I1.out.inv.rr.oi k hlt).at hlj;have HK2:=Lib.hid (show numsT V (x.own k) (j+1)=numsT V (x.own k) j++(32::Lib.itoa (x.own k j)) from rfl);have hnb:=HOL.out j hlj;have hlen:=numsT_len V (x.own k) j (fun i hi=>HOL.out i (by omega));generalize x.own k j=y at *;have hml:=itoa_len y (by omega);have C1:=Lib.hid (number_any y wr (by omega) I1.out.tab);generalize numsT V (x.own k) j=T2 at *;generalize Lib.itoa y=U at *;have n1:¬ (9223372036854775807<T2.length+1):=by omega
     have n2:¬ (9223372036854775807<T2.length+1+U.length):=by omega
     go_wp2_with (go_at_call 103; refine C1.out.mono ?_);rintro e w4 ⟨rfl,hb1⟩;have I3:=Lib.hid (I1.out.grow hb1);clear hb1 C1 I1 hml hc hi hi2 hc2 hlen;go_wp2_with fail;exact⟨⟨j+1,hlj,by go_num,by rw [HK2.out],I3.out⟩,by simp [intOf]; omega⟩
    ·obtain rfl:x.ol k=j:=by omega
     have hlen:=numsT_len V (x.own k) (x.ol k) (fun i hi=>HOL.out i hi);generalize numsT V (x.own k) (x.ol k)=T2 at *;have n1:¬ (9223372036854775807<T2.length+1):=by omega
     clear hlen;go_wp2_with fail;exact⟨⟨k+1,hlt,by go_num,by rw [HK.out],I1.out⟩,by simp [intOf]; omega⟩
  ·obtain rfl:k=x.on:=by omega
   have hlen:=ownersT_len T0 OK.out x.on (Nat.le_refl _);generalize ownersT T0 x x.on=T1 at *;have hl1:T1.length≤3000:=by omega
   clear hlen;go_wp2_with fail
   go_loopw [3,6] (fun v i wi => ∃ k:Nat,k≤x.sn∧i = .int .i64 k∧v = .string ⟨(strakesT T1 x k).toArray⟩∧IT w x oa ma sa ca oc mc sc cc op sp ok sk wi) (fun _ i _=>x.sn - (intOf i).toNat)
   case atStart=>exact⟨0,Nat.zero_le _,rfl,rfl,I1.out⟩
   case round =>
    clear I1 q0 q1 q2 q3 q4;obtain⟨k,hk,rfl,rfl,h1⟩:=hrel;have I1:=Lib.hid h1;clear h1;obtain⟨q0,q1,q2,q3,q4⟩:=I1.out.inv.cells;by_cases hlt:k<x.sn
    ·have HK:=Lib.hid (show strakesT T1 x (k+1)=marksT (strakesT T1 x k ++ [115,116,114,97,107,101]) (x.mark k) (x.sl k) ++ [10] from rfl)
     have hsl:=OK.out.sl k hlt;have HSL:=Lib.hid hsl.2;have hs6:=hsl.1;have hlen:=strakesT_len T1 OK.out k hk;clear hsl;generalize strakesT T1 x k=T at *;have n1:¬ (9223372036854775807<T.length+6):=by omega
     obtain⟨V,eV⟩:∃ V,T ++ [115,116,114,97,107,101]=V:=⟨_,rfl⟩
     have hlV:V.length≤20000:=by rw [← eV]; simp only [List.length_append,List.length_cons,List.length_nil]; omega
     rw [eV] at HK;clear hlen;go_wp2_with fail;clear eV
     go_loopw [3,7] (fun v i wi => ∃ j:Nat,j≤x.sl k∧i = .int .i64 j∧v = .string ⟨(marksT V (x.mark k) j).toArray⟩∧IT w x oa ma sa ca oc mc sc cc op sp ok sk wi) (fun _ i _=>x.sl k - (intOf i).toNat)
     case atStart=>exact⟨0,Nat.zero_le _,rfl,rfl,I1.out⟩
     case round =>
      clear I1 n1 q0 q1 q2 q3 q4;obtain⟨j,hj,rfl,rfl,h1⟩:=hrel;have I0:=Lib.hid h1;clear h1;obtain⟨q0,q1,q2,q3,q4⟩:=I0.out.inv.cells;have hi:=fun w=>run_indexAt_row (w:=w) (cap:=sc) strakes31 size85 (I0.out.inv.rr.s.plain (by omega)) hlt;simp only [Nat.mul_one] at hi;have hc:=I0.out.inv.rr.s.at1 hlt;by_cases hlj:j<x.sl k
      ·have hi2:=fun w=>run_indexAt_row (w:=w) (cap:=sk k) marks85 size149 ((I0.out.inv.rr.si k hlt).plain (by omega)) hlj
       obtain⟨g0,g1,g2⟩:=(I0.out.inv.rr.si k hlt).at hlj;have HK2:=Lib.hid (show marksT V (x.mark k) (j+1)=marksT V (x.mark k) j++markT (x.mark k j) from rfl);have hmk:=HSL.out j hlj;have hlen:=marksT_len V (x.mark k) j (fun i hi=>HSL.out i (by omega));generalize x.mark k j=y at *;generalize marksT V (x.mark k) j=T2 at *;have HM:=Lib.hid (show markT y=32::Lib.itoa y.f++(61::spanT y.lo y.hi) from rfl);have hml:=itoa_len y.f (by omega);have hsl:=spanT_len (lo:=y.lo) (hi:=y.hi) (by omega) (by omega);have C1:=Lib.hid (fun W (h:Tab W)=>number_any y.f W (by omega) h);have C2:=Lib.hid (fun W (h:Tab W)=>span_any y.lo y.hi W (by omega) (by omega) h);generalize Lib.itoa y.f=A2 at *;generalize spanT y.lo y.hi=D at *;have n1:¬ (9223372036854775807<T2.length+1):=by omega
       have n2:¬ (9223372036854775807<T2.length+1+A2.length):=by omega
       have n3:¬ (9223372036854775807<T2.length+(A2.length+1)+1):=by omega
       have n4:¬ (9223372036854775807<T2.length+(A2.length+1+1)+D.length):=by omega
       clear hml hsl hlen hmk;go_upto_region 19 with (fail)
       generalize hW:World.alloc _ _=W;obtain⟨z0,hz,hB⟩:=blocks1 hW;have I1:=Lib.hid (I0.out.grow hB);have Z2:=Lib.hid (show BoxAt W wr.heap.size #[.int .i64 y.f,.int .i64 y.lo,.int .i64 y.hi] 149 from z0);clear hW hz hB z0 I0 q0 q1 q2 q3 q4 hi hi2 hc g0 g1 g2;generalize wr.heap.size=b at *
       have K0:=Lib.hid (fun W2 (h:IT w x oa ma sa ca oc mc sc cc op sp ok sk W2∧BoxAt W2 b #[.int .i64 y.f,.int .i64 y.lo,.int .i64 y.hi] 149)=>(show(W2.cell? ⟨b,0,none⟩=some (.int .i64 y.f)∧W2.cell? ⟨b,1,none⟩=some (.int .i64 y.lo)∧W2.cell? ⟨b,2,none⟩=some (.int .i64 y.hi))∧IT w x oa ma sa ca oc mc sc cc op sp ok sk W2∧BoxAt W2 b #[.int .i64 y.f,.int .i64 y.lo,.int .i64 y.hi] 149 from
        ⟨⟨cellAt h.2 0,cellAt h.2 1,cellAt h.2 2⟩,h⟩))
       have J0:=Lib.hid (K0.out W.drew ⟨I1.out.grow (Below.drew (Below.refl _ _)),BoxAt.grow Z2.out (Below.drew (Below.refl _ _))⟩)
       go_region_held3 (fun w'=>(w'.cell? ⟨b,0,none⟩=some (.int .i64 y.f)∧w'.cell? ⟨b,1,none⟩=some (.int .i64 y.lo)∧w'.cell? ⟨b,2,none⟩=some (.int .i64 y.hi))∧IT w x oa ma sa ca oc mc sc cc op sp ok sk w'∧BoxAt w' b #[.int .i64 y.f,.int .i64 y.lo,.int .i64 y.hi] 149)
        (first | exact J0.out | (go_split_ands; exact K0.out _ ⟨IT.grow (by assumption) hb1,BoxAt.grow (by assumption) hb1⟩) | (go_split_ands; exact⟨⟨by assumption,by assumption,by assumption⟩,by assumption,by assumption⟩))
        (first | (go_at_call 103; go_split_ands; have HX := ‹IT _ _ _ _ _ _ _ _ _ _ _ _ _ _ _›; with_reducible refine(C1.out _ HX.tab).mono ?_; clear HX; rintro e w4 ⟨rfl,hb1⟩) | (go_at_call 105; go_split_ands; have HX := ‹IT _ _ _ _ _ _ _ _ _ _ _ _ _ _ _›; with_reducible refine(C2.out _ HX.tab).mono ?_; clear HX; rintro e w4 ⟨rfl,hb1⟩))
       obtain⟨_,J,_⟩ := ‹_∧IT w x oa ma sa ca oc mc sc cc op sp ok sk _∧_›;have HJ:=Lib.hid J;clear J;go_wp2_with fail;exact⟨⟨j+1,hlj,by go_num,by rw [HK2.out,HM.out]; simp,HJ.out⟩,by simp [intOf]; omega⟩
      ·obtain rfl:x.sl k=j:=by omega
       have hlen:=marksT_len V (x.mark k) (x.sl k) (fun i hi=>HSL.out i hi);generalize marksT V (x.mark k) (x.sl k)=T2 at *;have n1:¬ (9223372036854775807<T2.length+1):=by omega
       clear hlen;go_wp2_with fail;exact⟨⟨k+1,hlt,by go_num,by rw [HK.out],I0.out⟩,by simp [intOf]; omega⟩
    ·obtain rfl:k=x.sn:=by omega
     have hlen:=strakesT_len T1 OK.out x.sn (Nat.le_refl _);generalize strakesT T1 x x.sn=T2 at *;have hl2:T2.length≤20000:=by omega
     clear hlen;have CL:=Lib.hid OK.out.cl;go_wp2_with fail
     go_loopw [3,9] (fun v i wi => ∃ k:Nat,k≤x.cn∧i = .int .i64 k∧v = .string ⟨(claimsT T2 x.claim k).toArray⟩∧IT w x oa ma sa ca oc mc sc cc op sp ok sk wi) (fun _ i _=>x.cn - (intOf i).toNat)
     case atStart=>exact⟨0,Nat.zero_le _,rfl,rfl,I1.out⟩
     case round =>
      clear I1 q0 q1 q2 q3 q4;obtain⟨k,hk,rfl,rfl,h1⟩:=hrel;have I0:=Lib.hid h1;clear h1;obtain⟨q0,q1,q2,q3,q4⟩:=I0.out.inv.cells;by_cases hlt:k<x.cn
      ·have hi:=fun w=>run_indexAt_row (w:=w) (cap:=cc) claims32 size82 (I0.out.inv.rr.c.plain (by omega)) hlt
       obtain⟨g0,g1,g2⟩:=I0.out.inv.rr.c.at hlt;have HK2:=Lib.hid (show claimsT T2 x.claim (k+1)=claimsT T2 x.claim k++claimT (x.claim k) from rfl);have hcb:=CL.out k hlt;have hlen:=claimsT_len T2 x.claim k (fun i hi=>CL.out i (by omega));generalize x.claim k=y at *;generalize claimsT T2 x.claim k=T3 at *;have HC:=Lib.hid (show claimT y = [99,108,97,105,109,32]++Lib.itoa y.s++(32::(notT y.n++Lib.itoa y.o)) ++ [10] from rfl);have hml:=itoa_len y.s (by omega);have hol:=itoa_len y.o (by omega);have C1:=Lib.hid (fun W (h:Tab W)=>number_any y.s W (by omega) h);have C2:=Lib.hid (fun W (h:Tab W)=>number_any y.o W (by omega) h);generalize Lib.itoa y.s=A2 at *;generalize Lib.itoa y.o=D at *;have n1:¬ (9223372036854775807<T3.length+6):=by omega
       have n2:¬ (9223372036854775807<T3.length+6+A2.length):=by omega
       have n3:¬ (9223372036854775807<T3.length+(A2.length+1+1+1+1+1+1)+1):=by omega
       have n4:¬ (9223372036854775807<T3.length+(A2.length+6)+1):=by omega
       have n5:¬ (9223372036854775807<T3.length+(A2.length+1+1+1+1+1+1+1)+1):=by omega
       have n6:¬ (9223372036854775807<T3.length+(A2.length+1+6)+1):=by omega
       have n7:¬ (9223372036854775807<T3.length+(A2.length+(1+1)+1+1+1+1+1+1)+D.length):=by omega
       have n8:¬ (9223372036854775807<T3.length+(A2.length+(1+1)+6)+D.length):=by omega
       have n9:¬ (9223372036854775807<T3.length+(A2.length+(D.length+1+1)+1+1+1+1+1+1)+1):=by omega
       have n10:¬ (9223372036854775807<T3.length+(A2.length+(D.length+1+1)+6)+1):=by omega
       have m1:¬ (9223372036854775807<T3.length+6):=by omega
       have m2:¬ (9223372036854775807<T3.length+6+A2.length):=by omega
       have m3:¬ (9223372036854775807<T3.length+(A2.length+1+1+1+1+1+1)+1):=by omega
       have m4:¬ (9223372036854775807<T3.length+(A2.length+6)+1):=by omega
       have m5:¬ (9223372036854775807<T3.length+(A2.length+1+1+1+1+1+1+1)+D.length):=by omega
       have m6:¬ (9223372036854775807<T3.length+(A2.length+1+6)+D.length):=by omega
       have m7:¬ (9223372036854775807<T3.length+(A2.length+(D.length+1)+1+1+1+1+1+1)+1):=by omega
       have m8:¬ (9223372036854775807<T3.length+(A2.length+(D.length+1)+6)+1):=by omega
       clear hml hol hlen hcb;go_upto_region 25 with (fail)
       generalize hW:World.alloc _ _=W;obtain⟨z0,hz,hB⟩:=blocks1 hW;have I1:=Lib.hid (I0.out.grow hB);have Z2:=Lib.hid (show BoxAt W wr.heap.size #[.int .i64 y.s,.int .i64 y.o,.bool y.n] 82 from z0);have c0:=cellAt z0 0;simp only [List.getElem?_toArray,List.getElem?_cons_zero] at c0;clear hW hz hB z0 I0 q0 q1 q2 q3 q4 hi g0 g1 g2;go_wp2_with (go_at_call 103; with_reducible refine(C1.out _ I1.out.tab).mono ?_);rintro e w4 ⟨rfl,hb1⟩;have I2:=Lib.hid (I1.out.grow hb1);have Z3:=Lib.hid (BoxAt.grow Z2.out hb1);clear hb1 c0 I1 Z2;have c1:=cellAt Z3.out 1;have c2:=cellAt Z3.out 2;simp only [List.getElem?_toArray,List.getElem?_cons_zero,List.getElem?_cons_succ] at c1 c2;have HNT:=Lib.hid (show notT y.n=if y.n then [33] else [] from rfl);generalize notT y.n=N at *;generalize y.n=b at *
       cases b with
       | true =>
        obtain rfl:N = [33]:=HNT.out;go_wp2_with (go_at_call 103; with_reducible refine(C2.out _ I2.out.tab).mono ?_);rintro e w5 ⟨rfl,hb1⟩;have I3:=Lib.hid (I2.out.grow hb1);clear hb1 C1 I2 c1 c2;go_wp2_with fail;exact⟨⟨k+1,hlt,by go_num,by rw [HK2.out,HC.out]; simp,I3.out⟩,by simp [intOf]; omega⟩
       | false =>
        obtain rfl:N = []:=HNT.out;go_wp2_with (go_at_call 103; with_reducible refine(C2.out _ I2.out.tab).mono ?_);rintro e w5 ⟨rfl,hb1⟩;have I3:=Lib.hid (I2.out.grow hb1);clear hb1 C1 I2 c1 c2;go_wp2_with fail;exact⟨⟨k+1,hlt,by go_num,by rw [HK2.out,HC.out]; simp,I3.out⟩,by simp [intOf]; omega⟩
      ·obtain rfl:k=x.cn:=by omega
       go_wp2_with fail;go_ret;exact⟨by rw [HE.out]; rfl,I0.out.inv.bel⟩
end Go.Proofs.YtclbmlmlhiiaeaaGreatDoor
namespace Go.Proofs.YtclbmlmlhiiaeaaGreatDoor
open Go.RowKit
end Go.Proofs.YtclbmlmlhiiaeaaGreatDoor
