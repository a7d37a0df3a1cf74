/- Walks: the text of irons, by the reference. Walks: what iron -/
import Derived.Test.YtclbmlmlhiiaeaaGreatDoorQE6
import Derived.Test.YtclbmlmlhiiaeaaGreatDoorQE4
namespace Go.Proofs.YtclbmlmlhiiaeaaGreatDoor
open Go.RowKit
attribute [local go_sem] ba_app List.append_toArray List.length_append
set_option maxRecDepth 100000 in
set_option maxHeartbeats 8000000 in
theorem ironsText_any(x:IronsV)(oa ma sa ca:Option Addr)(oc mc sc cc:Nat)(op sp:Nat→Option Addr)(ok sk:Nat→Nat)(w:World)(hR:IronsAt x oa ma sa ca oc mc sc cc op sp ok sk w)(hok:IrOk x)(ht:Tab w) :
  Calls Tryz.prog 61 #[.agg #[.int .i64 x.f,.slice oa x.on oc,.slice ma x.mn mc,.slice sa x.sn sc,.slice ca x.cn cc]] w fun e w'=>e = .returned (.string ⟨(ironsT x).toArray⟩)∧Below w.heap.size w w':=by
 have OK:=Lib.hid hok;have hb0:=(Below.refl w.heap.size w).alloc (Nat.le_refl _) (.cells #[.int .i64 x.f,.slice oa x.on oc,.slice ma x.mn mc,.slice sa x.sn sc,.slice ca x.cn cc] 34);have I0:=Lib.hid (show IT w x oa ma sa ca oc mc sc cc op sp ok sk (w.alloc (.cells #[.int .i64 x.f,.slice oa x.on oc,.slice ma x.mn mc,.slice sa x.sn sc,.slice ca x.cn cc] 34)) from⟨⟨hb0,heap_alloc_new _ _,hR.grow hb0⟩,ht.grow hb0⟩);clear hR hb0 ht;have lon:=hok.on;have lsn:=hok.sn;have lcn:=hok.cn;have hfl:=itoa_len x.f (by have:=hok.f; omega);have HE:=Lib.hid (show ironsT x=claimsT (strakesT (ownersT (ironH x.f) x x.on) x x.sn) x.claim x.cn from rfl);have HH:=Lib.hid (show ironH x.f = [105,114,111,110,115,32]++Lib.itoa x.f ++ [10] from rfl);have C1:=Lib.hid (fun W (h:Tab W)=>number_any x.f W (by have:=OK.out.f; omega) h);clear hok;go_enter Tryz.func61,Tryz.ntmps61;go_upto_region 1 with (fail)
 generalize hW:World.alloc _ _=W0 at *;obtain⟨q0,q1,q2,q3,q4⟩:=I0.out.inv.cells;clear hW;generalize ironH x.f=T0 at *;generalize Lib.itoa x.f=A at *;have n1:¬ (9223372036854775807<6+A.length):=by omega
 have n2:¬ (9223372036854775807<A.length+1+1+1+1+1+1+1):=by omega
 have n3:¬ (9223372036854775807<A.length+6+1):=by omega
 go_wp2_with (go_at_call 103; refine(C1.out _ I0.out.tab).mono ?_);rintro e w1 ⟨rfl,hb1⟩;have I2:=Lib.hid (I0.out.grow hb1);clear hb1 q0 q1 q2 q3 q4 C1 I0;have hl0:T0.length≤100:=by rw [HH.out]; simp only [List.length_append,List.length_cons,List.length_nil]; omega
 have eT : [105,114,111,110,115,32]++A ++ [10]=T0:=HH.out.symm;simp only [List.cons_append,List.nil_append] at eT;clear hfl;go_wp2_with fail;clear eT
 go_loopw [3,4] (fun v i wi => ∃ k:Nat,k≤x.on∧i = .int .i64 k∧v = .string ⟨(ownersT T0 x k).toArray⟩∧IT w x oa ma sa ca oc mc sc cc op sp ok sk wi) (fun _ i _=>x.on - (intOf i).toNat)
 case atStart=>exact⟨0,Nat.zero_le _,rfl,rfl,I2.out⟩
 case round =>
  clear I2;obtain⟨k,hk,rfl,rfl,h1⟩:=hrel;have I1:=Lib.hid h1;clear h1;obtain⟨q0,q1,q2,q3,q4⟩:=I1.out.inv.cells;by_cases hlt:k<x.on
  ·have hi2:=fun w=>run_indexAt_row (w:=w) (cap:=mc) (n:=x.mn) (k:=k) ints26 size3 (I1.out.inv.rr.m.plain (by have:=OK.out.mn; omega)) (by have:=OK.out.mn; omega)
   simp only [Nat.mul_one] at hi2;have hcm:=I1.out.inv.rr.m.at (k:=k) (by have:=OK.out.mn; omega);have HK:=Lib.hid (show ownersT T0 x (k+1)=numsT (ownersT T0 x k++([111,119,110,101,114,32]++Lib.itoa (x.most k))) (x.own k) (x.ol k) ++ [10] from rfl);have hmb:=OK.out.most k (by have:=OK.out.mn; omega);have hol:=OK.out.ol k hlt;have hof:=OK.out.f;have hol4:x.ol k≤4:=by omega
   have HOL:=Lib.hid hol.2;have hlen:=ownersT_len T0 OK.out k hk;clear hol hof;have hml:=itoa_len (x.most k) (by omega);generalize x.most k=y at *;have C1:=Lib.hid (number_any y wr (by omega) I1.out.tab);generalize ownersT T0 x k=T at *;generalize Lib.itoa y=U at *;have n1:¬ (9223372036854775807<T.length+6):=by omega
   have n2:¬ (9223372036854775807<T.length+6+U.length):=by omega
   go_wp2_with (go_at_call 103; refine C1.out.mono ?_);rintro e w4 ⟨rfl,hb1⟩;have I3:=Lib.hid (I1.out.grow hb1);clear hb1 C1 I1 hcm hi2 q0 q1 q2 q3 q4;obtain⟨V,eV⟩:∃ V,T++([111,119,110,101,114,32]++U)=V:=⟨_,rfl⟩
   have hlV:V.length≤3000:=by rw [← eV]; simp only [List.length_append,List.length_cons,List.length_nil]; omega
   rw [eV] at HK;simp only [List.cons_append,List.nil_append] at eV;clear hlen hml;go_wp2_with fail;clear eV
   go_loopw [3,5] (fun v i wi => ∃ j:Nat,j≤x.ol k∧i = .int .i64 j∧v = .string ⟨(numsT V (x.own k) j).toArray⟩∧IT w x oa ma sa ca oc mc sc cc op sp ok sk wi) (fun _ i _=>x.ol k - (intOf i).toNat)
   case atStart=>exact⟨0,Nat.zero_le _,rfl,rfl,I3.out⟩
   case round =>
    clear I3;obtain⟨j,hj,rfl,rfl,h1⟩:=hrel;have I1:=Lib.hid h1;clear h1;obtain⟨q0,q1,q2,q3,q4⟩:=I1.out.inv.cells;have hi:=fun w=>run_indexAt_row (w:=w) (cap:=oc) owners30 size26 (I1.out.inv.rr.o.plain (by omega)) hlt;simp only [Nat.mul_one] at hi;have hc:=I1.out.inv.rr.o.at1 hlt;by_cases hlj:j<x.ol k
    ·have hi2:=fun w=>run_indexAt_row (w:=w) (cap:=ok k) ints26 size3 ((I1.out.inv.rr.oi k hlt).plain (by omega)) hlj
     simp only [Nat.mul_one] at hi2;have hc2:=(I1.out.inv.rr.oi k hlt).at hlj;have HK2:=Lib.hid (show numsT V (x.own k) (j+1)=numsT V (x.own k) j++(32::Lib.itoa (x.own k j)) from rfl);have hnb:=HOL.out j hlj;have hlen:=numsT_len V (x.own k) j (fun i hi=>HOL.out i (by omega));generalize x.own k j=y at *;have hml:=itoa_len y (by omega);have C1:=Lib.hid (number_any y wr (by omega) I1.out.tab);generalize numsT V (x.own k) j=T2 at *;generalize Lib.itoa y=U at *;have n1:¬ (9223372036854775807<T2.length+1):=by omega
     have n2:¬ (9223372036854775807<T2.length+1+U.length):=by omega
     go_wp2_with (go_at_call 103; refine C1.out.mono ?_);rintro e w4 ⟨rfl,hb1⟩;have I3:=Lib.hid (I1.out.grow hb1);clear hb1 C1 I1 hml hc hi hi2 hc2 hlen;go_wp2_with fail;exact⟨⟨j+1,hlj,by go_num,by rw [HK2.out],I3.out⟩,by simp [intOf]; omega⟩
    ·obtain rfl:x.ol k=j:=by omega
     have hlen:=numsT_len V (x.own k) (x.ol k) (fun i hi=>HOL.out i hi);generalize numsT V (x.own k) (x.ol k)=T2 at *;have n1:¬ (9223372036854775807<T2.length+1):=by omega
     clear hlen;go_wp2_with fail;exact⟨⟨k+1,hlt,by go_num,by rw [HK.out],I1.out⟩,by simp [intOf]; omega⟩
  ·obtain rfl:k=x.on:=by omega
   have hlen:=ownersT_len T0 OK.out x.on (Nat.le_refl _);generalize ownersT T0 x x.on=T1 at *;have hl1:T1.length≤3000:=by omega
   clear hlen;go_wp2_with fail
   go_loopw [3,6] (fun v i wi => ∃ k:Nat,k≤x.sn∧i = .int .i64 k∧v = .string ⟨(strakesT T1 x k).toArray⟩∧IT w x oa ma sa ca oc mc sc cc op sp ok sk wi) (fun _ i _=>x.sn - (intOf i).toNat)
   case atStart=>exact⟨0,Nat.zero_le _,rfl,rfl,I1.out⟩
   case round =>
    clear I1 q0 q1 q2 q3 q4;obtain⟨k,hk,rfl,rfl,h1⟩:=hrel;have I1:=Lib.hid h1;clear h1;obtain⟨q0,q1,q2,q3,q4⟩:=I1.out.inv.cells;by_cases hlt:k<x.sn
    ·have HK:=Lib.hid (show strakesT T1 x (k+1)=marksT (strakesT T1 x k ++ [115,116,114,97,107,101]) (x.mark k) (x.sl k) ++ [10] from rfl)
     have hsl:=OK.out.sl k hlt;have HSL:=Lib.hid hsl.2;have hs6:=hsl.1;have hlen:=strakesT_len T1 OK.out k hk;clear hsl;generalize strakesT T1 x k=T at *;have n1:¬ (9223372036854775807<T.length+6):=by omega
     obtain⟨V,eV⟩:∃ V,T ++ [115,116,114,97,107,101]=V:=⟨_,rfl⟩
     have hlV:V.length≤20000:=by rw [← eV]; simp only [List.length_append,List.length_cons,List.length_nil]; omega
     rw [eV] at HK;clear hlen;go_wp2_with fail;clear eV
     go_loopw [3,7] (fun v i wi => ∃ j:Nat,j≤x.sl k∧i = .int .i64 j∧v = .string ⟨(marksT V (x.mark k) j).toArray⟩∧IT w x oa ma sa ca oc mc sc cc op sp ok sk wi) (fun _ i _=>x.sl k - (intOf i).toNat)
     case atStart=>exact⟨0,Nat.zero_le _,rfl,rfl,I1.out⟩
     case round =>
      clear I1 n1 q0 q1 q2 q3 q4;obtain⟨j,hj,rfl,rfl,h1⟩:=hrel;have I0:=Lib.hid h1;clear h1;obtain⟨q0,q1,q2,q3,q4⟩:=I0.out.inv.cells;have hi:=fun w=>run_indexAt_row (w:=w) (cap:=sc) strakes31 size85 (I0.out.inv.rr.s.plain (by omega)) hlt;simp only [Nat.mul_one] at hi;have hc:=I0.out.inv.rr.s.at1 hlt;by_cases hlj:j<x.sl k
      ·have hi2:=fun w=>run_indexAt_row (w:=w) (cap:=sk k) marks85 size149 ((I0.out.inv.rr.si k hlt).plain (by omega)) hlj
       obtain⟨g0,g1,g2⟩:=(I0.out.inv.rr.si k hlt).at hlj;have HK2:=Lib.hid (show marksT V (x.mark k) (j+1)=marksT V (x.mark k) j++markT (x.mark k j) from rfl);have hmk:=HSL.out j hlj;have hlen:=marksT_len V (x.mark k) j (fun i hi=>HSL.out i (by omega));generalize x.mark k j=y at *;generalize marksT V (x.mark k) j=T2 at *;have HM:=Lib.hid (show markT y=32::Lib.itoa y.f++(61::spanT y.lo y.hi) from rfl);have hml:=itoa_len y.f (by omega);have hsl:=spanT_len (lo:=y.lo) (hi:=y.hi) (by omega) (by omega);have C1:=Lib.hid (fun W (h:Tab W)=>number_any y.f W (by omega) h);have C2:=Lib.hid (fun W (h:Tab W)=>span_any y.lo y.hi W (by omega) (by omega) h);generalize Lib.itoa y.f=A2 at *;generalize spanT y.lo y.hi=D at *;have n1:¬ (9223372036854775807<T2.length+1):=by omega
       have n2:¬ (9223372036854775807<T2.length+1+A2.length):=by omega
       have n3:¬ (9223372036854775807<T2.length+(A2.length+1)+1):=by omega
       have n4:¬ (9223372036854775807<T2.length+(A2.length+1+1)+D.length):=by omega
       clear hml hsl hlen hmk;go_upto_region 19 with (fail)
       generalize hW:World.alloc _ _=W;obtain⟨z0,hz,hB⟩:=blocks1 hW;have I1:=Lib.hid (I0.out.grow hB);have Z2:=Lib.hid (show BoxAt W wr.heap.size #[.int .i64 y.f,.int .i64 y.lo,.int .i64 y.hi] 149 from z0);clear hW hz hB z0 I0 q0 q1 q2 q3 q4 hi hi2 hc g0 g1 g2;generalize wr.heap.size=b at *
       have K0:=Lib.hid (fun W2 (h:IT w x oa ma sa ca oc mc sc cc op sp ok sk W2∧BoxAt W2 b #[.int .i64 y.f,.int .i64 y.lo,.int .i64 y.hi] 149)=>(show(W2.cell? ⟨b,0,none⟩=some (.int .i64 y.f)∧W2.cell? ⟨b,1,none⟩=some (.int .i64 y.lo)∧W2.cell? ⟨b,2,none⟩=some (.int .i64 y.hi))∧IT w x oa ma sa ca oc mc sc cc op sp ok sk W2∧BoxAt W2 b #[.int .i64 y.f,.int .i64 y.lo,.int .i64 y.hi] 149 from
        ⟨⟨cellAt h.2 0,cellAt h.2 1,cellAt h.2 2⟩,h⟩))
       have J0:=Lib.hid (K0.out W.drew ⟨I1.out.grow (Below.drew (Below.refl _ _)),BoxAt.grow Z2.out (Below.drew (Below.refl _ _))⟩)
       go_region_held3 (fun w'=>(w'.cell? ⟨b,0,none⟩=some (.int .i64 y.f)∧w'.cell? ⟨b,1,none⟩=some (.int .i64 y.lo)∧w'.cell? ⟨b,2,none⟩=some (.int .i64 y.hi))∧IT w x oa ma sa ca oc mc sc cc op sp ok sk w'∧BoxAt w' b #[.int .i64 y.f,.int .i64 y.lo,.int .i64 y.hi] 149)
        (first | exact J0.out | (go_split_ands; exact K0.out _ ⟨IT.grow (by assumption) hb1,BoxAt.grow (by assumption) hb1⟩) | (go_split_ands; exact⟨⟨by assumption,by assumption,by assumption⟩,by assumption,by assumption⟩))
        (first | (go_at_call 103; go_split_ands; have HX := ‹IT _ _ _ _ _ _ _ _ _ _ _ _ _ _ _›; with_reducible refine(C1.out _ HX.tab).mono ?_; clear HX; rintro e w4 ⟨rfl,hb1⟩) | (go_at_call 105; go_split_ands; have HX := ‹IT _ _ _ _ _ _ _ _ _ _ _ _ _ _ _›; with_reducible refine(C2.out _ HX.tab).mono ?_; clear HX; rintro e w4 ⟨rfl,hb1⟩))
       obtain⟨_,J,_⟩ := ‹_∧IT w x oa ma sa ca oc mc sc cc op sp ok sk _∧_›;have HJ:=Lib.hid J;clear J;go_wp2_with fail;exact⟨⟨j+1,hlj,by go_num,by rw [HK2.out,HM.out]; simp,HJ.out⟩,by simp [intOf]; omega⟩
      ·obtain rfl:x.sl k=j:=by omega
       have hlen:=marksT_len V (x.mark k) (x.sl k) (fun i hi=>HSL.out i hi);generalize marksT V (x.mark k) (x.sl k)=T2 at *;have n1:¬ (9223372036854775807<T2.length+1):=by omega
       clear hlen;go_wp2_with fail;exact⟨⟨k+1,hlt,by go_num,by rw [HK.out],I0.out⟩,by simp [intOf]; omega⟩
    ·obtain rfl:k=x.sn:=by omega
     have hlen:=strakesT_len T1 OK.out x.sn (Nat.le_refl _);generalize strakesT T1 x x.sn=T2 at *;have hl2:T2.length≤20000:=by omega
     clear hlen;have CL:=Lib.hid OK.out.cl;go_wp2_with fail
     go_loopw [3,9] (fun v i wi => ∃ k:Nat,k≤x.cn∧i = .int .i64 k∧v = .string ⟨(claimsT T2 x.claim k).toArray⟩∧IT w x oa ma sa ca oc mc sc cc op sp ok sk wi) (fun _ i _=>x.cn - (intOf i).toNat)
     case atStart=>exact⟨0,Nat.zero_le _,rfl,rfl,I1.out⟩
     case round =>
      clear I1 q0 q1 q2 q3 q4;obtain⟨k,hk,rfl,rfl,h1⟩:=hrel;have I0:=Lib.hid h1;clear h1;obtain⟨q0,q1,q2,q3,q4⟩:=I0.out.inv.cells;by_cases hlt:k<x.cn
      ·have hi:=fun w=>run_indexAt_row (w:=w) (cap:=cc) claims32 size82 (I0.out.inv.rr.c.plain (by omega)) hlt
       obtain⟨g0,g1,g2⟩:=I0.out.inv.rr.c.at hlt;have HK2:=Lib.hid (show claimsT T2 x.claim (k+1)=claimsT T2 x.claim k++claimT (x.claim k) from rfl);have hcb:=CL.out k hlt;have hlen:=claimsT_len T2 x.claim k (fun i hi=>CL.out i (by omega));generalize x.claim k=y at *;generalize claimsT T2 x.claim k=T3 at *;have HC:=Lib.hid (show claimT y = [99,108,97,105,109,32]++Lib.itoa y.s++(32::(notT y.n++Lib.itoa y.o)) ++ [10] from rfl);have hml:=itoa_len y.s (by omega);have hol:=itoa_len y.o (by omega);have C1:=Lib.hid (fun W (h:Tab W)=>number_any y.s W (by omega) h);have C2:=Lib.hid (fun W (h:Tab W)=>number_any y.o W (by omega) h);generalize Lib.itoa y.s=A2 at *;generalize Lib.itoa y.o=D at *;have n1:¬ (9223372036854775807<T3.length+6):=by omega
       have n2:¬ (9223372036854775807<T3.length+6+A2.length):=by omega
       have n3:¬ (9223372036854775807<T3.length+(A2.length+1+1+1+1+1+1)+1):=by omega
       have n4:¬ (9223372036854775807<T3.length+(A2.length+6)+1):=by omega
       have n5:¬ (9223372036854775807<T3.length+(A2.length+1+1+1+1+1+1+1)+1):=by omega
       have n6:¬ (9223372036854775807<T3.length+(A2.length+1+6)+1):=by omega
       have n7:¬ (9223372036854775807<T3.length+(A2.length+(1+1)+1+1+1+1+1+1)+D.length):=by omega
       have n8:¬ (9223372036854775807<T3.length+(A2.length+(1+1)+6)+D.length):=by omega
       have n9:¬ (9223372036854775807<T3.length+(A2.length+(D.length+1+1)+1+1+1+1+1+1)+1):=by omega
       have n10:¬ (9223372036854775807<T3.length+(A2.length+(D.length+1+1)+6)+1):=by omega
       have m1:¬ (9223372036854775807<T3.length+6):=by omega
       have m2:¬ (9223372036854775807<T3.length+6+A2.length):=by omega
       have m3:¬ (9223372036854775807<T3.length+(A2.length+1+1+1+1+1+1)+1):=by omega
       have m4:¬ (9223372036854775807<T3.length+(A2.length+6)+1):=by omega
       have m5:¬ (9223372036854775807<T3.length+(A2.length+1+1+1+1+1+1+1)+D.length):=by omega
       have m6:¬ (9223372036854775807<T3.length+(A2.length+1+6)+D.length):=by omega
       have m7:¬ (9223372036854775807<T3.length+(A2.length+(D.length+1)+1+1+1+1+1+1)+1):=by omega
       have m8:¬ (9223372036854775807<T3.length+(A2.length+(D.length+1)+6)+1):=by omega
       clear hml hol hlen hcb;go_upto_region 25 with (fail)
       generalize hW:World.alloc _ _=W;obtain⟨z0,hz,hB⟩:=blocks1 hW;have I1:=Lib.hid (I0.out.grow hB);have Z2:=Lib.hid (show BoxAt W wr.heap.size #[.int .i64 y.s,.int .i64 y.o,.bool y.n] 82 from z0);have c0:=cellAt z0 0;simp only [List.getElem?_toArray,List.getElem?_cons_zero] at c0;clear hW hz hB z0 I0 q0 q1 q2 q3 q4 hi g0 g1 g2;go_wp2_with (go_at_call 103; with_reducible refine(C1.out _ I1.out.tab).mono ?_);rintro e w4 ⟨rfl,hb1⟩;have I2:=Lib.hid (I1.out.grow hb1);have Z3:=Lib.hid (BoxAt.grow Z2.out hb1);clear hb1 c0 I1 Z2;have c1:=cellAt Z3.out 1;have c2:=cellAt Z3.out 2;simp only [List.getElem?_toArray,List.getElem?_cons_zero,List.getElem?_cons_succ] at c1 c2;have HNT:=Lib.hid (show notT y.n=if y.n then [33] else [] from rfl);generalize notT y.n=N at *;generalize y.n=b at *
       cases b with
       | true =>
        obtain rfl:N = [33]:=HNT.out;go_wp2_with (go_at_call 103; with_reducible refine(C2.out _ I2.out.tab).mono ?_);rintro e w5 ⟨rfl,hb1⟩;have I3:=Lib.hid (I2.out.grow hb1);clear hb1 C1 I2 c1 c2;go_wp2_with fail;exact⟨⟨k+1,hlt,by go_num,by rw [HK2.out,HC.out]; simp,I3.out⟩,by simp [intOf]; omega⟩
       | false =>
        obtain rfl:N = []:=HNT.out;go_wp2_with (go_at_call 103; with_reducible refine(C2.out _ I2.out.tab).mono ?_);rintro e w5 ⟨rfl,hb1⟩;have I3:=Lib.hid (I2.out.grow hb1);clear hb1 C1 I2 c1 c2;go_wp2_with fail;exact⟨⟨k+1,hlt,by go_num,by rw [HK2.out,HC.out]; simp,I3.out⟩,by simp [intOf]; omega⟩
      ·obtain rfl:k=x.cn:=by omega
       go_wp2_with fail;go_ret;exact⟨by rw [HE.out]; rfl,I0.out.inv.bel⟩
end Go.Proofs.YtclbmlmlhiiaeaaGreatDoor
namespace Go.Proofs.YtclbmlmlhiiaeaaGreatDoor
open Go.RowKit
theorem in89_q(n lo hi:Int)(w:World):Calls Tryz.prog 89 #[.int .i64 n,.int .i64 lo,.int .i64 hi] w fun e w'=>e = .returned (.bool (inB n lo hi))∧w'=w :=
 (in89_any n lo hi w).mono fun _ _ h=>⟨h.1,h.2.symm⟩
theorem irons_noO{x:IronsV}{k:Nat}(hk:k<x.on)(h:okO x k=false):false=ironsB x:=by
 symm
 rw [← Bool.not_eq_true];intro e;unfold ironsB at e;simp only [Bool.and_eq_true] at e;have:=allB_iff.1 e.1.1.1.2 k hk;simp [h] at this
theorem irons_noM{x:IronsV}{k:Nat}(hk:k<x.mn)(h:inB (x.most k) 0 6=false):false=ironsB x:=by
 symm
 rw [← Bool.not_eq_true];intro e;unfold ironsB at e;simp only [Bool.and_eq_true] at e;have:=allB_iff.1 e.1.1.2 k hk;simp [h] at this
theorem irons_noK{x:IronsV}{k:Nat}(hk:k<x.sn)(h:okK x k=false):false=ironsB x:=by
 symm
 rw [← Bool.not_eq_true];intro e;unfold ironsB at e;simp only [Bool.and_eq_true] at e;have:=allB_iff.1 e.1.2 k hk;simp [h] at this
theorem irons_noC{x:IronsV}{k:Nat}(hk:k<x.cn)(h:okC x.sn x.on (x.claim k)=false):false=ironsB x:=by
 symm
 rw [← Bool.not_eq_true];intro e;unfold ironsB at e;simp only [Bool.and_eq_true] at e;have:=allB_iff.1 e.2 k hk;simp [h] at this
theorem okO_no{x:IronsV}{i j:Nat}(hj:j<x.ol i)(h:inB (x.own i j) 0 9=false):okO x i=false:=by
 rw [← Bool.not_eq_true];intro e;unfold okO at e;simp only [Bool.and_eq_true] at e;have:=allB_iff.1 e.2 j hj;simp [h] at this
theorem okK_no{x:IronsV}{i j:Nat}(hj:j<x.sl i)(h:okM x.f (x.mark i j)=false):okK x i=false:=by
 rw [← Bool.not_eq_true];intro e;unfold okK at e;simp only [Bool.and_eq_true] at e;have:=allB_iff.1 e.2 j hj;simp [h] at this
set_option maxHeartbeats 1000000 in
theorem strake90_any(f:Value)(n:Int)(oa ma sa ca:Option Addr)(on oc mn mc sn sc cn cc:Nat)(w:World)(hs:sn≤100) :
  Calls Tryz.prog 90 #[.agg #[f,.slice oa on oc,.slice ma mn mc,.slice sa sn sc,.slice ca cn cc],.int .i64 n] w fun e w'=>e = .returned (.bool (inB n 0 ((sn:Int) - 1)))∧Below w.heap.size w w':=by
 have hb:=(Below.refl w.heap.size w).alloc (Nat.le_refl _) (.cells #[f,.slice oa on oc,.slice ma mn mc,.slice sa sn sc,.slice ca cn cc] 34);have B0:=Lib.hid hb;clear hb;go_enter Tryz.func90,Tryz.ntmps90;go_wp2_with (go_at_call 89; refine(in89_any _ _ _ _).mono ?_; rintro e w' ⟨rfl,rfl⟩);go_ret;exact⟨rfl,B0.out⟩
set_option maxHeartbeats 1000000 in
theorem owner91_any(f:Value)(n:Int)(oa ma sa ca:Option Addr)(on oc mn mc sn sc cn cc:Nat)(w:World)(hs:on≤100) :
  Calls Tryz.prog 91 #[.agg #[f,.slice oa on oc,.slice ma mn mc,.slice sa sn sc,.slice ca cn cc],.int .i64 n] w fun e w'=>e = .returned (.bool (inB n 0 ((on:Int) - 1)))∧Below w.heap.size w w':=by
 have hb:=(Below.refl w.heap.size w).alloc (Nat.le_refl _) (.cells #[f,.slice oa on oc,.slice ma mn mc,.slice sa sn sc,.slice ca cn cc] 34);have B0:=Lib.hid hb;clear hb;go_enter Tryz.func91,Tryz.ntmps91;go_wp2_with (go_at_call 89; refine(in89_any _ _ _ _).mono ?_; rintro e w' ⟨rfl,rfl⟩);go_ret;exact⟨rfl,B0.out⟩
set_option maxRecDepth 100000 in
set_option maxHeartbeats 8000000 in
theorem irons43_any(x:IronsV)(oa ma sa ca:Option Addr)(oc mc sc cc:Nat)(op sp:Nat→Option Addr)(ok sk:Nat→Nat)(w:World)(hR:IronsAt x oa ma sa ca oc mc sc cc op sp ok sk w) :
  Calls Tryz.prog 43 #[.agg #[.int .i64 x.f,.slice oa x.on oc,.slice ma x.mn mc,.slice sa x.sn sc,.slice ca x.cn cc]] w fun e w'=>e = .returned (.bool (ironsB x))∧Below w.heap.size w w':=by
 have l1:=hR.o.small;have l2:=hR.m.small;have l3:=hR.s.small;have l4:=hR.c.small;unfold maxLen at l1 l2 l3 l4;have hb0:=(Below.refl w.heap.size w).alloc (Nat.le_refl _) (.cells #[.int .i64 x.f,.slice oa x.on oc,.slice ma x.mn mc,.slice sa x.sn sc,.slice ca x.cn cc] 34);have I0:=Lib.hid (show II w x oa ma sa ca oc mc sc cc op sp ok sk (w.alloc (.cells #[.int .i64 x.f,.slice oa x.on oc,.slice ma x.mn mc,.slice sa x.sn sc,.slice ca x.cn cc] 34)) from⟨hb0,heap_alloc_new _ _,hR.grow hb0⟩);clear hR hb0;go_enter Tryz.func43,Tryz.ntmps43;go_upto_region 1 with (fail)
 generalize hW:World.alloc _ _=W0 at *;obtain⟨q0,q1,q2,q3,q4⟩:=I0.out.cells;clear hW;by_cases h1:inB x.f 0 4=true
 case neg =>
  have HN:=Lib.hid (show false=ironsB x from by
   symm
   rw [← Bool.not_eq_true];intro e;unfold ironsB headI at e;simp only [Bool.and_eq_true,decide_eq_true_eq,beq_iff_eq] at e
   exact h1 (by first | exact e.1.1.1.1.1.1.1.1 | exact e.1.1.1.1.1.1.1.2 | exact e.1.1.1.1.1.1.2 | exact e.1.1.1.1.1.2 | exact e.1.1.1.1.2))
  have t0:inB x.f 0 4=false:=by simpa using h1
  go_wp2_with (go_at_call 89; refine(in89_any _ _ _ _).mono ?_; rintro e w' ⟨rfl,rfl⟩)
  all_goals (go_ret; exact⟨ret_bool HN.out,I0.out.bel⟩)
 by_cases h2:(x.on:Int)≤5
 case neg =>
  have HN:=Lib.hid (show false=ironsB x from by
   symm
   rw [← Bool.not_eq_true];intro e;unfold ironsB headI at e;simp only [Bool.and_eq_true,decide_eq_true_eq,beq_iff_eq] at e
   exact h2 (by first | exact e.1.1.1.1.1.1.1.1 | exact e.1.1.1.1.1.1.1.2 | exact e.1.1.1.1.1.1.2 | exact e.1.1.1.1.1.2 | exact e.1.1.1.1.2))
  skip
  go_wp2_with (go_at_call 89; refine(in89_any _ _ _ _).mono ?_; rintro e w' ⟨rfl,rfl⟩)
  all_goals (go_ret; exact⟨ret_bool HN.out,I0.out.bel⟩)
 by_cases h3:(x.mn:Int)=(x.on:Int)
 case neg =>
  have HN:=Lib.hid (show false=ironsB x from by
   symm
   rw [← Bool.not_eq_true];intro e;unfold ironsB headI at e;simp only [Bool.and_eq_true,decide_eq_true_eq,beq_iff_eq] at e
   exact h3 (by first | exact e.1.1.1.1.1.1.1.1 | exact e.1.1.1.1.1.1.1.2 | exact e.1.1.1.1.1.1.2 | exact e.1.1.1.1.1.2 | exact e.1.1.1.1.2))
  skip
  go_wp2_with (go_at_call 89; refine(in89_any _ _ _ _).mono ?_; rintro e w' ⟨rfl,rfl⟩)
  all_goals (go_ret; exact⟨ret_bool HN.out,I0.out.bel⟩)
 by_cases h4:(x.sn:Int)≤6
 case neg =>
  have HN:=Lib.hid (show false=ironsB x from by
   symm
   rw [← Bool.not_eq_true];intro e;unfold ironsB headI at e;simp only [Bool.and_eq_true,decide_eq_true_eq,beq_iff_eq] at e
   exact h4 (by first | exact e.1.1.1.1.1.1.1.1 | exact e.1.1.1.1.1.1.1.2 | exact e.1.1.1.1.1.1.2 | exact e.1.1.1.1.1.2 | exact e.1.1.1.1.2))
  skip
  go_wp2_with (go_at_call 89; refine(in89_any _ _ _ _).mono ?_; rintro e w' ⟨rfl,rfl⟩)
  all_goals (go_ret; exact⟨ret_bool HN.out,I0.out.bel⟩)
 by_cases h5:(x.cn:Int)≤8
 case neg =>
  have HN:=Lib.hid (show false=ironsB x from by
   symm
   rw [← Bool.not_eq_true];intro e;unfold ironsB headI at e;simp only [Bool.and_eq_true,decide_eq_true_eq,beq_iff_eq] at e
   exact h5 (by first | exact e.1.1.1.1.1.1.1.1 | exact e.1.1.1.1.1.1.1.2 | exact e.1.1.1.1.1.1.2 | exact e.1.1.1.1.1.2 | exact e.1.1.1.1.2))
  skip
  go_wp2_with (go_at_call 89; refine(in89_any _ _ _ _).mono ?_; rintro e w' ⟨rfl,rfl⟩)
  all_goals (go_ret; exact⟨ret_bool HN.out,I0.out.bel⟩)
 have HH:=Lib.hid (show headI x=true from by unfold headI; simp [h1,h2,h3,h4,h5]);have h3':x.mn=x.on:=by omega
 have HM:=Lib.hid h3';have t3:(x.mn==x.on)=true:=by simp [h3']
 have t3':(x.mn != x.on)=false:=by simp [h3']
 have t3'':((x.mn:Int) != (x.on:Int))=false:=by simp [h3']
 clear h3 h3';have hf:=inB_iff.1 h1;have t5:decide (5<(x.on:Int))=false:=decide_eq_false (by omega);have t6:decide (6<(x.sn:Int))=false:=decide_eq_false (by omega);have t8:decide (8<(x.cn:Int))=false:=decide_eq_false (by omega);go_wp2_with (go_at_call 89; refine(in89_any _ _ _ _).mono ?_; rintro e w' ⟨rfl,rfl⟩);clear t3 t3' t3'' t5 t6 t8 q0 q1 q2 q3 q4
 go_loopw [3] (fun i wi => ∃ k:Nat,k≤x.on∧i = .int .i64 k∧allB (okO x) k=true∧allB (fun i=>inB (x.most i) 0 6) k=true∧II w x oa ma sa ca oc mc sc cc op sp ok sk wi) (fun i _=>x.on - (intOf i).toNat)
 case atStart=>exact⟨0,Nat.zero_le _,rfl,rfl,rfl,I0.out⟩
 case round =>
  clear I0;obtain⟨k,hk,rfl,ha,hm,h6⟩:=hrel;have I1:=Lib.hid h6;have HA:=Lib.hid ha;have HB:=Lib.hid hm;clear h6 ha hm;obtain⟨q0,q1,q2,q3,q4⟩:=I1.out.cells;by_cases hlt:k<x.on
  ·have hi:=fun w=>run_indexAt_row (w:=w) (cap:=oc) owners30 size26 (I1.out.rr.o.plain (by omega)) hlt
   have hi2:=fun w=>run_indexAt_row (w:=w) (cap:=mc) (n:=x.mn) (k:=k) ints26 size3 (I1.out.rr.m.plain (by have:=HM.out; omega)) (by have:=HM.out; omega);simp only [Nat.mul_one] at hi hi2;have hc:=I1.out.rr.o.at1 hlt;have hcm:=I1.out.rr.m.at (k:=k) (by have:=HM.out; omega);have hos:=(I1.out.rr.oi k hlt).small;unfold maxLen at hos;go_upto_region 6 with (fail)
   by_cases ho:(x.ol k:Int)=x.f
   case neg =>
    have HN:=Lib.hid (irons_noO hlt (show okO x k=false from by unfold okO; simp [ho]));have t0:((x.ol k:Int) != x.f)=true:=by simp [ho]
    clear ho
    go_quiet ((go_at_call 89; exact Calls.quiet_of_same (in89_q _ _ _ _)))
    have I2:=Lib.hid (I1.out.grow (below_drewN (Below.refl _ _) nq));go_wp2_with fail;go_ret;exact⟨ret_bool HN.out,I2.out.bel⟩
   have HO:=Lib.hid ho;have t0:((x.ol k:Int) != x.f)=false:=by simp [ho]
   clear ho;by_cases hmk:inB (x.most k) 0 6=true
   case neg =>
    have HN:=Lib.hid (irons_noM (x:=x) (k:=k) (by have:=HM.out; omega) (by simpa using hmk));have t1:inB (x.most k) 0 6=false:=by simpa using hmk
    clear hmk
    go_quiet ((go_at_call 89; exact Calls.quiet_of_same (in89_q _ _ _ _)))
    have I2:=Lib.hid (I1.out.grow (below_drewN (Below.refl _ _) nq));go_wp2_with fail;go_ret;exact⟨ret_bool HN.out,I2.out.bel⟩
   go_quiet ((go_at_call 89; exact Calls.quiet_of_same (in89_q _ _ _ _)))
   have I2:=Lib.hid (I1.out.grow (below_drewN (Below.refl _ _) nq));have HMK:=Lib.hid hmk;clear hmk t0 hi2 hcm I1 q0 q1 q2 q3 q4 hc;generalize World.drewN wr nq=w1 at *;obtain⟨q0,q1,q2,q3,q4⟩:=I2.out.cells;go_wp2_with fail
   go_loopw [4] (fun i wi => ∃ j:Nat,j≤x.ol k∧i = .int .i64 j∧allB (fun j=>inB (x.own k j) 0 9) j=true∧II w x oa ma sa ca oc mc sc cc op sp ok sk wi) (fun i _=>x.ol k - (intOf i).toNat)
   case atStart=>exact⟨0,Nat.zero_le _,rfl,rfl,I2.out⟩
   case round =>
    clear I2 q0 q1 q2 q3 q4;obtain⟨j,hj,rfl,hj2,h6⟩:=hrel;have I1:=Lib.hid h6;have HC:=Lib.hid hj2;clear h6 hj2;obtain⟨q0,q1,q2,q3,q4⟩:=I1.out.cells;have hc:=I1.out.rr.o.at1 hlt;by_cases hlj:j<x.ol k
    ·have hlf:(j:Int)<x.f:=by have:=HO.out; omega
     have hi2:=fun w=>run_indexAt_row (w:=w) (cap:=ok k) ints26 size3 ((I1.out.rr.oi k hlt).plain (by omega)) hlj;simp only [Nat.mul_one] at hi2;have hcj:=(I1.out.rr.oi k hlt).at hlj;have HD:=Lib.hid (show allB (fun j=>inB (x.own k j) 0 9) (j+1)=(allB (fun j=>inB (x.own k j) 0 9) j&&inB (x.own k j) 0 9) from rfl);have HN:=Lib.hid (fun(h:inB (x.own k j) 0 9=false)=>irons_noO hlt (okO_no hlj h));generalize x.own k j=y at *;by_cases hy:inB y 0 9=true
     ·go_wp2_with (go_at_call 89; refine(in89_any _ _ _ _).mono ?_; rintro e w' ⟨rfl,rfl⟩)
      exact⟨⟨j+1,hlj,by go_num,by rw [HD.out,HC.out,hy]; rfl,I1.out⟩,by simp [intOf]; omega⟩
     ·have hy':inB y 0 9=false:=by simpa using hy
      have HX:=Lib.hid (HN.out hy');clear hy;go_wp2_with (go_at_call 89; refine(in89_any _ _ _ _).mono ?_; rintro e w' ⟨rfl,rfl⟩);go_ret;exact⟨ret_bool HX.out,I1.out.bel⟩
    ·have hlf:¬ (j:Int)<x.f:=by have:=HO.out; omega
     obtain rfl:x.ol k=j:=by omega
     have HE:=Lib.hid (show allB (okO x) (k+1)=true from by
      show(allB (okO x) k&&okO x k)=true
      rw [HA.out];unfold okO;rw [HC.out]
      simp [HO.out])
     have HE2:=Lib.hid (show allB (fun i=>inB (x.most i) 0 6) (k+1)=true from by
      show(allB (fun i=>inB (x.most i) 0 6) k&&inB (x.most k) 0 6)=true
      rw [HB.out,HMK.out]
      rfl)
     have t0:decide ((x.ol k:Int)<x.f)=false:=decide_eq_false hlf;go_wp2_with fail;exact⟨⟨k+1,hlt,by go_num,HE.out,HE2.out,I1.out⟩,by simp [intOf]; omega⟩
  ·obtain rfl:k=x.on:=by omega
   have HM0:=Lib.hid (show allB (fun i=>inB (x.most i) 0 6) x.mn=true from by rw [HM.out]; exact HB.out);go_wp2_with fail
   go_loopw [5] (fun i wi => ∃ k:Nat,k≤x.sn∧i = .int .i64 k∧allB (okK x) k=true∧II w x oa ma sa ca oc mc sc cc op sp ok sk wi) (fun i _=>x.sn - (intOf i).toNat)
   case atStart=>exact⟨0,Nat.zero_le _,rfl,rfl,I1.out⟩
   case round =>
    clear I1 q0 q1 q2 q3 q4;obtain⟨k,hk,rfl,ha,h6⟩:=hrel;have I1:=Lib.hid h6;have HK:=Lib.hid ha;clear h6 ha;obtain⟨q0,q1,q2,q3,q4⟩:=I1.out.cells;by_cases hlt:k<x.sn
    ·have hi:=fun w=>run_indexAt_row (w:=w) (cap:=sc) strakes31 size85 (I1.out.rr.s.plain (by omega)) hlt
     simp only [Nat.mul_one] at hi;have hc:=I1.out.rr.s.at1 hlt;have hos:=(I1.out.rr.si k hlt).small;unfold maxLen at hos;by_cases h6:(x.sl k:Int)≤6
     case neg =>
      have HN:=Lib.hid (irons_noK hlt (show okK x k=false from by unfold okK; simp; omega));go_wp2_with fail;go_ret;exact⟨ret_bool HN.out,I1.out.bel⟩
     have t0:decide (6<(x.sl k:Int))=false:=decide_eq_false (by omega);go_wp2_with fail
     go_loopw [6] (fun i wi => ∃ j:Nat,j≤x.sl k∧i = .int .i64 j∧allB (fun j=>okM x.f (x.mark k j)) j=true∧II w x oa ma sa ca oc mc sc cc op sp ok sk wi) (fun i _=>x.sl k - (intOf i).toNat)
     case atStart=>exact⟨0,Nat.zero_le _,rfl,rfl,I1.out⟩
     case round =>
      clear I1 q0 q1 q2 q3 q4 hc;obtain⟨j,hj,rfl,hj2,h6'⟩:=hrel;have I1:=Lib.hid h6';have HC:=Lib.hid hj2;clear h6' hj2;obtain⟨q0,q1,q2,q3,q4⟩:=I1.out.cells;have hc:=I1.out.rr.s.at1 hlt;by_cases hlj:j<x.sl k
      ·have hi2:=fun w=>run_indexAt_row (w:=w) (cap:=sk k) marks85 size149 ((I1.out.rr.si k hlt).plain (by omega)) hlj
       obtain⟨g0,g1,g2⟩:=(I1.out.rr.si k hlt).at hlj;have HD:=Lib.hid (show allB (fun j=>okM x.f (x.mark k j)) (j+1)=(allB (fun j=>okM x.f (x.mark k j)) j&&okM x.f (x.mark k j)) from rfl);have HN:=Lib.hid (fun(h:okM x.f (x.mark k j)=false)=>irons_noK hlt (okK_no hlj h));generalize x.mark k j=y at *;go_upto_region 22 with (fail)
       generalize hW:World.alloc _ _=W;obtain⟨z0,hz,hB⟩:=blocks1 hW;have I2:=Lib.hid (I1.out.grow hB);have c0:=cellAt z0 0;have c1:=cellAt z0 1;have c2:=cellAt z0 2;simp only [List.getElem?_toArray,List.getElem?_cons_zero,List.getElem?_cons_succ] at c0 c1 c2;clear hW hz hB z0 I1 q0 q1 q2 q3 q4 g0 g1 g2 hc;obtain⟨q0,q1,q2,q3,q4⟩:=I2.out.cells;by_cases hx:inB y.f 0 (x.f - 1)=true
       ·go_wp2_with (go_at_call 89; refine(in89_any _ _ _ _).mono ?_; rintro e w' ⟨rfl,rfl⟩)
        all_goals first
         | exact⟨⟨j+1,hlj,by go_num,by rw [HD.out,HC.out]; unfold okM spanB; simp only [Bool.and_eq_true,decide_eq_true_eq,Bool.true_and]; exact⟨hx,⟨by omega,by omega⟩,by omega⟩,I2.out⟩,by simp [intOf]; omega⟩
         | (go_ret; exact⟨ret_bool (HN.out (by
           rw [← Bool.not_eq_true];intro e;unfold okM spanB at e;simp only [Bool.and_eq_true,decide_eq_true_eq] at e
           omega)),I2.out.bel⟩)
       ·have hx':inB y.f 0 (x.f - 1)=false:=by simpa using hx
        have HX:=Lib.hid (HN.out (by unfold okM; rw [hx']; rfl));clear hx;go_wp2_with (go_at_call 89; refine(in89_any _ _ _ _).mono ?_; rintro e w' ⟨rfl,rfl⟩);go_ret;exact⟨ret_bool HX.out,I2.out.bel⟩
      ·obtain rfl:x.sl k=j:=by omega
       have HE:=Lib.hid (show allB (okK x) (k+1)=true from by
        show(allB (okK x) k&&okK x k)=true
        rw [HK.out];unfold okK;rw [HC.out];simp
        omega)
       go_wp2_with fail;exact⟨⟨k+1,hlt,by go_num,HE.out,I1.out⟩,by simp [intOf]; omega⟩
    ·obtain rfl:k=x.sn:=by omega
     go_wp2_with fail
     go_loopw [8] (fun i wi => ∃ k:Nat,k≤x.cn∧i = .int .i64 k∧allB (fun i=>okC x.sn x.on (x.claim i)) k=true∧II w x oa ma sa ca oc mc sc cc op sp ok sk wi) (fun i _=>x.cn - (intOf i).toNat)
     case atStart=>exact⟨0,Nat.zero_le _,rfl,rfl,I1.out⟩
     case round =>
      clear I1 q0 q1 q2 q3 q4;obtain⟨k,hk,rfl,ha,h6⟩:=hrel;have I1:=Lib.hid h6;have HC:=Lib.hid ha;clear h6 ha;obtain⟨q0,q1,q2,q3,q4⟩:=I1.out.cells;by_cases hlt:k<x.cn
      ·have hi:=fun w=>run_indexAt_row (w:=w) (cap:=cc) claims32 size82 (I1.out.rr.c.plain (by omega)) hlt
       have GC:=Lib.hid (fun W2 (h:II w x oa ma sa ca oc mc sc cc op sp ok sk W2)=>(show(W2.cell? ⟨w.heap.size,0,none⟩=some (.int .i64 x.f)∧W2.cell? ⟨w.heap.size,1,none⟩=some (.slice oa x.on oc)∧W2.cell? ⟨w.heap.size,2,none⟩=some (.slice ma x.mn mc)∧W2.cell? ⟨w.heap.size,3,none⟩=some (.slice sa x.sn sc)∧W2.cell? ⟨w.heap.size,4,none⟩=some (.slice ca x.cn cc))∧(W2.cell? ⟨blk ca,ofs ca+k * 3,none⟩=some (.int .i64 (x.claim k).s)∧W2.cell? ⟨blk ca,ofs ca+k * 3+1,none⟩=some (.int .i64 (x.claim k).o))∧II w x oa ma sa ca oc mc sc cc op sp ok sk W2 from⟨h.cells,⟨(h.rr.c.at hlt).1,(h.rr.c.at hlt).2.1⟩,h⟩));have HD:=Lib.hid (show allB (fun i=>okC x.sn x.on (x.claim i)) (k+1)=(allB (fun i=>okC x.sn x.on (x.claim i)) k&&okC x.sn x.on (x.claim k)) from rfl);have HN:=Lib.hid (fun(h:okC x.sn x.on (x.claim k)=false)=>irons_noC hlt h);generalize x.claim k=y at *;have C1:=Lib.hid (fun W=>strake90_any (.int .i64 x.f) y.s oa ma sa ca x.on oc x.mn mc x.sn sc x.cn cc W (by omega));have C2:=Lib.hid (fun W=>owner91_any (.int .i64 x.f) y.o oa ma sa ca x.on oc x.mn mc x.sn sc x.cn cc W (by omega));go_upto_region 27 with (fail)
       have J0:=Lib.hid (GC.out _ (I1.out.grow (Below.drew (Below.refl _ _))));clear q0 q1 q2 q3 q4;generalize hb1:inB y.s 0 ((x.sn:Int) - 1)=b1 at *;generalize hb2:inB y.o 0 ((x.on:Int) - 1)=b2 at *;have HY:=Lib.hid (show okC x.sn x.on y=(b1&&b2) from by unfold okC; rw [hb1,hb2]);clear hb1 hb2
       cases b1 with
       | false =>
        have HX:=Lib.hid (HN.out (by rw [HY.out]; rfl));refine wp_region_held_drew (S:=(fun W2=>(W2.cell? ⟨w.heap.size,0,none⟩=some (.int .i64 x.f)∧W2.cell? ⟨w.heap.size,1,none⟩=some (.slice oa x.on oc)∧W2.cell? ⟨w.heap.size,2,none⟩=some (.slice ma x.mn mc)∧W2.cell? ⟨w.heap.size,3,none⟩=some (.slice sa x.sn sc)∧W2.cell? ⟨w.heap.size,4,none⟩=some (.slice ca x.cn cc))∧(W2.cell? ⟨blk ca,ofs ca+k * 3,none⟩=some (.int .i64 y.s)∧W2.cell? ⟨blk ca,ofs ca+k * 3+1,none⟩=some (.int .i64 y.o))∧II w x oa ma sa ca oc mc sc cc op sp ok sk W2)) (by kernel_rfl) J0.out (fun hHeld=>?_);refine wpAnyH_take (i:=0) (oi:={dst:=some 144,op:=Op.load 34 (Operand.tmp 1),type:=34,pos := "ref.go:72",after:=#[],guard:=none}) (v:=?_) rfl (by kernel_rfl) (by kernel_rfl) (by kernel_rfl) (fun _ _ _ h=>h) (Or.inl ⟨by rfl,?_⟩) (by assumption) ?_;rotate_left
        ·(intro w9 hSw; (try dsimp only at hSw); (go_split_ands; go_simp); (try with_reducible rfl))
        try simp only [Act.put,List.setIfInBounds_toArray,List.set_cons_zero,List.set_cons_succ]
        refine wpAnyH_take (i:=1) (oi:={dst:=some 145,op:=Op.fieldAddr 34 (Operand.tmp 1) 4,type:=0,pos := "ref.go:72",after:=#[],guard:=none}) (v:=?_) rfl (by kernel_rfl) (by kernel_rfl) (by kernel_rfl) (fun _ _ _ h=>h) (Or.inl ⟨by rfl,?_⟩) (by assumption) ?_;rotate_left
        ·(intro w9 hSw; (try dsimp only at hSw); (go_split_ands; go_simp); (try with_reducible rfl))
        try simp only [Act.put,List.setIfInBounds_toArray,List.set_cons_zero,List.set_cons_succ]
        refine wpAnyH_take (i:=2) (oi:={dst:=some 146,op:=Op.load 32 (Operand.tmp 145),type:=32,pos := "ref.go:72",after:=#[{on:=1,ground:=Ground.data}],guard:=none}) (v:=?_) rfl (by kernel_rfl) (by kernel_rfl) (by kernel_rfl) (fun _ _ _ h=>h) (Or.inl ⟨by rfl,?_⟩) (by assumption) ?_;rotate_left
        ·(intro w9 hSw; (try dsimp only at hSw); (go_split_ands; go_simp); (try with_reducible rfl))
        try simp only [Act.put,List.setIfInBounds_toArray,List.set_cons_zero,List.set_cons_succ]
        refine wpAnyH_take (i:=3) (oi:={dst:=some 147,op:=Op.move (Operand.tmp 8),type:=3,pos := "ref.go:72",after:=#[],guard:=none}) (v:=?_) rfl (by kernel_rfl) (by kernel_rfl) (by kernel_rfl) (fun _ _ _ h=>h) (Or.inl ⟨by rfl,?_⟩) (by assumption) ?_;rotate_left
        ·(intro w9 hSw; (try dsimp only at hSw); (go_split_ands; go_simp); (try with_reducible rfl))
        try simp only [Act.put,List.setIfInBounds_toArray,List.set_cons_zero,List.set_cons_succ]
        refine wpAnyH_take (i:=4) (oi:={dst:=some 148,op:=Op.indexAddr 32 (Operand.tmp 146) (Operand.tmp 147),type:=0,pos := "ref.go:72",after:=#[{on:=2,ground:=Ground.data},{on:=3,ground:=Ground.data}],guard:=none}) (v:=?_) rfl (by kernel_rfl) (by kernel_rfl) (by kernel_rfl) (fun _ _ _ h=>h) (Or.inl ⟨by rfl,?_⟩) (by assumption) ?_;rotate_left
        ·(intro w9 hSw; (try dsimp only at hSw); (go_split_ands; go_simp); (try with_reducible rfl))
        try simp only [Act.put,List.setIfInBounds_toArray,List.set_cons_zero,List.set_cons_succ]
        refine wpAnyH_take (i:=5) (oi:={dst:=some 149,op:=Op.fieldAddr 82 (Operand.tmp 148) 0,type:=0,pos := "ref.go:72",after:=#[{on:=4,ground:=Ground.data}],guard:=none}) (v:=?_) rfl (by kernel_rfl) (by kernel_rfl) (by kernel_rfl) (fun _ _ _ h=>h) (Or.inl ⟨by rfl,?_⟩) (by assumption) ?_;rotate_left
        ·(intro w9 hSw; (try dsimp only at hSw); (go_split_ands; go_simp); (try with_reducible rfl))
        try simp only [Act.put,List.setIfInBounds_toArray,List.set_cons_zero,List.set_cons_succ]
        refine wpAnyH_take (i:=6) (oi:={dst:=some 150,op:=Op.load 3 (Operand.tmp 149),type:=3,pos := "ref.go:72",after:=#[{on:=5,ground:=Ground.data}],guard:=none}) (v:=?_) rfl (by kernel_rfl) (by kernel_rfl) (by kernel_rfl) (fun _ _ _ h=>h) (Or.inl ⟨by rfl,?_⟩) (by assumption) ?_;rotate_left
        ·(intro w9 hSw; (try dsimp only at hSw); (go_split_ands; go_simp); (try with_reducible rfl))
        try simp only [Act.put,List.setIfInBounds_toArray,List.set_cons_zero,List.set_cons_succ]
        refine wpAnyH_ready (rs:=[7]) (by kernel_rfl) (by simp) ?_;refine AllReadyH.cons (o:={dst:=some 151,op:=Op.call {callee:=Callee.value (Operand.func 90),args:=#[Operand.tmp 144,Operand.tmp 150],argTypes:=#[34,3]},type:=4,pos := "ref.go:72",after:=#[{on:=0,ground:=Ground.data},{on:=6,ground:=Ground.data}],guard:=none}) rfl (fun K hK=>?_) AllReadyH.nil;go_simp;refine(C1.out _).mono ?_; rintro e w4 ⟨rfl,hb1⟩;go_wp2_with fail;refine hK.out _ _ ?_ (fun hHeld=>?_)
        ·exact GC.out _ (II.grow hHeld.2.2 hb1)
        clear hK K
        try simp only [Act.put,List.setIfInBounds_toArray,List.set_cons_zero,List.set_cons_succ]
        refine wpAnyH_take (i:=8) (oi:={dst:=some 152,op:=Op.unOp UnOp.not 4 (Operand.tmp 151),type:=4,pos := "ref.go:72",after:=#[{on:=7,ground:=Ground.data}],guard:=none}) (v:=?_) rfl (by kernel_rfl) (by kernel_rfl) (by kernel_rfl) (fun _ _ _ h=>h) (Or.inl ⟨by rfl,?_⟩) (by assumption) ?_;rotate_left
        ·(intro w9 hSw; (try dsimp only at hSw); (go_split_ands; go_simp); (try with_reducible rfl))
        try simp only [Act.put,List.setIfInBounds_toArray,List.set_cons_zero,List.set_cons_succ]
        refine wpAnyH_take (i:=9) (oi:={dst:=some 153,op:=Op.move (Operand.tmp 152),type:=4,pos := "ref.go:72",after:=#[{on:=8,ground:=Ground.data},{on:=7,ground:=Ground.chain}],guard:=none}) (v:=?_) rfl (by kernel_rfl) (by kernel_rfl) (by kernel_rfl) (fun _ _ _ h=>h) (Or.inl ⟨by rfl,?_⟩) (by assumption) ?_;rotate_left
        ·(intro w9 hSw; (try dsimp only at hSw); (go_split_ands; go_simp); (try with_reducible rfl))
        try simp only [Act.put,List.setIfInBounds_toArray,List.set_cons_zero,List.set_cons_succ]
        refine wpAnyH_take (i:=10) (oi:={dst:=some 154,op:=Op.load 34 (Operand.tmp 1),type:=34,pos := "ref.go:72",after:=#[{on:=9,ground:=Ground.guard}],guard:=some (9,false)}) (v:=undef) rfl (by kernel_rfl) (by kernel_rfl) (by kernel_rfl) (fun _ _ _ h=>h) (Or.inr ⟨by rfl,rfl⟩) (by assumption) ?_
        try simp only [Act.put,List.setIfInBounds_toArray,List.set_cons_zero,List.set_cons_succ]
        refine wpAnyH_take (i:=11) (oi:={dst:=some 155,op:=Op.fieldAddr 34 (Operand.tmp 1) 4,type:=0,pos := "ref.go:72",after:=#[{on:=9,ground:=Ground.guard}],guard:=some (9,false)}) (v:=undef) rfl (by kernel_rfl) (by kernel_rfl) (by kernel_rfl) (fun _ _ _ h=>h) (Or.inr ⟨by rfl,rfl⟩) (by assumption) ?_
        try simp only [Act.put,List.setIfInBounds_toArray,List.set_cons_zero,List.set_cons_succ]
        refine wpAnyH_take (i:=12) (oi:={dst:=some 156,op:=Op.load 32 (Operand.tmp 155),type:=32,pos := "ref.go:72",after:=#[{on:=11,ground:=Ground.data},{on:=9,ground:=Ground.guard}],guard:=some (9,false)}) (v:=undef) rfl (by kernel_rfl) (by kernel_rfl) (by kernel_rfl) (fun _ _ _ h=>h) (Or.inr ⟨by rfl,rfl⟩) (by assumption) ?_
        try simp only [Act.put,List.setIfInBounds_toArray,List.set_cons_zero,List.set_cons_succ]
        refine wpAnyH_take (i:=13) (oi:={dst:=some 157,op:=Op.move (Operand.tmp 8),type:=3,pos := "ref.go:72",after:=#[{on:=9,ground:=Ground.guard}],guard:=some (9,false)}) (v:=undef) rfl (by kernel_rfl) (by kernel_rfl) (by kernel_rfl) (fun _ _ _ h=>h) (Or.inr ⟨by rfl,rfl⟩) (by assumption) ?_
        try simp only [Act.put,List.setIfInBounds_toArray,List.set_cons_zero,List.set_cons_succ]
        refine wpAnyH_take (i:=14) (oi:={dst:=some 158,op:=Op.indexAddr 32 (Operand.tmp 156) (Operand.tmp 157),type:=0,pos := "ref.go:72",after:=#[{on:=12,ground:=Ground.data},{on:=13,ground:=Ground.data},{on:=9,ground:=Ground.guard}],guard:=some (9,false)}) (v:=undef) rfl (by kernel_rfl) (by kernel_rfl) (by kernel_rfl) (fun _ _ _ h=>h) (Or.inr ⟨by rfl,rfl⟩) (by assumption) ?_
        try simp only [Act.put,List.setIfInBounds_toArray,List.set_cons_zero,List.set_cons_succ]
        refine wpAnyH_take (i:=15) (oi:={dst:=some 159,op:=Op.fieldAddr 82 (Operand.tmp 158) 1,type:=0,pos := "ref.go:72",after:=#[{on:=14,ground:=Ground.data},{on:=9,ground:=Ground.guard}],guard:=some (9,false)}) (v:=undef) rfl (by kernel_rfl) (by kernel_rfl) (by kernel_rfl) (fun _ _ _ h=>h) (Or.inr ⟨by rfl,rfl⟩) (by assumption) ?_
        try simp only [Act.put,List.setIfInBounds_toArray,List.set_cons_zero,List.set_cons_succ]
        refine wpAnyH_take (i:=16) (oi:={dst:=some 160,op:=Op.load 3 (Operand.tmp 159),type:=3,pos := "ref.go:72",after:=#[{on:=15,ground:=Ground.data},{on:=9,ground:=Ground.guard}],guard:=some (9,false)}) (v:=undef) rfl (by kernel_rfl) (by kernel_rfl) (by kernel_rfl) (fun _ _ _ h=>h) (Or.inr ⟨by rfl,rfl⟩) (by assumption) ?_
        try simp only [Act.put,List.setIfInBounds_toArray,List.set_cons_zero,List.set_cons_succ]
        refine wpAnyH_take (i:=17) (oi:={dst:=some 161,op:=Op.call {callee:=Callee.value (Operand.func 91),args:=#[Operand.tmp 154,Operand.tmp 160],argTypes:=#[34,3]},type:=4,pos := "ref.go:72",after:=#[{on:=10,ground:=Ground.data},{on:=16,ground:=Ground.data},{on:=9,ground:=Ground.chain},{on:=9,ground:=Ground.guard}],guard:=some (9,false)}) (v:=undef) rfl (by kernel_rfl) (by kernel_rfl) (by kernel_rfl) (fun _ _ _ h=>h) (Or.inr ⟨by rfl,rfl⟩) (by assumption) ?_
        try simp only [Act.put,List.setIfInBounds_toArray,List.set_cons_zero,List.set_cons_succ]
        refine wpAnyH_take (i:=18) (oi:={dst:=some 162,op:=Op.unOp UnOp.not 4 (Operand.tmp 161),type:=4,pos := "ref.go:72",after:=#[{on:=17,ground:=Ground.data},{on:=9,ground:=Ground.guard}],guard:=some (9,false)}) (v:=undef) rfl (by kernel_rfl) (by kernel_rfl) (by kernel_rfl) (fun _ _ _ h=>h) (Or.inr ⟨by rfl,rfl⟩) (by assumption) ?_
        try simp only [Act.put,List.setIfInBounds_toArray,List.set_cons_zero,List.set_cons_succ]
        refine wpAnyH_take (i:=19) (oi:={dst:=some 163,op:=Op.pick (Operand.tmp 153) (Operand.const (Value.bool true)) (Operand.tmp 162),type:=4,pos := "ref.go:72",after:=#[{on:=9,ground:=Ground.data},{on:=18,ground:=Ground.data}],guard:=none}) (v:=?_) rfl (by kernel_rfl) (by kernel_rfl) (by kernel_rfl) (fun _ _ _ h=>h) (Or.inl ⟨by rfl,?_⟩) (by assumption) ?_;rotate_left
        ·(intro w9 hSw; (try dsimp only at hSw); (go_split_ands; go_simp); (try with_reducible rfl))
        try simp only [Act.put,List.setIfInBounds_toArray,List.set_cons_zero,List.set_cons_succ]
        refine wpAnyH_done (by kernel_rfl) ?_ _;have I2:=Lib.hid hHeld.2.2;clear hHeld;go_wp2_with fail;go_ret;exact⟨ret_bool HX.out,I2.out.bel⟩
       | true =>
        go_region_held3 (fun W2=>(W2.cell? ⟨w.heap.size,0,none⟩=some (.int .i64 x.f)∧W2.cell? ⟨w.heap.size,1,none⟩=some (.slice oa x.on oc)∧W2.cell? ⟨w.heap.size,2,none⟩=some (.slice ma x.mn mc)∧W2.cell? ⟨w.heap.size,3,none⟩=some (.slice sa x.sn sc)∧W2.cell? ⟨w.heap.size,4,none⟩=some (.slice ca x.cn cc))∧(W2.cell? ⟨blk ca,ofs ca+k * 3,none⟩=some (.int .i64 y.s)∧W2.cell? ⟨blk ca,ofs ca+k * 3+1,none⟩=some (.int .i64 y.o))∧II w x oa ma sa ca oc mc sc cc op sp ok sk W2)
         (first | exact J0.out | (go_split_ands; exact GC.out _ (II.grow (by assumption) hb1)) | (go_split_ands; exact⟨⟨by assumption,by assumption,by assumption,by assumption,by assumption⟩,⟨by assumption,by assumption⟩,by assumption⟩))
         (first | (go_at_call 90; refine(C1.out _).mono ?_; rintro e w4 ⟨rfl,hb1⟩) | (go_at_call 91; refine(C2.out _).mono ?_; rintro e w4 ⟨rfl,hb1⟩))
        obtain⟨_,_,J⟩ := ‹_∧_∧II w x oa ma sa ca oc mc sc cc op sp ok sk _›;have I2:=Lib.hid J;clear J
        cases b2 with
        | false =>
         have HX:=Lib.hid (HN.out (by rw [HY.out]; rfl));go_wp2_with fail;go_ret;exact⟨ret_bool HX.out,I2.out.bel⟩
        | true =>
         have HE:=Lib.hid (show allB (fun i=>okC x.sn x.on (x.claim i)) (k+1)=true from by rw [HD.out,HC.out,HY.out]; rfl);go_wp2_with fail;exact⟨⟨k+1,hlt,by go_num,HE.out,I2.out⟩,by simp [intOf]; omega⟩
      ·obtain rfl:k=x.cn:=by omega
       have HN:=Lib.hid (show true=ironsB x from by
        unfold ironsB;rw [HH.out,HA.out,HM0.out,HK.out,HC.out]
        rfl)
       go_wp2_with fail;go_ret;exact⟨ret_bool HN.out,I1.out.bel⟩
end Go.Proofs.YtclbmlmlhiiaeaaGreatDoor
