/- Walks: irons are read by the reference. -/
import Derived.Test.YtclbmlmlhiiaeaaGreatDoorJB
namespace Go.Proofs.YtclbmlmlhiiaeaaGreatDoor
open Go.RowKit
abbrev RdIr(w:World)(la:Option Addr)(ls:List (List UInt8))(s1:Nat)(x:IrR)(v1 v2 v3 v4:Value)(ys zs:List Value)(W:World):Prop:=RdI w la ls s1 x #[.int .i64 x.f,v1,v2,v3,v4] v1 v2 v3 v4 ys zs W
def StI(w:World)(la:Option Addr)(ls:List (List UInt8))(s1:Nat)(x:IrR)(W:World):Prop := ∃ v1 v2 v3 v4 ys zs,RdIr w la ls s1 x v1 v2 v3 v4 ys zs W
def StP(w:World)(la:Option Addr)(ls:List (List UInt8))(s1:Nat)(pa:Option Addr)(p:List (List UInt8))(x:IrR)(W:World):Prop := ∃ v1 v2 v3 v4 ys zs,RdIr w la ls s1 x v1 v2 v3 v4 ys zs W∧PaI s1 pa p (IrD v1 v2 v3 v4 ys zs) W
set_option maxRecDepth 100000 in
set_option maxHeartbeats 16000000 in
theorem irons84_any(s:List UInt8)(w:World)(hs:s.length≤2000) :
  Calls Tryz.prog 84 #[.string ⟨s.toArray⟩] w fun e w' => ∃ oa ma sa ca oc mc sc cc op sp ok sk,e = .returned (.agg #[.int .i64 (toV (ironR s)).f,.slice oa (toV (ironR s)).on oc,.slice ma (toV (ironR s)).mn mc,.slice sa (toV (ironR s)).sn sc,.slice ca (toV (ironR s)).cn cc]) ∧
   IronsAt (toV (ironR s)) oa ma sa ca oc mc sc cc op sp ok sk w'∧Below w.heap.size w w'∧IrBlk (fun b=>w.heap.size≤b) (toV (ironR s)) oa ma sa ca op sp:=by
 obtain⟨z0,z1,hs0,hB⟩:=blocks2 (show(w.alloc (.cells #[.int .i64 0,.slice none 0 0,.slice none 0 0,.slice none 0 0,.slice none 0 0] 34)).alloc (.cells #[.int .i64 (-1),.slice none 0 0,.slice none 0 0,.slice none 0 0,.slice none 0 0] 34)=_ from rfl);have B0:=Lib.hid hB;have Z0:=Lib.hid z0;have Z1:=Lib.hid z1;have HS0:=Lib.hid hs0;have CL:=Lib.hid (fun W=>lines139_any s W hs);have hll:=linesL_len s;have HM:=Lib.hid (fun l (h:l ∈ linesL s)=>Nat.le_trans (linesL_mem h) hs);have HF:=Lib.hid (fun k=>fold_irons (linesL s) k);have HRS:=Lib.hid (show ironR s=foldN irL ⟨-1,[],[],[],[]⟩ (linesL s) (linesL s).length from rfl);unfold PartsPost at CL;clear z0 z1 hB hs0;generalize linesL s=ls at *;go_enter Tryz.func84,Tryz.ntmps84;go_upto_region 2 with (fail)
 generalize World.alloc (World.alloc w _) _=W0 at *;go_wp2_with (go_at_call 139; refine(CL.out _).mono ?_);rintro e w1 ⟨la,lc,rfl,hr,hl,-,hb1⟩
 have I0:=Lib.hid (show StI w la ls w1.heap.size (foldN irL ⟨-1,[],[],[],[]⟩ ls 0) w1 from
  ⟨.slice none 0 0,.slice none 0 0,.slice none 0 0,.slice none 0 0,[],[],B0.out.next hb1,hr,fun h=>⟨by have:=hl h; have:=HS0.out; omega,hr.old h⟩,BoxAt.grow Z0.out hb1,BoxAt.grow Z1.out hb1,
   ⟨World.ownsRow_nil _ _ _ _,World.ownsRow_nil _ _ _ _,World.ownsRow_nil _ _ _ _,World.ownsRow_nil _ _ _ _,trivial,trivial⟩,Nat.le_refl _,by have:=hb1.size; have:=HS0.out; omega⟩)
 generalize w1.heap.size=s1 at *;clear hr hl hb1 B0 Z0 Z1 HS0 CL;go_wp2_with fail
 go_loopw [5,6,7,8,9,10,11,12,13,14,15] (fun i p a b c d e f g h k wi => ∃ kk:Nat,kk≤ls.length∧i = .int .i64 kk∧StI w la ls s1 (foldN irL ⟨-1,[],[],[],[]⟩ ls kk) wi) (fun i _ _ _ _ _ _ _ _ _ _ _=>ls.length - (intOf i).toNat)
 case atStart=>exact⟨0,Nat.zero_le _,rfl,I0.out⟩
 case round =>
  clear I0;obtain⟨kk,hk,rfl,v1,v2,v3,v4,ys,zs,hI⟩:=hrel;have I1:=Lib.hid hI;have hlen:=HF.out kk;clear hI;by_cases hlt:kk<ls.length
  ·have hi:=fun w=>run_indexAt_row (w:=w) (oa:=la) (n:=ls.length) (cap:=lc) strs80 size9 (I1.out.lr.plain (by omega)) hlt
   simp only [Nat.mul_one] at hi;have hc:=I1.out.lr.at hlt;have hline:=HM.out (ls.getD kk []) (by rw [List.getD_eq_getElem?_getD,List.getElem?_eq_getElem hlt]; exact List.getElem_mem hlt);rw [show strC ls kk = .string ⟨(ls.getD kk []).toArray⟩ from rfl] at hc;have CP:=Lib.hid (fun W=>parts140_any (ls.getD kk []) 32 32 rfl W hline);have HN:=Lib.hid (show foldN irL ⟨-1,[],[],[],[]⟩ ls (kk+1)=irL4 (irL3 (irL2 (irL1 kk (foldN irL ⟨-1,[],[],[],[]⟩ ls kk) (partsF 32 [] (ls.getD kk []))) (partsF 32 [] (ls.getD kk []))) (partsF 32 [] (ls.getD kk []))) (partsF 32 [] (ls.getD kk [])) from rfl);have hpn:=partsF_len 32 (ls.getD kk []) [];have hpm:=Lib.hid (fun y (h:y ∈ partsF 32 [] (ls.getD kk []))=>(show y.length≤2000 from by have:=partsF_mem 32 _ _ h; rw [List.length_nil,Nat.zero_add] at this; omega));have hp1:1≤(partsF 32 [] (ls.getD kk [])).length:=List.length_pos_iff.2 (partsF_ne _ _ _);generalize foldN irL ⟨-1,[],[],[],[]⟩ ls kk=x at *;unfold PartsPost at CP;generalize partsF 32 [] (ls.getD kk [])=p at *;generalize ls.getD kk []=line at *;go_upto_region 7 with (go_at_call 140; refine(CP.out _).mono ?_; rintro e w2 ⟨pa,pc,rfl,h1,h2,hcap,hb2⟩)
   have P2:=Lib.hid (PaI.new I1.out h1 h2);have I2:=Lib.hid (I1.out.grow hb2);clear h1 h2 hb2 I1 hi hc CP hcap;obtain⟨pn,epn⟩:∃ pn,p.length=pn:=⟨_,rfl⟩
   have HPN:=Lib.hid epn;rw [epn] at hpn hp1 ⊢;clear epn;have PP:=Lib.hid (P2.out.row.plain (by have:=HPN.out; omega));have i0:∀ W,(Instr.indexAt 80 (.slice pa pn pc) (.int .i64 0)).run Tryz.prog W = .ok (.pointer (some ⟨blk pa,ofs pa,none⟩)) W:=fun W=>(run_indexAt_row (w:=W) (cap:=pc) strs80 size9 PP.out (show 0<pn by omega))
   have CR:=Lib.hid (fun(D:Nat→Prop) W (h:PaI s1 pa p D W)=>(show W.cell? ⟨blk pa,ofs pa,none⟩=some (.string ⟨(p.getD 0 []).toArray⟩) from h.row.at (k:=0) (by have:=HPN.out; omega)));obtain⟨b1,hb1⟩:∃ b1,decide (p.getD 0 []=ironsW∧pn=2∧kk=0)=b1:=⟨_,rfl⟩
   have HB1:=Lib.hid hb1;clear hb1;have HL1:=Lib.hid (show irL1 kk x p=if p.getD 0 []=ironsW∧pn=2∧kk=0 then {x with f:=wholeR (p.getD 1 [])} else x from by unfold irL1; rw [HPN.out]);go_cut [42] from 30 to 42 (fun t W=>W=w2∧t = .bool b1)
   case first =>
    have hc:=CR.out _ _ P2.out;have hb:=HB1.out;clear HB1 HL1;generalize p.getD 0 []=p0 at *;by_cases e1:p0=ironsW
    ·unfold ironsW at e1
     by_cases e2:pn=2
     ·subst e2
      by_cases e3:kk=0
      ·rw [decide_eq_true ⟨e1,rfl,e3⟩] at hb
       subst hb;subst e3;subst e1;go_wp2_with fail
       go_meet
       exact⟨rfl,rfl⟩
      ·rw [decide_eq_false (fun h=>e3 h.2.2)] at hb
       subst hb;subst e1;have t0:((kk:Int)==0)=false:=beq_eq_false_iff_ne.2 (by omega);go_wp2_with fail
       go_meet
       exact⟨rfl,rfl⟩
     ·rw [decide_eq_false (fun h=>e2 h.2.1)] at hb
      subst hb;subst e1;have t0:((pn:Int)==2)=false:=beq_eq_false_iff_ne.2 (by omega);go_wp2_with fail
      go_meet
      exact⟨rfl,rfl⟩
    ·rw [decide_eq_false (fun h=>e1 h.1)] at hb
     subst hb;unfold ironsW at e1;go_wp2_with fail
     go_meet
     exact⟨rfl,rfl⟩
   case rest =>
    obtain⟨rfl,rfl⟩:=hcut;go_upto_if 42 with (fail)
    go_cut [42] from 42 to 47 (fun _ W=>RdIr w la ls s1 (irL1 kk x p) v1 v2 v3 v4 ys zs W∧PaI s1 pa p (IrD v1 v2 v3 v4 ys zs) W)
    case first =>
     cases b1 with
     | false =>
      have hn:=of_decide_eq_false HB1.out;have HX:=Lib.hid (show irL1 kk x p=x from by rw [HL1.out,if_neg hn]);clear hn;go_wp2_with fail
      go_meet
      exact⟨by rw [HX.out]; exact I2.out,P2.out⟩
     | true =>
      have hy:=of_decide_eq_true HB1.out;have HX:=Lib.hid (show irL1 kk x p={x with f:=wholeR (p.getD 1 [])} from by rw [HL1.out,if_pos hy]);obtain⟨-,rfl,-⟩:=hy;have i1:∀ W,(Instr.indexAt 80 (.slice pa 2 pc) (.int .i64 1)).run Tryz.prog W = .ok (.pointer (some ⟨blk pa,ofs pa+1,none⟩)) W:=fun W=>(run_indexAt_row (w:=W) (cap:=pc) strs80 size9 PP.out (show 1<2 by omega))
      have hc1:=P2.out.row.at (k:=1) (by have:=HPN.out; omega);rw [show strC p 1 = .string ⟨(p.getD 1 []).toArray⟩ from rfl] at hc1;have C1:=Lib.hid (fun W=>whole142_any (p.getD 1 []) W (hpm.out _ (by rw [List.getD_eq_getElem?_getD,List.getElem?_eq_getElem (by have:=HPN.out; omega)]; exact List.getElem_mem _)));generalize wholeR (p.getD 1 [])=n at *;generalize p.getD 1 []=q1 at *;have IA:=Lib.hid (fun j=>I2.out.grow (below_drewN (Below.refl _ _) j));have PA:=Lib.hid (fun j=>P2.out.grow (below_drewN (Below.refl _ _) j));have d0:=cellAt I2.out.ow 0;have f0:=freeAt I2.out.ow 0;simp only [List.getElem?_toArray,List.getElem?_cons_zero] at d0;go_wp2_with (go_at_call 142; refine(C1.out _).mono ?_; rintro e w' ⟨rfl,j,rfl⟩)
      go_meet
      exact⟨by rw [HX.out]; exact((IA.out j).put 0 _).num n,PaI.put (PA.out j) _ 0 _ (by have:=(IA.out j).low; omega)⟩
    case rest =>
     obtain⟨hI,hP⟩:=hcut;have hlen2:IrLen (3 * kk) (irL1 kk x p):=hlen.l1;generalize irL1 kk x p=x1 at *;have I3:=Lib.hid hI;have P3:=Lib.hid hP;clear hI hP I2 P2 HL1 HB1 hlen;obtain⟨b2,hb2⟩:∃ b2,decide (p.getD 0 []=ownerW∧1<pn)=b2:=⟨_,rfl⟩
     have HB2:=Lib.hid hb2;clear hb2;have HL2:=Lib.hid (show irL2 x1 p=if p.getD 0 []=ownerW∧1<pn then {x1 with own:=x1.own ++ [ownN p (pn - 2)],most:=x1.most ++ [wholeR (p.getD 1 [])]} else x1 from by unfold irL2; rw [HPN.out]);go_upto_region 9 with (fail)
     go_cut [56] from 48 to 56 (fun t W=>W=wc∧t = .bool b2)
     case first =>
      have hc:=CR.out _ _ P3.out;have hb:=HB2.out;clear HB2 HL2;generalize p.getD 0 []=p0 at *;by_cases e1:p0=ownerW
      ·unfold ownerW at e1
       by_cases e3:1<pn
       ·rw [decide_eq_true ⟨e1,e3⟩] at hb
        subst hb;subst e1;have t0:(1:Int)<pn:=by omega
        go_wp2_with fail
        go_meet
        exact⟨rfl,rfl⟩
       ·rw [decide_eq_false (fun h=>e3 h.2)] at hb
        subst hb;subst e1;have t0:¬ (1:Int)<pn:=by omega
        go_wp2_with fail
        go_meet
        exact⟨rfl,rfl⟩
      ·rw [decide_eq_false (fun h=>e1 h.1)] at hb
       subst hb;unfold ownerW at e1;go_wp2_with fail
       go_meet
       exact⟨rfl,rfl⟩
     case rest =>
      obtain⟨rfl,rfl⟩:=hcut;go_upto_if 56 with (fail)
      go_cut [7,8,56] from 56 to 85 (fun _ _ _ W=>StP w la ls s1 pa p (irL2 x1 p) W)
      case first =>
       cases b2 with
       | false =>
        have hn:=of_decide_eq_false HB2.out;have HX:=Lib.hid (show irL2 x1 p=x1 from by rw [HL2.out,if_neg hn]);clear hn;go_wp2_with fail
        go_meet
        exact⟨v1,v2,v3,v4,ys,zs,by rw [HX.out]; exact I3.out,P3.out⟩
       | true =>
        have hy:=of_decide_eq_true HB2.out;have HX:=Lib.hid (show irL2 x1 p={x1 with own:=x1.own ++ [ownN p (pn - 2)],most:=x1.most ++ [wholeR (p.getD 1 [])]} from by rw [HL2.out,if_pos hy]);have hpn1:=hy.2;clear hy HB2 HL2;obtain⟨s2,hs2⟩:∃ s2,wc.heap.size=s2:=⟨_,rfl⟩
        have HS2:=Lib.hid (show s1≤s2∧blk pa<s2 ∧ ∀ g,IrD v1 v2 v3 v4 ys zs g→g<s2 from by
         rw [← hs2]
         exact⟨I3.out.size,P3.out.row.old (by have:=HPN.out; omega),fun g hd=>(I3.out.rows.lt hd).2⟩)
        have HZ:=Lib.hid (Nat.le_of_eq hs2.symm);clear hs2;go_wp2_with fail
        go_loopw [7,8] (fun y k wi => ∃ j:Nat,j≤pn - 2∧k = .int .i64 ((j+2:Nat):Int)∧wi.ownsRow s2 3 1 y (ownN p j).length (intsV (ownN p j))∧s2≤wi.heap.size∧RdIr w la ls s1 x1 v1 v2 v3 v4 ys zs wi∧PaI s1 pa p (IrD v1 v2 v3 v4 ys zs) wi) (fun _ k _=>pn - (intOf k).toNat)
        case atStart=>exact⟨0,Nat.zero_le _,rfl,World.ownsRow_nil _ _ _ _,HZ.out,I3.out,P3.out⟩
        case round =>
         clear I3 P3 HZ;obtain⟨j,hj,rfl,hY,hz,hI,hP⟩:=hrel;have Y4:=Lib.hid hY;have I4:=Lib.hid hI;have P4:=Lib.hid hP;have hyl:(ownN p j).length≤2000:=by rw [ownN_len]; omega
         clear hY hI hP;by_cases hjn:j+2<pn
         ·have hi:=fun w=>run_indexAt_row (w:=w) (oa:=pa) (n:=pn) (cap:=pc) strs80 size9 PP.out hjn
          simp only [Nat.mul_one] at hi;have hc:=P4.out.row.at (k:=j+2) (by have:=HPN.out; omega);rw [show strC p (j+2) = .string ⟨(p.getD (j+2) []).toArray⟩ from rfl] at hc;have C1:=Lib.hid (fun W=>whole142_any (p.getD (j+2) []) W (hpm.out _ (by rw [List.getD_eq_getElem?_getD,List.getElem?_eq_getElem (by have:=HPN.out; omega)]; exact List.getElem_mem _)));have HO:=Lib.hid (show ownN p (j+1)=ownN p j ++ [wholeR (p.getD (j+2) [])] from rfl);generalize wholeR (p.getD (j+2) [])=n at *;generalize p.getD (j+2) []=q1 at *;generalize ownN p j=l at *;obtain⟨jj,hjj⟩:∃ jj,j+2=jj:=⟨_,rfl⟩
          have HJ:=Lib.hid hjj;rw [hjj] at hi hc hjn ⊢;clear hjj;go_wp2_with fail;refine(C1.out _).mono ?_;rintro e w' ⟨rfl,i5,rfl⟩;have Y5:=Lib.hid (own_growN Y4.out (below_drewN (Below.refl _ _) i5));have I5:=Lib.hid (I4.out.grow (below_drewN (Below.refl _ _) i5));have P5:=Lib.hid (P4.out.grow (below_drewN (Below.refl _ _) i5));have hz5:s2≤(wr.drewN i5).heap.size:=hz;generalize World.drewN wr i5=w5 at *;clear Y4 I4 P4 C1 hi hc hz;have al:=(Below.refl w5.heap.size w5).alloc (Nat.le_refl _) (.cells #[.int .i64 n] 3);have Y6:=Lib.hid (own_growN Y5.out al);have I6:=Lib.hid (I5.out.grow al);have P6:=Lib.hid (P5.out.grow al);have N6:=Lib.hid (show BoxAt (w5.alloc (.cells #[.int .i64 n] 3)) w5.heap.size [.int .i64 n].toArray 3 from heap_alloc_new _ _);have hz6:=Nat.le_trans hz5 al.size;clear al Y5 I5 P5;obtain⟨i0',z0',by0',hi0,hz0,hz1,hz4,hzs,hz8⟩:=elem3.info;go_wp2_with (at_builtin; refine wpList_appR elem3.slice hi0 hz0 hz1 hz4 hzs (by decide) (by omega) (by rfl) (.tmp 63) (.tmp 69) (by rfl) (by rfl) Y6.out (by rfl) N6.out (by rfl) (fun u hu=>by rw [List.mem_singleton] at hu; rw [hu]; rfl) (by omega) hz6 ?_);intro g2 cap2 w8 h2 h3 h4;have ka:=keep_grown h3;have hyb:∀ k,k<s2→some k≠u7.ownBlock:=fun k hk e=>by have:=(Y6.out.lt k e.symm).1; omega
          have HS3:=HS2.out;have I8:=Lib.hid (I6.out.keep ka (fun k hk=>⟨Nat.lt_of_lt_of_le hk I6.out.size,hyb k (by omega)⟩) fun g hd=>⟨(I6.out.rows.lt hd).2,hyb g (HS3.2.2 g hd)⟩);have P8:=Lib.hid (P6.out.keep ka fun hn=>⟨P6.out.row.old hn,hyb _ HS3.2.1⟩)
          have Y8:=Lib.hid (show w8.ownsRow s2 3 1 (.slice (some ⟨g2,0,none⟩) (l.length+1) cap2) (ownN p (j+1)).length (intsV (ownN p (j+1))) from by
           rw [HO.out,List.length_append,intsV_snoc]
           exact h2)
          have hz8':=Nat.le_trans hz6 ka.size;clear h2 h3 h4 ka hyb HS3 I6 P6 Y6 N6 hi0 hz0 hz1 hz4 hzs hz8;go_wp2_with fail;exact⟨⟨j+1,by have:=HJ.out; omega,by congr 1; have:=HJ.out; omega,Y8.out,hz8',I8.out,P8.out⟩,by simp [intOf]; omega⟩
         ·obtain rfl:j=pn - 2:=by omega
          obtain⟨ya,yc,rfl⟩:=own_slice Y4.out;have i1:∀ W,(Instr.indexAt 80 (.slice pa pn pc) (.int .i64 1)).run Tryz.prog W = .ok (.pointer (some ⟨blk pa,ofs pa+1,none⟩)) W:=fun W=>(run_indexAt_row (w:=W) (cap:=pc) strs80 size9 PP.out hpn1)
          have CQ:=Lib.hid (fun(D:Nat→Prop) W (h:PaI s1 pa p D W)=>(show W.cell? ⟨blk pa,ofs pa+1,none⟩=some (.string ⟨(p.getD 1 []).toArray⟩) from h.row.at (k:=1) (by have:=HPN.out; omega)));have C1:=Lib.hid (fun W=>whole142_any (p.getD 1 []) W (hpm.out _ (by rw [List.getD_eq_getElem?_getD,List.getElem?_eq_getElem (by have:=HPN.out; omega)]; exact List.getElem_mem _)));generalize wholeR (p.getD 1 [])=n at *;generalize p.getD 1 []=q1 at *;generalize ownN p (pn - 2)=l at *;have e2:((pn - 2+2:Nat):Int)=pn:=by omega
          rw [e2];have hol:=hlen2.o;have hml:=hlen2.m;have Y5:=Lib.hid (own_low Y4.out HS2.out.1);have HYV:=Lib.hid (fun g (e:(Value.slice ya l.length yc).ownBlock=some g)=>(Y4.out.lt g e).1);clear e2 Y4;go_upto_region 15 with (fail)
          have I6:=Lib.hid (I4.out.grow (Below.drew (Below.refl wr.heap.size wr)));have P6:=Lib.hid (P4.out.grow (Below.drew (Below.refl wr.heap.size wr)));have Y6:=Lib.hid (own_growN Y5.out (Below.drew (Below.refl wr.heap.size wr)));refine wp_region_stg (S:=(fun w':World=>w'.cell? ⟨blk pa,ofs pa+1,none⟩=some (.string ⟨q1.toArray⟩))) (L:=[(14,(fun w':World=>w'.cell? ⟨w.heap.size+1,1,none⟩=some v1)),(16,(fun w':World=>w'.cell? ⟨w.heap.size+1,2,none⟩=some v2))]) (D:=[(14,1),(16,6)]) (by kernel_rfl) (by kernel_rfl) (CQ.out _ _ P6.out) (by intro e he; simp only [List.mem_cons,List.mem_nil_iff,or_false] at he; rcases he with rfl | rfl; exact cellAt I6.out.ow 1; exact cellAt I6.out.ow 2) (fun hC0 hH0=>?_);generalize World.drew wr=w6 at *;clear I4 P4 Y5;refine tkA (i:=0) (v:=?_) rfl hC0 (Or.inl ⟨by rfl,?_⟩) hH0 (fun hC1 hH1=>?_);rotate_left
          ·(intro w9 hSw; obtain⟨hSw,hLw⟩:=hSw; clear hLw; (try dsimp only at hSw); (go_split_ands; go_simp); (try with_reducible rfl))
          clear hC0 hH0
          try simp only [Act.put,List.setIfInBounds_toArray,List.set_cons_zero,List.set_cons_succ]
          refine tkA (i:=1) (v:=?_) rfl hC1 (Or.inl ⟨by rfl,?_⟩) hH1 (fun hC2 hH2=>?_);rotate_left
          ·(intro w9 hSw; obtain⟨hSw,hLw⟩:=hSw; have hl14:=hLw _ List.mem_cons_self rfl; dsimp only at hl14; clear hLw; (try dsimp only at hSw); (go_split_ands; go_simp); (try with_reducible rfl))
          clear hC1 hH1
          try simp only [Act.put,List.setIfInBounds_toArray,List.set_cons_zero,List.set_cons_succ]
          refine tkA (i:=2) (v:=?_) rfl hC2 (Or.inl ⟨by rfl,?_⟩) hH2 (fun hC3 hH3=>?_);rotate_left
          ·(intro w9 hSw; obtain⟨hSw,hLw⟩:=hSw; clear hLw; (try dsimp only at hSw); (go_split_ands; go_simp); (try with_reducible rfl))
          clear hC2 hH2
          try simp only [Act.put,List.setIfInBounds_toArray,List.set_cons_zero,List.set_cons_succ]
          refine tkA (i:=5) (v:=?_) rfl hC3 (Or.inl ⟨by rfl,?_⟩) hH3 (fun hC4 hH4=>?_);rotate_left
          ·(intro w9 hSw; obtain⟨hSw,hLw⟩:=hSw; clear hLw; (try dsimp only at hSw); (go_split_ands; go_simp); (try with_reducible rfl))
          clear hC3 hH3
          try simp only [Act.put,List.setIfInBounds_toArray,List.set_cons_zero,List.set_cons_succ]
          refine tkA (i:=6) (v:=?_) rfl hC4 (Or.inl ⟨by rfl,?_⟩) hH4 (fun hC5 hH5=>?_);rotate_left
          ·(intro w9 hSw; obtain⟨hSw,hLw⟩:=hSw; have hl16:=hLw _ (List.mem_cons_of_mem _ List.mem_cons_self) rfl; dsimp only at hl16; clear hLw; (try dsimp only at hSw); (go_split_ands; go_simp); (try with_reducible rfl))
          clear hC4 hH4
          try simp only [Act.put,List.setIfInBounds_toArray,List.set_cons_zero,List.set_cons_succ]
          refine tkA (i:=7) (v:=?_) rfl hC5 (Or.inl ⟨by rfl,?_⟩) hH5 (fun hC6 hH6=>?_);rotate_left
          ·(intro w9 hSw; obtain⟨hSw,hLw⟩:=hSw; clear hLw; (try dsimp only at hSw); (go_split_ands; go_simp); (try with_reducible rfl))
          clear hC5 hH5
          try simp only [Act.put,List.setIfInBounds_toArray,List.set_cons_zero,List.set_cons_succ]
          refine tkA (i:=8) (v:=?_) rfl hC6 (Or.inl ⟨by rfl,?_⟩) hH6 (fun hC7 hH7=>?_);rotate_left
          ·(intro w9 hSw; obtain⟨hSw,hLw⟩:=hSw; clear hLw; (try dsimp only at hSw); (go_split_ands; go_simp); (try with_reducible rfl))
          clear hC6 hH6
          try simp only [Act.put,List.setIfInBounds_toArray,List.set_cons_zero,List.set_cons_succ]
          refine tkA (i:=9) (v:=?_) rfl hC7 (Or.inl ⟨by rfl,?_⟩) hH7 (fun hC8 hH8=>?_);rotate_left
          ·(intro w9 hSw; obtain⟨hSw,hLw⟩:=hSw; clear hLw; (try dsimp only at hSw); (go_split_ands; go_simp); (try with_reducible rfl))
          clear hC7 hH7
          try simp only [Act.put,List.setIfInBounds_toArray,List.set_cons_zero,List.set_cons_succ]
          refine onA (i:=3) rfl hC8 (fun K hK=>?_);clear hC8 hH8;have hal:=(Below.refl w6.heap.size w6).alloc (Nat.le_refl _) (.cells #[.slice ya l.length yc] 26);have I7:=Lib.hid (I6.out.grow hal);have P7:=Lib.hid (P6.out.grow hal);have Y7:=Lib.hid (own_growN Y6.out hal);have N7:=Lib.hid (show BoxAt (w6.alloc (.cells #[.slice ya l.length yc] 26)) w6.heap.size #[.slice ya l.length yc] 26 from heap_alloc_new _ _);go_simp;go_wp2_with fail;generalize World.alloc w6 _=w7 at *;clear I6 P6 Y6 hal;refine hK.out _ _ ?_ (fun hC9 hH9=>?_)
          ·exact⟨CQ.out _ _ P7.out,fun e he _=>by simp only [List.mem_cons,List.mem_nil_iff,or_false] at he; rcases he with rfl | rfl; exact cellAt I7.out.ow 1; exact cellAt I7.out.ow 2⟩
          clear hK K
          try simp only [Act.put,List.setIfInBounds_toArray,List.set_cons_zero,List.set_cons_succ]
          refine onA (i:=4) rfl hC9 (fun K hK=>?_);clear hC9 hH9;obtain⟨i5,hi5,hz5,hz6,hz7⟩:=info26;refine step_appRow (w:=w7) owners30 hi5 hz5 hz6 hz7 (by rfl) (by decide) (by decide) (by rfl) (.tmp 72) (.tmp 74) (by rfl) (v:=v1) (xs:=ys) (base:=s1) (n:=x1.own.length) (by rfl) I7.out.rows.o (b:=w6.heap.size) (us:=[.slice ya l.length yc]) (by rfl) N7.out (by rfl) (by intro u hu; rw [List.mem_singleton] at hu; rw [hu]; rfl) (by omega) I7.out.size ?_;intro g cap w8 h2 h3 h4;have HD:=HS2.out;have R8:=IrRows.app1 I7.out.rows Y7.out (by omega) (fun g' e e2=>by have:=HYV.out g' e; have:=HD.2.2 g' (.inr (.inl e2)); omega) h3 h2;have I8:=Lib.hid (I7.out.next h3 (fun k e=>(I7.out.rows.lt (.inl e)).1) R8)
          have P8:=Lib.hid (P7.out.next h3 (D':=IrD (.slice (some ⟨g,0,none⟩) (x1.own.length+1) cap) v2 v3 v4 (ys ++ [.slice ya l.length yc]) zs) (fun k e=>.inl e) (fun g' hd=>by
           rcases hd with e | e | e | e | ⟨y,hy,e⟩ | ⟨y,hy,e⟩
           ·cases e
            rcases h4 with h | h
            ·exact .inl (.inl h)
            ·have:=P7.out.row.old (show 0<p.length by have:=HPN.out; omega)
             exact .inr (show blk pa<g by omega)
           ·exact .inl (.inr (.inl e))
           ·exact .inl (.inr (.inr (.inl e)))
           ·exact .inl (.inr (.inr (.inr (.inl e))))
           ·rcases List.mem_append.1 hy with hy | hy
            ·exact .inl (.inr (.inr (.inr (.inr (.inl ⟨y,hy,e⟩)))))
            ·rw [List.mem_singleton] at hy
             subst hy;have:=HYV.out g' e;exact .inr (by omega)
           ·exact .inl (.inr (.inr (.inr (.inr (.inr ⟨y,hy,e⟩)))))))
          clear h2 h3 h4 R8 I7 P7 Y7 N7 hi5 hz5 hz6 hz7 HD;refine hK.out _ _ ?_ (fun hC10 hH10=>?_)
          ·exact⟨CQ.out _ _ P8.out,fun e he _=>by simp only [List.mem_cons,List.mem_nil_iff,or_false] at he; rcases he with rfl | rfl; exact cellAt I8.out.ow 1; exact cellAt I8.out.ow 2⟩
          clear hK K
          try simp only [Act.put,List.setIfInBounds_toArray,List.set_cons_zero,List.set_cons_succ]
          refine tkA (i:=13) (v:=?_) rfl hC10 (Or.inl ⟨by rfl,?_⟩) hH10 (fun hC11 hH11=>?_);rotate_left
          ·(intro w9 hSw; obtain⟨hSw,hLw⟩:=hSw; clear hLw; (try dsimp only at hSw); (go_split_ands; go_simp); (try with_reducible rfl))
          clear hC10 hH10
          try simp only [Act.put,List.setIfInBounds_toArray,List.set_cons_zero,List.set_cons_succ]
          refine onA (i:=10) rfl hC11 (fun K hK=>?_);clear hC11 hH11;go_simp;refine(C1.out w8).mono ?_;rintro e w9 ⟨rfl,j,rfl⟩;have I9:=Lib.hid (I8.out.grow (below_drewN (Below.refl _ _) j));have P9:=Lib.hid (P8.out.grow (below_drewN (Below.refl _ _) j));generalize World.drewN w8 j=w9 at *;clear I8 P8;go_wp2_with fail;refine hK.out _ _ ?_ (fun hC12 hH12=>?_)
          ·exact⟨CQ.out _ _ P9.out,fun e he _=>by simp only [List.mem_cons,List.mem_nil_iff,or_false] at he; rcases he with rfl | rfl; exact cellAt I9.out.ow 1; exact cellAt I9.out.ow 2⟩
          clear hK K
          try simp only [Act.put,List.setIfInBounds_toArray,List.set_cons_zero,List.set_cons_succ]
          refine onA (i:=11) rfl hC12 (fun K hK=>?_);clear hC12 hH12;have hal:=(Below.refl w9.heap.size w9).alloc (Nat.le_refl _) (.cells #[.int .i64 n] 3);have IA:=Lib.hid (I9.out.grow hal);have PA:=Lib.hid (P9.out.grow hal);have NA:=Lib.hid (show BoxAt (w9.alloc (.cells #[.int .i64 n] 3)) w9.heap.size #[.int .i64 n] 3 from heap_alloc_new _ _);go_simp;go_wp2_with fail;generalize World.alloc w9 _=wA at *;clear I9 P9 hal;refine hK.out _ _ ?_ (fun hC13 hH13=>?_)
          ·exact⟨CQ.out _ _ PA.out,fun e he _=>by simp only [List.mem_cons,List.mem_nil_iff,or_false] at he; rcases he with rfl | rfl; exact cellAt IA.out.ow 1; exact cellAt IA.out.ow 2⟩
          clear hK K
          try simp only [Act.put,List.setIfInBounds_toArray,List.set_cons_zero,List.set_cons_succ]
          refine onA (i:=12) rfl hC13 (fun K hK=>?_);clear hC13 hH13;obtain⟨i5,z5,by5,hi5,hz5,hz6,hz7,hz8,hz9⟩:=elem3.info;refine step_appRow (w:=wA) elem3.slice hi5 hz5 hz6 hz7 hz8 (by decide) (by omega) (by rfl) (.tmp 77) (.tmp 82) (by rfl) (v:=v2) (xs:=intsV x1.most) (base:=s1) (n:=x1.most.length) (by rfl) IA.out.rows.m (b:=w9.heap.size) (us:=[.int .i64 n]) (by rfl) NA.out (by rfl) (by intro u hu; rw [List.mem_singleton] at hu; rw [hu]; rfl) (by omega) IA.out.size ?_;intro g5 cap5 wB h2 h3 h4;have RB:=IrRows.app2 (n:=n) IA.out.rows h3 h2 (fun k e=>by cases e; exact h4);have IB:=Lib.hid (IA.out.next h3 (fun k e=>(IA.out.rows.lt (.inr (.inl e))).1) RB)
          have PB:=Lib.hid (PA.out.next h3 (D':=IrD (.slice (some ⟨g,0,none⟩) (x1.own.length+1) cap) (.slice (some ⟨g5,0,none⟩) (x1.most.length+1) cap5) v3 v4 (ys ++ [.slice ya l.length yc]) zs) (fun k e=>.inr (.inl e)) (fun g' hd=>by
           rcases hd with e | e | e | e | e | e
           ·exact .inl (.inl e)
           ·cases e
            rcases h4 with h | h
            ·exact .inl (.inr (.inl h))
            ·have:=PA.out.row.old (show 0<p.length by have:=HPN.out; omega)
             exact .inr (show blk pa<g5 by omega)
           ·exact .inl (.inr (.inr (.inl e)))
           ·exact .inl (.inr (.inr (.inr (.inl e))))
           ·exact .inl (.inr (.inr (.inr (.inr (.inl e)))))
           ·exact .inl (.inr (.inr (.inr (.inr (.inr e)))))))
          clear h2 h3 h4 RB IA PA NA hi5 hz5 hz6 hz7 hz8 hz9;refine hK.out _ _ ?_ (fun hC14 hH14=>?_)
          ·exact⟨CQ.out _ _ PB.out,fun e he _=>by simp only [List.mem_cons,List.mem_nil_iff,or_false] at he; rcases he with rfl | rfl; exact cellAt IB.out.ow 1; exact cellAt IB.out.ow 2⟩
          clear hK K
          try simp only [Act.put,List.setIfInBounds_toArray,List.set_cons_zero,List.set_cons_succ]
          refine onA (i:=14) rfl hC14 (fun K hK=>?_);clear hC14 hH14;have c0:wB.cell? ⟨w.heap.size+1,1,none⟩=some v1:=cellAt IB.out.ow 1;have f0:=freeAt IB.out.ow 1;have IC:=Lib.hid (IB.out.put 1 (.slice (some ⟨g,0,none⟩) (x1.own.length+1) cap));have PC:=Lib.hid (PB.out.put (w.heap.size+1) 1 (.slice (some ⟨g,0,none⟩) (x1.own.length+1) cap) (by have:=IB.out.low; omega));go_simp;go_wp2_with fail;generalize World.setCell wB _ _=wC at *;clear c0 f0 IB PB;refine hK.out _ _ ?_ (fun hC15 hH15=>?_)
          ·exact⟨CQ.out _ _ PC.out,fun e he h=>by simp only [List.mem_cons,List.mem_nil_iff,or_false] at he; rcases he with rfl | rfl; exact absurd h (by intro hx; exact Bool.false_ne_true (hx.symm.trans (by kernel_rfl))); exact cellAt IC.out.ow 2⟩
          clear hK K
          try simp only [Act.put]
          refine tkA (i:=15) (v:=?_) rfl hC15 (Or.inl ⟨by rfl,?_⟩) hH15 (fun hC16 hH16=>?_);rotate_left
          ·(intro w9 hSw; obtain⟨hSw,hLw⟩:=hSw; clear hLw; (try dsimp only at hSw); (go_split_ands; go_simp); (try with_reducible rfl))
          clear hC15 hH15
          try simp only [Act.put,List.setIfInBounds_toArray,List.set_cons_zero,List.set_cons_succ]
          refine onA (i:=16) rfl hC16 (fun K hK=>?_);clear hC16 hH16;have c0:wC.cell? ⟨w.heap.size+1,2,none⟩=some v2:=cellAt IC.out.ow 2;have f0:=freeAt IC.out.ow 2;have ID:=Lib.hid (IC.out.put 2 (.slice (some ⟨g5,0,none⟩) (x1.most.length+1) cap5));have PD:=Lib.hid (PC.out.put (w.heap.size+1) 2 (.slice (some ⟨g5,0,none⟩) (x1.most.length+1) cap5) (by have:=IC.out.low; omega));go_simp;go_wp2_with fail;generalize World.setCell wC _ _=wD at *;clear c0 f0 IC PC;refine hK.out _ _ ?_ (fun hC17 hH17=>?_)
          ·exact⟨CQ.out _ _ PD.out,fun e he h=>by simp only [List.mem_cons,List.mem_nil_iff,or_false] at he; rcases he with rfl | rfl; (exact absurd h (by intro hx; exact Bool.false_ne_true (hx.symm.trans (by kernel_rfl)))); (exact absurd h (by intro hx; exact Bool.false_ne_true (hx.symm.trans (by kernel_rfl))))⟩
          clear hK K
          try simp only [Act.put]
          refine wpAnyT_done (by kernel_rfl) ?_ _;clear hC17 hH17;go_wp2_with fail
          go_meet
          exact⟨_,_,v3,v4,_,zs,by rw [HX.out]; exact ID.out,PD.out⟩
      case rest =>
       obtain⟨v1,v2,v3,v4,ys,zs,hI,hP⟩:=hcut;have hlen3:IrLen (3 * kk+1) (irL2 x1 p):=hlen2.l2;generalize irL2 x1 p=x2 at *;have I5:=Lib.hid hI;have P5:=Lib.hid hP;clear hI hP I3 P3 HL2 HB2 hlen2;have HL3:=Lib.hid (show irL3 x2 p=if p.getD 0 []=strakeW then {x2 with str:=x2.str ++ [markN p (pn - 1)]} else x2 from by unfold irL3; rw [HPN.out]);have hc:=CR.out _ _ P5.out;generalize hp0:p.getD 0 []=p0 at *;have HP0:=Lib.hid hp0;clear hp0;go_upto_if 89 with (fail)
       clear hc;go_cut [9,10,11,12,13,14,89] from 89 to 127 (fun _ _ _ _ _ _ _ W=>StP w la ls s1 pa p (irL3 x2 p) W)
       case first =>
        by_cases e:p0=strakeW
        ·have HX:=Lib.hid (show irL3 x2 p={x2 with str:=x2.str ++ [markN p (pn - 1)]} from by rw [HL3.out,if_pos e])
         unfold strakeW at e;clear HL3 HP0 CR;subst e;obtain⟨s2,hs2⟩:∃ s2,wc.heap.size=s2:=⟨_,rfl⟩
         have HS2:=Lib.hid (show s1≤s2∧blk pa<s2 ∧ ∀ g,IrD v1 v2 v3 v4 ys zs g→g<s2 from by
          rw [← hs2]
          exact⟨I5.out.size,P5.out.row.old (by have:=HPN.out; omega),fun g hd=>(I5.out.rows.lt hd).2⟩)
         have HZ:=Lib.hid (Nat.le_of_eq hs2.symm);clear hs2;go_wp2_with fail
         go_loopw [9,10,11,12,13,14] (fun y k n r b sp wi => ∃ j:Nat,j≤pn - 1∧k = .int .i64 ((j+1:Nat):Int)∧wi.ownsRow s2 149 3 y (markN p j).length (markVs (markN p j))∧s2≤wi.heap.size∧RdIr w la ls s1 x2 v1 v2 v3 v4 ys zs wi∧PaI s1 pa p (IrD v1 v2 v3 v4 ys zs) wi) (fun _ k _ _ _ _ _=>pn - (intOf k).toNat)
         case atStart=>exact⟨0,Nat.zero_le _,rfl,World.ownsRow_nil _ _ _ _,HZ.out,I5.out,P5.out⟩
         case round =>
          clear I5 P5 HZ;obtain⟨j,hj,rfl,hY,hz,hI,hP⟩:=hrel;have Y4:=Lib.hid hY;have I4:=Lib.hid hI;have P4:=Lib.hid hP;have hyl:(markN p j).length≤2000:=by rw [markN_len]; omega
          clear hY hI hP;by_cases hjn:j+1<pn
          ·have hi:=fun w=>run_indexAt_row (w:=w) (oa:=pa) (n:=pn) (cap:=pc) strs80 size9 PP.out hjn
           simp only [Nat.mul_one] at hi;have hc:=P4.out.row.at (k:=j+1) (by have:=HPN.out; omega);rw [show strC p (j+1) = .string ⟨(p.getD (j+1) []).toArray⟩ from rfl] at hc;have htl:=hpm.out (p.getD (j+1) []) (by rw [List.getD_eq_getElem?_getD,List.getElem?_eq_getElem (by have:=HPN.out; omega)]; exact List.getElem_mem _);have C1:=Lib.hid (fun W=>value141_any (p.getD (j+1) []) W htl);have hsh:=valR_short (p.getD (j+1) []);have C2:=Lib.hid (fun W=>spanOf143_any ((valR (p.getD (j+1) [])).2.drop 1) W (by rw [List.length_drop]; omega));have HMQ:=Lib.hid (show markQ (p.getD (j+1) [])=if 1<(valR (p.getD (j+1) [])).2.length then((valR (p.getD (j+1) [])).1,(spanR ((valR (p.getD (j+1) [])).2.drop 1)).1,(spanR ((valR (p.getD (j+1) [])).2.drop 1)).2) else((valR (p.getD (j+1) [])).1,-1,0) from rfl);have HO:=Lib.hid (show markN p (j+1)=markN p j ++ [markQ (p.getD (j+1) [])] from rfl);generalize markQ (p.getD (j+1) [])=mq at *;generalize valR (p.getD (j+1) [])=vr at *;obtain⟨n,r⟩:=vr;generalize p.getD (j+1) []=t at *;generalize markN p j=l at *;dsimp only at C1 C2 HMQ hsh;obtain⟨jj,hjj⟩:∃ jj,j+1=jj:=⟨_,rfl⟩
           have HJ:=Lib.hid hjj;rw [hjj] at hi hc hjn HO ⊢;clear hjj;go_upto_region 22 with (go_at_call 141; refine(C1.out _).mono ?_; rintro e w3 ⟨rfl,i5,rfl⟩)
           have Y5:=Lib.hid (own_growN Y4.out (below_drewN (Below.refl _ _) i5));have I5:=Lib.hid (I4.out.grow (below_drewN (Below.refl _ _) i5));have P5:=Lib.hid (P4.out.grow (below_drewN (Below.refl _ _) i5));have hz5:s2≤(wr.drewN i5).heap.size:=hz;clear Y4 I4 P4 C1 hi hc hz;generalize World.drewN wr i5=w3 at *;go_upto_region 23 with (fail)
           have B6:=Lib.hid ((Below.refl w3.heap.size w3).alloc (Nat.le_refl _) (.cells #[.int .i64 n,.int .i64 (-1),.int .i64 0] 149));have X6:=Lib.hid (show BoxAt (w3.alloc (.cells #[.int .i64 n,.int .i64 (-1),.int .i64 0] 149)) w3.heap.size #[.int .i64 n,.int .i64 (-1),.int .i64 0] 149 from heap_alloc_new _ _);have HLT:=Lib.hid (lt_of_heap X6.out);generalize World.alloc w3 _=w4 at *;obtain⟨b,hb⟩:∃ b,w3.heap.size=b:=⟨_,rfl⟩
           have HBB:=Lib.hid hb;rw [hb] at B6 X6 HLT ⊢;clear hb;go_upto_if 108 with (fail)
           go_cut [14,108] from 108 to 117 (fun _ _ W=>Below b w3 W∧BoxAt W b #[.int .i64 mq.1,.int .i64 mq.2.1,.int .i64 mq.2.2] 149)
           case first =>
            by_cases hr:1<r.length
            ·have HE:=Lib.hid (show mq=(n,(spanR (r.drop 1)).1,(spanR (r.drop 1)).2) from by rw [HMQ.out,if_pos hr])
             have hr':(1:Int)<r.length:=by omega
             have ht:∀ W,(Instr.sliceAt 9 (.string ⟨r.toArray⟩) (some (.int .i64 1)) none none).run Tryz.prog W = .ok (.string ⟨(r.drop 1).toArray⟩) W:=fun W=>str_tail r 1 (by omega) W;clear HMQ HO hr;generalize spanR (r.drop 1)=lh at *;obtain⟨lo,hi⟩:=lh;generalize r.drop 1=r1 at *;dsimp only at C2 HE;go_upto_region 25 with (go_at_call 143; refine(C2.out _).mono ?_; rintro e w5 ⟨rfl,hb5⟩)
             have B7:=Lib.hid ((Below.trans B6.out (show Below b w4 w5 from⟨hb5.os,hb5.tape,hb5.output,hb5.size,fun k hk=>hb5.block k (by have:=HLT.out; omega)⟩)));have X7:=Lib.hid (BoxAt.grow X6.out hb5);have hsz:=hb5.size;have al:=(Below.refl w5.heap.size w5).alloc (Nat.le_refl _) (.cells #[.int .i64 lo,.int .i64 hi] 128);have hbl:b<w5.heap.size:=by have:=HLT.out; omega
             have B8:=Lib.hid (Below.alloc B7.out (by omega) (.cells #[.int .i64 lo,.int .i64 hi] 128));have X8:=Lib.hid (BoxAt.grow X7.out al);have N8:=Lib.hid (show BoxAt (w5.alloc (.cells #[.int .i64 lo,.int .i64 hi] 128)) w5.heap.size #[.int .i64 lo,.int .i64 hi] 128 from heap_alloc_new _ _);clear al B7 X7 hb5 B6 X6 C2 ht;generalize World.alloc w5 _=w6 at *;generalize w5.heap.size=b5 at *;have q0:=cellAt N8.out 0;have q1:=cellAt N8.out 1;have x0:=cellAt X8.out 0;have x1:=cellAt X8.out 1;have x2':=cellAt X8.out 2;have f0:=freeAt X8.out 0;have f1:=freeAt X8.out 1;have f2:=freeAt X8.out 2;simp only [List.getElem?_toArray,List.getElem?_cons_zero,List.getElem?_cons_succ] at q0 q1 x0 x1 x2';have B9:=Lib.hid (show Below b w3 (((w6.setCell ⟨b,0,none⟩ (.int .i64 n)).setCell ⟨b,1,none⟩ (.int .i64 lo)).setCell ⟨b,2,none⟩ (.int .i64 hi)) from((B8.out.setCell (Nat.le_refl _) _).setCell (Nat.le_refl _) _).setCell (Nat.le_refl _) _);have X9:=Lib.hid (show BoxAt (((w6.setCell ⟨b,0,none⟩ (.int .i64 n)).setCell ⟨b,1,none⟩ (.int .i64 lo)).setCell ⟨b,2,none⟩ (.int .i64 hi)) b #[.int .i64 n,.int .i64 lo,.int .i64 hi] 149 from((X8.out.store 0 _).store 1 _).store 2 _);go_wp2_with fail
             go_meet
             exact⟨B9.out,by rw [HE.out]; exact X9.out⟩
            ·have HE:=Lib.hid (show mq=(n,-1,0) from by rw [HMQ.out,if_neg hr])
             have hr':¬ (1:Int)<r.length:=by omega
             clear HMQ HO hr;go_wp2_with fail
             go_meet
             exact⟨B6.out,by rw [HE.out]; exact X6.out⟩
           case rest =>
            obtain⟨hB,hX⟩:=hcut;have B9:=Lib.hid (show Below w3.heap.size w3 wc from by rw [HBB.out]; exact hB);have X9:=Lib.hid hX;have I9:=Lib.hid (I5.out.grow B9.out);have P9:=Lib.hid (P5.out.grow B9.out);have Y9:=Lib.hid (own_growN Y5.out B9.out);have hz9:s2≤wc.heap.size:=Nat.le_trans hz5 B9.out.size;clear hB hX I5 P5 Y5 B6 X6 C2 HMQ B9 hz5;have al:=(Below.refl wc.heap.size wc).alloc (Nat.le_refl _) (.cells #[.int .i64 mq.1,.int .i64 mq.2.1,.int .i64 mq.2.2] 149);have x0:=cellAt X9.out 0;have x1':=cellAt X9.out 1;have x2':=cellAt X9.out 2;simp only [List.getElem?_toArray,List.getElem?_cons_zero,List.getElem?_cons_succ] at x0 x1' x2';have IA:=Lib.hid (I9.out.grow al);have PA:=Lib.hid (P9.out.grow al);have YA:=Lib.hid (own_growN Y9.out al);have NA:=Lib.hid (show BoxAt (wc.alloc (.cells #[.int .i64 mq.1,.int .i64 mq.2.1,.int .i64 mq.2.2] 149)) wc.heap.size [.int .i64 mq.1,.int .i64 mq.2.1,.int .i64 mq.2.2].toArray 149 from heap_alloc_new _ _);have hzA:=Nat.le_trans hz9 al.size;clear al I9 P9 Y9 X9;obtain⟨i0',hi0,hz0,hz1,hz2⟩:=info149;go_wp2_with (at_builtin; refine wpList_appR marks85 hi0 hz0 hz1 hz2 (by rfl) (by decide) (by decide) (by rfl) (.tmp 118) (.tmp 120) (by rfl) (by rfl) YA.out (by rfl) NA.out (by rfl) (fun u hu=>by simp only [List.mem_cons,List.not_mem_nil,or_false] at hu; rcases hu with rfl | rfl | rfl <;> rfl) (by omega) hzA ?_);intro g2 cap2 w8 h2 h3 h4;have ka:=keep_grown h3;have hyb:∀ k,k<s2→some k≠u9.ownBlock:=fun k hk e=>by have:=(YA.out.lt k e.symm).1; omega
            have HS3:=HS2.out;have I8:=Lib.hid (IA.out.keep ka (fun k hk=>⟨Nat.lt_of_lt_of_le hk IA.out.size,hyb k (by omega)⟩) fun g hd=>⟨(IA.out.rows.lt hd).2,hyb g (HS3.2.2 g hd)⟩);have P8:=Lib.hid (PA.out.keep ka fun hn=>⟨PA.out.row.old hn,hyb _ HS3.2.1⟩)
            have Y8:=Lib.hid (show w8.ownsRow s2 149 3 (.slice (some ⟨g2,0,none⟩) (l.length+1) cap2) (markN p jj).length (markVs (markN p jj)) from by
             rw [HO.out,List.length_append,markVs_snoc]
             exact h2)
            have hz8':=Nat.le_trans hzA ka.size;clear h2 h3 h4 ka hyb HS3 IA PA YA NA hi0 hz0 hz1 hz2;go_wp2_with fail;refine⟨?_,?_⟩
            ·(repeat apply Exists.intro)
             refine⟨?_,rfl⟩;exact⟨jj,by have:=HJ.out; omega,rfl,Y8.out,hz8',I8.out,P8.out⟩
            ·simp [intOf]
             omega
          ·obtain rfl:j=pn - 1:=by omega
           obtain⟨ya,yc,rfl⟩:=own_slice Y4.out;generalize markN p (pn - 1)=l at *;have hol:=hlen3.s;have Y5:=Lib.hid (own_low Y4.out HS2.out.1);have HYV:=Lib.hid (fun g (e:(Value.slice ya l.length yc).ownBlock=some g)=>(Y4.out.lt g e).1);have al:=(Below.refl wr.heap.size wr).alloc (Nat.le_refl _) (.cells #[.slice ya l.length yc] 85);have q3:=cellAt I4.out.ow 3;simp only [List.getElem?_toArray,List.getElem?_cons_zero,List.getElem?_cons_succ] at q3;have IA:=Lib.hid (I4.out.grow al);have PA:=Lib.hid (P4.out.grow al);have YA:=Lib.hid (own_growN Y5.out al);have NA:=Lib.hid (show BoxAt (wr.alloc (.cells #[.slice ya l.length yc] 85)) wr.heap.size [.slice ya l.length yc].toArray 85 from heap_alloc_new _ _);clear al I4 P4 Y4 Y5;obtain⟨i0',hi0,hz0,hz1,hz2⟩:=info85;have e2:((pn - 1+1:Nat):Int)=pn:=by omega
           rw [e2];clear e2;go_wp2_with (at_builtin; refine wpList_appR strakes31 hi0 hz0 hz1 hz2 (by rfl) (by decide) (by decide) (by rfl) (.tmp 123) (.tmp 125) (by rfl) (by rfl) IA.out.rows.s (by rfl) NA.out (by rfl) (fun u hu=>by rw [List.mem_singleton] at hu; rw [hu]; rfl) (by omega) IA.out.size ?_);intro g cap w8 h2 h3 h4;have HD:=HS2.out;have R8:=IrRows.app3 IA.out.rows YA.out (by omega) h3 h2;have I8:=Lib.hid (IA.out.next h3 (fun k e=>(IA.out.rows.lt (.inr (.inr (.inl e)))).1) R8)
           have P8:=Lib.hid (PA.out.next h3 (D':=IrD v1 v2 (.slice (some ⟨g,0,none⟩) (x2.str.length+1) cap) v4 ys (zs ++ [.slice ya l.length yc])) (fun k e=>.inr (.inr (.inl e))) (fun g' hd=>by
            rcases hd with e | e | e | e | e | ⟨y,hy,e⟩
            ·exact .inl (.inl e)
            ·exact .inl (.inr (.inl e))
            ·cases e
             rcases h4 with h | h
             ·exact .inl (.inr (.inr (.inl h)))
             ·have:=PA.out.row.old (show 0<p.length by have:=HPN.out; omega)
              rw [sizeAlloc] at this;exact .inr (show blk pa<g by omega)
            ·exact .inl (.inr (.inr (.inr (.inl e))))
            ·exact .inl (.inr (.inr (.inr (.inr (.inl e)))))
            ·rcases List.mem_append.1 hy with hy | hy
             ·exact .inl (.inr (.inr (.inr (.inr (.inr ⟨y,hy,e⟩)))))
             ·rw [List.mem_singleton] at hy
              subst hy;have:=HYV.out g' e
              exact .inr (by omega)))
           clear h2 h3 h4 R8 IA PA YA NA hi0 hz0 hz1 hz2 HD;have q3:=cellAt I8.out.ow 3;have f3:=freeAt I8.out.ow 3;simp only [List.getElem?_toArray,List.getElem?_cons_zero,List.getElem?_cons_succ] at q3;have I9:=Lib.hid (I8.out.put 3 (.slice (some ⟨g,0,none⟩) (x2.str.length+1) cap));have P9:=Lib.hid (P8.out.put (w.heap.size+1) 3 (.slice (some ⟨g,0,none⟩) (x2.str.length+1) cap) (by have:=I8.out.low; omega));clear I8 P8;go_wp2_with fail
           go_meet
           exact⟨v1,v2,_,v4,ys,_,by rw [HX.out]; exact I9.out,P9.out⟩
        ·have HX:=Lib.hid (show irL3 x2 p=x2 from by rw [HL3.out,if_neg e])
         unfold strakeW at e;go_upto_region 17 with (fail)
         ·rename_i hq _ _
          exact absurd (by simpa using hq) e
         ·go_meet
          exact⟨v1,v2,v3,v4,ys,zs,by rw [HX.out]; exact I5.out,P5.out⟩
       case rest =>
        obtain⟨v1,v2,v3,v4,ys,zs,hI,hP⟩:=hcut
        have hlen4:(irL3 x2 p).cl.length≤100000:=by
         have h1:=hlen3.l3 (p:=p);have:=h1.c;omega
        generalize irL3 x2 p=x3 at *;have I6:=Lib.hid hI;have P6:=Lib.hid hP;clear hI hP I5 P5 HL3 hlen3;obtain⟨b4,hb4⟩:∃ b4,decide (p0=claimW∧pn=3)=b4:=⟨_,rfl⟩
        have HB4:=Lib.hid hb4;clear hb4;have HL4:=Lib.hid (show irL4 x3 p=if p0=claimW∧pn=3 then {x3 with cl:=x3.cl ++ [claimQ p]} else x3 from by unfold irL4; rw [HPN.out,HP0.out]);go_upto_region 28 with (fail)
        go_cut [136] from 128 to 136 (fun t W=>W=wc∧t = .bool b4)
        case first =>
         have hc:=CR.out _ _ P6.out;have hb:=HB4.out;clear HB4 HL4 HP0;by_cases e1:p0=claimW
         ·unfold claimW at e1
          by_cases e3:pn=3
          ·rw [decide_eq_true ⟨e1,e3⟩] at hb
           subst hb;subst e3;subst e1;go_wp2_with fail
           go_meet
           exact⟨rfl,rfl⟩
          ·rw [decide_eq_false (fun h=>e3 h.2)] at hb
           subst hb;subst e1;have t0:((pn:Int)==3)=false:=beq_eq_false_iff_ne.2 (by omega);go_wp2_with fail
           go_meet
           exact⟨rfl,rfl⟩
         ·rw [decide_eq_false (fun h=>e1 h.1)] at hb
          subst hb;unfold claimW at e1;go_wp2_with fail
          go_meet
          exact⟨rfl,rfl⟩
        case rest =>
         obtain⟨rfl,rfl⟩:=hcut
         cases b4 with
         | false =>
          have hn:=of_decide_eq_false HB4.out;have HX:=Lib.hid (show foldN irL ⟨-1,[],[],[],[]⟩ ls (kk+1)=x3 from by rw [HN.out,HL4.out,if_neg hn]);clear hn;go_wp2_with fail;exact⟨⟨kk+1,hlt,by go_num,v1,v2,v3,v4,ys,zs,by rw [HX.out]; exact I6.out⟩,by simp [intOf]; omega⟩
         | true =>
          have hy:=of_decide_eq_true HB4.out;have HX:=Lib.hid (show foldN irL ⟨-1,[],[],[],[]⟩ ls (kk+1)={x3 with cl:=x3.cl ++ [claimQ p]} from by rw [HN.out,HL4.out,if_pos hy]);obtain⟨-,rfl⟩:=hy;clear HL4 HB4 HP0 CR HN i0
          obtain⟨t0,t1,t2,rfl⟩:∃ a b c,p = [a,b,c]:=by
           have h:=HPN.out
           match p,h with
           | [a,b,c],_=>exact⟨a,b,c,rfl⟩
          have HQ:=Lib.hid (show claimQ [t0,t1,t2]=if Lib.hasPrefix t2 [33] then(wholeR t1,wholeR (t2.drop 1),true) else(wholeR t1,wholeR t2,false) from rfl);have hm2:=hpm.out t2 (List.mem_cons_of_mem _ (List.mem_cons_of_mem _ List.mem_cons_self));have C1:=Lib.hid (fun W=>whole142_any t1 W (hpm.out _ (List.mem_cons_of_mem _ List.mem_cons_self)));have C2:=Lib.hid (fun W=>whole142_any t2 W hm2);have C3:=Lib.hid (fun W=>whole142_any (t2.drop 1) W (by rw [List.length_drop]; omega));generalize wholeR t1=a at *;generalize wholeR t2=b at *;generalize wholeR (t2.drop 1)=c at *;generalize claimQ [t0,t1,t2]=q at *;have i1:∀ W,(Instr.indexAt 80 (.slice pa 3 pc) (.int .i64 1)).run Tryz.prog W = .ok (.pointer (some ⟨blk pa,ofs pa+1,none⟩)) W:=fun W=>(run_indexAt_row (w:=W) (cap:=pc) strs80 size9 PP.out (show 1<3 by omega))
          have i2:∀ W,(Instr.indexAt 80 (.slice pa 3 pc) (.int .i64 2)).run Tryz.prog W = .ok (.pointer (some ⟨blk pa,ofs pa+2,none⟩)) W:=fun W=>(run_indexAt_row (w:=W) (cap:=pc) strs80 size9 PP.out (show 2<3 by omega))
          go_upto_region 29 with (fail)
          go_cut [15] from 137 to 145 (fun v W => ∃ bb,v = .pointer (some ⟨bb,0,none⟩)∧(s1≤bb∧blk pa<bb ∧ ∀ g,IrD v1 v2 v3 v4 ys zs g→g<bb)∧BoxAt W bb #[.int .i64 a,.int .i64 b,.bool false] 82∧RdIr w la ls s1 x3 v1 v2 v3 v4 ys zs W∧PaI s1 pa [t0,t1,t2] (IrD v1 v2 v3 v4 ys zs) W)
          case first =>
           have I7:=Lib.hid (I6.out.grow (Below.drew (Below.refl wc.heap.size wc)));have P7:=Lib.hid (P6.out.grow (Below.drew (Below.refl wc.heap.size wc)));refine wp_region_stg (S:=(fun w':World=>w'.cell? ⟨blk pa,ofs pa+1,none⟩=some (.string ⟨t1.toArray⟩)∧w'.cell? ⟨blk pa,ofs pa+2,none⟩=some (.string ⟨t2.toArray⟩))) (L:=[]) (D:=[]) (by kernel_rfl) (by kernel_rfl) ⟨P7.out.row.at (k:=1) (show 1<3 by decide),P7.out.row.at (k:=2) (show 2<3 by decide)⟩ (fun e he=>by cases he) (fun hC0 hH0=>?_);generalize World.drew wc=w7 at *;clear I6 P6;refine tkA (i:=0) (v:=?_) rfl hC0 (Or.inl ⟨by rfl,?_⟩) hH0 (fun hC1 hH1=>?_);rotate_left
           ·(intro w9 hSw; obtain⟨hSw,hLw⟩:=hSw; clear hLw; (try dsimp only at hSw); (go_split_ands; go_simp); (try with_reducible rfl))
           clear hC0 hH0
           try simp only [Act.put,List.setIfInBounds_toArray,List.set_cons_zero,List.set_cons_succ]
           refine tkA (i:=1) (v:=?_) rfl hC1 (Or.inl ⟨by rfl,?_⟩) hH1 (fun hC2 hH2=>?_);rotate_left
           ·(intro w9 hSw; obtain⟨hSw,hLw⟩:=hSw; clear hLw; (try dsimp only at hSw); (go_split_ands; go_simp); (try with_reducible rfl))
           clear hC1 hH1
           try simp only [Act.put,List.setIfInBounds_toArray,List.set_cons_zero,List.set_cons_succ]
           refine tkA (i:=2) (v:=?_) rfl hC2 (Or.inl ⟨by rfl,?_⟩) hH2 (fun hC3 hH3=>?_);rotate_left
           ·(intro w9 hSw; obtain⟨hSw,hLw⟩:=hSw; clear hLw; (try dsimp only at hSw); (go_split_ands; go_simp); (try with_reducible rfl))
           clear hC2 hH2
           try simp only [Act.put,List.setIfInBounds_toArray,List.set_cons_zero,List.set_cons_succ]
           refine tkA (i:=4) (v:=?_) rfl hC3 (Or.inl ⟨by rfl,?_⟩) hH3 (fun hC4 hH4=>?_);rotate_left
           ·(intro w9 hSw; obtain⟨hSw,hLw⟩:=hSw; clear hLw; (try dsimp only at hSw); (go_split_ands; go_simp); (try with_reducible rfl))
           clear hC3 hH3
           try simp only [Act.put,List.setIfInBounds_toArray,List.set_cons_zero,List.set_cons_succ]
           refine tkA (i:=5) (v:=?_) rfl hC4 (Or.inl ⟨by rfl,?_⟩) hH4 (fun hC5 hH5=>?_);rotate_left
           ·(intro w9 hSw; obtain⟨hSw,hLw⟩:=hSw; clear hLw; (try dsimp only at hSw); (go_split_ands; go_simp); (try with_reducible rfl))
           clear hC4 hH4
           try simp only [Act.put,List.setIfInBounds_toArray,List.set_cons_zero,List.set_cons_succ]
           refine tkA (i:=6) (v:=?_) rfl hC5 (Or.inl ⟨by rfl,?_⟩) hH5 (fun hC6 hH6=>?_);rotate_left
           ·(intro w9 hSw; obtain⟨hSw,hLw⟩:=hSw; clear hLw; (try dsimp only at hSw); (go_split_ands; go_simp); (try with_reducible rfl))
           clear hC5 hH5
           try simp only [Act.put,List.setIfInBounds_toArray,List.set_cons_zero,List.set_cons_succ]
           refine wpAnyT_two (i:=3) (j:=9) (o:={dst:=some 140,op:=Op.call {callee:=Callee.value (Operand.func 142),args:=#[Operand.tmp 139],argTypes:=#[9]},type:=3,pos := "read.go:191",after:=#[{on:=2,ground:=Ground.data}],guard:=none}) (o':={dst:=some 15,op:=Op.alloc 82,type:=0,pos := "read.go:191",after:=#[],guard:=none}) (by kernel_rfl) rfl rfl (by kernel_rfl) hC6 (fun K hK=>?_) (fun K hK=>?_)
           ·clear hC6 hH6
            go_simp;refine(C1.out w7).mono ?_;rintro e w8 ⟨rfl,j8,rfl⟩;have I8:=Lib.hid (I7.out.grow (below_drewN (Below.refl _ _) j8));have P8:=Lib.hid (P7.out.grow (below_drewN (Below.refl _ _) j8));generalize World.drewN w7 j8=w8 at *;clear I7 P7;go_wp2_with fail;refine hK.out _ _ ?_ (fun hC7 hH7=>?_)
            ·exact⟨⟨P8.out.row.at (k:=1) (show 1<3 by decide),P8.out.row.at (k:=2) (show 2<3 by decide)⟩,fun e he=>by cases he⟩
            clear hK K
            try simp only [Act.put,List.setIfInBounds_toArray,List.set_cons_zero,List.set_cons_succ]
            refine wpAnyT_two (i:=7) (j:=9) (o:={dst:=some 144,op:=Op.call {callee:=Callee.value (Operand.func 142),args:=#[Operand.tmp 143],argTypes:=#[9]},type:=3,pos := "read.go:191",after:=#[{on:=6,ground:=Ground.data},{on:=3,ground:=Ground.chain}],guard:=none}) (o':={dst:=some 15,op:=Op.alloc 82,type:=0,pos := "read.go:191",after:=#[],guard:=none}) (by kernel_rfl) rfl rfl (by kernel_rfl) hC7 (fun K hK=>?_) (fun K hK=>?_)
            ·clear hC7 hH7
             go_simp;refine(C2.out w8).mono ?_;rintro e w9 ⟨rfl,j9,rfl⟩;have I9:=Lib.hid (I8.out.grow (below_drewN (Below.refl _ _) j9));have P9:=Lib.hid (P8.out.grow (below_drewN (Below.refl _ _) j9));generalize World.drewN w8 j9=w9 at *;clear I8 P8;go_wp2_with fail;refine hK.out _ _ ?_ (fun hC8 hH8=>?_)
             ·exact⟨⟨P9.out.row.at (k:=1) (show 1<3 by decide),P9.out.row.at (k:=2) (show 2<3 by decide)⟩,fun e he=>by cases he⟩
             clear hK K
             try simp only [Act.put,List.setIfInBounds_toArray,List.set_cons_zero,List.set_cons_succ]
             refine tkA (i:=8) (v:=?_) rfl hC8 (Or.inl ⟨by rfl,?_⟩) hH8 (fun hC9 hH9=>?_);rotate_left
             ·(intro w9 hSw; obtain⟨hSw,hLw⟩:=hSw; clear hLw; (try dsimp only at hSw); (go_split_ands; go_simp); (try with_reducible rfl))
             clear hC8 hH8
             try simp only [Act.put,List.setIfInBounds_toArray,List.set_cons_zero,List.set_cons_succ]
             refine onA (i:=9) rfl hC9 (fun K hK=>?_);clear hC9 hH9;have hal:=(Below.refl w9.heap.size w9).alloc (Nat.le_refl _) (.cells #[.int .i64 0,.int .i64 0,.bool false] 82);have HBB:=Lib.hid (show s1≤w9.heap.size∧blk pa<w9.heap.size ∧ ∀ g,IrD v1 v2 v3 v4 ys zs g→g<w9.heap.size from⟨I9.out.size,P9.out.row.old (show 0<3 by decide),fun g hd=>(I9.out.rows.lt hd).2⟩);have I10:=Lib.hid (I9.out.grow hal);have P10:=Lib.hid (P9.out.grow hal);have X10:=Lib.hid (show BoxAt (w9.alloc (.cells #[.int .i64 0,.int .i64 0,.bool false] 82)) w9.heap.size #[.int .i64 0,.int .i64 0,.bool false] 82 from heap_alloc_new _ _);go_simp;go_wp2_with fail;generalize World.alloc w9 _=w10 at *;clear I9 P9 hal;generalize w9.heap.size=bb at *;refine hK.out _ _ ?_ (fun hC10 hH10=>?_)
             ·exact⟨⟨P10.out.row.at (k:=1) (show 1<3 by decide),P10.out.row.at (k:=2) (show 2<3 by decide)⟩,fun e he=>by cases he⟩
             clear hK K
             try simp only [Act.put,List.setIfInBounds_toArray,List.set_cons_zero,List.set_cons_succ]
             refine onA (i:=10) rfl hC10 (fun K hK=>?_);clear hC10 hH10;have x0:=cellAt X10.out 0;have x1':=cellAt X10.out 1;have x2':=cellAt X10.out 2;have f0:=freeAt X10.out 0;have f1:=freeAt X10.out 1;have f2:=freeAt X10.out 2;simp only [List.getElem?_toArray,List.getElem?_cons_zero,List.getElem?_cons_succ] at x0 x1' x2';have hk5:Keep (fun k=>k≠bb) w10 (((w10.setCell ⟨bb,0,none⟩ (.int .i64 a)).setCell ⟨bb,1,none⟩ (.int .i64 b)).setCell ⟨bb,2,none⟩ (.bool false)):=Keep.set (Keep.set (Keep.set (Keep.refl _ _) _ _ _ (fun h=>h rfl)) _ _ _ (fun h=>h rfl)) _ _ _ (fun h=>h rfl);have HB0:=HBB.out;have I11:=Lib.hid (I10.out.keep hk5 (fun k hk=>by omega) (fun g hd=>by have:=HB0.2.2 g hd; omega));have P11:=Lib.hid (P10.out.keep hk5 (fun _=>by omega));have X11:=Lib.hid (show BoxAt (((w10.setCell ⟨bb,0,none⟩ (.int .i64 a)).setCell ⟨bb,1,none⟩ (.int .i64 b)).setCell ⟨bb,2,none⟩ (.bool false)) bb #[.int .i64 a,.int .i64 b,.bool false] 82 from((X10.out.store 0 _).store 1 _).store 2 _);go_simp;go_wp2_with fail;generalize World.setCell (World.setCell (World.setCell w10 _ _) _ _) _ _=w11 at *;clear x0 x1' x2' f0 f1 f2 hk5 HB0 I10 P10 X10;refine hK.out _ _ ?_ (fun hC11 hH11=>?_)
             ·exact⟨⟨P11.out.row.at (k:=1) (show 1<3 by decide),P11.out.row.at (k:=2) (show 2<3 by decide)⟩,fun e he=>by cases he⟩
             clear hK K
             try simp only [Act.put]
             refine wpAnyT_done (by kernel_rfl) ?_ _;clear hC11 hH11;go_wp2_with fail
             go_meet
             exact⟨bb,rfl,HBB.out,X11.out,I11.out,P11.out⟩
            ·clear hC7 hH7
             have hal:=(Below.refl w8.heap.size w8).alloc (Nat.le_refl _) (.cells #[.int .i64 0,.int .i64 0,.bool false] 82);have HBB:=Lib.hid (show s1≤w8.heap.size∧blk pa<w8.heap.size ∧ ∀ g,IrD v1 v2 v3 v4 ys zs g→g<w8.heap.size from⟨I8.out.size,P8.out.row.old (show 0<3 by decide),fun g hd=>(I8.out.rows.lt hd).2⟩);have I12:=Lib.hid (I8.out.grow hal);have P12:=Lib.hid (P8.out.grow hal);have X12:=Lib.hid (show BoxAt (w8.alloc (.cells #[.int .i64 0,.int .i64 0,.bool false] 82)) w8.heap.size #[.int .i64 0,.int .i64 0,.bool false] 82 from heap_alloc_new _ _);go_simp;go_wp2_with fail;generalize World.alloc w8 _=w12 at *;clear I8 P8 hal;generalize w8.heap.size=bb at *;refine hK.out _ _ ?_ (fun hC8 hH8=>?_)
             ·exact⟨⟨P12.out.row.at (k:=1) (show 1<3 by decide),P12.out.row.at (k:=2) (show 2<3 by decide)⟩,fun e he=>by cases he⟩
             clear hK K
             try simp only [Act.put,List.setIfInBounds_toArray,List.set_cons_zero,List.set_cons_succ]
             refine onA (i:=7) rfl hC8 (fun K hK=>?_);clear hC8 hH8;go_simp;refine(C2.out w12).mono ?_;rintro e w13 ⟨rfl,j13,rfl⟩;have I13:=Lib.hid (I12.out.grow (below_drewN (Below.refl _ _) j13));have P13:=Lib.hid (P12.out.grow (below_drewN (Below.refl _ _) j13));have X13:=Lib.hid (show BoxAt (w12.drewN j13) bb #[.int .i64 0,.int .i64 0,.bool false] 82 from X12.out);generalize World.drewN w12 j13=w13 at *;clear I12 P12 X12;go_wp2_with fail;refine hK.out _ _ ?_ (fun hC9 hH9=>?_)
             ·exact⟨⟨P13.out.row.at (k:=1) (show 1<3 by decide),P13.out.row.at (k:=2) (show 2<3 by decide)⟩,fun e he=>by cases he⟩
             clear hK K
             try simp only [Act.put,List.setIfInBounds_toArray,List.set_cons_zero,List.set_cons_succ]
             refine tkA (i:=8) (v:=?_) rfl hC9 (Or.inl ⟨by rfl,?_⟩) hH9 (fun hC10 hH10=>?_);rotate_left
             ·(intro w9 hSw; obtain⟨hSw,hLw⟩:=hSw; clear hLw; (try dsimp only at hSw); (go_split_ands; go_simp); (try with_reducible rfl))
             clear hC9 hH9
             try simp only [Act.put,List.setIfInBounds_toArray,List.set_cons_zero,List.set_cons_succ]
             refine onA (i:=10) rfl hC10 (fun K hK=>?_);clear hC10 hH10;have x0:=cellAt X13.out 0;have x1':=cellAt X13.out 1;have x2':=cellAt X13.out 2;have f0:=freeAt X13.out 0;have f1:=freeAt X13.out 1;have f2:=freeAt X13.out 2;simp only [List.getElem?_toArray,List.getElem?_cons_zero,List.getElem?_cons_succ] at x0 x1' x2';have hk5:Keep (fun k=>k≠bb) w13 (((w13.setCell ⟨bb,0,none⟩ (.int .i64 a)).setCell ⟨bb,1,none⟩ (.int .i64 b)).setCell ⟨bb,2,none⟩ (.bool false)):=Keep.set (Keep.set (Keep.set (Keep.refl _ _) _ _ _ (fun h=>h rfl)) _ _ _ (fun h=>h rfl)) _ _ _ (fun h=>h rfl);have HB0:=HBB.out;have I14:=Lib.hid (I13.out.keep hk5 (fun k hk=>by omega) (fun g hd=>by have:=HB0.2.2 g hd; omega));have P14:=Lib.hid (P13.out.keep hk5 (fun _=>by omega));have X14:=Lib.hid (show BoxAt (((w13.setCell ⟨bb,0,none⟩ (.int .i64 a)).setCell ⟨bb,1,none⟩ (.int .i64 b)).setCell ⟨bb,2,none⟩ (.bool false)) bb #[.int .i64 a,.int .i64 b,.bool false] 82 from((X13.out.store 0 _).store 1 _).store 2 _);go_simp;go_wp2_with fail;generalize World.setCell (World.setCell (World.setCell w13 _ _) _ _) _ _=w14 at *;clear x0 x1' x2' f0 f1 f2 hk5 HB0 I13 P13 X13;refine hK.out _ _ ?_ (fun hC11 hH11=>?_)
             ·exact⟨⟨P14.out.row.at (k:=1) (show 1<3 by decide),P14.out.row.at (k:=2) (show 2<3 by decide)⟩,fun e he=>by cases he⟩
             clear hK K
             try simp only [Act.put]
             refine wpAnyT_done (by kernel_rfl) ?_ _;clear hC11 hH11;go_wp2_with fail
             go_meet
             exact⟨bb,rfl,HBB.out,X14.out,I14.out,P14.out⟩
           ·clear hC6 hH6
            have hal:=(Below.refl w7.heap.size w7).alloc (Nat.le_refl _) (.cells #[.int .i64 0,.int .i64 0,.bool false] 82);have HBB:=Lib.hid (show s1≤w7.heap.size∧blk pa<w7.heap.size ∧ ∀ g,IrD v1 v2 v3 v4 ys zs g→g<w7.heap.size from⟨I7.out.size,P7.out.row.old (show 0<3 by decide),fun g hd=>(I7.out.rows.lt hd).2⟩);have I15:=Lib.hid (I7.out.grow hal);have P15:=Lib.hid (P7.out.grow hal);have X15:=Lib.hid (show BoxAt (w7.alloc (.cells #[.int .i64 0,.int .i64 0,.bool false] 82)) w7.heap.size #[.int .i64 0,.int .i64 0,.bool false] 82 from heap_alloc_new _ _);go_simp;go_wp2_with fail;generalize World.alloc w7 _=w15 at *;clear I7 P7 hal;generalize w7.heap.size=bb at *;refine hK.out _ _ ?_ (fun hC7 hH7=>?_)
            ·exact⟨⟨P15.out.row.at (k:=1) (show 1<3 by decide),P15.out.row.at (k:=2) (show 2<3 by decide)⟩,fun e he=>by cases he⟩
            clear hK K
            try simp only [Act.put,List.setIfInBounds_toArray,List.set_cons_zero,List.set_cons_succ]
            refine onA (i:=3) rfl hC7 (fun K hK=>?_);clear hC7 hH7;go_simp;refine(C1.out w15).mono ?_;rintro e w16 ⟨rfl,j16,rfl⟩;have I16:=Lib.hid (I15.out.grow (below_drewN (Below.refl _ _) j16));have P16:=Lib.hid (P15.out.grow (below_drewN (Below.refl _ _) j16));have X16:=Lib.hid (show BoxAt (w15.drewN j16) bb #[.int .i64 0,.int .i64 0,.bool false] 82 from X15.out);generalize World.drewN w15 j16=w16 at *;clear I15 P15 X15;go_wp2_with fail;refine hK.out _ _ ?_ (fun hC8 hH8=>?_)
            ·exact⟨⟨P16.out.row.at (k:=1) (show 1<3 by decide),P16.out.row.at (k:=2) (show 2<3 by decide)⟩,fun e he=>by cases he⟩
            clear hK K
            try simp only [Act.put,List.setIfInBounds_toArray,List.set_cons_zero,List.set_cons_succ]
            refine onA (i:=7) rfl hC8 (fun K hK=>?_);clear hC8 hH8;go_simp;refine(C2.out w16).mono ?_;rintro e w17 ⟨rfl,j17,rfl⟩;have I17:=Lib.hid (I16.out.grow (below_drewN (Below.refl _ _) j17));have P17:=Lib.hid (P16.out.grow (below_drewN (Below.refl _ _) j17));have X17:=Lib.hid (show BoxAt (w16.drewN j17) bb #[.int .i64 0,.int .i64 0,.bool false] 82 from X16.out);generalize World.drewN w16 j17=w17 at *;clear I16 P16 X16;go_wp2_with fail;refine hK.out _ _ ?_ (fun hC9 hH9=>?_)
            ·exact⟨⟨P17.out.row.at (k:=1) (show 1<3 by decide),P17.out.row.at (k:=2) (show 2<3 by decide)⟩,fun e he=>by cases he⟩
            clear hK K
            try simp only [Act.put,List.setIfInBounds_toArray,List.set_cons_zero,List.set_cons_succ]
            refine tkA (i:=8) (v:=?_) rfl hC9 (Or.inl ⟨by rfl,?_⟩) hH9 (fun hC10 hH10=>?_);rotate_left
            ·(intro w9 hSw; obtain⟨hSw,hLw⟩:=hSw; clear hLw; (try dsimp only at hSw); (go_split_ands; go_simp); (try with_reducible rfl))
            clear hC9 hH9
            try simp only [Act.put,List.setIfInBounds_toArray,List.set_cons_zero,List.set_cons_succ]
            refine onA (i:=10) rfl hC10 (fun K hK=>?_);clear hC10 hH10;have x0:=cellAt X17.out 0;have x1':=cellAt X17.out 1;have x2':=cellAt X17.out 2;have f0:=freeAt X17.out 0;have f1:=freeAt X17.out 1;have f2:=freeAt X17.out 2;simp only [List.getElem?_toArray,List.getElem?_cons_zero,List.getElem?_cons_succ] at x0 x1' x2';have hk5:Keep (fun k=>k≠bb) w17 (((w17.setCell ⟨bb,0,none⟩ (.int .i64 a)).setCell ⟨bb,1,none⟩ (.int .i64 b)).setCell ⟨bb,2,none⟩ (.bool false)):=Keep.set (Keep.set (Keep.set (Keep.refl _ _) _ _ _ (fun h=>h rfl)) _ _ _ (fun h=>h rfl)) _ _ _ (fun h=>h rfl);have HB0:=HBB.out;have I18:=Lib.hid (I17.out.keep hk5 (fun k hk=>by omega) (fun g hd=>by have:=HB0.2.2 g hd; omega));have P18:=Lib.hid (P17.out.keep hk5 (fun _=>by omega));have X18:=Lib.hid (show BoxAt (((w17.setCell ⟨bb,0,none⟩ (.int .i64 a)).setCell ⟨bb,1,none⟩ (.int .i64 b)).setCell ⟨bb,2,none⟩ (.bool false)) bb #[.int .i64 a,.int .i64 b,.bool false] 82 from((X17.out.store 0 _).store 1 _).store 2 _);go_simp;go_wp2_with fail;generalize World.setCell (World.setCell (World.setCell w17 _ _) _ _) _ _=w18 at *;clear x0 x1' x2' f0 f1 f2 hk5 HB0 I17 P17 X17;refine hK.out _ _ ?_ (fun hC11 hH11=>?_)
            ·exact⟨⟨P18.out.row.at (k:=1) (show 1<3 by decide),P18.out.row.at (k:=2) (show 2<3 by decide)⟩,fun e he=>by cases he⟩
            clear hK K
            try simp only [Act.put]
            refine wpAnyT_done (by kernel_rfl) ?_ _;clear hC11 hH11;go_wp2_with fail
            go_meet
            exact⟨bb,rfl,HBB.out,X18.out,I18.out,P18.out⟩
          case rest =>
           obtain⟨bb,rfl,hbb,hX,hI,hP⟩:=hcut;have HB:=Lib.hid hbb;have X7:=Lib.hid hX;have I7:=Lib.hid hI;have P7:=Lib.hid hP;clear hbb hX hI hP I6 P6 C1 C2;go_upto_region 30 with (fail)
           obtain⟨b5,eb5⟩:∃ b5,Lib.hasPrefix t2 [33]=b5:=⟨_,rfl⟩
           have HB5:=Lib.hid eb5;rw [eb5] at HQ;go_cut [157] from 146 to 157 (fun t W=>W=wc∧t = .bool b5)
           case first =>
            have hc:=P7.out.row.at (k:=2) (show 2<3 by decide);rw [show strC [t0,t1,t2] 2 = .string ⟨t2.toArray⟩ from rfl] at hc;clear HB5
            cases t2 with
            | nil =>
             have:b5=false:=eb5.symm;subst this;clear eb5;go_wp2_with fail
             go_meet
             exact⟨rfl,rfl⟩
            | cons c0 r0 =>
             have hi:∀ W,(Instr.index 9 (.string ⟨(c0::r0).toArray⟩) (.int .i64 0)).run Tryz.prog W = .ok (.int .u8 (c0.toNat:Nat)) W:=fun W=>str_index (c0::r0) 0 (by simp) W;have hl0:0<(c0::r0).length:=by simp
             have hl0':(0:Int)<((c0::r0).length:Nat):=by omega
             by_cases hc0:c0=33
             ·have:b5=true:=by rw [← eb5,hc0]; simp [Lib.hasPrefix,List.isPrefixOf]
              subst this;have tt:((c0.toNat:Int)==33)=true:=by rw [hc0]; rfl
              clear hc0 eb5;generalize c0.toNat=m at *;go_wp2_with fail
              go_meet
              exact⟨rfl,rfl⟩
             ·have:b5=false:=by
               rw [← eb5];exact prefix1 fun c' r' e=>by cases e; exact hc0
              subst this
              have tt:((c0.toNat:Int)==33)=false:=by
               rw [beq_eq_false_iff_ne];intro e;exact hc0 (UInt8.toNat_inj.1 (show c0.toNat=33 by omega))
              clear hc0 eb5;generalize c0.toNat=m at *;go_wp2_with fail
              go_meet
              exact⟨rfl,rfl⟩
           case rest =>
            obtain⟨rfl,rfl⟩:=hcut;go_upto_if 157 with (fail)
            go_cut [157] from 157 to 165 (fun _ W=>BoxAt W bb #[.int .i64 q.1,.int .i64 q.2.1,.bool q.2.2] 82∧RdIr w la ls s1 x3 v1 v2 v3 v4 ys zs W∧PaI s1 pa [t0,t1,t2] (IrD v1 v2 v3 v4 ys zs) W)
            case first =>
             cases b5 with
             | false =>
              have HE:=Lib.hid (show q=(a,b,false) from HQ.out);clear HQ;go_wp2_with fail
              go_meet
              exact⟨by rw [HE.out]; exact X7.out,I7.out,P7.out⟩
             | true =>
              have HE:=Lib.hid (show q=(a,c,true) from HQ.out)
              have hl1:1≤t2.length:=by
               cases t2 with
               | nil=>cases eb5
               | cons=>simp
              have ht:∀ W,(Instr.sliceAt 9 (.string ⟨t2.toArray⟩) (some (.int .i64 1)) none none).run Tryz.prog W = .ok (.string ⟨(t2.drop 1).toArray⟩) W:=fun W=>str_tail t2 1 hl1 W;clear HQ eb5 hl1 HB5;generalize t2.drop 1=t3 at *;go_upto_region 31 with (fail)
              have I8:=Lib.hid (I7.out.grow (Below.drew (Below.refl wc.heap.size wc)));have P8:=Lib.hid (P7.out.grow (Below.drew (Below.refl wc.heap.size wc)));have X8:=Lib.hid (BoxAt.grow X7.out (Below.drew (Below.refl wc.heap.size wc)));refine wp_region_stg (S:=(fun w':World=>w'.cell? ⟨blk pa,ofs pa+2,none⟩=some (.string ⟨t2.toArray⟩))) (L:=[(8,(fun w':World=>w'.cell? ⟨bb,0,none⟩=some (.int .i64 a)))]) (D:=[(8,1)]) (by kernel_rfl) (by kernel_rfl) (P8.out.row.at (k:=2) (show 2<3 by decide)) (by intro e he; simp only [List.mem_cons,List.mem_nil_iff,or_false] at he; subst he; exact cellAt X8.out 0) (fun hC0 hH0=>?_);generalize World.drew wc=w8 at *;clear I7 P7 X7;refine tkA (i:=0) (v:=?_) rfl hC0 (Or.inl ⟨by rfl,?_⟩) hH0 (fun hC1 hH1=>?_);rotate_left
              ·(intro w9 hSw; obtain⟨hSw,hLw⟩:=hSw; clear hLw; (try dsimp only at hSw); (go_split_ands; go_simp); (try with_reducible rfl))
              clear hC0 hH0
              try simp only [Act.put,List.setIfInBounds_toArray,List.set_cons_zero,List.set_cons_succ]
              refine tkA (i:=1) (v:=?_) rfl hC1 (Or.inl ⟨by rfl,?_⟩) hH1 (fun hC2 hH2=>?_);rotate_left
              ·(intro w9 hSw; obtain⟨hSw,hLw⟩:=hSw; have hl8:=hLw _ List.mem_cons_self rfl; dsimp only at hl8; clear hLw; (try dsimp only at hSw); (go_split_ands; go_simp); (try with_reducible rfl))
              clear hC1 hH1
              try simp only [Act.put,List.setIfInBounds_toArray,List.set_cons_zero,List.set_cons_succ]
              refine tkA (i:=2) (v:=?_) rfl hC2 (Or.inl ⟨by rfl,?_⟩) hH2 (fun hC3 hH3=>?_);rotate_left
              ·(intro w9 hSw; obtain⟨hSw,hLw⟩:=hSw; clear hLw; (try dsimp only at hSw); (go_split_ands; go_simp); (try with_reducible rfl))
              clear hC2 hH2
              try simp only [Act.put,List.setIfInBounds_toArray,List.set_cons_zero,List.set_cons_succ]
              refine tkA (i:=3) (v:=?_) rfl hC3 (Or.inl ⟨by rfl,?_⟩) hH3 (fun hC4 hH4=>?_);rotate_left
              ·(intro w9 hSw; obtain⟨hSw,hLw⟩:=hSw; clear hLw; (try dsimp only at hSw); (go_split_ands; go_simp); (try with_reducible rfl))
              clear hC3 hH3
              try simp only [Act.put,List.setIfInBounds_toArray,List.set_cons_zero,List.set_cons_succ]
              refine tkA (i:=4) (v:=?_) rfl hC4 (Or.inl ⟨by rfl,?_⟩) hH4 (fun hC5 hH5=>?_);rotate_left
              ·(intro w9 hSw; obtain⟨hSw,hLw⟩:=hSw; clear hLw; (try dsimp only at hSw); (go_split_ands; go_simp); (try with_reducible rfl))
              clear hC4 hH4
              try simp only [Act.put,List.setIfInBounds_toArray,List.set_cons_zero,List.set_cons_succ]
              refine tkA (i:=5) (v:=?_) rfl hC5 (Or.inl ⟨by rfl,?_⟩) hH5 (fun hC6 hH6=>?_);rotate_left
              ·(intro w9 hSw; obtain⟨hSw,hLw⟩:=hSw; clear hLw; (try dsimp only at hSw); (go_split_ands; go_simp); (try with_reducible rfl))
              clear hC5 hH5
              try simp only [Act.put,List.setIfInBounds_toArray,List.set_cons_zero,List.set_cons_succ]
              refine onA (i:=6) rfl hC6 (fun K hK=>?_);clear hC6 hH6;go_simp;refine(C3.out w8).mono ?_;rintro e w9 ⟨rfl,j9,rfl⟩;have I9:=Lib.hid (I8.out.grow (below_drewN (Below.refl _ _) j9));have P9:=Lib.hid (P8.out.grow (below_drewN (Below.refl _ _) j9));have X9:=Lib.hid (show BoxAt (w8.drewN j9) bb #[.int .i64 a,.int .i64 b,.bool false] 82 from X8.out);generalize World.drewN w8 j9=w9 at *;clear I8 P8 X8;go_wp2_with fail;refine hK.out _ _ ?_ (fun hC7 hH7=>?_)
              ·exact⟨P9.out.row.at (k:=2) (show 2<3 by decide),fun e he _=>by simp only [List.mem_cons,List.mem_nil_iff,or_false] at he; subst he; exact cellAt X9.out 0⟩
              clear hK K
              try simp only [Act.put,List.setIfInBounds_toArray,List.set_cons_zero,List.set_cons_succ]
              refine tkA (i:=7) (v:=?_) rfl hC7 (Or.inl ⟨by rfl,?_⟩) hH7 (fun hC8 hH8=>?_);rotate_left
              ·(intro w9 hSw; obtain⟨hSw,hLw⟩:=hSw; clear hLw; (try dsimp only at hSw); (go_split_ands; go_simp); (try with_reducible rfl))
              clear hC7 hH7
              try simp only [Act.put,List.setIfInBounds_toArray,List.set_cons_zero,List.set_cons_succ]
              refine onA (i:=8) rfl hC8 (fun K hK=>?_);clear hC8 hH8;have x0:=cellAt X9.out 0;have x1':=cellAt X9.out 1;have x2':=cellAt X9.out 2;have f0:=freeAt X9.out 0;have f1:=freeAt X9.out 1;have f2:=freeAt X9.out 2;simp only [List.getElem?_toArray,List.getElem?_cons_zero,List.getElem?_cons_succ] at x0 x1' x2';have hk5:Keep (fun k=>k≠bb) w9 (((w9.setCell ⟨bb,0,none⟩ (.int .i64 a)).setCell ⟨bb,1,none⟩ (.int .i64 c)).setCell ⟨bb,2,none⟩ (.bool true)):=Keep.set (Keep.set (Keep.set (Keep.refl _ _) _ _ _ (fun h=>h rfl)) _ _ _ (fun h=>h rfl)) _ _ _ (fun h=>h rfl);have HB0:=HB.out;have IA:=Lib.hid (I9.out.keep hk5 (fun k hk=>by omega) (fun g hd=>by have:=HB0.2.2 g hd; omega));have PA:=Lib.hid (P9.out.keep hk5 (fun _=>by omega));have XA:=Lib.hid (show BoxAt (((w9.setCell ⟨bb,0,none⟩ (.int .i64 a)).setCell ⟨bb,1,none⟩ (.int .i64 c)).setCell ⟨bb,2,none⟩ (.bool true)) bb #[.int .i64 a,.int .i64 c,.bool true] 82 from((X9.out.store 0 _).store 1 _).store 2 _);go_simp;go_wp2_with fail;generalize World.setCell (World.setCell (World.setCell w9 _ _) _ _) _ _=wA at *;clear x0 x1' x2' f0 f1 f2 hk5 HB0 I9 P9 X9;refine hK.out _ _ ?_ (fun hC9 hH9=>?_)
              ·exact⟨PA.out.row.at (k:=2) (show 2<3 by decide),fun e he h=>by simp only [List.mem_cons,List.mem_nil_iff,or_false] at he; subst he; exact absurd h (by intro hx; exact Bool.false_ne_true (hx.symm.trans (by kernel_rfl)))⟩
              clear hK K
              try simp only [Act.put]
              refine wpAnyT_done (by kernel_rfl) ?_ _;clear hC9 hH9;go_wp2_with fail
              go_meet
              exact⟨by rw [HE.out]; exact XA.out,IA.out,PA.out⟩
            case rest =>
             obtain⟨hX,hI,hP⟩:=hcut;have X8:=Lib.hid hX;have I8:=Lib.hid hI;have P8:=Lib.hid hP;clear hX hI hP X7 I7 P7 C3 eb5;have al:=(Below.refl wc.heap.size wc).alloc (Nat.le_refl _) (.cells #[.int .i64 q.1,.int .i64 q.2.1,.bool q.2.2] 82);have q4:=cellAt I8.out.ow 4;have y0:=cellAt X8.out 0;have y1:=cellAt X8.out 1;have y2:=cellAt X8.out 2;simp only [List.getElem?_toArray,List.getElem?_cons_zero,List.getElem?_cons_succ] at q4 y0 y1 y2;have IA:=Lib.hid (I8.out.grow al);have PA:=Lib.hid (P8.out.grow al);have NA:=Lib.hid (show BoxAt (wc.alloc (.cells #[.int .i64 q.1,.int .i64 q.2.1,.bool q.2.2] 82)) wc.heap.size [.int .i64 q.1,.int .i64 q.2.1,.bool q.2.2].toArray 82 from heap_alloc_new _ _);clear al I8 P8 X8;obtain⟨i0',hi0,hz0,hz1,hz2⟩:=info82;go_wp2_with (at_builtin; refine wpList_appR claims32 hi0 hz0 hz1 hz2 (by rfl) (by decide) (by decide) (by rfl) (.tmp 167) (.tmp 169) (by rfl) (by rfl) IA.out.rows.c (by rfl) NA.out (by rfl) (fun u hu=>by simp only [List.mem_cons,List.not_mem_nil,or_false] at hu; rcases hu with rfl | rfl | rfl <;> rfl) (by omega) IA.out.size ?_);intro g cap w8 h2 h3 h4;have I9:=Lib.hid (IA.out.next h3 (fun k e=>(IA.out.rows.lt (.inr (.inr (.inr (.inl e))))).1) (IrRows.app4 (c:=q) IA.out.rows h3 h2));clear h2 h3 h4 IA PA NA hi0 hz0 hz1 hz2 q4 y0 y1 y2;have q4:=cellAt I9.out.ow 4;have f4:=freeAt I9.out.ow 4;simp only [List.getElem?_toArray,List.getElem?_cons_zero,List.getElem?_cons_succ] at q4;have IB:=Lib.hid (I9.out.put 4 (.slice (some ⟨g,0,none⟩) (x3.cl.length+1) cap));clear I9;go_wp2_with fail;exact⟨⟨kk+1,hlt,by go_num,v1,v2,v3,_,ys,zs,by rw [HX.out]; exact IB.out⟩,by simp [intOf]; omega⟩
  ·obtain rfl:kk=ls.length:=by omega
   have HRS2:=HRS.out;generalize foldN irL ⟨-1,[],[],[],[]⟩ ls ls.length=x at *;subst HRS2;obtain⟨oa,ma,sa,ca,oc,mc,sc,cc,op,sp,ok,sk,rfl,rfl,rfl,rfl,hA,hBk⟩:=I1.out.rows.irons ⟨by have:=hlen.o; omega,by have:=hlen.m; omega,by have:=hlen.s; omega,by have:=hlen.c; omega⟩;have low:=I1.out.low;have q0:=cellAt I1.out.ow 0;have q1:=cellAt I1.out.ow 1;have q2:=cellAt I1.out.ow 2;have q3:=cellAt I1.out.ow 3;have q4:=cellAt I1.out.ow 4;have g0:=cellAt I1.out.r 0;have g1:=cellAt I1.out.r 1;have g2:=cellAt I1.out.r 2;have g3:=cellAt I1.out.r 3;have g4:=cellAt I1.out.r 4;have f0:=freeAt I1.out.r 0;have f1:=freeAt I1.out.r 1;have f2:=freeAt I1.out.r 2;have f3:=freeAt I1.out.r 3;have f4:=freeAt I1.out.r 4;simp only [List.getElem?_toArray,List.getElem?_cons_zero,List.getElem?_cons_succ] at q0 q1 q2 q3 q4 g0 g1 g2 g3 g4;obtain⟨wz,hwz⟩:∃ wz,((((wr.setCell ⟨w.heap.size,0,none⟩ (.int .i64 (ironR s).f)).setCell ⟨w.heap.size,1,none⟩ (.slice oa (toV (ironR s)).on oc)).setCell ⟨w.heap.size,2,none⟩ (.slice ma (toV (ironR s)).mn mc)).setCell ⟨w.heap.size,3,none⟩ (.slice sa (toV (ironR s)).sn sc)).setCell ⟨w.heap.size,4,none⟩ (.slice ca (toV (ironR s)).cn cc)=wz:=⟨_,rfl⟩
   have X9:=Lib.hid (show BoxAt wz w.heap.size #[.int .i64 (ironR s).f,.slice oa (toV (ironR s)).on oc,.slice ma (toV (ironR s)).mn mc,.slice sa (toV (ironR s)).sn sc,.slice ca (toV (ironR s)).cn cc] 34 from by rw [← hwz]; exact((((I1.out.r.store 0 _).store 1 _).store 2 _).store 3 _).store 4 _)
   have hk5:Keep (fun k=>k≠w.heap.size) wr wz:=by
    rw [← hwz];exact Keep.set (Keep.set (Keep.set (Keep.set (Keep.set (Keep.refl _ _) _ _ _ (fun h=>h rfl)) _ _ _ (fun h=>h rfl)) _ _ _ (fun h=>h rfl)) _ _ _ (fun h=>h rfl)) _ _ _ (fun h=>h rfl)
   have S9:=Lib.hid (hA.keep hk5 (hBk.imp fun b hb=>by omega));have B9:=Lib.hid (show Below w.heap.size w wz from by rw [← hwz]; exact((((I1.out.bel.setCell (Nat.le_refl _) _).setCell (Nat.le_refl _) _).setCell (Nat.le_refl _) _).setCell (Nat.le_refl _) _).setCell (Nat.le_refl _) _);have HWZ:=Lib.hid hwz;have NB:=Lib.hid (hBk.imp (Q:=fun b=>w.heap.size≤b) fun b hb=>by omega);clear hA hBk low I1 hlen HRS hwz hk5;go_wp2_with fail;rw [HWZ.out];have c0:=cellAt X9.out 0;have c1:=cellAt X9.out 1;have c2:=cellAt X9.out 2;have c3:=cellAt X9.out 3;have c4:=cellAt X9.out 4;simp only [List.getElem?_toArray,List.getElem?_cons_zero,List.getElem?_cons_succ] at c0 c1 c2 c3 c4;exact bodyPost_ret (v:=.agg #[.int .i64 (ironR s).f,.slice oa (toV (ironR s)).on oc,.slice ma (toV (ironR s)).mn mc,.slice sa (toV (ironR s)).sn sc,.slice ca (toV (ironR s)).cn cc]) (by simp [results,Tryz.results84,go_sem,c0,c1,c2,c3,c4]) rfl ⟨oa,ma,sa,ca,oc,mc,sc,cc,op,sp,ok,sk,rfl,S9.out,B9.out,NB.out⟩
end Go.Proofs.YtclbmlmlhiiaeaaGreatDoor
