/- Walks: a hull is read by the reference. -/
import Derived.Test.YtclbmlmlhiiaeaaGreatDoorQJ6
namespace Go.Proofs.YtclbmlmlhiiaeaaGreatDoor
open Go.RowKit
theorem RdS.box2{w W W2:World}{la:Option Addr}{ls:List (List UInt8)}{s1:Nat}{bt:TypeId}{rb ob:Array Value}{R:List RowD}(h:RdS w la ls s1 bt rb ob R W){d:RowD}(hd:d ∈ R)(hg:W.grownBy W2 d.v.ownBlock):BoxAt W2 (w.heap.size+1) ob bt :=
 (keep_grown hg).box h.ow ⟨lt_of_heap h.ow,fun e=>by have:=((h.rows d hd).lt _ e.symm).1; have:=h.low; omega⟩
section
variable {w W W2:World} {la pa:Option Addr} {ls p:List (List UInt8)} {s1 g cap:Nat} {x:HullV} {v1 v2:Value}
theorem RdHull.sea(h:RdHull w la ls s1 x v1 v2 W)(hp:PAt s1 pa p (hullD x v1 v2) W){y:Sea}(h2:W2.ownsRow s1 142 3 (.slice (some ⟨g,0,none⟩) (x.s.length+1) cap) (x.s.length+1) (seaV x.s ++ [.int .i64 y.h,.int .i64 y.s,.int .i64 y.m]))
  (h3:W.grownBy W2 v1.ownBlock) (h4:v1.ownBlock=some g∨g=W.heap.size) :
  RdHull w la ls s1 ⟨x.s ++ [y],x.u⟩ (.slice (some ⟨g,0,none⟩) (x.s.length+1) cap) v2 (W2.setCell ⟨w.heap.size+1,0,none⟩ (.slice (some ⟨g,0,none⟩) (x.s.length+1) cap)) ∧
   PAt s1 pa p (hullD ⟨x.s ++ [y],x.u⟩ (.slice (some ⟨g,0,none⟩) (x.s.length+1) cap) v2) (W2.setCell ⟨w.heap.size+1,0,none⟩ (.slice (some ⟨g,0,none⟩) (x.s.length+1) cap))∧BoxAt W2 (w.heap.size+1) #[v1,v2] 25:=by
 have hd:(⟨142,3,x.s.length,v1,seaV x.s⟩:RowD) ∈ hullD x v1 v2:=List.mem_cons_self
 have hw:RowD.At s1 W2 ⟨142,3,(x.s ++ [y]).length,.slice (some ⟨g,0,none⟩) (x.s.length+1) cap,seaV (x.s ++ [y])⟩:=by
  unfold RowD.At;dsimp only;rw [List.length_append,seaV_snoc];exact h2
 have hR:∀ e,e ∈ hullD ⟨x.s ++ [y],x.u⟩ (.slice (some ⟨g,0,none⟩) (x.s.length+1) cap) v2→e=⟨142,3,(x.s ++ [y]).length,.slice (some ⟨g,0,none⟩) (x.s.length+1) cap,seaV (x.s ++ [y])⟩∨(e ∈ hullD x v1 v2∧e.E≠142):=fun e he=>by
  simp only [hullD,List.mem_cons,List.not_mem_nil,or_false] at he ⊢;rcases he with rfl | rfl
  ·exact .inl rfl
  ·exact .inr ⟨.inr rfl,(show(144:Nat)≠142 by decide)⟩
 exact⟨RdS.next h hd h3 hw hR 0,PAt.next hp h hd h3 (fun k e=>by cases e; exact h4) hR 0,RdS.box2 h hd h3⟩
theorem RdHull.sou(h:RdHull w la ls s1 x v1 v2 W)(hp:PAt s1 pa p (hullD x v1 v2) W){y:Sou}(h2:W2.ownsRow s1 144 4 (.slice (some ⟨g,0,none⟩) (x.u.length+1) cap) (x.u.length+1) (souV x.u ++ [.int .i64 y.d,.int .i64 y.l,.int .i64 y.lo,.int .i64 y.hi]))
  (h3:W.grownBy W2 v2.ownBlock) (h4:v2.ownBlock=some g∨g=W.heap.size) :
  RdHull w la ls s1 ⟨x.s,x.u ++ [y]⟩ v1 (.slice (some ⟨g,0,none⟩) (x.u.length+1) cap) (W2.setCell ⟨w.heap.size+1,1,none⟩ (.slice (some ⟨g,0,none⟩) (x.u.length+1) cap)) ∧
   PAt s1 pa p (hullD ⟨x.s,x.u ++ [y]⟩ v1 (.slice (some ⟨g,0,none⟩) (x.u.length+1) cap)) (W2.setCell ⟨w.heap.size+1,1,none⟩ (.slice (some ⟨g,0,none⟩) (x.u.length+1) cap))∧BoxAt W2 (w.heap.size+1) #[v1,v2] 25:=by
 have hd:(⟨144,4,x.u.length,v2,souV x.u⟩:RowD) ∈ hullD x v1 v2:=List.mem_cons_of_mem _ List.mem_cons_self
 have hw:RowD.At s1 W2 ⟨144,4,(x.u ++ [y]).length,.slice (some ⟨g,0,none⟩) (x.u.length+1) cap,souV (x.u ++ [y])⟩:=by
  unfold RowD.At;dsimp only;rw [List.length_append,souV_snoc];exact h2
 have hR:∀ e,e ∈ hullD ⟨x.s,x.u ++ [y]⟩ v1 (.slice (some ⟨g,0,none⟩) (x.u.length+1) cap)→e=⟨144,4,(x.u ++ [y]).length,.slice (some ⟨g,0,none⟩) (x.u.length+1) cap,souV (x.u ++ [y])⟩∨(e ∈ hullD x v1 v2∧e.E≠144):=fun e he=>by
  simp only [hullD,List.mem_cons,List.not_mem_nil,or_false] at he ⊢;rcases he with rfl | rfl
  ·exact .inr ⟨.inl rfl,(show(142:Nat)≠144 by decide)⟩
  ·exact .inl rfl
 exact⟨RdS.next h hd h3 hw hR 1,PAt.next hp h hd h3 (fun k e=>by cases e; exact h4) hR 1,RdS.box2 h hd h3⟩
end
set_option maxRecDepth 100000 in
set_option maxHeartbeats 8000000 in
theorem hull80_any(s:List UInt8)(w:World)(hs:s.length≤2000) :
  Calls Tryz.prog 80 #[.string ⟨s.toArray⟩] w fun e w' => ∃ sa sc ua uc,e = .returned (.agg #[.slice sa (hullR s).s.length sc,.slice ua (hullR s).u.length uc]) ∧
   SeasAt w' sa (hullR s).s.length (seaOf (hullR s).s)∧SousAt w' ua (hullR s).u.length (souOf (hullR s).u)∧Below w.heap.size w w'∧(0<(hullR s).s.length→w.heap.size≤blk sa)∧(0<(hullR s).u.length→w.heap.size≤blk ua):=by
 obtain⟨z0,z1,hs0,hB⟩:=blocks2 (show(w.alloc (.cells #[.slice none 0 0,.slice none 0 0] 25)).alloc (.cells #[.slice none 0 0,.slice none 0 0] 25)=_ from rfl);have B0:=Lib.hid hB;have Z0:=Lib.hid z0;have Z1:=Lib.hid z1;have HS0:=Lib.hid hs0;have CL:=Lib.hid (fun W=>lines139_any s W hs);have hll:=linesL_len s;have HM:=Lib.hid (fun l (h:l ∈ linesL s)=>Nat.le_trans (linesL_mem h) hs);have HF:=Lib.hid (fun k (hk:k≤(linesL s).length)=>fold_hull (ls:=linesL s) (n:=2000) HM.out k hk);have HRS:=Lib.hid (show hullR s=foldN hullLn ⟨[],[]⟩ (linesL s) (linesL s).length from rfl);unfold PartsPost at CL;clear z0 z1 hB hs0;generalize linesL s=ls at *;go_enter Tryz.func80,Tryz.ntmps80;go_upto_region 2 with (fail)
 generalize World.alloc (World.alloc w _) _=W0 at *;go_wp2_with (go_at_call 139; refine(CL.out _).mono ?_);rintro e w1 ⟨la,lc,rfl,hr,hl,-,hb1⟩
 have I0:=Lib.hid (show RdHull w la ls w1.heap.size (foldN hullLn ⟨[],[]⟩ ls 0) (.slice none 0 0) (.slice none 0 0) w1 from
  ⟨B0.out.next hb1,hr,fun h=>⟨by have:=hl h; have:=HS0.out; omega,hr.old h⟩,BoxAt.grow Z0.out hb1,BoxAt.grow Z1.out hb1,fun d hd=>by
   simp only [hullD,List.mem_cons,List.not_mem_nil,or_false] at hd
   rcases hd with rfl | rfl <;> exact World.ownsRow_nil _ _ _ _,Nat.le_refl _,by have:=hb1.size; have:=HS0.out; omega⟩)
 generalize w1.heap.size=s1 at *;clear hr hl hb1 B0 Z0 Z1 HS0 CL;go_wp2_with fail
 go_loopw [5,6,7,8,9,10,11] (fun i p k n r x sg wi => ∃ (kk:Nat) (v1 v2:Value),kk≤ls.length∧i = .int .i64 kk∧RdHull w la ls s1 (foldN hullLn ⟨[],[]⟩ ls kk) v1 v2 wi) (fun i _ _ _ _ _ _ _=>ls.length - (intOf i).toNat)
 case atStart=>exact⟨0,_,_,Nat.zero_le _,rfl,I0.out⟩
 case round =>
  clear I0;obtain⟨kk,v1,v2,hk,rfl,hI⟩:=hrel;have I1:=Lib.hid hI;have hlen:=HF.out kk hk;clear hI;by_cases hlt:kk<ls.length
  ·have hi:=fun w=>run_indexAt_row (w:=w) (oa:=la) (n:=ls.length) (cap:=lc) strs80 size9 (I1.out.lr.plain (by omega)) hlt
   simp only [Nat.mul_one] at hi;have hc:=I1.out.lr.at hlt;have hline:=HM.out (ls.getD kk []) (by rw [List.getD_eq_getElem?_getD,List.getElem?_eq_getElem hlt]; exact List.getElem_mem hlt);rw [show strC ls kk = .string ⟨(ls.getD kk []).toArray⟩ from rfl] at hc;have CP:=Lib.hid (fun W=>parts140_any (ls.getD kk []) 32 32 rfl W hline);have HN:=Lib.hid (show foldN hullLn ⟨[],[]⟩ ls (kk+1)=hullLn kk (foldN hullLn ⟨[],[]⟩ ls kk) (partsF 32 [] (ls.getD kk [])) from rfl);have hpn:=partsF_len 32 (ls.getD kk []) [];have hpm:=Lib.hid (fun y (h:y ∈ partsF 32 [] (ls.getD kk []))=>(show y.length≤2000 from by have:=partsF_mem 32 _ _ h; rw [List.length_nil,Nat.zero_add] at this; omega));have hp1:1≤(partsF 32 [] (ls.getD kk [])).length:=List.length_pos_iff.2 (partsF_ne _ _ _);generalize foldN hullLn ⟨[],[]⟩ ls kk=x at *;unfold PartsPost at CP;generalize partsF 32 [] (ls.getD kk [])=p at *;generalize ls.getD kk []=line at *;obtain⟨hl1,hl2,hl3⟩:=hlen;have HL0:=Lib.hid hl2;clear hl2;go_upto_region 7 with (go_at_call 140; refine(CP.out _).mono ?_; rintro e w2 ⟨pa,pc,rfl,h1,h2,-,hb2⟩)
   have P2:=Lib.hid (PAt.new I1.out h1 h2);have I2:=Lib.hid (I1.out.grow hb2);clear h1 h2 hb2 I1 hi hc CP;obtain⟨pn,epn⟩:∃ pn,p.length=pn:=⟨_,rfl⟩
   have HPN:=Lib.hid epn;rw [epn] at hpn hp1 ⊢;clear epn
   go_upto_block 2 with (fail)
   go_cut [7,8,9,10,11] from 25 to 68 (fun _ _ _ _ _ W => ∃ v1',RdHull w la ls s1 ⟨if kk=0 then seasN x.s p (pn - 1) else x.s,x.u⟩ v1' v2 W∧PAt s1 pa p (hullD ⟨if kk=0 then seasN x.s p (pn - 1) else x.s,x.u⟩ v1' v2) W)
   case first =>
    by_cases h0:kk=0
    ·subst h0
     have hx0:=HL0.out rfl;go_wp2_with fail
     go_loopw [7,8,9,10,11] (fun k n r xx sg wi => ∃ (m:Nat) (v1':Value),1≤m∧m≤pn∧k = .int .i64 m∧RdHull w la ls s1 ⟨seasN x.s p (m - 1),x.u⟩ v1' v2 wi∧PAt s1 pa p (hullD ⟨seasN x.s p (m - 1),x.u⟩ v1' v2) wi) (fun k _ _ _ _ _=>pn - (intOf k).toNat)
     case atStart=>exact⟨1,v1,Nat.le_refl _,hp1,rfl,I2.out,P2.out⟩
     case round =>
      clear I2 P2;obtain⟨m,y1,hm1,hm2,rfl,hI,hP⟩:=hrel;have I3:=Lib.hid hI;have P3:=Lib.hid hP;clear hI hP;by_cases hmn:m<pn
      ·have hi:=fun w=>run_indexAt_row (w:=w) (oa:=pa) (n:=pn) (cap:=pc) strs80 size9 (P3.out.row.plain (by have:=HPN.out; omega)) hmn
       simp only [Nat.mul_one] at hi;have hc:=P3.out.row.at (k:=m) (by have:=HPN.out; omega);rw [show strC p m = .string ⟨(p.getD m []).toArray⟩ from rfl] at hc;have htl:=hpm.out (p.getD m []) (by rw [List.getD_eq_getElem?_getD,List.getElem?_eq_getElem (by have:=HPN.out; omega)]; exact List.getElem_mem _);have C1:=Lib.hid (fun W=>value141_any (p.getD m []) W htl);have hsh:=valR_short (p.getD m []);have C2:=Lib.hid (fun W=>whole142_any ((valR (p.getD m [])).2.drop 1) W (by rw [List.length_drop]; omega));have HSM:=Lib.hid (show seamR (p.getD m [])=if(valR (p.getD m [])).2 = [] then⟨(valR (p.getD m [])).1,9,0⟩ else⟨(valR (p.getD m [])).1,sideN (valR (p.getD m [])).2 3,wholeR ((valR (p.getD m [])).2.drop 1)⟩ from rfl)
       have HSN:=Lib.hid (show seasN x.s p (m+1 - 1)=seasN x.s p (m - 1) ++ [seamR (p.getD m [])] from by
        obtain⟨q,rfl⟩:∃ q,m=q+1:=⟨m - 1,by omega⟩
        rfl)
       generalize seamR (p.getD m [])=sm at *;generalize valR (p.getD m [])=vr at *;obtain⟨n,r⟩:=vr;generalize p.getD m []=t at *;dsimp only at C1 C2 HSM hsh;go_upto_region 11 with (go_at_call 141; refine(C1.out _).mono ?_; rintro e w3 ⟨rfl,j,rfl⟩)
       have I4:=Lib.hid (I3.out.grow (below_drewN (Below.refl _ _) j));have P4:=Lib.hid (P3.out.grow (below_drewN (Below.refl _ _) j));clear I3 P3 hi hc C1;generalize World.drewN wr j=w3 at *;go_upto_region 12 with (fail)
       have B4:=Lib.hid ((Below.refl w3.heap.size w3).alloc (Nat.le_refl _) (.cells #[.int .i64 n,.int .i64 9,.int .i64 0] 142));have X4:=Lib.hid (show BoxAt (w3.alloc (.cells #[.int .i64 n,.int .i64 9,.int .i64 0] 142)) w3.heap.size #[.int .i64 n,.int .i64 9,.int .i64 0] 142 from heap_alloc_new _ _);generalize World.alloc w3 _=w4 at *;obtain⟨b,hb⟩:∃ b,w3.heap.size=b:=⟨_,rfl⟩
       have HBB:=Lib.hid hb;rw [hb] at B4 X4 ⊢;clear hb;go_upto_if 47 with (fail)
       go_cut [11] from 47 to 62 (fun _ W=>Below b w3 W∧BoxAt W b #[.int .i64 sm.h,.int .i64 sm.s,.int .i64 sm.m] 142)
       case first =>
        by_cases hr:r = []
        ·subst hr
         have HE:=Lib.hid (show sm=⟨n,9,0⟩ from by rw [HSM.out,if_pos rfl]);clear HSM HSN C2;go_wp2_with fail
         go_meet
         exact⟨B4.out,by rw [HE.out]; exact X4.out⟩
        ·have HE:=Lib.hid (show sm=⟨n,sideN r 3,wholeR (r.drop 1)⟩ from by rw [HSM.out,if_neg hr])
         have hr1:0<r.length:=List.length_pos_iff.2 hr;have hr1':(0:Int)<r.length:=by omega
         have hh:∀ W,(Instr.sliceAt 9 (.string ⟨r.toArray⟩) none (some (.int .i64 1)) none).run Tryz.prog W = .ok (.string ⟨(r.take 1).toArray⟩) W:=fun W=>str_head r 1 hr1 W;have ht:∀ W,(Instr.sliceAt 9 (.string ⟨r.toArray⟩) (some (.int .i64 1)) none none).run Tryz.prog W = .ok (.string ⟨(r.drop 1).toArray⟩) W:=fun W=>str_tail r 1 hr1 W;clear HSM HSN hr hr1;generalize wholeR (r.drop 1)=M at *;generalize r.drop 1=r1 at *;have q2:=cellAt X4.out 2;have f2:=freeAt X4.out 2;simp only [List.getElem?_toArray,List.getElem?_cons_zero,List.getElem?_cons_succ] at q2;go_upto_region 14 with (go_at_call 142; refine(C2.out _).mono ?_; rintro e w5 ⟨rfl,j2,rfl⟩)
         have B5:=Lib.hid (show Below b w3 ((w4.drewN j2).setCell ⟨b,2,none⟩ (.int .i64 M)) from Below.setCell (below_drewN B4.out _) (Nat.le_refl _) _);have X5:=Lib.hid (show BoxAt ((w4.drewN j2).setCell ⟨b,2,none⟩ (.int .i64 M)) b #[.int .i64 n,.int .i64 9,.int .i64 M] 142 from BoxAt.store (show BoxAt (w4.drewN j2) b _ 142 from X4.out) 2 _);clear B4 X4 q2 f2 ht C2;generalize World.setCell _ _ _=w6 at *;go_wp2_with fail
         go_loopw [11] (fun sg wi => ∃ j:Nat,j≤3∧sg = .int .i64 ((j:Int) - 1)∧Below b w3 wi∧BoxAt wi b #[.int .i64 n,.int .i64 (sideN r j),.int .i64 M] 142) (fun sg _=>(3 - (intOf sg+1)).toNat)
         case atStart=>exact⟨0,by omega,rfl,B5.out,X5.out⟩
         case round =>
          clear B5 X5;obtain⟨j,hj,rfl,hB,hX⟩:=hrel;have B6:=Lib.hid hB;have X6:=Lib.hid hX;clear hB hX;by_cases hj3:j<3
          ·have hjI:(j:Int) - 1≤1:=by omega
           have HSD:=Lib.hid (show sideN r (j+1)=if r.take 1=sideT ((j:Int) - 1) then(j:Int) - 1 else sideN r j from rfl);generalize sideN r j=z at *;obtain⟨J,hJ⟩:∃ J:Int,(j:Int) - 1=J:=⟨_,rfl⟩
           have HJ:=Lib.hid hJ;rw [hJ] at hjI HSD ⊢;have hJw : -1≤J:=by omega
           clear hJ;go_upto_region 17 with (fail)
           go_quiet ((go_at_call 104; exact Calls.quiet_of_same ((side_any _ _).mono fun _ _ h=>⟨h.1,h.2.symm⟩)))
           have B7:=Lib.hid (below_drewN B6.out nq);have X7:=Lib.hid (show BoxAt (wr.drewN nq) b #[.int .i64 n,.int .i64 z,.int .i64 M] 142 from X6.out);clear B6 X6;generalize World.drewN wr nq=w7 at *;clear hh;generalize r.take 1=q at *;generalize sideT J=y at *;have q1:=cellAt X7.out 1;have f1:=freeAt X7.out 1;simp only [List.getElem?_toArray,List.getElem?_cons_zero,List.getElem?_cons_succ] at q1;go_wp2_with fail
           ·rename_i hq
            have hs:q=y:=by simpa using hq
            have HZ:=Lib.hid (show sideN r (j+1)=J from by rw [HSD.out,if_pos hs]);have B8:=Lib.hid (show Below b w3 (w7.setCell ⟨b,1,none⟩ (.int .i64 J)) from Below.setCell B7.out (Nat.le_refl _) _);have X8:=Lib.hid (show BoxAt (w7.setCell ⟨b,1,none⟩ (.int .i64 J)) b #[.int .i64 n,.int .i64 J,.int .i64 M] 142 from X7.out.store 1 _);exact⟨⟨j+1,hj3,by congr 1; have:=HJ.out; omega,B8.out,by rw [HZ.out]; exact X8.out⟩,by have:=HJ.out; simp [intOf]; omega⟩
           ·rename_i hq
            have hs:¬ q=y:=by simpa using hq
            have HZ:=Lib.hid (show sideN r (j+1)=z from by rw [HSD.out,if_neg hs]);exact⟨⟨j+1,hj3,by congr 1; have:=HJ.out; omega,B7.out,by rw [HZ.out]; exact X7.out⟩,by have:=HJ.out; simp [intOf]; omega⟩
          ·obtain rfl:j=3:=by omega
           go_wp2_with fail
           go_meet
           exact⟨B6.out,by rw [HE.out]; exact X6.out⟩
       case rest =>
        obtain⟨hB,hX⟩:=hcut;have HSZ:=HBB.out;have B9:=Lib.hid (show Below w3.heap.size w3 wc from by rw [HBB.out]; exact hB);have X9:=Lib.hid hX;have I9:=Lib.hid (I4.out.grow B9.out);have P9:=Lib.hid (P4.out.grow B9.out);have hml:(seasN x.s p (m - 1)).length≤5000:=by rw [seasN_len]; omega
        clear hB hX I4 P4 B4 X4 C2 HSM HSZ;generalize seasN x.s p (m - 1)=l at *;have al:=(Below.refl wc.heap.size wc).alloc (Nat.le_refl _) (.cells #[.int .i64 sm.h,.int .i64 sm.s,.int .i64 sm.m] 142);have q0:=cellAt I9.out.ow 0;have x0:=cellAt X9.out 0;have x1:=cellAt X9.out 1;have x2:=cellAt X9.out 2;simp only [List.getElem?_toArray,List.getElem?_cons_zero,List.getElem?_cons_succ] at q0 x0 x1 x2;have IA:=Lib.hid (I9.out.grow al);have PA:=Lib.hid (P9.out.grow al);have NA:=Lib.hid (show BoxAt (wc.alloc (.cells #[.int .i64 sm.h,.int .i64 sm.s,.int .i64 sm.m] 142)) wc.heap.size [.int .i64 sm.h,.int .i64 sm.s,.int .i64 sm.m].toArray 142 from heap_alloc_new _ _);have OA:=Lib.hid (show(wc.alloc (.cells #[.int .i64 sm.h,.int .i64 sm.s,.int .i64 sm.m] 142)).ownsRow s1 142 3 y1 l.length (seaV l) from IA.out.rows ⟨142,3,l.length,y1,seaV l⟩ List.mem_cons_self);clear al I9 P9 X9 B9;obtain⟨i0,hi0,hz0,hz1,hz2⟩:=info142;go_wp2_with (at_builtin; refine wpList_appR sl22 hi0 hz0 hz1 hz2 (by rfl) (by decide) (by decide) (by rfl) (.tmp 64) (.tmp 66) (by rfl) (by rfl) OA.out (by rfl) NA.out (by rfl) (fun u hu=>by simp only [List.mem_cons,List.not_mem_nil,or_false] at hu; rcases hu with rfl | rfl | rfl <;> rfl) (by omega) IA.out.size ?_);intro g cap w8 h2 h3 h4;obtain⟨k1,k2,k3⟩:=RdHull.sea IA.out PA.out h2 h3 (by rw [sizeAlloc]; exact h4);have K1:=Lib.hid k1;have K2:=Lib.hid k2;have q0:=cellAt k3 0;have f0:=freeAt k3 0;simp only [List.getElem?_toArray,List.getElem?_cons_zero] at q0;clear h2 h3 h4 k1 k2 k3 IA PA NA OA hi0 hz0 hz1 hz2;go_wp2_with fail;exact⟨⟨m+1,.slice (some ⟨g,0,none⟩) (l.length+1) cap,by omega,hmn,by go_num,by rw [HSN.out]; exact K1.out,by rw [HSN.out]; exact K2.out⟩,by simp [intOf]; omega⟩
      ·obtain rfl:m=pn:=by omega
       have I5:=Lib.hid (show RdHull w la ls s1 ⟨if 0=0 then seasN x.s p (m - 1) else x.s,x.u⟩ y1 v2 wr from I3.out);have P5:=Lib.hid (show PAt s1 pa p (hullD ⟨if 0=0 then seasN x.s p (m - 1) else x.s,x.u⟩ y1 v2) wr from P3.out);clear I3 P3;go_wp2_with fail
       go_meet
       exact⟨y1,I5.out,P5.out⟩
    ·have t0:((kk:Int)==0)=false:=beq_eq_false_iff_ne.2 (by omega)
     have I5:=Lib.hid (show RdHull w la ls s1 ⟨if kk=0 then seasN x.s p (pn - 1) else x.s,x.u⟩ v1 v2 w2 from by rw [if_neg h0]; exact I2.out);have P5:=Lib.hid (show PAt s1 pa p (hullD ⟨if kk=0 then seasN x.s p (pn - 1) else x.s,x.u⟩ v1 v2) w2 from by rw [if_neg h0]; exact P2.out);clear I2 P2;go_wp2_with fail
     go_loop [7] (fun k=>k = .int .i64 1) (fun _=>0)
     case atStart=>rfl
     case round =>
      subst hrel;go_wp2_with fail
      all_goals (go_meet; exact⟨v1,I5.out,P5.out⟩)
   case rest =>
    obtain⟨y1,hI,hP⟩:=hcut;have I5:=Lib.hid hI;have P5:=Lib.hid hP;clear hI hP I2 P2;have HX:=Lib.hid (show hullLn kk x p=⟨if kk=0 then seasN x.s p (pn - 1) else x.s,if 0<kk∧pn=3 then x.u ++ [souR p] else x.u⟩ from by unfold hullLn; rw [HPN.out]);generalize (if kk=0 then seasN x.s p (pn - 1) else x.s)=l at *;by_cases h3:0<kk∧pn=3
    ·obtain⟨hk0,rfl⟩:=h3
     obtain⟨t0,t1,t2,rfl⟩:∃ a b c,p = [a,b,c]:=by
      have h:=HPN.out
      match p,h with
      | [a,b,c],_=>exact⟨a,b,c,rfl⟩
     have HX2:=Lib.hid (show foldN hullLn ⟨[],[]⟩ ls (kk+1)=⟨l,x.u ++ [⟨wholeR t0,wholeR t1,(spanR t2).1,(spanR t2).2⟩]⟩ from by rw [HN.out,HX.out,if_pos ⟨hk0,rfl⟩]; rfl);have C0:=Lib.hid (fun W=>whole142_any t0 W (hpm.out _ List.mem_cons_self));have C1:=Lib.hid (fun W=>whole142_any t1 W (hpm.out _ (List.mem_cons_of_mem _ List.mem_cons_self)));have C2:=Lib.hid (fun W=>spanOf143_any t2 W (hpm.out _ (List.mem_cons_of_mem _ (List.mem_cons_of_mem _ List.mem_cons_self))));generalize wholeR t0=a at *;generalize wholeR t1=b at *;generalize spanR t2=lh at *;obtain⟨lo,hi⟩:=lh;dsimp only at C2 HX2;have hpp:=P5.out.row.plain (show 0<3 by omega);have i0:∀ W,(Instr.indexAt 80 (.slice pa 3 pc) (.int .i64 0)).run Tryz.prog W = .ok (.pointer (some ⟨blk pa,ofs pa,none⟩)) W:=fun W=>(run_indexAt_row (w:=W) (cap:=pc) strs80 size9 hpp (show 0<3 by omega))
     have i1:∀ W,(Instr.indexAt 80 (.slice pa 3 pc) (.int .i64 1)).run Tryz.prog W = .ok (.pointer (some ⟨blk pa,ofs pa+1,none⟩)) W:=fun W=>(run_indexAt_row (w:=W) (cap:=pc) strs80 size9 hpp (show 1<3 by omega))
     have i2:∀ W,(Instr.indexAt 80 (.slice pa 3 pc) (.int .i64 2)).run Tryz.prog W = .ok (.pointer (some ⟨blk pa,ofs pa+2,none⟩)) W:=fun W=>(run_indexAt_row (w:=W) (cap:=pc) strs80 size9 hpp (show 2<3 by omega))
     clear hpp;have hk0':(0:Int)<kk:=by omega
     have hul:x.u.length≤3000:=by omega
     go_upto_region 21 with (fail)
     have PL:=Lib.hid (show w.heap.size+1≠blk pa from by have:=P5.out.lo (show 0<3 by omega); have:=I5.out.low; omega);have I6:=Lib.hid (I5.out.grow (Below.drew (Below.refl wc.heap.size wc)));have P6:=Lib.hid (P5.out.grow (Below.drew (Below.refl wc.heap.size wc)));refine wp_region_stg (S:=(fun w':World=>w'.cell? ⟨blk pa,ofs pa,none⟩=some (.string ⟨t0.toArray⟩)∧w'.cell? ⟨blk pa,ofs pa+1,none⟩=some (.string ⟨t1.toArray⟩)∧w'.cell? ⟨blk pa,ofs pa+2,none⟩=some (.string ⟨t2.toArray⟩))) (L:=[(18,(fun w':World=>w'.cell? ⟨w.heap.size+1,1,none⟩=some v2))]) (D:=[(18,1)]) (by kernel_rfl) (by kernel_rfl) ⟨P6.out.row.at (k:=0) (show 0<3 by decide),P6.out.row.at (k:=1) (show 1<3 by decide),P6.out.row.at (k:=2) (show 2<3 by decide)⟩ (by intro e he; simp only [List.mem_cons,List.mem_nil_iff,or_false] at he; subst he; exact cellAt I6.out.ow 1) (fun hC0 hH0=>?_);generalize World.drew wc=w6 at *;clear I5 P5;refine tkA (i:=0) (v:=?_) rfl hC0 (Or.inl ⟨by rfl,?_⟩) hH0 (fun hC1 hH1=>?_);rotate_left
     ·(intro w9 hSw; obtain⟨hSw,hLw⟩:=hSw; clear hLw; (try dsimp only at hSw); (go_split_ands; go_simp); (try with_reducible rfl))
     clear hC0 hH0
     try simp only [Act.put,List.setIfInBounds_toArray,List.set_cons_zero,List.set_cons_succ]
     refine tkA (i:=1) (v:=?_) rfl hC1 (Or.inl ⟨by rfl,?_⟩) hH1 (fun hC2 hH2=>?_);rotate_left
     ·(intro w9 hSw; obtain⟨hSw,hLw⟩:=hSw; have hl18:=hLw _ List.mem_cons_self rfl; dsimp only at hl18; clear hLw; (try dsimp only at hSw); (go_split_ands; go_simp); (try with_reducible rfl))
     clear hC1 hH1
     try simp only [Act.put,List.setIfInBounds_toArray,List.set_cons_zero,List.set_cons_succ]
     refine tkA (i:=2) (v:=?_) rfl hC2 (Or.inl ⟨by rfl,?_⟩) hH2 (fun hC3 hH3=>?_);rotate_left
     ·(intro w9 hSw; obtain⟨hSw,hLw⟩:=hSw; clear hLw; (try dsimp only at hSw); (go_split_ands; go_simp); (try with_reducible rfl))
     clear hC2 hH2
     try simp only [Act.put,List.setIfInBounds_toArray,List.set_cons_zero,List.set_cons_succ]
     refine tkA (i:=3) (v:=?_) rfl hC3 (Or.inl ⟨by rfl,?_⟩) hH3 (fun hC4 hH4=>?_);rotate_left
     ·(intro w9 hSw; obtain⟨hSw,hLw⟩:=hSw; clear hLw; (try dsimp only at hSw); (go_split_ands; go_simp); (try with_reducible rfl))
     clear hC3 hH3
     try simp only [Act.put,List.setIfInBounds_toArray,List.set_cons_zero,List.set_cons_succ]
     refine tkA (i:=4) (v:=?_) rfl hC4 (Or.inl ⟨by rfl,?_⟩) hH4 (fun hC5 hH5=>?_);rotate_left
     ·(intro w9 hSw; obtain⟨hSw,hLw⟩:=hSw; clear hLw; (try dsimp only at hSw); (go_split_ands; go_simp); (try with_reducible rfl))
     clear hC4 hH4
     try simp only [Act.put,List.setIfInBounds_toArray,List.set_cons_zero,List.set_cons_succ]
     refine tkA (i:=6) (v:=?_) rfl hC5 (Or.inl ⟨by rfl,?_⟩) hH5 (fun hC6 hH6=>?_);rotate_left
     ·(intro w9 hSw; obtain⟨hSw,hLw⟩:=hSw; clear hLw; (try dsimp only at hSw); (go_split_ands; go_simp); (try with_reducible rfl))
     clear hC5 hH5
     try simp only [Act.put,List.setIfInBounds_toArray,List.set_cons_zero,List.set_cons_succ]
     refine tkA (i:=7) (v:=?_) rfl hC6 (Or.inl ⟨by rfl,?_⟩) hH6 (fun hC7 hH7=>?_);rotate_left
     ·(intro w9 hSw; obtain⟨hSw,hLw⟩:=hSw; clear hLw; (try dsimp only at hSw); (go_split_ands; go_simp); (try with_reducible rfl))
     clear hC6 hH6
     try simp only [Act.put,List.setIfInBounds_toArray,List.set_cons_zero,List.set_cons_succ]
     refine tkA (i:=8) (v:=?_) rfl hC7 (Or.inl ⟨by rfl,?_⟩) hH7 (fun hC8 hH8=>?_);rotate_left
     ·(intro w9 hSw; obtain⟨hSw,hLw⟩:=hSw; clear hLw; (try dsimp only at hSw); (go_split_ands; go_simp); (try with_reducible rfl))
     clear hC7 hH7
     try simp only [Act.put,List.setIfInBounds_toArray,List.set_cons_zero,List.set_cons_succ]
     refine tkA (i:=10) (v:=?_) rfl hC8 (Or.inl ⟨by rfl,?_⟩) hH8 (fun hC9 hH9=>?_);rotate_left
     ·(intro w9 hSw; obtain⟨hSw,hLw⟩:=hSw; clear hLw; (try dsimp only at hSw); (go_split_ands; go_simp); (try with_reducible rfl))
     clear hC8 hH8
     try simp only [Act.put,List.setIfInBounds_toArray,List.set_cons_zero,List.set_cons_succ]
     refine tkA (i:=11) (v:=?_) rfl hC9 (Or.inl ⟨by rfl,?_⟩) hH9 (fun hC10 hH10=>?_);rotate_left
     ·(intro w9 hSw; obtain⟨hSw,hLw⟩:=hSw; clear hLw; (try dsimp only at hSw); (go_split_ands; go_simp); (try with_reducible rfl))
     clear hC9 hH9
     try simp only [Act.put,List.setIfInBounds_toArray,List.set_cons_zero,List.set_cons_succ]
     refine tkA (i:=12) (v:=?_) rfl hC10 (Or.inl ⟨by rfl,?_⟩) hH10 (fun hC11 hH11=>?_);rotate_left
     ·(intro w9 hSw; obtain⟨hSw,hLw⟩:=hSw; clear hLw; (try dsimp only at hSw); (go_split_ands; go_simp); (try with_reducible rfl))
     clear hC10 hH10
     try simp only [Act.put,List.setIfInBounds_toArray,List.set_cons_zero,List.set_cons_succ]
     refine onA (i:=5) rfl hC11 (fun K hK=>?_);clear hC11 hH11;go_simp;refine(C0.out w6).mono ?_;rintro e w7 ⟨rfl,j,rfl⟩;have I7:=Lib.hid (I6.out.grow (below_drewN (Below.refl _ _) j));have P7:=Lib.hid (P6.out.grow (below_drewN (Below.refl _ _) j));generalize World.drewN w6 j=w7 at *;clear I6 P6;go_wp2_with fail;refine hK.out _ _ ?_ (fun hC12 hH12=>?_)
     ·exact⟨⟨P7.out.row.at (k:=0) (show 0<3 by decide),P7.out.row.at (k:=1) (show 1<3 by decide),P7.out.row.at (k:=2) (show 2<3 by decide)⟩,fun e he _=>by simp only [List.mem_cons,List.mem_nil_iff,or_false] at he; subst he; exact cellAt I7.out.ow 1⟩
     clear hK K
     try simp only [Act.put,List.setIfInBounds_toArray,List.set_cons_zero,List.set_cons_succ]
     refine onA (i:=9) rfl hC12 (fun K hK=>?_);clear hC12 hH12;go_simp;refine(C1.out w7).mono ?_;rintro e w8 ⟨rfl,j,rfl⟩;have I8:=Lib.hid (I7.out.grow (below_drewN (Below.refl _ _) j));have P8:=Lib.hid (P7.out.grow (below_drewN (Below.refl _ _) j));generalize World.drewN w7 j=w8 at *;clear I7 P7;go_wp2_with fail;refine hK.out _ _ ?_ (fun hC13 hH13=>?_)
     ·exact⟨⟨P8.out.row.at (k:=0) (show 0<3 by decide),P8.out.row.at (k:=1) (show 1<3 by decide),P8.out.row.at (k:=2) (show 2<3 by decide)⟩,fun e he _=>by simp only [List.mem_cons,List.mem_nil_iff,or_false] at he; subst he; exact cellAt I8.out.ow 1⟩
     clear hK K
     try simp only [Act.put,List.setIfInBounds_toArray,List.set_cons_zero,List.set_cons_succ]
     refine onA (i:=13) rfl hC13 (fun K hK=>?_);clear hC13 hH13;go_simp;refine(C2.out w8).mono ?_;rintro e w9 ⟨rfl,hb9⟩;have I9:=Lib.hid (I8.out.grow hb9);have P9:=Lib.hid (P8.out.grow hb9);clear I8 P8 hb9;go_wp2_with fail;refine hK.out _ _ ?_ (fun hC14 hH14=>?_)
     ·exact⟨⟨P9.out.row.at (k:=0) (show 0<3 by decide),P9.out.row.at (k:=1) (show 1<3 by decide),P9.out.row.at (k:=2) (show 2<3 by decide)⟩,fun e he _=>by simp only [List.mem_cons,List.mem_nil_iff,or_false] at he; subst he; exact cellAt I9.out.ow 1⟩
     clear hK K
     try simp only [Act.put,List.setIfInBounds_toArray,List.set_cons_zero,List.set_cons_succ]
     refine tkA (i:=14) (v:=?_) rfl hC14 (Or.inl ⟨by rfl,?_⟩) hH14 (fun hC15 hH15=>?_);rotate_left
     ·(intro w9 hSw; obtain⟨hSw,hLw⟩:=hSw; clear hLw; (try dsimp only at hSw); (go_split_ands; go_simp); (try with_reducible rfl))
     clear hC14 hH14
     try simp only [Act.put,List.setIfInBounds_toArray,List.set_cons_zero,List.set_cons_succ]
     refine onA (i:=15) rfl hC15 (fun K hK=>?_);clear hC15 hH15;have hal:=(Below.refl w9.heap.size w9).alloc (Nat.le_refl _) (.cells #[.int .i64 a,.int .i64 b,.int .i64 lo,.int .i64 hi] 144);have IA:=Lib.hid (I9.out.grow hal);have PA:=Lib.hid (P9.out.grow hal);have NA:=Lib.hid (show BoxAt (w9.alloc (.cells #[.int .i64 a,.int .i64 b,.int .i64 lo,.int .i64 hi] 144)) w9.heap.size #[.int .i64 a,.int .i64 b,.int .i64 lo,.int .i64 hi] 144 from heap_alloc_new _ _);have OA:=Lib.hid (show(w9.alloc (.cells #[.int .i64 a,.int .i64 b,.int .i64 lo,.int .i64 hi] 144)).ownsRow s1 144 4 v2 x.u.length (souV x.u) from IA.out.rows ⟨144,4,x.u.length,v2,souV x.u⟩ (List.mem_cons_of_mem _ List.mem_cons_self));go_simp;go_wp2_with fail;generalize World.alloc w9 _=wA at *;clear I9 P9 hal;refine hK.out _ _ ?_ (fun hC16 hH16=>?_)
     ·exact⟨⟨PA.out.row.at (k:=0) (show 0<3 by decide),PA.out.row.at (k:=1) (show 1<3 by decide),PA.out.row.at (k:=2) (show 2<3 by decide)⟩,fun e he _=>by simp only [List.mem_cons,List.mem_nil_iff,or_false] at he; subst he; exact cellAt IA.out.ow 1⟩
     clear hK K
     try simp only [Act.put,List.setIfInBounds_toArray,List.set_cons_zero,List.set_cons_succ]
     refine onA (i:=16) rfl hC16 (fun K hK=>?_);clear hC16 hH16;obtain⟨i5,hi5,hz5,hz6,hz7⟩:=info144;refine step_appRow (w:=wA) sl23 hi5 hz5 hz6 hz7 (by rfl) (by decide) (by decide) (by rfl) (.tmp 77) (.tmp 91) (by rfl) (v:=v2) (xs:=souV x.u) (base:=s1) (n:=x.u.length) (by rfl) OA.out (b:=w9.heap.size) (us:=[.int .i64 a,.int .i64 b,.int .i64 lo,.int .i64 hi]) (by rfl) NA.out (by rfl) (by intro u hu; simp only [List.mem_cons,List.mem_nil_iff,or_false] at hu; rcases hu with rfl | rfl | rfl | rfl <;> rfl) (by omega) IA.out.size ?_;intro g cap wB h2 h3 h4;obtain⟨k1,k2,k3⟩:=RdHull.sou (y:=⟨a,b,lo,hi⟩) IA.out PA.out h2 h3 h4;have KB:=Lib.hid k1;have BB:=Lib.hid k3;have CB:=Lib.hid ((keep_grown h3).box (show BoxAt wA _ _ _ from IA.out.ow) ⟨lt_of_heap IA.out.ow,fun e=>by have:=((IA.out.rows ⟨144,4,x.u.length,v2,souV x.u⟩ (List.mem_cons_of_mem _ List.mem_cons_self)).lt _ e.symm).1; have:=IA.out.low; omega⟩);have RB:=Lib.hid (Row.keep PA.out.row (keep_grown h3) fun hn=>⟨PA.out.row.old hn,fun e=>PA.out.ne hn ⟨144,4,x.u.length,v2,souV x.u⟩ (List.mem_cons_of_mem _ List.mem_cons_self) e.symm⟩);clear h2 h3 h4 k1 k2 k3 IA PA NA OA hi5 hz5 hz6 hz7;refine hK.out _ _ ?_ (fun hC17 hH17=>?_)
     ·exact⟨⟨Row.at1 RB.out (k:=0) (show 0<3 by decide),Row.at1 RB.out (k:=1) (show 1<3 by decide),Row.at1 RB.out (k:=2) (show 2<3 by decide)⟩,fun e he _=>by simp only [List.mem_cons,List.mem_nil_iff,or_false] at he; subst he; exact cellAt BB.out 1⟩
     clear hK K
     try simp only [Act.put,List.setIfInBounds_toArray,List.set_cons_zero,List.set_cons_succ]
     refine tkA (i:=17) (v:=?_) rfl hC17 (Or.inl ⟨by rfl,?_⟩) hH17 (fun hC18 hH18=>?_);rotate_left
     ·(intro w9 hSw; obtain⟨hSw,hLw⟩:=hSw; clear hLw; (try dsimp only at hSw); (go_split_ands; go_simp); (try with_reducible rfl))
     clear hC17 hH17
     try simp only [Act.put,List.setIfInBounds_toArray,List.set_cons_zero,List.set_cons_succ]
     refine onA (i:=18) rfl hC18 (fun K hK=>?_);clear hC18 hH18;have c0:=cellAt BB.out 1;have f0:=freeAt BB.out 1;simp only [List.getElem?_toArray,List.getElem?_cons_zero,List.getElem?_cons_succ] at c0;have rs:=RB.out.set ⟨w.heap.size+1,1,none⟩ (.slice (some ⟨g,0,none⟩) (x.u.length+1) cap) (fun _=>PL.out);go_simp;go_wp2_with fail;refine hK.out _ _ ?_ (fun hC19 hH19=>?_)
     ·exact⟨⟨Row.at1 rs (k:=0) (show 0<3 by decide),Row.at1 rs (k:=1) (show 1<3 by decide),Row.at1 rs (k:=2) (show 2<3 by decide)⟩,fun e he h=>by simp only [List.mem_cons,List.mem_nil_iff,or_false] at he; subst he; exact absurd h (by intro hx; exact Bool.false_ne_true (hx.symm.trans (by kernel_rfl)))⟩
     clear hK K
     try simp only [Act.put]
     refine wpAnyT_done (by kernel_rfl) ?_ _;clear hC19 hH19;go_wp2_with fail;exact⟨⟨kk+1,y1,_,hlt,by go_num,by rw [HX2.out]; exact KB.out⟩,by simp [intOf]; omega⟩
    ·have HX2:=Lib.hid (show foldN hullLn ⟨[],[]⟩ ls (kk+1)=⟨l,x.u⟩ from by rw [HN.out,HX.out,if_neg h3])
     by_cases hk0:0<kk
     ·have hp3:¬ pn=3:=fun e=>h3 ⟨hk0,e⟩
      have t1:((pn:Int)==3)=false:=beq_eq_false_iff_ne.2 (by omega);have hk0':(0:Int)<kk:=by omega
      clear h3;go_wp2_with fail;exact⟨⟨kk+1,y1,v2,hlt,by go_num,by rw [HX2.out]; exact I5.out⟩,by simp [intOf]; omega⟩
     ·have hk0':¬ (0:Int)<kk:=by omega
      clear h3;go_wp2_with fail;exact⟨⟨kk+1,y1,v2,hlt,by go_num,by rw [HX2.out]; exact I5.out⟩,by simp [intOf]; omega⟩
  ·obtain rfl:kk=ls.length:=by omega
   have HRS2:=HRS.out;generalize foldN hullLn ⟨[],[]⟩ ls ls.length=x at *;subst HRS2;have r1:wr.ownsRow s1 142 3 v1 (hullR s).s.length (seaV (hullR s).s):=I1.out.rows ⟨142,3,(hullR s).s.length,v1,seaV (hullR s).s⟩ List.mem_cons_self;have r2:wr.ownsRow s1 144 4 v2 (hullR s).u.length (souV (hullR s).u):=I1.out.rows ⟨144,4,(hullR s).u.length,v2,souV (hullR s).u⟩ (List.mem_cons_of_mem _ List.mem_cons_self);obtain⟨sa,sc,rfl,hS,hSb,-⟩:=rowN_of (cell:=fun i j=>(seaOf (hullR s).s i).cell j) r1 (by have:=hlen.s; unfold maxLen; omega) (fun i hi j hj=>seaV_get _ i hi j hj);obtain⟨ua,uc,rfl,hU,hUb,-⟩:=rowN_of (cell:=fun i j=>(souOf (hullR s).u i).cell j) r2 (by have:=hlen.u; unfold maxLen; omega) (fun i hi j hj=>souV_get _ i hi j hj);have low:=I1.out.low;have q0:=cellAt I1.out.ow 0;have q1:=cellAt I1.out.ow 1;have g0:=cellAt I1.out.r 0;have g1:=cellAt I1.out.r 1;have f0:=freeAt I1.out.r 0;have f1:=freeAt I1.out.r 1;simp only [List.getElem?_toArray,List.getElem?_cons_zero,List.getElem?_cons_succ] at q0 q1 g0 g1;have X9:=Lib.hid (show BoxAt ((wr.setCell ⟨w.heap.size,0,none⟩ (.slice sa (hullR s).s.length sc)).setCell ⟨w.heap.size,1,none⟩ (.slice ua (hullR s).u.length uc)) w.heap.size #[.slice sa (hullR s).s.length sc,.slice ua (hullR s).u.length uc] 25 from(I1.out.r.store 0 _).store 1 _);have S9:=Lib.hid (show SeasAt ((wr.setCell ⟨w.heap.size,0,none⟩ (.slice sa (hullR s).s.length sc)).setCell ⟨w.heap.size,1,none⟩ (.slice ua (hullR s).u.length uc)) sa (hullR s).s.length (seaOf (hullR s).s) from Row.set (Row.set hS _ _ fun h=>by have:=hSb h; (try dsimp only); omega) _ _ fun h=>by have:=hSb h; (try dsimp only); omega);have U9:=Lib.hid (show SousAt ((wr.setCell ⟨w.heap.size,0,none⟩ (.slice sa (hullR s).s.length sc)).setCell ⟨w.heap.size,1,none⟩ (.slice ua (hullR s).u.length uc)) ua (hullR s).u.length (souOf (hullR s).u) from Row.set (Row.set hU _ _ fun h=>by have:=hUb h; (try dsimp only); omega) _ _ fun h=>by have:=hUb h; (try dsimp only); omega);have B9:=Lib.hid (show Below w.heap.size w ((wr.setCell ⟨w.heap.size,0,none⟩ (.slice sa (hullR s).s.length sc)).setCell ⟨w.heap.size,1,none⟩ (.slice ua (hullR s).u.length uc)) from(I1.out.bel.setCell (Nat.le_refl _) _).setCell (Nat.le_refl _) _);have NB:=Lib.hid (show(0<(hullR s).s.length→w.heap.size≤blk sa)∧(0<(hullR s).u.length→w.heap.size≤blk ua) from⟨fun h=>by have:=hSb h; omega,fun h=>by have:=hUb h; omega⟩);clear hS hU hSb hUb r1 r2 low I1 hlen HRS;go_wp2_with fail;generalize World.setCell (World.setCell _ _ _) _ _=w9 at *;have c0:=cellAt X9.out 0;have c1:=cellAt X9.out 1;simp only [List.getElem?_toArray,List.getElem?_cons_zero,List.getElem?_cons_succ] at c0 c1;exact bodyPost_ret (v:=.agg #[.slice sa (hullR s).s.length sc,.slice ua (hullR s).u.length uc]) (by simp [results,Tryz.results80,go_sem,c0,c1]) rfl ⟨sa,sc,ua,uc,rfl,S9.out,U9.out,B9.out,NB.out.1,NB.out.2⟩
end Go.Proofs.YtclbmlmlhiiaeaaGreatDoor
