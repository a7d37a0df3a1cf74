/- Walks: a pitch is read by the reference. -/
import Derived.Test.YtclbmlmlhiiaeaaGreatDoorJ9
namespace Go.Proofs.YtclbmlmlhiiaeaaGreatDoor
open Go.RowKit
set_option maxRecDepth 100000 in
set_option maxHeartbeats 16000000 in
theorem pitch82_any(s:List UInt8)(w:World)(hs:s.length≤2000) :
  Calls Tryz.prog 82 #[.string ⟨s.toArray⟩] w fun e w' => ∃ fa fc qa qc,e = .returned (.agg #[.int .i64 (pitR s).hr,.int .i64 (pitR s).fr,.int .i64 (pitR s).pe,.slice fa (pitR s).f.length fc,.slice qa (pitR s).q.length qc]) ∧
   IntsAt w' fa (pitR s).f.length (intOf' (pitR s).f)∧PotsAt w' qa (pitR s).q.length (potOf (pitR s).q)∧Below w.heap.size w w'∧(0<(pitR s).f.length→w.heap.size≤blk fa)∧(0<(pitR s).q.length→w.heap.size≤blk qa):=by
 obtain⟨z0,z1,hs0,hB⟩:=blocks2 (show(w.alloc (.cells #[.int .i64 0,.int .i64 0,.int .i64 0,.slice none 0 0,.slice none 0 0] 29)).alloc (.cells #[.int .i64 (-1),.int .i64 0,.int .i64 0,.slice none 0 0,.slice none 0 0] 29)=_ from rfl);have B0:=Lib.hid hB;have Z0:=Lib.hid z0;have Z1:=Lib.hid z1;have HS0:=Lib.hid hs0;have CL:=Lib.hid (fun W=>lines139_any s W hs);have hll:=linesL_len s;have HM:=Lib.hid (fun l (h:l ∈ linesL s)=>Nat.le_trans (linesL_mem h) hs);have HF:=Lib.hid (fun k=>fold_pit (linesL s) k);have HRS:=Lib.hid (show pitR s=foldN pitL ⟨-1,0,0,[],[]⟩ (linesL s) (linesL s).length from rfl);unfold PartsPost at CL;clear z0 z1 hB hs0;generalize linesL s=ls at *;go_enter Tryz.func82,Tryz.ntmps82;go_upto_region 2 with (fail)
 generalize World.alloc (World.alloc w _) _=W0 at *;go_wp2_with (go_at_call 139; refine(CL.out _).mono ?_);rintro e w1 ⟨la,lc,rfl,hr,hl,-,hb1⟩
 have I0:=Lib.hid (show RdPit w la ls w1.heap.size (foldN pitL ⟨-1,0,0,[],[]⟩ ls 0) (.slice none 0 0) (.slice none 0 0) w1 from
  ⟨B0.out.next hb1,hr,fun h=>⟨by have:=hl h; have:=HS0.out; omega,hr.old h⟩,BoxAt.grow Z0.out hb1,BoxAt.grow Z1.out hb1,fun d hd=>by
   simp only [pitD,List.mem_cons,List.not_mem_nil,or_false] at hd
   rcases hd with rfl | rfl <;> exact World.ownsRow_nil _ _ _ _,Nat.le_refl _,by have:=hb1.size; have:=HS0.out; omega⟩)
 generalize w1.heap.size=s1 at *;clear hr hl hb1 B0 Z0 Z1 HS0 CL;go_wp2_with fail
 go_loopw [5,6,7,8] (fun i p a k wi => ∃ (kk:Nat) (v1 v2:Value),kk≤ls.length∧i = .int .i64 kk∧RdPit w la ls s1 (foldN pitL ⟨-1,0,0,[],[]⟩ ls kk) v1 v2 wi) (fun i _ _ _ _=>ls.length - (intOf i).toNat)
 case atStart=>exact⟨0,_,_,Nat.zero_le _,rfl,I0.out⟩
 case round =>
  clear I0;obtain⟨kk,v1,v2,hk,rfl,hI⟩:=hrel;have I1:=Lib.hid hI;have hlen:=HF.out kk;clear hI;by_cases hlt:kk<ls.length
  ·have hi:=fun w=>run_indexAt_row (w:=w) (oa:=la) (n:=ls.length) (cap:=lc) strs80 size9 (I1.out.lr.plain (by omega)) hlt
   simp only [Nat.mul_one] at hi;have hc:=I1.out.lr.at hlt;have hline:=HM.out (ls.getD kk []) (by rw [List.getD_eq_getElem?_getD,List.getElem?_eq_getElem hlt]; exact List.getElem_mem hlt);rw [show strC ls kk = .string ⟨(ls.getD kk []).toArray⟩ from rfl] at hc;have CP:=Lib.hid (fun W=>parts140_any (ls.getD kk []) 32 32 rfl W hline);have HN:=Lib.hid (show foldN pitL ⟨-1,0,0,[],[]⟩ ls (kk+1)=pitL4 (pitL3 (pitL2 kk (pitL1 kk (foldN pitL ⟨-1,0,0,[],[]⟩ ls kk) (partsF 32 [] (ls.getD kk []))) (partsF 32 [] (ls.getD kk []))) (partsF 32 [] (ls.getD kk []))) (partsF 32 [] (ls.getD kk [])) from rfl);have hpn:=partsF_len 32 (ls.getD kk []) [];have hpm:=Lib.hid (fun y (h:y ∈ partsF 32 [] (ls.getD kk []))=>(show y.length≤2000 from by have:=partsF_mem 32 _ _ h; rw [List.length_nil,Nat.zero_add] at this; omega));have hp1:1≤(partsF 32 [] (ls.getD kk [])).length:=List.length_pos_iff.2 (partsF_ne _ _ _);generalize foldN pitL ⟨-1,0,0,[],[]⟩ ls kk=x at *;unfold PartsPost at CP;generalize partsF 32 [] (ls.getD kk [])=p at *;generalize ls.getD kk []=line at *;go_upto_region 7 with (go_at_call 140; refine(CP.out _).mono ?_; rintro e w2 ⟨pa,pc,rfl,h1,h2,hcap,hb2⟩)
   have P2:=Lib.hid (PAt.new I1.out h1 h2);have I2:=Lib.hid (I1.out.grow hb2);clear h1 h2 hb2 I1 hi hc CP;obtain⟨pn,epn⟩:∃ pn,p.length=pn:=⟨_,rfl⟩
   have HPN:=Lib.hid epn;rw [epn] at hpn hp1 hcap ⊢;clear epn;have PP:=Lib.hid (P2.out.row.plain (by have:=HPN.out; omega));have i0:∀ W,(Instr.indexAt 80 (.slice pa pn pc) (.int .i64 0)).run Tryz.prog W = .ok (.pointer (some ⟨blk pa,ofs pa,none⟩)) W:=fun W=>(run_indexAt_row (w:=W) (cap:=pc) strs80 size9 PP.out (show 0<pn by omega))
   have HC0:=Lib.hid (fun W (h:PAt s1 pa p (pitD x v1 v2) W)=>(show W.cell? ⟨blk pa,ofs pa,none⟩=some (.string ⟨(p.getD 0 []).toArray⟩) from h.row.at (k:=0) (by have:=HPN.out; omega)));have CR:=Lib.hid (fun(R:List RowD) W (h:PAt s1 pa p R W)=>(show W.cell? ⟨blk pa,ofs pa,none⟩=some (.string ⟨(p.getD 0 []).toArray⟩) from h.row.at (k:=0) (by have:=HPN.out; omega)));clear HC0;obtain⟨b1,hb1⟩:∃ b1,decide (p.getD 0 []=pitchW∧pn=2∧kk=0)=b1:=⟨_,rfl⟩
   have HB1:=Lib.hid hb1;clear hb1;have HL1:=Lib.hid (show pitL1 kk x p=if p.getD 0 []=pitchW∧pn=2∧kk=0 then {x with hr:=wholeR (p.getD 1 [])} else x from by unfold pitL1; rw [HPN.out]);go_cut [35] from 23 to 35 (fun t W=>W=w2∧t = .bool b1)
   case first =>
    have hc:=CR.out _ _ P2.out;have hb:=HB1.out;clear HB1 HL1;generalize p.getD 0 []=p0 at *;by_cases e1:p0=pitchW
    ·unfold pitchW at e1
     by_cases e2:pn=2
     ·subst e2
      by_cases e3:kk=0
      ·rw [decide_eq_true ⟨e1,rfl,e3⟩] at hb
       subst hb;subst e3;subst e1;go_wp2_with fail
       go_meet
       exact⟨rfl,rfl⟩
      ·rw [decide_eq_false (fun h=>e3 h.2.2)] at hb
       subst hb;subst e1;have t0:((kk:Int)==0)=false:=beq_eq_false_iff_ne.2 (by omega);go_wp2_with fail
       go_meet
       exact⟨rfl,rfl⟩
     ·rw [decide_eq_false (fun h=>e2 h.2.1)] at hb
      subst hb;subst e1;have t0:((pn:Int)==2)=false:=beq_eq_false_iff_ne.2 (by omega);go_wp2_with fail
      go_meet
      exact⟨rfl,rfl⟩
    ·rw [decide_eq_false (fun h=>e1 h.1)] at hb
     subst hb;unfold pitchW at e1;go_wp2_with fail
     go_meet
     exact⟨rfl,rfl⟩
   case rest =>
    obtain⟨rfl,rfl⟩:=hcut;go_upto_if 35 with (fail)
    go_cut [35] from 35 to 40 (fun _ W=>RdPit w la ls s1 (pitL1 kk x p) v1 v2 W∧PAt s1 pa p (pitD (pitL1 kk x p) v1 v2) W)
    case first =>
     cases b1 with
     | false =>
      have hn:=of_decide_eq_false HB1.out;have HX:=Lib.hid (show pitL1 kk x p=x from by rw [HL1.out,if_neg hn]);clear hn;go_wp2_with fail
      go_meet
      exact⟨by rw [HX.out]; exact I2.out,by rw [HX.out]; exact P2.out⟩
     | true =>
      have hy:=of_decide_eq_true HB1.out;have HX:=Lib.hid (show pitL1 kk x p={x with hr:=wholeR (p.getD 1 [])} from by rw [HL1.out,if_pos hy]);obtain⟨-,rfl,-⟩:=hy;have i1:∀ W,(Instr.indexAt 80 (.slice pa 2 pc) (.int .i64 1)).run Tryz.prog W = .ok (.pointer (some ⟨blk pa,ofs pa+1,none⟩)) W:=fun W=>(run_indexAt_row (w:=W) (cap:=pc) strs80 size9 PP.out (show 1<2 by omega))
      have hc1:=P2.out.row.at (k:=1) (by have:=HPN.out; omega);rw [show strC p 1 = .string ⟨(p.getD 1 []).toArray⟩ from rfl] at hc1;have C1:=Lib.hid (fun W=>whole142_any (p.getD 1 []) W (hpm.out _ (by rw [List.getD_eq_getElem?_getD,List.getElem?_eq_getElem (by have:=HPN.out; omega)]; exact List.getElem_mem _)));generalize wholeR (p.getD 1 [])=n at *;generalize p.getD 1 []=q1 at *;have IA:=Lib.hid (fun j=>I2.out.grow (below_drewN (Below.refl _ _) j));have PA:=Lib.hid (fun j=>P2.out.grow (below_drewN (Below.refl _ _) j));have d0:=cellAt I2.out.ow 0;have f0:=freeAt I2.out.ow 0;simp only [List.getElem?_toArray,List.getElem?_cons_zero] at d0;go_wp2_with (go_at_call 142; refine(C1.out _).mono ?_; rintro e w' ⟨rfl,j,rfl⟩)
      go_meet
      exact⟨by rw [HX.out]; exact RdPit.hr (IA.out j) n,by rw [HX.out]; exact PAt.put (PA.out j) (IA.out j) 0 _⟩
    case rest =>
     obtain⟨hI,hP⟩:=hcut;have hlen2:PitLen kk (pitL1 kk x p):=hlen.l1;generalize pitL1 kk x p=x1 at *;have I3:=Lib.hid hI;have P3:=Lib.hid hP;clear hI hP I2 P2 HL1 HB1 hlen;obtain⟨b2,hb2⟩:∃ b2,decide (p.getD 0 []=frostW∧kk=1)=b2:=⟨_,rfl⟩
     have HB2:=Lib.hid hb2;clear hb2;have HL2:=Lib.hid (show pitL2 kk x1 p=if(p.getD 0 []=frostW∧kk=1)∧0<atN p pn then {x1 with fr:=hrsL ((p.take (atN p pn)).drop 1),pe:=hrsL (p.drop (atN p pn+1))} else x1 from by unfold pitL2; rw [HPN.out]);go_upto_region 9 with (fail)
     go_cut [48] from 41 to 48 (fun t W=>W=wc∧t = .bool b2)
     case first =>
      have hc:=CR.out _ _ P3.out;have hb:=HB2.out;clear HB2 HL2;generalize p.getD 0 []=p0 at *;by_cases e1:p0=frostW
      ·unfold frostW at e1
       by_cases e3:kk=1
       ·rw [decide_eq_true ⟨e1,e3⟩] at hb
        subst hb;subst e3;subst e1;go_wp2_with fail
        go_meet
        exact⟨rfl,rfl⟩
       ·rw [decide_eq_false (fun h=>e3 h.2)] at hb
        subst hb;subst e1;have t0:((kk:Int)==1)=false:=beq_eq_false_iff_ne.2 (by omega);go_wp2_with fail
        go_meet
        exact⟨rfl,rfl⟩
      ·rw [decide_eq_false (fun h=>e1 h.1)] at hb
       subst hb;unfold frostW at e1;go_wp2_with fail
       go_meet
       exact⟨rfl,rfl⟩
     case rest =>
      obtain⟨rfl,rfl⟩:=hcut;go_upto_if 48 with (fail)
      go_cut [7,8,48] from 48 to 73 (fun _ _ _ W=>RdPit w la ls s1 (pitL2 kk x1 p) v1 v2 W∧PAt s1 pa p (pitD (pitL2 kk x1 p) v1 v2) W)
      case first =>
       cases b2 with
       | false =>
        have hn:=of_decide_eq_false HB2.out;have HX:=Lib.hid (show pitL2 kk x1 p=x1 from by rw [HL2.out,if_neg (fun h=>hn h.1)]);clear hn;go_wp2_with fail
        go_meet
        exact⟨by rw [HX.out]; exact I3.out,by rw [HX.out]; exact P3.out⟩
       | true =>
        have hy:=of_decide_eq_true HB2.out
        have HX:=Lib.hid (show pitL2 kk x1 p=if 0<atN p pn then {x1 with fr:=hrsL ((p.take (atN p pn)).drop 1),pe:=hrsL (p.drop (atN p pn+1))} else x1 from by
         rw [HL2.out];by_cases h:0<atN p pn
         ·rw [if_pos ⟨hy,h⟩,if_pos h]
         ·rw [if_neg (fun e=>h e.2),if_neg h])
        clear hy HB2 HL2;go_wp2_with fail
        go_loop [7,8] (fun a k => ∃ j:Nat,j≤pn∧k = .int .i64 j∧a = .int .i64 (atN p j:Nat)) (fun _ k=>pn - (intOf k).toNat)
        case atStart=>exact⟨0,Nat.zero_le _,rfl,rfl⟩
        case round =>
         obtain⟨j,hj,rfl,rfl⟩:=hrel;by_cases hjn:j<pn
         ·have hi:=fun w=>run_indexAt_row (w:=w) (oa:=pa) (n:=pn) (cap:=pc) strs80 size9 PP.out hjn
          simp only [Nat.mul_one] at hi;have hc:=P3.out.row.at (k:=j) (by have:=HPN.out; omega);rw [show strC p j = .string ⟨(p.getD j []).toArray⟩ from rfl] at hc;have HA:=Lib.hid (show atN p (j+1)=if p.getD j []=perhW then j else atN p j from rfl);generalize atN p j=aj at *;generalize p.getD j []=q at *;by_cases e:q=perhW
          ·have HA2:=Lib.hid (show atN p (j+1)=j from by rw [HA.out,if_pos e])
           unfold perhW at e;clear HA;subst e;go_wp2_with fail;exact⟨⟨j+1,hjn,by go_num,by rw [HA2.out]⟩,by simp [intOf]; omega⟩
          ·have HA2:=Lib.hid (show atN p (j+1)=aj from by rw [HA.out,if_neg e])
           unfold perhW at e;clear HA;go_wp2_with fail
           ·rename_i hq
            exact absurd (by simpa using hq) e
           ·exact⟨⟨j+1,hjn,by go_num,by rw [HA2.out]⟩,by simp [intOf]; omega⟩
         ·obtain rfl:j=pn:=by omega
          have hA1:=atN_lt p j (by omega);generalize atN p j=A at *;by_cases hA:0<A
          ·have HX2:=Lib.hid (show pitL2 kk x1 p={x1 with fr:=hrsL ((p.take A).drop 1),pe:=hrsL (p.drop (A+1))} from by rw [HX.out,if_pos hA])
           have hpl:=HPN.out;have e1:((p.take A).drop 1).length=A - 1:=by rw [List.length_drop,List.length_take]; omega
           have e2:(p.drop (A+1)).length=j - (A+1):=by rw [List.length_drop]; omega
           have s3:∀ W,(Instr.sliceAt 80 (.slice pa j pc) (some (.int .i64 1)) (some (.int .i64 A)) none).run Tryz.prog W = .ok (.slice (some ⟨blk pa,ofs pa+1,none⟩) ((p.take A).drop 1).length (pc - 1)) W:=fun W=>by
            rw [e1];exact run_sub80 (l:=1) PP.out hA (by omega) (by omega) W
           obtain⟨oa2,s4,ho2⟩:=tail80 (n:=j) (c:=pc) (l:=A+1) PP.out (by omega) hcap;rw [← e2] at s4;rw [show((A+1:Nat):Int)=(A:Int)+1 from by omega] at s4;have R1:=Lib.hid (fun W (h:PAt s1 pa p (pitD x1 v1 v2) W)=>(show StrsAt W (some ⟨blk pa,ofs pa+1,none⟩) ((p.take A).drop 1) from(h.row.head A).tail 1 (fun _=>rfl)));have R2:=Lib.hid (fun W (h:PAt s1 pa p (pitD x1 v1 v2) W)=>(show StrsAt W oa2 (p.drop (A+1)) from h.row.tail (A+1) (fun h=>ho2 (by omega))));have C1:=Lib.hid (fun W (h:PAt s1 pa p (pitD x1 v1 v2) W)=>set144_any _ (pc - 1) _ W (R1.out W h) (fun t ht=>hpm.out t (List.mem_of_mem_take (List.mem_of_mem_drop ht))) (by omega));have C2:=Lib.hid (fun W (h:PAt s1 pa p (pitD x1 v1 v2) W)=>set144_any oa2 (pc - (A+1)) _ W (R2.out W h) (fun t ht=>hpm.out t (List.mem_of_mem_drop ht)) (by omega));have hAI:(0:Int)<A:=by omega
           have wA:IntKind.i64.wrap ((A:Int)+1)=(A:Int)+1:=IntWalk.i64_in _ (by omega);clear R1 R2 e1 e2 ho2 HX hpl;generalize hrsL ((p.take A).drop 1)=S1 at *;generalize hrsL (p.drop (A+1))=S2 at *;generalize (p.take A).drop 1=l1 at *;generalize p.drop (A+1)=l2 at *;go_upto_region 17 with (fail)
           have I6:=Lib.hid (I3.out.grow (Below.drew (Below.refl wc.heap.size wc)));have P6:=Lib.hid (P3.out.grow (Below.drew (Below.refl wc.heap.size wc)));refine wp_region_stg (S:=(fun _=>True)) (L:=[]) (D:=[]) (by kernel_rfl) (by kernel_rfl) trivial (fun e he=>by cases he) (fun hC0 hH0=>?_);generalize World.drew wc=w6 at *;clear I3 P3;refine tkA (i:=0) (v:=?_) rfl hC0 (Or.inl ⟨by rfl,?_⟩) hH0 (fun hC1 hH1=>?_);rotate_left
           ·(intro w9 hSw; obtain⟨hSw,hLw⟩:=hSw; clear hLw; (try dsimp only at hSw); (go_split_ands; go_simp); (try with_reducible rfl))
           clear hC0 hH0
           try simp only [Act.put,List.setIfInBounds_toArray,List.set_cons_zero,List.set_cons_succ]
           refine tkA (i:=1) (v:=?_) rfl hC1 (Or.inl ⟨by rfl,?_⟩) hH1 (fun hC2 hH2=>?_);rotate_left
           ·(intro w9 hSw; obtain⟨hSw,hLw⟩:=hSw; clear hLw; (try dsimp only at hSw); (go_split_ands; go_simp); (try with_reducible rfl))
           clear hC1 hH1
           try simp only [Act.put,List.setIfInBounds_toArray,List.set_cons_zero,List.set_cons_succ]
           refine tkA (i:=2) (v:=?_) rfl hC2 (Or.inl ⟨by rfl,?_⟩) hH2 (fun hC3 hH3=>?_);rotate_left
           ·(intro w9 hSw; obtain⟨hSw,hLw⟩:=hSw; clear hLw; (try dsimp only at hSw); (go_split_ands; go_simp); (try with_reducible rfl))
           clear hC2 hH2
           try simp only [Act.put,List.setIfInBounds_toArray,List.set_cons_zero,List.set_cons_succ]
           refine tkA (i:=4) (v:=?_) rfl hC3 (Or.inl ⟨by rfl,?_⟩) hH3 (fun hC4 hH4=>?_);rotate_left
           ·(intro w9 hSw; obtain⟨hSw,hLw⟩:=hSw; clear hLw; (try dsimp only at hSw); (go_split_ands; go_simp); (try with_reducible rfl))
           clear hC3 hH3
           try simp only [Act.put,List.setIfInBounds_toArray,List.set_cons_zero,List.set_cons_succ]
           refine tkA (i:=5) (v:=?_) rfl hC4 (Or.inl ⟨by rfl,?_⟩) hH4 (fun hC5 hH5=>?_);rotate_left
           ·(intro w9 hSw; obtain⟨hSw,hLw⟩:=hSw; clear hLw; (try dsimp only at hSw); (go_split_ands; go_simp); (try with_reducible rfl))
           clear hC4 hH4
           try simp only [Act.put,List.setIfInBounds_toArray,List.set_cons_zero,List.set_cons_succ]
           refine tkA (i:=6) (v:=?_) rfl hC5 (Or.inl ⟨by rfl,?_⟩) hH5 (fun hC6 hH6=>?_);rotate_left
           ·(intro w9 hSw; obtain⟨hSw,hLw⟩:=hSw; clear hLw; (try dsimp only at hSw); (go_split_ands; go_simp); (try with_reducible rfl))
           clear hC5 hH5
           try simp only [Act.put,List.setIfInBounds_toArray,List.set_cons_zero,List.set_cons_succ]
           refine tkA (i:=7) (v:=?_) rfl hC6 (Or.inl ⟨by rfl,?_⟩) hH6 (fun hC7 hH7=>?_);rotate_left
           ·(intro w9 hSw; obtain⟨hSw,hLw⟩:=hSw; clear hLw; (try dsimp only at hSw); (go_split_ands; go_simp); (try with_reducible rfl))
           clear hC6 hH6
           try simp only [Act.put,List.setIfInBounds_toArray,List.set_cons_zero,List.set_cons_succ]
           refine onA (i:=3) rfl hC7 (fun K hK=>?_);clear hC7 hH7;go_simp;refine(C1.out w6 P6.out).mono ?_;rintro e w7 ⟨rfl,hb⟩;have I7:=Lib.hid (I6.out.grow hb);have P7:=Lib.hid (P6.out.grow hb);clear I6 P6 hb;go_wp2_with fail;refine hK.out _ _ ?_ (fun hC8 hH8=>?_)
           ·exact⟨trivial,fun e he=>by cases he⟩
           clear hK K
           try simp only [Act.put,List.setIfInBounds_toArray,List.set_cons_zero,List.set_cons_succ]
           refine tkA (i:=9) (v:=?_) rfl hC8 (Or.inl ⟨by rfl,?_⟩) hH8 (fun hC9 hH9=>?_);rotate_left
           ·(intro w9 hSw; obtain⟨hSw,hLw⟩:=hSw; clear hLw; (try dsimp only at hSw); (go_split_ands; go_simp); (try with_reducible rfl))
           clear hC8 hH8
           try simp only [Act.put,List.setIfInBounds_toArray,List.set_cons_zero,List.set_cons_succ]
           refine onA (i:=8) rfl hC9 (fun K hK=>?_);clear hC9 hH9;go_simp;refine(C2.out w7 P7.out).mono ?_;rintro e w8 ⟨rfl,hb⟩;have I8:=Lib.hid (I7.out.grow hb);have P8:=Lib.hid (P7.out.grow hb);clear I7 P7 hb;go_wp2_with fail;refine hK.out _ _ ?_ (fun hC10 hH10=>?_)
           ·exact⟨trivial,fun e he=>by cases he⟩
           clear hK K
           try simp only [Act.put,List.setIfInBounds_toArray,List.set_cons_zero,List.set_cons_succ]
           refine onA (i:=10) rfl hC10 (fun K hK=>?_);clear hC10 hH10;have d0:=cellAt I8.out.ow 1;have f0:=freeAt I8.out.ow 1;simp only [List.getElem?_toArray,List.getElem?_cons_zero,List.getElem?_cons_succ] at d0;have I9:=Lib.hid (RdPit.fr I8.out S1);have P9:=Lib.hid (show PAt s1 pa p (pitD x1 v1 v2) _ from PAt.put P8.out I8.out 1 (.int .i64 S1));go_simp;go_wp2_with fail;clear d0 f0 I8 P8;generalize World.setCell w8 _ _=w9 at *;refine hK.out _ _ ?_ (fun hC11 hH11=>?_)
           ·exact⟨trivial,fun e he=>by cases he⟩
           clear hK K
           try simp only [Act.put]
           refine tkA (i:=11) (v:=?_) rfl hC11 (Or.inl ⟨by rfl,?_⟩) hH11 (fun hC12 hH12=>?_);rotate_left
           ·(intro w9 hSw; obtain⟨hSw,hLw⟩:=hSw; clear hLw; (try dsimp only at hSw); (go_split_ands; go_simp); (try with_reducible rfl))
           clear hC11 hH11
           try simp only [Act.put,List.setIfInBounds_toArray,List.set_cons_zero,List.set_cons_succ]
           refine onA (i:=12) rfl hC12 (fun K hK=>?_);clear hC12 hH12;have d0:=cellAt I9.out.ow 2;have f0:=freeAt I9.out.ow 2;simp only [List.getElem?_toArray,List.getElem?_cons_zero,List.getElem?_cons_succ] at d0;have IA:=Lib.hid (RdPit.pe I9.out S2);have PA:=Lib.hid (show PAt s1 pa p (pitD x1 v1 v2) _ from PAt.put P9.out I9.out 2 (.int .i64 S2));go_simp;go_wp2_with fail;clear d0 f0 I9 P9;generalize World.setCell w9 _ _=wA at *;refine hK.out _ _ ?_ (fun hC13 hH13=>?_)
           ·exact⟨trivial,fun e he=>by cases he⟩
           clear hK K
           try simp only [Act.put]
           refine wpAnyT_done (by kernel_rfl) ?_ _;clear hC13 hH13;go_wp2_with fail
           go_meet
           exact⟨by rw [HX2.out]; exact IA.out,by rw [HX2.out]; exact PA.out⟩
          ·have HX2:=Lib.hid (show pitL2 kk x1 p=x1 from by rw [HX.out,if_neg hA])
           have hAI:¬ (0:Int)<A:=by omega
           go_wp2_with fail
           go_meet
           exact⟨by rw [HX2.out]; exact I3.out,by rw [HX2.out]; exact P3.out⟩
      case rest =>
       obtain⟨hI,hP⟩:=hcut;have hlen3:PitLen kk (pitL2 kk x1 p):=hlen2.l2;generalize pitL2 kk x1 p=x2 at *;have I4:=Lib.hid hI;have P4:=Lib.hid hP;clear hI hP I3 P3 HL2 HB2 hlen2;have HL3:=Lib.hid (show pitL3 x2 p=if p.getD 0 []=fireW then {x2 with f:=x2.f ++ [(hrsL (p.drop 1):Int)]} else x2 from rfl);have hc:=CR.out _ _ P4.out;generalize hp0:p.getD 0 []=p0 at *;have HP0:=Lib.hid hp0;clear hp0;go_upto_if 77 with (fail)
       clear hc;go_cut [77] from 77 to 85 (fun _ W => ∃ y1,RdPit w la ls s1 (pitL3 x2 p) y1 v2 W∧PAt s1 pa p (pitD (pitL3 x2 p) y1 v2) W)
       case first =>
        by_cases e:p0=fireW
        ·have HX:=Lib.hid (show pitL3 x2 p={x2 with f:=x2.f ++ [(hrsL (p.drop 1):Int)]} from by rw [HL3.out,if_pos e])
         have hpl:=HPN.out;obtain⟨oa2,s4,ho2⟩:=tail80 (n:=pn) (c:=pc) (l:=1) PP.out (by omega) hcap;have e2:(p.drop 1).length=pn - 1:=by rw [List.length_drop]; omega
         rw [← e2] at s4;have s5:∀ W,(Instr.sliceAt 80 (.slice pa pn pc) (some (.int .i64 1)) none none).run Tryz.prog W = .ok (.slice oa2 (p.drop 1).length (pc - 1)) W:=s4;have C1:=Lib.hid (fun W (h:PAt s1 pa p (pitD x2 v1 v2) W)=>set144_any oa2 (pc - 1) _ W (h.row.tail 1 (fun h=>ho2 (by omega))) (fun t ht=>hpm.out t (List.mem_of_mem_drop ht)) (by omega));have hfl:=hlen3.f;unfold fireW at e;clear HL3 e2 s4 ho2 hpl HP0 CR;subst e;generalize hrsL (p.drop 1)=S1 at *;generalize p.drop 1=l1 at *;go_upto_region 19 with (fail)
         have I6:=Lib.hid (I4.out.grow (Below.drew (Below.refl wc.heap.size wc)));have P6:=Lib.hid (P4.out.grow (Below.drew (Below.refl wc.heap.size wc)));refine wp_region_stg (S:=(fun _=>True)) (L:=[(8,(fun w':World=>w'.cell? ⟨w.heap.size+1,3,none⟩=some v1))]) (D:=[(8,1)]) (by kernel_rfl) (by kernel_rfl) trivial (by intro e he; simp only [List.mem_cons,List.mem_nil_iff,or_false] at he; subst he; exact cellAt I6.out.ow 3) (fun hC0 hH0=>?_);generalize World.drew wc=w6 at *;clear I4 P4;refine tkA (i:=0) (v:=?_) rfl hC0 (Or.inl ⟨by rfl,?_⟩) hH0 (fun hC1 hH1=>?_);rotate_left
         ·(intro w9 hSw; obtain⟨hSw,hLw⟩:=hSw; clear hLw; (try dsimp only at hSw); (go_split_ands; go_simp); (try with_reducible rfl))
         clear hC0 hH0
         try simp only [Act.put,List.setIfInBounds_toArray,List.set_cons_zero,List.set_cons_succ]
         refine tkA (i:=1) (v:=?_) rfl hC1 (Or.inl ⟨by rfl,?_⟩) hH1 (fun hC2 hH2=>?_);rotate_left
         ·(intro w9 hSw; obtain⟨hSw,hLw⟩:=hSw; have hl8:=hLw _ List.mem_cons_self rfl; dsimp only at hl8; clear hLw; (try dsimp only at hSw); (go_split_ands; go_simp); (try with_reducible rfl))
         clear hC1 hH1
         try simp only [Act.put,List.setIfInBounds_toArray,List.set_cons_zero,List.set_cons_succ]
         refine tkA (i:=2) (v:=?_) rfl hC2 (Or.inl ⟨by rfl,?_⟩) hH2 (fun hC3 hH3=>?_);rotate_left
         ·(intro w9 hSw; obtain⟨hSw,hLw⟩:=hSw; clear hLw; (try dsimp only at hSw); (go_split_ands; go_simp); (try with_reducible rfl))
         clear hC2 hH2
         try simp only [Act.put,List.setIfInBounds_toArray,List.set_cons_zero,List.set_cons_succ]
         refine tkA (i:=3) (v:=?_) rfl hC3 (Or.inl ⟨by rfl,?_⟩) hH3 (fun hC4 hH4=>?_);rotate_left
         ·(intro w9 hSw; obtain⟨hSw,hLw⟩:=hSw; clear hLw; (try dsimp only at hSw); (go_split_ands; go_simp); (try with_reducible rfl))
         clear hC3 hH3
         try simp only [Act.put,List.setIfInBounds_toArray,List.set_cons_zero,List.set_cons_succ]
         refine onA (i:=4) rfl hC4 (fun K hK=>?_);clear hC4 hH4;go_simp;refine(C1.out w6 P6.out).mono ?_;rintro e w7 ⟨rfl,hb⟩;have I7:=Lib.hid (I6.out.grow hb);have P7:=Lib.hid (P6.out.grow hb);clear I6 P6 hb;go_wp2_with fail;refine hK.out _ _ ?_ (fun hC5 hH5=>?_)
         ·exact⟨trivial,fun e he _=>by simp only [List.mem_cons,List.mem_nil_iff,or_false] at he; subst he; exact cellAt I7.out.ow 3⟩
         clear hK K
         try simp only [Act.put,List.setIfInBounds_toArray,List.set_cons_zero,List.set_cons_succ]
         refine onA (i:=5) rfl hC5 (fun K hK=>?_);clear hC5 hH5;have hal:=(Below.refl w7.heap.size w7).alloc (Nat.le_refl _) (.cells #[.int .i64 (S1:Nat)] 3);have I8:=Lib.hid (I7.out.grow hal);have P8:=Lib.hid (P7.out.grow hal);have N8:=Lib.hid (show BoxAt (w7.alloc (.cells #[.int .i64 (S1:Nat)] 3)) w7.heap.size #[.int .i64 (S1:Nat)] 3 from heap_alloc_new _ _);have O8:=Lib.hid (show(w7.alloc (.cells #[.int .i64 (S1:Nat)] 3)).ownsRow s1 3 1 v1 x2.f.length (intsV x2.f) from I8.out.rows ⟨3,1,x2.f.length,v1,intsV x2.f⟩ List.mem_cons_self);go_simp;go_wp2_with fail;generalize World.alloc w7 _=w8 at *;clear I7 P7 hal;refine hK.out _ _ ?_ (fun hC6 hH6=>?_)
         ·exact⟨trivial,fun e he _=>by simp only [List.mem_cons,List.mem_nil_iff,or_false] at he; subst he; exact cellAt I8.out.ow 3⟩
         clear hK K
         try simp only [Act.put,List.setIfInBounds_toArray,List.set_cons_zero,List.set_cons_succ]
         refine onA (i:=6) rfl hC6 (fun K hK=>?_);clear hC6 hH6;obtain⟨i5,z5,by5,hi5,hz5,hz6,hz7,hz8,hz9⟩:=elem3.info;refine step_appRow (w:=w8) elem3.slice hi5 hz5 hz6 hz7 hz8 (by decide) (by omega) (by rfl) (.tmp 79) (.tmp 83) (by rfl) (v:=v1) (xs:=intsV x2.f) (base:=s1) (n:=x2.f.length) (by rfl) O8.out (b:=w7.heap.size) (us:=[.int .i64 (S1:Nat)]) (by rfl) N8.out (by rfl) (by intro u hu; rw [List.mem_singleton] at hu; rw [hu]; rfl) (by omega) I8.out.size ?_;intro g cap wB h2 h3 h4;obtain⟨k1,k2,k3⟩:=RdPit.fire (n:=(S1:Nat)) I8.out P8.out h2 h3 h4;have KB:=Lib.hid k1;have QB:=Lib.hid k2;have BB:=Lib.hid k3;clear h2 h3 h4 k1 k2 k3 I8 P8 N8 O8 hi5 hz5 hz6 hz7 hz8 hz9;refine hK.out _ _ ?_ (fun hC7 hH7=>?_)
         ·exact⟨trivial,fun e he _=>by simp only [List.mem_cons,List.mem_nil_iff,or_false] at he; subst he; exact cellAt BB.out 3⟩
         clear hK K
         try simp only [Act.put,List.setIfInBounds_toArray,List.set_cons_zero,List.set_cons_succ]
         refine tkA (i:=7) (v:=?_) rfl hC7 (Or.inl ⟨by rfl,?_⟩) hH7 (fun hC8 hH8=>?_);rotate_left
         ·(intro w9 hSw; obtain⟨hSw,hLw⟩:=hSw; clear hLw; (try dsimp only at hSw); (go_split_ands; go_simp); (try with_reducible rfl))
         clear hC7 hH7
         try simp only [Act.put,List.setIfInBounds_toArray,List.set_cons_zero,List.set_cons_succ]
         refine onA (i:=8) rfl hC8 (fun K hK=>?_);clear hC8 hH8;have c0:=cellAt BB.out 3;have f0:=freeAt BB.out 3;simp only [List.getElem?_toArray,List.getElem?_cons_zero,List.getElem?_cons_succ] at c0;go_simp;go_wp2_with fail;refine hK.out _ _ ?_ (fun hC9 hH9=>?_)
         ·exact⟨trivial,fun e he h=>by simp only [List.mem_cons,List.mem_nil_iff,or_false] at he; subst he; exact absurd h (by intro hx; exact Bool.false_ne_true (hx.symm.trans (by kernel_rfl)))⟩
         clear hK K
         try simp only [Act.put]
         refine wpAnyT_done (by kernel_rfl) ?_ _;clear hC9 hH9;go_wp2_with fail
         go_meet
         exact⟨_,by rw [HX.out]; exact KB.out,by rw [HX.out]; exact QB.out⟩
        ·have HX:=Lib.hid (show pitL3 x2 p=x2 from by rw [HL3.out,if_neg e])
         unfold fireW at e;have PC:=Lib.hid I4.out;go_upto_region 19 with (fail)
         ·rename_i hq
          exact absurd (by simpa using hq) e
         ·go_meet
          exact⟨v1,by rw [HX.out]; exact I4.out,by rw [HX.out]; exact P4.out⟩
       case rest =>
        obtain⟨y1,hI,hP⟩:=hcut
        have hlen4:(pitL3 x2 p).q.length≤3000:=by
         have h1:=hlen3.q
         have e3:(pitL3 x2 p).q=x2.q:=by
          unfold pitL3
          split <;> rfl
         rw [e3];omega
        generalize pitL3 x2 p=x3 at *;have I5:=Lib.hid hI;have P5:=Lib.hid hP;clear hI hP I4 P4 hlen3;obtain⟨b4,hb4⟩:∃ b4,decide (p0=potW∧pn=4)=b4:=⟨_,rfl⟩
        have HB4:=Lib.hid hb4;clear hb4;have HL4:=Lib.hid (show pitL4 x3 p=if p0=potW∧pn=4 then {x3 with q:=x3.q ++ [potR p]} else x3 from by unfold pitL4; rw [HPN.out,HP0.out]);go_upto_region 20 with (fail)
        go_cut [94] from 86 to 94 (fun t W=>W=wc∧t = .bool b4)
        case first =>
         have hc:=CR.out _ _ P5.out;have hb:=HB4.out;clear HB4 HL4 HP0 HL3;by_cases e1:p0=potW
         ·unfold potW at e1
          by_cases e3:pn=4
          ·rw [decide_eq_true ⟨e1,e3⟩] at hb
           subst hb;subst e3;subst e1;go_wp2_with fail
           go_meet
           exact⟨rfl,rfl⟩
          ·rw [decide_eq_false (fun h=>e3 h.2)] at hb
           subst hb;subst e1;have t0:((pn:Int)==4)=false:=beq_eq_false_iff_ne.2 (by omega);go_wp2_with fail
           go_meet
           exact⟨rfl,rfl⟩
         ·rw [decide_eq_false (fun h=>e1 h.1)] at hb
          subst hb;unfold potW at e1;go_wp2_with fail
          go_meet
          exact⟨rfl,rfl⟩
        case rest =>
         obtain⟨rfl,rfl⟩:=hcut
         cases b4 with
         | false =>
          have hn:=of_decide_eq_false HB4.out;have HX:=Lib.hid (show foldN pitL ⟨-1,0,0,[],[]⟩ ls (kk+1)=x3 from by rw [HN.out,HL4.out,if_neg hn]);clear hn;go_wp2_with fail;exact⟨⟨kk+1,y1,v2,hlt,by go_num,by rw [HX.out]; exact I5.out⟩,by simp [intOf]; omega⟩
         | true =>
          have hy:=of_decide_eq_true HB4.out;have HX:=Lib.hid (show foldN pitL ⟨-1,0,0,[],[]⟩ ls (kk+1)={x3 with q:=x3.q ++ [potR p]} from by rw [HN.out,HL4.out,if_pos hy]);obtain⟨-,rfl⟩:=hy;clear HL4 HB4 HP0 CR HL3 HN i0
          obtain⟨t0,t1,t2,t3,rfl⟩:∃ a b c d,p = [a,b,c,d]:=by
           have h:=HPN.out
           match p,h with
           | [a,b,c,d],_=>exact⟨a,b,c,d,rfl⟩
          have HX2:=Lib.hid (show foldN pitL ⟨-1,0,0,[],[]⟩ ls (kk+1)={x3 with q:=x3.q ++ [⟨wholeR t1,wholeR t2,wholeR t3⟩]} from HX.out);clear HX;have C0:=Lib.hid (fun W=>whole142_any t1 W (hpm.out _ (List.mem_cons_of_mem _ List.mem_cons_self)));have C1:=Lib.hid (fun W=>whole142_any t2 W (hpm.out _ (List.mem_cons_of_mem _ (List.mem_cons_of_mem _ List.mem_cons_self))));have C2:=Lib.hid (fun W=>whole142_any t3 W (hpm.out _ (List.mem_cons_of_mem _ (List.mem_cons_of_mem _ (List.mem_cons_of_mem _ List.mem_cons_self)))));generalize wholeR t1=a at *;generalize wholeR t2=b at *;generalize wholeR t3=c at *;have i1:∀ W,(Instr.indexAt 80 (.slice pa 4 pc) (.int .i64 1)).run Tryz.prog W = .ok (.pointer (some ⟨blk pa,ofs pa+1,none⟩)) W:=fun W=>(run_indexAt_row (w:=W) (cap:=pc) strs80 size9 PP.out (show 1<4 by omega))
          have i2:∀ W,(Instr.indexAt 80 (.slice pa 4 pc) (.int .i64 2)).run Tryz.prog W = .ok (.pointer (some ⟨blk pa,ofs pa+2,none⟩)) W:=fun W=>(run_indexAt_row (w:=W) (cap:=pc) strs80 size9 PP.out (show 2<4 by omega))
          have i3:∀ W,(Instr.indexAt 80 (.slice pa 4 pc) (.int .i64 3)).run Tryz.prog W = .ok (.pointer (some ⟨blk pa,ofs pa+3,none⟩)) W:=fun W=>(run_indexAt_row (w:=W) (cap:=pc) strs80 size9 PP.out (show 3<4 by omega))
          go_upto_region 21 with (fail)
          have PL:=Lib.hid (show w.heap.size+1≠blk pa from by have:=P5.out.lo (show 0<4 by omega); have:=I5.out.low; omega);have I6:=Lib.hid (I5.out.grow (Below.drew (Below.refl wc.heap.size wc)));have P6:=Lib.hid (P5.out.grow (Below.drew (Below.refl wc.heap.size wc)));refine wp_region_stg (S:=(fun w':World=>w'.cell? ⟨blk pa,ofs pa+1,none⟩=some (.string ⟨t1.toArray⟩)∧w'.cell? ⟨blk pa,ofs pa+2,none⟩=some (.string ⟨t2.toArray⟩)∧w'.cell? ⟨blk pa,ofs pa+3,none⟩=some (.string ⟨t3.toArray⟩))) (L:=[(18,(fun w':World=>w'.cell? ⟨w.heap.size+1,4,none⟩=some v2))]) (D:=[(18,1)]) (by kernel_rfl) (by kernel_rfl) ⟨P6.out.row.at (k:=1) (show 1<4 by decide),P6.out.row.at (k:=2) (show 2<4 by decide),P6.out.row.at (k:=3) (show 3<4 by decide)⟩ (by intro e he; simp only [List.mem_cons,List.mem_nil_iff,or_false] at he; subst he; exact cellAt I6.out.ow 4) (fun hC0 hH0=>?_);generalize World.drew wc=w6 at *;clear I5 P5;refine tkA (i:=0) (v:=?_) rfl hC0 (Or.inl ⟨by rfl,?_⟩) hH0 (fun hC1 hH1=>?_);rotate_left
          ·(intro w9 hSw; obtain⟨hSw,hLw⟩:=hSw; clear hLw; (try dsimp only at hSw); (go_split_ands; go_simp); (try with_reducible rfl))
          clear hC0 hH0
          try simp only [Act.put,List.setIfInBounds_toArray,List.set_cons_zero,List.set_cons_succ]
          refine tkA (i:=1) (v:=?_) rfl hC1 (Or.inl ⟨by rfl,?_⟩) hH1 (fun hC2 hH2=>?_);rotate_left
          ·(intro w9 hSw; obtain⟨hSw,hLw⟩:=hSw; have hl18:=hLw _ List.mem_cons_self rfl; dsimp only at hl18; clear hLw; (try dsimp only at hSw); (go_split_ands; go_simp); (try with_reducible rfl))
          clear hC1 hH1
          try simp only [Act.put,List.setIfInBounds_toArray,List.set_cons_zero,List.set_cons_succ]
          refine tkA (i:=2) (v:=?_) rfl hC2 (Or.inl ⟨by rfl,?_⟩) hH2 (fun hC3 hH3=>?_);rotate_left
          ·(intro w9 hSw; obtain⟨hSw,hLw⟩:=hSw; clear hLw; (try dsimp only at hSw); (go_split_ands; go_simp); (try with_reducible rfl))
          clear hC2 hH2
          try simp only [Act.put,List.setIfInBounds_toArray,List.set_cons_zero,List.set_cons_succ]
          refine tkA (i:=3) (v:=?_) rfl hC3 (Or.inl ⟨by rfl,?_⟩) hH3 (fun hC4 hH4=>?_);rotate_left
          ·(intro w9 hSw; obtain⟨hSw,hLw⟩:=hSw; clear hLw; (try dsimp only at hSw); (go_split_ands; go_simp); (try with_reducible rfl))
          clear hC3 hH3
          try simp only [Act.put,List.setIfInBounds_toArray,List.set_cons_zero,List.set_cons_succ]
          refine tkA (i:=4) (v:=?_) rfl hC4 (Or.inl ⟨by rfl,?_⟩) hH4 (fun hC5 hH5=>?_);rotate_left
          ·(intro w9 hSw; obtain⟨hSw,hLw⟩:=hSw; clear hLw; (try dsimp only at hSw); (go_split_ands; go_simp); (try with_reducible rfl))
          clear hC4 hH4
          try simp only [Act.put,List.setIfInBounds_toArray,List.set_cons_zero,List.set_cons_succ]
          refine tkA (i:=6) (v:=?_) rfl hC5 (Or.inl ⟨by rfl,?_⟩) hH5 (fun hC6 hH6=>?_);rotate_left
          ·(intro w9 hSw; obtain⟨hSw,hLw⟩:=hSw; clear hLw; (try dsimp only at hSw); (go_split_ands; go_simp); (try with_reducible rfl))
          clear hC5 hH5
          try simp only [Act.put,List.setIfInBounds_toArray,List.set_cons_zero,List.set_cons_succ]
          refine tkA (i:=7) (v:=?_) rfl hC6 (Or.inl ⟨by rfl,?_⟩) hH6 (fun hC7 hH7=>?_);rotate_left
          ·(intro w9 hSw; obtain⟨hSw,hLw⟩:=hSw; clear hLw; (try dsimp only at hSw); (go_split_ands; go_simp); (try with_reducible rfl))
          clear hC6 hH6
          try simp only [Act.put,List.setIfInBounds_toArray,List.set_cons_zero,List.set_cons_succ]
          refine tkA (i:=8) (v:=?_) rfl hC7 (Or.inl ⟨by rfl,?_⟩) hH7 (fun hC8 hH8=>?_);rotate_left
          ·(intro w9 hSw; obtain⟨hSw,hLw⟩:=hSw; clear hLw; (try dsimp only at hSw); (go_split_ands; go_simp); (try with_reducible rfl))
          clear hC7 hH7
          try simp only [Act.put,List.setIfInBounds_toArray,List.set_cons_zero,List.set_cons_succ]
          refine tkA (i:=10) (v:=?_) rfl hC8 (Or.inl ⟨by rfl,?_⟩) hH8 (fun hC9 hH9=>?_);rotate_left
          ·(intro w9 hSw; obtain⟨hSw,hLw⟩:=hSw; clear hLw; (try dsimp only at hSw); (go_split_ands; go_simp); (try with_reducible rfl))
          clear hC8 hH8
          try simp only [Act.put,List.setIfInBounds_toArray,List.set_cons_zero,List.set_cons_succ]
          refine tkA (i:=11) (v:=?_) rfl hC9 (Or.inl ⟨by rfl,?_⟩) hH9 (fun hC10 hH10=>?_);rotate_left
          ·(intro w9 hSw; obtain⟨hSw,hLw⟩:=hSw; clear hLw; (try dsimp only at hSw); (go_split_ands; go_simp); (try with_reducible rfl))
          clear hC9 hH9
          try simp only [Act.put,List.setIfInBounds_toArray,List.set_cons_zero,List.set_cons_succ]
          refine tkA (i:=12) (v:=?_) rfl hC10 (Or.inl ⟨by rfl,?_⟩) hH10 (fun hC11 hH11=>?_);rotate_left
          ·(intro w9 hSw; obtain⟨hSw,hLw⟩:=hSw; clear hLw; (try dsimp only at hSw); (go_split_ands; go_simp); (try with_reducible rfl))
          clear hC10 hH10
          try simp only [Act.put,List.setIfInBounds_toArray,List.set_cons_zero,List.set_cons_succ]
          refine onA (i:=5) rfl hC11 (fun K hK=>?_);clear hC11 hH11;go_simp;refine(C0.out w6).mono ?_;rintro e w7 ⟨rfl,j,rfl⟩;have I7:=Lib.hid (I6.out.grow (below_drewN (Below.refl _ _) j));have P7:=Lib.hid (P6.out.grow (below_drewN (Below.refl _ _) j));generalize World.drewN w6 j=w7 at *;clear I6 P6;go_wp2_with fail;refine hK.out _ _ ?_ (fun hC12 hH12=>?_)
          ·exact⟨⟨P7.out.row.at (k:=1) (show 1<4 by decide),P7.out.row.at (k:=2) (show 2<4 by decide),P7.out.row.at (k:=3) (show 3<4 by decide)⟩,fun e he _=>by simp only [List.mem_cons,List.mem_nil_iff,or_false] at he; subst he; exact cellAt I7.out.ow 4⟩
          clear hK K
          try simp only [Act.put,List.setIfInBounds_toArray,List.set_cons_zero,List.set_cons_succ]
          refine onA (i:=9) rfl hC12 (fun K hK=>?_);clear hC12 hH12;go_simp;refine(C1.out w7).mono ?_;rintro e w8 ⟨rfl,j,rfl⟩;have I8:=Lib.hid (I7.out.grow (below_drewN (Below.refl _ _) j));have P8:=Lib.hid (P7.out.grow (below_drewN (Below.refl _ _) j));generalize World.drewN w7 j=w8 at *;clear I7 P7;go_wp2_with fail;refine hK.out _ _ ?_ (fun hC13 hH13=>?_)
          ·exact⟨⟨P8.out.row.at (k:=1) (show 1<4 by decide),P8.out.row.at (k:=2) (show 2<4 by decide),P8.out.row.at (k:=3) (show 3<4 by decide)⟩,fun e he _=>by simp only [List.mem_cons,List.mem_nil_iff,or_false] at he; subst he; exact cellAt I8.out.ow 4⟩
          clear hK K
          try simp only [Act.put,List.setIfInBounds_toArray,List.set_cons_zero,List.set_cons_succ]
          refine onA (i:=13) rfl hC13 (fun K hK=>?_);clear hC13 hH13;go_simp;refine(C2.out w8).mono ?_;rintro e w9 ⟨rfl,j,rfl⟩;have I9:=Lib.hid (I8.out.grow (below_drewN (Below.refl _ _) j));have P9:=Lib.hid (P8.out.grow (below_drewN (Below.refl _ _) j));generalize World.drewN w8 j=w9 at *;clear I8 P8;go_wp2_with fail;refine hK.out _ _ ?_ (fun hC14 hH14=>?_)
          ·exact⟨⟨P9.out.row.at (k:=1) (show 1<4 by decide),P9.out.row.at (k:=2) (show 2<4 by decide),P9.out.row.at (k:=3) (show 3<4 by decide)⟩,fun e he _=>by simp only [List.mem_cons,List.mem_nil_iff,or_false] at he; subst he; exact cellAt I9.out.ow 4⟩
          clear hK K
          try simp only [Act.put,List.setIfInBounds_toArray,List.set_cons_zero,List.set_cons_succ]
          refine tkA (i:=14) (v:=?_) rfl hC14 (Or.inl ⟨by rfl,?_⟩) hH14 (fun hC15 hH15=>?_);rotate_left
          ·(intro w9 hSw; obtain⟨hSw,hLw⟩:=hSw; clear hLw; (try dsimp only at hSw); (go_split_ands; go_simp); (try with_reducible rfl))
          clear hC14 hH14
          try simp only [Act.put,List.setIfInBounds_toArray,List.set_cons_zero,List.set_cons_succ]
          refine onA (i:=15) rfl hC15 (fun K hK=>?_);clear hC15 hH15;have hal:=(Below.refl w9.heap.size w9).alloc (Nat.le_refl _) (.cells #[.int .i64 a,.int .i64 b,.int .i64 c] 147);have IA:=Lib.hid (I9.out.grow hal);have PA:=Lib.hid (P9.out.grow hal);have NA:=Lib.hid (show BoxAt (w9.alloc (.cells #[.int .i64 a,.int .i64 b,.int .i64 c] 147)) w9.heap.size #[.int .i64 a,.int .i64 b,.int .i64 c] 147 from heap_alloc_new _ _);have OA:=Lib.hid (show(w9.alloc (.cells #[.int .i64 a,.int .i64 b,.int .i64 c] 147)).ownsRow s1 147 3 v2 x3.q.length (potV x3.q) from IA.out.rows ⟨147,3,x3.q.length,v2,potV x3.q⟩ (List.mem_cons_of_mem _ List.mem_cons_self));go_simp;go_wp2_with fail;generalize World.alloc w9 _=wA at *;clear I9 P9 hal;refine hK.out _ _ ?_ (fun hC16 hH16=>?_)
          ·exact⟨⟨PA.out.row.at (k:=1) (show 1<4 by decide),PA.out.row.at (k:=2) (show 2<4 by decide),PA.out.row.at (k:=3) (show 3<4 by decide)⟩,fun e he _=>by simp only [List.mem_cons,List.mem_nil_iff,or_false] at he; subst he; exact cellAt IA.out.ow 4⟩
          clear hK K
          try simp only [Act.put,List.setIfInBounds_toArray,List.set_cons_zero,List.set_cons_succ]
          refine onA (i:=16) rfl hC16 (fun K hK=>?_);clear hC16 hH16;obtain⟨i5,hi5,hz5,hz6,hz7⟩:=info147;refine step_appRow (w:=wA) sl27 hi5 hz5 hz6 hz7 (by rfl) (by decide) (by decide) (by rfl) (.tmp 96) (.tmp 110) (by rfl) (v:=v2) (xs:=potV x3.q) (base:=s1) (n:=x3.q.length) (by rfl) OA.out (b:=w9.heap.size) (us:=[.int .i64 a,.int .i64 b,.int .i64 c]) (by rfl) NA.out (by rfl) (by intro u hu; simp only [List.mem_cons,List.mem_nil_iff,or_false] at hu; rcases hu with rfl | rfl | rfl <;> rfl) (by omega) IA.out.size ?_;intro g cap wB h2 h3 h4;obtain⟨k1,k2,k3⟩:=RdPit.pot (y:=⟨a,b,c⟩) IA.out PA.out h2 h3 h4;have KB:=Lib.hid k1;have BB:=Lib.hid k3;have RB:=Lib.hid (Row.keep PA.out.row (keep_grown h3) fun hn=>⟨PA.out.row.old hn,fun e=>PA.out.ne hn ⟨147,3,x3.q.length,v2,potV x3.q⟩ (List.mem_cons_of_mem _ List.mem_cons_self) e.symm⟩);clear h2 h3 h4 k1 k2 k3 IA PA NA OA hi5 hz5 hz6 hz7;refine hK.out _ _ ?_ (fun hC17 hH17=>?_)
          ·exact⟨⟨Row.at1 RB.out (k:=1) (show 1<4 by decide),Row.at1 RB.out (k:=2) (show 2<4 by decide),Row.at1 RB.out (k:=3) (show 3<4 by decide)⟩,fun e he _=>by simp only [List.mem_cons,List.mem_nil_iff,or_false] at he; subst he; exact cellAt BB.out 4⟩
          clear hK K
          try simp only [Act.put,List.setIfInBounds_toArray,List.set_cons_zero,List.set_cons_succ]
          refine tkA (i:=17) (v:=?_) rfl hC17 (Or.inl ⟨by rfl,?_⟩) hH17 (fun hC18 hH18=>?_);rotate_left
          ·(intro w9 hSw; obtain⟨hSw,hLw⟩:=hSw; clear hLw; (try dsimp only at hSw); (go_split_ands; go_simp); (try with_reducible rfl))
          clear hC17 hH17
          try simp only [Act.put,List.setIfInBounds_toArray,List.set_cons_zero,List.set_cons_succ]
          refine onA (i:=18) rfl hC18 (fun K hK=>?_);clear hC18 hH18;have c0:=cellAt BB.out 4;have f0:=freeAt BB.out 4;simp only [List.getElem?_toArray,List.getElem?_cons_zero,List.getElem?_cons_succ] at c0;have rs:=RB.out.set ⟨w.heap.size+1,4,none⟩ (.slice (some ⟨g,0,none⟩) (x3.q.length+1) cap) (fun _=>PL.out);go_simp;go_wp2_with fail;refine hK.out _ _ ?_ (fun hC19 hH19=>?_)
          ·exact⟨⟨Row.at1 rs (k:=1) (show 1<4 by decide),Row.at1 rs (k:=2) (show 2<4 by decide),Row.at1 rs (k:=3) (show 3<4 by decide)⟩,fun e he h=>by simp only [List.mem_cons,List.mem_nil_iff,or_false] at he; subst he; exact absurd h (by intro hx; exact Bool.false_ne_true (hx.symm.trans (by kernel_rfl)))⟩
          clear hK K
          try simp only [Act.put]
          refine wpAnyT_done (by kernel_rfl) ?_ _;clear hC19 hH19;go_wp2_with fail;exact⟨⟨kk+1,y1,_,hlt,by go_num,by rw [HX2.out]; exact KB.out⟩,by simp [intOf]; omega⟩
  ·obtain rfl:kk=ls.length:=by omega
   have HRS2:=HRS.out;generalize foldN pitL ⟨-1,0,0,[],[]⟩ ls ls.length=x at *;subst HRS2;have r1:wr.ownsRow s1 3 1 v1 (pitR s).f.length (intsV (pitR s).f):=I1.out.rows ⟨3,1,(pitR s).f.length,v1,intsV (pitR s).f⟩ List.mem_cons_self;have r2:wr.ownsRow s1 147 3 v2 (pitR s).q.length (potV (pitR s).q):=I1.out.rows ⟨147,3,(pitR s).q.length,v2,potV (pitR s).q⟩ (List.mem_cons_of_mem _ List.mem_cons_self);obtain⟨sa,sc,rfl,hS,hSb,-⟩:=rowN_of (cell:=fun i _=>.int .i64 (intOf' (pitR s).f i)) r1 (by have:=hlen.f; unfold maxLen; omega) (fun i hi j hj=>intsV_get _ i hi j hj);obtain⟨ua,uc,rfl,hU,hUb,-⟩:=rowN_of (cell:=fun i j=>(potOf (pitR s).q i).cell j) r2 (by have:=hlen.q; unfold maxLen; omega) (fun i hi j hj=>potV_get _ i hi j hj);have low:=I1.out.low;have q0:=cellAt I1.out.ow 0;have q1:=cellAt I1.out.ow 1;have q2:=cellAt I1.out.ow 2;have q3:=cellAt I1.out.ow 3;have q4:=cellAt I1.out.ow 4;have g0:=cellAt I1.out.r 0;have g1:=cellAt I1.out.r 1;have g2:=cellAt I1.out.r 2;have g3:=cellAt I1.out.r 3;have g4:=cellAt I1.out.r 4;have f0:=freeAt I1.out.r 0;have f1:=freeAt I1.out.r 1;have f2:=freeAt I1.out.r 2;have f3:=freeAt I1.out.r 3;have f4:=freeAt I1.out.r 4;simp only [List.getElem?_toArray,List.getElem?_cons_zero,List.getElem?_cons_succ] at q0 q1 q2 q3 q4 g0 g1 g2 g3 g4;obtain⟨wz,hwz⟩:∃ wz,((((wr.setCell ⟨w.heap.size,0,none⟩ (.int .i64 (pitR s).hr)).setCell ⟨w.heap.size,1,none⟩ (.int .i64 (pitR s).fr)).setCell ⟨w.heap.size,2,none⟩ (.int .i64 (pitR s).pe)).setCell ⟨w.heap.size,3,none⟩ (.slice sa (pitR s).f.length sc)).setCell ⟨w.heap.size,4,none⟩ (.slice ua (pitR s).q.length uc)=wz:=⟨_,rfl⟩
   have X9:=Lib.hid (show BoxAt wz w.heap.size #[.int .i64 (pitR s).hr,.int .i64 (pitR s).fr,.int .i64 (pitR s).pe,.slice sa (pitR s).f.length sc,.slice ua (pitR s).q.length uc] 29 from by rw [← hwz]; exact((((I1.out.r.store 0 _).store 1 _).store 2 _).store 3 _).store 4 _);have ns:0<(pitR s).f.length→w.heap.size≠blk sa:=fun h=>by have:=hSb h; omega
   have nu:0<(pitR s).q.length→w.heap.size≠blk ua:=fun h=>by have:=hUb h; omega
   have S9:=Lib.hid (show IntsAt wz sa (pitR s).f.length (intOf' (pitR s).f) from by rw [← hwz]; exact Row.set (Row.set (Row.set (Row.set (Row.set hS _ _ ns) _ _ ns) _ _ ns) _ _ ns) _ _ ns);have U9:=Lib.hid (show PotsAt wz ua (pitR s).q.length (potOf (pitR s).q) from by rw [← hwz]; exact Row.set (Row.set (Row.set (Row.set (Row.set hU _ _ nu) _ _ nu) _ _ nu) _ _ nu) _ _ nu);have B9:=Lib.hid (show Below w.heap.size w wz from by rw [← hwz]; exact((((I1.out.bel.setCell (Nat.le_refl _) _).setCell (Nat.le_refl _) _).setCell (Nat.le_refl _) _).setCell (Nat.le_refl _) _).setCell (Nat.le_refl _) _);have HWZ:=Lib.hid hwz;have NB:=Lib.hid (show(0<(pitR s).f.length→w.heap.size≤blk sa)∧(0<(pitR s).q.length→w.heap.size≤blk ua) from⟨fun h=>by have:=hSb h; omega,fun h=>by have:=hUb h; omega⟩);clear hS hU hSb hUb r1 r2 low I1 hlen HRS hwz ns nu;go_wp2_with fail;rw [HWZ.out];have c0:=cellAt X9.out 0;have c1:=cellAt X9.out 1;have c2:=cellAt X9.out 2;have c3:=cellAt X9.out 3;have c4:=cellAt X9.out 4;simp only [List.getElem?_toArray,List.getElem?_cons_zero,List.getElem?_cons_succ] at c0 c1 c2 c3 c4;exact bodyPost_ret (v:=.agg #[.int .i64 (pitR s).hr,.int .i64 (pitR s).fr,.int .i64 (pitR s).pe,.slice sa (pitR s).f.length sc,.slice ua (pitR s).q.length uc]) (by simp [results,Tryz.results82,go_sem,c0,c1,c2,c3,c4]) rfl ⟨sa,sc,ua,uc,rfl,S9.out,U9.out,B9.out,NB.out.1,NB.out.2⟩
end Go.Proofs.YtclbmlmlhiiaeaaGreatDoor
