/- Walks: what a hull must be: its seams and its soundings with -/
import Derived.Test.YtclbmlmlhiiaeaaGreatDoorQB6
import Derived.Deep.CutRange
import Derived.Deep.CutBlock
namespace Go.Proofs.YtclbmlmlhiiaeaaGreatDoor
open Go.RowKit
structure Sea where
 h:Int
 s:Int
 m:Int
structure Sou where
 d:Int
 l:Int
 lo:Int
 hi:Int
def Sea.cell(x:Sea):Nat→Value
 | 0=>.int .i64 x.h
 | 1=>.int .i64 x.s
 | _=>.int .i64 x.m
def Sou.cell(x:Sou):Nat→Value
 | 0=>.int .i64 x.d
 | 1=>.int .i64 x.l
 | 2=>.int .i64 x.lo
 | _=>.int .i64 x.hi
def SeasAt(w:World)(oa:Option Addr)(n:Nat)(S:Nat→Sea):Prop:=Row w oa n 3 (fun i j=>(S i).cell j)
def SousAt(w:World)(oa:Option Addr)(n:Nat)(U:Nat→Sou):Prop:=Row w oa n 4 (fun i j=>(U i).cell j)
theorem SeasAt.grow{w w':World}{oa:Option Addr}{n:Nat}{S:Nat→Sea}(h:SeasAt w oa n S)(hb:Below w.heap.size w w'):SeasAt w' oa n S:=Row.grow h hb
theorem SousAt.grow{w w':World}{oa:Option Addr}{n:Nat}{U:Nat→Sou}(h:SousAt w oa n U)(hb:Below w.heap.size w w'):SousAt w' oa n U:=Row.grow h hb
theorem SeasAt.at{w:World}{oa:Option Addr}{n:Nat}{S:Nat→Sea}(h:SeasAt w oa n S){k:Nat}(hk:k<n) :
  w.cell? ⟨blk oa,ofs oa+k * 3,none⟩=some (.int .i64 (S k).h)∧w.cell? ⟨blk oa,ofs oa+k * 3+1,none⟩=some (.int .i64 (S k).s)∧w.cell? ⟨blk oa,ofs oa+k * 3+2,none⟩=some (.int .i64 (S k).m) :=
 ⟨h.cells k hk 0 (by omega),h.cells k hk 1 (by omega),h.cells k hk 2 (by omega)⟩
theorem SousAt.at{w:World}{oa:Option Addr}{n:Nat}{U:Nat→Sou}(h:SousAt w oa n U){k:Nat}(hk:k<n) :
  w.cell? ⟨blk oa,ofs oa+k * 4,none⟩=some (.int .i64 (U k).d)∧w.cell? ⟨blk oa,ofs oa+k * 4+1,none⟩=some (.int .i64 (U k).l)∧w.cell? ⟨blk oa,ofs oa+k * 4+2,none⟩=some (.int .i64 (U k).lo)∧w.cell? ⟨blk oa,ofs oa+k * 4+3,none⟩=some (.int .i64 (U k).hi) :=
 ⟨h.cells k hk 0 (by omega),h.cells k hk 1 (by omega),h.cells k hk 2 (by omega),h.cells k hk 3 (by omega)⟩
def okS(x:Sea):Bool:=inB x.h 0 12&&inB x.s (-1) 1&&inB x.m 0 4
def okU(x:Sou):Bool:=inB x.d 0 12&&inB x.l (-3) 3&&spanB x.lo x.hi 0 24
def allB(p:Nat→Bool):Nat→Bool
 | 0=>true
 | n+1=>allB p n&&p n
theorem allB_iff{p:Nat→Bool}:∀ {n:Nat},allB p n=true ↔ ∀ i,i<n→p i=true
 | 0=>⟨fun _ i h=>by omega,fun _=>rfl⟩
 | n+1=>by
  show(allB p n&&p n)=true↔_
  rw [Bool.and_eq_true,allB_iff]
  constructor
  ·rintro⟨h1,h2⟩ i hi
   by_cases e:i=n
   ·rw [e]; exact h2
   ·exact h1 i (by omega)
  ·exact fun h=>⟨fun i hi=>h i (by omega),h n (by omega)⟩
def hullB(S:Nat→Sea)(n:Nat)(U:Nat→Sou)(m:Nat):Bool:=inB n 1 6&&decide ((m:Int)≤8)&&allB (fun i=>okS (S i)) n&&allB (fun i=>okU (U i)) m
theorem size142:(Tryz.prog.info? 142).map (·.size)=some 3:=by kernel_rfl
theorem size144:(Tryz.prog.info? 144).map (·.size)=some 4:=by kernel_rfl
theorem seams22:Tryz.prog.underlying 22=some (.slice 142):=by kernel_rfl
theorem sounds23:Tryz.prog.underlying 23=some (.slice 144):=by kernel_rfl
structure HI (w:World) (sa ua:Option Addr) (sn sc un uc:Nat) (S:Nat→Sea) (U:Nat→Sou) (W:World):Prop where
 bel:Below w.heap.size w W
 box:BoxAt W w.heap.size #[.slice sa sn sc,.slice ua un uc] 25
 ss:SeasAt W sa sn S
 uu:SousAt W ua un U
theorem HI.grow{w W W':World}{sa ua:Option Addr}{sn sc un uc:Nat}{S:Nat→Sea}{U:Nat→Sou}(h:HI w sa ua sn sc un uc S U W)(hb:Below W.heap.size W W'):HI w sa ua sn sc un uc S U W' :=
 ⟨h.bel.next hb,h.box.grow hb,h.ss.grow hb,h.uu.grow hb⟩
set_option maxRecDepth 100000 in
set_option maxHeartbeats 4000000 in
theorem isHull_any(sa ua:Option Addr)(sn sc un uc:Nat)(S:Nat→Sea)(U:Nat→Sou)(w:World)(hS:SeasAt w sa sn S)(hU:SousAt w ua un U) :
  Calls Tryz.prog 102 #[.agg #[.slice sa sn sc,.slice ua un uc]] w fun e w'=>e = .returned (.bool (hullB S sn U un))∧Below w.heap.size w w':=by
 have hsm:=hS.small;have hum:=hU.small;unfold maxLen at hsm hum;have hb0:=(Below.refl w.heap.size w).alloc (Nat.le_refl _) (.cells #[.slice sa sn sc,.slice ua un uc] 25);have I0:=Lib.hid (show HI w sa ua sn sc un uc S U (w.alloc (.cells #[.slice sa sn sc,.slice ua un uc] 25)) from⟨hb0,heap_alloc_new _ _,hS.grow hb0,hU.grow hb0⟩);clear hS hU hb0;go_enter Tryz.func102,Tryz.ntmps102;go_upto_region 1 with (fail)
 generalize hW:World.alloc _ _=W0 at *;have q0:=cellAt I0.out.box 0;have q1:=cellAt I0.out.box 1;simp only [List.getElem?_toArray,List.getElem?_cons_zero,List.getElem?_cons_succ] at q0 q1;clear hW;go_cut [3] from 8 to 17 (fun v W=>v = .bool (inB sn 1 6&&decide ((un:Int)≤8))∧W=W0)
 case first =>
  go_wp2_with (go_at_call 122; refine(within_any _ _ _ _).mono ?_; rintro e w' ⟨rfl,rfl⟩)
  all_goals (go_meet; exact⟨by simp_all,rfl⟩)
 case rest =>
  obtain⟨rfl,rfl⟩:=hcut;go_wp2_with fail
  go_loopw [3,21] (fun v i wi => ∃ k:Nat,k≤sn∧i = .int .i64 k∧v = .bool (inB sn 1 6&&decide ((un:Int)≤8)&&allB (fun i=>okS (S i)) k)∧HI w sa ua sn sc un uc S U wi) (fun _ i _=>sn - (intOf i).toNat)
  case atStart=>exact⟨0,Nat.zero_le _,rfl,by simp [allB],I0.out⟩
  case round =>
   clear I0 q0 q1;obtain⟨k,hk,rfl,rfl,h1⟩:=hrel;have I1:=Lib.hid h1;clear h1;generalize hG:(inB sn 1 6&&decide ((un:Int)≤8))=G;have HG:=Lib.hid hG;clear hG;by_cases hlt:k<sn
   ·have hi:=fun w=>run_indexAt_row (w:=w) (cap:=sc) seams22 size142 (I1.out.ss.plain (by omega)) hlt
    obtain⟨g0,g1,g2⟩:=I1.out.ss.at hlt;have HA:=Lib.hid (show allB (fun i=>okS (S i)) (k+1)=(allB (fun i=>okS (S i)) k&&okS (S k)) from rfl);generalize S k=x at *;generalize allB (fun i=>okS (S i)) k=A at *
    go_upto_block 1 with (fail)
    go_cut [3] from 22 to 41 (fun v wc=>v = .bool (G&&A&&okS x)∧HI w sa ua sn sc un uc S U wc)
    case first =>
     go_upto_region 5 with (fail)
     generalize hW:World.alloc _ _=W;obtain⟨z0,hz,hB⟩:=blocks1 hW;have I2:=Lib.hid (I1.out.grow hB);have c0:=cellAt z0 0;have c1:=cellAt z0 1;have c2:=cellAt z0 2;simp only [List.getElem?_toArray,List.getElem?_cons_zero,List.getElem?_cons_succ] at c0 c1 c2;clear hW hz hB z0;go_wp2_with (go_at_call 122; refine(within_any _ _ _ _).mono ?_; rintro e w' ⟨rfl,rfl⟩)
     all_goals (go_meet; exact⟨by simp_all [okS],I2.out⟩)
    case rest =>
     obtain⟨rfl,h2⟩:=hcut;have I2:=Lib.hid h2;clear h2 I1;go_wp2_with fail;exact⟨⟨k+1,hlt,by go_num,by rw [HA.out,← Bool.and_assoc],I2.out⟩,by simp [intOf]; omega⟩
   ·obtain rfl:k=sn:=by omega
    generalize hG2:(G&&allB (fun i=>okS (S i)) k)=G2;have HG2:=Lib.hid (show(inB k 1 6&&decide ((un:Int)≤8)&&allB (fun i=>okS (S i)) k)=G2 from by rw [HG.out]; exact hG2);clear hG2 HG;have q1:=cellAt I1.out.box 1;simp only [List.getElem?_toArray,List.getElem?_cons_zero,List.getElem?_cons_succ] at q1;go_wp2_with fail
    go_loopw [3,45] (fun v i wi => ∃ j:Nat,j≤un∧i = .int .i64 j∧v = .bool (G2&&allB (fun i=>okU (U i)) j)∧HI w sa ua k sc un uc S U wi) (fun _ i _=>un - (intOf i).toNat)
    case atStart=>exact⟨0,Nat.zero_le _,rfl,by simp [allB],I1.out⟩
    case round =>
     clear I1 q1;obtain⟨j,hj,rfl,rfl,h1⟩:=hrel;have I1:=Lib.hid h1;clear h1;by_cases hlt2:j<un
     ·have hi:=fun w=>run_indexAt_row (w:=w) (cap:=uc) sounds23 size144 (I1.out.uu.plain (by omega)) hlt2
      obtain⟨g0,g1,g2,g3⟩:=I1.out.uu.at hlt2;have HA:=Lib.hid (show allB (fun i=>okU (U i)) (j+1)=(allB (fun i=>okU (U i)) j&&okU (U j)) from rfl);generalize U j=x at *;generalize allB (fun i=>okU (U i)) j=A at *
      go_upto_block 3 with (fail)
      go_cut [3] from 46 to 65 (fun v wc=>v = .bool (G2&&A&&okU x)∧HI w sa ua k sc un uc S U wc)
      case first =>
       go_upto_region 10 with (fail)
       generalize hW:World.alloc _ _=W;obtain⟨z0,hz,hB⟩:=blocks1 hW;have I2:=Lib.hid (I1.out.grow hB);have c0:=cellAt z0 0;have c1:=cellAt z0 1;have c2:=cellAt z0 2;have c3:=cellAt z0 3;simp only [List.getElem?_toArray,List.getElem?_cons_zero,List.getElem?_cons_succ] at c0 c1 c2 c3;clear hW hz hB z0;go_wp2_with (first | (go_at_call 122; refine(within_any _ _ _ _).mono ?_; rintro e w' ⟨rfl,rfl⟩) | (go_at_call 124; refine(isSpan_any _ _ _ _ _).mono ?_; rintro e w5 ⟨rfl,hb5⟩; have B5:=Lib.hid hb5; clear hb5))
       all_goals (go_meet; exact⟨by simp_all [okU],by first | exact I2.out.grow B5.out | exact I2.out⟩)
      case rest =>
       obtain⟨rfl,h2⟩:=hcut;have I2:=Lib.hid h2;clear h2 I1;go_wp2_with fail;exact⟨⟨j+1,hlt2,by go_num,by rw [HA.out,← Bool.and_assoc],I2.out⟩,by simp [intOf]; omega⟩
     ·obtain rfl:j=un:=by omega
      go_wp2_with fail;go_ret;exact⟨ret_bool (by unfold hullB; rw [← HG2.out]),I1.out.bel⟩
def Sides(w:World):Prop:=w.var? Tryz.prog "caulkworks/book.sides" = some #[.string ⟨#[112]⟩,.string ⟨#[107]⟩,.string ⟨#[115]⟩]
theorem globalSides:(Tryz.prog.globalNamed "caulkworks/book.sides").isSome=true:=by kernel_rfl
def sideT(s:Int):List UInt8:=if s<0 then [112] else if s=0 then [107] else [115]
def seaT(x:Sea):List UInt8:=32::Lib.itoa x.h++sideT x.s++Lib.itoa x.m
def souT(x:Sou):List UInt8:=Lib.itoa x.d++(32::Lib.itoa x.l)++(32::spanT x.lo x.hi) ++ [10]
def seasT(S:Nat→Sea):Nat→List UInt8
 | 0=>[104,117,108,108]
 | n+1=>seasT S n++seaT (S n)
def sousT(t:List UInt8)(U:Nat→Sou):Nat→List UInt8
 | 0=>t
 | n+1=>sousT t U n++souT (U n)
def hullT(S:Nat→Sea)(n:Nat)(U:Nat→Sou)(m:Nat):List UInt8:=sousT (seasT S n ++ [10]) U m
set_option maxHeartbeats 400000 in
theorem side_any(s:Int)(w:World) :
  Calls Tryz.prog 104 #[.int .i64 s] w fun e w'=>e = .returned (.string ⟨(sideT s).toArray⟩)∧w=w':=by
 by_cases h0:s<0
 ·rw [show sideT s = [112] from if_pos h0]
  go_enter Tryz.func104,Tryz.ntmps104;go_wp2_with fail;go_ret;exact⟨rfl,rfl⟩
 ·by_cases h1:s=0
  ·rw [show sideT s = [107] from by unfold sideT; rw [if_neg h0,if_pos h1]]
   go_enter Tryz.func104,Tryz.ntmps104;go_wp2_with fail;go_ret;exact⟨rfl,rfl⟩
  ·rw [show sideT s = [115] from by unfold sideT; rw [if_neg h0,if_neg h1]]
   go_enter Tryz.func104,Tryz.ntmps104;go_wp2_with fail;go_ret;exact⟨rfl,rfl⟩
theorem ba_app(a b:Array UInt8):(⟨a⟩:ByteArray)++⟨b⟩=⟨a++b⟩:=by
 apply ByteArray.ext;simp
attribute [local go_sem] ba_app List.append_toArray List.length_append
structure SpI (w:World) (lo hi:Int) (W:World):Prop where
 bel:Below w.heap.size w W
 box:BoxAt W w.heap.size #[.int .i64 lo,.int .i64 hi] 128
 tab:Tab W
theorem SpI.grow{w W W':World}{lo hi:Int}(h:SpI w lo hi W)(hb:Below W.heap.size W W'):SpI w lo hi W':=⟨h.bel.next hb,h.box.grow hb,h.tab.grow hb⟩
theorem SpI.cells{w W:World}{lo hi:Int}(h:SpI w lo hi W):(W.cell? ⟨w.heap.size,0,none⟩=some (.int .i64 lo)∧W.cell? ⟨w.heap.size,1,none⟩=some (.int .i64 hi))∧SpI w lo hi W :=
 ⟨⟨cellAt h.box 0,cellAt h.box 1⟩,h⟩
set_option maxRecDepth 100000 in
set_option maxHeartbeats 1000000 in
theorem span_any(lo hi:Int)(w:World)(hlo : -1000000≤lo∧lo≤1000000)(hhi : -1000000≤hi∧hi≤1000000)(ht:Tab w) :
  Calls Tryz.prog 105 #[.agg #[.int .i64 lo,.int .i64 hi]] w fun e w'=>e = .returned (.string ⟨(spanT lo hi).toArray⟩)∧Below w.heap.size w w':=by
 have hb0:=(Below.refl w.heap.size w).alloc (Nat.le_refl _) (.cells #[.int .i64 lo,.int .i64 hi] 128);have HB:=Lib.hid hb0;have T0:=Lib.hid (ht.grow hb0);clear hb0 ht;have HS:=Lib.hid (show spanT lo hi=if lo=hi then Lib.itoa lo else Lib.itoa lo++(46::46::Lib.itoa hi) from rfl);by_cases heq:lo=hi
 ·have HE:=Lib.hid (show spanT lo hi=Lib.itoa lo from by rw [HS.out,if_pos heq])
  have t0:(lo==hi)=true:=by simp [heq]
  clear heq;go_enter Tryz.func105,Tryz.ntmps105;go_wp2_with (go_at_call 103; refine(number_any _ _ hlo T0.out).mono ?_; rintro e w1 ⟨rfl,hb1⟩; have B1:=Lib.hid hb1; clear hb1);go_ret;exact⟨by rw [HE.out]; rfl,HB.out.next B1.out⟩
 ·have HE:=Lib.hid (show spanT lo hi=Lib.itoa lo++(46::46::Lib.itoa hi) from by rw [HS.out,if_neg heq])
  go_enter Tryz.func105,Tryz.ntmps105;have t0:(lo==hi)=false:=by simp [heq]
  clear heq;have CL:=Lib.hid (fun W (h:SpI w lo hi W)=>number_any lo W hlo h.tab);have CH:=Lib.hid (fun W (h:SpI w lo hi W)=>number_any hi W hhi h.tab);have hl1:=itoa_len lo hlo;have hl2:=itoa_len hi hhi;generalize Lib.itoa lo=A at *;generalize Lib.itoa hi=B at *;have n1:¬ (9223372036854775807<A.length+2):=by omega
  have n2:¬ (9223372036854775807<A.length+2+B.length):=by omega
  clear hl1 hl2;have I0:=Lib.hid (show SpI w lo hi (w.alloc (.cells #[.int .i64 lo,.int .i64 hi] 128)) from⟨HB.out,heap_alloc_new _ _,T0.out⟩);have J0:=Lib.hid ((I0.out.grow (Below.drew (Below.refl _ _))).cells);go_upto_region 3 with (fail)
  generalize hW:World.alloc _ _=W at *;clear hW
  go_region_held3 (fun w'=>(w'.cell? ⟨w.heap.size,0,none⟩=some (.int .i64 lo)∧w'.cell? ⟨w.heap.size,1,none⟩=some (.int .i64 hi))∧SpI w lo hi w')
   (first | exact J0.out | (go_split_ands; exact SpI.cells (SpI.grow (by assumption) hb1)) | (go_split_ands; exact⟨⟨by assumption,by assumption⟩,by assumption⟩))
   (first | (go_at_call 103; refine(CL.out _ (by assumption)).mono ?_; rintro e w4 ⟨rfl,hb1⟩) | (go_at_call 103; refine(CH.out _ (by assumption)).mono ?_; rintro e w4 ⟨rfl,hb1⟩) | (go_at_call 103; go_split_ands; refine(CL.out _ (by assumption)).mono ?_; rintro e w4 ⟨rfl,hb1⟩) | (go_at_call 103; go_split_ands; refine(CH.out _ (by assumption)).mono ?_; rintro e w4 ⟨rfl,hb1⟩))
  obtain⟨_,J⟩ := ‹_∧SpI w lo hi _›;have HJ:=Lib.hid J;clear J;go_wp2_with fail;go_ret;exact⟨by rw [HE.out]; rfl,HJ.out.bel⟩
end Go.Proofs.YtclbmlmlhiiaeaaGreatDoor
