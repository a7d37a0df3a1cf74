/- Walks: ReadPitch. Plain: what the samples come to. Walks: th -/
import Derived.Test.YtclbmlmlhiiaeaaGreatDoorQRP
import Derived.Test.YtclbmlmlhiiaeaaGreatDoorQF5
import Derived.Test.YtclbmlmlhiiaeaaGreatDoorQW2
import Derived.Test.YtclbmlmlhiiaeaaGreatDoorQU1
import Derived.Test.YtclbmlmlhiiaeaaGreatDoorQD2
import Derived.Test.YtclbmlmlhiiaeaaGreatDoorK4
import Derived.Test.YtclbmlmlhiiaeaaGreatDoorQA7
namespace Go.Proofs.YtclbmlmlhiiaeaaGreatDoor
open Go.RowKit
def pitRes(t:List UInt8):Int×PitV:=if 1000<t.length then(3,⟨0,0,0,[],[]⟩) else match readP t with
 | none=>(8,⟨0,0,0,[],[]⟩)
 | some x=>(0,x)
def ReadPitchPost(t:List UInt8)(w:World)(e:Ending)(w':World):Prop :=
 Below w.heap.size w w' ∧ ∃ fa fc qa qc,e = .returned (.tuple #[.agg #[.int .i64 (pitRes t).2.hr,.int .i64 (pitRes t).2.fr,.int .i64 (pitRes t).2.pe,.slice fa (pitRes t).2.f.length fc,.slice qa (pitRes t).2.q.length qc],.int .i64 (pitRes t).1])∧PitRows (pitRes t).2 w fa qa w'
theorem ReadPitchPost.no{t:List UInt8}{w w':World}{x:Int}(hR:pitRes t=(x,⟨0,0,0,[],[]⟩))(hb:Below w.heap.size w w'):ReadPitchPost t w (.returned (.tuple #[.agg #[.int .i64 0,.int .i64 0,.int .i64 0,.slice none 0 0,.slice none 0 0],.int .i64 x])) w':=by
 refine⟨hb,none,0,none,0,?_⟩;rw [hR];exact⟨rfl,row_none _ _ _,row_none _ _ _,fun h=>(by cases h),fun h=>(by cases h)⟩
structure RP2 (w W:World):Prop where
 bel:Below w.heap.size w W
 a:BoxAt W w.heap.size #[.int .i64 0,.int .i64 0,.int .i64 0,.slice none 0 0,.slice none 0 0] 29
 e:BoxAt W (w.heap.size+1) #[.int .i64 0] 41
theorem RP2.grow{w W W':World}(h:RP2 w W)(hb:Below W.heap.size W W'):RP2 w W':=⟨h.bel.next hb,h.a.grow hb,h.e.grow hb⟩
set_option maxRecDepth 100000 in
set_option maxHeartbeats 4000000 in
theorem readPitch37_any(t:List UInt8)(w:World)(hlim:Lim w)(htab:Tab w)(h1:1<w.heap.size) :
  Calls Tryz.prog 37 #[.string ⟨t.toArray⟩] w (ReadPitchPost t w):=by
 have I0:=Lib.hid (show RP2 w ((w.alloc (.cells #[.int .i64 0,.int .i64 0,.int .i64 0,.slice none 0 0,.slice none 0 0] 29)).alloc (.cells #[.int .i64 0] 41)) from by
  obtain⟨z0,z1,-,hB⟩:=blocks2 (show(w.alloc (.cells #[.int .i64 0,.int .i64 0,.int .i64 0,.slice none 0 0,.slice none 0 0] 29)).alloc (.cells #[.int .i64 0] 41)=_ from rfl)
  exact⟨hB,z0,z1⟩)
 have HL:=Lib.hid hlim;have HT:=Lib.hid htab;clear hlim htab
 go_enter_defers Tryz.func37,Tryz.ntmps37
 go_upto_region 2 with (fail)
 generalize World.alloc _ _=W at *;go_wp2_with (go_at_call 57; refine(filesPitch_any _).mono ?_);rintro e w1 ⟨rfl,hb1,hk1⟩;have hWz:=I0.out.bel.size;have HK:=Lib.hid hk1;have I1:=Lib.hid (I0.out.grow hb1);have hWz1:w.heap.size+1<W.heap.size:=lt_of_heap I0.out.e;have hkb:1<W.heap.size+1:=by omega
 generalize W.heap.size+1=kb at *;clear hb1 hk1 I0;go_wp2_with fail;have C2:=Lib.hid (read81_any kb t w1 HK.out (HL.out.keep (Keep.of_below I1.out.bel (C:=fun k=>k<w.heap.size) fun k hk=>hk) h1) (HT.out.grow I1.out.bel) hkb);refine C2.out.mono ?_;intro e w2 hpost;obtain⟨hb2,hh⟩:=hpost;have I2:=Lib.hid (I1.out.grow hb2);have r0:=cellAt I2.out.e 0;have f0:=freeAt I2.out.e 0;have a0:=cellAt I2.out.a 0;have a1:=cellAt I2.out.a 1;have a2:=cellAt I2.out.a 2;have a3:=cellAt I2.out.a 3;have a4:=cellAt I2.out.a 4;have fa0:=freeAt I2.out.a 0;have fa1:=freeAt I2.out.a 1;have fa2:=freeAt I2.out.a 2;have fa3:=freeAt I2.out.a 3;have fa4:=freeAt I2.out.a 4;simp only [List.getElem?_toArray,List.getElem?_cons_zero,List.getElem?_cons_succ] at r0 a0 a1 a2 a3 a4;by_cases ht:1000<t.length
 ·rw [if_pos ht] at hh
  subst hh;have HR:=Lib.hid (show pitRes t=(3,⟨0,0,0,[],[]⟩) from if_pos ht);clear hb2 ht;simp only [err];refine leaves_cons (f:=52) (args:=#[bp (w.heap.size+1)]) (by simp) (by simp [go_sem]) ?_;refine(answer_panicking _ 0 3 [] _ I2.out.e).mono ?_;rintro e u' w'' ⟨rfl,rfl,rfl⟩;simp [Leaves,settle,results,Tryz.results37,go_sem,r0,a0,a1,a2,a3,a4];exact ReadPitchPost.no HR.out (I2.out.bel.setCell (by dsimp only; omega) _)
 ·rw [if_neg ht] at hh
  cases hr:readP t with
  | none =>
   rw [hr] at hh;have he:e=err 8:=hh;subst he;have HR:=Lib.hid (show pitRes t=(8,⟨0,0,0,[],[]⟩) from by unfold pitRes; rw [if_neg ht,hr]);clear hb2 ht hr hh;simp only [err];refine leaves_cons (f:=52) (args:=#[bp (w.heap.size+1)]) (by simp) (by simp [go_sem]) ?_;refine(answer_panicking _ 0 8 [] _ I2.out.e).mono ?_;rintro e u' w'' ⟨rfl,rfl,rfl⟩;simp [Leaves,settle,results,Tryz.results37,go_sem,r0,a0,a1,a2,a3,a4];exact ReadPitchPost.no HR.out (I2.out.bel.setCell (by dsimp only; omega) _)
  | some x =>
   rw [hr] at hh;have HR:=Lib.hid (show pitRes t=(0,x) from by unfold pitRes; rw [if_neg ht,hr]);obtain⟨fa,fc,qa,qc,he,hS,hU,hSb,hUb⟩:=hh;subst he;have hk3:Keep (fun k=>k≠w.heap.size∧k≠w.heap.size+1) w2 ((((((w2.setCell ⟨w.heap.size,0,none⟩ (.int .i64 x.hr)).setCell ⟨w.heap.size,1,none⟩ (.int .i64 x.fr)).setCell ⟨w.heap.size,2,none⟩ (.int .i64 x.pe)).setCell ⟨w.heap.size,3,none⟩ (.slice fa x.f.length fc)).setCell ⟨w.heap.size,4,none⟩ (.slice qa x.q.length qc)).setCell ⟨w.heap.size+1,0,none⟩ (.int .i64 0)):=Keep.set (Keep.set (Keep.set (Keep.set (Keep.set (Keep.set (Keep.refl _ _) _ _ _ (fun h=>h.1 rfl)) _ _ _ (fun h=>h.1 rfl)) _ _ _ (fun h=>h.1 rfl)) _ _ _ (fun h=>h.1 rfl)) _ _ _ (fun h=>h.1 rfl)) _ _ _ (fun h=>h.2 rfl);have hsz:=I1.out.bel.size;have hl1:=lt_of_heap I1.out.e;have S3:=Lib.hid (Row.keep hS hk3 (fun hn=>by have:=hSb hn; omega));have U3:=Lib.hid (Row.keep hU hk3 (fun hn=>by have:=hUb hn; omega));have B3:=Lib.hid (show Below w.heap.size w ((((((w2.setCell ⟨w.heap.size,0,none⟩ (.int .i64 x.hr)).setCell ⟨w.heap.size,1,none⟩ (.int .i64 x.fr)).setCell ⟨w.heap.size,2,none⟩ (.int .i64 x.pe)).setCell ⟨w.heap.size,3,none⟩ (.slice fa x.f.length fc)).setCell ⟨w.heap.size,4,none⟩ (.slice qa x.q.length qc)).setCell ⟨w.heap.size+1,0,none⟩ (.int .i64 0)) from I2.out.bel.trans (hk3.to_below (fun k hk=>by omega)));have HSB:=Lib.hid (show 0<x.f.length→w.heap.size≤blk fa from fun hn=>by have:=hSb hn; omega);have HUB:=Lib.hid (show 0<x.q.length→w.heap.size≤blk qa from fun hn=>by have:=hUb hn; omega)
   have A3:=Lib.hid (show BoxAt ((((((w2.setCell ⟨w.heap.size,0,none⟩ (.int .i64 x.hr)).setCell ⟨w.heap.size,1,none⟩ (.int .i64 x.fr)).setCell ⟨w.heap.size,2,none⟩ (.int .i64 x.pe)).setCell ⟨w.heap.size,3,none⟩ (.slice fa x.f.length fc)).setCell ⟨w.heap.size,4,none⟩ (.slice qa x.q.length qc)).setCell ⟨w.heap.size+1,0,none⟩ (.int .i64 0)) w.heap.size #[.int .i64 x.hr,.int .i64 x.fr,.int .i64 x.pe,.slice fa x.f.length fc,.slice qa x.q.length qc] 29 from
    BoxAt.set (((((I2.out.a.store 0 (.int .i64 x.hr)).store 1 (.int .i64 x.fr)).store 2 (.int .i64 x.pe)).store 3 (.slice fa x.f.length fc)).store 4 (.slice qa x.q.length qc)) _ _ (by dsimp only; omega))
   have E3:=Lib.hid (show BoxAt ((((((w2.setCell ⟨w.heap.size,0,none⟩ (.int .i64 x.hr)).setCell ⟨w.heap.size,1,none⟩ (.int .i64 x.fr)).setCell ⟨w.heap.size,2,none⟩ (.int .i64 x.pe)).setCell ⟨w.heap.size,3,none⟩ (.slice fa x.f.length fc)).setCell ⟨w.heap.size,4,none⟩ (.slice qa x.q.length qc)).setCell ⟨w.heap.size+1,0,none⟩ (.int .i64 0)) (w.heap.size+1) #[.int .i64 0] 41 from
    BoxAt.store (BoxAt.set (BoxAt.set (BoxAt.set (BoxAt.set (BoxAt.set (I2.out.e) _ _ (by dsimp only; omega)) _ _ (by dsimp only; omega)) _ _ (by dsimp only; omega)) _ _ (by dsimp only; omega)) _ _ (by dsimp only; omega)) 0 _)
   clear hb2 ht hr hS hU hSb hUb hk3 C2 HK;go_wp2_with fail;clear r0 f0 a0 a1 a2 a3 a4 fa0 fa1 fa2 fa3 fa4 I2;generalize World.setCell (World.setCell (World.setCell (World.setCell (World.setCell (World.setCell w2 _ _) _ _) _ _) _ _) _ _) _ _=w3 at *;have r0:=cellAt E3.out 0;have a0:=cellAt A3.out 0;have a1:=cellAt A3.out 1;have a2:=cellAt A3.out 2;have a3:=cellAt A3.out 3;have a4:=cellAt A3.out 4;simp only [List.getElem?_toArray,List.getElem?_cons_zero,List.getElem?_cons_succ] at r0 a0 a1 a2 a3 a4;refine leaves_cons (f:=52) (args:=#[bp (w.heap.size+1)]) (by simp) (by simp [go_sem]) ?_;refine(answer_idle _ _).mono ?_;rintro e u' w'' ⟨rfl,rfl,rfl⟩;simp [Leaves,settle,results,Tryz.results37,go_sem,r0,a0,a1,a2,a3,a4];refine⟨B3.out,fa,fc,qa,qc,?_⟩;rw [HR.out];exact⟨rfl,S3.out,U3.out,HSB.out,HUB.out⟩
def hullL:List UInt8:=[104,117,108,108,32,50,107,51,32,53,112,50,32,53,115,52,10,51,32,48,32,49,46,46,50,10,54,32,48,32,52,10]
def firesL:List UInt8:=[112,105,116,99,104,32,56,10,102,114,111,115,116,32,48,32,112,101,114,104,97,112,115,32,52,10,102,105,114,101,32,50,10,102,105,114,101,10,112,111,116,32,52,32,48,32,56,10,112,111,116,32,54,32,48,32,56,10]
def marksL:List UInt8:=[105,114,111,110,115,32,50,10,111,119,110,101,114,32,49,32,51,32,53,10,111,119,110,101,114,32,50,32,51,32,55,10,111,119,110,101,114,32,49,32,54,32,53,10,115,116,114,97,107,101,32,48,61,51,10,115,116,114,97,107,101,32,49,61,53,46,46,54,10,115,116,114,97,107,101,10,99,108,97,105,109,32,48,32,48,10,99,108,97,105,109,32,49,32,33,50,10,99,108,97,105,109,32,49,32,50,10]
def frostL:List UInt8:=[112,105,116,99,104,32,51,10,102,114,111,115,116,32,49,32,48,32,112,101,114,104,97,112,115,10]
theorem hull_text:hullT hullSS 3 hullSU 2=hullL:=by decide +kernel
theorem hull_is:hullB hullSS 3 hullSU 2=true:=by decide +kernel
theorem fires_text:pitchT 8 1 16 firesF 2 firesQ 2=firesL:=by decide +kernel
theorem fires_is:pitchB 8 1 16 firesF 2 firesQ 2=true:=by decide +kernel
theorem marks_text:ironsT marksX=marksL:=by decide +kernel
theorem marks_is:ironsB marksX=true:=by decide +kernel
theorem pay_n:bookN payX=3:=by decide +kernel
theorem pay_b:∀ i,i<5→bookB payX i=sealS i:=by decide +kernel
theorem hull_read:(hullRes hullL).1=0:=by decide +kernel
theorem frost_read:(pitRes frostL).1=8:=by decide +kernel
def spoiltS(i:Nat):Nat:=if i=1 then 4 else sealS i
def rdH:HullV:=(hullRes hullL).2
def rdW:WagesV:=(readW 5 sealS).2
theorem hull_res:hullRes hullL=(0,rdH):=Prod.ext hull_read rfl
theorem rdH_s:rdH.s.length=3:=by decide +kernel
theorem rdH_u:rdH.u.length=2:=by decide +kernel
theorem rdH_text:hullT (seaOf rdH.s) 3 (souOf rdH.u) 2=hullL:=by decide +kernel
theorem rdH_is:hullB (seaOf rdH.s) 3 (souOf rdH.u) 2=true:=by decide +kernel
theorem seal_res1:(readW 5 sealS).1=0:=by decide +kernel
theorem seal_res:readW 5 sealS=(0,rdW):=Prod.ext seal_res1 rfl
theorem rdW_cr:rdW.cr=2:=by decide +kernel
theorem rdW_sn:rdW.sn=1:=by decide +kernel
theorem rdW_tn:rdW.tn=0:=by decide +kernel
theorem rdW_s:rdW.S 0 0=4∧rdW.S 0 1=5:=by decide +kernel
theorem rdW_n:bookN rdW=3:=by decide +kernel
theorem rdW_b:∀ i,i<5→bookB rdW i=sealS i:=by decide +kernel
theorem pay_is:wagesB 2 (castW payX.S) 1 (castW payX.T) 0=true:=by decide +kernel
theorem spoilt_res:(readW 5 spoiltS).1=10:=by decide +kernel
theorem spoilt_at:(match mendAt spoiltS 3 with | .inl i=>i==15 | .inr _=>false)=true:=by decide +kernel
theorem spoilt_flip:∀ i,i<5→flipB spoiltS 15 i=sealS i:=by decide +kernel
theorem seal_lt8(i:Nat):sealS i<256:=by
 match i with
 | 0 | 1 | 2 | 3 | 4=>decide
 | n+5=>show(0:Nat)<256; decide
theorem spoilt_lt8(i:Nat):spoiltS i<256:=by
 unfold spoiltS
 split
 ·decide
 ·exact seal_lt8 i
theorem bytes_congr{w:World}{oa:Option Addr}{n:Nat}{f g:Nat→Nat}(h:BytesAt w oa n f)(e:∀ i,i<n→f i=g i):BytesAt w oa n g :=
 ⟨h.plain,h.old,h.small,fun i hi j hj=>by rw [← e i hi]; exact h.cells i hi j hj⟩
theorem s14(sa ua:Option Addr)(sc uc:Nat)(w:World)(hS:SeasAt w sa 3 hullSS)(hU:SousAt w ua 2 hullSU)(ht:Tab w)(hsd:Sides w) :
  Calls Tryz.prog 14 #[.agg #[.slice sa 3 sc,.slice ua 2 uc]] w fun e w'=>e = .returned (.tuple #[.string ⟨hullL.toArray⟩,.int .i64 0])∧Below w.heap.size w w':=by
 have h:=writeHull14_any sa ua 3 sc 2 uc hullSS hullSU w hS hU ht hsd;unfold wroteHull at h;rw [hull_is,hull_text] at h;exact h
theorem s16(fa qa:Option Addr)(fc qc:Nat)(w:World)(hF:IntsAt w fa 2 firesF)(hQ:PotsAt w qa 2 firesQ)(ht:Tab w) :
  Calls Tryz.prog 16 #[.agg #[.int .i64 8,.int .i64 1,.int .i64 16,.slice fa 2 fc,.slice qa 2 qc]] w fun e w'=>e = .returned (.tuple #[.string ⟨firesL.toArray⟩,.int .i64 0])∧Below w.heap.size w w':=by
 have h:=writesPitch_any 8 1 16 fa qa 2 fc 2 qc firesF firesQ w ⟨hF,hQ,ht⟩;unfold wrotePitch at h;rw [fires_is,fires_text] at h;exact h
theorem s18(oa ma sa ca:Option Addr)(oc mc sc cc:Nat)(op sp:Nat→Option Addr)(ok sk:Nat→Nat)(w:World)(hR:IronsAt marksX oa ma sa ca oc mc sc cc op sp ok sk w)(ht:Tab w) :
  Calls Tryz.prog 18 #[.agg #[.int .i64 2,.slice oa 3 oc,.slice ma 3 mc,.slice sa 3 sc,.slice ca 3 cc]] w fun e w'=>e = .returned (.tuple #[.string ⟨marksL.toArray⟩,.int .i64 0])∧Below w.heap.size w w':=by
 have h:=writesIrons_any marksX oa ma sa ca oc mc sc cc op sp ok sk w ⟨hR,ht⟩;unfold wroteIrons at h;rw [marks_is,marks_text] at h;exact h
theorem s20(sa:Option Addr)(sc:Nat)(w:World)(hS:Row w sa 1 2 (fun i j=>.int .i64 (payX.S i j:Nat))) :
  Calls Tryz.prog 20 #[.agg #[.int .i64 2,.slice sa 1 sc,.slice none 0 0]] w fun e w' => ∃ oa cap,e = .returned (.tuple #[.slice oa 5 cap,.int .i64 0])∧BytesAt w' oa 5 sealS∧Below w.heap.size w w':=by
 have h:=writeWages20_any 2 sa none 1 sc 0 0 (castW payX.S) (castW payX.T) w hS (row_none _ _ _);refine h.mono ?_;rintro e w' ⟨hb,h⟩;rw [pay_is,if_pos rfl] at h;have e1:wagesV 2 (castW payX.S) 1 (castW payX.T) 0=payX:=rfl;rw [e1,pay_n] at h;obtain⟨oa,cap,rfl,h1,-,-⟩:=h;exact⟨oa,cap,rfl,bytes_congr h1 pay_b,hb⟩
theorem s35(w:World)(hs:Sides w)(hlim:Lim w)(htab:Tab w)(h1:1<w.heap.size) :
  Calls Tryz.prog 35 #[.string ⟨hullL.toArray⟩] w fun e w' => ∃ sa sc ua uc,e = .returned (.tuple #[.agg #[.slice sa 3 sc,.slice ua 2 uc],.int .i64 0])∧SeasAt w' sa 3 (seaOf rdH.s)∧SousAt w' ua 2 (souOf rdH.u)∧Below w.heap.size w w':=by
 refine(readHull35_any hullL w hs hlim htab h1).mono ?_;rintro e w' ⟨hb,h⟩;rw [hull_res] at h;dsimp only at h;rw [rdH_s,rdH_u] at h;obtain⟨sa,sc,ua,uc,rfl,g1,g2,-,-⟩:=h;exact⟨sa,sc,ua,uc,rfl,g1,g2,hb⟩
theorem s37(w:World)(hlim:Lim w)(htab:Tab w)(h1:1<w.heap.size) :
  Calls Tryz.prog 37 #[.string ⟨frostL.toArray⟩] w fun e w' => ∃ hr fr pe fa fn fc qa qn qc,e = .returned (.tuple #[.agg #[.int .i64 hr,.int .i64 fr,.int .i64 pe,.slice fa fn fc,.slice qa qn qc],.int .i64 8])∧Below w.heap.size w w':=by
 refine(readPitch37_any frostL w hlim htab h1).mono ?_;rintro e w' ⟨hb,fa,fc,qa,qc,rfl,-⟩;rw [frost_read];exact⟨_,_,_,fa,_,fc,qa,_,qc,rfl,hb⟩
theorem s23(oa:Option Addr)(nc:Nat)(w:World)(hg:BytesAt w oa 5 sealS)(hc:5≤nc) :
  Calls Tryz.prog 23 #[.slice oa 5 nc] w fun e w' => ∃ sa sc ta tc,e = .returned (.tuple #[.agg #[.int .i64 2,.slice sa 1 sc,.slice ta 0 tc],.int .i64 0])∧Row w' sa 1 2 (fun i j=>.int .i64 (rdW.S i j:Nat))∧Row w' ta 0 8 (fun i j=>.int .i64 (rdW.T i j:Nat))∧Below w.heap.size w w':=by
 refine(readWages23_any oa 5 nc sealS w hg seal_lt8 hc).mono ?_;rintro e w' ⟨hb,h⟩;rw [seal_res] at h;dsimp only at h;rw [rdW_sn,rdW_tn,rdW_cr] at h;obtain⟨sa,sc,ta,tc,rfl,g1,g2⟩:=h;exact⟨sa,sc,ta,tc,rfl,g1,g2,hb⟩
theorem s23'(oa:Option Addr)(nc:Nat)(w:World)(hg:BytesAt w oa 5 spoiltS)(hc:5≤nc) :
  Calls Tryz.prog 23 #[.slice oa 5 nc] w fun e w' => ∃ (cr:Nat) (sa:Option Addr) (sn sc:Nat) (ta:Option Addr) (tn tc:Nat),e = .returned (.tuple #[.agg #[.int .i64 cr,.slice sa sn sc,.slice ta tn tc],.int .i64 10])∧Below w.heap.size w w':=by
 refine(readWages23_any oa 5 nc spoiltS w hg spoilt_lt8 hc).mono ?_;rintro e w' ⟨hb,sa,sc,ta,tc,rfl,-⟩;rw [spoilt_res];exact⟨_,sa,_,sc,ta,_,tc,rfl,hb⟩
theorem s25(oa:Option Addr)(nc:Nat)(w:World)(hg:BytesAt w oa 5 spoiltS)(hc:5≤nc) :
  Calls Tryz.prog 25 #[.slice oa 5 nc] w fun e w' => ∃ ob cap,e = .returned (.tuple #[.slice ob 5 cap,.int .i64 0])∧BytesAt w' ob 5 sealS∧Below w.heap.size w w':=by
 have hn:∀ n,szB n=5→n=3:=fun n h=>szB_inj (h.trans (show 5=szB 3 from rfl));have hm:=spoilt_at;refine(mend_any oa 5 nc spoiltS w hg spoilt_lt8 hc).mono ?_;rintro e w' ⟨hb,⟨h,-⟩ | ⟨-,h,-⟩ | ⟨n,-,h2,-,h⟩⟩
 ·omega
 ·exact absurd rfl (h 3 (by omega))
 ·obtain rfl:=hn n h2
  rcases h with ⟨x,h,-⟩ | ⟨i,g,cap,h,-,-,-,rfl,hb2⟩
  ·rw [h] at hm
   cases hm
  ·rw [h] at hm
   obtain rfl:i=15:=by simpa using hm
   exact⟨_,cap,rfl,bytes_congr hb2 spoilt_flip,hb⟩
theorem s28(sa ua sb ub:Option Addr)(sc uc sd ud:Nat)(w:World)(hS:SeasAt w sa 3 (seaOf rdH.s))(hU:SousAt w ua 2 (souOf rdH.u))(hS':SeasAt w sb 3 hullSS)(hU':SousAt w ub 2 hullSU)(ht:Tab w) :
  Calls Tryz.prog 28 #[.agg #[.slice sa 3 sc,.slice ua 2 uc],.agg #[.slice sb 3 sd,.slice ub 2 ud]] w fun e w'=>e = .returned (.bool true)∧Below w.heap.size w w':=by
 have h:=sameHulls28_any sa ua sb ub 3 sc 2 uc 3 sd 2 ud (seaOf rdH.s) hullSS (souOf rdH.u) hullSU w hS hU hS' hU' (hull_ok rdH_is) (hull_ok hull_is) ht;rw [rdH_text,hull_text,beq_self_eq_true] at h;exact h
theorem pay_small:SmallW payX where
 cr:=by decide
 sn:=by decide
 tn:=by decide
 s:=fun i hi=>by
  obtain rfl:i=0:=by have:i<1:=hi; omega
  decide
 t:=fun i hi=>absurd hi (Nat.not_lt_zero _)
 pre:=fun i hi=>absurd hi (Nat.not_lt_zero _)
theorem rd_small:SmallW rdW where
 cr:=by rw [rdW_cr]; decide
 sn:=by rw [rdW_sn]; decide
 tn:=by rw [rdW_tn]; decide
 s:=fun i hi=>by
  rw [rdW_sn] at hi;obtain rfl:i=0:=by omega
  rw [rdW_s.1,rdW_s.2]
  decide
 t:=fun i hi=>by rw [rdW_tn] at hi; omega
 pre:=fun i hi=>by rw [rdW_tn] at hi; omega
theorem s27(sa ta sb:Option Addr)(sc tc sd:Nat)(w:World)(hS:Row w sa 1 2 (fun i j=>.int .i64 (rdW.S i j:Nat)))(hT:Row w ta 0 8 (fun i j=>.int .i64 (rdW.T i j:Nat)))(hS':Row w sb 1 2 (fun i j=>.int .i64 (payX.S i j:Nat))) :
  Calls Tryz.prog 27 #[.agg #[.int .i64 2,.slice sa 1 sc,.slice ta 0 tc],.agg #[.int .i64 2,.slice sb 1 sd,.slice none 0 0]] w fun e w'=>e = .returned (.bool true)∧Below w.heap.size w w':=by
 have h:=sameWages27_any rdW payX sa ta sb none sc tc sd 0 w (by rw [rdW_sn]; exact hS) (by rw [rdW_tn]; exact hT) hS' (row_none _ _ _) rd_small pay_small;rw [rdW_cr,rdW_sn,rdW_tn,rdW_n,pay_n] at h;have he:eqB (szB 3) (szB 3) (bookB rdW) (bookB payX)=true:=eqB_iff.2 ⟨rfl,fun i hi=>(rdW_b i hi).trans (pay_b i hi).symm⟩;rw [he] at h;exact h
theorem s22(oa ob:Option Addr)(nc mc:Nat)(w:World)(h1:BytesAt w oa 5 sealS)(h2:BytesAt w ob 5 sealS) :
  Calls Tryz.prog 22 #[.slice oa 5 nc,.slice ob 5 mc] w fun e w'=>e = .returned (.bool true)∧w'=w:=by
 have h:=bytes_any oa ob 5 nc 5 mc sealS sealS w h1 h2 (fun i _=>seal_lt8 i) (fun i _=>seal_lt8 i);have he:eqB 5 5 sealS sealS=true:=eqB_iff.2 ⟨rfl,fun i _=>rfl⟩;rw [he] at h;exact h
end Go.Proofs.YtclbmlmlhiiaeaaGreatDoor
