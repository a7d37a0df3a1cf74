/- Walks: the letter of a side is read, by a map. Walks: a numb -/
import Derived.Test.YtclbmlmlhiiaeaaGreatDoorQE2
import Derived.Test.YtclbmlmlhiiaeaaGreatDoorQC8
import Derived.Maps.Own
import Derived.Maps.RangeWalk
import Derived.StringKeys
import Derived.WalkArith
import Derived.WalkMore
import Derived.Lib.ConvBytes
namespace Go.Proofs.YtclbmlmlhiiaeaaGreatDoor
open Go.RowKit Go.Maps
theorem under9:Tryz.prog.underlying 9=some .string:=by kernel_rfl
theorem under3:Tryz.prog.underlying 3=some (.int .i64):=by kernel_rfl
theorem lt9:9<Tryz.prog.types.size:=of_decide_eq_true (by kernel_rfl)
theorem sz9:(Tryz.prog.types[9]'lt9).size=1:=by kernel_rfl
attribute [local go_sem] sz9
theorem under214:Tryz.prog.underlying 214=some (.map 9 3):=by kernel_rfl
theorem OffR.grown1{rb:Nat}{w w':World}(h:OffR rb w w'):w.grownBy w' (some rb) :=
 ⟨h.os,h.tape,h.output,h.size,fun k hk hne=>h.block k ⟨hk,fun e=>hne (by rw [e])⟩⟩
theorem keyed9:Keyed Tryz.prog 9:=string_keyed under9
theorem Sides.cells{w:World}(h:Sides w):w.cell? ⟨0,0,none⟩=some (.string ⟨#[112]⟩)∧w.cell? ⟨0,1,none⟩=some (.string ⟨#[107]⟩)∧w.cell? ⟨0,2,none⟩=some (.string ⟨#[115]⟩):=by
 have h0:=World.var?_cell (g:=0) (by kernel_rfl) h 0;have h1:=World.var?_cell (g:=0) (by kernel_rfl) h 1;have h2:=World.var?_cell (g:=0) (by kernel_rfl) h 2;exact⟨h0,h1,h2⟩
def letterAt:Nat→UInt8
 | 0=>112
 | 1=>107
 | _=>115
def sideD:Nat→DataW Unit
 | 0=>.map []
 | k+1=>(sideD k).put (.string [letterAt k]) (.lit (.int .i64 ((k:Int) - 1)))
def SideOf(w:World)(e:Ending)(w':World):Prop := ∃ b,e = .returned (.map (some b))∧Below w.heap.size w w'∧w.heap.size≤b∧w'.ownsMap Tryz.prog 9 (plainElem Tryz.prog 3) b 3 (sideD 3)
set_option maxRecDepth 100000 in
set_option maxHeartbeats 1000000 in
theorem sideOf_any(w:World)(h:Sides w):Calls Tryz.prog 146 #[] w (SideOf w):=by
 have hmm:=@run_makeMap Tryz.prog;obtain⟨c0,c1,c2⟩:=h.cells;have HG:=Lib.hid (fun W (hb:Below w.heap.size w W)=>(Sides.grow h hb).cells);obtain⟨d0,d1,d2⟩:=HG.out _ ((Below.refl w.heap.size w).alloc (Nat.le_refl _) (.map #[] 0));clear h c0 c1 c2;go_enter Tryz.func146,Tryz.ntmps146
 go_wp2
 go_loopw [6] (fun i wr => ∃ k:Nat,k≤3∧i = .int .i64 k∧wr.ownsMap Tryz.prog 9 (plainElem Tryz.prog 3) w.heap.size k (sideD k)∧Below w.heap.size w wr) (fun i _=>3 - (intOf i).toNat)
 case atStart=>exact⟨0,Nat.zero_le _,rfl,World.ownsMap_made _ _ _ _,(Below.refl _ _).alloc (Nat.le_refl _) _⟩
 case round =>
  obtain⟨k,hk,rfl,hown,hnx⟩:=hrel;have hk4:k=0∨k=1∨k=2∨k=3:=by omega
  clear d0 d1 d2;rcases hk4 with rfl | rfl | rfl | rfl
  ·have hix:∀ w,(Instr.index 163 (.agg #[.string ⟨#[112]⟩,.string ⟨#[107]⟩,.string ⟨#[115]⟩]) (.int .i64 0)).run Tryz.prog w = .ok (.string ⟨#[112]⟩) w:=fun w=>by rfl
   have hkey:keyOf Tryz.prog 9 (.string ⟨#[112]⟩)=some (.string [112]):=Go.WideMaps.keyOf_string_mk under9 (by decide);go_wp2_with (at_mapUpdate; refine wpList_mapUpdate_own _ rfl _ _ _ 214 rfl 9 3 keyed9 under214 _ w.heap.size 0 _ rfl hown (by unfold maxLen; omega) _ _ _ rfl rfl hkey (.lit (.int .i64 (-1))) [] (plainElem_int under3 rfl) ?_; intro w1 hown1 hgrow1);exact⟨⟨1,by omega,rfl,hown1,hnx.grown hgrow1 hnx.size (fun j hj=>by cases hj; exact Nat.le_refl _)⟩,by simp [intOf]⟩
  ·have hix:∀ w,(Instr.index 163 (.agg #[.string ⟨#[112]⟩,.string ⟨#[107]⟩,.string ⟨#[115]⟩]) (.int .i64 1)).run Tryz.prog w = .ok (.string ⟨#[107]⟩) w:=fun w=>by rfl
   have hkey:keyOf Tryz.prog 9 (.string ⟨#[107]⟩)=some (.string [107]):=Go.WideMaps.keyOf_string_mk under9 (by decide);go_wp2_with (at_mapUpdate; refine wpList_mapUpdate_own _ rfl _ _ _ 214 rfl 9 3 keyed9 under214 _ w.heap.size 1 _ rfl hown (by unfold maxLen; omega) _ _ _ rfl rfl hkey (.lit (.int .i64 0)) [] (plainElem_int under3 rfl) ?_; intro w1 hown1 hgrow1);exact⟨⟨2,by omega,rfl,hown1,hnx.grown hgrow1 hnx.size (fun j hj=>by cases hj; exact Nat.le_refl _)⟩,by simp [intOf]⟩
  ·have hix:∀ w,(Instr.index 163 (.agg #[.string ⟨#[112]⟩,.string ⟨#[107]⟩,.string ⟨#[115]⟩]) (.int .i64 2)).run Tryz.prog w = .ok (.string ⟨#[115]⟩) w:=fun w=>by rfl
   have hkey:keyOf Tryz.prog 9 (.string ⟨#[115]⟩)=some (.string [115]):=Go.WideMaps.keyOf_string_mk under9 (by decide);go_wp2_with (at_mapUpdate; refine wpList_mapUpdate_own _ rfl _ _ _ 214 rfl 9 3 keyed9 under214 _ w.heap.size 2 _ rfl hown (by unfold maxLen; omega) _ _ _ rfl rfl hkey (.lit (.int .i64 1)) [] (plainElem_int under3 rfl) ?_; intro w1 hown1 hgrow1);exact⟨⟨3,by omega,rfl,hown1,hnx.grown hgrow1 hnx.size (fun j hj=>by cases hj; exact Nat.le_refl _)⟩,by simp [intOf]⟩
  ·go_wp2_with fail
   go_ret;exact⟨_,rfl,hnx,Nat.le_refl _,hown⟩
def SidePost(rb:Nat)(R:Option (Int×List UInt8))(w:World)(e:Ending)(w':World):Prop :=
 OffR rb w w'∧match R with
 | none=>e=err 8
 | some (n,r)=>e = .returned (.int .i64 n)∧RdAt w' rb r
structure ToCome (t:List UInt8) (left:Lit→Bool):Prop where
 p:left (.string [112])=true∨Lib.hasPrefix t [112]=false
 k:left (.string [107])=true∨Lib.hasPrefix t [107]=false
 s:left (.string [115])=true∨Lib.hasPrefix t [115]=false
theorem ToCome.start(t:List UInt8):ToCome t (Maps.has (sideD 3)):=⟨.inl (by decide),.inl (by decide),.inl (by decide)⟩
theorem ToCome.done{t:List UInt8}{left:Lit→Bool}(h:ToCome t left)(hl:∀ kl,left kl=false):sideP t=none:=by
 have hp:=h.p.resolve_left (by rw [hl]; decide);have hk:=h.k.resolve_left (by rw [hl]; decide);have hs:=h.s.resolve_left (by rw [hl]; decide);unfold sideP;rw [hp,hk,hs];rfl
theorem ToCome.step{t p:List UInt8}{left:Lit→Bool}(h:ToCome t left)(hn:Lib.hasPrefix t p=false):ToCome t (fun z=>left z && !z.sameKey (.string p)):=by
 have key:∀ q:List UInt8,(left (.string q)=true∨Lib.hasPrefix t q=false)→((left (.string q) && !(Lit.string q).sameKey (.string p))=true∨Lib.hasPrefix t q=false):=by
  intro q hq;rcases hq with hq | hq
  ·by_cases e:q=p
   ·exact .inr (by rw [e]; exact hn)
   ·refine .inl ?_
    rw [hq,Maps.sameKey_ne (fun x=>e (by injection x))];rfl
  ·exact .inr hq
 exact⟨key _ h.p,key _ h.k,key _ h.s⟩
theorem sideD_at{p:List UInt8}{c:Int}(h:∀ zd:DataW Unit,(sideD 3).atKey (.string p) zd = .lit (.int .i64 c)):(p = [112]∧c = -1)∨(p = [107]∧c=0)∨(p = [115]∧c=1):=by
 have hD:sideD 3 = .map [(.string [107],.lit (.int .i64 0)),(.string [112],.lit (.int .i64 (-1))),(.string [115],.lit (.int .i64 1))]:=by rfl
 have h1:=h (.map []);rw [hD] at h1;unfold DataW.atKey at h1;by_cases e1:p = [107]
 ·subst e1; simp [Lit.sameKey] at h1; exact .inr (.inl ⟨rfl,h1.symm⟩)
 ·by_cases e2:p = [112]
  ·subst e2; simp [Lit.sameKey] at h1; exact .inl ⟨rfl,h1.symm⟩
  ·by_cases e3:p = [115]
   ·subst e3; simp [Lit.sameKey] at h1; exact .inr (.inr ⟨rfl,h1.symm⟩)
   ·have d1:=Maps.sameKey_ne (show Lit.string [107] ≠ .string p from fun x=>e1 (by injection x with x; exact x.symm))
    have d2:=Maps.sameKey_ne (show Lit.string [112] ≠ .string p from fun x=>e2 (by injection x with x; exact x.symm));have d3:=Maps.sameKey_ne (show Lit.string [115] ≠ .string p from fun x=>e3 (by injection x with x; exact x.symm));simp [d1,d2,d3] at h1
theorem sideP_at{t p:List UInt8}{c:Int}(h:(p = [112]∧c = -1)∨(p = [107]∧c=0)∨(p = [115]∧c=1))(ht:Lib.hasPrefix t p=true):sideP t=some (c,t.drop 1):=by
 cases t with
 | nil=>rcases h with ⟨rfl,rfl⟩ | ⟨rfl,rfl⟩ | ⟨rfl,rfl⟩ <;> cases ht
 | cons x t =>
  unfold sideP;rcases h with ⟨rfl,rfl⟩ | ⟨rfl,rfl⟩ | ⟨rfl,rfl⟩
  ·rw [if_pos ht]
  ·simp [Lib.hasPrefix,List.isPrefixOf] at ht ⊢
   subst ht;rfl
  ·simp [Lib.hasPrefix,List.isPrefixOf] at ht ⊢
   subst ht;rfl
set_option maxRecDepth 100000 in
set_option maxHeartbeats 2000000 in
theorem side96_any(rb:Nat)(t:List UInt8)(w:World)(h:RdAt w rb t)(hs:Sides w):Calls Tryz.prog 96 #[bp rb] w (SidePost rb (sideP t) w):=by
 have H0:=Lib.hid h;have C0:=Lib.hid (sideOf_any w hs);have hrl:=lt_of_heap h;clear h hs;go_enter Tryz.func96,Tryz.ntmps96;go_wp2_with (first | (go_at_call 146; refine C0.out.mono ?_; (rintro e w1 ⟨b,rfl,hb1,hbl,hown⟩); (have R1:=Lib.hid (show RdAt w1 rb t from BoxAt.grow H0.out hb1)); (have O1:=Lib.hid (OffR.below (rb:=rb) hb1)); (have hne:b≠rb:=by omega); clear H0 C0 hb1) | (at_range; refine wpList_range_own _ rfl _ 214 rfl 9 3 keyed9 under214 _ b 3 _ rfl hown ?_; intro w0 hrg0 hg0 hs0))
 go_frame
 go_loopw [3] (fun _ wr => ∃ (left:Lit→Bool) (cnt:Nat),wr.ranges Tryz.prog 9 (plainElem Tryz.prog 3) b w1.heap.size 3 (sideD 3) left cnt∧ToCome t left∧RdAt wr rb t∧OffR rb w wr) (fun _ wr=>wr.rangeLeft b w1.heap.size)
 case atStart=>exact⟨_,_,hrg0,ToCome.start t,BoxAt.grow R1.out (Below.grown (Below.refl _ _) hg0 (Nat.le_refl _) (fun k e=>by cases e)),O1.out.trans (OffR.below (Below.grown (Below.refl _ _) hg0 (Nat.le_refl _) (fun k e=>by cases e)))⟩
 case round =>
  obtain⟨left,cnt,hrg,htc,hrd,ho⟩:=hrel;have HT:=Lib.hid htc;have HR:=Lib.hid hrd;have HO:=Lib.hid ho;clear htc hrd ho;go_wp2_with (at_next; refine wpList_next_ranges _ rfl _ rfl 9 keyed9 (plainElem Tryz.prog 3) (fun p:List UInt8=>Value.string ⟨p.toArray⟩) (fun c:Int=>Value.int .i64 c) ?_ ?_ b w1.heap.size 3 _ _ _ rfl hrg ?_ ?_)
  ·intro key kl h
   obtain⟨s,rfl,_,_⟩:=Go.WideMaps.string_of_keyOf under9 h;exact⟨s.data.toList,by simp⟩
  ·intro v y hv
   obtain⟨a,rfl,_⟩:=plainElem_int_inv under3 hv;exact⟨a,rfl⟩
  ·intro _ hl0
   have HN:=Lib.hid (HT.out.done hl0);clear hl0;go_wp2_with fail;exact⟨rfl,HO.out,by rw [HN.out]; rfl⟩
  ·intro p c kl y1 y2 w2 cnt1 hkey hlx hv hat hrg1 hlt hg1 hs1 hen
   obtain⟨s,he,rfl,_⟩:=Go.WideMaps.string_of_keyOf under9 hkey
   injection he with he
   subst he;have hsp:(⟨p.toArray⟩:ByteArray).data.toList=p:=rfl;rw [hsp] at hlx hat hrg1;clear hsp;obtain⟨c',he,hy,_⟩:=plainElem_int_inv under3 hv
   injection he with _ he
   subst he;obtain⟨rfl,rfl⟩:=Prod.mk.inj hy;clear hy;have hr1:rb≠w1.heap.size:=by have:=HO.out.size; have:=lt_of_heap R1.out; omega
   have R2:=Lib.hid (show RdAt w2 rb t from BoxAt.kept HR.out hg1 (by simp; exact hr1));have HAT:=Lib.hid (sideD_at hat);have hw1:w.heap.size≤w1.heap.size:=O1.out.size;have O2:=Lib.hid (show OffR rb w w2 from Keep.grown HO.out hg1 (fun k e hk=>by cases e; have:=hk.1; omega) (fun k hk=>hk.1));have C2:=Lib.hid (sees_any rb t p w2 R2.out);have HL:=Lib.hid hrg;clear hrg hkey hlx hat hg1 hs1 HO HR hv;go_wp2_with fail
   (with_reducible refine C2.out.mono ?_)
   rintro e w3 ⟨rfl,rfl⟩;have O3:=Lib.hid (O2.out.trans (OffR.set (rb:=rb) (w:=w2) (.string ⟨(seesT t p).toArray⟩)));have R3:=Lib.hid (R2.out.set (seesT t p));have hrg3:=hrg1.kept (OffR.set (rb:=rb) (w:=w2) (.string ⟨(seesT t p).toArray⟩)).grown1 (by simp; exact hne) (by simp; exact fun h=>hr1 h.symm)
   cases hp:Lib.hasPrefix t p with
   | true =>
    have HS:=Lib.hid (sideP_at HAT.out hp);rw [seesT_yes hp] at R3 O3 ⊢;clear hp;go_wp2_with fail;go_ret;refine⟨O3.out,?_⟩;rw [HS.out];have hp1:p.length=1:=by rcases HAT.out with ⟨rfl,_⟩ | ⟨rfl,_⟩ | ⟨rfl,_⟩ <;> rfl
    exact⟨rfl,by have h:=R3.out; rw [hp1] at h ⊢; exact h⟩
   | false =>
    have HS:=Lib.hid (HT.out.step hp);rw [seesT_no hp] at R3 O3 hrg3 ⊢;clear hp;go_wp2_with fail;exact⟨⟨_,cnt1,hrg3,HS.out,R3.out,O3.out⟩,by rw [hrg3.left_eq,HL.out.left_eq]; exact hlt⟩
end Go.Proofs.YtclbmlmlhiiaeaaGreatDoor
namespace Go.Proofs.YtclbmlmlhiiaeaaGreatDoor
open Go.RowKit
def NumPost(rb:Nat)(t:List UInt8)(w:World)(e:Ending)(w':World):Prop :=
 OffR rb w w'∧match numP t with
 | none=>e=err 8
 | some (n,r)=>e = .returned (.int .i64 n)∧RdAt w' rb r
theorem bytes_below(w:World)(s:ByteArray):Below w.heap.size w (Lib.bytesWorld w 5 s):=by
 refine⟨rfl,rfl,rfl,by rw [Lib.bytesWorld_size]; omega,fun k hk=>Lib.bytesWorld_at_old w 5 s k hk⟩
theorem dgs_take{u:List UInt8}{k:Nat}(hk:k≤u.length)(ha:∀ c,c ∈ u.take k→dgtB c=true)(hn:k=u.length∨dgtB (u.getD k 0)=false):dgs u=u.take k:=by
 have h1:u=u.take k++u.drop k:=(List.take_append_drop k u).symm
 have h2:NoDig (u.drop k):=fun c r' e=>by
  rcases hn with rfl | h
  ·rw [List.drop_length] at e; cases e
  ·have h3:(u.drop k)[0]? = some c:=by rw [e]; rfl
   rw [List.getElem?_drop,Nat.add_zero] at h3;rw [List.getD_eq_getElem?_getD,h3] at h;exact h
 have:=dgs_app ha h2
 rwa [← h1] at this
theorem dval_snoc(l:List UInt8)(c:UInt8):dval (l ++ [c])=10 * dval l+((c.toNat:Int) - 48):=by
 unfold dval;rw [List.foldl_append];rfl
theorem take_snoc(u:List UInt8)(k:Nat)(h:k<u.length):u.take (k+1)=u.take k ++ [u.getD k 0]:=by
 rw [List.take_add_one,List.getD_eq_getElem?_getD,List.getElem?_eq_getElem h];rfl
theorem numP_of{t u:List UInt8}{b:Bool}(hb:Lib.hasPrefix t [45]=b)(hu:seesT t [45]=u):numP t=if b then(numU u).map (fun p=>(-p.1,p.2)) else numU u:=by
 unfold numP;rw [hb]
 cases b with
 | true=>rw [if_pos rfl,if_pos rfl,← hu,seesT_yes hb]; rfl
 | false=>rw [if_neg (by decide),if_neg (by decide),← hu,seesT_no hb]
theorem ba_drop(u:List UInt8)(d:Nat):(⟨u.toArray⟩:ByteArray).extract d u.length=⟨(u.drop d).toArray⟩:=by
 apply ByteArray.ext;simp;exact List.take_of_length_le (by rw [List.length_drop]; exact Nat.le_refl _)
theorem size5r:(Tryz.prog.info? 5).map (·.size)=some 1:=by kernel_rfl
theorem dgs_ge{u:List UInt8}{j:Nat}(hj:j≤u.length)(ha:∀ c,c ∈ u.take j→dgtB c=true):j≤(dgs u).length:=by
 have h1:dgs u=u.take j++dgs (u.drop j):=by
  have h2:∀ (l r:List UInt8),(∀ c,c ∈ l→dgtB c=true)→dgs (l++r)=l++dgs r:=by
   intro l r
   induction l with
   | nil=>intro _; rfl
   | cons c l ih =>
    intro h
    show List.takeWhile dgtB (c::(l++r))=_
    rw [List.takeWhile_cons,h c (by simp),if_pos rfl]
    show c::dgs (l++r)=_
    rw [ih (fun x hx=>h x (by simp [hx]))];rfl
  have:=h2 (u.take j) (u.drop j) ha
  rwa [List.take_append_drop] at this
 rw [h1,List.length_append,List.length_take];omega
theorem slice46:Tryz.prog.underlying 46=some (.slice 5):=elem5.slice
set_option maxRecDepth 100000 in
set_option maxHeartbeats 4000000 in
theorem number94_any(rb:Nat)(t:List UInt8)(w:World)(h:RdAt w rb t)(hl:t.length≤2000) :
  Calls Tryz.prog 94 #[bp rb] w (NumPost rb t w):=by
 have C:=Lib.hid (sees_any rb t [45] w h);have H:=Lib.hid h;clear h;go_enter Tryz.func94,Tryz.ntmps94;go_wp2_with fail
 go_step3
 go_wp2_with (go_at_call 95; refine C.out.mono ?_);rintro e w' ⟨rfl,rfl⟩;obtain⟨b,eb⟩:∃ b,Lib.hasPrefix t [45]=b:=⟨_,rfl⟩
 have HB:=Lib.hid eb;obtain⟨u,eu⟩:∃ u,seesT t [45]=u:=⟨_,rfl⟩
 have hu:u.length≤2000:=by
  rw [← eu];unfold seesT Lib.trimPrefix
  split
  ·rw [List.length_drop]; omega
  ·exact hl
 have HU:=Lib.hid eu;rw [eb,eu];have R1:=Lib.hid (H.out.set u);have O1:=Lib.hid (OffR.set (rb:=rb) (w:=w) (.string ⟨u.toArray⟩));clear eb eu C H;generalize World.setCell w _ _=w1 at *;have c0:=cellAt R1.out 0;simp only [List.getElem?_toArray,List.getElem?_cons_zero] at c0;go_wp2_with fail
 go_step3
 go_wp2_with fail;rw [Lib.run_convert_string_bytes w1 9 46 5 ⟨u.toArray⟩ (u:=(Tryz.prog.underlying 9).get (by kernel_rfl)) (by kernel_rfl) slice46 (by kernel_rfl)];simp only [Result.andThen,Oper.upon_value];have B2:=Lib.hid (bytes_below w1 ⟨u.toArray⟩);have hcells:=Lib.hid (fun j (hj:j<u.length)=>Lib.bytesWorld_cell w1 5 ⟨u.toArray⟩ j hj);have R2:=Lib.hid (BoxAt.grow R1.out B2.out);have O2:=Lib.hid (O1.out.trans (OffR.below B2.out));have hub:(⟨u.toArray⟩:ByteArray).size=u.length:=by simp [ByteArray.size]
 rw [hub];generalize grownCap w1 u.length 0 5=cap;generalize w1.heap.size=g at *;generalize Lib.bytesWorld w1 5 ⟨u.toArray⟩=w2 at *;have HNP:=Lib.hid (numP_of HB.out HU.out);clear c0 hub B2 R1 O1
 go_upto_block 0 with (fail)
 go_cut [4,5] from 16 to 37 (fun n d W=>W=w2∧d = .int .i64 ((dgs u).length:Nat)∧n = .int .i64 (dval (dgs u))∧(dgs u).length≤5)
 case first =>
  go_wp2_with fail
  go_loop [4,5,16] (fun n d i => ∃ k:Nat,k≤u.length∧k≤5∧i = .int .i64 k∧d = .int .i64 k∧n = .int .i64 (dval (u.take k)) ∧ ∀ c,c ∈ u.take k→dgtB c=true) (fun _ _ i=>u.length - (intOf i).toNat)
  case atStart=>exact⟨0,Nat.zero_le _,by omega,rfl,rfl,rfl,fun c hc=>by cases hc⟩
  case round =>
   obtain⟨k,hk,hk5,rfl,rfl,rfl,ha⟩:=hrel;have HA:=Lib.hid ha;have hdb:=dval_bd _ ha (by rw [List.length_take]; omega);clear ha;by_cases hlt:k<u.length
   ·have hi:=fun w=>run_indexAt_row (w:=w) (oa:=some ⟨g,0,none⟩) (n:=u.length) (cap:=cap) slice46 size5r rfl hlt
    simp only [blk,ofs,Nat.zero_add,Nat.mul_one] at hi;have hc:=hcells.out k hlt;have HT:=Lib.hid (take_snoc u k hlt);have HDV:=Lib.hid (dval_snoc (u.take k) (u.getD k 0));have HDT:=Lib.hid (fun(h:dgtB (u.getD k 0)=false)=>dgs_take hk HA.out (.inr h));have e0:(⟨u.toArray⟩:ByteArray).data.toList.getD k 0=u.getD k 0:=by simp
    rw [e0] at hc;have hcb:(u.getD k 0).toNat<256:=(u.getD k 0).toNat_lt;have HDG:=Lib.hid (show dgtB (u.getD k 0)=(decide (48≤(u.getD k 0).toNat)&&decide ((u.getD k 0).toNat≤57)) from rfl);generalize u.getD k 0=c at *;have HC:=Lib.hid (show ∀ x,dstep x c=10 * x+((c.toNat:Int) - 48) from fun x=>rfl);generalize hcn:c.toNat=m at *;generalize hN:dval (u.take k)=N at *;have HN:=Lib.hid hN;clear hN;by_cases hdig:48≤m∧m≤57
    ·obtain⟨m0,m1⟩:=hdig
     have hdg:dgtB c=true:=by rw [HDG.out]; simp [m0,m1]
     have HA2:=Lib.hid (show ∀ x,x ∈ u.take (k+1)→dgtB x=true from fun x hx=>by
      rw [HT.out,List.mem_append,List.mem_singleton] at hx;rcases hx with h | h
      ·exact HA.out x h
      ·rw [h]; exact hdg)
     clear hdg;by_cases h5:k+1≤5
     ·have t5:decide ((k:Int)+1≤5)=true:=decide_eq_true (by omega)
      have e1:IntKind.u8.wrap ((m:Int) - 48)=(m:Int) - 48:=IntWalk.u8_in _ (by omega);have HM:=Lib.hid (And.intro m0 m1);have m0':(48:Int)≤m:=by omega
      have m1':(m:Int)≤57:=by omega
      go_wp2_with (go_at_call 62; refine(ask_true _ _).mono ?_; rintro e w' ⟨rfl,rfl⟩);exact⟨⟨k+1,hlt,h5,by go_num,by go_num,by rw [HT.out,HDV.out],HA2.out⟩,by simp [intOf]; omega⟩
     ·have t5:decide ((k:Int)+1≤5)=false:=decide_eq_false (by omega)
      have HNO:=Lib.hid (show numP t=none from by
       have h6:=dgs_ge (j:=k+1) hlt HA2.out;have h7:numU u=none:=by unfold numU; rw [if_pos (.inr (by omega))]
       rw [HNP.out,h7]
       cases b <;> rfl)
      have m0':(48:Int)≤m:=by omega
      have m1':(m:Int)≤57:=by omega
      go_wp2_with (go_at_call 62; refine(ask_false _ _).mono ?_; rintro e w' ⟨rfl,rfl⟩)
      all_goals exact⟨rfl,O2.out,by rw [HNO.out]; rfl⟩
    ·have HD:=Lib.hid (HDT.out (by rw [HDG.out]; simp; omega))
     have HL:=Lib.hid (show(dgs u).length=k from by rw [HD.out,List.length_take]; omega);by_cases h48:m<48
     ·have m0':(m:Int)<48:=by omega
      clear hdig;go_wp2_with fail
      go_meet
      exact⟨rfl,by rw [HL.out],by rw [HD.out,HN.out],by rw [HL.out]; exact hk5⟩
     ·have m0':¬ (m:Int)<48:=by omega
      have m1':(57:Int)<m:=by omega
      clear hdig;go_wp2_with fail
      go_meet
      exact⟨rfl,by rw [HL.out],by rw [HD.out,HN.out],by rw [HL.out]; exact hk5⟩
   ·obtain rfl:k=u.length:=by omega
    have HD:=Lib.hid (dgs_take (Nat.le_refl _) HA.out (.inl rfl));have HL:=Lib.hid (show(dgs u).length=u.length from by rw [HD.out,List.length_take]; omega);go_wp2_with fail
    go_meet
    exact⟨rfl,by rw [HL.out],by rw [HD.out,List.take_length],by rw [HL.out]; exact hk5⟩
 case rest =>
  obtain⟨rfl,rfl,rfl,h5⟩:=hcut;have hdl:(dgs u).length≤u.length:=by unfold dgs; exact(List.takeWhile_prefix _).length_le
  have hnb:=dval_bd (dgs u) (dgs_all u) h5;have HNU:=Lib.hid (show numU u=if(dgs u).length=0∨5<(dgs u).length then none else some (dval (dgs u),u.drop (dgs u).length) from rfl);generalize (dgs u).length=D at *;generalize dval (dgs u)=N at *;by_cases hD:D=0
  ·have HNO:=Lib.hid (show numP t=none from by
    have hU:numU u=none:=by rw [HNU.out]; exact if_pos (.inl hD)
    rw [HNP.out,hU]
    cases b <;> rfl)
   have t0:decide (0<D)=false:=decide_eq_false (by omega);have t0':decide ((0:Int)<D)=false:=decide_eq_false (by omega);clear hD;go_wp2_with (go_at_call 62; refine(ask_false _ _).mono ?_; rintro e w' ⟨rfl,rfl⟩)
   all_goals exact⟨rfl,O2.out,by rw [HNO.out]; rfl⟩
  ·have HYES:=Lib.hid (show numP t=some (if b then -N else N,u.drop D) from by
    have hU:numU u=some (N,u.drop D):=by rw [HNU.out]; exact if_neg (by omega)
    rw [HNP.out,hU]
    cases b <;> rfl)
   have t0:decide (0<D)=true:=decide_eq_true (by omega);have t0':decide ((0:Int)<D)=true:=decide_eq_true (by omega);clear hD;have c0:=cellAt R2.out 0;have f0:=freeAt R2.out 0;simp only [List.getElem?_toArray,List.getElem?_cons_zero] at c0;have d0:(0:Int)≤D:=by omega
   have d1:(D:Int)≤u.length:=by omega
   have O3:=Lib.hid (O2.out.trans (OffR.set (rb:=rb) (w:=wc) (.string ⟨(u.drop D).toArray⟩)));have R3:=Lib.hid (RdAt.set (show RdAt wc rb u from R2.out) (u.drop D));rw [← ba_drop] at R3 O3;go_wp2_with (go_at_call 62; refine(ask_true _ _).mono ?_; rintro e w' ⟨rfl,rfl⟩)
   all_goals
    rw [Exit.noGoto_ret];go_ret;refine⟨O3.out,?_⟩;rw [HYES.out];exact⟨by simp_all,by have h:=R3.out; rw [ba_drop] at h ⊢; exact h⟩
def SpanPost(rb:Nat)(t:List UInt8)(w:World)(e:Ending)(w':World):Prop :=
 OffR rb w w'∧match spanP t with
 | none=>e=err 8
 | some (p,r)=>e = .returned (.agg #[.int .i64 p.1,.int .i64 p.2])∧RdAt w' rb r
theorem OffR.box{rb:Nat}{w w':World}(h:OffR rb w w'){b:Nat}{x:Array Value}{t:TypeId}(hx:BoxAt w b x t)(hb:b≠rb):BoxAt w' b x t:=Keep.box h hx ⟨lt_of_heap hx,hb⟩
theorem OffR.other{rb:Nat}{w w1:World}(h:OffR rb w w1)(p i:Nat)(v:Value)(hp:w.heap.size≤p):OffR rb w (w1.setCell ⟨p,i,none⟩ v):=Keep.set h p i v (fun hh=>by omega)
set_option maxRecDepth 100000 in
set_option maxHeartbeats 4000000 in
theorem span99_any(rb:Nat)(t:List UInt8)(w:World)(h:RdAt w rb t)(hl:t.length≤2000) :
  Calls Tryz.prog 99 #[bp rb] w (SpanPost rb t w):=by
 have hrl:=lt_of_heap h;have hb0:=(Below.refl w.heap.size w).alloc (Nat.le_refl _) (.cells #[.int .i64 0,.int .i64 0] 128);have R0:=Lib.hid (show RdAt (w.alloc (.cells #[.int .i64 0,.int .i64 0] 128)) rb t from BoxAt.grow h hb0);have O0:=Lib.hid (OffR.below (rb:=rb) hb0);have Z0:=Lib.hid (show BoxAt (w.alloc (.cells #[.int .i64 0,.int .i64 0] 128)) w.heap.size #[.int .i64 0,.int .i64 0] 128 from heap_alloc_new _ _)
 have HS:=Lib.hid (show spanP t=match numP t with
  | none=>none
  | some (lo,t1)=>if Lib.hasPrefix t1 [46,46] then match numP (t1.drop 2) with
   | none=>none
   | some (hi,t2)=>some ((lo,hi),t2) else some ((lo,lo),t1) from rfl)
 clear h hb0;go_enter Tryz.func99,Tryz.ntmps99;go_upto_region 1 with (fail)
 generalize World.alloc _ _=w1 at *;have C1:=Lib.hid (number94_any rb t w1 R0.out hl);go_wp2_with (go_at_call 94; refine C1.out.mono ?_);intro e w2 hpost;obtain⟨ho,hn⟩:=hpost
 cases hr:numP t with
 | none =>
  rw [hr] at hn;dsimp only at hn;subst hn;simp only [err];exact⟨rfl,O0.out.trans ho,by rw [HS.out,hr]; rfl⟩
 | some p =>
  obtain⟨lo,t1⟩:=p;rw [hr] at hn;obtain⟨he,hrd⟩:=hn;subst he;have hs1:=numP_shorter hr;rw [hr] at HS;have O2:=Lib.hid (O0.out.trans ho);have R2:=Lib.hid hrd;have Z2:=Lib.hid (ho.box Z0.out (by omega));clear ho hrd O0 R0 Z0 C1 hr;have hb3:=(Below.refl w2.heap.size w2).alloc (Nat.le_refl _) (.cells #[.int .i64 lo,.int .i64 lo] 128);have R3:=Lib.hid (show RdAt (w2.alloc (.cells #[.int .i64 lo,.int .i64 lo] 128)) rb t1 from BoxAt.grow R2.out hb3);have O3:=Lib.hid (O2.out.trans (OffR.below hb3));have Z3:=Lib.hid (Z2.out.grow hb3);have Y3:=Lib.hid (show BoxAt (w2.alloc (.cells #[.int .i64 lo,.int .i64 lo] 128)) w2.heap.size #[.int .i64 lo,.int .i64 lo] 128 from heap_alloc_new _ _);have hw2:=O2.out.size;have hwr:=lt_of_heap R2.out;have hne:w2.heap.size≠w.heap.size:=by have:=lt_of_heap Z2.out; omega
  clear hb3 R2 O2 Z2;go_wp2_with fail;generalize World.alloc _ _=w3 at *;refine(sees_any rb t1 [46,46] w3 R3.out).mono ?_;rintro e w4 ⟨rfl,rfl⟩;have O4:=Lib.hid (O3.out.trans (OffR.set (rb:=rb) (w:=w3) (.string ⟨(seesT t1 [46,46]).toArray⟩)));have R4:=Lib.hid (R3.out.set (seesT t1 [46,46]));have Z4:=Lib.hid (Z3.out.set ⟨rb,0,none⟩ (.string ⟨(seesT t1 [46,46]).toArray⟩) (by dsimp only; omega));have Y4:=Lib.hid (Y3.out.set ⟨rb,0,none⟩ (.string ⟨(seesT t1 [46,46]).toArray⟩) (by dsimp only; omega));clear O3 R3 Z3 Y3;generalize World.setCell w3 _ _=w4 at *;have y0:=cellAt Y4.out 0;have y1:=cellAt Y4.out 1;have yf:=freeAt Y4.out 1;have z0:=cellAt Z4.out 0;have z1:=cellAt Z4.out 1;have zf0:=freeAt Z4.out 0;have zf1:=freeAt Z4.out 1;simp only [List.getElem?_toArray,List.getElem?_cons_zero,List.getElem?_cons_succ] at y0 y1 z0 z1
  cases hp:Lib.hasPrefix t1 [46,46] with
  | false =>
   rw [seesT_no hp] at R4;have HF:=Lib.hid (show spanP t=some ((lo,lo),t1) from by rw [HS.out]; simp only [hp]; rfl);have H1:=O4.out.other w.heap.size 0 (.int .i64 lo) (Nat.le_refl _);have H2:=H1.other w.heap.size 1 (.int .i64 lo) (Nat.le_refl _);have HR:=BoxAt.set (BoxAt.set R4.out ⟨w.heap.size,0,none⟩ (.int .i64 lo) (by dsimp only; omega)) ⟨w.heap.size,1,none⟩ (.int .i64 lo) (by dsimp only; omega);go_wp2_with fail;refine bodyPost_ret (v:=.agg #[.int .i64 lo,.int .i64 lo]) (by simp [results,Tryz.results99,go_sem,z0,z1]) rfl ?_;unfold SpanPost;rw [HF.out];exact⟨H2,rfl,HR⟩
  | true =>
   rw [seesT_yes hp] at R4;have hl4:(t1.drop 2).length≤2000:=by rw [List.length_drop]; omega
   have C4:=Lib.hid (number94_any rb (t1.drop 2) w4 R4.out hl4)
   have HS2:=Lib.hid (show spanP t=match numP (t1.drop 2) with
    | none=>none
    | some (hi,t2)=>some ((lo,hi),t2) from by rw [HS.out]; simp only [hp]; rfl)
   clear hp y0 y1 yf z0 z1 zf0 zf1;go_wp2_with (go_at_call 94; refine C4.out.mono ?_);intro e w5 hpost;obtain⟨ho,hn⟩:=hpost
   cases hr:numP (t1.drop 2) with
   | none =>
    rw [hr] at hn;dsimp only at hn;subst hn;simp only [err];exact⟨rfl,O4.out.trans ho,by rw [HS2.out,hr]; rfl⟩
   | some p =>
    obtain⟨hi,t2⟩:=p;rw [hr] at hn;obtain⟨he,hrd⟩:=hn;subst he;have HF:=Lib.hid (show spanP t=some ((lo,hi),t2) from by rw [HS2.out,hr]);have O5:=Lib.hid (O4.out.trans ho);have R5:=Lib.hid hrd;have Z5:=Lib.hid (ho.box Z4.out (by omega));have Y5:=Lib.hid (ho.box Y4.out (by omega));clear ho hrd O4 R4 Z4 Y4 C4 hr;have y0:=cellAt Y5.out 0;have y1:=cellAt Y5.out 1;have yf:=freeAt Y5.out 1;have z0:=cellAt Z5.out 0;have z1:=cellAt Z5.out 1;have zf0:=freeAt Z5.out 0;have zf1:=freeAt Z5.out 1;simp only [List.getElem?_toArray,List.getElem?_cons_zero,List.getElem?_cons_succ] at y0 y1 z0 z1;have H0:=O5.out.other w2.heap.size 1 (.int .i64 hi) hw2;have H1:=H0.other w.heap.size 0 (.int .i64 lo) (Nat.le_refl _);have H2:=H1.other w.heap.size 1 (.int .i64 hi) (Nat.le_refl _);have HR:=BoxAt.set (BoxAt.set (BoxAt.set R5.out ⟨w2.heap.size,1,none⟩ (.int .i64 hi) (by dsimp only; omega)) ⟨w.heap.size,0,none⟩ (.int .i64 lo) (by dsimp only; omega)) ⟨w.heap.size,1,none⟩ (.int .i64 hi) (by dsimp only; omega);go_wp2_with fail;refine bodyPost_ret (v:=.agg #[.int .i64 lo,.int .i64 hi]) (by simp [results,Tryz.results99,go_sem,z0,z1]) rfl ?_;unfold SpanPost;rw [HF.out];exact⟨H2,rfl,HR⟩
end Go.Proofs.YtclbmlmlhiiaeaaGreatDoor
