/- What is taken of a line of a pitch. Walks: the pitch of a te -/
import Derived.Test.YtclbmlmlhiiaeaaGreatDoorQW2
import Derived.Test.YtclbmlmlhiiaeaaGreatDoorQF5
namespace Go.Proofs.YtclbmlmlhiiaeaaGreatDoor
open Go.RowKit Go.Shelf
structure PitV where
 hr:Int
 fr:Int
 pe:Int
 f:List Int
 q:List Pot
def intsV(l:List Int):List Value:=l.map (Value.int .i64)
def potV:List Pot→List Value
 | []=>[]
 | x::l=>.int .i64 x.h :: .int .i64 x.f :: .int .i64 x.b::potV l
theorem potV_snoc(x:Pot):∀ l:List Pot,potV (l ++ [x])=potV l ++ [.int .i64 x.h,.int .i64 x.f,.int .i64 x.b]
 | []=>rfl
 | y::l=>by
  show _::_::_::potV (l ++ [x])=_
  rw [potV_snoc x l];rfl
def PitAt(base pb:Nat)(D:Nat→Prop)(x:PitV)(W:World):Prop := ∃ v3 v4,BoxAt W pb #[.int .i64 x.hr,.int .i64 x.fr,.int .i64 x.pe,v3,v4] 29 ∧
 W.ownsRow base 3 1 v3 x.f.length (intsV x.f)∧W.ownsRow base 147 3 v4 x.q.length (potV x.q)∧(∀ g,v3.ownBlock=some g→v4.ownBlock≠some g) ∧ ∀ g,D g↔(v3.ownBlock=some g∨v4.ownBlock=some g)
def shapeP:Shape PitV where
 At:=PitAt
 keep:=by
  rintro base pb D x A B C ⟨v3,v4,hb,h3,h4,hn,hD⟩ hk hp hg;exact⟨v3,v4,hk.box hb hp,hk.row h3 (fun g e=>hg g ((hD g).2 (.inl e))),hk.row h4 (fun g e=>hg g ((hD g).2 (.inr e))),hn,hD⟩
 lt:=by
  rintro base pb D x W g ⟨v3,v4,hb,h3,h4,hn,hD⟩ hg;rcases(hD g).1 hg with e | e
  ·exact h3.lt g e
  ·exact h4.lt g e
 cells:=by
  rintro base pb D x W l o ⟨v3,v4,hb,h3,h4,hn,hD⟩ hl hc hg;rcases(hD l).1 hg with e | e
  ·exact row_cells h3 hl hc e
  ·exact row_cells h4 hl hc e
 old:=by
  rintro base pb D x W ⟨v3,v4,hb,h3,h4,hn,hD⟩;exact lt_of_heap hb
 cnt:=fun x=>x.f.length+x.q.length
def pitTake(k:Nat)(x:PitV)(t:List UInt8):Option (PitV×List UInt8) :=
 if k=0 then(numP t).map fun p=>({x with hr:=p.1},p.2)
 else if k=1 then(frostP t.length t).map fun p=>({x with fr:=p.1.1,pe:=p.1.2},p.2)
 else if k=2 then(hoursP t.length t 0).map fun p=>({x with f:=x.f ++ [(p.1:Int)]},p.2)
 else(potRd t).map fun p=>({x with q:=x.q ++ [⟨p.1.1,p.1.2.1,p.1.2.2⟩]},p.2)
section
variable {rb pb base:Nat} {D:Nat→Prop} {x:PitV} {t:List UInt8} {w:World}
theorem take106_any(h:RdAt w rb t)(hx:shapeP.At base pb D x w)(hne:pb≠rb)(hrb:¬ D rb)(hpb:¬ D pb)(hl:t.length≤2000) :
  Calls Tryz.prog 106 #[bp pb,bp rb] w (TakePost shapeP rb pb base D (pitTake 0 x t) w):=by
 obtain⟨v3,v4,hb,h3,h4,hn,hD⟩:=hx;refine(hour106_any rb pb _ _ _ _ _ t w h hb hne hl).mono ?_;rintro e w' ⟨hk,hh⟩;have hk':Keep (fun k=>k<w.heap.size∧k≠rb∧k≠pb) w w':=hk;refine⟨Keep.mono hk fun k hk=>⟨hk.1,hk.2.1,hk.2.2.1⟩,?_⟩;rw [show pitTake 0 x t=(numP t).map (fun p=>(({x with hr:=p.1}:PitV),p.2)) from rfl]
 cases hr:numP t with
 | none=>rw [hr] at hh; exact hh
 | some p =>
  obtain⟨n,r⟩:=p;rw [hr] at hh;obtain⟨he,hrd,hbx⟩:=hh;refine⟨he,hrd,D,⟨v3,v4,hbx,hk'.row h3 (fun g e=>⟨(h3.lt g e).2,fun e'=>hrb (e' ▸ (hD g).2 (.inl e)),fun e'=>hpb (e' ▸ (hD g).2 (.inl e))⟩),hk'.row h4 (fun g e=>⟨(h4.lt g e).2,fun e'=>hrb (e' ▸ (hD g).2 (.inr e)),fun e'=>hpb (e' ▸ (hD g).2 (.inr e))⟩),hn,hD⟩,fun g hg=>.inl hg⟩
theorem take107_any(h:RdAt w rb t)(hx:shapeP.At base pb D x w)(hne:pb≠rb)(hrb:¬ D rb)(hpb:¬ D pb)(hl:t.length≤2000)(hlim:Lim w) :
  Calls Tryz.prog 107 #[bp pb,bp rb] w (TakePost shapeP rb pb base D (pitTake 1 x t) w):=by
 obtain⟨v3,v4,hb,h3,h4,hn,hD⟩:=hx;obtain⟨m,hm⟩:=hlim;refine(frost107_any rb pb _ _ _ _ _ m t w h hb hm hne hl t.length (Nat.le_refl _)).mono ?_;rintro e w' ⟨hk,hh⟩;have hk':Keep (fun k=>k<w.heap.size∧k≠rb∧k≠pb) w w':=hk;refine⟨Keep.mono hk fun k hk=>⟨hk.1,hk.2.1,hk.2.2.1⟩,?_⟩;rw [show pitTake 1 x t=(frostP t.length t).map (fun p=>(({x with fr:=p.1.1,pe:=p.1.2}:PitV),p.2)) from rfl]
 cases hr:frostP t.length t with
 | none=>rw [hr] at hh; exact hh
 | some p =>
  obtain⟨⟨a,b⟩,r⟩:=p;rw [hr] at hh;obtain⟨he,hrd,hbx⟩:=hh;refine⟨he,hrd,D,⟨v3,v4,hbx,hk'.row h3 (fun g e=>⟨(h3.lt g e).2,fun e'=>hrb (e' ▸ (hD g).2 (.inl e)),fun e'=>hpb (e' ▸ (hD g).2 (.inl e))⟩),hk'.row h4 (fun g e=>⟨(h4.lt g e).2,fun e'=>hrb (e' ▸ (hD g).2 (.inr e)),fun e'=>hpb (e' ▸ (hD g).2 (.inr e))⟩),hn,hD⟩,fun g hg=>.inl hg⟩
theorem take110_any(h:RdAt w rb t)(hx:shapeP.At base pb D x w)(hne:pb≠rb)(hrb:¬ D rb)(hpb:¬ D pb)(hl:t.length≤2000)(hbase:base≤w.heap.size)(hc:shapeP.cnt x≤1000000) :
  Calls Tryz.prog 110 #[bp pb,bp rb] w (TakePost shapeP rb pb base D (pitTake 2 x t) w):=by
 obtain⟨v3,v4,hb,h3,h4,hn,hD⟩:=hx;have hc':x.f.length+x.q.length≤1000000:=hc;refine(fire110_any rb pb base _ _ _ v3 _ _ x.f.length t w h hb hne (fun e=>hrb ((hD _).2 (.inl e))) (fun e=>hpb ((hD _).2 (.inl e))) hbase h3 (by omega) hl t.length (Nat.le_refl _)).mono ?_;rintro e w' ⟨hk,hh⟩;have hk':Keep (fun k=>k<w.heap.size∧k≠rb∧k≠pb∧v3.ownBlock≠some k) w w':=hk;refine⟨Keep.mono hk fun k hk=>⟨hk.1,hk.2.1,hk.2.2.1,fun e=>hk.2.2.2 ((hD k).2 (.inl e))⟩,?_⟩;rw [show pitTake 2 x t=(hoursP t.length t 0).map (fun p=>(({x with f:=x.f ++ [(p.1:Int)]}:PitV),p.2)) from rfl]
 cases hr:hoursP t.length t 0 with
 | none=>rw [hr] at hh; exact hh
 | some p =>
  obtain⟨s,r⟩:=p;rw [hr] at hh;obtain⟨he,hrd,v',hbx,hrow,hown⟩:=hh;refine⟨he,hrd,fun g=>v'.ownBlock=some g∨v4.ownBlock=some g,⟨v',v4,hbx,?_,hk'.row h4 (fun g e=>⟨(h4.lt g e).2,fun e'=>hrb (e' ▸ (hD g).2 (.inr e)),fun e'=>hpb (e' ▸ (hD g).2 (.inr e)),fun e'=>hn g e' e⟩),?_,fun g=>Iff.rfl⟩,?_⟩
  ·dsimp only
   rw [List.length_append,intsV,List.map_append];exact hrow
  ·intro g e e'
   rcases hown g e with h | h
   ·exact hn g h e'
   ·have:=(h4.lt g e').2; omega
  ·intro g hg
   rcases hg with e | e
   ·rcases hown g e with h | h
    ·exact .inl ((hD g).2 (.inl h))
    ·exact .inr h
   ·exact .inl ((hD g).2 (.inr e))
theorem take111_any(h:RdAt w rb t)(hx:shapeP.At base pb D x w)(hne:pb≠rb)(hrb:¬ D rb)(hpb:¬ D pb)(hl:t.length≤2000)(hbase:base≤w.heap.size)(hc:shapeP.cnt x≤1000000) :
  Calls Tryz.prog 111 #[bp pb,bp rb] w (TakePost shapeP rb pb base D (pitTake 3 x t) w):=by
 obtain⟨v3,v4,hb,h3,h4,hn,hD⟩:=hx;have hc':x.f.length+x.q.length≤1000000:=hc;refine(pot111_any rb pb base _ _ _ _ v4 _ x.q.length t w h hb hne (fun e=>hrb ((hD _).2 (.inr e))) (fun e=>hpb ((hD _).2 (.inr e))) hbase h4 (by omega) hl).mono ?_;rintro e w' ⟨hk,hh⟩;have hk':Keep (fun k=>k<w.heap.size∧k≠rb∧k≠pb∧v4.ownBlock≠some k) w w':=hk;refine⟨Keep.mono hk fun k hk=>⟨hk.1,hk.2.1,hk.2.2.1,fun e=>hk.2.2.2 ((hD k).2 (.inr e))⟩,?_⟩;rw [show pitTake 3 x t=(potRd t).map (fun p=>(({x with q:=x.q ++ [⟨p.1.1,p.1.2.1,p.1.2.2⟩]}:PitV),p.2)) from rfl]
 cases hr:potRd t with
 | none=>rw [hr] at hh; exact hh
 | some p =>
  obtain⟨⟨a,b,c⟩,r⟩:=p;rw [hr] at hh;obtain⟨he,hrd,v',hbx,hrow,hown⟩:=hh;refine⟨he,hrd,fun g=>v3.ownBlock=some g∨v'.ownBlock=some g,⟨v3,v',hbx,hk'.row h3 (fun g e=>⟨(h3.lt g e).2,fun e'=>hrb (e' ▸ (hD g).2 (.inl e)),fun e'=>hpb (e' ▸ (hD g).2 (.inl e)),hn g e⟩),?_,?_,fun g=>Iff.rfl⟩,?_⟩
  ·dsimp only
   rw [List.length_append,potV_snoc];exact hrow
  ·intro g e e'
   rcases hown g e' with h | h
   ·exact hn g e h
   ·have:=(h3.lt g e).2; omega
  ·intro g hg
   rcases hg with e | e
   ·exact .inl ((hD g).2 (.inl e))
   ·rcases hown g e with h | h
    ·exact .inl ((hD g).2 (.inr h))
    ·exact .inr h
end
end Go.Proofs.YtclbmlmlhiiaeaaGreatDoor
namespace Go.Proofs.YtclbmlmlhiiaeaaGreatDoor
open Go.RowKit Go.Shelf
attribute [local go_sem] Oper.semAt_some
def wsP:List (List UInt8):=[[112,105,116,99,104,32],[102,114,111,115,116],[102,105,114,101],[112,111,116,32]]
def stepP:PitV×Nat→List UInt8→Option (PitV×Nat):=lineStep 2 wsP pitTake
def intOf'(l:List Int)(i:Nat):Int:=l.getD i 0
def potOf(l:List Pot)(i:Nat):Pot:=l.getD i ⟨0,0,0⟩
theorem intsV_get:∀ (l:List Int) (i:Nat),i<l.length → ∀ j,j<1→(intsV l)[i * 1+j]? = some (.int .i64 (intOf' l i))
 | [],i,h,_,_=>by cases h
 | x::l,0,_,j,hj=>by
  obtain rfl:j=0:=by omega
  rfl
 | x::l,i+1,h,j,hj=>by
  have:=intsV_get l i (by simpa using h) j hj;rw [show(i+1) * 1+j=i * 1+j+1 by omega];exact this
theorem potV_get:∀ (l:List Pot) (i:Nat),i<l.length → ∀ j,j<3→(potV l)[i * 3+j]? = some ((potOf l i).cell j)
 | [],i,h,_,_=>by cases h
 | x::l,0,_,j,hj=>by
  rcases(show j=0∨j=1∨j=2 by omega) with rfl | rfl | rfl <;> rfl
 | x::l,i+1,h,j,hj=>by
  have:=potV_get l i (by simpa using h) j hj;rw [show(i+1) * 3+j=i * 3+j+1+1+1 by omega];exact this
def pitVB(x:PitV):Bool:=pitchB x.hr x.fr x.pe (intOf' x.f) x.f.length (potOf x.q) x.q.length
def pitVT(x:PitV):List UInt8:=pitchT x.hr x.fr x.pe (intOf' x.f) x.f.length (potOf x.q) x.q.length
def readP(t:List UInt8):Option PitV:=match linesR stepP (⟨0,0,0,[],[]⟩,0) t with
 | none=>none
 | some (x,_)=>if pitVB x∧pitVT x=t then some x else none
def PitRows(x:PitV)(w:World)(fa qa:Option Addr)(w':World):Prop:=IntsAt w' fa x.f.length (intOf' x.f)∧PotsAt w' qa x.q.length (potOf x.q)∧(0<x.f.length→w.heap.size≤blk fa)∧(0<x.q.length→w.heap.size≤blk qa)
def ReadPostP(t:List UInt8)(w:World)(e:Ending)(w':World):Prop :=
 Below w.heap.size w w'∧if 1000<t.length then e=err 3 else match readP t with
  | none=>e=err 8
  | some x => ∃ fa fc qa qc,e = .returned (.agg #[.int .i64 x.hr,.int .i64 x.fr,.int .i64 x.pe,.slice fa x.f.length fc,.slice qa x.q.length qc])∧PitRows x w fa qa w'
theorem potRd_shorter{t r:List UInt8}{x:Int×Int×Int}(h:potRd t=some (x,r)):r.length<t.length:=by
 unfold potRd at h
 cases h1:numP t with
 | none=>rw [h1] at h; cases h
 | some p =>
  obtain⟨a,t1⟩:=p;have s1:=numP_shorter h1;rw [h1] at h;dsimp only at h
  cases h2:nextP t1 with
  | none=>rw [h2] at h; cases h
  | some p =>
   obtain⟨b,t2⟩:=p;have s2:=nextP_shorter h2;rw [h2] at h;dsimp only at h
   cases h3:nextP t2 with
   | none=>rw [h3] at h; cases h
   | some p =>
    obtain⟨c,t3⟩:=p;have s3:=nextP_shorter h3;rw [h3] at h
    cases h
    omega
theorem frostP_shorter{k:Nat}{t r:List UInt8}{x:Nat×Nat}(h:frostP k t=some (x,r)):r.length≤t.length:=by
 have hc:=cut_len t perhapsW;unfold frostP at h
 split at h
 ·cases h1:hoursP k (Lib.cut t perhapsW).1 0 with
  | none=>rw [h1] at h; cases h
  | some p =>
   obtain⟨a,r1⟩:=p;have s1:=hoursP_shorter h1;rw [h1] at h;dsimp only at h
   cases h2:hoursP k (r1++(Lib.cut t perhapsW).2.1) 0 with
   | none=>rw [h2] at h; cases h
   | some p =>
    obtain⟨b,r2⟩:=p;have s2:=hoursP_shorter h2;rw [h2] at h
    cases h
    rw [List.length_append] at s2;omega
 ·cases h
theorem pitTake_len{J:Nat}{x x':PitV}{u r:List UInt8}(h:pitTake J x u=some (x',r)):shapeP.cnt x'+r.length≤shapeP.cnt x+u.length+1:=by
 show x'.f.length+x'.q.length+_≤x.f.length+x.q.length+_+1
 unfold pitTake at h
 split at h
 ·cases h1:numP u with
  | none=>rw [h1] at h; cases h
  | some p=>rw [h1] at h; cases h; have:=numP_shorter h1; dsimp only; omega
 ·split at h
  ·cases h1:frostP u.length u with
   | none=>rw [h1] at h; cases h
   | some p=>rw [h1] at h; cases h; have:=frostP_shorter h1; dsimp only; omega
  ·split at h
   ·cases h1:hoursP u.length u 0 with
    | none=>rw [h1] at h; cases h
    | some p=>rw [h1] at h; cases h; have:=hoursP_shorter h1; dsimp only; simp only [List.length_append,List.length_cons,List.length_nil]; omega
   ·cases h1:potRd u with
    | none=>rw [h1] at h; cases h
    | some p=>rw [h1] at h; cases h; have:=potRd_shorter h1; dsimp only; simp only [List.length_append,List.length_cons,List.length_nil]; omega
set_option maxRecDepth 100000 in
set_option maxHeartbeats 8000000 in
theorem read81_any(kb:Nat)(t:List UInt8)(w:World)(hk:KindsPitch w kb)(hlim:Lim w)(htab:Tab w)(hkb:1<kb) :
  Calls Tryz.prog 81 #[filePitch (some ⟨kb,0,none⟩) 4 4,.string ⟨t.toArray⟩] w (ReadPostP t w):=by
 refine calls_of_wpOf (n:=9) Tryz.func81 rfl ?_;simp only [Tryz.ntmps81,List.size_toArray,List.length_cons,List.length_nil,Nat.reduceAdd,Nat.reduceSub,Array.replicate_succ,Array.replicate_zero,List.push_toArray,List.append_toArray,List.nil_append,List.cons_append];have HK:=Lib.hid hk;have HL:=Lib.hid hlim;have HT:=Lib.hid htab;have hkl:kb<w.heap.size:=lt_of_heap hk;clear hk hlim htab;refine wpOf_seq_wp ?_;go_wp2_with fail;generalize hW:World.alloc _ _=w2;obtain⟨z0,z1,hz2,hB2⟩:=blocks2 hW;clear hW;have Z0:=Lib.hid (show BoxAt w2 w.heap.size #[.int .i64 2,.slice (some ⟨kb,0,none⟩) 4 4,.func (.func 113) #[] #[],.func (.func 114) #[] #[]] 102 from z0);have Z1:=Lib.hid (show BoxAt w2 (w.heap.size+1) #[.int .i64 0,.int .i64 0,.int .i64 0,.slice none 0 0,.slice none 0 0] 29 from z1);have B2:=Lib.hid hB2;clear z0 z1 hB2;by_cases ht:1000<t.length
 ·have t0:decide ((t.length:Int)≤1000)=false:=decide_eq_false (by omega)
  have HP:=Lib.hid (show ∀ w',Below w.heap.size w w'→ReadPostP t w (err 3) w' from fun w' h=>⟨h,by rw [if_pos ht]⟩);clear ht;refine wpOf_seq_wp ?_;go_wp2_with (go_at_call 62; refine(ask_false _ _).mono ?_);rintro e w' ⟨rfl,rfl⟩;exact HP.out w2 B2.out
 ·have t0:decide ((t.length:Int)≤1000)=true:=decide_eq_true (by omega)
  refine wpOf_seq_wp ?_;go_wp2_with (go_at_call 62; refine(ask_true _ _).mono ?_);rintro e w' ⟨rfl,rfl⟩;go_wp2_with fail;refine wpOf_seq_wp ?_;go_wp2_with fail;have hal:=(Below.refl w2.heap.size w2).alloc (Nat.le_refl _) (.cells #[.int .i64 0] 3);have hz3:(w2.alloc (.cells #[.int .i64 0] 3)).heap.size=w.heap.size+3:=by simp; omega
  have hz2':w2.heap.size=w.heap.size+2:=hz2;have B3:=Lib.hid (B2.out.next hal);have Y0:=Lib.hid (Z0.out.grow hal);have Y1:=Lib.hid (Z1.out.grow hal);have Y2:=Lib.hid (show BoxAt (w2.alloc (.cells #[.int .i64 0] 3)) (w.heap.size+2) #[.int .i64 0] 3 from by rw [← hz2']; exact heap_alloc_new _ _);have HZ2:=Lib.hid hz2';have HZ3:=Lib.hid hz3;clear hal Z0 Z1 B2 hz2 hz2' hz3;generalize World.alloc w2 _=w3 at *;refine wpOf_seq (wpOf_seq_wp ?_);go_wp2_with (go_at_call 138; refine(lines138_any t w3).mono ?_);rintro e w' ⟨rfl,rfl⟩;go_wp2_with fail;have hal:=(Below.refl w3.heap.size w3).alloc (Nat.le_refl _) (.cells #[.string ⟨t.toArray⟩] 9);have hz4:(w3.alloc (.cells #[.string ⟨t.toArray⟩] 9)).heap.size=w.heap.size+4:=by have:=HZ3.out; simp; omega
  have B4:=Lib.hid (B3.out.next hal);have X0:=Lib.hid (Y0.out.grow hal);have X1:=Lib.hid (Y1.out.grow hal);have X2:=Lib.hid (Y2.out.grow hal);have X3:=Lib.hid (show BoxAt (w3.alloc (.cells #[.string ⟨t.toArray⟩] 9)) (w.heap.size+3) #[.string ⟨t.toArray⟩] 9 from by rw [← HZ3.out]; exact heap_alloc_new _ _);have HZ4:=Lib.hid hz4;clear hal Y0 Y1 Y2 B3 hz4;generalize World.alloc w3 _=w4 at *;rw [HZ3.out];clear HZ3 HZ2;obtain⟨R,hR⟩:∃ R,linesR stepP (⟨0,0,0,[],[]⟩,0) t=R:=⟨_,rfl⟩
  have HR:=Lib.hid hR;clear hR;refine wpOf_block ?_
  refine wpOf_range_text (gf:=154) (lb:=#[bp (w.heap.size+3)]) (tb:=w.heap.size+3) (ty:=9) Tryz.func81 rfl (enters_of Tryz.func154 (by kernel_rfl) rfl) (lines154_any 9 (w.heap.size+3) t (by omega)) rfl (by rw [HZ4.out]; omega)
   (fun t' W => ∃ x k D,RdX shapeP #[.int .i64 2,.slice (some ⟨kb,0,none⟩) 4 4,.func (.func 113) #[] #[],.func (.func 114) #[] #[]] 102 stepP R w t.length 3 t' x k D W) (fun W=>R=none∧Below w.heap.size w W) ?hI ?hIo ?hIp ?hPr ?h0 X3.out (fun line=>{tmps:=#[.agg #[.int .i64 2,.slice (some ⟨kb,0,none⟩) 4 4,.func (.func 113) #[] #[],.func (.func 114) #[] #[]],.string ⟨t.toArray⟩,bp w.heap.size,undef,bp (w.heap.size+1),bp (w.heap.size+2),.string ⟨line.toArray⟩,undef,.string ⟨t.toArray⟩,.int .i64 t.length,.bool true,.tuple #[],.string ⟨t.toArray⟩,.func (.func 154) #[] #[bp (w.heap.size+3)],.string ⟨line.toArray⟩,undef,undef,undef,undef,undef,undef,undef,undef,undef,undef,undef,undef,undef,undef,undef,undef,undef,undef,undef,undef,undef,undef,undef,undef,undef,undef,undef,undef,undef,undef,undef,undef,undef,undef,undef,undef,undef,undef,undef,undef,undef,undef,undef,undef,undef,undef,undef,undef,undef,undef,undef,undef,undef,undef,undef,undef,undef,undef,undef,undef,undef],defers:=[]}) ?assign ?body ?done ?pan
  case hI =>
   rintro t' A B ⟨x,k,D,h⟩ hk;exact⟨x,k,D,h.keep hk (b:=w.heap.size+3) (fun k h1 h2=>⟨h1,h2⟩) (Nat.le_refl _) (h.not _ (by omega))⟩
  case hIo =>
   rintro t' A l o o' ⟨x,k,D,h⟩ hl ho hc;rw [HZ4.out] at hl;exact⟨x,k,D,h.keep (Keep.putObj A l o') (b:=l) (fun k h1 h2=>⟨h1,h2⟩) (by omega) (shapeP.cells h.ob ho hc)⟩
  case hIp =>
   rintro t' A ⟨x,k,D,h⟩ hb;exact⟨by rw [← h.res]; exact linesR_bad _ _ hb.1 hb.2,h.bel⟩
  case hPr =>
   rintro t' A ⟨x,k,D,h⟩;exact HL.out.keep (Keep.of_below h.bel (C:=fun k=>k<w.heap.size) fun k hk=>hk) (by omega)
  case h0=>exact⟨⟨0,0,0,[],[]⟩,0,fun _=>False,⟨B4.out,X0.out,⟨.slice none 0 0,.slice none 0 0,X1.out,World.ownsRow_nil ..,World.ownsRow_nil ..,fun g e=>(by cases e),fun g=>⟨fun h=>h.elim,fun h=>by rcases h with h | h <;> cases h⟩⟩,X2.out,by rw [HZ4.out]; exact Nat.le_refl _,HR.out,by omega,by show 0+_≤_; omega⟩⟩
  case assign =>
   intro l x W K hK
   gi_wp2
   exact hK
  case body =>
   rintro l t' line rest W0 ⟨x,k,D,h⟩ hN hbx ⟨r,hr⟩;have H0:=Lib.hid h;have HN:=Lib.hid hN;have HBX:=Lib.hid hbx;have htx:=h.tx;have hk2:=h.k2;have hln:=h.len;have hlen:=cut_found t' (by rw [hN.2.1]);rw [hN.2.1] at hlen;dsimp only at hlen;have HKA:=Lib.hid (show KindsPitch W0 kb from BoxAt.grow HK.out h.bel);have HF:=Lib.hid h.f
   have HR1:=Lib.hid (show R=(stepP (x,k) line).bind fun s'=>linesR stepP s' rest from by
    rw [← h.res]
    exact linesR_bind stepP (x,k) hN.1 hN.2.1)
   have hal:=(Below.refl W0.heap.size W0).alloc (Nat.le_refl _) (.cells #[.string ⟨line.toArray⟩] 173);have hkp:Keep (OffD w.heap.size D W0) W0 (W0.alloc (.cells #[.string ⟨line.toArray⟩] 173)):=Keep.of_below hal fun k hk=>hk.1;have hkq:Keep (fun k=>k<W0.heap.size) W0 (W0.alloc (.cells #[.string ⟨line.toArray⟩] 173)):=Keep.of_below hal fun k hk=>hk
   have I1:=Lib.hid (show WhX shapeP w.heap.size x D W0 line k (W0.alloc (.cells #[.string ⟨line.toArray⟩] 173)) from
    ⟨hkp,heap_alloc_new _ _,shapeP.keep h.ob hkq (shapeP.old h.ob) (fun g hg=>(shapeP.lt h.ob hg).2),BoxAt.grow h.q hal,fun g hg=>shapeP.lt h.ob hg,htx⟩)
   clear h hN hbx hr hal hkp hkq
   gi_wp2
   generalize World.alloc W0 _=W1 at *;obtain⟨J,hJ⟩:∃ J,kindFrom (wsP.drop k) k line=J:=⟨_,rfl⟩
   have HJ:=Lib.hid hJ;clear hJ
   gi_loopw [33] (fun _ wr => ∃ j:Nat,j≤4∧kindFrom (wsP.drop j) j line=J∧WhX shapeP w.heap.size x D W0 line j wr) (fun _ wr=>5 - kOf (w.heap.size+2) wr)
   case atStart=>exact⟨k,by omega,HJ.out,I1.out⟩
   case round =>
    obtain⟨j,hj,hjj,hi⟩:=hrel;have I2:=Lib.hid hi;have HJJ:=Lib.hid hjj;have hm:=kOf_at hi.q;have hKF:=hi.keep;have hfa:=hKF.box HF.out ⟨by omega,by omega,by omega,H0.out.not _ (by omega)⟩;have hka:=hKF.box HKA.out ⟨by omega,by omega,by omega,H0.out.not _ (by omega)⟩;have fa1:=cellAt hfa 1;have ka0:=cellAt hka 0;have ka1:=cellAt hka 1;have ka2:=cellAt hka 2;have ka3:=cellAt hka 3;have ka4:=cellAt hka 4;have ka5:=cellAt hka 5;have ka6:=cellAt hka 6;have ka7:=cellAt hka 7;have q0:=cellAt hi.q 0;simp only [List.getElem?_toArray,List.getElem?_cons_zero,List.getElem?_cons_succ] at fa1 ka0 ka1 ka2 ka3 ka4 ka5 ka6 ka7 q0;clear hi hjj I1 hKF hfa hka;rcases(show j=0∨j=1∨j=2∨j=3∨j=4 by omega) with rfl | rfl | rfl | rfl | rfl
    ·have C2:=Lib.hid (sees_any W0.heap.size line [112,105,116,99,104,32] wr I2.out.rd)
     gi_wp2
     refine⟨trivial,?_⟩;refine(CallsIn.inRound l (callsIn_wide.2 C2.out)).mono ?_;rintro e w2 ⟨rfl,rfl⟩
     cases hp:Lib.hasPrefix line [112,105,116,99,104,32] with
     | true =>
      rw [seesT_yes hp];have hJJ:J=0:=by rw [← HJJ.out]; show(if Lib.hasPrefix line [112,105,116,99,104,32]=true then _ else _)=_; rw [if_pos hp]
      have HQ:=Lib.hid (step_bind (J:=0) (u:=line.drop 6) (HJ.out.trans hJJ) (by decide) rfl HR1.out);have I3:=Lib.hid (I2.out.see (line.drop 6));clear hp hJJ C2 I2 HJ HJJ HR1
      show _
      clear fa1 ka0 ka1 ka2 ka3 ka4 ka5 ka6 ka7 q0;generalize World.setCell wr _ _=w2 at *;have hfa:=I3.out.keep.box HF.out ⟨by omega,by omega,by omega,H0.out.not _ (by omega)⟩;have hka:=I3.out.keep.box HKA.out ⟨by omega,by omega,by omega,H0.out.not _ (by omega)⟩;have fa1:=cellAt hfa 1;have ka1:=cellAt hka 1;have q0:=cellAt I3.out.q 0;simp only [List.getElem?_toArray,List.getElem?_cons_zero,List.getElem?_cons_succ] at fa1 ka1 q0;clear hfa hka
      gi_wp2
      refine⟨trivial,?_⟩;refine(CallsIn.inRound l (callsIn_wide.2 (ask_true _ _))).mono ?_;rintro e w' ⟨rfl,rfl⟩
      gi_wp2
      have hdl:(line.drop 6).length≤line.length:=by rw [List.length_drop]; omega
      have C3:=Lib.hid (take106_any I3.out.rd I3.out.ob (by omega) (fun hd=>by have:=(I3.out.lt _ hd).2; omega) (H0.out.not _ (by omega)) (by omega));refine⟨trivial,?_⟩;refine(CallsIn.inRound l (callsIn_wide.2 C3.out)).mono ?_;intro e w3 hpost;obtain⟨ho,hh⟩:=hpost;have K3:=I3.out.took ho;have HOF:=Lib.hid (H0.out.off K3)
      cases hr:pitTake 0 x (line.drop 6) with
      | none =>
       rw [hr] at hh HQ;dsimp only at hh HQ;subst hh;exact⟨rfl,rfl,by rw [HZ4.out]; exact HOF.out.2,HQ.out,HOF.out.1⟩
      | some p =>
      obtain⟨x',r'⟩:=p;rw [hr] at hh HQ;dsimp only at HQ;obtain⟨he,hrd,D',hob',hown'⟩:=hh;subst he;have HK3:=Lib.hid K3;have RD3:=Lib.hid hrd;have OB3:=Lib.hid hob';have Q3:=Lib.hid (ho.box I3.out.q ⟨by have:=I3.out.keep.size; omega,by omega,by omega,H0.out.not _ (by omega)⟩);have HSR:=Lib.hid (pitTake_len hr);clear hrd hob' hown' ho K3 C3 hr fa1 ka1 q0;have hrd0:=cellAt RD3.out 0;simp only [List.getElem?_toArray,List.getElem?_cons_zero] at hrd0
      cases r' with
      | cons c r' =>
       gi_wp2
       refine⟨trivial,(CallsIn.inRound l (callsIn_wide.2 (ask_false _ _))).mono ?_⟩;rintro e w' ⟨rfl,rfl⟩;exact⟨rfl,rfl,by rw [HZ4.out]; exact HOF.out.2,by rw [HQ.out,if_neg (by simp)],HOF.out.1⟩
      | nil =>
       have hfa:=HK3.out.box HF.out ⟨by omega,by omega,by omega,H0.out.not _ (by omega)⟩;have fa0:=cellAt hfa 0;have q0:=cellAt Q3.out 0;have fq:=freeAt Q3.out 0;simp only [List.getElem?_toArray,List.getElem?_cons_zero] at fa0 q0;clear hfa;have hsl:=HSR.out;have hln9:=H0.out.len;have hk4:Keep (fun k=>k≠w.heap.size+2) w3 (w3.setCell ⟨w.heap.size+2,0,none⟩ (.int .i64 ((1:Nat):Int))):=Keep.set (Keep.refl _ _) _ _ _ (fun h=>h rfl);have hk5:Keep (OffD w.heap.size D W0) W0 (w3.setCell ⟨w.heap.size+2,0,none⟩ (.int .i64 ((1:Nat):Int))):=Keep.set HK3.out _ _ _ (fun hh=>hh.2.2.1 rfl)
       have N5:=Lib.hid (H0.out.next (x':=x') (k':=1) hk5 (shapeP.keep OB3.out hk4 (by omega) (fun g hg=>by have:=(shapeP.lt OB3.out hg).1; omega)) (Q3.out.store 0 _)
        (by rw [HQ.out,if_pos rfl]; rfl) (by omega) (by simp only [List.length_nil] at hsl; omega))
       have T5:=Lib.hid (H0.out.text hk5 HBX.out);have F5:=Lib.hid (H0.out.off hk5).2;clear hk4 hk5 hsl hln9
       gi_wp2
       refine⟨trivial,(CallsIn.inRound l (callsIn_wide.2 (ask_true _ _))).mono ?_⟩;rintro e w' ⟨rfl,rfl⟩
       gi_wp2
       exact⟨by rw [HZ4.out]; exact F5.out,⟨_,_,_,N5.out⟩,T5.out⟩
     | false =>
      rw [seesT_no hp];have HJ1:=Lib.hid (show kindFrom (wsP.drop 1) 1 line=J from by rw [← HJJ.out]; exact(if_neg (by rw [hp]; decide)).symm);have I3:=Lib.hid (I2.out.see line);have I4:=Lib.hid (I3.out.inc 1);have q1:=cellAt I3.out.q 0;have fq:=freeAt I3.out.q 0;simp only [List.getElem?_toArray,List.getElem?_cons_zero] at q1;clear hp C2 I2 HJ HJJ q0 fa1 ka0 ka1 ka2 ka3 ka4 ka5 ka6 ka7
      gi_wp2
      exact⟨⟨1,by omega,HJ1.out,I4.out⟩,Nat.lt_of_le_of_lt (Nat.le_of_eq (congrArg (5 - ·) (kOf_at I4.out.q))) (by omega)⟩
    ·have C2:=Lib.hid (sees_any W0.heap.size line [102,114,111,115,116] wr I2.out.rd)
     gi_wp2
     refine⟨trivial,?_⟩;refine(CallsIn.inRound l (callsIn_wide.2 C2.out)).mono ?_;rintro e w2 ⟨rfl,rfl⟩
     cases hp:Lib.hasPrefix line [102,114,111,115,116] with
     | true =>
      rw [seesT_yes hp];have hJJ:J=1:=by rw [← HJJ.out]; show(if Lib.hasPrefix line [102,114,111,115,116]=true then _ else _)=_; rw [if_pos hp]
      have HQ:=Lib.hid (step_bind (J:=1) (u:=line.drop 5) (HJ.out.trans hJJ) (by decide) rfl HR1.out);have I3:=Lib.hid (I2.out.see (line.drop 5));clear hp hJJ C2 I2 HJ HJJ HR1
      show _
      clear fa1 ka0 ka1 ka2 ka3 ka4 ka5 ka6 ka7 q0;generalize World.setCell wr _ _=w2 at *;have hfa:=I3.out.keep.box HF.out ⟨by omega,by omega,by omega,H0.out.not _ (by omega)⟩;have hka:=I3.out.keep.box HKA.out ⟨by omega,by omega,by omega,H0.out.not _ (by omega)⟩;have fa1:=cellAt hfa 1;have ka1:=cellAt hka 3;have q0:=cellAt I3.out.q 0;simp only [List.getElem?_toArray,List.getElem?_cons_zero,List.getElem?_cons_succ] at fa1 ka1 q0;clear hfa hka
      gi_wp2
      refine⟨trivial,?_⟩;refine(CallsIn.inRound l (callsIn_wide.2 (ask_true _ _))).mono ?_;rintro e w' ⟨rfl,rfl⟩
      gi_wp2
      have hdl:(line.drop 5).length≤line.length:=by rw [List.length_drop]; omega
      have C3:=Lib.hid (take107_any I3.out.rd I3.out.ob (by omega) (fun hd=>by have:=(I3.out.lt _ hd).2; omega) (H0.out.not _ (by omega)) (by omega) (HL.out.keep (Keep.of_below (H0.out.off I3.out.keep).1 (C:=fun k=>k<w.heap.size) fun k hk=>hk) (by omega)));refine⟨trivial,?_⟩;refine(CallsIn.inRound l (callsIn_wide.2 C3.out)).mono ?_;intro e w3 hpost;obtain⟨ho,hh⟩:=hpost;have K3:=I3.out.took ho;have HOF:=Lib.hid (H0.out.off K3)
      cases hr:pitTake 1 x (line.drop 5) with
      | none =>
       rw [hr] at hh HQ;dsimp only at hh HQ;subst hh;exact⟨rfl,rfl,by rw [HZ4.out]; exact HOF.out.2,HQ.out,HOF.out.1⟩
      | some p =>
      obtain⟨x',r'⟩:=p;rw [hr] at hh HQ;dsimp only at HQ;obtain⟨he,hrd,D',hob',hown'⟩:=hh;subst he;have HK3:=Lib.hid K3;have RD3:=Lib.hid hrd;have OB3:=Lib.hid hob';have Q3:=Lib.hid (ho.box I3.out.q ⟨by have:=I3.out.keep.size; omega,by omega,by omega,H0.out.not _ (by omega)⟩);have HSR:=Lib.hid (pitTake_len hr);clear hrd hob' hown' ho K3 C3 hr fa1 ka1 q0;have hrd0:=cellAt RD3.out 0;simp only [List.getElem?_toArray,List.getElem?_cons_zero] at hrd0
      cases r' with
      | cons c r' =>
       gi_wp2
       refine⟨trivial,(CallsIn.inRound l (callsIn_wide.2 (ask_false _ _))).mono ?_⟩;rintro e w' ⟨rfl,rfl⟩;exact⟨rfl,rfl,by rw [HZ4.out]; exact HOF.out.2,by rw [HQ.out,if_neg (by simp)],HOF.out.1⟩
      | nil =>
       have hfa:=HK3.out.box HF.out ⟨by omega,by omega,by omega,H0.out.not _ (by omega)⟩;have fa0:=cellAt hfa 0;have q0:=cellAt Q3.out 0;have fq:=freeAt Q3.out 0;simp only [List.getElem?_toArray,List.getElem?_cons_zero] at fa0 q0;clear hfa;have hsl:=HSR.out;have hln9:=H0.out.len;have hk4:Keep (fun k=>k≠w.heap.size+2) w3 (w3.setCell ⟨w.heap.size+2,0,none⟩ (.int .i64 ((2:Nat):Int))):=Keep.set (Keep.refl _ _) _ _ _ (fun h=>h rfl);have hk5:Keep (OffD w.heap.size D W0) W0 (w3.setCell ⟨w.heap.size+2,0,none⟩ (.int .i64 ((2:Nat):Int))):=Keep.set HK3.out _ _ _ (fun hh=>hh.2.2.1 rfl)
       have N5:=Lib.hid (H0.out.next (x':=x') (k':=2) hk5 (shapeP.keep OB3.out hk4 (by omega) (fun g hg=>by have:=(shapeP.lt OB3.out hg).1; omega)) (Q3.out.store 0 _)
        (by rw [HQ.out,if_pos rfl]; rfl) (by omega) (by simp only [List.length_nil] at hsl; omega))
       have T5:=Lib.hid (H0.out.text hk5 HBX.out);have F5:=Lib.hid (H0.out.off hk5).2;clear hk4 hk5 hsl hln9
       gi_wp2
       refine⟨trivial,(CallsIn.inRound l (callsIn_wide.2 (ask_true _ _))).mono ?_⟩;rintro e w' ⟨rfl,rfl⟩
       gi_wp2
       exact⟨by rw [HZ4.out]; exact F5.out,⟨_,_,_,N5.out⟩,T5.out⟩
     | false =>
      rw [seesT_no hp];have HJ1:=Lib.hid (show kindFrom (wsP.drop 2) 2 line=J from by rw [← HJJ.out]; exact(if_neg (by rw [hp]; decide)).symm);have I3:=Lib.hid (I2.out.see line);have I4:=Lib.hid (I3.out.inc 2);have q1:=cellAt I3.out.q 0;have fq:=freeAt I3.out.q 0;simp only [List.getElem?_toArray,List.getElem?_cons_zero] at q1;clear hp C2 I2 HJ HJJ q0 fa1 ka0 ka1 ka2 ka3 ka4 ka5 ka6 ka7
      gi_wp2
      exact⟨⟨2,by omega,HJ1.out,I4.out⟩,Nat.lt_of_le_of_lt (Nat.le_of_eq (congrArg (5 - ·) (kOf_at I4.out.q))) (by omega)⟩
    ·have C2:=Lib.hid (sees_any W0.heap.size line [102,105,114,101] wr I2.out.rd)
     gi_wp2
     refine⟨trivial,?_⟩;refine(CallsIn.inRound l (callsIn_wide.2 C2.out)).mono ?_;rintro e w2 ⟨rfl,rfl⟩
     cases hp:Lib.hasPrefix line [102,105,114,101] with
     | true =>
      rw [seesT_yes hp];have hJJ:J=2:=by rw [← HJJ.out]; show(if Lib.hasPrefix line [102,105,114,101]=true then _ else _)=_; rw [if_pos hp]
      have HQ:=Lib.hid (step_bind (J:=2) (u:=line.drop 4) (HJ.out.trans hJJ) (by decide) rfl HR1.out);have I3:=Lib.hid (I2.out.see (line.drop 4));clear hp hJJ C2 I2 HJ HJJ HR1
      show _
      clear fa1 ka0 ka1 ka2 ka3 ka4 ka5 ka6 ka7 q0;generalize World.setCell wr _ _=w2 at *;have hfa:=I3.out.keep.box HF.out ⟨by omega,by omega,by omega,H0.out.not _ (by omega)⟩;have hka:=I3.out.keep.box HKA.out ⟨by omega,by omega,by omega,H0.out.not _ (by omega)⟩;have fa1:=cellAt hfa 1;have ka1:=cellAt hka 5;have q0:=cellAt I3.out.q 0;simp only [List.getElem?_toArray,List.getElem?_cons_zero,List.getElem?_cons_succ] at fa1 ka1 q0;clear hfa hka
      gi_wp2
      refine⟨trivial,?_⟩;refine(CallsIn.inRound l (callsIn_wide.2 (ask_true _ _))).mono ?_;rintro e w' ⟨rfl,rfl⟩
      gi_wp2
      have hdl:(line.drop 4).length≤line.length:=by rw [List.length_drop]; omega
      have C3:=Lib.hid (take110_any I3.out.rd I3.out.ob (by omega) (fun hd=>by have:=(I3.out.lt _ hd).2; omega) (H0.out.not _ (by omega)) (by omega) (by have:=I3.out.keep.size; have:=I3.out.hs; omega) (by have:=H0.out.len; omega));refine⟨trivial,?_⟩;refine(CallsIn.inRound l (callsIn_wide.2 C3.out)).mono ?_;intro e w3 hpost;obtain⟨ho,hh⟩:=hpost;have K3:=I3.out.took ho;have HOF:=Lib.hid (H0.out.off K3)
      cases hr:pitTake 2 x (line.drop 4) with
      | none =>
       rw [hr] at hh HQ;dsimp only at hh HQ;subst hh;exact⟨rfl,rfl,by rw [HZ4.out]; exact HOF.out.2,HQ.out,HOF.out.1⟩
      | some p =>
      obtain⟨x',r'⟩:=p;rw [hr] at hh HQ;dsimp only at HQ;obtain⟨he,hrd,D',hob',hown'⟩:=hh;subst he;have HK3:=Lib.hid K3;have RD3:=Lib.hid hrd;have OB3:=Lib.hid hob';have Q3:=Lib.hid (ho.box I3.out.q ⟨by have:=I3.out.keep.size; omega,by omega,by omega,H0.out.not _ (by omega)⟩);have HSR:=Lib.hid (pitTake_len hr);clear hrd hob' hown' ho K3 C3 hr fa1 ka1 q0;have hrd0:=cellAt RD3.out 0;simp only [List.getElem?_toArray,List.getElem?_cons_zero] at hrd0
      cases r' with
      | cons c r' =>
       gi_wp2
       refine⟨trivial,(CallsIn.inRound l (callsIn_wide.2 (ask_false _ _))).mono ?_⟩;rintro e w' ⟨rfl,rfl⟩;exact⟨rfl,rfl,by rw [HZ4.out]; exact HOF.out.2,by rw [HQ.out,if_neg (by simp)],HOF.out.1⟩
      | nil =>
       have hfa:=HK3.out.box HF.out ⟨by omega,by omega,by omega,H0.out.not _ (by omega)⟩;have fa0:=cellAt hfa 0;have q0:=cellAt Q3.out 0;have fq:=freeAt Q3.out 0;simp only [List.getElem?_toArray,List.getElem?_cons_zero] at fa0 q0;clear hfa;have hsl:=HSR.out;have hln9:=H0.out.len
       have N5:=Lib.hid (H0.out.next (x':=x') (k':=2) HK3.out OB3.out Q3.out
        (by rw [HQ.out,if_pos rfl]; rfl) (by omega) (by simp only [List.length_nil] at hsl; omega))
       have T5:=Lib.hid (H0.out.text HK3.out HBX.out);have F5:=Lib.hid (H0.out.off HK3.out).2;clear hsl hln9
       gi_wp2
       refine⟨trivial,(CallsIn.inRound l (callsIn_wide.2 (ask_true _ _))).mono ?_⟩;rintro e w' ⟨rfl,rfl⟩
       gi_wp2
       exact⟨by rw [HZ4.out]; exact F5.out,⟨_,_,_,N5.out⟩,T5.out⟩
     | false =>
      rw [seesT_no hp];have HJ1:=Lib.hid (show kindFrom (wsP.drop 3) 3 line=J from by rw [← HJJ.out]; exact(if_neg (by rw [hp]; decide)).symm);have I3:=Lib.hid (I2.out.see line);have I4:=Lib.hid (I3.out.inc 3);have q1:=cellAt I3.out.q 0;have fq:=freeAt I3.out.q 0;simp only [List.getElem?_toArray,List.getElem?_cons_zero] at q1;clear hp C2 I2 HJ HJJ q0 fa1 ka0 ka1 ka2 ka3 ka4 ka5 ka6 ka7
      gi_wp2
      exact⟨⟨3,by omega,HJ1.out,I4.out⟩,Nat.lt_of_le_of_lt (Nat.le_of_eq (congrArg (5 - ·) (kOf_at I4.out.q))) (by omega)⟩
    ·have C2:=Lib.hid (sees_any W0.heap.size line [112,111,116,32] wr I2.out.rd)
     gi_wp2
     refine⟨trivial,?_⟩;refine(CallsIn.inRound l (callsIn_wide.2 C2.out)).mono ?_;rintro e w2 ⟨rfl,rfl⟩
     cases hp:Lib.hasPrefix line [112,111,116,32] with
     | true =>
      rw [seesT_yes hp];have hJJ:J=3:=by rw [← HJJ.out]; show(if Lib.hasPrefix line [112,111,116,32]=true then _ else _)=_; rw [if_pos hp]
      have HQ:=Lib.hid (step_bind (J:=3) (u:=line.drop 4) (HJ.out.trans hJJ) (by decide) rfl HR1.out);have I3:=Lib.hid (I2.out.see (line.drop 4));clear hp hJJ C2 I2 HJ HJJ HR1
      show _
      clear fa1 ka0 ka1 ka2 ka3 ka4 ka5 ka6 ka7 q0;generalize World.setCell wr _ _=w2 at *;have hfa:=I3.out.keep.box HF.out ⟨by omega,by omega,by omega,H0.out.not _ (by omega)⟩;have hka:=I3.out.keep.box HKA.out ⟨by omega,by omega,by omega,H0.out.not _ (by omega)⟩;have fa1:=cellAt hfa 1;have ka1:=cellAt hka 7;have q0:=cellAt I3.out.q 0;simp only [List.getElem?_toArray,List.getElem?_cons_zero,List.getElem?_cons_succ] at fa1 ka1 q0;clear hfa hka
      gi_wp2
      refine⟨trivial,?_⟩;refine(CallsIn.inRound l (callsIn_wide.2 (ask_true _ _))).mono ?_;rintro e w' ⟨rfl,rfl⟩
      gi_wp2
      have hdl:(line.drop 4).length≤line.length:=by rw [List.length_drop]; omega
      have C3:=Lib.hid (take111_any I3.out.rd I3.out.ob (by omega) (fun hd=>by have:=(I3.out.lt _ hd).2; omega) (H0.out.not _ (by omega)) (by omega) (by have:=I3.out.keep.size; have:=I3.out.hs; omega) (by have:=H0.out.len; omega));refine⟨trivial,?_⟩;refine(CallsIn.inRound l (callsIn_wide.2 C3.out)).mono ?_;intro e w3 hpost;obtain⟨ho,hh⟩:=hpost;have K3:=I3.out.took ho;have HOF:=Lib.hid (H0.out.off K3)
      cases hr:pitTake 3 x (line.drop 4) with
      | none =>
       rw [hr] at hh HQ;dsimp only at hh HQ;subst hh;exact⟨rfl,rfl,by rw [HZ4.out]; exact HOF.out.2,HQ.out,HOF.out.1⟩
      | some p =>
      obtain⟨x',r'⟩:=p;rw [hr] at hh HQ;dsimp only at HQ;obtain⟨he,hrd,D',hob',hown'⟩:=hh;subst he;have HK3:=Lib.hid K3;have RD3:=Lib.hid hrd;have OB3:=Lib.hid hob';have Q3:=Lib.hid (ho.box I3.out.q ⟨by have:=I3.out.keep.size; omega,by omega,by omega,H0.out.not _ (by omega)⟩);have HSR:=Lib.hid (pitTake_len hr);clear hrd hob' hown' ho K3 C3 hr fa1 ka1 q0;have hrd0:=cellAt RD3.out 0;simp only [List.getElem?_toArray,List.getElem?_cons_zero] at hrd0
      cases r' with
      | cons c r' =>
       gi_wp2
       refine⟨trivial,(CallsIn.inRound l (callsIn_wide.2 (ask_false _ _))).mono ?_⟩;rintro e w' ⟨rfl,rfl⟩;exact⟨rfl,rfl,by rw [HZ4.out]; exact HOF.out.2,by rw [HQ.out,if_neg (by simp)],HOF.out.1⟩
      | nil =>
       have hfa:=HK3.out.box HF.out ⟨by omega,by omega,by omega,H0.out.not _ (by omega)⟩;have fa0:=cellAt hfa 0;have q0:=cellAt Q3.out 0;have fq:=freeAt Q3.out 0;simp only [List.getElem?_toArray,List.getElem?_cons_zero] at fa0 q0;clear hfa;have hsl:=HSR.out;have hln9:=H0.out.len
       have N5:=Lib.hid (H0.out.next (x':=x') (k':=3) HK3.out OB3.out Q3.out
        (by rw [HQ.out,if_pos rfl]; rfl) (by omega) (by simp only [List.length_nil] at hsl; omega))
       have T5:=Lib.hid (H0.out.text HK3.out HBX.out);have F5:=Lib.hid (H0.out.off HK3.out).2;clear hsl hln9
       gi_wp2
       refine⟨trivial,(CallsIn.inRound l (callsIn_wide.2 (ask_true _ _))).mono ?_⟩;rintro e w' ⟨rfl,rfl⟩
       gi_wp2
       exact⟨by rw [HZ4.out]; exact F5.out,⟨_,_,_,N5.out⟩,T5.out⟩
     | false =>
      rw [seesT_no hp];have HJ1:=Lib.hid (show kindFrom (wsP.drop 4) 4 line=J from by rw [← HJJ.out]; exact(if_neg (by rw [hp]; decide)).symm);have I3:=Lib.hid (I2.out.see line);have I4:=Lib.hid (I3.out.inc 4);have q1:=cellAt I3.out.q 0;have fq:=freeAt I3.out.q 0;simp only [List.getElem?_toArray,List.getElem?_cons_zero] at q1;clear hp C2 I2 HJ HJJ q0 fa1 ka0 ka1 ka2 ka3 ka4 ka5 ka6 ka7
      gi_wp2
      exact⟨⟨4,by omega,HJ1.out,I4.out⟩,Nat.lt_of_le_of_lt (Nat.le_of_eq (congrArg (5 - ·) (kOf_at I4.out.q))) (by omega)⟩
    ·have hJJ:J=4:=by rw [← HJJ.out]; rfl
     have HQ:=Lib.hid (show R=none from by rw [HR1.out]; unfold stepP; rw [lineStep_no (HJ.out.trans hJJ) (by decide)]; rfl);have HOF:=Lib.hid (H0.out.off I2.out.keep);clear hJJ
     gi_wp2
     refine⟨trivial,?_⟩
     gi_wp2
     refine⟨trivial,(CallsIn.inRound l (callsIn_wide.2 (ask_false _ _))).mono ?_⟩;rintro e w' ⟨rfl,rfl⟩;exact⟨rfl,rfl,by rw [HZ4.out]; exact HOF.out.2,HQ.out,HOF.out.1⟩
  case done =>
   rintro W ⟨x,k,D,h⟩ hD;have hR1:R=some (x,k):=by rw [← h.res]; rfl
   have hln:=h.len;have hcn:x.f.length+x.q.length≤t.length:=by have:x.f.length+x.q.length+_≤_:=hln; omega
   obtain⟨v3,v4,hbx,h3,h4,hn,hDD⟩:=h.ob;obtain⟨fa,fc,rfl,hF,hFb,_⟩:=rowN_of (cell:=fun i j=>.int .i64 (intOf' x.f i)) h3 (by unfold maxLen; omega) (fun i hi j hj=>intsV_get _ i hi j hj);obtain⟨qa,qc,rfl,hQ,hQb,_⟩:=rowN_of (cell:=fun i j=>(potOf x.q i).cell j) h4 (by unfold maxLen; omega) (fun i hi j hj=>potV_get _ i hi j hj);have hFd:0<x.f.length→blk fa≠w4.heap.size:=fun hn e=>row_cells h3 hD rfl (by rw [hF.plain hn,e]; rfl);have hQd:0<x.q.length→blk qa≠w4.heap.size:=fun hn e=>row_cells h4 hD rfl (by rw [hQ.plain hn,e]; rfl);have SS:=Lib.hid (show IntsAt W fa x.f.length (intOf' x.f) from hF);have UU:=Lib.hid (show PotsAt W qa x.q.length (potOf x.q) from hQ);have HB:=Lib.hid h.bel;have HF:=Lib.hid h.f;have HP:=Lib.hid hbx
   have HX:=Lib.hid (show ∀ W' e,Below w.heap.size w W'→(if pitVB x∧pitVT x=t then(∃ fa fc qa qc,e = .returned (.agg #[.int .i64 x.hr,.int .i64 x.fr,.int .i64 x.pe,.slice fa x.f.length fc,.slice qa x.q.length qc])∧PitRows x w fa qa W') else e=err 8)→ReadPostP t w e W' from fun W' e hb he=>by
    refine⟨hb,?_⟩;rw [if_neg ht];unfold readP;rw [HR.out,hR1];dsimp only;by_cases hc:pitVB x∧pitVT x=t
    ·rw [if_pos hc] at he ⊢
     exact he
    ·rw [if_neg hc] at he ⊢
     exact he)
   have tx:=h.tx;have fa2:=cellAt h.f 2;have fa3:=cellAt h.f 3;have p0:=cellAt hbx 0;have p1:=cellAt hbx 1;have p2:=cellAt hbx 2;have p3:=cellAt hbx 3;have p4:=cellAt hbx 4;simp only [List.getElem?_toArray,List.getElem?_cons_zero,List.getElem?_cons_succ] at fa2 fa3 p0 p1 p2 p3 p4;have HDF:=Lib.hid hD;clear hR1 hF hQ h hD HR hbx h3 h4 hn hDD hcn hln
   show wpOf 81 9 Tryz.prog _ _ _ _
   refine wpOf_seq_wp ?_;go_wp2_with fail;refine(isPitch_any x.hr x.fr x.pe fa qa x.f.length fc x.q.length qc (intOf' x.f) (potOf x.q) W SS.out UU.out).mono ?_;rintro e w5 ⟨rfl,hb5⟩;have B5:=Lib.hid (HB.out.next hb5);have S5:=Lib.hid (SS.out.grow hb5);have U5:=Lib.hid (UU.out.grow hb5);have F5:=HF.out.grow hb5;have P5:=Lib.hid (HP.out.grow hb5);have D5:=Lib.hid (show w5.heap[w4.heap.size]? = some (.deferred (some [])) from(hb5.block _ (Array.getElem?_eq_some_iff.1 HDF.out).1).trans HDF.out);have fa2:=cellAt F5 2;have p0:=cellAt P5.out 0;have p1:=cellAt P5.out 1;have p2:=cellAt P5.out 2;have p3:=cellAt P5.out 3;have p4:=cellAt P5.out 4;simp only [List.getElem?_toArray,List.getElem?_cons_zero,List.getElem?_cons_succ] at fa2 p0 p1 p2 p3 p4;clear hb5 F5 SS UU HF HP HDF HB;have HVB:=Lib.hid (show pitVB x=pitchB x.hr x.fr x.pe (intOf' x.f) x.f.length (potOf x.q) x.q.length from rfl)
   cases hB:pitchB x.hr x.fr x.pe (intOf' x.f) x.f.length (potOf x.q) x.q.length with
   | false =>
    have HX2:=Lib.hid (show ∀ W',Below w.heap.size w W'→ReadPostP t w (err 8) W' from fun W' hb=>HX.out W' _ hb (by rw [if_neg (by rw [HVB.out,hB]; simp)]));clear hB HX;go_wp2_with fail;refine(ask_false _ _).mono ?_;rintro e w' ⟨rfl,rfl⟩;refine⟨by simp,.inl ⟨_,_,rfl,run_takeDeferred D5.out,?_⟩⟩;exact HX2.out _ (B5.out.grown (grownBy_putObj' w5 _ _) B5.out.size (fun k e=>by cases e; rw [HZ4.out]; omega))
   | true =>
    have HOK:=Lib.hid (pitch_ok hB);go_wp2_with fail;refine(pitches5_any x.hr x.fr x.pe fa qa x.f.length fc x.q.length qc (intOf' x.f) (potOf x.q) w5 S5.out U5.out HOK.out (HT.out.grow B5.out)).mono ?_;rintro e w6 ⟨rfl,hb6⟩;have B6:=Lib.hid (B5.out.next hb6);have S6:=Lib.hid (S5.out.grow hb6);have U6:=Lib.hid (U5.out.grow hb6);have P6:=Lib.hid (P5.out.grow hb6);have D6:=Lib.hid (show w6.heap[w4.heap.size]? = some (.deferred (some [])) from(hb6.block _ (Array.getElem?_eq_some_iff.1 D5.out).1).trans D5.out);have p0:=cellAt P6.out 0;have p1:=cellAt P6.out 1;have p2:=cellAt P6.out 2;have p3:=cellAt P6.out 3;have p4:=cellAt P6.out 4;simp only [List.getElem?_toArray,List.getElem?_cons_zero,List.getElem?_cons_succ] at p0 p1 p2 p3 p4;clear hb6 S5 U5 P5 D5 B5 fa2;have HVT:=Lib.hid (show pitVT x=pitchT x.hr x.fr x.pe (intOf' x.f) x.f.length (potOf x.q) x.q.length from rfl);by_cases hT:pitchT x.hr x.fr x.pe (intOf' x.f) x.f.length (potOf x.q) x.q.length=t
    ·have HX3:=Lib.hid (fun W' e hb h=>HX.out W' e hb (by rw [if_pos ⟨HVB.out.trans hB,HVT.out.trans hT⟩]; exact h))
     rw [hT];clear hB HX hT;have r0:=freeAt P6.out 0;have r1:=freeAt P6.out 1;have r2:=freeAt P6.out 2;have r3:=freeAt P6.out 3;have r4:=freeAt P6.out 4;go_wp2_with fail;refine(ask_true _ _).mono ?_;rintro e w' ⟨rfl,rfl⟩;go_wp2_with fail
     have P7:=Lib.hid (show BoxAt (((((w6.setCell ⟨w.heap.size+1,0,none⟩ (.int .i64 x.hr)).setCell ⟨w.heap.size+1,1,none⟩ (.int .i64 x.fr)).setCell ⟨w.heap.size+1,2,none⟩ (.int .i64 x.pe)).setCell ⟨w.heap.size+1,3,none⟩ (.slice fa x.f.length fc)).setCell ⟨w.heap.size+1,4,none⟩ (.slice qa x.q.length qc)) (w.heap.size+1) #[.int .i64 x.hr,.int .i64 x.fr,.int .i64 x.pe,.slice fa x.f.length fc,.slice qa x.q.length qc] 29 from
      ((((P6.out.store 0 (.int .i64 x.hr)).store 1 (.int .i64 x.fr)).store 2 (.int .i64 x.pe)).store 3 (.slice fa x.f.length fc)).store 4 (.slice qa x.q.length qc))
     have hk7:Keep (fun k=>k≠w.heap.size+1) w6 (((((w6.setCell ⟨w.heap.size+1,0,none⟩ (.int .i64 x.hr)).setCell ⟨w.heap.size+1,1,none⟩ (.int .i64 x.fr)).setCell ⟨w.heap.size+1,2,none⟩ (.int .i64 x.pe)).setCell ⟨w.heap.size+1,3,none⟩ (.slice fa x.f.length fc)).setCell ⟨w.heap.size+1,4,none⟩ (.slice qa x.q.length qc)) :=
      Keep.set (Keep.set (Keep.set (Keep.set (Keep.set (Keep.refl _ _) _ _ _ (fun h=>h rfl)) _ _ _ (fun h=>h rfl)) _ _ _ (fun h=>h rfl)) _ _ _ (fun h=>h rfl)) _ _ _ (fun h=>h rfl)
     have B7:=Lib.hid (show Below w.heap.size w _ from B6.out.trans (hk7.to_below (fun k hk=>by omega)));have S7:=Lib.hid (Row.keep S6.out hk7 (fun hn=>by have:=hFb hn; omega));have U7:=Lib.hid (Row.keep U6.out hk7 (fun hn=>by have:=hQb hn; omega));have D7:=Lib.hid ((hk7.block w4.heap.size (by rw [HZ4.out]; omega)).trans D6.out);have HSB:=Lib.hid hFb;have HUB:=Lib.hid hQb;clear hk7 S6 U6 B6 D6 hFb hQb;refine wpOf_seq_wp ?_;go_wp2_with fail;generalize World.setCell (World.setCell (World.setCell (World.setCell (World.setCell w6 _ _) _ _) _ _) _ _) _ _=w7 at *;clear p0 p1 p2 p3 p4 r0 r1 r2 r3 r4;refine wpOf_of_wp ?_;go_wp2_with fail;refine⟨by simp,.inl ⟨_,_,rfl,run_takeDeferred D7.out,?_⟩⟩;have hk8:Keep (fun k=>k<w7.heap.size∧k≠w4.heap.size) w7 (w7.putObj w4.heap.size (.deferred none)):=Keep.putObj _ _ _;have P8:=hk8.box P7.out ⟨lt_of_heap P7.out,by rw [HZ4.out]; omega⟩;have p0:=cellAt P8 0;have p1:=cellAt P8 1;have p2:=cellAt P8 2;have p3:=cellAt P8 3;have p4:=cellAt P8 4;simp only [List.getElem?_toArray,List.getElem?_cons_zero,List.getElem?_cons_succ] at p0 p1 p2 p3 p4;refine⟨.agg #[.int .i64 x.hr,.int .i64 x.fr,.int .i64 x.pe,.slice fa x.f.length fc,.slice qa x.q.length qc],by simp [results,Tryz.results81,go_sem,p0,p1,p2,p3,p4],HX3.out _ _ (B7.out.grown (grownBy_putObj' w7 _ _) B7.out.size (fun k e=>by cases e; rw [HZ4.out]; omega)) ⟨_,_,_,_,rfl,?_,?_,?_,?_⟩⟩
     ·exact Row.keep S7.out hk8 (fun hn=>⟨S7.out.old hn,hFd hn⟩)
     ·exact Row.keep U7.out hk8 (fun hn=>⟨U7.out.old hn,hQd hn⟩)
     ·intro hn; have:=HSB.out hn; omega
     ·intro hn; have:=HUB.out hn; omega
    ·have HX3:=Lib.hid (fun W' hb=>HX.out W' (err 8) hb (by rw [if_neg (fun h=>hT (HVT.out.symm.trans h.2))]))
     have HTT:=Lib.hid hT;clear hB HX hT;go_wp2_with fail;rw [show(pitchT x.hr x.fr x.pe (intOf' x.f) x.f.length (potOf x.q) x.q.length==t)=false from beq_eq_false_iff_ne.2 HTT.out];refine(ask_false _ _).mono ?_;rintro e w' ⟨rfl,rfl⟩;refine⟨by simp,.inl ⟨_,_,rfl,run_takeDeferred D6.out,?_⟩⟩;exact HX3.out _ (B6.out.grown (grownBy_putObj' w6 _ _) B6.out.size (fun k e=>by cases e; rw [HZ4.out]; omega))
  case pan =>
   rintro W ⟨hR,hb⟩ hD;refine⟨by simp,.inl ⟨_,_,rfl,run_takeDeferred hD,?_⟩⟩;refine⟨hb.grown (grownBy_putObj' W _ _) hb.size (fun k e=>by cases e; rw [HZ4.out]; omega),?_⟩;rw [if_neg ht];unfold readP;rw [HR.out,hR];rfl
end Go.Proofs.YtclbmlmlhiiaeaaGreatDoor
