/- What is taken of a line of irons. Walks: the irons of a text -/
import Derived.Test.YtclbmlmlhiiaeaaGreatDoorQY0
namespace Go.Proofs.YtclbmlmlhiiaeaaGreatDoor
open Go.RowKit Go.Shelf
def Nest{α:Type}(P:Value→α→Prop):List Value→List α→Prop
 | [],[]=>True
 | y::ys,a::l=>P y a∧Nest P ys l
 | _,_=>False
section
variable {α:Type} {P Q:Value→α→Prop}
theorem Nest.imp:∀ {_ys:List Value} {_l:List α},Nest P _ys _l→(∀ y a,y ∈ _ys→P y a→Q y a)→Nest Q _ys _l
 | [],[],_,_=>trivial
 | y::_,a::_,h,f=>⟨f y a (List.mem_cons_self ..) h.1,Nest.imp h.2 fun y a hy=>f y a (List.mem_cons_of_mem _ hy)⟩
 | [],_::_,h,_=>h.elim
 | _::_,[],h,_=>h.elim
theorem Nest.snoc:∀ {ys:List Value} {l:List α} {y:Value} {a:α},Nest P ys l→P y a→Nest P (ys ++ [y]) (l ++ [a])
 | [],[],_,_,_,h=>⟨h,trivial⟩
 | _::_,_::_,_,_,h,h'=>⟨h.1,Nest.snoc h.2 h'⟩
 | [],_::_,_,_,h,_=>h.elim
 | _::_,[],_,_,h,_=>h.elim
theorem Nest.get:∀ {ys:List Value} {l:List α} (d:α),Nest P ys l → ∀ i,i<l.length→P (ys.getD i undef) (l.getD i d)∧ys[i]? = some (ys.getD i undef)∧ys.getD i undef ∈ ys
 | [],[],_,_,i,hi=>by cases hi
 | y::ys,a::l,d,h,0,_=>⟨h.1,rfl,List.mem_cons_self ..⟩
 | y::ys,a::l,d,h,i+1,hi=>by
  have:=Nest.get d h.2 i (by simpa using hi);simp only [List.getD_cons_succ,List.getElem?_cons_succ];exact⟨this.1,this.2.1,List.mem_cons_of_mem _ this.2.2⟩
 | [],_::_,_,h,_,_=>h.elim
theorem Nest.mem:∀ {ys:List Value} {l:List α},Nest P ys l → ∀ y,y ∈ ys → ∃ a,P y a
 | [],_,_,y,hy=>by cases hy
 | y::ys,a::l,h,z,hz=>by
  rcases List.mem_cons.1 hz with rfl | hz
  ·exact⟨a,h.1⟩
  ·exact Nest.mem h.2 z hz
 | _::_,[],h,_,_=>h.elim
end
structure IrR where
 f:Int
 own:List (List Int)
 most:List Int
 str:List (List (Int×Int×Int))
 cl:List (Int×Int×Bool)
def claimVs(l:List (Int×Int×Bool)):List Value:=l.flatMap fun c=>[.int .i64 c.1,.int .i64 c.2.1,.bool c.2.2]
theorem claimVs_snoc(l:List (Int×Int×Bool))(c:Int×Int×Bool):claimVs (l ++ [c])=claimVs l ++ [.int .i64 c.1,.int .i64 c.2.1,.bool c.2.2]:=by
 unfold claimVs;rw [List.flatMap_append];rfl
structure IrLies (base pb:Nat) (x:IrR) (v1 v2 v3 v4:Value) (ys zs:List Value) (W:World):Prop where
 b:BoxAt W pb #[.int .i64 x.f,v1,v2,v3,v4] 34
 o:W.ownsRow base 26 1 v1 x.own.length ys
 m:W.ownsRow base 3 1 v2 x.most.length (intsV x.most)
 s:W.ownsRow base 85 1 v3 x.str.length zs
 c:W.ownsRow base 82 3 v4 x.cl.length (claimVs x.cl)
 oi:Nest (fun y l=>W.ownsRow base 3 1 y l.length (intsV l)∧l.length≤100000 ∧ ∀ g,y.ownBlock=some g→v2.ownBlock≠some g) ys x.own
 si:Nest (fun y l=>W.ownsRow base 149 3 y l.length (markVs l)∧l.length≤100000) zs x.str
def IrD(v1 v2 v3 v4:Value)(ys zs:List Value)(g:Nat):Prop:=v1.ownBlock=some g∨v2.ownBlock=some g∨v3.ownBlock=some g∨v4.ownBlock=some g∨(∃ y,y ∈ ys∧y.ownBlock=some g) ∨ ∃ y,y ∈ zs∧y.ownBlock=some g
def IrAt(base pb:Nat)(D:Nat→Prop)(x:IrR)(W:World):Prop := ∃ v1 v2 v3 v4 ys zs,IrLies base pb x v1 v2 v3 v4 ys zs W ∧ ∀ g,D g↔IrD v1 v2 v3 v4 ys zs g
def shapeI:Shape IrR where
 At:=IrAt
 keep:=by
  rintro base pb D x A B C ⟨v1,v2,v3,v4,ys,zs,h,hD⟩ hk hp hg;refine⟨v1,v2,v3,v4,ys,zs,⟨hk.box h.b hp,hk.row h.o fun g e=>hg g ((hD g).2 (.inl e)),hk.row h.m fun g e=>hg g ((hD g).2 (.inr (.inl e))),hk.row h.s fun g e=>hg g ((hD g).2 (.inr (.inr (.inl e)))),hk.row h.c fun g e=>hg g ((hD g).2 (.inr (.inr (.inr (.inl e))))),h.oi.imp fun y l hy hh=>⟨hk.row hh.1 fun g e=>hg g ((hD g).2 (.inr (.inr (.inr (.inr (.inl ⟨y,hy,e⟩)))))),hh.2⟩,h.si.imp fun y l hy hh=>⟨hk.row hh.1 fun g e=>hg g ((hD g).2 (.inr (.inr (.inr (.inr (.inr ⟨y,hy,e⟩)))))),hh.2⟩⟩,hD⟩
 lt:=by
  rintro base pb D x W g ⟨v1,v2,v3,v4,ys,zs,h,hD⟩ hg;rcases(hD g).1 hg with e | e | e | e | ⟨y,hy,e⟩ | ⟨y,hy,e⟩
  ·exact h.o.lt g e
  ·exact h.m.lt g e
  ·exact h.s.lt g e
  ·exact h.c.lt g e
  ·obtain⟨l,hl⟩:=h.oi.mem y hy
   exact hl.1.lt g e
  ·obtain⟨l,hl⟩:=h.si.mem y hy
   exact hl.1.lt g e
 cells:=by
  rintro base pb D x W l o ⟨v1,v2,v3,v4,ys,zs,h,hD⟩ hl hc hg;rcases(hD l).1 hg with e | e | e | e | ⟨y,hy,e⟩ | ⟨y,hy,e⟩
  ·exact row_cells h.o hl hc e
  ·exact row_cells h.m hl hc e
  ·exact row_cells h.s hl hc e
  ·exact row_cells h.c hl hc e
  ·obtain⟨l',hl'⟩:=h.oi.mem y hy
   exact row_cells hl'.1 hl hc e
  ·obtain⟨l',hl'⟩:=h.si.mem y hy
   exact row_cells hl'.1 hl hc e
 old:=by
  rintro base pb D x W ⟨v1,v2,v3,v4,ys,zs,h,hD⟩;exact lt_of_heap h.b
 cnt:=fun x=>x.own.length+x.most.length+x.str.length+x.cl.length
def ironTake(k:Nat)(x:IrR)(t:List UInt8):Option (IrR×List UInt8) :=
 if k=0 then(numP t).map fun p=>({x with f:=p.1},p.2)
 else if k=1 then(ownerR t).map fun p=>({x with own:=x.own ++ [p.1.2],most:=x.most ++ [p.1.1]},p.2)
 else if k=2 then(strakeR t).map fun p=>({x with str:=x.str ++ [p.1]},p.2)
 else(claimRd t).map fun p=>({x with cl:=x.cl ++ [p.1]},p.2)
theorem intsP_len:∀ (k:Nat) (t:List UInt8) (l:List Int) {l':List Int} {r:List UInt8},intsP k t l=some (l',r)→l'.length+r.length≤l.length+t.length
 | 0,t,l,l',r,h=>by cases h; exact Nat.le_refl _
 | k+1,t,l,l',r,h=>by
  cases hp:Lib.hasPrefix t [32] with
  | false=>rw [intsP_end _ _ _ hp] at h; cases h; exact Nat.le_refl _
  | true =>
   rw [intsP_step _ _ _ hp] at h
   cases hn:numP (t.drop 1) with
   | none=>rw [hn] at h; cases h
   | some p =>
    obtain⟨n,r1⟩:=p;rw [hn] at h;have h1:=numP_shorter hn;have h2:=intsP_len k r1 _ h;rw [List.length_drop] at h1;rw [List.length_append,List.length_singleton] at h2;omega
theorem ownerR_len{t r:List UInt8}{q:Int×List Int}(h:ownerR t=some (q,r)):q.2.length+r.length<t.length:=by
 unfold ownerR at h
 cases hn:numP t with
 | none=>rw [hn] at h; cases h
 | some p =>
  obtain⟨n,r1⟩:=p;rw [hn] at h;dsimp only at h;have h1:=numP_shorter hn
  cases hi:intsP r1.length r1 [] with
  | none=>rw [hi] at h; cases h
  | some p =>
   rw [hi] at h
   cases h
   have h2:=intsP_len _ _ _ hi;simp only [List.length_nil] at h2;dsimp only;omega
theorem markR_len{t r:List UInt8}{q:Int×Int×Int}(h:markR t=some (q,r)):r.length<t.length:=by
 unfold markR at h
 cases hn:numP t with
 | none=>rw [hn] at h; cases h
 | some p =>
  obtain⟨n,r1⟩:=p;rw [hn] at h;dsimp only at h;have h1:=numP_shorter hn
  split at h
  ·cases hs:spanP (r1.drop 1) with
   | none=>rw [hs] at h; cases h
   | some p =>
    obtain⟨q',r2⟩:=p;rw [hs] at h
    cases h
    have h2:=spanP_shorter hs;rw [List.length_drop] at h2;omega
  ·cases h
theorem marksP_len:∀ (k:Nat) (t:List UInt8) (l:List (Int×Int×Int)) {l':List (Int×Int×Int)} {r:List UInt8},marksP k t l=some (l',r)→l'.length+r.length≤l.length+t.length
 | 0,t,l,l',r,h=>by cases h; exact Nat.le_refl _
 | k+1,t,l,l',r,h=>by
  cases hp:Lib.hasPrefix t [32] with
  | false=>rw [marksP_end _ _ _ hp] at h; cases h; exact Nat.le_refl _
  | true =>
   rw [marksP_step _ _ _ hp] at h
   cases hn:markR (t.drop 1) with
   | none=>rw [hn] at h; cases h
   | some p =>
    obtain⟨n,r1⟩:=p;rw [hn] at h;have h1:=markR_len hn;have h2:=marksP_len k r1 _ h;rw [List.length_drop] at h1;rw [List.length_append,List.length_singleton] at h2;omega
theorem claimRd_len{t r:List UInt8}{q:Int×Int×Bool}(h:claimRd t=some (q,r)):r.length<t.length:=by
 unfold claimRd at h
 cases hn:numP t with
 | none=>rw [hn] at h; cases h
 | some p =>
  obtain⟨n,r1⟩:=p;rw [hn] at h;dsimp only at h;have h1:=numP_shorter hn
  split at h
  ·cases hs:numP (seesT (r1.drop 1) [33]) with
   | none=>rw [hs] at h; cases h
   | some p =>
    obtain⟨q',r2⟩:=p;rw [hs] at h
    cases h
    have h2:=numP_shorter hs;have h3:=seesT_le (r1.drop 1) [33];rw [List.length_drop] at h3;omega
  ·cases h
theorem ironTake_len{J:Nat}{x x':IrR}{u r:List UInt8}(h:ironTake J x u=some (x',r)):shapeI.cnt x'+r.length≤shapeI.cnt x+u.length+1:=by
 show x'.own.length+x'.most.length+x'.str.length+x'.cl.length+_≤x.own.length+x.most.length+x.str.length+x.cl.length+_+1
 unfold ironTake at h
 split at h
 ·cases h1:numP u with
  | none=>rw [h1] at h; cases h
  | some p=>rw [h1] at h; cases h; have:=numP_shorter h1; dsimp only; omega
 ·split at h
  ·cases h1:ownerR u with
   | none=>rw [h1] at h; cases h
   | some p=>rw [h1] at h; cases h; have:=ownerR_len h1; dsimp only; simp only [List.length_append,List.length_cons,List.length_nil]; omega
  ·split at h
   ·cases h1:strakeR u with
    | none=>rw [h1] at h; cases h
    | some p=>rw [h1] at h; cases h; have:=marksP_len _ _ _ h1; simp only [List.length_nil] at this; dsimp only; simp only [List.length_append,List.length_cons,List.length_nil]; omega
   ·cases h1:claimRd u with
    | none=>rw [h1] at h; cases h
    | some p=>rw [h1] at h; cases h; have:=claimRd_len h1; dsimp only; simp only [List.length_append,List.length_cons,List.length_nil]; omega
section
variable {rb pb fb base:Nat} {D:Nat→Prop} {x:IrR} {t:List UInt8} {w:World}
theorem take116_any(h:RdAt w rb t)(hx:shapeI.At base pb D x w)(hne:pb≠rb)(hrb:¬ D rb)(hpb:¬ D pb)(hl:t.length≤2000)(hf:NumBox w fb) :
  Calls Tryz.prog 116 #[bp pb,bp rb,bp fb] w (TakePost shapeI rb pb base D (ironTake 0 x t) w):=by
 obtain⟨v1,v2,v3,v4,ys,zs,hi,hD⟩:=hx;refine(whose116_any rb pb fb _ _ _ _ _ t w h hi.b hf hne hl).mono ?_;rintro e w' ⟨hk,hh⟩;have hk':Keep (fun k=>k<w.heap.size∧k≠rb∧k≠pb) w w':=hk;refine⟨Keep.mono hk fun k hk=>⟨hk.1,hk.2.1,hk.2.2.1⟩,?_⟩;rw [show ironTake 0 x t=(numP t).map (fun p=>(({x with f:=p.1}:IrR),p.2)) from rfl]
 cases hr:numP t with
 | none=>rw [hr] at hh; exact hh
 | some p =>
  obtain⟨n,r⟩:=p;rw [hr] at hh;obtain⟨he,hrd,hbx⟩:=hh;have hg:∀ g,D g→g≠rb∧g≠pb:=fun g hg=>⟨fun e=>hrb (e ▸ hg),fun e=>hpb (e ▸ hg)⟩
  refine⟨he,hrd,D,⟨v1,v2,v3,v4,ys,zs,⟨hbx,hk'.row hi.o fun g e=>⟨(hi.o.lt g e).2,hg g ((hD g).2 (.inl e))⟩,hk'.row hi.m fun g e=>⟨(hi.m.lt g e).2,hg g ((hD g).2 (.inr (.inl e)))⟩,hk'.row hi.s fun g e=>⟨(hi.s.lt g e).2,hg g ((hD g).2 (.inr (.inr (.inl e))))⟩,hk'.row hi.c fun g e=>⟨(hi.c.lt g e).2,hg g ((hD g).2 (.inr (.inr (.inr (.inl e)))))⟩,hi.oi.imp fun y l hy hh=>⟨hk'.row hh.1 fun g e=>⟨(hh.1.lt g e).2,hg g ((hD g).2 (.inr (.inr (.inr (.inr (.inl ⟨y,hy,e⟩))))))⟩,hh.2⟩,hi.si.imp fun y l hy hh=>⟨hk'.row hh.1 fun g e=>⟨(hh.1.lt g e).2,hg g ((hD g).2 (.inr (.inr (.inr (.inr (.inr ⟨y,hy,e⟩))))))⟩,hh.2⟩⟩,hD⟩,fun g hg=>.inl hg⟩
theorem take117_any(h:RdAt w rb t)(hx:shapeI.At base pb D x w)(hne:pb≠rb)(hrb:¬ D rb)(hpb:¬ D pb)(hl:t.length≤2000)(hf:NumBox w fb)(hfr:fb≠rb)(hfp:fb≠pb)(hfd:¬ D fb)(hbase:base≤w.heap.size)(hc:shapeI.cnt x≤100000) :
  Calls Tryz.prog 117 #[bp pb,bp rb,bp fb] w (TakePost shapeI rb pb base D (ironTake 1 x t) w):=by
 obtain⟨v1,v2,v3,v4,ys,zs,hi,hD⟩:=hx;have hc':x.own.length+x.most.length+x.str.length+x.cl.length≤100000:=hc;refine(owner117_any rb pb fb base _ v3 v4 v1 v2 _ _ x.own.length x.most.length t w h ⟨hi.b,hf,hi.o,hi.m⟩ ⟨hne,hfr,hfp,fun e=>hrb ((hD _).2 (.inl e)),fun e=>hrb ((hD _).2 (.inr (.inl e))),fun e=>hpb ((hD _).2 (.inl e)),fun e=>hpb ((hD _).2 (.inr (.inl e))),fun e=>hfd ((hD _).2 (.inl e)),fun e=>hfd ((hD _).2 (.inr (.inl e)))⟩ hbase (by omega) (by omega) hl).mono ?_;rintro e w' ⟨hk,hh⟩;have hk':Keep (fun k=>k<w.heap.size∧k≠rb∧k≠pb∧v1.ownBlock≠some k∧v2.ownBlock≠some k) w w':=hk;refine⟨Keep.mono hk fun k hk=>⟨hk.1,hk.2.1,hk.2.2.1,fun e=>hk.2.2.2 ((hD k).2 (.inl e)),fun e=>hk.2.2.2 ((hD k).2 (.inr (.inl e)))⟩,?_⟩;rw [show ironTake 1 x t=(ownerR t).map (fun p=>(({x with own:=x.own ++ [p.1.2],most:=x.most ++ [p.1.1]}:IrR),p.2)) from rfl]
 cases hr:ownerR t with
 | none=>rw [hr] at hh; exact hh
 | some p =>
  obtain⟨⟨a,b⟩,r⟩:=p;rw [hr] at hh;obtain⟨he,hrd,v1',v2',y,hbx,h1,h2,hy,ho1,ho2,hoy⟩:=hh;have hlen:=ownerR_len hr;have hg:∀ g,D g→g≠rb∧g≠pb:=fun g hg=>⟨fun e=>hrb (e ▸ hg),fun e=>hpb (e ▸ hg)⟩
  refine⟨he,hrd,IrD v1' v2' v3 v4 (ys ++ [y]) zs,⟨v1',v2',v3,v4,ys ++ [y],zs,⟨hbx,?_,?_,?_,?_,?_,?_⟩,fun g=>Iff.rfl⟩,?_⟩
  ·rw [List.length_append]
   exact h1
  ·rw [List.length_append,intsV,List.map_append]
   exact h2
  ·exact hk'.row hi.s fun g e=>⟨(hi.s.lt g e).2,(hg g ((hD g).2 (.inr (.inr (.inl e))))).1,(hg g ((hD g).2 (.inr (.inr (.inl e))))).2,own_apart hi.s hi.o (by decide) g e,own_apart hi.s hi.m (by decide) g e⟩
  ·exact hk'.row hi.c fun g e=>⟨(hi.c.lt g e).2,(hg g ((hD g).2 (.inr (.inr (.inr (.inl e)))))).1,(hg g ((hD g).2 (.inr (.inr (.inr (.inl e)))))).2,own_apart hi.c hi.o (by decide) g e,own_apart hi.c hi.m (by decide) g e⟩
  ·refine Nest.snoc (hi.oi.imp fun z l hz hh=>⟨hk'.row hh.1 fun g e=>?_,hh.2.1,fun g e e2=>?_⟩) ⟨hy,by dsimp only at hlen ⊢; omega,fun g e=>(hoy g e).2⟩
   ·have hgg:=hg g ((hD g).2 (.inr (.inr (.inr (.inr (.inl ⟨z,hz,e⟩))))))
    exact⟨(hh.1.lt g e).2,hgg.1,hgg.2,own_apart hh.1 hi.o (by decide) g e,hh.2.2 g e⟩
   ·rcases ho2 g e2 with h | h
    ·exact hh.2.2 g e h
    ·have:=(hh.1.lt g e).2
     omega
  ·refine hi.si.imp fun z l hz hh=>⟨hk'.row hh.1 fun g e=>?_,hh.2⟩
   have hgg:=hg g ((hD g).2 (.inr (.inr (.inr (.inr (.inr ⟨z,hz,e⟩))))));exact⟨(hh.1.lt g e).2,hgg.1,hgg.2,own_apart hh.1 hi.o (by decide) g e,own_apart hh.1 hi.m (by decide) g e⟩
  ·intro g hd
   rcases hd with e | e | e | e | ⟨z,hz,e⟩ | e
   ·rcases ho1 g e with h | h
    ·exact .inl ((hD g).2 (.inl h))
    ·exact .inr h
   ·rcases ho2 g e with h | h
    ·exact .inl ((hD g).2 (.inr (.inl h)))
    ·exact .inr h
   ·exact .inl ((hD g).2 (.inr (.inr (.inl e))))
   ·exact .inl ((hD g).2 (.inr (.inr (.inr (.inl e)))))
   ·rcases List.mem_append.1 hz with hz | hz
    ·exact .inl ((hD g).2 (.inr (.inr (.inr (.inr (.inl ⟨z,hz,e⟩))))))
    ·rw [List.mem_singleton] at hz
     subst hz;exact .inr (hoy g e).1
   ·exact .inl ((hD g).2 (.inr (.inr (.inr (.inr (.inr e))))))
theorem take118_any(h:RdAt w rb t)(hx:shapeI.At base pb D x w)(hne:pb≠rb)(hrb:¬ D rb)(hpb:¬ D pb)(hl:t.length≤2000)(hf:NumBox w fb)(hfr:fb≠rb)(hfp:fb≠pb)(hfd:¬ D fb)(hbase:base≤w.heap.size)(hc:shapeI.cnt x≤100000) :
  Calls Tryz.prog 118 #[bp pb,bp rb,bp fb] w (TakePost shapeI rb pb base D (ironTake 2 x t) w):=by
 obtain⟨v1,v2,v3,v4,ys,zs,hi,hD⟩:=hx;have hc':x.own.length+x.most.length+x.str.length+x.cl.length≤100000:=hc;refine(strake118_any rb pb fb base _ v1 v2 v3 v4 _ x.str.length t w h ⟨hi.b,hf,hi.s⟩ ⟨hne,hfr,hfp,fun e=>hrb ((hD _).2 (.inr (.inr (.inl e)))),fun e=>hpb ((hD _).2 (.inr (.inr (.inl e)))),fun e=>hfd ((hD _).2 (.inr (.inr (.inl e))))⟩ hbase (by omega) hl).mono ?_;rintro e w' ⟨hk,hh⟩;have hk':Keep (fun k=>k<w.heap.size∧k≠rb∧k≠pb∧v3.ownBlock≠some k) w w':=hk;refine⟨Keep.mono hk fun k hk=>⟨hk.1,hk.2.1,hk.2.2.1,fun e=>hk.2.2.2 ((hD k).2 (.inr (.inr (.inl e))))⟩,?_⟩;rw [show ironTake 2 x t=(strakeR t).map (fun p=>(({x with str:=x.str ++ [p.1]}:IrR),p.2)) from rfl]
 cases hr:strakeR t with
 | none=>rw [hr] at hh; exact hh
 | some p =>
  obtain⟨l,r⟩:=p;rw [hr] at hh;obtain⟨he,hrd,v3',y,hbx,h3,hy,ho3,hoy⟩:=hh;have hlen:=marksP_len _ _ _ hr;simp only [List.length_nil] at hlen;have hg:∀ g,D g→g≠rb∧g≠pb:=fun g hg=>⟨fun e=>hrb (e ▸ hg),fun e=>hpb (e ▸ hg)⟩
  refine⟨he,hrd,IrD v1 v2 v3' v4 ys (zs ++ [y]),⟨v1,v2,v3',v4,ys,zs ++ [y],⟨hbx,?_,?_,?_,?_,?_,?_⟩,fun g=>Iff.rfl⟩,?_⟩
  ·exact hk'.row hi.o fun g e=>⟨(hi.o.lt g e).2,(hg g ((hD g).2 (.inl e))).1,(hg g ((hD g).2 (.inl e))).2,own_apart hi.o hi.s (by decide) g e⟩
  ·exact hk'.row hi.m fun g e=>⟨(hi.m.lt g e).2,(hg g ((hD g).2 (.inr (.inl e)))).1,(hg g ((hD g).2 (.inr (.inl e)))).2,own_apart hi.m hi.s (by decide) g e⟩
  ·rw [List.length_append]
   exact h3
  ·exact hk'.row hi.c fun g e=>⟨(hi.c.lt g e).2,(hg g ((hD g).2 (.inr (.inr (.inr (.inl e)))))).1,(hg g ((hD g).2 (.inr (.inr (.inr (.inl e)))))).2,own_apart hi.c hi.s (by decide) g e⟩
  ·refine hi.oi.imp fun z l hz hh=>⟨hk'.row hh.1 fun g e=>?_,hh.2⟩
   have hgg:=hg g ((hD g).2 (.inr (.inr (.inr (.inr (.inl ⟨z,hz,e⟩))))));exact⟨(hh.1.lt g e).2,hgg.1,hgg.2,own_apart hh.1 hi.s (by decide) g e⟩
  ·refine Nest.snoc (hi.si.imp fun z l hz hh=>⟨hk'.row hh.1 fun g e=>?_,hh.2⟩) ⟨hy,by dsimp only; omega⟩
   have hgg:=hg g ((hD g).2 (.inr (.inr (.inr (.inr (.inr ⟨z,hz,e⟩))))));exact⟨(hh.1.lt g e).2,hgg.1,hgg.2,own_apart hh.1 hi.s (by decide) g e⟩
  ·intro g hd
   rcases hd with e | e | e | e | e | ⟨z,hz,e⟩
   ·exact .inl ((hD g).2 (.inl e))
   ·exact .inl ((hD g).2 (.inr (.inl e)))
   ·rcases ho3 g e with h | h
    ·exact .inl ((hD g).2 (.inr (.inr (.inl h))))
    ·exact .inr h
   ·exact .inl ((hD g).2 (.inr (.inr (.inr (.inl e)))))
   ·exact .inl ((hD g).2 (.inr (.inr (.inr (.inr (.inl e))))))
   ·rcases List.mem_append.1 hz with hz | hz
    ·exact .inl ((hD g).2 (.inr (.inr (.inr (.inr (.inr ⟨z,hz,e⟩))))))
    ·rw [List.mem_singleton] at hz
     subst hz;exact .inr (hoy g e)
theorem take119_any(h:RdAt w rb t)(hx:shapeI.At base pb D x w)(hne:pb≠rb)(hrb:¬ D rb)(hpb:¬ D pb)(hl:t.length≤2000)(hf:NumBox w fb)(hfr:fb≠rb)(hbase:base≤w.heap.size)(hc:shapeI.cnt x≤100000) :
  Calls Tryz.prog 119 #[bp pb,bp rb,bp fb] w (TakePost shapeI rb pb base D (ironTake 3 x t) w):=by
 obtain⟨v1,v2,v3,v4,ys,zs,hi,hD⟩:=hx;have hc':x.own.length+x.most.length+x.str.length+x.cl.length≤100000:=hc;refine(claim119_any rb pb fb base _ _ _ _ v4 _ x.cl.length t w h hi.b hf hfr hne (fun e=>hrb ((hD _).2 (.inr (.inr (.inr (.inl e)))))) (fun e=>hpb ((hD _).2 (.inr (.inr (.inr (.inl e)))))) hbase hi.c (by omega) hl).mono ?_;rintro e w' ⟨hk,hh⟩;have hk':Keep (fun k=>k<w.heap.size∧k≠rb∧k≠pb∧v4.ownBlock≠some k) w w':=hk;refine⟨Keep.mono hk fun k hk=>⟨hk.1,hk.2.1,hk.2.2.1,fun e=>hk.2.2.2 ((hD k).2 (.inr (.inr (.inr (.inl e)))))⟩,?_⟩;rw [show ironTake 3 x t=(claimRd t).map (fun p=>(({x with cl:=x.cl ++ [p.1]}:IrR),p.2)) from rfl]
 cases hr:claimRd t with
 | none=>rw [hr] at hh; exact hh
 | some p =>
  obtain⟨⟨a,b,c⟩,r⟩:=p;rw [hr] at hh;obtain⟨he,hrd,v4',hbx,h4,ho4⟩:=hh;have hg:∀ g,D g→g≠rb∧g≠pb:=fun g hg=>⟨fun e=>hrb (e ▸ hg),fun e=>hpb (e ▸ hg)⟩
  refine⟨he,hrd,IrD v1 v2 v3 v4' ys zs,⟨v1,v2,v3,v4',ys,zs,⟨hbx,?_,?_,?_,?_,?_,?_⟩,fun g=>Iff.rfl⟩,?_⟩
  ·exact hk'.row hi.o fun g e=>⟨(hi.o.lt g e).2,(hg g ((hD g).2 (.inl e))).1,(hg g ((hD g).2 (.inl e))).2,own_apart hi.o hi.c (by decide) g e⟩
  ·exact hk'.row hi.m fun g e=>⟨(hi.m.lt g e).2,(hg g ((hD g).2 (.inr (.inl e)))).1,(hg g ((hD g).2 (.inr (.inl e)))).2,own_apart hi.m hi.c (by decide) g e⟩
  ·exact hk'.row hi.s fun g e=>⟨(hi.s.lt g e).2,(hg g ((hD g).2 (.inr (.inr (.inl e))))).1,(hg g ((hD g).2 (.inr (.inr (.inl e))))).2,own_apart hi.s hi.c (by decide) g e⟩
  ·dsimp only
   rw [List.length_append,claimVs_snoc];exact h4
  ·refine hi.oi.imp fun z l hz hh=>⟨hk'.row hh.1 fun g e=>?_,hh.2⟩
   have hgg:=hg g ((hD g).2 (.inr (.inr (.inr (.inr (.inl ⟨z,hz,e⟩))))));exact⟨(hh.1.lt g e).2,hgg.1,hgg.2,own_apart hh.1 hi.c (by decide) g e⟩
  ·refine hi.si.imp fun z l hz hh=>⟨hk'.row hh.1 fun g e=>?_,hh.2⟩
   have hgg:=hg g ((hD g).2 (.inr (.inr (.inr (.inr (.inr ⟨z,hz,e⟩))))));exact⟨(hh.1.lt g e).2,hgg.1,hgg.2,own_apart hh.1 hi.c (by decide) g e⟩
  ·intro g hd
   rcases hd with e | e | e | e | e | e
   ·exact .inl ((hD g).2 (.inl e))
   ·exact .inl ((hD g).2 (.inr (.inl e)))
   ·exact .inl ((hD g).2 (.inr (.inr (.inl e))))
   ·rcases ho4 g e with h | h
    ·exact .inl ((hD g).2 (.inr (.inr (.inr (.inl h)))))
    ·exact .inr h
   ·exact .inl ((hD g).2 (.inr (.inr (.inr (.inr (.inl e))))))
   ·exact .inl ((hD g).2 (.inr (.inr (.inr (.inr (.inr e))))))
end
end Go.Proofs.YtclbmlmlhiiaeaaGreatDoor
namespace Go.Proofs.YtclbmlmlhiiaeaaGreatDoor
open Go.RowKit Go.Shelf
attribute [local go_sem] Oper.semAt_some
def wsI:List (List UInt8):=[[105,114,111,110,115,32],[111,119,110,101,114,32],[115,116,114,97,107,101],[99,108,97,105,109,32]]
def stepI:IrR×Nat→List UInt8→Option (IrR×Nat):=lineStep 1 wsI ironTake
def markOf(p:Int×Int×Int):IMark:=⟨p.1,p.2.1,p.2.2⟩
def claimOf(p:Int×Int×Bool):IClaim:=⟨p.1,p.2.1,p.2.2⟩
theorem markVs_get:∀ (l:List (Int×Int×Int)) (i:Nat),i<l.length → ∀ j,j<3→(markVs l)[i * 3+j]? = some ((markOf (l.getD i (0,0,0))).cell j)
 | [],i,h,_,_=>by cases h
 | x::l,0,_,j,hj=>by
  rcases(show j=0∨j=1∨j=2 by omega) with rfl | rfl | rfl <;> rfl
 | x::l,i+1,h,j,hj=>by
  have:=markVs_get l i (by simpa using h) j hj;rw [show(i+1) * 3+j=i * 3+j+1+1+1 by omega];exact this
theorem claimVs_get:∀ (l:List (Int×Int×Bool)) (i:Nat),i<l.length → ∀ j,j<3→(claimVs l)[i * 3+j]? = some ((claimOf (l.getD i (0,0,false))).cell j)
 | [],i,h,_,_=>by cases h
 | x::l,0,_,j,hj=>by
  rcases(show j=0∨j=1∨j=2 by omega) with rfl | rfl | rfl <;> rfl
 | x::l,i+1,h,j,hj=>by
  have:=claimVs_get l i (by simpa using h) j hj;rw [show(i+1) * 3+j=i * 3+j+1+1+1 by omega];exact this
def toV(x:IrR):IronsV where
 f:=x.f
 on:=x.own.length
 ol i:=(x.own.getD i []).length
 own i j:=intOf' (x.own.getD i []) j
 mn:=x.most.length
 most:=intOf' x.most
 sn:=x.str.length
 sl i:=(x.str.getD i []).length
 mark i j:=markOf ((x.str.getD i []).getD j (0,0,0))
 cn:=x.cl.length
 claim i:=claimOf (x.cl.getD i (0,0,false))
structure IrBlk (P:Nat→Prop) (x:IronsV) (oa ma sa ca:Option Addr) (op sp:Nat→Option Addr):Prop where
 o:0<x.on→P (blk oa)
 oi:∀ i,i<x.on→0<x.ol i→P (blk (op i))
 m:0<x.mn→P (blk ma)
 s:0<x.sn→P (blk sa)
 si:∀ i,i<x.sn→0<x.sl i→P (blk (sp i))
 c:0<x.cn→P (blk ca)
section
variable {P Q C:Nat→Prop} {x:IronsV} {oa ma sa ca:Option Addr} {oc mc sc cc:Nat} {op sp:Nat→Option Addr} {ok sk:Nat→Nat} {A B:World}
theorem IrBlk.imp(h:IrBlk P x oa ma sa ca op sp)(f:∀ b,P b→Q b):IrBlk Q x oa ma sa ca op sp :=
 ⟨fun k=>f _ (h.o k),fun i hi k=>f _ (h.oi i hi k),fun k=>f _ (h.m k),fun k=>f _ (h.s k),fun i hi k=>f _ (h.si i hi k),fun k=>f _ (h.c k)⟩
theorem IrBlk.old(h:IrBlk P x oa ma sa ca op sp)(hA:IronsAt x oa ma sa ca oc mc sc cc op sp ok sk A):IrBlk (fun b=>P b∧b<A.heap.size) x oa ma sa ca op sp :=
 ⟨fun k=>⟨h.o k,hA.o.old k⟩,fun i hi k=>⟨h.oi i hi k,(hA.oi i hi).old k⟩,fun k=>⟨h.m k,hA.m.old k⟩,fun k=>⟨h.s k,hA.s.old k⟩,fun i hi k=>⟨h.si i hi k,(hA.si i hi).old k⟩,fun k=>⟨h.c k,hA.c.old k⟩⟩
theorem IronsAt.keep(h:IronsAt x oa ma sa ca oc mc sc cc op sp ok sk A)(hk:Keep C A B)(hb:IrBlk C x oa ma sa ca op sp):IronsAt x oa ma sa ca oc mc sc cc op sp ok sk B :=
 ⟨Row.keep h.o hk hb.o,fun i hi=>Row.keep (h.oi i hi) hk (hb.oi i hi),Row.keep h.m hk hb.m,Row.keep h.s hk hb.s,fun i hi=>Row.keep (h.si i hi) hk (hb.si i hi),Row.keep h.c hk hb.c⟩
end
def sliceA:Value→Option Addr
 | .slice a _ _=>a
 | _=>none
def sliceC:Value→Nat
 | .slice _ _ c=>c
 | _=>0
def Thawed(W:World)(b:Nat):Prop := ∃ c E,W.heap[b]? = some (.cells c E (0,0))
theorem Thawed.grow{W W':World}{b:Nat}(h:Thawed W b)(hb:Below W.heap.size W W'):Thawed W' b:=by
 obtain⟨c,E,h⟩:=h;exact⟨c,E,(hb.block b (lt_of_heap h)).trans h⟩
theorem Thawed.keep{C:Nat→Prop}{W W':World}{b:Nat}(h:Thawed W b)(hk:Keep C W W')(hb:C b):Thawed W' b:=by
 obtain⟨c,E,h⟩:=h;exact⟨c,E,(hk.block b hb).trans h⟩
theorem Thawed.free{W:World}{b i:Nat}(h:Thawed W b):W.frozen? ⟨b,i,none⟩=false:=by
 obtain⟨c,E,h⟩:=h;exact freeAt h i
theorem Thawed.set{W:World}{b:Nat}(h:Thawed W b)(p:Addr)(v:Value):Thawed (W.setCell p v) b:=by
 obtain⟨c,E,h⟩:=h;by_cases hp:p.block=b
 ·subst hp
  refine⟨if p.spot.isSome then c else c.setIfInBounds p.off v,E,?_⟩;unfold World.setCell;simp [Array.getElem?_modify,h]
 ·refine⟨c,E,?_⟩
  unfold World.setCell;simp only [Array.getElem?_modify,if_neg hp,h]
theorem rowN_blk{w:World}{base n sz:Nat}{E:TypeId}{v:Value}{xs:List Value}{cell:Nat→Nat→Value}(h:w.ownsRow base E sz v n xs)(hn:n≤100000)(hc:∀ i,i<n → ∀ j,j<sz→xs[i * sz+j]? = some (cell i j)){d:Nat}{o:Obj}(hd:w.heap[d]? = some o)(ho:o.isCells=false) :
  v = .slice (sliceA v) n (sliceC v)∧Row w (sliceA v) n sz cell∧(0<n→(base≤blk (sliceA v)∧blk (sliceA v)≠d)∧Thawed w (blk (sliceA v))):=by
 have hcell:=row_cells h hd ho;have hown:=h;obtain⟨oa,cap,rfl,hR,hB,_⟩:=rowN_of h (by unfold maxLen; omega) hc;refine⟨rfl,hR,fun hn=>⟨⟨hB hn,fun e=>hcell ?_⟩,?_⟩⟩;rotate_left
 ·obtain⟨hl,⟨h1,h2⟩ | ⟨g,cap',cur,hv,hb,hg,hle,hm,hs,ht⟩⟩:=hown
  ·subst h2
   have hx:=hc 0 hn 0;omega
  ·cases hv
   exact⟨_,_,hg⟩
 show(Value.slice oa n cap).ownBlock=some d
 have hp:=hR.plain hn;rw [hp]
 show some (blk oa)=some d
 rw [show blk oa=d from e]
theorem IrLies.irons{base pb:Nat}{x:IrR}{v1 v2 v3 v4:Value}{ys zs:List Value}{W:World}(h:IrLies base pb x v1 v2 v3 v4 ys zs W)(hc:shapeI.cnt x≤100000){d:Nat}{o:Obj}(hd:W.heap[d]? = some o)(ho:o.isCells=false) :
  ∃ oa ma sa ca oc mc sc cc op sp ok sk,BoxAt W pb #[.int .i64 (toV x).f,.slice oa (toV x).on oc,.slice ma (toV x).mn mc,.slice sa (toV x).sn sc,.slice ca (toV x).cn cc] 34∧IronsAt (toV x) oa ma sa ca oc mc sc cc op sp ok sk W∧IrBlk (fun b=>(base≤b∧b≠d)∧Thawed W b) (toV x) oa ma sa ca op sp:=by
 have hc':x.own.length+x.most.length+x.str.length+x.cl.length≤100000:=hc
 have hoi:∀ i,i<x.own.length→ys[i]? = some (.slice (sliceA (ys.getD i undef)) (x.own.getD i []).length (sliceC (ys.getD i undef)))∧IntsAt W (sliceA (ys.getD i undef)) (x.own.getD i []).length (intOf' (x.own.getD i []))∧(0<(x.own.getD i []).length→(base≤blk (sliceA (ys.getD i undef))∧blk (sliceA (ys.getD i undef))≠d)∧Thawed W (blk (sliceA (ys.getD i undef)))):=by
  intro i hi;obtain⟨hh,hg,hm⟩:=h.oi.get [] i hi;obtain⟨e,hr,hb⟩:=rowN_blk hh.1 hh.2.1 (fun i hi j hj=>intsV_get _ i hi j hj) hd ho;exact⟨hg.trans (congrArg some e),hr,hb⟩
 have hsi:∀ i,i<x.str.length→zs[i]? = some (.slice (sliceA (zs.getD i undef)) (x.str.getD i []).length (sliceC (zs.getD i undef)))∧MarksAt W (sliceA (zs.getD i undef)) (x.str.getD i []).length (fun j=>markOf ((x.str.getD i []).getD j (0,0,0)))∧(0<(x.str.getD i []).length→(base≤blk (sliceA (zs.getD i undef))∧blk (sliceA (zs.getD i undef))≠d)∧Thawed W (blk (sliceA (zs.getD i undef)))):=by
  intro i hi;obtain⟨hh,hg,hm⟩:=h.si.get [] i hi;obtain⟨e,hr,hb⟩:=rowN_blk hh.1 hh.2 (fun i hi j hj=>markVs_get _ i hi j hj) hd ho;exact⟨hg.trans (congrArg some e),hr,hb⟩
 obtain⟨e1,r1,b1⟩:=rowN_blk (cell:=fun i _=>.slice (sliceA (ys.getD i undef)) (x.own.getD i []).length (sliceC (ys.getD i undef))) h.o (by omega) (fun i hi j hj=>by
  obtain rfl:j=0:=by omega
  rw [Nat.mul_one,Nat.add_zero]
  exact(hoi i hi).1) hd ho
 obtain⟨e2,r2,b2⟩:=rowN_blk h.m (by omega) (fun i hi j hj=>intsV_get _ i hi j hj) hd ho
 obtain⟨e3,r3,b3⟩:=rowN_blk (cell:=fun i _=>.slice (sliceA (zs.getD i undef)) (x.str.getD i []).length (sliceC (zs.getD i undef))) h.s (by omega) (fun i hi j hj=>by
  obtain rfl:j=0:=by omega
  rw [Nat.mul_one,Nat.add_zero]
  exact(hsi i hi).1) hd ho
 obtain⟨e4,r4,b4⟩:=rowN_blk h.c (by omega) (fun i hi j hj=>claimVs_get _ i hi j hj) hd ho;refine⟨sliceA v1,sliceA v2,sliceA v3,sliceA v4,sliceC v1,sliceC v2,sliceC v3,sliceC v4,fun i=>sliceA (ys.getD i undef),fun i=>sliceA (zs.getD i undef),fun i=>sliceC (ys.getD i undef),fun i=>sliceC (zs.getD i undef),?_,⟨r1,fun i hi=>(hoi i hi).2.1,r2,r3,fun i hi=>(hsi i hi).2.1,r4⟩,⟨b1,fun i hi=>(hoi i hi).2.2,b2,b3,fun i hi=>(hsi i hi).2.2,b4⟩⟩;have hb:=h.b;rw [e1,e2,e3,e4] at hb;exact hb
def readI(t:List UInt8):Option IrR:=match linesR stepI (⟨0,[],[],[],[]⟩,0) t with
 | none=>none
 | some (x,_)=>if ironsB (toV x)∧ironsT (toV x)=t then some x else none
def ReadPostI(t:List UInt8)(w:World)(e:Ending)(w':World):Prop :=
 Below w.heap.size w w'∧if 1000<t.length then e=err 3 else match readI t with
  | none=>e=err 8
  | some x => ∃ oa ma sa ca oc mc sc cc op sp ok sk,e = .returned (.agg #[.int .i64 (toV x).f,.slice oa (toV x).on oc,.slice ma (toV x).mn mc,.slice sa (toV x).sn sc,.slice ca (toV x).cn cc])∧IronsAt (toV x) oa ma sa ca oc mc sc cc op sp ok sk w'∧IrBlk (fun b=>w.heap.size≤b∧Thawed w' b) (toV x) oa ma sa ca op sp
set_option maxRecDepth 100000 in
set_option maxHeartbeats 8000000 in
theorem read83_any(kb:Nat)(t:List UInt8)(w:World)(hk:KindsIrons w kb)(hlim:Lim w)(htab:Tab w)(hkb:1<kb) :
  Calls Tryz.prog 83 #[fileIrons (some ⟨kb,0,none⟩) 4 4,.string ⟨t.toArray⟩] w (ReadPostI t w):=by
 refine calls_of_wpOf (n:=9) Tryz.func83 rfl ?_;simp only [Tryz.ntmps83,List.size_toArray,List.length_cons,List.length_nil,Nat.reduceAdd,Nat.reduceSub,Array.replicate_succ,Array.replicate_zero,List.push_toArray,List.append_toArray,List.nil_append,List.cons_append];have HK:=Lib.hid hk;have HL:=Lib.hid hlim;have HT:=Lib.hid htab;have hkl:kb<w.heap.size:=lt_of_heap hk.1;clear hk hlim htab;refine wpOf_seq_wp ?_;go_wp2_with fail;generalize hW:World.alloc _ _=w2;obtain⟨z0,z1,hz2,hB2⟩:=blocks2 hW;clear hW;have Z0:=Lib.hid (show BoxAt w2 w.heap.size #[.int .i64 1,.slice (some ⟨kb,0,none⟩) 4 4,.func (.func 120) #[] #[],.func (.func 121) #[] #[]] 108 from z0);have Z1:=Lib.hid (show BoxAt w2 (w.heap.size+1) #[.int .i64 0,.slice none 0 0,.slice none 0 0,.slice none 0 0,.slice none 0 0] 34 from z1);have B2:=Lib.hid hB2;clear z0 z1 hB2;by_cases ht:1000<t.length
 ·have t0:decide ((t.length:Int)≤1000)=false:=decide_eq_false (by omega)
  have HP:=Lib.hid (show ∀ w',Below w.heap.size w w'→ReadPostI t w (err 3) w' from fun w' h=>⟨h,by rw [if_pos ht]⟩);clear ht;refine wpOf_seq_wp ?_;go_wp2_with (go_at_call 62; refine(ask_false _ _).mono ?_);rintro e w' ⟨rfl,rfl⟩;exact HP.out w2 B2.out
 ·have t0:decide ((t.length:Int)≤1000)=true:=decide_eq_true (by omega)
  refine wpOf_seq_wp ?_;go_wp2_with (go_at_call 62; refine(ask_true _ _).mono ?_);rintro e w' ⟨rfl,rfl⟩;go_wp2_with fail;refine wpOf_seq_wp ?_;go_wp2_with fail;have hal:=(Below.refl w2.heap.size w2).alloc (Nat.le_refl _) (.cells #[.int .i64 0] 3);have hz3:(w2.alloc (.cells #[.int .i64 0] 3)).heap.size=w.heap.size+3:=by simp; omega
  have hz2':w2.heap.size=w.heap.size+2:=hz2;have B3:=Lib.hid (B2.out.next hal);have Y0:=Lib.hid (Z0.out.grow hal);have Y1:=Lib.hid (Z1.out.grow hal);have Y2:=Lib.hid (show BoxAt (w2.alloc (.cells #[.int .i64 0] 3)) (w.heap.size+2) #[.int .i64 0] 3 from by rw [← hz2']; exact heap_alloc_new _ _);have HZ2:=Lib.hid hz2';have HZ3:=Lib.hid hz3;clear hal Z0 Z1 B2 hz2 hz2' hz3;generalize World.alloc w2 _=w3 at *;refine wpOf_seq (wpOf_seq_wp ?_);go_wp2_with (go_at_call 138; refine(lines138_any t w3).mono ?_);rintro e w' ⟨rfl,rfl⟩;go_wp2_with fail;have hal:=(Below.refl w3.heap.size w3).alloc (Nat.le_refl _) (.cells #[.string ⟨t.toArray⟩] 9);have hz4:(w3.alloc (.cells #[.string ⟨t.toArray⟩] 9)).heap.size=w.heap.size+4:=by have:=HZ3.out; simp; omega
  have B4:=Lib.hid (B3.out.next hal);have X0:=Lib.hid (Y0.out.grow hal);have X1:=Lib.hid (Y1.out.grow hal);have X2:=Lib.hid (Y2.out.grow hal);have X3:=Lib.hid (show BoxAt (w3.alloc (.cells #[.string ⟨t.toArray⟩] 9)) (w.heap.size+3) #[.string ⟨t.toArray⟩] 9 from by rw [← HZ3.out]; exact heap_alloc_new _ _);have HZ4:=Lib.hid hz4;clear hal Y0 Y1 Y2 B3 hz4;generalize World.alloc w3 _=w4 at *;rw [HZ3.out];clear HZ3 HZ2;obtain⟨R,hR⟩:∃ R,linesR stepI (⟨0,[],[],[],[]⟩,0) t=R:=⟨_,rfl⟩
  have HR:=Lib.hid hR;clear hR;refine wpOf_block ?_
  refine wpOf_range_text (gf:=154) (lb:=#[bp (w.heap.size+3)]) (tb:=w.heap.size+3) (ty:=9) Tryz.func83 rfl (enters_of Tryz.func154 (by kernel_rfl) rfl) (lines154_any 9 (w.heap.size+3) t (by omega)) rfl (by rw [HZ4.out]; omega)
   (fun t' W => ∃ x k D,RdX shapeI #[.int .i64 1,.slice (some ⟨kb,0,none⟩) 4 4,.func (.func 120) #[] #[],.func (.func 121) #[] #[]] 108 stepI R w t.length 3 t' x k D W) (fun W=>R=none∧Below w.heap.size w W) ?hI ?hIo ?hIp ?hPr ?h0 X3.out (fun line=>{tmps:=#[.agg #[.int .i64 1,.slice (some ⟨kb,0,none⟩) 4 4,.func (.func 120) #[] #[],.func (.func 121) #[] #[]],.string ⟨t.toArray⟩,bp w.heap.size,undef,bp (w.heap.size+1),bp (w.heap.size+2),.string ⟨line.toArray⟩,undef,.string ⟨t.toArray⟩,.int .i64 t.length,.bool true,.tuple #[],.string ⟨t.toArray⟩,.func (.func 154) #[] #[bp (w.heap.size+3)],.string ⟨line.toArray⟩,undef,undef,undef,undef,undef,undef,undef,undef,undef,undef,undef,undef,undef,undef,undef,undef,undef,undef,undef,undef,undef,undef,undef,undef,undef,undef,undef,undef,undef,undef,undef,undef,undef,undef,undef,undef,undef,undef,undef,undef,undef,undef,undef,undef,undef,undef,undef,undef,undef,undef,undef,undef,undef,undef,undef,undef,undef,undef,undef,undef,undef],defers:=[]}) ?assign ?body ?done ?pan
  case hI =>
   rintro t' A B ⟨x,k,D,h⟩ hk;exact⟨x,k,D,h.keep hk (b:=w.heap.size+3) (fun k h1 h2=>⟨h1,h2⟩) (Nat.le_refl _) (h.not _ (by omega))⟩
  case hIo =>
   rintro t' A l o o' ⟨x,k,D,h⟩ hl ho hc;rw [HZ4.out] at hl;exact⟨x,k,D,h.keep (Keep.putObj A l o') (b:=l) (fun k h1 h2=>⟨h1,h2⟩) (by omega) (shapeI.cells h.ob ho hc)⟩
  case hIp =>
   rintro t' A ⟨x,k,D,h⟩ hb;exact⟨by rw [← h.res]; exact linesR_bad _ _ hb.1 hb.2,h.bel⟩
  case hPr =>
   rintro t' A ⟨x,k,D,h⟩;exact HL.out.keep (Keep.of_below h.bel (C:=fun k=>k<w.heap.size) fun k hk=>hk) (by omega)
  case h0=>exact⟨⟨0,[],[],[],[]⟩,0,fun _=>False,⟨B4.out,X0.out,⟨.slice none 0 0,.slice none 0 0,.slice none 0 0,.slice none 0 0,[],[],⟨X1.out,World.ownsRow_nil ..,World.ownsRow_nil ..,World.ownsRow_nil ..,World.ownsRow_nil ..,trivial,trivial⟩,fun g=>⟨fun h=>h.elim,fun h=>by rcases h with h | h | h | h | ⟨y,hy,_⟩ | ⟨y,hy,_⟩ <;> first | cases h | cases hy⟩⟩,X2.out,by rw [HZ4.out]; exact Nat.le_refl _,HR.out,by omega,by show 0+_≤_; omega⟩⟩
  case assign =>
   intro l x W K hK
   gi_wp2
   exact hK
  case body =>
   rintro l t' line rest W0 ⟨x,k,D,h⟩ hN hbx ⟨r,hr⟩;have H0:=Lib.hid h;have HN:=Lib.hid hN;have HBX:=Lib.hid hbx;have htx:=h.tx;have hk2:=h.k2;have hln:=h.len;have hlen:=cut_found t' (by rw [hN.2.1]);rw [hN.2.1] at hlen;dsimp only at hlen;have HKA:=Lib.hid (show KindsIrons W0 kb from⟨BoxAt.grow HK.out.1 h.bel,BoxAt.grow HK.out.2.1 h.bel,HK.out.2.2⟩);have HF:=Lib.hid h.f
   have HR1:=Lib.hid (show R=(stepI (x,k) line).bind fun s'=>linesR stepI s' rest from by
    rw [← h.res]
    exact linesR_bind stepI (x,k) hN.1 hN.2.1)
   have hal:=(Below.refl W0.heap.size W0).alloc (Nat.le_refl _) (.cells #[.string ⟨line.toArray⟩] 173);have hkp:Keep (OffD w.heap.size D W0) W0 (W0.alloc (.cells #[.string ⟨line.toArray⟩] 173)):=Keep.of_below hal fun k hk=>hk.1;have hkq:Keep (fun k=>k<W0.heap.size) W0 (W0.alloc (.cells #[.string ⟨line.toArray⟩] 173)):=Keep.of_below hal fun k hk=>hk
   have I1:=Lib.hid (show WhX shapeI w.heap.size x D W0 line k (W0.alloc (.cells #[.string ⟨line.toArray⟩] 173)) from
    ⟨hkp,heap_alloc_new _ _,shapeI.keep h.ob hkq (shapeI.old h.ob) (fun g hg=>(shapeI.lt h.ob hg).2),BoxAt.grow h.q hal,fun g hg=>shapeI.lt h.ob hg,htx⟩)
   clear h hN hbx hr hal hkp hkq
   gi_wp2
   generalize World.alloc W0 _=W1 at *;obtain⟨J,hJ⟩:∃ J,kindFrom (wsI.drop k) k line=J:=⟨_,rfl⟩
   have HJ:=Lib.hid hJ;clear hJ
   gi_loopw [33] (fun _ wr => ∃ j:Nat,j≤4∧kindFrom (wsI.drop j) j line=J∧WhX shapeI w.heap.size x D W0 line j wr) (fun _ wr=>5 - kOf (w.heap.size+2) wr)
   case atStart=>exact⟨k,by omega,HJ.out,I1.out⟩
   case round =>
    obtain⟨j,hj,hjj,hi⟩:=hrel;have I2:=Lib.hid hi;have HJJ:=Lib.hid hjj;have hm:=kOf_at hi.q;have hKF:=hi.keep;have hfa:=hKF.box HF.out ⟨by omega,by omega,by omega,H0.out.not _ (by omega)⟩;have hka:=hKF.box HKA.out.1 ⟨by omega,by omega,by omega,H0.out.not _ (by omega)⟩;have fa1:=cellAt hfa 1;have ka0:=cellAt hka 0;have ka1:=cellAt hka 1;have ka2:=cellAt hka 2;have ka3:=cellAt hka 3;have ka4:=cellAt hka 4;have ka5:=cellAt hka 5;have ka6:=cellAt hka 6;have ka7:=cellAt hka 7;have q0:=cellAt hi.q 0;simp only [List.getElem?_toArray,List.getElem?_cons_zero,List.getElem?_cons_succ] at fa1 ka0 ka1 ka2 ka3 ka4 ka5 ka6 ka7 q0;clear hi hjj I1 hKF hfa hka;rcases(show j=0∨j=1∨j=2∨j=3∨j=4 by omega) with rfl | rfl | rfl | rfl | rfl
    ·have C2:=Lib.hid (sees_any W0.heap.size line [105,114,111,110,115,32] wr I2.out.rd)
     gi_wp2
     refine⟨trivial,?_⟩;refine(CallsIn.inRound l (callsIn_wide.2 C2.out)).mono ?_;rintro e w2 ⟨rfl,rfl⟩
     cases hp:Lib.hasPrefix line [105,114,111,110,115,32] with
     | true =>
      rw [seesT_yes hp];have hJJ:J=0:=by rw [← HJJ.out]; show(if Lib.hasPrefix line [105,114,111,110,115,32]=true then _ else _)=_; rw [if_pos hp]
      have HQ:=Lib.hid (step_bind (J:=0) (u:=line.drop 6) (HJ.out.trans hJJ) (by decide) rfl HR1.out);have I3:=Lib.hid (I2.out.see (line.drop 6));clear hp hJJ C2 I2 HJ HJJ HR1
      show _
      clear fa1 ka0 ka1 ka2 ka3 ka4 ka5 ka6 ka7 q0;generalize World.setCell wr _ _=w2 at *;have hfa:=I3.out.keep.box HF.out ⟨by omega,by omega,by omega,H0.out.not _ (by omega)⟩;have hka:=I3.out.keep.box HKA.out.1 ⟨by omega,by omega,by omega,H0.out.not _ (by omega)⟩;have fa1:=cellAt hfa 1;have ka1:=cellAt hka 1;have q0:=cellAt I3.out.q 0;simp only [List.getElem?_toArray,List.getElem?_cons_zero,List.getElem?_cons_succ] at fa1 ka1 q0;clear hfa hka
      gi_wp2
      refine⟨trivial,?_⟩;refine(CallsIn.inRound l (callsIn_wide.2 (ask_true _ _))).mono ?_;rintro e w' ⟨rfl,rfl⟩
      gi_wp2
      have hdl:(line.drop 6).length≤line.length:=by rw [List.length_drop]; omega
      have C3:=Lib.hid (take116_any I3.out.rd I3.out.ob (by omega) (fun hd=>by have:=(I3.out.lt _ hd).2; omega) (H0.out.not _ (by omega)) (by omega) (I3.out.keep.box HKA.out.2.1 ⟨by omega,by omega,by omega,H0.out.not _ (by omega)⟩));refine⟨trivial,?_⟩;refine(CallsIn.inRound l (callsIn_wide.2 C3.out)).mono ?_;intro e w3 hpost;obtain⟨ho,hh⟩:=hpost;have K3:=I3.out.took ho;have HOF:=Lib.hid (H0.out.off K3)
      cases hr:ironTake 0 x (line.drop 6) with
      | none =>
       rw [hr] at hh HQ;dsimp only at hh HQ;subst hh;exact⟨rfl,rfl,by rw [HZ4.out]; exact HOF.out.2,HQ.out,HOF.out.1⟩
      | some p =>
      obtain⟨x',r'⟩:=p;rw [hr] at hh HQ;dsimp only at HQ;obtain⟨he,hrd,D',hob',hown'⟩:=hh;subst he;have HK3:=Lib.hid K3;have RD3:=Lib.hid hrd;have OB3:=Lib.hid hob';have Q3:=Lib.hid (ho.box I3.out.q ⟨by have:=I3.out.keep.size; omega,by omega,by omega,H0.out.not _ (by omega)⟩);have HSR:=Lib.hid (ironTake_len hr);clear hrd hob' hown' ho K3 C3 hr fa1 ka1 q0;have hrd0:=cellAt RD3.out 0;simp only [List.getElem?_toArray,List.getElem?_cons_zero] at hrd0
      cases r' with
      | cons c r' =>
       gi_wp2
       refine⟨trivial,(CallsIn.inRound l (callsIn_wide.2 (ask_false _ _))).mono ?_⟩;rintro e w' ⟨rfl,rfl⟩;exact⟨rfl,rfl,by rw [HZ4.out]; exact HOF.out.2,by rw [HQ.out,if_neg (by simp)],HOF.out.1⟩
      | nil =>
       have hfa:=HK3.out.box HF.out ⟨by omega,by omega,by omega,H0.out.not _ (by omega)⟩;have fa0:=cellAt hfa 0;have q0:=cellAt Q3.out 0;have fq:=freeAt Q3.out 0;simp only [List.getElem?_toArray,List.getElem?_cons_zero] at fa0 q0;clear hfa;have hsl:=HSR.out;have hln9:=H0.out.len;have hk4:Keep (fun k=>k≠w.heap.size+2) w3 (w3.setCell ⟨w.heap.size+2,0,none⟩ (.int .i64 ((1:Nat):Int))):=Keep.set (Keep.refl _ _) _ _ _ (fun h=>h rfl);have hk5:Keep (OffD w.heap.size D W0) W0 (w3.setCell ⟨w.heap.size+2,0,none⟩ (.int .i64 ((1:Nat):Int))):=Keep.set HK3.out _ _ _ (fun hh=>hh.2.2.1 rfl)
       have N5:=Lib.hid (H0.out.next (x':=x') (k':=1) hk5 (shapeI.keep OB3.out hk4 (by omega) (fun g hg=>by have:=(shapeI.lt OB3.out hg).1; omega)) (Q3.out.store 0 _)
        (by rw [HQ.out,if_pos rfl]; rfl) (by omega) (by simp only [List.length_nil] at hsl; omega))
       have T5:=Lib.hid (H0.out.text hk5 HBX.out);have F5:=Lib.hid (H0.out.off hk5).2;clear hk4 hk5 hsl hln9
       gi_wp2
       refine⟨trivial,(CallsIn.inRound l (callsIn_wide.2 (ask_true _ _))).mono ?_⟩;rintro e w' ⟨rfl,rfl⟩
       gi_wp2
       exact⟨by rw [HZ4.out]; exact F5.out,⟨_,_,_,N5.out⟩,T5.out⟩
     | false =>
      rw [seesT_no hp];have HJ1:=Lib.hid (show kindFrom (wsI.drop 1) 1 line=J from by rw [← HJJ.out]; exact(if_neg (by rw [hp]; decide)).symm);have I3:=Lib.hid (I2.out.see line);have I4:=Lib.hid (I3.out.inc 1);have q1:=cellAt I3.out.q 0;have fq:=freeAt I3.out.q 0;simp only [List.getElem?_toArray,List.getElem?_cons_zero] at q1;clear hp C2 I2 HJ HJJ q0 fa1 ka0 ka1 ka2 ka3 ka4 ka5 ka6 ka7
      gi_wp2
      exact⟨⟨1,by omega,HJ1.out,I4.out⟩,Nat.lt_of_le_of_lt (Nat.le_of_eq (congrArg (5 - ·) (kOf_at I4.out.q))) (by omega)⟩
    ·have C2:=Lib.hid (sees_any W0.heap.size line [111,119,110,101,114,32] wr I2.out.rd)
     gi_wp2
     refine⟨trivial,?_⟩;refine(CallsIn.inRound l (callsIn_wide.2 C2.out)).mono ?_;rintro e w2 ⟨rfl,rfl⟩
     cases hp:Lib.hasPrefix line [111,119,110,101,114,32] with
     | true =>
      rw [seesT_yes hp];have hJJ:J=1:=by rw [← HJJ.out]; show(if Lib.hasPrefix line [111,119,110,101,114,32]=true then _ else _)=_; rw [if_pos hp]
      have HQ:=Lib.hid (step_bind (J:=1) (u:=line.drop 6) (HJ.out.trans hJJ) (by decide) rfl HR1.out);have I3:=Lib.hid (I2.out.see (line.drop 6));clear hp hJJ C2 I2 HJ HJJ HR1
      show _
      clear fa1 ka0 ka1 ka2 ka3 ka4 ka5 ka6 ka7 q0;generalize World.setCell wr _ _=w2 at *;have hfa:=I3.out.keep.box HF.out ⟨by omega,by omega,by omega,H0.out.not _ (by omega)⟩;have hka:=I3.out.keep.box HKA.out.1 ⟨by omega,by omega,by omega,H0.out.not _ (by omega)⟩;have fa1:=cellAt hfa 1;have ka1:=cellAt hka 3;have q0:=cellAt I3.out.q 0;simp only [List.getElem?_toArray,List.getElem?_cons_zero,List.getElem?_cons_succ] at fa1 ka1 q0;clear hfa hka
      gi_wp2
      refine⟨trivial,?_⟩;refine(CallsIn.inRound l (callsIn_wide.2 (ask_true _ _))).mono ?_;rintro e w' ⟨rfl,rfl⟩
      gi_wp2
      have hdl:(line.drop 6).length≤line.length:=by rw [List.length_drop]; omega
      have C3:=Lib.hid (take117_any I3.out.rd I3.out.ob (by omega) (fun hd=>by have:=(I3.out.lt _ hd).2; omega) (H0.out.not _ (by omega)) (by omega) (I3.out.keep.box HKA.out.2.1 ⟨by omega,by omega,by omega,H0.out.not _ (by omega)⟩) (by omega) (by omega) (H0.out.not _ (by omega)) (by have:=I3.out.keep.size; have:=I3.out.hs; omega) (by have:=H0.out.len; omega));refine⟨trivial,?_⟩;refine(CallsIn.inRound l (callsIn_wide.2 C3.out)).mono ?_;intro e w3 hpost;obtain⟨ho,hh⟩:=hpost;have K3:=I3.out.took ho;have HOF:=Lib.hid (H0.out.off K3)
      cases hr:ironTake 1 x (line.drop 6) with
      | none =>
       rw [hr] at hh HQ;dsimp only at hh HQ;subst hh;exact⟨rfl,rfl,by rw [HZ4.out]; exact HOF.out.2,HQ.out,HOF.out.1⟩
      | some p =>
      obtain⟨x',r'⟩:=p;rw [hr] at hh HQ;dsimp only at HQ;obtain⟨he,hrd,D',hob',hown'⟩:=hh;subst he;have HK3:=Lib.hid K3;have RD3:=Lib.hid hrd;have OB3:=Lib.hid hob';have Q3:=Lib.hid (ho.box I3.out.q ⟨by have:=I3.out.keep.size; omega,by omega,by omega,H0.out.not _ (by omega)⟩);have HSR:=Lib.hid (ironTake_len hr);clear hrd hob' hown' ho K3 C3 hr fa1 ka1 q0;have hrd0:=cellAt RD3.out 0;simp only [List.getElem?_toArray,List.getElem?_cons_zero] at hrd0
      cases r' with
      | cons c r' =>
       gi_wp2
       refine⟨trivial,(CallsIn.inRound l (callsIn_wide.2 (ask_false _ _))).mono ?_⟩;rintro e w' ⟨rfl,rfl⟩;exact⟨rfl,rfl,by rw [HZ4.out]; exact HOF.out.2,by rw [HQ.out,if_neg (by simp)],HOF.out.1⟩
      | nil =>
       have hfa:=HK3.out.box HF.out ⟨by omega,by omega,by omega,H0.out.not _ (by omega)⟩;have fa0:=cellAt hfa 0;have q0:=cellAt Q3.out 0;have fq:=freeAt Q3.out 0;simp only [List.getElem?_toArray,List.getElem?_cons_zero] at fa0 q0;clear hfa;have hsl:=HSR.out;have hln9:=H0.out.len
       have N5:=Lib.hid (H0.out.next (x':=x') (k':=1) HK3.out OB3.out Q3.out
        (by rw [HQ.out,if_pos rfl]; rfl) (by omega) (by simp only [List.length_nil] at hsl; omega))
       have T5:=Lib.hid (H0.out.text HK3.out HBX.out);have F5:=Lib.hid (H0.out.off HK3.out).2;clear hsl hln9
       gi_wp2
       refine⟨trivial,(CallsIn.inRound l (callsIn_wide.2 (ask_true _ _))).mono ?_⟩;rintro e w' ⟨rfl,rfl⟩
       gi_wp2
       exact⟨by rw [HZ4.out]; exact F5.out,⟨_,_,_,N5.out⟩,T5.out⟩
     | false =>
      rw [seesT_no hp];have HJ1:=Lib.hid (show kindFrom (wsI.drop 2) 2 line=J from by rw [← HJJ.out]; exact(if_neg (by rw [hp]; decide)).symm);have I3:=Lib.hid (I2.out.see line);have I4:=Lib.hid (I3.out.inc 2);have q1:=cellAt I3.out.q 0;have fq:=freeAt I3.out.q 0;simp only [List.getElem?_toArray,List.getElem?_cons_zero] at q1;clear hp C2 I2 HJ HJJ q0 fa1 ka0 ka1 ka2 ka3 ka4 ka5 ka6 ka7
      gi_wp2
      exact⟨⟨2,by omega,HJ1.out,I4.out⟩,Nat.lt_of_le_of_lt (Nat.le_of_eq (congrArg (5 - ·) (kOf_at I4.out.q))) (by omega)⟩
    ·have C2:=Lib.hid (sees_any W0.heap.size line [115,116,114,97,107,101] wr I2.out.rd)
     gi_wp2
     refine⟨trivial,?_⟩;refine(CallsIn.inRound l (callsIn_wide.2 C2.out)).mono ?_;rintro e w2 ⟨rfl,rfl⟩
     cases hp:Lib.hasPrefix line [115,116,114,97,107,101] with
     | true =>
      rw [seesT_yes hp];have hJJ:J=2:=by rw [← HJJ.out]; show(if Lib.hasPrefix line [115,116,114,97,107,101]=true then _ else _)=_; rw [if_pos hp]
      have HQ:=Lib.hid (step_bind (J:=2) (u:=line.drop 6) (HJ.out.trans hJJ) (by decide) rfl HR1.out);have I3:=Lib.hid (I2.out.see (line.drop 6));clear hp hJJ C2 I2 HJ HJJ HR1
      show _
      clear fa1 ka0 ka1 ka2 ka3 ka4 ka5 ka6 ka7 q0;generalize World.setCell wr _ _=w2 at *;have hfa:=I3.out.keep.box HF.out ⟨by omega,by omega,by omega,H0.out.not _ (by omega)⟩;have hka:=I3.out.keep.box HKA.out.1 ⟨by omega,by omega,by omega,H0.out.not _ (by omega)⟩;have fa1:=cellAt hfa 1;have ka1:=cellAt hka 5;have q0:=cellAt I3.out.q 0;simp only [List.getElem?_toArray,List.getElem?_cons_zero,List.getElem?_cons_succ] at fa1 ka1 q0;clear hfa hka
      gi_wp2
      refine⟨trivial,?_⟩;refine(CallsIn.inRound l (callsIn_wide.2 (ask_true _ _))).mono ?_;rintro e w' ⟨rfl,rfl⟩
      gi_wp2
      have hdl:(line.drop 6).length≤line.length:=by rw [List.length_drop]; omega
      have C3:=Lib.hid (take118_any I3.out.rd I3.out.ob (by omega) (fun hd=>by have:=(I3.out.lt _ hd).2; omega) (H0.out.not _ (by omega)) (by omega) (I3.out.keep.box HKA.out.2.1 ⟨by omega,by omega,by omega,H0.out.not _ (by omega)⟩) (by omega) (by omega) (H0.out.not _ (by omega)) (by have:=I3.out.keep.size; have:=I3.out.hs; omega) (by have:=H0.out.len; omega));refine⟨trivial,?_⟩;refine(CallsIn.inRound l (callsIn_wide.2 C3.out)).mono ?_;intro e w3 hpost;obtain⟨ho,hh⟩:=hpost;have K3:=I3.out.took ho;have HOF:=Lib.hid (H0.out.off K3)
      cases hr:ironTake 2 x (line.drop 6) with
      | none =>
       rw [hr] at hh HQ;dsimp only at hh HQ;subst hh;exact⟨rfl,rfl,by rw [HZ4.out]; exact HOF.out.2,HQ.out,HOF.out.1⟩
      | some p =>
      obtain⟨x',r'⟩:=p;rw [hr] at hh HQ;dsimp only at HQ;obtain⟨he,hrd,D',hob',hown'⟩:=hh;subst he;have HK3:=Lib.hid K3;have RD3:=Lib.hid hrd;have OB3:=Lib.hid hob';have Q3:=Lib.hid (ho.box I3.out.q ⟨by have:=I3.out.keep.size; omega,by omega,by omega,H0.out.not _ (by omega)⟩);have HSR:=Lib.hid (ironTake_len hr);clear hrd hob' hown' ho K3 C3 hr fa1 ka1 q0;have hrd0:=cellAt RD3.out 0;simp only [List.getElem?_toArray,List.getElem?_cons_zero] at hrd0
      cases r' with
      | cons c r' =>
       gi_wp2
       refine⟨trivial,(CallsIn.inRound l (callsIn_wide.2 (ask_false _ _))).mono ?_⟩;rintro e w' ⟨rfl,rfl⟩;exact⟨rfl,rfl,by rw [HZ4.out]; exact HOF.out.2,by rw [HQ.out,if_neg (by simp)],HOF.out.1⟩
      | nil =>
       have hfa:=HK3.out.box HF.out ⟨by omega,by omega,by omega,H0.out.not _ (by omega)⟩;have fa0:=cellAt hfa 0;have q0:=cellAt Q3.out 0;have fq:=freeAt Q3.out 0;simp only [List.getElem?_toArray,List.getElem?_cons_zero] at fa0 q0;clear hfa;have hsl:=HSR.out;have hln9:=H0.out.len
       have N5:=Lib.hid (H0.out.next (x':=x') (k':=2) HK3.out OB3.out Q3.out
        (by rw [HQ.out,if_pos rfl]; rfl) (by omega) (by simp only [List.length_nil] at hsl; omega))
       have T5:=Lib.hid (H0.out.text HK3.out HBX.out);have F5:=Lib.hid (H0.out.off HK3.out).2;clear hsl hln9
       gi_wp2
       refine⟨trivial,(CallsIn.inRound l (callsIn_wide.2 (ask_true _ _))).mono ?_⟩;rintro e w' ⟨rfl,rfl⟩
       gi_wp2
       exact⟨by rw [HZ4.out]; exact F5.out,⟨_,_,_,N5.out⟩,T5.out⟩
     | false =>
      rw [seesT_no hp];have HJ1:=Lib.hid (show kindFrom (wsI.drop 3) 3 line=J from by rw [← HJJ.out]; exact(if_neg (by rw [hp]; decide)).symm);have I3:=Lib.hid (I2.out.see line);have I4:=Lib.hid (I3.out.inc 3);have q1:=cellAt I3.out.q 0;have fq:=freeAt I3.out.q 0;simp only [List.getElem?_toArray,List.getElem?_cons_zero] at q1;clear hp C2 I2 HJ HJJ q0 fa1 ka0 ka1 ka2 ka3 ka4 ka5 ka6 ka7
      gi_wp2
      exact⟨⟨3,by omega,HJ1.out,I4.out⟩,Nat.lt_of_le_of_lt (Nat.le_of_eq (congrArg (5 - ·) (kOf_at I4.out.q))) (by omega)⟩
    ·have C2:=Lib.hid (sees_any W0.heap.size line [99,108,97,105,109,32] wr I2.out.rd)
     gi_wp2
     refine⟨trivial,?_⟩;refine(CallsIn.inRound l (callsIn_wide.2 C2.out)).mono ?_;rintro e w2 ⟨rfl,rfl⟩
     cases hp:Lib.hasPrefix line [99,108,97,105,109,32] with
     | true =>
      rw [seesT_yes hp];have hJJ:J=3:=by rw [← HJJ.out]; show(if Lib.hasPrefix line [99,108,97,105,109,32]=true then _ else _)=_; rw [if_pos hp]
      have HQ:=Lib.hid (step_bind (J:=3) (u:=line.drop 6) (HJ.out.trans hJJ) (by decide) rfl HR1.out);have I3:=Lib.hid (I2.out.see (line.drop 6));clear hp hJJ C2 I2 HJ HJJ HR1
      show _
      clear fa1 ka0 ka1 ka2 ka3 ka4 ka5 ka6 ka7 q0;generalize World.setCell wr _ _=w2 at *;have hfa:=I3.out.keep.box HF.out ⟨by omega,by omega,by omega,H0.out.not _ (by omega)⟩;have hka:=I3.out.keep.box HKA.out.1 ⟨by omega,by omega,by omega,H0.out.not _ (by omega)⟩;have fa1:=cellAt hfa 1;have ka1:=cellAt hka 7;have q0:=cellAt I3.out.q 0;simp only [List.getElem?_toArray,List.getElem?_cons_zero,List.getElem?_cons_succ] at fa1 ka1 q0;clear hfa hka
      gi_wp2
      refine⟨trivial,?_⟩;refine(CallsIn.inRound l (callsIn_wide.2 (ask_true _ _))).mono ?_;rintro e w' ⟨rfl,rfl⟩
      gi_wp2
      have hdl:(line.drop 6).length≤line.length:=by rw [List.length_drop]; omega
      have C3:=Lib.hid (take119_any I3.out.rd I3.out.ob (by omega) (fun hd=>by have:=(I3.out.lt _ hd).2; omega) (H0.out.not _ (by omega)) (by omega) (I3.out.keep.box HKA.out.2.1 ⟨by omega,by omega,by omega,H0.out.not _ (by omega)⟩) (by omega) (by have:=I3.out.keep.size; have:=I3.out.hs; omega) (by have:=H0.out.len; omega));refine⟨trivial,?_⟩;refine(CallsIn.inRound l (callsIn_wide.2 C3.out)).mono ?_;intro e w3 hpost;obtain⟨ho,hh⟩:=hpost;have K3:=I3.out.took ho;have HOF:=Lib.hid (H0.out.off K3)
      cases hr:ironTake 3 x (line.drop 6) with
      | none =>
       rw [hr] at hh HQ;dsimp only at hh HQ;subst hh;exact⟨rfl,rfl,by rw [HZ4.out]; exact HOF.out.2,HQ.out,HOF.out.1⟩
      | some p =>
      obtain⟨x',r'⟩:=p;rw [hr] at hh HQ;dsimp only at HQ;obtain⟨he,hrd,D',hob',hown'⟩:=hh;subst he;have HK3:=Lib.hid K3;have RD3:=Lib.hid hrd;have OB3:=Lib.hid hob';have Q3:=Lib.hid (ho.box I3.out.q ⟨by have:=I3.out.keep.size; omega,by omega,by omega,H0.out.not _ (by omega)⟩);have HSR:=Lib.hid (ironTake_len hr);clear hrd hob' hown' ho K3 C3 hr fa1 ka1 q0;have hrd0:=cellAt RD3.out 0;simp only [List.getElem?_toArray,List.getElem?_cons_zero] at hrd0
      cases r' with
      | cons c r' =>
       gi_wp2
       refine⟨trivial,(CallsIn.inRound l (callsIn_wide.2 (ask_false _ _))).mono ?_⟩;rintro e w' ⟨rfl,rfl⟩;exact⟨rfl,rfl,by rw [HZ4.out]; exact HOF.out.2,by rw [HQ.out,if_neg (by simp)],HOF.out.1⟩
      | nil =>
       have hfa:=HK3.out.box HF.out ⟨by omega,by omega,by omega,H0.out.not _ (by omega)⟩;have fa0:=cellAt hfa 0;have q0:=cellAt Q3.out 0;have fq:=freeAt Q3.out 0;simp only [List.getElem?_toArray,List.getElem?_cons_zero] at fa0 q0;clear hfa;have hsl:=HSR.out;have hln9:=H0.out.len
       have N5:=Lib.hid (H0.out.next (x':=x') (k':=3) HK3.out OB3.out Q3.out
        (by rw [HQ.out,if_pos rfl]; rfl) (by omega) (by simp only [List.length_nil] at hsl; omega))
       have T5:=Lib.hid (H0.out.text HK3.out HBX.out);have F5:=Lib.hid (H0.out.off HK3.out).2;clear hsl hln9
       gi_wp2
       refine⟨trivial,(CallsIn.inRound l (callsIn_wide.2 (ask_true _ _))).mono ?_⟩;rintro e w' ⟨rfl,rfl⟩
       gi_wp2
       exact⟨by rw [HZ4.out]; exact F5.out,⟨_,_,_,N5.out⟩,T5.out⟩
     | false =>
      rw [seesT_no hp];have HJ1:=Lib.hid (show kindFrom (wsI.drop 4) 4 line=J from by rw [← HJJ.out]; exact(if_neg (by rw [hp]; decide)).symm);have I3:=Lib.hid (I2.out.see line);have I4:=Lib.hid (I3.out.inc 4);have q1:=cellAt I3.out.q 0;have fq:=freeAt I3.out.q 0;simp only [List.getElem?_toArray,List.getElem?_cons_zero] at q1;clear hp C2 I2 HJ HJJ q0 fa1 ka0 ka1 ka2 ka3 ka4 ka5 ka6 ka7
      gi_wp2
      exact⟨⟨4,by omega,HJ1.out,I4.out⟩,Nat.lt_of_le_of_lt (Nat.le_of_eq (congrArg (5 - ·) (kOf_at I4.out.q))) (by omega)⟩
    ·have hJJ:J=4:=by rw [← HJJ.out]; rfl
     have HQ:=Lib.hid (show R=none from by rw [HR1.out]; unfold stepI; rw [lineStep_no (HJ.out.trans hJJ) (by decide)]; rfl);have HOF:=Lib.hid (H0.out.off I2.out.keep);clear hJJ
     gi_wp2
     refine⟨trivial,?_⟩
     gi_wp2
     refine⟨trivial,(CallsIn.inRound l (callsIn_wide.2 (ask_false _ _))).mono ?_⟩;rintro e w' ⟨rfl,rfl⟩;exact⟨rfl,rfl,by rw [HZ4.out]; exact HOF.out.2,HQ.out,HOF.out.1⟩
  case done =>
   rintro W ⟨x,k,D,h⟩ hD;have hR1:R=some (x,k):=by rw [← h.res]; rfl
   have hln:=h.len;have hcn:shapeI.cnt x≤100000:=by omega
   obtain⟨v1,v2,v3,v4,ys,zs,hll,hDD⟩:=h.ob;obtain⟨oa,ma,sa,ca,oc,mc,sc,cc,op,sp,ok,sk,hbx,hII,hBK⟩:=hll.irons hcn hD rfl;obtain⟨X,hX⟩:∃ X,toV x=X:=⟨_,rfl⟩
   rw [hX] at hbx hII hBK;have II:=Lib.hid hII;have BK:=Lib.hid hBK;have HB:=Lib.hid h.bel;have HF:=Lib.hid h.f;have HP:=Lib.hid hbx
   have HX:=Lib.hid (show ∀ W' e,Below w.heap.size w W'→(if ironsB X∧ironsT X=t then(∃ oa ma sa ca oc mc sc cc op sp ok sk,e = .returned (.agg #[.int .i64 X.f,.slice oa X.on oc,.slice ma X.mn mc,.slice sa X.sn sc,.slice ca X.cn cc])∧IronsAt X oa ma sa ca oc mc sc cc op sp ok sk W'∧IrBlk (fun b=>w.heap.size≤b∧Thawed W' b) X oa ma sa ca op sp) else e=err 8)→ReadPostI t w e W' from fun W' e hb he=>by
    refine⟨hb,?_⟩;rw [if_neg ht];unfold readI;rw [HR.out,hR1];dsimp only;rw [← hX] at he;by_cases hc:ironsB (toV x)∧ironsT (toV x)=t
    ·rw [if_pos hc] at he ⊢
     exact he
    ·rw [if_neg hc] at he ⊢
     exact he)
   have tx:=h.tx;have fa2:=cellAt h.f 2;have fa3:=cellAt h.f 3;have p0:=cellAt hbx 0;have p1:=cellAt hbx 1;have p2:=cellAt hbx 2;have p3:=cellAt hbx 3;have p4:=cellAt hbx 4;simp only [List.getElem?_toArray,List.getElem?_cons_zero,List.getElem?_cons_succ] at fa2 fa3 p0 p1 p2 p3 p4;have HDF:=Lib.hid hD;clear hR1 hII hBK h hD HR hbx hll hDD hcn hln hX
   show wpOf 83 9 Tryz.prog _ _ _ _
   refine wpOf_seq_wp ?_;go_wp2_with fail;refine(isIrons_any X oa ma sa ca oc mc sc cc op sp ok sk W II.out).mono ?_;rintro e w5 ⟨rfl,hb5⟩;have B5:=Lib.hid (HB.out.next hb5);have S5:=Lib.hid (II.out.grow hb5);have F5:=HF.out.grow hb5;have P5:=Lib.hid (HP.out.grow hb5);have D5:=Lib.hid (show w5.heap[w4.heap.size]? = some (.deferred (some [])) from(hb5.block _ (Array.getElem?_eq_some_iff.1 HDF.out).1).trans HDF.out);have fa2:=cellAt F5 2;have p0:=cellAt P5.out 0;have p1:=cellAt P5.out 1;have p2:=cellAt P5.out 2;have p3:=cellAt P5.out 3;have p4:=cellAt P5.out 4;simp only [List.getElem?_toArray,List.getElem?_cons_zero,List.getElem?_cons_succ] at fa2 p0 p1 p2 p3 p4;have BK5:=Lib.hid (BK.out.imp fun b hb=>(⟨hb.1,hb.2.grow hb5⟩:_∧Thawed w5 b));clear hb5 F5 II HF HP HDF HB BK
   cases hB:ironsB X with
   | false =>
    have HX2:=Lib.hid (show ∀ W',Below w.heap.size w W'→ReadPostI t w (err 8) W' from fun W' hb=>HX.out W' _ hb (by rw [if_neg (by rw [hB]; simp)]));clear hB HX;go_wp2_with fail;refine(ask_false _ _).mono ?_;rintro e w' ⟨rfl,rfl⟩;refine⟨by simp,.inl ⟨_,_,rfl,run_takeDeferred D5.out,?_⟩⟩;exact HX2.out _ (B5.out.grown (grownBy_putObj' w5 _ _) B5.out.size (fun k e=>by cases e; rw [HZ4.out]; omega))
   | true =>
    have HOK:=Lib.hid (irons_ok hB);go_wp2_with fail;refine(irons5_any X oa ma sa ca oc mc sc cc op sp ok sk w5 S5.out HOK.out (HT.out.grow B5.out)).mono ?_;rintro e w6 ⟨rfl,hb6⟩;have B6:=Lib.hid (B5.out.next hb6);have S6:=Lib.hid (S5.out.grow hb6);have P6:=Lib.hid (P5.out.grow hb6);have D6:=Lib.hid (show w6.heap[w4.heap.size]? = some (.deferred (some [])) from(hb6.block _ (Array.getElem?_eq_some_iff.1 D5.out).1).trans D5.out);have p0:=cellAt P6.out 0;have p1:=cellAt P6.out 1;have p2:=cellAt P6.out 2;have p3:=cellAt P6.out 3;have p4:=cellAt P6.out 4;simp only [List.getElem?_toArray,List.getElem?_cons_zero,List.getElem?_cons_succ] at p0 p1 p2 p3 p4;have BK6:=Lib.hid (BK5.out.imp fun b hb=>(⟨hb.1,hb.2.grow hb6⟩:_∧Thawed w6 b));clear hb6 S5 P5 D5 B5 fa2 BK5;by_cases hT:ironsT X=t
    ·have HX3:=Lib.hid (fun W' e hb h=>HX.out W' e hb (by rw [if_pos ⟨hB,hT⟩]; exact h))
     rw [hT];clear hB HX hT;have r0:=freeAt P6.out 0;have r1:=freeAt P6.out 1;have r2:=freeAt P6.out 2;have r3:=freeAt P6.out 3;have r4:=freeAt P6.out 4;go_wp2_with fail;refine(ask_true _ _).mono ?_;rintro e w' ⟨rfl,rfl⟩;go_wp2_with fail
     have P7:=Lib.hid (show BoxAt (((((w6.setCell ⟨w.heap.size+1,0,none⟩ (.int .i64 X.f)).setCell ⟨w.heap.size+1,1,none⟩ (.slice oa X.on oc)).setCell ⟨w.heap.size+1,2,none⟩ (.slice ma X.mn mc)).setCell ⟨w.heap.size+1,3,none⟩ (.slice sa X.sn sc)).setCell ⟨w.heap.size+1,4,none⟩ (.slice ca X.cn cc)) (w.heap.size+1) #[.int .i64 X.f,.slice oa X.on oc,.slice ma X.mn mc,.slice sa X.sn sc,.slice ca X.cn cc] 34 from
      ((((P6.out.store 0 (.int .i64 X.f)).store 1 (.slice oa X.on oc)).store 2 (.slice ma X.mn mc)).store 3 (.slice sa X.sn sc)).store 4 (.slice ca X.cn cc))
     have hk7:Keep (fun k=>k≠w.heap.size+1) w6 (((((w6.setCell ⟨w.heap.size+1,0,none⟩ (.int .i64 X.f)).setCell ⟨w.heap.size+1,1,none⟩ (.slice oa X.on oc)).setCell ⟨w.heap.size+1,2,none⟩ (.slice ma X.mn mc)).setCell ⟨w.heap.size+1,3,none⟩ (.slice sa X.sn sc)).setCell ⟨w.heap.size+1,4,none⟩ (.slice ca X.cn cc)) :=
      Keep.set (Keep.set (Keep.set (Keep.set (Keep.set (Keep.refl _ _) _ _ _ (fun h=>h rfl)) _ _ _ (fun h=>h rfl)) _ _ _ (fun h=>h rfl)) _ _ _ (fun h=>h rfl)) _ _ _ (fun h=>h rfl)
     have B7:=Lib.hid (show Below w.heap.size w _ from B6.out.trans (hk7.to_below (fun k hk=>by omega)));have S7:=Lib.hid (S6.out.keep hk7 (BK6.out.imp fun b hb=>by have:=hb.1.1; omega));have BK7:=Lib.hid (BK6.out.imp fun b hb=>(⟨hb.1,hb.2.keep hk7 (by have:=hb.1.1; omega)⟩:_∧Thawed _ b));have D7:=Lib.hid ((hk7.block w4.heap.size (by rw [HZ4.out]; omega)).trans D6.out);clear hk7 S6 B6 D6;refine wpOf_seq_wp ?_;go_wp2_with fail;generalize World.setCell (World.setCell (World.setCell (World.setCell (World.setCell w6 _ _) _ _) _ _) _ _) _ _=w7 at *;clear p0 p1 p2 p3 p4 r0 r1 r2 r3 r4;refine wpOf_of_wp ?_;go_wp2_with fail;refine⟨by simp,.inl ⟨_,_,rfl,run_takeDeferred D7.out,?_⟩⟩;have hk8:Keep (fun k=>k<w7.heap.size∧k≠w4.heap.size) w7 (w7.putObj w4.heap.size (.deferred none)):=Keep.putObj _ _ _;have P8:=hk8.box P7.out ⟨lt_of_heap P7.out,by rw [HZ4.out]; omega⟩;have p0:=cellAt P8 0;have p1:=cellAt P8 1;have p2:=cellAt P8 2;have p3:=cellAt P8 3;have p4:=cellAt P8 4;simp only [List.getElem?_toArray,List.getElem?_cons_zero,List.getElem?_cons_succ] at p0 p1 p2 p3 p4;refine⟨.agg #[.int .i64 X.f,.slice oa X.on oc,.slice ma X.mn mc,.slice sa X.sn sc,.slice ca X.cn cc],by simp [results,Tryz.results83,go_sem,p0,p1,p2,p3,p4],HX3.out _ _ (B7.out.grown (grownBy_putObj' w7 _ _) B7.out.size (fun k e=>by cases e; rw [HZ4.out]; omega)) ⟨oa,ma,sa,ca,oc,mc,sc,cc,op,sp,ok,sk,rfl,?_,((BK7.out.old S7.out).imp fun b hb=>⟨by have:=hb.1.1.1; omega,hb.1.2.keep hk8 ⟨hb.2,hb.1.1.2⟩⟩)⟩⟩;exact S7.out.keep hk8 ((BK7.out.old S7.out).imp fun b hb=>⟨hb.2,hb.1.1.2⟩)
    ·have HX3:=Lib.hid (fun W' hb=>HX.out W' (err 8) hb (by rw [if_neg (fun h=>hT h.2)]))
     have HTT:=Lib.hid hT;clear hB HX hT;go_wp2_with fail;rw [show(ironsT X==t)=false from beq_eq_false_iff_ne.2 HTT.out];refine(ask_false _ _).mono ?_;rintro e w' ⟨rfl,rfl⟩;refine⟨by simp,.inl ⟨_,_,rfl,run_takeDeferred D6.out,?_⟩⟩;exact HX3.out _ (B6.out.grown (grownBy_putObj' w6 _ _) B6.out.size (fun k e=>by cases e; rw [HZ4.out]; omega))
  case pan =>
   rintro W ⟨hR,hb⟩ hD;refine⟨by simp,.inl ⟨_,_,rfl,run_takeDeferred hD,?_⟩⟩;refine⟨hb.grown (grownBy_putObj' W _ _) hb.size (fun k e=>by cases e; rw [HZ4.out]; omega),?_⟩;rw [if_neg ht];unfold readI;rw [HR.out,hR];rfl
end Go.Proofs.YtclbmlmlhiiaeaaGreatDoor
namespace Go.Proofs.YtclbmlmlhiiaeaaGreatDoor
open Go.RowKit
def noI:IrR:=⟨0,[],[],[],[]⟩
def ironRes(t:List UInt8):Int×IrR:=if 1000<t.length then(3,noI) else match readI t with
 | none=>(8,noI)
 | some x=>(0,x)
def ReadIronsPost(t:List UInt8)(w:World)(e:Ending)(w':World):Prop :=
 Below w.heap.size w w' ∧ ∃ oa ma sa ca oc mc sc cc op sp ok sk,e = .returned (.tuple #[.agg #[.int .i64 (toV (ironRes t).2).f,.slice oa (toV (ironRes t).2).on oc,.slice ma (toV (ironRes t).2).mn mc,.slice sa (toV (ironRes t).2).sn sc,.slice ca (toV (ironRes t).2).cn cc],.int .i64 (ironRes t).1])∧IronsAt (toV (ironRes t).2) oa ma sa ca oc mc sc cc op sp ok sk w'∧IrBlk (fun b=>w.heap.size≤b∧Thawed w' b) (toV (ironRes t).2) oa ma sa ca op sp
theorem irons_none(w:World):IronsAt (toV noI) none none none none 0 0 0 0 (fun _=>none) (fun _=>none) (fun _=>0) (fun _=>0) w :=
 ⟨row_none _ _ _,fun i hi=>absurd hi (Nat.not_lt_zero i),row_none _ _ _,row_none _ _ _,fun i hi=>absurd hi (Nat.not_lt_zero i),row_none _ _ _⟩
theorem ReadIronsPost.no{t:List UInt8}{w w':World}{x:Int}(hR:ironRes t=(x,noI))(hb:Below w.heap.size w w'):ReadIronsPost t w (.returned (.tuple #[.agg #[.int .i64 0,.slice none 0 0,.slice none 0 0,.slice none 0 0,.slice none 0 0],.int .i64 x])) w':=by
 refine⟨hb,none,none,none,none,0,0,0,0,fun _=>none,fun _=>none,fun _=>0,fun _=>0,?_⟩;rw [hR];exact⟨rfl,irons_none _,⟨fun h=>absurd h (Nat.lt_irrefl 0),fun i h=>absurd h (Nat.not_lt_zero i),fun h=>absurd h (Nat.lt_irrefl 0),fun h=>absurd h (Nat.lt_irrefl 0),fun i h=>absurd h (Nat.not_lt_zero i),fun h=>absurd h (Nat.lt_irrefl 0)⟩⟩
structure RI2 (w W:World):Prop where
 bel:Below w.heap.size w W
 a:BoxAt W w.heap.size #[.int .i64 0,.slice none 0 0,.slice none 0 0,.slice none 0 0,.slice none 0 0] 34
 e:BoxAt W (w.heap.size+1) #[.int .i64 0] 41
theorem RI2.grow{w W W':World}(h:RI2 w W)(hb:Below W.heap.size W W'):RI2 w W':=⟨h.bel.next hb,h.a.grow hb,h.e.grow hb⟩
set_option maxRecDepth 100000 in
set_option maxHeartbeats 4000000 in
theorem readIrons39_any(t:List UInt8)(w:World)(hlim:Lim w)(htab:Tab w)(h1:1<w.heap.size) :
  Calls Tryz.prog 39 #[.string ⟨t.toArray⟩] w (ReadIronsPost t w):=by
 have I0:=Lib.hid (show RI2 w ((w.alloc (.cells #[.int .i64 0,.slice none 0 0,.slice none 0 0,.slice none 0 0,.slice none 0 0] 34)).alloc (.cells #[.int .i64 0] 41)) from by
  obtain⟨z0,z1,-,hB⟩:=blocks2 (show(w.alloc (.cells #[.int .i64 0,.slice none 0 0,.slice none 0 0,.slice none 0 0,.slice none 0 0] 34)).alloc (.cells #[.int .i64 0] 41)=_ from rfl)
  exact⟨hB,z0,z1⟩)
 have HL:=Lib.hid hlim;have HT:=Lib.hid htab;clear hlim htab
 go_enter_defers Tryz.func39,Tryz.ntmps39
 go_upto_region 2 with (fail)
 generalize World.alloc _ _=W at *;go_wp2_with (go_at_call 60; refine(filesIrons_any _).mono ?_);rintro e w1 ⟨rfl,hb1,hk1⟩;have hWz:=I0.out.bel.size;have HK:=Lib.hid hk1;have I1:=Lib.hid (I0.out.grow hb1);have hWz1:w.heap.size+1<W.heap.size:=lt_of_heap I0.out.e;have hkb:1<W.heap.size+2:=by omega
 generalize W.heap.size+2=kb at *;clear hb1 hk1 I0;go_wp2_with fail;have C2:=Lib.hid (read83_any kb t w1 HK.out (HL.out.keep (Keep.of_below I1.out.bel (C:=fun k=>k<w.heap.size) fun k hk=>hk) h1) (HT.out.grow I1.out.bel) hkb);refine C2.out.mono ?_;intro e w2 hpost;obtain⟨hb2,hh⟩:=hpost;have I2:=Lib.hid (I1.out.grow hb2);have r0:=cellAt I2.out.e 0;have f0:=freeAt I2.out.e 0;have a0:=cellAt I2.out.a 0;have a1:=cellAt I2.out.a 1;have a2:=cellAt I2.out.a 2;have a3:=cellAt I2.out.a 3;have a4:=cellAt I2.out.a 4;have fa0:=freeAt I2.out.a 0;have fa1:=freeAt I2.out.a 1;have fa2:=freeAt I2.out.a 2;have fa3:=freeAt I2.out.a 3;have fa4:=freeAt I2.out.a 4;simp only [List.getElem?_toArray,List.getElem?_cons_zero,List.getElem?_cons_succ] at r0 a0 a1 a2 a3 a4;by_cases ht:1000<t.length
 ·rw [if_pos ht] at hh
  subst hh;have HR:=Lib.hid (show ironRes t=(3,noI) from if_pos ht);clear hb2 ht;simp only [err];refine leaves_cons (f:=52) (args:=#[bp (w.heap.size+1)]) (by simp) (by simp [go_sem]) ?_;refine(answer_panicking _ 0 3 [] _ I2.out.e).mono ?_;rintro e u' w'' ⟨rfl,rfl,rfl⟩;simp [Leaves,settle,results,Tryz.results39,go_sem,r0,a0,a1,a2,a3,a4];exact ReadIronsPost.no HR.out (I2.out.bel.setCell (by dsimp only; omega) _)
 ·rw [if_neg ht] at hh
  cases hr:readI t with
  | none =>
   rw [hr] at hh;have he:e=err 8:=hh;subst he;have HR:=Lib.hid (show ironRes t=(8,noI) from by unfold ironRes; rw [if_neg ht,hr]);clear hb2 ht hr hh;simp only [err];refine leaves_cons (f:=52) (args:=#[bp (w.heap.size+1)]) (by simp) (by simp [go_sem]) ?_;refine(answer_panicking _ 0 8 [] _ I2.out.e).mono ?_;rintro e u' w'' ⟨rfl,rfl,rfl⟩;simp [Leaves,settle,results,Tryz.results39,go_sem,r0,a0,a1,a2,a3,a4];exact ReadIronsPost.no HR.out (I2.out.bel.setCell (by dsimp only; omega) _)
  | some x =>
   rw [hr] at hh;have HR:=Lib.hid (show ironRes t=(0,x) from by unfold ironRes; rw [if_neg ht,hr]);obtain⟨oa,ma,sa,ca,oc,mc,sc,cc,op,sp,ok,sk,he,hI,hB⟩:=hh;subst he
   have HX:=Lib.hid (show ∀ W',Below w.heap.size w W'→IronsAt (toV x) oa ma sa ca oc mc sc cc op sp ok sk W'→IrBlk (fun b=>w.heap.size≤b∧Thawed W' b) (toV x) oa ma sa ca op sp→ReadIronsPost t w (.returned (.tuple #[.agg #[.int .i64 (toV x).f,.slice oa (toV x).on oc,.slice ma (toV x).mn mc,.slice sa (toV x).sn sc,.slice ca (toV x).cn cc],.int .i64 0])) W' from fun W' h1 h2 h3=>by
    refine⟨h1,oa,ma,sa,ca,oc,mc,sc,cc,op,sp,ok,sk,?_⟩;rw [HR.out]
    exact⟨rfl,h2,h3⟩)
   generalize toV x=X at *;have hk3:Keep (fun k=>k≠w.heap.size∧k≠w.heap.size+1) w2 ((((((w2.setCell ⟨w.heap.size,0,none⟩ (.int .i64 X.f)).setCell ⟨w.heap.size,1,none⟩ (.slice oa X.on oc)).setCell ⟨w.heap.size,2,none⟩ (.slice ma X.mn mc)).setCell ⟨w.heap.size,3,none⟩ (.slice sa X.sn sc)).setCell ⟨w.heap.size,4,none⟩ (.slice ca X.cn cc)).setCell ⟨w.heap.size+1,0,none⟩ (.int .i64 0)):=Keep.set (Keep.set (Keep.set (Keep.set (Keep.set (Keep.set (Keep.refl _ _) _ _ _ (fun h=>h.1 rfl)) _ _ _ (fun h=>h.1 rfl)) _ _ _ (fun h=>h.1 rfl)) _ _ _ (fun h=>h.1 rfl)) _ _ _ (fun h=>h.1 rfl)) _ _ _ (fun h=>h.2 rfl);have hsz:=I1.out.bel.size;have hl1:=lt_of_heap I1.out.e;have S3:=Lib.hid (hI.keep hk3 (hB.imp fun b hb=>by have:=hb.1; omega));have B3:=Lib.hid (show Below w.heap.size w ((((((w2.setCell ⟨w.heap.size,0,none⟩ (.int .i64 X.f)).setCell ⟨w.heap.size,1,none⟩ (.slice oa X.on oc)).setCell ⟨w.heap.size,2,none⟩ (.slice ma X.mn mc)).setCell ⟨w.heap.size,3,none⟩ (.slice sa X.sn sc)).setCell ⟨w.heap.size,4,none⟩ (.slice ca X.cn cc)).setCell ⟨w.heap.size+1,0,none⟩ (.int .i64 0)) from I2.out.bel.trans (hk3.to_below (fun k hk=>by omega)));have HSB:=Lib.hid (hB.imp fun b hb=>(⟨by have:=hb.1; omega,hb.2.keep hk3 (by have:=hb.1; omega)⟩:w.heap.size≤b∧Thawed _ b))
   have A3:=Lib.hid (show BoxAt ((((((w2.setCell ⟨w.heap.size,0,none⟩ (.int .i64 X.f)).setCell ⟨w.heap.size,1,none⟩ (.slice oa X.on oc)).setCell ⟨w.heap.size,2,none⟩ (.slice ma X.mn mc)).setCell ⟨w.heap.size,3,none⟩ (.slice sa X.sn sc)).setCell ⟨w.heap.size,4,none⟩ (.slice ca X.cn cc)).setCell ⟨w.heap.size+1,0,none⟩ (.int .i64 0)) w.heap.size #[.int .i64 X.f,.slice oa X.on oc,.slice ma X.mn mc,.slice sa X.sn sc,.slice ca X.cn cc] 34 from
    BoxAt.set (((((I2.out.a.store 0 (.int .i64 X.f)).store 1 (.slice oa X.on oc)).store 2 (.slice ma X.mn mc)).store 3 (.slice sa X.sn sc)).store 4 (.slice ca X.cn cc)) _ _ (by dsimp only; omega))
   have E3:=Lib.hid (show BoxAt ((((((w2.setCell ⟨w.heap.size,0,none⟩ (.int .i64 X.f)).setCell ⟨w.heap.size,1,none⟩ (.slice oa X.on oc)).setCell ⟨w.heap.size,2,none⟩ (.slice ma X.mn mc)).setCell ⟨w.heap.size,3,none⟩ (.slice sa X.sn sc)).setCell ⟨w.heap.size,4,none⟩ (.slice ca X.cn cc)).setCell ⟨w.heap.size+1,0,none⟩ (.int .i64 0)) (w.heap.size+1) #[.int .i64 0] 41 from
    BoxAt.store (BoxAt.set (BoxAt.set (BoxAt.set (BoxAt.set (BoxAt.set (I2.out.e) _ _ (by dsimp only; omega)) _ _ (by dsimp only; omega)) _ _ (by dsimp only; omega)) _ _ (by dsimp only; omega)) _ _ (by dsimp only; omega)) 0 _)
   clear hb2 ht hr hI hB hk3 C2 HK HR;go_wp2_with fail;clear r0 f0 a0 a1 a2 a3 a4 fa0 fa1 fa2 fa3 fa4 I2;generalize World.setCell (World.setCell (World.setCell (World.setCell (World.setCell (World.setCell w2 _ _) _ _) _ _) _ _) _ _) _ _=w3 at *;have r0:=cellAt E3.out 0;have a0:=cellAt A3.out 0;have a1:=cellAt A3.out 1;have a2:=cellAt A3.out 2;have a3:=cellAt A3.out 3;have a4:=cellAt A3.out 4;simp only [List.getElem?_toArray,List.getElem?_cons_zero,List.getElem?_cons_succ] at r0 a0 a1 a2 a3 a4;refine leaves_cons (f:=52) (args:=#[bp (w.heap.size+1)]) (by simp) (by simp [go_sem]) ?_;refine(answer_idle _ _).mono ?_;rintro e u' w'' ⟨rfl,rfl,rfl⟩;simp [Leaves,settle,results,Tryz.results39,go_sem,r0,a0,a1,a2,a3,a4];exact HX.out _ B3.out S3.out HSB.out
end Go.Proofs.YtclbmlmlhiiaeaaGreatDoor
