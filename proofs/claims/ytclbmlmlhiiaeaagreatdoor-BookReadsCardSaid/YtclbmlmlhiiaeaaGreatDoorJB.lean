/- How irons stand while the reference reads them. -/
import Derived.Test.YtclbmlmlhiiaeaaGreatDoorQJ1
import Derived.Test.YtclbmlmlhiiaeaaGreatDoorJ9
namespace Go.Proofs.YtclbmlmlhiiaeaaGreatDoor
open Go.RowKit
structure IrRows (base:Nat) (x:IrR) (v1 v2 v3 v4:Value) (ys zs:List Value) (W:World):Prop where
 o:W.ownsRow base 26 1 v1 x.own.length ys
 m:W.ownsRow base 3 1 v2 x.most.length (intsV x.most)
 s:W.ownsRow base 85 1 v3 x.str.length zs
 c:W.ownsRow base 82 3 v4 x.cl.length (claimVs x.cl)
 oi:Nest (fun y l=>W.ownsRow base 3 1 y l.length (intsV l)∧l.length≤100000 ∧ ∀ g,y.ownBlock=some g→v2.ownBlock≠some g) ys x.own
 si:Nest (fun y l=>W.ownsRow base 149 3 y l.length (markVs l)∧l.length≤100000) zs x.str
section
variable {base pb:Nat} {x:IrR} {v v1 v2 v3 v4 y:Value} {ys zs:List Value} {A B W W2:World} {C:Nat→Prop}
theorem IrRows.keep(h:IrRows base x v1 v2 v3 v4 ys zs A)(hk:Keep C A B)(hg:∀ g,IrD v1 v2 v3 v4 ys zs g→C g):IrRows base x v1 v2 v3 v4 ys zs B :=
 ⟨hk.row h.o fun g e=>hg g (.inl e),hk.row h.m fun g e=>hg g (.inr (.inl e)),hk.row h.s fun g e=>hg g (.inr (.inr (.inl e))),hk.row h.c fun g e=>hg g (.inr (.inr (.inr (.inl e)))),
  h.oi.imp fun y _ hy hh=>⟨hk.row hh.1 fun g e=>hg g (.inr (.inr (.inr (.inr (.inl ⟨y,hy,e⟩))))),hh.2⟩,h.si.imp fun y _ hy hh=>⟨hk.row hh.1 fun g e=>hg g (.inr (.inr (.inr (.inr (.inr ⟨y,hy,e⟩))))),hh.2⟩⟩
theorem IrRows.lt(h:IrRows base x v1 v2 v3 v4 ys zs W){g:Nat}(hd:IrD v1 v2 v3 v4 ys zs g):base≤g∧g<W.heap.size:=by
 rcases hd with e | e | e | e | ⟨y,hy,e⟩ | ⟨y,hy,e⟩
 ·exact h.o.lt g e
 ·exact h.m.lt g e
 ·exact h.s.lt g e
 ·exact h.c.lt g e
 ·obtain⟨l,hl⟩:=h.oi.mem y hy
  exact hl.1.lt g e
 ·obtain⟨l,hl⟩:=h.si.mem y hy
  exact hl.1.lt g e
theorem IrRows.app1(h:IrRows base x v1 v2 v3 v4 ys zs W){l:List Int}(hy:W.ownsRow base 3 1 y l.length (intsV l))(hl:l.length≤100000)(hv:∀ g,y.ownBlock=some g→v2.ownBlock≠some g)(hg:W.grownBy W2 v1.ownBlock)(hw:W2.ownsRow base 26 1 v (x.own.length+1) (ys ++ [y])) :
  IrRows base {x with own:=x.own ++ [l]} v v2 v3 v4 (ys ++ [y]) zs W2:=by
 have ka:=keep_grown hg;have kr:∀ {E z n:Nat} {u:Value} {us:List Value},W.ownsRow base E z u n us→E≠26→W2.ownsRow base E z u n us:=fun hr hE=>ka.row hr fun g e=>⟨(hr.lt g e).2,fun e2=>own_apart hr h.o hE g e e2.symm⟩
 exact⟨by rw [List.length_append]; exact hw,kr h.m (by decide),kr h.s (by decide),kr h.c (by decide),(h.oi.imp fun y' _ _ hh=>⟨kr hh.1 (by decide),hh.2⟩).snoc ⟨kr hy (by decide),hl,hv⟩,h.si.imp fun _ _ _ hh=>⟨kr hh.1 (by decide),hh.2⟩⟩
theorem IrRows.app2(h:IrRows base x v1 v2 v3 v4 ys zs W){n:Int}(hg:W.grownBy W2 v2.ownBlock)(hw:W2.ownsRow base 3 1 v (x.most.length+1) (intsV x.most ++ [.int .i64 n]))(hor:∀ g,v.ownBlock=some g→v2.ownBlock=some g∨g=W.heap.size) :
  IrRows base {x with most:=x.most ++ [n]} v1 v v3 v4 ys zs W2:=by
 have ka:=keep_grown hg;have kr:∀ {E z n:Nat} {u:Value} {us:List Value},W.ownsRow base E z u n us→E≠3→W2.ownsRow base E z u n us:=fun hr hE=>ka.row hr fun g e=>⟨(hr.lt g e).2,fun e2=>own_apart hr h.m hE g e e2.symm⟩
 exact⟨kr h.o (by decide),by rw [List.length_append,intsV_snoc]; exact hw,kr h.s (by decide),kr h.c (by decide),h.oi.imp fun y' _ _ hh=>⟨ka.row hh.1 fun g e=>⟨(hh.1.lt g e).2,fun e2=>hh.2.2 g e e2.symm⟩,hh.2.1,fun g e e2=>by
  rcases hor g e2 with h3 | h3
  ·exact hh.2.2 g e h3
  ·have:=(hh.1.lt g e).2
   omega⟩,h.si.imp fun _ _ _ hh=>⟨kr hh.1 (by decide),hh.2⟩⟩
theorem IrRows.app3(h:IrRows base x v1 v2 v3 v4 ys zs W){l:List (Int×Int×Int)}(hy:W.ownsRow base 149 3 y l.length (markVs l))(hl:l.length≤100000)(hg:W.grownBy W2 v3.ownBlock)(hw:W2.ownsRow base 85 1 v (x.str.length+1) (zs ++ [y])) :
  IrRows base {x with str:=x.str ++ [l]} v1 v2 v v4 ys (zs ++ [y]) W2:=by
 have ka:=keep_grown hg;have kr:∀ {E z n:Nat} {u:Value} {us:List Value},W.ownsRow base E z u n us→E≠85→W2.ownsRow base E z u n us:=fun hr hE=>ka.row hr fun g e=>⟨(hr.lt g e).2,fun e2=>own_apart hr h.s hE g e e2.symm⟩
 exact⟨kr h.o (by decide),kr h.m (by decide),by rw [List.length_append]; exact hw,kr h.c (by decide),h.oi.imp fun y' _ _ hh=>⟨kr hh.1 (by decide),hh.2⟩,(h.si.imp fun _ _ _ hh=>⟨kr hh.1 (by decide),hh.2⟩).snoc ⟨kr hy (by decide),hl⟩⟩
theorem IrRows.app4(h:IrRows base x v1 v2 v3 v4 ys zs W){c:Int×Int×Bool}(hg:W.grownBy W2 v4.ownBlock)(hw:W2.ownsRow base 82 3 v (x.cl.length+1) (claimVs x.cl ++ [.int .i64 c.1,.int .i64 c.2.1,.bool c.2.2])) :
  IrRows base {x with cl:=x.cl ++ [c]} v1 v2 v3 v ys zs W2:=by
 have ka:=keep_grown hg;have kr:∀ {E z n:Nat} {u:Value} {us:List Value},W.ownsRow base E z u n us→E≠82→W2.ownsRow base E z u n us:=fun hr hE=>ka.row hr fun g e=>⟨(hr.lt g e).2,fun e2=>own_apart hr h.c hE g e e2.symm⟩
 exact⟨kr h.o (by decide),kr h.m (by decide),kr h.s (by decide),by rw [List.length_append,claimVs_snoc]; exact hw,h.oi.imp fun y' _ _ hh=>⟨kr hh.1 (by decide),hh.2⟩,h.si.imp fun _ _ _ hh=>⟨kr hh.1 (by decide),hh.2⟩⟩
end
structure RdI (w:World) (la:Option Addr) (ls:List (List UInt8)) (s1:Nat) (x:IrR) (ob:Array Value) (v1 v2 v3 v4:Value) (ys zs:List Value) (W:World):Prop where
 bel:Below w.heap.size w W
 lr:StrsAt W la ls
 ll:0<ls.length→w.heap.size+2≤blk la∧blk la<s1
 r:BoxAt W w.heap.size #[.int .i64 0,.slice none 0 0,.slice none 0 0,.slice none 0 0,.slice none 0 0] 34
 ow:BoxAt W (w.heap.size+1) ob 34
 rows:IrRows s1 x v1 v2 v3 v4 ys zs W
 size:s1≤W.heap.size
 low:w.heap.size+2≤s1
structure PaI (s1:Nat) (pa:Option Addr) (p:List (List UInt8)) (D:Nat→Prop) (W:World):Prop where
 row:StrsAt W pa p
 lo:0<p.length→s1≤blk pa
 ne:0<p.length → ¬ D (blk pa)
section
variable {w W W2:World} {la pa:Option Addr} {ls p:List (List UInt8)} {s1:Nat} {x x':IrR} {ob:Array Value} {v v1 v2 v3 v4 u1 u2 u3 u4:Value} {ys zs ys' zs':List Value} {C D D':Nat→Prop} {row:Option Nat}
theorem RdI.keep(h:RdI w la ls s1 x ob v1 v2 v3 v4 ys zs W)(hk:Keep C W W2)(hC:∀ k,k<s1→C k)(hg:∀ g,IrD v1 v2 v3 v4 ys zs g→C g):RdI w la ls s1 x ob v1 v2 v3 v4 ys zs W2:=by
 have lo:=h.low;exact⟨h.bel.trans (hk.to_below fun k hk=>hC k (by omega)),Row.keep h.lr hk fun hn=>hC _ (h.ll hn).2,h.ll,hk.box h.r (hC _ (by omega)),hk.box h.ow (hC _ (by omega)),h.rows.keep hk hg,Nat.le_trans h.size hk.size,lo⟩
theorem RdI.grow(h:RdI w la ls s1 x ob v1 v2 v3 v4 ys zs W)(hb:Below W.heap.size W W2):RdI w la ls s1 x ob v1 v2 v3 v4 ys zs W2 :=
 h.keep (Keep.of_below hb (C:=fun k=>k<W.heap.size) fun _ hk=>hk) (fun _ hk=>Nat.lt_of_lt_of_le hk h.size) fun _ hd=>(h.rows.lt hd).2
theorem RdI.next(h:RdI w la ls s1 x ob v1 v2 v3 v4 ys zs W)(hg:W.grownBy W2 row)(hr:∀ k,row=some k→s1≤k)(hw:IrRows s1 x' u1 u2 u3 u4 ys' zs' W2):RdI w la ls s1 x' ob u1 u2 u3 u4 ys' zs' W2:=by
 have ka:=keep_grown hg;have lo:=h.low;have sz:=h.size;have ne:∀ k,k<s1→k<W.heap.size∧some k≠row:=fun k hk=>⟨by omega,fun e=>by have:=hr k e.symm; omega⟩
 exact⟨h.bel.trans (ka.to_below fun k hk=>ne k (by omega)),Row.keep h.lr ka fun hn=>ne _ (h.ll hn).2,h.ll,ka.box h.r (ne _ (by omega)),ka.box h.ow (ne _ (by omega)),hw,Nat.le_trans sz ka.size,lo⟩
theorem RdI.put(h:RdI w la ls s1 x ob v1 v2 v3 v4 ys zs W)(i:Nat)(v:Value):RdI w la ls s1 x (ob.setIfInBounds i v) v1 v2 v3 v4 ys zs (W.setCell ⟨w.heap.size+1,i,none⟩ v):=by
 have ks:Keep (fun k=>k≠w.heap.size+1) W (W.setCell ⟨w.heap.size+1,i,none⟩ v):=(Keep.refl _ W).set _ i _ (fun h=>h rfl);have lo:=h.low;exact⟨Below.setCell h.bel (by (try dsimp only); omega) _,Row.keep h.lr ks fun hn=>by have:=h.ll hn; omega,h.ll,ks.box h.r (by omega),BoxAt.store h.ow i _,h.rows.keep ks fun g hd=>by have:=(h.rows.lt hd).1; omega,by rw [size_setCell]; exact h.size,lo⟩
theorem RdI.num(h:RdI w la ls s1 x ob v1 v2 v3 v4 ys zs W)(n:Int):RdI w la ls s1 {x with f:=n} ob v1 v2 v3 v4 ys zs W:=⟨h.bel,h.lr,h.ll,h.r,h.ow,⟨h.rows.o,h.rows.m,h.rows.s,h.rows.c,h.rows.oi,h.rows.si⟩,h.size,h.low⟩
theorem PaI.new(h:RdI w la ls s1 x ob v1 v2 v3 v4 ys zs W)(hp:StrsAt W2 pa p)(hn:0<p.length→W.heap.size≤blk pa):PaI s1 pa p (IrD v1 v2 v3 v4 ys zs) W2 :=
 ⟨hp,fun h0=>Nat.le_trans h.size (hn h0),fun h0 hd=>by have:=(h.rows.lt hd).2; have:=hn h0; omega⟩
theorem PaI.keep(h:PaI s1 pa p D W)(hk:Keep C W W2)(hb:0<p.length→C (blk pa)):PaI s1 pa p D W2:=⟨Row.keep h.row hk hb,h.lo,h.ne⟩
theorem PaI.grow(h:PaI s1 pa p D W)(hb:Below W.heap.size W W2):PaI s1 pa p D W2:=⟨h.row.grow hb,h.lo,h.ne⟩
theorem PaI.next(h:PaI s1 pa p D W)(hg:W.grownBy W2 row)(hr:∀ k,row=some k→D k)(hD:∀ g,D' g→D g∨blk pa<g):PaI s1 pa p D' W2 :=
 ⟨Row.keep h.row (keep_grown hg) fun hn=>⟨h.row.old hn,fun e=>h.ne hn (hr _ e.symm)⟩,h.lo,fun hn hd=>by
  rcases hD _ hd with e | e
  ·exact h.ne hn e
  ·omega⟩
theorem PaI.put(h:PaI s1 pa p D W)(b i:Nat)(v:Value)(hb:b<s1):PaI s1 pa p D (W.setCell ⟨b,i,none⟩ v):=by
 have ks:Keep (fun k=>k≠b) W (W.setCell ⟨b,i,none⟩ v):=(Keep.refl _ W).set _ i _ (fun h=>h rfl);exact h.keep ks fun hn=>by have:=h.lo hn; omega
end
theorem rowN_own{w:World}{base n sz:Nat}{E:TypeId}{v:Value}{xs:List Value}{cell:Nat→Nat→Value}(h:w.ownsRow base E sz v n xs)(hn:n≤100000)(hc:∀ i,i<n → ∀ j,j<sz→xs[i * sz+j]? = some (cell i j)) :
  v = .slice (sliceA v) n (sliceC v)∧Row w (sliceA v) n sz cell∧(0<n→base≤blk (sliceA v)):=by
 obtain⟨oa,cap,rfl,hR,hB,_⟩:=rowN_of h (by unfold maxLen; omega) hc;exact⟨rfl,hR,hB⟩
theorem IrRows.irons{base:Nat}{x:IrR}{v1 v2 v3 v4:Value}{ys zs:List Value}{W:World}(h:IrRows base x v1 v2 v3 v4 ys zs W)(hc:x.own.length≤100000∧x.most.length≤100000∧x.str.length≤100000∧x.cl.length≤100000) :
  ∃ oa ma sa ca oc mc sc cc op sp ok sk,v1 = .slice oa (toV x).on oc∧v2 = .slice ma (toV x).mn mc∧v3 = .slice sa (toV x).sn sc∧v4 = .slice ca (toV x).cn cc∧IronsAt (toV x) oa ma sa ca oc mc sc cc op sp ok sk W∧IrBlk (fun b=>base≤b) (toV x) oa ma sa ca op sp:=by
 have hoi:∀ i,i<x.own.length→ys[i]? = some (.slice (sliceA (ys.getD i undef)) (x.own.getD i []).length (sliceC (ys.getD i undef)))∧IntsAt W (sliceA (ys.getD i undef)) (x.own.getD i []).length (intOf' (x.own.getD i []))∧(0<(x.own.getD i []).length→base≤blk (sliceA (ys.getD i undef))):=by
  intro i hi;obtain⟨hh,hg,hm⟩:=h.oi.get [] i hi;obtain⟨e,hr,hb⟩:=rowN_own hh.1 hh.2.1 (fun i hi j hj=>intsV_get _ i hi j hj);exact⟨hg.trans (congrArg some e),hr,hb⟩
 have hsi:∀ i,i<x.str.length→zs[i]? = some (.slice (sliceA (zs.getD i undef)) (x.str.getD i []).length (sliceC (zs.getD i undef)))∧MarksAt W (sliceA (zs.getD i undef)) (x.str.getD i []).length (fun j=>markOf ((x.str.getD i []).getD j (0,0,0)))∧(0<(x.str.getD i []).length→base≤blk (sliceA (zs.getD i undef))):=by
  intro i hi;obtain⟨hh,hg,hm⟩:=h.si.get [] i hi;obtain⟨e,hr,hb⟩:=rowN_own hh.1 hh.2 (fun i hi j hj=>markVs_get _ i hi j hj);exact⟨hg.trans (congrArg some e),hr,hb⟩
 obtain⟨e1,r1,b1⟩:=rowN_own (cell:=fun i _=>.slice (sliceA (ys.getD i undef)) (x.own.getD i []).length (sliceC (ys.getD i undef))) h.o hc.1 (fun i hi j hj=>by
  obtain rfl:j=0:=by omega
  rw [Nat.mul_one,Nat.add_zero]
  exact(hoi i hi).1)
 obtain⟨e2,r2,b2⟩:=rowN_own h.m hc.2.1 (fun i hi j hj=>intsV_get _ i hi j hj)
 obtain⟨e3,r3,b3⟩:=rowN_own (cell:=fun i _=>.slice (sliceA (zs.getD i undef)) (x.str.getD i []).length (sliceC (zs.getD i undef))) h.s hc.2.2.1 (fun i hi j hj=>by
  obtain rfl:j=0:=by omega
  rw [Nat.mul_one,Nat.add_zero]
  exact(hsi i hi).1)
 obtain⟨e4,r4,b4⟩:=rowN_own h.c hc.2.2.2 (fun i hi j hj=>claimVs_get _ i hi j hj);exact⟨sliceA v1,sliceA v2,sliceA v3,sliceA v4,sliceC v1,sliceC v2,sliceC v3,sliceC v4,fun i=>sliceA (ys.getD i undef),fun i=>sliceA (zs.getD i undef),fun i=>sliceC (ys.getD i undef),fun i=>sliceC (zs.getD i undef),e1,e2,e3,e4,⟨r1,fun i hi=>(hoi i hi).2.1,r2,r3,fun i hi=>(hsi i hi).2.1,r4⟩,⟨b1,fun i hi=>(hoi i hi).2.2,b2,b3,fun i hi=>(hsi i hi).2.2,b4⟩⟩
structure IrLen (k:Nat) (x:IrR):Prop where
 o:x.own.length≤k
 m:x.most.length≤k
 s:x.str.length≤k
 c:x.cl.length≤k
theorem IrLen.l1{k i:Nat}{x:IrR}{p:List (List UInt8)}(h:IrLen k x):IrLen k (irL1 i x p):=by
 unfold irL1
 split
 ·exact⟨h.o,h.m,h.s,h.c⟩
 ·exact h
theorem IrLen.up{k:Nat}{x:IrR}(h:IrLen k x):IrLen (k+1) x:=⟨Nat.le_succ_of_le h.o,Nat.le_succ_of_le h.m,Nat.le_succ_of_le h.s,Nat.le_succ_of_le h.c⟩
theorem IrLen.l2{k:Nat}{x:IrR}{p:List (List UInt8)}(h:IrLen k x):IrLen (k+1) (irL2 x p):=by
 unfold irL2
 split
 ·exact⟨by have:=h.o; rw [List.length_append,List.length_singleton]; omega,by have:=h.m; rw [List.length_append,List.length_singleton]; omega,h.up.s,h.up.c⟩
 ·exact h.up
theorem IrLen.l3{k:Nat}{x:IrR}{p:List (List UInt8)}(h:IrLen k x):IrLen (k+1) (irL3 x p):=by
 unfold irL3
 split
 ·exact⟨h.up.o,h.up.m,by have:=h.s; rw [List.length_append,List.length_singleton]; omega,h.up.c⟩
 ·exact h.up
theorem IrLen.l4{k:Nat}{x:IrR}{p:List (List UInt8)}(h:IrLen k x):IrLen (k+1) (irL4 x p):=by
 unfold irL4
 split
 ·exact⟨h.up.o,h.up.m,h.up.s,by have:=h.c; rw [List.length_append,List.length_singleton]; omega⟩
 ·exact h.up
theorem fold_irons(ls:List (List UInt8)):∀ k,IrLen (3 * k) (foldN irL ⟨-1,[],[],[],[]⟩ ls k)
 | 0=>⟨Nat.le_refl _,Nat.le_refl _,Nat.le_refl _,Nat.le_refl _⟩
 | k+1=>(fold_irons ls k).l1.l2.l3.l4
theorem ownN_len(p:List (List UInt8)):∀ k,(ownN p k).length=k
 | 0=>rfl
 | k+1=>by
  show(ownN p k ++ [_]).length=_
  rw [List.length_append,ownN_len p k];rfl
theorem markN_len(p:List (List UInt8)):∀ k,(markN p k).length=k
 | 0=>rfl
 | k+1=>by
  show(markN p k ++ [_]).length=_
  rw [List.length_append,markN_len p k];rfl
end Go.Proofs.YtclbmlmlhiiaeaaGreatDoor
