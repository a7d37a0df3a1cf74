/- A region that draws its order and stores to cells that it lo -/
import Derived.Deep.RegionHeld
import Derived.WalkKit
import Derived.WalkSpells
import Derived.Lib.Hide
import Derived.OwnWalkIn
import Derived.OrdersIn
import Derived.Deep.RegionHeld3
import Derived.Test.YtclbmlmlhiiaeaaGreatDoorProg
import Derived.WalkLawsBesides
import Derived.Deep.QuietTactic
import Derived.BigQuiet
import Derived.Deep.DrawnRows
import Derived.Laws.BitsAllLaws
import Derived.Laws.ShiftsVarLaws
import Derived.Lib.BitFns
import Derived.KernelRfl
import Derived.Laws.AppendOwn
import Derived.BigRegion
import Derived.RegionTactic
import Derived.Defers
import Derived.Recover
import Derived.IntWalk
import Derived.Deep.AppendLies
namespace Go.Proofs.YtclbmlmlhiiaeaaGreatDoor
section
variable {P:Program} {ops:Array Oper} {Q:Exit→Act→World→Prop} {md:Region.Mode} {S:World→Prop} {L:List (Nat×(World→Prop))} {D:List (Nat×Nat)}
def Stg(S:World→Prop)(L:List (Nat×(World→Prop)))(l:Array Bool)(w:World):Prop:=S w ∧ ∀ e ∈ L,l.getD e.1 true=false→e.2 w
def StgAt(S:World→Prop)(L:List (Nat×(World→Prop)))(D:List (Nat×Nat))(i:Nat)(w:World):Prop:=S w ∧ ∀ e ∈ L,D.contains (e.1,i)=true→e.2 w
def waitsB(md:Region.Mode)(ops:Array Oper)(D:List (Nat×Nat)):Bool :=
 D.all fun d=>match ops[d.1]? with
  | some o=>o.after.any fun e=>Region.binds md e&&e.on==d.2
  | none=>false
def Cls(D:List (Nat×Nat))(l:Array Bool):Prop := ∀ d ∈ D,l.getD d.2 true=false→l.getD d.1 true=false
theorem getD_set_self{l:Array Bool}{i:Nat}:(l.setIfInBounds i true).getD i true=true:=by
 by_cases h:i<l.size
 ·simp [h]
 ·simp [h]
theorem Cls.next(hD:waitsB md ops D=true){l:Array Bool}(h:Cls D l){j:Nat}(hj:j ∈ Region.ready md ops l):Cls D (l.setIfInBounds j true):=fun d hd h2=>by
 have hdj:d.2≠j:=fun e=>by rw [e,getD_set_self] at h2; cases h2
 rw [getD_set_ne true (fun e=>hdj e.symm)] at h2;have h1:=h d hd h2;by_cases e:d.1=j
 ·exfalso
  obtain⟨_,o,ho,hall⟩:=mem_ready.1 hj;have hw:=List.all_eq_true.1 hD d hd;rw [e,ho] at hw;obtain⟨b,hb,hbe⟩:=Array.any_eq_true'.1 hw;rw [Bool.and_eq_true,beq_iff_eq] at hbe;have h3:=hall b hb hbe.1;rw [hbe.2] at h3;rcases Nat.lt_or_ge d.2 l.size with h' | h'
  ·simp [h'] at h3 h2; rw [h2] at h3; cases h3
  ·simp [Array.getElem?_eq_none h'] at h3
 ·rw [getD_set_ne true (fun x=>e x.symm)]; exact h1
def wpAnyT(P:Program)(md:Region.Mode)(ops:Array Oper)(Q:Exit→Act→World→Prop)(S:World→Prop)(L:List (Nat×(World→Prop))):Nat→Array Bool→Act→World→Prop
 | 0,l,a,w=>Region.ready md ops l = []∧Q .normal a w
 | n+1,l,a,w=>(Region.ready md ops l = []→Q .normal a w) ∧
  ∀ i ∈ Region.ready md ops l,wpOp P ops Q i (fun a' w'=>Stg S L (l.setIfInBounds i true) w'∧wpAnyT P md ops Q S L n (l.setIfInBounds i true) a' w') a w
theorem wpAny_of_stg:∀ (n:Nat) (l:Array Bool) (a:Act) (w:World),wpAnyT P md ops Q S L n l a w→wpAny P md ops Q n l a w
 | 0,_,_,_,h=>h
 | n+1,_,_,_,h=>⟨h.1,fun i hi=>wpOp_mono (fun a' w' h'=>wpAny_of_stg n _ a' w' h'.2) (h.2 i hi)⟩
theorem Stg.set{l:Array Bool}{w:World}{i:Nat}(hL:∀ e ∈ L,e.1≠i):Stg S L (l.setIfInBounds i true) w↔Stg S L l w:=by
 unfold Stg;refine and_congr Iff.rfl ⟨fun h e he h2=>h e he ?_,fun h e he h2=>h e he ?_⟩
 ·rw [getD_set_ne true (fun x=>hL e he x.symm)]; exact h2
 ·rwa [getD_set_ne true (fun x=>hL e he x.symm)] at h2
theorem Stg.at{l:Array Bool}{w:World}{i:Nat}(h:Stg S L l w)(hc:Cls D l)(hi:l.getD i true=false):StgAt S L D i w :=
 ⟨h.1,fun e he hd=>h.2 e he (hc (e.1,i) (by simpa using hd) hi)⟩
theorem wpAnyT_first{i:Nat}{oi:Oper}{v:Value}(hi:ops[i]? = some oi)(hsel:∀ (j:Nat) (o:Oper) cs b,ops[j]? = some o→o.op ≠ .select cs b)
  (hQ:∀ c a w,Q (.panic c) (a.put oi.dst v) w→Q (.panic c) a w) (hD:waitsB md ops D=true) (hL:∀ e ∈ L,e.1≠i) :
  ∀ (n:Nat) (l:Array Bool) (a:Act) (w:World),Cls D l →
   (∀ j oj,ops[j]? = some oj→j≠i→l.getD j true=false→(∀ e ∈ oj.after,Region.binds md e=true→e.on≠i)→oi.apart ops oj=true) →
   i ∈ Region.ready md ops l→YieldsIf P ops (StgAt S L D i) oi v a→Stg S L l w →
   wpAnyT P md ops Q S L n (l.setIfInBounds i true) (a.put oi.dst v) w→wpAnyT P md ops Q S L (n+1) l a w:=by
 intro n
 induction n with
 | zero =>
  intro l a w hc _ hr hy hS H;refine⟨(fun h=>by rw [h] at hr; cases hr),fun j hj=>?_⟩;by_cases hji:j=i
  ·subst hji
   exact hy.wpOp hi (hS.at hc (mem_ready.1 hr).1) ⟨(Stg.set hL).2 hS,H⟩
  ·have:=ready_mono hj hji
   rw [H.1] at this
   cases this
 | succ n ih =>
  intro l a w hc hfree hr hy hS H;refine⟨(fun h=>by rw [h] at hr; cases hr),fun j hj=>?_⟩;by_cases hji:j=i
  ·subst hji
   exact hy.wpOp hi (hS.at hc (mem_ready.1 hr).1) ⟨(Stg.set hL).2 hS,H⟩
  ·obtain⟨hjun,oj,hoj,hall⟩:=mem_ready.1 hj
   have hno:∀ e ∈ oj.after,Region.binds md e=true→e.on≠i:=fun e he hb heq=>by
    have h1:=hall e he hb;have h0:=(mem_ready.1 hr).1;rw [heq] at h1;rcases Nat.lt_or_ge i l.size with h' | h'
    ·simp [h'] at h0 h1; rw [h0] at h1; cases h1
    ·simp [Array.getElem?_eq_none h'] at h1
   have h2:=wpOp_putIf hoj (hfree j oj hoj hji hjun hno) (fun cs b=>hsel i oi cs b hi) (fun cs b=>hsel j oj cs b hoj) hQ hy (H.2 j (ready_mono hj hji));refine wpOp_mono (fun a' w' h3=>?_) h2;have h4:=h3.2;rw [Array.setIfInBounds_comm _ _ (fun x=>hji x.symm)] at h4;have hSj:=(Stg.set hL).1 h4.1;refine⟨hSj,ih (l.setIfInBounds j true) a' w' (hc.next hD hj) (fun k ok hk hki hun hn=>hfree k ok hk hki ?_ hn) (ready_mono hr (Ne.symm hji)) h3.1 hSj h4.2⟩;by_cases hjk:j=k
   ·subst hjk; exact hjun
   ·rwa [getD_set_ne true hjk] at hun
theorem wpAnyT_take{i:Nat}{oi:Oper}{v:Value}{n:Nat}{l:Array Bool}{a:Act}{w:World}(hi:ops[i]? = some oi)(hs:Region.noSelect ops=true)(hf:Region.free md ops l i=true)
  (hr:(Region.ready md ops l).contains i=true) (hQ:∀ c a w,Q (.panic c) (a.put oi.dst v) w→Q (.panic c) a w) (hD:waitsB md ops D=true) (hL:(L.map Prod.fst).all (fun k=>decide (k≠i))=true)
  (hc:Cls D l) (hy:YieldsIf P ops (StgAt S L D i) oi v a) (hS:Stg S L l w)
  (h:Cls D (l.setIfInBounds i true)→Stg S L (l.setIfInBounds i true) w→wpAnyT P md ops Q S L n (l.setIfInBounds i true) (a.put oi.dst v) w):wpAnyT P md ops Q S L (n+1) l a w:=by
 have hL':∀ e ∈ L,e.1≠i:=fun e he=>of_decide_eq_true (List.all_eq_true.1 hL e.1 (List.mem_map_of_mem he));have hr':i ∈ Region.ready md ops l:=by simpa using hr
 exact wpAnyT_first hi (Region.noSelect_spec hs) hQ hD hL' n l a w hc (Region.free_spec hi hf) hr' hy hS (h (hc.next hD hr') ((Stg.set hL').2 hS))
theorem wpAnyT_one{i:Nat}{o:Oper}{n:Nat}{l:Array Bool}{a:Act}{w:World}(hr:Region.ready md ops l = [i])(ho:ops[i]? = some o)(hD:waitsB md ops D=true)(hc:Cls D l)
  (h:∀ K':Act→World→Prop,Shut (∀ a w,Stg S L (l.setIfInBounds i true) w→(Cls D (l.setIfInBounds i true)→Stg S L (l.setIfInBounds i true) w→wpAnyT P md ops Q S L n (l.setIfInBounds i true) a w)→K' a w)→if Region.wanted o (yielded ops a.tmps)=true then Oper.wp P o a w K' Q else K' (a.put o.dst undef) w) :
  wpAnyT P md ops Q S L (n+1) l a w:=by
 refine⟨(fun h0=>by rw [hr] at h0; cases h0),fun j hj=>?_⟩;have hj2:=hj;rw [hr,List.mem_singleton] at hj;subst hj;exact wpOp_step ho fun K' hK=>h K' fun a w hS hW=>hK a w ⟨hS,hW (hc.next hD hj2) hS⟩
theorem tkA{i:Nat}{oi:Oper}{v:Value}{n:Nat}{l:Array Bool}{a:Act}{w:World}(hi:ops.toList[i]? = some oi)(hc:Cls D l)(hy:YieldsIf P ops (StgAt S L D i) oi v a)(hS:Stg S L l w)
 (h:Cls D (l.setIfInBounds i true)→Stg S L (l.setIfInBounds i true) w→wpAnyT P md ops Q S L n (l.setIfInBounds i true) (a.put oi.dst v) w) (hs:Region.noSelect ops=true:=by kernel_rfl) (hf:Region.free md ops l i=true:=by kernel_rfl)
 (hr:(Region.ready md ops l).contains i=true:=by kernel_rfl) (hQ:∀ c a w,Q (.panic c) (a.put oi.dst v) w→Q (.panic c) a w:=by exact fun _ _ _ h=>h) (hD:waitsB md ops D=true:=by kernel_rfl) (hL:(L.map Prod.fst).all (fun k=>decide (k≠i))=true:=by rfl):wpAnyT P md ops Q S L (n+1) l a w :=
 wpAnyT_take (by rw [← Array.getElem?_toList]; exact hi) hs hf hr hQ hD hL hc hy hS h
theorem onA{i:Nat}{o:Oper}{n:Nat}{l:Array Bool}{a:Act}{w:World}(ho:ops.toList[i]? = some o)(hc:Cls D l)
 (h:∀ K':Act→World→Prop,Shut (∀ a w,Stg S L (l.setIfInBounds i true) w→(Cls D (l.setIfInBounds i true)→Stg S L (l.setIfInBounds i true) w→wpAnyT P md ops Q S L n (l.setIfInBounds i true) a w)→K' a w)→if Region.wanted o (yielded ops a.tmps)=true then Oper.wp P o a w K' Q else K' (a.put o.dst undef) w)
 (hr:Region.ready md ops l = [i]:=by kernel_rfl) (hD:waitsB md ops D=true:=by kernel_rfl):wpAnyT P md ops Q S L (n+1) l a w :=
 wpAnyT_one hr (by rw [← Array.getElem?_toList]; exact ho) hD hc h
theorem wpAnyT_done{l:Array Bool}{a:Act}{w:World}(hr:Region.ready md ops l = [])(h:Q .normal a w):∀ n,wpAnyT P md ops Q S L n l a w
 | 0=>⟨hr,h⟩
 | _+1=>⟨fun _=>h,by rw [hr]; simp⟩
theorem wp_region_stg{id:Nat}{a:Act}{w:World}(hm:P.follows .mixedOrders=true)(hD:(D.all fun d=>decide (d.1<ops.size)&&decide (d.2<ops.size))=true)(hS:S w.drew)(hL:∀ e ∈ L,e.2 w.drew)
  (h:Cls D (Array.replicate ops.size false)→Stg S L (Array.replicate ops.size false) w.drew→wpAnyT P .any ops Q S L ops.size (Array.replicate ops.size false) a w.drew):(Code.region id ops true).wp P Q a w :=
 wp_region_any hm (wpAny_of_stg _ _ _ _ (h (fun d hd _=>by
  have hh:=List.all_eq_true.1 hD d hd;rw [Bool.and_eq_true,decide_eq_true_eq] at hh
  simp [hh.1]) ⟨hS,fun e he _=>hL e he⟩))
end
open Go.RowKit
def blk:Option Addr→Nat
 | some a=>a.block
 | none=>0
def ofs:Option Addr→Nat
 | some a=>a.off
 | none=>0
structure Row (w:World) (oa:Option Addr) (n sz:Nat) (cell:Nat→Nat→Value):Prop where
 plain:0<n→oa=some ⟨blk oa,ofs oa,none⟩
 old:0<n→blk oa<w.heap.size
 small:n≤maxLen
 cells:∀ i,i<n → ∀ j,j<sz→w.cell? ⟨blk oa,ofs oa+i * sz+j,none⟩=some (cell i j)
theorem Row.below{B:Nat}{w w':World}{oa:Option Addr}{n sz:Nat}{cell:Nat→Nat→Value}(h:Row w oa n sz cell)(hb:Below B w w')(hB:0<n→blk oa<B):Row w' oa n sz cell where
 plain:=h.plain
 old:=fun hn=>Nat.lt_of_lt_of_le (h.old hn) hb.size
 small:=h.small
 cells:=fun i hi j hj=>(hb.cell (p:=⟨blk oa,_,none⟩) (hB (by omega))).trans (h.cells i hi j hj)
theorem Row.grow{w w':World}{oa:Option Addr}{n sz:Nat}{cell:Nat→Nat→Value}(h:Row w oa n sz cell)(hb:Below w.heap.size w w'):Row w' oa n sz cell :=
 h.below hb h.old
theorem run_indexAt_row{P:Program}{t e:TypeId}{sz:Nat}{w:World}{oa:Option Addr}{n cap k:Nat}(ht:P.underlying t=some (.slice e))(hs:(P.info? e).map (·.size)=some sz)(hoa:oa=some ⟨blk oa,ofs oa,none⟩)(hk:k<n) :
  (Instr.indexAt t (.slice oa n cap) (.int .i64 k)).run P w = .ok (.pointer (some ⟨blk oa,ofs oa+k * sz,none⟩)) w:=by
 rw [hoa];obtain⟨i,hi,hz⟩:=Option.map_eq_some_iff.1 hs;simp [Instr.indexAt,go_sem,run_underlying ht,asIntOf,hk,sizeOf,typeInfo,hi,hz,Addr.add,blk,ofs]
theorem heapAlloc(w:World)(o:Obj)(i:Nat):(w.alloc o).heap[i]? = if i=w.heap.size then some o else w.heap[i]? := by
 show(w.heap.push o)[i]? = _
 rw [Array.getElem?_push]
theorem sizeAlloc(w:World)(o:Obj):(w.alloc o).heap.size=w.heap.size+1:=by
 show(w.heap.push o).size=_
 simp
theorem blocks1{w W:World}{a:Obj}(h:w.alloc a=W):W.heap[w.heap.size]? = some a∧W.heap.size=w.heap.size+1∧Below w.heap.size w W:=by
 subst h;exact⟨by simp only [heapAlloc,if_true],by simp only [sizeAlloc],(Below.refl _ _).alloc (Nat.le_refl _) _⟩
theorem blocks2{w W:World}{a b:Obj}(h:(w.alloc a).alloc b=W):W.heap[w.heap.size]? = some a∧W.heap[w.heap.size+1]? = some b∧W.heap.size=w.heap.size+2∧Below w.heap.size w W:=by
 subst h;refine⟨?_,?_,by simp only [sizeAlloc],((Below.refl _ _).alloc (Nat.le_refl _) _).alloc (by simp) _⟩
 ·simp only [heapAlloc,sizeAlloc]; repeat (first | rfl | rw [if_pos trivial] | rw [if_neg (by omega)])
 ·simp only [heapAlloc,sizeAlloc]; repeat (first | rfl | rw [if_pos trivial] | rw [if_neg (by omega)])
theorem blocks3{w W:World}{a b c:Obj}(h:((w.alloc a).alloc b).alloc c=W):W.heap[w.heap.size]? = some a∧W.heap[w.heap.size+1]? = some b∧W.heap[w.heap.size+1+1]? = some c∧W.heap.size=w.heap.size+3∧Below w.heap.size w W:=by
 subst h;refine⟨?_,?_,?_,by simp only [sizeAlloc],(((Below.refl _ _).alloc (Nat.le_refl _) _).alloc (by simp) _).alloc (by simp; omega) _⟩
 ·simp only [heapAlloc,sizeAlloc]; repeat (first | rfl | rw [if_pos trivial] | rw [if_neg (by omega)])
 ·simp only [heapAlloc,sizeAlloc]; repeat (first | rfl | rw [if_pos trivial] | rw [if_neg (by omega)])
 ·simp only [heapAlloc,sizeAlloc]; repeat (first | rfl | rw [if_pos trivial] | rw [if_neg (by omega)])
theorem blocks4{w W:World}{a b c d:Obj}(h:(((w.alloc a).alloc b).alloc c).alloc d=W):W.heap[w.heap.size]? = some a∧W.heap[w.heap.size+1]? = some b∧W.heap[w.heap.size+1+1]? = some c∧W.heap[w.heap.size+1+1+1]? = some d∧W.heap.size=w.heap.size+4∧Below w.heap.size w W:=by
 subst h;refine⟨?_,?_,?_,?_,by simp only [sizeAlloc],((((Below.refl _ _).alloc (Nat.le_refl _) _).alloc (by simp) _).alloc (by simp; omega) _).alloc (by simp; omega) _⟩
 ·simp only [heapAlloc,sizeAlloc]; repeat (first | rfl | rw [if_pos trivial] | rw [if_neg (by omega)])
 ·simp only [heapAlloc,sizeAlloc]; repeat (first | rfl | rw [if_pos trivial] | rw [if_neg (by omega)])
 ·simp only [heapAlloc,sizeAlloc]; repeat (first | rfl | rw [if_pos trivial] | rw [if_neg (by omega)])
 ·simp only [heapAlloc,sizeAlloc]; repeat (first | rfl | rw [if_pos trivial] | rw [if_neg (by omega)])
theorem blocks5{w W:World}{a b c d e:Obj}(h:((((w.alloc a).alloc b).alloc c).alloc d).alloc e=W):W.heap[w.heap.size]? = some a∧W.heap[w.heap.size+1]? = some b∧W.heap[w.heap.size+1+1]? = some c∧W.heap[w.heap.size+1+1+1]? = some d∧W.heap[w.heap.size+1+1+1+1]? = some e∧W.heap.size=w.heap.size+5∧Below w.heap.size w W:=by
 subst h;refine⟨?_,?_,?_,?_,?_,by simp only [sizeAlloc],(((((Below.refl _ _).alloc (Nat.le_refl _) _).alloc (by simp) _).alloc (by simp; omega) _).alloc (by simp; omega) _).alloc (by simp; omega) _⟩
 ·simp only [heapAlloc,sizeAlloc]; repeat (first | rfl | rw [if_pos trivial] | rw [if_neg (by omega)])
 ·simp only [heapAlloc,sizeAlloc]; repeat (first | rfl | rw [if_pos trivial] | rw [if_neg (by omega)])
 ·simp only [heapAlloc,sizeAlloc]; repeat (first | rfl | rw [if_pos trivial] | rw [if_neg (by omega)])
 ·simp only [heapAlloc,sizeAlloc]; repeat (first | rfl | rw [if_pos trivial] | rw [if_neg (by omega)])
 ·simp only [heapAlloc,sizeAlloc]; repeat (first | rfl | rw [if_pos trivial] | rw [if_neg (by omega)])
theorem cellAt{w:World}{b:Nat}{cs:Array Value}{t:TypeId}{fr:Nat×Nat}(h:w.heap[b]? = some (.cells cs t fr))(i:Nat):w.cell? ⟨b,i,none⟩=cs[i]? := by simp [World.cell?,h]
theorem freeAt{w:World}{b:Nat}{cs:Array Value}{t:TypeId}(h:w.heap[b]? = some (.cells cs t (0,0)))(i:Nat):w.frozen? ⟨b,i,none⟩=false:=by simp [World.frozen?,h]
theorem lt_of_heap{w:World}{b:Nat}{o:Obj}(h:w.heap[b]? = some o):b<w.heap.size:=(Array.getElem?_eq_some_iff.1 h).1
def IntsAt(w:World)(oa:Option Addr)(n:Nat)(f:Nat→Int):Prop:=Row w oa n 1 (fun i _=>.int .i64 (f i))
theorem IntsAt.grow{w w':World}{oa:Option Addr}{n:Nat}{f:Nat→Int}(h:IntsAt w oa n f)(hb:Below w.heap.size w w'):IntsAt w' oa n f:=Row.grow h hb
theorem IntsAt.at{w:World}{oa:Option Addr}{n:Nat}{f:Nat→Int}(h:IntsAt w oa n f){k:Nat}(hk:k<n):w.cell? ⟨blk oa,ofs oa+k,none⟩=some (.int .i64 (f k)):=by
 have:=h.cells k hk 0 (by omega);simpa using this
def inB(n lo hi:Int):Bool:=decide (lo≤n)&&decide (n≤hi)
theorem inB_iff{n lo hi:Int}:inB n lo hi=true↔lo≤n∧n≤hi:=by simp [inB]
theorem ret_bool{a b:Bool}(h:a=b):Ending.returned (.bool a) = .returned (.bool b):=by rw [h]
theorem ret_int{k:IntKind}{a b:Int}(h:a=b):Ending.returned (.int k a) = .returned (.int k b):=by rw [h]
theorem below_drewN{B:Nat}{a w:World}(h:Below B a w)(n:Nat):Below B a (w.drewN n):=⟨h.os,h.tape,h.output,h.size,h.block⟩
theorem size3:(Tryz.prog.info? 3).map (·.size)=some 1:=by kernel_rfl
theorem size_setCell(w:World)(a:Addr)(v:Value):(w.setCell a v).heap.size=w.heap.size:=by simp [World.setCell]
def BoxAt(wr:World)(b:Nat)(x:Array Value)(t:TypeId):Prop:=wr.heap[b]? = some (.cells x t (0,0))
theorem BoxAt.kept{w w':World}{b:Nat}{x:Array Value}{t:TypeId}{row:Option Nat}(h:BoxAt w b x t)(hg:w.grownBy w' row)(hne:some b≠row):BoxAt w' b x t :=
 (hg.block b (lt_of_heap h) hne).trans h
theorem BoxAt.grow{w w':World}{b:Nat}{x:Array Value}{t:TypeId}(h:BoxAt w b x t)(hb:Below w.heap.size w w'):BoxAt w' b x t :=
 (hb.block b (lt_of_heap h)).trans h
abbrev bp(b:Nat):Value:=.pointer (some ⟨b,0,none⟩)
theorem _root_.Go.RowKit.Below.next{a b c:World}(h:Below a.heap.size a b)(k:Below b.heap.size b c):Below a.heap.size a c:=h.trans (k.mono h.size)
theorem BoxAt.set{w:World}{b:Nat}{x:Array Value}{t:TypeId}(h:BoxAt w b x t)(p:Addr)(v:Value)(hn:p.block≠b):BoxAt (w.setCell p v) b x t :=
 (Below.heap_setCell w p v b (fun e=>hn e.symm)).trans h
theorem BoxAt.store{w:World}{b:Nat}{xs:Array Value}{t:TypeId}(h:BoxAt w b xs t)(i:Nat)(v:Value):BoxAt (w.setCell ⟨b,i,none⟩ v) b (xs.setIfInBounds i v) t:=by
 unfold BoxAt at h ⊢;simp [World.setCell,Array.getElem?_modify,h]
set_option maxHeartbeats 400000 in
theorem within_any(n lo hi:Int)(w:World) :
  Calls Tryz.prog 122 #[.int .i64 n,.int .i64 lo,.int .i64 hi] w fun e w'=>e = .returned (.bool (inB n lo hi))∧w=w':=by
 go_enter Tryz.func122,Tryz.ntmps122
 go_wp2
 all_goals
  go_ret;simp [inB];omega
set_option maxHeartbeats 400000 in
theorem ask_true(x:Int)(w:World) :
  Calls Tryz.prog 62 #[.bool true,.int .i64 x] w fun e w'=>e = .returned (.tuple #[])∧w=w':=by
 go_enter Tryz.func62,Tryz.ntmps62
 go_wp2
 go_end0
 exact⟨rfl,rfl⟩
set_option maxHeartbeats 400000 in
theorem ask_false(x:Int)(w:World) :
  Calls Tryz.prog 62 #[.bool false,.int .i64 x] w fun e w'=>e = .panicked [{v:=.iface 152 (.int .i64 x),recovered:=false}]∧w=w':=by
 go_enter Tryz.func62,Tryz.ntmps62
 go_wp2
 exact⟨rfl,rfl,rfl⟩
def err(x:Int):Ending:=.panicked [{v:=.iface 152 (.int .i64 x),recovered:=false}]
set_option maxRecDepth 100000 in
set_option maxHeartbeats 800000 in
theorem answer_idle(b:Nat)(w:World) :
  CallsD Tryz.prog 52 #[bp b] .returning w fun e u' w'=>e = .returned (.tuple #[])∧u' = .returning∧w'=w:=by
 refine callsD_of_wpS Tryz.func52 rfl fun c₀ cs hu=>?_;apply wpS_seq;apply wpS_region;simp [wpOpsS,go_sem,recoverD,hu,Tryz.ntmps52,Exit.thenS];have hq:∀ w,(binOp .neq 20 .nilIface .nilIface).run Tryz.prog w = .ok (.bool false) w:=fun _=>by kernel_rfl
 apply wpS_seq;apply wpS_region;simp [wpOpsS,go_sem,recoverD,hu,hq,Exit.thenS];refine wpS_cond (t:=false) (by simp [Act.eval,Array.replicate]) ?_;simp only [Bool.false_eq_true,if_false];refine wpS_of_wp (wp_skip ?_)
 cases c₀
 simp_all [bodyPostS,results]
set_option maxRecDepth 100000 in
set_option maxHeartbeats 800000 in
theorem answer_panicking(b:Nat)(y x:Int)(older:List PanicEntry)(w:World)(hb:BoxAt w b #[.int .i64 y] 41) :
  CallsD Tryz.prog 52 #[bp b] (.panicking ({v:=.iface 152 (.int .i64 x),recovered:=false}::older)) w fun e u' w' =>
   e = .returned (.tuple #[])∧u' = .panicking ({v:=.iface 152 (.int .i64 x),recovered:=true}::older)∧w'=w.setCell ⟨b,0,none⟩ (.int .i64 x):=by
 have c0:=cellAt hb 0;have f0:=freeAt hb 0;simp only [List.getElem?_toArray,List.getElem?_cons_zero] at c0;refine callsD_of_wpS Tryz.func52 rfl fun c₀ cs hu=>?_;apply wpS_seq;apply wpS_region;simp [wpOpsS,go_sem,recoverD,hu,Tryz.ntmps52,Exit.thenS];have hq:∀ w,(binOp .neq 20 (.iface 152 (.int .i64 x)) .nilIface).run Tryz.prog w = .ok (.bool true) w:=fun _=>by kernel_rfl
 apply wpS_seq;apply wpS_region;simp [wpOpsS,go_sem,recoverD,hq,Exit.thenS];refine wpS_cond (t:=true) (by simp [Act.eval,Array.replicate]) ?_;simp only [if_true];refine wpS_of_wp ?_;have hr:Array.replicate 18 undef = #[undef,undef,undef,undef,undef,undef,undef,undef,undef,undef,undef,undef,undef,undef,undef,undef,undef,undef]:=rfl;simp only [hr,List.setIfInBounds_toArray,List.set_cons_zero,List.set_cons_succ,List.append_toArray,List.cons_append,List.nil_append];clear hr hq;have hta:∀ w,(Instr.typeAssert (.iface 152 (.int .i64 x)) 20 152 true).run Tryz.prog w = .ok (.tuple #[.int .i64 x,.bool true]) w:=fun _=>by kernel_rfl
 go_wp2
 refine⟨rfl,?_⟩
 cases c₀
 simp_all [results,Tryz.results52]
def BytesAt(w:World)(oa:Option Addr)(n:Nat)(g:Nat→Nat):Prop:=Row w oa n 1 (fun i _=>.int .u8 (g i:Nat))
def BoolsAt(w:World)(oa:Option Addr)(n:Nat)(r:Nat→Bool):Prop:=Row w oa n 1 (fun i _=>.bool (r i))
theorem Row.set{w:World}{oa:Option Addr}{n sz:Nat}{cell:Nat→Nat→Value}(h:Row w oa n sz cell)(p:Addr)(v:Value)(hne:0<n→p.block≠blk oa):Row (w.setCell p v) oa n sz cell where
 plain:=h.plain
 old:=fun hn=>by rw [size_setCell]; exact h.old hn
 small:=h.small
 cells:=fun i hi j hj=>(World.cell?_setCell_other _ _ _ _ (fun e=>hne (by omega) (by rw [e]))).trans (h.cells i hi j hj)
theorem Row.at1{w:World}{oa:Option Addr}{n:Nat}{cell:Nat→Nat→Value}(h:Row w oa n 1 cell){k:Nat}(hk:k<n):w.cell? ⟨blk oa,ofs oa+k,none⟩=some (cell k 0):=by
 have:=h.cells k hk 0 (by omega);simpa using this
theorem BytesAt.grow{w w':World}{oa:Option Addr}{n:Nat}{g:Nat→Nat}(h:BytesAt w oa n g)(hb:Below w.heap.size w w'):BytesAt w' oa n g:=Row.grow h hb
theorem BoolsAt.grow{w w':World}{oa:Option Addr}{n:Nat}{r:Nat→Bool}(h:BoolsAt w oa n r)(hb:Below w.heap.size w w'):BoolsAt w' oa n r:=Row.grow h hb
theorem BytesAt.at{w:World}{oa:Option Addr}{n:Nat}{g:Nat→Nat}(h:BytesAt w oa n g){k:Nat}(hk:k<n):w.cell? ⟨blk oa,ofs oa+k,none⟩=some (.int .u8 (g k:Nat)):=Row.at1 h hk
theorem BoolsAt.at{w:World}{oa:Option Addr}{n:Nat}{r:Nat→Bool}(h:BoolsAt w oa n r){k:Nat}(hk:k<n):w.cell? ⟨blk oa,ofs oa+k,none⟩=some (.bool (r k)):=Row.at1 h hk
def valsOf(cell:Nat→Value)(n:Nat):List Value:=(List.range n).map cell
theorem valsOf_length(cell:Nat→Value)(n:Nat):(valsOf cell n).length=n:=by simp [valsOf]
theorem valsOf_succ(cell:Nat→Value)(n:Nat):valsOf cell (n+1)=valsOf cell n ++ [cell n]:=by simp [valsOf,List.range_succ]
theorem valsOf_get(cell:Nat→Value){n i:Nat}(h:i<n):(valsOf cell n)[i]? = some (cell i):=by simp [valsOf,h]
theorem valsOf_add(cell:Nat→Value)(n m:Nat):valsOf cell (n+m)=valsOf cell n++valsOf (fun i=>cell (n+i)) m:=by
 unfold valsOf;rw [List.range_add,List.map_append,List.map_map];rfl
theorem valsOf_congr{f g:Nat→Value}{n:Nat}(h:∀ i,i<n→f i=g i):valsOf f n=valsOf g n:=by
 unfold valsOf;exact List.map_congr_left (fun i hi=>h i (by simpa using hi))
def byteV(g:Nat→Nat)(i:Nat):Value:=.int .u8 (g i:Nat)
def boolV(r:Nat→Bool)(i:Nat):Value:=.bool (r i)
def intV(f:Nat→Int)(i:Nat):Value:=.int .i64 (f i)
theorem row_of{w:World}{base n:Nat}{E:TypeId}{v:Value}{cell:Nat→Value}(h:w.ownsRow base E 1 v n (valsOf cell n))(hn:n≤maxLen) :
  ∃ oa cap,v = .slice oa n cap∧Row w oa n 1 (fun i _=>cell i)∧(0<n→base≤blk oa)∧n≤cap:=by
 rcases h.2 with ⟨rfl,rfl⟩ | ⟨g,cap,cur,rfl,hb,hg,hle,hm,hs,ht⟩
 ·exact⟨none,0,rfl,⟨fun h=>by omega,fun h=>by omega,hn,fun i hi=>by omega⟩,fun h=>by omega,Nat.le_refl _⟩
 ·refine⟨some ⟨g,0,none⟩,cap,rfl,⟨fun _=>rfl,fun _=>lt_of_heap hg,hn,fun i hi j hj=>?_⟩,fun _=>hb,hle⟩
  obtain rfl:j=0:=by omega
  show w.cell? ⟨g,0+i * 1+0,none⟩=_
  rw [cellAt hg];have h1:=valsOf_get cell hi;rw [← ht,List.getElem?_take] at h1
  split at h1
  ·simpa using h1
  ·cases h1
theorem row_box{w:World}{g n:Nat}{t:TypeId}{cell:Nat→Value}(h:BoxAt w g (valsOf cell n).toArray t)(hn:n≤maxLen):Row w (some ⟨g,0,none⟩) n 1 (fun i _=>cell i):=by
 refine⟨fun _=>rfl,fun _=>lt_of_heap h,hn,fun i hi j hj=>?_⟩;obtain rfl:j=0:=by omega
 show w.cell? ⟨g,0+i * 1+0,none⟩=_
 rw [cellAt h];have:=valsOf_get cell hi;simpa using this
theorem vals_set(f:Nat→Value)(n r:Nat)(v:Value):(valsOf f n).set r v=valsOf (fun i=>if i=r then v else f i) n:=by
 apply List.ext_getElem (by simp [valsOf]);intro i h1 h2;simp only [List.getElem_set,valsOf,List.getElem_map,List.getElem_range];by_cases e:r=i
 ·subst e; simp
 ·have e':¬ i=r:=fun h=>e h.symm
  simp [e,e']
theorem box_set{w:World}{g n:Nat}{t:TypeId}{f:Nat→Value}(h:BoxAt w g (valsOf f n).toArray t)(r:Nat)(v:Value):BoxAt (w.setCell ⟨g,r,none⟩ v) g (valsOf (fun i=>if i=r then v else f i) n).toArray t:=by
 have:=BoxAt.store h r v
 rwa [List.setIfInBounds_toArray,vals_set] at this
structure Elem (t E:TypeId):Prop where
 slice:Tryz.prog.underlying t=some (.slice E)
 info:∃ i z bytes,Tryz.prog.info? E=some i∧i.zero=some z∧i.size=1∧i.bytes=bytes∧z.cells.size=1∧bytes≤8
theorem elem5:Elem 46 5:=⟨by kernel_rfl,⟨(Tryz.prog.info? 5).get (by kernel_rfl),.int .u8 0,1,by kernel_rfl,by kernel_rfl,by kernel_rfl,by kernel_rfl,by kernel_rfl,by decide⟩⟩
theorem elem4:Elem 115 4:=⟨by kernel_rfl,⟨(Tryz.prog.info? 4).get (by kernel_rfl),.bool false,1,by kernel_rfl,by kernel_rfl,by kernel_rfl,by kernel_rfl,by kernel_rfl,by decide⟩⟩
theorem elem3:Elem 26 3:=⟨by kernel_rfl,⟨(Tryz.prog.info? 3).get (by kernel_rfl),.int .i64 0,8,by kernel_rfl,by kernel_rfl,by kernel_rfl,by kernel_rfl,by kernel_rfl,by decide⟩⟩
theorem wpList_app{t E:TypeId}(he:Elem t E){ops:Array Oper}{rest:List Oper}{o:Oper}{a:Act}{w:World}{Q:Exit→Act→World→Prop}(hgd:o.guard=none)(s x:Operand)
  (ho:o.op = .call {callee:=.builtin .append,args:=#[s,x],argTypes:=#[t,t]}) {base n m c:Nat} {v:Value} {cell:Nat→Value} (hs:a.eval s=v) (hown:w.ownsRow base E 1 v n (valsOf cell n))
  {oa:Option Addr} {cell':Nat→Value} (hx:a.eval x = .slice oa m c) (hm:0<m) (hrow:Row w oa m 1 (fun i _=>cell' i)) (h1:∀ i,(cell' i).oneCell'=true)
  (hlim:n+m≤1000000) (hbase:base≤w.heap.size)
  (h:∀ v' w',w'.ownsRow base E 1 v' (n+m) (valsOf (fun i=>if i<n then cell i else cell' (i - n)) (n+m))→w.grownBy w' v.ownBlock→wpList Tryz.prog ops Q rest (a.put o.dst v') w'):wpList Tryz.prog ops Q (o::rest) a w:=by
 obtain⟨i,z,bytes,hi,hz,hsz,hby,hzs,hb8⟩:=he.info;have hp:=hrow.plain hm;rw [hp] at hx;refine wpList_append_own w hgd s x t ho base E i z 1 bytes he.slice hi hz hsz hby hzs (by omega) v n (valsOf cell n) hs hown ⟨blk oa,ofs oa,none⟩ m c (valsOf cell' m) hx (by rw [valsOf_length]; omega) ?_ ?_ (by unfold maxLen; omega) ?_ hbase ?_
 ·intro j u hj
  have hjm:j<m:=by
   have:=(List.getElem?_eq_some_iff.1 hj).1
   rwa [valsOf_length] at this
  rw [valsOf_get _ hjm] at hj
  cases hj
  have:=hrow.at1 hjm;unfold Addr.add
  split
  ·rename_i e0
   subst e0;simpa using this
  ·exact this
 ·intro u hu
  simp only [valsOf,List.mem_map] at hu;obtain⟨k,-,rfl⟩:=hu;exact h1 k
 ·have:=Nat.mul_le_mul hlim hb8
  omega
 ·intro v' w' h2 h3 _
  refine h v' w' ?_ h3;rw [valsOf_add];have e1:valsOf (fun i=>if i<n then cell i else cell' (i - n)) n=valsOf cell n:=valsOf_congr (fun i hi=>by rw [if_pos hi]);have e2:valsOf (fun i=>if n+i<n then cell (n+i) else cell' (n+i - n)) m=valsOf cell' m:=valsOf_congr (fun i hi=>by rw [if_neg (by omega),show n+i - n=i by omega]);rw [e1,e2];exact h2
theorem elem46:Tryz.prog.elem 46=5:=by kernel_rfl
theorem size46(w:World):(sizeOf (Tryz.prog.elem 46)).run Tryz.prog w = .ok 1 w:=by rw [elem46]; kernel_rfl
theorem run_sub{oa:Option Addr}{n c l h:Nat}(ho:oa=some ⟨blk oa,ofs oa,none⟩)(h1:l≤h)(h2:h≤c)(h3:l<c)(w:World) :
  (Instr.sliceAt 46 (.slice oa n c) (some (.int .i64 l)) (some (.int .i64 h)) none).run Tryz.prog w = .ok (.slice (some ⟨blk oa,ofs oa+l,none⟩) (h - l) (c - l)) w:=by
 rw [run_sliceAt_slice w 46 _ _ _ _ (by rw [elem46]; exact elem5.slice),run_slice_lh w 46 oa n c (by rw [elem46]; exact elem5.slice) .i64 .i64 l h (by omega) (by omega) (by omega),size46];simp only [Result.andThen,sliced,Int.toNat_natCast,if_neg (show ¬ c=l by omega)];rw [ho];simp only [Option.map,blk,ofs,Nat.mul_one,Addr.add]
 split
 ·rename_i e; subst e; rfl
 ·rfl
theorem run_tail{oa:Option Addr}{n c l:Nat}(ho:oa=some ⟨blk oa,ofs oa,none⟩)(h1:l≤n)(h3:l<c)(w:World) :
  (Instr.sliceAt 46 (.slice oa n c) (some (.int .i64 l)) none none).run Tryz.prog w = .ok (.slice (some ⟨blk oa,ofs oa+l,none⟩) (n - l) (c - l)) w:=by
 rw [run_sliceAt_slice w 46 _ _ _ _ (by rw [elem46]; exact elem5.slice),run_slice_l w 46 oa n c (by rw [elem46]; exact elem5.slice) .i64 l (by omega) (by omega),size46];simp only [Result.andThen,sliced,Int.toNat_natCast,if_neg (show ¬ c=l by omega)];rw [ho];simp only [Option.map,blk,ofs,Nat.mul_one,Addr.add]
 split
 ·rename_i e; subst e; rfl
 ·rfl
theorem run_head{oa:Option Addr}{n c h:Nat}(ho:oa=some ⟨blk oa,ofs oa,none⟩)(h2:h≤c)(h3:0<c)(w:World) :
  (Instr.sliceAt 46 (.slice oa n c) none (some (.int .i64 h)) none).run Tryz.prog w = .ok (.slice oa h c) w:=by
 rw [run_sliceAt_slice w 46 _ _ _ _ (by rw [elem46]; exact elem5.slice),run_slice_h w 46 oa n c (by rw [elem46]; exact elem5.slice) .i64 h (by omega) (by omega),size46];simp only [Result.andThen,sliced,Int.toNat_natCast,if_neg (show ¬ c=0 by omega)];rw [ho];rfl
theorem BytesAt.sub{w:World}{oa:Option Addr}{n l k:Nat}{g:Nat→Nat}(h:BytesAt w oa n g)(hl:l+k≤n):BytesAt w (some ⟨blk oa,ofs oa+l,none⟩) k (fun i=>g (l+i)):=by
 refine⟨fun _=>rfl,fun h0=>h.old (by omega),by have:=h.small; omega,fun i hi j hj=>?_⟩;obtain rfl:j=0:=by omega
 have:=h.at (k:=l+i) (by omega)
 show w.cell? ⟨blk oa,ofs oa+l+i * 1+0,none⟩=_
 rw [show ofs oa+l+i * 1+0=ofs oa+(l+i) by omega];exact this
theorem BytesAt.head{w:World}{oa:Option Addr}{n k:Nat}{g:Nat→Nat}(h:BytesAt w oa n g)(hk:k≤n):BytesAt w oa k g :=
 ⟨fun h0=>h.plain (by omega),fun h0=>h.old (by omega),by have:=h.small; omega,fun i hi j hj=>h.cells i (by omega) j hj⟩
end Go.Proofs.YtclbmlmlhiiaeaaGreatDoor
