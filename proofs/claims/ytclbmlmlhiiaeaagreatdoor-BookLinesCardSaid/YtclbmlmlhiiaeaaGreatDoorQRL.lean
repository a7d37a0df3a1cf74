/- Walks: the lines of a text, one after the other. Rows of sev -/
import Derived.Test.YtclbmlmlhiiaeaaGreatDoorQRC
import Derived.Shelf.Abstract
import Derived.Shelf.RegionOpen
import Derived.OwnWalkIn
import Derived.TacticsInMore
import Derived.LoopNIn
import Derived.LoopIn
import Derived.Test.YtclbmlmlhiiaeaaGreatDoorQR7
import Derived.Test.YtclbmlmlhiiaeaaGreatDoorQN0
namespace Go.Proofs.YtclbmlmlhiiaeaaGreatDoor
open Go.RowKit Go.Shelf
def ch8:List PanicEntry:=[{v:=.iface 152 (.int .i64 8),recovered:=false}]
def LineOf(t line rest:List UInt8):Prop:=t ≠ []∧Lib.cut t [10]=(line,rest,true)∧t.length≤2000
def NoLine(t:List UInt8):Prop:=t ≠ []∧(Lib.cut t [10]).2.2=false
def Lim(W:World):Prop := ∃ m:Int,W.cell? ⟨1,0,none⟩=some (.int .i64 m)
theorem rdLen_box{W:World}{b ty:Nat}{t:List UInt8}(h:BoxAt W b #[.string ⟨t.toArray⟩] ty):rdLen b W=t.length:=by
 unfold rdLen;rw [show W.heap[b]? = _ from h];rfl
theorem lines138_any(t:List UInt8)(w:World):Calls Tryz.prog 138 #[.string ⟨t.toArray⟩] w fun e w'=>e = .returned (.func (.func 154) #[] #[bp w.heap.size])∧w'=w.alloc (.cells #[.string ⟨t.toArray⟩] 9):=by
 go_enter Tryz.func138,Tryz.ntmps138;go_wp2_with fail;go_ret;exact⟨rfl,rfl⟩
set_option maxRecDepth 100000 in
set_option maxHeartbeats 2000000 in
theorem lines154_any(n tb:Nat)(t₀:List UInt8)(hl:t₀.length≤2000):SeqP n Tryz.prog 154 #[bp tb] ch8 tb 9 LineOf NoLine Lim t₀:=by
 intro l I Ip W hI hIp hPr hY h0 hb;refine callsIn_of_wp Tryz.func154 rfl trivial ?_ rfl;simp only [Tryz.ntmps154,List.size_toArray,List.length_cons,List.length_nil,Nat.reduceAdd,Nat.reduceSub,Array.replicate_succ,Array.replicate_zero,List.push_toArray,List.append_toArray,List.nil_append,List.cons_append];have HI:=Lib.hid hI;have HIp:=Lib.hid hIp;have HPr:=Lib.hid hPr;have HY:=Lib.hid hY;clear hI hIp hPr hY
 gi_wp2
 gi_loopw [3] (fun _ wr => ∃ r:List UInt8,r.length≤2000∧I r wr∧BoxAt wr tb #[.string ⟨r.toArray⟩] 9) (fun _ wr=>rdLen tb wr)
 case atStart=>exact⟨t₀,hl,h0,hb⟩
 case round =>
  obtain⟨r,hr,hi,hbx⟩:=hrel;have hm:=rdLen_box hbx;have c0:=cellAt hbx 0;have f0:=freeAt hbx 0;simp only [List.getElem?_toArray,List.getElem?_cons_zero] at c0;have HB:=Lib.hid hbx;have HJ:=Lib.hid hi;clear hbx hi
  cases r with
  | nil =>
   gi_wp2
   go_end0
   exact .inl ⟨_,rfl,HJ.out⟩
  | cons c r =>
   have HCF:=Lib.hid (cut_found (c::r));obtain⟨m,hm1⟩:=HPr.out _ _ HJ.out;have hsz:(ByteArray.mk (c::r).toArray).size=(c::r).length:=by simp [ByteArray.size]
   have C0:=Lib.hid (Tryz.strings_Cut ⟨(c::r).toArray⟩ ⟨#[10]⟩ m wr (by omega) hm1);obtain⟨A,hA⟩:∃ A,Lib.cut (c::r) [10]=A:=⟨_,rfl⟩
   rw [show(Lib.cut (ByteArray.mk (c::r).toArray).data.toList (ByteArray.mk #[10]).data.toList)=A from hA] at C0;rw [hA] at HCF;obtain⟨line,rest,b⟩:=A;dsimp only at C0 HCF;have HA:=Lib.hid hA;have hpos:0<(c::r).length:=by simp
   have HNE:=Lib.hid (show c::r ≠ [] from by simp);clear hA hm1;generalize c::r=t at *;have t0:decide (0<t.length)=true:=decide_eq_true hpos
   gi_wp2
   refine⟨trivial,(fun h=>by cases h),?_⟩;refine(callsIn_wide.2 C0.out).mono ?_;rintro e w' ⟨rfl,nq,rfl⟩;have hb0:=below_drewN (Below.refl wr.heap.size wr) nq;have hk0:Keep (fun k=>k<wr.heap.size∧k≠tb) wr (wr.drewN nq):=Keep.of_below hb0 fun k hk=>hk.1;have J1:=Lib.hid (HI.out _ _ _ HJ.out hk0);have B1:=Lib.hid (HB.out.grow hb0);clear HB HJ hb0 hk0 c0 f0 C0;generalize World.drewN wr nq=w1 at *;have c0:=cellAt B1.out 0;have f0:=freeAt B1.out 0;simp only [List.getElem?_toArray,List.getElem?_cons_zero] at c0
   cases b with
   | false =>
    gi_wp2
    refine⟨trivial,(fun h=>by cases h),?_⟩;refine(callsIn_wide.2 (ask_false _ _)).mono ?_;rintro e w' ⟨rfl,rfl⟩;exact⟨rfl,.inr ⟨rfl,HIp.out _ _ J1.out ⟨HNE.out,by rw [HA.out]⟩⟩⟩
   | true =>
    have HN:=Lib.hid (show LineOf t line rest from⟨HNE.out,HA.out,hr⟩);have hlen:=HCF.out rfl;have J2:=Lib.hid (HI.out _ _ _ J1.out (Keep.set (Keep.refl _ w1) tb 0 (.string ⟨rest.toArray⟩) (fun h=>h.2 rfl)));have B2:=Lib.hid (show BoxAt (w1.setCell ⟨tb,0,none⟩ (.string ⟨rest.toArray⟩)) tb #[.string ⟨rest.toArray⟩] 9 from B1.out.store 0 _);obtain⟨fn,tmps,assign,body,hy,hR⟩:=HY.out t line rest _ J2.out HN.out B2.out;have HR:=Lib.hid hR;clear hR J1 J2 B1 B2 HCF
    gi_wp2
    refine⟨trivial,(fun h=>by cases h),?_⟩;refine(callsIn_wide.2 (ask_true _ _)).mono ?_;rintro e w' ⟨rfl,rfl⟩
    gi_wp2
    refine⟨(fun h=>by cases h),?_⟩;refine HR.out.mono ?_;rintro e W3 (⟨rfl,hJ3,hB3⟩ | ⟨rfl,hp3⟩)
    ·have J3:=Lib.hid hJ3
     have B3:=Lib.hid hB3;clear hJ3 hB3
     gi_wp2
     exact⟨⟨rest,by omega,J3.out,B3.out⟩,by rw [rdLen_box B3.out]; omega⟩
    ·exact⟨rfl,.inr ⟨rfl,hp3⟩⟩
end Go.Proofs.YtclbmlmlhiiaeaaGreatDoor
namespace Go.Proofs.YtclbmlmlhiiaeaaGreatDoor
open Go.RowKit
theorem rowN_of{w:World}{base n sz:Nat}{E:TypeId}{v:Value}{xs:List Value}{cell:Nat→Nat→Value}(h:w.ownsRow base E sz v n xs)(hn:n≤maxLen)(hc:∀ i,i<n → ∀ j,j<sz→xs[i * sz+j]? = some (cell i j)) :
  ∃ oa cap,v = .slice oa n cap∧Row w oa n sz cell∧(0<n→base≤blk oa)∧n≤cap:=by
 rcases h.2 with ⟨rfl,rfl⟩ | ⟨g,cap,cur,rfl,hb,hg,hle,hm,hs,ht⟩
 ·exact⟨none,0,rfl,⟨fun h=>by omega,fun h=>by omega,hn,fun i hi=>by omega⟩,fun h=>by omega,Nat.le_refl _⟩
 ·refine⟨some ⟨g,0,none⟩,cap,rfl,⟨fun _=>rfl,fun _=>lt_of_heap hg,hn,fun i hi j hj=>?_⟩,fun _=>hb,hle⟩
  show w.cell? ⟨g,0+i * sz+j,none⟩=_
  rw [Nat.zero_add,cellAt hg];have h1:=hc i hi j hj;rw [← ht,List.getElem?_take] at h1
  split at h1
  ·simpa using h1
  ·cases h1
def souV:List Sou→List Value
 | []=>[]
 | x::l=>.int .i64 x.d :: .int .i64 x.l :: .int .i64 x.lo :: .int .i64 x.hi::souV l
theorem souV_snoc(x:Sou):∀ l:List Sou,souV (l ++ [x])=souV l ++ [.int .i64 x.d,.int .i64 x.l,.int .i64 x.lo,.int .i64 x.hi]
 | []=>rfl
 | y::l=>by
  show _::_::_::_::souV (l ++ [x])=_
  rw [souV_snoc x l];rfl
def seaOf(l:List Sea)(i:Nat):Sea:=l.getD i ⟨0,0,0⟩
def souOf(l:List Sou)(i:Nat):Sou:=l.getD i ⟨0,0,0,0⟩
theorem seaV_get:∀ (l:List Sea) (i:Nat),i<l.length → ∀ j,j<3→(seaV l)[i * 3+j]? = some ((seaOf l i).cell j)
 | [],i,h,_,_=>by cases h
 | x::l,0,_,j,hj=>by
  rcases(show j=0∨j=1∨j=2 by omega) with rfl | rfl | rfl <;> rfl
 | x::l,i+1,h,j,hj=>by
  have:=seaV_get l i (by simpa using h) j hj;rw [show(i+1) * 3+j=i * 3+j+1+1+1 by omega];exact this
theorem souV_get:∀ (l:List Sou) (i:Nat),i<l.length → ∀ j,j<4→(souV l)[i * 4+j]? = some ((souOf l i).cell j)
 | [],i,h,_,_=>by cases h
 | x::l,0,_,j,hj=>by
  rcases(show j=0∨j=1∨j=2∨j=3 by omega) with rfl | rfl | rfl | rfl <;> rfl
 | x::l,i+1,h,j,hj=>by
  have:=souV_get l i (by simpa using h) j hj;rw [show(i+1) * 4+j=i * 4+j+1+1+1+1 by omega];exact this
theorem Keep.row{C:Nat→Prop}{w w':World}(h:Keep C w w'){base n size:Nat}{E:TypeId}{v:Value}{xs:List Value}(ho:w.ownsRow base E size v n xs)(hC:∀ g,v.ownBlock=some g→C g):w'.ownsRow base E size v n xs:=by
 refine⟨ho.1,?_⟩;rcases ho.2 with hn | ⟨g,cap,cur,rfl,hb,hg,rest⟩
 ·exact .inl hn
 ·exact .inr ⟨g,cap,cur,rfl,hb,(h.block g (hC g rfl)).trans hg,rest⟩
theorem Keep.putObj(w:World)(l:Nat)(o:Obj):Keep (fun k=>k<w.heap.size∧k≠l) w (w.putObj l o) :=
 ⟨rfl,rfl,rfl,by rw [World.putObj_size]; exact Nat.le_refl _,fun _ hk=>World.putObj_heap_other hk.2⟩
theorem Lim.keep{C:Nat→Prop}{w w':World}(h:Lim w)(hk:Keep C w w')(h1:C 1):Lim w':=by
 obtain⟨m,hm⟩:=h;exact⟨m,(hk.cell (p:=⟨1,0,none⟩) h1).trans hm⟩
def wsH:List (List UInt8):=[[104,117,108,108],[]]
def stepH:HullV×Nat→List UInt8→Option (HullV×Nat):=lineStep 1 wsH hullTake
def readH(t:List UInt8):Option HullV:=match linesR stepH (⟨[],[]⟩,0) t with
 | none=>none
 | some (x,_)=>if hullB (seaOf x.s) x.s.length (souOf x.u) x.u.length∧hullT (seaOf x.s) x.s.length (souOf x.u) x.u.length=t then some x else none
theorem seamP_shorter{t r:List UInt8}{x:Sea}(h:seamP t=some (x,r)):r.length<t.length:=by
 unfold seamP at h
 cases h1:numP t with
 | none=>rw [h1] at h; cases h
 | some p =>
  obtain⟨a,t1⟩:=p;have s1:=numP_shorter h1;rw [h1] at h;dsimp only at h
  cases h2:sideP t1 with
  | none=>rw [h2] at h; cases h
  | some p =>
   obtain⟨b,t2⟩:=p;have s2:=sideP_shorter h2;rw [h2] at h;dsimp only at h
   cases h3:numP t2 with
   | none=>rw [h3] at h; cases h
   | some p =>
    obtain⟨c,t3⟩:=p;have s3:=numP_shorter h3;rw [h3] at h
    cases h
    omega
theorem seamsP_len:∀ (k:Nat) {t r:List UInt8} {l l':List Sea},seamsP k t l=some (l',r)→l'.length+r.length≤l.length+t.length
 | 0,t,r,l,l',h=>by cases h; exact Nat.le_refl _
 | k+1,t,r,l,l',h=>by
  cases hp:Lib.hasPrefix t [32] with
  | false=>rw [seamsP_end _ _ _ hp] at h; cases h; exact Nat.le_refl _
  | true =>
   rw [seamsP_step _ _ _ hp] at h
   cases hs:seamP (t.drop 1) with
   | none=>rw [hs] at h; cases h
   | some p =>
    obtain⟨x,r1⟩:=p;rw [hs] at h;have h1:=seamP_shorter hs;have h2:=seamsP_len k h;rw [List.length_drop] at h1;rw [List.length_append] at h2;simp only [List.length_cons,List.length_nil] at h2;omega
theorem soundP_shorter{t r:List UInt8}{x:Sou}(h:soundP t=some (x,r)):r.length<t.length:=by
 unfold soundP at h
 cases h1:numP t with
 | none=>rw [h1] at h; cases h
 | some p =>
  obtain⟨a,t1⟩:=p;have s1:=numP_shorter h1;rw [h1] at h;dsimp only at h
  split at h
  ·cases h2:numP (t1.drop 1) with
   | none=>rw [h2] at h; cases h
   | some p =>
    obtain⟨b,t2⟩:=p;have s2:=numP_shorter h2;rw [List.length_drop] at s2;rw [h2] at h;dsimp only at h
    split at h
    ·cases h3:spanP (t2.drop 1) with
     | none=>rw [h3] at h; cases h
     | some p =>
      obtain⟨⟨c,d⟩,t3⟩:=p;have s3:=spanP_shorter h3;rw [List.length_drop] at s3;rw [h3] at h
      cases h
      omega
    ·cases h
  ·cases h
theorem Row.keep{C:Nat→Prop}{w w':World}{oa:Option Addr}{n sz:Nat}{cell:Nat→Nat→Value}(h:Row w oa n sz cell)(hk:Keep C w w')(hC:0<n→C (blk oa)):Row w' oa n sz cell where
 plain:=h.plain
 old:=fun hn=>Nat.lt_of_lt_of_le (h.old hn) hk.size
 small:=h.small
 cells:=fun i hi j hj=>(hk.cell (p:=⟨blk oa,_,none⟩) (hC (by omega))).trans (h.cells i hi j hj)
section
variable {P:Program} {ops:Array Oper} {Q:Exit→Act→World→Prop} {md:Region.Mode} {S:World→Prop} {L:List (Nat×(World→Prop))} {D:List (Nat×Nat)}
theorem wpAnyT_two{i j:Nat}{o o':Oper}{n:Nat}{l:Array Bool}{a:Act}{w:World}(hr:Region.ready md ops l = [i,j])(ho:ops[i]? = some o)(ho':ops[j]? = some o')(hD:waitsB md ops D=true)(hc:Cls D l)
  (h:∀ K':Act→World→Prop,Shut (∀ a w,Stg S L (l.setIfInBounds i true) w→(Cls D (l.setIfInBounds i true)→Stg S L (l.setIfInBounds i true) w→wpAnyT P md ops Q S L n (l.setIfInBounds i true) a w)→K' a w)→if Region.wanted o (yielded ops a.tmps)=true then Oper.wp P o a w K' Q else K' (a.put o.dst undef) w)
  (h':∀ K':Act→World→Prop,Shut (∀ a w,Stg S L (l.setIfInBounds j true) w→(Cls D (l.setIfInBounds j true)→Stg S L (l.setIfInBounds j true) w→wpAnyT P md ops Q S L n (l.setIfInBounds j true) a w)→K' a w)→if Region.wanted o' (yielded ops a.tmps)=true then Oper.wp P o' a w K' Q else K' (a.put o'.dst undef) w) :
  wpAnyT P md ops Q S L (n+1) l a w:=by
 refine⟨(fun h0=>by rw [hr] at h0; cases h0),fun k hk=>?_⟩;have hk2:=hk;rw [hr,List.mem_cons,List.mem_singleton] at hk;rcases hk with rfl | rfl
 ·exact wpOp_step ho fun K' hK=>h K' fun a w hS hW=>hK a w ⟨hS,hW (hc.next hD hk2) hS⟩
 ·exact wpOp_step ho' fun K' hK=>h' K' fun a w hS hW=>hK a w ⟨hS,hW (hc.next hD hk2) hS⟩
end
def rowVals(cell:Nat→Nat→Value)(sz:Nat):Nat→List Value
 | 0=>[]
 | n+1=>rowVals cell sz n++(List.range sz).map (cell n)
theorem rowVals_len(cell:Nat→Nat→Value)(sz:Nat):∀ n,(rowVals cell sz n).length=n * sz
 | 0=>by simp [rowVals]
 | n+1=>by
  show(rowVals cell sz n++_).length=_
  rw [List.length_append,rowVals_len cell sz n,List.length_map,List.length_range,Nat.succ_mul]
theorem rowVals_get(cell:Nat→Nat→Value)(sz:Nat):∀ n i,i<n → ∀ j,j<sz→(rowVals cell sz n)[i * sz+j]? = some (cell i j)
 | 0,i,h,_,_=>by omega
 | n+1,i,h,j,hj=>by
  show(rowVals cell sz n++_)[i * sz+j]? = _
  by_cases e:i<n
  ·have h1:i * sz+j<n * sz:=by
    have:(i+1) * sz≤n * sz:=Nat.mul_le_mul_right _ e;rw [Nat.succ_mul] at this;omega
   rw [List.getElem?_append_left (by rw [rowVals_len]; exact h1)];exact rowVals_get cell sz n i e j hj
  ·obtain rfl:i=n:=by omega
   rw [List.getElem?_append_right (by rw [rowVals_len]; omega),rowVals_len,Nat.add_sub_cancel_left];simp [hj]
theorem rowVals_mem(cell:Nat→Nat→Value)(sz:Nat):∀ n u,u ∈ rowVals cell sz n → ∃ i j,i<n∧j<sz∧u=cell i j
 | 0,u,h=>by cases h
 | n+1,u,h=>by
  rcases List.mem_append.1 h with h | h
  ·obtain⟨i,j,h1,h2,h3⟩:=rowVals_mem cell sz n u h
   exact⟨i,j,by omega,h2,h3⟩
  ·obtain⟨j,hj,rfl⟩:=List.mem_map.1 h
   exact⟨n,j,by omega,by simpa using hj,rfl⟩
theorem rowVals_lt(cell:Nat→Nat→Value){sz:Nat}(hs:0<sz){n k:Nat}{u:Value}(h:(rowVals cell sz n)[k]? = some u):∃ i j,i<n∧j<sz∧k=i * sz+j∧u=cell i j:=by
 have hk:=(List.getElem?_eq_some_iff.1 h).1;rw [rowVals_len] at hk;have h1:k / sz<n:=(Nat.div_lt_iff_lt_mul hs).2 hk;have h2:k % sz<sz:=Nat.mod_lt _ hs;have h3:k / sz * sz+k % sz=k:=by rw [Nat.mul_comm]; exact Nat.div_add_mod k sz
 have h4:=rowVals_get cell sz n _ h1 _ h2;rw [h3,h] at h4
 injection h4 with h4
 exact⟨_,_,h1,h2,h3.symm,h4⟩
section
variable {P:Program}
theorem run_app_fresh{t E:TypeId}{i:TypeInfo}{z:Value}{size bytes:Nat}(he:P.underlying t=some (.slice E))(hi:P.info? E=some i)(hz:i.zero=some z)(hsz:i.size=size)(hby:i.bytes=bytes)
  (hzs:z.cells.size=size) (hs0:0<size) (hb64:bytes≤64) (ty:TypeId) {w:World} {base g:Nat} (hg:BoxAt w g #[] E) (hbg:base≤g) (hbase:base≤w.heap.size) {oa:Option Addr} {n c:Nat} {cell:Nat→Nat→Value} (hrow:Row w oa n size cell) (h1:∀ i j,(cell i j).oneCell'=true) (hn:n≤1000000) :
  ∃ g' cap' w',(Builtin.append_ #[t,t] ty #[.slice (some ⟨g,0,none⟩) 0 0,.slice oa n c]).run P w = .ok (.slice (some ⟨g',0,none⟩) n cap') w' ∧
   (∃ cur,BoxAt w' g' cur E ∧ ∀ i,i<n → ∀ j,j<size→cur[i * size+j]? = some (cell i j))∧w.grownBy w' (some g)∧(g'=g∨g'=w.heap.size)∧g'<w'.heap.size∧n≤cap':=by
 by_cases h0:n=0
 ·subst h0
  refine⟨g,0,w,?_,⟨#[],hg,fun i hi=>by omega⟩,⟨rfl,rfl,rfl,Nat.le_refl _,fun _ _ _=>rfl⟩,.inl rfl,lt_of_heap hg,Nat.le_refl _⟩
  cases oa with
  | none=>simp [Builtin.append_,run_underlying he,sizeOf,typeInfo,hi,Builtin.lenOf,Builtin.firstCells,storeCells]
  | some ad=>simp [Builtin.append_,run_underlying he,sizeOf,typeInfo,hi,Builtin.lenOf,Builtin.firstCells,loadCells,loadCellsFrom,storeCells]
 ·have hpos:0<n:=by omega
  have hp:=hrow.plain hpos;have hown:w.ownsRow base E size (.slice (some ⟨g,0,none⟩) 0 0) 0 []:=⟨by simp,.inr ⟨g,0,#[],rfl,hbg,hg,Nat.le_refl _,by unfold maxLen; omega,by simp,by simp⟩⟩
  obtain⟨g',cap',w',hr,h2,h3,h4,h5⟩:=run_append_lies (P:=P) w t ty base E i z size bytes he hi hz hsz hby hzs hs0 _ 0 [] hown ⟨blk oa,ofs oa,none⟩ n c (rowVals cell size n) (rowVals_len _ _ _) (fun k u hk=>by
    obtain⟨i,j,hi',hj,rfl,rfl⟩:=rowVals_lt cell hs0 hk;rw [show(⟨blk oa,ofs oa,none⟩:Addr).add (i * size+j)=⟨blk oa,ofs oa+i * size+j,none⟩ from by rw [Addr.add_lit,Nat.add_assoc]];exact hrow.cells i hi' j hj) (fun u hu=>by obtain⟨i,j,_,_,rfl⟩:=rowVals_mem _ _ _ _ hu; exact h1 i j) hpos (by unfold maxLen; omega) (by
    have:(0+n) * bytes≤(0+n) * 64:=Nat.mul_le_mul_left _ hb64
    omega) hbase w.heap.size rfl
  rw [← hp] at hr;rw [Nat.zero_add] at hr h2;rw [List.nil_append] at h2;refine⟨g',cap',w',hr,?_,h3,?_,h5,?_⟩
  ·rcases h2.2 with ⟨hv,_⟩ | ⟨g2,cap2,cur,hv,hb2,hg2,hle,hm,hs,ht⟩
   ·cases hv
   ·cases hv
    refine⟨cur,hg2,fun i hi j hj=>?_⟩;have h6:=rowVals_get cell size n i hi j hj;rw [← ht,List.getElem?_take] at h6
    split at h6
    ·simpa using h6
    ·cases h6
  ·rcases h4 with h4 | h4
   ·cases h4; exact .inl rfl
   ·exact .inr h4
  ·rcases h2.2 with ⟨hv,_⟩ | ⟨g2,cap2,cur,hv,hb2,hg2,hle,hm,hs,ht⟩
   ·cases hv
   ·cases hv; exact hle
theorem step_app_fresh{t E:TypeId}{i:TypeInfo}{z:Value}{size bytes:Nat}(he:P.underlying t=some (.slice E))(hi:P.info? E=some i)(hz:i.zero=some z)(hsz:i.size=size)(hby:i.bytes=bytes)
  (hzs:z.cells.size=size) (hs0:0<size) (hb64:bytes≤64) {ops:Array Oper} {o:Oper} {a:Act} {w:World} {K:Act→World→Prop} {Q:Exit→Act→World→Prop} {X:Prop} (hgd:o.guard=none) (s x:Operand)
  (ho:o.op = .call {callee:=.builtin .append,args:=#[s,x],argTypes:=#[t,t]}) {base g:Nat} (hs:a.eval s = .slice (some ⟨g,0,none⟩) 0 0) (hg:BoxAt w g #[] E) (hbg:base≤g) (hbase:base≤w.heap.size)
  {oa:Option Addr} {n c:Nat} {cell:Nat→Nat→Value} (hx:a.eval x = .slice oa n c) (hrow:Row w oa n size cell) (h1:∀ i j,(cell i j).oneCell'=true) (hn:n≤1000000)
  (h:∀ g' cap' w',(∃ cur,BoxAt w' g' cur E ∧ ∀ i,i<n → ∀ j,j<size→cur[i * size+j]? = some (cell i j))→w.grownBy w' (some g)→(g'=g∨g'=w.heap.size)→g'<w'.heap.size→n≤cap'→K (a.put o.dst (.slice (some ⟨g',0,none⟩) n cap')) w') :
  if Region.wanted o (yielded ops a.tmps)=true then Oper.wp P o a w K Q else X:=by
 have hw:Region.wanted o (yielded ops a.tmps)=true:=by simp [Region.wanted,hgd]
 rw [if_pos hw];obtain⟨g',cap',w',hr,h2,h3,h4,h5,h6⟩:=run_app_fresh he hi hz hsz hby hzs hs0 hb64 o.type hg hbg hbase hrow h1 hn (c:=c);unfold Oper.wp execOp;simp only [ho,resolve,invoke,builtin,Sem.run_bind,Sem.run_pure,Result.andThen_ok,List.map_toArray,List.map_cons,List.map_nil,hs,hx,hr];exact h g' cap' w' h2 h3 h4 h5 h6
end
end Go.Proofs.YtclbmlmlhiiaeaaGreatDoor
