/- Walks: bytes as bits, by the program. Walks: the hull of a t -/
import Derived.Test.YtclbmlmlhiiaeaaGreatDoorQA6
import Derived.Test.YtclbmlmlhiiaeaaGreatDoorQRL
import Derived.Test.YtclbmlmlhiiaeaaGreatDoorQD2
namespace Go.Proofs.YtclbmlmlhiiaeaaGreatDoor
open Go.RowKit
def unpB(g:Nat→Nat)(i:Nat):Bool:=g (i / 8) / 2 ^ (7 - i % 8) % 2==1
theorem shl_fin:∀ (x:Fin 256) (m:Fin 8),(bits .and .u8 (((x.val:Nat):Int) * 2 ^ m.val % 256) 128 != 0)=(x.val / 2 ^ (7 - m.val) % 2==1):=by decide +kernel
theorem unpB_at(g:Nat→Nat)(k m:Nat)(hm:m<8)(hg:g k<256):(bits .and .u8 (((g k:Nat):Int) * 2 ^ m % 256) 128 != 0)=unpB g (8 * k+m):=by
 have:=shl_fin ⟨g k,hg⟩ ⟨m,hm⟩;dsimp only at this;rw [this];unfold unpB;rw [show(8 * k+m) / 8=k by omega,show(8 * k+m) % 8=m by omega]
structure UP (w:World) (oa:Option Addr) (n:Nat) (g:Nat→Nat) (k:Nat) (v:Value) (W:World):Prop where
 bel:Below w.heap.size w W
 own:W.ownsRow w.heap.size 4 1 v k (valsOf (boolV (unpB g)) k)
def UnpPost(n:Nat)(g:Nat→Nat)(w:World)(e:Ending)(w':World):Prop :=
 ∃ oa cap,e = .returned (.slice oa (8 * n) cap)∧BoolsAt w' oa (8 * n) (unpB g)∧(0<n→w.heap.size≤blk oa)∧Below w.heap.size w w'
set_option maxRecDepth 100000 in
set_option maxHeartbeats 4000000 in
theorem unpacked_any(oa:Option Addr)(n nc:Nat)(g:Nat→Nat)(w:World)(hg:BytesAt w oa n g)(h8:∀ i,g i<256)(hn:n≤10000) :
  Calls Tryz.prog 70 #[.slice oa n nc] w (UnpPost n g w):=by
 have I0:=Lib.hid (show UP w oa n g 0 (.slice none 0 0) w from⟨Below.refl _ _,World.ownsRow_nil _ _ _ _⟩);have HG:=Lib.hid hg;have H8:=Lib.hid h8;clear hg h8;go_enter Tryz.func70,Tryz.ntmps70;go_wp2_with fail
 go_loopw [2,8] (fun v i wi => ∃ k:Nat,k≤n∧i = .int .i64 k∧UP w oa n g (8 * k) v wi) (fun _ i _=>n - (intOf i).toNat)
 case atStart=>exact⟨0,Nat.zero_le _,rfl,I0.out⟩
 case round =>
  clear I0;obtain⟨k,hk,rfl,h1⟩:=hrel;have I1:=Lib.hid h1;clear h1;by_cases hlt:k<n
  ·have L1:=HG.out.grow I1.out.bel
   have hi:=fun w=>run_indexAt_row (w:=w) (cap:=nc) elem5.slice size5 (L1.plain (by omega)) hlt;simp only [Nat.mul_one] at hi;have hc:=L1.at hlt;have hgk:=H8.out k;obtain⟨x,ex⟩:∃ x,g k=x:=⟨_,rfl⟩
   rw [ex] at hc hgk;have EX:=Lib.hid ex;clear ex L1;go_wp2_with fail
   go_loopw [2,12] (fun v j wi => ∃ m:Nat,m≤8∧j = .int .i64 m∧UP w oa n g (8 * k+m) v wi) (fun _ j _=>8 - (intOf j).toNat)
   case atStart=>exact⟨0,by omega,rfl,I1.out⟩
   case round =>
    obtain⟨m,hm,rfl,h2⟩:=hrel;have I2:=Lib.hid h2;clear h2 I1 hc hi;by_cases hm8:m<8
    ·have t8:decide ((m:Int)<8)=true:=decide_eq_true (by omega)
     have hv0:=unpB_at g k m hm8 (H8.out k);rw [EX.out] at hv0;obtain⟨b,eb⟩:∃ b,unpB g (8 * k+m)=b:=⟨_,rfl⟩
     rw [eb] at hv0;have EB:=Lib.hid eb;have hb1:=(Below.refl wr.heap.size wr).alloc (Nat.le_refl _) (.cells #[.bool b] 4);have R1:=Lib.hid (row_box (cell:=boolV fun _=>b) (n:=1) (heap_alloc_new wr (.cells #[.bool b] 4)) (by unfold maxLen; omega));have O1:=Lib.hid (own_grow I2.out.own hb1);have L1:=Lib.hid (Nat.le_trans I2.out.bel.size hb1.size);have B1:=Lib.hid (I2.out.bel.next hb1);clear hb1 eb;go_wp2_with (at_builtin; refine wpList_app elem4 rfl (.tmp 15) (.tmp 21) rfl rfl O1.out rfl (by omega) R1.out (fun _=>rfl) (by omega) L1.out ?_);intro v' w' h2 h3;have B2:=Lib.hid (B1.out.grown h3 L1.out (fun q e=>(O1.out.lt q e).1))
     have O2:=Lib.hid (show w'.ownsRow w.heap.size 4 1 v' (8 * k+(m+1)) (valsOf (boolV (unpB g)) (8 * k+(m+1))) from by
      rw [show 8 * k+(m+1)=8 * k+m+1 by omega];rw [valsOf_congr (g:=boolV (unpB g)) (fun j hj=>?_)] at h2
      ·exact h2
      ·by_cases e:j<8 * k+m
       ·rw [if_pos e]
       ·rw [if_neg e]
        have:j=8 * k+m:=by omega
        subst this
        show Value.bool b=Value.bool (unpB g _)
        rw [EB.out])
     clear h2 h3 R1 O1 L1 B1 hv0 t8;go_wp2_with fail;exact⟨⟨m+1,by omega,by go_num,B2.out,O2.out⟩,by simp [intOf]; omega⟩
    ·obtain rfl:m=8:=by omega
     have t8:decide (((8:Nat):Int)<8)=false:=by decide
     have I3:=Lib.hid (show UP w oa n g (8 * (k+1)) _ wr from I2.out);clear I2;go_wp2_with fail;exact⟨⟨k+1,hlt,by go_num,I3.out⟩,by simp [intOf]; omega⟩
  ·obtain rfl:n=k:=by omega
   obtain⟨ra,rc,rfl,hrow,hb,-⟩:=row_of I1.out.own (by unfold maxLen; omega);have HR:=Lib.hid hrow;have HB:=Lib.hid hb;clear hrow hb;go_wp2_with fail;go_ret;exact⟨_,_,rfl,HR.out,fun h=>HB.out (by omega),I1.out.bel⟩
end Go.Proofs.YtclbmlmlhiiaeaaGreatDoor
namespace Go.Proofs.YtclbmlmlhiiaeaaGreatDoor
open Go.RowKit Go.Shelf
attribute [local go_sem] Oper.semAt_some
def ReadPostH(t:List UInt8)(w:World)(e:Ending)(w':World):Prop :=
 Below w.heap.size w w'∧if 1000<t.length then e=err 3 else match readH t with
  | none=>e=err 8
  | some x => ∃ sa sc ua uc,e = .returned (.agg #[.slice sa x.s.length sc,.slice ua x.u.length uc])∧SeasAt w' sa x.s.length (seaOf x.s)∧SousAt w' ua x.u.length (souOf x.u)∧(0<x.s.length→w.heap.size≤blk sa)∧(0<x.u.length→w.heap.size≤blk ua)
structure RdH (kb:Nat) (R:Option (HullV×Nat)) (w:World) (N:Nat) (t:List UInt8) (x:HullV) (k:Nat) (v0 v1:Value) (W:World):Prop where
 bel:Below w.heap.size w W
 f:BoxAt W w.heap.size (fileH (some ⟨kb,0,none⟩) 2 2) 96
 p:BoxAt W (w.heap.size+1) #[v0,v1] 25
 q:BoxAt W (w.heap.size+2) #[.int .i64 (k:Nat)] 3
 tx:w.heap.size+4≤W.heap.size
 r0:W.ownsRow (w.heap.size+4) 142 3 v0 x.s.length (seaV x.s)
 r1:W.ownsRow (w.heap.size+4) 144 4 v1 x.u.length (souV x.u)
 ne:∀ g,v0.ownBlock=some g→v1.ownBlock≠some g
 res:linesR stepH (x,k) t=R
 k2:k≤1
 len:x.s.length+x.u.length+t.length≤N
theorem RdH.keep{kb:Nat}{R:Option (HullV×Nat)}{w:World}{N:Nat}{t:List UInt8}{x:HullV}{k:Nat}{v0 v1:Value}{A B:World}(h:RdH kb R w N t x k v0 v1 A){C:Nat→Prop}{b:Nat}(hk:Keep C A B)
  (hC:∀ k,k<A.heap.size→k≠b→C k) (hb:w.heap.size+3≤b) (h0:v0.ownBlock≠some b) (h1:v1.ownBlock≠some b):RdH kb R w N t x k v0 v1 B:=by
 have ht:=h.tx
 exact⟨h.bel.trans (hk.to_below (fun k hk=>hC k (by omega) (by omega))),hk.box h.f (hC _ (by omega) (by omega)),hk.box h.p (hC _ (by omega) (by omega)),hk.box h.q (hC _ (by omega) (by omega)),Nat.le_trans ht hk.size,
  hk.row h.r0 (fun g e=>hC g (h.r0.lt g e).2 (fun e'=>h0 (by rw [e,e']))),hk.row h.r1 (fun g e=>hC g (h.r1.lt g e).2 (fun e'=>h1 (by rw [e,e']))),h.ne,h.res,h.k2,h.len⟩
theorem row_cells{w:World}{base n size:Nat}{E:TypeId}{v:Value}{xs:List Value}(ho:w.ownsRow base E size v n xs){l:Nat}{o:Obj}(hl:w.heap[l]? = some o)(hc:o.isCells=false):v.ownBlock≠some l:=by
 intro e;rcases ho.2 with ⟨rfl,_⟩ | ⟨g,cap,cur,rfl,hb,hg,rest⟩
 ·cases e
 ·cases e
  rw [hl] at hg
  cases hg
  cases hc
def OffX(s:Nat)(v0 v1:Value)(W0:World):Nat→Prop:=fun k=>k<W0.heap.size∧k≠s+1∧k≠s+2∧v0.ownBlock≠some k∧v1.ownBlock≠some k
theorem keepsFrom_of{B:Nat}{C:Nat→Prop}{W W':World}(hk:Keep C W W')(hC:∀ k o,B≤k→W.heap[k]? = some o→o.isCells=false→C k):KeepsFrom B W W' :=
 ⟨hk.size,fun k o hB h hc=>(hk.block k (hC k o hB h hc)).trans h⟩
section
variable {kb:Nat} {R:Option (HullV×Nat)} {w:World} {N:Nat} {t rest:List UInt8} {x x':HullV} {k k':Nat} {v0 v1 v0' v1':Value} {W0 W':World}
theorem RdH.off(h:RdH kb R w N t x k v0 v1 W0)(hk:Keep (OffX w.heap.size v0 v1 W0) W0 W'):Below w.heap.size w W'∧KeepsFrom (w.heap.size+4) W0 W':=by
 have ht:=h.tx;refine⟨h.bel.trans (hk.to_below fun k hk=>⟨by omega,by omega,by omega,fun e=>by have:=(h.r0.lt _ e).1; omega,fun e=>by have:=(h.r1.lt _ e).1; omega⟩),?_⟩;refine keepsFrom_of hk fun k o hB ho hc=>⟨(Array.getElem?_eq_some_iff.1 ho).1,by omega,by omega,row_cells h.r0 ho hc,row_cells h.r1 ho hc⟩
theorem RdH.next(h:RdH kb R w N t x k v0 v1 W0)(hk:Keep (OffX w.heap.size v0 v1 W0) W0 W')(p:BoxAt W' (w.heap.size+1) #[v0',v1'] 25)(q:BoxAt W' (w.heap.size+2) #[.int .i64 (k':Nat)] 3)
  (r0:W'.ownsRow (w.heap.size+4) 142 3 v0' x'.s.length (seaV x'.s)) (r1:W'.ownsRow (w.heap.size+4) 144 4 v1' x'.u.length (souV x'.u)) (ne:∀ g,v0'.ownBlock=some g→v1'.ownBlock≠some g)
  (res:linesR stepH (x',k') rest=R) (k2:k'≤1) (len:x'.s.length+x'.u.length+rest.length≤N):RdH kb R w N rest x' k' v0' v1' W':=by
 have ht:=h.tx;exact⟨(h.off hk).1,hk.box h.f ⟨by omega,by omega,by omega,fun e=>by have:=(h.r0.lt _ e).1; omega,fun e=>by have:=(h.r1.lt _ e).1; omega⟩,p,q,Nat.le_trans ht hk.size,r0,r1,ne,res,k2,len⟩
theorem RdH.text(h:RdH kb R w N t x k v0 v1 W0)(hk:Keep (OffX w.heap.size v0 v1 W0) W0 W'){y:Array Value}{ty:Nat}(hb:BoxAt W0 (w.heap.size+3) y ty):BoxAt W' (w.heap.size+3) y ty :=
 hk.box hb ⟨lt_of_heap hb,by omega,by omega,fun e=>by have:=(h.r0.lt _ e).1; omega,fun e=>by have:=(h.r1.lt _ e).1; omega⟩
end
structure WhH (s:Nat) (x:HullV) (v0 v1:Value) (W0:World) (line:List UInt8) (j:Nat) (W:World):Prop where
 keep:Keep (OffX s v0 v1 W0) W0 W
 rd:RdAt W W0.heap.size line
 p:BoxAt W (s+1) #[v0,v1] 25
 q:BoxAt W (s+2) #[.int .i64 (j:Nat)] 3
 r0:W.ownsRow (s+4) 142 3 v0 x.s.length (seaV x.s)
 r1:W.ownsRow (s+4) 144 4 v1 x.u.length (souV x.u)
 lt0:∀ g,v0.ownBlock=some g→s+4≤g∧g<W0.heap.size
 lt1:∀ g,v1.ownBlock=some g→s+4≤g∧g<W0.heap.size
 hs:s+4≤W0.heap.size
theorem WhH.see{s:Nat}{x:HullV}{v0 v1:Value}{W0 W:World}{line:List UInt8}{j:Nat}(h:WhH s x v0 v1 W0 line j W)(u:List UInt8):WhH s x v0 v1 W0 u j (W.setCell ⟨W0.heap.size,0,none⟩ (.string ⟨u.toArray⟩)):=by
 have hs:=h.hs;have hk:Keep (fun k=>k≠W0.heap.size) W (W.setCell ⟨W0.heap.size,0,none⟩ (.string ⟨u.toArray⟩)):=Keep.set (Keep.refl _ _) _ _ _ (fun h=>h rfl);exact⟨Keep.set h.keep _ _ _ (fun hh=>by have:=hh.1; omega),h.rd.set u,hk.box h.p (by omega),hk.box h.q (by omega),hk.row h.r0 (fun g e=>by have:=h.lt0 g e; omega),hk.row h.r1 (fun g e=>by have:=h.lt1 g e; omega),h.lt0,h.lt1,hs⟩
theorem WhH.inc{s:Nat}{x:HullV}{v0 v1:Value}{W0 W:World}{line:List UInt8}{j:Nat}(h:WhH s x v0 v1 W0 line j W)(j':Nat):WhH s x v0 v1 W0 line j' (W.setCell ⟨s+2,0,none⟩ (.int .i64 (j':Nat))):=by
 have hs:=h.hs;have hk:Keep (fun k=>k≠s+2) W (W.setCell ⟨s+2,0,none⟩ (.int .i64 (j':Nat))):=Keep.set (Keep.refl _ _) _ _ _ (fun h=>h rfl);exact⟨Keep.set h.keep _ _ _ (fun hh=>hh.2.2.1 rfl),hk.box h.rd (by omega),hk.box h.p (by omega),h.q.store 0 _,hk.row h.r0 (fun g e=>by have:=h.lt0 g e; omega),hk.row h.r1 (fun g e=>by have:=h.lt1 g e; omega),h.lt0,h.lt1,hs⟩
theorem stepH_0{R:Option (HullV×Nat)}{x:HullV}{k:Nat}{line rest:List UInt8}(hJ:kindFrom (wsH.drop k) k line=0)(hR:R=(stepH (x,k) line).bind fun s'=>linesR stepH s' rest) :
  R=match seamsP (line.drop 4).length (line.drop 4) x.s with | none=>none | some (l,r)=>if r = [] then linesR stepH (⟨l,x.u⟩,1) rest else none:=by
 rw [hR,stepH,lineStep_of hJ (by decide)]
 show Option.bind (Option.bind ((seamsP (line.drop 4).length (line.drop 4) x.s).map (fun p=>((⟨p.1,x.u⟩:HullV),p.2))) _) _=_
 cases seamsP (line.drop 4).length (line.drop 4) x.s with
 | none=>rfl
 | some p =>
  obtain⟨l,r⟩:=p;by_cases hr:r = []
  ·subst hr; rfl
  ·simp [hr]
theorem stepH_1{R:Option (HullV×Nat)}{x:HullV}{k:Nat}{line rest:List UInt8}(hJ:kindFrom (wsH.drop k) k line=1)(hR:R=(stepH (x,k) line).bind fun s'=>linesR stepH s' rest) :
  R=match soundP line with | none=>none | some (a,r)=>if r = [] then linesR stepH (⟨x.s,x.u ++ [a]⟩,1) rest else none:=by
 rw [hR,stepH,lineStep_of hJ (by decide)]
 show Option.bind (Option.bind ((soundP line).map (fun p=>((⟨x.s,x.u ++ [p.1]⟩:HullV),p.2))) _) _=_
 cases soundP line with
 | none=>rfl
 | some p =>
  obtain⟨l,r⟩:=p;by_cases hr:r = []
  ·subst hr; rfl
  ·simp [hr]
def kOf(b:Nat)(W:World):Nat:=match W.cell? ⟨b,0,none⟩ with
 | some (.int _ n)=>n.toNat
 | _=>0
theorem kOf_at{W:World}{b k ty:Nat}(h:BoxAt W b #[.int .i64 (k:Nat)] ty):kOf b W=k:=by
 unfold kOf;rw [cellAt h 0];simp
set_option maxRecDepth 100000 in
set_option maxHeartbeats 4000000 in
theorem read79_any(kb:Nat)(t:List UInt8)(w:World)(hk:KindsH w kb)(hs:Sides w)(hlim:Lim w)(htab:Tab w)(hkb:1<kb) :
  Calls Tryz.prog 79 #[.agg (fileH (some ⟨kb,0,none⟩) 2 2),.string ⟨t.toArray⟩] w (ReadPostH t w):=by
 refine calls_of_wpOf (n:=9) Tryz.func79 rfl ?_;simp only [Tryz.ntmps79,List.size_toArray,List.length_cons,List.length_nil,Nat.reduceAdd,Nat.reduceSub,Array.replicate_succ,Array.replicate_zero,List.push_toArray,List.append_toArray,List.nil_append,List.cons_append];unfold fileH;have HK:=Lib.hid hk;have HS:=Lib.hid hs;have HL:=Lib.hid hlim;have HT:=Lib.hid htab;have hkl:=lt_of_heap hk;clear hk hs hlim htab;refine wpOf_seq_wp ?_;go_wp2_with fail;generalize hW:World.alloc _ _=w2;obtain⟨z0,z1,hz2,hB2⟩:=blocks2 hW;clear hW;have Z0:=Lib.hid (show BoxAt w2 w.heap.size (fileH (some ⟨kb,0,none⟩) 2 2) 96 from z0);have Z1:=Lib.hid (show BoxAt w2 (w.heap.size+1) #[.slice none 0 0,.slice none 0 0] 25 from z1);have B2:=Lib.hid hB2;clear z0 z1 hB2;by_cases ht:1000<t.length
 ·have t0:decide ((t.length:Int)≤1000)=false:=decide_eq_false (by omega)
  have HP:=Lib.hid (show ∀ w',Below w.heap.size w w'→ReadPostH t w (err 3) w' from fun w' h=>⟨h,by rw [if_pos ht]⟩);clear ht;refine wpOf_seq_wp ?_;go_wp2_with (go_at_call 62; refine(ask_false _ _).mono ?_);rintro e w' ⟨rfl,rfl⟩;exact HP.out w2 B2.out
 ·have t0:decide ((t.length:Int)≤1000)=true:=decide_eq_true (by omega)
  refine wpOf_seq_wp ?_;go_wp2_with (go_at_call 62; refine(ask_true _ _).mono ?_);rintro e w' ⟨rfl,rfl⟩;go_wp2_with fail;refine wpOf_seq_wp ?_;go_wp2_with fail;have hal:=(Below.refl w2.heap.size w2).alloc (Nat.le_refl _) (.cells #[.int .i64 0] 3);have hz3:(w2.alloc (.cells #[.int .i64 0] 3)).heap.size=w.heap.size+3:=by simp; omega
  have hz2':w2.heap.size=w.heap.size+2:=hz2;have B3:=Lib.hid (B2.out.next hal);have Y0:=Lib.hid (Z0.out.grow hal);have Y1:=Lib.hid (Z1.out.grow hal);have Y2:=Lib.hid (show BoxAt (w2.alloc (.cells #[.int .i64 0] 3)) (w.heap.size+2) #[.int .i64 0] 3 from by rw [← hz2']; exact heap_alloc_new _ _);have HZ2:=Lib.hid hz2';have HZ3:=Lib.hid hz3;clear hal Z0 Z1 B2 hz2 hz2' hz3;generalize World.alloc w2 _=w3 at *;refine wpOf_seq (wpOf_seq_wp ?_);go_wp2_with (go_at_call 138; refine(lines138_any t w3).mono ?_);rintro e w' ⟨rfl,rfl⟩;go_wp2_with fail;have hal:=(Below.refl w3.heap.size w3).alloc (Nat.le_refl _) (.cells #[.string ⟨t.toArray⟩] 9);have hz4:(w3.alloc (.cells #[.string ⟨t.toArray⟩] 9)).heap.size=w.heap.size+4:=by have:=HZ3.out; simp; omega
  have B4:=Lib.hid (B3.out.next hal);have X0:=Lib.hid (Y0.out.grow hal);have X1:=Lib.hid (Y1.out.grow hal);have X2:=Lib.hid (Y2.out.grow hal);have X3:=Lib.hid (show BoxAt (w3.alloc (.cells #[.string ⟨t.toArray⟩] 9)) (w.heap.size+3) #[.string ⟨t.toArray⟩] 9 from by rw [← HZ3.out]; exact heap_alloc_new _ _);have HZ4:=Lib.hid hz4;clear hal Y0 Y1 Y2 B3 hz4;generalize World.alloc w3 _=w4 at *;rw [HZ3.out];clear HZ3 HZ2;obtain⟨R,hR⟩:∃ R,linesR stepH (⟨[],[]⟩,0) t=R:=⟨_,rfl⟩
  have HR:=Lib.hid hR;clear hR;refine wpOf_block ?_
  refine wpOf_range_text (gf:=154) (lb:=#[bp (w.heap.size+3)]) (tb:=w.heap.size+3) (ty:=9) Tryz.func79 rfl (enters_of Tryz.func154 (by kernel_rfl) rfl) (lines154_any 9 (w.heap.size+3) t (by omega)) rfl (by rw [HZ4.out]; omega)
   (fun t' W => ∃ x k v0 v1,RdH kb R w t.length t' x k v0 v1 W) (fun W=>R=none∧Below w.heap.size w W) ?hI ?hIo ?hIp ?hPr ?h0 X3.out (fun line=>{tmps:=#[.agg #[.int .i64 1,.slice (some ⟨kb,0,none⟩) 2 2,.func (.func 100) #[] #[],.func (.func 102) #[] #[]],.string ⟨t.toArray⟩,bp w.heap.size,undef,bp (w.heap.size+1),bp (w.heap.size+2),.string ⟨line.toArray⟩,undef,.string ⟨t.toArray⟩,.int .i64 t.length,.bool true,.tuple #[],.string ⟨t.toArray⟩,.func (.func 154) #[] #[bp (w.heap.size+3)],.string ⟨line.toArray⟩,undef,undef,undef,undef,undef,undef,undef,undef,undef,undef,undef,undef,undef,undef,undef,undef,undef,undef,undef,undef,undef,undef,undef,undef,undef,undef,undef,undef,undef,undef,undef,undef,undef,undef,undef,undef,undef,undef,undef,undef,undef,undef,undef,undef,undef,undef,undef,undef,undef,undef,undef,undef,undef,undef,undef,undef,undef,undef,undef,undef,undef],defers:=[]}) ?assign ?body ?done ?pan
  case hI =>
   rintro t' A B ⟨x,k,v0,v1,h⟩ hk;have ht:=h.tx;exact⟨x,k,v0,v1,h.keep hk (b:=w.heap.size+3) (fun k h1 h2=>⟨h1,h2⟩) (Nat.le_refl _) (fun e=>by have:=(h.r0.lt _ e).1; omega) (fun e=>by have:=(h.r1.lt _ e).1; omega)⟩
  case hIo =>
   rintro t' A l o o' ⟨x,k,v0,v1,h⟩ hl ho hc;rw [HZ4.out] at hl;exact⟨x,k,v0,v1,h.keep (Keep.putObj A l o') (b:=l) (fun k h1 h2=>⟨h1,h2⟩) (by omega) (row_cells h.r0 ho hc) (row_cells h.r1 ho hc)⟩
  case hIp =>
   rintro t' A ⟨x,k,v0,v1,h⟩ hb;exact⟨by rw [← h.res]; exact linesR_bad _ _ hb.1 hb.2,h.bel⟩
  case hPr =>
   rintro t' A ⟨x,k,v0,v1,h⟩;exact HL.out.keep (Keep.of_below h.bel (C:=fun k=>k<w.heap.size) fun k hk=>hk) (by omega)
  case h0=>exact⟨⟨[],[]⟩,0,.slice none 0 0,.slice none 0 0,⟨B4.out,X0.out,X1.out,X2.out,by rw [HZ4.out]; exact Nat.le_refl _,World.ownsRow_nil ..,World.ownsRow_nil ..,fun g e=>(by cases e),HR.out,by omega,by simp⟩⟩
  case assign =>
   intro l x W K hK
   gi_wp2
   exact hK
  case body =>
   rintro l t' line rest W0 ⟨x,k,v0,v1,h⟩ hN hbx ⟨r,hr⟩;have H0:=Lib.hid h;have HN:=Lib.hid hN;have HBX:=Lib.hid hbx;have htx:=h.tx;have hk2:=h.k2;have hln:=h.len;have hlen:=cut_found t' (by rw [hN.2.1]);rw [hN.2.1] at hlen;dsimp only at hlen;have HKA:=Lib.hid (show KindsH W0 kb from BoxAt.grow HK.out h.bel);have HF:=Lib.hid h.f;have OWN:=Lib.hid (show(∀ g,g<w.heap.size+4→v0.ownBlock≠some g)∧(∀ g,g<w.heap.size+4→v1.ownBlock≠some g) from⟨fun g hg e=>by have:=(h.r0.lt _ e).1; omega,fun g hg e=>by have:=(h.r1.lt _ e).1; omega⟩)
   have HR1:=Lib.hid (show R=(stepH (x,k) line).bind fun s'=>linesR stepH s' rest from by
    rw [← h.res]
    exact linesR_bind stepH (x,k) hN.1 hN.2.1)
   have hal:=(Below.refl W0.heap.size W0).alloc (Nat.le_refl _) (.cells #[.string ⟨line.toArray⟩] 173);have hkp:Keep (OffX w.heap.size v0 v1 W0) W0 (W0.alloc (.cells #[.string ⟨line.toArray⟩] 173)):=Keep.of_below hal fun k hk=>hk.1
   have I1:=Lib.hid (show WhH w.heap.size x v0 v1 W0 line k (W0.alloc (.cells #[.string ⟨line.toArray⟩] 173)) from
    ⟨hkp,heap_alloc_new _ _,BoxAt.grow h.p hal,BoxAt.grow h.q hal,h.r0.alloc _,h.r1.alloc _,h.r0.lt,h.r1.lt,htx⟩)
   clear h hN hbx hr hal hkp
   gi_wp2
   generalize World.alloc W0 _=W1 at *;obtain⟨J,hJ⟩:∃ J,kindFrom (wsH.drop k) k line=J:=⟨_,rfl⟩
   have HJ:=Lib.hid hJ;clear hJ
   gi_loopw [33] (fun _ wr => ∃ j:Nat,j≤1∧kindFrom (wsH.drop j) j line=J∧WhH w.heap.size x v0 v1 W0 line j wr) (fun _ wr=>2 - kOf (w.heap.size+2) wr)
   case atStart=>exact⟨k,hk2,HJ.out,I1.out⟩
   case round =>
    obtain⟨j,hj,hjj,hi⟩:=hrel;have I2:=Lib.hid hi;have HJJ:=Lib.hid hjj;have hm:=kOf_at hi.q;have hKF:=hi.keep;have hfa:=hKF.box HF.out ⟨by omega,by omega,by omega,OWN.out.1 _ (by omega),OWN.out.2 _ (by omega)⟩;have hka:=hKF.box HKA.out ⟨by omega,by omega,by omega,OWN.out.1 _ (by omega),OWN.out.2 _ (by omega)⟩;have fa1:=cellAt hfa 1;have ka0:=cellAt hka 0;have ka2:=cellAt hka 2;have q0:=cellAt hi.q 0;simp only [fileH,List.getElem?_toArray,List.getElem?_cons_zero,List.getElem?_cons_succ] at fa1 ka0 ka2 q0;clear hi hjj I1 hKF hfa hka;rcases(show j=0∨j=1 by omega) with rfl | rfl
    ·have C2:=Lib.hid (sees_any W0.heap.size line [104,117,108,108] wr I2.out.rd)
     gi_wp2
     refine⟨trivial,?_⟩;refine(CallsIn.inRound l (callsIn_wide.2 C2.out)).mono ?_;rintro e w2 ⟨rfl,rfl⟩
     cases hp:Lib.hasPrefix line [104,117,108,108] with
     | true =>
      rw [seesT_yes hp];have hJ0:J=0:=by rw [← HJJ.out]; show(if Lib.hasPrefix line [104,117,108,108]=true then _ else _)=_; rw [if_pos hp]
      have HQ:=Lib.hid (stepH_0 (HJ.out.trans hJ0) HR1.out);have I3:=Lib.hid (I2.out.see (line.drop 4));clear hp hJ0 C2 I2 HJ HJJ HR1
      show _
      have fa1':=fa1;clear fa1 ka0 ka2 q0;generalize World.setCell wr _ _=w2 at *;have hfa:=I3.out.keep.box HF.out ⟨by omega,by omega,by omega,OWN.out.1 _ (by omega),OWN.out.2 _ (by omega)⟩;have hka:=I3.out.keep.box HKA.out ⟨by omega,by omega,by omega,OWN.out.1 _ (by omega),OWN.out.2 _ (by omega)⟩;have fa1:=cellAt hfa 1;have ka1:=cellAt hka 1;have q0:=cellAt I3.out.q 0;simp only [fileH,List.getElem?_toArray,List.getElem?_cons_zero,List.getElem?_cons_succ] at fa1 ka1 q0;clear hfa hka
      gi_wp2
      refine⟨trivial,?_⟩;refine(CallsIn.inRound l (callsIn_wide.2 (ask_true _ _))).mono ?_;rintro e w' ⟨rfl,rfl⟩
      gi_wp2
      have hdl:(line.drop 4).length≤line.length:=by rw [List.length_drop]; omega
      have C3:=Lib.hid (hulls93_any W0.heap.size (w.heap.size+1) (w.heap.size+4) v1 v0 x.s (line.drop 4) w2 I3.out.rd I3.out.p (by omega) (fun e=>by have:=I3.out.lt0 _ e; omega) (OWN.out.1 _ (by omega)) (by have:=I3.out.keep.size; omega) I3.out.r0 (by omega) (by omega) (HS.out.grow (H0.out.off I3.out.keep).1) ⟨by omega,by omega,by omega⟩);refine⟨trivial,?_⟩;refine(CallsIn.inRound l (callsIn_wide.2 C3.out)).mono ?_;intro e w3 hpost;obtain⟨ho,hh⟩:=hpost;have K3:Keep (OffX w.heap.size v0 v1 W0) W0 w3:=I3.out.keep.trans (Keep.mono ho (fun k hk=>⟨Nat.lt_of_lt_of_le hk.1 I3.out.keep.size,(by have:=hk.1; omega),hk.2.1,hk.2.2.2.1⟩));have HOF:=Lib.hid (H0.out.off K3)
      cases hr:seamsP (line.drop 4).length (line.drop 4) x.s with
      | none =>
       rw [hr] at hh HQ;dsimp only at hh HQ;subst hh;exact⟨rfl,rfl,by rw [HZ4.out]; exact HOF.out.2,HQ.out,HOF.out.1⟩
      | some p =>
      obtain⟨l',r'⟩:=p;rw [hr] at hh HQ;dsimp only at HQ;obtain⟨he,hrd,v',hp',hrow',hown'⟩:=hh;subst he;have HK3:=Lib.hid K3;have RD3:=Lib.hid hrd;have P3:=Lib.hid hp';have V3:=Lib.hid hrow';have OW3:=Lib.hid hown';have Q3:=Lib.hid (ho.box I3.out.q ⟨by have:=I3.out.keep.size; omega,by omega,by omega,OWN.out.1 _ (by omega)⟩);have U3:=Lib.hid (ho.row I3.out.r1 (fun g e=>⟨(I3.out.r1.lt g e).2,(by have:=I3.out.lt1 g e; omega),(by have:=I3.out.lt1 g e; omega),fun e'=>H0.out.ne g e' e⟩));have HSR:=Lib.hid hr;clear hrd hp' hrow' hown' ho K3 C3 hr fa1 fa1' ka1 q0;have hrd0:=cellAt RD3.out 0;simp only [List.getElem?_toArray,List.getElem?_cons_zero] at hrd0
      cases r' with
      | cons c r' =>
       gi_wp2
       refine⟨trivial,(CallsIn.inRound l (callsIn_wide.2 (ask_false _ _))).mono ?_⟩;rintro e w' ⟨rfl,rfl⟩;exact⟨rfl,rfl,by rw [HZ4.out]; exact HOF.out.2,by rw [HQ.out,if_neg (by simp)],HOF.out.1⟩
      | nil =>
       have hfa:=HK3.out.box HF.out ⟨by omega,by omega,by omega,OWN.out.1 _ (by omega),OWN.out.2 _ (by omega)⟩;have fa0:=cellAt hfa 0;have q0:=cellAt Q3.out 0;have fq:=freeAt Q3.out 0;simp only [fileH,List.getElem?_toArray,List.getElem?_cons_zero] at fa0 q0;clear hfa;have hk4:Keep (fun k=>k≠w.heap.size+2) w3 (w3.setCell ⟨w.heap.size+2,0,none⟩ (.int .i64 ((1:Nat):Int))):=Keep.set (Keep.refl _ _) _ _ _ (fun h=>h rfl);have hk5:Keep (OffX w.heap.size v0 v1 W0) W0 (w3.setCell ⟨w.heap.size+2,0,none⟩ (.int .i64 ((1:Nat):Int))):=Keep.set HK3.out _ _ _ (fun hh=>hh.2.2.1 rfl);have hsl:=seamsP_len _ HSR.out
       have N5:=Lib.hid (H0.out.next (x':=⟨l',x.u⟩) (k':=1) hk5 (hk4.box P3.out (by omega)) (Q3.out.store 0 _)
        (hk4.row V3.out (fun g e=>by rcases OW3.out g e with h | h; (have:=I3.out.lt0 g h; omega); (have:=I3.out.keep.size; omega)))
        (hk4.row U3.out (fun g e=>by have:=I3.out.lt1 g e; omega))
        (fun g e e'=>by rcases OW3.out g e with h | h; exact H0.out.ne g h e'; (have:=I3.out.keep.size; have:=I3.out.lt1 g e'; omega))
        (by rw [HQ.out,if_pos rfl]) (Nat.le_refl _) (by dsimp only; simp only [List.length_nil] at hsl; omega))
       have T5:=Lib.hid (H0.out.text hk5 HBX.out);have F5:=Lib.hid (H0.out.off hk5).2;clear hk4 hk5 hsl
       gi_wp2
       refine⟨trivial,(CallsIn.inRound l (callsIn_wide.2 (ask_true _ _))).mono ?_⟩;rintro e w' ⟨rfl,rfl⟩
       gi_wp2
       exact⟨by rw [HZ4.out]; exact F5.out,⟨_,_,_,_,N5.out⟩,T5.out⟩
     | false =>
      rw [seesT_no hp];have HJ1:=Lib.hid (show kindFrom (wsH.drop 1) 1 line=J from by rw [← HJJ.out]; exact(if_neg (by rw [hp]; decide)).symm);have I3:=Lib.hid (I2.out.see line);have I4:=Lib.hid (I3.out.inc 1);have q1:=cellAt I3.out.q 0;have fq:=freeAt I3.out.q 0;simp only [List.getElem?_toArray,List.getElem?_cons_zero] at q1;clear hp C2 I2 HJ HJJ q0 fa1 ka0 ka2
      gi_wp2
      exact⟨⟨1,by omega,HJ1.out,I4.out⟩,Nat.lt_of_le_of_lt (Nat.le_of_eq (congrArg (2 - ·) (kOf_at I4.out.q))) (by omega)⟩
    ·have C2:=Lib.hid (sees_any W0.heap.size line [] wr I2.out.rd)
     gi_wp2
     refine⟨trivial,?_⟩;refine(CallsIn.inRound l (callsIn_wide.2 C2.out)).mono ?_;rintro e w2 ⟨rfl,rfl⟩;have hp:Lib.hasPrefix line []=true:=by simp [Lib.hasPrefix]
     rw [hp,seesT_yes hp];have hJ1:J=1:=by rw [← HJJ.out]; show(if Lib.hasPrefix line []=true then _ else _)=_; rw [if_pos hp]
     have HQ:=Lib.hid (stepH_1 (HJ.out.trans hJ1) HR1.out);have I3:=Lib.hid (I2.out.see line);clear hp hJ1 C2 I2 HJ HJJ HR1;rw [show line.drop ([]:List UInt8).length=line from rfl];clear fa1 ka0 ka2 q0;generalize World.setCell wr _ _=w2 at *;have hfa:=I3.out.keep.box HF.out ⟨by omega,by omega,by omega,OWN.out.1 _ (by omega),OWN.out.2 _ (by omega)⟩;have hka:=I3.out.keep.box HKA.out ⟨by omega,by omega,by omega,OWN.out.1 _ (by omega),OWN.out.2 _ (by omega)⟩;have fa1:=cellAt hfa 1;have ka3:=cellAt hka 3;have q0:=cellAt I3.out.q 0;simp only [fileH,List.getElem?_toArray,List.getElem?_cons_zero,List.getElem?_cons_succ] at fa1 ka3 q0;clear hfa hka
     gi_wp2
     refine⟨trivial,?_⟩;refine(CallsIn.inRound l (callsIn_wide.2 (ask_true _ _))).mono ?_;rintro e w' ⟨rfl,rfl⟩
     gi_wp2
     have C3:=Lib.hid (sound97_any W0.heap.size (w.heap.size+1) (w.heap.size+4) v0 v1 (souV x.u) x.u.length line w2 I3.out.rd I3.out.p (by omega) (fun e=>by have:=I3.out.lt1 _ e; omega) (OWN.out.2 _ (by omega)) (by have:=I3.out.keep.size; omega) I3.out.r1 (by omega) (by omega));refine⟨trivial,?_⟩;refine(CallsIn.inRound l (callsIn_wide.2 C3.out)).mono ?_;intro e w3 hpost;obtain⟨ho,hh⟩:=hpost;have K3:Keep (OffX w.heap.size v0 v1 W0) W0 w3:=I3.out.keep.trans (Keep.mono ho (fun k hk=>⟨Nat.lt_of_lt_of_le hk.1 I3.out.keep.size,(by have:=hk.1; omega),hk.2.1,hk.2.2.2.2⟩));have HOF:=Lib.hid (H0.out.off K3)
     cases hr:soundP line with
     | none =>
      rw [hr] at hh HQ;dsimp only at hh HQ;subst hh;exact⟨rfl,rfl,by rw [HZ4.out]; exact HOF.out.2,HQ.out,HOF.out.1⟩
     | some p =>
     obtain⟨a',r'⟩:=p;rw [hr] at hh HQ;dsimp only at HQ;obtain⟨he,hrd,v',hp',hrow',hown'⟩:=hh;subst he;have HK3:=Lib.hid K3;have RD3:=Lib.hid hrd;have P3:=Lib.hid hp';have U3:=Lib.hid hrow';have OW3:=Lib.hid hown';have Q3:=Lib.hid (ho.box I3.out.q ⟨by have:=I3.out.keep.size; omega,by omega,by omega,OWN.out.2 _ (by omega)⟩);have V3:=Lib.hid (ho.row I3.out.r0 (fun g e=>⟨(I3.out.r0.lt g e).2,(by have:=I3.out.lt0 g e; omega),(by have:=I3.out.lt0 g e; omega),H0.out.ne g e⟩));have HSR:=Lib.hid hr;clear hrd hp' hrow' hown' ho K3 C3 hr fa1 ka3 q0;have hrd0:=cellAt RD3.out 0;simp only [List.getElem?_toArray,List.getElem?_cons_zero] at hrd0
     cases r' with
     | cons c r' =>
      gi_wp2
      refine⟨trivial,(CallsIn.inRound l (callsIn_wide.2 (ask_false _ _))).mono ?_⟩;rintro e w' ⟨rfl,rfl⟩;exact⟨rfl,rfl,by rw [HZ4.out]; exact HOF.out.2,by rw [HQ.out,if_neg (by simp)],HOF.out.1⟩
     | nil =>
      have hfa:=HK3.out.box HF.out ⟨by omega,by omega,by omega,OWN.out.1 _ (by omega),OWN.out.2 _ (by omega)⟩;have fa0:=cellAt hfa 0;have q0:=cellAt Q3.out 0;simp only [fileH,List.getElem?_toArray,List.getElem?_cons_zero] at fa0 q0;clear hfa;have hsl:=soundP_shorter HSR.out
      have N5:=Lib.hid (H0.out.next (x':=⟨x.s,x.u ++ [a']⟩) (k':=1) HK3.out P3.out Q3.out V3.out (by rw [souV_snoc,List.length_append]; exact U3.out)
       (fun g e e'=>by rcases OW3.out g e' with h | h; exact H0.out.ne g e h; (have:=I3.out.keep.size; have:=I3.out.lt0 g e; omega))
       (by rw [HQ.out,if_pos rfl]) (Nat.le_refl _) (by dsimp only; rw [List.length_append]; simp only [List.length_cons,List.length_nil]; omega))
      have T5:=Lib.hid (H0.out.text HK3.out HBX.out);have F5:=Lib.hid (H0.out.off HK3.out).2;clear hsl
      gi_wp2
      refine⟨trivial,(CallsIn.inRound l (callsIn_wide.2 (ask_true _ _))).mono ?_⟩;rintro e w' ⟨rfl,rfl⟩
      gi_wp2
      exact⟨by rw [HZ4.out]; exact F5.out,⟨_,_,_,_,N5.out⟩,T5.out⟩
  case done =>
   rintro W ⟨x,k,v0,v1,h⟩ hD;have hR1:R=some (x,k):=by rw [← h.res]; rfl
   have hln:=h.len;obtain⟨sa,sc,rfl,hS,hSb,_⟩:=rowN_of (cell:=fun i j=>(seaOf x.s i).cell j) h.r0 (by unfold maxLen; omega) (fun i hi j hj=>seaV_get _ i hi j hj);obtain⟨ua,uc,rfl,hU,hUb,_⟩:=rowN_of (cell:=fun i j=>(souOf x.u i).cell j) h.r1 (by unfold maxLen; omega) (fun i hi j hj=>souV_get _ i hi j hj);have hSd:0<x.s.length→blk sa≠w4.heap.size:=fun hn e=>row_cells h.r0 hD rfl (by rw [hS.plain hn,e]; rfl);have hUd:0<x.u.length→blk ua≠w4.heap.size:=fun hn e=>row_cells h.r1 hD rfl (by rw [hU.plain hn,e]; rfl);have SS:=Lib.hid (show SeasAt W sa x.s.length (seaOf x.s) from hS);have UU:=Lib.hid (show SousAt W ua x.u.length (souOf x.u) from hU);have HB:=Lib.hid h.bel;have HF:=Lib.hid h.f;have HP:=Lib.hid h.p
   have HX:=Lib.hid (show ∀ W' e,Below w.heap.size w W'→(if hullB (seaOf x.s) x.s.length (souOf x.u) x.u.length∧hullT (seaOf x.s) x.s.length (souOf x.u) x.u.length=t then(∃ sa sc ua uc,e = .returned (.agg #[.slice sa x.s.length sc,.slice ua x.u.length uc])∧SeasAt W' sa x.s.length (seaOf x.s)∧SousAt W' ua x.u.length (souOf x.u)∧(0<x.s.length→w.heap.size≤blk sa)∧(0<x.u.length→w.heap.size≤blk ua)) else e=err 8)→ReadPostH t w e W' from fun W' e hb he=>by
    refine⟨hb,?_⟩;rw [if_neg ht];unfold readH;rw [HR.out,hR1];dsimp only;by_cases hc:hullB (seaOf x.s) x.s.length (souOf x.u) x.u.length∧hullT (seaOf x.s) x.s.length (souOf x.u) x.u.length=t
    ·rw [if_pos hc] at he ⊢
     exact he
    ·rw [if_neg hc] at he ⊢
     exact he)
   have tx:=h.tx;have fa2:=cellAt h.f 2;have fa3:=cellAt h.f 3;have p0:=cellAt h.p 0;have p1:=cellAt h.p 1;simp only [fileH,List.getElem?_toArray,List.getElem?_cons_zero,List.getElem?_cons_succ] at fa2 fa3 p0 p1;have HDF:=Lib.hid hD;clear hR1 hS hU h hD HR
   show wpOf 79 9 Tryz.prog _ _ _ _
   refine wpOf_seq_wp ?_;go_wp2_with fail;refine(isHull_any sa ua x.s.length sc x.u.length uc (seaOf x.s) (souOf x.u) W SS.out UU.out).mono ?_;rintro e w5 ⟨rfl,hb5⟩;have B5:=Lib.hid (HB.out.next hb5);have S5:=Lib.hid (SS.out.grow hb5);have U5:=Lib.hid (UU.out.grow hb5);have F5:=HF.out.grow hb5;have P5:=Lib.hid (HP.out.grow hb5);have D5:=Lib.hid (show w5.heap[w4.heap.size]? = some (.deferred (some [])) from(hb5.block _ (Array.getElem?_eq_some_iff.1 HDF.out).1).trans HDF.out);have fa2:=cellAt F5 2;have p0:=cellAt P5.out 0;have p1:=cellAt P5.out 1;simp only [fileH,List.getElem?_toArray,List.getElem?_cons_zero,List.getElem?_cons_succ] at fa2 p0 p1;clear hb5 F5 SS UU HF HP HDF HB
   cases hB:hullB (seaOf x.s) x.s.length (souOf x.u) x.u.length with
   | false =>
    have HX2:=Lib.hid (show ∀ W',Below w.heap.size w W'→ReadPostH t w (err 8) W' from fun W' hb=>HX.out W' _ hb (by rw [if_neg (by rw [hB]; simp)]));clear hB HX;go_wp2_with fail;refine(ask_false _ _).mono ?_;rintro e w' ⟨rfl,rfl⟩;refine⟨by simp,.inl ⟨_,_,rfl,run_takeDeferred D5.out,?_⟩⟩;exact HX2.out _ (B5.out.grown (grownBy_putObj' w5 _ _) B5.out.size (fun k e=>by cases e; rw [HZ4.out]; omega))
   | true =>
    have HOK:=Lib.hid (hull_ok hB);go_wp2_with fail;refine(hulls3_any sa ua x.s.length sc x.u.length uc (seaOf x.s) (souOf x.u) w5 S5.out U5.out HOK.out (HT.out.grow B5.out) (HS.out.grow B5.out)).mono ?_;rintro e w6 ⟨rfl,hb6⟩;have B6:=Lib.hid (B5.out.next hb6);have S6:=Lib.hid (S5.out.grow hb6);have U6:=Lib.hid (U5.out.grow hb6);have P6:=Lib.hid (P5.out.grow hb6);have D6:=Lib.hid (show w6.heap[w4.heap.size]? = some (.deferred (some [])) from(hb6.block _ (Array.getElem?_eq_some_iff.1 D5.out).1).trans D5.out);have p0:=cellAt P6.out 0;have p1:=cellAt P6.out 1;simp only [List.getElem?_toArray,List.getElem?_cons_zero,List.getElem?_cons_succ] at p0 p1;clear hb6 S5 U5 P5 D5 B5 fa2;by_cases hT:hullT (seaOf x.s) x.s.length (souOf x.u) x.u.length=t
    ·have HX3:=Lib.hid (fun W' e hb h=>HX.out W' e hb (by rw [if_pos ⟨hB,hT⟩]; exact h))
     rw [hT];clear hB HX hT;have r0:=freeAt P6.out 0;have r1:=freeAt P6.out 1;go_wp2_with fail;refine(ask_true _ _).mono ?_;rintro e w' ⟨rfl,rfl⟩;go_wp2_with fail;have P7:=Lib.hid (show BoxAt ((w6.setCell ⟨w.heap.size+1,0,none⟩ (.slice sa x.s.length sc)).setCell ⟨w.heap.size+1,1,none⟩ (.slice ua x.u.length uc)) (w.heap.size+1) #[.slice sa x.s.length sc,.slice ua x.u.length uc] 25 from(P6.out.store 0 (.slice sa x.s.length sc)).store 1 (.slice ua x.u.length uc));have hk7:Keep (fun k=>k≠w.heap.size+1) w6 ((w6.setCell ⟨w.heap.size+1,0,none⟩ (.slice sa x.s.length sc)).setCell ⟨w.heap.size+1,1,none⟩ (.slice ua x.u.length uc)):=Keep.set (Keep.set (Keep.refl _ _) _ _ _ (fun h=>h rfl)) _ _ _ (fun h=>h rfl);have B7:=Lib.hid ((B6.out.setCell (p:=⟨w.heap.size+1,0,none⟩) (by dsimp only; omega) (.slice sa x.s.length sc)).setCell (p:=⟨w.heap.size+1,1,none⟩) (by dsimp only; omega) (.slice ua x.u.length uc));have S7:=Lib.hid (Row.keep S6.out hk7 (fun hn=>by have:=hSb hn; omega));have U7:=Lib.hid (Row.keep U6.out hk7 (fun hn=>by have:=hUb hn; omega));have D7:=Lib.hid ((hk7.block w4.heap.size (by rw [HZ4.out]; omega)).trans D6.out);have HSB:=Lib.hid hSb;have HUB:=Lib.hid hUb;clear hk7 S6 U6 B6 D6 hSb hUb;refine wpOf_seq_wp ?_;go_wp2_with fail;generalize World.setCell (World.setCell w6 _ _) _ _=w7 at *;clear p0 p1 r0 r1;refine wpOf_of_wp ?_;go_wp2_with fail;refine⟨by simp,.inl ⟨_,_,rfl,run_takeDeferred D7.out,?_⟩⟩;have hk8:Keep (fun k=>k<w7.heap.size∧k≠w4.heap.size) w7 (w7.putObj w4.heap.size (.deferred none)):=Keep.putObj _ _ _;have P8:=hk8.box P7.out ⟨lt_of_heap P7.out,by rw [HZ4.out]; omega⟩;have p0:=cellAt P8 0;have p1:=cellAt P8 1;simp only [List.getElem?_toArray,List.getElem?_cons_zero,List.getElem?_cons_succ] at p0 p1;refine⟨.agg #[.slice sa x.s.length sc,.slice ua x.u.length uc],by simp [results,Tryz.results79,go_sem,p0,p1],HX3.out _ _ (B7.out.grown (grownBy_putObj' w7 _ _) B7.out.size (fun k e=>by cases e; rw [HZ4.out]; omega)) ⟨_,_,_,_,rfl,?_,?_,?_,?_⟩⟩
     ·exact Row.keep S7.out hk8 (fun hn=>⟨S7.out.old hn,hSd hn⟩)
     ·exact Row.keep U7.out hk8 (fun hn=>⟨U7.out.old hn,hUd hn⟩)
     ·intro hn; have:=HSB.out hn; omega
     ·intro hn; have:=HUB.out hn; omega
    ·have HX3:=Lib.hid (fun W' hb=>HX.out W' (err 8) hb (by rw [if_neg (fun h=>hT h.2)]))
     have HTT:=Lib.hid hT;clear hB HX hT;go_wp2_with fail;rw [show(hullT (seaOf x.s) x.s.length (souOf x.u) x.u.length==t)=false from beq_eq_false_iff_ne.2 HTT.out];refine(ask_false _ _).mono ?_;rintro e w' ⟨rfl,rfl⟩;refine⟨by simp,.inl ⟨_,_,rfl,run_takeDeferred D6.out,?_⟩⟩;exact HX3.out _ (B6.out.grown (grownBy_putObj' w6 _ _) B6.out.size (fun k e=>by cases e; rw [HZ4.out]; omega))
  case pan =>
   rintro W ⟨hR,hb⟩ hD;refine⟨by simp,.inl ⟨_,_,rfl,run_takeDeferred hD,?_⟩⟩;refine⟨hb.grown (grownBy_putObj' W _ _) hb.size (fun k e=>by cases e; rw [HZ4.out]; omega),?_⟩;rw [if_neg ht];unfold readH;rw [HR.out,hR];rfl
end Go.Proofs.YtclbmlmlhiiaeaaGreatDoor
namespace Go.Proofs.YtclbmlmlhiiaeaaGreatDoor
open Go.RowKit
def hullRes(t:List UInt8):Int×HullV:=if 1000<t.length then(3,⟨[],[]⟩) else match readH t with
 | none=>(8,⟨[],[]⟩)
 | some x=>(0,x)
def ReadHullPost(t:List UInt8)(w:World)(e:Ending)(w':World):Prop :=
 Below w.heap.size w w' ∧ ∃ sa sc ua uc,e = .returned (.tuple #[.agg #[.slice sa (hullRes t).2.s.length sc,.slice ua (hullRes t).2.u.length uc],.int .i64 (hullRes t).1]) ∧
  SeasAt w' sa (hullRes t).2.s.length (seaOf (hullRes t).2.s)∧SousAt w' ua (hullRes t).2.u.length (souOf (hullRes t).2.u)∧(0<(hullRes t).2.s.length→w.heap.size≤blk sa)∧(0<(hullRes t).2.u.length→w.heap.size≤blk ua)
theorem row_none(w:World)(sz:Nat)(cell:Nat→Nat→Value):Row w none 0 sz cell:=⟨fun h=>by omega,fun h=>by omega,by unfold maxLen; omega,fun i hi=>by omega⟩
theorem ReadHullPost.no{t:List UInt8}{w w':World}{x:Int}(hR:hullRes t=(x,⟨[],[]⟩))(hb:Below w.heap.size w w'):ReadHullPost t w (.returned (.tuple #[.agg #[.slice none 0 0,.slice none 0 0],.int .i64 x])) w':=by
 refine⟨hb,none,0,none,0,?_⟩;rw [hR];exact⟨rfl,row_none _ _ _,row_none _ _ _,fun h=>(by cases h),fun h=>(by cases h)⟩
structure RH2 (w W:World):Prop where
 bel:Below w.heap.size w W
 a:BoxAt W w.heap.size #[.slice none 0 0,.slice none 0 0] 25
 e:BoxAt W (w.heap.size+1) #[.int .i64 0] 41
theorem RH2.grow{w W W':World}(h:RH2 w W)(hb:Below W.heap.size W W'):RH2 w W':=⟨h.bel.next hb,h.a.grow hb,h.e.grow hb⟩
set_option maxRecDepth 100000 in
set_option maxHeartbeats 4000000 in
theorem readHull35_any(t:List UInt8)(w:World)(hs:Sides w)(hlim:Lim w)(htab:Tab w)(h1:1<w.heap.size) :
  Calls Tryz.prog 35 #[.string ⟨t.toArray⟩] w (ReadHullPost t w):=by
 have I0:=Lib.hid (show RH2 w ((w.alloc (.cells #[.slice none 0 0,.slice none 0 0] 25)).alloc (.cells #[.int .i64 0] 41)) from by
  obtain⟨z0,z1,-,hB⟩:=blocks2 (show(w.alloc (.cells #[.slice none 0 0,.slice none 0 0] 25)).alloc (.cells #[.int .i64 0] 41)=_ from rfl)
  exact⟨hB,z0,z1⟩)
 have HS:=Lib.hid hs;have HL:=Lib.hid hlim;have HT:=Lib.hid htab;clear hs hlim htab
 go_enter_defers Tryz.func35,Tryz.ntmps35
 go_upto_region 2 with (fail)
 generalize World.alloc _ _=W at *;go_wp2_with (go_at_call 54; refine(hulls54_any _).mono ?_);rintro e w1 ⟨rfl,hb1,hk1⟩;have hWz:=I0.out.bel.size;have HK:=Lib.hid hk1;have I1:=Lib.hid (I0.out.grow hb1);have hWz1:w.heap.size+1<W.heap.size:=lt_of_heap I0.out.e;have hkb:1<W.heap.size+1:=by omega
 generalize W.heap.size+1=kb at *;clear hb1 hk1 I0;go_wp2_with fail;have C2:=Lib.hid (read79_any kb t w1 HK.out (HS.out.grow I1.out.bel) (HL.out.keep (Keep.of_below I1.out.bel (C:=fun k=>k<w.heap.size) fun k hk=>hk) h1) (HT.out.grow I1.out.bel) hkb);refine C2.out.mono ?_;intro e w2 hpost;obtain⟨hb2,hh⟩:=hpost;have I2:=Lib.hid (I1.out.grow hb2);have r0:=cellAt I2.out.e 0;have f0:=freeAt I2.out.e 0;have a0:=cellAt I2.out.a 0;have a1:=cellAt I2.out.a 1;have fa0:=freeAt I2.out.a 0;have fa1:=freeAt I2.out.a 1;simp only [List.getElem?_toArray,List.getElem?_cons_zero,List.getElem?_cons_succ] at r0 a0 a1;by_cases ht:1000<t.length
 ·rw [if_pos ht] at hh
  subst hh;have HR:=Lib.hid (show hullRes t=(3,⟨[],[]⟩) from if_pos ht);clear hb2 ht;simp only [err];refine leaves_cons (f:=52) (args:=#[bp (w.heap.size+1)]) (by simp) (by simp [go_sem]) ?_;refine(answer_panicking _ 0 3 [] _ I2.out.e).mono ?_;rintro e u' w'' ⟨rfl,rfl,rfl⟩;simp [Leaves,settle,results,Tryz.results35,go_sem,r0,a0,a1];exact ReadHullPost.no HR.out (I2.out.bel.setCell (by dsimp only; omega) _)
 ·rw [if_neg ht] at hh
  cases hr:readH t with
  | none =>
   rw [hr] at hh;have he:e=err 8:=hh;subst he;have HR:=Lib.hid (show hullRes t=(8,⟨[],[]⟩) from by unfold hullRes; rw [if_neg ht,hr]);clear hb2 ht hr hh;simp only [err];refine leaves_cons (f:=52) (args:=#[bp (w.heap.size+1)]) (by simp) (by simp [go_sem]) ?_;refine(answer_panicking _ 0 8 [] _ I2.out.e).mono ?_;rintro e u' w'' ⟨rfl,rfl,rfl⟩;simp [Leaves,settle,results,Tryz.results35,go_sem,r0,a0,a1];exact ReadHullPost.no HR.out (I2.out.bel.setCell (by dsimp only; omega) _)
  | some x =>
   rw [hr] at hh;have HR:=Lib.hid (show hullRes t=(0,x) from by unfold hullRes; rw [if_neg ht,hr]);obtain⟨sa,sc,ua,uc,he,hS,hU,hSb,hUb⟩:=hh;subst he;have hk3:Keep (fun k=>k≠w.heap.size∧k≠w.heap.size+1) w2 (((w2.setCell ⟨w.heap.size,0,none⟩ (.slice sa x.s.length sc)).setCell ⟨w.heap.size,1,none⟩ (.slice ua x.u.length uc)).setCell ⟨w.heap.size+1,0,none⟩ (.int .i64 0)):=Keep.set (Keep.set (Keep.set (Keep.refl _ _) _ _ _ (fun h=>h.1 rfl)) _ _ _ (fun h=>h.1 rfl)) _ _ _ (fun h=>h.2 rfl);have hsz:=I1.out.bel.size;have hl1:=lt_of_heap I1.out.e;have S3:=Lib.hid (Row.keep hS hk3 (fun hn=>by have:=hSb hn; omega));have U3:=Lib.hid (Row.keep hU hk3 (fun hn=>by have:=hUb hn; omega));have B3:=Lib.hid (((I2.out.bel.setCell (p:=⟨w.heap.size,0,none⟩) (Nat.le_refl _) (.slice sa x.s.length sc)).setCell (p:=⟨w.heap.size,1,none⟩) (Nat.le_refl _) (.slice ua x.u.length uc)).setCell (p:=⟨w.heap.size+1,0,none⟩) (by dsimp only; omega) (.int .i64 0));have HSB:=Lib.hid (show 0<x.s.length→w.heap.size≤blk sa from fun hn=>by have:=hSb hn; omega);have HUB:=Lib.hid (show 0<x.u.length→w.heap.size≤blk ua from fun hn=>by have:=hUb hn; omega)
   have A3:=Lib.hid (show BoxAt (((w2.setCell ⟨w.heap.size,0,none⟩ (.slice sa x.s.length sc)).setCell ⟨w.heap.size,1,none⟩ (.slice ua x.u.length uc)).setCell ⟨w.heap.size+1,0,none⟩ (.int .i64 0)) w.heap.size #[.slice sa x.s.length sc,.slice ua x.u.length uc] 25 from
    BoxAt.set ((I2.out.a.store 0 (.slice sa x.s.length sc)).store 1 (.slice ua x.u.length uc)) _ _ (by dsimp only; omega))
   have E3:=Lib.hid (show BoxAt (((w2.setCell ⟨w.heap.size,0,none⟩ (.slice sa x.s.length sc)).setCell ⟨w.heap.size,1,none⟩ (.slice ua x.u.length uc)).setCell ⟨w.heap.size+1,0,none⟩ (.int .i64 0)) (w.heap.size+1) #[.int .i64 0] 41 from
    BoxAt.store (BoxAt.set (BoxAt.set I2.out.e _ _ (by dsimp only; omega)) _ _ (by dsimp only; omega)) 0 _)
   clear hb2 ht hr hS hU hSb hUb hk3 C2 HK;go_wp2_with fail;clear r0 f0 a0 a1 fa0 fa1 I2;generalize World.setCell (World.setCell (World.setCell w2 _ _) _ _) _ _=w3 at *;have r0:=cellAt E3.out 0;have a0:=cellAt A3.out 0;have a1:=cellAt A3.out 1;simp only [List.getElem?_toArray,List.getElem?_cons_zero,List.getElem?_cons_succ] at r0 a0 a1;refine leaves_cons (f:=52) (args:=#[bp (w.heap.size+1)]) (by simp) (by simp [go_sem]) ?_;refine(answer_idle _ _).mono ?_;rintro e u' w'' ⟨rfl,rfl,rfl⟩;simp [Leaves,settle,results,Tryz.results35,go_sem,r0,a0,a1];refine⟨B3.out,sa,sc,ua,uc,?_⟩;rw [HR.out];exact⟨rfl,S3.out,U3.out,HSB.out,HUB.out⟩
end Go.Proofs.YtclbmlmlhiiaeaaGreatDoor
