/- Walks: what is wrong in bytes: the first bit, and how many. -/
import Derived.Test.YtclbmlmlhiiaeaaGreatDoorQA6
import Derived.Laws.CopyOwn
import Derived.Test.YtclbmlmlhiiaeaaGreatDoorQN0
import Derived.Laws.BytesArg
import Derived.Laws.BytesString
import Derived.Lib.Bytes
namespace Go.Proofs.YtclbmlmlhiiaeaaGreatDoor
open Go.RowKit
def wrN(d:Nat→Nat):Nat→Nat
 | 0=>0
 | i+1=>if d i=0 then wrN d i else wrN d i+Lib.onesCount (d i)
def wrF(d:Nat→Nat):Nat→Nat
 | 0=>0
 | i+1=>if d i=0 then wrF d i else if wrN d i=0 then 8 * i+(8 - Lib.bitLen (d i)) else wrF d i
theorem wrN_le{d:Nat→Nat}(hd:∀ i,d i<256):∀ n,wrN d n≤8 * n
 | 0=>by simp [wrN]
 | n+1=>by
  have:=wrN_le hd n;have h8:=ones_le ⟨d n,hd n⟩;dsimp only at h8;simp only [wrN]
  split <;> omega
theorem wrF_le(d:Nat→Nat):∀ n,wrF d n≤8 * n+8
 | 0=>by simp [wrF]
 | n+1=>by
  have:=wrF_le d n;simp only [wrF]
  split
  ·omega
  ·split <;> omega
structure WR (w:World) (oa ob:Option Addr) (n m:Nat) (a b:Nat→Nat) (W:World):Prop where
 dr:∃ j,W=w.drewN j
 l:BytesAt W oa n a
 r:BytesAt W ob m b
theorem WR.drewN{w:World}{oa ob:Option Addr}{n m:Nat}{a b:Nat→Nat}{W:World}(h:WR w oa ob n m a b W)(k:Nat):WR w oa ob n m a b (W.drewN k):=by
 obtain⟨j,hj⟩:=h.dr;exact⟨⟨j+k,by rw [hj,World.drewN_drewN]⟩,h.l.grow (below_drewN (Below.refl _ _) _),h.r.grow (below_drewN (Below.refl _ _) _)⟩
set_option maxRecDepth 100000 in
set_option maxHeartbeats 4000000 in
theorem wrong_any(oa ob:Option Addr)(n nc m mc:Nat)(a b:Nat→Nat)(w:World)(ha:BytesAt w oa n a)(hb:BytesAt w ob m b)(ha8:∀ i,a i<256)(hb8:∀ i,b i<256)(hn:n≤m)(hm:m≤100000) :
  Calls Tryz.prog 72 #[.slice oa n nc,.slice ob m mc] w fun e w'=>e = .returned (.tuple #[.int .i64 (wrF (fun i=>a i ^^^ b i) n:Nat),.int .i64 (wrN (fun i=>a i ^^^ b i) n:Nat)]) ∧ ∃ j,w'=w.drewN j:=by
 have I0:=Lib.hid (show WR w oa ob n m a b w from⟨⟨0,rfl⟩,ha,hb⟩);obtain⟨d,ed⟩:∃ d,d=fun i=>a i ^^^ b i:=⟨_,rfl⟩
 rw [← ed];have HX:=Lib.hid (fun k=>by rw [ed]; exact u8_xor_nat _ _ (ha8 k) (hb8 k):∀ k,bits .xor .u8 ((a k:Nat):Int) ((b k:Nat):Int)=((d k:Nat):Int));have HD:=Lib.hid (fun k=>by rw [ed]; exact xor_lt (ha8 k) (hb8 k):∀ k,d k<256);clear ha hb ha8 hb8 ed;go_enter Tryz.func72,Tryz.ntmps72;go_wp2_with fail
 go_loopw [4,5,10] (fun f c i wi => ∃ k:Nat,k≤n∧i = .int .i64 k∧f = .int .i64 (wrF d k:Nat)∧c = .int .i64 (wrN d k:Nat)∧WR w oa ob n m a b wi) (fun _ _ i _=>n - (intOf i).toNat)
 case atStart=>exact⟨0,Nat.zero_le _,rfl,rfl,rfl,I0.out⟩
 case round =>
  clear I0;obtain⟨k,hk,rfl,rfl,rfl,h1⟩:=hrel;have I1:=Lib.hid h1;clear h1;have hF:=wrF_le d k;have hN:=wrN_le HD.out k;have HF:=Lib.hid (show wrF d (k+1)=if d k=0 then wrF d k else if wrN d k=0 then 8 * k+(8 - Lib.bitLen (d k)) else wrF d k from rfl);have HN:=Lib.hid (show wrN d (k+1)=if d k=0 then wrN d k else wrN d k+Lib.onesCount (d k) from rfl);by_cases hlt:k<n
  ·have hi:=fun w=>run_indexAt_row (w:=w) (cap:=nc) elem5.slice size5 (I1.out.l.plain (by omega)) hlt
   have hj:=fun w=>run_indexAt_row (w:=w) (cap:=mc) elem5.slice size5 (I1.out.r.plain (by omega)) (show k<m by omega);simp only [Nat.mul_one] at hi hj;have hc:=I1.out.l.at hlt;have hc2:=I1.out.r.at (show k<m by omega);have hx:=HX.out k;obtain⟨x,ex⟩:∃ x,d k=x:=⟨_,rfl⟩
   have hx8:x<256:=by rw [← ex]; exact HD.out k
   rw [ex] at hx HF HN;clear ex;generalize wrF d k=f at *;generalize wrN d k=c at *;by_cases h0:x=0
   ·subst h0
    have hF2:=Lib.hid (show wrF d (k+1)=f from by rw [HF.out,if_pos rfl]);have hN2:=Lib.hid (show wrN d (k+1)=c from by rw [HN.out,if_pos rfl]);go_wp2_with fail
    go_quiet (fail)
    go_wp2_with fail;exact⟨⟨k+1,hlt,by go_num,by rw [hF2.out],by rw [hN2.out],I1.out.drewN _⟩,by simp [intOf]; omega⟩
   ·have ht:((x:Int) != 0)=true:=by rw [bne_iff_ne]; omega
    have C127:=Lib.hid (fun W=>ones8_any x W (by omega));have C137:=Lib.hid (fun W=>lead8_any x W (by omega));have hob:=ones_le ⟨x,hx8⟩;dsimp only at hob;have hN2:=Lib.hid (show wrN d (k+1)=c+Lib.onesCount x from by rw [HN.out,if_neg h0]);by_cases hc0:c=0
    ·subst hc0
     have hF2:=Lib.hid (show wrF d (k+1)=8 * k+(8 - Lib.bitLen x) from by rw [HF.out,if_neg h0,if_pos rfl]);have hl8:8 - Lib.bitLen x≤8:=by omega
     generalize Lib.onesCount x=o at *;generalize 8 - Lib.bitLen x=l at *;go_wp2_with fail
     go_quiet (fail)
     go_wp2_with (first | (go_at_call 127; refine(C127.out _).mono ?_; rintro e w' ⟨rfl,rfl⟩) | (go_at_call 137; refine(C137.out _).mono ?_; rintro e w' ⟨rfl,rfl⟩));exact⟨⟨k+1,hlt,by go_num,by rw [hF2.out]; go_num,by rw [hN2.out]; go_num,I1.out.drewN _⟩,by simp [intOf]; omega⟩
    ·have hc1:((c:Int)==0)=false:=beq_eq_false_iff_ne.2 (by omega)
     have hF2:=Lib.hid (show wrF d (k+1)=f from by rw [HF.out,if_neg h0,if_neg hc0]);generalize Lib.onesCount x=o at *;go_wp2_with fail
     go_quiet (fail)
     go_wp2_with (first | (go_at_call 127; refine(C127.out _).mono ?_; rintro e w' ⟨rfl,rfl⟩));exact⟨⟨k+1,hlt,by go_num,by rw [hF2.out],by rw [hN2.out]; go_num,I1.out.drewN _⟩,by simp [intOf]; omega⟩
  ·obtain rfl:n=k:=by omega
   go_wp2_with fail
   go_ret2
   exact⟨rfl,I1.out.dr⟩
structure MW (w:World) (oa:Option Addr) (L:Nat) (b:Nat→Nat) (W:World):Prop where
 bel:Below w.heap.size w W
 l:BytesAt W oa L b
 r:BoxAt W w.heap.size #[.int .i64 0] 41
theorem MW.grow{w:World}{oa:Option Addr}{L:Nat}{b:Nat→Nat}{W W2:World}(h:MW w oa L b W)(hb:Below W.heap.size W W2):MW w oa L b W2:=⟨h.bel.next hb,h.l.grow hb,h.r.grow hb⟩
def difB(b:Nat→Nat)(n i:Nat):Nat:=b (n+i) ^^^ sealB b n (n+i)
def rowsN(b:Nat→Nat)(n:Nat):Nat:=wrN (difB b n) (rowsB n)
def colsN(b:Nat→Nat)(n:Nat):Nat:=wrN (fun i=>difB b n (rowsB n+i)) 1
def rowF(b:Nat→Nat)(n:Nat):Nat:=wrF (difB b n) (rowsB n)
def colF(b:Nat→Nat)(n:Nat):Nat:=wrF (fun i=>difB b n (rowsB n+i)) 1
def mendAt(b:Nat→Nat)(n:Nat):Nat ⊕ Int :=
 if rowsN b n+colsN b n=0 then .inr 4 else if ¬ (rowsN b n≤1∧colsN b n≤1) then .inr 11
 else if rowsN b n=0 then .inl (8 * (n+rowsB n)+colF b n)
 else if colsN b n=1 then(if rowF b n<n then .inl (8 * rowF b n+colF b n) else .inr 11) else .inl (8 * n+rowF b n)
theorem seal_lt{b:Nat→Nat}(h8:∀ i,b i<256)(n i:Nat):sealB b n i<256:=by
 unfold sealB rowB
 split
 ·exact h8 i
 ·split
  ·exact pk_lt _ _ _
  ·exact col_lt h8 n
def flipB(b:Nat→Nat)(i k:Nat):Nat:=if k=i / 8 then b k ^^^ (128 / 2 ^ (i % 8)) else b k
def badB(x:Int):Ending:=.returned (.tuple #[.slice none 0 0,.int .i64 x])
def MendBox(L:Nat)(b:Nat→Nat)(w:World)(e:Ending)(w':World):Prop :=
 Below w.heap.size w w'∧((1000<L∧e=badB 3)∨(L≤1000∧(∀ n,0<n→szB n≠L)∧e=badB 8) ∨
  ∃ n,0<n∧szB n=L∧L≤1000∧((∃ x,mendAt b n = .inr x∧e=badB x) ∨ ∃ i g cap,mendAt b n = .inl i∧i<8 * L∧L≤cap∧w.heap.size≤g∧e = .returned (.tuple #[.slice (some ⟨g,0,none⟩) L cap,.int .i64 0])∧BoxAt w' g (valsOf (byteV (flipB b i)) L).toArray 5))
def MendPost(L:Nat)(b:Nat→Nat)(w:World)(e:Ending)(w':World):Prop :=
 Below w.heap.size w w'∧((1000<L∧e=badB 3)∨(L≤1000∧(∀ n,0<n→szB n≠L)∧e=badB 8) ∨
  ∃ n,0<n∧szB n=L∧L≤1000∧((∃ x,mendAt b n = .inr x∧e=badB x) ∨ ∃ i g cap,mendAt b n = .inl i∧i<8 * L∧L≤cap∧w.heap.size≤g∧e = .returned (.tuple #[.slice (some ⟨g,0,none⟩) L cap,.int .i64 0])∧BytesAt w' (some ⟨g,0,none⟩) L (flipB b i)))
theorem len_fin:∀ x:Fin 256,x.val≠0→0<Lib.bitLen x.val∧0<Lib.onesCount x.val:=by decide +kernel
theorem wrF_lt{d:Nat→Nat}(hd:∀ i,d i<256):∀ n,0<wrN d n→wrF d n<8 * n
 | 0,h=>by simp [wrN] at h
 | n+1,h=>by
  have ih:=wrF_lt hd n;simp only [wrN] at h;simp only [wrF];by_cases e:d n=0
  ·rw [if_pos e] at h ⊢
   have:=ih h;omega
  ·rw [if_neg e]
   have:=(len_fin ⟨d n,hd n⟩ e).1;dsimp only at this
   split
   ·omega
   ·have:=ih (by omega)
    omega
theorem splice_all(cur cs:List Value)(h:cur.length=cs.length):splice cur 0 cs=cs:=by
 unfold splice;simp [h]
theorem wpList_copyB{ops:Array Oper}{rest:List Oper}{o:Oper}{a:Act}{W:World}{Q:Exit→Act→World→Prop}(hgd:o.guard=none)(d s:Operand)
  (ho:o.op = .call {callee:=.builtin .copy,args:=#[d,s],argTypes:=#[46,46]}) {g L nc:Nat} {oa:Option Addr} {z b:Nat→Nat} (hd:a.eval d = .slice (some ⟨g,0,none⟩) L L) (hs:a.eval s = .slice oa L nc)
  (hg:BoxAt W g (valsOf (byteV z) L).toArray 5) (hb:BytesAt W oa L b) {w0:World} (hB:Below g w0 W)
  (h:∀ w',BoxAt w' g (valsOf (byteV b) L).toArray 5→Below g w0 w'→wpList Tryz.prog ops Q rest (a.put o.dst (goInt L)) w'):wpList Tryz.prog ops Q (o::rest) a W:=by
 refine wpList_copy_splice hgd d s 46 46 ho 5 elem5.slice size5 (some ⟨g,0,none⟩) oa L L L nc hd hs g 0 (valsOf (byteV z) L) 5 hg (valsOf (byteV b) L) (by rw [valsOf_length]; simp) (fun h0=>⟨rfl,⟨blk oa,ofs oa,none⟩,hb.plain (by rw [valsOf_length] at h0; exact h0),fun j v hj=>?_⟩) (by rw [valsOf_length,valsOf_length]; omega) (fun v hv=>?_) g w0 hB (Nat.le_refl _) (fun w' h1 h2=>?_)
 ·have hjL:j<L:=by
   have:=(List.getElem?_eq_some_iff.1 hj).1
   rwa [valsOf_length] at this
  rw [valsOf_get _ hjL] at hj
  cases hj
  have:=hb.at hjL;unfold Addr.add
  split
  ·rename_i e0
   subst e0;simpa [byteV] using this
  ·exact this
 ·simp only [valsOf,List.mem_map] at hv
  obtain⟨k,-,rfl⟩:=hv;rfl
 ·have h3:=h1.out
  rw [splice_all _ _ (by rw [valsOf_length,valsOf_length])] at h3;have e:(goInt ((valsOf (byteV b) L).length:Nat):Value)=goInt L:=by rw [valsOf_length]
  rw [e];exact h w' h3 h2
set_option maxRecDepth 100000 in
set_option maxHeartbeats 8000000 in
theorem mend_box(oa:Option Addr)(L nc:Nat)(b:Nat→Nat)(w:World)(hb:BytesAt w oa L b)(h8:∀ i,b i<256)(hcap:L≤nc) :
  Calls Tryz.prog 25 #[.slice oa L nc] w (MendBox L b w):=by
 have I0:=Lib.hid (show MW w oa L b (w.alloc (.cells #[.int .i64 0] 41)) from⟨(Below.refl _ _).alloc (Nat.le_refl _) _,hb.grow ((Below.refl _ _).alloc (Nat.le_refl _) _),(blocks1 rfl).1⟩);have HL:=Lib.hid hb.small;have H8:=Lib.hid h8;clear hb h8
 go_enter_defers Tryz.func25,Tryz.ntmps25
 go_wp2_with (go_at_call 66; refine(content_any L _ HL.out).mono ?_);generalize World.alloc _ _=W at *;rintro e w1 ⟨rfl,h⟩;rcases h with ⟨h1,rfl⟩ | ⟨h1,⟨n,hn0,hn,rfl⟩ | ⟨hno,rfl⟩⟩
 ·have r2:=cellAt I0.out.r 0
  simp only [List.getElem?_toArray,List.getElem?_cons_zero] at r2;have H1:=Lib.hid h1;clear h1;unfold err;refine leaves_cons (f:=52) (args:=#[bp w.heap.size]) (by simp) (by simp [go_sem]) ?_;refine(answer_panicking _ 0 3 [] _ I0.out.r).mono ?_;rintro e u' w'' ⟨rfl,rfl,rfl⟩;simp [Leaves,settle,results,Tryz.results25,go_sem,r2];exact⟨I0.out.bel.setCell (by dsimp only; omega) _,.inl ⟨H1.out,rfl⟩⟩
 ·obtain⟨last,rfl⟩:∃ last,L=last+1:=⟨L - 1,by unfold szB at hn; omega⟩
  have hl:last≤999:=by omega
  have hnl:n≤last:=by unfold szB at hn; omega
  have hnm:last - n=rowsB n:=by unfold szB at hn; unfold rowsB; omega
  have HN:=Lib.hid hn;have HM:=Lib.hid hnm;have hop:=I0.out.l.plain (by omega);have s1:=fun W=>run_head (n:=last+1) (c:=nc) (h:=n) hop (by omega) (by omega) W;have s2:=fun W=>run_sub (n:=last+1) (c:=nc) (l:=n) (h:=last) hop hnl (by omega) (by omega) W;have s4:=fun W=>run_tail (n:=last+1) (c:=nc) (l:=last) hop (by omega) (by omega) W;have e4:last+1 - last=1:=by omega
  rw [e4] at s4;have H1:=Lib.hid h1;clear h1 hn hnm hop e4;go_wp2_with (go_at_call 68; refine(sealed_any oa n nc b _ (I0.out.l.head (by omega)) H8.out hn0 (by omega)).mono ?_);rintro e w2 ⟨ra,rc,rfl,hr,hlo,hrc,hb⟩;rw [HN.out] at hr hlo hrc ⊢;have HR:=Lib.hid hr;have I1:=Lib.hid (I0.out.grow hb);have hrp:=hr.plain (by omega);have s3:=fun W=>run_sub (n:=last+1) (c:=rc) (l:=n) (h:=last) hrp hnl (by omega) (by omega) W;have s5:=fun W=>run_tail (n:=last+1) (c:=rc) (l:=last) hrp (by omega) (by omega) W;have e4:last+1 - last=1:=by omega
  rw [e4] at s5;clear hr hb hrp e4 hlo I0;have hf1:wrF (fun i=>b (n+i) ^^^ sealB b n (n+i)) (last - n)=rowF b n:=by rw [HM.out]; rfl
  have hn1:wrN (fun i=>b (n+i) ^^^ sealB b n (n+i)) (last - n)=rowsN b n:=by rw [HM.out]; rfl
  have hd2:(fun i=>b (last+i) ^^^ sealB b n (last+i))=fun i=>difB b n (rowsB n+i):=by
   funext i
   unfold difB;rw [show n+(rowsB n+i)=last+i by have:=HM.out; omega]
  have hf2:wrF (fun i=>b (last+i) ^^^ sealB b n (last+i)) 1=colF b n:=by rw [hd2]; rfl
  have hn2:wrN (fun i=>b (last+i) ^^^ sealB b n (last+i)) 1=colsN b n:=by rw [hd2]; rfl
  have C1:=Lib.hid (fun W (h1:BytesAt W oa (last+1) b) (h2:BytesAt W ra (last+1) (sealB b n))=>(wrong_any _ _ (last - n) (nc - n) (last - n) (rc - n) _ _ W (h1.sub (l:=n) (k:=last - n) (by omega)) (h2.sub (l:=n) (k:=last - n) (by omega)) (fun i=>H8.out _) (fun i=>seal_lt H8.out n _) (Nat.le_refl _) (by omega)).mono fun e w' h=>(⟨by rw [h.1,hf1,hn1],h.2⟩:e = .returned (.tuple #[.int .i64 (rowF b n:Nat),.int .i64 (rowsN b n:Nat)]) ∧ ∃ j,w'=W.drewN j));have C2:=Lib.hid (fun W (h1:BytesAt W oa (last+1) b) (h2:BytesAt W ra (last+1) (sealB b n))=>(wrong_any _ _ 1 (nc - last) 1 (rc - last) _ _ W (h1.sub (l:=last) (k:=1) (by omega)) (h2.sub (l:=last) (k:=1) (by omega)) (fun i=>H8.out _) (fun i=>seal_lt H8.out n _) (Nat.le_refl _) (by omega)).mono fun e w' h=>(⟨by rw [h.1,hf2,hn2],h.2⟩:e = .returned (.tuple #[.int .i64 (colF b n:Nat),.int .i64 (colsN b n:Nat)]) ∧ ∃ j,w'=W.drewN j));clear hf1 hn1 hd2 hf2 hn2;have lF1:0<rowsN b n→rowF b n<8 * (last - n):=fun h=>by have:=wrF_lt (d:=difB b n) (fun i=>xor_lt (H8.out _) (seal_lt H8.out n _)) (rowsB n) h; have:=HM.out; unfold rowF; omega
  have lF2:0<colsN b n→colF b n<8:=fun h=>by have:=wrF_lt (d:=fun i=>difB b n (rowsB n+i)) (fun i=>xor_lt (H8.out _) (seal_lt H8.out n _)) 1 h; unfold colF; omega
  have HLF:=Lib.hid (And.intro lF1 lF2);clear lF1 lF2;have bF1:rowF b n≤8 * 1000+8:=by have:=wrF_le (difB b n) (rowsB n); have:=HM.out; unfold rowF; omega
  have bF2:colF b n≤16:=by have:=wrF_le (fun i=>difB b n (rowsB n+i)) 1; unfold colF; omega
  have hd:∀ i,difB b n i<256:=fun i=>xor_lt (H8.out _) (seal_lt H8.out n _);have bN1:rowsN b n≤8 * 1000:=by have:=wrN_le hd (rowsB n); have:=HM.out; unfold rowsN; omega
  have bN2:colsN b n≤8:=by have:=wrN_le (d:=fun i=>difB b n (rowsB n+i)) (fun i=>hd _) 1; unfold colsN; omega
  have HA:=Lib.hid (show mendAt b n=if rowsN b n+colsN b n=0 then .inr 4 else if ¬ (rowsN b n≤1∧colsN b n≤1) then .inr 11
   else if rowsN b n=0 then .inl (8 * (n+rowsB n)+colF b n)
   else if colsN b n=1 then(if rowF b n<n then .inl (8 * rowF b n+colF b n) else .inr 11) else .inl (8 * n+rowF b n) from rfl)
  rw [show n+rowsB n=last by have:=HM.out; omega] at HA;clear hd;generalize rowsN b n=N1 at *;generalize colsN b n=N2 at *;generalize rowF b n=F1 at *;generalize colF b n=F2 at *;go_wp2_with fail;refine wp_region_noPanic ?_
  go_quiet ((go_at_call 72; exact Calls.quiet_of (C1.out _ (I1.out.l.grow (below_drewN (Below.refl _ _) _)) (HR.out.grow (below_drewN (Below.refl _ _) _)))))
  refine NoPanic.normal ?_;have I2:=Lib.hid (I1.out.grow (below_drewN (Below.refl _ _) nq));have R2:=Lib.hid (HR.out.grow (below_drewN (Below.refl _ _) nq));clear I1 HR C1 s1 s2 s3;generalize World.drewN w2 nq=w3 at *;go_wp2_with fail;refine wp_region_noPanic ?_
  go_quiet ((go_at_call 72; exact Calls.quiet_of (C2.out _ (I2.out.l.grow (below_drewN (Below.refl _ _) _)) (R2.out.grow (below_drewN (Below.refl _ _) _)))))
  refine NoPanic.normal ?_;have I3:=Lib.hid (I2.out.grow (below_drewN (Below.refl _ _) nq));clear I2 R2 C2 s4 s5;generalize World.drewN w3 nq=w4 at *;by_cases h0:N1+N2=0
  ·have t0:decide (0<(N1:Int)+N2)=false:=decide_eq_false (by omega)
   have HAT:=Lib.hid (show mendAt b n = .inr 4 from by rw [HA.out,if_pos h0]);clear h0;have r2:=cellAt I3.out.r 0;simp only [List.getElem?_toArray,List.getElem?_cons_zero] at r2;go_wp2_with (first | (go_at_call 62; ((with_reducible refine(ask_true _ _).mono ?_); rintro e w' ⟨rfl,rfl⟩)) | (go_at_call 62; ((with_reducible refine(ask_false _ _).mono ?_); rintro e w' ⟨rfl,rfl⟩)));refine leaves_cons (f:=52) (args:=#[bp w.heap.size]) (by simp) (by simp [go_sem]) ?_;refine(answer_panicking _ 0 4 [] _ I3.out.r).mono ?_;rintro e u' w'' ⟨rfl,rfl,rfl⟩;simp [Leaves,settle,results,Tryz.results25,go_sem,r2];exact⟨I3.out.bel.setCell (by dsimp only; omega) _,.inr (.inr ⟨n,hn0,HN.out,H1.out,.inl ⟨4,HAT.out,rfl⟩⟩)⟩
  ·have t0:decide (0<(N1:Int)+N2)=true:=decide_eq_true (by omega)
   by_cases h1:N1≤1
   ·have t1:decide ((N1:Int)≤1)=true:=decide_eq_true (by omega)
    by_cases h2:N2≤1
    ·have t2:decide ((N2:Int)≤1)=true:=decide_eq_true (by omega)
     have h12:¬ ¬ (N1≤1∧N2≤1):=fun h=>h ⟨h1,h2⟩;by_cases h3:N1=0
     ·have t3:((N1:Int)==0)=true:=beq_iff_eq.2 (by omega)
      obtain⟨i,hi⟩:∃ i,i=8 * last+F2:=⟨_,rfl⟩
      have HAT:=Lib.hid (show mendAt b n = .inl i from by rw [HA.out,if_neg h0,if_neg h12,if_pos h3,hi]);have hil:i<8 * (last+1):=by have:=HLF.out.2 (by omega); omega
      have HI:=Lib.hid hi;clear hi h0 h1 h2 h12 h3;go_wp2_with (first | (go_at_call 62; ((with_reducible refine(ask_true _ _).mono ?_); rintro e w' ⟨rfl,rfl⟩)) | (go_at_call 62; ((with_reducible refine(ask_false _ _).mono ?_); rintro e w' ⟨rfl,rfl⟩)));have e0:(8:Int) * last+F2=(i:Int):=by have:=HI.out; omega
      rw [e0];clear e0;obtain⟨i0,hi0,hz0,hz1,hz2⟩:=info_parts info5;have eL:((last:Int)+1)=((last+1:Nat):Int):=by omega
      rw [eL];obtain⟨W3,hrun,hown,hgr⟩:=run_make_full (P:=Tryz.prog) w4 w.heap.size 46 5 i0 _ 1 elem5.slice hi0 hz0 hz1 .i64 .i64 (last+1) (by rw [hz2]; omega) (by unfold maxLen; omega) I3.out.bel.size;rw [hrun];simp only [Result.andThen,Oper.upon_value];have B3:=Lib.hid (Below.grown (Below.refl w4.heap.size w4) hgr (Nat.le_refl _) (fun _ e=>by cases e));have Z3:=Lib.hid (zeros_box hown);have L3:=Lib.hid (I3.out.grow B3.out);have lg:=I3.out.bel.size;have lr:=lt_of_heap I3.out.r;have HG:=Lib.hid (fun W (h:Below w4.heap.size w4 W)=>I3.out.grow h);clear hrun hown hgr hi0 hz0 hz1 hz2 I3 eL;generalize w4.heap.size=g at *;go_wp2_with (with_reducible refine wpList_copyB rfl (.tmp 82) (.tmp 83) rfl rfl rfl Z3.out L3.out.l B3.out ?_);intro w5 h5 hb5;have C5:=Lib.hid h5;have B5:=Lib.hid hb5;clear h5 hb5 Z3 L3 B3;go_wp2_with fail;obtain⟨q,eq⟩:∃ q,i / 8=q:=⟨_,rfl⟩
      obtain⟨c,ec⟩:∃ c,i % 8=c:=⟨_,rfl⟩
      have hq:q<last+1:=by have:=hil; omega
      have hc8:c<8:=by omega
      have hi2:=fun w'=>run_indexAt_row (w:=w') (oa:=some ⟨g,0,none⟩) (cap:=last+1) elem5.slice size5 rfl hq;simp only [blk,ofs,Nat.zero_add,Nat.mul_one] at hi2;have c0:=cellAt C5.out q;have f0:=freeAt C5.out q;rw [List.getElem?_toArray,valsOf_get _ hq,byteV] at c0;have e1:IntKind.i64.wrap ((i:Int) / 8)=q:=by rw [show(i:Int) / 8=q by omega]; exact IntWalk.i64_in _ (by omega)
      have e2:(i:Int) % 8=c:=by omega
      have e3:(i:Int).tmod 8=c:=by rw [Int.tmod_eq_emod_of_nonneg (by omega)]; omega
      have e4:IntKind.i64.wrap (c:Int)=c:=IntWalk.i64_in _ (by omega);have EQ:=Lib.hid eq;have EC:=Lib.hid ec;clear eq ec;have hgn:¬ g=w.heap.size:=by omega
      refine wp_region_noPanic ?_
      go_still_tail 9,(by kernel_rfl)
      obtain⟨y,ey⟩:∃ y,y=b q ^^^ (128 / 2 ^ c):=⟨_,rfl⟩
      have eo:bits .xor .u8 ((b q:Nat):Int) (128 / 2 ^ c)=(y:Int):=by
       rw [ey,show((128:Int) / 2 ^ c)=((128 / 2 ^ c:Nat):Int) from by simp];exact u8_xor_nat _ _ (H8.out q) (by have:128 / 2 ^ c≤128:=Nat.div_le_self _ _; omega)
      rw [eo];have EY:=Lib.hid ey;clear eo ey;change wpList _ _ _ _ _ w5.drew;have C6:=Lib.hid (show BoxAt w5.drew g (valsOf (byteV b) (last+1)).toArray 5 from C5.out);have B6:=Lib.hid (show Below g w4 w5.drew from B5.out.trans (Below.drew (Below.refl _ _)));clear C5 B5 c0 f0;generalize World.drew w5=w6 at *;have c0:=cellAt C6.out q;have f0:=freeAt C6.out q;rw [List.getElem?_toArray,valsOf_get _ hq,byteV] at c0;go_wp2_with fail;have B7:=Lib.hid (show Below g w4 (w6.setCell ⟨g,q,none⟩ (.int .u8 y)) from B6.out.setCell (Nat.le_refl _) _);have I7:=Lib.hid (HG.out _ B7.out)
      have C7:=Lib.hid (show BoxAt (w6.setCell ⟨g,q,none⟩ (.int .u8 y)) g (valsOf (byteV (flipB b i)) (last+1)).toArray 5 from by
       have h:=box_set C6.out q (.int .u8 y);rw [valsOf_congr (g:=byteV (flipB b i)) (fun j hj=>?_)] at h
       ·exact h
       ·unfold byteV flipB
        rw [EQ.out,EC.out];by_cases e:j=q
        ·subst e
         rw [if_pos rfl,if_pos rfl,EY.out]
        ·rw [if_neg e,if_neg e])
      refine NoPanic.normal ?_;clear c0 f0 C6 B6 B7;generalize World.setCell _ _ _=w7 at *;have r2:=cellAt I7.out.r 0;have f2:=freeAt I7.out.r 0;simp only [List.getElem?_toArray,List.getElem?_cons_zero] at r2;go_wp2_with fail;refine leaves_cons (f:=52) (args:=#[bp w.heap.size]) (by simp) (by simp [go_sem]) ?_;refine(answer_idle _ _).mono ?_;rintro e u' w'' ⟨rfl,rfl,rfl⟩;simp [Leaves,settle,results,Tryz.results25,go_sem,r2];exact⟨I7.out.bel.setCell (by dsimp only; omega) _,.inr (.inr ⟨n,hn0,HN.out,H1.out,.inr ⟨i,g,last+1,HAT.out,hil,Nat.le_refl _,lg,rfl,C7.out.set _ _ (by dsimp only; omega)⟩⟩)⟩
     ·have t3:((N1:Int)==0)=false:=beq_eq_false_iff_ne.2 (by omega)
      by_cases h4:N2=1
      ·have t4:((N2:Int)==1)=true:=beq_iff_eq.2 (by omega)
       by_cases h5:F1<n
       ·have t5:decide (F1<n)=true:=decide_eq_true h5
        obtain⟨i,hi⟩:∃ i,i=8 * F1+F2:=⟨_,rfl⟩
        have HAT:=Lib.hid (show mendAt b n = .inl i from by rw [HA.out,if_neg h0,if_neg h12,if_neg h3,if_pos h4,if_pos h5,hi]);have hil:i<8 * (last+1):=by have:=HLF.out.2 (by omega); omega
        have HI:=Lib.hid hi;clear hi h0 h1 h2 h12 h3 h4 h5;go_wp2_with (first | (go_at_call 62; ((with_reducible refine(ask_true _ _).mono ?_); rintro e w' ⟨rfl,rfl⟩)) | (go_at_call 62; ((with_reducible refine(ask_false _ _).mono ?_); rintro e w' ⟨rfl,rfl⟩)));have e0:(8:Int) * F1+F2=(i:Int):=by have:=HI.out; omega
        rw [e0];clear e0;obtain⟨i0,hi0,hz0,hz1,hz2⟩:=info_parts info5;have eL:((last:Int)+1)=((last+1:Nat):Int):=by omega
        rw [eL];obtain⟨W3,hrun,hown,hgr⟩:=run_make_full (P:=Tryz.prog) w4 w.heap.size 46 5 i0 _ 1 elem5.slice hi0 hz0 hz1 .i64 .i64 (last+1) (by rw [hz2]; omega) (by unfold maxLen; omega) I3.out.bel.size;rw [hrun];simp only [Result.andThen,Oper.upon_value];have B3:=Lib.hid (Below.grown (Below.refl w4.heap.size w4) hgr (Nat.le_refl _) (fun _ e=>by cases e));have Z3:=Lib.hid (zeros_box hown);have L3:=Lib.hid (I3.out.grow B3.out);have lg:=I3.out.bel.size;have lr:=lt_of_heap I3.out.r;have HG:=Lib.hid (fun W (h:Below w4.heap.size w4 W)=>I3.out.grow h);clear hrun hown hgr hi0 hz0 hz1 hz2 I3 eL;generalize w4.heap.size=g at *;go_wp2_with (with_reducible refine wpList_copyB rfl (.tmp 82) (.tmp 83) rfl rfl rfl Z3.out L3.out.l B3.out ?_);intro w5 h5 hb5;have C5:=Lib.hid h5;have B5:=Lib.hid hb5;clear h5 hb5 Z3 L3 B3;go_wp2_with fail;obtain⟨q,eq⟩:∃ q,i / 8=q:=⟨_,rfl⟩
        obtain⟨c,ec⟩:∃ c,i % 8=c:=⟨_,rfl⟩
        have hq:q<last+1:=by have:=hil; omega
        have hc8:c<8:=by omega
        have hi2:=fun w'=>run_indexAt_row (w:=w') (oa:=some ⟨g,0,none⟩) (cap:=last+1) elem5.slice size5 rfl hq;simp only [blk,ofs,Nat.zero_add,Nat.mul_one] at hi2;have c0:=cellAt C5.out q;have f0:=freeAt C5.out q;rw [List.getElem?_toArray,valsOf_get _ hq,byteV] at c0;have e1:IntKind.i64.wrap ((i:Int) / 8)=q:=by rw [show(i:Int) / 8=q by omega]; exact IntWalk.i64_in _ (by omega)
        have e2:(i:Int) % 8=c:=by omega
        have e3:(i:Int).tmod 8=c:=by rw [Int.tmod_eq_emod_of_nonneg (by omega)]; omega
        have e4:IntKind.i64.wrap (c:Int)=c:=IntWalk.i64_in _ (by omega);have EQ:=Lib.hid eq;have EC:=Lib.hid ec;clear eq ec;have hgn:¬ g=w.heap.size:=by omega
        refine wp_region_noPanic ?_
        go_still_tail 9,(by kernel_rfl)
        obtain⟨y,ey⟩:∃ y,y=b q ^^^ (128 / 2 ^ c):=⟨_,rfl⟩
        have eo:bits .xor .u8 ((b q:Nat):Int) (128 / 2 ^ c)=(y:Int):=by
         rw [ey,show((128:Int) / 2 ^ c)=((128 / 2 ^ c:Nat):Int) from by simp];exact u8_xor_nat _ _ (H8.out q) (by have:128 / 2 ^ c≤128:=Nat.div_le_self _ _; omega)
        rw [eo];have EY:=Lib.hid ey;clear eo ey;change wpList _ _ _ _ _ w5.drew;have C6:=Lib.hid (show BoxAt w5.drew g (valsOf (byteV b) (last+1)).toArray 5 from C5.out);have B6:=Lib.hid (show Below g w4 w5.drew from B5.out.trans (Below.drew (Below.refl _ _)));clear C5 B5 c0 f0;generalize World.drew w5=w6 at *;have c0:=cellAt C6.out q;have f0:=freeAt C6.out q;rw [List.getElem?_toArray,valsOf_get _ hq,byteV] at c0;go_wp2_with fail;have B7:=Lib.hid (show Below g w4 (w6.setCell ⟨g,q,none⟩ (.int .u8 y)) from B6.out.setCell (Nat.le_refl _) _);have I7:=Lib.hid (HG.out _ B7.out)
        have C7:=Lib.hid (show BoxAt (w6.setCell ⟨g,q,none⟩ (.int .u8 y)) g (valsOf (byteV (flipB b i)) (last+1)).toArray 5 from by
         have h:=box_set C6.out q (.int .u8 y);rw [valsOf_congr (g:=byteV (flipB b i)) (fun j hj=>?_)] at h
         ·exact h
         ·unfold byteV flipB
          rw [EQ.out,EC.out];by_cases e:j=q
          ·subst e
           rw [if_pos rfl,if_pos rfl,EY.out]
          ·rw [if_neg e,if_neg e])
        refine NoPanic.normal ?_;clear c0 f0 C6 B6 B7;generalize World.setCell _ _ _=w7 at *;have r2:=cellAt I7.out.r 0;have f2:=freeAt I7.out.r 0;simp only [List.getElem?_toArray,List.getElem?_cons_zero] at r2;go_wp2_with fail;refine leaves_cons (f:=52) (args:=#[bp w.heap.size]) (by simp) (by simp [go_sem]) ?_;refine(answer_idle _ _).mono ?_;rintro e u' w'' ⟨rfl,rfl,rfl⟩;simp [Leaves,settle,results,Tryz.results25,go_sem,r2];exact⟨I7.out.bel.setCell (by dsimp only; omega) _,.inr (.inr ⟨n,hn0,HN.out,H1.out,.inr ⟨i,g,last+1,HAT.out,hil,Nat.le_refl _,lg,rfl,C7.out.set _ _ (by dsimp only; omega)⟩⟩)⟩
       ·have t5:decide (F1<n)=false:=decide_eq_false h5
        have HAT:=Lib.hid (show mendAt b n = .inr 11 from by rw [HA.out,if_neg h0,if_neg h12,if_neg h3,if_pos h4,if_neg h5]);clear h0 h1 h2 h12 h3 h4 h5;have r2:=cellAt I3.out.r 0;simp only [List.getElem?_toArray,List.getElem?_cons_zero] at r2;go_wp2_with (first | (go_at_call 62; ((with_reducible refine(ask_true _ _).mono ?_); rintro e w' ⟨rfl,rfl⟩)) | (go_at_call 62; ((with_reducible refine(ask_false _ _).mono ?_); rintro e w' ⟨rfl,rfl⟩)));refine leaves_cons (f:=52) (args:=#[bp w.heap.size]) (by simp) (by simp [go_sem]) ?_;refine(answer_panicking _ 0 11 [] _ I3.out.r).mono ?_;rintro e u' w'' ⟨rfl,rfl,rfl⟩;simp [Leaves,settle,results,Tryz.results25,go_sem,r2];exact⟨I3.out.bel.setCell (by dsimp only; omega) _,.inr (.inr ⟨n,hn0,HN.out,H1.out,.inl ⟨11,HAT.out,rfl⟩⟩)⟩
      ·have t4:((N2:Int)==1)=false:=beq_eq_false_iff_ne.2 (by omega)
       obtain⟨i,hi⟩:∃ i,i=8 * n+F1:=⟨_,rfl⟩
       have HAT:=Lib.hid (show mendAt b n = .inl i from by rw [HA.out,if_neg h0,if_neg h12,if_neg h3,if_neg h4,hi]);have hil:i<8 * (last+1):=by have:=HLF.out.1 (by omega); omega
       have HI:=Lib.hid hi;clear hi h0 h1 h2 h12 h3 h4;go_wp2_with (first | (go_at_call 62; ((with_reducible refine(ask_true _ _).mono ?_); rintro e w' ⟨rfl,rfl⟩)) | (go_at_call 62; ((with_reducible refine(ask_false _ _).mono ?_); rintro e w' ⟨rfl,rfl⟩)));have e0:(8:Int) * n+F1=(i:Int):=by have:=HI.out; omega
       rw [e0];clear e0;obtain⟨i0,hi0,hz0,hz1,hz2⟩:=info_parts info5;have eL:((last:Int)+1)=((last+1:Nat):Int):=by omega
       rw [eL];obtain⟨W3,hrun,hown,hgr⟩:=run_make_full (P:=Tryz.prog) w4 w.heap.size 46 5 i0 _ 1 elem5.slice hi0 hz0 hz1 .i64 .i64 (last+1) (by rw [hz2]; omega) (by unfold maxLen; omega) I3.out.bel.size;rw [hrun];simp only [Result.andThen,Oper.upon_value];have B3:=Lib.hid (Below.grown (Below.refl w4.heap.size w4) hgr (Nat.le_refl _) (fun _ e=>by cases e));have Z3:=Lib.hid (zeros_box hown);have L3:=Lib.hid (I3.out.grow B3.out);have lg:=I3.out.bel.size;have lr:=lt_of_heap I3.out.r;have HG:=Lib.hid (fun W (h:Below w4.heap.size w4 W)=>I3.out.grow h);clear hrun hown hgr hi0 hz0 hz1 hz2 I3 eL;generalize w4.heap.size=g at *;go_wp2_with (with_reducible refine wpList_copyB rfl (.tmp 82) (.tmp 83) rfl rfl rfl Z3.out L3.out.l B3.out ?_);intro w5 h5 hb5;have C5:=Lib.hid h5;have B5:=Lib.hid hb5;clear h5 hb5 Z3 L3 B3;go_wp2_with fail;obtain⟨q,eq⟩:∃ q,i / 8=q:=⟨_,rfl⟩
       obtain⟨c,ec⟩:∃ c,i % 8=c:=⟨_,rfl⟩
       have hq:q<last+1:=by have:=hil; omega
       have hc8:c<8:=by omega
       have hi2:=fun w'=>run_indexAt_row (w:=w') (oa:=some ⟨g,0,none⟩) (cap:=last+1) elem5.slice size5 rfl hq;simp only [blk,ofs,Nat.zero_add,Nat.mul_one] at hi2;have c0:=cellAt C5.out q;have f0:=freeAt C5.out q;rw [List.getElem?_toArray,valsOf_get _ hq,byteV] at c0;have e1:IntKind.i64.wrap ((i:Int) / 8)=q:=by rw [show(i:Int) / 8=q by omega]; exact IntWalk.i64_in _ (by omega)
       have e2:(i:Int) % 8=c:=by omega
       have e3:(i:Int).tmod 8=c:=by rw [Int.tmod_eq_emod_of_nonneg (by omega)]; omega
       have e4:IntKind.i64.wrap (c:Int)=c:=IntWalk.i64_in _ (by omega);have EQ:=Lib.hid eq;have EC:=Lib.hid ec;clear eq ec;have hgn:¬ g=w.heap.size:=by omega
       refine wp_region_noPanic ?_
       go_still_tail 9,(by kernel_rfl)
       obtain⟨y,ey⟩:∃ y,y=b q ^^^ (128 / 2 ^ c):=⟨_,rfl⟩
       have eo:bits .xor .u8 ((b q:Nat):Int) (128 / 2 ^ c)=(y:Int):=by
        rw [ey,show((128:Int) / 2 ^ c)=((128 / 2 ^ c:Nat):Int) from by simp];exact u8_xor_nat _ _ (H8.out q) (by have:128 / 2 ^ c≤128:=Nat.div_le_self _ _; omega)
       rw [eo];have EY:=Lib.hid ey;clear eo ey;change wpList _ _ _ _ _ w5.drew;have C6:=Lib.hid (show BoxAt w5.drew g (valsOf (byteV b) (last+1)).toArray 5 from C5.out);have B6:=Lib.hid (show Below g w4 w5.drew from B5.out.trans (Below.drew (Below.refl _ _)));clear C5 B5 c0 f0;generalize World.drew w5=w6 at *;have c0:=cellAt C6.out q;have f0:=freeAt C6.out q;rw [List.getElem?_toArray,valsOf_get _ hq,byteV] at c0;go_wp2_with fail;have B7:=Lib.hid (show Below g w4 (w6.setCell ⟨g,q,none⟩ (.int .u8 y)) from B6.out.setCell (Nat.le_refl _) _);have I7:=Lib.hid (HG.out _ B7.out)
       have C7:=Lib.hid (show BoxAt (w6.setCell ⟨g,q,none⟩ (.int .u8 y)) g (valsOf (byteV (flipB b i)) (last+1)).toArray 5 from by
        have h:=box_set C6.out q (.int .u8 y);rw [valsOf_congr (g:=byteV (flipB b i)) (fun j hj=>?_)] at h
        ·exact h
        ·unfold byteV flipB
         rw [EQ.out,EC.out];by_cases e:j=q
         ·subst e
          rw [if_pos rfl,if_pos rfl,EY.out]
         ·rw [if_neg e,if_neg e])
       refine NoPanic.normal ?_;clear c0 f0 C6 B6 B7;generalize World.setCell _ _ _=w7 at *;have r2:=cellAt I7.out.r 0;have f2:=freeAt I7.out.r 0;simp only [List.getElem?_toArray,List.getElem?_cons_zero] at r2;go_wp2_with fail;refine leaves_cons (f:=52) (args:=#[bp w.heap.size]) (by simp) (by simp [go_sem]) ?_;refine(answer_idle _ _).mono ?_;rintro e u' w'' ⟨rfl,rfl,rfl⟩;simp [Leaves,settle,results,Tryz.results25,go_sem,r2];exact⟨I7.out.bel.setCell (by dsimp only; omega) _,.inr (.inr ⟨n,hn0,HN.out,H1.out,.inr ⟨i,g,last+1,HAT.out,hil,Nat.le_refl _,lg,rfl,C7.out.set _ _ (by dsimp only; omega)⟩⟩)⟩
    ·have t2:decide ((N2:Int)≤1)=false:=decide_eq_false (by omega)
     have HAT:=Lib.hid (show mendAt b n = .inr 11 from by rw [HA.out,if_neg h0,if_pos (fun h=>h2 h.2)]);clear h0 h1 h2;have r2:=cellAt I3.out.r 0;simp only [List.getElem?_toArray,List.getElem?_cons_zero] at r2;go_wp2_with (first | (go_at_call 62; ((with_reducible refine(ask_true _ _).mono ?_); rintro e w' ⟨rfl,rfl⟩)) | (go_at_call 62; ((with_reducible refine(ask_false _ _).mono ?_); rintro e w' ⟨rfl,rfl⟩)));refine leaves_cons (f:=52) (args:=#[bp w.heap.size]) (by simp) (by simp [go_sem]) ?_;refine(answer_panicking _ 0 11 [] _ I3.out.r).mono ?_;rintro e u' w'' ⟨rfl,rfl,rfl⟩;simp [Leaves,settle,results,Tryz.results25,go_sem,r2];exact⟨I3.out.bel.setCell (by dsimp only; omega) _,.inr (.inr ⟨n,hn0,HN.out,H1.out,.inl ⟨11,HAT.out,rfl⟩⟩)⟩
   ·have t1:decide ((N1:Int)≤1)=false:=decide_eq_false (by omega)
    have HAT:=Lib.hid (show mendAt b n = .inr 11 from by rw [HA.out,if_neg h0,if_pos (fun h=>h1 h.1)]);clear h0 h1;have r2:=cellAt I3.out.r 0;simp only [List.getElem?_toArray,List.getElem?_cons_zero] at r2;go_wp2_with (first | (go_at_call 62; ((with_reducible refine(ask_true _ _).mono ?_); rintro e w' ⟨rfl,rfl⟩)) | (go_at_call 62; ((with_reducible refine(ask_false _ _).mono ?_); rintro e w' ⟨rfl,rfl⟩)));refine leaves_cons (f:=52) (args:=#[bp w.heap.size]) (by simp) (by simp [go_sem]) ?_;refine(answer_panicking _ 0 11 [] _ I3.out.r).mono ?_;rintro e u' w'' ⟨rfl,rfl,rfl⟩;simp [Leaves,settle,results,Tryz.results25,go_sem,r2];exact⟨I3.out.bel.setCell (by dsimp only; omega) _,.inr (.inr ⟨n,hn0,HN.out,H1.out,.inl ⟨11,HAT.out,rfl⟩⟩)⟩
 ·have r2:=cellAt I0.out.r 0
  simp only [List.getElem?_toArray,List.getElem?_cons_zero] at r2;have H1:=Lib.hid h1;have HN:=Lib.hid hno;clear h1 hno;unfold err;refine leaves_cons (f:=52) (args:=#[bp w.heap.size]) (by simp) (by simp [go_sem]) ?_;refine(answer_panicking _ 0 8 [] _ I0.out.r).mono ?_;rintro e u' w'' ⟨rfl,rfl,rfl⟩;simp [Leaves,settle,results,Tryz.results25,go_sem,r2];exact⟨I0.out.bel.setCell (by dsimp only; omega) _,.inr (.inl ⟨H1.out,HN.out,rfl⟩)⟩
theorem mend_any(oa:Option Addr)(L nc:Nat)(b:Nat→Nat)(w:World)(hb:BytesAt w oa L b)(h8:∀ i,b i<256)(hcap:L≤nc) :
  Calls Tryz.prog 25 #[.slice oa L nc] w (MendPost L b w):=by
 refine(mend_box oa L nc b w hb h8 hcap).mono ?_;rintro e w' ⟨h1,h2 | h2 | ⟨n,h0,hn,hL,h3 | ⟨i,g,cap,a1,a2,a3,a4,a5,a6⟩⟩⟩
 ·exact⟨h1,.inl h2⟩
 ·exact⟨h1,.inr (.inl h2)⟩
 ·exact⟨h1,.inr (.inr ⟨n,h0,hn,hL,.inl h3⟩)⟩
 ·exact⟨h1,.inr (.inr ⟨n,h0,hn,hL,.inr ⟨i,g,cap,a1,a2,a3,a4,a5,row_box a6 (by unfold maxLen; omega)⟩⟩)⟩
def numB(g:Nat→Nat)(n:Nat):List Int:=(List.range n).map fun i=>((g i:Nat):Int)
def strB(g:Nat→Nat)(n:Nat):ByteArray:=strOfNums (numB g n)
def lisB(g:Nat→Nat)(n:Nat):List UInt8:=(List.range n).map fun i=>UInt8.ofNat (g i)
theorem strB_list(g:Nat→Nat)(n:Nat):(strB g n).toList=lisB g n:=by
 unfold strB;rw [Lib.strOfNums_toList];unfold Lib.bytesOf numB lisB;rw [List.map_map];rfl
theorem underlying5:Tryz.prog.underlying 5=some (.int .u8):=by kernel_rfl
theorem underlying9:Tryz.prog.underlying 9=some .string:=by kernel_rfl
theorem run_strB{W:World}{oa:Option Addr}{n nc:Nat}{g:Nat→Nat}(h:BytesAt W oa n g):(convert 46 9 (.slice oa n nc)).run Tryz.prog W = .ok (.string (strB g n)) W:=by
 by_cases h0:n=0
 ·subst h0
  rw [run_convert_bytes_string W 46 9 5 oa 0 nc elem5.slice underlying5 underlying9]
  cases oa <;> simp [Conv.bytesToString,loadCells]
  all_goals rfl
 ·have hp:=h.plain (by omega)
  rw [hp,run_convert_bytes_arg W 46 5 elem5.slice underlying5 (blk oa) (ofs oa) n nc (numB g n) (by simp [numB]) (fun i hi=>?_) 9 underlying9]
  ·rfl
  ·rw [h.at hi]
   simp [numB,List.getD,hi]
def eqB(n m:Nat)(f g:Nat→Nat):Bool:=decide (n=m)&&(List.range n).all fun i=>f i==g i
theorem eqB_iff{n m:Nat}{f g:Nat→Nat}:eqB n m f g=true↔n=m ∧ ∀ i,i<n→f i=g i:=by
 simp [eqB]
theorem lisB_eq{n m:Nat}{f g:Nat→Nat}(hf:∀ i,i<n→f i<256)(hg:∀ i,i<m→g i<256):(lisB f n==lisB g m)=eqB n m f g:=by
 rw [Bool.eq_iff_iff,beq_iff_eq,eqB_iff];unfold lisB
 constructor
 ·intro h1
  have hl:n=m:=by have:=congrArg List.length h1; simpa using this
  subst hl;refine⟨rfl,fun i hi=>?_⟩;have h2:=congrArg (fun l=>l[i]?) h1;simp [hi] at h2;have h3:=congrArg UInt8.toNat h2;simp at h3;have:=hf i hi;have:=hg i hi;omega
 ·rintro⟨rfl,h⟩
  exact List.map_congr_left (fun i hi=>by rw [h i (by simpa using hi)])
theorem bytes_any(oa ob:Option Addr)(n nc m mc:Nat)(f g:Nat→Nat)(w:World)(hf:BytesAt w oa n f)(hg:BytesAt w ob m g)(hf8:∀ i,i<n→f i<256)(hg8:∀ i,i<m→g i<256) :
  Calls Tryz.prog 22 #[.slice oa n nc,.slice ob m mc] w fun e w'=>e = .returned (.bool (eqB n m f g))∧w'=w:=by
 have h1:=run_strB (nc:=nc) hf;have h2:=run_strB (nc:=mc) hg;have HE:=Lib.hid (show((strB f n).toList==(strB g m).toList)=eqB n m f g from by rw [strB_list,strB_list]; exact lisB_eq hf8 hg8);clear hf hg hf8 hg8;generalize strB f n=s1 at *;generalize strB g m=s2 at *;go_enter Tryz.func22,Tryz.ntmps22
 go_wp2
 go_ret;exact⟨ret_bool HE.out,rfl⟩
theorem equal_any(oa ob:Option Addr)(n nc m mc:Nat)(f g:Nat→Nat)(w:World)(hf:BytesAt w oa n f)(hg:BytesAt w ob m g)(hf8:∀ i,i<n→f i<256)(hg8:∀ i,i<m→g i<256) :
  Calls Tryz.prog 67 #[.slice oa n nc,.slice ob m mc] w fun e w'=>e = .returned (.bool (eqB n m f g))∧w'=w:=by
 have h1:=run_strB (nc:=nc) hf;have h2:=run_strB (nc:=mc) hg;have HE:=Lib.hid (show((strB f n).toList==(strB g m).toList)=eqB n m f g from by rw [strB_list,strB_list]; exact lisB_eq hf8 hg8);clear hf hg hf8 hg8;generalize strB f n=s1 at *;generalize strB g m=s2 at *;go_enter Tryz.func67,Tryz.ntmps67
 go_wp2
 go_ret;exact⟨ret_bool HE.out,rfl⟩
end Go.Proofs.YtclbmlmlhiiaeaaGreatDoor
