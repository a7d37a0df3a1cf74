/- Walks: bytes copied; a content with its rows and the column, -/
import Derived.Test.YtclbmlmlhiiaeaaGreatDoorQA3
import Derived.Lib.SliceRun
import Derived.Deep.CutRange
import Derived.StillTailTactics
import Derived.Test.YtclbmlmlhiiaeaaGreatDoorQRL
import Derived.Test.YtclbmlmlhiiaeaaGreatDoorQR4
namespace Go.Proofs.YtclbmlmlhiiaeaaGreatDoor
open Go.RowKit
theorem own_empty{W:World}{g B:Nat}{E:TypeId}(h:BoxAt W g #[] E)(hB:B≤g)(cell:Nat→Value):W.ownsRow B E 1 (.slice (some ⟨g,0,none⟩) 0 0) 0 (valsOf cell 0) :=
 ⟨rfl,.inr ⟨g,0,#[],rfl,hB,h,Nat.le_refl _,by unfold maxLen; omega,rfl,rfl⟩⟩
def ClonePost(n:Nat)(g:Nat→Nat)(w:World)(e:Ending)(w':World):Prop :=
 ∃ v,e = .returned v∧w'.ownsRow w.heap.size 5 1 v n (valsOf (byteV g) n)∧Below w.heap.size w w'
set_option maxRecDepth 100000 in
set_option maxHeartbeats 1000000 in
theorem clone_any(oa:Option Addr)(n nc:Nat)(g:Nat→Nat)(w:World)(hg:BytesAt w oa n g)(h0:0<n)(hn:n≤100000) :
  Calls Tryz.prog 128 #[.slice oa n nc] w (ClonePost n g w):=by
 have HG:=Lib.hid hg;have hp:=hg.plain h0;clear hg;obtain⟨ad,rfl⟩:∃ ad,oa=some ad:=⟨_,hp⟩
 clear hp;have hq:∀ w,(binOp .eql 46 (.slice (some ad) n nc) (.slice none 0 0)).run Tryz.prog w = .ok (.bool false) w:=fun w=>Lib.run_eql_slice_nil w _ _ (some ad) n nc 0 0 elem5.slice;go_enter Tryz.func128,Tryz.ntmps128;have E0:=Lib.hid (own_empty (B:=w.heap.size) (heap_alloc_new w (.cells #[] 5)) (Nat.le_refl _) (byteV g));have hb:=(Below.refl w.heap.size w).alloc (Nat.le_refl _) (.cells #[] 5);have HB:=Lib.hid hb;clear hb;go_wp2_with (at_builtin; refine wpList_app elem5 rfl (.tmp 5) (.tmp 6) rfl rfl E0.out rfl h0 (HG.out.grow HB.out) (fun _=>rfl) (by omega) HB.out.size ?_);intro v' w' h2 h3;have hb3:=Lib.hid (HB.out.grown h3 HB.out.size (fun k e=>by cases e; exact Nat.le_refl _));have HO:=Lib.hid h2;clear h2 h3;go_wp2_with fail;go_ret;refine⟨_,rfl,?_,hb3.out⟩;exact HO.out
def colB(g:Nat→Nat):Nat→Nat
 | 0=>0
 | i+1=>colB g i ^^^ g i
theorem xor_fin:∀ x y:Fin 256,(x.val ^^^ y.val=0↔x.val=y.val)∧x.val ^^^ y.val<256:=by decide +kernel
theorem xor_zero{x y:Nat}(hx:x<256)(hy:y<256):x ^^^ y=0↔x=y:=(xor_fin ⟨x,hx⟩ ⟨y,hy⟩).1
theorem xor_lt{x y:Nat}(hx:x<256)(hy:y<256):x ^^^ y<256:=(xor_fin ⟨x,hx⟩ ⟨y,hy⟩).2
theorem col_lt{g:Nat→Nat}(hg:∀ i,g i<256):∀ n,colB g n<256
 | 0=>by simp [colB]
 | n+1=>xor_lt (col_lt hg n) (hg n)
def rowB(g:Nat→Nat)(n k:Nat):Nat:=pkB (fun j=>oddB (g j)) n k
def sealB(g:Nat→Nat)(n i:Nat):Nat:=if i<n then g i else if i<n+rowsB n then rowB g n (i - n) else colB g n
theorem own_grow{W W2:World}{base n:Nat}{E:TypeId}{v:Value}{xs:List Value}(h:W.ownsRow base E 1 v n xs)(hb:Below W.heap.size W W2):W2.ownsRow base E 1 v n xs :=
 h.kept (row:=none) ⟨hb.os,hb.tape,hb.output,hb.size,fun k hk _=>hb.block k hk⟩ (by cases v.ownBlock <;> simp)
def SlicePost(n:Nat)(F:Nat→Nat)(w:World)(e:Ending)(w':World):Prop :=
 ∃ oa cap,e = .returned (.slice oa n cap)∧BytesAt w' oa n F∧(0<n→w.heap.size≤blk oa)∧n≤cap∧Below w.heap.size w w'
structure SE (w:World) (oa:Option Addr) (n:Nat) (g:Nat→Nat) (k:Nat) (v:Value) (W:World):Prop where
 bel:Below w.heap.size w W
 l:BytesAt W oa n g
 own:W.ownsRow w.heap.size 4 1 v k (valsOf (boolV (fun j=>oddB (g j))) k)
set_option maxRecDepth 100000 in
set_option maxHeartbeats 4000000 in
theorem sealed_any(oa:Option Addr)(n nc:Nat)(g:Nat→Nat)(w:World)(hg:BytesAt w oa n g)(h8:∀ i,g i<256)(h0:0<n)(hn:n≤100000) :
  Calls Tryz.prog 68 #[.slice oa n nc] w (SlicePost (szB n) (sealB g n) w):=by
 have HO:=Lib.hid hg.old;have I0:=Lib.hid (show SE w oa n g 0 (.slice none 0 0) w from⟨Below.refl _ _,hg,World.ownsRow_nil _ _ _ _⟩);have LG:=Lib.hid (fun W (h:Below w.heap.size w W)=>BytesAt.grow hg h);have H8:=Lib.hid h8;have HC:=Lib.hid (col_lt h8);clear hg h8;go_enter Tryz.func68,Tryz.ntmps68;go_wp2_with fail
 go_loopw [3,4,9] (fun v c i wi => ∃ k:Nat,k≤n∧i = .int .i64 k∧c = .int .u8 (colB g k:Nat)∧SE w oa n g k v wi) (fun _ _ i _=>n - (intOf i).toNat)
 case atStart=>exact⟨0,Nat.zero_le _,rfl,rfl,I0.out⟩
 case round =>
  clear I0;obtain⟨k,hk,rfl,rfl,h1⟩:=hrel;have I1:=Lib.hid h1;clear h1;by_cases hlt:k<n
  ·have hi:=fun w=>run_indexAt_row (w:=w) (cap:=nc) elem5.slice size5 (I1.out.l.plain (by omega)) hlt
   simp only [Nat.mul_one] at hi;have hc:=I1.out.l.at hlt;have hgk:=H8.out k;have hck:=HC.out k;obtain⟨b,eb⟩:∃ b,oddB (g k)=b:=⟨_,rfl⟩
   have hob:=ones_le ⟨g k,hgk⟩;dsimp only at hob;obtain⟨o,eo⟩:∃ o,Lib.onesCount (g k)=o:=⟨_,rfl⟩
   have C127:=Lib.hid (fun W=>ones8_any (g k) W (by omega));rw [eo] at C127 hob;have eo2:((o:Int).tmod 2==1)=b:=by rw [← eb,oddB,eo,Int.tmod_eq_emod_of_nonneg (by omega),Bool.eq_iff_iff,beq_iff_eq,beq_iff_eq]; omega
   have eo3:((o:Int) % 2==1)=b:=by rw [← eb,oddB,eo,Bool.eq_iff_iff,beq_iff_eq,beq_iff_eq]; omega
   have hx:bits .xor .u8 ((colB g k:Nat):Int) ((g k:Nat):Int)=((colB g (k+1):Nat):Int):=u8_xor_nat _ _ hck hgk;have EB:=Lib.hid eb;clear eb eo;have hb1:=(Below.refl wr.heap.size wr).alloc (Nat.le_refl _) (.cells #[.bool b] 4);have R1:=Lib.hid (row_box (cell:=boolV fun _=>b) (n:=1) (heap_alloc_new wr (.cells #[.bool b] 4)) (by unfold maxLen; omega));have O1:=Lib.hid (own_grow I1.out.own hb1);have L1:=Lib.hid (Nat.le_trans I1.out.bel.size hb1.size);have B1:=Lib.hid (I1.out.bel.next hb1);clear hb1;go_wp2_with (first | (go_at_call 127; refine(C127.out _).mono ?_; rintro e w' ⟨rfl,rfl⟩) | (at_builtin; refine wpList_app elem4 rfl (.tmp 13) (.tmp 18) rfl rfl O1.out rfl (by omega) R1.out (fun _=>rfl) (by omega) L1.out ?_));intro v' w' h2 h3;have B2:=Lib.hid (B1.out.grown h3 L1.out (fun q e=>(O1.out.lt q e).1))
   have O2:=Lib.hid (show w'.ownsRow w.heap.size 4 1 v' (k+1) (valsOf (boolV (fun j=>oddB (g j))) (k+1)) from by
    rw [valsOf_congr (g:=boolV (fun j=>oddB (g j))) (fun j hj=>?_)] at h2
    ·exact h2
    ·by_cases e:j<k
     ·rw [if_pos e]
     ·rw [if_neg e]
      have:j=k:=by omega
      subst this
      show Value.bool b=Value.bool (oddB (g j))
      rw [EB.out])
   clear h2 h3 R1 O1 L1 B1 hi hc C127 eo2 eo3;go_wp2_with fail;exact⟨⟨k+1,hlt,by go_num,rfl,B2.out,LG.out _ B2.out,O2.out⟩,by simp [intOf]; omega⟩
  ·obtain rfl:n=k:=by omega
   obtain⟨ra,rc,rfl,hrow,-,-⟩:=row_of I1.out.own (by unfold maxLen; omega);have HR:=Lib.hid hrow;clear hrow;have hck:=HC.out n;go_wp2_with (go_at_call 128; refine(clone_any oa n nc g _ I1.out.l h0 hn).mono ?_);rintro e w1 ⟨v1,rfl,ho,hb1⟩;have O1:=Lib.hid ho;have B1:=Lib.hid hb1;clear ho hb1;go_wp2_with (go_at_call 125; refine(packed_any ra n rc _ _ (HR.out.grow B1.out) hn).mono ?_);rintro e w2 ⟨q,qc,hq,rfl,hrow,hb2⟩;have h7:0<rowsB n:=by unfold rowsB; omega
   have h6:rowsB n≤100000:=by unfold rowsB; omega
   have hB:Below wr.heap.size wr w2:=B1.out.next hb2;have O2:=Lib.hid (own_grow O1.out hb2);have HB:=Lib.hid hB;have HW:=Lib.hid hrow;clear hb2 hB hrow O1 B1;have HZ:=Lib.hid (show szB n=n+rowsB n+1 from rfl);have HF:=Lib.hid (show sealB g n=fun i=>if i<n then g i else if i<n+rowsB n then rowB g n (i - n) else colB g n from rfl);rw [HZ.out];generalize rowsB n=m at *;go_wp2_with (at_builtin; refine wpList_app elem5 rfl (.tmp 25) (.tmp 27) rfl rfl O2.out rfl h7 HW.out (fun _=>rfl) (by omega) HB.out.size ?_);intro v2 w3 h2 h3;have B3:=Lib.hid (HB.out.grown h3 HB.out.size (fun q e=>(O2.out.lt q e).1));have O3:=Lib.hid (own_grow h2 ((Below.refl w3.heap.size w3).alloc (Nat.le_refl _) (.cells #[.int .u8 (colB g n:Nat)] 5)));clear h2 h3 O2 HW;have R3:=Lib.hid (row_box (cell:=byteV fun _=>colB g n) (n:=1) (heap_alloc_new w3 (.cells #[.int .u8 (colB g n:Nat)] 5)) (by unfold maxLen; omega));have B4:=Lib.hid (B3.out.next ((Below.refl w3.heap.size w3).alloc (Nat.le_refl _) (.cells #[.int .u8 (colB g n:Nat)] 5)));go_wp2_with (at_builtin; refine wpList_app elem5 rfl (.tmp 28) (.tmp 30) rfl rfl O3.out rfl (by omega) R3.out (fun _=>rfl) (by omega) B4.out.size ?_);intro v3 w4 h2 h3;have B5:=Lib.hid (B4.out.grown h3 B4.out.size (fun q e=>(O3.out.lt q e).1))
   have hO:w4.ownsRow wr.heap.size 5 1 v3 (n+m+1) (valsOf (byteV (sealB g n)) (n+m+1)):=by
    rw [valsOf_congr (g:=byteV (sealB g n)) (fun j hj=>?_)] at h2
    ·exact h2
    ·rw [HF.out]
     unfold byteV rowB;dsimp only;by_cases e1:j<n+m
     ·rw [if_pos e1]
      by_cases e2:j<n
      ·rw [if_pos e2,if_pos e2]
      ·rw [if_neg e2,if_neg e2,if_pos e1]
     ·rw [if_neg e1,if_neg (by omega),if_neg e1]
   obtain⟨fa,fc,rfl,hrow,hlo,hcap⟩:=row_of hO (by unfold maxLen; omega);have HW:=Lib.hid hrow;have HL:=Lib.hid hlo;clear h2 h3 hO hrow hlo O3 R3 B3 B4;go_wp2_with fail;go_ret;exact⟨fa,fc,by rw [HZ.out]; rfl,by rw [HZ.out]; exact HW.out,fun h=>Nat.le_trans I1.out.bel.size (HL.out (by omega)),by rw [HZ.out]; exact hcap,I1.out.bel.next B5.out⟩
theorem own_cell{w:World}{base n j:Nat}{E:TypeId}{v:Value}{cell:Nat→Value}(h:w.ownsRow base E 1 v n (valsOf cell n))(hj:j<n) :
  ∃ g cap,v = .slice (some ⟨g,0,none⟩) n cap∧n≤cap∧base≤g∧w.cell? ⟨g,j,none⟩=some (cell j)∧w.frozen? ⟨g,j,none⟩=false ∧
   ∀ x:Value,(w.setCell ⟨g,j,none⟩ x).ownsRow base E 1 v n (valsOf (fun i=>if i=j then x else cell i) n):=by
 obtain⟨hl,⟨h1,h2⟩ | ⟨g,cap,cur,hv,hb,hg,hle,hm,hs,ht⟩⟩:=h
 ·subst h2
  omega
 ·refine⟨g,cap,hv,hle,hb,?_,?_,fun x=>⟨?_,.inr ⟨g,cap,cur.setIfInBounds j x,hv,hb,?_,hle,hm,?_,?_⟩⟩⟩
  ·rw [cellAt hg]
   have h1:=valsOf_get cell hj;rw [← ht,List.getElem?_take] at h1
   split at h1
   ·simpa using h1
   ·cases h1
  ·exact freeAt hg j
  ·simp [valsOf]
  ·exact BoxAt.store (t:=E) hg j x
  ·simpa using hs
  ·rw [← vals_set,← ht,Array.toList_setIfInBounds,List.take_set]
structure PR (w:World) (oa:Option Addr) (n:Nat) (r:Nat→Bool) (k m:Nat) (v:Value) (W:World):Prop where
 bel:Below w.heap.size w W
 l:IntsAt W oa n (fun i=>if r i then 1 else 0)
 own:W.ownsRow w.heap.size 5 1 v m (valsOf (byteV (pkB r k)) m)
theorem half_fin:∀ c:Fin 8,(128 / 2 ^ c.val) / 2=128 / 2 ^ (c.val+1):=by decide
set_option maxRecDepth 100000 in
set_option maxHeartbeats 4000000 in
theorem packR_any(oa:Option Addr)(n nc:Nat)(r:Nat→Bool)(w:World)(hr:IntsAt w oa n (fun i=>if r i then 1 else 0))(hn:n≤100000) :
  Calls Tryz.prog 78 #[.slice oa n nc] w (SlicePost (rowsB n) (pkB r n) w):=by
 have LG:=Lib.hid (fun W (h:Below w.heap.size w W)=>IntsAt.grow hr h);have I0:=Lib.hid (show PR w oa n r 0 0 (.slice none 0 0) w from⟨Below.refl _ _,hr,World.ownsRow_nil _ _ _ _⟩);have HO:=Lib.hid hr.old;clear hr;go_enter Tryz.func78,Tryz.ntmps78;go_wp2_with fail
 go_loopw [3,4] (fun v i wi => ∃ k:Nat,k≤n∧i = .int .i64 k∧PR w oa n r k (rowsB k) v wi) (fun _ i _=>n - (intOf i).toNat)
 case atStart=>exact⟨0,Nat.zero_le _,rfl,I0.out⟩
 case round =>
  clear I0;obtain⟨k,hk,rfl,h1⟩:=hrel;have I1:=Lib.hid h1;clear h1;by_cases hlt:k<n
  ·obtain⟨q,eq⟩:∃ q,k / 8=q:=⟨_,rfl⟩
   obtain⟨c,ec⟩:∃ c,k % 8=c:=⟨_,rfl⟩
   have hc8:c<8:=by omega
   have hq:q≤100000:=by omega
   have e1:IntKind.i64.wrap ((k:Int) / 8)=q:=by rw [show(k:Int) / 8=q by omega]; exact IntWalk.i64_in _ (by omega)
   have e2:(k:Int) % 8=c:=by omega
   have EQ:=Lib.hid eq;have EC:=Lib.hid ec;have hrk:rowsB (k+1)=q+1:=by unfold rowsB; omega
   have HRK:=Lib.hid hrk;have hr0:c=0→rowsB k=q:=by unfold rowsB; omega
   have hr1:c≠0→rowsB k=q+1:=by unfold rowsB; omega
   have HR:=Lib.hid (And.intro hr0 hr1);clear eq ec hrk hr0 hr1;go_upto_if 15 with (fail)
   go_cut [3] from 14 to 18 (fun v W=>Below w.heap.size w W∧W.ownsRow w.heap.size 5 1 v (q+1) (valsOf (byteV (pkB r k)) (q+1)))
   case first =>
    by_cases hc0:c=0
    ·have t0:((c:Int)==0)=true:=beq_iff_eq.2 (by omega)
     have hz:pkB r k q=0:=by
      have h:=pk_inv r k q;have h2:=h.2.2 EQ.out;rw [EC.out,hc0] at h2;have:=h.1;simp at h2;omega
     have HZ:=Lib.hid hz;have O0:=Lib.hid (show wr.ownsRow w.heap.size 5 1 u3 q (valsOf (byteV (pkB r k)) q) from by have h:=I1.out.own; rw [HR.out.1 hc0] at h; exact h);have hb1:=(Below.refl wr.heap.size wr).alloc (Nat.le_refl _) (.cells #[.int .u8 0] 5);have R1:=Lib.hid (row_box (cell:=byteV fun _=>0) (n:=1) (heap_alloc_new wr (.cells #[.int .u8 0] 5)) (by unfold maxLen; omega));have O1:=Lib.hid (own_grow O0.out hb1);have L1:=Lib.hid (Nat.le_trans I1.out.bel.size hb1.size);have B1:=Lib.hid (I1.out.bel.next hb1);clear hb1 hz hc0;go_wp2_with (at_builtin; refine wpList_app elem5 rfl (.tmp 16) (.tmp 17) rfl rfl O1.out rfl (by omega) R1.out (fun _=>rfl) (by omega) L1.out ?_);intro v' w' h2 h3;have B2:=Lib.hid (B1.out.grown h3 L1.out (fun x e=>(O1.out.lt x e).1))
     have O2:=Lib.hid (show w'.ownsRow w.heap.size 5 1 v' (q+1) (valsOf (byteV (pkB r k)) (q+1)) from by
      rw [valsOf_congr (g:=byteV (pkB r k)) (fun j hj=>?_)] at h2
      ·exact h2
      ·by_cases e:j<q
       ·rw [if_pos e]
       ·rw [if_neg e]
        have:j=q:=by omega
        subst this;unfold byteV
        rw [HZ.out])
     clear h2 h3 R1 O1 L1 B1;go_wp2_with fail
     go_meet
     case rel=>exact⟨B2.out,O2.out⟩
    ·have t0:((c:Int)==0)=false:=beq_eq_false_iff_ne.2 (by omega)
     have O0:=Lib.hid (show wr.ownsRow w.heap.size 5 1 u3 (q+1) (valsOf (byteV (pkB r k)) (q+1)) from by have h:=I1.out.own; rw [HR.out.2 hc0] at h; exact h);clear hc0;go_wp2_with fail
     go_meet
     case rel=>exact⟨I1.out.bel,O0.out⟩
   case rest =>
    obtain⟨hb,ho⟩:=hcut;have B1:=Lib.hid hb;have O1:=Lib.hid ho;clear hb ho I1 HR;go_wp2_with fail
    go_loop [5,6] (fun u i => ∃ j y:Nat,j≤c∧i = .int .i64 j∧u = .int .i64 y∧y=128 / 2 ^ j) (fun _ i=>c - (intOf i).toNat)
    case atStart=>exact⟨0,128,Nat.zero_le _,rfl,rfl,rfl⟩
    case round =>
     obtain⟨j,y,hj,rfl,rfl,hy⟩:=hrel;have hy8:y≤128:=by rw [hy]; exact Nat.div_le_self _ _
     have HY:=Lib.hid hy;clear hy;by_cases hlj:j<c
     ·go_wp2_with fail
      go_round
      case rel=>exact⟨j+1,y / 2,hlj,by go_num,by simp,by rw [HY.out]; exact half_fin ⟨j,by omega⟩⟩
      case measure=>simp [intOf]; omega
     ·obtain rfl:c=j:=by omega
      have hi:=fun w=>run_indexAt_row (w:=w) (cap:=nc) (t:=26) elem3.slice size3 ((LG.out _ B1.out).plain (by omega)) hlt;simp only [Nat.mul_one] at hi;have hc:=(LG.out _ B1.out).at hlt;obtain⟨g,cap,rfl,hcap,hg,c0,f0,hset⟩:=own_cell O1.out (show q<q+1 by omega);have hi2:=fun w'=>run_indexAt_row (w:=w') (oa:=some ⟨g,0,none⟩) (n:=q+1) (cap:=cap) elem5.slice size5 rfl (show q<q+1 by omega);simp only [blk,ofs,Nat.zero_add,Nat.mul_one] at hi2;unfold byteV at c0;have HSET:=Lib.hid hset;clear hset;obtain⟨b,eb⟩:∃ b,r k=b:=⟨_,rfl⟩
      rw [eb] at hc;have EB:=Lib.hid eb;clear eb;have hpk:=pk_lt r k q;have e3:(k:Int).tmod 8=c:=by rw [Int.tmod_eq_emod_of_nonneg (by omega)]; omega
      cases b with
      | false =>
       simp at hc;have z1:IntKind.i64.wrap 0=0:=by decide
       have z2:IntKind.u8.wrap 0=0:=by decide
       have z3:IntKind.u8.wrap ((pkB r k q:Nat):Int)=(pkB r k q:Nat):=IntWalk.u8_in _ (by omega);go_wp2_with fail
       go_still_tail 16,(by kernel_rfl)
       change wpList _ _ _ _ _ wc.drew;have B2:=Lib.hid (B1.out.next (Below.drew (Below.refl _ _)));have S2:=Lib.hid (show(wc.drew.setCell ⟨g,q,none⟩ (.int .u8 ((pkB r k q):Nat))).ownsRow w.heap.size 5 1 (.slice (some ⟨g,0,none⟩) (q+1) cap) (q+1) _ from HSET.out (.int .u8 ((pkB r k q):Nat)));have c1:wc.drew.cell? ⟨g,q,none⟩=some (.int .u8 (pkB r k q:Nat)):=c0;have f1:wc.drew.frozen? ⟨g,q,none⟩=false:=f0;clear c0 f0 hc hi HSET;generalize World.drew wc=w5 at *;go_wp2_with fail;have B3:=Lib.hid (B2.out.setCell (p:=⟨g,q,none⟩) hg (.int .u8 ((pkB r k q):Nat)));refine⟨⟨k+1,hlt,by go_num,B3.out,LG.out _ B3.out,?_⟩,by simp [intOf]; omega⟩;have h:=S2.out;rw [HRK.out];rw [show pkB r (k+1)=pkB r k from by funext j; show(if k / 8=j∧r k=true then _ else _)=_; rw [if_neg (fun h=>by have:=EB.out; rw [this] at h; cases h.2)]];rw [valsOf_congr (g:=byteV (pkB r k)) (fun j hj=>?_)] at h
       ·exact h
       ·by_cases e:j=q
        ·subst e; rw [if_pos rfl]; rfl
        ·rw [if_neg e]
      | true =>
       simp at hc;have z1:IntKind.i64.wrap (y:Int)=y:=IntWalk.i64_in _ (by omega);have z2:IntKind.u8.wrap (y:Int)=y:=IntWalk.u8_in _ (by omega);have hor:=or_fin ⟨pkB r k q,hpk⟩ ⟨c,hc8⟩ (by have h:=(pk_inv r k q).2.2 EQ.out; rw [EC.out] at h; exact h);dsimp only at hor;obtain⟨z,ez⟩:∃ z,z=pkB r k q+y:=⟨_,rfl⟩
       have hz:z<256:=by have:=hor.2.1; rw [← HY.out] at this; omega
       have z3:IntKind.u8.wrap (((pkB r k q:Nat):Int)+y)=(z:Int):=by rw [show((pkB r k q:Nat):Int)+y=(z:Int) by omega]; exact IntWalk.u8_in _ (by omega)
       have EZ:=Lib.hid ez;clear ez hor;go_wp2_with fail
       go_still_tail 16,(by kernel_rfl)
       change wpList _ _ _ _ _ wc.drew;have B2:=Lib.hid (B1.out.next (Below.drew (Below.refl _ _)));have S2:=Lib.hid (show(wc.drew.setCell ⟨g,q,none⟩ (.int .u8 (z:Nat))).ownsRow w.heap.size 5 1 (.slice (some ⟨g,0,none⟩) (q+1) cap) (q+1) _ from HSET.out (.int .u8 (z:Nat)));have c1:wc.drew.cell? ⟨g,q,none⟩=some (.int .u8 (pkB r k q:Nat)):=c0;have f1:wc.drew.frozen? ⟨g,q,none⟩=false:=f0;clear c0 f0 hc hi HSET;generalize World.drew wc=w5 at *;go_wp2_with fail;have B3:=Lib.hid (B2.out.setCell (p:=⟨g,q,none⟩) hg (.int .u8 (z:Nat)));refine⟨⟨k+1,hlt,by go_num,B3.out,LG.out _ B3.out,?_⟩,by simp [intOf]; omega⟩;have h:=S2.out;rw [HRK.out];rw [valsOf_congr (g:=byteV (pkB r (k+1))) (fun j hj=>?_)] at h
       ·exact h
       ·unfold byteV
        show _=Value.int .u8 ((if k / 8=j∧r k=true then pkB r k j+128 / 2 ^ (k % 8) else pkB r k j:Nat):Int)
        by_cases e:j=q
        ·subst e
         rw [if_pos rfl,if_pos ⟨EQ.out,EB.out⟩,EZ.out,HY.out,EC.out]
        ·rw [if_neg e,if_neg (fun h=>e (by have:=EQ.out; omega))]
  ·obtain rfl:n=k:=by omega
   obtain⟨fa,fc,rfl,hrow,hlo,hcap⟩:=row_of I1.out.own (by unfold rowsB maxLen; omega);have HW:=Lib.hid hrow;have HLO:=Lib.hid hlo;clear hrow hlo;go_wp2_with fail;go_ret;exact⟨fa,fc,rfl,HW.out,HLO.out,hcap,I1.out.bel⟩
theorem rowVals_one(cell:Nat→Nat→Value):∀ n,rowVals cell 1 n=valsOf (fun i=>cell i 0) n
 | 0=>rfl
 | n+1=>by
  show rowVals cell 1 n++_=_
  rw [rowVals_one cell n,valsOf_succ];rfl
section
variable {P:Program}
theorem run_app_own{t E:TypeId}{i:TypeInfo}{z:Value}{size bytes:Nat}(he:P.underlying t=some (.slice E))(hi:P.info? E=some i)(hz:i.zero=some z)(hsz:i.size=size)(hby:i.bytes=bytes)
  (hzs:z.cells.size=size) (hs0:0<size) (hb64:bytes≤64) (ty:TypeId) {w:World} {base g:Nat} (hg:BoxAt w g #[] E) (hbg:base≤g) (hbase:base≤w.heap.size) {oa:Option Addr} {n c:Nat} {cell:Nat→Nat→Value} (hrow:Row w oa n size cell) (h1:∀ i j,(cell i j).oneCell'=true) (hn:n≤1000000) :
  ∃ g' cap' w',(Builtin.append_ #[t,t] ty #[.slice (some ⟨g,0,none⟩) 0 0,.slice oa n c]).run P w = .ok (.slice (some ⟨g',0,none⟩) n cap') w' ∧
   w'.ownsRow base E size (.slice (some ⟨g',0,none⟩) n cap') n (rowVals cell size n)∧w.grownBy w' (some g)∧(g'=g∨g'=w.heap.size)∧g'<w'.heap.size:=by
 have hown:w.ownsRow base E size (.slice (some ⟨g,0,none⟩) 0 0) 0 []:=⟨by simp,.inr ⟨g,0,#[],rfl,hbg,hg,Nat.le_refl _,by unfold maxLen; omega,by simp,by simp⟩⟩
 by_cases h0:n=0
 ·subst h0
  refine⟨g,0,w,?_,hown,⟨rfl,rfl,rfl,Nat.le_refl _,fun _ _ _=>rfl⟩,.inl rfl,lt_of_heap hg⟩
  cases oa with
  | none=>simp [Builtin.append_,run_underlying he,sizeOf,typeInfo,hi,Builtin.lenOf,Builtin.firstCells,storeCells]
  | some ad=>simp [Builtin.append_,run_underlying he,sizeOf,typeInfo,hi,Builtin.lenOf,Builtin.firstCells,loadCells,loadCellsFrom,storeCells]
 ·have hpos:0<n:=by omega
  have hp:=hrow.plain hpos
  obtain⟨g',cap',w',hr,h2,h3,h4,h5⟩:=run_append_lies (P:=P) w t ty base E i z size bytes he hi hz hsz hby hzs hs0 _ 0 [] hown ⟨blk oa,ofs oa,none⟩ n c (rowVals cell size n) (rowVals_len _ _ _) (fun k u hk=>by
    obtain⟨i,j,hi',hj,rfl,rfl⟩:=rowVals_lt cell hs0 hk;rw [show(⟨blk oa,ofs oa,none⟩:Addr).add (i * size+j)=⟨blk oa,ofs oa+i * size+j,none⟩ from by rw [Addr.add_lit,Nat.add_assoc]];exact hrow.cells i hi' j hj) (fun u hu=>by obtain⟨i,j,_,_,rfl⟩:=rowVals_mem _ _ _ _ hu; exact h1 i j) hpos (by unfold maxLen; omega) (by
    have:(0+n) * bytes≤(0+n) * 64:=Nat.mul_le_mul_left _ hb64
    omega) hbase w.heap.size rfl
  rw [← hp] at hr;rw [Nat.zero_add] at hr h2;rw [List.nil_append] at h2;refine⟨g',cap',w',hr,h2,h3,?_,h5⟩;rcases h4 with h4 | h4
  ·cases h4; exact .inl rfl
  ·exact .inr h4
theorem step_app_own{t E:TypeId}{i:TypeInfo}{z:Value}{size bytes:Nat}(he:P.underlying t=some (.slice E))(hi:P.info? E=some i)(hz:i.zero=some z)(hsz:i.size=size)(hby:i.bytes=bytes)
  (hzs:z.cells.size=size) (hs0:0<size) (hb64:bytes≤64) {ops:Array Oper} {o:Oper} {a:Act} {w:World} {K:Act→World→Prop} {Q:Exit→Act→World→Prop} {X:Prop} (hgd:o.guard=none) (s x:Operand)
  (ho:o.op = .call {callee:=.builtin .append,args:=#[s,x],argTypes:=#[t,t]}) {base g:Nat} (hs:a.eval s = .slice (some ⟨g,0,none⟩) 0 0) (hg:BoxAt w g #[] E) (hbg:base≤g) (hbase:base≤w.heap.size)
  {oa:Option Addr} {n c:Nat} {cell:Nat→Nat→Value} (hx:a.eval x = .slice oa n c) (hrow:Row w oa n size cell) (h1:∀ i j,(cell i j).oneCell'=true) (hn:n≤1000000)
  (h:∀ g' cap' w',w'.ownsRow base E size (.slice (some ⟨g',0,none⟩) n cap') n (rowVals cell size n)→w.grownBy w' (some g)→(g'=g∨g'=w.heap.size)→g'<w'.heap.size→K (a.put o.dst (.slice (some ⟨g',0,none⟩) n cap')) w') :
  if Region.wanted o (yielded ops a.tmps)=true then Oper.wp P o a w K Q else X:=by
 have hw:Region.wanted o (yielded ops a.tmps)=true:=by simp [Region.wanted,hgd]
 rw [if_pos hw];obtain⟨g',cap',w',hr,h2,h3,h4,h5⟩:=run_app_own he hi hz hsz hby hzs hs0 hb64 o.type hg hbg hbase hrow h1 hn (c:=c);unfold Oper.wp execOp;simp only [ho,resolve,invoke,builtin,Sem.run_bind,Sem.run_pure,Result.andThen_ok,List.map_toArray,List.map_cons,List.map_nil,hs,hx,hr];exact h g' cap' w' h2 h3 h4 h5
end
def bI(l:List Bool)(i:Nat):Int:=if l.getD i false then 1 else 0
def BitsAt(W:World)(oa:Option Addr)(l:List Bool):Prop:=IntsAt W oa l.length (bI l)
theorem BitsAt.grow{W W':World}{oa:Option Addr}{l:List Bool}(h:BitsAt W oa l)(hb:Below W.heap.size W W'):BitsAt W' oa l:=IntsAt.grow h hb
theorem bits_snoc{W:World}{base g cap n:Nat}{l:List Bool}{b:Bool}(hn:n=l.length)(h:W.ownsRow base 3 1 (.slice (some ⟨g,0,none⟩) (n+1) cap) (n+1) (rowVals (fun i _=>.int .i64 (bI l i)) 1 n ++ [.int .i64 (if b then 1 else 0)]))(hl:l.length≤100000):BitsAt W (some ⟨g,0,none⟩) (l ++ [b]):=by
 subst hn
 have e:rowVals (fun i _=>Value.int .i64 (bI l i)) 1 l.length ++ [.int .i64 (if b then 1 else 0)]=valsOf (fun i=>.int .i64 (bI (l ++ [b]) i)) (l.length+1):=by
  rw [rowVals_one,valsOf_succ]
  congr 1
  ·exact valsOf_congr (fun i hi=>by unfold bI; rw [List.getD_eq_getElem?_getD,List.getD_eq_getElem?_getD,List.getElem?_append_left hi])
  ·unfold bI
   rw [List.getD_eq_getElem?_getD,List.getElem?_append_right (Nat.le_refl _),Nat.sub_self];rfl
 rw [e] at h;obtain⟨oa,c2,hv,hrow,-,-⟩:=row_of h (by unfold maxLen; omega)
 cases hv
 show IntsAt W _ (l ++ [b]).length _
 rw [List.length_append];exact hrow
end Go.Proofs.YtclbmlmlhiiaeaaGreatDoor
