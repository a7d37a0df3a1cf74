/- Walks: bits of bytes: how many, the first one, and whether t -/
import Derived.Test.YtclbmlmlhiiaeaaGreatDoorQN0
import Derived.Lib.Small
import Derived.Lib.Walk
import Derived.Lib.Strings
import Derived.Lib.Slices
import Derived.StillTailTactics
namespace Go.Proofs.YtclbmlmlhiiaeaaGreatDoor
open Go.RowKit
theorem fold_pieces:(⟨(([0,1,1,2,1,2,2,3,1,2,2,3,2,3,3,4,1,2,2,3,2,3,3,4,2,3,3,4,3,4,4,5,1,2,2,3,2,3,3,4,2,3,3,4,3,4,4,5,2,3,3,4,3,4,4,5,3,4,4,5,4,5,5,6].append [1,2,2,3,2,3,3,4,2,3,3,4,3,4,4,5,2,3,3,4,3,4,4,5,3,4,4,5,4,5,5,6,2,3,3,4,3,4,4,5,3,4,4,5,4,5,5,6,3,4,4,5,4,5,5,6,4,5,5,6,5,6,6,7]).append ([1,2,2,3,2,3,3,4,2,3,3,4,3,4,4,5,2,3,3,4,3,4,4,5,3,4,4,5,4,5,5,6,2,3,3,4,3,4,4,5,3,4,4,5,4,5,5,6,3,4,4,5,4,5,5,6,4,5,5,6,5,6,6,7].append [2,3,3,4,3,4,4,5,3,4,4,5,4,5,5,6,3,4,4,5,4,5,5,6,4,5,5,6,5,6,6,7,3,4,4,5,4,5,5,6,4,5,5,6,5,6,6,7,4,5,5,6,5,6,6,7,5,6,6,7,6,7,7,8])).toArray⟩:ByteArray)=Lib.pop8tab:=by kernel_rfl
attribute [local go_sem high] fold_pieces
theorem fold_len:(⟨(([0,1,2,2,3,3,3,3,4,4,4,4,4,4,4,4,5,5,5,5,5,5,5,5,5,5,5,5,5,5,5,5,6,6,6,6,6,6,6,6,6,6,6,6,6,6,6,6,6,6,6,6,6,6,6,6,6,6,6,6,6,6,6,6].append [7,7,7,7,7,7,7,7,7,7,7,7,7,7,7,7,7,7,7,7,7,7,7,7,7,7,7,7,7,7,7,7,7,7,7,7,7,7,7,7,7,7,7,7,7,7,7,7,7,7,7,7,7,7,7,7,7,7,7,7,7,7,7,7]).append ([8,8,8,8,8,8,8,8,8,8,8,8,8,8,8,8,8,8,8,8,8,8,8,8,8,8,8,8,8,8,8,8,8,8,8,8,8,8,8,8,8,8,8,8,8,8,8,8,8,8,8,8,8,8,8,8,8,8,8,8,8,8,8,8].append [8,8,8,8,8,8,8,8,8,8,8,8,8,8,8,8,8,8,8,8,8,8,8,8,8,8,8,8,8,8,8,8,8,8,8,8,8,8,8,8,8,8,8,8,8,8,8,8,8,8,8,8,8,8,8,8,8,8,8,8,8,8,8,8])).toArray⟩:ByteArray)=Lib.len8tab:=by kernel_rfl
attribute [local go_sem high] fold_len
set_option maxRecDepth 100000 in
set_option maxHeartbeats 1600000 in
theorem ones8_any(x:Nat)(w:World)(h1:x≤255):Calls Tryz.prog 127 #[.int .u8 x] w fun e w'=>e = .returned (.int .i64 (Lib.onesCount x:Nat))∧w'=w:=by
 have e:=Lib.pop8_int x (by omega) (by omega);rw [Int.toNat_natCast] at e;rw [← e];clear e;have hx:(x:Int)≤255:=by omega
 go_enter Tryz.func127,Tryz.ntmps127
 go_wp2
 go_ret;generalize Lib.pop8 (x:Int)=p;exact⟨ret_int (by unfold wrap64; simp),rfl⟩
set_option maxRecDepth 100000 in
set_option maxHeartbeats 1600000 in
theorem len8_any(x:Nat)(w:World)(h1:x≤255):Calls Tryz.prog 153 #[.int .u8 x] w fun e w'=>e = .returned (.int .i64 (Lib.bitLen x:Nat))∧w'=w:=by
 have e:=Lib.len8_int x (by omega) (by omega);rw [Int.toNat_natCast] at e;rw [← e];clear e;have hx:(x:Int)≤255:=by omega
 go_enter Tryz.func153,Tryz.ntmps153
 go_wp2
 go_ret;generalize Lib.len8 (x:Int)=p;exact⟨ret_int (by unfold wrap64; simp),rfl⟩
theorem lead8_any(x:Nat)(w:World)(h1:x≤255):Calls Tryz.prog 137 #[.int .u8 x] w fun e w'=>e = .returned (.int .i64 (8 - Lib.bitLen x:Nat))∧w'=w:=by
 have l:=Lib.bitLen_le8 ⟨x,by omega⟩;simp only at l;have e8:((8 - Lib.bitLen x:Nat):Int)=8 - (Lib.bitLen x:Int):=by omega
 rw [e8];clear e8;go_enter Tryz.func137,Tryz.ntmps137;go_wp2_with (go_at_call 153; refine(len8_any x _ h1).mono ?_; rintro e w' ⟨rfl,rfl⟩);go_ret;exact⟨rfl,rfl⟩
def oddB(x:Nat):Bool:=Lib.onesCount x % 2==1
theorem odd_step:∀ x:Fin 256,0<x.val→Lib.onesCount x.val=x.val % 2+Lib.onesCount (x.val / 2):=by decide +kernel
theorem ones_le:∀ x:Fin 256,Lib.onesCount x.val≤8:=by decide +kernel
set_option maxHeartbeats 1000000 in
theorem odd_any(x:Nat)(w:World)(h1:x≤255):Calls Tryz.prog 77 #[.int .u8 x] w fun e w'=>e = .returned (.int .i64 (Lib.onesCount x % 2:Nat))∧w'=w:=by
 go_enter Tryz.func77,Tryz.ntmps77;go_wp2_with fail
 go_loop [0,3] (fun b n => ∃ y m:Nat,y≤x∧b = .int .u8 y∧n = .int .i64 m∧m+Lib.onesCount y=Lib.onesCount x) (fun b _=>(intOf b).toNat)
 case atStart=>exact⟨x,0,Nat.le_refl _,rfl,rfl,by omega⟩
 case round =>
  obtain⟨y,m,hy,rfl,rfl,hm⟩:=hrel;have HM:=Lib.hid hm;have hx8:=ones_le ⟨x,by omega⟩;have hm8:m≤8:=by have:=hx8; dsimp only at this; omega
  clear hm hx8;by_cases h0:0<y
  ·have hs:=Lib.hid (odd_step ⟨y,by omega⟩ h0)
   have hy2:y / 2<y:=by omega
   go_wp2_with fail;exact⟨⟨y / 2,m+y % 2,by omega,by simp,by simp,by have:=hs.out; have:=HM.out; dsimp only at *; omega⟩,by simp [intOf]; omega⟩
  ·obtain rfl:y=0:=by omega
   go_wp2_with fail;go_ret;exact⟨ret_int (by have:=HM.out; rw [show Lib.onesCount 0=0 from by decide +kernel] at this; simp at this; rw [← this]),rfl⟩
end Go.Proofs.YtclbmlmlhiiaeaaGreatDoor
namespace Go.Proofs.YtclbmlmlhiiaeaaGreatDoor
open Go.RowKit
def rowsB(n:Nat):Nat:=(n+7) / 8
def szB(n:Nat):Nat:=n+(n+7) / 8+1
theorem szB_lt{m n:Nat}(h:m<n):szB m<szB n:=by unfold szB; omega
theorem szB_inj{m n:Nat}(h:szB m=szB n):m=n:=by
 by_cases a:m<n
 ·have:=szB_lt a; omega
 ·by_cases b:n<m
  ·have:=szB_lt b; omega
  ·omega
def ContPost(many:Nat)(w:World)(e:Ending)(w':World):Prop :=
 w'=w∧((1000<many∧e=err 3)∨(many≤1000∧((∃ n:Nat,0<n∧szB n=many∧e = .returned (.int .i64 n))∨((∀ n,0<n→szB n≠many)∧e=err 8))))
set_option maxHeartbeats 1000000 in
theorem content_any(many:Nat)(w:World)(hm:many≤maxLen):Calls Tryz.prog 66 #[.int .i64 many] w (ContPost many w):=by
 unfold maxLen at hm;by_cases hl:many≤1000
 ·have hl':decide ((many:Int)≤1000)=true:=decide_eq_true (by omega)
  go_enter Tryz.func66,Tryz.ntmps66;go_wp2_with (go_at_call 62; ((with_reducible refine(ask_true _ _).mono ?_); rintro e w' ⟨rfl,rfl⟩));clear hl'
  go_loop [3] (fun v => ∃ k:Nat,k≤many∧v = .int .i64 k ∧ ∀ j,j<k→szB j<many) (fun v=>many - (intOf v).toNat)
  case atStart=>exact⟨0,Nat.zero_le _,rfl,fun j hj=>by omega⟩
  case round =>
   obtain⟨k,hk,rfl,hj⟩:=hrel;have HJ:=Lib.hid hj;clear hj;by_cases hlt:k+(k+7) / 8+1<many
   ·have hlt':(k:Int)+((k:Int)+7) / 8+1<many:=by omega
    go_wp2_with fail
    go_round
    case rel=>exact⟨k+1,by omega,by go_num,fun j hj=>by by_cases e:j=k; (subst e; exact hlt); exact HJ.out j (by omega)⟩
    case measure=>simp [intOf]; omega
   ·have hlt':¬ (k:Int)+((k:Int)+7) / 8+1<many:=by omega
    have HN:=Lib.hid (fun n hn h0 he=>by
     have:=HJ.out n;unfold szB at this he;by_cases e:n<k
     ·have:=this e; omega
     ·by_cases e2:n=k
      ·subst e2; exact hn ⟨h0,he⟩
      ·omega:∀ n,(¬ (0<k∧k+(k+7) / 8+1=many))→0<n→szB n≠many)
    by_cases h0:0<k
    ·have h0':decide (0<(k:Int))=true:=decide_eq_true (by omega)
     by_cases he:k+(k+7) / 8+1=many
     ·have he':((k:Int)+((k:Int)+7) / 8+1==(many:Int))=true:=beq_iff_eq.2 (by omega)
      have HE:=Lib.hid he;clear he;go_wp2_with (go_at_call 62; ((with_reducible refine(ask_true _ _).mono ?_); rintro e w' ⟨rfl,rfl⟩));go_ret;exact⟨rfl,.inr ⟨hl,.inl ⟨k,h0,HE.out,rfl⟩⟩⟩
     ·have he':((k:Int)+((k:Int)+7) / 8+1==(many:Int))=false:=beq_eq_false_iff_ne.2 (by omega)
      go_wp2_with (go_at_call 62; ((with_reducible refine(ask_false _ _).mono ?_); rintro e w' ⟨rfl,rfl⟩));exact⟨rfl,rfl,.inr ⟨hl,.inr ⟨fun n h1=>HN.out n (fun h=>he h.2) h1,rfl⟩⟩⟩
    ·have h0':decide (0<(k:Int))=false:=decide_eq_false (by omega)
     go_wp2_with (go_at_call 62; ((with_reducible refine(ask_false _ _).mono ?_); rintro e w' ⟨rfl,rfl⟩));exact⟨rfl,rfl,.inr ⟨hl,.inr ⟨fun n h1=>HN.out n (fun h=>h0 h.1) h1,rfl⟩⟩⟩
 ·have hl':decide ((many:Int)≤1000)=false:=decide_eq_false (by omega)
  go_enter Tryz.func66,Tryz.ntmps66;go_wp2_with (go_at_call 62; ((with_reducible refine(ask_false _ _).mono ?_); rintro e w' ⟨rfl,rfl⟩));exact⟨rfl,rfl,.inl ⟨by omega,rfl⟩⟩
def pkB(r:Nat→Bool):Nat→Nat→Nat
 | 0,_=>0
 | i+1,k=>if i / 8=k∧r i=true then pkB r i k+128 / 2 ^ (i % 8) else pkB r i k
theorem or_fin:∀ a:Fin 256,∀ c:Fin 8,a.val % 2 ^ (8 - c.val)=0→a.val ||| (128 / 2 ^ c.val)=a.val+128 / 2 ^ c.val∧a.val+128 / 2 ^ c.val<256∧(a.val+128 / 2 ^ c.val) % 2 ^ (7 - c.val)=0:=by decide +kernel
theorem mod_fin:∀ a:Fin 256,∀ c:Fin 8,a.val % 2 ^ (8 - c.val)=0→a.val % 2 ^ (7 - c.val)=0:=by decide +kernel
theorem pk_inv(r:Nat→Bool):∀ i k,pkB r i k<256∧(i / 8<k→pkB r i k=0)∧(i / 8=k→pkB r i k % 2 ^ (8 - i % 8)=0)
 | 0,k=>by simp [pkB]
 | i+1,k=>by
  obtain⟨h1,h2,h3⟩:=pk_inv r i k;simp only [pkB];by_cases e:i / 8=k
  ·have h3':=h3 e
   have o:=or_fin ⟨pkB r i k,h1⟩ ⟨i % 8,Nat.mod_lt _ (by omega)⟩ h3';have m:=mod_fin ⟨pkB r i k,h1⟩ ⟨i % 8,Nat.mod_lt _ (by omega)⟩ h3';dsimp only at o m;by_cases c:r i=true
   ·rw [if_pos ⟨e,c⟩]
    refine⟨o.2.1,fun h=>by omega,fun h=>?_⟩;have:8 - (i+1) % 8=7 - i % 8:=by omega
    rw [this]; exact o.2.2
   ·rw [if_neg (fun h=>c h.2)]
    refine⟨h1,fun h=>by omega,fun h=>?_⟩;have:8 - (i+1) % 8=7 - i % 8:=by omega
    rw [this]; exact m
  ·rw [if_neg (fun h=>e h.1)]
   refine⟨h1,fun h=>h2 (by omega),fun h=>?_⟩;by_cases e2:i / 8<k
   ·rw [h2 e2]; simp
   ·omega
theorem pk_lt(r:Nat→Bool)(i k:Nat):pkB r i k<256:=(pk_inv r i k).1
theorem pk_or(r:Nat→Bool)(i:Nat):pkB r i (i / 8) ||| (128 / 2 ^ (i % 8))=pkB r i (i / 8)+128 / 2 ^ (i % 8) :=
 (or_fin ⟨_,pk_lt r i (i / 8)⟩ ⟨i % 8,Nat.mod_lt _ (by omega)⟩ ((pk_inv r i (i / 8)).2.2 rfl)).1
theorem zeros_box{w:World}{base g n:Nat}(h:w.ownsRow base 5 1 (.slice (some ⟨g,0,none⟩) n n) n (madeCells (Value.cells (.int .u8 0)) (n * 1)).toList):BoxAt w g (valsOf (byteV (fun _=>0)) n).toArray 5:=by
 obtain⟨hl,⟨h1,_⟩ | ⟨g',cap,cur,hv,hb,hg,hle,hm,hs,ht⟩⟩:=h
 ·cases h1
 ·injection hv with e1 e2 e3
  injection e1 with e1
  injection e1 with e1 _ _
  subst e1 e3
  have:cur.toList=valsOf (byteV (fun _=>0)) n:=by
   rw [List.take_of_length_le (by simp; omega)] at ht;rw [ht];apply List.ext_getElem (by simp [madeCells,valsOf]);intro i h1 h2;simp [madeCells,Value.cells,Nat.mod_one,valsOf,byteV]
  rw [← this];exact hg
theorem info5:(Tryz.prog.info? 5).map (fun i=>(i.zero,i.size,i.bytes))=some (some (.int .u8 0),1,1):=by kernel_rfl
theorem size5:(Tryz.prog.info? 5).map (·.size)=some 1:=by kernel_rfl
theorem size4:(Tryz.prog.info? 4).map (·.size)=some 1:=by kernel_rfl
def PackPost(n:Nat)(F:Nat→Nat)(w:World)(e:Ending)(w':World):Prop :=
 ∃ g cap,w.heap.size≤g∧e = .returned (.slice (some ⟨g,0,none⟩) n cap)∧Row w' (some ⟨g,0,none⟩) n 1 (fun i _=>byteV F i)∧Below w.heap.size w w'
structure PK (w:World) (oa:Option Addr) (n g m:Nat) (r:Nat→Bool) (F:Nat→Nat) (W:World):Prop where
 bel:Below w.heap.size w W
 l:BoolsAt W oa n r
 o:BoxAt W g (valsOf (byteV F) m).toArray 5
 lo:w.heap.size≤g
theorem PK.grow{w:World}{oa:Option Addr}{n g m:Nat}{r:Nat→Bool}{F:Nat→Nat}{W W2:World}(h:PK w oa n g m r F W)(hb:Below W.heap.size W W2):PK w oa n g m r F W2 :=
 ⟨h.bel.next hb,h.l.grow hb,h.o.grow hb,h.lo⟩
set_option maxRecDepth 100000 in
set_option maxHeartbeats 2000000 in
theorem packed_any(oa:Option Addr)(n nc:Nat)(r:Nat→Bool)(w:World)(hr:BoolsAt w oa n r)(hn:n≤100000) :
  Calls Tryz.prog 125 #[.slice oa n nc] w (PackPost (rowsB n) (pkB r n) w):=by
 have HR:=Lib.hid hr;have HO:=Lib.hid hr.old;clear hr;have hm:((n:Int)+7) / 8=(rowsB n:Nat):=by unfold rowsB; omega
 have hm5:rowsB n≤100000:=by unfold rowsB; omega
 have HM:=Lib.hid (show rowsB n=(n+7) / 8 from rfl);have H0:=Lib.hid hm;clear hm;go_enter Tryz.func125,Tryz.ntmps125;go_wp2_with fail;obtain⟨i0,hi0,hz0,hz1,hz2⟩:=info_parts info5;rw [H0.out];generalize rowsB n=m at *;obtain⟨W3,hrun,hown,hgr⟩:=run_make_full (P:=Tryz.prog) w w.heap.size 46 5 i0 _ 1 elem5.slice hi0 hz0 hz1 .i64 .i64 m (by rw [hz2]; omega) (by unfold maxLen; omega) (Nat.le_refl _);rw [hrun];simp only [Result.andThen,Oper.upon_value];have hb3:=Below.grown (Below.refl w.heap.size w) hgr (Nat.le_refl _) (fun _ e=>by cases e);have I1:=Lib.hid (show PK w oa n w.heap.size m r (pkB r 0) W3 from⟨hb3,HR.out.grow hb3,zeros_box hown,Nat.le_refl _⟩);clear hrun hown hgr hi0 hz0 hz1 hz2 hb3 HR;go_wp2_with fail
 go_loopw [13] (fun v wi => ∃ k:Nat,k≤n∧v = .int .i64 k∧PK w oa n w.heap.size m r (pkB r k) wi) (fun v _=>n - (intOf v).toNat)
 case atStart=>exact⟨0,Nat.zero_le _,rfl,I1.out⟩
 case round =>
  clear I1;obtain⟨k,hk,rfl,h1⟩:=hrel;have I2:=Lib.hid h1;clear h1;by_cases hlt:k<n
  ·have hi:=fun w=>run_indexAt_row (w:=w) (cap:=nc) elem4.slice size4 (I2.out.l.plain (by omega)) hlt
   simp only [Nat.mul_one] at hi;have hc:=I2.out.l.at hlt;have hs:pkB r (k+1)=fun j=>if k / 8=j∧r k=true then pkB r k j+128 / 2 ^ (k % 8) else pkB r k j:=rfl
   have HS:=Lib.hid hs;clear hs;obtain⟨b,eb⟩:∃ b,r k=b:=⟨_,rfl⟩
   rw [eb] at hc;have HB:=Lib.hid eb;clear eb
   cases b with
   | false =>
    have HF:=Lib.hid (show pkB r (k+1)=pkB r k from by rw [HS.out]; funext j; rw [if_neg (fun h=>by rw [HB.out] at h; cases h.2)]);go_wp2_with fail;exact⟨⟨k+1,hlt,by go_num,by rw [HF.out]; exact I2.out⟩,by simp [intOf]; omega⟩
   | true =>
    obtain⟨q,eq⟩:∃ q,k / 8=q:=⟨_,rfl⟩
    obtain⟨c,ec⟩:∃ c,k % 8=c:=⟨_,rfl⟩
    have hq:q<m:=by have:=HM.out; omega
    have hc8:c<8:=by omega
    have hi2:=fun w'=>run_indexAt_row (w:=w') (oa:=some ⟨w.heap.size,0,none⟩) (cap:=m) elem5.slice size5 rfl hq;simp only [blk,ofs,Nat.zero_add,Nat.mul_one] at hi2;have c0:=cellAt I2.out.o q;have f0:=freeAt I2.out.o q;rw [List.getElem?_toArray,valsOf_get _ hq,byteV] at c0;have e1:IntKind.i64.wrap ((k:Int) / 8)=q:=by rw [show(k:Int) / 8=q by omega]; exact IntWalk.i64_in _ (by omega)
    have e2:(k:Int) % 8=c:=by omega
    have e3:(k:Int).tmod 8=c:=by rw [Int.tmod_eq_emod_of_nonneg (by omega)]; omega
    have e4:IntKind.i64.wrap (c:Int)=c:=IntWalk.i64_in _ (by omega);have EQ:=Lib.hid eq;have EC:=Lib.hid ec;clear eq ec;go_wp2_with fail
    go_still_tail 9,(by kernel_rfl)
    obtain⟨y,ey⟩:∃ y,y=pkB r k q+128 / 2 ^ c:=⟨_,rfl⟩
    have eo:bits .or .u8 ((pkB r k q:Nat):Int) (128 / 2 ^ c)=(y:Int):=by
     have h:=pk_or r k;rw [ey];rw [EQ.out,EC.out] at h;rw [← h,show((128:Int) / 2 ^ c)=((128 / 2 ^ c:Nat):Int) from by simp];exact u8_or_nat _ _ (by have:=pk_lt r k q; omega) (by have:128 / 2 ^ c≤128:=Nat.div_le_self _ _; omega)
    rw [eo];have EY:=Lib.hid ey;clear eo ey;change wpList _ _ _ _ _ wr.drew;have I3:=Lib.hid (I2.out.grow (Below.drew (Below.refl _ _)));have c1:=cellAt I3.out.o q;have f1:=freeAt I3.out.o q;rw [List.getElem?_toArray,valsOf_get _ hq] at c1;clear I2 c0 f0 hc hi;generalize World.drew wr=w5 at *;go_wp2_with fail;refine⟨⟨k+1,hlt,by go_num,⟨I3.out.bel.setCell (Nat.le_refl _) _,Row.set I3.out.l _ _ (fun h0=>by have:=HO.out h0; dsimp only; omega),?_,Nat.le_refl _⟩⟩,by simp [intOf]; omega⟩;have h:=box_set I3.out.o q (.int .u8 (y:Int));rw [valsOf_congr (g:=byteV (pkB r (k+1))) (fun j hj=>?_)] at h
    ·exact h
    ·rw [HS.out]
     unfold byteV;by_cases e:j=q
     ·subst e
      simp only [EY.out,EQ.out,HB.out,EC.out,and_self,if_true]
     ·simp only [e,if_false,EQ.out,HB.out]
      rw [if_neg (fun h=>e h.1.symm)]
  ·obtain rfl:n=k:=by omega
   go_wp2_with fail;go_ret;exact⟨w.heap.size,m,Nat.le_refl _,rfl,row_box I2.out.o (by unfold maxLen; omega),I2.out.bel⟩
end Go.Proofs.YtclbmlmlhiiaeaaGreatDoor
