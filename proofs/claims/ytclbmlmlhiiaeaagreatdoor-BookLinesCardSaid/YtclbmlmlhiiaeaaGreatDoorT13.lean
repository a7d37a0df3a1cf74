/- Walks: a file in which one bit is the other one, by the refe -/
import Derived.Test.YtclbmlmlhiiaeaaGreatDoorQW6
namespace Go.Proofs.YtclbmlmlhiiaeaaGreatDoor
open Go.RowKit
set_option maxRecDepth 100000 in
set_option maxHeartbeats 4000000 in
theorem flip_any(oa:Option Addr)(n nc i:Nat)(b:Nat→Nat)(w:World)(hb:BytesAt w oa n b)(h8:∀ i,b i<256)(hi:i<8 * n)(hn:n≤100000) :
  Calls Tryz.prog 32 #[.slice oa n nc,.int .i64 i] w (SlicePost n (flipB b i) w):=by
 have H8:=Lib.hid h8;obtain⟨q,eq⟩:∃ q,i / 8=q:=⟨_,rfl⟩
 obtain⟨c,ec⟩:∃ c,i % 8=c:=⟨_,rfl⟩
 have hq:q<n:=by omega
 have hc8:c<8:=by omega
 have h0:0<n:=by omega
 have EQ:=Lib.hid eq;have EC:=Lib.hid ec;have e2:(i:Int) % 8=c:=by omega
 have e1:(i:Int) / 8=q:=by omega
 have E1:=Lib.hid e1;have E2:=Lib.hid e2;have HB0:=Lib.hid ((Below.refl w.heap.size w).alloc (Nat.le_refl _) (.cells #[] 5));have LG0:=Lib.hid (hb.grow HB0.out);have E0:=Lib.hid (own_empty (B:=w.heap.size) (heap_alloc_new w (.cells #[] 5)) (Nat.le_refl _) (byteV b));clear eq ec e1 e2 hb h8;go_enter Tryz.func32,Tryz.ntmps32;go_wp2_with (at_builtin; refine wpList_app elem5 rfl (.tmp 8) (.tmp 9) rfl rfl E0.out rfl h0 LG0.out (fun _=>rfl) (by omega) HB0.out.size ?_);intro v1 w1 h2 h3;have B1:=Lib.hid (HB0.out.grown h3 HB0.out.size (fun x e=>(E0.out.lt x e).1));have O1:=Lib.hid (show w1.ownsRow w.heap.size 5 1 v1 n (valsOf (byteV b) n) from h2);clear h2 h3 E0 HB0 LG0;go_wp2_with fail
 go_loop [6,7] (fun u t => ∃ j y:Nat,j≤c∧t = .int .i64 j∧u = .int .u8 y∧y=128 / 2 ^ j) (fun _ t=>c - (intOf t).toNat)
 case atStart=>exact⟨0,128,Nat.zero_le _,rfl,rfl,rfl⟩
 case round =>
  obtain⟨j,y,hj,rfl,rfl,hy⟩:=hrel;have hy8:y≤128:=by rw [hy]; exact Nat.div_le_self _ _
  have HY:=Lib.hid hy;have e2:=E2.out;clear hy;by_cases hlj:j<c
  ·go_wp2_with fail
   go_round
   case rel=>exact⟨j+1,y / 2,hlj,by go_num,by simp,by rw [HY.out]; exact half_fin ⟨j,by omega⟩⟩
   case measure=>simp [intOf]; omega
  ·obtain rfl:c=j:=by omega
   obtain⟨g,cap,rfl,hcap,hg,c0,f0,hset⟩:=own_cell O1.out hq;have hi2:=fun w'=>run_indexAt_row (w:=w') (oa:=some ⟨g,0,none⟩) (n:=n) (cap:=cap) elem5.slice size5 rfl hq;simp only [blk,ofs,Nat.zero_add,Nat.mul_one] at hi2;unfold byteV at c0;have HSET:=Lib.hid hset;clear hset;have e1:=E1.out;obtain⟨z,ez⟩:∃ z,z=b q ^^^ y:=⟨_,rfl⟩
   have hx:bits .xor .u8 ((b q:Nat):Int) (y:Int)=(z:Int):=by rw [ez]; exact u8_xor_nat _ _ (H8.out q) (by omega)
   have EZ:=Lib.hid ez;clear ez;go_wp2_with fail;have B3:=Lib.hid (B1.out.setCell (p:=⟨g,q,none⟩) hg (.int .u8 (z:Int)));have h:=HSET.out (.int .u8 (z:Int));rw [valsOf_congr (g:=byteV (flipB b i)) (fun k hk=>?_)] at h
   ·obtain⟨fa,fc,hv,hrow,hlo,hc⟩:=row_of h (by unfold maxLen; omega)
    have HW:=Lib.hid hrow;have HLO:=Lib.hid hlo;clear hrow hlo h c0 f0 HSET;go_ret;exact⟨fa,fc,congrArg Ending.returned hv,HW.out,HLO.out,hc,B3.out⟩
   ·unfold byteV flipB
    rw [EQ.out,EC.out];by_cases e:k=q
    ·subst e
     rw [if_pos rfl,if_pos rfl,EZ.out,HY.out]
    ·rw [if_neg e,if_neg e]
end Go.Proofs.YtclbmlmlhiiaeaaGreatDoor
