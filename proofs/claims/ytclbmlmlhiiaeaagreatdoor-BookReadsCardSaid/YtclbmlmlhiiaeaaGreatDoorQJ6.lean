/- Walks: the parts of a text, and its lines, by the reference. -/
import Derived.Test.YtclbmlmlhiiaeaaGreatDoorQJ1
import Derived.Test.YtclbmlmlhiiaeaaGreatDoorQY0
namespace Go.Proofs.YtclbmlmlhiiaeaaGreatDoor
open Go.RowKit
def strV(l:List (List UInt8)):List Value:=l.map fun t=>.string ⟨t.toArray⟩
def strC(l:List (List UInt8))(i:Nat):Value:=.string ⟨(l.getD i []).toArray⟩
theorem strV_vals(l:List (List UInt8)):strV l=valsOf (strC l) l.length:=by
 apply List.ext_getElem (by simp [strV,valsOf]);intro i h1 h2;have hi:i<l.length:=by simpa [strV] using h1
 simp [strV,valsOf,strC,List.getD_eq_getElem?_getD,List.getElem?_eq_getElem hi]
theorem strV_snoc(l:List (List UInt8))(t:List UInt8):strV (l ++ [t])=strV l ++ [.string ⟨t.toArray⟩]:=by simp [strV]
def StrsAt(w:World)(oa:Option Addr)(l:List (List UInt8)):Prop:=Row w oa l.length 1 (fun i _=>strC l i)
theorem StrsAt.grow{w w':World}{oa:Option Addr}{l:List (List UInt8)}(h:StrsAt w oa l)(hb:Below w.heap.size w w'):StrsAt w' oa l:=Row.grow h hb
theorem StrsAt.at{w:World}{oa:Option Addr}{l:List (List UInt8)}(h:StrsAt w oa l){k:Nat}(hk:k<l.length):w.cell? ⟨blk oa,ofs oa+k,none⟩=some (strC l k):=Row.at1 h hk
theorem strs80:Tryz.prog.underlying 80=some (.slice 9):=by kernel_rfl
theorem size9:(Tryz.prog.info? 9).map (·.size)=some 1:=by kernel_rfl
theorem info9:∃ i,Tryz.prog.info? 9=some i∧i.zero=some (.string ⟨#[]⟩)∧i.size=1∧i.bytes=16 :=
 ⟨(Tryz.prog.info? 9).get (by kernel_rfl),by kernel_rfl,by kernel_rfl,by kernel_rfl,by kernel_rfl⟩
def PartsPost(l:List (List UInt8))(w:World)(e:Ending)(w':World):Prop :=
 ∃ oa cap,e = .returned (.slice oa l.length cap)∧StrsAt w' oa l∧(0<l.length→w.heap.size≤blk oa)∧l.length≤cap∧Below w.heap.size w w'
theorem PartsPost.of{l:List (List UInt8)}{w W:World}{v:Value}(h:W.ownsRow w.heap.size 9 1 v l.length (strV l))(hl:l.length≤100000)(hb:Below w.heap.size w W):PartsPost l w (.returned v) W:=by
 rw [strV_vals] at h;obtain⟨oa,cap,rfl,h1,h2,h3⟩:=row_of h (by unfold maxLen; omega);exact⟨oa,cap,rfl,h1,h2,h3,hb⟩
structure P4 (w:World) (s:List UInt8) (c:UInt8) (k:Nat) (l:List (List UInt8)) (p:List UInt8) (v:Value) (W:World):Prop where
 bel:Below w.heap.size w W
 own:W.ownsRow w.heap.size 9 1 v l.length (strV l)
 eq:partsF c [] s=l++partsF c p (s.drop k)
 len:l.length≤k
 plen:p.length≤k
set_option maxRecDepth 100000 in
set_option maxHeartbeats 4000000 in
theorem parts140_any(s:List UInt8)(c:UInt8)(ci:Int)(hc:(c.toNat:Int)=ci)(w:World)(hs:s.length≤2000) :
  Calls Tryz.prog 140 #[.string ⟨s.toArray⟩,.int .u8 ci] w (PartsPost (partsF c [] s) w):=by
 have I0:=Lib.hid (show P4 w s c 0 [] [] (.slice none 0 0) w from⟨Below.refl _ _,World.ownsRow_nil _ _ _ _,rfl,Nat.le_refl _,Nat.le_refl _⟩);have HC:=Lib.hid hc;clear hc;go_enter Tryz.func140,Tryz.ntmps140;go_wp2_with fail
 go_loopw [5,6,7] (fun v q i wi => ∃ (k:Nat) (l:List (List UInt8)) (p:List UInt8),k≤s.length∧i = .int .i64 k∧q = .string ⟨p.toArray⟩∧P4 w s c k l p v wi) (fun _ _ i _=>s.length - (intOf i).toNat)
 case atStart=>exact⟨0,[],[],Nat.zero_le _,rfl,rfl,I0.out⟩
 case round =>
  clear I0;obtain⟨k,l,p,hk,rfl,rfl,hI⟩:=hrel;have I1:=Lib.hid hI;have hll:=hI.len;have hpl:=hI.plen;clear hI;by_cases hlt:k<s.length
  ·have hi:=fun W=>str_index s k hlt W
   have HD:=Lib.hid (show s.drop k=s.getD k 0::s.drop (k+1) from by
    rw [List.drop_eq_getElem_cons hlt,List.getD_eq_getElem?_getD,List.getElem?_eq_getElem hlt]
    rfl)
   have hsub:=fun W=>str_sub s k (k+1) (Nat.le_succ k) hlt W
   have HS1:=Lib.hid (show(s.take (k+1)).drop k = [s.getD k 0] from by
    rw [take_snoc s k hlt,List.drop_left' (by rw [List.length_take]; omega)])
   rw [HS1.out] at hsub;rw [show((k+1:Nat):Int)=(k:Int)+1 from by omega] at hsub;generalize s.getD k 0=x at *;by_cases hx:x=c
   ·have t0:((x.toNat:Int)==ci)=true:=by rw [beq_iff_eq,← HC.out,hx]
    have HE:=Lib.hid (show partsF c [] s=(l ++ [p])++partsF c [] (s.drop (k+1)) from by
     rw [I1.out.eq,HD.out,List.append_assoc]
     show l++(if x=c then _ else _)=_
     rw [if_pos hx]
     rfl)
    clear hx hsub HS1 HD;go_upto_region 7 with (fail)
    have al:=(Below.refl wr.heap.size wr).alloc (Nat.le_refl _) (.cells #[.string ⟨p.toArray⟩] 9);have O1:=Lib.hid (own_growN I1.out.own al);have N1:=Lib.hid (show BoxAt (wr.alloc (.cells #[.string ⟨p.toArray⟩] 9)) wr.heap.size [Value.string ⟨p.toArray⟩].toArray 9 from heap_alloc_new _ _);have L1:=Lib.hid (Nat.le_trans I1.out.bel.size al.size);have B1:=Lib.hid (I1.out.bel.next al);clear al;obtain⟨i0,hi0,hz0,hz1,hz4⟩:=info9;go_wp2_with (at_builtin; refine wpList_appR strs80 hi0 hz0 hz1 hz4 (by rfl) (by decide) (by decide) (by rfl) (.tmp 19) (.tmp 21) (by rfl) (by rfl) O1.out (by rfl) N1.out (by rfl) (fun u hu=>by rw [List.mem_singleton] at hu; rw [hu]; rfl) (by omega) L1.out ?_);intro g cap w8 h2 h3 h4;have I2:=Lib.hid (show P4 w s c (k+1) (l ++ [p]) [] (.slice (some ⟨g,0,none⟩) (l.length+1) cap) w8 from⟨B1.out.grown h3 L1.out (fun q e=>(O1.out.lt q e).1),by rw [List.length_append,strV_snoc]; exact h2,HE.out,by rw [List.length_append,List.length_singleton]; omega,Nat.zero_le _⟩);clear h2 h3 h4 O1 N1 L1 B1 hi0 hz0 hz1 hz4;go_wp2_with fail;exact⟨⟨k+1,l ++ [p],[],hlt,by go_num,rfl,I2.out⟩,by simp [intOf]; omega⟩
   ·have t0:((x.toNat:Int)==ci)=false:=by
     rw [beq_eq_false_iff_ne,← HC.out];intro e;exact hx (UInt8.toNat_inj.1 (by omega))
    have I2:=Lib.hid (show P4 w s c (k+1) l (p ++ [x]) _ wr from⟨I1.out.bel,I1.out.own,by
     rw [I1.out.eq,HD.out]
     show l++(if x=c then _ else _)=_
     rw [if_neg hx],by omega,by rw [List.length_append,List.length_singleton]; omega⟩)
    have hadd:=fun W=>str_add p [x] (by rw [List.length_singleton]; omega) W;clear hx HS1 HD;go_wp2_with fail;exact⟨⟨k+1,l,p ++ [x],hlt,by go_num,rfl,I2.out⟩,by simp [intOf]; omega⟩
  ·obtain rfl:k=s.length:=by omega
   have HE:=Lib.hid (show partsF c [] s=l ++ [p] from by rw [I1.out.eq,List.drop_length]; rfl);have al:=(Below.refl wr.heap.size wr).alloc (Nat.le_refl _) (.cells #[.string ⟨p.toArray⟩] 9);have O1:=Lib.hid (own_growN I1.out.own al);have N1:=Lib.hid (show BoxAt (wr.alloc (.cells #[.string ⟨p.toArray⟩] 9)) wr.heap.size [Value.string ⟨p.toArray⟩].toArray 9 from heap_alloc_new _ _);have L1:=Lib.hid (Nat.le_trans I1.out.bel.size al.size);have B1:=Lib.hid (I1.out.bel.next al);clear al hlt;obtain⟨i0,hi0,hz0,hz1,hz4⟩:=info9;go_wp2_with (at_builtin; refine wpList_appR strs80 hi0 hz0 hz1 hz4 (by rfl) (by decide) (by decide) (by rfl) (.tmp 30) (.tmp 32) (by rfl) (by rfl) O1.out (by rfl) N1.out (by rfl) (fun u hu=>by rw [List.mem_singleton] at hu; rw [hu]; rfl) (by omega) L1.out ?_);intro g cap w8 h2 h3 h4
   have O2:=Lib.hid (show PartsPost (partsF c [] s) w (.returned (.slice (some ⟨g,0,none⟩) (l.length+1) cap)) w8 from by
    rw [HE.out];refine PartsPost.of ?_ (by rw [List.length_append,List.length_singleton]; omega) (B1.out.grown h3 L1.out (fun q e=>(O1.out.lt q e).1));rw [List.length_append,strV_snoc]
    exact h2)
   clear h2 h3 h4 O1 N1 L1 B1 hi0 hz0 hz1 hz4 I1 HE;go_wp2_with fail;go_ret;exact O2.out
theorem elem80:Tryz.prog.elem 80=9:=by kernel_rfl
theorem size80(w:World):(sizeOf (Tryz.prog.elem 80)).run Tryz.prog w = .ok 1 w:=by rw [elem80]; kernel_rfl
theorem run_head80{oa:Option Addr}{n c h:Nat}(ho:oa=some ⟨blk oa,ofs oa,none⟩)(h2:h≤c)(h3:0<c)(w:World) :
  (Instr.sliceAt 80 (.slice oa n c) none (some (.int .i64 h)) none).run Tryz.prog w = .ok (.slice oa h c) w:=by
 rw [run_sliceAt_slice w 80 _ _ _ _ (by rw [elem80]; exact strs80),run_slice_h w 80 oa n c (by rw [elem80]; exact strs80) .i64 h (by omega) (by omega),size80];simp only [Result.andThen,sliced,Int.toNat_natCast,if_neg (show ¬ c=0 by omega)];rw [ho];rfl
theorem run_sub80{oa:Option Addr}{n c l h:Nat}(ho:oa=some ⟨blk oa,ofs oa,none⟩)(h1:l≤h)(h2:h≤c)(h3:l<c)(w:World) :
  (Instr.sliceAt 80 (.slice oa n c) (some (.int .i64 l)) (some (.int .i64 h)) none).run Tryz.prog w = .ok (.slice (some ⟨blk oa,ofs oa+l,none⟩) (h - l) (c - l)) w:=by
 rw [run_sliceAt_slice w 80 _ _ _ _ (by rw [elem80]; exact strs80),run_slice_lh w 80 oa n c (by rw [elem80]; exact strs80) .i64 .i64 l h (by omega) (by omega) (by omega),size80];simp only [Result.andThen,sliced,Int.toNat_natCast,if_neg (show ¬ c=l by omega)];rw [ho];simp only [Option.map,blk,ofs,Nat.mul_one,Addr.add]
 split
 ·rename_i e; subst e; rfl
 ·rfl
theorem strC_sub(l:List (List UInt8))(a i:Nat):strC l (a+i)=strC (l.drop a) i:=by
 unfold strC;rw [List.getD_eq_getElem?_getD,List.getD_eq_getElem?_getD,List.getElem?_drop]
theorem strC_take(l:List (List UInt8)){b i:Nat}(h:i<b):strC l i=strC (l.take b) i:=by
 unfold strC;rw [List.getD_eq_getElem?_getD,List.getD_eq_getElem?_getD,List.getElem?_take_of_lt h]
theorem StrsAt.head{w:World}{oa:Option Addr}{l:List (List UInt8)}(h:StrsAt w oa l)(b:Nat):StrsAt w oa (l.take b):=by
 have hl:(l.take b).length≤l.length:=by rw [List.length_take]; omega
 refine⟨fun h0=>h.plain (by omega),fun h0=>h.old (by omega),by have:=h.small; omega,fun i hi j hj=>?_⟩;rw [← strC_take l (show i<b by rw [List.length_take] at hi; omega)];exact h.cells i (by omega) j hj
theorem StrsAt.tail{w:World}{oa oa':Option Addr}{l:List (List UInt8)}(h:StrsAt w oa l)(a:Nat)(ho:a<l.length→oa'=some ⟨blk oa,ofs oa+a,none⟩):StrsAt w oa' (l.drop a):=by
 have hl:(l.drop a).length=l.length - a:=List.length_drop;refine⟨fun h0=>?_,fun h0=>?_,by have:=h.small; omega,fun i hi j hj=>?_⟩
 ·rw [ho (by omega)]; rfl
 ·rw [ho (by omega)]
  exact h.old (by omega)
 ·rw [ho (by omega),← strC_sub]
  have:=h.cells (a+i) (by omega) j hj;obtain rfl:j=0:=by omega
  show w.cell? ⟨blk oa,ofs oa+a+i * 1+0,none⟩=_
  rw [show ofs oa+a+i * 1+0=ofs oa+(a+i) * 1+0 by omega];exact this
theorem linesL_of{s:List UInt8}{q:List (List UInt8)}{x:List UInt8}(h:partsF 10 [] s=q ++ [x]):linesL s=if x = [] then q else []:=by
 unfold linesL;rw [h];by_cases hx:x = []
 ·rw [if_pos hx,if_pos (by simp [hx]),List.dropLast_concat]
 ·rw [if_neg hx,if_neg (by simp [hx])]
theorem strs_none(w:World):StrsAt w none []:=row_none _ _ _
set_option maxRecDepth 100000 in
set_option maxHeartbeats 2000000 in
theorem lines139_any(s:List UInt8)(w:World)(hs:s.length≤2000) :
  Calls Tryz.prog 139 #[.string ⟨s.toArray⟩] w (PartsPost (linesL s) w):=by
 have C:=Lib.hid (parts140_any s 10 10 rfl w hs);have hpl:=partsF_len 10 s []
 obtain⟨q,x,hq⟩:∃ q x,partsF 10 [] s=q ++ [x]:=by
  rcases List.eq_nil_or_concat (partsF 10 [] s) with h | ⟨q,x,h⟩
  ·exact absurd h (partsF_ne 10 s [])
  ·exact⟨q,x,by rw [h,List.concat_eq_append]⟩
 have HL:=Lib.hid (linesL_of hq);rw [hq] at C hpl;have hqx:(q ++ [x]).length=q.length+1:=by simp
 have HC:=Lib.hid (show strC (q ++ [x]) q.length = .string ⟨x.toArray⟩ from by
  unfold strC;rw [List.getD_eq_getElem?_getD,List.getElem?_append_right (Nat.le_refl _),Nat.sub_self]
  rfl)
 have HT:=Lib.hid (show(q ++ [x]).take q.length=q from List.take_left' rfl);unfold PartsPost at C;rw [hqx] at C hpl;generalize q ++ [x]=p at *;clear hq;go_enter Tryz.func139,Tryz.ntmps139;go_upto_region 2 with (go_at_call 140; refine C.out.mono ?_; rintro e w1 ⟨oa,cap,rfl,h1,h2,h3,h4⟩)
 have R1:=Lib.hid h1;have F1:=Lib.hid (h2 (by omega));have B1:=Lib.hid h4;have hpl2:0<p.length:=by omega
 have hi:=fun w=>run_indexAt_row (w:=w) (oa:=oa) (n:=q.length+1) (cap:=cap) strs80 size9 (h1.plain hpl2) (show q.length<q.length+1 by omega);have hh:=fun w=>run_head80 (oa:=oa) (n:=q.length+1) (c:=cap) (h:=q.length) (h1.plain hpl2) (by omega) (by omega) w;have hc:=h1.at (k:=q.length) (by omega);rw [HC.out] at hc;simp only [Nat.mul_one] at hi;clear h1 h2 h4 hpl2 C;have e1:((q.length+1:Nat):Int) - 1=q.length:=by omega
 have e2:IntKind.i64.wrap (q.length:Int)=q.length:=IntWalk.i64_in _ (by omega);have hn:q.length≤2000:=by omega
 by_cases hx:x = []
 ·have HQ:=Lib.hid (show StrsAt w1 oa q from by have:=R1.out.head q.length; rw [HT.out] at this; exact this)
  have HL2:=Lib.hid (show linesL s=q from by rw [HL.out,if_pos hx]);subst hx
  have B2:=Lib.hid (show PartsPost (linesL s) w (.returned (.slice oa q.length cap)) w1 from by
   rw [HL2.out]
   exact⟨oa,cap,rfl,HQ.out,fun _=>F1.out,by omega,B1.out⟩)
  clear HQ HL HL2 HC HT R1 F1 B1;generalize q.length=n at *;go_wp2_with fail;go_ret;exact B2.out
 ·have B2:=Lib.hid (show PartsPost (linesL s) w (.returned (.slice none 0 0)) w1 from by
   rw [HL.out,if_neg hx]
   exact⟨none,0,rfl,strs_none _,fun h=>absurd h (Nat.lt_irrefl 0),Nat.le_refl _,B1.out⟩)
  have t0:x.isEmpty=false:=by
   cases x with
   | nil=>exact absurd rfl hx
   | cons=>rfl
  clear HL HC HT R1 F1 B1 hx;generalize q.length=n at *;go_wp2_with fail;go_ret;exact B2.out
theorem pow_half{j:Nat}(h:j<20):2 ^ (j+1)=2 * 2 ^ j∧2 ^ j≤524288:=by
 refine⟨by rw [Nat.pow_succ,Nat.mul_comm],?_⟩;exact Nat.le_trans (Nat.pow_le_pow_right (by omega) (show j≤19 by omega)) (by decide)
set_option maxRecDepth 100000 in
set_option maxHeartbeats 4000000 in
theorem set144_any(oa:Option Addr)(cap:Nat)(l:List (List UInt8))(w:World)(hl:StrsAt w oa l)(hm:∀ t,t ∈ l→t.length≤2000)(hn:l.length≤3000) :
  Calls Tryz.prog 144 #[.slice oa l.length cap] w fun e w'=>e = .returned (.int .i64 (hrsL l:Nat))∧Below w.heap.size w w':=by
 have I0:=Lib.hid (Below.refl w.heap.size w);have HL:=Lib.hid hl;have CW:=Lib.hid (fun k (hk:k<l.length) (W:World)=>whole142_any (l.getD k []) W (hm _ (by rw [List.getD_eq_getElem?_getD,List.getElem?_eq_getElem hk]; exact List.getElem_mem hk)));have HR:=Lib.hid (show hrsL l=setN l l.length from rfl);clear hl hm;go_enter Tryz.func144,Tryz.ntmps144;go_wp2_with fail
 go_loopw [3,4,5,6] (fun o i u z wi => ∃ k:Nat,k≤l.length∧i = .int .i64 k∧o = .int .i64 (setN l k:Nat)∧Below w.heap.size w wi) (fun _ i _ _ _=>l.length - (intOf i).toNat)
 case atStart=>exact⟨0,Nat.zero_le _,rfl,rfl,I0.out⟩
 case round =>
  clear I0;obtain⟨k,hk,rfl,rfl,hb⟩:=hrel;have I1:=Lib.hid hb;clear hb;by_cases hlt:k<l.length
  ·have hi:=fun w=>run_indexAt_row (w:=w) (oa:=oa) (n:=l.length) (cap:=cap) strs80 size9 (HL.out.plain (by omega)) hlt
   simp only [Nat.mul_one] at hi;have C:=Lib.hid (CW.out k hlt);have HST:=Lib.hid (show setN l (k+1)=setStep (setN l k) (wholeR (l.getD k [])) from rfl);have HC:=Lib.hid (fun W (h:Below w.heap.size w W)=>(show W.cell? ⟨blk oa,ofs oa+k,none⟩=some (.string ⟨(l.getD k []).toArray⟩) from(HL.out.grow h).at hlt));have hob:=setN_lt l k;generalize setN l k=O at *;have hvb:=valR_bd (l.getD k []);have hvw:(valR (l.getD k [])).1=wholeR (l.getD k []):=rfl;rw [hvw] at hvb;clear hvw;generalize wholeR (l.getD k [])=V at *;generalize l.getD k []=t at *;go_wp2_with fail
   go_loopw [5,6] (fun u z wi => ∃ j:Nat,j≤20∧j≤V.toNat∧z = .int .i64 j∧u = .int .i64 (2 ^ j:Nat)∧Below w.heap.size w wi) (fun _ z _=>20 - (intOf z).toNat)
   case atStart=>exact⟨0,by omega,by omega,rfl,rfl,I1.out⟩
   case round =>
    obtain⟨j,hj,hjv,rfl,rfl,hb⟩:=hrel;have I2:=Lib.hid hb;have hc:=HC.out wr hb;clear hb I1;by_cases hgo:j<20∧(j:Int)<V
    ·obtain⟨h20,hv⟩:=hgo
     obtain⟨hp1,hp2⟩:=pow_half h20;have HP:=Lib.hid hp1;have h20':(j:Int)<20:=by omega
     clear hp1;generalize hu:2 ^ j=u at *;clear hu;go_wp2_with (go_at_call 142; refine(C.out _).mono ?_; rintro e w' ⟨rfl,j2,rfl⟩);exact⟨⟨j+1,h20,by omega,by go_num,by rw [HP.out]; congr 1,below_drewN I2.out _⟩,by simp [intOf]; omega⟩
    ·have hmin:min V.toNat 20=j:=by omega
     have HU:=Lib.hid (show setStep O V=if O / 2 ^ j % 2=0 then O+2 ^ j else O from by unfold setStep; rw [hmin]);have hu0:0<2 ^ j:=Nat.two_pow_pos j;have hu1:2 ^ j≤1048576:=Nat.le_trans (Nat.pow_le_pow_right (by omega) hj) (by decide);generalize 2 ^ j=u at *;have huI:(0:Int)<u:=by omega
     have hxI:(0:Int)≤O:=by omega
     have hune:¬ u=0:=by omega
     have hdv:(0:Int)≤(O:Int) / (u:Int)∧(O:Int) / (u:Int)≤2097152:=by
      have h1:(O:Int) / (u:Int)≤O:=Int.ediv_le_self _ hxI;exact⟨Int.ediv_nonneg hxI (by omega),by omega⟩
     have hdw:IntKind.i64.wrap ((O:Int) / (u:Int))=(O:Int) / (u:Int):=IntWalk.i64_in _ (by omega);have HB:=Lib.hid (show(O:Int) / (u:Int)=((O / u:Nat):Int) from by simp);have HB2:=Lib.hid (show((O:Int) / (u:Int)).tmod 2=((O / u % 2:Nat):Int) from by rw [HB.out,Int.tmod_eq_emod_of_nonneg (by omega)]; simp);have hq1:IntKind.i64.wrap ((O:Int)+(u:Int))=(O:Int)+u:=IntWalk.i64_in _ (by omega);obtain⟨D,hD⟩:∃ D,(O:Int) / (u:Int)=D:=⟨_,rfl⟩
     rw [hD] at HB HB2 hdv hdw;have hB2:=HB2.out;clear hmin;by_cases hz:O / u % 2=0
     ·have HS2:=Lib.hid (show setN l (k+1)=O+u from by rw [HST.out,HU.out,if_pos hz])
      rw [hz] at hB2;have hB3:D.tmod 2=0:=hB2;clear hz hB2 HB HB2;by_cases hjv2:(j:Int)<V
      ·have hj20:¬ (j:Int)<20:=by omega
       clear hgo;go_wp2_with (go_at_call 142; refine(C.out _).mono ?_; rintro e w' ⟨rfl,j2,rfl⟩);exact⟨⟨k+1,hlt,by go_num,by rw [HS2.out]; congr 1,below_drewN I2.out _⟩,by simp [intOf]; omega⟩
      ·clear hgo
       go_wp2_with (go_at_call 142; refine(C.out _).mono ?_; rintro e w' ⟨rfl,j2,rfl⟩);exact⟨⟨k+1,hlt,by go_num,by rw [HS2.out]; congr 1,below_drewN I2.out _⟩,by simp [intOf]; omega⟩
     ·have HS2:=Lib.hid (show setN l (k+1)=O from by rw [HST.out,HU.out,if_neg hz])
      have h1:O / u % 2=1:=by omega
      rw [h1] at hB2;have hB3:D.tmod 2=1:=hB2;clear hz h1 hB2 HB HB2;by_cases hjv2:(j:Int)<V
      ·have hj20:¬ (j:Int)<20:=by omega
       clear hgo;go_wp2_with (go_at_call 142; refine(C.out _).mono ?_; rintro e w' ⟨rfl,j2,rfl⟩);exact⟨⟨k+1,hlt,by go_num,by rw [HS2.out],below_drewN I2.out _⟩,by simp [intOf]; omega⟩
      ·clear hgo
       go_wp2_with (go_at_call 142; refine(C.out _).mono ?_; rintro e w' ⟨rfl,j2,rfl⟩);exact⟨⟨k+1,hlt,by go_num,by rw [HS2.out],below_drewN I2.out _⟩,by simp [intOf]; omega⟩
  ·obtain rfl:k=l.length:=by omega
   have B2:=Lib.hid (show Ending.returned (.int .i64 (setN l l.length:Nat)) = .returned (.int .i64 (hrsL l:Nat)) from by rw [HR.out]);generalize setN l l.length=O at *;go_wp2_with fail;go_ret;exact⟨B2.out,I1.out⟩
structure RowD where
 (E z n:Nat) (v:Value) (xs:List Value)
def RowD.At(s1:Nat)(W:World)(d:RowD):Prop:=W.ownsRow s1 d.E d.z d.v d.n d.xs
structure RdS (w:World) (la:Option Addr) (ls:List (List UInt8)) (s1:Nat) (bt:TypeId) (rb ob:Array Value) (R:List RowD) (W:World):Prop where
 bel:Below w.heap.size w W
 lr:StrsAt W la ls
 ll:0<ls.length→w.heap.size+2≤blk la∧blk la<s1
 r:BoxAt W w.heap.size rb bt
 ow:BoxAt W (w.heap.size+1) ob bt
 rows:∀ d,d ∈ R→d.At s1 W
 size:s1≤W.heap.size
 low:w.heap.size+2≤s1
structure PAt (s1:Nat) (pa:Option Addr) (p:List (List UInt8)) (R:List RowD) (W:World):Prop where
 row:StrsAt W pa p
 lo:0<p.length→s1≤blk pa
 ne:0<p.length → ∀ d,d ∈ R→d.v.ownBlock≠some (blk pa)
section
variable {w W W2:World} {la pa:Option Addr} {ls p:List (List UInt8)} {s1:Nat} {bt:TypeId} {rb ob:Array Value} {R R':List RowD}
theorem RdS.grow(h:RdS w la ls s1 bt rb ob R W)(hb:Below W.heap.size W W2):RdS w la ls s1 bt rb ob R W2 :=
 ⟨h.bel.next hb,h.lr.grow hb,h.ll,h.r.grow hb,h.ow.grow hb,fun d hd=>own_growN (h.rows d hd) hb,Nat.le_trans h.size hb.size,h.low⟩
theorem PAt.grow(h:PAt s1 pa p R W)(hb:Below W.heap.size W W2):PAt s1 pa p R W2:=⟨h.row.grow hb,h.lo,h.ne⟩
theorem PAt.new(h:RdS w la ls s1 bt rb ob R W)(hp:StrsAt W2 pa p)(hn:0<p.length→W.heap.size≤blk pa):PAt s1 pa p R W2 :=
 ⟨hp,fun h0=>Nat.le_trans h.size (hn h0),fun h0 d hd e=>by have:=((h.rows d hd).lt _ e).2; have:=hn h0; omega⟩
theorem RdS.next(h:RdS w la ls s1 bt rb ob R W){d d':RowD}(hd:d ∈ R)(hg:W.grownBy W2 d.v.ownBlock)(hw:d'.At s1 W2)(hR:∀ e,e ∈ R'→e=d'∨(e ∈ R∧e.E≠d.E))(i:Nat) :
  RdS w la ls s1 bt rb (ob.setIfInBounds i d'.v) R' (W2.setCell ⟨w.heap.size+1,i,none⟩ d'.v):=by
 have kg:=keep_grown hg;have ks:Keep (fun k=>k≠w.heap.size+1) W2 (W2.setCell ⟨w.heap.size+1,i,none⟩ d'.v):=(Keep.refl _ W2).set _ i _ (fun h=>h rfl);have lo:=h.low;have hs:=h.size;have hdr:=h.rows d hd;have ne:∀ k,k<s1→some k≠d.v.ownBlock:=fun k hk e=>by have:=(hdr.lt k e.symm).1; omega
 refine⟨?_,?_,h.ll,?_,?_,fun e he=>?_,?_,lo⟩
 ·exact Below.setCell (h.bel.grown hg h.bel.size fun k e=>by have:=(hdr.lt k e).1; omega) (by (try dsimp only); omega) _
 ·refine Row.keep (Row.keep h.lr kg fun hn=>?_) ks fun hn=>?_
  ·have:=h.ll hn
   exact⟨by omega,ne _ this.2⟩
  ·have:=h.ll hn
   (try dsimp only); omega
 ·exact BoxAt.set (kg.box h.r ⟨by omega,ne _ (by omega)⟩) _ _ (by (try dsimp only); omega)
 ·exact BoxAt.store (kg.box h.ow ⟨by omega,ne _ (by omega)⟩) i _
 ·rcases hR e he with rfl | ⟨he,hE⟩
  ·exact ks.row hw fun g e=>by have:=(hw.lt g e).1; (try dsimp only); omega
  ·exact ks.row (kg.row (h.rows e he) fun g e2=>⟨((h.rows e he).lt g e2).2,fun e3=>own_apart (h.rows e he) hdr hE g e2 e3.symm⟩) fun g e2=>by have:=((h.rows e he).lt g e2).1; (try dsimp only); omega
 ·rw [size_setCell]
  exact Nat.le_trans hs hg.size
theorem PAt.next(hp:PAt s1 pa p R W)(h:RdS w la ls s1 bt rb ob R W){d d':RowD}(hd:d ∈ R)(hg:W.grownBy W2 d.v.ownBlock)(hor:∀ g,d'.v.ownBlock=some g→d.v.ownBlock=some g∨g=W.heap.size)(hR:∀ e,e ∈ R'→e=d'∨(e ∈ R∧e.E≠d.E))(i:Nat) :
  PAt s1 pa p R' (W2.setCell ⟨w.heap.size+1,i,none⟩ d'.v):=by
 have kg:=keep_grown hg;have ks:Keep (fun k=>k≠w.heap.size+1) W2 (W2.setCell ⟨w.heap.size+1,i,none⟩ d'.v):=(Keep.refl _ W2).set _ i _ (fun h=>h rfl);refine⟨?_,hp.lo,fun h0 e he e2=>?_⟩
 ·refine Row.keep (Row.keep hp.row kg fun hn=>⟨hp.row.old hn,fun e=>hp.ne hn d hd e.symm⟩) ks fun hn=>?_
  have:=hp.lo hn;have:=h.low
  (try dsimp only); omega
 ·rcases hR e he with rfl | ⟨he,hE⟩
  ·rcases hor _ e2 with h3 | h3
   ·exact hp.ne h0 d hd h3
   ·have:=hp.row.old h0
    omega
  ·exact hp.ne h0 e he e2
theorem RdS.put(h:RdS w la ls s1 bt rb ob R W)(i:Nat)(v:Value):RdS w la ls s1 bt rb (ob.setIfInBounds i v) R (W.setCell ⟨w.heap.size+1,i,none⟩ v):=by
 have ks:Keep (fun k=>k≠w.heap.size+1) W (W.setCell ⟨w.heap.size+1,i,none⟩ v):=(Keep.refl _ W).set _ i _ (fun h=>h rfl);have lo:=h.low;refine⟨Below.setCell h.bel (by (try dsimp only); omega) _,Row.keep h.lr ks fun hn=>?_,h.ll,BoxAt.set h.r _ _ (by (try dsimp only); omega),BoxAt.store h.ow i _,fun d hd=>ks.row (h.rows d hd) fun g e=>?_,by rw [size_setCell]; exact h.size,lo⟩
 ·have:=h.ll hn
  (try dsimp only); omega
 ·have:=((h.rows d hd).lt g e).1
  (try dsimp only); omega
theorem PAt.put(hp:PAt s1 pa p R W)(h:RdS w la ls s1 bt rb ob R W)(i:Nat)(v:Value):PAt s1 pa p R (W.setCell ⟨w.heap.size+1,i,none⟩ v):=by
 have ks:Keep (fun k=>k≠w.heap.size+1) W (W.setCell ⟨w.heap.size+1,i,none⟩ v):=(Keep.refl _ W).set _ i _ (fun h=>h rfl);exact⟨Row.keep hp.row ks fun hn=>by have:=hp.lo hn; have:=h.low; (try dsimp only); omega,hp.lo,hp.ne⟩
end
def hullD(x:HullV)(v1 v2:Value):List RowD:=[⟨142,3,x.s.length,v1,seaV x.s⟩,⟨144,4,x.u.length,v2,souV x.u⟩]
abbrev RdHull(w:World)(la:Option Addr)(ls:List (List UInt8))(s1:Nat)(x:HullV)(v1 v2:Value)(W:World):Prop:=RdS w la ls s1 25 #[.slice none 0 0,.slice none 0 0] #[v1,v2] (hullD x v1 v2) W
structure HullLen (n k:Nat) (x:HullV):Prop where
 s:x.s.length≤n
 s0:k=0→x.s = []
 u:x.u.length≤k
theorem seasN_len(x:List Sea)(p:List (List UInt8)):∀ k,(seasN x p k).length=x.length+k
 | 0=>rfl
 | k+1=>by
  show(seasN x p k ++ [_]).length=_
  rw [List.length_append,seasN_len x p k];rfl
theorem HullLen.next{n k:Nat}{x:HullV}{p:List (List UInt8)}(h:HullLen n k x)(hp:p.length≤n+1):HullLen n (k+1) (hullLn k x p):=by
 refine⟨?_,fun e=>by omega,?_⟩
 ·unfold hullLn
  dsimp only
  split
  ·rename_i e
   rw [seasN_len,h.s0 e];simp;omega
  ·exact h.s
 ·have:=h.u
  unfold hullLn;dsimp only
  split
  ·rw [List.length_append,List.length_singleton]
   omega
  ·omega
theorem fold_hull{ls:List (List UInt8)}{n:Nat}(hl:∀ l,l ∈ ls→l.length≤n):∀ k,k≤ls.length→HullLen n k (foldN hullLn ⟨[],[]⟩ ls k)
 | 0,_=>⟨Nat.zero_le _,fun _=>rfl,Nat.le_refl _⟩
 | k+1,hk=>by
  refine(fold_hull hl k (by omega)).next ?_;have:=partsF_len 32 (ls.getD k []) [];have h2:=hl (ls.getD k []) (by rw [List.getD_eq_getElem?_getD,List.getElem?_eq_getElem (by omega)]; exact List.getElem_mem _);omega
end Go.Proofs.YtclbmlmlhiiaeaaGreatDoor
