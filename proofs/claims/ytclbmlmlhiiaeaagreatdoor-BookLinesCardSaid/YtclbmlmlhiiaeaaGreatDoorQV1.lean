/- Walks: a number put behind bits, by the reference. Walks: a -/
import Derived.Test.YtclbmlmlhiiaeaaGreatDoorQA6
import Derived.Test.YtclbmlmlhiiaeaaGreatDoorQE2
namespace Go.Proofs.YtclbmlmlhiiaeaaGreatDoor
open Go.RowKit
def PutPost(l:List Bool)(w:World)(e:Ending)(w':World):Prop := ∃ oa c,e = .returned (.slice oa l.length c)∧BitsAt w' oa l∧Below w.heap.size w w'
structure PB (w:World) (oa:Option Addr) (l:List Bool) (W:World):Prop where
 bel:Below w.heap.size w W
 l:BitsAt W oa l
theorem PB.grow{w W W':World}{oa:Option Addr}{l:List Bool}(h:PB w oa l W)(hb:Below W.heap.size W W'):PB w oa l W':=⟨h.bel.next hb,h.l.grow hb⟩
theorem PB.grown{w W W':World}{oa:Option Addr}{l:List Bool}{g:Nat}(h:PB w oa l W)(hg:W.grownBy W' (some g))(h2:w.heap.size≤g)(hne:0<l.length→blk oa≠g):PB w oa l W' :=
 ⟨h.bel.grown hg h.bel.size (fun k e=>by cases e; exact h2),Row.keep h.l (C:=fun k=>k<W.heap.size∧k≠g) ⟨hg.os,hg.tape,hg.output,hg.size,fun k hk=>hg.block k hk.1 (fun e=>hk.2 (by cases e; rfl))⟩ (fun hn=>⟨h.l.old hn,hne hn⟩)⟩
theorem info3:∃ i,Tryz.prog.info? 3=some i∧i.zero=some (.int .i64 0)∧i.size=1∧i.bytes=8 :=
 ⟨(Tryz.prog.info? 3).get (by kernel_rfl),by kernel_rfl,by kernel_rfl,by kernel_rfl,by kernel_rfl⟩
theorem bitsH_at(v m k:Nat)(h:k<m):(bitsH v m).take (k+1)=(bitsH v m).take k ++ [v / 2 ^ (m - 1 - k) % 2==1]:=bitsH_take v m k h
set_option maxRecDepth 100000 in
set_option maxHeartbeats 8000000 in
theorem put_any(oa:Option Addr)(nc:Nat)(l:List Bool)(v m:Nat)(w:World)(hl:BitsAt w oa l)(hm:1≤m∧m≤8)(hv:v≤100000)(hll:l.length≤10000) :
  Calls Tryz.prog 151 #[.slice oa l.length nc,.int .i64 v,.int .i64 m] w (PutPost (l++bitsH v m) w):=by
 have I0:=Lib.hid (show PB w oa l w from⟨Below.refl _ _,hl⟩);obtain⟨m1,m8⟩:=hm;clear hl;go_enter Tryz.func151,Tryz.ntmps151;go_wp2_with fail
 go_loop [7,8] (fun u i => ∃ k:Nat,k<m∧i = .int .i64 ((k+1:Nat):Int)∧u = .int .i64 ((2 ^ k:Nat):Int)) (fun _ i=>m - (intOf i).toNat)
 case atStart=>exact⟨0,by omega,rfl,rfl⟩
 case round =>
  obtain⟨k,hk,rfl,rfl⟩:=hrel;have hp:2 ^ k≤128:=Nat.le_trans (Nat.pow_le_pow_right (by omega) (by omega:k≤7)) (by decide);have hpp:0<2 ^ k:=Nat.two_pow_pos k;have HP:=Lib.hid (Nat.pow_succ 2 k);have HZ:=Lib.hid (show 2 ^ k=2 ^ (k+1 - 1 - 0) from rfl);have hs:((k+1:Nat):Int)=(k:Int)+1:=by omega
  generalize 2 ^ k=z at *;by_cases hlt:k+1<m
  ·obtain⟨q,hq⟩:∃ q:Nat,k+1=q:=⟨_,rfl⟩
   have HQ:=Lib.hid hq;rw [hq] at hlt ⊢;clear hq hs;go_wp2_with fail;exact⟨⟨q,hlt,by go_num,by rw [← HQ.out,HP.out]; congr 1; omega⟩,by simp [intOf]; omega⟩
  ·obtain rfl:m=k+1:=by omega
   have hz0:z=2 ^ (k+1 - 1 - 0):=HZ.out;have HZ0:=Lib.hid hz0;have e1:((k+1:Nat):Int)=(k:Int)+1:=by omega
   obtain⟨m,hm⟩:∃ m,k+1=m:=⟨_,rfl⟩
   rw [hm] at HZ0 ⊢;have hmk:m≤8:=by omega
   have HM:=Lib.hid hm;clear hz0 HZ e1 HP hm hlt hs hk m1 m8;go_wp2_with fail
   go_loopw [0,7,9] (fun s u i wr => ∃ (j:Nat) (oa':Option Addr) (c':Nat),j≤m∧i = .int .i64 j∧u = .int .i64 ((2 ^ (m - 1 - j):Nat):Int)∧s = .slice oa' (l++(bitsH v m).take j).length c'∧PB w oa' (l++(bitsH v m).take j) wr) (fun _ _ i _=>m - (intOf i).toNat)
   case atStart=>exact⟨0,oa,nc,Nat.zero_le _,rfl,by rw [← HZ0.out],by simp,by simpa using I0.out⟩
   case round =>
    obtain⟨j,oa',c',hj,rfl,rfl,rfl,hi⟩:=hrel;have I1:=Lib.hid hi;clear hi I0 HZ0;by_cases hlt:j<m
    ·have HT:=Lib.hid (bitsH_at v m j hlt)
     obtain⟨L,hL⟩:∃ L,l++(bitsH v m).take j=L:=⟨_,rfl⟩
     have hLl:L.length≤10008:=by rw [← hL,List.length_append]; have:=List.length_take_le j (bitsH v m); omega
     rw [hL] at I1 ⊢;have hu0:0<2 ^ (m - 1 - j):=Nat.two_pow_pos _;have hu8:2 ^ (m - 1 - j)≤128:=Nat.le_trans (Nat.pow_le_pow_right (by omega) (by omega:m - 1 - j≤7)) (by decide);obtain⟨u,hu⟩:∃ u,2 ^ (m - 1 - j)=u:=⟨_,rfl⟩
     have HU:=Lib.hid (show max (1:Int) ((u:Int) / 2)=((2 ^ (m - 1 - (j+1)):Nat):Int) from by
      by_cases e:j+1<m
      ·have h2:2 ^ (m - 1 - j)=2 * 2 ^ (m - 1 - (j+1)):=by rw [show m - 1 - j=(m - 1 - (j+1))+1 by omega,Nat.pow_succ,Nat.mul_comm]
       have h3:0<2 ^ (m - 1 - (j+1)):=Nat.two_pow_pos _;rw [hu] at h2;generalize 2 ^ (m - 1 - (j+1))=u2 at *;subst h2;omega
      ·have h2:m - 1 - j=0:=by omega
       have h3:m - 1 - (j+1)=0:=by omega
       rw [h2] at hu;rw [h3,← hu]
       decide)
     have HB:=Lib.hid (show((v:Int) / (u:Int)) % 2=(if(v / 2 ^ (m - 1 - j) % 2==1) then 1 else 0) from by
      rw [hu];by_cases e:v / u % 2=1
      ·rw [if_pos (by rw [e]; rfl)]; omega
      ·rw [if_neg (by simpa using e)]; omega)
     rw [hu] at hu0 hu8 ⊢;obtain⟨b,hb⟩:∃ b,(v / 2 ^ (m - 1 - j) % 2==1)=b:=⟨_,rfl⟩
     rw [hb] at HT HB;obtain⟨B,hB⟩:∃ B:Int,(if b=true then(1:Int) else 0)=B:=⟨_,rfl⟩
     rw [hB] at HB;have HBB:=Lib.hid hB;have HLL:=Lib.hid hL;clear hL hu hb hB;have huI:(0:Int)<u:=by omega
     have hvI:(0:Int)≤v:=by omega
     have hune:¬ u=0:=by omega
     have hdv:(0:Int)≤(v:Int) / (u:Int)∧(v:Int) / (u:Int)≤100000:=by
      have h1:(v:Int) / (u:Int)≤v:=Int.ediv_le_self _ hvI;exact⟨Int.ediv_nonneg hvI (by omega),by omega⟩
     have hqB:=HB.out;have hdw:IntKind.i64.wrap ((v:Int) / (u:Int))=(v:Int) / (u:Int):=IntWalk.i64_in _ (by omega);obtain⟨D,hD⟩:∃ D,(v:Int) / (u:Int)=D:=⟨_,rfl⟩
     rw [hD] at hdv hqB hdw;have hqB2:D.tmod 2=B:=by rw [Int.tmod_eq_emod_of_nonneg hdv.1]; exact hqB
     have hBw:IntKind.i64.wrap B=B:=IntWalk.i64_in _ (by omega);go_upto_region 9 with (fail)
     refine wp_region_stg (S:=(fun _=>True)) (L:=[]) (D:=[]) (by kernel_rfl) (by kernel_rfl) trivial (fun e he=>by cases he) (fun hC0 hH0=>?_);have Id:=Lib.hid (I1.out.grow (Below.drew (Below.refl _ _)));clear I1;generalize World.drew wr=v0 at *;refine tkA (i:=1) (v:=?_) rfl hC0 (Or.inl ⟨by rfl,?_⟩) hH0 (fun hC1 hH1=>?_);rotate_left
     ·(intro w9 hSw; clear hSw; (go_split_ands; go_simp); (try with_reducible rfl))
     clear hC0 hH0
     try simp only [Act.put,List.setIfInBounds_toArray,List.set_cons_zero,List.set_cons_succ]
     refine tkA (i:=3) (v:=?_) rfl hC1 (Or.inl ⟨by rfl,?_⟩) hH1 (fun hC2 hH2=>?_);rotate_left
     ·(intro w9 hSw; clear hSw; (go_split_ands; go_simp); (try with_reducible rfl))
     clear hC1 hH1
     try simp only [Act.put,List.setIfInBounds_toArray,List.set_cons_zero,List.set_cons_succ]
     refine tkA (i:=4) (v:=?_) rfl hC2 (Or.inl ⟨by rfl,?_⟩) hH2 (fun hC3 hH3=>?_);rotate_left
     ·(intro w9 hSw; clear hSw; (go_split_ands; go_simp); (try with_reducible rfl))
     clear hC2 hH2
     try simp only [Act.put,List.setIfInBounds_toArray,List.set_cons_zero,List.set_cons_succ]
     refine tkA (i:=5) (v:=?_) rfl hC3 (Or.inl ⟨by rfl,?_⟩) hH3 (fun hC4 hH4=>?_);rotate_left
     ·(intro w9 hSw; clear hSw; (go_split_ands; go_simp); (try with_reducible rfl))
     clear hC3 hH3
     try simp only [Act.put,List.setIfInBounds_toArray,List.set_cons_zero,List.set_cons_succ]
     refine tkA (i:=6) (v:=?_) rfl hC4 (Or.inl ⟨by rfl,?_⟩) hH4 (fun hC5 hH5=>?_);rotate_left
     ·(intro w9 hSw; clear hSw; (go_split_ands; go_simp); (try with_reducible rfl))
     clear hC4 hH4
     try simp only [Act.put,List.setIfInBounds_toArray,List.set_cons_zero,List.set_cons_succ]
     refine wpAnyT_two (i:=0) (j:=7) (o:={dst:=some 22,op:=Op.buildSlice 26 0 #[],type:=26,pos := "ref.go:135",after:=#[],guard:=none}) (o':={dst:=some 29,op:=Op.buildSlice 26 1 #[(0,Operand.tmp 28)],type:=26,pos := "ref.go:135",after:=#[{on:=6,ground:=Ground.data}],guard:=none}) (by kernel_rfl) rfl rfl (by kernel_rfl) hC5 (fun K hK=>?_) (fun K hK=>?_)
     ·clear hC5 hH5
      have hal:=(Below.refl v0.heap.size v0).alloc (Nat.le_refl _) (.cells #[] 3);have I1:=Lib.hid (Id.out.grow hal);have X1:=Lib.hid (show BoxAt (v0.alloc (.cells #[] 3)) v0.heap.size #[] 3 from heap_alloc_new _ _);have hg1:w.heap.size≤v0.heap.size:=Id.out.bel.size;have hog1:0<L.length→blk oa'<v0.heap.size:=Id.out.l.old;go_simp;go_wp2_with fail;generalize World.alloc v0 _=v1 at *;clear hal Id;generalize v0.heap.size=g1 at *;refine hK.out _ _ ?_ (fun hC6 hH6=>?_)
      ·exact⟨trivial,fun e he=>by cases he⟩
      clear hK K
      try simp only [Act.put,List.setIfInBounds_toArray,List.set_cons_zero,List.set_cons_succ]
      refine wpAnyT_two (i:=2) (j:=7) (o:={dst:=some 24,op:=Op.call {callee:=Callee.builtin Builtin.append,args:=#[Operand.tmp 22,Operand.tmp 23],argTypes:=#[26,26]},type:=26,pos := "ref.go:135",after:=#[{on:=0,ground:=Ground.data},{on:=1,ground:=Ground.data}],guard:=none}) (o':={dst:=some 29,op:=Op.buildSlice 26 1 #[(0,Operand.tmp 28)],type:=26,pos := "ref.go:135",after:=#[{on:=6,ground:=Ground.data}],guard:=none}) (by kernel_rfl) rfl rfl (by kernel_rfl) hC6 (fun K hK=>?_) (fun K hK=>?_)
      ·clear hC6 hH6
       obtain⟨i0,hi0,hz0,hz1,hz2⟩:=info3;have hsz2:=I1.out.bel.size;refine step_app_own (w:=v1) elem3.slice hi0 hz0 hz1 hz2 (by rfl) (by decide) (by decide) (by rfl) (.tmp 22) (.tmp 23) (by rfl) (base:=w.heap.size) (g:=g1) (by rfl) X1.out (by omega) (by omega) (oa:=oa') (n:=L.length) (c:=c') (by rfl) I1.out.l (fun _ _=>rfl) (by omega) ?_;intro g2 c2 v2 hown hg hor hlt;have I2:=Lib.hid (I1.out.grown hg (by omega) (fun hn=>by have:=hog1 hn; omega));have X2:=Lib.hid hown;clear hown hg hor hlt hi0 hz0 hz1 hz2 I1 X1 hsz2;refine hK.out _ _ ?_ (fun hC7 hH7=>?_)
       ·exact⟨trivial,fun e he=>by cases he⟩
       clear hK K
       try simp only [Act.put,List.setIfInBounds_toArray,List.set_cons_zero,List.set_cons_succ]
       refine onA (i:=7) rfl hC7 (fun K hK=>?_);clear hC7 hH7;have hal:=(Below.refl v2.heap.size v2).alloc (Nat.le_refl _) (.cells #[.int .i64 B] 3);have I3:=Lib.hid (I2.out.grow hal);have Y3:=Lib.hid (show BoxAt (v2.alloc (.cells #[.int .i64 B] 3)) v2.heap.size #[.int .i64 B] 3 from heap_alloc_new _ _);have X3:=Lib.hid (own_grow X2.out hal);have hn3:g2<v2.heap.size:=(X2.out.lt g2 rfl).2;go_simp;go_wp2_with fail;generalize World.alloc v2 _=v3 at *;clear hal I2 X2;generalize v2.heap.size=h3 at *;refine hK.out _ _ ?_ (fun hC8 hH8=>?_)
       ·exact⟨trivial,fun e he=>by cases he⟩
       clear hK K
       try simp only [Act.put,List.setIfInBounds_toArray,List.set_cons_zero,List.set_cons_succ]
       refine onA (i:=8) rfl hC8 (fun K hK=>?_);clear hC8 hH8;have hsz4:=I3.out.bel.size;refine step_appOne (w:=v3) elem3 (by rfl) (.tmp 24) (.tmp 29) (by rfl) (v:=.slice (some ⟨g2,0,none⟩) L.length c2) (xs:=rowVals (fun i _=>.int .i64 (bI L i)) 1 L.length) (base:=w.heap.size) (n:=L.length) (by rfl) X3.out (b:=h3) (u:=.int .i64 B) (by rfl) Y3.out (by rfl) (by omega) hsz4 ?_;intro g4 c4 v4 hown hg hor;have B4:=Lib.hid (I3.out.bel.grown hg hsz4 (fun k e=>(X3.out.lt k e).1));have X4:=Lib.hid (bits_snoc (b:=b) rfl (by rw [HBB.out]; exact hown) (by omega));clear hown hg hor I3 X3 Y3 hsz4;refine hK.out _ _ ?_ (fun hC9 hH9=>?_)
       ·exact⟨trivial,fun e he=>by cases he⟩
       clear hK K
       try simp only [Act.put,List.setIfInBounds_toArray,List.set_cons_zero,List.set_cons_succ]
       refine tkA (i:=9) (v:=?_) rfl hC9 (Or.inl ⟨by rfl,?_⟩) hH9 (fun hC10 hH10=>?_);rotate_left
       ·(intro w9 hSw; clear hSw; (go_split_ands; go_simp); (try with_reducible rfl))
       clear hC9 hH9
       try simp only [Act.put,List.setIfInBounds_toArray,List.set_cons_zero]
       refine wpAnyT_done (by kernel_rfl) ?_ _;clear hC10 hH10 hqB hqB2 hdw hBw hdv hD;go_wp2_with fail;exact⟨⟨j+1,_,_,hlt,by go_num,by rw [HU.out],by rw [HT.out,← List.append_assoc,HLL.out,List.length_append]; rfl,⟨B4.out,by rw [HT.out,← List.append_assoc,HLL.out]; exact X4.out⟩⟩,by simp [intOf]; omega⟩
      ·clear hC6 hH6
       have hal:=(Below.refl v1.heap.size v1).alloc (Nat.le_refl _) (.cells #[.int .i64 B] 3);have I5:=Lib.hid (I1.out.grow hal);have Y5:=Lib.hid (show BoxAt (v1.alloc (.cells #[.int .i64 B] 3)) v1.heap.size #[.int .i64 B] 3 from heap_alloc_new _ _);have X5:=Lib.hid (BoxAt.grow X1.out hal);have hn5:g1<v1.heap.size:=lt_of_heap X1.out;go_simp;go_wp2_with fail;generalize World.alloc v1 _=v5 at *;clear hal I1 X1;generalize v1.heap.size=h5 at *;refine hK.out _ _ ?_ (fun hC7 hH7=>?_)
       ·exact⟨trivial,fun e he=>by cases he⟩
       clear hK K
       try simp only [Act.put,List.setIfInBounds_toArray,List.set_cons_zero,List.set_cons_succ]
       refine onA (i:=2) rfl hC7 (fun K hK=>?_);clear hC7 hH7;obtain⟨i0,hi0,hz0,hz1,hz2⟩:=info3;have hsz6:=I5.out.bel.size;refine step_app_own (w:=v5) elem3.slice hi0 hz0 hz1 hz2 (by rfl) (by decide) (by decide) (by rfl) (.tmp 22) (.tmp 23) (by rfl) (base:=w.heap.size) (g:=g1) (by rfl) X5.out (by omega) (by omega) (oa:=oa') (n:=L.length) (c:=c') (by rfl) I5.out.l (fun _ _=>rfl) (by omega) ?_;intro g6 c6 v6 hown hg hor hlt;have I6:=Lib.hid (I5.out.grown hg (by omega) (fun hn=>by have:=hog1 hn; omega));have X6:=Lib.hid hown;have hly:=lt_of_heap Y5.out;have hn6:g6≠h5:=by rcases hor with h | h <;> omega
       have Y6:=Lib.hid (BoxAt.kept Y5.out hg (fun e=>by cases e; omega));clear hly;clear hown hg hor hlt hi0 hz0 hz1 hz2 I5 X5 hsz6 Y5;refine hK.out _ _ ?_ (fun hC8 hH8=>?_)
       ·exact⟨trivial,fun e he=>by cases he⟩
       clear hK K
       try simp only [Act.put,List.setIfInBounds_toArray,List.set_cons_zero,List.set_cons_succ]
       refine onA (i:=8) rfl hC8 (fun K hK=>?_);clear hC8 hH8;have hsz7:=I6.out.bel.size;refine step_appOne (w:=v6) elem3 (by rfl) (.tmp 24) (.tmp 29) (by rfl) (v:=.slice (some ⟨g6,0,none⟩) L.length c6) (xs:=rowVals (fun i _=>.int .i64 (bI L i)) 1 L.length) (base:=w.heap.size) (n:=L.length) (by rfl) X6.out (b:=h5) (u:=.int .i64 B) (by rfl) Y6.out (by rfl) (by omega) hsz7 ?_;intro g7 c7 v7 hown hg hor;have B7:=Lib.hid (I6.out.bel.grown hg hsz7 (fun k e=>(X6.out.lt k e).1));have X7:=Lib.hid (bits_snoc (b:=b) rfl (by rw [HBB.out]; exact hown) (by omega));clear hown hg hor I6 X6 Y6 hsz7;refine hK.out _ _ ?_ (fun hC9 hH9=>?_)
       ·exact⟨trivial,fun e he=>by cases he⟩
       clear hK K
       try simp only [Act.put,List.setIfInBounds_toArray,List.set_cons_zero,List.set_cons_succ]
       refine tkA (i:=9) (v:=?_) rfl hC9 (Or.inl ⟨by rfl,?_⟩) hH9 (fun hC10 hH10=>?_);rotate_left
       ·(intro w9 hSw; clear hSw; (go_split_ands; go_simp); (try with_reducible rfl))
       clear hC9 hH9
       try simp only [Act.put,List.setIfInBounds_toArray,List.set_cons_zero]
       refine wpAnyT_done (by kernel_rfl) ?_ _;clear hC10 hH10 hqB hqB2 hdw hBw hdv hD;go_wp2_with fail;exact⟨⟨j+1,_,_,hlt,by go_num,by rw [HU.out],by rw [HT.out,← List.append_assoc,HLL.out,List.length_append]; rfl,⟨B7.out,by rw [HT.out,← List.append_assoc,HLL.out]; exact X7.out⟩⟩,by simp [intOf]; omega⟩
     ·clear hC5 hH5
      have hal:=(Below.refl v0.heap.size v0).alloc (Nat.le_refl _) (.cells #[.int .i64 B] 3);have I8:=Lib.hid (Id.out.grow hal);have Y8:=Lib.hid (show BoxAt (v0.alloc (.cells #[.int .i64 B] 3)) v0.heap.size #[.int .i64 B] 3 from heap_alloc_new _ _);go_simp;go_wp2_with fail;generalize World.alloc v0 _=v8 at *;clear hal Id;generalize v0.heap.size=h8 at *;refine hK.out _ _ ?_ (fun hC6 hH6=>?_)
      ·exact⟨trivial,fun e he=>by cases he⟩
      clear hK K
      try simp only [Act.put,List.setIfInBounds_toArray,List.set_cons_zero,List.set_cons_succ]
      refine onA (i:=0) rfl hC6 (fun K hK=>?_);clear hC6 hH6;have hal:=(Below.refl v8.heap.size v8).alloc (Nat.le_refl _) (.cells #[] 3);have I9:=Lib.hid (I8.out.grow hal);have X9:=Lib.hid (show BoxAt (v8.alloc (.cells #[] 3)) v8.heap.size #[] 3 from heap_alloc_new _ _);have hg9:w.heap.size≤v8.heap.size:=I8.out.bel.size;have hog9:0<L.length→blk oa'<v8.heap.size:=I8.out.l.old;have hn9:h8<v8.heap.size:=lt_of_heap Y8.out;have Y9:=Lib.hid (BoxAt.grow Y8.out hal);go_simp;go_wp2_with fail;generalize World.alloc v8 _=v9 at *;clear hal I8 Y8;generalize v8.heap.size=g9 at *;refine hK.out _ _ ?_ (fun hC7 hH7=>?_)
      ·exact⟨trivial,fun e he=>by cases he⟩
      clear hK K
      try simp only [Act.put,List.setIfInBounds_toArray,List.set_cons_zero,List.set_cons_succ]
      refine onA (i:=2) rfl hC7 (fun K hK=>?_);clear hC7 hH7;obtain⟨i0,hi0,hz0,hz1,hz2⟩:=info3;have hsz10:=I9.out.bel.size;refine step_app_own (w:=v9) elem3.slice hi0 hz0 hz1 hz2 (by rfl) (by decide) (by decide) (by rfl) (.tmp 22) (.tmp 23) (by rfl) (base:=w.heap.size) (g:=g9) (by rfl) X9.out (by omega) (by omega) (oa:=oa') (n:=L.length) (c:=c') (by rfl) I9.out.l (fun _ _=>rfl) (by omega) ?_;intro g10 c10 v10 hown hg hor hlt;have I10:=Lib.hid (I9.out.grown hg (by omega) (fun hn=>by have:=hog9 hn; omega));have X10:=Lib.hid hown;have hly:=lt_of_heap Y9.out;have hn10:g10≠h8:=by rcases hor with h | h <;> omega
      have Y10:=Lib.hid (BoxAt.kept Y9.out hg (fun e=>by cases e; omega));clear hly;clear hown hg hor hlt hi0 hz0 hz1 hz2 I9 X9 hsz10 Y9;refine hK.out _ _ ?_ (fun hC8 hH8=>?_)
      ·exact⟨trivial,fun e he=>by cases he⟩
      clear hK K
      try simp only [Act.put,List.setIfInBounds_toArray,List.set_cons_zero,List.set_cons_succ]
      refine onA (i:=8) rfl hC8 (fun K hK=>?_);clear hC8 hH8;have hsz11:=I10.out.bel.size;refine step_appOne (w:=v10) elem3 (by rfl) (.tmp 24) (.tmp 29) (by rfl) (v:=.slice (some ⟨g10,0,none⟩) L.length c10) (xs:=rowVals (fun i _=>.int .i64 (bI L i)) 1 L.length) (base:=w.heap.size) (n:=L.length) (by rfl) X10.out (b:=h8) (u:=.int .i64 B) (by rfl) Y10.out (by rfl) (by omega) hsz11 ?_;intro g11 c11 v11 hown hg hor;have B11:=Lib.hid (I10.out.bel.grown hg hsz11 (fun k e=>(X10.out.lt k e).1));have X11:=Lib.hid (bits_snoc (b:=b) rfl (by rw [HBB.out]; exact hown) (by omega));clear hown hg hor I10 X10 Y10 hsz11;refine hK.out _ _ ?_ (fun hC9 hH9=>?_)
      ·exact⟨trivial,fun e he=>by cases he⟩
      clear hK K
      try simp only [Act.put,List.setIfInBounds_toArray,List.set_cons_zero,List.set_cons_succ]
      refine tkA (i:=9) (v:=?_) rfl hC9 (Or.inl ⟨by rfl,?_⟩) hH9 (fun hC10 hH10=>?_);rotate_left
      ·(intro w9 hSw; clear hSw; (go_split_ands; go_simp); (try with_reducible rfl))
      clear hC9 hH9
      try simp only [Act.put,List.setIfInBounds_toArray,List.set_cons_zero]
      refine wpAnyT_done (by kernel_rfl) ?_ _;clear hC10 hH10 hqB hqB2 hdw hBw hdv hD;go_wp2_with fail;exact⟨⟨j+1,_,_,hlt,by go_num,by rw [HU.out],by rw [HT.out,← List.append_assoc,HLL.out,List.length_append]; rfl,⟨B11.out,by rw [HT.out,← List.append_assoc,HLL.out]; exact X11.out⟩⟩,by simp [intOf]; omega⟩
    ·obtain rfl:j=m:=by omega
     have HE:=Lib.hid (show(bitsH v j).take j=bitsH v j from List.take_of_length_le (by rw [bitsH_len]; exact Nat.le_refl _));rw [HE.out] at I1 ⊢;go_wp2_with fail;go_ret;exact⟨oa',c',by rw [HM.out]; rfl,by rw [HM.out]; exact I1.out.l,I1.out.bel⟩
def valH(l:List Bool):Nat:=l.foldl (fun n b=>2 * n+if b then 1 else 0) 0
theorem valH_snoc(l:List Bool)(b:Bool):valH (l ++ [b])=2 * valH l+if b then 1 else 0:=by simp [valH]
theorem valH_lt(l:List Bool):valH l<2 ^ l.length:=by
 have key:∀ (l:List Bool) (n k:Nat),n<2 ^ k→l.foldl (fun n b=>2 * n+if b then 1 else 0) n<2 ^ (k+l.length):=by
  intro l
  induction l with
  | nil=>intro n k h; exact h
  | cons b l ih =>
   intro n k h;have:=ih (2 * n+if b then 1 else 0) (k+1) (by rw [Nat.pow_succ]; split <;> omega);rw [List.length_cons,show k+(l.length+1)=k+1+l.length by omega];exact this
 have:=key l 0 0 (by decide);rw [Nat.zero_add] at this;exact this
structure EyeAt (bT base:Nat) (C:Nat→Prop) (W:World) (s:List Bool×Nat):Prop where
 old:base≤bT
 off:¬ C bT
 lt:∀ k,C k→k<W.heap.size
 all:∀ k,k<base→C k
 at_:s.2≤s.1.length
 row:∃ oa cap,BoxAt W bT #[.slice oa s.1.length cap,.int .i64 s.2] 118∧BoolsAt W oa s.1.length (fun i=>s.1.getD i false)∧(0<s.1.length → ¬ C (blk oa)∧blk oa≠bT)
theorem EyeAt.lts{bT base:Nat}{C:Nat→Prop}{W:World}{s:List Bool×Nat}(h:EyeAt bT base C W s):bT<W.heap.size:=by
 obtain⟨oa,cap,h1,-⟩:=h.row;exact lt_of_heap h1
theorem EyeAt.more{bT base:Nat}{C C':Nat→Prop}{W W2:World}{s:List Bool×Nat}(h:EyeAt bT base C W s)(hb:Below W.heap.size W W2)(hc:∀ k,C' k→C k∨(W.heap.size≤k∧k<W2.heap.size))(hc2:∀ k,C k→C' k):EyeAt bT base C' W2 s:=by
 have hl:=h.lts;obtain⟨oa,cap,h1,h2,h3⟩:=h.row;refine⟨h.old,fun e=>?_,fun k hk=>?_,fun k hk=>hc2 k (h.all k hk),h.at_,oa,cap,h1.grow hb,h2.grow hb,fun h0=>⟨fun e=>?_,(h3 h0).2⟩⟩
 ·rcases hc _ e with e | e
  ·exact h.off e
  ·omega
 ·rcases hc _ hk with e | e
  ·exact Nat.lt_of_lt_of_le (h.lt k e) hb.size
  ·exact e.2
 ·rcases hc _ e with e | e
  ·exact(h3 h0).1 e
  ·have:=h2.old h0; omega
theorem EyeAt.less{bT base:Nat}{C C':Nat→Prop}{W:World}{s:List Bool×Nat}(h:EyeAt bT base C' W s)(hc:∀ k,C k→C' k)(ha:∀ k,k<base→C k):EyeAt bT base C W s:=by
 obtain⟨oa,cap,h1,h2,h3⟩:=h.row;exact⟨h.old,fun e=>h.off (hc _ e),fun k hk=>h.lt k (hc k hk),ha,h.at_,oa,cap,h1,h2,fun h0=>⟨fun e=>(h3 h0).1 (hc _ e),(h3 h0).2⟩⟩
theorem EyeAt.client{bT base:Nat}{C:Nat→Prop}{W:World}{s:List Bool×Nat}(h:EyeAt bT base C W s)(g o:Nat)(x:Value)(hg:C g):EyeAt bT base C (W.setCell ⟨g,o,none⟩ x) s:=by
 obtain⟨oa,cap,h1,h2,h3⟩:=h.row;exact⟨h.old,h.off,fun k hk=>by rw [size_setCell]; exact h.lt k hk,h.all,h.at_,oa,cap,h1.set _ _ (fun e=>h.off (by rw [← e]; exact hg)),Row.set h2 _ _ (fun h0 e=>(h3 h0).1 (by rw [← e]; exact hg)),h3⟩
set_option maxHeartbeats 1000000 in
theorem left_any(bT:Nat)(oa:Option Addr)(n cap a:Nat)(w:World)(h:BoxAt w bT #[.slice oa n cap,.int .i64 a] 118) :
  Calls Tryz.prog 194 #[bp bT] w fun e w'=>e = .returned (.bool (decide ((a:Int)<n))) ∧ ∃ j,w'=w.drewN j:=by
 have c0:=cellAt h 0;have c1:=cellAt h 1;simp only [List.getElem?_toArray,List.getElem?_cons_zero,List.getElem?_cons_succ] at c0 c1;clear h;go_enter Tryz.func194,Tryz.ntmps194;go_wp2_with fail
 go_quiet (fail)
 go_wp2_with fail;go_ret;exact⟨ret_bool (by simp),nq,rfl⟩
structure EL (bT base:Nat) (C:Nat→Prop) (W0:World) (g:Nat) (cs:Array Value) (t:TypeId) (o b0 v:Nat) (W:World) (s:List Bool×Nat):Prop where
 eye:EyeAt bT base C W s
 keep:Keep (fun k=>C k∧k≠g) W0 W
 num:BoxAt W g (cs.setIfInBounds o (.int .i64 v)) t
 box:BoxAt W b0 #[.pointer (some ⟨bT,0,none⟩)] 120
theorem EL.grow{bT base:Nat}{C:Nat→Prop}{W0:World}{g:Nat}{cs:Array Value}{t:TypeId}{o b0 v:Nat}{W W2:World}{s:List Bool×Nat}(h:EL bT base C W0 g cs t o b0 v W s)(hb:Below W.heap.size W W2):EL bT base C W0 g cs t o b0 v W2 s :=
 ⟨h.eye.more hb (fun _ h=>.inl h) (fun _ h=>h),h.keep.trans (Keep.of_below hb (fun k hk=>h.eye.lt k hk.1)),h.num.grow hb,h.box.grow hb⟩
theorem EL.put{bT base:Nat}{C:Nat→Prop}{W0:World}{g:Nat}{cs:Array Value}{t:TypeId}{o b0 v:Nat}{W:World}{s:List Bool×Nat}(h:EL bT base C W0 g cs t o b0 v W s)(hg:C g)(hne:b0≠g)(y:Nat):EL bT base C W0 g cs t o b0 y (W.setCell ⟨g,o,none⟩ (.int .i64 y)) s :=
 ⟨h.eye.client g o _ hg,h.keep.set _ _ _ (fun e=>e.2 rfl),by have:=h.num.store o (.int .i64 y); simpa using this,h.box.set _ _ (fun e=>hne e.symm)⟩
theorem EL.next{bT base:Nat}{C:Nat→Prop}{W0:World}{g:Nat}{cs:Array Value}{t:TypeId}{o b0 v:Nat}{W:World}{l:List Bool}{a:Nat}(h:EL bT base C W0 g cs t o b0 v W (l,a))(hg:C g)(hb:C b0)(ha:a+1≤l.length):EL bT base C W0 g cs t o b0 v (W.setCell ⟨bT,1,none⟩ (.int .i64 ((a+1:Nat):Int))) (l,a+1):=by
 have hbg:bT≠g:=fun e=>h.eye.off (by rw [e]; exact hg);have hbb:bT≠b0:=fun e=>h.eye.off (by rw [e]; exact hb);obtain⟨oa,cap,h1,h2,h3⟩:=h.eye.row;refine⟨⟨h.eye.old,h.eye.off,fun k hk=>by rw [size_setCell]; exact h.eye.lt k hk,h.eye.all,ha,oa,cap,h1.store 1 _,Row.set h2 _ _ (fun h0 e=>(h3 h0).2 (by rw [← e])),h3⟩,h.keep.set _ _ _ (fun e=>h.eye.off e.1),h.num.set _ _ hbg,h.box.set _ _ hbb⟩
def eyeS(s:List Bool×Nat)(m:Nat):Option ((List Bool×Nat)×Nat) :=
 if s.2+m≤s.1.length then some ((s.1,s.2+m),valH ((s.1.drop s.2).take m)) else none
def DoPost{σ:Type}(Tp:(Nat→Prop)→World→σ→Prop)(C:Nat→Prop)(r:Option (σ×Nat))(g o:Nat)(w:World)(e:Ending)(w':World):Prop :=
 match r with
 | none=>e=err 8∧Keep (fun k=>C k∧k≠g) w w'
 | some (s,v)=>e = .returned (.tuple #[])∧Tp C w' s∧Keep C (w.setCell ⟨g,o,none⟩ (.int .i64 v)) w'
theorem take_next(l:List Bool)(a k:Nat)(h:a+k<l.length):(l.drop a).take (k+1)=(l.drop a).take k ++ [l.getD (a+k) false]:=by
 rw [List.take_add_one]
 congr 1
 rw [List.getElem?_drop,List.getD_eq_getElem?_getD];rw [List.getElem?_eq_getElem h];rfl
theorem Keep.of_set{C:Nat→Prop}{w w':World}{g o:Nat}{cs:Array Value}{t:TypeId}{x:Value}(hg:BoxAt w g cs t)(h:Keep (fun k=>C k∧k≠g) w w')(hn:BoxAt w' g (cs.setIfInBounds o x) t):Keep C (w.setCell ⟨g,o,none⟩ x) w':=by
 refine⟨h.os,h.tape,h.output,by rw [size_setCell]; exact h.size,fun k hk=>?_⟩;by_cases e:k=g
 ·subst e
  exact hn.trans (BoxAt.store hg o x).symm
 ·rw [h.block k ⟨hk,e⟩]
  exact(Below.heap_setCell w ⟨g,o,none⟩ x k e).symm
theorem slice115:Tryz.prog.underlying 115=some (.slice 4):=elem4.slice
theorem size4g:(Tryz.prog.info? 4).map (·.size)=some 1:=by kernel_rfl
set_option maxRecDepth 100000 in
set_option maxHeartbeats 4000000 in
theorem eye_any(bT base:Nat)(C:Nat→Prop)(l:List Bool)(a g o v m:Nat)(cs:Array Value)(t:TypeId)(w:World)(hp:EyeAt bT base C w (l,a))(hC:C g)(hg:BoxAt w g cs t)(hv:cs[o]? = some (.int .i64 v))(hm:m≤10)(hl:l.length≤100000) :
  Calls Tryz.prog 195 #[.agg #[.pointer (some ⟨bT,0,none⟩)],.pointer (some ⟨g,o,none⟩),.int .i64 m] w (DoPost (EyeAt bT base) C (eyeS (l,a) m) g o w):=by
 have hb0:=(Below.refl w.heap.size w).alloc (Nat.le_refl _) (.cells #[.pointer (some ⟨bT,0,none⟩)] 120);have hlt:=hp.lt;have HAT:=Lib.hid hp.at_;obtain⟨C',eC⟩:∃ C':Nat→Prop,C'=fun k=>C k∨k=w.heap.size:=⟨_,rfl⟩
 have hp1:=hp.more (C':=C') hb0 (fun k hk=>by rw [eC] at hk; rw [sizeAlloc]; rcases hk with h | h; exact .inl h; exact .inr (by omega)) (fun k hk=>by rw [eC]; exact .inl hk);have K1:=Lib.hid (Keep.of_below hb0 hlt);have HG0:=Lib.hid hg;have hg1:=hg.grow hb0
 have hos:o<cs.size:=by
  rcases Nat.lt_or_ge o cs.size with h | h
  ·exact h
  ·rw [Array.getElem?_eq_none h] at hv; cases hv
 have HC:=Lib.hid (And.intro (show C' g from by rw [eC]; exact .inl hC) (show C' w.heap.size from by rw [eC]; exact .inr rfl));have HS:=Lib.hid (show ∀ k,C k→C' k from fun k hk=>by rw [eC]; exact .inl hk);have HA:=Lib.hid hp.all;have hne:w.heap.size≠g:=by have:=hlt g hC; omega
 have hn0:∀ y:Int,(cs.setIfInBounds o (.int .i64 y))[o]? = some (.int .i64 y):=fun y=>by simp [hos]
 have HN0:=Lib.hid hn0;have HV1:=Lib.hid (show ∀ x y:Value,(cs.setIfInBounds o x).setIfInBounds o y=cs.setIfInBounds o y from fun x y=>by simp);have c0:=cellAt hg1 o;have f0:=freeAt hg1 o;have i0:=heap_alloc_new w (.cells #[.pointer (some ⟨bT,0,none⟩)] 120);rw [hv] at c0
 have I0:=Lib.hid (show EL bT base C' (w.alloc (.cells #[.pointer (some ⟨bT,0,none⟩)] 120)) g cs t o w.heap.size 0 ((w.alloc (.cells #[.pointer (some ⟨bT,0,none⟩)] 120)).setCell ⟨g,o,none⟩ (.int .i64 0)) (l,a) from
  ⟨hp1.client g o _ HC.out.1,(Keep.refl _ _).set _ _ _ (fun h=>h.2 rfl),hg1.store o _,BoxAt.set i0 _ _ (fun e=>hne e.symm)⟩)
 clear hb0 hp1 hp hlt hv hC hg hg1 i0 eC hn0;go_enter Tryz.func195,Tryz.ntmps195;go_upto_region 1 with (fail)
 generalize World.alloc _ _=W0 at *;go_wp2_with fail;generalize hZ:World.setCell W0 _ _=W1 at *;clear hZ c0 f0
 go_loopw [9] (fun i wi => ∃ k:Nat,k≤m∧i = .int .i64 k∧a+k≤l.length∧EL bT base C' W0 g cs t o w.heap.size (valH ((l.drop a).take k)) wi (l,a+k)) (fun i _=>m - (intOf i).toNat)
 case atStart=>exact⟨0,Nat.zero_le _,rfl,HAT.out,I0.out⟩
 case round =>
  clear I0;obtain⟨k,hk,rfl,hkl,h1⟩:=hrel;have I1:=Lib.hid h1;clear h1;generalize hp:a+k=p at *;have EP:=Lib.hid hp;clear hp;obtain⟨oa,cap,z0,z1,z2⟩:=I1.out.eye.row;dsimp only at z0 z1 z2;have c1:=cellAt I1.out.box 0;simp only [List.getElem?_toArray,List.getElem?_cons_zero] at c1;by_cases hlt:k<m
  ·have CL:=Lib.hid (left_any bT oa l.length cap p wr z0)
   by_cases hin:p<l.length
   ·have t0:decide ((p:Int)<l.length)=true:=decide_eq_true (by omega)
    have HTK:=Lib.hid ((by have:=take_next l a k (by have:=EP.out; omega); rw [EP.out] at this; exact this:(l.drop a).take (k+1)=(l.drop a).take k ++ [l.getD p false]));have hV:=valH_lt ((l.drop a).take k)
    have hV2:valH ((l.drop a).take k)≤1024:=by
     have h1:((l.drop a).take k).length≤10:=by rw [List.length_take]; omega
     have h2:2 ^ ((l.drop a).take k).length≤2 ^ 10:=Nat.pow_le_pow_right (by omega) h1;omega
    have HVS:=Lib.hid (fun b=>valH_snoc ((l.drop a).take k) b);generalize valH ((l.drop a).take k)=V at *;clear hV;go_wp2_with (go_at_call 194; refine CL.out.mono ?_);rintro e w2 ⟨rfl,jj,rfl⟩;rw [t0];have I2:=Lib.hid (I1.out.grow (below_drewN (Below.refl _ _) jj));clear I1 z0 z1 z2 c1 CL;generalize World.drewN wr jj=w2 at *;have n0:=cellAt I2.out.num o;have nf:=freeAt I2.out.num o;rw [HN0.out] at n0;obtain⟨X,eX⟩:∃ X,X=2 * V:=⟨_,rfl⟩
    have e2:(V:Int) * 2=(X:Int):=by omega
    have hX:X≤2048:=by omega
    have EX:=Lib.hid eX;clear eX;go_upto_region 6 with (go_at_call 62; refine(ask_true _ _).mono ?_; rintro e w' ⟨rfl,rfl⟩)
    have I3:=Lib.hid (I2.out.put HC.out.1 hne X);clear I2 n0 nf e2;generalize World.setCell _ _ _=w3 at *;obtain⟨oa,cap,z0,z1,z2⟩:=I3.out.eye.row;dsimp only at z0 z1 z2;have c1:=cellAt I3.out.box 0;have d0:=cellAt z0 0;have d1:=cellAt z0 1;have hi:=fun w=>run_indexAt_row (w:=w) (cap:=cap) slice115 size4g (z1.plain (by omega)) hin;simp only [Nat.mul_one] at hi;have hc:=z1.at hin;simp only [List.getElem?_toArray,List.getElem?_cons_zero,List.getElem?_cons_succ] at c1 d0 d1;generalize l.getD p false=b at *
    go_quiet (fail)
    have I4:=Lib.hid (I3.out.grow (below_drewN (Below.refl _ _) nq));clear I3 z0 z1 z2 c1 d0 d1 hi hc;generalize World.drewN w3 nq=w4 at *;have HP1:=Lib.hid (show((p:Int)+1)=((p+1:Nat):Int) by omega)
    cases b with
    | false =>
     have I5:=I4;have HVV:=Lib.hid (show valH ((l.drop a).take (k+1))=X from by rw [HTK.out,HVS.out,EX.out]; rfl);obtain⟨oa,cap,z0,-⟩:=I5.out.eye.row;dsimp only at z0;have c1:=cellAt I5.out.box 0;have d1:=cellAt z0 1;have df:=freeAt z0 1;simp only [List.getElem?_toArray,List.getElem?_cons_zero,List.getElem?_cons_succ] at c1 d1;have I6:=Lib.hid (I5.out.next HC.out.1 HC.out.2 (by omega));rw [← HP1.out] at I6;go_wp2_with fail;exact⟨⟨k+1,hlt,by go_num,by have:=EP.out; omega,by rw [HVV.out,show a+(k+1)=p+1 by have:=EP.out; omega]; exact I6.out⟩,by simp [intOf]; omega⟩
    | true =>
     have n0:=cellAt I4.out.num o;have nf:=freeAt I4.out.num o;rw [HN0.out] at n0;obtain⟨Y,eY⟩:∃ Y,Y=X+1:=⟨_,rfl⟩
     have e3:(X:Int)+1=(Y:Int):=by omega
     have HVV:=Lib.hid (show valH ((l.drop a).take (k+1))=Y from by rw [HTK.out,HVS.out,eY,EX.out]; rfl);clear eY;go_upto_region 8 with (fail)
     have I5:=Lib.hid (I4.out.put HC.out.1 hne Y);clear I4 n0 nf e3;generalize World.setCell _ _ _=w5 at *;obtain⟨oa,cap,z0,-⟩:=I5.out.eye.row;dsimp only at z0;have c1:=cellAt I5.out.box 0;have d1:=cellAt z0 1;have df:=freeAt z0 1;simp only [List.getElem?_toArray,List.getElem?_cons_zero,List.getElem?_cons_succ] at c1 d1;have I6:=Lib.hid (I5.out.next HC.out.1 HC.out.2 (by omega));rw [← HP1.out] at I6;go_wp2_with fail;exact⟨⟨k+1,hlt,by go_num,by have:=EP.out; omega,by rw [HVV.out,show a+(k+1)=p+1 by have:=EP.out; omega]; exact I6.out⟩,by simp [intOf]; omega⟩
   ·have t0:decide ((p:Int)<l.length)=false:=decide_eq_false (by omega)
    have HNO:=Lib.hid (show eyeS (l,a) m=none from by unfold eyeS; rw [if_neg (by have:=EP.out; dsimp only; omega)]);go_wp2_with (go_at_call 194; refine CL.out.mono ?_);rintro e w2 ⟨rfl,j,rfl⟩;rw [t0];go_wp2_with (go_at_call 62; refine(ask_false _ _).mono ?_; rintro e w' ⟨rfl,rfl⟩);have hK:Keep (fun k=>C k∧k≠g) w (wr.drewN j):=(((K1.out.mono (fun k h=>h.1)).trans (I1.out.keep.mono (fun k h=>⟨HS.out k h.1,h.2⟩))).trans ⟨rfl,rfl,rfl,Nat.le_refl _,fun _ _=>rfl⟩)
    all_goals
     refine⟨rfl,?_⟩;unfold DoPost;rw [HNO.out];exact⟨rfl,hK⟩
  ·obtain rfl:k=m:=by omega
   have HYES:=Lib.hid (show eyeS (l,a) k=some ((l,p),valH ((l.drop a).take k)) from by unfold eyeS; have:=EP.out; rw [if_pos (by dsimp only; omega)]; dsimp only; rw [this]);have hK:Keep (fun k=>C k∧k≠g) w wr:=(K1.out.mono (fun k h=>h.1)).trans (I1.out.keep.mono (fun k h=>⟨HS.out k h.1,h.2⟩));have HK:=Lib.hid (Keep.of_set HG0.out hK I1.out.num);have HE:=Lib.hid (I1.out.eye.less HS.out HA.out);clear hK z0 z1 z2 c1;go_wp2_with fail
   go_end0
   unfold DoPost;rw [HYES.out];exact⟨rfl,HE.out,HK.out⟩
structure Doer (σ:Type) (F:FuncId) (T:TypeId) (rv:Value) (base:Nat) (Tp:(Nat→Prop)→World→σ→Prop) (stp:σ→Nat→Nat→Option (σ×Nat)) (sz:σ→Nat):Prop where
 meth:∀ w,(method 364 T rv "caulkworks/book.do").run Tryz.prog w = .ok (F,rv) w
 fn:∀ a b w,(callFunc F #[rv,a,b]).run Tryz.prog w = .ok (.enter F #[rv,a,b]) w
 ahead:∀ w,(nilAhead 364 T rv "caulkworks/book.do").run Tryz.prog w = .ok (some false) w
 more:∀ {C C':Nat→Prop} {W W2:World} {s:σ},Tp C W s→Below W.heap.size W W2→(∀ k,C' k→C k∨(W.heap.size≤k∧k<W2.heap.size))→(∀ k,C k→C' k)→Tp C' W2 s
 less:∀ {C C':Nat→Prop} {W:World} {s:σ},Tp C' W s→(∀ k,C k→C' k)→(∀ k,k<base→C k)→Tp C W s
 client:∀ {C:Nat→Prop} {W:World} {s:σ} (g o:Nat) (x:Value),Tp C W s→C g→Tp C (W.setCell ⟨g,o,none⟩ x) s
 lt:∀ {C:Nat→Prop} {W:World} {s:σ},Tp C W s → ∀ k,C k→k<W.heap.size
 all:∀ {C:Nat→Prop} {W:World} {s:σ},Tp C W s → ∀ k,k<base→C k
 run:∀ {C:Nat→Prop} {W:World} {s:σ} {g o v m:Nat} {cs:Array Value} {t:TypeId},Tp C W s→C g→BoxAt W g cs t→cs[o]? = some (.int .i64 v)→m≤10→sz s≤100000 →
  Calls Tryz.prog F #[rv,.pointer (some ⟨g,o,none⟩),.int .i64 m] W (DoPost Tp C (stp s v m) g o W)
 szs:∀ {s s':σ} {v v' m:Nat},stp s v m=some (s',v')→sz s'≤sz s+m
 bd:∀ {s s':σ} {v v' m:Nat},stp s v m=some (s',v')→v'<2 ^ m∨v'=v
def penS(l:List Bool)(v m:Nat):Option (List Bool×Nat):=some (l++bitsH v m,v)
theorem set_same{cs:Array Value}{o:Nat}{x:Value}(h:cs[o]? = some x):cs.setIfInBounds o x=cs:=by
 apply Array.ext_getElem?;intro i;rw [Array.getElem?_setIfInBounds];by_cases e:o=i
 ·subst e
  rw [if_pos rfl,h];have:=(Array.getElem?_eq_some_iff.1 h).1;rw [if_pos this]
 ·rw [if_neg e]
theorem penDoer(bT base:Nat):Doer (List Bool) 196 181 (.agg #[.pointer (some ⟨bT,0,none⟩)]) base (PenAt bT base) penS (fun l=>l.length) where
 meth:=fun w=>by kernel_rfl
 fn:=fun a b w=>by kernel_rfl
 ahead:=fun w=>by kernel_rfl
 more:=fun h hb hc hc2=>h.more hb hc hc2
 less:=fun h hc ha=>h.less hc ha
 client:=fun g o x h hg=>h.client g o x hg
 lt:=fun h=>h.lt
 all:=fun h=>h.all
 run:=fun {C W s g o v m cs t} h hC hg hv hm hl=>by
  have hc:W.cell? ⟨g,o,none⟩=some (.int .i64 v):=(cellAt hg o).trans hv;refine(pen_any bT base C s g o v m W h hC hc hm hl).mono fun e w' hh=>?_;have hk:=hh.2.2;refine⟨hh.1,hh.2.1,Keep.of_set hg (hk.mono fun k h=>h.1) ?_⟩;rw [set_same hv];exact hk.box hg hC
 szs:=fun {s s' v v' m} h=>by
  unfold penS at h
  injection h with h
  injection h with h _
  rw [← h,List.length_append,bitsH_len];exact Nat.le_refl _
 bd:=fun {s s' v v' m} h=>by
  unfold penS at h
  injection h with h
  injection h with _ h
  exact .inr h.symm
theorem eyeDoer(bT base:Nat):Doer (List Bool×Nat) 195 120 (.agg #[.pointer (some ⟨bT,0,none⟩)]) base (EyeAt bT base) (fun s _ m=>eyeS s m) (fun s=>s.1.length) where
 meth:=fun w=>by kernel_rfl
 fn:=fun a b w=>by kernel_rfl
 ahead:=fun w=>by kernel_rfl
 more:=fun h hb hc hc2=>h.more hb hc hc2
 less:=fun h hc ha=>h.less hc ha
 client:=fun g o x h hg=>h.client g o x hg
 lt:=fun h=>h.lt
 all:=fun h=>h.all
 run:=fun {C W s g o v m cs t} h hC hg hv hm hl=>eye_any bT base C s.1 s.2 g o v m cs t W h hC hg hv hm hl
 szs:=fun {s s' v v' m} h=>by
  unfold eyeS at h
  split at h
  ·injection h with h
   injection h with h _
   rw [← h];exact Nat.le_add_right _ _
  ·cases h
 bd:=fun {s s' v v' m} h=>by
  unfold eyeS at h
  split at h
  ·injection h with h
   injection h with _ h
   left
   rw [← h];have:=valH_lt ((s.1.drop s.2).take m);have h2:((s.1.drop s.2).take m).length≤m:=List.length_take_le _ _;exact Nat.lt_of_lt_of_le this (Nat.pow_le_pow_right (by omega) h2)
  ·cases h
end Go.Proofs.YtclbmlmlhiiaeaaGreatDoor
