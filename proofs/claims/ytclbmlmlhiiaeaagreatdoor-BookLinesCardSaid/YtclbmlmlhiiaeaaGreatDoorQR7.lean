/- Walks: a sounding is read. Walks: the seams of a hull are re -/
import Derived.Test.YtclbmlmlhiiaeaaGreatDoorQR4
import Derived.Test.YtclbmlmlhiiaeaaGreatDoorQS1
namespace Go.Proofs.YtclbmlmlhiiaeaaGreatDoor
open Go.RowKit
theorem step_appRow{t E:TypeId}{i:TypeInfo}{z:Value}{size bytes:Nat}(he:Tryz.prog.underlying t=some (.slice E))(hi:Tryz.prog.info? E=some i)(hz:i.zero=some z)(hsz:i.size=size)(hby:i.bytes=bytes)
  (hzs:z.cells.size=size) (hs0:0<size) (hb64:bytes≤64) {ops:Array Oper} {o:Oper} {a:Act} {w:World} {K:Act→World→Prop} {Q:Exit→Act→World→Prop} {X:Prop} (hgd:o.guard=none) (s x:Operand)
  (ho:o.op = .call {callee:=.builtin .append,args:=#[s,x],argTypes:=#[t,t]}) {base n:Nat} {v:Value} {xs:List Value} (hs:a.eval s=v) (hown:w.ownsRow base E size v n xs)
  {b:Nat} {us:List Value} (hx:a.eval x = .slice (some ⟨b,0,none⟩) 1 1) (hu:BoxAt w b us.toArray E) (hus:us.length=size) (h1:∀ u ∈ us,u.oneCell'=true)
  (hlim:n≤1000000) (hbase:base≤w.heap.size)
  (h:∀ g cap w',w'.ownsRow base E size (.slice (some ⟨g,0,none⟩) (n+1) cap) (n+1) (xs++us)→w.grownBy w' v.ownBlock→(v.ownBlock=some g∨g=w.heap.size)→K (a.put o.dst (.slice (some ⟨g,0,none⟩) (n+1) cap)) w') :
  if Region.wanted o (yielded ops a.tmps)=true then Oper.wp Tryz.prog o a w K Q else X:=by
 refine step_append_lies (w:=w) hgd s x t ho base E i z size bytes he hi hz hsz hby hzs hs0 v n xs hs hown ⟨b,0,none⟩ 1 1 us hx (by rw [hus,Nat.one_mul]) ?_ h1 (by decide) (by unfold maxLen; omega) ?_ hbase _ rfl
  fun g cap w' h2 h3 h4 _=>h g cap w' h2 h3 h4
 ·intro j y hy
  have:=cellAt hu j;rw [List.getElem?_toArray,hy] at this;rw [show(⟨b,0,none⟩:Addr).add j=⟨b,j,none⟩ from by rw [Addr.add_lit,Nat.zero_add]];exact this
 ·have:(n+1) * bytes≤(n+1) * 64:=Nat.mul_le_mul_left _ hb64
  omega
theorem sl23:Tryz.prog.underlying 23=some (.slice 144):=by kernel_rfl
theorem info144:∃ i,Tryz.prog.info? 144=some i∧i.zero=some (.agg #[.int .i64 0,.int .i64 0,.int .i64 0,.int .i64 0])∧i.size=4∧i.bytes=32 :=
 ⟨(Tryz.prog.info? 144).get (by kernel_rfl),by kernel_rfl,by kernel_rfl,by kernel_rfl,by kernel_rfl⟩
def SoundPost(rb pb base:Nat)(x0 v:Value)(xs:List Value)(n:Nat)(R:Option (Sou×List UInt8))(w:World)(e:Ending)(w':World):Prop :=
 Keep (fun k=>k<w.heap.size∧k≠rb∧k≠pb∧v.ownBlock≠some k) w w'∧match R with
 | none=>e=err 8
 | some (s,r)=>e = .returned (.tuple #[])∧RdAt w' rb r ∧ ∃ v',BoxAt w' pb #[x0,v'] 25∧w'.ownsRow base 144 4 v' (n+1) (xs ++ [.int .i64 s.d,.int .i64 s.l,.int .i64 s.lo,.int .i64 s.hi])∧(∀ g,v'.ownBlock=some g→v.ownBlock=some g∨w.heap.size≤g)
theorem OffR.four{rb pb:Nat}{v:Value}{w w':World}(h:OffR rb w w'):Keep (fun k=>k<w.heap.size∧k≠rb∧k≠pb∧v.ownBlock≠some k) w w' :=
 Keep.mono h fun _ hk=>⟨hk.1,hk.2.1⟩
set_option maxRecDepth 100000 in
set_option maxHeartbeats 4000000 in
theorem sound97_any(rb pb base:Nat)(x0 v:Value)(xs:List Value)(n:Nat)(t:List UInt8)(w:World)(h:RdAt w rb t)(hp:BoxAt w pb #[x0,v] 25)(hne:pb≠rb)
  (hrb:v.ownBlock≠some rb) (hpb:v.ownBlock≠some pb) (hbase:base≤w.heap.size) (hv:w.ownsRow base 144 4 v n xs) (hn:n≤1000000) (hl:t.length≤2000) :
  Calls Tryz.prog 97 #[bp pb,bp rb] w (SoundPost rb pb base x0 v xs n (soundP t) w):=by
 have HS:=Lib.hid (show soundP t=(match numP t with
  | none=>none
  | some (d,t1)=>if Lib.hasPrefix t1 [32] then
    match numP (t1.drop 1) with
    | none=>none
    | some (l,t2)=>if Lib.hasPrefix t2 [32] then
      match spanP (t2.drop 1) with
      | none=>none
      | some ((lo,hi),t3)=>some (⟨d,l,lo,hi⟩,t3)
     else none
   else none) from rfl)
 have C0:=Lib.hid (number94_any rb t w h hl);have P0:=Lib.hid hp;have V0:=Lib.hid hv;clear h hp hv;go_enter Tryz.func97,Tryz.ntmps97;go_wp2_with fail;refine C0.out.mono ?_;intro e w1 hpost;obtain⟨ho,hh⟩:=hpost
 cases hr:numP t with
 | none =>
  rw [hr] at hh;dsimp only at hh;subst hh;simp only [err];exact⟨rfl,ho.four,by rw [HS.out,hr]; rfl⟩
 | some p =>
 obtain⟨d,t1⟩:=p;rw [hr] at hh HS;obtain⟨he,hrd⟩:=hh;subst he;dsimp only at HS;have hl1:=numP_shorter hr;have hal:=(Below.refl w1.heap.size w1).alloc (Nat.le_refl _) (.cells #[.int .i64 d,.int .i64 0,.int .i64 0,.int .i64 0] 144);have O2:=Lib.hid (ho.trans (OffR.below hal));have S2:=Lib.hid (show BoxAt (w1.alloc (.cells #[.int .i64 d,.int .i64 0,.int .i64 0,.int .i64 0] 144)) w1.heap.size #[.int .i64 d,.int .i64 0,.int .i64 0,.int .i64 0] 144 from heap_alloc_new _ _);have R2:=Lib.hid (show RdAt (w1.alloc (.cells #[.int .i64 d,.int .i64 0,.int .i64 0,.int .i64 0] 144)) rb t1 from BoxAt.grow hrd hal);have hs1:w.heap.size≤w1.heap.size:=ho.size;have hrl:rb<w1.heap.size:=lt_of_heap hrd;clear ho hrd hal C0 hr;go_upto_region 1 with (fail)
 generalize World.alloc w1 _=w2 at *;have C2:=Lib.hid (word_any rb t1 [32] w2 R2.out);go_wp2_with fail;refine C2.out.mono ?_;intro e w3 hpost;obtain⟨ho,hh⟩:=hpost
 cases hp1:Lib.hasPrefix t1 [32] with
 | false =>
  rw [hp1] at hh;have he:e=err 8:=hh;subst he;simp only [err];exact⟨rfl,(O2.out.trans ho).four,by rw [HS.out,hp1]; rfl⟩
 | true =>
 rw [hp1] at hh;obtain⟨he,hrd⟩:=(show e = .returned (.tuple #[])∧RdAt w3 rb (t1.drop 1) from hh)
 subst he
 have HS1:=Lib.hid (show soundP t=(match numP (t1.drop 1) with
    | none=>none
    | some (l,t2)=>if Lib.hasPrefix t2 [32] then
      match spanP (t2.drop 1) with
      | none=>none
      | some ((lo,hi),t3)=>some (⟨d,l,lo,hi⟩,t3)
     else none) from by rw [HS.out,hp1]; rfl)
 have hd1:(t1.drop 1).length≤2000:=by rw [List.length_drop]; omega
 have O3:=Lib.hid (O2.out.trans ho);have S3:=Lib.hid (ho.box S2.out (by omega));have C3:=Lib.hid (number94_any rb (t1.drop 1) w3 hrd hd1);clear ho hh hrd hp1 HS C2 R2 S2 O2;go_upto_region 2 with (fail)
 go_wp2_with fail;refine C3.out.mono ?_;intro e w4 hpost;obtain⟨ho,hh⟩:=hpost
 cases hr:numP (t1.drop 1) with
 | none =>
  rw [hr] at hh;dsimp only at hh;subst hh;simp only [err];exact⟨rfl,(O3.out.trans ho).four,by rw [HS1.out,hr]; rfl⟩
 | some p =>
 obtain⟨l,t2⟩:=p;rw [hr] at hh HS1;obtain⟨he,hrd⟩:=hh;subst he;dsimp only at HS1;have hl2:=numP_shorter hr;have S4:=Lib.hid (ho.box S3.out (by omega));have O4:=Lib.hid ((O3.out.trans ho).other w1.heap.size 1 (.int .i64 l) hs1);have S5:=Lib.hid (show BoxAt (w4.setCell ⟨w1.heap.size,1,none⟩ (.int .i64 l)) w1.heap.size #[.int .i64 d,.int .i64 l,.int .i64 0,.int .i64 0] 144 from BoxAt.store S4.out 1 _);have R5:=Lib.hid (show RdAt (w4.setCell ⟨w1.heap.size,1,none⟩ (.int .i64 l)) rb t2 from BoxAt.set hrd _ _ (by dsimp only; omega));have s1:=cellAt S4.out 1;have sf:=freeAt S4.out 1;simp only [List.getElem?_toArray,List.getElem?_cons_zero,List.getElem?_cons_succ] at s1;clear ho hrd hr C3 S3 O3;go_upto_region 3 with (fail)
 generalize World.setCell w4 _ _=w5 at *;clear s1 sf S4;have C5:=Lib.hid (word_any rb t2 [32] w5 R5.out);go_wp2_with fail;refine C5.out.mono ?_;intro e w6 hpost;obtain⟨ho,hh⟩:=hpost
 cases hp2:Lib.hasPrefix t2 [32] with
 | false =>
  rw [hp2] at hh;have he:e=err 8:=hh;subst he;simp only [err];exact⟨rfl,(O4.out.trans ho).four,by rw [HS1.out,hp2]; rfl⟩
 | true =>
 rw [hp2] at hh;obtain⟨he,hrd⟩:=(show e = .returned (.tuple #[])∧RdAt w6 rb (t2.drop 1) from hh)
 subst he
 have HS2:=Lib.hid (show soundP t=(match spanP (t2.drop 1) with
      | none=>none
      | some ((lo,hi),t3)=>some (⟨d,l,lo,hi⟩,t3)) from by rw [HS1.out,hp2]; rfl)
 have hd2:(t2.drop 1).length≤2000:=by rw [List.length_drop] at *; omega
 have O6:=Lib.hid (O4.out.trans ho);have S6:=Lib.hid (ho.box S5.out (by omega));have C6:=Lib.hid (span99_any rb (t2.drop 1) w6 hrd hd2);clear ho hh hrd hp2 HS1 C5 R5 S5 O4;go_upto_region 4 with (fail)
 go_wp2_with fail;refine C6.out.mono ?_;intro e w7 hpost;obtain⟨ho,hh⟩:=hpost
 cases hr:spanP (t2.drop 1) with
 | none =>
  rw [hr] at hh;dsimp only at hh;subst hh;simp only [err];exact⟨rfl,(O6.out.trans ho).four,by rw [HS2.out,hr]; rfl⟩
 | some p =>
 obtain⟨⟨lo,hi⟩,t3⟩:=p;rw [hr] at hh HS2;obtain⟨he,hrd⟩:=hh;subst he;dsimp only at HS2;have S7:=Lib.hid (ho.box S6.out (by omega));have O7:=Lib.hid (O6.out.trans ho);have R7:=Lib.hid hrd;have s2:=cellAt S7.out 2;have s3:=cellAt S7.out 3;have sf2:=freeAt S7.out 2;have sf3:=freeAt S7.out 3;simp only [List.getElem?_toArray,List.getElem?_cons_zero,List.getElem?_cons_succ] at s2 s3;clear ho hrd hr C6 S6 O6;go_upto_region 5 with (fail)
 have O8:=Lib.hid ((O7.out.other w1.heap.size 2 (.int .i64 lo) hs1).other w1.heap.size 3 (.int .i64 hi) hs1);have R8:=Lib.hid (BoxAt.set (BoxAt.set R7.out ⟨w1.heap.size,2,none⟩ (.int .i64 lo) (by dsimp only; omega)) ⟨w1.heap.size,3,none⟩ (.int .i64 hi) (by dsimp only; omega));have S8:=Lib.hid (show BoxAt ((w7.setCell ⟨w1.heap.size,2,none⟩ (.int .i64 lo)).setCell ⟨w1.heap.size,3,none⟩ (.int .i64 hi)) w1.heap.size #[.int .i64 d,.int .i64 l,.int .i64 lo,.int .i64 hi] 144 from(S7.out.store 2 _).store 3 _);have hpw:=lt_of_heap P0.out;have P8:=Lib.hid (O8.out.box P0.out hne);have V8:=Lib.hid (O8.out.row V0.out hrb);have hvw:=V0.out.lt;have hs8:=O8.out.size;have K8:=Lib.hid (OffR.four (pb:=pb) (v:=v) O8.out);generalize World.setCell (World.setCell w7 _ _) _ _=w8 at *;clear s2 s3 sf2 sf3 S7 O7 R7 P0 V0 O8;refine wp_region_stg (S:=(fun _=>True)) (L:=[(10,(fun w':World=>w'.cell? ⟨pb,1,none⟩=some v∧w'.cell? ⟨w1.heap.size,0,none⟩=some (.int .i64 d)∧w'.cell? ⟨w1.heap.size,1,none⟩=some (.int .i64 l)∧w'.cell? ⟨w1.heap.size,2,none⟩=some (.int .i64 lo)∧w'.cell? ⟨w1.heap.size,3,none⟩=some (.int .i64 hi)))]) (D:=[(10,4),(10,5)]) (by kernel_rfl) (by kernel_rfl) trivial (by intro e he; simp only [List.mem_cons,List.mem_nil_iff,or_false] at he; subst he; exact⟨cellAt P8.out 1,cellAt S8.out 0,cellAt S8.out 1,cellAt S8.out 2,cellAt S8.out 3⟩) (fun hC0 hH0=>?_);have Pd:=Lib.hid (show BoxAt w8.drew pb #[x0,v] 25 from P8.out);have Sd:=Lib.hid (show BoxAt w8.drew w1.heap.size #[.int .i64 d,.int .i64 l,.int .i64 lo,.int .i64 hi] 144 from S8.out);have Rd:=Lib.hid (show RdAt w8.drew rb t3 from R8.out);have Vd:=Lib.hid (V8.out.drew);have hk0:Keep (fun k=>k<w.heap.size∧k≠rb∧k≠pb∧v.ownBlock≠some k) w8 w8.drew:=⟨rfl,rfl,rfl,Nat.le_refl _,fun _ _=>rfl⟩
 have Kd:=Lib.hid (K8.out.trans hk0);have hsd:w.heap.size≤w8.drew.heap.size:=hs8;generalize World.drew w8=wd at *;clear P8 S8 R8 V8 K8 hk0 hs8;refine tkA (i:=0) (v:=?_) rfl hC0 (Or.inl ⟨by rfl,?_⟩) hH0 (fun hC1 hH1=>?_);rotate_left
 ·(intro w9 hSw; obtain⟨hSw,hLw⟩:=hSw; clear hLw; (try dsimp only at hSw); (go_split_ands; go_simp); (try with_reducible rfl))
 clear hC0 hH0
 try simp only [Act.put,List.setIfInBounds_toArray,List.set_cons_zero,List.set_cons_succ]
 refine tkA (i:=1) (v:=?_) rfl hC1 (Or.inl ⟨by rfl,?_⟩) hH1 (fun hC2 hH2=>?_);rotate_left
 ·(intro w9 hSw; obtain⟨hSw,hLw⟩:=hSw; clear hLw; (try dsimp only at hSw); (go_split_ands; go_simp); (try with_reducible rfl))
 clear hC1 hH1
 try simp only [Act.put,List.setIfInBounds_toArray,List.set_cons_zero,List.set_cons_succ]
 refine tkA (i:=2) (v:=?_) rfl hC2 (Or.inl ⟨by rfl,?_⟩) hH2 (fun hC3 hH3=>?_);rotate_left
 ·(intro w9 hSw; obtain⟨hSw,hLw⟩:=hSw; clear hLw; (try dsimp only at hSw); (go_split_ands; go_simp); (try with_reducible rfl))
 clear hC2 hH2
 try simp only [Act.put,List.setIfInBounds_toArray,List.set_cons_zero,List.set_cons_succ]
 refine tkA (i:=3) (v:=?_) rfl hC3 (Or.inl ⟨by rfl,?_⟩) hH3 (fun hC4 hH4=>?_);rotate_left
 ·(intro w9 hSw; obtain⟨hSw,hLw⟩:=hSw; clear hLw; (try dsimp only at hSw); (go_split_ands; go_simp); (try with_reducible rfl))
 clear hC3 hH3
 try simp only [Act.put,List.setIfInBounds_toArray,List.set_cons_zero,List.set_cons_succ]
 refine tkA (i:=4) (v:=?_) rfl hC4 (Or.inl ⟨by rfl,?_⟩) hH4 (fun hC5 hH5=>?_);rotate_left
 ·(intro w9 hSw; obtain⟨hSw,hLw⟩:=hSw; have hl10:=hLw _ List.mem_cons_self rfl; dsimp only at hl10; clear hLw; (try dsimp only at hSw); (go_split_ands; go_simp); (try with_reducible rfl))
 clear hC4 hH4
 try simp only [Act.put,List.setIfInBounds_toArray,List.set_cons_zero,List.set_cons_succ]
 refine tkA (i:=5) (v:=?_) rfl hC5 (Or.inl ⟨by rfl,?_⟩) hH5 (fun hC6 hH6=>?_);rotate_left
 ·(intro w9 hSw; obtain⟨hSw,hLw⟩:=hSw; have hl10:=hLw _ List.mem_cons_self rfl; dsimp only at hl10; clear hLw; (try dsimp only at hSw); (go_split_ands; go_simp); (try with_reducible rfl))
 clear hC5 hH5
 try simp only [Act.put,List.setIfInBounds_toArray,List.set_cons_zero,List.set_cons_succ]
 refine onA (i:=6) rfl hC6 (fun K hK=>?_);clear hC6 hH6;have hal:=(Below.refl wd.heap.size wd).alloc (Nat.le_refl _) (.cells #[.int .i64 d,.int .i64 l,.int .i64 lo,.int .i64 hi] 144);have P9:=Lib.hid (show BoxAt (wd.alloc (.cells #[.int .i64 d,.int .i64 l,.int .i64 lo,.int .i64 hi] 144)) pb #[x0,v] 25 from BoxAt.grow Pd.out hal);have S9:=Lib.hid (show BoxAt (wd.alloc (.cells #[.int .i64 d,.int .i64 l,.int .i64 lo,.int .i64 hi] 144)) w1.heap.size #[.int .i64 d,.int .i64 l,.int .i64 lo,.int .i64 hi] 144 from BoxAt.grow Sd.out hal);have R9:=Lib.hid (show RdAt (wd.alloc (.cells #[.int .i64 d,.int .i64 l,.int .i64 lo,.int .i64 hi] 144)) rb t3 from BoxAt.grow Rd.out hal);have V9:=Lib.hid (Vd.out.alloc (.cells #[.int .i64 d,.int .i64 l,.int .i64 lo,.int .i64 hi] 144));have B9:=Lib.hid (show BoxAt (wd.alloc (.cells #[.int .i64 d,.int .i64 l,.int .i64 lo,.int .i64 hi] 144)) wd.heap.size #[.int .i64 d,.int .i64 l,.int .i64 lo,.int .i64 hi] 144 from heap_alloc_new _ _);have K9:=Lib.hid (Kd.out.trans (Keep.of_below hal fun k (hk:k<w.heap.size∧k≠rb∧k≠pb∧v.ownBlock≠some k)=>Nat.lt_of_lt_of_le hk.1 hsd));have hs9:w.heap.size≤(wd.alloc (.cells #[.int .i64 d,.int .i64 l,.int .i64 lo,.int .i64 hi] 144)).heap.size:=Nat.le_trans hsd hal.size;go_simp;go_wp2_with fail;generalize World.alloc wd _=w9 at *;clear Pd Rd Vd Kd Sd hal;refine hK.out _ _ ?_ (fun hC7 hH7=>?_)
 ·exact⟨trivial,fun e he _=>by simp only [List.mem_cons,List.mem_nil_iff,or_false] at he; subst he; exact⟨cellAt P9.out 1,cellAt S9.out 0,cellAt S9.out 1,cellAt S9.out 2,cellAt S9.out 3⟩⟩
 clear hK K
 try simp only [Act.put,List.setIfInBounds_toArray,List.set_cons_zero,List.set_cons_succ]
 refine onA (i:=7) rfl hC7 (fun K hK=>?_);clear hC7 hH7;obtain⟨i0,hi0,hz0,hz1,hz2⟩:=info144;refine step_appRow (w:=w9) sl23 hi0 hz0 hz1 hz2 (by rfl) (by decide) (by decide) (by rfl) (.tmp 22) (.tmp 24) (by rfl) (v:=v) (xs:=xs) (base:=base) (n:=n) (by rfl) V9.out (b:=wd.heap.size) (us:=[.int .i64 d,.int .i64 l,.int .i64 lo,.int .i64 hi]) (by rfl) B9.out (by rfl) (by intro u hu; simp only [List.mem_cons,List.mem_nil_iff,or_false] at hu; rcases hu with rfl | rfl | rfl | rfl <;> rfl) hn (Nat.le_trans hbase hs9) ?_;intro g cap wA hw hg hor;have hpv:(some pb:Option Nat)≠v.ownBlock:=fun e=>hpb e.symm;have hrv:(some rb:Option Nat)≠v.ownBlock:=fun e=>hrb e.symm;have hsv:(some w1.heap.size:Option Nat)≠v.ownBlock:=fun e=>by have:=(hvw _ e.symm).2; omega
 have PA:=Lib.hid (P9.out.kept hg hpv);have SA:=Lib.hid (S9.out.kept hg hsv);have RA:=Lib.hid (show RdAt wA rb t3 from BoxAt.kept R9.out hg hrv);have KA:=Lib.hid (K9.out.trans (⟨hg.os,hg.tape,hg.output,hg.size,fun k (hk:k<w.heap.size∧k≠rb∧k≠pb∧v.ownBlock≠some k)=>hg.block k (Nat.lt_of_lt_of_le hk.1 hs9) (fun e=>hk.2.2.2 e.symm)⟩));have VA:=Lib.hid hw;clear hw hg hpv hrv hsv P9 R9 K9 V9 B9 S9;refine hK.out _ _ ?_ (fun hC8 hH8=>?_)
 ·exact⟨trivial,fun e he _=>by simp only [List.mem_cons,List.mem_nil_iff,or_false] at he; subst he; exact⟨cellAt PA.out 1,cellAt SA.out 0,cellAt SA.out 1,cellAt SA.out 2,cellAt SA.out 3⟩⟩
 clear hK K
 try simp only [Act.put,List.setIfInBounds_toArray,List.set_cons_zero,List.set_cons_succ]
 refine tkA (i:=8) (v:=?_) rfl hC8 (Or.inl ⟨by rfl,?_⟩) hH8 (fun hC9 hH9=>?_);rotate_left
 ·(intro w9 hSw; obtain⟨hSw,hLw⟩:=hSw; clear hLw; (try dsimp only at hSw); (go_split_ands; go_simp); (try with_reducible rfl))
 clear hC8 hH8
 try simp only [Act.put,List.setIfInBounds_toArray,List.set_cons_zero,List.set_cons_succ]
 refine tkA (i:=9) (v:=?_) rfl hC9 (Or.inl ⟨by rfl,?_⟩) hH9 (fun hC10 hH10=>?_);rotate_left
 ·(intro w9 hSw; obtain⟨hSw,hLw⟩:=hSw; clear hLw; (try dsimp only at hSw); (go_split_ands; go_simp); (try with_reducible rfl))
 clear hC9 hH9
 try simp only [Act.put,List.setIfInBounds_toArray,List.set_cons_zero,List.set_cons_succ]
 refine onA (i:=10) rfl hC10 (fun K hK=>?_);clear hC10 hH10;have c0:=cellAt PA.out 1;have f0:=freeAt PA.out 1;simp only [List.getElem?_toArray,List.getElem?_cons_zero,List.getElem?_cons_succ] at c0;go_simp;go_wp2_with fail;refine hK.out _ _ ?_ (fun hC11 hH11=>?_)
 ·exact⟨trivial,fun e he h=>by simp only [List.mem_cons,List.mem_nil_iff,or_false] at he; subst he; exact absurd h (by intro hx; exact Bool.false_ne_true (hx.symm.trans (by kernel_rfl)))⟩
 clear hK K
 try simp only [Act.put]
 refine wpAnyT_done (by kernel_rfl) ?_ _;clear hC11 hH11
 go_end0
 have hsp:OffR pb wA (wA.setCell ⟨pb,1,none⟩ (.slice (some ⟨g,0,none⟩) (n+1) cap)):=Keep.set (Keep.refl _ _) _ _ _ (fun h=>h.2 rfl);unfold SoundPost;rw [HS2.out]
 exact⟨Keep.set KA.out _ _ _ (fun hh=>hh.2.2.1 rfl),rfl,BoxAt.set RA.out _ _ hne,_,BoxAt.store PA.out 1 _,hsp.row VA.out (fun e=>by cases e; rcases hor with h | h; exact hpb h; exact absurd (Nat.lt_of_lt_of_le hpw (Nat.le_trans hs9 (Nat.le_of_eq h.symm))) (Nat.lt_irrefl _)),fun g' e=>by
  cases e
  rcases hor with h | h
  ·exact .inl h
  ·exact .inr (Nat.le_trans hs9 (Nat.le_of_eq h.symm))⟩
theorem sl22:Tryz.prog.underlying 22=some (.slice 142):=by kernel_rfl
theorem info142:∃ i,Tryz.prog.info? 142=some i∧i.zero=some (.agg #[.int .i64 0,.int .i64 0,.int .i64 0])∧i.size=3∧i.bytes=24 :=
 ⟨(Tryz.prog.info? 142).get (by kernel_rfl),by kernel_rfl,by kernel_rfl,by kernel_rfl,by kernel_rfl⟩
def seaV:List Sea→List Value
 | []=>[]
 | x::l=>.int .i64 x.h :: .int .i64 x.s :: .int .i64 x.m::seaV l
theorem seaV_snoc(x:Sea):∀ l:List Sea,seaV (l ++ [x])=seaV l ++ [.int .i64 x.h,.int .i64 x.s,.int .i64 x.m]
 | []=>rfl
 | y::l=>by
  show _::_::_::seaV (l ++ [x])=_
  rw [seaV_snoc x l];rfl
theorem Sides.keep{C:Nat→Prop}{w w':World}(h:Sides w)(hk:Keep C w w')(h0:C 0):Sides w':=by
 obtain⟨g,hg⟩:=Option.isSome_iff_exists.1 globalSides
 have e:g=0:=by
  have h1:Tryz.prog.globalNamed "caulkworks/book.sides" = some 0:=by kernel_rfl
  rw [h1] at hg
  cases hg
  rfl
 subst e;exact var?_below (hk.to_below (B:=1) (fun k hk=>(show k=0 by omega) ▸ h0)) hg (by decide) h
def seamP(t:List UInt8):Option (Sea×List UInt8) :=
 match numP t with
 | none=>none
 | some (h,t1)=>match sideP t1 with
  | none=>none
  | some (s,t2)=>match numP t2 with
   | none=>none
   | some (m,t3)=>some (⟨h,s,m⟩,t3)
theorem seamsP_step(k:Nat)(t:List UInt8)(l:List Sea)(h:Lib.hasPrefix t [32]=true):seamsP (k+1) t l=match seamP (t.drop 1) with | none=>none | some (x,r)=>seamsP k r (l ++ [x]):=by
 unfold seamP;simp only [seamsP];rw [if_pos h]
 cases numP (t.drop 1) with
 | none=>rfl
 | some p =>
  obtain⟨a,t1⟩:=p;dsimp only
  cases sideP t1 with
  | none=>rfl
  | some p =>
   obtain⟨b,t2⟩:=p;dsimp only
   cases numP t2 with
   | none=>rfl
   | some p=>rfl
theorem seamsP_end(k:Nat)(t:List UInt8)(l:List Sea)(h:Lib.hasPrefix t [32]=false):seamsP k t l=some (l,t):=by
 cases k with
 | zero=>rfl
 | succ k=>simp only [seamsP]; rw [h]; rfl
theorem sideP_shorter{t r:List UInt8}{n:Int}(h:sideP t=some (n,r)):r.length≤t.length:=by
 unfold sideP at h
 split at h
 ·cases h; rw [List.length_drop]; omega
 ·split at h
  ·cases h; rw [List.length_drop]; omega
  ·split at h
   ·cases h; rw [List.length_drop]; omega
   ·cases h
def SeamsPost(rb pb base:Nat)(x1 v:Value)(R:Option (List Sea×List UInt8))(w:World)(e:Ending)(w':World):Prop :=
 Keep (fun k=>k<w.heap.size∧k≠rb∧k≠pb∧v.ownBlock≠some k) w w'∧match R with
 | none=>e=err 8
 | some (l,r)=>e = .returned (.tuple #[])∧RdAt w' rb r ∧ ∃ v',BoxAt w' pb #[v',x1] 25∧w'.ownsRow base 142 3 v' l.length (seaV l)∧(∀ g,v'.ownBlock=some g→v.ownBlock=some g∨w.heap.size≤g)
structure SeamI (rb pb base:Nat) (x1 v0:Value) (R:Option (List Sea×List UInt8)) (w:World) (N:Nat) (fuel:Nat) (l:List Sea) (r:List UInt8) (v:Value) (W:World):Prop where
 rd:RdAt W rb r
 p:BoxAt W pb #[v,x1] 25
 row:W.ownsRow base 142 3 v l.length (seaV l)
 own:∀ g,v.ownBlock=some g→v0.ownBlock=some g∨w.heap.size≤g
 keep:Keep (fun k=>k<w.heap.size∧k≠rb∧k≠pb∧v0.ownBlock≠some k) w W
 res:seamsP fuel r l=R
 fuel:r.length≤fuel
 len:l.length+r.length≤N
 sides:Sides W
set_option maxRecDepth 100000 in
set_option maxHeartbeats 8000000 in
theorem hulls93_any(rb pb base:Nat)(x1 v0:Value)(l0:List Sea)(t:List UInt8)(w:World)(h:RdAt w rb t)(hp:BoxAt w pb #[v0,x1] 25)(hne:pb≠rb)
  (hrb:v0.ownBlock≠some rb) (hpb:v0.ownBlock≠some pb) (hbase:base≤w.heap.size) (hv:w.ownsRow base 142 3 v0 l0.length (seaV l0)) (hn:l0.length+t.length≤1000000) (hl:t.length≤2000)
  (hs:Sides w) (h0:rb≠0∧pb≠0∧0<base) :
  Calls Tryz.prog 93 #[bp pb,bp rb] w (SeamsPost rb pb base x1 v0 (seamsP t.length t l0) w):=by
 have hrl:=lt_of_heap h;have hpw:=lt_of_heap hp;have hC0:(fun k=>k<w.heap.size∧k≠rb∧k≠pb∧v0.ownBlock≠some k) 0:=⟨by omega,fun e=>h0.1 e.symm,fun e=>h0.2.1 e.symm,fun e=>by have:=(hv.lt 0 e).1; omega⟩
 have HC0:=Lib.hid hC0;obtain⟨R,hR⟩:∃ R,seamsP t.length t l0=R:=⟨_,rfl⟩
 have I0:=Lib.hid (show SeamI rb pb base x1 v0 R w (l0.length+t.length) t.length l0 t v0 w from⟨h,hp,hv,fun g e=>.inl e,Keep.refl _ _,hR,Nat.le_refl _,Nat.le_refl _,hs⟩);rw [hR];have HRB:=Lib.hid hrb;have HPB:=Lib.hid hpb;clear h hp hv hR hs hrb hpb hC0;go_enter Tryz.func93,Tryz.ntmps93;go_wp2_with fail
 go_loopw [8] (fun _ wr => ∃ fuel l r v,SeamI rb pb base x1 v0 R w (l0.length+t.length) fuel l r v wr∧r.length≤2000) (fun _ wr=>rdLen rb wr)
 case atStart=>exact⟨_,_,_,_,I0.out,hl⟩
 case round =>
  obtain⟨fuel,l,r,v,hi,hrl2⟩:=hrel;have I1:=Lib.hid hi;clear hi I0;have hm:=rdLen_at I1.out.rd;have C1:=Lib.hid (sees_any rb r [32] _ I1.out.rd);go_wp2_with (go_at_call 95; refine C1.out.mono ?_);rintro e w1 ⟨rfl,rfl⟩
  cases hp:Lib.hasPrefix r [32] with
  | false =>
   rw [seesT_no hp];have HR:=Lib.hid (show R=some (l,r) from by rw [← I1.out.res]; exact seamsP_end _ _ _ hp);clear hp;go_wp2_with fail
   go_end0
   have hof:OffR rb wr (wr.setCell ⟨rb,0,none⟩ (.string ⟨r.toArray⟩)):=OffR.set _;have hnr:v.ownBlock≠some rb:=fun e=>by rcases I1.out.own rb e with h | h; exact HRB.out h; omega
   refine⟨Keep.set I1.out.keep _ _ _ (fun hh=>hh.2.1 rfl),?_⟩;rw [HR.out];exact⟨rfl,I1.out.rd.set r,v,BoxAt.set I1.out.p _ _ (fun h=>hne h.symm),hof.row I1.out.row hnr,I1.out.own⟩
  | true =>
   rw [seesT_yes hp];have hdl:(r.drop 1).length+1=r.length:=by have:=drop_prefix_length hp; rw [List.length_drop]; simp only [List.length_cons,List.length_nil] at this; omega
   have HS0:=Lib.hid (show R=match seamP (r.drop 1) with | none=>none | some (x,r)=>seamsP (fuel - 1) r (l ++ [x]) from by
    rw [← I1.out.res];have hf:=I1.out.fuel;obtain⟨k,rfl⟩:∃ k,fuel=k+1:=⟨fuel - 1,by omega⟩
    exact seamsP_step k r l hp)
   have hfu:=I1.out.fuel;have hln:=I1.out.len;clear hp;generalize hq:r.drop 1=q at *;have hnr:v.ownBlock≠some rb:=fun e=>by rcases I1.out.own rb e with h | h; exact HRB.out h; omega
   have hnp:v.ownBlock≠some pb:=fun e=>by rcases I1.out.own pb e with h | h; exact HPB.out h; omega
   have R1:=Lib.hid (show RdAt (wr.setCell ⟨rb,0,none⟩ (.string ⟨q.toArray⟩)) rb q from I1.out.rd.set q);have P1:=Lib.hid (show BoxAt (wr.setCell ⟨rb,0,none⟩ (.string ⟨q.toArray⟩)) pb #[v,x1] 25 from BoxAt.set I1.out.p _ _ (fun h=>hne h.symm));have V1:=Lib.hid ((show OffR rb wr (wr.setCell ⟨rb,0,none⟩ (.string ⟨q.toArray⟩)) from OffR.set _).row I1.out.row hnr);have K1:=Lib.hid (Keep.set I1.out.keep rb 0 (.string ⟨q.toArray⟩) (fun hh=>hh.2.1 rfl));have D1:=Lib.hid (I1.out.sides.keep (Keep.set (Keep.refl (fun k=>k≠rb) wr) rb 0 (.string ⟨q.toArray⟩) (fun hh=>hh rfl)) (fun e=>h0.1 e.symm));have OW:=Lib.hid I1.out.own;have HNR:=Lib.hid hnr;have HNP:=Lib.hid hnp;clear I1 C1 hnr hnp hq;go_upto_region 2 with (fail)
   generalize World.setCell wr _ _=w1 at *
   have HS:=Lib.hid (show R=(match numP q with
    | none=>none
    | some (a,t1)=>match sideP t1 with
     | none=>none
     | some (b,t2)=>match numP t2 with
      | none=>none
      | some (c,t3)=>seamsP (fuel - 1) t3 (l ++ [⟨a,b,c⟩])) from by
    rw [HS0.out];unfold seamP
    cases numP q with
    | none=>rfl
    | some p =>
     obtain⟨a,t1⟩:=p;dsimp only
     cases sideP t1 with
     | none=>rfl
     | some p =>
      obtain⟨b,t2⟩:=p;dsimp only
      cases numP t2 with
      | none=>rfl
      | some p=>rfl)
   clear HS0;have hs1:w.heap.size≤w1.heap.size:=K1.out.size;refine wp_region_stg (S:=(fun _=>True)) (L:=[(16,(fun w':World=>w'.cell? ⟨pb,0,none⟩=some v))]) (D:=[(16,4)]) (by kernel_rfl) (by kernel_rfl) trivial (by intro e he; simp only [List.mem_cons,List.mem_nil_iff,or_false] at he; subst he; exact cellAt P1.out 0) (fun hC0 hH0=>?_);have P2:=Lib.hid (show BoxAt w1.drew pb #[v,x1] 25 from P1.out);have R2:=Lib.hid (show RdAt w1.drew rb q from R1.out);have V2:=Lib.hid (V1.out.drew);have D2:=Lib.hid (show Sides w1.drew from D1.out);have K2:=Lib.hid (K1.out.trans (show Keep (fun k=>k<w.heap.size∧k≠rb∧k≠pb∧v0.ownBlock≠some k) w1 w1.drew from⟨rfl,rfl,rfl,Nat.le_refl _,fun _ _=>rfl⟩));have hs2:w.heap.size≤w1.drew.heap.size:=hs1;generalize World.drew w1=w2 at *;clear P1 R1 V1 D1 K1 hs1;refine tkA (i:=0) (v:=?_) rfl hC0 (Or.inl ⟨by rfl,?_⟩) hH0 (fun hC1 hH1=>?_);rotate_left
   ·(intro w9 hSw; obtain⟨hSw,hLw⟩:=hSw; clear hLw; (try dsimp only at hSw); (go_split_ands; go_simp); (try with_reducible rfl))
   clear hC0 hH0
   try simp only [Act.put,List.setIfInBounds_toArray,List.set_cons_zero,List.set_cons_succ]
   refine tkA (i:=1) (v:=?_) rfl hC1 (Or.inl ⟨by rfl,?_⟩) hH1 (fun hC2 hH2=>?_);rotate_left
   ·(intro w9 hSw; obtain⟨hSw,hLw⟩:=hSw; clear hLw; (try dsimp only at hSw); (go_split_ands; go_simp); (try with_reducible rfl))
   clear hC1 hH1
   try simp only [Act.put,List.setIfInBounds_toArray,List.set_cons_zero,List.set_cons_succ]
   refine tkA (i:=2) (v:=?_) rfl hC2 (Or.inl ⟨by rfl,?_⟩) hH2 (fun hC3 hH3=>?_);rotate_left
   ·(intro w9 hSw; obtain⟨hSw,hLw⟩:=hSw; clear hLw; (try dsimp only at hSw); (go_split_ands; go_simp); (try with_reducible rfl))
   clear hC2 hH2
   try simp only [Act.put,List.setIfInBounds_toArray,List.set_cons_zero,List.set_cons_succ]
   refine tkA (i:=3) (v:=?_) rfl hC3 (Or.inl ⟨by rfl,?_⟩) hH3 (fun hC4 hH4=>?_);rotate_left
   ·(intro w9 hSw; obtain⟨hSw,hLw⟩:=hSw; clear hLw; (try dsimp only at hSw); (go_split_ands; go_simp); (try with_reducible rfl))
   clear hC3 hH3
   try simp only [Act.put,List.setIfInBounds_toArray,List.set_cons_zero,List.set_cons_succ]
   refine tkA (i:=4) (v:=?_) rfl hC4 (Or.inl ⟨by rfl,?_⟩) hH4 (fun hC5 hH5=>?_);rotate_left
   ·(intro w9 hSw; obtain⟨hSw,hLw⟩:=hSw; have hl16:=hLw _ List.mem_cons_self rfl; dsimp only at hl16; clear hLw; (try dsimp only at hSw); (go_split_ands; go_simp); (try with_reducible rfl))
   clear hC4 hH4
   try simp only [Act.put,List.setIfInBounds_toArray,List.set_cons_zero,List.set_cons_succ]
   refine tkA (i:=5) (v:=?_) rfl hC5 (Or.inl ⟨by rfl,?_⟩) hH5 (fun hC6 hH6=>?_);rotate_left
   ·(intro w9 hSw; obtain⟨hSw,hLw⟩:=hSw; clear hLw; (try dsimp only at hSw); (go_split_ands; go_simp); (try with_reducible rfl))
   clear hC5 hH5
   try simp only [Act.put,List.setIfInBounds_toArray,List.set_cons_zero,List.set_cons_succ]
   refine tkA (i:=7) (v:=?_) rfl hC6 (Or.inl ⟨by rfl,?_⟩) hH6 (fun hC7 hH7=>?_);rotate_left
   ·(intro w9 hSw; obtain⟨hSw,hLw⟩:=hSw; clear hLw; (try dsimp only at hSw); (go_split_ands; go_simp); (try with_reducible rfl))
   clear hC6 hH6
   try simp only [Act.put,List.setIfInBounds_toArray,List.set_cons_zero,List.set_cons_succ]
   refine tkA (i:=9) (v:=?_) rfl hC7 (Or.inl ⟨by rfl,?_⟩) hH7 (fun hC8 hH8=>?_);rotate_left
   ·(intro w9 hSw; obtain⟨hSw,hLw⟩:=hSw; clear hLw; (try dsimp only at hSw); (go_split_ands; go_simp); (try with_reducible rfl))
   clear hC7 hH7
   try simp only [Act.put,List.setIfInBounds_toArray,List.set_cons_zero,List.set_cons_succ]
   refine onA (i:=6) rfl hC8 (fun K hK=>?_);clear hC8 hH8;go_simp;refine(number94_any rb q w2 R2.out (by omega)).mono ?_;intro e w3 hpost;obtain⟨ho,hh⟩:=hpost;have hk3:Keep (fun k=>k<w.heap.size∧k≠rb∧k≠pb∧v0.ownBlock≠some k) w w3:=K2.out.trans (Keep.mono ho (fun k (hk:k<w.heap.size∧k≠rb∧k≠pb∧v0.ownBlock≠some k)=>(⟨Nat.lt_of_lt_of_le hk.1 hs2,hk.2.1⟩:k<w2.heap.size∧k≠rb)))
   cases hr:numP q with
   | none =>
    rw [hr] at hh;dsimp only at hh;subst hh;simp only [err];exact⟨rfl,hk3,by rw [HS.out,hr]; rfl⟩
   | some p =>
   obtain⟨a,t1⟩:=p;rw [hr] at hh HS;obtain⟨he,hrd⟩:=hh;subst he;dsimp only at HS;have hl3:=numP_shorter hr;have P3:=Lib.hid (ho.box P2.out hne);have V3:=Lib.hid (ho.row V2.out HNR.out);have R3:=Lib.hid hrd;have D3:=Lib.hid (D2.out.keep ho ⟨by omega,fun e=>h0.1 e.symm⟩);have hs3:w.heap.size≤w3.heap.size:=hk3.size;have K3:=Lib.hid hk3;clear ho hrd hr hk3 P2 V2 R2 K2 D2;go_wp2_with fail;refine hK.out _ _ ?_ (fun hC9 hH9=>?_)
   ·exact⟨trivial,fun e he _=>by simp only [List.mem_cons,List.mem_nil_iff,or_false] at he; subst he; exact cellAt P3.out 0⟩
   clear hK K
   try simp only [Act.put,List.setIfInBounds_toArray,List.set_cons_zero,List.set_cons_succ]
   refine onA (i:=8) rfl hC9 (fun K hK=>?_);clear hC9 hH9;go_simp;refine(side96_any rb t1 w3 R3.out D3.out).mono ?_;intro e w4 hpost;obtain⟨ho,hh⟩:=hpost;have hk4:Keep (fun k=>k<w.heap.size∧k≠rb∧k≠pb∧v0.ownBlock≠some k) w w4:=K3.out.trans (Keep.mono ho (fun k (hk:k<w.heap.size∧k≠rb∧k≠pb∧v0.ownBlock≠some k)=>(⟨Nat.lt_of_lt_of_le hk.1 hs3,hk.2.1⟩:k<w3.heap.size∧k≠rb)))
   cases hr:sideP t1 with
   | none =>
    rw [hr] at hh;dsimp only at hh;subst hh;simp only [err];exact⟨rfl,hk4,by rw [HS.out,hr]; rfl⟩
   | some p =>
   obtain⟨b,t2⟩:=p;rw [hr] at hh HS;obtain⟨he,hrd⟩:=hh;subst he;dsimp only at HS;have hl4:=sideP_shorter hr;have P4:=Lib.hid (ho.box P3.out hne);have V4:=Lib.hid (ho.row V3.out HNR.out);have R4:=Lib.hid hrd;have D4:=Lib.hid (D3.out.keep ho ⟨by omega,fun e=>h0.1 e.symm⟩);have hs4:w.heap.size≤w4.heap.size:=hk4.size;have K4:=Lib.hid hk4;clear ho hrd hr hk4 P3 V3 R3 K3 D3;go_wp2_with fail;refine hK.out _ _ ?_ (fun hC10 hH10=>?_)
   ·exact⟨trivial,fun e he _=>by simp only [List.mem_cons,List.mem_nil_iff,or_false] at he; subst he; exact cellAt P4.out 0⟩
   clear hK K
   try simp only [Act.put,List.setIfInBounds_toArray,List.set_cons_zero,List.set_cons_succ]
   refine onA (i:=10) rfl hC10 (fun K hK=>?_);clear hC10 hH10;go_simp;refine(number94_any rb t2 w4 R4.out (by omega)).mono ?_;intro e w5 hpost;obtain⟨ho,hh⟩:=hpost;have hk5:Keep (fun k=>k<w.heap.size∧k≠rb∧k≠pb∧v0.ownBlock≠some k) w w5:=K4.out.trans (Keep.mono ho (fun k (hk:k<w.heap.size∧k≠rb∧k≠pb∧v0.ownBlock≠some k)=>(⟨Nat.lt_of_lt_of_le hk.1 hs4,hk.2.1⟩:k<w4.heap.size∧k≠rb)))
   cases hr:numP t2 with
   | none =>
    rw [hr] at hh;dsimp only at hh;subst hh;simp only [err];exact⟨rfl,hk5,by rw [HS.out,hr]; rfl⟩
   | some p =>
   obtain⟨c,t3⟩:=p;rw [hr] at hh HS;obtain⟨he,hrd⟩:=hh;subst he;dsimp only at HS;have hl5:=numP_shorter hr;have P5:=Lib.hid (ho.box P4.out hne);have V5:=Lib.hid (ho.row V4.out HNR.out);have R5:=Lib.hid hrd;have D5:=Lib.hid (D4.out.keep ho ⟨by omega,fun e=>h0.1 e.symm⟩);have hs5:w.heap.size≤w5.heap.size:=hk5.size;have K5:=Lib.hid hk5;clear ho hrd hr hk5 P4 V4 R4 K4 D4;go_wp2_with fail;refine hK.out _ _ ?_ (fun hC11 hH11=>?_)
   ·exact⟨trivial,fun e he _=>by simp only [List.mem_cons,List.mem_nil_iff,or_false] at he; subst he; exact cellAt P5.out 0⟩
   clear hK K
   try simp only [Act.put,List.setIfInBounds_toArray,List.set_cons_zero,List.set_cons_succ]
   refine tkA (i:=11) (v:=?_) rfl hC11 (Or.inl ⟨by rfl,?_⟩) hH11 (fun hC12 hH12=>?_);rotate_left
   ·(intro w9 hSw; obtain⟨hSw,hLw⟩:=hSw; clear hLw; (try dsimp only at hSw); (go_split_ands; go_simp); (try with_reducible rfl))
   clear hC11 hH11
   try simp only [Act.put,List.setIfInBounds_toArray,List.set_cons_zero,List.set_cons_succ]
   refine onA (i:=12) rfl hC12 (fun K hK=>?_);clear hC12 hH12;have hal:=(Below.refl w5.heap.size w5).alloc (Nat.le_refl _) (.cells #[.int .i64 a,.int .i64 b,.int .i64 c] 142);have P6:=Lib.hid (show BoxAt (w5.alloc (.cells #[.int .i64 a,.int .i64 b,.int .i64 c] 142)) pb #[v,x1] 25 from BoxAt.grow P5.out hal);have R6:=Lib.hid (show RdAt (w5.alloc (.cells #[.int .i64 a,.int .i64 b,.int .i64 c] 142)) rb t3 from BoxAt.grow R5.out hal);have V6:=Lib.hid (V5.out.alloc (.cells #[.int .i64 a,.int .i64 b,.int .i64 c] 142));have D6:=Lib.hid (D5.out.grow hal);have B6:=Lib.hid (show BoxAt (w5.alloc (.cells #[.int .i64 a,.int .i64 b,.int .i64 c] 142)) w5.heap.size #[.int .i64 a,.int .i64 b,.int .i64 c] 142 from heap_alloc_new _ _);have K6:=Lib.hid (K5.out.trans (Keep.of_below hal fun k (hk:k<w.heap.size∧k≠rb∧k≠pb∧v0.ownBlock≠some k)=>Nat.lt_of_lt_of_le hk.1 hs5));have hs6:w.heap.size≤(w5.alloc (.cells #[.int .i64 a,.int .i64 b,.int .i64 c] 142)).heap.size:=Nat.le_trans hs5 hal.size;go_simp;go_wp2_with fail;generalize World.alloc w5 _=w6 at *;clear P5 R5 V5 D5 K5 hal;refine hK.out _ _ ?_ (fun hC13 hH13=>?_)
   ·exact⟨trivial,fun e he _=>by simp only [List.mem_cons,List.mem_nil_iff,or_false] at he; subst he; exact cellAt P6.out 0⟩
   clear hK K
   try simp only [Act.put,List.setIfInBounds_toArray,List.set_cons_zero,List.set_cons_succ]
   refine onA (i:=13) rfl hC13 (fun K hK=>?_);clear hC13 hH13;obtain⟨i0,hi0,hz0,hz1,hz2⟩:=info142;refine step_appRow (w:=w6) sl22 hi0 hz0 hz1 hz2 (by rfl) (by decide) (by decide) (by rfl) (.tmp 13) (.tmp 21) (by rfl) (v:=v) (xs:=seaV l) (base:=base) (n:=l.length) (by rfl) V6.out (b:=w5.heap.size) (us:=[.int .i64 a,.int .i64 b,.int .i64 c]) (by rfl) B6.out (by rfl) (by intro u hu; simp only [List.mem_cons,List.mem_nil_iff,or_false] at hu; rcases hu with rfl | rfl | rfl <;> rfl) (by omega) (Nat.le_trans hbase hs6) ?_;intro g cap w7 hw hg hor;have P7:=Lib.hid (P6.out.kept hg (fun e=>HNP.out e.symm));have R7:=Lib.hid (show RdAt w7 rb t3 from BoxAt.kept R6.out hg (fun e=>HNR.out e.symm));have K7:=Lib.hid (K6.out.trans (⟨hg.os,hg.tape,hg.output,hg.size,fun k (hk:k<w.heap.size∧k≠rb∧k≠pb∧v0.ownBlock≠some k)=>hg.block k (Nat.lt_of_lt_of_le hk.1 hs6) (fun e=>by rcases OW.out k e.symm with h | h; exact hk.2.2.2 h; omega)⟩));have D7:=Lib.hid (D6.out.keep (show Keep (fun k=>v.ownBlock≠some k∧k<w6.heap.size) w6 w7 from⟨hg.os,hg.tape,hg.output,hg.size,fun k hk=>hg.block k hk.2 (fun e=>hk.1 e.symm)⟩) ⟨fun e=>by have:=(V6.out.lt 0 e).1; omega,by omega⟩);have V7:=Lib.hid hw
   have OW7:=Lib.hid (show ∀ g',(Value.slice (some ⟨g,0,none⟩) (l.length+1) cap).ownBlock=some g'→v0.ownBlock=some g'∨w.heap.size≤g' from fun g' e=>by
    cases e
    rcases hor with h | h
    ·exact OW.out _ h
    ·exact .inr (Nat.le_trans hs6 (Nat.le_of_eq h.symm)))
   have HNP7:=Lib.hid (show(Value.slice (some ⟨g,0,none⟩) (l.length+1) cap).ownBlock≠some pb from fun e=>by
    rcases OW7.out pb e with h | h
    ·exact HPB.out h
    ·omega)
   clear hw hg hor P6 R6 K6 V6 B6 D6 hi0 hz0 hz1 hz2;refine hK.out _ _ ?_ (fun hC14 hH14=>?_)
   ·exact⟨trivial,fun e he _=>by simp only [List.mem_cons,List.mem_nil_iff,or_false] at he; subst he; exact cellAt P7.out 0⟩
   clear hK K
   try simp only [Act.put,List.setIfInBounds_toArray,List.set_cons_zero,List.set_cons_succ]
   refine tkA (i:=14) (v:=?_) rfl hC14 (Or.inl ⟨by rfl,?_⟩) hH14 (fun hC15 hH15=>?_);rotate_left
   ·(intro w9 hSw; obtain⟨hSw,hLw⟩:=hSw; clear hLw; (try dsimp only at hSw); (go_split_ands; go_simp); (try with_reducible rfl))
   clear hC14 hH14
   try simp only [Act.put,List.setIfInBounds_toArray,List.set_cons_zero,List.set_cons_succ]
   refine tkA (i:=15) (v:=?_) rfl hC15 (Or.inl ⟨by rfl,?_⟩) hH15 (fun hC16 hH16=>?_);rotate_left
   ·(intro w9 hSw; obtain⟨hSw,hLw⟩:=hSw; clear hLw; (try dsimp only at hSw); (go_split_ands; go_simp); (try with_reducible rfl))
   clear hC15 hH15
   try simp only [Act.put,List.setIfInBounds_toArray,List.set_cons_zero,List.set_cons_succ]
   refine onA (i:=16) rfl hC16 (fun K hK=>?_);clear hC16 hH16;have c0:=cellAt P7.out 0;have f0:=freeAt P7.out 0;simp only [List.getElem?_toArray,List.getElem?_cons_zero] at c0;go_simp;go_wp2_with fail;refine hK.out _ _ ?_ (fun hC17 hH17=>?_)
   ·exact⟨trivial,fun e he h=>by simp only [List.mem_cons,List.mem_nil_iff,or_false] at he; subst he; exact absurd h (by intro hx; exact Bool.false_ne_true (hx.symm.trans (by kernel_rfl)))⟩
   clear hK K
   try simp only [Act.put]
   refine wpAnyT_done (by kernel_rfl) ?_ _;clear hC17 hH17;have hsp:OffR pb w7 (w7.setCell ⟨pb,0,none⟩ (.slice (some ⟨g,0,none⟩) (l.length+1) cap)):=Keep.set (Keep.refl _ _) _ _ _ (fun h=>h.2 rfl);have R8:RdAt (w7.setCell ⟨pb,0,none⟩ (.slice (some ⟨g,0,none⟩) (l.length+1) cap)) rb t3:=BoxAt.set R7.out _ _ hne;have hm8:=rdLen_at R8;have V8:=hsp.row V7.out HNP7.out;have e8:(l ++ [(⟨a,b,c⟩:Sea)]).length=l.length+1:=by simp
   have D8:=D7.out.keep hsp ⟨by have:=lt_of_heap R7.out; omega,fun e=>h0.2.1 e.symm⟩;have K8:=Keep.set K7.out pb 0 (.slice (some ⟨g,0,none⟩) (l.length+1) cap) (fun hh=>hh.2.2.1 rfl);have P8:=BoxAt.store P7.out 0 (.slice (some ⟨g,0,none⟩) (l.length+1) cap)
   have I8:SeamI rb pb base x1 v0 R w (l0.length+t.length) (fuel - 1) (l ++ [⟨a,b,c⟩]) t3 (.slice (some ⟨g,0,none⟩) (l.length+1) cap) (w7.setCell ⟨pb,0,none⟩ (.slice (some ⟨g,0,none⟩) (l.length+1) cap)) :=
    ⟨R8,P8,by rw [e8,seaV_snoc]; exact V8,OW7.out,K8,HS.out.symm,by omega,by rw [e8]; omega,D8⟩
   go_wp2_with fail;exact⟨⟨_,_,_,_,I8,by omega⟩,by rw [hm8]; omega⟩
end Go.Proofs.YtclbmlmlhiiaeaaGreatDoor
