/- Walks: what irons takes of a line: whose it is, and a claim. -/
import Derived.Test.YtclbmlmlhiiaeaaGreatDoorQW6
namespace Go.Proofs.YtclbmlmlhiiaeaaGreatDoor
open Go.RowKit
def NumBox(W:World)(fb:Nat):Prop:=BoxAt W fb #[.func (.func 94) #[] #[]] 175
def WhosePost(rb pb:Nat)(x:Array Value)(t:List UInt8)(w:World)(e:Ending)(w':World):Prop :=
 Keep (fun k=>k<w.heap.size∧k≠rb∧k≠pb) w w'∧match numP t with
 | none=>e=err 8
 | some (n,r)=>e = .returned (.tuple #[])∧RdAt w' rb r∧BoxAt w' pb (x.setIfInBounds 0 (.int .i64 n)) 34
set_option maxRecDepth 100000 in
set_option maxHeartbeats 2000000 in
theorem whose116_any(rb pb fb:Nat)(x0 x1 x2 x3 x4:Value)(t:List UInt8)(w:World)(h:RdAt w rb t)(hp:BoxAt w pb #[x0,x1,x2,x3,x4] 34)(hf:NumBox w fb)(hne:pb≠rb)(hl:t.length≤2000) :
  Calls Tryz.prog 116 #[bp pb,bp rb,bp fb] w (WhosePost rb pb #[x0,x1,x2,x3,x4] t w):=by
 have C0:=Lib.hid (number94_any rb t w h hl);have P0:=Lib.hid hp;have d0:=cellAt hf 0;have g0:=freeAt hf 0;simp only [List.getElem?_toArray,List.getElem?_cons_zero] at d0;clear h hp hf;go_enter Tryz.func116,Tryz.ntmps116;go_wp2_with fail;refine C0.out.mono ?_;intro e w1 hpost;obtain⟨ho,hw⟩:=hpost;have hk:=Keep.mono ho (fun k (hk:k<w.heap.size∧k≠rb∧k≠pb)=>(⟨hk.1,hk.2.1⟩:k<w.heap.size∧k≠rb))
 cases hr:numP t with
 | none =>
  rw [hr] at hw;dsimp only at hw;subst hw;simp only [err];exact⟨rfl,hk,by rw [hr]; rfl⟩
 | some p =>
  obtain⟨n,r⟩:=p;rw [hr] at hw;obtain⟨he,hrd⟩:=hw;subst he;have P1:=ho.box P0.out hne;have c0:=cellAt P1 0;have f0:=freeAt P1 0;simp only [List.getElem?_toArray,List.getElem?_cons_zero] at c0;have HP:=Lib.hid P1;have R1:=Lib.hid hrd;have K1:=Lib.hid hk;have HR:=Lib.hid hr;clear ho hrd hk hr P1 d0 g0;go_wp2_with fail
  go_end0
  unfold WhosePost;rw [HR.out];exact⟨Keep.set K1.out _ _ _ (fun hh=>hh.2.2 rfl),rfl,BoxAt.set R1.out _ _ (by dsimp only; exact hne),BoxAt.store HP.out 0 _⟩
theorem sl32:Tryz.prog.underlying 32=some (.slice 82):=by kernel_rfl
theorem info82:∃ i,Tryz.prog.info? 82=some i∧i.zero=some (.agg #[.int .i64 0,.int .i64 0,.bool false])∧i.size=3∧i.bytes=24 :=
 ⟨(Tryz.prog.info? 82).get (by kernel_rfl),by kernel_rfl,by kernel_rfl,by kernel_rfl,by kernel_rfl⟩
def claimRd(t:List UInt8):Option ((Int×Int×Bool)×List UInt8) :=
 match numP t with
 | none=>none
 | some (d,t1)=>if Lib.hasPrefix t1 [32] then
   match numP (seesT (t1.drop 1) [33]) with
   | none=>none
   | some (m,t3)=>some ((d,m,Lib.hasPrefix (t1.drop 1) [33]),t3)
  else none
theorem seesT_le(t p:List UInt8):(seesT t p).length≤t.length:=by
 cases h:Lib.hasPrefix t p with
 | true=>rw [seesT_yes h,List.length_drop]; omega
 | false=>rw [seesT_no h]; exact Nat.le_refl _
def ClaimPost(rb pb base:Nat)(x0 x1 x2 x3 v:Value)(xs:List Value)(n:Nat)(R:Option ((Int×Int×Bool)×List UInt8))(w:World)(e:Ending)(w':World):Prop :=
 Keep (fun k=>k<w.heap.size∧k≠rb∧k≠pb∧v.ownBlock≠some k) w w'∧match R with
 | none=>e=err 8
 | some (s,r)=>e = .returned (.tuple #[])∧RdAt w' rb r ∧ ∃ v',BoxAt w' pb #[x0,x1,x2,x3,v'] 34∧w'.ownsRow base 82 3 v' (n+1) (xs ++ [.int .i64 s.1,.int .i64 s.2.1,.bool s.2.2])∧(∀ g,v'.ownBlock=some g→v.ownBlock=some g∨w.heap.size≤g)
set_option maxRecDepth 100000 in
set_option maxHeartbeats 4000000 in
theorem claim119_any(rb pb fb base:Nat)(x0 x1 x2 x3 v:Value)(xs:List Value)(n:Nat)(t:List UInt8)(w:World)(h:RdAt w rb t)(hp:BoxAt w pb #[x0,x1,x2,x3,v] 34)(hf:NumBox w fb)(hfr:fb≠rb)(hne:pb≠rb)
  (hrb:v.ownBlock≠some rb) (hpb:v.ownBlock≠some pb) (hbase:base≤w.heap.size) (hv:w.ownsRow base 82 3 v n xs) (hn:n≤1000000) (hl:t.length≤2000) :
  Calls Tryz.prog 119 #[bp pb,bp rb,bp fb] w (ClaimPost rb pb base x0 x1 x2 x3 v xs n (claimRd t) w):=by
 have HS:=Lib.hid (show claimRd t=(match numP t with
  | none=>none
  | some (d,t1)=>if Lib.hasPrefix t1 [32] then
    match numP (seesT (t1.drop 1) [33]) with
    | none=>none
    | some (m,t3)=>some ((d,m,Lib.hasPrefix (t1.drop 1) [33]),t3)
   else none) from rfl)
 have hrl0:=lt_of_heap h;have hfl0:=lt_of_heap hf;have P0:=Lib.hid hp;have V0:=Lib.hid hv;have F0:=Lib.hid hf;have C0:=Lib.hid (number94_any rb t w h hl);have c0:=cellAt hf 0;have f0:=freeAt hf 0;simp only [List.getElem?_toArray,List.getElem?_cons_zero] at c0;clear h hp hv hf;go_enter Tryz.func119,Tryz.ntmps119;go_wp2_with fail;refine C0.out.mono ?_;intro e w1 hpost;obtain⟨ho,hh⟩:=hpost
 cases hr:numP t with
 | none =>
  rw [hr] at hh;dsimp only at hh;subst hh;simp only [err];exact⟨rfl,ho.four,by rw [HS.out,hr]; rfl⟩
 | some p =>
 obtain⟨d,t1⟩:=p;rw [hr] at hh HS;obtain⟨he,hrd⟩:=hh;subst he;dsimp only at HS;have hl1:=numP_shorter hr;have hal:=(Below.refl w1.heap.size w1).alloc (Nat.le_refl _) (.cells #[.int .i64 d,.int .i64 0,.bool false] 82);have O2:=Lib.hid (ho.trans (OffR.below hal));have F2:=Lib.hid (show NumBox (w1.alloc (.cells #[.int .i64 d,.int .i64 0,.bool false] 82)) fb from(ho.box F0.out hfr).grow hal);have S2:=Lib.hid (show BoxAt (w1.alloc (.cells #[.int .i64 d,.int .i64 0,.bool false] 82)) w1.heap.size #[.int .i64 d,.int .i64 0,.bool false] 82 from heap_alloc_new _ _);have R2:=Lib.hid (show RdAt (w1.alloc (.cells #[.int .i64 d,.int .i64 0,.bool false] 82)) rb t1 from BoxAt.grow hrd hal);have hs1:w.heap.size≤w1.heap.size:=ho.size;clear ho hrd hal C0 hr c0 f0 F0;go_upto_region 1 with (fail)
 generalize World.alloc w1 _=w2 at *;have C2:=Lib.hid (word_any rb t1 [32] w2 R2.out);go_wp2_with fail;refine C2.out.mono ?_;intro e w3 hpost;obtain⟨ho,hh⟩:=hpost
 cases hp1:Lib.hasPrefix t1 [32] with
 | false =>
  rw [hp1] at hh;have he:e=err 8:=hh;subst he;simp only [err];exact⟨rfl,(O2.out.trans ho).four,by rw [HS.out,hp1]; rfl⟩
 | true =>
 rw [hp1] at hh;obtain⟨he,hrd⟩:=(show e = .returned (.tuple #[])∧RdAt w3 rb (t1.drop 1) from hh)
 subst he
 have HS1:=Lib.hid (show claimRd t=(match numP (seesT (t1.drop 1) [33]) with
    | none=>none
    | some (m,t3)=>some ((d,m,Lib.hasPrefix (t1.drop 1) [33]),t3)) from by rw [HS.out,hp1]; rfl)
 have hd1:(seesT (t1.drop 1) [33]).length≤2000:=by have:=seesT_le (t1.drop 1) [33]; rw [List.length_drop] at this; omega
 have O3:=Lib.hid (O2.out.trans ho);have F3:=Lib.hid (show NumBox w3 fb from ho.box F2.out hfr);have S3:=Lib.hid (ho.box S2.out (by omega));have C3:=Lib.hid (sees_any rb (t1.drop 1) [33] w3 hrd);have R3:=Lib.hid hrd;clear ho hh hrd hp1 HS C2 R2 S2 O2 F2;obtain⟨bb,hbb⟩:∃ bb,Lib.hasPrefix (t1.drop 1) [33]=bb:=⟨_,rfl⟩
 rw [hbb] at C3 HS1;go_upto_region 2 with (fail)
 go_wp2_with fail;refine C3.out.mono ?_;rintro e w4 ⟨rfl,rfl⟩;have O4:=Lib.hid (O3.out.trans (OffR.set (rb:=rb) (w:=w3) (.string ⟨(seesT (t1.drop 1) [33]).toArray⟩)));have R4:=Lib.hid (R3.out.set (seesT (t1.drop 1) [33]));have F4:=Lib.hid (show NumBox (w3.setCell ⟨rb,0,none⟩ (.string ⟨(seesT (t1.drop 1) [33]).toArray⟩)) fb from BoxAt.set F3.out _ _ (by dsimp only; exact fun h=>hfr h.symm));have S4:=Lib.hid (S3.out.set ⟨rb,0,none⟩ (.string ⟨(seesT (t1.drop 1) [33]).toArray⟩) (by dsimp only; omega));clear O3 R3 F3 S3 C3;generalize World.setCell w3 _ _=w4 at *;have s2:=cellAt S4.out 2;have sf2:=freeAt S4.out 2;simp only [List.getElem?_toArray,List.getElem?_cons_zero,List.getElem?_cons_succ] at s2;have O5:=Lib.hid (O4.out.other w1.heap.size 2 (.bool bb) hs1);have R5:=Lib.hid (show RdAt (w4.setCell ⟨w1.heap.size,2,none⟩ (.bool bb)) rb (seesT (t1.drop 1) [33]) from BoxAt.set R4.out _ _ (by dsimp only; omega));have F5:=Lib.hid (show NumBox (w4.setCell ⟨w1.heap.size,2,none⟩ (.bool bb)) fb from BoxAt.set F4.out _ _ (by dsimp only; omega));have S5:=Lib.hid (show BoxAt (w4.setCell ⟨w1.heap.size,2,none⟩ (.bool bb)) w1.heap.size #[.int .i64 d,.int .i64 0,.bool bb] 82 from S4.out.store 2 _);go_upto_region 3 with (fail)
 clear O4 R4 F4 S4 s2 sf2;generalize World.setCell w4 _ _=w5 at *;have C5:=Lib.hid (number94_any rb (seesT (t1.drop 1) [33]) w5 R5.out hd1);have c0:=cellAt F5.out 0;have f0:=freeAt F5.out 0;simp only [List.getElem?_toArray,List.getElem?_cons_zero] at c0;go_wp2_with fail;refine C5.out.mono ?_;intro e w7 hpost;obtain⟨ho,hh⟩:=hpost
 cases hr:numP (seesT (t1.drop 1) [33]) with
 | none =>
  rw [hr] at hh;dsimp only at hh;subst hh;simp only [err];exact⟨rfl,(O5.out.trans ho).four,by rw [HS1.out,hr]; rfl⟩
 | some p =>
 obtain⟨m,t3⟩:=p;rw [hr] at hh HS1;obtain⟨he,hrd⟩:=hh;subst he;dsimp only at HS1;have HS2:=Lib.hid HS1.out;have S7:=Lib.hid (ho.box S5.out (by omega));have O8:=Lib.hid ((O5.out.trans ho).other w1.heap.size 1 (.int .i64 m) hs1);have R8:=Lib.hid (show RdAt (w7.setCell ⟨w1.heap.size,1,none⟩ (.int .i64 m)) rb t3 from BoxAt.set hrd _ _ (by dsimp only; omega));have S8:=Lib.hid (show BoxAt (w7.setCell ⟨w1.heap.size,1,none⟩ (.int .i64 m)) w1.heap.size #[.int .i64 d,.int .i64 m,.bool bb] 82 from S7.out.store 1 _);have s2:=cellAt S7.out 1;have sf2:=freeAt S7.out 1;simp only [List.getElem?_toArray,List.getElem?_cons_zero,List.getElem?_cons_succ] at s2;clear ho hrd hr C5 S5 O5 R5 F5 HS1 c0 f0 hbb;go_upto_region 4 with (fail)
 have hpw:=lt_of_heap P0.out;have P8:=Lib.hid (O8.out.box P0.out hne);have V8:=Lib.hid (O8.out.row V0.out hrb);have hvw:=V0.out.lt;have hs8:=O8.out.size;have K8:=Lib.hid (OffR.four (pb:=pb) (v:=v) O8.out);generalize World.setCell w7 _ _=w8 at *;clear s2 sf2 S7 P0 V0 O8;refine wp_region_stg (S:=(fun _=>True)) (L:=[(10,(fun w':World=>w'.cell? ⟨pb,4,none⟩=some v∧w'.cell? ⟨w1.heap.size,0,none⟩=some (.int .i64 d)∧w'.cell? ⟨w1.heap.size,1,none⟩=some (.int .i64 m)∧w'.cell? ⟨w1.heap.size,2,none⟩=some (.bool bb)))]) (D:=[(10,4),(10,5)]) (by kernel_rfl) (by kernel_rfl) trivial (by intro e he; simp only [List.mem_cons,List.mem_nil_iff,or_false] at he; subst he; exact⟨cellAt P8.out 4,cellAt S8.out 0,cellAt S8.out 1,cellAt S8.out 2⟩) (fun hC0 hH0=>?_);have Pd:=Lib.hid (show BoxAt w8.drew pb #[x0,x1,x2,x3,v] 34 from P8.out);have Sd:=Lib.hid (show BoxAt w8.drew w1.heap.size #[.int .i64 d,.int .i64 m,.bool bb] 82 from S8.out);have Rd:=Lib.hid (show RdAt w8.drew rb t3 from R8.out);have Vd:=Lib.hid (V8.out.drew);have hk0:Keep (fun k=>k<w.heap.size∧k≠rb∧k≠pb∧v.ownBlock≠some k) w8 w8.drew:=⟨rfl,rfl,rfl,Nat.le_refl _,fun _ _=>rfl⟩
 have Kd:=Lib.hid (K8.out.trans hk0);have hsd:w.heap.size≤w8.drew.heap.size:=hs8;generalize World.drew w8=wd at *;clear P8 S8 R8 V8 K8 hk0 hs8;refine tkA (i:=0) (v:=?_) rfl hC0 (Or.inl ⟨by rfl,?_⟩) hH0 (fun hC1 hH1=>?_);rotate_left
 ·(intro w9 hSw; obtain⟨hSw,hLw⟩:=hSw; clear hLw; (try dsimp only at hSw); (go_split_ands; go_simp); (try with_reducible rfl))
 clear hC0 hH0
 try simp only [Act.put,List.setIfInBounds_toArray,List.set_cons_zero,List.set_cons_succ]
 refine tkA (i:=1) (v:=?_) rfl hC1 (Or.inl ⟨by rfl,?_⟩) hH1 (fun hC2 hH2=>?_);rotate_left
 ·(intro w9 hSw; obtain⟨hSw,hLw⟩:=hSw; clear hLw; (try dsimp only at hSw); (go_split_ands; go_simp); (try with_reducible rfl))
 clear hC1 hH1
 try simp only [Act.put,List.setIfInBounds_toArray,List.set_cons_zero,List.set_cons_succ]
 refine tkA (i:=2) (v:=?_) rfl hC2 (Or.inl ⟨by rfl,?_⟩) hH2 (fun hC3 hH3=>?_);rotate_left
 ·(intro w9 hSw; obtain⟨hSw,hLw⟩:=hSw; clear hLw; (try dsimp only at hSw); (go_split_ands; go_simp); (try with_reducible rfl))
 clear hC2 hH2
 try simp only [Act.put,List.setIfInBounds_toArray,List.set_cons_zero,List.set_cons_succ]
 refine tkA (i:=3) (v:=?_) rfl hC3 (Or.inl ⟨by rfl,?_⟩) hH3 (fun hC4 hH4=>?_);rotate_left
 ·(intro w9 hSw; obtain⟨hSw,hLw⟩:=hSw; clear hLw; (try dsimp only at hSw); (go_split_ands; go_simp); (try with_reducible rfl))
 clear hC3 hH3
 try simp only [Act.put,List.setIfInBounds_toArray,List.set_cons_zero,List.set_cons_succ]
 refine tkA (i:=4) (v:=?_) rfl hC4 (Or.inl ⟨by rfl,?_⟩) hH4 (fun hC5 hH5=>?_);rotate_left
 ·(intro w9 hSw; obtain⟨hSw,hLw⟩:=hSw; have hl10:=hLw _ List.mem_cons_self rfl; dsimp only at hl10; clear hLw; (try dsimp only at hSw); (go_split_ands; go_simp); (try with_reducible rfl))
 clear hC4 hH4
 try simp only [Act.put,List.setIfInBounds_toArray,List.set_cons_zero,List.set_cons_succ]
 refine tkA (i:=5) (v:=?_) rfl hC5 (Or.inl ⟨by rfl,?_⟩) hH5 (fun hC6 hH6=>?_);rotate_left
 ·(intro w9 hSw; obtain⟨hSw,hLw⟩:=hSw; have hl10:=hLw _ List.mem_cons_self rfl; dsimp only at hl10; clear hLw; (try dsimp only at hSw); (go_split_ands; go_simp); (try with_reducible rfl))
 clear hC5 hH5
 try simp only [Act.put,List.setIfInBounds_toArray,List.set_cons_zero,List.set_cons_succ]
 refine onA (i:=6) rfl hC6 (fun K hK=>?_);clear hC6 hH6;have hal:=(Below.refl wd.heap.size wd).alloc (Nat.le_refl _) (.cells #[.int .i64 d,.int .i64 m,.bool bb] 82);have P9:=Lib.hid (show BoxAt (wd.alloc (.cells #[.int .i64 d,.int .i64 m,.bool bb] 82)) pb #[x0,x1,x2,x3,v] 34 from BoxAt.grow Pd.out hal);have S9:=Lib.hid (show BoxAt (wd.alloc (.cells #[.int .i64 d,.int .i64 m,.bool bb] 82)) w1.heap.size #[.int .i64 d,.int .i64 m,.bool bb] 82 from BoxAt.grow Sd.out hal);have R9:=Lib.hid (show RdAt (wd.alloc (.cells #[.int .i64 d,.int .i64 m,.bool bb] 82)) rb t3 from BoxAt.grow Rd.out hal);have V9:=Lib.hid (Vd.out.alloc (.cells #[.int .i64 d,.int .i64 m,.bool bb] 82));have B9:=Lib.hid (show BoxAt (wd.alloc (.cells #[.int .i64 d,.int .i64 m,.bool bb] 82)) wd.heap.size #[.int .i64 d,.int .i64 m,.bool bb] 82 from heap_alloc_new _ _);have K9:=Lib.hid (Kd.out.trans (Keep.of_below hal fun k (hk:k<w.heap.size∧k≠rb∧k≠pb∧v.ownBlock≠some k)=>Nat.lt_of_lt_of_le hk.1 hsd));have hs9:w.heap.size≤(wd.alloc (.cells #[.int .i64 d,.int .i64 m,.bool bb] 82)).heap.size:=Nat.le_trans hsd hal.size;go_simp;go_wp2_with fail;generalize World.alloc wd _=w9 at *;clear Pd Rd Vd Kd Sd hal;refine hK.out _ _ ?_ (fun hC7 hH7=>?_)
 ·exact⟨trivial,fun e he _=>by simp only [List.mem_cons,List.mem_nil_iff,or_false] at he; subst he; exact⟨cellAt P9.out 4,cellAt S9.out 0,cellAt S9.out 1,cellAt S9.out 2⟩⟩
 clear hK K
 try simp only [Act.put,List.setIfInBounds_toArray,List.set_cons_zero,List.set_cons_succ]
 refine onA (i:=7) rfl hC7 (fun K hK=>?_);clear hC7 hH7;obtain⟨i0,hi0,hz0,hz1,hz2⟩:=info82;refine step_appRow (w:=w9) sl32 hi0 hz0 hz1 hz2 (by rfl) (by decide) (by decide) (by rfl) (.tmp 23) (.tmp 25) (by rfl) (v:=v) (xs:=xs) (base:=base) (n:=n) (by rfl) V9.out (b:=wd.heap.size) (us:=[.int .i64 d,.int .i64 m,.bool bb]) (by rfl) B9.out (by rfl) (by intro u hu; simp only [List.mem_cons,List.mem_nil_iff,or_false] at hu; rcases hu with rfl | rfl | rfl <;> rfl) hn (Nat.le_trans hbase hs9) ?_;intro g cap wA hw hg hor;have hpv:(some pb:Option Nat)≠v.ownBlock:=fun e=>hpb e.symm;have hrv:(some rb:Option Nat)≠v.ownBlock:=fun e=>hrb e.symm;have hsv:(some w1.heap.size:Option Nat)≠v.ownBlock:=fun e=>by have:=(hvw _ e.symm).2; omega
 have PA:=Lib.hid (P9.out.kept hg hpv);have SA:=Lib.hid (S9.out.kept hg hsv);have RA:=Lib.hid (show RdAt wA rb t3 from BoxAt.kept R9.out hg hrv);have KA:=Lib.hid (K9.out.trans (⟨hg.os,hg.tape,hg.output,hg.size,fun k (hk:k<w.heap.size∧k≠rb∧k≠pb∧v.ownBlock≠some k)=>hg.block k (Nat.lt_of_lt_of_le hk.1 hs9) (fun e=>hk.2.2.2 e.symm)⟩));have VA:=Lib.hid hw;clear hw hg hpv hrv hsv P9 R9 K9 V9 B9 S9;refine hK.out _ _ ?_ (fun hC8 hH8=>?_)
 ·exact⟨trivial,fun e he _=>by simp only [List.mem_cons,List.mem_nil_iff,or_false] at he; subst he; exact⟨cellAt PA.out 4,cellAt SA.out 0,cellAt SA.out 1,cellAt SA.out 2⟩⟩
 clear hK K
 try simp only [Act.put,List.setIfInBounds_toArray,List.set_cons_zero,List.set_cons_succ]
 refine tkA (i:=8) (v:=?_) rfl hC8 (Or.inl ⟨by rfl,?_⟩) hH8 (fun hC9 hH9=>?_);rotate_left
 ·(intro w9 hSw; obtain⟨hSw,hLw⟩:=hSw; clear hLw; (try dsimp only at hSw); (go_split_ands; go_simp); (try with_reducible rfl))
 clear hC8 hH8
 try simp only [Act.put,List.setIfInBounds_toArray,List.set_cons_zero,List.set_cons_succ]
 refine tkA (i:=9) (v:=?_) rfl hC9 (Or.inl ⟨by rfl,?_⟩) hH9 (fun hC10 hH10=>?_);rotate_left
 ·(intro w9 hSw; obtain⟨hSw,hLw⟩:=hSw; clear hLw; (try dsimp only at hSw); (go_split_ands; go_simp); (try with_reducible rfl))
 clear hC9 hH9
 try simp only [Act.put,List.setIfInBounds_toArray,List.set_cons_zero,List.set_cons_succ]
 refine onA (i:=10) rfl hC10 (fun K hK=>?_);clear hC10 hH10;have c0:=cellAt PA.out 4;have f0:=freeAt PA.out 4;simp only [List.getElem?_toArray,List.getElem?_cons_zero,List.getElem?_cons_succ] at c0;go_simp;go_wp2_with fail;refine hK.out _ _ ?_ (fun hC11 hH11=>?_)
 ·exact⟨trivial,fun e he h=>by simp only [List.mem_cons,List.mem_nil_iff,or_false] at he; subst he; exact absurd h (by intro hx; exact Bool.false_ne_true (hx.symm.trans (by kernel_rfl)))⟩
 clear hK K
 try simp only [Act.put]
 refine wpAnyT_done (by kernel_rfl) ?_ _;clear hC11 hH11
 go_end0
 have hsp:OffR pb wA (wA.setCell ⟨pb,4,none⟩ (.slice (some ⟨g,0,none⟩) (n+1) cap)):=Keep.set (Keep.refl _ _) _ _ _ (fun h=>h.2 rfl);unfold ClaimPost;rw [HS2.out]
 exact⟨Keep.set KA.out _ _ _ (fun hh=>hh.2.2.1 rfl),rfl,BoxAt.set RA.out _ _ hne,_,BoxAt.store PA.out 4 _,hsp.row VA.out (fun e=>by cases e; rcases hor with h | h; exact hpb h; exact absurd (Nat.lt_of_lt_of_le hpw (Nat.le_trans hs9 (Nat.le_of_eq h.symm))) (Nat.lt_irrefl _)),fun g' e=>by
  cases e
  rcases hor with h | h
  ·exact .inl h
  ·exact .inr (Nat.le_trans hs9 (Nat.le_of_eq h.symm))⟩
theorem own_low{W:World}{b b' n z:Nat}{E:TypeId}{v:Value}{xs:List Value}(h:W.ownsRow b' E z v n xs)(hb:b≤b'):W.ownsRow b E z v n xs:=by
 refine⟨h.1,?_⟩;rcases h.2 with h | ⟨g,cap,cur,hv,hg,hr⟩
 ·exact .inl h
 ·exact .inr ⟨g,cap,cur,hv,Nat.le_trans hb hg,hr⟩
theorem own_apart{W:World}{b b' E E' z z' n n':Nat}{v v':Value}{xs xs':List Value}(h:W.ownsRow b E z v n xs)(h':W.ownsRow b' E' z' v' n' xs')(hE:E≠E'):∀ g,v.ownBlock=some g→v'.ownBlock≠some g:=by
 intro g e e';rcases h.2 with ⟨rfl,-⟩ | ⟨g1,cap,cur,rfl,-,hg,-⟩
 ·cases e
 ·rcases h'.2 with ⟨rfl,-⟩ | ⟨g2,cap',cur',rfl,-,hg',-⟩
  ·cases e'
  ·cases e
   cases e'
   rw [hg] at hg'
   cases hg'
   exact hE rfl
theorem keep_grown{W W':World}{row:Option Nat}(hg:W.grownBy W' row):Keep (fun k=>k<W.heap.size∧some k≠row) W W':=⟨hg.os,hg.tape,hg.output,hg.size,fun k hk=>hg.block k hk.1 hk.2⟩
theorem info26:∃ i,Tryz.prog.info? 26=some i∧i.zero=some (.slice none 0 0)∧i.size=1∧i.bytes=24 :=
 ⟨(Tryz.prog.info? 26).get (by kernel_rfl),by kernel_rfl,by kernel_rfl,by kernel_rfl,by kernel_rfl⟩
def intsP:Nat→List UInt8→List Int→Option (List Int×List UInt8)
 | 0,t,l=>some (l,t)
 | k+1,t,l=>if Lib.hasPrefix t [32] then match numP (t.drop 1) with
   | none=>none
   | some (n,r)=>intsP k r (l ++ [n])
  else some (l,t)
theorem intsP_end(k:Nat)(t:List UInt8)(l:List Int)(h:Lib.hasPrefix t [32]=false):intsP k t l=some (l,t):=by
 cases k with
 | zero=>rfl
 | succ k=>simp only [intsP]; rw [h]; rfl
theorem intsP_step(k:Nat)(t:List UInt8)(l:List Int)(h:Lib.hasPrefix t [32]=true):intsP (k+1) t l=match numP (t.drop 1) with | none=>none | some (n,r)=>intsP k r (l ++ [n]):=by
 simp only [intsP];rw [if_pos h]
def ownerR(t:List UInt8):Option ((Int×List Int)×List UInt8) :=
 match numP t with
 | none=>none
 | some (m,t1)=>(intsP t1.length t1 []).map fun p=>((m,p.1),p.2)
structure OM (pb fb base:Nat) (x0 x3 x4 v1 v2:Value) (sl ms:List Value) (n1 n2:Nat) (W:World):Prop where
 p:BoxAt W pb #[x0,v1,v2,x3,x4] 34
 f:NumBox W fb
 o:W.ownsRow base 26 1 v1 n1 sl
 m:W.ownsRow base 3 1 v2 n2 ms
variable {pb fb base n1 n2:Nat} {x0 x3 x4 v1 v2:Value} {sl ms:List Value} {W W':World}
theorem OM.keep(h:OM pb fb base x0 x3 x4 v1 v2 sl ms n1 n2 W){C:Nat→Prop}(hk:Keep C W W')(hp:C pb)(hf:C fb)(h1:∀ g,v1.ownBlock=some g→C g)(h2:∀ g,v2.ownBlock=some g→C g):OM pb fb base x0 x3 x4 v1 v2 sl ms n1 n2 W' :=
 ⟨hk.box h.p hp,hk.box h.f hf,hk.row h.o h1,hk.row h.m h2⟩
theorem OM.grow(h:OM pb fb base x0 x3 x4 v1 v2 sl ms n1 n2 W)(hb:Below W.heap.size W W'):OM pb fb base x0 x3 x4 v1 v2 sl ms n1 n2 W' :=
 h.keep (Keep.of_below hb (C:=fun k=>k<W.heap.size) fun _ hk=>hk) (lt_of_heap h.p) (lt_of_heap h.f) (fun g e=>(h.o.lt g e).2) (fun g e=>(h.m.lt g e).2)
structure Apart (rb pb fb:Nat) (v1 v2:Value):Prop where
 pr:pb≠rb
 fr:fb≠rb
 fp:fb≠pb
 r1:v1.ownBlock≠some rb
 r2:v2.ownBlock≠some rb
 p1:v1.ownBlock≠some pb
 p2:v2.ownBlock≠some pb
 f1:v1.ownBlock≠some fb
 f2:v2.ownBlock≠some fb
theorem OM.off{rb:Nat}(h:OM pb fb base x0 x3 x4 v1 v2 sl ms n1 n2 W)(a:Apart rb pb fb v1 v2)(hk:OffR rb W W'):OM pb fb base x0 x3 x4 v1 v2 sl ms n1 n2 W' :=
 h.keep hk ⟨lt_of_heap h.p,a.pr⟩ ⟨lt_of_heap h.f,a.fr⟩ (fun g e=>⟨(h.o.lt g e).2,fun e'=>a.r1 (e' ▸ e)⟩) (fun g e=>⟨(h.m.lt g e).2,fun e'=>a.r2 (e' ▸ e)⟩)
abbrev KeepO(rb pb:Nat)(v1 v2:Value)(w:World):Nat→Prop:=fun k=>k<w.heap.size∧k≠rb∧k≠pb∧v1.ownBlock≠some k∧v2.ownBlock≠some k
theorem keepO_off{rb:Nat}{w:World}(hk:Keep (KeepO rb pb v1 v2 w) w W)(ho:OffR rb W W'):Keep (KeepO rb pb v1 v2 w) w W' :=
 hk.trans (Keep.mono ho fun _ h=>⟨Nat.lt_of_lt_of_le h.1 hk.size,h.2.1⟩)
theorem keepO_grow{rb:Nat}{w:World}(hk:Keep (KeepO rb pb v1 v2 w) w W)(hb:Below W.heap.size W W'):Keep (KeepO rb pb v1 v2 w) w W' :=
 hk.below hb fun _ h=>h.1
def OwnerPost(rb pb base:Nat)(x0 x3 x4 v1 v2:Value)(sl ms:List Value)(n1 n2:Nat)(R:Option ((Int×List Int)×List UInt8))(w:World)(e:Ending)(w':World):Prop :=
 Keep (KeepO rb pb v1 v2 w) w w'∧match R with
 | none=>e=err 8
 | some (q,r)=>e = .returned (.tuple #[])∧RdAt w' rb r ∧ ∃ v1' v2' y,BoxAt w' pb #[x0,v1',v2',x3,x4] 34∧w'.ownsRow base 26 1 v1' (n1+1) (sl ++ [y])∧w'.ownsRow base 3 1 v2' (n2+1) (ms ++ [.int .i64 q.1])∧w'.ownsRow base 3 1 y q.2.length (intsV q.2) ∧
  (∀ g,v1'.ownBlock=some g→v1.ownBlock=some g∨w.heap.size≤g)∧(∀ g,v2'.ownBlock=some g→v2.ownBlock=some g∨w.heap.size≤g)∧(∀ g,y.ownBlock=some g→w.heap.size≤g∧v2'.ownBlock≠some g)
structure NI (rb pb fb base s2:Nat) (x0 x3 x4 v1 v2 v2':Value) (sl ms:List Value) (n1 n2:Nat) (R:Option (List Int×List UInt8)) (w:World) (fuel:Nat) (l:List Int) (r:List UInt8) (y:Value) (W:World):Prop where
 rd:RdAt W rb r
 om:OM pb fb base x0 x3 x4 v1 v2' sl ms n1 n2 W
 y:W.ownsRow s2 3 1 y l.length (intsV l)
 keep:Keep (KeepO rb pb v1 v2 w) w W
 s2:s2≤W.heap.size
 res:intsP fuel r l=R
 fuel:r.length≤fuel
 len:l.length+r.length≤3000
theorem own_slice{W:World}{b n z:Nat}{E:TypeId}{v:Value}{xs:List Value}(h:W.ownsRow b E z v n xs):∃ a c,v = .slice a n c:=by
 rcases h.2 with ⟨rfl,rfl⟩ | ⟨g,cap,cur,rfl,-⟩
 ·exact⟨none,0,rfl⟩
 ·exact⟨_,_,rfl⟩
theorem wpList_appR{t E:TypeId}{i:TypeInfo}{z:Value}{size bytes:Nat}(he:Tryz.prog.underlying t=some (.slice E))(hi:Tryz.prog.info? E=some i)(hz:i.zero=some z)(hsz:i.size=size)(hby:i.bytes=bytes)
  (hzs:z.cells.size=size) (hs0:0<size) (hb64:bytes≤64) {ops:Array Oper} {rest:List Oper} {o:Oper} {a:Act} {w:World} {Q:Exit→Act→World→Prop} (hgd:o.guard=none) (s x:Operand)
  (ho:o.op = .call {callee:=.builtin .append,args:=#[s,x],argTypes:=#[t,t]}) {base n:Nat} {v:Value} {xs:List Value} (hs:a.eval s=v) (hown:w.ownsRow base E size v n xs)
  {b:Nat} {us:List Value} (hx:a.eval x = .slice (some ⟨b,0,none⟩) 1 1) (hu:BoxAt w b us.toArray E) (hus:us.length=size) (h1:∀ u ∈ us,u.oneCell'=true)
  (hlim:n≤1000000) (hbase:base≤w.heap.size)
  (h:∀ g cap w',w'.ownsRow base E size (.slice (some ⟨g,0,none⟩) (n+1) cap) (n+1) (xs++us)→w.grownBy w' v.ownBlock→(v.ownBlock=some g∨g=w.heap.size)→wpList Tryz.prog ops Q rest (a.put o.dst (.slice (some ⟨g,0,none⟩) (n+1) cap)) w'):wpList Tryz.prog ops Q (o::rest) a w:=by
 refine wpList_append_lies (w:=w) hgd s x t ho base E i z size bytes he hi hz hsz hby hzs hs0 v n xs hs hown ⟨b,0,none⟩ 1 1 us hx (by rw [hus,Nat.one_mul]) ?_ h1 (by decide) (by unfold maxLen; omega) ?_ hbase _ rfl
  fun g cap w' h2 h3 h4 _=>h g cap w' h2 h3 h4
 ·intro j y hy
  have:=cellAt hu j;rw [List.getElem?_toArray,hy] at this;rw [show(⟨b,0,none⟩:Addr).add j=⟨b,j,none⟩ from by rw [Addr.add_lit,Nat.zero_add]];exact this
 ·have:(n+1) * bytes≤(n+1) * 64:=Nat.mul_le_mul_left _ hb64
  omega
set_option maxRecDepth 100000 in
set_option maxHeartbeats 8000000 in
theorem owner117_any(rb pb fb base:Nat)(x0 x3 x4 v1 v2:Value)(sl ms:List Value)(n1 n2:Nat)(t:List UInt8)(w:World)(h:RdAt w rb t)(hm:OM pb fb base x0 x3 x4 v1 v2 sl ms n1 n2 w)(ha:Apart rb pb fb v1 v2)(hbase:base≤w.heap.size)(hn1:n1≤100000)(hn2:n2≤100000)(hl:t.length≤2000) :
  Calls Tryz.prog 117 #[bp pb,bp rb,bp fb] w (OwnerPost rb pb base x0 x3 x4 v1 v2 sl ms n1 n2 (ownerR t) w):=by
 have HA:=Lib.hid ha;have hpw:=lt_of_heap hm.p;have hrw:=lt_of_heap h;have hfw:=lt_of_heap hm.f;have M0:=Lib.hid hm;have R0:=Lib.hid h
 have HS:=Lib.hid (show ownerR t=(match numP t with
  | none=>none
  | some (m,t1)=>(intsP t1.length t1 []).map fun p=>((m,p.1),p.2)) from rfl)
 clear h hm ha;go_enter Tryz.func117,Tryz.ntmps117;go_upto_region 0 with (fail)
 refine wp_region_stg (S:=(fun w':World=>w'.cell? ⟨fb,0,none⟩=some (.func (.func 94) #[] #[]))) (L:=[(12,(fun w':World=>w'.cell? ⟨pb,2,none⟩=some v2))]) (D:=[(12,4)]) (by kernel_rfl) (by kernel_rfl) (by exact cellAt (M0.out.grow (Below.drew (Below.refl _ _))).f 0) (by intro e he; simp only [List.mem_cons,List.mem_nil_iff,or_false] at he; subst he; exact cellAt (M0.out.grow (Below.drew (Below.refl _ _))).p 2) (fun hC0 hH0=>?_);have M1:=Lib.hid (M0.out.grow (Below.drew (Below.refl _ _)));have R1:=Lib.hid (show RdAt w.drew rb t from BoxAt.grow R0.out (Below.drew (Below.refl _ _)));have K1:=Lib.hid (show Keep (KeepO rb pb v1 v2 w) w w.drew from Keep.of_below (Below.drew (Below.refl _ _)) fun _ h=>h.1);clear M0 R0;generalize World.drew w=p0 at *;refine tkA (i:=0) (v:=?_) rfl hC0 (Or.inl ⟨by rfl,?_⟩) hH0 (fun hC1 hH1=>?_);rotate_left
 ·(intro w9 hSw; obtain⟨hSw,hLw⟩:=hSw; clear hLw; (try dsimp only at hSw); (go_split_ands; go_simp); (try with_reducible rfl))
 clear hC0 hH0
 try simp only [Act.put,List.setIfInBounds_toArray,List.set_cons_zero,List.set_cons_succ]
 refine tkA (i:=1) (v:=?_) rfl hC1 (Or.inl ⟨by rfl,?_⟩) hH1 (fun hC2 hH2=>?_);rotate_left
 ·(intro w9 hSw; obtain⟨hSw,hLw⟩:=hSw; clear hLw; (try dsimp only at hSw); (go_split_ands; go_simp); (try with_reducible rfl))
 clear hC1 hH1
 try simp only [Act.put,List.setIfInBounds_toArray,List.set_cons_zero,List.set_cons_succ]
 refine tkA (i:=2) (v:=?_) rfl hC2 (Or.inl ⟨by rfl,?_⟩) hH2 (fun hC3 hH3=>?_);rotate_left
 ·(intro w9 hSw; obtain⟨hSw,hLw⟩:=hSw; clear hLw; (try dsimp only at hSw); (go_split_ands; go_simp); (try with_reducible rfl))
 clear hC2 hH2
 try simp only [Act.put,List.setIfInBounds_toArray,List.set_cons_zero,List.set_cons_succ]
 refine tkA (i:=3) (v:=?_) rfl hC3 (Or.inl ⟨by rfl,?_⟩) hH3 (fun hC4 hH4=>?_);rotate_left
 ·(intro w9 hSw; obtain⟨hSw,hLw⟩:=hSw; clear hLw; (try dsimp only at hSw); (go_split_ands; go_simp); (try with_reducible rfl))
 clear hC3 hH3
 try simp only [Act.put,List.setIfInBounds_toArray,List.set_cons_zero,List.set_cons_succ]
 refine tkA (i:=4) (v:=?_) rfl hC4 (Or.inl ⟨by rfl,?_⟩) hH4 (fun hC5 hH5=>?_);rotate_left
 ·(intro w9 hSw; obtain⟨hSw,hLw⟩:=hSw; have hl12:=hLw _ List.mem_cons_self rfl; dsimp only at hl12; clear hLw; (try dsimp only at hSw); (go_split_ands; go_simp); (try with_reducible rfl))
 clear hC4 hH4
 try simp only [Act.put,List.setIfInBounds_toArray,List.set_cons_zero,List.set_cons_succ]
 refine tkA (i:=5) (v:=?_) rfl hC5 (Or.inl ⟨by rfl,?_⟩) hH5 (fun hC6 hH6=>?_);rotate_left
 ·(intro w9 hSw; obtain⟨hSw,hLw⟩:=hSw; clear hLw; (try dsimp only at hSw); (go_split_ands; go_simp); (try with_reducible rfl))
 clear hC5 hH5
 try simp only [Act.put,List.setIfInBounds_toArray,List.set_cons_zero,List.set_cons_succ]
 refine tkA (i:=6) (v:=?_) rfl hC6 (Or.inl ⟨by rfl,?_⟩) hH6 (fun hC7 hH7=>?_);rotate_left
 ·(intro w9 hSw; obtain⟨hSw,hLw⟩:=hSw; clear hLw; (try dsimp only at hSw); (go_split_ands; go_simp); (try with_reducible rfl))
 clear hC6 hH6
 try simp only [Act.put,List.setIfInBounds_toArray,List.set_cons_zero,List.set_cons_succ]
 refine onA (i:=7) rfl hC7 (fun K hK=>?_);clear hC7 hH7;go_simp;refine(number94_any rb t p0 R1.out hl).mono ?_;intro e p1 hpost;obtain⟨ho,hh⟩:=hpost;have hk1:=keepO_off K1.out ho
 cases hr:numP t with
 | none =>
  rw [hr] at hh;dsimp only at hh;subst hh;simp only [err];exact⟨rfl,hk1,by rw [HS.out,hr]; rfl⟩
 | some p =>
 obtain⟨m,t1⟩:=p;rw [hr] at hh HS;obtain⟨he,hrd⟩:=hh;subst he;dsimp only at HS;have hl1:=numP_shorter hr;have M2:=Lib.hid (M1.out.off HA.out ho);have R2:=Lib.hid hrd;have K2:=Lib.hid hk1;clear ho hrd hr hk1 M1 R1 K1;go_wp2_with fail;refine hK.out _ _ ?_ (fun hC8 hH8=>?_)
 ·exact⟨cellAt M2.out.f 0,fun e he _=>by simp only [List.mem_cons,List.mem_nil_iff,or_false] at he; subst he; exact cellAt M2.out.p 2⟩
 clear hK K
 try simp only [Act.put,List.setIfInBounds_toArray,List.set_cons_zero,List.set_cons_succ]
 refine onA (i:=8) rfl hC8 (fun K hK=>?_);clear hC8 hH8;have hal:=(Below.refl p1.heap.size p1).alloc (Nat.le_refl _) (.cells #[.int .i64 m] 3);have M3:=Lib.hid (M2.out.grow hal);have R3:=Lib.hid (show RdAt (p1.alloc (.cells #[.int .i64 m] 3)) rb t1 from BoxAt.grow R2.out hal);have K3:=Lib.hid (keepO_grow K2.out hal);have Y3:=Lib.hid (show BoxAt (p1.alloc (.cells #[.int .i64 m] 3)) p1.heap.size #[.int .i64 m] 3 from heap_alloc_new _ _);go_simp;go_wp2_with fail;generalize World.alloc p1 _=p2 at *;generalize p1.heap.size=yb at *;clear hal M2 R2 K2;refine hK.out _ _ ?_ (fun hC9 hH9=>?_)
 ·exact⟨cellAt M3.out.f 0,fun e he _=>by simp only [List.mem_cons,List.mem_nil_iff,or_false] at he; subst he; exact cellAt M3.out.p 2⟩
 clear hK K
 try simp only [Act.put,List.setIfInBounds_toArray,List.set_cons_zero,List.set_cons_succ]
 refine onA (i:=9) rfl hC9 (fun K hK=>?_);clear hC9 hH9;have hsz:=K3.out.size;refine step_appOne (w:=p2) elem3 (by rfl) (.tmp 10) (.tmp 14) (by rfl) (v:=v2) (xs:=ms) (base:=base) (n:=n2) (by rfl) M3.out.m (b:=yb) (u:=.int .i64 m) (by rfl) Y3.out (by rfl) (by omega) (by omega) ?_;intro g cap p3 hown hg hor;have ka:=keep_grown hg;have hne:∀ g,v1.ownBlock=some g→v2.ownBlock≠some g:=own_apart M3.out.o M3.out.m (by decide);have M4:=Lib.hid (show BoxAt p3 pb #[x0,v1,v2,x3,x4] 34∧NumBox p3 fb∧p3.ownsRow base 26 1 v1 n1 sl from⟨ka.box M3.out.p ⟨lt_of_heap M3.out.p,fun e=>HA.out.p2 e.symm⟩,ka.box M3.out.f ⟨lt_of_heap M3.out.f,fun e=>HA.out.f2 e.symm⟩,ka.row M3.out.o fun g e=>⟨(M3.out.o.lt g e).2,fun e2=>hne g e e2.symm⟩⟩);have R4:=Lib.hid (show RdAt p3 rb t1 from ka.box R3.out ⟨lt_of_heap R3.out,fun e=>HA.out.r2 e.symm⟩);have K4:=Lib.hid (show Keep (KeepO rb pb v1 v2 w) w p3 from K3.out.trans (Keep.mono ka fun k hk=>⟨Nat.lt_of_lt_of_le hk.1 hsz,fun e=>hk.2.2.2.2 e.symm⟩));have V4:=Lib.hid hown
 have O4:=Lib.hid (show ∀ k,(Value.slice (some ⟨g,0,none⟩) (n2+1) cap).ownBlock=some k→v2.ownBlock=some k∨w.heap.size≤k from fun k e=>by
  cases e
  rcases hor with h | h
  ·exact .inl h
  ·exact .inr (show w.heap.size≤g by omega))
 clear hown hg hor ka hne hsz M3 R3 K3 Y3;refine hK.out _ _ ?_ (fun hC10 hH10=>?_)
 ·exact⟨cellAt M4.out.2.1 0,fun e he _=>by simp only [List.mem_cons,List.mem_nil_iff,or_false] at he; subst he; exact cellAt M4.out.1 2⟩
 clear hK K
 try simp only [Act.put,List.setIfInBounds_toArray,List.set_cons_zero,List.set_cons_succ]
 refine tkA (i:=10) (v:=?_) rfl hC10 (Or.inl ⟨by rfl,?_⟩) hH10 (fun hC11 hH11=>?_);rotate_left
 ·(intro w9 hSw; obtain⟨hSw,hLw⟩:=hSw; clear hLw; (try dsimp only at hSw); (go_split_ands; go_simp); (try with_reducible rfl))
 clear hC10 hH10
 try simp only [Act.put,List.setIfInBounds_toArray,List.set_cons_zero,List.set_cons_succ]
 refine tkA (i:=11) (v:=?_) rfl hC11 (Or.inl ⟨by rfl,?_⟩) hH11 (fun hC12 hH12=>?_);rotate_left
 ·(intro w9 hSw; obtain⟨hSw,hLw⟩:=hSw; clear hLw; (try dsimp only at hSw); (go_split_ands; go_simp); (try with_reducible rfl))
 clear hC11 hH11
 try simp only [Act.put,List.setIfInBounds_toArray,List.set_cons_zero,List.set_cons_succ]
 refine onA (i:=12) rfl hC12 (fun K hK=>?_);clear hC12 hH12;have c0:=cellAt M4.out.1 2;have f0:=freeAt M4.out.1 2;simp only [List.getElem?_toArray,List.getElem?_cons_zero,List.getElem?_cons_succ] at c0;go_simp;go_wp2_with fail;refine hK.out _ _ ?_ (fun hC13 hH13=>?_)
 ·exact⟨cellAt (BoxAt.set M4.out.2.1 _ _ (by dsimp only; exact fun e=>HA.out.fp e.symm)) 0,fun e he h=>by simp only [List.mem_cons,List.mem_nil_iff,or_false] at he; subst he; exact absurd h (by intro hx; exact Bool.false_ne_true (hx.symm.trans (by kernel_rfl)))⟩
 clear hK K
 try simp only [Act.put]
 refine wpAnyT_done (by kernel_rfl) ?_ _;clear hC13 hH13;have hmr:v1.ownBlock≠some pb:=HA.out.p1
 have M5:=Lib.hid (show OM pb fb base x0 x3 x4 v1 (.slice (some ⟨g,0,none⟩) (n2+1) cap) sl (ms ++ [.int .i64 m]) n1 (n2+1) (p3.setCell ⟨pb,2,none⟩ (.slice (some ⟨g,0,none⟩) (n2+1) cap)) from by
   have hk:Keep (fun k=>k≠pb) p3 (p3.setCell ⟨pb,2,none⟩ (.slice (some ⟨g,0,none⟩) (n2+1) cap)):=(Keep.refl _ _).set pb 2 _ (fun h=>h rfl)
   exact⟨M4.out.1.store 2 _,hk.box M4.out.2.1 HA.out.fp,hk.row M4.out.2.2 (fun k e e2=>HA.out.p1 (e2 ▸ e)),hk.row V4.out (fun k e e2=>by subst e2; rcases O4.out _ e with h | h; exact HA.out.p2 h; omega)⟩)
 have R5:=Lib.hid (show RdAt (p3.setCell ⟨pb,2,none⟩ (.slice (some ⟨g,0,none⟩) (n2+1) cap)) rb t1 from BoxAt.set R4.out _ _ (by dsimp only; exact HA.out.pr));have K5:=Lib.hid (Keep.set K4.out pb 2 (.slice (some ⟨g,0,none⟩) (n2+1) cap) (fun hh=>hh.2.2.1 rfl));have HA5:=Lib.hid (show Apart rb pb fb v1 (.slice (some ⟨g,0,none⟩) (n2+1) cap) from⟨HA.out.pr,HA.out.fr,HA.out.fp,HA.out.r1,fun e=>by rcases O4.out _ e with h | h; exact HA.out.r2 h; omega,HA.out.p1,fun e=>by rcases O4.out _ e with h | h; exact HA.out.p2 h; omega,HA.out.f1,fun e=>by rcases O4.out _ e with h | h; exact HA.out.f2 h; omega⟩);clear M4 R4 K4 V4 hmr;generalize World.setCell p3 _ _=p4 at *;generalize Value.slice (some ⟨g,0,none⟩) (n2+1) cap=v2n at *;obtain⟨R,hR⟩:∃ R,intsP t1.length t1 []=R:=⟨_,rfl⟩
 have hs4:=K5.out.size;have I0:=Lib.hid (show NI rb pb fb base p4.heap.size x0 x3 x4 v1 v2 v2n sl (ms ++ [.int .i64 m]) n1 (n2+1) R w t1.length [] t1 (.slice none 0 0) p4 from⟨R5.out,M5.out,World.ownsRow_nil _ _ _ _,K5.out,Nat.le_refl _,hR,Nat.le_refl _,by simp only [List.length_nil]; omega⟩);have HM5:=Lib.hid (show ∀ g,v2n.ownBlock=some g→g<p4.heap.size from fun g e=>(M5.out.m.lt g e).2);obtain⟨s2,hs2⟩:∃ s2,p4.heap.size=s2:=⟨_,rfl⟩
 rw [hs2] at I0 HM5 hs4;rw [hR] at HS;clear hR hs2 M5 R5 K5;go_wp2_with fail
 go_loopw [5] (fun y wr => ∃ fuel l r,NI rb pb fb base s2 x0 x3 x4 v1 v2 v2n sl (ms ++ [.int .i64 m]) n1 (n2+1) R w fuel l r y wr∧r.length≤2000) (fun _ wr=>rdLen rb wr)
 case atStart=>exact⟨_,_,_,I0.out,by omega⟩
 case round =>
  obtain⟨fuel,l,r,hi,hrl2⟩:=hrel;have I1:=Lib.hid hi;clear hi I0;obtain⟨y,rfl⟩:∃ y,y=u5:=⟨_,rfl⟩
  have hm:=rdLen_at I1.out.rd;have C1:=Lib.hid (sees_any rb r [32] _ I1.out.rd);go_wp2_with (go_at_call 95; refine C1.out.mono ?_);rintro e w1 ⟨rfl,rfl⟩;have hf:OffR rb wr (wr.setCell ⟨rb,0,none⟩ (.string ⟨(seesT r [32]).toArray⟩)):=OffR.set _;have hyr:∀ g,y.ownBlock=some g→g≠rb:=fun g e e2=>by have:=(I1.out.y.lt g e).1; omega
  have M2:=Lib.hid (I1.out.om.off HA5.out hf);have K2:=Lib.hid (keepO_off I1.out.keep hf);have R2:=Lib.hid (I1.out.rd.set (seesT r [32]));have Y2:=Lib.hid (Keep.row hf I1.out.y fun g e=>⟨(I1.out.y.lt g e).2,hyr g e⟩);have hz2:=I1.out.s2;have hz3:wr.heap.size=(wr.setCell ⟨rb,0,none⟩ (.string ⟨(seesT r [32]).toArray⟩)).heap.size:=(size_setCell _ _ _).symm;rw [hz3] at hz2;have HRES:=Lib.hid I1.out.res;have hfu:=I1.out.fuel;have hln:=I1.out.len;clear hf hyr hz3 C1 I1
  cases hp:Lib.hasPrefix r [32] with
  | false =>
   rw [seesT_no hp] at R2 M2 K2 Y2 hz2 ⊢;have HR:=Lib.hid (show R=some (l,r) from by rw [← HRES.out]; exact intsP_end _ _ _ hp);clear hp HRES;generalize World.setCell wr _ _=p5 at *;obtain⟨ya,yc,hy⟩:=own_slice Y2.out;subst hy;have al:=(Below.refl p5.heap.size p5).alloc (Nat.le_refl _) (.cells #[.slice ya l.length yc] 26);have c1:=cellAt M2.out.p 1;simp only [List.getElem?_toArray,List.getElem?_cons_zero,List.getElem?_cons_succ] at c1;have M3:=Lib.hid (M2.out.grow al);have R3:=Lib.hid (show RdAt (p5.alloc (.cells #[.slice ya l.length yc] 26)) rb r from BoxAt.grow R2.out al);have K3:=Lib.hid (keepO_grow K2.out al);have Y3:=Lib.hid (Keep.row (Keep.of_below al (C:=fun k=>k<p5.heap.size) fun _ hk=>hk) Y2.out fun g e=>(Y2.out.lt g e).2);have N3:=Lib.hid (show BoxAt (p5.alloc (.cells #[.slice ya l.length yc] 26)) p5.heap.size [.slice ya l.length yc].toArray 26 from heap_alloc_new _ _);have hy1:(Value.slice ya l.length yc).oneCell'=true:=rfl;have hsz3:=al.size;clear al;obtain⟨i0,hi0,hz0,hz1,hz4⟩:=info26;go_wp2_with (at_builtin; refine wpList_appR owners30 hi0 hz0 hz1 hz4 (by rfl) (by decide) (by decide) (by rfl) (.tmp 30) (.tmp 32) (by rfl) (by rfl) M3.out.o (by rfl) N3.out (by rfl) (fun u hu=>by rw [List.mem_singleton] at hu; rw [hu]; exact hy1) (by omega) (by have:=K3.out.size; omega) ?_);intro g2 cap2 w8 h2 h3 h4;have ka:=keep_grown h3;have hne:∀ g,v2n.ownBlock=some g→v1.ownBlock≠some g:=own_apart M3.out.m M3.out.o (by decide);have hney:∀ g,(Value.slice ya l.length yc).ownBlock=some g→v1.ownBlock≠some g:=own_apart Y3.out M3.out.o (by decide);have P4:=Lib.hid (ka.box M3.out.p ⟨lt_of_heap M3.out.p,fun e=>HA5.out.p1 e.symm⟩);have V4:=Lib.hid (ka.row M3.out.m fun g e=>⟨(M3.out.m.lt g e).2,fun e2=>hne g e e2.symm⟩);have Y4:=Lib.hid (ka.row Y3.out fun g e=>⟨(Y3.out.lt g e).2,fun e2=>hney g e e2.symm⟩);have R4:=Lib.hid (show RdAt w8 rb r from ka.box R3.out ⟨lt_of_heap R3.out,fun e=>HA5.out.r1 e.symm⟩);have hk3:=K3.out.size;have K4:=Lib.hid (show Keep (KeepO rb pb v1 v2 w) w w8 from K3.out.trans (Keep.mono ka fun k hk=>⟨Nat.lt_of_lt_of_le hk.1 hk3,fun e=>hk.2.2.2.1 e.symm⟩))
   have O4b:=Lib.hid (show ∀ k,(Value.slice (some ⟨g2,0,none⟩) (n1+1) cap2).ownBlock=some k→v1.ownBlock=some k∨w.heap.size≤k from fun k e=>by
    cases e
    rcases h4 with h | h
    ·exact .inl h
    ·exact .inr (show w.heap.size≤g2 by omega))
   have W4:=Lib.hid h2;have c2:=cellAt P4.out 1;have f2:=freeAt P4.out 1;simp only [List.getElem?_toArray,List.getElem?_cons_zero,List.getElem?_cons_succ] at c2;clear h2 h3 h4 ka hne hney hi0 hz0 hz1 hz4 M3 R3 K3 Y3 N3 c1;go_wp2_with fail
   go_end0
   have hk:Keep (fun k=>k≠pb) w8 (w8.setCell ⟨pb,1,none⟩ (.slice (some ⟨g2,0,none⟩) (n1+1) cap2)):=(Keep.refl _ _).set pb 1 _ (fun h=>h rfl);refine⟨Keep.set K4.out pb 1 _ (fun hh=>hh.2.2.1 rfl),?_⟩;rw [HS.out,HR.out];refine⟨rfl,BoxAt.set R4.out _ _ (by dsimp only; exact HA5.out.pr),_,v2n,.slice ya l.length yc,P4.out.store 1 _,hk.row W4.out (fun k e e2=>by subst e2; rcases O4b.out _ e with h | h; exact HA5.out.p1 h; omega),hk.row V4.out (fun k e e2=>HA5.out.p2 (e2 ▸ e)),own_low (hk.row Y4.out (fun k e e2=>by have:=(Y4.out.lt k e).1; omega)) (by omega),O4b.out,O4.out,fun g e=>⟨by have:=(Y4.out.lt g e).1; omega,fun e2=>by have:=(Y4.out.lt g e).1; have:=HM5.out g e2; omega⟩⟩
  | true =>
   rw [seesT_yes hp] at R2 M2 K2 Y2 hz2 ⊢;have hdl:(r.drop 1).length+1=r.length:=by have:=drop_prefix_length hp; rw [List.length_drop]; simp only [List.length_cons,List.length_nil] at this; omega
   have HST:=Lib.hid (show R=(match numP (r.drop 1) with | none=>none | some (n,r)=>intsP (fuel - 1) r (l ++ [n])) from by
     rw [← HRES.out];obtain⟨k,rfl⟩:∃ k,fuel=k+1:=⟨fuel - 1,by omega⟩
     exact intsP_step k r l hp)
   clear hp HRES;generalize hq:r.drop 1=q at *;generalize World.setCell wr _ _=p5 at *;clear hq;have C2:=Lib.hid (number94_any rb q p5 R2.out (by omega));have d0:=cellAt M2.out.f 0;simp only [List.getElem?_toArray,List.getElem?_cons_zero] at d0;go_wp2_with fail;refine C2.out.mono ?_;intro e p6 hpost;obtain⟨ho,hh⟩:=hpost;have hk3:=keepO_off K2.out ho
   cases hr:numP q with
   | none =>
    rw [hr] at hh;dsimp only at hh;subst hh;simp only [err];exact⟨rfl,hk3,by rw [HS.out,HST.out,hr]; rfl⟩
   | some p =>
   obtain⟨z,t3⟩:=p;rw [hr] at hh HST;obtain⟨he,hrd⟩:=hh;subst he;dsimp only at HST;have hl3:=numP_shorter hr;have M3:=Lib.hid (M2.out.off HA5.out ho);have K3:=Lib.hid hk3;have R3:=Lib.hid hrd;have Y3:=Lib.hid (Keep.row ho Y2.out fun g e=>⟨(Y2.out.lt g e).2,fun e2=>by have:=(Y2.out.lt g e).1; omega⟩);have hs3:=ho.size;clear ho hrd hr hk3 M2 R2 K2 Y2 C2 d0;have hal:=(Below.refl p6.heap.size p6).alloc (Nat.le_refl _) (.cells #[.int .i64 z] 3);have M4:=Lib.hid (M3.out.grow hal);have R4:=Lib.hid (show RdAt (p6.alloc (.cells #[.int .i64 z] 3)) rb t3 from BoxAt.grow R3.out hal);have K4:=Lib.hid (keepO_grow K3.out hal);have Y4:=Lib.hid (own_grow Y3.out hal);have N4:=Lib.hid (row_box (cell:=fun _=>.int .i64 z) (n:=1) (heap_alloc_new p6 (.cells #[.int .i64 z] 3)) (by unfold maxLen; omega));have hs4b:=hal.size;clear hal;obtain⟨i0,z0,by0,hi0,hz0,hz1,hz4,hzs,hz8⟩:=elem3.info;have N5:=Lib.hid (show BoxAt (p6.alloc (.cells #[.int .i64 z] 3)) p6.heap.size [.int .i64 z].toArray 3 from heap_alloc_new _ _);go_wp2_with (at_builtin; refine wpList_appR elem3.slice hi0 hz0 hz1 hz4 hzs (by decide) (by omega) (by rfl) (.tmp 20) (.tmp 24) (by rfl) (by rfl) Y4.out (by rfl) N5.out (by rfl) (fun u hu=>by rw [List.mem_singleton] at hu; rw [hu]; rfl) (by omega) (by omega) ?_);intro g2 cap2 w8 h2 h3 h4;have ka:=keep_grown h3;have hyb:∀ k,k<s2→some k≠y.ownBlock:=fun k hk e=>by have:=(Y4.out.lt k e.symm).1; omega
   have M5:=Lib.hid (M4.out.keep ka ⟨lt_of_heap M4.out.p,hyb _ (by omega)⟩ ⟨lt_of_heap M4.out.f,hyb _ (by omega)⟩ (fun g e=>⟨(M4.out.o.lt g e).2,fun e2=>own_apart M4.out.o Y4.out (by decide) g e e2.symm⟩) (fun g e=>⟨(M4.out.m.lt g e).2,hyb _ (HM5.out g e)⟩));have R5:=Lib.hid (show RdAt w8 rb t3 from ka.box R4.out ⟨lt_of_heap R4.out,hyb _ (by omega)⟩);have hk4:=K4.out.size;have K5:=Lib.hid (show Keep (KeepO rb pb v1 v2 w) w w8 from K4.out.trans (Keep.mono ka fun k hk=>⟨Nat.lt_of_lt_of_le hk.1 hk4,hyb _ (by have:=hk.1; omega)⟩))
   have Y5:=Lib.hid (show w8.ownsRow s2 3 1 (.slice (some ⟨g2,0,none⟩) (l.length+1) cap2) (l ++ [z]).length (intsV (l ++ [z])) from by
     rw [List.length_append,intsV,List.map_append]
     exact h2)
   have hs5:=ka.size;clear h2 h3 h4 ka hyb hi0 hz0 hz1 hz4 hzs hz8 M4 R4 K4 Y4 N4 N5;go_wp2_with fail;have hm8:=rdLen_at R5.out;exact⟨⟨_,_,_,⟨R5.out,M5.out,Y5.out,K5.out,by omega,HST.out.symm,by omega,by rw [List.length_append,List.length_singleton]; omega⟩,by omega⟩,by rw [hm8]; omega⟩
end Go.Proofs.YtclbmlmlhiiaeaaGreatDoor
namespace Go.Proofs.YtclbmlmlhiiaeaaGreatDoor
open Go.RowKit
theorem info149:∃ i,Tryz.prog.info? 149=some i∧i.zero=some (.agg #[.int .i64 0,.int .i64 0,.int .i64 0])∧i.size=3∧i.bytes=24 :=
 ⟨(Tryz.prog.info? 149).get (by kernel_rfl),by kernel_rfl,by kernel_rfl,by kernel_rfl,by kernel_rfl⟩
theorem info85:∃ i,Tryz.prog.info? 85=some i∧i.zero=some (.slice none 0 0)∧i.size=1∧i.bytes=24 :=
 ⟨(Tryz.prog.info? 85).get (by kernel_rfl),by kernel_rfl,by kernel_rfl,by kernel_rfl,by kernel_rfl⟩
theorem st31:Tryz.prog.underlying 31=some (.slice 85):=by kernel_rfl
theorem mk85:Tryz.prog.underlying 85=some (.slice 149):=by kernel_rfl
def markR(t:List UInt8):Option ((Int×Int×Int)×List UInt8) :=
 match numP t with
 | none=>none
 | some (n,t1)=>if Lib.hasPrefix t1 [61] then match spanP (t1.drop 1) with
   | none=>none
   | some (p,t2)=>some ((n,p.1,p.2),t2)
  else none
def marksP:Nat→List UInt8→List (Int×Int×Int)→Option (List (Int×Int×Int)×List UInt8)
 | 0,t,l=>some (l,t)
 | k+1,t,l=>if Lib.hasPrefix t [32] then match markR (t.drop 1) with
   | none=>none
   | some (n,r)=>marksP k r (l ++ [n])
  else some (l,t)
theorem marksP_end(k:Nat)(t:List UInt8)(l:List (Int×Int×Int))(h:Lib.hasPrefix t [32]=false):marksP k t l=some (l,t):=by
 cases k with
 | zero=>rfl
 | succ k=>simp only [marksP]; rw [h]; rfl
theorem marksP_step(k:Nat)(t:List UInt8)(l:List (Int×Int×Int))(h:Lib.hasPrefix t [32]=true):marksP (k+1) t l=match markR (t.drop 1) with | none=>none | some (n,r)=>marksP k r (l ++ [n]):=by
 simp only [marksP];rw [if_pos h]
def markVs(l:List (Int×Int×Int)):List Value:=l.flatMap fun m=>[.int .i64 m.1,.int .i64 m.2.1,.int .i64 m.2.2]
theorem markVs_snoc(l:List (Int×Int×Int))(a b c:Int):markVs (l ++ [(a,b,c)])=markVs l ++ [.int .i64 a,.int .i64 b,.int .i64 c]:=by
 unfold markVs;rw [List.flatMap_append];rfl
theorem own_growN{W W':World}{b E n z:Nat}{v:Value}{xs:List Value}(h:W.ownsRow b E z v n xs)(hb:Below W.heap.size W W'):W'.ownsRow b E z v n xs :=
 Keep.row (Keep.of_below hb (C:=fun k=>k<W.heap.size) fun _ hk=>hk) h fun g e=>(h.lt g e).2
def strakeR(t:List UInt8):Option (List (Int×Int×Int)×List UInt8):=marksP t.length t []
structure OS (pb fb base:Nat) (x0 v1 v2 v3 x4:Value) (sk:List Value) (n3:Nat) (W:World):Prop where
 p:BoxAt W pb #[x0,v1,v2,v3,x4] 34
 f:NumBox W fb
 s:W.ownsRow base 85 1 v3 n3 sk
variable {pb fb base n3:Nat} {x0 x4 v1 v2 v3:Value} {sk:List Value} {W W':World}
theorem OS.keep(h:OS pb fb base x0 v1 v2 v3 x4 sk n3 W){C:Nat→Prop}(hk:Keep C W W')(hp:C pb)(hf:C fb)(h1:∀ g,v3.ownBlock=some g→C g):OS pb fb base x0 v1 v2 v3 x4 sk n3 W' :=
 ⟨hk.box h.p hp,hk.box h.f hf,hk.row h.s h1⟩
theorem OS.grow(h:OS pb fb base x0 v1 v2 v3 x4 sk n3 W)(hb:Below W.heap.size W W'):OS pb fb base x0 v1 v2 v3 x4 sk n3 W' :=
 h.keep (Keep.of_below hb (C:=fun k=>k<W.heap.size) fun _ hk=>hk) (lt_of_heap h.p) (lt_of_heap h.f) (fun g e=>(h.s.lt g e).2)
structure ApartS (rb pb fb:Nat) (v3:Value):Prop where
 pr:pb≠rb
 fr:fb≠rb
 fp:fb≠pb
 r:v3.ownBlock≠some rb
 p:v3.ownBlock≠some pb
 f:v3.ownBlock≠some fb
theorem OS.off{rb:Nat}(h:OS pb fb base x0 v1 v2 v3 x4 sk n3 W)(a:ApartS rb pb fb v3)(hk:OffR rb W W'):OS pb fb base x0 v1 v2 v3 x4 sk n3 W' :=
 h.keep hk ⟨lt_of_heap h.p,a.pr⟩ ⟨lt_of_heap h.f,a.fr⟩ (fun g e=>⟨(h.s.lt g e).2,fun e'=>a.r (e' ▸ e)⟩)
abbrev KeepS(rb pb:Nat)(v3:Value)(w:World):Nat→Prop:=fun k=>k<w.heap.size∧k≠rb∧k≠pb∧v3.ownBlock≠some k
theorem keepS_off{rb:Nat}{w:World}(hk:Keep (KeepS rb pb v3 w) w W)(ho:OffR rb W W'):Keep (KeepS rb pb v3 w) w W' :=
 hk.trans (Keep.mono ho fun _ h=>⟨Nat.lt_of_lt_of_le h.1 hk.size,h.2.1⟩)
theorem keepS_grow{rb:Nat}{w:World}(hk:Keep (KeepS rb pb v3 w) w W)(hb:Below W.heap.size W W'):Keep (KeepS rb pb v3 w) w W' :=
 hk.below hb fun _ h=>h.1
def StrakePost(rb pb base:Nat)(x0 v1 v2 v3 x4:Value)(sk:List Value)(n3:Nat)(R:Option (List (Int×Int×Int)×List UInt8))(w:World)(e:Ending)(w':World):Prop :=
 Keep (KeepS rb pb v3 w) w w'∧match R with
 | none=>e=err 8
 | some (l,r)=>e = .returned (.tuple #[])∧RdAt w' rb r ∧ ∃ v3' y,BoxAt w' pb #[x0,v1,v2,v3',x4] 34∧w'.ownsRow base 85 1 v3' (n3+1) (sk ++ [y])∧w'.ownsRow base 149 3 y l.length (markVs l) ∧
  (∀ g,v3'.ownBlock=some g→v3.ownBlock=some g∨w.heap.size≤g)∧(∀ g,y.ownBlock=some g→w.heap.size≤g)
structure MI (rb pb fb base s2:Nat) (x0 v1 v2 v3 x4:Value) (sk:List Value) (n3:Nat) (R:Option (List (Int×Int×Int)×List UInt8)) (w:World) (fuel:Nat) (l:List (Int×Int×Int)) (r:List UInt8) (y:Value) (W:World):Prop where
 rd:RdAt W rb r
 om:OS pb fb base x0 v1 v2 v3 x4 sk n3 W
 y:W.ownsRow s2 149 3 y l.length (markVs l)
 keep:Keep (KeepS rb pb v3 w) w W
 s2:s2≤W.heap.size
 res:marksP fuel r l=R
 fuel:r.length≤fuel
 len:l.length+r.length≤3000
set_option maxRecDepth 100000 in
set_option maxHeartbeats 8000000 in
theorem strake118_any(rb pb fb base:Nat)(x0 v1 v2 v3 x4:Value)(sk:List Value)(n3:Nat)(t:List UInt8)(w:World)(h:RdAt w rb t)(hm:OS pb fb base x0 v1 v2 v3 x4 sk n3 w)(ha:ApartS rb pb fb v3)(hbase:base≤w.heap.size)(hn3:n3≤100000)(hl:t.length≤2000) :
  Calls Tryz.prog 118 #[bp pb,bp rb,bp fb] w (StrakePost rb pb base x0 v1 v2 v3 x4 sk n3 (strakeR t) w):=by
 have HA5:=Lib.hid ha;have hpw:=lt_of_heap hm.p;have hrw:=lt_of_heap h;have hfw:=lt_of_heap hm.f;obtain⟨R,hR⟩:∃ R,marksP t.length t []=R:=⟨_,rfl⟩
 have HS:=Lib.hid (show strakeR t=R from hR);have HM5:=Lib.hid (show ∀ g,v3.ownBlock=some g→g<w.heap.size from fun g e=>(hm.s.lt g e).2);have I0:=Lib.hid (show MI rb pb fb base w.heap.size x0 v1 v2 v3 x4 sk n3 R w t.length [] t (.slice none 0 0) w from⟨h,hm,World.ownsRow_nil _ _ _ _,Keep.refl _ _,Nat.le_refl _,hR,Nat.le_refl _,by simp only [List.length_nil]; omega⟩);obtain⟨s2,hs2⟩:∃ s2,w.heap.size=s2:=⟨_,rfl⟩
 rw [hs2] at I0 HM5;clear hR h hm ha;go_enter Tryz.func118,Tryz.ntmps118;go_wp2_with fail
 go_loopw [5] (fun y wr => ∃ fuel l r,MI rb pb fb base s2 x0 v1 v2 v3 x4 sk n3 R w fuel l r y wr∧r.length≤2000) (fun _ wr=>rdLen rb wr)
 case atStart=>exact⟨_,_,_,I0.out,by omega⟩
 case round =>
  obtain⟨fuel,l,r,hi,hrl2⟩:=hrel;have I1:=Lib.hid hi;clear hi I0;obtain⟨y,rfl⟩:∃ y,y=u5:=⟨_,rfl⟩
  have hm:=rdLen_at I1.out.rd;have C1:=Lib.hid (sees_any rb r [32] _ I1.out.rd);go_wp2_with (go_at_call 95; refine C1.out.mono ?_);rintro e w1 ⟨rfl,rfl⟩;have hf:OffR rb wr (wr.setCell ⟨rb,0,none⟩ (.string ⟨(seesT r [32]).toArray⟩)):=OffR.set _;have hyr:∀ g,y.ownBlock=some g→g≠rb:=fun g e e2=>by have:=(I1.out.y.lt g e).1; omega
  have M2:=Lib.hid (I1.out.om.off HA5.out hf);have K2:=Lib.hid (keepS_off I1.out.keep hf);have R2:=Lib.hid (I1.out.rd.set (seesT r [32]));have Y2:=Lib.hid (Keep.row hf I1.out.y fun g e=>⟨(I1.out.y.lt g e).2,hyr g e⟩);have hz2:=I1.out.s2;have hz3:wr.heap.size=(wr.setCell ⟨rb,0,none⟩ (.string ⟨(seesT r [32]).toArray⟩)).heap.size:=(size_setCell _ _ _).symm;rw [hz3] at hz2;have HRES:=Lib.hid I1.out.res;have hfu:=I1.out.fuel;have hln:=I1.out.len;clear hf hyr hz3 C1 I1
  cases hp:Lib.hasPrefix r [32] with
  | false =>
   rw [seesT_no hp] at R2 M2 K2 Y2 hz2 ⊢;have HR:=Lib.hid (show R=some (l,r) from by rw [← HRES.out]; exact marksP_end _ _ _ hp);clear hp HRES;generalize World.setCell wr _ _=p5 at *;obtain⟨ya,yc,hy⟩:=own_slice Y2.out;subst hy;have al:=(Below.refl p5.heap.size p5).alloc (Nat.le_refl _) (.cells #[.slice ya l.length yc] 85);have c1:=cellAt M2.out.p 3;simp only [List.getElem?_toArray,List.getElem?_cons_zero,List.getElem?_cons_succ] at c1;have M3:=Lib.hid (M2.out.grow al);have R3:=Lib.hid (show RdAt (p5.alloc (.cells #[.slice ya l.length yc] 85)) rb r from BoxAt.grow R2.out al);have K3:=Lib.hid (keepS_grow K2.out al);have Y3:=Lib.hid (Keep.row (Keep.of_below al (C:=fun k=>k<p5.heap.size) fun _ hk=>hk) Y2.out fun g e=>(Y2.out.lt g e).2);have N3:=Lib.hid (show BoxAt (p5.alloc (.cells #[.slice ya l.length yc] 85)) p5.heap.size [.slice ya l.length yc].toArray 85 from heap_alloc_new _ _);have hy1:(Value.slice ya l.length yc).oneCell'=true:=rfl;have hsz3:=al.size;clear al;obtain⟨i0,hi0,hz0,hz1,hz4⟩:=info85;go_wp2_with (at_builtin; refine wpList_appR st31 hi0 hz0 hz1 hz4 (by rfl) (by decide) (by decide) (by rfl) (.tmp 32) (.tmp 34) (by rfl) (by rfl) M3.out.s (by rfl) N3.out (by rfl) (fun u hu=>by rw [List.mem_singleton] at hu; rw [hu]; exact hy1) (by omega) (by have:=K3.out.size; omega) ?_);intro g2 cap2 w8 h2 h3 h4;have ka:=keep_grown h3;have hney:∀ g,(Value.slice ya l.length yc).ownBlock=some g→v3.ownBlock≠some g:=own_apart Y3.out M3.out.s (by decide);have P4:=Lib.hid (ka.box M3.out.p ⟨lt_of_heap M3.out.p,fun e=>HA5.out.p e.symm⟩);have Y4:=Lib.hid (ka.row Y3.out fun g e=>⟨(Y3.out.lt g e).2,fun e2=>hney g e e2.symm⟩);have R4:=Lib.hid (show RdAt w8 rb r from ka.box R3.out ⟨lt_of_heap R3.out,fun e=>HA5.out.r e.symm⟩);have hk3:=K3.out.size;have K4:=Lib.hid (show Keep (KeepS rb pb v3 w) w w8 from K3.out.trans (Keep.mono ka fun k hk=>⟨Nat.lt_of_lt_of_le hk.1 hk3,fun e=>hk.2.2.2 e.symm⟩))
   have O4b:=Lib.hid (show ∀ k,(Value.slice (some ⟨g2,0,none⟩) (n3+1) cap2).ownBlock=some k→v3.ownBlock=some k∨w.heap.size≤k from fun k e=>by
    cases e
    rcases h4 with h | h
    ·exact .inl h
    ·exact .inr (show w.heap.size≤g2 by omega))
   have W4:=Lib.hid h2;have c2:=cellAt P4.out 3;have f2:=freeAt P4.out 3;simp only [List.getElem?_toArray,List.getElem?_cons_zero,List.getElem?_cons_succ] at c2;clear h2 h3 h4 ka hney hi0 hz0 hz1 hz4 M3 R3 K3 Y3 N3 c1;go_wp2_with fail
   go_end0
   have hk:Keep (fun k=>k≠pb) w8 (w8.setCell ⟨pb,3,none⟩ (.slice (some ⟨g2,0,none⟩) (n3+1) cap2)):=(Keep.refl _ _).set pb 3 _ (fun h=>h rfl);refine⟨Keep.set K4.out pb 3 _ (fun hh=>hh.2.2.1 rfl),?_⟩;rw [HS.out,HR.out];refine⟨rfl,BoxAt.set R4.out _ _ (by dsimp only; exact HA5.out.pr),_,.slice ya l.length yc,P4.out.store 3 _,hk.row W4.out (fun k e e2=>by subst e2; rcases O4b.out _ e with h | h; exact HA5.out.p h; omega),own_low (hk.row Y4.out (fun k e e2=>by have:=(Y4.out.lt k e).1; omega)) (by omega),O4b.out,fun g e=>by have:=(Y4.out.lt g e).1; omega⟩
  | true =>
   rw [seesT_yes hp] at R2 M2 K2 Y2 hz2 ⊢;have hdl:(r.drop 1).length+1=r.length:=by have:=drop_prefix_length hp; rw [List.length_drop]; simp only [List.length_cons,List.length_nil] at this; omega
   have HST:=Lib.hid (show R=(match markR (r.drop 1) with | none=>none | some (n,r)=>marksP (fuel - 1) r (l ++ [n])) from by
     rw [← HRES.out];obtain⟨k,rfl⟩:∃ k,fuel=k+1:=⟨fuel - 1,by omega⟩
     exact marksP_step k r l hp)
   clear hp HRES;generalize hq:r.drop 1=q at *;generalize World.setCell wr _ _=p5 at *;clear hq
   have HMR:=Lib.hid (show markR q=(match numP q with
     | none=>none
     | some (n,t1)=>if Lib.hasPrefix t1 [61] then match spanP (t1.drop 1) with
       | none=>none
       | some (p,t2)=>some ((n,p.1,p.2),t2)
      else none) from rfl)
   have C2:=Lib.hid (number94_any rb q p5 R2.out (by omega));have d0:=cellAt M2.out.f 0;simp only [List.getElem?_toArray,List.getElem?_cons_zero] at d0;go_wp2_with fail;refine C2.out.mono ?_;intro e p6 hpost;obtain⟨ho,hh⟩:=hpost;have hk3:=keepS_off K2.out ho
   cases hr:numP q with
   | none =>
    rw [hr] at hh;dsimp only at hh;subst hh;simp only [err];exact⟨rfl,hk3,by rw [HS.out,HST.out,HMR.out,hr]; rfl⟩
   | some p =>
   obtain⟨z,t3⟩:=p;rw [hr] at hh HMR;obtain⟨he,hrd⟩:=hh;subst he;dsimp only at HMR;have hl3:=numP_shorter hr;have hal:=(Below.refl p6.heap.size p6).alloc (Nat.le_refl _) (.cells #[.int .i64 z,.int .i64 0,.int .i64 0] 149);have M3:=Lib.hid ((M2.out.off HA5.out ho).grow hal);have K3:=Lib.hid (keepS_grow hk3 hal);have R3:=Lib.hid (show RdAt (p6.alloc (.cells #[.int .i64 z,.int .i64 0,.int .i64 0] 149)) rb t3 from BoxAt.grow hrd hal);have Y3:=Lib.hid (own_growN (Keep.row ho Y2.out fun g e=>⟨(Y2.out.lt g e).2,fun e2=>by have:=(Y2.out.lt g e).1; omega⟩) hal);have B3:=Lib.hid (show BoxAt (p6.alloc (.cells #[.int .i64 z,.int .i64 0,.int .i64 0] 149)) p6.heap.size #[.int .i64 z,.int .i64 0,.int .i64 0] 149 from heap_alloc_new _ _);have hs3:=ho.size;have hyp:∀ g,y.ownBlock=some g→g<p6.heap.size:=fun g e=>Nat.lt_of_lt_of_le (Y2.out.lt g e).2 ho.size;have hs3b:=hal.size;clear ho hrd hr hk3 hal M2 R2 K2 Y2 C2 d0;go_upto_region 3 with (fail)
   generalize p6.heap.size=q1 at *;generalize World.alloc p6 _=p7 at *;have hrq:rb<q1:=by omega
   have C3:=Lib.hid (word_any rb t3 [61] p7 R3.out);go_wp2_with fail;refine C3.out.mono ?_;intro e p8 hpost;obtain⟨ho,hh⟩:=hpost;have hk3:=keepS_off K3.out ho
   cases hp1:Lib.hasPrefix t3 [61] with
   | false =>
    rw [hp1] at hh;have he:e=err 8:=hh;subst he;simp only [err];exact⟨rfl,hk3,by rw [HS.out,HST.out,HMR.out,hp1]; rfl⟩
   | true =>
   rw [hp1] at hh;obtain⟨he,hrd⟩:=(show e = .returned (.tuple #[])∧RdAt p8 rb (t3.drop 1) from hh)
   subst he
   have HM1:=Lib.hid (show markR q=(match spanP (t3.drop 1) with
       | none=>none
       | some (p,t2)=>some ((z,p.1,p.2),t2)) from by rw [HMR.out,hp1]; rfl)
   have hd3:(t3.drop 1).length≤t3.length:=by rw [List.length_drop]; omega
   have M4:=Lib.hid (M3.out.off HA5.out ho);have K4:=Lib.hid hk3;have R4:=Lib.hid hrd;have Y4:=Lib.hid (Keep.row ho Y3.out fun g e=>⟨(Y3.out.lt g e).2,fun e2=>by have:=(Y3.out.lt g e).1; omega⟩);have B4:=Lib.hid (ho.box B3.out (by omega));have hs4:=ho.size;clear ho hh hrd hp1 hk3 C3 M3 K3 R3 Y3 B3 HMR;generalize t3.drop 1=t4 at *;go_upto_region 4 with (fail)
   have C4:=Lib.hid (span99_any rb t4 p8 R4.out (by omega));go_wp2_with fail;refine C4.out.mono ?_;intro e p9 hpost;obtain⟨ho,hh⟩:=hpost;have hk3:=keepS_off K4.out ho
   cases hr:spanP t4 with
   | none =>
    rw [hr] at hh;dsimp only at hh;subst hh;simp only [err];exact⟨rfl,hk3,by rw [HS.out,HST.out,HM1.out,hr]; rfl⟩
   | some p =>
   obtain⟨⟨lo,hi⟩,t5⟩:=p;rw [hr] at hh HM1;obtain⟨he,hrd⟩:=hh;subst he;dsimp only at HM1;have hl5:=spanP_shorter hr;have HST1:=Lib.hid (show R=marksP (fuel - 1) t5 (l ++ [(z,lo,hi)]) from by rw [HST.out,HM1.out]);have hal:=(Below.refl p9.heap.size p9).alloc (Nat.le_refl _) (.cells #[.int .i64 lo,.int .i64 hi] 128);have M5:=Lib.hid ((M4.out.off HA5.out ho).grow hal);have K5:=Lib.hid (keepS_grow hk3 hal);have R5:=Lib.hid (show RdAt (p9.alloc (.cells #[.int .i64 lo,.int .i64 hi] 128)) rb t5 from BoxAt.grow hrd hal);have Y5:=Lib.hid (own_growN (Keep.row ho Y4.out fun g e=>⟨(Y4.out.lt g e).2,fun e2=>by have:=(Y4.out.lt g e).1; omega⟩) hal);have B5:=Lib.hid ((ho.box B4.out (by omega)).grow hal);have D5:=Lib.hid (show BoxAt (p9.alloc (.cells #[.int .i64 lo,.int .i64 hi] 128)) p9.heap.size #[.int .i64 lo,.int .i64 hi] 128 from heap_alloc_new _ _);have hs5:=ho.size;have hs5b:=hal.size;have hq12:=lt_of_heap (ho.box B4.out (by omega));clear ho hrd hr hk3 hal M4 R4 K4 Y4 B4 C4 HST HM1;go_upto_region 5 with (fail)
   generalize p9.heap.size=q2 at *;generalize World.alloc p9 _=pA at *;refine wp_region_held_drew (S:=(fun w':World=>w'.cell? ⟨q2,0,none⟩=some (.int .i64 lo)∧w'.cell? ⟨q2,1,none⟩=some (.int .i64 hi))) (by kernel_rfl) ⟨cellAt (D5.out.grow (Below.drew (Below.refl _ _))) 0,cellAt (D5.out.grow (Below.drew (Below.refl _ _))) 1⟩ (fun hHeld=>?_);have hbd:=Below.drew (Below.refl pA.heap.size pA);have M6:=Lib.hid (M5.out.grow hbd);have K6:=Lib.hid (keepS_grow K5.out hbd);have R6:=Lib.hid (show RdAt pA.drew rb t5 from BoxAt.grow R5.out hbd);have Y6:=Lib.hid (own_growN Y5.out hbd);have B6:=Lib.hid (B5.out.grow hbd);have D6:=Lib.hid (D5.out.grow hbd);have hs6:=hbd.size;clear hbd M5 K5 R5 Y5 B5 D5;generalize World.drew pA=p0 at *;have c5:=cellAt B6.out 1;have f5:=freeAt B6.out 1;simp only [List.getElem?_toArray,List.getElem?_cons_zero,List.getElem?_cons_succ] at c5;refine wpAnyH_take (i:=0) (oi:={dst:=some 18,op:=Op.fieldAddr 128 (Operand.tmp 7) 0,type:=0,pos := "book.go:278",after:=#[],guard:=none}) (v:=?_) rfl (by kernel_rfl) (by kernel_rfl) (by kernel_rfl) (fun _ _ _ h=>h) (Or.inl ⟨by rfl,?_⟩) (by assumption) ?_;rotate_left
   ·(intro w9 hSw; (try dsimp only at hSw); (go_split_ands; go_simp); (try with_reducible rfl))
   try simp only [Act.put,List.setIfInBounds_toArray,List.set_cons_zero,List.set_cons_succ]
   refine wpAnyH_take (i:=1) (oi:={dst:=some 19,op:=Op.load 3 (Operand.tmp 18),type:=3,pos := "book.go:278",after:=#[{on:=0,ground:=Ground.data}],guard:=none}) (v:=?_) rfl (by kernel_rfl) (by kernel_rfl) (by kernel_rfl) (fun _ _ _ h=>h) (Or.inl ⟨by rfl,?_⟩) (by assumption) ?_;rotate_left
   ·(intro w9 hSw; (try dsimp only at hSw); (go_split_ands; go_simp); (try with_reducible rfl))
   try simp only [Act.put,List.setIfInBounds_toArray,List.set_cons_zero,List.set_cons_succ]
   refine wpAnyH_take (i:=2) (oi:={dst:=some 20,op:=Op.fieldAddr 128 (Operand.tmp 7) 1,type:=0,pos := "book.go:278",after:=#[{on:=5,ground:=Ground.gcOnly Departure.lateStores}],guard:=none}) (v:=?_) rfl (by kernel_rfl) (by kernel_rfl) (by kernel_rfl) (fun _ _ _ h=>h) (Or.inl ⟨by rfl,?_⟩) (by assumption) ?_;rotate_left
   ·(intro w9 hSw; (try dsimp only at hSw); (go_split_ands; go_simp); (try with_reducible rfl))
   try simp only [Act.put,List.setIfInBounds_toArray,List.set_cons_zero,List.set_cons_succ]
   refine wpAnyH_take (i:=3) (oi:={dst:=some 21,op:=Op.load 3 (Operand.tmp 20),type:=3,pos := "book.go:278",after:=#[{on:=2,ground:=Ground.data},{on:=5,ground:=Ground.gcOnly Departure.lateStores}],guard:=none}) (v:=?_) rfl (by kernel_rfl) (by kernel_rfl) (by kernel_rfl) (fun _ _ _ h=>h) (Or.inl ⟨by rfl,?_⟩) (by assumption) ?_;rotate_left
   ·(intro w9 hSw; (try dsimp only at hSw); (go_split_ands; go_simp); (try with_reducible rfl))
   try simp only [Act.put,List.setIfInBounds_toArray,List.set_cons_zero,List.set_cons_succ]
   refine wpAnyH_take (i:=4) (oi:={dst:=some 22,op:=Op.fieldAddr 149 (Operand.tmp 6) 1,type:=0,pos := "book.go:278",after:=#[{on:=0,ground:=Ground.phase},{on:=1,ground:=Ground.phase},{on:=2,ground:=Ground.textOnly Departure.lateStores},{on:=3,ground:=Ground.textOnly Departure.lateStores}],guard:=none}) (v:=?_) rfl (by kernel_rfl) (by kernel_rfl) (by kernel_rfl) (fun _ _ _ h=>h) (Or.inl ⟨by rfl,?_⟩) (by assumption) ?_;rotate_left
   ·(intro w9 hSw; (try dsimp only at hSw); (go_split_ands; go_simp); (try with_reducible rfl))
   try simp only [Act.put,List.setIfInBounds_toArray,List.set_cons_zero,List.set_cons_succ]
   refine wpAnyH_ready (rs:=[5]) (by kernel_rfl) (by simp) ?_;refine AllReadyH.cons (o:={dst:=none,op:=Op.store 3 (Operand.tmp 22) (Operand.tmp 19),type:=0,pos := "book.go:278",after:=#[{on:=4,ground:=Ground.data},{on:=1,ground:=Ground.data},{on:=0,ground:=Ground.phase},{on:=1,ground:=Ground.phase},{on:=2,ground:=Ground.textOnly Departure.lateStores},{on:=3,ground:=Ground.textOnly Departure.lateStores}],guard:=none}) rfl (fun K hK=>?_) AllReadyH.nil;go_simp
   skip
   go_wp2_with fail;refine hK.out _ _ ?_ (fun hHeld=>?_)
   ·exact⟨cellAt (BoxAt.set D6.out _ _ (by dsimp only; omega)) 0,cellAt (BoxAt.set D6.out _ _ (by dsimp only; omega)) 1⟩
   clear hK K
   try simp only [Act.put]
   clear c5 f5;have B7:=Lib.hid (show BoxAt (p0.setCell ⟨q1,1,none⟩ (.int .i64 lo)) q1 #[.int .i64 z,.int .i64 lo,.int .i64 0] 149 from B6.out.store 1 _);have D7:=Lib.hid (show BoxAt (p0.setCell ⟨q1,1,none⟩ (.int .i64 lo)) q2 #[.int .i64 lo,.int .i64 hi] 128 from BoxAt.set D6.out _ _ (by dsimp only; omega));have c7:=cellAt B7.out 2;have f7:=freeAt B7.out 2;simp only [List.getElem?_toArray,List.getElem?_cons_zero,List.getElem?_cons_succ] at c7;refine wpAnyH_take (i:=6) (oi:={dst:=some 23,op:=Op.fieldAddr 149 (Operand.tmp 6) 2,type:=0,pos := "book.go:278",after:=#[{on:=0,ground:=Ground.phase},{on:=1,ground:=Ground.phase},{on:=2,ground:=Ground.phase},{on:=3,ground:=Ground.phase},{on:=4,ground:=Ground.phase},{on:=5,ground:=Ground.phase}],guard:=none}) (v:=?_) rfl (by kernel_rfl) (by kernel_rfl) (by kernel_rfl) (fun _ _ _ h=>h) (Or.inl ⟨by rfl,?_⟩) (by assumption) ?_;rotate_left
   ·(intro w9 hSw; (try dsimp only at hSw); (go_split_ands; go_simp); (try with_reducible rfl))
   try simp only [Act.put,List.setIfInBounds_toArray,List.set_cons_zero,List.set_cons_succ]
   refine wpAnyH_ready (rs:=[7]) (by kernel_rfl) (by simp) ?_;refine AllReadyH.cons (o:={dst:=none,op:=Op.store 3 (Operand.tmp 23) (Operand.tmp 21),type:=0,pos := "book.go:278",after:=#[{on:=6,ground:=Ground.data},{on:=3,ground:=Ground.data},{on:=5,ground:=Ground.chain},{on:=0,ground:=Ground.phase},{on:=1,ground:=Ground.phase},{on:=2,ground:=Ground.phase},{on:=3,ground:=Ground.phase},{on:=4,ground:=Ground.phase},{on:=5,ground:=Ground.phase}],guard:=none}) rfl (fun K hK=>?_) AllReadyH.nil;go_simp
   skip
   go_wp2_with fail;refine hK.out _ _ ?_ (fun hHeld=>?_)
   ·exact⟨cellAt (BoxAt.set D7.out _ _ (by dsimp only; omega)) 0,cellAt (BoxAt.set D7.out _ _ (by dsimp only; omega)) 1⟩
   clear hK K
   try simp only [Act.put]
   refine wpAnyH_done (by kernel_rfl) ?_ _;have hyq:∀ g,y.ownBlock=some g→g≠q1:=fun g e e2=>by have:=hyp g e; omega
   have O8:Keep (fun k=>k≠q1) p0 ((p0.setCell ⟨q1,1,none⟩ (.int .i64 lo)).setCell ⟨q1,2,none⟩ (.int .i64 hi)):=((Keep.refl _ _).set q1 1 _ (fun h=>h rfl)).set q1 2 _ (fun h=>h rfl);have B8:=Lib.hid (show BoxAt ((p0.setCell ⟨q1,1,none⟩ (.int .i64 lo)).setCell ⟨q1,2,none⟩ (.int .i64 hi)) q1 #[.int .i64 z,.int .i64 lo,.int .i64 hi] 149 from BoxAt.store (show BoxAt (p0.setCell ⟨q1,1,none⟩ (.int .i64 lo)) q1 #[.int .i64 z,.int .i64 lo,.int .i64 0] 149 from B6.out.store 1 _) 2 _);have hpl6:=lt_of_heap M6.out.p;have M8:=Lib.hid (M6.out.keep O8 (by omega) (by omega) (fun g e=>by have:=HM5.out g e; omega));have R8:=Lib.hid (show RdAt _ rb t5 from O8.box R6.out (by omega));have K8:=Lib.hid (show Keep (KeepS rb pb v3 w) w _ from K6.out.trans (Keep.mono O8 fun k hk=>by have:=hk.1; omega));have Y8:=Lib.hid (O8.row Y6.out hyq);have hs8:=O8.size;clear O8 M6 R6 K6 Y6 B6 D6;generalize World.setCell (World.setCell p0 _ _) _ _=pB at *;have hal:=(Below.refl pB.heap.size pB).alloc (Nat.le_refl _) (.cells #[.int .i64 z,.int .i64 lo,.int .i64 hi] 149);have M4:=Lib.hid (M8.out.grow hal);have R4:=Lib.hid (show RdAt (pB.alloc (.cells #[.int .i64 z,.int .i64 lo,.int .i64 hi] 149)) rb t5 from BoxAt.grow R8.out hal);have K4:=Lib.hid (keepS_grow K8.out hal);have Y4:=Lib.hid (own_growN Y8.out hal);have N5:=Lib.hid (show BoxAt (pB.alloc (.cells #[.int .i64 z,.int .i64 lo,.int .i64 hi] 149)) pB.heap.size [.int .i64 z,.int .i64 lo,.int .i64 hi].toArray 149 from heap_alloc_new _ _);have hs4b:=hal.size;clear hal;have g0:=cellAt B8.out 0;have g1:=cellAt B8.out 1;have g2:=cellAt B8.out 2;simp only [List.getElem?_toArray,List.getElem?_cons_zero,List.getElem?_cons_succ] at g0 g1 g2;obtain⟨i0,hi0,hz0,hz1,hz4⟩:=info149;go_wp2_with (at_builtin; refine wpList_appR mk85 hi0 hz0 hz1 hz4 (by rfl) (by decide) (by decide) (by rfl) (.tmp 24) (.tmp 26) (by rfl) (by rfl) Y4.out (by rfl) N5.out (by rfl) (fun u hu=>by simp only [List.mem_cons,List.mem_nil_iff,or_false] at hu; rcases hu with rfl | rfl | rfl <;> rfl) (by omega) (by omega) ?_);intro g2 cap2 w8 h2 h3 h4;have ka:=keep_grown h3;have hyb:∀ k,k<s2→some k≠y.ownBlock:=fun k hk e=>by have:=(Y4.out.lt k e.symm).1; omega
   have M5:=Lib.hid (M4.out.keep ka ⟨lt_of_heap M4.out.p,hyb _ (by omega)⟩ ⟨lt_of_heap M4.out.f,hyb _ (by omega)⟩ (fun g e=>⟨(M4.out.s.lt g e).2,hyb _ (HM5.out g e)⟩));have R5:=Lib.hid (show RdAt w8 rb t5 from ka.box R4.out ⟨lt_of_heap R4.out,hyb _ (by omega)⟩);have hk4:=K4.out.size;have K5:=Lib.hid (show Keep (KeepS rb pb v3 w) w w8 from K4.out.trans (Keep.mono ka fun k hk=>⟨Nat.lt_of_lt_of_le hk.1 hk4,hyb _ (by have:=hk.1; omega)⟩))
   have Y5:=Lib.hid (show w8.ownsRow s2 149 3 (.slice (some ⟨g2,0,none⟩) (l.length+1) cap2) (l ++ [(z,lo,hi)]).length (markVs (l ++ [(z,lo,hi)])) from by
     rw [List.length_append,markVs_snoc]
     exact h2)
   have hs5:=ka.size;clear h2 h3 h4 ka hyb hi0 hz0 hz1 hz4 M4 R4 K4 Y4 N5;go_wp2_with fail;have hm8:=rdLen_at R5.out;exact⟨⟨_,_,_,⟨R5.out,M5.out,Y5.out,K5.out,by omega,HST1.out.symm,by omega,by rw [List.length_append,List.length_singleton]; omega⟩,by omega⟩,by rw [hm8]; omega⟩
end Go.Proofs.YtclbmlmlhiiaeaaGreatDoor
