/- Walks: hours are read. Walks: a number behind a blank; the h -/
import Derived.Test.YtclbmlmlhiiaeaaGreatDoorQS1
import Derived.Test.YtclbmlmlhiiaeaaGreatDoorQN0
namespace Go.Proofs.YtclbmlmlhiiaeaaGreatDoor
open Go.RowKit
def lineLen:Option Value→Nat
 | some (.string s)=>s.size
 | _=>0
def rdLen(rb:Nat)(W:World):Nat:=match W.heap[rb]? with
 | some (.cells x _ _)=>lineLen x[0]?
 | _=>0
theorem rdLen_at{W:World}{rb:Nat}{t:List UInt8}(h:RdAt W rb t):rdLen rb W=t.length:=by
 unfold rdLen;rw [show W.heap[rb]? = _ from h];rfl
theorem i64_or_nat(a b:Nat)(ha:a<2147483648)(hb:b<2147483648):bits .or .i64 (a:Int) (b:Int)=((a ||| b:Nat):Int):=by
 have hx:a ||| b<2 ^ 31:=Nat.or_lt_two_pow (by omega) (by omega)
 show IntKind.i64.wrap ((BitVec.ofInt 64 (a:Int) ||| BitVec.ofInt 64 (b:Int)).toNat:Int)=_
 have e1:(BitVec.ofInt 64 (a:Int)).toNat=a:=by
  rw [BitVec.ofInt_natCast,BitVec.toNat_ofNat]; exact Nat.mod_eq_of_lt (by omega)
 have e2:(BitVec.ofInt 64 (b:Int)).toNat=b:=by
  rw [BitVec.ofInt_natCast,BitVec.toNat_ofNat]; exact Nat.mod_eq_of_lt (by omega)
 rw [BitVec.toNat_or,e1,e2];exact IntWalk.i64_in _ (by omega)
theorem pow_le_30{c:Nat}(hc:c≤30):2 ^ c≤1073741824:=Nat.pow_le_pow_right (n:=2) (by decide) hc
theorem wrap_small(z:Nat)(h:z≤1073741824):wrap64 (z:Int)=(z:Int):=by unfold wrap64; omega
theorem wrap_pow{c:Nat}(hc:c≤30):wrap64 (2 ^ c)=((2 ^ c:Nat):Int):=by
 have h:=pow_le_30 hc;rw [show((2:Int) ^ c)=((2 ^ c:Nat):Int) from by simp];exact wrap_small _ h
theorem or_lt_31{a b:Nat}(ha:a<2147483648)(hb:b<2147483648):a ||| b<2147483648:=Nat.or_lt_two_pow (n:=31) ha hb
def HoursPost(rb:Nat)(R:Option (Nat×List UInt8))(w:World)(e:Ending)(w':World):Prop :=
 OffR rb w w'∧match R with
 | none=>e=err 8
 | some (s,r)=>e = .returned (.int .i64 s)∧RdAt w' rb r
theorem drop_prefix_length{t p:List UInt8}(h:Lib.hasPrefix t p=true):p.length≤t.length:=by
 unfold Lib.hasPrefix at h;exact(List.isPrefixOf_iff_prefix.1 h).length_le
set_option maxRecDepth 100000 in
set_option maxHeartbeats 4000000 in
theorem hours109_any(rb:Nat)(t:List UInt8)(w:World)(h:RdAt w rb t)(hl:t.length≤2000)(fuel:Nat)(hf:t.length≤fuel) :
  Calls Tryz.prog 109 #[bp rb] w (HoursPost rb (hoursP fuel t 0) w):=by
 obtain⟨R,hR⟩:∃ R,hoursP fuel t 0=R:=⟨_,rfl⟩
 rw [hR];have HR:=Lib.hid hR;have H0:=Lib.hid h;clear hR h;go_enter Tryz.func109,Tryz.ntmps109;go_wp2_with fail
 go_loopw [2] (fun u wi => ∃ (k s:Nat) (r:List UInt8),r.length≤k∧r.length≤2000∧s<2147483648∧hoursP k r s=R∧u = .int .i64 s∧RdAt wi rb r∧OffR rb w wi) (fun _ wi=>rdLen rb wi)
 case atStart=>exact⟨fuel,0,t,hf,hl,by omega,HR.out,rfl,H0.out,OffR.refl _ _⟩
 case round =>
  obtain⟨k,s,r,hk,hrl,hs,hq,rfl,hrd,ho⟩:=hrel;have HQ:=Lib.hid hq;have O1:=Lib.hid ho;have R1:=Lib.hid hrd;clear hq ho hrd;go_wp2_with fail;refine(sees_any rb r [32] _ R1.out).mono ?_;rintro e w1 ⟨rfl,rfl⟩;have O2:=Lib.hid (O1.out.trans (OffR.set (rb:=rb) (.string ⟨(seesT r [32]).toArray⟩)));have R2:=Lib.hid (R1.out.set (seesT r [32]));have hm:=rdLen_at R1.out;clear R1 O1;generalize World.setCell _ _ _=w1 at *
  cases hp:Lib.hasPrefix r [32] with
  | false =>
   rw [seesT_no hp] at R2
   have HF:R=some (s,r):=by
    rw [← HQ.out]
    cases k with
    | zero=>rfl
    | succ k=>show(if _ then _ else _)=_; rw [hp]; rfl
   go_wp2_with fail;go_ret;unfold HoursPost;rw [HF];exact⟨O2.out,rfl,R2.out⟩
  | true =>
   rw [seesT_yes hp] at R2;have h1:=drop_prefix_length hp;have hd:(r.drop 1).length≤2000:=by rw [List.length_drop]; omega
   have hd1:(r.drop 1).length+1=r.length:=by rw [List.length_drop]; simp at h1; omega
   obtain⟨j,rfl⟩:∃ j,k=j+1:=⟨k - 1,by simp at h1; omega⟩
   have HQ2:=Lib.hid (show(match numP (r.drop 1) with
    | none=>none
    | some (h,t1)=>if inB h 0 30 then hoursP j t1 (s ||| 2 ^ h.toNat) else none)=R from by
     rw [← HQ.out]; show _=(if _ then _ else _); rw [hp]; rfl)
   have C2:=Lib.hid (number94_any rb (r.drop 1) w1 R2.out hd);clear hp HQ;go_wp2_with fail;refine C2.out.mono ?_;intro e w2 hpost;obtain⟨h2,hn⟩:=hpost;have O3:=Lib.hid (O2.out.trans h2);clear O2 R2 h2 C2
   cases hr:numP (r.drop 1) with
   | none =>
    rw [hr] at hn;dsimp only at hn;subst hn;have HF:=HQ2.out;rw [hr] at HF;simp only [err];exact⟨rfl,O3.out,by rw [← HF]; rfl⟩
   | some p =>
    obtain⟨n,r2⟩:=p;rw [hr] at hn;obtain⟨he,hrd⟩:=hn;subst he;have R3:=Lib.hid hrd;have hsh:=numP_shorter hr
    have HQ3:=Lib.hid (show(if inB n 0 30 then hoursP j r2 (s ||| 2 ^ n.toNat) else none)=R from by
     rw [← HQ2.out,hr])
    clear hr hrd HQ2
    cases hb:inB n 0 30 with
    | false =>
     have HF:R=none:=by rw [← HQ3.out,hb]; rfl
     go_wp2_with (go_at_call 122; refine(within_any _ _ _ _).mono ?_; rintro e w' ⟨rfl,rfl⟩);refine(ask_false _ _).mono ?_;rintro e w' ⟨rfl,rfl⟩;go_wp2_with fail;exact⟨rfl,O3.out,by rw [HF]; rfl⟩
    | true =>
     obtain⟨c,rfl⟩:∃ c:Nat,n=c:=⟨n.toNat,by have:=(inB_iff.1 hb).1; omega⟩
     have hc:c≤30:=by have:=(inB_iff.1 hb).2; omega
     go_wp2_with (go_at_call 122; refine(within_any _ _ _ _).mono ?_; rintro e w' ⟨rfl,rfl⟩);refine(ask_true _ _).mono ?_;rintro e w' ⟨rfl,rfl⟩;go_wp2_with fail;have hp2:=pow_le_30 hc;have hw:wrap64 (2 ^ c)=((2 ^ c:Nat):Int):=wrap_pow hc;rw [hw];have HQ4:hoursP j r2 (s ||| 2 ^ c)=R:=by rw [← HQ3.out,hb]; rfl
     obtain⟨z,hz⟩:∃ z,2 ^ c=z:=⟨_,rfl⟩
     rw [hz] at hp2 HQ4 ⊢;clear hz hw;rw [i64_or_nat _ _ hs (by omega)];refine⟨⟨j,s ||| z,r2,by omega,by omega,or_lt_31 hs (by omega),HQ4,rfl,R3.out,O3.out⟩,?_⟩;rw [rdLen_at R3.out,hm];omega
def nextP(t:List UInt8):Option (Int×List UInt8):=if Lib.hasPrefix t [32] then numP (t.drop 1) else none
def NextPost(rb:Nat)(t:List UInt8)(w:World)(e:Ending)(w':World):Prop :=
 OffR rb w w'∧match nextP t with
 | none=>e=err 8
 | some (n,r)=>e = .returned (.int .i64 n)∧RdAt w' rb r
set_option maxRecDepth 100000 in
set_option maxHeartbeats 2000000 in
theorem next112_any(nb rb:Nat)(t:List UInt8)(w:World)(h:RdAt w rb t)(hn:BoxAt w nb #[bp rb] 155)(hne:nb≠rb)(hl:t.length≤2000) :
  Calls Tryz.prog 112 #[bp nb] w (NextPost rb t w):=by
 have C0:=Lib.hid (word_any rb t [32] w h);have N0:=Lib.hid hn;have c0:=cellAt hn 0;have f0:=freeAt hn 0;simp only [List.getElem?_toArray,List.getElem?_cons_zero] at c0;clear h hn;go_enter Tryz.func112,Tryz.ntmps112;go_wp2_with fail;refine C0.out.mono ?_;intro e w1 hpost;obtain⟨ho,hw⟩:=hpost
 cases hp:Lib.hasPrefix t [32] with
 | false =>
  rw [hp] at hw;have he:e=err 8:=hw;subst he;simp only [err];exact⟨rfl,ho,by unfold nextP; rw [hp]; rfl⟩
 | true =>
  rw [hp] at hw;obtain⟨he,hrd⟩:=(show e = .returned (.tuple #[])∧RdAt w1 rb (t.drop 1) from hw)
  subst he;have N1:=ho.box N0.out hne;have hd:(t.drop 1).length≤2000:=by rw [List.length_drop]; omega
  have C1:=Lib.hid (number94_any rb (t.drop 1) w1 hrd hd);have O1:=Lib.hid ho;have HN:=Lib.hid (show nextP t=numP (t.drop 1) from by unfold nextP; rw [hp]; rfl);have c1:=cellAt N1 0;have f1:=freeAt N1 0;simp only [List.getElem?_toArray,List.getElem?_cons_zero] at c1;clear ho hw hrd hp N1;go_wp2_with fail;refine C1.out.mono ?_;intro e w2 hpost;obtain⟨h2,hn⟩:=hpost
  cases hr:numP (t.drop 1) with
  | none =>
   rw [hr] at hn;dsimp only at hn;subst hn;simp only [err];exact⟨rfl,O1.out.trans h2,by rw [HN.out,hr]; rfl⟩
  | some p =>
   obtain⟨n,r⟩:=p;rw [hr] at hn;obtain⟨he,hrd⟩:=hn;subst he;have O2:=Lib.hid (O1.out.trans h2);have HF:=Lib.hid (show nextP t=some (n,r) from by rw [HN.out,hr]);have R2:=Lib.hid hrd;clear h2 hrd hr HN;go_wp2_with fail;go_ret;unfold NextPost;rw [HF.out];exact⟨O2.out,rfl,R2.out⟩
def HourPost(rb pb:Nat)(x:Array Value)(t:List UInt8)(w:World)(e:Ending)(w':World):Prop :=
 Keep (fun k=>k<w.heap.size∧k≠rb∧k≠pb) w w'∧match numP t with
 | none=>e=err 8
 | some (n,r)=>e = .returned (.tuple #[])∧RdAt w' rb r∧BoxAt w' pb (x.setIfInBounds 0 (.int .i64 n)) 29
set_option maxRecDepth 100000 in
set_option maxHeartbeats 2000000 in
theorem hour106_any(rb pb:Nat)(x0 x1 x2 x3 x4:Value)(t:List UInt8)(w:World)(h:RdAt w rb t)(hp:BoxAt w pb #[x0,x1,x2,x3,x4] 29)(hne:pb≠rb)(hl:t.length≤2000) :
  Calls Tryz.prog 106 #[bp pb,bp rb] w (HourPost rb pb #[x0,x1,x2,x3,x4] t w):=by
 have C0:=Lib.hid (number94_any rb t w h hl);have P0:=Lib.hid hp;clear h hp;go_enter Tryz.func106,Tryz.ntmps106;go_wp2_with fail;refine C0.out.mono ?_;intro e w1 hpost;obtain⟨ho,hw⟩:=hpost;have hk:=Keep.mono ho (fun k (hk:k<w.heap.size∧k≠rb∧k≠pb)=>(⟨hk.1,hk.2.1⟩:k<w.heap.size∧k≠rb))
 cases hr:numP t with
 | none =>
  rw [hr] at hw;dsimp only at hw;subst hw;simp only [err];exact⟨rfl,hk,by rw [hr]; rfl⟩
 | some p =>
  obtain⟨n,r⟩:=p;rw [hr] at hw;obtain⟨he,hrd⟩:=hw;subst he;have P1:=ho.box P0.out hne;have c0:=cellAt P1 0;have f0:=freeAt P1 0;simp only [List.getElem?_toArray,List.getElem?_cons_zero] at c0;have HP:=Lib.hid P1;have R1:=Lib.hid hrd;have K1:=Lib.hid hk;have HR:=Lib.hid hr;clear ho hrd hk hr P1;go_wp2_with fail
  go_end0
  unfold HourPost;rw [HR.out];exact⟨Keep.set K1.out _ _ _ (fun hh=>hh.2.2 rfl),rfl,BoxAt.set R1.out _ _ (by dsimp only; exact hne),BoxAt.store HP.out 0 _⟩
theorem OffR.grown{rb:Nat}{w w':World}(h:OffR rb w w'):w.grownBy w' (some rb) :=
 ⟨h.os,h.tape,h.output,h.size,fun k hk hne=>h.block k ⟨hk,fun e=>hne (by rw [e])⟩⟩
theorem OffR.row{rb:Nat}{w w':World}(h:OffR rb w w'){base n size:Nat}{E:TypeId}{v:Value}{xs:List Value}(ho:w.ownsRow base E size v n xs)(hb:v.ownBlock≠some rb):w'.ownsRow base E size v n xs :=
 ho.kept h.grown (.inr hb)
theorem step_appOne{t E:TypeId}(he:Elem t E){ops:Array Oper}{o:Oper}{a:Act}{w:World}{K:Act→World→Prop}{Q:Exit→Act→World→Prop}{X:Prop}(hgd:o.guard=none)(s x:Operand)
  (ho:o.op = .call {callee:=.builtin .append,args:=#[s,x],argTypes:=#[t,t]}) {base n:Nat} {v:Value} {xs:List Value} (hs:a.eval s=v) (hown:w.ownsRow base E 1 v n xs)
  {b:Nat} {u:Value} (hx:a.eval x = .slice (some ⟨b,0,none⟩) 1 1) (hu:BoxAt w b #[u] E) (h1:u.oneCell'=true)
  (hlim:n≤1000000) (hbase:base≤w.heap.size)
  (h:∀ g cap w',w'.ownsRow base E 1 (.slice (some ⟨g,0,none⟩) (n+1) cap) (n+1) (xs ++ [u])→w.grownBy w' v.ownBlock→(v.ownBlock=some g∨g=w.heap.size)→K (a.put o.dst (.slice (some ⟨g,0,none⟩) (n+1) cap)) w') :
  if Region.wanted o (yielded ops a.tmps)=true then Oper.wp Tryz.prog o a w K Q else X:=by
 obtain⟨i,z,bytes,hi,hz,hsz,hby,hzs,hb8⟩:=he.info
 refine step_append_lies (w:=w) hgd s x t ho base E i z 1 bytes he.slice hi hz hsz hby hzs (by decide) v n xs hs hown ⟨b,0,none⟩ 1 1 [u] hx rfl ?_ ?_ (by decide) (by unfold maxLen; omega) ?_ hbase _ rfl
  fun g cap w' h2 h3 h4 _=>h g cap w' h2 h3 h4
 ·intro j y hy
  cases j with
  | zero=>cases hy; exact(cellAt hu 0)
  | succ j=>cases hy
 ·intro y hy; rw [List.mem_singleton] at hy; rw [hy]; exact h1
 ·have:(n+1) * bytes≤(n+1) * 8:=Nat.mul_le_mul_left _ hb8
  omega
def FirePost(rb pb base:Nat)(x0 x1 x2 v x4:Value)(xs:List Value)(n:Nat)(R:Option (Nat×List UInt8))(w:World)(e:Ending)(w':World):Prop :=
 Keep (fun k=>k<w.heap.size∧k≠rb∧k≠pb∧v.ownBlock≠some k) w w'∧match R with
 | none=>e=err 8
 | some (s,r)=>e = .returned (.tuple #[])∧RdAt w' rb r ∧ ∃ v',BoxAt w' pb #[x0,x1,x2,v',x4] 29∧w'.ownsRow base 3 1 v' (n+1) (xs ++ [.int .i64 s])∧(∀ g,v'.ownBlock=some g→v.ownBlock=some g∨w.heap.size≤g)
set_option maxRecDepth 100000 in
set_option maxHeartbeats 4000000 in
theorem fire110_any(rb pb base:Nat)(x0 x1 x2 v x4:Value)(xs:List Value)(n:Nat)(t:List UInt8)(w:World)(h:RdAt w rb t)(hp:BoxAt w pb #[x0,x1,x2,v,x4] 29)(hne:pb≠rb)
  (hrb:v.ownBlock≠some rb) (hpb:v.ownBlock≠some pb) (hbase:base≤w.heap.size) (hv:w.ownsRow base 3 1 v n xs) (hn:n≤1000000) (hl:t.length≤2000) (fuel:Nat) (hf:t.length≤fuel) :
  Calls Tryz.prog 110 #[bp pb,bp rb] w (FirePost rb pb base x0 x1 x2 v x4 xs n (hoursP fuel t 0) w):=by
 obtain⟨R,hR⟩:∃ R,hoursP fuel t 0=R:=⟨_,rfl⟩
 have C0:=Lib.hid (hours109_any rb t w.drew h hl fuel hf);rw [hR] at C0 ⊢;have hpw:=lt_of_heap hp;have P0:=Lib.hid hp;have V0:=Lib.hid (hv.drew);clear h hp hv hR;go_enter Tryz.func110,Tryz.ntmps110;go_wp2_with fail;refine wp_region_stg (S:=(fun _=>True)) (L:=[(11,(fun w':World=>w'.cell? ⟨pb,3,none⟩=some v))]) (D:=[(11,4)]) (by kernel_rfl) (by kernel_rfl) trivial (by intro e he; simp only [List.mem_cons,List.mem_nil_iff,or_false] at he; subst he; exact cellAt P0.out 3) (fun hC0 hH0=>?_);refine tkA (i:=0) (v:=?_) rfl hC0 (Or.inl ⟨by rfl,?_⟩) hH0 (fun hC1 hH1=>?_);rotate_left
 ·(intro w9 hSw; obtain⟨hSw,hLw⟩:=hSw; clear hLw; (try dsimp only at hSw); (go_split_ands; go_simp); (try with_reducible rfl))
 clear hC0 hH0
 try simp only [Act.put,List.setIfInBounds_toArray,List.set_cons_zero,List.set_cons_succ]
 refine tkA (i:=1) (v:=?_) rfl hC1 (Or.inl ⟨by rfl,?_⟩) hH1 (fun hC2 hH2=>?_);rotate_left
 ·(intro w9 hSw; obtain⟨hSw,hLw⟩:=hSw; clear hLw; (try dsimp only at hSw); (go_split_ands; go_simp); (try with_reducible rfl))
 clear hC1 hH1
 try simp only [Act.put,List.setIfInBounds_toArray,List.set_cons_zero,List.set_cons_succ]
 refine tkA (i:=2) (v:=?_) rfl hC2 (Or.inl ⟨by rfl,?_⟩) hH2 (fun hC3 hH3=>?_);rotate_left
 ·(intro w9 hSw; obtain⟨hSw,hLw⟩:=hSw; clear hLw; (try dsimp only at hSw); (go_split_ands; go_simp); (try with_reducible rfl))
 clear hC2 hH2
 try simp only [Act.put,List.setIfInBounds_toArray,List.set_cons_zero,List.set_cons_succ]
 refine tkA (i:=3) (v:=?_) rfl hC3 (Or.inl ⟨by rfl,?_⟩) hH3 (fun hC4 hH4=>?_);rotate_left
 ·(intro w9 hSw; obtain⟨hSw,hLw⟩:=hSw; clear hLw; (try dsimp only at hSw); (go_split_ands; go_simp); (try with_reducible rfl))
 clear hC3 hH3
 try simp only [Act.put,List.setIfInBounds_toArray,List.set_cons_zero,List.set_cons_succ]
 refine tkA (i:=4) (v:=?_) rfl hC4 (Or.inl ⟨by rfl,?_⟩) hH4 (fun hC5 hH5=>?_);rotate_left
 ·(intro w9 hSw; obtain⟨hSw,hLw⟩:=hSw; have hl11:=hLw _ List.mem_cons_self rfl; dsimp only at hl11; clear hLw; (try dsimp only at hSw); (go_split_ands; go_simp); (try with_reducible rfl))
 clear hC4 hH4
 try simp only [Act.put,List.setIfInBounds_toArray,List.set_cons_zero,List.set_cons_succ]
 refine tkA (i:=5) (v:=?_) rfl hC5 (Or.inl ⟨by rfl,?_⟩) hH5 (fun hC6 hH6=>?_);rotate_left
 ·(intro w9 hSw; obtain⟨hSw,hLw⟩:=hSw; clear hLw; (try dsimp only at hSw); (go_split_ands; go_simp); (try with_reducible rfl))
 clear hC5 hH5
 try simp only [Act.put,List.setIfInBounds_toArray,List.set_cons_zero,List.set_cons_succ]
 refine onA (i:=6) rfl hC6 (fun K hK=>?_);clear hC6 hH6;go_simp;refine C0.out.mono ?_;intro e w1 hpost;obtain⟨ho,hh⟩:=hpost;have hk0:Keep (fun k=>k<w.heap.size∧k≠rb∧k≠pb∧v.ownBlock≠some k) w w.drew:=⟨rfl,rfl,rfl,Nat.le_refl _,fun _ _=>rfl⟩
 have hk1:=hk0.trans (Keep.mono ho (fun k (hk:k<w.heap.size∧k≠rb∧k≠pb∧v.ownBlock≠some k)=>(⟨hk.1,hk.2.1⟩:k<w.drew.heap.size∧k≠rb)));clear hk0;have hb1:=Nat.le_trans hbase ho.size;have hs1:w.heap.size≤w1.heap.size:=ho.size
 cases R with
 | none =>
  dsimp only at hh;subst hh;simp only [err];exact⟨rfl,hk1,rfl⟩
 | some p =>
 obtain⟨q,r⟩:=p;obtain⟨he,hrd⟩:=hh;subst he;have P1:=Lib.hid (ho.box P0.out hne);have V1:=Lib.hid (ho.row V0.out hrb);have R1:=Lib.hid hrd;have K1:=Lib.hid hk1;clear ho hrd hk1 P0 V0 C0;go_wp2_with fail;refine hK.out _ _ ?_ (fun hC7 hH7=>?_)
 ·exact⟨trivial,fun e he _=>by simp only [List.mem_cons,List.mem_nil_iff,or_false] at he; subst he; exact cellAt P1.out 3⟩
 clear hK K
 try simp only [Act.put,List.setIfInBounds_toArray,List.set_cons_zero,List.set_cons_succ]
 refine onA (i:=7) rfl hC7 (fun K hK=>?_);clear hC7 hH7;have hal:=(Below.refl w1.heap.size w1).alloc (Nat.le_refl _) (.cells #[.int .i64 q] 3);have P2:=Lib.hid (P1.out.grow hal);have R2:=Lib.hid (show RdAt (w1.alloc (.cells #[.int .i64 q] 3)) rb r from BoxAt.grow R1.out hal);have V2:=Lib.hid (V1.out.alloc (.cells #[.int .i64 q] 3));have B2:=Lib.hid (show BoxAt (w1.alloc (.cells #[.int .i64 q] 3)) w1.heap.size #[.int .i64 q] 3 from heap_alloc_new _ _);have K2:=Lib.hid (K1.out.trans (Keep.of_below hal fun k (hk:k<w.heap.size∧k≠rb∧k≠pb∧v.ownBlock≠some k)=>Nat.lt_of_lt_of_le hk.1 hs1));have hb2:=Nat.le_trans hb1 hal.size;have hs2:=Nat.le_trans hs1 hal.size;go_simp;go_wp2_with fail;generalize World.alloc w1 _=w2 at *;clear P1 R1 V1 K1 hal;refine hK.out _ _ ?_ (fun hC8 hH8=>?_)
 ·exact⟨trivial,fun e he _=>by simp only [List.mem_cons,List.mem_nil_iff,or_false] at he; subst he; exact cellAt P2.out 3⟩
 clear hK K
 try simp only [Act.put,List.setIfInBounds_toArray,List.set_cons_zero,List.set_cons_succ]
 refine onA (i:=8) rfl hC8 (fun K hK=>?_);clear hC8 hH8;refine step_appOne (w:=w2) elem3 (by rfl) (.tmp 8) (.tmp 11) (by rfl) (v:=v) (xs:=xs) (base:=base) (n:=n) (by rfl) V2.out (b:=w1.heap.size) (u:=.int .i64 q) (by rfl) B2.out (by rfl) hn hb2 ?_;intro g cap w3 hw hg hor;have hpv:(some pb:Option Nat)≠v.ownBlock:=fun e=>hpb e.symm;have hrv:(some rb:Option Nat)≠v.ownBlock:=fun e=>hrb e.symm;have P3:=Lib.hid (P2.out.kept hg hpv);have R3:=Lib.hid (show RdAt w3 rb r from BoxAt.kept R2.out hg hrv);have K3:=Lib.hid (K2.out.trans (⟨hg.os,hg.tape,hg.output,hg.size,fun k (hk:k<w.heap.size∧k≠rb∧k≠pb∧v.ownBlock≠some k)=>hg.block k (Nat.lt_of_lt_of_le hk.1 hs2) (fun e=>hk.2.2.2 e.symm)⟩));have V3:=Lib.hid hw;have hb3:=Nat.le_trans hb2 hg.size;clear hw hg hpv hrv P2 R2 K2 V2 B2;refine hK.out _ _ ?_ (fun hC9 hH9=>?_)
 ·exact⟨trivial,fun e he _=>by simp only [List.mem_cons,List.mem_nil_iff,or_false] at he; subst he; exact cellAt P3.out 3⟩
 clear hK K
 try simp only [Act.put,List.setIfInBounds_toArray,List.set_cons_zero,List.set_cons_succ]
 refine tkA (i:=9) (v:=?_) rfl hC9 (Or.inl ⟨by rfl,?_⟩) hH9 (fun hC10 hH10=>?_);rotate_left
 ·(intro w9 hSw; obtain⟨hSw,hLw⟩:=hSw; clear hLw; (try dsimp only at hSw); (go_split_ands; go_simp); (try with_reducible rfl))
 clear hC9 hH9
 try simp only [Act.put,List.setIfInBounds_toArray,List.set_cons_zero,List.set_cons_succ]
 refine tkA (i:=10) (v:=?_) rfl hC10 (Or.inl ⟨by rfl,?_⟩) hH10 (fun hC11 hH11=>?_);rotate_left
 ·(intro w9 hSw; obtain⟨hSw,hLw⟩:=hSw; clear hLw; (try dsimp only at hSw); (go_split_ands; go_simp); (try with_reducible rfl))
 clear hC10 hH10
 try simp only [Act.put,List.setIfInBounds_toArray,List.set_cons_zero,List.set_cons_succ]
 refine onA (i:=11) rfl hC11 (fun K hK=>?_);clear hC11 hH11;have c0:=cellAt P3.out 3;have f0:=freeAt P3.out 3;simp only [List.getElem?_toArray,List.getElem?_cons_zero,List.getElem?_cons_succ] at c0;go_simp;go_wp2_with fail;refine hK.out _ _ ?_ (fun hC12 hH12=>?_)
 ·exact⟨trivial,fun e he h=>by simp only [List.mem_cons,List.mem_nil_iff,or_false] at he; subst he; exact absurd h (by intro hx; exact Bool.false_ne_true (hx.symm.trans (by kernel_rfl)))⟩
 clear hK K
 try simp only [Act.put]
 refine wpAnyT_done (by kernel_rfl) ?_ _;clear hC12 hH12
 go_end0
 have hsp:OffR pb w3 (w3.setCell ⟨pb,3,none⟩ (.slice (some ⟨g,0,none⟩) (n+1) cap)):=Keep.set (Keep.refl _ _) _ _ _ (fun h=>h.2 rfl)
 exact⟨Keep.set K3.out _ _ _ (fun hh=>hh.2.2.1 rfl),rfl,BoxAt.set R3.out _ _ hne,_,BoxAt.store P3.out 3 _,hsp.row V3.out (fun e=>by cases e; rcases hor with h | h; exact hpb h; exact absurd (Nat.lt_of_lt_of_le hpw (Nat.le_trans hs2 (Nat.le_of_eq h.symm))) (Nat.lt_irrefl _)),fun g' e=>by
  cases e
  rcases hor with h | h
  ·exact .inl h
  ·exact .inr (Nat.le_trans hs2 (Nat.le_of_eq h.symm))⟩
end Go.Proofs.YtclbmlmlhiiaeaaGreatDoor
