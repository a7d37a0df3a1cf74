/- Plain: a set of hours that was written is read; the hull's l -/
import Derived.Test.YtclbmlmlhiiaeaaGreatDoorQC8
import Derived.Test.YtclbmlmlhiiaeaaGreatDoorQB6
import Derived.StillTailTactics
import Derived.Deep.CutRange
import Derived.Deep.AppendLies
import Derived.Deep.RegionLaw
namespace Go.Proofs.YtclbmlmlhiiaeaaGreatDoor
open Go.RowKit
def hoursR(x:Nat):Nat→Nat→List UInt8
 | _,0=>[]
 | h,d+1=>(if x >>> h &&& 1=1 then 32::Lib.itoa h else [])++hoursR x (h+1) d
theorem hoursT_R(x:Nat):∀ d h,hoursT x (h+d)=hoursT x h++hoursR x h d
 | 0,h=>by simp [hoursR]
 | d+1,h=>by
  rw [show h+(d+1)=h+1+d by omega,hoursT_R x d (h+1)]
  show(hoursT x h++_)++_=_++(_++_)
  rw [List.append_assoc]
def NoSp(r:List UInt8):Prop:=NoDig r ∧ ∀ c r',r=c::r'→c≠32
theorem prefix1{r:List UInt8}{x:UInt8}(h:∀ c r',r=c::r'→c≠x):Lib.hasPrefix r [x]=false:=by
 cases r with
 | nil=>rfl
 | cons c r' =>
  have:=h c r' rfl;simp [Lib.hasPrefix,List.isPrefixOf];exact fun e=>absurd e.symm this
theorem hoursR_noDig(x:Nat){r:List UInt8}(hr:NoDig r):∀ d h,NoDig (hoursR x h d++r)
 | 0,h=>hr
 | d+1,h=>by
  show NoDig ((_++_)++r)
  split
  ·exact noDig_cons (by decide)
  ·exact hoursR_noDig x hr d (h+1)
theorem bit_mod{x h:Nat}(hb:x >>> h &&& 1=1):x % 2 ^ h ||| 2 ^ h=x % 2 ^ (h+1):=by
 rw [shr_and] at hb
 have h1:x % 2 ^ (h+1)=2 ^ h * 1+x % 2 ^ h:=by
  rw [Nat.pow_succ,Nat.mod_mul,hb];omega
 rw [h1,Nat.two_pow_add_eq_or_of_lt (Nat.mod_lt _ (Nat.two_pow_pos h)),Nat.mul_one,Nat.or_comm]
theorem bit_not{x h:Nat}(hb:¬ x >>> h &&& 1=1):x % 2 ^ h=x % 2 ^ (h+1):=by
 rw [shr_and] at hb;rw [Nat.pow_succ,Nat.mod_mul,show x / 2 ^ h % 2=0 by omega];omega
theorem hoursP_R(x:Nat){r:List UInt8}(hr:NoSp r):∀ d h fuel,h+d≤31→d≤fuel→hoursP fuel (hoursR x h d++r) (x % 2 ^ h)=some (x % 2 ^ (h+d),r)
 | 0,h,fuel,_,_=>by
  show hoursP fuel r _=_
  cases fuel with
  | zero=>rfl
  | succ k =>
   show(if Lib.hasPrefix r [32] then _ else _)=_
   rw [prefix1 hr.2];rfl
 | d+1,h,fuel,hh,hf=>by
  obtain⟨k,rfl⟩:∃ k,fuel=k+1:=⟨fuel - 1,by omega⟩
  by_cases hb:x >>> h &&& 1=1
  ·show hoursP (k+1) (((if x >>> h &&& 1=1 then 32::Lib.itoa h else [])++hoursR x (h+1) d)++r) _=_
   rw [if_pos hb,List.append_assoc]
   show(if Lib.hasPrefix (32::(Lib.itoa h++(hoursR x (h+1) d++r))) [32] then _ else _)=_
   rw [if_pos (by simp [Lib.hasPrefix,List.isPrefixOf])]
   show(match numP (Lib.itoa h++(hoursR x (h+1) d++r)) with | none=>none | some (h,t1)=>if inB h 0 30 then hoursP k t1 (x % 2 ^ _ ||| 2 ^ h.toNat) else none)=_
   rw [numP_itoa (by omega) (hoursR_noDig x hr.1 d (h+1))];dsimp only;rw [if_pos (inB_iff.2 (by omega)),show((h:Int)).toNat=h by omega,bit_mod hb,hoursP_R x hr d (h+1) k (by omega) (by omega)];rw [show h+1+d=h+(d+1) by omega]
  ·show hoursP (k+1) (((if x >>> h &&& 1=1 then 32::Lib.itoa h else [])++hoursR x (h+1) d)++r) _=_
   rw [if_neg hb,bit_not hb]
   show hoursP (k+1) (hoursR x (h+1) d++r) _=_
   rw [hoursP_R x hr d (h+1) (k+1) (by omega) (by omega),show h+1+d=h+(d+1) by omega]
theorem hoursP_text{x:Nat}(hx:x<2 ^ 31){r:List UInt8}(hr:NoSp r){fuel:Nat}(hf:31≤fuel):hoursP fuel (hoursT x 40++r) 0=some (x,r):=by
 have h1:hoursT x 40=hoursT x 31:=hours_done (x:=x) (h:=31) (Nat.div_eq_of_lt hx) 9
 have h2:hoursT x 31=hoursR x 0 31:=by
  have:=hoursT_R x 31 0;simpa [hoursT] using this
 have:=hoursP_R x hr 31 0 fuel (by omega) hf;rw [h1,h2];rw [Nat.pow_zero,Nat.mod_one] at this;rw [this,Nat.mod_eq_of_lt (by simpa using hx)]
theorem hoursP_shorter:∀ {fuel:Nat} {t r:List UInt8} {s x:Nat},hoursP fuel t s=some (x,r)→r.length≤t.length
 | 0,t,r,s,x,h=>by cases h; exact Nat.le_refl _
 | k+1,t,r,s,x,h=>by
  simp only [hoursP] at h
  split at h
  ·cases hn:numP (t.drop 1) with
   | none=>rw [hn] at h; cases h
   | some q =>
    obtain⟨n,t1⟩:=q;have s1:=numP_shorter hn;rw [hn] at h;dsimp only at h
    split at h
    ·have:=hoursP_shorter h
     rw [List.length_drop] at s1;omega
    ·cases h
  ·cases h; exact Nat.le_refl _
def sideP(t:List UInt8):Option (Int×List UInt8) :=
 if Lib.hasPrefix t [112] then some (-1,t.drop 1) else if Lib.hasPrefix t [107] then some (0,t.drop 1) else if Lib.hasPrefix t [115] then some (1,t.drop 1) else none
def seamsP:Nat→List UInt8→List Sea→Option (List Sea×List UInt8)
 | 0,t,l=>some (l,t)
 | k+1,t,l =>
  if Lib.hasPrefix t [32] then
   match numP (t.drop 1) with
   | none=>none
   | some (h,t1)=>match sideP t1 with
    | none=>none
    | some (s,t2)=>match numP t2 with
     | none=>none
     | some (m,t3)=>seamsP k t3 (l ++ [⟨h,s,m⟩])
  else some (l,t)
def soundP(t:List UInt8):Option (Sou×List UInt8) :=
 match numP t with
 | none=>none
 | some (d,t1)=>if Lib.hasPrefix t1 [32] then
   match numP (t1.drop 1) with
   | none=>none
   | some (l,t2)=>if Lib.hasPrefix t2 [32] then
     match spanP (t2.drop 1) with
     | none=>none
     | some ((lo,hi),t3)=>some (⟨d,l,lo,hi⟩,t3)
    else none
  else none
structure HullV where
 s:List Sea
 u:List Sou
def hullTake(k:Nat)(x:HullV)(t:List UInt8):Option (HullV×List UInt8) :=
 if k=0 then(seamsP t.length t x.s).map (fun p=>(⟨p.1,x.u⟩,p.2))
 else(soundP t).map (fun p=>(⟨x.s,x.u ++ [p.1]⟩,p.2))
structure Keep (C:Nat→Prop) (w w':World):Prop where
 os:w'.os=w.os
 tape:w'.tape=w.tape
 output:w'.output=w.output
 size:w.heap.size≤w'.heap.size
 block:∀ k,C k→w'.heap[k]? = w.heap[k]?
section
variable {C:Nat→Prop} {w w1 w2:World}
theorem Keep.refl(C:Nat→Prop)(w:World):Keep C w w:=⟨rfl,rfl,rfl,Nat.le_refl _,fun _ _=>rfl⟩
theorem Keep.trans(h:Keep C w w1)(k:Keep C w1 w2):Keep C w w2 :=
 ⟨k.os.trans h.os,k.tape.trans h.tape,k.output.trans h.output,Nat.le_trans h.size k.size,fun b hb=>(k.block b hb).trans (h.block b hb)⟩
theorem Keep.below(h:Keep C w w1)(hb:Below w1.heap.size w1 w2)(hC:∀ k,C k→k<w.heap.size):Keep C w w2 :=
 ⟨hb.os.trans h.os,hb.tape.trans h.tape,hb.output.trans h.output,Nat.le_trans h.size hb.size,fun k hk=>(hb.block k (by have:=h.size; have:=hC k hk; omega)).trans (h.block k hk)⟩
theorem Keep.grown{row:Option Nat}(h:Keep C w w1)(hg:w1.grownBy w2 row)(hr:∀ k,row=some k → ¬ C k)(hC:∀ k,C k→k<w.heap.size):Keep C w w2 :=
 ⟨hg.os.trans h.os,hg.tape.trans h.tape,hg.output.trans h.output,Nat.le_trans h.size hg.size,fun k hk=>(hg.block k (by have:=h.size; have:=hC k hk; omega) (fun e=>hr k e.symm hk)).trans (h.block k hk)⟩
theorem Keep.set(h:Keep C w w1)(p i:Nat)(v:Value)(hp:¬ C p):Keep C w (w1.setCell ⟨p,i,none⟩ v) :=
 ⟨h.os,h.tape,h.output,by rw [size_setCell]; exact h.size,fun k hk=>(Below.heap_setCell w1 ⟨p,i,none⟩ v k (fun e=>hp (by subst e; exact hk))).trans (h.block k hk)⟩
theorem Keep.mono{C':Nat→Prop}(h:Keep C w w1)(hc:∀ k,C' k→C k):Keep C' w w1:=⟨h.os,h.tape,h.output,h.size,fun k hk=>h.block k (hc k hk)⟩
theorem Keep.cell(h:Keep C w w1){p:Addr}(hp:C p.block):w1.cell? p=w.cell? p:=World.cell?_of_block (h.block _ hp)
theorem Keep.box(h:Keep C w w1){b:Nat}{x:Array Value}{t:TypeId}(hx:BoxAt w b x t)(hp:C b):BoxAt w1 b x t:=(h.block _ hp).trans hx
theorem Keep.to_below(h:Keep C w w1){B:Nat}(hB:∀ k,k<B→C k):Below B w w1:=⟨h.os,h.tape,h.output,h.size,fun k hk=>h.block k (hB k hk)⟩
theorem Keep.of_below{B:Nat}(h:Below B w w1)(hC:∀ k,C k→k<B):Keep C w w1:=⟨h.os,h.tape,h.output,h.size,fun k hk=>h.block k (hC k hk)⟩
end
def bitsH(v:Nat):Nat→List Bool
 | 0=>[]
 | m+1=>(v / 2 ^ m % 2==1)::bitsH v m
theorem bitsH_len(v:Nat):∀ m,(bitsH v m).length=m
 | 0=>rfl
 | m+1=>by simp [bitsH,bitsH_len v m]
theorem bitsH_take(v:Nat):∀ m k,k<m→(bitsH v m).take (k+1)=(bitsH v m).take k ++ [v / 2 ^ (m - 1 - k) % 2==1]
 | 0,k,h=>by omega
 | m+1,0,_=>by simp [bitsH]
 | m+1,k+1,h=>by
  have:=bitsH_take v m k (by omega)
  show(v / 2 ^ m % 2==1)::(bitsH v m).take (k+1)=((v / 2 ^ m % 2==1)::(bitsH v m).take k)++_
  rw [this,show m+1 - 1 - (k+1)=m - 1 - k by omega];rfl
structure PenAt (bT base:Nat) (C:Nat→Prop) (W:World) (l:List Bool):Prop where
 old:base≤bT
 off:¬ C bT
 lt:∀ k,C k→k<W.heap.size
 all:∀ k,k<base→C k
 row:∃ v,BoxAt W bT #[v,.int .i64 0] 118∧W.ownsRow base 4 1 v l.length (l.map Value.bool) ∧ ∀ k,v.ownBlock=some k → ¬ C k∧k≠bT
theorem PenAt.lts{bT base:Nat}{C:Nat→Prop}{W:World}{l:List Bool}(h:PenAt bT base C W l):bT<W.heap.size:=by
 obtain⟨v,h1,-⟩:=h.row;exact lt_of_heap h1
theorem PenAt.grow{bT base:Nat}{C:Nat→Prop}{W W2:World}{l:List Bool}(h:PenAt bT base C W l)(hb:Below W.heap.size W W2):PenAt bT base C W2 l:=by
 refine⟨h.old,h.off,fun k hk=>Nat.lt_of_lt_of_le (h.lt k hk) hb.size,h.all,?_⟩;obtain⟨v,h1,h2,h3⟩:=h.row;exact⟨v,h1.grow hb,h2.kept (row:=none) ⟨hb.os,hb.tape,hb.output,hb.size,fun k hk _=>hb.block k hk⟩ (by cases v.ownBlock <;> simp),h3⟩
theorem PenAt.more{bT base:Nat}{C C':Nat→Prop}{W W2:World}{l:List Bool}(h:PenAt bT base C W l)(hb:Below W.heap.size W W2)(hc:∀ k,C' k→C k∨(W.heap.size≤k∧k<W2.heap.size))(hc2:∀ k,C k→C' k):PenAt bT base C' W2 l:=by
 have g:=h.grow hb;have hl:=h.lts;obtain⟨v,h1,h2,h3⟩:=h.row;have hv:∀ k,v.ownBlock=some k→k<W.heap.size:=fun k hk=>(h2.lt k hk).2;refine⟨h.old,fun e=>?_,fun k hk=>?_,fun k hk=>hc2 k (h.all k hk),v,h1.grow hb,h2.kept (row:=none) ⟨hb.os,hb.tape,hb.output,hb.size,fun k hk _=>hb.block k hk⟩ (by cases v.ownBlock <;> simp),fun k hk=>⟨fun e=>?_,(h3 k hk).2⟩⟩
 ·rcases hc _ e with e | e
  ·exact h.off e
  ·omega
 ·rcases hc _ hk with e | e
  ·exact g.lt k e
  ·exact e.2
 ·rcases hc _ e with e | e
  ·exact(h3 k hk).1 e
  ·have:=hv k hk; omega
theorem PenAt.less{bT base:Nat}{C C':Nat→Prop}{W:World}{l:List Bool}(h:PenAt bT base C' W l)(hc:∀ k,C k→C' k)(ha:∀ k,k<base→C k):PenAt bT base C W l:=by
 obtain⟨v,h1,h2,h3⟩:=h.row;exact⟨h.old,fun e=>h.off (hc _ e),fun k hk=>h.lt k (hc k hk),ha,v,h1,h2,fun k hk=>⟨fun e=>(h3 k hk).1 (hc _ e),(h3 k hk).2⟩⟩
theorem PenAt.client{bT base:Nat}{C:Nat→Prop}{W:World}{l:List Bool}(h:PenAt bT base C W l)(g o:Nat)(x:Value)(hg:C g):PenAt bT base C (W.setCell ⟨g,o,none⟩ x) l:=by
 refine⟨h.old,h.off,fun k hk=>by rw [size_setCell]; exact h.lt k hk,h.all,?_⟩;obtain⟨v,h1,h2,h3⟩:=h.row;refine⟨v,h1.set _ _ (fun e=>h.off (by rw [← e]; exact hg)),h2.kept (row:=some g) ⟨rfl,rfl,rfl,by rw [size_setCell]; exact Nat.le_refl _,fun k hk hne=>Below.heap_setCell _ _ _ _ (fun e=>hne (by rw [e]))⟩ ?_,h3⟩
 cases e:v.ownBlock with
 | none=>simp
 | some k=>exact .inr (fun e2=>(h3 k e).1 (by cases e2; exact hg))
theorem PenAt.push{bT base:Nat}{C:Nat→Prop}{W W1 w2:World}{L:List Bool}(h:PenAt bT base C W L)(hb:Below W.heap.size W W1){va:Value}(z0:BoxAt W bT #[va,.int .i64 0] 118)(z2:∀ k,va.ownBlock=some k → ¬ C k∧k≠bT)
  {g2 cap:Nat} {b:Bool} (h1:w2.ownsRow base 4 1 (.slice (some ⟨g2,0,none⟩) (L.length+1) cap) (L.length+1) (L.map Value.bool ++ [.bool b])) (h2:W1.grownBy w2 va.ownBlock) (h3:va.ownBlock=some g2∨g2=W1.heap.size) :
  PenAt bT base C (w2.setCell ⟨bT,0,none⟩ (.slice (some ⟨g2,0,none⟩) (L.length+1) cap)) (L ++ [b])∧Keep C W (w2.setCell ⟨bT,0,none⟩ (.slice (some ⟨g2,0,none⟩) (L.length+1) cap))∧BoxAt w2 bT #[va,.int .i64 0] 118∧Keep C W w2:=by
 have k1:Keep C W W1:=(Keep.refl C W).below hb h.lt;have k2:Keep C W w2:=k1.grown h2 (fun k hk=>(z2 k hk).1) h.lt;have hlt:=h.lts
 have hg:¬ C g2∧g2≠bT:=by
  rcases h3 with e | e
  ·exact z2 g2 e
  ·have:=hb.size
   exact⟨fun hc=>by have:=h.lt g2 hc; omega,by omega⟩
 have y0:BoxAt w2 bT #[va,.int .i64 0] 118:=BoxAt.kept (z0.grow hb) h2 (fun e=>(z2 bT e.symm).2 rfl);refine⟨⟨h.old,h.off,fun k hk=>by rw [size_setCell]; exact Nat.lt_of_lt_of_le (h.lt k hk) k2.size,h.all,.slice (some ⟨g2,0,none⟩) (L.length+1) cap,y0.store 0 _,?_,fun k hk=>by cases hk; exact hg⟩,k2.set _ _ _ h.off,y0,k2⟩;rw [List.length_append,List.map_append];exact h1.kept (row:=some bT) ⟨rfl,rfl,rfl,by rw [size_setCell]; exact Nat.le_refl _,fun k hk hne=>Below.heap_setCell _ _ _ _ (fun e=>hne (by rw [e]))⟩ (.inr (fun e=>hg.2 (by cases e; rfl)))
structure PL (bT base:Nat) (C:Nat→Prop) (W0:World) (b0:Nat) (W:World) (l:List Bool):Prop where
 pen:PenAt bT base C W l
 keep:Keep C W0 W
 box:BoxAt W b0 #[.pointer (some ⟨bT,0,none⟩)] 181
set_option maxRecDepth 100000 in
set_option maxHeartbeats 4000000 in
theorem pen_any(bT base:Nat)(C:Nat→Prop)(l:List Bool)(g o v m:Nat)(w:World)(hp:PenAt bT base C w l)(hC:C g)(hv:w.cell? ⟨g,o,none⟩=some (.int .i64 v))(hm:m≤10)(hl:l.length≤100000) :
  Calls Tryz.prog 196 #[.agg #[.pointer (some ⟨bT,0,none⟩)],.pointer (some ⟨g,o,none⟩),.int .i64 m] w fun e w' =>
   e = .returned (.tuple #[])∧PenAt bT base C w' (l++bitsH v m)∧Keep C w w':=by
 have hb0:=(Below.refl w.heap.size w).alloc (Nat.le_refl _) (.cells #[.pointer (some ⟨bT,0,none⟩)] 181);have hlt:=hp.lt;obtain⟨C',eC⟩:∃ C':Nat→Prop,C'=fun k=>C k∨k=w.heap.size:=⟨_,rfl⟩
 have hp1:=hp.more (C':=C') hb0 (fun k hk=>by rw [eC] at hk; rw [sizeAlloc]; rcases hk with h | h; exact .inl h; exact .inr (by omega)) (fun k hk=>by rw [eC]; exact .inl hk);have K1:=Lib.hid (Keep.of_below hb0 hlt);have I0:=Lib.hid (show PL bT base C' (w.alloc (.cells #[.pointer (some ⟨bT,0,none⟩)] 181)) w.heap.size (w.alloc (.cells #[.pointer (some ⟨bT,0,none⟩)] 181)) (l++(bitsH v m).take 0) from⟨by simpa using hp1,Keep.refl _ _,heap_alloc_new _ _⟩);have HC:=Lib.hid (And.intro (show C' g from by rw [eC]; exact .inl hC) (show C' w.heap.size from by rw [eC]; exact .inr rfl));have HS:=Lib.hid (show ∀ k,C k→C' k from fun k hk=>by rw [eC]; exact .inl hk);have HA:=Lib.hid hp.all;have HV:=Lib.hid (show(w.alloc (.cells #[.pointer (some ⟨bT,0,none⟩)] 181)).cell? ⟨g,o,none⟩=some (.int .i64 v) from(hb0.cell (p:=⟨g,o,none⟩) (hlt g hC)).trans hv);have HL:=Lib.hid hl;clear hb0 hp1 hp hlt hv hl eC hC;go_enter Tryz.func196,Tryz.ntmps196;go_upto_region 1 with (fail)
 generalize World.alloc _ _=W0 at *;go_wp2_with fail
 go_loopw [6] (fun i wi => ∃ k:Nat,k≤m∧i = .int .i64 ((m:Int) - 1 - k)∧PL bT base C' W0 w.heap.size wi (l++(bitsH v m).take k)) (fun i _=>(intOf i+1).toNat)
 case atStart=>exact⟨0,Nat.zero_le _,by simp,I0.out⟩
 case round =>
  clear I0;obtain⟨k,hk,rfl,h1⟩:=hrel;have I1:=Lib.hid h1;clear h1;by_cases hlt:k<m
  ·obtain⟨i,ei⟩:∃ i,m - 1 - k=i:=⟨_,rfl⟩
   have e1:(m:Int) - 1 - k=(i:Int):=by omega
   have e2:(m:Int) - 1 - ((k+1:Nat):Int)=(i:Int) - 1:=by omega
   have HT:=Lib.hid (show l++(bitsH v m).take (k+1)=(l++(bitsH v m).take k) ++ [v / 2 ^ i % 2==1] from by rw [bitsH_take v m k hlt,ei,List.append_assoc]);have HE2:=Lib.hid e2;rw [e1]
   have hlen:(l++(bitsH v m).take k).length≤100010:=by
    have:=HL.out;have:=bitsH_len v m;simp only [List.length_append,List.length_take];omega
   generalize (l++(bitsH v m).take k)=L at *;have hi10:i≤10:=by omega
   clear e1 e2 ei;obtain⟨va,z0,z1,z2⟩:=I1.out.pen.row;have c0:=cellAt z0 0;have c1:=cellAt I1.out.box 0;have f0:=freeAt z0 0;have c2:=(I1.out.keep.cell (p:=⟨g,o,none⟩) HC.out.1).trans HV.out;simp only [List.getElem?_toArray,List.getElem?_cons_zero] at c0 c1;obtain⟨y,ey⟩:∃ y,v / 2 ^ i=y:=⟨_,rfl⟩
   have e1:(v:Int) / 2 ^ i=y:=by rw [← ey]; simp
   obtain⟨b,eb⟩:∃ b,(y % 2==1)=b:=⟨_,rfl⟩
   have t1:(bits .and .i64 (y:Int) 1==1)=b:=by
    rw [i64_and1,← eb,Bool.eq_iff_iff,beq_iff_eq,beq_iff_eq];omega
   rw [ey,eb] at HT;clear ey eb;go_upto_region 4 with (fail)
   have hwf:=I1.out.pen.lts;have hb1:Below wr.heap.size wr (wr.drew.alloc (.cells #[.bool b] 4)):=((Below.drew (Below.refl wr.heap.size wr))).alloc (Nat.le_refl _) (.cells #[.bool b] 4);have ZO:=Lib.hid (show(wr.drew.alloc (.cells #[.bool b] 4)).ownsRow base 4 1 va L.length (L.map Value.bool) from z1.kept (row:=none) ⟨hb1.os,hb1.tape,hb1.output,hb1.size,fun k hk _=>hb1.block k hk⟩ (by cases va.ownBlock <;> simp));have ZT:=Lib.hid (show BoxAt (wr.drew.alloc (.cells #[.bool b] 4)) bT #[va,.int .i64 0] 118 from z0.grow hb1);have ZN:=Lib.hid (show ∀ j u,([Value.bool b])[j]? = some u→(wr.drew.alloc (.cells #[.bool b] 4)).cell? ((⟨wr.heap.size,0,none⟩:Addr).add j)=some u from World.news_of_block (heap_alloc_new wr.drew (.cells #[.bool b] 4)));have ZB:=Lib.hid (show base≤(wr.drew.alloc (.cells #[.bool b] 4)).heap.size from by have:=I1.out.pen.old; have:=hb1.size; omega);have PU:=Lib.hid (fun g2 cap w2 h1 h2 h3=>I1.out.pen.push (b:=b) (g2:=g2) (cap:=cap) (w2:=w2) hb1 z0 z2 h1 h2 h3);have ZC:=Lib.hid (fun k (hk:C' k)=>Nat.lt_of_lt_of_le (I1.out.pen.lt k hk) hb1.size);obtain⟨i0,z,bytes,hi0,hz0,hsz,hby,hzs,hb8⟩:=elem4.info;have HBY:=Lib.hid (show(L.length+1) * bytes≤140737488355328 from by have:=Nat.mul_le_mul (show L.length+1≤200000 by omega) hb8; omega);have HML:=Lib.hid (show L.length+1≤maxLen from by unfold maxLen; omega);have hb2:=(Below.refl wr.heap.size wr).alloc (Nat.le_refl _) (.cells #[.bool b] 4);have e0:=(hb2.cell (p:=⟨bT,0,none⟩) hwf).trans c0;have e1':=(hb2.cell (p:=⟨w.heap.size,0,none⟩) (lt_of_heap I1.out.box)).trans c1;have e2:=(hb2.cell (p:=⟨g,o,none⟩) (I1.out.pen.lt g HC.out.1)).trans c2;clear hb1 hb2
   go_region_law (refine step_append_lies _ rfl (.tmp 19) (.tmp 27) 115 rfl base 4 i0 z 1 bytes elem4.slice hi0 hz0 hsz hby hzs (by omega) va L.length (L.map Value.bool) (by simp [Act.eval]) ZO.out ⟨wr.heap.size,0,none⟩ 1 1 [.bool b] (by simp [Act.eval]) rfl ZN.out (fun u hu=>by rw [List.mem_singleton] at hu; rw [hu]; rfl) (by omega) HML.out HBY.out ZB.out _ rfl ?_; intro g2 cap w2 h1 h2 h3 h4; have P2:=Lib.hid (PU.out g2 cap w2 h1 h2 h3); clear h1 h2 h3 h4; have d0:=cellAt P2.out.2.2.1 0; have d1:=freeAt P2.out.2.2.1 0; have d2:=(P2.out.2.2.2.cell (p:=⟨w.heap.size,0,none⟩) HC.out.2).trans c1; simp only [List.getElem?_toArray,List.getElem?_cons_zero] at d0)
   all_goals
    go_wp2_with fail;exact⟨⟨k+1,hlt,by rw [HE2.out],by rw [HT.out]; exact P2.out.1,I1.out.keep.trans P2.out.2.1,P2.out.2.1.box I1.out.box HC.out.2⟩,by simp [intOf]⟩
  ·obtain rfl:k=m:=by omega
   have t0:decide (0≤(k:Int) - 1 - k)=false:=decide_eq_false (by omega);have HZ:=Lib.hid (show(bitsH v k).take k=bitsH v k from List.take_of_length_le (by rw [bitsH_len]; exact Nat.le_refl _));rw [HZ.out] at I1;go_wp2_with fail
   go_end0
   exact⟨rfl,I1.out.pen.less HS.out HA.out,K1.out.trans (I1.out.keep.mono HS.out)⟩
def RdAt(W:World)(rb:Nat)(t:List UInt8):Prop:=BoxAt W rb #[.string ⟨t.toArray⟩] 173
def OffR(rb:Nat)(w w':World):Prop:=Keep (fun k=>k<w.heap.size∧k≠rb) w w'
theorem OffR.trans{rb:Nat}{a b c:World}(h:OffR rb a b)(k:OffR rb b c):OffR rb a c :=
 Keep.trans h (Keep.mono k fun j hj=>⟨by have:=Keep.size h; omega,hj.2⟩)
theorem OffR.refl(rb:Nat)(w:World):OffR rb w w:=Keep.refl _ _
theorem OffR.set{rb:Nat}{w:World}(v:Value):OffR rb w (w.setCell ⟨rb,0,none⟩ v):=Keep.set (Keep.refl _ _) _ _ _ (fun h=>h.2 rfl)
theorem OffR.below{rb:Nat}{w w':World}(h:Below w.heap.size w w'):OffR rb w w':=Keep.of_below h fun _ hk=>hk.1
def seesT(t p:List UInt8):List UInt8:=Lib.trimPrefix t p
set_option maxHeartbeats 1000000 in
theorem sees_any(rb:Nat)(t p:List UInt8)(w:World)(h:RdAt w rb t) :
  Calls Tryz.prog 95 #[bp rb,.string ⟨p.toArray⟩] w fun e w'=>e = .returned (.bool (Lib.hasPrefix t p))∧w'=w.setCell ⟨rb,0,none⟩ (.string ⟨(seesT t p).toArray⟩):=by
 have c0:=cellAt h 0;have f0:=freeAt h 0;simp only [List.getElem?_toArray,List.getElem?_cons_zero] at c0;have C:=Lib.hid (Tryz.strings_CutPrefix ⟨t.toArray⟩ ⟨p.toArray⟩ w);clear h;go_enter Tryz.func95,Tryz.ntmps95;go_wp2_with fail;refine C.out.mono ?_;rintro e w' ⟨rfl,rfl⟩;go_wp2_with fail;go_ret;exact⟨rfl,rfl⟩
def WordPost(rb:Nat)(t p:List UInt8)(w:World)(e:Ending)(w':World):Prop :=
 OffR rb w w'∧if Lib.hasPrefix t p then e = .returned (.tuple #[])∧RdAt w' rb (t.drop p.length) else e=err 8
theorem seesT_yes{t p:List UInt8}(h:Lib.hasPrefix t p=true):seesT t p=t.drop p.length:=by unfold seesT Lib.trimPrefix; rw [if_pos h]
theorem seesT_no{t p:List UInt8}(h:Lib.hasPrefix t p=false):seesT t p=t:=by unfold seesT Lib.trimPrefix; rw [h]; rfl
theorem RdAt.set{W:World}{rb:Nat}{t:List UInt8}(h:RdAt W rb t)(r:List UInt8):RdAt (W.setCell ⟨rb,0,none⟩ (.string ⟨r.toArray⟩)) rb r:=BoxAt.store h 0 _
set_option maxHeartbeats 1000000 in
theorem word_any(rb:Nat)(t p:List UInt8)(w:World)(h:RdAt w rb t) :
  Calls Tryz.prog 98 #[bp rb,.string ⟨p.toArray⟩] w (WordPost rb t p w):=by
 have C:=Lib.hid (sees_any rb t p w h);have H:=Lib.hid h;clear h
 cases hp:Lib.hasPrefix t p with
 | true =>
  have HP:=Lib.hid hp;go_enter Tryz.func98,Tryz.ntmps98;go_wp2_with (go_at_call 95; refine C.out.mono ?_);rintro e w' ⟨rfl,rfl⟩;rw [hp];clear hp;go_wp2_with (go_at_call 62; refine(ask_true _ _).mono ?_; rintro e w' ⟨rfl,rfl⟩)
  go_end0
  refine⟨OffR.set _,?_⟩;rw [if_pos HP.out,seesT_yes HP.out];exact⟨rfl,H.out.set _⟩
 | false =>
  have HP:=Lib.hid hp;go_enter Tryz.func98,Tryz.ntmps98;go_wp2_with (go_at_call 95; refine C.out.mono ?_);rintro e w' ⟨rfl,rfl⟩;rw [hp];clear hp;go_wp2_with (go_at_call 62; refine(ask_false _ _).mono ?_; rintro e w' ⟨rfl,rfl⟩)
  all_goals
   refine⟨rfl,OffR.set _,?_⟩;rw [HP.out];rfl
end Go.Proofs.YtclbmlmlhiiaeaaGreatDoor
