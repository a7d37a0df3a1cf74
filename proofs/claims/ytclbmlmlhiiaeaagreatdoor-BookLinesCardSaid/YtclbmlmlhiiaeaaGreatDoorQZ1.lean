/- Plain laws: the lines of a text that was written; what is wr -/
import Derived.Test.YtclbmlmlhiiaeaaGreatDoorQRG
import Derived.Test.YtclbmlmlhiiaeaaGreatDoorQY3
namespace Go.Proofs.YtclbmlmlhiiaeaaGreatDoor
open Go.RowKit
inductive Whole:List UInt8→Prop
 | nil:Whole []
 | line {l r:List UInt8}:10 ∉ l→Whole r→Whole (l++10::r)
theorem Whole.one{l:List UInt8}(h:10 ∉ l):Whole (l ++ [10]):=.line h .nil
theorem Whole.app{a b:List UInt8}(h:Whole a)(hb:Whole b):Whole (a++b):=by
 induction h with
 | nil=>exact hb
 | line hl _ ih =>
  rw [List.append_assoc,List.cons_append];exact .line hl ih
theorem cut_nl{l r:List UInt8}(h:10 ∉ l):Lib.cut (l++10::r) [10]=(l,r,true):=cut_line (fun _ hc e=>h (e ▸ hc)) r
section
variable {σ:Type} (step:σ→List UInt8→Option σ)
theorem linesR_cons{l r:List UInt8}(s:σ)(h:10 ∉ l):linesR step s (l++10::r)=(step s l).bind fun s'=>linesR step s' r :=
 linesR_bind step s (by simp) (cut_nl h)
theorem linesR_one{l:List UInt8}(s:σ)(h:10 ∉ l):linesR step s (l ++ [10])=step s l:=by
 rw [linesR_cons step s h]
 cases step s l <;> rfl
theorem linesR_whole{a b:List UInt8}(h:Whole a):∀ s,linesR step s (a++b)=(linesR step s a).bind fun s'=>linesR step s' b:=by
 induction h with
 | nil=>intro s; rfl
 | line hl _ ih =>
  intro s;rw [List.append_assoc,List.cons_append,linesR_cons step s hl,linesR_cons step s hl]
  cases step s _ with
  | none=>rfl
  | some s'=>exact ih s'
end
theorem nl_dec(u:Nat):(10:UInt8) ∉ Lib.decDigits u:=fun h=>absurd ((dec_spec u).1 10 h) (by decide)
theorem nl_itoa(n:Int):(10:UInt8) ∉ Lib.itoa n:=by
 by_cases hn:n<0
 ·obtain⟨u,rfl⟩:∃ u:Nat,n = -(u:Int):=⟨n.natAbs,by omega⟩
  rw [Lib.itoa_neg u (by omega)];simp only [List.mem_cons,not_or];exact⟨by decide,nl_dec u⟩
 ·obtain⟨u,rfl⟩:∃ u:Nat,n=u:=⟨n.toNat,by omega⟩
  rw [Lib.itoa_nonneg];exact nl_dec u
theorem nl_span(lo hi:Int):(10:UInt8) ∉ spanT lo hi:=by
 unfold spanT
 split
 ·exact nl_itoa lo
 ·simp only [List.mem_append,List.mem_cons,not_or]
  refine⟨nl_itoa lo,?_⟩
  first
  | exact⟨by decide,by decide,nl_itoa hi⟩
  | (simp; exact nl_itoa hi)
theorem sideP_side{s:Int}(h : -1≤s∧s≤1)(r:List UInt8):sideP (sideT s++r)=some (s,r):=by
 rcases(show s = -1∨s=0∨s=1 by omega) with rfl | rfl | rfl <;> rfl
theorem noDig_side(s:Int)(r:List UInt8):NoDig (sideT s++r):=by
 unfold sideT
 split
 ·exact noDig_cons (by decide)
 ·split
  ·exact noDig_cons (by decide)
  ·exact noDig_cons (by decide)
theorem nl_side(s:Int):(10:UInt8) ∉ sideT s:=by
 unfold sideT
 split
 ·decide
 ·split <;> decide
def seaF:List Sea→List UInt8
 | []=>[]
 | x::l=>seaT x++seaF l
theorem seaF_snoc(x:Sea):∀ l,seaF (l ++ [x])=seaF l++seaT x
 | []=>by show seaT x ++ []=_; simp [seaF]
 | y::l=>by
  show seaT y++seaF (l ++ [x])=(seaT y++seaF l)++seaT x
  rw [seaF_snoc x l,List.append_assoc]
theorem noDig_seas:∀ l,NoDig (seaF l)
 | []=>noDig_nil
 | _::_=>noDig_cons (by decide)
theorem seamP_sea{x:Sea}(h:okS x=true){r:List UInt8}(hr:NoDig r):seamP (Lib.itoa x.h++sideT x.s++Lib.itoa x.m++r)=some (x,r):=by
 have h:=okS_iff h;unfold seamP;rw [List.append_assoc,List.append_assoc,numP_itoa (by omega) (noDig_side _ _)];dsimp only;rw [sideP_side (by omega)];dsimp only;rw [numP_itoa (by omega) hr]
theorem seamsP_seas:∀ (l:List Sea),(∀ x,x ∈ l→okS x=true) → ∀ (k:Nat) (a:List Sea),l.length≤k→seamsP k (seaF l) a=some (a++l,[])
 | [],_,k,a,_=>by rw [seamsP_end _ _ _ rfl,List.append_nil]; rfl
 | x::l,h,k,a,hk=>by
  obtain⟨k,rfl⟩:∃ j,k=j+1:=⟨k - 1,by simp at hk; omega⟩
  have hs:seaF (x::l)=32::(Lib.itoa x.h++sideT x.s++Lib.itoa x.m++seaF l):=by
   show(32::Lib.itoa x.h++sideT x.s++Lib.itoa x.m)++seaF l=_
   simp only [List.cons_append,List.append_assoc]
  rw [seamsP_step _ _ _ (by rw [hs]; rfl),hs,List.drop_succ_cons,List.drop_zero,seamP_sea (h x (List.mem_cons_self ..)) (noDig_seas l)];dsimp only;rw [seamsP_seas l (fun y hy=>h y (List.mem_cons_of_mem _ hy)) k _ (by simp at hk; omega),List.append_assoc];rfl
theorem soundP_sou{x:Sou}(h:okU x=true):soundP (Lib.itoa x.d++(32::Lib.itoa x.l)++(32::spanT x.lo x.hi))=some (x,[]):=by
 have h:=okU_iff h;unfold soundP;rw [List.append_assoc,List.cons_append,numP_itoa (by omega) (noDig_cons (by decide))];dsimp only;rw [if_pos (by rfl)];rw [List.drop_succ_cons,List.drop_zero,numP_itoa (by omega) (noDig_cons (by decide))];dsimp only;rw [if_pos (by rfl),List.drop_succ_cons,List.drop_zero];have hp:=spanP_span (lo:=x.lo) (hi:=x.hi) (by omega) (by omega) (r:=[]) ⟨noDig_nil,fun _ _ h=>by cases h⟩;rw [List.append_nil] at hp;rw [hp]
def listN{α:Type}(F:Nat→α):Nat→List α
 | 0=>[]
 | n+1=>listN F n ++ [F n]
theorem listN_len{α:Type}(F:Nat→α):∀ n,(listN F n).length=n
 | 0=>rfl
 | n+1=>by show(listN F n ++ [F n]).length=_; rw [List.length_append,listN_len F n]; rfl
theorem listN_get{α:Type}(F:Nat→α)(d:α):∀ n i,i<n→(listN F n).getD i d=F i
 | n+1,i,h=>by
  show(listN F n ++ [F n]).getD i d=_
  by_cases hi:i<n
  ·rw [List.getD_eq_getElem?_getD,List.getElem?_append_left (by rw [listN_len]; exact hi),← List.getD_eq_getElem?_getD]
   exact listN_get F d n i hi
  ·obtain rfl:i=n:=by omega
   rw [List.getD_eq_getElem?_getD,List.getElem?_append_right (by rw [listN_len]; exact Nat.le_refl _),listN_len,Nat.sub_self];rfl
theorem listN_mem{α:Type}{F:Nat→α}{x:α}:∀ {n},x ∈ listN F n → ∃ i,i<n∧x=F i
 | n+1,h=>by
  rcases List.mem_append.1 (show x ∈ listN F n ++ [F n] from h) with h | h
  ·obtain⟨i,hi,e⟩:=listN_mem h
   exact⟨i,by omega,e⟩
  ·rw [List.mem_singleton] at h
   exact⟨n,by omega,h⟩
theorem seasT_eq(S:Nat→Sea):∀ n,seasT S n = [104,117,108,108]++seaF (listN S n)
 | 0=>rfl
 | n+1=>by
  show seasT S n++seaT (S n)=_
  rw [seasT_eq S n,List.append_assoc,← seaF_snoc];rfl
theorem seaF_len:∀ l,List.length l≤(seaF l).length
 | []=>Nat.le_refl _
 | x::l=>by
  show _≤((32::Lib.itoa x.h++sideT x.s++Lib.itoa x.m)++seaF l).length
  have:=seaF_len l;simp only [List.length_append,List.length_cons];omega
theorem nl_seas:∀ l,(10:UInt8) ∉ seaF l
 | []=>by simp [seaF]
 | x::l=>by
  show _ ∉ (32::Lib.itoa x.h++sideT x.s++Lib.itoa x.m)++seaF l
  have h1:=nl_itoa x.h;have h2:=nl_itoa x.m;have h3:=nl_side x.s;have h4:=nl_seas l;simp only [List.mem_append,List.mem_cons,not_or];exact⟨⟨⟨⟨by decide,h1⟩,h3⟩,h2⟩,h4⟩
theorem nl_sou(x:Sou):(10:UInt8) ∉ Lib.itoa x.d++(32::Lib.itoa x.l)++(32::spanT x.lo x.hi):=by
 have h1:=nl_itoa x.d;have h2:=nl_itoa x.l;have h3:=nl_span x.lo x.hi;simp only [List.mem_append,List.mem_cons,not_or];exact⟨⟨h1,by decide,h2⟩,by decide,h3⟩
theorem head_dig{n:Int}(h:0≤n)(r:List UInt8):∃ c r',Lib.itoa n++r=c::r'∧dgtB c=true:=by
 obtain⟨u,rfl⟩:∃ u:Nat,n=u:=⟨n.toNat,by omega⟩
 rw [Lib.itoa_nonneg];have hs:=dec_spec u
 cases hd:Lib.decDigits u with
 | nil =>
  have:=Lib.decDigits_length u;have h0:0<Lib.nDigits u:=Lib.nDigits_pos u;rw [hd] at this;simp at this;omega
 | cons c l=>exact⟨c,l++r,rfl,hs.1 c (by rw [hd]; exact List.mem_cons_self ..)⟩
theorem step_hull{S:Nat→Sea}{n:Nat}(h:∀ i,i<n→okS (S i)=true):stepH (⟨[],[]⟩,0) (seasT S n)=some (⟨listN S n,[]⟩,1):=by
 rw [seasT_eq];unfold stepH;rw [lineStep_of (J:=0) (by rfl) (by decide)]
 show((seamsP (seaF (listN S n)).length (seaF (listN S n)) []).map _).bind _=_
 rw [seamsP_seas (listN S n) (fun x hx=>by obtain⟨i,hi,rfl⟩:=listN_mem hx; exact h i hi) _ _ (seaF_len _)];rfl
theorem step_sou{x:Sou}(h:okU x=true)(v:HullV):stepH (v,1) (Lib.itoa x.d++(32::Lib.itoa x.l)++(32::spanT x.lo x.hi))=some (⟨v.s,v.u ++ [x]⟩,1):=by
 unfold stepH;rw [lineStep_of (J:=1) (by rfl) (by decide)]
 show((soundP (Lib.itoa x.d++(32::Lib.itoa x.l)++(32::spanT x.lo x.hi))).map _).bind _=_
 rw [soundP_sou h];rfl
theorem lines_hull{S:Nat→Sea}{n:Nat}{U:Nat→Sou}(h:∀ i,i<n→okS (S i)=true):∀ m,(∀ i,i<m→okU (U i)=true)→Whole (hullT S n U m)∧linesR stepH (⟨[],[]⟩,0) (hullT S n U m)=some (⟨listN S n,listN U m⟩,1)
 | 0,_=>by
  have hn:(10:UInt8) ∉ seasT S n:=by rw [seasT_eq]; simp only [List.mem_append,not_or]; exact⟨by decide,nl_seas _⟩
  exact⟨.one hn,(linesR_one stepH _ hn).trans (step_hull h)⟩
 | m+1,hu=>by
  obtain⟨h1,h2⟩:=lines_hull h m fun i hi=>hu i (by omega);have e:hullT S n U (m+1)=hullT S n U m++((Lib.itoa (U m).d++(32::Lib.itoa (U m).l)++(32::spanT (U m).lo (U m).hi)) ++ [10]):=rfl;rw [e];refine⟨h1.app (.one (nl_sou _)),?_⟩;rw [linesR_whole stepH h1,h2]
  show linesR stepH _ _=_
  rw [linesR_one stepH _ (nl_sou _),step_sou (hu m (by omega))];rfl
theorem allB_congr{p q:Nat→Bool}:∀ {n:Nat},(∀ i,i<n→p i=q i)→allB p n=allB q n
 | 0,_=>rfl
 | n+1,h=>by
  show(allB p n&&p n)=(allB q n&&q n)
  rw [allB_congr fun i hi=>h i (by omega),h n (by omega)]
theorem hullT_congr{S S':Nat→Sea}{n:Nat}{U U':Nat→Sou}(h:∀ i,i<n→S i=S' i):∀ {m:Nat},(∀ i,i<m→U i=U' i)→hullT S n U m=hullT S' n U' m
 | 0,_=>by
  have:∀ k,k≤n→seasT S k=seasT S' k:=by
   intro k
   induction k with
   | zero=>intro _; rfl
   | succ k ih =>
    intro hk
    show seasT S k++seaT (S k)=seasT S' k++seaT (S' k)
    rw [ih (by omega),h k (by omega)]
  show seasT S n ++ [10]=seasT S' n ++ [10]
  rw [this n (Nat.le_refl _)]
 | m+1,hu=>by
  show hullT S n U m++souT (U m)=hullT S' n U' m++souT (U' m)
  rw [hullT_congr h fun i hi=>hu i (by omega),hu m (by omega)]
theorem hullB_congr{S S':Nat→Sea}{n:Nat}{U U':Nat→Sou}{m:Nat}(h:∀ i,i<n→S i=S' i)(hu:∀ i,i<m→U i=U' i):hullB S n U m=hullB S' n U' m:=by
 unfold hullB;rw [allB_congr (p:=fun i=>okS (S i)) (q:=fun i=>okS (S' i)) fun i hi=>by rw [h i hi],allB_congr (p:=fun i=>okU (U i)) (q:=fun i=>okU (U' i)) fun i hi=>by rw [hu i hi]]
theorem readH_hull{S:Nat→Sea}{n:Nat}{U:Nat→Sou}{m:Nat}(h:hullB S n U m=true):readH (hullT S n U m)=some ⟨listN S n,listN U m⟩:=by
 have ok:=hull_ok h;have hl:=(lines_hull (S:=S) (n:=n) (U:=U) ok.2.2.1 m ok.2.2.2).2;unfold readH;rw [hl];dsimp only;have eS:∀ i,i<n→seaOf (listN S n) i=S i:=fun i hi=>listN_get S _ n i hi;have eU:∀ i,i<m→souOf (listN U m) i=U i:=fun i hi=>listN_get U _ m i hi;rw [listN_len,listN_len,hullB_congr eS eU,hullT_congr eS eU,if_pos ⟨h,rfl⟩]
theorem hoursP_fuel:∀ (k k':Nat) (t:List UInt8) (s:Nat),t.length≤k→t.length≤k'→hoursP k t s=hoursP k' t s
 | 0,0,_,_,_,_=>rfl
 | 0,k'+1,t,s,h,_=>by
  obtain rfl:t = []:=List.eq_nil_of_length_eq_zero (by omega);rfl
 | k+1,0,t,s,_,h=>by
  obtain rfl:t = []:=List.eq_nil_of_length_eq_zero (by omega);rfl
 | k+1,k'+1,t,s,h,h'=>by
  simp only [hoursP]
  split
  ·cases hn:numP (t.drop 1) with
   | none=>rfl
   | some p =>
    obtain⟨n,t1⟩:=p;have:=numP_shorter hn;rw [List.length_drop] at this;dsimp only
    split
    ·exact hoursP_fuel k k' t1 _ (by omega) (by omega)
    ·rfl
  ·rfl
theorem hoursP_set{x:Int}(h:0≤x∧x<4096){r:List UInt8}(hr:NoSp r){k:Nat}(hk:(hT x++r).length≤k):hoursP k (hT x++r) 0=some (x.toNat,r):=by
 rw [hoursP_fuel k (k+31) _ _ hk (by omega)];exact hoursP_text (by omega) hr (by omega)
theorem noSp_nil:NoSp []:=⟨noDig_nil,fun _ _ h=>by cases h⟩
theorem mem_hours{c:UInt8}(x:Nat):∀ h,c ∈ hoursT x h→c=32∨dgtB c=true
 | 0,hc=>by cases hc
 | h+1,hc=>by
  rcases List.mem_append.1 (show c ∈ hoursT x h++_ from hc) with hc | hc
  ·exact mem_hours x h hc
  ·split at hc
   ·rcases List.mem_cons.1 hc with rfl | hc
    ·exact .inl rfl
    ·rw [Lib.itoa_nonneg] at hc
     exact .inr ((dec_spec h).1 c hc)
   ·cases hc
theorem nl_hT(x:Int):(10:UInt8) ∉ hT x:=fun h=>by
 rcases mem_hours _ _ h with h | h
 ·exact absurd h (by decide)
 ·exact absurd h (by decide)
theorem cut_perhaps{a:List UInt8}(h:(112:UInt8) ∉ a)(b:List UInt8):Lib.cut (a++(perhapsW++b)) perhapsW=(a,b,true):=by
 have hi:Lib.index (a++(perhapsW++b)) perhapsW=(a.length:Nat):=by
  refine Lib.index_first (by simp) ?_ fun j hj=>?_
  ·unfold Lib.occAt
   rw [List.drop_left];rfl
  ·unfold Lib.occAt
   rw [List.drop_append_of_le_length (by omega)]
   cases hd:a.drop j with
   | nil=>have:=congrArg List.length hd; rw [List.length_drop,List.length_nil] at this; omega
   | cons c l =>
    have hm:∀ d,d ∈ l→d≠112:=fun d hm e=>h (List.mem_of_mem_drop (i:=j) (by rw [hd]; exact List.mem_cons_of_mem _ (e ▸ hm)))
    cases l with
    | nil =>
     show((32:UInt8)==c&&((112:UInt8)==32&&_))=false
     rw [show((112:UInt8)==32)=false from by decide,Bool.false_and,Bool.and_false]
    | cons d l =>
     show((32:UInt8)==c&&((112:UInt8)==d&&_))=false
     rw [beq_eq_false_iff_ne.2 (fun e=>hm d (List.mem_cons_self ..) e.symm),Bool.false_and,Bool.and_false]
 unfold Lib.cut;rw [hi,if_pos (by omega)];simp [perhapsW]
theorem frostP_text{fr pe:Int}(h1:0≤fr∧fr<4096)(h2:0≤pe∧pe<4096){k:Nat}(hk:(hT fr++(perhapsW++hT pe)).length≤k):frostP k (hT fr++(perhapsW++hT pe))=some ((fr.toNat,pe.toNat),[]):=by
 have hp:(112:UInt8) ∉ hT fr:=fun h=>by
  rcases mem_hours _ _ h with h | h
  ·exact absurd h (by decide)
  ·exact absurd h (by decide)
 rw [List.length_append,List.length_append] at hk;have e1:=hoursP_set h1 (r:=[]) noSp_nil (k:=k) (by rw [List.append_nil]; omega);have e2:=hoursP_set h2 (r:=[]) noSp_nil (k:=k) (by rw [List.append_nil]; omega);rw [List.append_nil] at e1 e2;unfold frostP;rw [cut_perhaps hp,if_pos rfl];dsimp only;rw [e1];dsimp only;rw [List.nil_append,e2]
theorem potRd_pot{q:Pot}(h1:0≤q.h∧q.h≤12)(h2:0≤q.f∧q.f≤12)(h3:0≤q.b∧q.b≤12):potRd (Lib.itoa q.h++(32::Lib.itoa q.f)++(32::Lib.itoa q.b))=some ((q.h,q.f,q.b),[]):=by
 have e:=numP_itoa (n:=q.b) (by omega) noDig_nil;rw [List.append_nil] at e;unfold potRd;rw [List.append_assoc,List.cons_append,numP_itoa (by omega) (noDig_cons (by decide))];dsimp only;unfold nextP;rw [if_pos (by rfl),List.drop_succ_cons,List.drop_zero,numP_itoa (by omega) (noDig_cons (by decide))];dsimp only;rw [if_pos (by rfl),List.drop_succ_cons,List.drop_zero,e]
def lineP1(hr:Int):List UInt8:=[112,105,116,99,104,32]++Lib.itoa hr
def lineP2(fr pe:Int):List UInt8:=[102,114,111,115,116]++(hT fr++(perhapsW++hT pe))
def lineP3(x:Int):List UInt8:=[102,105,114,101]++hT x
def lineP4(q:Pot):List UInt8:=[112,111,116,32]++(Lib.itoa q.h++(32::Lib.itoa q.f)++(32::Lib.itoa q.b))
theorem nl_P1(hr:Int):(10:UInt8) ∉ lineP1 hr:=by
 unfold lineP1;simp only [List.mem_append,not_or];exact⟨by decide,nl_itoa hr⟩
theorem nl_P2(fr pe:Int):(10:UInt8) ∉ lineP2 fr pe:=by
 unfold lineP2;simp only [List.mem_append,not_or];exact⟨by decide,nl_hT fr,by decide,nl_hT pe⟩
theorem nl_P3(x:Int):(10:UInt8) ∉ lineP3 x:=by
 unfold lineP3;simp only [List.mem_append,not_or];exact⟨by decide,nl_hT x⟩
theorem nl_P4(q:Pot):(10:UInt8) ∉ lineP4 q:=by
 unfold lineP4;simp only [List.mem_append,List.mem_cons,not_or];exact⟨by decide,⟨nl_itoa _,by decide,nl_itoa _⟩,by decide,nl_itoa _⟩
theorem step_P1{hr:Int}(h:0≤hr∧hr≤12)(x:PitV):stepP (x,0) (lineP1 hr)=some ({x with hr:=hr},1):=by
 have e:=numP_itoa (n:=hr) (by omega) noDig_nil;rw [List.append_nil] at e;unfold stepP;rw [lineStep_of (J:=0) (by rfl) (by decide)]
 show((numP (Lib.itoa hr)).map _).bind _=_
 rw [e];rfl
theorem take_P1(x:PitV)(u:List UInt8):pitTake 1 x u=(frostP u.length u).map fun p=>({x with fr:=p.1.1,pe:=p.1.2},p.2):=rfl
theorem take_P2(x:PitV)(u:List UInt8):pitTake 2 x u=(hoursP u.length u 0).map fun p=>({x with f:=x.f ++ [(p.1:Int)]},p.2):=rfl
theorem lineStep_to{σ:Type}{once:Nat}{ws:List (List UInt8)}{take:Nat→σ→List UInt8→Option (σ×List UInt8)}{x x':σ}{k J:Nat}{line u:List UInt8}(hJ:kindFrom (ws.drop k) k line=J)(h2:J<ws.length)(hu:line.drop (ws.getD J []).length=u)(ht:take J x u=some (x',[])):lineStep once ws take (x,k) line=some (x',if J<once then J+1 else J):=by
 rw [lineStep_of hJ h2,hu,ht];rfl
theorem kind_P2(fr pe:Int):kindFrom (wsP.drop 1) 1 (lineP2 fr pe)=1:=by
 unfold lineP2;generalize hT fr++(perhapsW++hT pe)=t;rfl
theorem kind_P3(a:Int):kindFrom (wsP.drop 2) 2 (lineP3 a)=2:=by
 unfold lineP3;generalize hT a=t;rfl
theorem step_P2{fr pe:Int}(h1:0≤fr∧fr<4096)(h2:0≤pe∧pe<4096)(x:PitV):stepP (x,1) (lineP2 fr pe)=some ({x with fr:=fr,pe:=pe},2):=by
 have e:pitTake 1 x (hT fr++(perhapsW++hT pe))=some ({x with fr:=fr,pe:=pe},[]):=by
  rw [take_P1,frostP_text h1 h2 (Nat.le_refl _),Option.map_some];dsimp only;rw [Int.toNat_of_nonneg h1.1,Int.toNat_of_nonneg h2.1]
 have hd:(lineP2 fr pe).drop (wsP.getD 1 []).length=hT fr++(perhapsW++hT pe):=by
  unfold lineP2;generalize hT fr++(perhapsW++hT pe)=t;rfl
 exact lineStep_to (kind_P2 fr pe) (by decide) hd e
theorem step_P3{a:Int}(h:0≤a∧a<4096)(x:PitV):stepP (x,2) (lineP3 a)=some ({x with f:=x.f ++ [a]},2):=by
 have e:=hoursP_set h (r:=[]) noSp_nil (k:=(hT a).length) (by rw [List.append_nil]; exact Nat.le_refl _);rw [List.append_nil] at e
 have e2:pitTake 2 x (hT a)=some ({x with f:=x.f ++ [a]},[]):=by
  rw [take_P2,e,Option.map_some];dsimp only;rw [Int.toNat_of_nonneg h.1]
 have hd:(lineP3 a).drop (wsP.getD 2 []).length=hT a:=by
  unfold lineP3;generalize hT a=t;rfl
 exact lineStep_to (kind_P3 a) (by decide) hd e2
theorem step_P4{q:Pot}(h1:0≤q.h∧q.h≤12)(h2:0≤q.f∧q.f≤12)(h3:0≤q.b∧q.b≤12)(x:PitV){k:Nat}(hk:k=2∨k=3):stepP (x,k) (lineP4 q)=some ({x with q:=x.q ++ [q]},3):=by
 unfold stepP;rw [lineStep_of (J:=3) (by rcases hk with rfl | rfl <;> rfl) (by decide)]
 show((potRd (Lib.itoa q.h++(32::Lib.itoa q.f)++(32::Lib.itoa q.b))).map _).bind _=_
 rw [potRd_pot h1 h2 h3];rfl
theorem pitHT_eq(hr fr pe:Int):pitHT hr fr pe=lineP1 hr++10::(lineP2 fr pe ++ [10]):=by
 unfold pitHT lineP1 lineP2 perhapsW;simp only [List.append_assoc,List.cons_append,List.nil_append]
theorem lines_pit1{hr fr pe:Int}(h:0≤hr∧hr≤12)(h1:0≤fr∧fr<4096)(h2:0≤pe∧pe<4096):Whole (pitHT hr fr pe)∧linesR stepP (⟨0,0,0,[],[]⟩,0) (pitHT hr fr pe)=some (⟨hr,fr,pe,[],[]⟩,2):=by
 rw [pitHT_eq];refine⟨.line (nl_P1 _) (.one (nl_P2 _ _)),?_⟩;rw [linesR_cons stepP _ (nl_P1 _),step_P1 h];rw [Option.bind_some];rw [linesR_one stepP _ (nl_P2 _ _),step_P2 h1 h2]
theorem lines_pit2{hr fr pe:Int}{F:Nat→Int}(h:0≤hr∧hr≤12)(h1:0≤fr∧fr<4096)(h2:0≤pe∧pe<4096):∀ n,(∀ i,i<n→0≤F i∧F i<4096)→Whole (firesT (pitHT hr fr pe) F n)∧linesR stepP (⟨0,0,0,[],[]⟩,0) (firesT (pitHT hr fr pe) F n)=some (⟨hr,fr,pe,listN F n,[]⟩,2)
 | 0,_=>lines_pit1 h h1 h2
 | n+1,hf=>by
  obtain⟨w1,e1⟩:=lines_pit2 h h1 h2 n fun i hi=>hf i (by omega);have e:firesT (pitHT hr fr pe) F (n+1)=firesT (pitHT hr fr pe) F n++(lineP3 (F n) ++ [10]):=rfl;rw [e];refine⟨w1.app (.one (nl_P3 _)),?_⟩;rw [linesR_whole stepP w1,e1];rw [Option.bind_some];rw [linesR_one stepP _ (nl_P3 _),step_P3 (hf n (by omega))];rfl
theorem lines_pit3{hr fr pe:Int}{F:Nat→Int}{fn:Nat}{Q:Nat→Pot}(h:0≤hr∧hr≤12)(h1:0≤fr∧fr<4096)(h2:0≤pe∧pe<4096)(hf:∀ i,i<fn→0≤F i∧F i<4096):∀ n,(∀ i,i<n→(1≤(Q i).h∧(Q i).h≤12)∧(0≤(Q i).f∧(Q i).f≤12)∧0≤(Q i).b∧(Q i).b≤12) →
  Whole (pitchT hr fr pe F fn Q n) ∧ ∃ k,(k=2∨k=3)∧linesR stepP (⟨0,0,0,[],[]⟩,0) (pitchT hr fr pe F fn Q n)=some (⟨hr,fr,pe,listN F fn,listN Q n⟩,k)
 | 0,_=>by
  obtain⟨w1,e1⟩:=lines_pit2 h h1 h2 fn hf;exact⟨w1,2,.inl rfl,e1⟩
 | n+1,hq=>by
  obtain⟨w1,k,hk,e1⟩:=lines_pit3 h h1 h2 hf n fun i hi=>hq i (by omega);obtain⟨q1,q2,q3⟩:=hq n (by omega)
  have e:pitchT hr fr pe F fn Q (n+1)=pitchT hr fr pe F fn Q n++(lineP4 (Q n) ++ [10]):=by
   show _++potT (Q n)=_
   unfold potT lineP4;simp only [pitchT,List.append_assoc]
  rw [e];refine⟨w1.app (.one (nl_P4 _)),3,.inr rfl,?_⟩;rw [linesR_whole stepP w1,e1];rw [Option.bind_some];rw [linesR_one stepP _ (nl_P4 _),step_P4 (by omega) q2 q3 _ hk];rfl
theorem pitchT_congr{hr fr pe:Int}{F F':Nat→Int}{fn:Nat}{Q Q':Nat→Pot}(h:∀ i,i<fn→F i=F' i):∀ {n:Nat},(∀ i,i<n→Q i=Q' i)→pitchT hr fr pe F fn Q n=pitchT hr fr pe F' fn Q' n
 | 0,_=>by
  have:∀ k,k≤fn→firesT (pitHT hr fr pe) F k=firesT (pitHT hr fr pe) F' k:=by
   intro k
   induction k with
   | zero=>intro _; rfl
   | succ k ih =>
    intro hk
    show firesT _ F k++fireT (F k)=firesT _ F' k++fireT (F' k)
    rw [ih (by omega),h k (by omega)]
  exact this fn (Nat.le_refl _)
 | n+1,hu=>by
  show pitchT hr fr pe F fn Q n++potT (Q n)=pitchT hr fr pe F' fn Q' n++potT (Q' n)
  rw [pitchT_congr h fun i hi=>hu i (by omega),hu n (by omega)]
theorem pitchB_congr{hr fr pe:Int}{F F':Nat→Int}{fn:Nat}{Q Q':Nat→Pot}{n:Nat}(h:∀ i,i<fn→F i=F' i)(hq:∀ i,i<n→Q i=Q' i):pitchB hr fr pe F fn Q n=pitchB hr fr pe F' fn Q' n:=by
 unfold pitchB
 rw [allB_congr (p:=fun i=>setB hr (setsOf fr pe F i)) (q:=fun i=>setB hr (setsOf fr pe F' i)) fun i hi=>by
  unfold setsOf
  split
  ·rfl
  ·split
   ·rfl
   ·rw [h (i - 2) (by omega)],allB_congr (p:=fun i=>okQ hr (Q i)) (q:=fun i=>okQ hr (Q' i)) fun i hi=>by rw [hq i hi]]
theorem readP_pitch{hr fr pe:Int}{F:Nat→Int}{fn:Nat}{Q:Nat→Pot}{qn:Nat}(h:pitchB hr fr pe F fn Q qn=true):readP (pitchT hr fr pe F fn Q qn)=some ⟨hr,fr,pe,listN F fn,listN Q qn⟩:=by
 have ok:=pitch_ok h;obtain⟨-,k,-,hl⟩:=lines_pit3 (F:=F) (fn:=fn) (Q:=Q) ok.h ok.fr ok.pe ok.f qn ok.q;unfold readP;rw [hl];dsimp only;have eF:∀ i,i<fn→intOf' (listN F fn) i=F i:=fun i hi=>listN_get F _ fn i hi;have eQ:∀ i,i<qn→potOf (listN Q qn) i=Q i:=fun i hi=>listN_get Q _ qn i hi;unfold pitVB pitVT;dsimp only;rw [listN_len,listN_len,pitchB_congr eF eQ,pitchT_congr eF eQ,if_pos ⟨h,rfl⟩]
def numsF:List Int→List UInt8
 | []=>[]
 | x::l=>(32::Lib.itoa x)++numsF l
theorem numsF_snoc(x:Int):∀ l,numsF (l ++ [x])=numsF l++(32::Lib.itoa x)
 | []=>by show(32::Lib.itoa x) ++ []=_; simp [numsF]
 | y::l=>by
  show(32::Lib.itoa y)++numsF (l ++ [x])=((32::Lib.itoa y)++numsF l)++_
  rw [numsF_snoc x l,List.append_assoc]
theorem numsT_eq(t:List UInt8)(F:Nat→Int):∀ n,numsT t F n=t++numsF (listN F n)
 | 0=>(List.append_nil t).symm
 | n+1=>by
  show numsT t F n++(32::Lib.itoa (F n))=_
  rw [numsT_eq t F n,List.append_assoc,← numsF_snoc];rfl
theorem noDig_nums:∀ l,NoDig (numsF l)
 | []=>noDig_nil
 | _::_=>noDig_cons (by decide)
theorem numsF_len:∀ l,List.length l≤(numsF l).length
 | []=>Nat.le_refl _
 | x::l=>by
  show _≤((32::Lib.itoa x)++numsF l).length
  have:=numsF_len l;simp only [List.length_append,List.length_cons];omega
theorem nl_nums:∀ l,(10:UInt8) ∉ numsF l
 | []=>by simp [numsF]
 | x::l=>by
  show _ ∉ (32::Lib.itoa x)++numsF l
  simp only [List.mem_append,List.mem_cons,not_or];exact⟨⟨by decide,nl_itoa x⟩,nl_nums l⟩
theorem intsP_nums:∀ (l:List Int),(∀ x,x ∈ l→0≤x∧x≤9) → ∀ (k:Nat) (a:List Int),l.length≤k→intsP k (numsF l) a=some (a++l,[])
 | [],_,k,a,_=>by rw [intsP_end _ _ _ rfl,List.append_nil]; rfl
 | x::l,h,k,a,hk=>by
  obtain⟨k,rfl⟩:∃ j,k=j+1:=⟨k - 1,by simp at hk; omega⟩
  have hx:=h x (List.mem_cons_self ..);have hs:numsF (x::l)=32::(Lib.itoa x++numsF l):=rfl;rw [intsP_step _ _ _ (by rw [hs]; rfl),hs,List.drop_succ_cons,List.drop_zero,numP_itoa (by omega) (noDig_nums l)];dsimp only;rw [intsP_nums l (fun y hy=>h y (List.mem_cons_of_mem _ hy)) k _ (by simp at hk; omega),List.append_assoc];rfl
theorem ownerR_text{m:Int}{l:List Int}(hm:0≤m∧m≤6)(h:∀ x,x ∈ l→0≤x∧x≤9):ownerR (Lib.itoa m++numsF l)=some ((m,l),[]):=by
 unfold ownerR;rw [numP_itoa (by omega) (noDig_nums l)];dsimp only;rw [intsP_nums l h _ _ (numsF_len l)];rfl
def markF(m:Int×Int×Int):List UInt8:=32::Lib.itoa m.1++(61::spanT m.2.1 m.2.2)
def marksF:List (Int×Int×Int)→List UInt8
 | []=>[]
 | x::l=>markF x++marksF l
theorem marksF_snoc(x:Int×Int×Int):∀ l,marksF (l ++ [x])=marksF l++markF x
 | []=>by show markF x ++ []=_; simp [marksF]
 | y::l=>by
  show markF y++marksF (l ++ [x])=(markF y++marksF l)++_
  rw [marksF_snoc x l,List.append_assoc]
def tripM(m:IMark):Int×Int×Int:=(m.f,m.lo,m.hi)
def tripC(c:IClaim):Int×Int×Bool:=(c.s,c.o,c.n)
theorem marksT_eq(t:List UInt8)(M:Nat→IMark):∀ n,marksT t M n=t++marksF (listN (fun j=>tripM (M j)) n)
 | 0=>(List.append_nil t).symm
 | n+1=>by
  show marksT t M n++markF (tripM (M n))=_
  rw [marksT_eq t M n,List.append_assoc,← marksF_snoc];rfl
theorem noDot_marks:∀ l,NoDot (marksF l)
 | []=>⟨noDig_nil,fun _ _ h=>by cases h⟩
 | _::_=>⟨noDig_cons (by decide),fun c r e=>by
  have:c=32:=by injection e with e _; exact e.symm
  rw [this]; decide⟩
theorem marksF_len:∀ l,List.length l≤(marksF l).length
 | []=>Nat.le_refl _
 | x::l=>by
  show _≤((32::Lib.itoa x.1++(61::spanT x.2.1 x.2.2))++marksF l).length
  have:=marksF_len l;simp only [List.length_append,List.length_cons];omega
theorem nl_marks:∀ l,(10:UInt8) ∉ marksF l
 | []=>by simp [marksF]
 | x::l=>by
  show _ ∉ (32::Lib.itoa x.1++(61::spanT x.2.1 x.2.2))++marksF l
  simp only [List.mem_append,List.mem_cons,not_or];exact⟨⟨⟨by decide,nl_itoa _⟩,by decide,nl_span _ _⟩,nl_marks l⟩
def okT(m:Int×Int×Int):Prop:=(0≤m.1∧m.1≤3)∧(0≤m.2.1∧m.2.1≤m.2.2)∧m.2.2≤9
theorem markR_mark{m:Int×Int×Int}(h:okT m){r:List UInt8}(hr:NoDot r):markR (Lib.itoa m.1++(61::spanT m.2.1 m.2.2)++r)=some (m,r):=by
 obtain⟨h1,h2,h3⟩:=h;unfold markR;rw [List.append_assoc,List.cons_append,numP_itoa (by omega) (noDig_cons (by decide))];dsimp only;rw [if_pos (by rfl),List.drop_succ_cons,List.drop_zero,spanP_span (by omega) (by omega) hr]
theorem marksP_marks:∀ (l:List (Int×Int×Int)),(∀ x,x ∈ l→okT x) → ∀ (k:Nat) (a:List (Int×Int×Int)),l.length≤k→marksP k (marksF l) a=some (a++l,[])
 | [],_,k,a,_=>by rw [marksP_end _ _ _ rfl,List.append_nil]; rfl
 | x::l,h,k,a,hk=>by
  obtain⟨k,rfl⟩:∃ j,k=j+1:=⟨k - 1,by simp at hk; omega⟩
  have hs:marksF (x::l)=32::(Lib.itoa x.1++(61::spanT x.2.1 x.2.2)++marksF l):=rfl;rw [marksP_step _ _ _ (by rw [hs]; rfl),hs,List.drop_succ_cons,List.drop_zero,markR_mark (h x (List.mem_cons_self ..)) (noDot_marks l)];dsimp only;rw [marksP_marks l (fun y hy=>h y (List.mem_cons_of_mem _ hy)) k _ (by simp at hk; omega),List.append_assoc];rfl
theorem claimRd_text{c:Int×Int×Bool}(h1:0≤c.1∧c.1≤5)(h2:0≤c.2.1∧c.2.1≤4):claimRd (Lib.itoa c.1++(32::(notT c.2.2++Lib.itoa c.2.1)))=some (c,[]):=by
 have e:=numP_itoa (n:=c.2.1) (by omega) noDig_nil;rw [List.append_nil] at e;obtain⟨s,o,n⟩:=c;dsimp only at h1 h2 e ⊢;unfold claimRd;rw [numP_itoa (by omega) (noDig_cons (by decide))];dsimp only;rw [if_pos (by rfl),List.drop_succ_cons,List.drop_zero]
 cases n with
 | true =>
  have hp:Lib.hasPrefix (notT true++Lib.itoa o) [33]=true:=rfl;rw [seesT_yes hp,hp]
  show(match numP (Lib.itoa o) with | none=>none | some (m,t3)=>some ((s,m,true),t3))=_
  rw [e]
 | false =>
  have hp:Lib.hasPrefix (notT false++Lib.itoa o) [33]=false:=by
   obtain⟨c,r,hc,hd⟩:=head_dig (n:=o) (by omega) [];rw [List.append_nil] at hc;rw [show notT false++Lib.itoa o=Lib.itoa o from rfl,hc];refine prefix1 fun c' r' ee=>?_
   injection ee with ee _
   subst ee;intro h;rw [h] at hd;exact absurd hd (by decide)
  rw [seesT_no hp,hp,show notT false++Lib.itoa o=Lib.itoa o from rfl,e]
def lineI1(f:Int):List UInt8:=[105,114,111,110,115,32]++Lib.itoa f
def lineI2(m:Int)(l:List Int):List UInt8:=[111,119,110,101,114,32]++(Lib.itoa m++numsF l)
def lineI3(l:List (Int×Int×Int)):List UInt8:=[115,116,114,97,107,101]++marksF l
def lineI4(c:Int×Int×Bool):List UInt8:=[99,108,97,105,109,32]++(Lib.itoa c.1++(32::(notT c.2.2++Lib.itoa c.2.1)))
theorem nl_I1(f:Int):(10:UInt8) ∉ lineI1 f:=by
 unfold lineI1;simp only [List.mem_append,not_or];exact⟨by decide,nl_itoa f⟩
theorem nl_I2(m:Int)(l:List Int):(10:UInt8) ∉ lineI2 m l:=by
 unfold lineI2;simp only [List.mem_append,not_or];exact⟨by decide,nl_itoa m,nl_nums l⟩
theorem nl_I3(l:List (Int×Int×Int)):(10:UInt8) ∉ lineI3 l:=by
 unfold lineI3;simp only [List.mem_append,not_or];exact⟨by decide,nl_marks l⟩
theorem nl_I4(c:Int×Int×Bool):(10:UInt8) ∉ lineI4 c:=by
 unfold lineI4;simp only [List.mem_append,List.mem_cons,not_or];exact⟨by decide,nl_itoa _,by decide,by cases c.2.2 <;> decide,nl_itoa _⟩
theorem step_I1{f:Int}(h:0≤f∧f≤4)(x:IrR):stepI (x,0) (lineI1 f)=some ({x with f:=f},1):=by
 have e:=numP_itoa (n:=f) (by omega) noDig_nil;rw [List.append_nil] at e
 have e2:ironTake 0 x (Lib.itoa f)=some ({x with f:=f},[]):=by
  rw [show ironTake 0 x (Lib.itoa f)=(numP (Lib.itoa f)).map (fun p=>(({x with f:=p.1}:IrR),p.2)) from rfl,e];rfl
 exact lineStep_to (J:=0) (by unfold lineI1; rfl) (by decide) (by unfold lineI1; rfl) e2
theorem step_I2{m:Int}{l:List Int}(hm:0≤m∧m≤6)(h:∀ x,x ∈ l→0≤x∧x≤9)(x:IrR):stepI (x,1) (lineI2 m l)=some ({x with own:=x.own ++ [l],most:=x.most ++ [m]},1):=by
 have e:=ownerR_text hm h
 have e2:ironTake 1 x (Lib.itoa m++numsF l)=some ({x with own:=x.own ++ [l],most:=x.most ++ [m]},[]):=by
  rw [show ironTake 1 x (Lib.itoa m++numsF l)=(ownerR (Lib.itoa m++numsF l)).map (fun p=>(({x with own:=x.own ++ [p.1.2],most:=x.most ++ [p.1.1]}:IrR),p.2)) from rfl,e];rfl
 generalize hu:Lib.itoa m++numsF l=u at e2;exact lineStep_to (J:=1) (by unfold lineI2; rw [hu]; rfl) (by decide) (by unfold lineI2; rw [hu]; rfl) e2
theorem step_I3{l:List (Int×Int×Int)}(h:∀ x,x ∈ l→okT x)(x:IrR){k:Nat}(hk:k=1∨k=2):stepI (x,k) (lineI3 l)=some ({x with str:=x.str ++ [l]},2):=by
 have e2:ironTake 2 x (marksF l)=some ({x with str:=x.str ++ [l]},[]):=by
  rw [show ironTake 2 x (marksF l)=(strakeR (marksF l)).map (fun p=>(({x with str:=x.str ++ [p.1]}:IrR),p.2)) from rfl];unfold strakeR;rw [marksP_marks l h _ _ (marksF_len l)];rfl
 generalize hu:marksF l=u at e2;exact lineStep_to (J:=2) (by unfold lineI3; rw [hu]; rcases hk with rfl | rfl <;> rfl) (by decide) (by unfold lineI3; rw [hu]; rfl) e2
theorem step_I4{c:Int×Int×Bool}(h1:0≤c.1∧c.1≤5)(h2:0≤c.2.1∧c.2.1≤4)(x:IrR){k:Nat}(hk:k=1∨k=2∨k=3):stepI (x,k) (lineI4 c)=some ({x with cl:=x.cl ++ [c]},3):=by
 have e:=claimRd_text h1 h2
 have e2:ironTake 3 x (Lib.itoa c.1++(32::(notT c.2.2++Lib.itoa c.2.1)))=some ({x with cl:=x.cl ++ [c]},[]):=by
  rw [show ironTake 3 x (Lib.itoa c.1++(32::(notT c.2.2++Lib.itoa c.2.1)))=(claimRd (Lib.itoa c.1++(32::(notT c.2.2++Lib.itoa c.2.1)))).map (fun p=>(({x with cl:=x.cl ++ [p.1]}:IrR),p.2)) from rfl,e];rfl
 generalize hu:Lib.itoa c.1++(32::(notT c.2.2++Lib.itoa c.2.1))=u at e2;exact lineStep_to (J:=3) (by unfold lineI4; rw [hu]; rcases hk with rfl | rfl | rfl <;> rfl) (by decide) (by unfold lineI4; rw [hu]; rfl) e2
section
variable {x:IronsV}
def ownL(x:IronsV)(i:Nat):List Int:=listN (x.own i) (x.ol i)
def strL(x:IronsV)(i:Nat):List (Int×Int×Int):=listN (fun j=>tripM (x.mark i j)) (x.sl i)
theorem lines_I2(h:IrOk x):∀ n,n≤x.on→Whole (ownersT (ironH x.f) x n)∧linesR stepI (⟨0,[],[],[],[]⟩,0) (ownersT (ironH x.f) x n)=some (⟨x.f,listN (ownL x) n,listN x.most n,[],[]⟩,1)
 | 0,_=>by
  refine⟨.one (nl_I1 _),?_⟩
  show linesR stepI _ (lineI1 x.f ++ [10])=_
  rw [linesR_one stepI _ (nl_I1 _),step_I1 h.f];rfl
 | n+1,hn=>by
  obtain⟨w1,e1⟩:=lines_I2 h n (by omega)
  have e:ownersT (ironH x.f) x (n+1)=ownersT (ironH x.f) x n++(lineI2 (x.most n) (ownL x n) ++ [10]):=by
   show numsT _ _ _ ++ [10]=_
   rw [numsT_eq];unfold lineI2 ownL;simp only [List.append_assoc]
  rw [e];refine⟨w1.app (.one (nl_I2 _ _)),?_⟩
  rw [linesR_whole stepI w1,e1,Option.bind_some,linesR_one stepI _ (nl_I2 _ _),step_I2 (h.most n (by have:=h.mn; omega)) (fun z hz=>by
   obtain⟨j,hj,rfl⟩:=listN_mem hz
   exact(h.ol n (by omega)).2 j hj)]
  rfl
theorem lines_I3(h:IrOk x):∀ n,n≤x.sn→Whole (strakesT (ownersT (ironH x.f) x x.on) x n) ∧ ∃ k,(k=1∨k=2)∧linesR stepI (⟨0,[],[],[],[]⟩,0) (strakesT (ownersT (ironH x.f) x x.on) x n)=some (⟨x.f,listN (ownL x) x.on,listN x.most x.on,listN (strL x) n,[]⟩,k)
 | 0,_=>by
  obtain⟨w1,e1⟩:=lines_I2 h x.on (Nat.le_refl _);exact⟨w1,1,.inl rfl,e1⟩
 | n+1,hn=>by
  obtain⟨w1,k,hk,e1⟩:=lines_I3 h n (by omega)
  have e:strakesT (ownersT (ironH x.f) x x.on) x (n+1)=strakesT (ownersT (ironH x.f) x x.on) x n++(lineI3 (strL x n) ++ [10]):=by
   show marksT _ _ _ ++ [10]=_
   rw [marksT_eq];unfold lineI3 strL;simp only [List.append_assoc]
  rw [e];refine⟨w1.app (.one (nl_I3 _)),2,.inr rfl,?_⟩
  rw [linesR_whole stepI w1,e1,Option.bind_some,linesR_one stepI _ (nl_I3 _),step_I3 (fun z hz=>by
   obtain⟨j,hj,rfl⟩:=listN_mem hz
   exact(h.sl n (by omega)).2 j hj) _ hk]
  rfl
theorem lines_I4(h:IrOk x):∀ n,n≤x.cn→Whole (claimsT (strakesT (ownersT (ironH x.f) x x.on) x x.sn) x.claim n) ∧ ∃ k,(k=1∨k=2∨k=3)∧linesR stepI (⟨0,[],[],[],[]⟩,0) (claimsT (strakesT (ownersT (ironH x.f) x x.on) x x.sn) x.claim n)=some (⟨x.f,listN (ownL x) x.on,listN x.most x.on,listN (strL x) x.sn,listN (fun i=>tripC (x.claim i)) n⟩,k)
 | 0,_=>by
  obtain⟨w1,k,hk,e1⟩:=lines_I3 h x.sn (Nat.le_refl _);exact⟨w1,k,by omega,e1⟩
 | n+1,hn=>by
  obtain⟨w1,k,hk,e1⟩:=lines_I4 h n (by omega)
  have e:claimsT (strakesT (ownersT (ironH x.f) x x.on) x x.sn) x.claim (n+1)=claimsT (strakesT (ownersT (ironH x.f) x x.on) x x.sn) x.claim n++(lineI4 (tripC (x.claim n)) ++ [10]):=by
   show _++claimT (x.claim n)=_
   unfold claimT lineI4 tripC;simp only [List.append_assoc]
  rw [e];have hc:=h.cl n (by omega);refine⟨w1.app (.one (nl_I4 _)),3,.inr (.inr rfl),?_⟩;rw [linesR_whole stepI w1,e1,Option.bind_some,linesR_one stepI _ (nl_I4 _),step_I4 (c:=tripC (x.claim n)) hc.1 hc.2 _ hk];rfl
end
structure EqI (y x:IronsV):Prop where
 f:y.f=x.f
 on:y.on=x.on
 mn:y.mn=x.mn
 sn:y.sn=x.sn
 cn:y.cn=x.cn
 ol:∀ i,i<x.on→y.ol i=x.ol i
 own:∀ i,i<x.on → ∀ j,j<x.ol i→y.own i j=x.own i j
 most:∀ i,i<x.mn→y.most i=x.most i
 sl:∀ i,i<x.sn→y.sl i=x.sl i
 mark:∀ i,i<x.sn → ∀ j,j<x.sl i→y.mark i j=x.mark i j
 claim:∀ i,i<x.cn→y.claim i=x.claim i
theorem numsT_congr{t:List UInt8}{F G:Nat→Int}:∀ {n:Nat},(∀ i,i<n→F i=G i)→numsT t F n=numsT t G n
 | 0,_=>rfl
 | n+1,h=>by
  show numsT t F n++(32::Lib.itoa (F n))=numsT t G n++(32::Lib.itoa (G n))
  rw [numsT_congr fun i hi=>h i (by omega),h n (by omega)]
theorem marksT_congr{t:List UInt8}{F G:Nat→IMark}:∀ {n:Nat},(∀ i,i<n→F i=G i)→marksT t F n=marksT t G n
 | 0,_=>rfl
 | n+1,h=>by
  show marksT t F n++markT (F n)=marksT t G n++markT (G n)
  rw [marksT_congr fun i hi=>h i (by omega),h n (by omega)]
theorem claimsT_congr{t:List UInt8}{F G:Nat→IClaim}:∀ {n:Nat},(∀ i,i<n→F i=G i)→claimsT t F n=claimsT t G n
 | 0,_=>rfl
 | n+1,h=>by
  show claimsT t F n++claimT (F n)=claimsT t G n++claimT (G n)
  rw [claimsT_congr fun i hi=>h i (by omega),h n (by omega)]
theorem ownersT_congr{t:List UInt8}{y x:IronsV}(h:EqI y x)(hm:x.mn=x.on):∀ n,n≤x.on→ownersT t y n=ownersT t x n
 | 0,_=>rfl
 | n+1,hn=>by
  show numsT (ownersT t y n++([111,119,110,101,114,32]++Lib.itoa (y.most n))) (y.own n) (y.ol n) ++ [10]=numsT (ownersT t x n++([111,119,110,101,114,32]++Lib.itoa (x.most n))) (x.own n) (x.ol n) ++ [10]
  rw [ownersT_congr h hm n (by omega),h.ol n (by omega),h.most n (by omega),numsT_congr (h.own n (by omega))]
theorem strakesT_congr{t:List UInt8}{y x:IronsV}(h:EqI y x):∀ n,n≤x.sn→strakesT t y n=strakesT t x n
 | 0,_=>rfl
 | n+1,hn=>by
  show marksT (strakesT t y n ++ [115,116,114,97,107,101]) (y.mark n) (y.sl n) ++ [10]=marksT (strakesT t x n ++ [115,116,114,97,107,101]) (x.mark n) (x.sl n) ++ [10]
  rw [strakesT_congr h n (by omega),h.sl n (by omega),marksT_congr (h.mark n (by omega))]
theorem ironsT_congr{y x:IronsV}(h:EqI y x)(hm:x.mn=x.on):ironsT y=ironsT x:=by
 unfold ironsT;rw [h.f,h.on,h.sn,h.cn,ownersT_congr h hm _ (Nat.le_refl _),strakesT_congr h _ (Nat.le_refl _),claimsT_congr h.claim]
theorem ironsB_congr{y x:IronsV}(h:EqI y x):ironsB y=ironsB x:=by
 unfold ironsB headI
 rw [h.f,h.on,h.mn,h.sn,h.cn,allB_congr (p:=okO y) (q:=okO x) fun i hi=>by
   unfold okO;rw [h.f,h.ol i hi,allB_congr (p:=fun j=>inB (y.own i j) 0 9) (q:=fun j=>inB (x.own i j) 0 9) fun j hj=>by rw [h.own i hi j hj]],
  allB_congr (p:=fun i=>inB (y.most i) 0 6) (q:=fun i=>inB (x.most i) 0 6) fun i hi=>by rw [h.most i hi],
  allB_congr (p:=okK y) (q:=okK x) fun i hi=>by
   unfold okK;rw [h.f,h.sl i hi,allB_congr (p:=fun j=>okM x.f (y.mark i j)) (q:=fun j=>okM x.f (x.mark i j)) fun j hj=>by rw [h.mark i hi j hj]],
  allB_congr (p:=fun i=>okC x.sn x.on (y.claim i)) (q:=fun i=>okC x.sn x.on (x.claim i)) fun i hi=>by rw [h.claim i hi]]
def backI(x:IronsV):IrR:=⟨x.f,listN (ownL x) x.on,listN x.most x.on,listN (strL x) x.sn,listN (fun i=>tripC (x.claim i)) x.cn⟩
theorem backI_eq{x:IronsV}(hm:x.mn=x.on):EqI (toV (backI x)) x where
 f:=rfl
 on:=listN_len _ _
 mn:=(listN_len _ _).trans hm.symm
 sn:=listN_len _ _
 cn:=listN_len _ _
 ol i hi:=by
  show((listN (ownL x) x.on).getD i []).length=_
  rw [listN_get (ownL x) [] x.on i hi];exact listN_len _ _
 own i hi j hj:=by
  show((listN (ownL x) x.on).getD i []).getD j 0=_
  rw [listN_get (ownL x) [] x.on i hi];exact listN_get (x.own i) 0 _ j hj
 most i hi:=listN_get x.most 0 x.on i (by omega)
 sl i hi:=by
  show((listN (strL x) x.sn).getD i []).length=_
  rw [listN_get (strL x) [] x.sn i hi];exact listN_len _ _
 mark i hi j hj:=by
  show markOf (((listN (strL x) x.sn).getD i []).getD j (0,0,0))=_
  rw [listN_get (strL x) [] x.sn i hi]
  show markOf ((listN (fun j=>tripM (x.mark i j)) (x.sl i)).getD j (0,0,0))=_
  rw [listN_get (fun j=>tripM (x.mark i j)) (0,0,0) (x.sl i) j hj];rfl
 claim i hi:=by
  show claimOf ((listN (fun i=>tripC (x.claim i)) x.cn).getD i (0,0,false))=_
  rw [listN_get (fun i=>tripC (x.claim i)) (0,0,false) x.cn i hi];rfl
theorem readI_irons{x:IronsV}(h:ironsB x=true):readI (ironsT x)=some (backI x):=by
 have ok:=irons_ok h;obtain⟨-,k,-,hl⟩:=lines_I4 ok x.cn (Nat.le_refl _);have he:=backI_eq ok.mn;unfold readI;rw [show linesR stepI (⟨0,[],[],[],[]⟩,0) (ironsT x)=some (backI x,k) from hl];dsimp only;rw [ironsB_congr he,ironsT_congr he ok.mn,if_pos ⟨h,rfl⟩]
theorem itoa_two{n:Int}(h : -9≤n∧n≤99):(Lib.itoa n).length≤2:=by
 by_cases hn:n<0
 ·obtain⟨u,rfl⟩:∃ u:Nat,n = -(u:Int):=⟨n.natAbs,by omega⟩
  rw [Lib.itoa_neg u (by omega),Lib.decDigits_one (by omega)];exact Nat.le_refl _
 ·obtain⟨u,rfl⟩:∃ u:Nat,n=u:=⟨n.toNat,by omega⟩
  rw [Lib.itoa_nonneg];by_cases h1:u<10
  ·rw [Lib.decDigits_one h1]
   exact(by decide:(1:Nat)≤2)
  ·rw [Lib.decDigits_two h1 (by omega)]
   exact Nat.le_refl _
theorem span_six{lo hi:Int}(h1 : -9≤lo∧lo≤99)(h2 : -9≤hi∧hi≤99):(spanT lo hi).length≤6:=by
 have a:=itoa_two h1;have b:=itoa_two h2;unfold spanT
 split
 ·omega
 ·simp only [List.length_append,List.length_cons]
  omega
theorem side_one(s:Int):(sideT s).length=1:=by
 unfold sideT
 split
 ·rfl
 ·split <;> rfl
theorem hull_short{S:Nat→Sea}{n:Nat}{U:Nat→Sou}{m:Nat}(h:hullB S n U m=true):(hullT S n U m).length≤1000:=by
 have ok:=hull_ok h;unfold hullB inB at h;simp only [Bool.and_eq_true,decide_eq_true_eq] at h
 have hs:∀ k,k≤n→(seasT S k).length≤4+6 * k:=by
  intro k
  induction k with
  | zero=>intro _; exact Nat.le_refl _
  | succ k ih =>
   intro hk;have h0:=okS_iff (ok.2.2.1 k (by omega));have h1:=itoa_two (n:=(S k).h) (by omega);have h2:=itoa_two (n:=(S k).m) (by omega);have h3:=side_one (S k).s;have h4:=ih (by omega)
   show(seasT S k++(32::Lib.itoa (S k).h++sideT (S k).s++Lib.itoa (S k).m)).length≤_
   simp only [List.length_append,List.length_cons];omega
 have hu:∀ k,k≤m→(hullT S n U k).length≤5+6 * n+13 * k:=by
  intro k
  induction k with
  | zero =>
   intro _;have:=hs n (Nat.le_refl _)
   show(seasT S n ++ [10]).length≤_
   simp only [List.length_append,List.length_cons,List.length_nil];omega
  | succ k ih =>
   intro hk;have h0:=okU_iff (ok.2.2.2 k (by omega));have h1:=itoa_two (n:=(U k).d) (by omega);have h2:=itoa_two (n:=(U k).l) (by omega);have h3:=span_six (lo:=(U k).lo) (hi:=(U k).hi) (by omega) (by omega);have h4:=ih (by omega)
   show(hullT S n U k++(Lib.itoa (U k).d++(32::Lib.itoa (U k).l)++(32::spanT (U k).lo (U k).hi) ++ [10])).length≤_
   simp only [List.length_append,List.length_cons,List.length_nil];omega
 have:=hu m (Nat.le_refl _);omega
theorem hours_short{x:Int}(h:0≤x∧x<4096):(hT x).length≤36:=by
 unfold hT;have e:hoursT x.toNat 40=hoursT x.toNat 12:=hours_done (x:=x.toNat) (h:=12) (Nat.div_eq_of_lt (by omega)) 28;rw [e]
 have hs:∀ k,k≤12→(hoursT x.toNat k).length≤3 * k:=by
  intro k
  induction k with
  | zero=>intro _; exact Nat.le_refl _
  | succ k ih =>
   intro hk;have h1:=itoa_two (n:=(k:Int)) (by omega);have h4:=ih (by omega)
   show(hoursT x.toNat k++if x.toNat >>> k &&& 1=1 then 32::Lib.itoa k else []).length≤_
   rw [List.length_append]
   split
   ·simp only [List.length_cons]
    omega
   ·simp only [List.length_nil]
    omega
 exact hs 12 (Nat.le_refl _)
theorem pitch_short{hr fr pe:Int}{F:Nat→Int}{fn:Nat}{Q:Nat→Pot}{qn:Nat}(h:pitchB hr fr pe F fn Q qn=true):(pitchT hr fr pe F fn Q qn).length≤1000:=by
 have ok:=pitch_ok h;have o1:=ok.fm;have o2:=ok.qm
 have h0:(pitHT hr fr pe).length≤100:=by
  have h1:=itoa_two (n:=hr) (by have:=ok.h; omega);have h2:=hours_short ok.fr;have h3:=hours_short ok.pe;simp only [pitHT,List.length_append,List.length_cons,List.length_nil];omega
 have hf:∀ k,k≤fn→(firesT (pitHT hr fr pe) F k).length≤100+41 * k:=by
  intro k
  induction k with
  | zero=>intro _; exact h0
  | succ k ih =>
   intro hk;have h2:=hours_short (ok.f k (by omega));have h4:=ih (by omega)
   show(firesT (pitHT hr fr pe) F k++([102,105,114,101]++hT (F k) ++ [10])).length≤_
   simp only [List.length_append,List.length_cons,List.length_nil];omega
 have hq:∀ k,k≤qn→(pitchT hr fr pe F fn Q k).length≤100+41 * fn+13 * k:=by
  intro k
  induction k with
  | zero=>intro _; exact hf fn (Nat.le_refl _)
  | succ k ih =>
   intro hk;obtain⟨a,b,c⟩:=ok.q k (by omega);have h1:=itoa_two (n:=(Q k).h) (by omega);have h2:=itoa_two (n:=(Q k).f) (by omega);have h3:=itoa_two (n:=(Q k).b) (by omega);have h4:=ih (by omega)
   show(pitchT hr fr pe F fn Q k++([112,111,116,32]++Lib.itoa (Q k).h++(32::Lib.itoa (Q k).f)++(32::Lib.itoa (Q k).b) ++ [10])).length≤_
   simp only [List.length_append,List.length_cons,List.length_nil];omega
 have:=hq qn (Nat.le_refl _);omega
theorem nums_short{t:List UInt8}{F:Nat→Int}:∀ {n:Nat},(∀ i,i<n→0≤F i∧F i≤9)→(numsT t F n).length≤t.length+3 * n
 | 0,_=>Nat.le_refl _
 | n+1,h=>by
  have h1:=itoa_two (n:=F n) (by have:=h n (by omega); omega);have h4:=nums_short (t:=t) (F:=F) fun i hi=>h i (Nat.lt_succ_of_lt hi)
  show(numsT t F n++(32::Lib.itoa (F n))).length≤_
  simp only [List.length_append,List.length_cons];omega
theorem marks_short{t:List UInt8}{M:Nat→IMark}:∀ {n:Nat},(∀ i,i<n→(0≤(M i).f∧(M i).f≤3)∧(0≤(M i).lo∧(M i).lo≤(M i).hi)∧(M i).hi≤9)→(marksT t M n).length≤t.length+10 * n
 | 0,_=>Nat.le_refl _
 | n+1,h=>by
  have h0:=h n (by omega);have h1:=itoa_two (n:=(M n).f) (by omega);have h2:=span_six (lo:=(M n).lo) (hi:=(M n).hi) (by omega) (by omega);have h4:=marks_short (t:=t) (M:=M) fun i hi=>h i (Nat.lt_succ_of_lt hi)
  show(marksT t M n++(32::Lib.itoa (M n).f++(61::spanT (M n).lo (M n).hi))).length≤_
  simp only [List.length_append,List.length_cons];omega
theorem irons_short{x:IronsV}(h:ironsB x=true):(ironsT x).length≤1000:=by
 have ok:=irons_ok h;have o1:=ok.on;have o2:=ok.sn;have o3:=ok.cn
 have h0:(ironH x.f).length≤9:=by
  have h1:=itoa_two (n:=x.f) (by have:=ok.f; omega);simp only [ironH,List.length_append,List.length_cons,List.length_nil];omega
 have ho:∀ k,k≤x.on→(ownersT (ironH x.f) x k).length≤9+21 * k:=by
  intro k
  induction k with
  | zero=>intro _; exact h0
  | succ k ih =>
   intro hk;have hl:=ok.ol k (by omega);have hf:=ok.f;have h1:=itoa_two (n:=x.most k) (by have:=ok.most k (by have:=ok.mn; omega); omega);have h2:=nums_short (t:=ownersT (ironH x.f) x k++([111,119,110,101,114,32]++Lib.itoa (x.most k))) hl.2;have h4:=ih (by omega)
   show(numsT (ownersT (ironH x.f) x k++([111,119,110,101,114,32]++Lib.itoa (x.most k))) (x.own k) (x.ol k) ++ [10]).length≤_
   simp only [List.length_append,List.length_cons,List.length_nil] at h2 ⊢;omega
 have hs:∀ k,k≤x.sn→(strakesT (ownersT (ironH x.f) x x.on) x k).length≤9+21 * x.on+67 * k:=by
  intro k
  induction k with
  | zero=>intro _; exact ho _ (Nat.le_refl _)
  | succ k ih =>
   intro hk;have hl:=ok.sl k (by omega);have h2:=marks_short (t:=strakesT (ownersT (ironH x.f) x x.on) x k ++ [115,116,114,97,107,101]) hl.2;have h4:=ih (by omega)
   show(marksT (strakesT (ownersT (ironH x.f) x x.on) x k ++ [115,116,114,97,107,101]) (x.mark k) (x.sl k) ++ [10]).length≤_
   simp only [List.length_append,List.length_cons,List.length_nil] at h2 ⊢;omega
 have hc:∀ k,k≤x.cn→(claimsT (strakesT (ownersT (ironH x.f) x x.on) x x.sn) x.claim k).length≤9+21 * x.on+67 * x.sn+13 * k:=by
  intro k
  induction k with
  | zero=>intro _; exact hs _ (Nat.le_refl _)
  | succ k ih =>
   intro hk;have hl:=ok.cl k (by omega);have h1:=itoa_two (n:=(x.claim k).s) (by omega);have h2:=itoa_two (n:=(x.claim k).o) (by omega);have h3:(notT (x.claim k).n).length≤1:=by unfold notT; split <;> decide
   have h4:=ih (by omega)
   show(claimsT (strakesT (ownersT (ironH x.f) x x.on) x x.sn) x.claim k++([99,108,97,105,109,32]++Lib.itoa (x.claim k).s++(32::(notT (x.claim k).n++Lib.itoa (x.claim k).o)) ++ [10])).length≤_
   simp only [List.length_append,List.length_cons,List.length_nil];omega
 have:=hc x.cn (Nat.le_refl _)
 show(claimsT (strakesT (ownersT (ironH x.f) x x.on) x x.sn) x.claim x.cn).length≤_
 omega
theorem hullRes_back{S:Nat→Sea}{n:Nat}{U:Nat→Sou}{m:Nat}(h:hullB S n U m=true):hullRes (hullT S n U m)=(0,⟨listN S n,listN U m⟩):=by
 have:=hull_short h;unfold hullRes;rw [if_neg (by omega),readH_hull h]
theorem pitRes_back{hr fr pe:Int}{F:Nat→Int}{fn:Nat}{Q:Nat→Pot}{qn:Nat}(h:pitchB hr fr pe F fn Q qn=true):pitRes (pitchT hr fr pe F fn Q qn)=(0,⟨hr,fr,pe,listN F fn,listN Q qn⟩):=by
 have:=pitch_short h;unfold pitRes;rw [if_neg (by omega),readP_pitch h]
theorem ironRes_back{x:IronsV}(h:ironsB x=true):ironRes (ironsT x)=(0,backI x):=by
 have:=irons_short h;unfold ironRes;rw [if_neg (by omega),readI_irons h]
theorem hullRes_empty:hullRes []=(8,⟨[],[]⟩):=by
 have h:readH []=none:=by
  unfold readH;rw [show linesR stepH (⟨[],[]⟩,0) []=some (⟨[],[]⟩,0) from rfl];exact if_neg fun h=>by cases h.1
 unfold hullRes;rw [if_neg (by decide),h]
theorem pitRes_empty:pitRes []=(8,⟨0,0,0,[],[]⟩):=by
 have h:readP []=none:=by
  unfold readP;rw [show linesR stepP (⟨0,0,0,[],[]⟩,0) []=some (⟨0,0,0,[],[]⟩,0) from rfl];exact if_neg fun h=>by cases h.2
 unfold pitRes;rw [if_neg (by decide),h]
theorem ironRes_empty:ironRes []=(8,noI):=by
 have h:readI []=none:=by
  unfold readI;rw [show linesR stepI (⟨0,[],[],[],[]⟩,0) []=some (noI,0) from rfl];exact if_neg fun h=>by cases h.2
 unfold ironRes;rw [if_neg (by decide),h]
end Go.Proofs.YtclbmlmlhiiaeaaGreatDoor
