/- Plain: what the reference reads of a text, part by part; it -/
import Derived.Test.YtclbmlmlhiiaeaaGreatDoorQE6
import Derived.Test.YtclbmlmlhiiaeaaGreatDoorQR7
import Derived.Test.YtclbmlmlhiiaeaaGreatDoorQZ1
namespace Go.Proofs.YtclbmlmlhiiaeaaGreatDoor
open Go.RowKit
def partsF(c:UInt8):List UInt8→List UInt8→List (List UInt8)
 | p,[]=>[p]
 | p,x::s=>if x=c then p::partsF c [] s else partsF c (p ++ [x]) s
theorem partsF_in{c:UInt8}:∀ {l:List UInt8},c ∉ l → ∀ (p r:List UInt8),partsF c p (l++r)=partsF c (p++l) r
 | [],_,p,r=>by simp
 | x::l,h,p,r=>by
  simp only [List.mem_cons,not_or] at h
  show(if x=c then _ else partsF c (p ++ [x]) (l++r))=_
  rw [if_neg (fun e=>h.1 e.symm),partsF_in h.2,List.append_assoc];rfl
theorem partsF_cut{c:UInt8}{l:List UInt8}(h:c ∉ l)(r:List UInt8):partsF c [] (l++c::r)=l::partsF c [] r:=by
 rw [partsF_in h,List.nil_append]
 show(if c=c then _ else _)=_
 rw [if_pos rfl]
theorem partsF_end{c:UInt8}{l:List UInt8}(h:c ∉ l):partsF c [] l = [l]:=by
 have:=partsF_in h [] [];rw [List.append_nil,List.nil_append] at this;exact this
def linesL(s:List UInt8):List (List UInt8):=if(partsF 10 [] s).getLast? = some [] then(partsF 10 [] s).dropLast else []
def joinL:List (List UInt8)→List UInt8
 | []=>[]
 | l::ls=>l++10::joinL ls
theorem joinL_app:∀ a b,joinL (a++b)=joinL a++joinL b
 | [],_=>rfl
 | l::a,b=>by
  show l++10::joinL (a++b)=(l++10::joinL a)++joinL b
  rw [joinL_app a b,List.append_assoc,List.cons_append]
theorem parts_join:∀ {ls:List (List UInt8)},(∀ l,l ∈ ls→(10:UInt8) ∉ l)→partsF 10 [] (joinL ls)=ls ++ [[]]
 | [],_=>rfl
 | l::ls,h=>by
  show partsF 10 [] (l++10::joinL ls)=_
  rw [partsF_cut (h l (List.mem_cons_self ..)),parts_join fun x hx=>h x (List.mem_cons_of_mem _ hx)];rfl
theorem lines_join{ls:List (List UInt8)}(h:∀ l,l ∈ ls→(10:UInt8) ∉ l):linesL (joinL ls)=ls:=by
 unfold linesL;rw [parts_join h,if_pos (by simp),List.dropLast_concat]
def valF:Nat→Int→List UInt8→Int×List UInt8
 | 0,n,s=>(n,s)
 | _+1,n,[]=>(n,[])
 | k+1,n,c::s=>if dgtB c then valF k (dstep n c) s else(n,c::s)
def valR(s:List UInt8):Int×List UInt8:=if Lib.hasPrefix s [45] then(-(valF 5 0 (s.drop 1)).1,(valF 5 0 (s.drop 1)).2) else valF 6 0 s
theorem valF_end:∀ (k:Nat) (n:Int) {r:List UInt8},NoDig r→valF k n r=(n,r)
 | 0,_,_,_=>rfl
 | k+1,n,[],_=>rfl
 | k+1,n,c::r,h=>by
  show(if dgtB c then _ else _)=_
  rw [h c r rfl];rfl
theorem valF_dig:∀ (l:List UInt8) (k:Nat) (n:Int) {r:List UInt8},(∀ c,c ∈ l→dgtB c=true)→l.length≤k→NoDig r→valF k n (l++r)=(l.foldl dstep n,r)
 | [],k,n,r,_,_,hr=>valF_end k n hr
 | c::l,0,_,_,_,hk,_=>by simp at hk
 | c::l,k+1,n,r,h,hk,hr=>by
  show(if dgtB c then valF k (dstep n c) (l++r) else _)=_
  rw [if_pos (h c (List.mem_cons_self ..)),valF_dig l k _ (fun x hx=>h x (List.mem_cons_of_mem _ hx)) (by simp at hk; omega) hr];rfl
theorem valR_itoa{n:Int}(h : -100000<n∧n<100000){r:List UInt8}(hr:NoDig r):valR (Lib.itoa n++r)=(n,r):=by
 unfold valR;by_cases hn:n<0
 ·obtain⟨u,rfl⟩:∃ u:Nat,n = -(u:Int):=⟨n.natAbs,by omega⟩
  rw [Lib.itoa_neg u (by omega),if_pos (by simp [Lib.hasPrefix,List.isPrefixOf])]
  show(-(valF 5 0 (Lib.decDigits u++r)).1,(valF 5 0 (Lib.decDigits u++r)).2)=_
  rw [valF_dig _ 5 0 (dec_spec u).1 (by have:=dec_len u (by omega); omega) hr]
  show(-(dval (Lib.decDigits u)),r)=_
  rw [(dec_spec u).2]
 ·obtain⟨u,rfl⟩:∃ u:Nat,n=u:=⟨n.toNat,by omega⟩
  rw [Lib.itoa_nonneg];obtain⟨c,l,hc,hd⟩:=dec_head u
  rw [if_neg (by
   rw [hc];simp only [Lib.hasPrefix,List.cons_append,List.isPrefixOf];intro e;rw [Bool.and_true,beq_iff_eq] at e;subst e
   exact absurd hd (by decide))]
  rw [valF_dig _ 6 0 (dec_spec u).1 (by have:=dec_len u (by omega); omega) hr]
  show(dval (Lib.decDigits u),r)=_
  rw [(dec_spec u).2]
def wholeR(s:List UInt8):Int:=(valR s).1
theorem wholeR_itoa{n:Int}(h : -100000<n∧n<100000):wholeR (Lib.itoa n)=n:=by
 have:=valR_itoa h noDig_nil;rw [List.append_nil] at this;unfold wholeR;rw [this]
def spanR(s:List UInt8):Int×Int:=if 2<(valR s).2.length∧(valR s).2.take 2 = [46,46] then((valR s).1,wholeR ((valR s).2.drop 2)) else((valR s).1,(valR s).1)
theorem itoa_ne(n:Int):Lib.itoa n ≠ []:=by
 by_cases hn:n<0
 ·obtain⟨u,rfl⟩:∃ u:Nat,n = -(u:Int):=⟨n.natAbs,by omega⟩
  rw [Lib.itoa_neg u (by omega)];simp
 ·obtain⟨u,rfl⟩:∃ u:Nat,n=u:=⟨n.toNat,by omega⟩
  rw [Lib.itoa_nonneg];obtain⟨c,l,hc,-⟩:=dec_head u;rw [hc];simp
theorem spanR_span{lo hi:Int}(h1 : -100000<lo∧lo<100000)(h2 : -100000<hi∧hi<100000):spanR (spanT lo hi)=(lo,hi):=by
 unfold spanT spanR;by_cases e:lo=hi
 ·rw [if_pos e]
  have:=valR_itoa h1 noDig_nil;rw [List.append_nil] at this;rw [this,if_neg (by simp),e]
 ·rw [if_neg e]
  have:=valR_itoa (n:=lo) h1 (r:=46::46::Lib.itoa hi) (noDig_cons (by decide));rw [show Lib.itoa lo++46::46::Lib.itoa hi=Lib.itoa lo++(46::46::Lib.itoa hi) from rfl] at this;rw [this]
  have hl:0<(Lib.itoa hi).length:=by
   cases h:Lib.itoa hi with
   | nil=>exact absurd h (itoa_ne hi)
   | cons=>simp
  rw [if_pos ⟨by simp only [List.length_cons]; omega,rfl⟩]
  show(lo,wholeR (Lib.itoa hi))=_
  rw [wholeR_itoa h2]
def setStep(out:Nat)(h:Int):Nat:=if out / 2 ^ (min h.toNat 20) % 2=0 then out+2 ^ (min h.toNat 20) else out
def setN(l:List (List UInt8)):Nat→Nat
 | 0=>0
 | k+1=>setStep (setN l k) (wholeR (l.getD k []))
def hrsL(l:List (List UInt8)):Nat:=setN l l.length
theorem setStep_lt{out:Nat}(h:out<2 ^ 21)(x:Int):setStep out x<2 ^ 21:=by
 unfold setStep
 split
 ·rename_i e
  generalize hk:min x.toNat 20=k at *;have hk20:k≤20:=by omega
  have key:∀ k,k≤20 → ∀ out,out<2 ^ 21→out / 2 ^ k % 2=0→out+2 ^ k<2 ^ 21:=by
   intro k hk out h e;have e1:2 ^ 21=2 ^ (k+1) * 2 ^ (20 - k):=by rw [← Nat.pow_add]; congr 1; omega
   have hp:0<2 ^ k:=Nat.two_pow_pos k
   have h2:out / 2 ^ (k+1)<2 ^ (20 - k):=by
    rw [Nat.div_lt_iff_lt_mul (Nat.two_pow_pos _),Nat.mul_comm,← e1];exact h
   have h3:out % 2 ^ (k+1)=out % 2 ^ k:=by
    rw [Nat.pow_succ,Nat.mod_mul,e,Nat.mul_zero,Nat.add_zero]
   have h4:out % 2 ^ k<2 ^ k:=Nat.mod_lt _ hp;have h5:=Nat.div_add_mod out (2 ^ (k+1));have h6:2 ^ (k+1) * (out / 2 ^ (k+1)+1)≤2 ^ (k+1) * 2 ^ (20 - k):=Nat.mul_le_mul_left _ h2;rw [← e1,Nat.mul_add,Nat.mul_one] at h6;have h7:2 ^ (k+1)=2 ^ k+2 ^ k:=by rw [Nat.pow_succ]; omega
   omega
  exact key k hk20 out h e
 ·exact h
theorem setN_lt(l:List (List UInt8)):∀ k,setN l k<2 ^ 21
 | 0=>(show(0:Nat)<2 ^ 21 by decide)
 | k+1=>setStep_lt (setN_lt l k) _
def blankF:List (List UInt8)→List UInt8
 | []=>[]
 | w::ws=>32::(w++blankF ws)
theorem blankF_app:∀ a b,blankF (a++b)=blankF a++blankF b
 | [],_=>rfl
 | w::a,b=>by
  show 32::(w++blankF (a++b))=(32::(w++blankF a))++blankF b
  rw [blankF_app a b,List.cons_append,List.append_assoc]
theorem parts_blank:∀ {ws:List (List UInt8)} {a:List UInt8},(32:UInt8) ∉ a→(∀ w,w ∈ ws→(32:UInt8) ∉ w)→partsF 32 [] (a++blankF ws)=a::ws
 | [],a,h,_=>by rw [show blankF [] = [] from rfl,List.append_nil,partsF_end h]
 | w::ws,a,h,hw=>by
  rw [show blankF (w::ws)=32::(w++blankF ws) from rfl,partsF_cut h,parts_blank (hw w (List.mem_cons_self ..)) fun x hx=>hw x (List.mem_cons_of_mem _ hx)]
theorem sp_dec(u:Nat):(32:UInt8) ∉ Lib.decDigits u:=fun h=>absurd ((dec_spec u).1 32 h) (by decide)
theorem sp_itoa(n:Int):(32:UInt8) ∉ Lib.itoa n:=by
 by_cases hn:n<0
 ·obtain⟨u,rfl⟩:∃ u:Nat,n = -(u:Int):=⟨n.natAbs,by omega⟩
  rw [Lib.itoa_neg u (by omega)];simp only [List.mem_cons,not_or];exact⟨by decide,sp_dec u⟩
 ·obtain⟨u,rfl⟩:∃ u:Nat,n=u:=⟨n.toNat,by omega⟩
  rw [Lib.itoa_nonneg];exact sp_dec u
theorem sp_span(lo hi:Int):(32:UInt8) ∉ spanT lo hi:=by
 unfold spanT
 split
 ·exact sp_itoa lo
 ·simp only [List.mem_append,List.mem_cons,not_or]
  refine⟨sp_itoa lo,?_⟩
  first
  | exact⟨by decide,by decide,sp_itoa hi⟩
  | (simp; exact sp_itoa hi)
def hoursW(x:Nat):Nat→List (List UInt8)
 | 0=>[]
 | h+1=>hoursW x h++if x >>> h &&& 1=1 then [Lib.itoa h] else []
theorem hoursT_W(x:Nat):∀ h,hoursT x h=blankF (hoursW x h)
 | 0=>rfl
 | h+1=>by
  show hoursT x h++_=blankF (hoursW x h++_)
  rw [hoursT_W x h,blankF_app]
  congr 1
  split
  ·show 32::Lib.itoa h=32::(Lib.itoa h ++ [])
   rw [List.append_nil]
  ·rfl
theorem hoursW_done{x h:Nat}(h0:x / 2 ^ h=0):∀ d,hoursW x (h+d)=hoursW x h
 | 0=>rfl
 | d+1=>by
  show hoursW x (h+d)++(if x >>> (h+d) &&& 1=1 then _ else _)=_
  rw [hoursW_done h0 d,if_neg (fun e=>by
   rw [shr_and,Nat.pow_add,← Nat.div_div_eq_div_mul,h0,Nat.zero_div] at e
   cases e),List.append_nil]
theorem setN_app(a b:List (List UInt8)):∀ k,k≤a.length→setN (a++b) k=setN a k
 | 0,_=>rfl
 | k+1,h=>by
  show setStep (setN (a++b) k) _=setStep (setN a k) _
  rw [setN_app a b k (by omega),List.getD_eq_getElem?_getD,List.getElem?_append_left (by omega),← List.getD_eq_getElem?_getD]
theorem hrsL_hours(x:Nat):∀ h,h≤20→hrsL (hoursW x h)=x % 2 ^ h
 | 0,_=>by simp [hoursW,hrsL,setN,Nat.mod_one]
 | h+1,hh=>by
  have ih:=hrsL_hours x h (by omega)
  show hrsL (hoursW x h++if x >>> h &&& 1=1 then [Lib.itoa h] else [])=_
  split
  ·rename_i hb
   unfold hrsL at ih ⊢;rw [List.length_append,List.length_singleton]
   show setStep (setN (hoursW x h ++ [Lib.itoa h]) (hoursW x h).length) (wholeR ((hoursW x h ++ [Lib.itoa h]).getD (hoursW x h).length []))=_
   rw [setN_app _ _ _ (Nat.le_refl _),ih,List.getD_eq_getElem?_getD,List.getElem?_append_right (Nat.le_refl _),Nat.sub_self]
   show setStep (x % 2 ^ h) (wholeR (Lib.itoa h))=_
   rw [wholeR_itoa (by omega)];unfold setStep;rw [show min ((h:Int)).toNat 20=h by omega,Nat.div_eq_of_lt (Nat.mod_lt _ (Nat.two_pow_pos h)),if_pos rfl,← bit_mod hb];have e:=Nat.two_pow_add_eq_or_of_lt (Nat.mod_lt x (Nat.two_pow_pos h)) 1;rw [Nat.mul_one] at e;rw [Nat.or_comm,← e];omega
  ·rename_i hb
   rw [List.append_nil,ih];exact bit_not hb
def hW(x:Int):List (List UInt8):=hoursW x.toNat 12
theorem hT_W{x:Int}(h:0≤x∧x<4096):hT x=blankF (hW x):=by
 unfold hT hW;rw [hoursT_W,show hoursW x.toNat 40=hoursW x.toNat 12 from hoursW_done (x:=x.toNat) (h:=12) (Nat.div_eq_of_lt (by omega)) 28]
theorem hrsL_hW{x:Int}(h:0≤x∧x<4096):((hrsL (hW x):Nat):Int)=x:=by
 unfold hW;rw [hrsL_hours _ 12 (by omega),Nat.mod_eq_of_lt (by omega)];omega
theorem hoursW_mem{x:Nat}{w:List UInt8}:∀ {h:Nat},w ∈ hoursW x h → ∃ k:Nat,w=Lib.itoa k
 | h+1,hw=>by
  rcases List.mem_append.1 (show w ∈ hoursW x h++_ from hw) with hw | hw
  ·exact hoursW_mem hw
  ·split at hw
   ·rw [List.mem_singleton] at hw
    exact⟨h,hw⟩
   ·cases hw
theorem sp_hW{x:Int}{w:List UInt8}(h:w ∈ hW x):(32:UInt8) ∉ w:=by
 obtain⟨k,rfl⟩:=hoursW_mem h;exact sp_itoa _
def foldN{σ:Type}(L:Nat→σ→List (List UInt8)→σ)(x0:σ)(ls:List (List UInt8)):Nat→σ
 | 0=>x0
 | k+1=>L k (foldN L x0 ls k) (partsF 32 [] (ls.getD k []))
theorem foldN_app{σ:Type}(L:Nat→σ→List (List UInt8)→σ)(x0:σ)(a b:List (List UInt8)):∀ k,k≤a.length→foldN L x0 (a++b) k=foldN L x0 a k
 | 0,_=>rfl
 | k+1,h=>by
  show L k (foldN L x0 (a++b) k) _=L k (foldN L x0 a k) _
  rw [foldN_app L x0 a b k (by omega),List.getD_eq_getElem?_getD,List.getElem?_append_left (by omega),← List.getD_eq_getElem?_getD]
theorem foldN_snoc{σ:Type}(L:Nat→σ→List (List UInt8)→σ)(x0:σ)(a:List (List UInt8))(l:List UInt8):foldN L x0 (a ++ [l]) (a.length+1)=L a.length (foldN L x0 a a.length) (partsF 32 [] l):=by
 show L a.length (foldN L x0 (a ++ [l]) a.length) (partsF 32 [] ((a ++ [l]).getD a.length []))=_
 rw [foldN_app L x0 a [l] _ (Nat.le_refl _),List.getD_eq_getElem?_getD,List.getElem?_append_right (Nat.le_refl _),Nat.sub_self];rfl
def LineOk(l:List UInt8):Prop:=10 ∉ l∧l ≠ []∧l ≠ [48,49]
def Told{σ:Type}(L:Nat→σ→List (List UInt8)→σ)(x0:σ)(t:List UInt8)(n:Nat)(x:σ):Prop :=
 ∃ ls,t=joinL ls∧(∀ l,l ∈ ls→LineOk l)∧ls.length=n∧foldN L x0 ls n=x
theorem Told.nil{σ:Type}(L:Nat→σ→List (List UInt8)→σ)(x0:σ):Told L x0 [] 0 x0:=⟨[],rfl,fun l h=>(by cases h),rfl,rfl⟩
theorem Told.snoc{σ:Type}{L:Nat→σ→List (List UInt8)→σ}{x0 x:σ}{t l:List UInt8}{n:Nat}(h:Told L x0 t n x)(hl:LineOk l):Told L x0 (t++(l ++ [10])) (n+1) (L n x (partsF 32 [] l)):=by
 obtain⟨ls,rfl,h1,rfl,rfl⟩:=h;refine⟨ls ++ [l],?_,fun y hy=>?_,by simp,foldN_snoc L x0 ls l⟩
 ·rw [joinL_app]
  rfl
 ·rcases List.mem_append.1 hy with hy | hy
  ·exact h1 y hy
  ·rw [List.mem_singleton] at hy
   exact hy ▸ hl
theorem Told.read{σ:Type}{L:Nat→σ→List (List UInt8)→σ}{x0 x:σ}{t:List UInt8}{n:Nat}(h:Told L x0 t n x):foldN L x0 (linesL t) (linesL t).length=x:=by
 obtain⟨ls,rfl,h1,rfl,h2⟩:=h;rw [lines_join fun l hl=>(h1 l hl).1];exact h2
theorem str9:Tryz.prog.underlying 9=some .string:=by kernel_rfl
theorem str_index(u:List UInt8)(k:Nat)(h:k<u.length)(w:World):(Instr.index 9 (.string ⟨u.toArray⟩) (.int .i64 k)).run Tryz.prog w = .ok (.int .u8 ((u.getD k 0).toNat:Nat)) w:=by
 have hs:(⟨u.toArray⟩:ByteArray).size=u.length:=by simp [ByteArray.size]
 rw [run_index_string w 9 ⟨u.toArray⟩ .i64 k str9,dif_pos ⟨by omega,by rw [hs]; omega⟩]
 congr 2
 rw [List.getD_eq_getElem?_getD,List.getElem?_eq_getElem h];simp;rfl
theorem ba_take(u:List UInt8)(a b:Nat):(⟨u.toArray⟩:ByteArray).extract a b=⟨((u.take b).drop a).toArray⟩:=by
 apply ByteArray.ext;simp;rw [List.drop_take]
theorem str_head(u:List UInt8)(b:Nat)(h:b≤u.length)(w:World):(Instr.sliceAt 9 (.string ⟨u.toArray⟩) none (some (.int .i64 b)) none).run Tryz.prog w = .ok (.string ⟨(u.take b).toArray⟩) w:=by
 have hs:(⟨u.toArray⟩:ByteArray).size=u.length:=by simp [ByteArray.size]
 rw [run_sliceAt_string w 9 _ _ _ _ str9,run_slice_string_to_if w 9 _ .i64 b str9,if_pos (by rw [hs]; omega),Int.toNat_natCast,ba_take,List.drop_zero]
theorem str_add(a b:List UInt8)(h:a.length+b.length≤100000)(w:World):(Op.stringOp .add ⟨a.toArray⟩ ⟨b.toArray⟩).run Tryz.prog w = .ok (.string ⟨(a++b).toArray⟩) w:=by
 have hs:∀ u:List UInt8,(⟨u.toArray⟩:ByteArray).size=u.length:=fun u=>by simp [ByteArray.size]
 rw [run_string_add_sum (w:=w) _ _ (by rw [hs,hs]; omega),ba_app,List.append_toArray]
def startN(b:Bool):Nat:=if b then 1 else 0
structure V1 (s:List UInt8) (b:Bool) (i N:Nat):Prop where
 i6:i≤6
 il:i≤s.length
 lo:startN b≤i
 bd:N+1≤10 ^ i
 eq:valF (6 - startN b) 0 (s.drop (startN b))=valF (6 - i) N (s.drop i)
def sideN(r:List UInt8):Nat→Int
 | 0=>9
 | k+1=>if r.take 1=sideT ((k:Int) - 1) then(k:Int) - 1 else sideN r k
def seamR(t:List UInt8):Sea:=if(valR t).2 = [] then⟨(valR t).1,9,0⟩ else⟨(valR t).1,sideN (valR t).2 3,wholeR ((valR t).2.drop 1)⟩
def seasN(x:List Sea)(p:List (List UInt8)):Nat→List Sea
 | 0=>x
 | k+1=>seasN x p k ++ [seamR (p.getD (k+1) [])]
def souR(p:List (List UInt8)):Sou:=⟨wholeR (p.getD 0 []),wholeR (p.getD 1 []),(spanR (p.getD 2 [])).1,(spanR (p.getD 2 [])).2⟩
def hullLn(i:Nat)(x:HullV)(p:List (List UInt8)):HullV:=⟨if i=0 then seasN x.s p (p.length - 1) else x.s,if 0<i∧p.length=3 then x.u ++ [souR p] else x.u⟩
def hullR(s:List UInt8):HullV:=foldN hullLn ⟨[],[]⟩ (linesL s) (linesL s).length
theorem sideN_len{x:Sea}(h:okS x=true):sideN (sideT x.s++Lib.itoa x.m) 3=x.s:=by
 have h:=okS_iff h;rcases(show x.s = -1∨x.s=0∨x.s=1 by omega) with e | e | e <;> rw [e] <;> rfl
def seaW(x:Sea):List UInt8:=Lib.itoa x.h++sideT x.s++Lib.itoa x.m
theorem seamR_sea{x:Sea}(h:okS x=true):seamR (seaW x)=x:=by
 have hs:=sideN_len h;have hk:=okS_iff h;have hl:=side_one x.s;unfold seamR seaW;rw [List.append_assoc,valR_itoa (by omega) (noDig_side _ _)];dsimp only
 rw [if_neg (fun e=>by
  have:=congrArg List.length e;rw [List.length_append,hl] at this
  simp at this),hs,List.drop_left' hl,wholeR_itoa (by omega)]
theorem seasN_map(x:List Sea)(a:List UInt8)(ws:List (List UInt8)):∀ k,k≤ws.length→seasN x (a::ws) k=x++(ws.take k).map seamR
 | 0,_=>by simp [seasN]
 | k+1,h=>by
  show seasN x (a::ws) k ++ [seamR ((a::ws).getD (k+1) [])]=_
  rw [seasN_map x a ws k (by omega),List.take_add_one,List.map_append,List.append_assoc,List.getD_cons_succ,List.getD_eq_getElem?_getD,List.getElem?_eq_getElem (by omega)];rfl
theorem sp_side(s:Int):(32:UInt8) ∉ sideT s:=by
 unfold sideT
 split
 ·decide
 ·split <;> decide
theorem seaF_blank:∀ l,seaF l=blankF (l.map seaW)
 | []=>rfl
 | x::l=>by
  show seaT x++seaF l=32::(seaW x++blankF (l.map seaW))
  rw [seaF_blank l];rfl
theorem sp_seaW(x:Sea):(32:UInt8) ∉ seaW x:=by
 unfold seaW;simp only [List.mem_append,not_or];exact⟨⟨sp_itoa _,sp_side _⟩,sp_itoa _⟩
theorem parts_seas(S:Nat→Sea)(n:Nat):partsF 32 [] (seasT S n) = [104,117,108,108]::(listN S n).map seaW:=by
 rw [seasT_eq,seaF_blank]
 exact parts_blank (by decide) fun w hw=>by
  obtain⟨x,-,rfl⟩:=List.mem_map.1 hw;exact sp_seaW x
def souW(x:Sou):List UInt8:=Lib.itoa x.d++blankF [Lib.itoa x.l,spanT x.lo x.hi]
theorem souT_W(x:Sou):souT x=souW x ++ [10]:=by
 show Lib.itoa x.d++(32::Lib.itoa x.l)++(32::spanT x.lo x.hi) ++ [10]=(Lib.itoa x.d++(32::(Lib.itoa x.l++(32::(spanT x.lo x.hi ++ []))))) ++ [10]
 simp
theorem nl_souW(x:Sou):(10:UInt8) ∉ souW x:=by
 have:=nl_sou x
 have e:souW x=Lib.itoa x.d++(32::Lib.itoa x.l)++(32::spanT x.lo x.hi):=by
  show Lib.itoa x.d++(32::(Lib.itoa x.l++(32::(spanT x.lo x.hi ++ []))))=_
  simp
 rw [e];exact this
theorem parts_sou(x:Sou):partsF 32 [] (souW x) = [Lib.itoa x.d,Lib.itoa x.l,spanT x.lo x.hi] :=
 parts_blank (sp_itoa _) fun w hw=>by
  simp only [List.mem_cons,List.not_mem_nil,or_false] at hw;rcases hw with rfl | rfl
  ·exact sp_itoa _
  ·exact sp_span _ _
theorem souR_sou{x:Sou}(h:okU x=true):souR [Lib.itoa x.d,Lib.itoa x.l,spanT x.lo x.hi]=x:=by
 have h:=okU_iff h;unfold souR;simp only [List.getD_cons_zero,List.getD_cons_succ];rw [wholeR_itoa (by omega),wholeR_itoa (by omega),spanR_span (by omega) (by omega)]
theorem listN_map{α β:Type}(f:α→β)(F:Nat→α):∀ n,(listN F n).map f=listN (fun i=>f (F i)) n
 | 0=>rfl
 | n+1=>by
  show(listN F n ++ [F n]).map f=listN (fun i=>f (F i)) n ++ [f (F n)]
  rw [List.map_append,listN_map f F n];rfl
theorem listN_congr{α:Type}{F G:Nat→α}:∀ {n:Nat},(∀ i,i<n→F i=G i)→listN F n=listN G n
 | 0,_=>rfl
 | n+1,h=>by
  show listN F n ++ [F n]=listN G n ++ [G n]
  rw [listN_congr fun i hi=>h i (by omega),h n (by omega)]
theorem lineOk_hull(S:Nat→Sea)(n:Nat):LineOk (seasT S n):=by
 rw [seasT_eq];refine⟨?_,(fun e=>by cases e),(fun e=>by cases e)⟩;simp only [List.mem_append,not_or];exact⟨by decide,nl_seas _⟩
theorem lineOk_sp{l:List UInt8}(h:(10:UInt8) ∉ l)(hs:(32:UInt8) ∈ l):LineOk l :=
 ⟨h,(fun e=>by rw [e] at hs; cases hs),(fun e=>by rw [e] at hs; exact absurd hs (by decide))⟩
theorem lineOk_sou(x:Sou):LineOk (souW x) :=
 lineOk_sp (nl_souW x) (by
  unfold souW
  exact List.mem_append_right _ (List.mem_cons_self ..))
theorem told_hull{S:Nat→Sea}{n:Nat}{U:Nat→Sou}(hS:∀ i,i<n→okS (S i)=true):∀ m,(∀ i,i<m→okU (U i)=true)→Told hullLn ⟨[],[]⟩ (hullT S n U m) (m+1) ⟨listN S n,listN U m⟩
 | 0,_=>by
  have h:=(Told.nil hullLn ⟨[],[]⟩).snoc (lineOk_hull S n);rw [List.nil_append] at h
  have e:hullLn 0 ⟨[],[]⟩ (partsF 32 [] (seasT S n))=⟨listN S n,listN U 0⟩:=by
   rw [parts_seas];unfold hullLn;rw [if_pos rfl,if_neg (by omega),List.length_cons,Nat.add_sub_cancel,seasN_map _ _ _ _ (Nat.le_refl _),List.take_length,List.nil_append,List.map_map,listN_map];have:listN (fun i=>(seamR ∘ seaW) (S i)) n=listN S n:=listN_congr fun i hi=>seamR_sea (hS i hi);rw [this];rfl
  rw [e] at h;exact h
 | m+1,hU=>by
  have h:=(told_hull hS m fun i hi=>hU i (by omega)).snoc (lineOk_sou (U m))
  have e:hullLn (m+1) ⟨listN S n,listN U m⟩ (partsF 32 [] (souW (U m)))=⟨listN S n,listN U (m+1)⟩:=by
   rw [parts_sou];unfold hullLn;rw [if_neg (by omega),if_pos ⟨by omega,rfl⟩,souR_sou (hU m (by omega))];rfl
  rw [e,← souT_W] at h;exact h
theorem hullR_hull{S:Nat→Sea}{n:Nat}{U:Nat→Sou}{m:Nat}(h:hullB S n U m=true):hullR (hullT S n U m)=⟨listN S n,listN U m⟩ :=
 (told_hull (hull_ok h).2.2.1 m (hull_ok h).2.2.2).read
def hullVB(x:HullV):Bool:=hullB (seaOf x.s) x.s.length (souOf x.u) x.u.length
def hullVT(x:HullV):List UInt8:=hullT (seaOf x.s) x.s.length (souOf x.u) x.u.length
def HullVOk(x:HullV):Prop:=HullOk (seaOf x.s) x.s.length (souOf x.u) x.u.length
def refHull(t:List UInt8):Int×HullV:=if 1000<t.length then(3,⟨[],[]⟩) else if(hullVB (hullR t)&&(hullVT (hullR t)==t))=true then(0,hullR t) else(8,⟨[],[]⟩)
theorem hullOk_no:HullVOk ⟨[],[]⟩:=⟨by decide,by decide,fun i hi=>absurd hi (Nat.not_lt_zero i),fun i hi=>absurd hi (Nat.not_lt_zero i)⟩
theorem hulls_same(t:List UInt8):(refHull t).1=(hullRes t).1∧HullVOk (hullRes t).2∧hullVT (hullRes t).2=hullVT (refHull t).2:=by
 unfold refHull hullRes;by_cases ht:1000<t.length
 ·rw [if_pos ht,if_pos ht]
  exact⟨rfl,hullOk_no,rfl⟩
 ·rw [if_neg ht,if_neg ht]
  cases hr:readH t with
  | none =>
   by_cases hc:(hullVB (hullR t)&&(hullVT (hullR t)==t))=true
   ·rw [Bool.and_eq_true,beq_iff_eq] at hc
    have:=readH_hull (show hullB _ _ _ _=true from hc.1);rw [show hullT _ _ _ _=t from hc.2,hr] at this
    cases this
   ·rw [if_neg hc]
    exact⟨rfl,hullOk_no,rfl⟩
  | some x =>
   dsimp only;unfold readH at hr
   split at hr
   ·cases hr
   ·split at hr
    ·rename_i y _ _ hc
     cases hr
     have hb:=hullR_hull hc.1;rw [hc.2] at hb;have eS:∀ i,i<x.s.length→seaOf (listN (seaOf x.s) x.s.length) i=seaOf x.s i:=fun i hi=>listN_get (seaOf x.s) _ _ i hi;have eU:∀ i,i<x.u.length→souOf (listN (souOf x.u) x.u.length) i=souOf x.u i:=fun i hi=>listN_get (souOf x.u) _ _ i hi
     have h1:hullVB (hullR t)=true:=by
      rw [hb];unfold hullVB;dsimp only;rw [listN_len,listN_len,hullB_congr eS eU];exact hc.1
     have h2:hullVT (hullR t)=t:=by
      rw [hb];unfold hullVT;dsimp only;rw [listN_len,listN_len,hullT_congr eS eU];exact hc.2
     rw [if_pos (by rw [h1,h2,beq_self_eq_true]; rfl)];exact⟨rfl,hull_ok hc.1,by rw [h2]; exact hc.2⟩
    ·cases hr
def perhW:List UInt8:=[112,101,114,104,97,112,115]
def pitchW:List UInt8:=[112,105,116,99,104]
def frostW:List UInt8:=[102,114,111,115,116]
def fireW:List UInt8:=[102,105,114,101]
def potW:List UInt8:=[112,111,116]
def atN(p:List (List UInt8)):Nat→Nat
 | 0=>0
 | k+1=>if p.getD k []=perhW then k else atN p k
def potR(p:List (List UInt8)):Pot:=⟨wholeR (p.getD 1 []),wholeR (p.getD 2 []),wholeR (p.getD 3 [])⟩
def pitL1(i:Nat)(x:PitV)(p:List (List UInt8)):PitV:=if p.getD 0 []=pitchW∧p.length=2∧i=0 then {x with hr:=wholeR (p.getD 1 [])} else x
def pitL2(i:Nat)(x:PitV)(p:List (List UInt8)):PitV:=if(p.getD 0 []=frostW∧i=1)∧0<atN p p.length then {x with fr:=hrsL ((p.take (atN p p.length)).drop 1),pe:=hrsL (p.drop (atN p p.length+1))} else x
def pitL3(x:PitV)(p:List (List UInt8)):PitV:=if p.getD 0 []=fireW then {x with f:=x.f ++ [(hrsL (p.drop 1):Int)]} else x
def pitL4(x:PitV)(p:List (List UInt8)):PitV:=if p.getD 0 []=potW∧p.length=4 then {x with q:=x.q ++ [potR p]} else x
def pitL(i:Nat)(x:PitV)(p:List (List UInt8)):PitV:=pitL4 (pitL3 (pitL2 i (pitL1 i x p) p) p) p
def pitR(s:List UInt8):PitV:=foldN pitL ⟨-1,0,0,[],[]⟩ (linesL s) (linesL s).length
section
variable {i:Nat} {x:PitV} {a:List UInt8} {p:List (List UInt8)}
theorem pitL1_no(h:i≠0):pitL1 i x p=x:=if_neg fun e=>h e.2.2
theorem pitL2_no(h:i≠1):pitL2 i x p=x:=if_neg fun e=>h e.1.2
theorem pitL3_no(h:a≠fireW):pitL3 x (a::p)=x:=if_neg h
theorem pitL4_no(h:a≠potW):pitL4 x (a::p)=x:=if_neg fun e=>h e.1
end
theorem pitL_pitch(x:PitV){n:Int}(h : -100000<n∧n<100000):pitL 0 x [pitchW,Lib.itoa n]={x with hr:=n}:=by
 have e1:pitL1 0 x [pitchW,Lib.itoa n]={x with hr:=n}:=by
  unfold pitL1;rw [if_pos ⟨rfl,rfl,rfl⟩];simp only [List.getD_cons_zero,List.getD_cons_succ];rw [wholeR_itoa h]
 unfold pitL;rw [e1,pitL2_no (by decide),pitL3_no (by decide),pitL4_no (by decide)]
theorem atN_stop{p:List (List UInt8)}{k:Nat}(h:p.getD k []=perhW):∀ d,(∀ j,k<j→j<k+1+d→p.getD j []≠perhW)→atN p (k+1+d)=k
 | 0,_=>by
  show(if p.getD k []=perhW then k else _)=k
  rw [if_pos h]
 | d+1,hn=>by
  show(if p.getD (k+1+d) []=perhW then _ else atN p (k+1+d))=k
  rw [if_neg (hn _ (by omega) (by omega)),atN_stop h d fun j h1 h2=>hn j h1 (by omega)]
theorem itoa_perh(n:Int):Lib.itoa n≠perhW:=by
 intro e;by_cases hn:n<0
 ·obtain⟨u,rfl⟩:∃ u:Nat,n = -(u:Int):=⟨n.natAbs,by omega⟩
  rw [Lib.itoa_neg u (by omega)] at e
  cases e
 ·obtain⟨u,rfl⟩:∃ u:Nat,n=u:=⟨n.toNat,by omega⟩
  rw [Lib.itoa_nonneg] at e;have:=(dec_spec u).1 112 (by rw [e]; decide);exact absurd this (by decide)
theorem pitL_frost(x:PitV){fr pe:Int}(h1:0≤fr∧fr<4096)(h2:0≤pe∧pe<4096):pitL 1 x (frostW::(hW fr++perhW::hW pe))={x with fr:=fr,pe:=pe}:=by
 have hlen:(frostW::(hW fr++perhW::hW pe)).length=(hW fr).length+1+1+(hW pe).length:=by
  simp only [List.length_cons,List.length_append];omega
 have hat:atN (frostW::(hW fr++perhW::hW pe)) (frostW::(hW fr++perhW::hW pe)).length=(hW fr).length+1:=by
  rw [hlen];refine atN_stop ?_ _ fun j hj1 hj2 e=>?_
  ·rw [List.getD_cons_succ,List.getD_eq_getElem?_getD,List.getElem?_append_right (Nat.le_refl _),Nat.sub_self]
   rfl
  ·obtain⟨i,rfl⟩:∃ i,j=(hW fr).length+1+1+i:=⟨j - ((hW fr).length+1+1),by omega⟩
   have hi:i<(hW pe).length:=by omega
   rw [show(hW fr).length+1+1+i=((hW fr).length+(i+1))+1 by omega,List.getD_cons_succ,List.getD_eq_getElem?_getD,List.getElem?_append_right (by omega),Nat.add_sub_cancel_left,List.getElem?_cons_succ,List.getElem?_eq_getElem hi] at e;obtain⟨k,hk⟩:=hoursW_mem (List.getElem_mem hi);exact itoa_perh k (hk.symm.trans e)
 have e1:pitL1 1 x (frostW::(hW fr++perhW::hW pe))=x:=by
  exact pitL1_no (by decide)
 have e2:pitL2 1 x (frostW::(hW fr++perhW::hW pe))={x with fr:=fr,pe:=pe}:=by
  unfold pitL2;rw [hat,if_pos ⟨⟨rfl,rfl⟩,by omega⟩]
  have d1:((frostW::(hW fr++perhW::hW pe)).take ((hW fr).length+1)).drop 1=hW fr:=by
   rw [List.take_succ_cons,List.drop_succ_cons,List.drop_zero,List.take_left' rfl]
  have d2:(frostW::(hW fr++perhW::hW pe)).drop ((hW fr).length+1+1)=hW pe:=by
   rw [List.drop_succ_cons,show(hW fr).length+1=(hW fr ++ [perhW]).length by simp,show hW fr++perhW::hW pe=(hW fr ++ [perhW])++hW pe by simp,List.drop_left' rfl]
  rw [d1,d2,hrsL_hW h1,hrsL_hW h2]
 unfold pitL;rw [e1,e2,pitL3_no (by decide),pitL4_no (by decide)]
theorem pitL_fire(k:Nat)(x:PitV){a:Int}(h:0≤a∧a<4096):pitL (k+2) x (fireW::hW a)={x with f:=x.f ++ [a]}:=by
 have e3:pitL3 x (fireW::hW a)={x with f:=x.f ++ [a]}:=by
  unfold pitL3;rw [if_pos (show(fireW::hW a).getD 0 []=fireW from rfl),List.drop_succ_cons,List.drop_zero,hrsL_hW h]
 unfold pitL;rw [pitL1_no (by omega),pitL2_no (by omega),e3,pitL4_no (by decide)]
theorem pitL_pot(k:Nat)(x:PitV){q:Pot}(h1:0≤q.h∧q.h≤12)(h2:0≤q.f∧q.f≤12)(h3:0≤q.b∧q.b≤12):pitL (k+2) x [potW,Lib.itoa q.h,Lib.itoa q.f,Lib.itoa q.b]={x with q:=x.q ++ [q]}:=by
 unfold pitL;rw [pitL1_no (by omega),pitL2_no (by omega),pitL3_no (by decide)];unfold pitL4;rw [if_pos ⟨rfl,rfl⟩];unfold potR;simp only [List.getD_cons_zero,List.getD_cons_succ];rw [wholeR_itoa (by omega),wholeR_itoa (by omega),wholeR_itoa (by omega)]
theorem sp_one{a:List UInt8}:∀ w,w ∈ [a]→(32:UInt8) ∉ a→(32:UInt8) ∉ w:=fun w hw h=>by
 rw [List.mem_singleton] at hw;exact hw ▸ h
theorem parts_P1(n:Int):partsF 32 [] (lineP1 n) = [pitchW,Lib.itoa n]:=by
 have:=parts_blank (ws:=[Lib.itoa n]) (a:=pitchW) (by decide) fun w hw=>sp_one w hw (sp_itoa n);refine Eq.trans (congrArg (partsF 32 []) ?_) this
 show _=pitchW++(32::(Lib.itoa n ++ []))
 rw [List.append_nil];rfl
theorem parts_P2{fr pe:Int}(h1:0≤fr∧fr<4096)(h2:0≤pe∧pe<4096):partsF 32 [] (lineP2 fr pe)=frostW::(hW fr++perhW::hW pe):=by
 have:=parts_blank (ws:=hW fr++perhW::hW pe) (a:=frostW) (by decide) fun w hw=>by
  rcases List.mem_append.1 hw with hw | hw
  ·exact sp_hW hw
  ·rcases List.mem_cons.1 hw with rfl | hw
   ·decide
   ·exact sp_hW hw
 refine Eq.trans (congrArg (partsF 32 []) ?_) this;unfold lineP2;rw [blankF_app,hT_W h1,hT_W h2]
 show _=frostW++(blankF (hW fr)++(32::(perhW++blankF (hW pe))))
 generalize blankF (hW fr)=A;generalize blankF (hW pe)=B;rfl
theorem parts_P3{a:Int}(h:0≤a∧a<4096):partsF 32 [] (lineP3 a)=fireW::hW a:=by
 have:=parts_blank (ws:=hW a) (a:=fireW) (by decide) fun w hw=>sp_hW hw;refine Eq.trans (congrArg (partsF 32 []) ?_) this;unfold lineP3;rw [hT_W h];generalize blankF (hW a)=A;rfl
theorem parts_P4(q:Pot):partsF 32 [] (lineP4 q) = [potW,Lib.itoa q.h,Lib.itoa q.f,Lib.itoa q.b]:=by
 have:=parts_blank (ws:=[Lib.itoa q.h,Lib.itoa q.f,Lib.itoa q.b]) (a:=potW) (by decide) fun w hw=>by
  simp only [List.mem_cons,List.not_mem_nil,or_false] at hw;rcases hw with rfl | rfl | rfl
  ·exact sp_itoa _
  ·exact sp_itoa _
  ·exact sp_itoa _
 refine Eq.trans (congrArg (partsF 32 []) ?_) this;unfold lineP4
 show [112,111,116,32]++(Lib.itoa q.h++(32::Lib.itoa q.f)++(32::Lib.itoa q.b)) = [112,111,116]++(32::(Lib.itoa q.h++(32::(Lib.itoa q.f++(32::(Lib.itoa q.b ++ []))))))
 simp
theorem told_pit{hr fr pe:Int}{F:Nat→Int}{fn:Nat}{Q:Nat→Pot}{qn:Nat}(h:PitOk hr fr pe F fn Q qn):∃ n,Told pitL ⟨-1,0,0,[],[]⟩ (pitchT hr fr pe F fn Q qn) (n+1) ⟨hr,fr,pe,listN F fn,listN Q qn⟩:=by
 have k1:Told pitL ⟨-1,0,0,[],[]⟩ (lineP1 hr ++ [10]) 1 ⟨hr,0,0,[],[]⟩:=by
  have:=(Told.nil pitL ⟨-1,0,0,[],[]⟩).snoc (l:=lineP1 hr) ⟨nl_P1 _,(fun e=>by cases e),(fun e=>by cases e)⟩;rw [parts_P1,pitL_pitch _ (by have:=h.h; omega)] at this;exact this
 have k2:Told pitL ⟨-1,0,0,[],[]⟩ (pitHT hr fr pe) 2 ⟨hr,fr,pe,[],[]⟩:=by
  have:=k1.snoc (l:=lineP2 fr pe) ⟨nl_P2 _ _,(fun e=>by cases e),(fun e=>by cases e)⟩;rw [parts_P2 h.fr h.pe,pitL_frost _ h.fr h.pe] at this;rw [pitHT_eq];rw [List.append_assoc] at this;exact this
 have k3:∀ n,n≤fn→Told pitL ⟨-1,0,0,[],[]⟩ (firesT (pitHT hr fr pe) F n) (n+2) ⟨hr,fr,pe,listN F n,[]⟩:=by
  intro n
  induction n with
  | zero=>intro _; exact k2
  | succ n ih =>
   intro hn;have:=(ih (by omega)).snoc (l:=lineP3 (F n)) ⟨nl_P3 _,(fun e=>by cases e),(fun e=>by cases e)⟩;rw [parts_P3 (h.f n (by omega)),pitL_fire n _ (h.f n (by omega))] at this;exact this
 have k4:∀ n,n≤qn→Told pitL ⟨-1,0,0,[],[]⟩ (pitchT hr fr pe F fn Q n) (n+fn+2) ⟨hr,fr,pe,listN F fn,listN Q n⟩:=by
  intro n
  induction n with
  | zero =>
   intro _;rw [Nat.zero_add];exact k3 fn (Nat.le_refl _)
  | succ n ih =>
   intro hn;have hq:=h.q n (by omega);have:=(ih (by omega)).snoc (l:=lineP4 (Q n)) ⟨nl_P4 _,(fun e=>by cases e),(fun e=>by cases e)⟩;rw [parts_P4,pitL_pot (n+fn) _ (by omega) (by omega) (by omega)] at this
   have e:pitchT hr fr pe F fn Q (n+1)=pitchT hr fr pe F fn Q n++(lineP4 (Q n) ++ [10]):=by
    show _++potT (Q n)=_
    unfold potT lineP4;simp only [pitchT,List.append_assoc]
   rw [e,show n+1+fn+2=n+fn+2+1 by omega];exact this
 exact⟨qn+fn+1,k4 qn (Nat.le_refl _)⟩
theorem pitR_pitch{hr fr pe:Int}{F:Nat→Int}{fn:Nat}{Q:Nat→Pot}{qn:Nat}(h:pitchB hr fr pe F fn Q qn=true):pitR (pitchT hr fr pe F fn Q qn)=⟨hr,fr,pe,listN F fn,listN Q qn⟩:=by
 obtain⟨n,hn⟩:=told_pit (pitch_ok h);exact hn.read
def PitVOk(x:PitV):Prop:=PitOk x.hr x.fr x.pe (intOf' x.f) x.f.length (potOf x.q) x.q.length
def zeroP:PitV:=⟨0,0,0,[],[]⟩
def refPit(t:List UInt8):Int×PitV:=if 1000<t.length then(3,zeroP) else if(pitVB (pitR t)&&(pitVT (pitR t)==t))=true then(0,pitR t) else(8,zeroP)
theorem pitOk_no:PitVOk zeroP:=pitch_ok (by decide)
theorem pits_same(t:List UInt8):(refPit t).1=(pitRes t).1∧PitVOk (pitRes t).2∧pitVT (pitRes t).2=pitVT (refPit t).2:=by
 unfold refPit pitRes;by_cases ht:1000<t.length
 ·rw [if_pos ht,if_pos ht]
  exact⟨rfl,pitOk_no,rfl⟩
 ·rw [if_neg ht,if_neg ht]
  cases hr:readP t with
  | none =>
   by_cases hc:(pitVB (pitR t)&&(pitVT (pitR t)==t))=true
   ·rw [Bool.and_eq_true,beq_iff_eq] at hc
    have:=readP_pitch (show pitchB _ _ _ _ _ _ _=true from hc.1);rw [show pitchT _ _ _ _ _ _ _=t from hc.2,hr] at this
    cases this
   ·rw [if_neg hc]
    exact⟨rfl,pitOk_no,rfl⟩
  | some x =>
   dsimp only;unfold readP at hr
   split at hr
   ·cases hr
   ·split at hr
    ·rename_i y _ _ hc
     cases hr
     have hb:=pitR_pitch (show pitchB _ _ _ _ _ _ _=true from hc.1);rw [show pitchT _ _ _ _ _ _ _=t from hc.2] at hb;have eF:∀ i,i<x.f.length→intOf' (listN (intOf' x.f) x.f.length) i=intOf' x.f i:=fun i hi=>listN_get (intOf' x.f) _ _ i hi;have eQ:∀ i,i<x.q.length→potOf (listN (potOf x.q) x.q.length) i=potOf x.q i:=fun i hi=>listN_get (potOf x.q) _ _ i hi
     have h1:pitVB (pitR t)=true:=by
      rw [hb];unfold pitVB;dsimp only;rw [listN_len,listN_len,pitchB_congr eF eQ];exact hc.1
     have h2:pitVT (pitR t)=t:=by
      rw [hb];unfold pitVT;dsimp only;rw [listN_len,listN_len,pitchT_congr eF eQ];exact hc.2
     rw [if_pos (by rw [h1,h2,beq_self_eq_true]; rfl)];exact⟨rfl,pitch_ok hc.1,by rw [h2]; exact hc.2⟩
    ·cases hr
def ironsW:List UInt8:=[105,114,111,110,115]
def ownerW:List UInt8:=[111,119,110,101,114]
def strakeW:List UInt8:=[115,116,114,97,107,101]
def claimW:List UInt8:=[99,108,97,105,109]
def ownN(p:List (List UInt8)):Nat→List Int
 | 0=>[]
 | k+1=>ownN p k ++ [wholeR (p.getD (k+2) [])]
def markQ(t:List UInt8):Int×Int×Int:=if 1<(valR t).2.length then((valR t).1,(spanR ((valR t).2.drop 1)).1,(spanR ((valR t).2.drop 1)).2) else((valR t).1,-1,0)
def markN(p:List (List UInt8)):Nat→List (Int×Int×Int)
 | 0=>[]
 | k+1=>markN p k ++ [markQ (p.getD (k+1) [])]
def claimQ(p:List (List UInt8)):Int×Int×Bool:=if Lib.hasPrefix (p.getD 2 []) [33] then(wholeR (p.getD 1 []),wholeR ((p.getD 2 []).drop 1),true) else(wholeR (p.getD 1 []),wholeR (p.getD 2 []),false)
def irL1(i:Nat)(x:IrR)(p:List (List UInt8)):IrR:=if p.getD 0 []=ironsW∧p.length=2∧i=0 then {x with f:=wholeR (p.getD 1 [])} else x
def irL2(x:IrR)(p:List (List UInt8)):IrR:=if p.getD 0 []=ownerW∧1<p.length then {x with own:=x.own ++ [ownN p (p.length - 2)],most:=x.most ++ [wholeR (p.getD 1 [])]} else x
def irL3(x:IrR)(p:List (List UInt8)):IrR:=if p.getD 0 []=strakeW then {x with str:=x.str ++ [markN p (p.length - 1)]} else x
def irL4(x:IrR)(p:List (List UInt8)):IrR:=if p.getD 0 []=claimW∧p.length=3 then {x with cl:=x.cl ++ [claimQ p]} else x
def irL(i:Nat)(x:IrR)(p:List (List UInt8)):IrR:=irL4 (irL3 (irL2 (irL1 i x p) p) p) p
def ironR(s:List UInt8):IrR:=foldN irL ⟨-1,[],[],[],[]⟩ (linesL s) (linesL s).length
section
variable {i:Nat} {x:IrR} {a:List UInt8} {p:List (List UInt8)}
theorem irL1_no(h:i≠0):irL1 i x p=x:=if_neg fun e=>h e.2.2
theorem irL2_no(h:a≠ownerW):irL2 x (a::p)=x:=if_neg fun e=>h e.1
theorem irL3_no(h:a≠strakeW):irL3 x (a::p)=x:=if_neg h
theorem irL4_no(h:a≠claimW):irL4 x (a::p)=x:=if_neg fun e=>h e.1
end
theorem irL_irons(x:IrR){n:Int}(h : -100000<n∧n<100000):irL 0 x [ironsW,Lib.itoa n]={x with f:=n}:=by
 have e1:irL1 0 x [ironsW,Lib.itoa n]={x with f:=n}:=by
  unfold irL1;rw [if_pos ⟨rfl,rfl,rfl⟩];simp only [List.getD_cons_zero,List.getD_cons_succ];rw [wholeR_itoa h]
 unfold irL;rw [e1,irL2_no (by decide),irL3_no (by decide),irL4_no (by decide)]
theorem ownN_nums(a b:List UInt8)(l:List Int)(h:∀ x,x ∈ l → -100000<x∧x<100000):∀ k,k≤l.length→ownN (a::b::l.map Lib.itoa) k=l.take k
 | 0,_=>rfl
 | k+1,hk=>by
  show ownN _ k ++ [wholeR ((a::b::l.map Lib.itoa).getD (k+2) [])]=_
  rw [ownN_nums a b l h k (by omega),List.getD_cons_succ,List.getD_cons_succ,List.getD_eq_getElem?_getD,List.getElem?_map,List.getElem?_eq_getElem (by omega),List.take_add_one,List.getElem?_eq_getElem (by omega)]
  show _ ++ [wholeR (Lib.itoa _)]=_
  rw [wholeR_itoa (h _ (List.getElem_mem _))];rfl
theorem irL_owner(k:Nat)(x:IrR){m:Int}{l:List Int}(hm : -100000<m∧m<100000)(h:∀ x,x ∈ l → -100000<x∧x<100000):irL (k+1) x (ownerW::Lib.itoa m::l.map Lib.itoa)={x with own:=x.own ++ [l],most:=x.most ++ [m]}:=by
 have e1:irL1 (k+1) x (ownerW::Lib.itoa m::l.map Lib.itoa)=x:=by
  exact irL1_no (by omega)
 have e2:irL2 x (ownerW::Lib.itoa m::l.map Lib.itoa)={x with own:=x.own ++ [l],most:=x.most ++ [m]}:=by
  unfold irL2;rw [if_pos ⟨rfl,by simp⟩,show(ownerW::Lib.itoa m::l.map Lib.itoa).length - 2=l.length by simp,ownN_nums _ _ _ h _ (Nat.le_refl _),List.take_length];simp only [List.getD_cons_zero,List.getD_cons_succ];rw [wholeR_itoa hm]
 unfold irL;rw [e1,e2,irL3_no (by decide),irL4_no (by decide)]
def markW(m:Int×Int×Int):List UInt8:=Lib.itoa m.1++(61::spanT m.2.1 m.2.2)
theorem spanT_ne(lo hi:Int):spanT lo hi ≠ []:=by
 unfold spanT
 split
 ·exact itoa_ne lo
 ·intro e
  have:=congrArg List.length e;simp at this
theorem markQ_mark{m:Int×Int×Int}(h1 : -100000<m.1∧m.1<100000)(h2 : -100000<m.2.1∧m.2.1<100000)(h3 : -100000<m.2.2∧m.2.2<100000):markQ (markW m)=m:=by
 unfold markQ markW;rw [valR_itoa h1 (noDig_cons (by decide))]
 have hl:0<(spanT m.2.1 m.2.2).length:=by
  cases h:spanT m.2.1 m.2.2 with
  | nil=>exact absurd h (spanT_ne _ _)
  | cons=>simp
 dsimp only;rw [if_pos (by rw [List.length_cons]; omega),List.drop_succ_cons,List.drop_zero,spanR_span h2 h3]
theorem markN_marks(a:List UInt8)(l:List (Int×Int×Int))(h:∀ m,m ∈ l→markQ (markW m)=m):∀ k,k≤l.length→markN (a::l.map markW) k=l.take k
 | 0,_=>rfl
 | k+1,hk=>by
  show markN _ k ++ [markQ ((a::l.map markW).getD (k+1) [])]=_
  rw [markN_marks a l h k (by omega),List.getD_cons_succ,List.getD_eq_getElem?_getD,List.getElem?_map,List.getElem?_eq_getElem (by omega),List.take_add_one,List.getElem?_eq_getElem (by omega)]
  show _ ++ [markQ (markW _)]=_
  rw [h _ (List.getElem_mem _)];rfl
theorem irL_strake(k:Nat)(x:IrR){l:List (Int×Int×Int)}(h:∀ m,m ∈ l→markQ (markW m)=m):irL (k+1) x (strakeW::l.map markW)={x with str:=x.str ++ [l]}:=by
 have e1:irL1 (k+1) x (strakeW::l.map markW)=x:=by
  exact irL1_no (by omega)
 have e2:irL2 x (strakeW::l.map markW)=x:=by
  exact irL2_no (by decide)
 have e3:irL3 x (strakeW::l.map markW)={x with str:=x.str ++ [l]}:=by
  unfold irL3;rw [if_pos (show(strakeW::l.map markW).getD 0 []=strakeW from rfl),show(strakeW::l.map markW).length - 1=l.length by simp,markN_marks _ _ h _ (Nat.le_refl _),List.take_length]
 unfold irL;rw [e1,e2,e3,irL4_no (by decide)]
theorem itoa_bang(n:Int):Lib.hasPrefix (Lib.itoa n) [33]=false:=by
 by_cases hn:n<0
 ·obtain⟨u,rfl⟩:∃ u:Nat,n = -(u:Int):=⟨n.natAbs,by omega⟩
  rw [Lib.itoa_neg u (by omega)];rfl
 ·obtain⟨u,rfl⟩:∃ u:Nat,n=u:=⟨n.toNat,by omega⟩
  rw [Lib.itoa_nonneg];obtain⟨c,l,hc,hd⟩:=dec_head u;rw [hc];refine prefix1 fun c' r' e=>?_
  cases e
  intro e;subst e;exact absurd hd (by decide)
theorem irL_claim(k:Nat)(x:IrR){c:Int×Int×Bool}(h1 : -100000<c.1∧c.1<100000)(h2 : -100000<c.2.1∧c.2.1<100000):irL (k+1) x [claimW,Lib.itoa c.1,notT c.2.2++Lib.itoa c.2.1]={x with cl:=x.cl ++ [c]}:=by
 have e1:irL1 (k+1) x [claimW,Lib.itoa c.1,notT c.2.2++Lib.itoa c.2.1]=x:=by
  exact irL1_no (by omega)
 have e2:irL2 x [claimW,Lib.itoa c.1,notT c.2.2++Lib.itoa c.2.1]=x:=by
  exact irL2_no (by decide)
 have e3:irL3 x [claimW,Lib.itoa c.1,notT c.2.2++Lib.itoa c.2.1]=x:=by
  exact irL3_no (by decide)
 unfold irL;rw [e1,e2,e3];unfold irL4;rw [if_pos ⟨rfl,rfl⟩]
 have e4:claimQ [claimW,Lib.itoa c.1,notT c.2.2++Lib.itoa c.2.1]=c:=by
  unfold claimQ;simp only [List.getD_cons_zero,List.getD_cons_succ];obtain⟨a,b,n⟩:=c
  cases n with
  | true =>
   dsimp only at h1 h2 ⊢
   show(if Lib.hasPrefix (33::Lib.itoa b) [33]=true then(wholeR (Lib.itoa a),wholeR (Lib.itoa b),true) else _)=_
   rw [if_pos (by simp [Lib.hasPrefix,List.isPrefixOf]),wholeR_itoa h1,wholeR_itoa h2]
  | false =>
   dsimp only at h1 h2 ⊢
   show(if Lib.hasPrefix (Lib.itoa b) [33]=true then _ else(wholeR (Lib.itoa a),wholeR (Lib.itoa b),false))=_
   rw [itoa_bang b,if_neg (by decide),wholeR_itoa h1,wholeR_itoa h2]
 rw [e4]
theorem parts_I1(n:Int):partsF 32 [] (lineI1 n) = [ironsW,Lib.itoa n]:=by
 have:=parts_blank (ws:=[Lib.itoa n]) (a:=ironsW) (by decide) fun w hw=>sp_one w hw (sp_itoa n);refine Eq.trans (congrArg (partsF 32 []) ?_) this
 show _=ironsW++(32::(Lib.itoa n ++ []))
 rw [List.append_nil];rfl
theorem numsF_blank:∀ l,numsF l=blankF (l.map Lib.itoa)
 | []=>rfl
 | x::l=>by
  show(32::Lib.itoa x)++numsF l=32::(Lib.itoa x++blankF (l.map Lib.itoa))
  rw [numsF_blank l];rfl
theorem parts_I2(m:Int)(l:List Int):partsF 32 [] (lineI2 m l)=ownerW::Lib.itoa m::l.map Lib.itoa:=by
 have:=parts_blank (ws:=Lib.itoa m::l.map Lib.itoa) (a:=ownerW) (by decide) fun w hw=>by
  rcases List.mem_cons.1 hw with rfl | hw
  ·exact sp_itoa _
  ·obtain⟨x,-,rfl⟩:=List.mem_map.1 hw
   exact sp_itoa _
 refine Eq.trans (congrArg (partsF 32 []) ?_) this;unfold lineI2;rw [numsF_blank];rfl
theorem marksF_blank:∀ l,marksF l=blankF (l.map markW)
 | []=>rfl
 | x::l=>by
  show markF x++marksF l=32::(markW x++blankF (l.map markW))
  rw [marksF_blank l];rfl
theorem parts_I3(l:List (Int×Int×Int)):partsF 32 [] (lineI3 l)=strakeW::l.map markW:=by
 have:=parts_blank (ws:=l.map markW) (a:=strakeW) (by decide) fun w hw=>by
  obtain⟨m,-,rfl⟩:=List.mem_map.1 hw;unfold markW;simp only [List.mem_append,List.mem_cons,not_or];exact⟨sp_itoa _,by decide,sp_span _ _⟩
 refine Eq.trans (congrArg (partsF 32 []) ?_) this;unfold lineI3;rw [marksF_blank];rfl
theorem parts_I4(c:Int×Int×Bool):partsF 32 [] (lineI4 c) = [claimW,Lib.itoa c.1,notT c.2.2++Lib.itoa c.2.1]:=by
 have:=parts_blank (ws:=[Lib.itoa c.1,notT c.2.2++Lib.itoa c.2.1]) (a:=claimW) (by decide) fun w hw=>by
  simp only [List.mem_cons,List.not_mem_nil,or_false] at hw;rcases hw with rfl | rfl
  ·exact sp_itoa _
  ·simp only [List.mem_append,not_or]
   exact⟨by cases c.2.2 <;> decide,sp_itoa _⟩
 refine Eq.trans (congrArg (partsF 32 []) ?_) this;unfold lineI4
 show [99,108,97,105,109,32]++(Lib.itoa c.1++(32::(notT c.2.2++Lib.itoa c.2.1))) = [99,108,97,105,109]++(32::(Lib.itoa c.1++(32::((notT c.2.2++Lib.itoa c.2.1) ++ []))))
 rw [List.append_nil];rfl
theorem told_irons{x:IronsV}(h:IrOk x):∃ n,Told irL ⟨-1,[],[],[],[]⟩ (ironsT x) (n+1) (backI x):=by
 have k1:Told irL ⟨-1,[],[],[],[]⟩ (ironH x.f) 1 ⟨x.f,[],[],[],[]⟩:=by
  have:=(Told.nil irL ⟨-1,[],[],[],[]⟩).snoc (l:=lineI1 x.f) ⟨nl_I1 _,(fun e=>by cases e),(fun e=>by cases e)⟩;rw [parts_I1,irL_irons _ (by have:=h.f; omega)] at this;exact this
 have k2:∀ n,n≤x.on→Told irL ⟨-1,[],[],[],[]⟩ (ownersT (ironH x.f) x n) (n+1) ⟨x.f,listN (ownL x) n,listN x.most n,[],[]⟩:=by
  intro n
  induction n with
  | zero=>intro _; exact k1
  | succ n ih =>
   intro hn;have:=(ih (by omega)).snoc (l:=lineI2 (x.most n) (ownL x n)) ⟨nl_I2 _ _,(fun e=>by cases e),(fun e=>by cases e)⟩;have hm:=h.most n (by have:=h.mn; omega)
   rw [parts_I2,irL_owner n _ (by omega) (fun z hz=>by
    obtain⟨j,hj,rfl⟩:=listN_mem hz;have:=(h.ol n (by omega)).2 j hj
    omega)] at this
   have e:ownersT (ironH x.f) x (n+1)=ownersT (ironH x.f) x n++(lineI2 (x.most n) (ownL x n) ++ [10]):=by
    show numsT _ _ _ ++ [10]=_
    rw [numsT_eq];unfold lineI2 ownL;simp only [List.append_assoc]
   rw [e];exact this
 have k3:∀ n,n≤x.sn→Told irL ⟨-1,[],[],[],[]⟩ (strakesT (ownersT (ironH x.f) x x.on) x n) (n+x.on+1) ⟨x.f,listN (ownL x) x.on,listN x.most x.on,listN (strL x) n,[]⟩:=by
  intro n
  induction n with
  | zero =>
   intro _;rw [Nat.zero_add];exact k2 x.on (Nat.le_refl _)
  | succ n ih =>
   intro hn;have:=(ih (by omega)).snoc (l:=lineI3 (strL x n)) ⟨nl_I3 _,(fun e=>by cases e),(fun e=>by cases e)⟩
   rw [parts_I3,irL_strake (n+x.on) _ (fun z hz=>by
    obtain⟨j,hj,rfl⟩:=listN_mem hz;have:=(h.sl n (by omega)).2 j hj;unfold tripM
    exact markQ_mark (by dsimp only; omega) (by dsimp only; omega) (by dsimp only; omega))] at this
   have e:strakesT (ownersT (ironH x.f) x x.on) x (n+1)=strakesT (ownersT (ironH x.f) x x.on) x n++(lineI3 (strL x n) ++ [10]):=by
    show marksT _ _ _ ++ [10]=_
    rw [marksT_eq];unfold lineI3 strL;simp only [List.append_assoc]
   rw [e,show n+1+x.on+1=n+x.on+1+1 by omega];exact this
 have k4:∀ n,n≤x.cn→Told irL ⟨-1,[],[],[],[]⟩ (claimsT (strakesT (ownersT (ironH x.f) x x.on) x x.sn) x.claim n) (n+x.sn+x.on+1) ⟨x.f,listN (ownL x) x.on,listN x.most x.on,listN (strL x) x.sn,listN (fun i=>tripC (x.claim i)) n⟩:=by
  intro n
  induction n with
  | zero =>
   intro _;rw [Nat.zero_add];exact k3 x.sn (Nat.le_refl _)
  | succ n ih =>
   intro hn;have:=(ih (by omega)).snoc (l:=lineI4 (tripC (x.claim n))) ⟨nl_I4 _,(fun e=>by cases e),(fun e=>by cases e)⟩;have hc:=h.cl n (by omega);rw [parts_I4,irL_claim (n+x.sn+x.on) _ (by unfold tripC; dsimp only; omega) (by unfold tripC; dsimp only; omega)] at this
   have e:claimsT (strakesT (ownersT (ironH x.f) x x.on) x x.sn) x.claim (n+1)=claimsT (strakesT (ownersT (ironH x.f) x x.on) x x.sn) x.claim n++(lineI4 (tripC (x.claim n)) ++ [10]):=by
    show _++claimT (x.claim n)=_
    unfold claimT lineI4 tripC;simp only [List.append_assoc]
   rw [e,show n+1+x.sn+x.on+1=n+x.sn+x.on+1+1 by omega];exact this
 exact⟨x.cn+x.sn+x.on,k4 x.cn (Nat.le_refl _)⟩
theorem ironR_irons{x:IronsV}(h:ironsB x=true):ironR (ironsT x)=backI x:=by
 obtain⟨n,hn⟩:=told_irons (irons_ok h);exact hn.read
def refIron(t:List UInt8):Int×IrR:=if 1000<t.length then(3,noI) else if(ironsB (toV (ironR t))&&(ironsT (toV (ironR t))==t))=true then(0,ironR t) else(8,noI)
theorem ironOk_no:IrOk (toV noI):=irons_ok (by decide)
theorem irons_same(t:List UInt8):(refIron t).1=(ironRes t).1∧IrOk (toV (ironRes t).2)∧ironsT (toV (ironRes t).2)=ironsT (toV (refIron t).2):=by
 unfold refIron ironRes;by_cases ht:1000<t.length
 ·rw [if_pos ht,if_pos ht]
  exact⟨rfl,ironOk_no,rfl⟩
 ·rw [if_neg ht,if_neg ht]
  cases hr:readI t with
  | none =>
   by_cases hc:(ironsB (toV (ironR t))&&(ironsT (toV (ironR t))==t))=true
   ·rw [Bool.and_eq_true,beq_iff_eq] at hc
    have:=readI_irons hc.1;rw [hc.2,hr] at this
    cases this
   ·rw [if_neg hc]
    exact⟨rfl,ironOk_no,rfl⟩
  | some x =>
   dsimp only;unfold readI at hr
   split at hr
   ·cases hr
   ·split at hr
    ·rename_i y _ _ hc
     cases hr
     have hb:=ironR_irons hc.1;rw [hc.2] at hb;have ok:=irons_ok hc.1;have he:=backI_eq ok.mn;have h1:ironsB (toV (ironR t))=true:=by rw [hb,ironsB_congr he]; exact hc.1
     have h2:ironsT (toV (ironR t))=t:=by rw [hb,ironsT_congr he ok.mn]; exact hc.2
     rw [if_pos (by rw [h1,h2,beq_self_eq_true]; rfl)];exact⟨rfl,ok,by rw [h2]; exact hc.2⟩
    ·cases hr
end Go.Proofs.YtclbmlmlhiiaeaaGreatDoor
