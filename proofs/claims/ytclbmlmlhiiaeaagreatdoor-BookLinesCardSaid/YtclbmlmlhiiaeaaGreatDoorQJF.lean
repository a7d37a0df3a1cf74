/- Plain: texts with a byte more or less are no texts; the kind -/
import Derived.Test.YtclbmlmlhiiaeaaGreatDoorQJ1
import Derived.Test.YtclbmlmlhiiaeaaGreatDoorQY3
import Derived.Test.YtclbmlmlhiiaeaaGreatDoorQT1
namespace Go.Proofs.YtclbmlmlhiiaeaaGreatDoor
open Go.RowKit
def IsText(t:List UInt8):Prop := ∃ ls,t=joinL ls ∧ ∀ l,l ∈ ls→LineOk l
theorem Told.isText{σ:Type}{L:Nat→σ→List (List UInt8)→σ}{x0 x:σ}{t:List UInt8}{n:Nat}(h:Told L x0 t n x):IsText t:=by
 obtain⟨ls,h1,h2,-⟩:=h;exact⟨ls,h1,h2⟩
theorem joinL_inj{a b:List (List UInt8)}(ha:∀ l,l ∈ a→(10:UInt8) ∉ l)(hb:∀ l,l ∈ b→(10:UInt8) ∉ l)(h:joinL a=joinL b):a=b:=by
 rw [← lines_join ha,← lines_join hb,h]
theorem joinL_snoc(a:List (List UInt8))(l:List UInt8):joinL (a ++ [l])=joinL a++(l ++ [10]):=by
 rw [joinL_app];rfl
theorem IsText.no{a:List (List UInt8)}{t l:List UInt8}(ha:∀ l,l ∈ a→(10:UInt8) ∉ l)(hl:(10:UInt8) ∉ l)(hn:¬ LineOk l)(h:t=joinL a++(l ++ [10])):¬ IsText t:=by
 rintro⟨ls,h1,h2⟩;rw [← joinL_snoc,h1] at h
 have e:=joinL_inj (fun y hy=>(h2 y hy).1) (fun y hy=>by
  rcases List.mem_append.1 hy with hy | hy
  ·exact ha y hy
  ·rw [List.mem_singleton] at hy
   rw [hy]
   exact hl) h
 exact hn (h2 l (by rw [e]; simp))
theorem IsText.nl{t:List UInt8}(h:IsText t):¬ IsText (t ++ [10]):=by
 obtain⟨ls,h1,h2⟩:=h;exact IsText.no (a:=ls) (l:=[]) (fun l hl=>(h2 l hl).1) (fun h=>by cases h) (fun h=>h.2.1 rfl) (by rw [h1]; rfl)
theorem IsText.one{t:List UInt8}(h:IsText t):¬ IsText (t ++ [48,49,10]):=by
 obtain⟨ls,h1,h2⟩:=h;exact IsText.no (a:=ls) (l:=[48,49]) (fun l hl=>(h2 l hl).1) (by decide) (fun h=>h.2.2 rfl) (by rw [h1]; rfl)
theorem IsText.ends{t:List UInt8}(h:IsText t)(hn:t ≠ []):∃ s,t=s ++ [10]:=by
 obtain⟨ls,h1,-⟩:=h;rcases List.eq_nil_or_concat ls with rfl | ⟨a,l,rfl⟩
 ·exact absurd h1 hn
 ·rw [List.concat_eq_append] at h1
  exact⟨joinL a++l,by rw [h1,joinL_snoc,List.append_assoc]⟩
theorem IsText.more{t:List UInt8}(h:IsText t)(b:UInt8):¬ IsText (t ++ [b]):=fun h'=>by
 obtain⟨s,hs⟩:=h'.ends (by simp);have e:=(List.append_inj' hs rfl).2;simp only [List.cons.injEq,and_true] at e;subst e;exact h.nl h'
theorem IsText.less{t:List UInt8}(h:IsText t)(hn:t ≠ []):¬ IsText t.dropLast:=fun h'=>by
 obtain⟨s,hs⟩:=h.ends hn;subst hs;rw [List.dropLast_concat] at h';exact h'.nl h
theorem hull_isText{S:Nat→Sea}{n:Nat}{U:Nat→Sou}{m:Nat}(h:HullOk S n U m):IsText (hullT S n U m):=(told_hull h.2.2.1 m h.2.2.2).isText
theorem pitch_isText{hr fr pe:Int}{F:Nat→Int}{fn:Nat}{Q:Nat→Pot}{qn:Nat}(h:PitOk hr fr pe F fn Q qn):IsText (pitchT hr fr pe F fn Q qn):=by
 obtain⟨n,hn⟩:=told_pit h;exact hn.isText
theorem irons_isText{x:IronsV}(h:IrOk x):IsText (ironsT x):=by
 obtain⟨n,hn⟩:=told_irons h;exact hn.isText
def Pre(c d:UInt8)(t:List UInt8):Prop := ∃ r,t=c::d::r
theorem Pre.app{c d:UInt8}{t:List UInt8}(h:Pre c d t)(s:List UInt8):Pre c d (t++s):=by
 obtain⟨r,rfl⟩:=h;exact⟨r++s,rfl⟩
theorem Pre.ne{c d c' d':UInt8}{t:List UInt8}(h:Pre c d t)(hc:c≠c'):¬ Pre c' d' t:=by
 obtain⟨r,rfl⟩:=h;rintro⟨r',h⟩;simp only [List.cons.injEq] at h;exact hc h.1
theorem Pre.cons{c d b:UInt8}{t:List UInt8}(h:Pre c d t)(hd:c≠d):¬ Pre c d (b::t):=by
 obtain⟨r,rfl⟩:=h;rintro⟨r',h⟩;simp only [List.cons.injEq] at h;exact hd h.2.1
theorem Pre.nil{c d:UInt8}{t:List UInt8}(h:Pre c d t):t ≠ []:=by
 obtain⟨r,rfl⟩:=h;intro e
 cases e
theorem seas_pre(S:Nat→Sea):∀ n,Pre 104 117 (seasT S n)
 | 0=>⟨_,rfl⟩
 | n+1=>(seas_pre S n).app _
theorem sous_pre{c d:UInt8}{t:List UInt8}(U:Nat→Sou)(h:Pre c d t):∀ n,Pre c d (sousT t U n)
 | 0=>h
 | n+1=>(sous_pre U h n).app _
theorem hull_pre(S:Nat→Sea)(n:Nat)(U:Nat→Sou)(m:Nat):Pre 104 117 (hullT S n U m):=sous_pre U ((seas_pre S n).app _) m
theorem fires_pre{c d:UInt8}{t:List UInt8}(F:Nat→Int)(h:Pre c d t):∀ n,Pre c d (firesT t F n)
 | 0=>h
 | n+1=>(fires_pre F h n).app _
theorem pots_pre{c d:UInt8}{t:List UInt8}(Q:Nat→Pot)(h:Pre c d t):∀ n,Pre c d (potsT t Q n)
 | 0=>h
 | n+1=>(pots_pre Q h n).app _
theorem pitch_pre(hr fr pe:Int)(F:Nat→Int)(fn:Nat)(Q:Nat→Pot)(qn:Nat):Pre 112 105 (pitchT hr fr pe F fn Q qn):=pots_pre Q (fires_pre F ⟨_,rfl⟩ fn) qn
theorem nums_pre{c d:UInt8}{t:List UInt8}(f:Nat→Int)(h:Pre c d t):∀ n,Pre c d (numsT t f n)
 | 0=>h
 | n+1=>(nums_pre f h n).app _
theorem owners_pre{c d:UInt8}{t:List UInt8}(x:IronsV)(h:Pre c d t):∀ n,Pre c d (ownersT t x n)
 | 0=>h
 | n+1=>(nums_pre _ ((owners_pre x h n).app _) _).app _
theorem marks_pre{c d:UInt8}{t:List UInt8}(M:Nat→IMark)(h:Pre c d t):∀ n,Pre c d (marksT t M n)
 | 0=>h
 | n+1=>(marks_pre M h n).app _
theorem strakes_pre{c d:UInt8}{t:List UInt8}(x:IronsV)(h:Pre c d t):∀ n,Pre c d (strakesT t x n)
 | 0=>h
 | n+1=>(marks_pre _ ((strakes_pre x h n).app _) _).app _
theorem claims_pre{c d:UInt8}{t:List UInt8}(C:Nat→IClaim)(h:Pre c d t):∀ n,Pre c d (claimsT t C n)
 | 0=>h
 | n+1=>(claims_pre C h n).app _
theorem irons_pre(x:IronsV):Pre 105 114 (ironsT x):=claims_pre _ (strakes_pre x (owners_pre x ⟨_,rfl⟩ _) _) _
def TextK(k:Nat)(t:List UInt8):Prop :=
 (k=0 ∧ ∃ x,hullVB x=true∧hullVT x=t)∨(k=1 ∧ ∃ x,pitVB x=true∧pitVT x=t)∨(k=2 ∧ ∃ x,ironsB (toV x)=true∧ironsT (toV x)=t)
def resK(k:Nat)(t:List UInt8):Int:=if k=0 then(hullRes t).1 else if k=1 then(pitRes t).1 else(ironRes t).1
def preK(k:Nat):UInt8×UInt8:=if k=0 then(104,117) else if k=1 then(112,105) else(105,114)
theorem TextK.pre{k:Nat}{t:List UInt8}(h:TextK k t):Pre (preK k).1 (preK k).2 t:=by
 rcases h with ⟨rfl,x,-,rfl⟩ | ⟨rfl,x,-,rfl⟩ | ⟨rfl,x,-,rfl⟩
 ·exact hull_pre _ _ _ _
 ·exact pitch_pre _ _ _ _ _ _ _
 ·exact irons_pre _
theorem TextK.lt{k:Nat}{t:List UInt8}(h:TextK k t):k<3:=by
 rcases h with ⟨rfl,-⟩ | ⟨rfl,-⟩ | ⟨rfl,-⟩ <;> decide
theorem TextK.isText{k:Nat}{t:List UInt8}(h:TextK k t):IsText t:=by
 rcases h with ⟨rfl,x,hx,rfl⟩ | ⟨rfl,x,hx,rfl⟩ | ⟨rfl,x,hx,rfl⟩
 ·exact hull_isText (hull_ok hx)
 ·exact pitch_isText (pitch_ok hx)
 ·exact irons_isText (irons_ok hx)
theorem TextK.apart{k j:Nat}{t:List UInt8}(h:TextK k t)(h':TextK j t):k=j:=by
 have h1:=h.pre;have h2:=h'.pre;rcases h with ⟨rfl,-⟩ | ⟨rfl,-⟩ | ⟨rfl,-⟩ <;> rcases h' with ⟨rfl,-⟩ | ⟨rfl,-⟩ | ⟨rfl,-⟩ <;> first | rfl | exact absurd h2 (h1.ne (by decide))
theorem resK_text{k:Nat}{t:List UInt8}(hk:k<3)(ht:t.length≤1000):(TextK k t∧resK k t=0)∨(¬ TextK k t∧resK k t=8):=by
 rcases(show k=0∨k=1∨k=2 by omega) with rfl | rfl | rfl
 ·have e:resK 0 t=(refHull t).1:=(hulls_same t).1.symm
  rw [e];unfold refHull;rw [if_neg (by omega)]
  split
  ·rename_i h
   rw [Bool.and_eq_true,beq_iff_eq] at h;exact .inl ⟨.inl ⟨rfl,_,h.1,h.2⟩,rfl⟩
  ·rename_i h
   refine .inr ⟨fun hx=>?_,rfl⟩;rcases hx with ⟨-,x,hx,rfl⟩ | ⟨hx,-⟩ | ⟨hx,-⟩
   ·have hb:=hullRes_back (show hullB (seaOf x.s) x.s.length (souOf x.u) x.u.length=true from hx)
    have hs:=(hulls_same (hullVT x)).1;unfold refHull at hs;rw [if_neg (by omega),if_neg h,show hullRes (hullVT x)=_ from hb] at hs
    cases hs
   ·cases hx
   ·cases hx
 ·have e:resK 1 t=(refPit t).1:=(pits_same t).1.symm
  rw [e];unfold refPit;rw [if_neg (by omega)]
  split
  ·rename_i h
   rw [Bool.and_eq_true,beq_iff_eq] at h;exact .inl ⟨.inr (.inl ⟨rfl,_,h.1,h.2⟩),rfl⟩
  ·rename_i h
   refine .inr ⟨fun hx=>?_,rfl⟩;rcases hx with ⟨hx,-⟩ | ⟨-,x,hx,rfl⟩ | ⟨hx,-⟩
   ·cases hx
   ·have hb:=pitRes_back (show pitchB x.hr x.fr x.pe (intOf' x.f) x.f.length (potOf x.q) x.q.length=true from hx)
    have hs:=(pits_same (pitVT x)).1;unfold refPit at hs;rw [if_neg (by omega),if_neg h,show pitRes (pitVT x)=_ from hb] at hs
    cases hs
   ·cases hx
 ·have e:resK 2 t=(refIron t).1:=(irons_same t).1.symm
  rw [e];unfold refIron;rw [if_neg (by omega)]
  split
  ·rename_i h
   rw [Bool.and_eq_true,beq_iff_eq] at h;exact .inl ⟨.inr (.inr ⟨rfl,_,h.1,h.2⟩),rfl⟩
  ·rename_i h
   refine .inr ⟨fun hx=>?_,rfl⟩;rcases hx with ⟨hx,-⟩ | ⟨hx,-⟩ | ⟨-,x,hx,rfl⟩
   ·cases hx
   ·cases hx
   ·have hb:=ironRes_back hx
    have hs:=(irons_same (ironsT (toV x))).1;unfold refIron at hs;rw [if_neg (by omega),if_neg h,hb] at hs
    cases hs
theorem TextK.bad{k:Nat}{t s:List UInt8}(h:TextK k t)(b:UInt8)(hs:s=t ++ [b]∨s = [b]++t∨s=t.dropLast∨s=t ++ [48,49,10]∨s=t ++ [10])(hl:s.length≤1000):resK k s=8:=by
 have hn:¬ TextK k s:=fun h'=>by
  rcases hs with rfl | rfl | rfl | rfl | rfl
  ·exact h.isText.more b h'.isText
  ·exact h.pre.cons (by rcases h with ⟨rfl,-⟩ | ⟨rfl,-⟩ | ⟨rfl,-⟩ <;> decide) h'.pre
  ·exact h.isText.less h.pre.nil h'.isText
  ·exact h.isText.one h'.isText
  ·exact h.isText.nl h'.isText
 rcases resK_text h.lt hl with h' | h'
 ·exact absurd h'.1 hn
 ·exact h'.2
theorem TextK.reads{k j:Nat}{t:List UInt8}(h:TextK k t)(hl:t.length≤1000)(hj:j<3):resK j t=if j=k then 0 else 8:=by
 rcases resK_text hj hl with h' | h'
 ·rw [if_pos (h'.1.apart h),h'.2]
 ·rw [if_neg (fun e=>h'.1 (by rw [e]; exact h)),h'.2]
theorem textK_hull{S:Nat→Sea}{n:Nat}{U:Nat→Sou}{m:Nat}(h:hullB S n U m=true):TextK 0 (hullT S n U m):=by
 rcases resK_text (k:=0) (by decide) (hull_short h) with h' | h'
 ·exact h'.1
 ·have e:resK 0 (hullT S n U m)=0:=by
   show(hullRes _).1=0
   rw [hullRes_back h]
  rw [h'.2] at e
  cases e
theorem textK_pitch{hr fr pe:Int}{F:Nat→Int}{fn:Nat}{Q:Nat→Pot}{qn:Nat}(h:pitchB hr fr pe F fn Q qn=true):TextK 1 (pitchT hr fr pe F fn Q qn):=by
 rcases resK_text (k:=1) (by decide) (pitch_short h) with h' | h'
 ·exact h'.1
 ·have e:resK 1 (pitchT hr fr pe F fn Q qn)=0:=by
   show(pitRes _).1=0
   rw [pitRes_back h]
  rw [h'.2] at e
  cases e
theorem textK_irons{x:IronsV}(h:ironsB x=true):TextK 2 (ironsT x):=by
 rcases resK_text (k:=2) (by decide) (irons_short h) with h' | h'
 ·exact h'.1
 ·have e:resK 2 (ironsT x)=0:=by
   show(ironRes _).1=0
   rw [ironRes_back h]
  rw [h'.2] at e
  cases e
set_option maxRecDepth 100000 in
set_option maxHeartbeats 4000000 in
theorem read44_any(t:List UInt8)(w:World)(h:Stands w) :
  Calls Tryz.prog 44 #[.string ⟨t.toArray⟩] w fun e w'=>e = .returned (.int .i64 (resK 0 t))∧Below w.heap.size w w':=by
 have C:=Lib.hid (readHull35_any t w h.sides h.lim h.tab h.size);unfold ReadHullPost at C;rw [show resK 0 t=(hullRes t).1 from rfl];generalize hullRes t=x at *;clear h;go_enter Tryz.func44,Tryz.ntmps44;go_upto_region 2 with (go_at_call 35; refine C.out.mono ?_; rintro e w1 ⟨hb,sa,sc,ua,uc,rfl,-⟩)
 have al:=hb.next ((Below.refl w1.heap.size w1).alloc (Nat.le_refl _) (.cells #[.slice sa x.2.s.length sc,.slice ua x.2.u.length uc] 25));go_wp2_with fail;go_ret;exact⟨rfl,al⟩
set_option maxRecDepth 100000 in
set_option maxHeartbeats 4000000 in
theorem read45_any(t:List UInt8)(w:World)(h:Stands w) :
  Calls Tryz.prog 45 #[.string ⟨t.toArray⟩] w fun e w'=>e = .returned (.int .i64 (resK 1 t))∧Below w.heap.size w w':=by
 have C:=Lib.hid (readPitch37_any t w h.lim h.tab h.size);unfold ReadPitchPost at C;rw [show resK 1 t=(pitRes t).1 from rfl];generalize pitRes t=x at *;clear h;go_enter Tryz.func45,Tryz.ntmps45;go_upto_region 2 with (go_at_call 37; refine C.out.mono ?_; rintro e w1 ⟨hb,fa,fc,qa,qc,rfl,-⟩)
 have al:=hb.next ((Below.refl w1.heap.size w1).alloc (Nat.le_refl _) (.cells #[.int .i64 x.2.hr,.int .i64 x.2.fr,.int .i64 x.2.pe,.slice fa x.2.f.length fc,.slice qa x.2.q.length qc] 29));go_wp2_with fail;go_ret;exact⟨rfl,al⟩
set_option maxRecDepth 100000 in
set_option maxHeartbeats 4000000 in
theorem read46_any(t:List UInt8)(w:World)(h:Stands w) :
  Calls Tryz.prog 46 #[.string ⟨t.toArray⟩] w fun e w'=>e = .returned (.int .i64 (resK 2 t))∧Below w.heap.size w w':=by
 have C:=Lib.hid (readIrons39_any t w h.lim h.tab h.size);unfold ReadIronsPost at C;rw [show resK 2 t=(ironRes t).1 from rfl];generalize (ironRes t).1=x at *;generalize toV (ironRes t).2=xi at *;clear h;go_enter Tryz.func46,Tryz.ntmps46;go_upto_region 2 with (go_at_call 39; refine C.out.mono ?_; rintro e w1 ⟨hb,ia,ma,ra,ca,ic,mc,rc,cc,op,sp,ok,sk,rfl,-⟩)
 have al:=hb.next ((Below.refl w1.heap.size w1).alloc (Nat.le_refl _) (.cells #[.int .i64 xi.f,.slice ia xi.on ic,.slice ma xi.mn mc,.slice ra xi.sn rc,.slice ca xi.cn cc] 34));go_wp2_with fail;go_ret;exact⟨rfl,al⟩
end Go.Proofs.YtclbmlmlhiiaeaaGreatDoor
