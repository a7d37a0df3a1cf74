/- Walks: the reference writes a hull; the letters of the sides -/
import Derived.Test.YtclbmlmlhiiaeaaGreatDoorQC6
import Derived.Lib.Strings
import Derived.Lib.IndexMore
namespace Go.Proofs.YtclbmlmlhiiaeaaGreatDoor
open Go.RowKit
theorem Sides.grow{w w':World}(h:Sides w)(hb:Below w.heap.size w w'):Sides w':=by
 obtain⟨g,hg⟩:=Option.isSome_iff_exists.1 globalSides;have hc:=World.var?_cell hg h 0;exact var?_below hb hg (World.block_lt_of_cell? w _ (u:=.string ⟨#[112]⟩) (by simpa using hc)) h
theorem hull_ok{S:Nat→Sea}{U:Nat→Sou}{n m:Nat}(h:hullB S n U m=true):HullOk S n U m:=by
 unfold hullB inB at h;simp only [Bool.and_eq_true,decide_eq_true_eq] at h;exact⟨by omega,by omega,allB_iff.1 h.1.2,allB_iff.1 h.2⟩
def wroteHull(S:Nat→Sea)(n:Nat)(U:Nat→Sou)(m:Nat):Value :=
 if hullB S n U m then .tuple #[.string ⟨(hullT S n U m).toArray⟩,.int .i64 0] else .tuple #[.string ⟨#[]⟩,.int .i64 1]
theorem globalSides0:Tryz.prog.globalNamed "caulkworks/book.sides" = some 0:=by kernel_rfl
theorem Sides.cell{w:World}(h:Sides w){s:Int}(h0 : -1≤s)(h1:s≤1):w.cell? ⟨0,(s+1).toNat,none⟩=some (.string ⟨(sideT s).toArray⟩):=by
 have hc:=World.var?_cell globalSides0 h;have:s = -1∨s=0∨s=1:=by omega
 rcases this with rfl | rfl | rfl
 ·exact(hc 0).trans rfl
 ·exact(hc 1).trans rfl
 ·exact(hc 2).trans rfl
def seaP(x:Sea)(i:Nat):Part:=if i=0 then .str [32] else if i=1 then .int x.h else if i=2 then .str (sideT x.s) else .int x.m
def souP(x:Sou)(i:Nat):Part:=if i=0 then .int x.d else if i=1 then .str [32] else if i=2 then .int x.l else if i=3 then .str [32] else if i=4 then .span x.lo x.hi else .str [10]
theorem seaP_text(x:Sea):textOf (seaP x) 4=seaT x:=by
 simp [textOf,seaP,Part.text,seaT]
theorem souP_text(x:Sou):textOf (souP x) 6=souT x:=by
 simp [textOf,souP,Part.text,souT]
theorem seaP_ok{x:Sea}(h:okS x=true)(i:Nat):(seaP x i).ok:=by
 have h:=okS_iff h;have:=sideT_len x.s;unfold seaP
 split
 ·show([32]:List UInt8).length≤100000; decide
 ·split
  ·exact⟨by omega,by omega⟩
  ·split
   ·show(sideT x.s).length≤100000; omega
   ·exact⟨by omega,by omega⟩
theorem souP_ok{x:Sou}(h:okU x=true)(i:Nat):(souP x i).ok:=by
 have h:=okU_iff h;unfold souP
 split
 ·exact⟨by omega,by omega⟩
 ·split
  ·show([32]:List UInt8).length≤100000; decide
  ·split
   ·exact⟨by omega,by omega⟩
   ·split
    ·show([32]:List UInt8).length≤100000; decide
    ·split
     ·exact⟨⟨by omega,by omega⟩,by omega,by omega⟩
     ·show([10]:List UInt8).length≤100000; decide
def dgtB(c:UInt8):Bool:=decide (48≤c.toNat)&&decide (c.toNat≤57)
def dgs(t:List UInt8):List UInt8:=t.takeWhile dgtB
def dstep(n:Int)(c:UInt8):Int:=10 * n+((c.toNat:Int) - 48)
def dval(l:List UInt8):Int:=l.foldl dstep 0
def numU(t:List UInt8):Option (Int×List UInt8) :=
 if(dgs t).length=0∨5<(dgs t).length then none else some (dval (dgs t),t.drop (dgs t).length)
def numP(t:List UInt8):Option (Int×List UInt8) :=
 if Lib.hasPrefix t [45] then(numU (t.drop 1)).map (fun p=>(-p.1,p.2)) else numU t
def NoDig(r:List UInt8):Prop := ∀ c r',r=c::r'→dgtB c=false
theorem noDig_nil:NoDig []:=fun _ _ h=>by cases h
theorem noDig_cons{c:UInt8}{r:List UInt8}(h:dgtB c=false):NoDig (c::r):=fun _ _ e=>by cases e; exact h
theorem dgs_app{l r:List UInt8}(h:∀ c,c ∈ l→dgtB c=true)(hr:NoDig r):dgs (l++r)=l:=by
 induction l with
 | nil =>
  cases r with
  | nil=>rfl
  | cons c r' =>
   show List.takeWhile dgtB (c::r') = []
   rw [List.takeWhile_cons,hr c r' rfl];rfl
 | cons c l ih =>
  show List.takeWhile dgtB (c::(l++r))=c::l
  rw [List.takeWhile_cons,h c (by simp),if_pos rfl]
  show c::dgs (l++r)=_
  rw [ih (fun x hx=>h x (by simp [hx]))]
theorem digB_ofNat{d:Nat}(h:d<10):dgtB (UInt8.ofNat (48+d))=true∧((UInt8.ofNat (48+d)).toNat:Int) - 48=d:=by
 have:(UInt8.ofNat (48+d)).toNat=48+d:=by simp; omega
 unfold dgtB;rw [this];exact⟨by simp; omega,by omega⟩
theorem dec_spec(u:Nat):(∀ c,c ∈ Lib.decDigits u→dgtB c=true)∧dval (Lib.decDigits u)=u:=by
 induction u using Nat.strongRecOn with
 | _ u ih =>
  by_cases h:u<10
  ·rw [Lib.decDigits,dif_pos h]
   have:=digB_ofNat h;refine⟨fun c hc=>?_,?_⟩
   ·rw [List.mem_singleton] at hc
    rw [hc];exact this.1
   ·show 10 * (0:Int)+(((UInt8.ofNat (48+u)).toNat:Int) - 48)=u
    rw [this.2];omega
  ·rw [Lib.decDigits,dif_neg h]
   have h1:=ih (u / 10) (by omega);have:=digB_ofNat (show u % 10<10 by omega);refine⟨fun c hc=>?_,?_⟩
   ·rw [List.mem_append,List.mem_singleton] at hc
    rcases hc with hc | hc
    ·exact h1.1 c hc
    ·rw [hc]
     exact this.1
   ·unfold dval at h1 ⊢
    rw [List.foldl_append,h1.2]
    show 10 * ((u / 10:Nat):Int)+(((UInt8.ofNat (48+u % 10)).toNat:Int) - 48)=u
    rw [this.2];omega
theorem dec_len(u:Nat)(h:u<100000):0<(Lib.decDigits u).length∧(Lib.decDigits u).length≤5:=by
 rw [Lib.decDigits_length];refine⟨Lib.nDigits_pos u,?_⟩
 have key:∀ k v,v<10 ^ k→Lib.nDigits v≤max 1 k:=by
  intro k
  induction k with
  | zero=>intro v hv; rw [Lib.nDigits_small (by simp at hv; omega)]; omega
  | succ k ih =>
   intro v hv;by_cases e:v<10
   ·rw [Lib.nDigits_small e]; omega
   ·rw [Lib.nDigits_big e]
    rw [Nat.pow_succ] at hv;have:=ih (v / 10) (by omega)
    have hk:0<k:=by
     rcases Nat.eq_zero_or_pos k with rfl | h
     ·simp at hv; omega
     ·exact h
    omega
 have:=key 5 u (by simpa using h);omega
theorem numU_dec{u:Nat}(h:u<100000){r:List UInt8}(hr:NoDig r):numU (Lib.decDigits u++r)=some ((u:Int),r):=by
 have h1:=dec_spec u;have h2:=dec_len u h;unfold numU;rw [dgs_app h1.1 hr,if_neg (by omega),h1.2];simp
theorem dec_head(u:Nat):∃ c l,Lib.decDigits u=c::l∧dgtB c=true:=by
 cases hd:Lib.decDigits u with
 | nil =>
  have:=Lib.nDigits_pos u;rw [← Lib.decDigits_length,hd] at this;simp at this
 | cons c l=>exact⟨c,l,rfl,(dec_spec u).1 c (by rw [hd]; simp)⟩
theorem numP_itoa{n:Int}(h : -100000<n∧n<100000){r:List UInt8}(hr:NoDig r):numP (Lib.itoa n++r)=some (n,r):=by
 by_cases hn:n<0
 ·obtain⟨u,rfl⟩:∃ u:Nat,n = -(u:Int):=⟨n.natAbs,by omega⟩
  rw [Lib.itoa_neg u (by omega)];unfold numP;rw [if_pos (by simp [Lib.hasPrefix,List.isPrefixOf])]
  show(numU (Lib.decDigits u++r)).map _=_
  rw [numU_dec (by omega) hr];rfl
 ·obtain⟨u,rfl⟩:∃ u:Nat,n=u:=⟨n.toNat,by omega⟩
  rw [Lib.itoa_nonneg];have h2:=numU_dec (u:=u) (by omega) hr;unfold numP;obtain⟨c,l,hc,hd⟩:=dec_head u;rw [if_neg,h2];rw [hc];simp [Lib.hasPrefix,List.isPrefixOf];intro e;rw [← e] at hd;exact absurd hd (by decide)
theorem numP_shorter{t r:List UInt8}{n:Int}(h:numP t=some (n,r)):r.length<t.length:=by
 have key:∀ {t r:List UInt8} {n:Int},numU t=some (n,r)→r.length<t.length:=by
  intro t r n h;unfold numU at h
  split at h
  ·cases h
  ·rename_i h1
   injection h with h
   injection h with _ h
   rw [← h,List.length_drop];have:(dgs t).length≤t.length:=by unfold dgs; exact(List.takeWhile_prefix _).length_le
   omega
 unfold numP at h
 split at h
 ·cases hu:numU (t.drop 1) with
  | none=>rw [hu] at h; cases h
  | some p =>
   rw [hu] at h
   injection h with h
   injection h with _ h
   have:=key (t:=t.drop 1) (n:=p.1) (r:=p.2) hu;rw [List.length_drop] at this;rw [← h];omega
 ·exact key h
theorem dval_bd(l:List UInt8)(h:∀ c,c ∈ l→dgtB c=true)(hl:l.length≤5):0≤dval l∧dval l<100000:=by
 have key:∀ (l:List UInt8) (n:Int) (k:Nat),(∀ c,c ∈ l→dgtB c=true)→0≤n→n<10 ^ k→0≤l.foldl dstep n∧l.foldl dstep n<10 ^ (k+l.length):=by
  intro l
  induction l with
  | nil=>intro n k _ h0 h1; exact⟨h0,h1⟩
  | cons c l ih =>
   intro n k hc h0 h1;have hd:=hc c (by simp);unfold dgtB at hd;simp only [Bool.and_eq_true,decide_eq_true_eq] at hd;have h2:(10:Int) ^ (k+1)=10 ^ k * 10:=Int.pow_succ 10 k;have:=ih (dstep n c) (k+1) (fun x hx=>hc x (by simp [hx])) (by unfold dstep; omega) (by rw [h2]; unfold dstep; omega);rw [List.length_cons];rw [show k+(l.length+1)=k+1+l.length by omega];exact this
 have h1:=key l 0 0 h (Int.le_refl _) (by decide);refine⟨h1.1,Int.lt_of_lt_of_le h1.2 ?_⟩;have:l.length=0∨l.length=1∨l.length=2∨l.length=3∨l.length=4∨l.length=5:=by omega
 rcases this with e | e | e | e | e | e <;> rw [e] <;> decide
theorem dgs_all(t:List UInt8):∀ c,c ∈ dgs t→dgtB c=true:=fun c hc=>by
 unfold dgs at hc
 induction t with
 | nil=>cases hc
 | cons x t ih =>
  rw [List.takeWhile_cons] at hc
  split at hc
  ·rename_i hx
   rcases List.mem_cons.1 hc with rfl | h
   ·exact hx
   ·exact ih h
  ·cases hc
def spanP(t:List UInt8):Option ((Int×Int)×List UInt8) :=
 match numP t with
 | none=>none
 | some (lo,t1) =>
  if Lib.hasPrefix t1 [46,46] then
   match numP (t1.drop 2) with
   | none=>none
   | some (hi,t2)=>some ((lo,hi),t2)
  else some ((lo,lo),t1)
def NoDot(r:List UInt8):Prop:=NoDig r ∧ ∀ c r',r=c::r'→c≠46
theorem spanP_span{lo hi:Int}(h1 : -100000<lo∧lo<100000)(h2 : -100000<hi∧hi<100000){r:List UInt8}(hr:NoDot r):spanP (spanT lo hi++r)=some ((lo,hi),r):=by
 unfold spanT spanP;by_cases e:lo=hi
 ·rw [if_pos e,numP_itoa h1 hr.1]
  dsimp only;rw [if_neg,e]
  cases r with
  | nil=>simp [Lib.hasPrefix,List.isPrefixOf]
  | cons c r' =>
   have:=hr.2 c r' rfl;simp [Lib.hasPrefix,List.isPrefixOf];intro e;exact absurd e.symm this
 ·rw [if_neg e,List.append_assoc,show((46::46::Lib.itoa hi)++r:List UInt8)=46::(46::(Lib.itoa hi++r)) from rfl,numP_itoa h1 (noDig_cons (by decide))]
  dsimp only;rw [if_pos (by simp [Lib.hasPrefix,List.isPrefixOf])]
  show(match numP (Lib.itoa hi++r) with | none=>none | some (hi,t2)=>some ((lo,hi),t2))=_
  rw [numP_itoa h2 hr.1]
theorem spanP_shorter{t r:List UInt8}{p:Int×Int}(h:spanP t=some (p,r)):r.length<t.length:=by
 unfold spanP at h
 cases hn:numP t with
 | none=>rw [hn] at h; cases h
 | some q =>
  obtain⟨lo,t1⟩:=q;have s1:=numP_shorter hn;rw [hn] at h;dsimp only at h
  split at h
  ·cases hm:numP (t1.drop 2) with
   | none=>rw [hm] at h; cases h
   | some q =>
    obtain⟨hi,t2⟩:=q;have s2:=numP_shorter hm;rw [hm] at h
    injection h with h
    injection h with _ h
    rw [← h];rw [List.length_drop] at s2;omega
  ·injection h with h
   injection h with _ h
   rw [← h];exact s1
def hoursP:Nat→List UInt8→Nat→Option (Nat×List UInt8)
 | 0,t,s=>some (s,t)
 | k+1,t,s =>
  if Lib.hasPrefix t [32] then
   match numP (t.drop 1) with
   | none=>none
   | some (h,t1)=>if inB h 0 30 then hoursP k t1 (s ||| 2 ^ h.toNat) else none
  else some (s,t)
end Go.Proofs.YtclbmlmlhiiaeaaGreatDoor
