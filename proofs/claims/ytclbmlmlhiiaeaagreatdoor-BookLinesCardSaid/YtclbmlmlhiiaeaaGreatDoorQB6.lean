/- Walks: numbers as texts; parts put together, where they are -/
import Derived.Test.YtclbmlmlhiiaeaaGreatDoorB5
import Derived.Test.YtclbmlmlhiiaeaaGreatDoorL1
import Derived.WalkSmall
import Derived.Lib.ItoaLen
import Derived.Test.YtclbmlmlhiiaeaaGreatDoorQN0
namespace Go.Proofs.YtclbmlmlhiiaeaaGreatDoor
open Go.RowKit
open Go.Sort (grow)
def Tab(w:World):Prop:=Lib.TabIs Tryz.prog w "internal/strconv.uint64pow10" .u64 Lib.pow10Tab
theorem globalTab:(Tryz.prog.globalNamed "internal/strconv.uint64pow10").isSome=true:=by kernel_rfl
theorem Tab.grow{w w':World}(h:Tab w)(hb:Below w.heap.size w w'):Tab w':=by
 obtain⟨g,hg⟩:=Option.isSome_iff_exists.1 globalTab;have hc:=Lib.TabIs.cell h hg 0 (by decide);exact var?_below hb hg (World.block_lt_of_cell? w _ hc) h
theorem below_growO(w:World)(k:Nat)(os:Array Obj):Below w.heap.size w (grow (w.drewN k) os) :=
 ⟨rfl,rfl,rfl,by simp [grow,World.drewN],fun i hi=>by simp [grow,World.drewN,Array.getElem?_append,hi]⟩
theorem itoa_any(n:Int)(w:World)(hn : -1000000≤n∧n≤1000000)(ht:Tab w) :
  Calls Tryz.prog 148 #[.int .i64 n] w fun e w'=>e = .returned (.string ⟨(Lib.itoa n).toArray⟩)∧Below w.heap.size w w' :=
 (Tryz.strconv_Itoa n (by omega) (by omega) w ht).mono fun e w' ⟨h,k,os,hw⟩=>⟨h,by rw [hw]; exact below_growO w k os⟩
theorem number_any(n:Int)(w:World)(hn : -1000000≤n∧n≤1000000)(ht:Tab w) :
  Calls Tryz.prog 103 #[.int .i64 n] w fun e w'=>e = .returned (.string ⟨(Lib.itoa n).toArray⟩)∧Below w.heap.size w w':=by
 have C:=Lib.hid (itoa_any n w hn ht);go_enter Tryz.func103,Tryz.ntmps103;go_wp2_with (go_at_call 148; refine C.out.mono ?_; rintro e w' ⟨rfl,hb⟩; have HB:=Lib.hid hb; clear hb);go_ret;exact⟨rfl,HB.out⟩
theorem parts216:Tryz.prog.underlying 216=some (.slice 20):=by kernel_rfl
theorem size20:(Tryz.prog.info? 20).map (·.size)=some 1:=by kernel_rfl
inductive Part where
 | str (s:List UInt8)
 | int (n:Int)
 | span (lo hi:Int)
 | hours (x:Nat)
def Part.v:Part→Value
 | .str s=>.iface 9 (.string ⟨s.toArray⟩)
 | .int n=>.iface 3 (.int .i64 n)
 | .span lo hi=>.iface 128 (.agg #[.int .i64 lo,.int .i64 hi])
 | .hours x=>.iface 174 (.int .i64 x)
def spanT(lo hi:Int):List UInt8:=if lo=hi then Lib.itoa lo else Lib.itoa lo++(46::46::Lib.itoa hi)
def hoursT(x:Nat):Nat→List UInt8
 | 0=>[]
 | h+1=>hoursT x h++if x >>> h &&& 1=1 then 32::Lib.itoa h else []
def Part.text:Part→List UInt8
 | .str s=>s
 | .int n=>Lib.itoa n
 | .span lo hi=>spanT lo hi
 | .hours x=>hoursT x 40
def Part.ok:Part→Prop
 | .str s=>s.length≤100000
 | .int n => -1000000≤n∧n≤1000000
 | .span lo hi=>(-1000000≤lo∧lo≤1000000) ∧ -1000000≤hi∧hi≤1000000
 | .hours x=>x<2 ^ 40
def Part.low:Part→Prop
 | .str _=>True
 | .int _=>True
 | _=>False
def textOf(P:Nat→Part):Nat→List UInt8
 | 0=>[]
 | k+1=>textOf P k++(P k).text
def PartsAt(w:World)(oa:Option Addr)(n:Nat)(P:Nat→Part):Prop:=Row w oa n 1 (fun i _=>(P i).v)
theorem itoa_len(n:Int)(h : -1000000≤n∧n≤1000000):(Lib.itoa n).length≤21:=Lib.itoa_length_le n (by omega) (by omega)
theorem low_len{p:Part}(h1:p.ok)(h2:p.low):p.text.length≤100000:=by
 cases p with
 | str s=>exact h1
 | int n=>exact Nat.le_trans (itoa_len n h1) (by omega)
 | span lo hi=>exact absurd h2 id
 | hours x=>exact absurd h2 id
theorem textOf_len{P:Nat→Part}{n M:Nat}(h:∀ i,i<n→(P i).text.length≤M):∀ k,k≤n→(textOf P k).length≤M * k
 | 0,_=>by simp [textOf]
 | k+1,hk=>by
  have:=textOf_len h k (by omega);have:=h k (by omega);simp only [textOf,List.length_append,Nat.mul_succ];omega
theorem bld_grow{B b:Nat}{bs:List Value}{w w':World}(h:Lib.IsBuilderF 219 5 B b bs w)(hb:Below w.heap.size w w'):Lib.IsBuilderF 219 5 B b bs w':=by
 have key:∀ p,Lib.BuilderAtF 219 5 B b p bs w→Lib.BuilderAtF 219 5 B b p bs w':=by
  rintro p ⟨h1,v,h2,h3,h4⟩;refine⟨h1,v,(hb.block _ (lt_of_heap h2)).trans h2,⟨h3.1,?_⟩,h4⟩;rcases h3.2 with h5 | ⟨g,cap,cur,fz,hv,hg,hh,r⟩
  ·exact .inl h5
  ·exact .inr ⟨g,cap,cur,fz,hv,hg,(hb.block _ (lt_of_heap hh)).trans hh,r⟩
 rcases h with h | h
 ·exact .inl (key _ h)
 ·exact .inr (key _ h)
structure SA (w:World) (oa:Option Addr) (n:Nat) (P:Nat→Part) (k:Nat) (W:World):Prop where
 bel:Below w.heap.size w W
 bld:Lib.IsBuilderF 219 5 w.heap.size w.heap.size (Lib.byteCells (textOf P k)) W
 l:PartsAt W oa n P
set_option maxRecDepth 100000 in
set_option maxHeartbeats 4000000 in
theorem said_low(oa:Option Addr)(n nc:Nat)(P:Nat→Part)(w:World)(hP:PartsAt w oa n P)(hok:∀ i,i<n→(P i).ok∧(P i).low)(hn:n≤10)(ht:Tab w) :
  Calls Tryz.prog 101 #[.slice oa n nc] w fun e w'=>e = .returned (.string ⟨(textOf P n).toArray⟩)∧Below w.heap.size w w':=by
 have hb0:=(Below.refl w.heap.size w).alloc (Nat.le_refl _) (.cells #[.pointer none,.slice none 0 0] 219);have I0:=Lib.hid (show SA w oa n P 0 (w.alloc (.cells #[.pointer none,.slice none 0 0] 219)) from⟨hb0,Lib.IsBuilderF.of (Lib.fresh_isBuilder 219 5 w),Row.grow hP hb0⟩);have LG:=Lib.hid (fun W (h:Below w.heap.size w W)=>(⟨Row.grow hP h,Tab.grow ht h⟩:PartsAt W oa n P∧Tab W));have HK:=Lib.hid hok;have HL:=Lib.hid (fun k (hk:k≤n)=>Nat.le_trans (textOf_len (M:=100000) (fun i hi=>low_len (hok i hi).1 (hok i hi).2) k hk) (Nat.mul_le_mul_left 100000 (Nat.le_trans hk hn)));clear hP hok ht hb0;go_enter Tryz.func101,Tryz.ntmps101;go_wp2_with fail
 go_loopw [13] (fun i wi => ∃ k:Nat,k≤n∧i = .int .i64 k∧SA w oa n P k wi) (fun i _=>n - (intOf i).toNat)
 case atStart=>exact⟨0,Nat.zero_le _,rfl,I0.out⟩
 case round =>
  clear I0;obtain⟨k,hk,rfl,h1⟩:=hrel;have I1:=Lib.hid h1;clear h1;by_cases hlt:k<n
  ·have hi:=fun w=>run_indexAt_row (w:=w) (cap:=nc) (t:=216) parts216 size20 (I1.out.l.plain (by omega)) hlt
   simp only [Nat.mul_one] at hi;have hc:=Row.at1 I1.out.l hlt;have hkk:=HK.out k hlt;have HT:=Lib.hid (show textOf P (k+1)=textOf P k++(P k).text from rfl);generalize P k=p at *
   cases p with
   | str s =>
    have hs:s.length≤100000:=hkk.1;have h9:∀ w,(Instr.typeAssert (.iface 9 (.string ⟨s.toArray⟩)) 20 9 true).run Tryz.prog w = .ok (.tuple #[.string ⟨s.toArray⟩,.bool true]) w:=fun _=>by kernel_rfl
    unfold Part.v at hc;clear hkk;have C:=Lib.hid (writeString_any w.heap.size w.heap.size _ ⟨s.toArray⟩ _ I1.out.bld (by rw [Lib.byteCells_length]; have:=HL.out k hk; simp [ByteArray.size]; omega) I1.out.bel.size);go_wp2_with (go_at_call 147; refine C.out.mono ?_);rintro e w2 ⟨rfl,hI,hb,-⟩;have HB:=Lib.hid (I1.out.bel.trans hb)
    have HI:=Lib.hid (show Lib.IsBuilderF 219 5 w.heap.size w.heap.size (Lib.byteCells (textOf P (k+1))) w2 from by
     rw [HT.out,Lib.byteCells_append]
     exact hI)
    clear hI hb C hc hi;go_wp2_with fail;exact⟨⟨k+1,hlt,by go_num,HB.out,HI.out,(LG.out _ HB.out).1⟩,by simp [intOf]; omega⟩
   | int x =>
    have hx : -1000000≤x∧x≤1000000:=hkk.1;have h9:∀ w,(Instr.typeAssert (.iface 3 (.int .i64 x)) 20 9 true).run Tryz.prog w = .ok (.tuple #[.string ⟨#[]⟩,.bool false]) w:=fun _=>by kernel_rfl
    have h3:∀ w,(Instr.typeAssert (.iface 3 (.int .i64 x)) 20 3 true).run Tryz.prog w = .ok (.tuple #[.int .i64 x,.bool true]) w:=fun _=>by kernel_rfl
    unfold Part.v at hc;clear hkk;have CI:=Lib.hid (itoa_any x wr hx (LG.out _ I1.out.bel).2);have hxl:=itoa_len x hx;have C:=Lib.hid (fun W hb=>writeString_any w.heap.size w.heap.size _ ⟨(Lib.itoa x).toArray⟩ W (bld_grow I1.out.bld hb) (by rw [Lib.byteCells_length]; have:=HL.out k hk; simp [ByteArray.size]; omega) (Nat.le_trans I1.out.bel.size hb.size));clear hxl;go_wp2_with (go_at_call 148; refine CI.out.mono ?_);rintro e w1 rfl hb1;have HB1:=Lib.hid hb1;clear hb1;go_wp2_with (go_at_call 147; refine(C.out _ HB1.out).mono ?_);rintro e w2 ⟨rfl,hI,hb,-⟩;have HB:=Lib.hid ((I1.out.bel.next HB1.out).trans hb)
    have HI:=Lib.hid (show Lib.IsBuilderF 219 5 w.heap.size w.heap.size (Lib.byteCells (textOf P (k+1))) w2 from by
     rw [HT.out,Lib.byteCells_append]
     exact hI)
    clear hI hb C CI hc hi;go_wp2_with fail;exact⟨⟨k+1,hlt,by go_num,HB.out,HI.out,(LG.out _ HB.out).1⟩,by simp [intOf]; omega⟩
   | span lo hi=>exact absurd hkk.2 id
   | hours x=>exact absurd hkk.2 id
  ·obtain rfl:n=k:=by omega
   go_wp2_with (go_at_call 149; refine(Tryz.Builder_String_any_k w.heap.size w.heap.size _ _ I1.out.bld I1.out.bel.size).mono ?_);rintro e w2 ⟨rfl,-,hb2,-⟩;have HB:=Lib.hid hb2;clear hb2;go_wp2_with fail;go_ret;exact⟨rfl,I1.out.bel.trans HB.out⟩
end Go.Proofs.YtclbmlmlhiiaeaaGreatDoor
namespace Go.Proofs.YtclbmlmlhiiaeaaGreatDoor
open Go.RowKit
theorem hours_len(x:Nat):∀ h,h≤40→(hoursT x h).length≤22 * h
 | 0,_=>by simp [hoursT]
 | h+1,hh=>by
  have:=hours_len x h (by omega);have:=itoa_len (h:Int) (by omega);simp only [hoursT,List.length_append]
  split
  ·simp only [List.length_cons]; omega
  ·simp only [List.length_nil]; omega
theorem oths_box{b g:Nat}{xs:Array Value}{t:TypeId}{W W2:World}(h:Lib.OthersKept 5 (some b) W W2)(hb:BoxAt W g xs t)(hg:g≠b)(ht:t≠5):BoxAt W2 g xs t :=
 h g _ hb (fun e=>hg (Option.some.inj e)) (fun c fz e=>by injection e with _ e2 _; exact ht e2)
def twoP(hi:Int)(i:Nat):Part:=if i=0 then .str [46,46] else .int hi
theorem i64_and1(n:Int):bits .and .i64 n 1=n % 2:=by
 have h1:(BitVec.ofInt 64 1).toNat=2 ^ 1 - 1:=by decide
 have key:(BitVec.ofInt 64 n &&& BitVec.ofInt 64 1).toNat=(n % ((2 ^ 64:Nat):Int)).toNat % 2 ^ 1:=by
  rw [BitVec.toNat_and,BitVec.toNat_ofInt,h1,Nat.and_two_pow_sub_one_eq_mod]
 show IntKind.i64.wrap ((BitVec.ofInt 64 n &&& BitVec.ofInt 64 1).toNat:Nat)=n % 2
 rw [key,IntKind.wrap_i64];omega
theorem shr_and(x h:Nat):(x >>> h &&& 1=1)↔x / 2 ^ h % 2=1:=by rw [Nat.and_one_is_mod,Nat.shiftRight_eq_div_pow]
theorem hours_done{x h:Nat}(h0:x / 2 ^ h=0):∀ d,hoursT x (h+d)=hoursT x h
 | 0=>rfl
 | d+1=>by
  show hoursT x (h+d)++(if x >>> (h+d) &&& 1=1 then _ else _)=_
  rw [hours_done h0 d,if_neg (fun e=>by
   rw [shr_and,Nat.pow_add,← Nat.div_div_eq_div_mul,h0,Nat.zero_div] at e
   cases e),List.append_nil]
def hourP(h:Nat)(i:Nat):Part:=if i=0 then .str [32] else .int h
theorem part_len{p:Part}(h:p.ok):p.text.length≤100000:=by
 cases p with
 | str s=>exact h
 | int n=>exact Nat.le_trans (itoa_len n h) (by omega)
 | span lo hi =>
  have h1:=itoa_len lo h.1;have h2:=itoa_len hi h.2
  show(spanT lo hi).length≤_
  unfold spanT
  split
  ·omega
  ·simp only [List.length_append,List.length_cons]; omega
 | hours x=>exact Nat.le_trans (hours_len x 40 (by omega)) (by omega)
set_option maxRecDepth 100000 in
set_option maxHeartbeats 4000000 in
theorem said_any(oa:Option Addr)(n nc:Nat)(P:Nat→Part)(w:World)(hP:PartsAt w oa n P)(hok:∀ i,i<n→(P i).ok)(hn:n≤10)(ht:Tab w) :
  Calls Tryz.prog 101 #[.slice oa n nc] w fun e w'=>e = .returned (.string ⟨(textOf P n).toArray⟩)∧Below w.heap.size w w':=by
 have hb0:=(Below.refl w.heap.size w).alloc (Nat.le_refl _) (.cells #[.pointer none,.slice none 0 0] 219);have I0:=Lib.hid (show SA w oa n P 0 (w.alloc (.cells #[.pointer none,.slice none 0 0] 219)) from⟨hb0,Lib.IsBuilderF.of (Lib.fresh_isBuilder 219 5 w),Row.grow hP hb0⟩);have LG:=Lib.hid (fun W (h:Below w.heap.size w W)=>(⟨Row.grow hP h,Tab.grow ht h⟩:PartsAt W oa n P∧Tab W));have HK:=Lib.hid hok;have HL:=Lib.hid (fun k (hk:k≤n)=>Nat.le_trans (textOf_len (M:=100000) (fun i hi=>part_len (hok i hi)) k hk) (Nat.mul_le_mul_left 100000 (Nat.le_trans hk hn)));clear hP hok ht hb0;go_enter Tryz.func101,Tryz.ntmps101;go_wp2_with fail
 go_loopw [13] (fun i wi => ∃ k:Nat,k≤n∧i = .int .i64 k∧SA w oa n P k wi) (fun i _=>n - (intOf i).toNat)
 case atStart=>exact⟨0,Nat.zero_le _,rfl,I0.out⟩
 case round =>
  clear I0;obtain⟨k,hk,rfl,h1⟩:=hrel;have I1:=Lib.hid h1;clear h1;by_cases hlt:k<n
  ·have hi:=fun w=>run_indexAt_row (w:=w) (cap:=nc) (t:=216) parts216 size20 (I1.out.l.plain (by omega)) hlt
   simp only [Nat.mul_one] at hi;have hc:=Row.at1 I1.out.l hlt;have hkk:=HK.out k hlt;have HT:=Lib.hid (show textOf P (k+1)=textOf P k++(P k).text from rfl);generalize P k=p at *
   cases p with
   | str s =>
    have hs:s.length≤100000:=hkk;have h9:∀ w,(Instr.typeAssert (.iface 9 (.string ⟨s.toArray⟩)) 20 9 true).run Tryz.prog w = .ok (.tuple #[.string ⟨s.toArray⟩,.bool true]) w:=fun _=>by kernel_rfl
    unfold Part.v at hc;clear hkk;have C:=Lib.hid (writeString_any w.heap.size w.heap.size _ ⟨s.toArray⟩ _ I1.out.bld (by rw [Lib.byteCells_length]; have:=HL.out k hk; simp [ByteArray.size]; omega) I1.out.bel.size);go_wp2_with (go_at_call 147; refine C.out.mono ?_);rintro e w2 ⟨rfl,hI,hb,-⟩;have HB:=Lib.hid (I1.out.bel.trans hb)
    have HI:=Lib.hid (show Lib.IsBuilderF 219 5 w.heap.size w.heap.size (Lib.byteCells (textOf P (k+1))) w2 from by
     rw [HT.out,Lib.byteCells_append]
     exact hI)
    clear hI hb C hc hi;go_wp2_with fail;exact⟨⟨k+1,hlt,by go_num,HB.out,HI.out,(LG.out _ HB.out).1⟩,by simp [intOf]; omega⟩
   | int x =>
    have hx : -1000000≤x∧x≤1000000:=hkk;have h9:∀ w,(Instr.typeAssert (.iface 3 (.int .i64 x)) 20 9 true).run Tryz.prog w = .ok (.tuple #[.string ⟨#[]⟩,.bool false]) w:=fun _=>by kernel_rfl
    have h3:∀ w,(Instr.typeAssert (.iface 3 (.int .i64 x)) 20 3 true).run Tryz.prog w = .ok (.tuple #[.int .i64 x,.bool true]) w:=fun _=>by kernel_rfl
    unfold Part.v at hc;clear hkk;have CI:=Lib.hid (itoa_any x wr hx (LG.out _ I1.out.bel).2);have hxl:=itoa_len x hx;have C:=Lib.hid (fun W hb=>writeString_any w.heap.size w.heap.size _ ⟨(Lib.itoa x).toArray⟩ W (bld_grow I1.out.bld hb) (by rw [Lib.byteCells_length]; have:=HL.out k hk; simp [ByteArray.size]; omega) (Nat.le_trans I1.out.bel.size hb.size));clear hxl;go_wp2_with (go_at_call 148; refine CI.out.mono ?_);rintro e w1 rfl hb1;have HB1:=Lib.hid hb1;clear hb1;go_wp2_with (go_at_call 147; refine(C.out _ HB1.out).mono ?_);rintro e w2 ⟨rfl,hI,hb,-⟩;have HB:=Lib.hid ((I1.out.bel.next HB1.out).trans hb)
    have HI:=Lib.hid (show Lib.IsBuilderF 219 5 w.heap.size w.heap.size (Lib.byteCells (textOf P (k+1))) w2 from by
     rw [HT.out,Lib.byteCells_append]
     exact hI)
    clear hI hb C CI hc hi;go_wp2_with fail;exact⟨⟨k+1,hlt,by go_num,HB.out,HI.out,(LG.out _ HB.out).1⟩,by simp [intOf]; omega⟩
   | span lo hi =>
    obtain⟨hlo,hhi⟩:(-1000000≤lo∧lo≤1000000) ∧ -1000000≤hi∧hi≤1000000:=hkk;have h9:∀ w,(Instr.typeAssert (.iface 128 (.agg #[.int .i64 lo,.int .i64 hi])) 20 9 true).run Tryz.prog w = .ok (.tuple #[.string ⟨#[]⟩,.bool false]) w:=fun _=>by kernel_rfl
    have h3:∀ w,(Instr.typeAssert (.iface 128 (.agg #[.int .i64 lo,.int .i64 hi])) 20 3 true).run Tryz.prog w = .ok (.tuple #[.int .i64 0,.bool false]) w:=fun _=>by kernel_rfl
    have h128:∀ w,(Instr.typeAssert (.iface 128 (.agg #[.int .i64 lo,.int .i64 hi])) 20 128 true).run Tryz.prog w = .ok (.tuple #[.agg #[.int .i64 lo,.int .i64 hi],.bool true]) w:=fun _=>by kernel_rfl
    unfold Part.v at hc
    -- the box of the span,and the part that is said first
    have X1:=Lib.hid (blocks2 (show(wr.alloc (.cells #[.int .i64 lo,.int .i64 hi] 128)).alloc (.cells #[.iface 3 (.int .i64 lo)] 20)=_ from rfl))
    have C1:=Lib.hid (said_low (some ⟨wr.heap.size+1,0,none⟩) 1 1 (fun _=>.int lo) _ (by
     have h:=row_box (w:=(wr.alloc (.cells #[.int .i64 lo,.int .i64 hi] 128)).alloc (.cells #[.iface 3 (.int .i64 lo)] 20)) (cell:=fun _=>(Part.int lo).v) (n:=1) (t:=20) X1.out.2.1 (by unfold maxLen; omega)
     exact h) (fun i _=>⟨hlo,trivial⟩) (by omega) (Tab.grow (LG.out _ I1.out.bel).2 X1.out.2.2.2))
    have hne:wr.heap.size≠w.heap.size:=by
     rcases I1.out.bld with ⟨-,v,h,-⟩ | ⟨-,v,h,-⟩
     ·have:=lt_of_heap h; omega
     ·have:=lt_of_heap h; omega
    have HS:=Lib.hid (show(Part.span lo hi).text=spanT lo hi from rfl);have hl1:=itoa_len lo hlo;have hl2:=itoa_len hi hhi;have hlk:=HL.out k hk;go_wp2_with (go_at_call 101; refine C1.out.mono ?_);rintro e w2 rfl hb2x;have hb2:=hb2x.mono (show((wr.alloc (.cells #[.int .i64 lo,.int .i64 hi] 128)).alloc (.cells #[.iface 3 (.int .i64 lo)] 20)).heap.size≤wr.heap.size+1+1 from by have:=X1.out.2.2.1; omega);clear hb2x;rw [show textOf (fun _=>Part.int lo) 1=Lib.itoa lo from rfl];have B2:=Lib.hid (X1.out.2.2.2.next hb2);have Z2:=Lib.hid (show BoxAt w2 wr.heap.size #[.int .i64 lo,.int .i64 hi] 128 from BoxAt.grow (w:=(wr.alloc (.cells #[.int .i64 lo,.int .i64 hi] 128)).alloc (.cells #[.iface 3 (.int .i64 lo)] 20)) X1.out.1 hb2);have C2:=Lib.hid (writeString_any w.heap.size w.heap.size _ ⟨(Lib.itoa lo).toArray⟩ w2 (bld_grow I1.out.bld B2.out) (by rw [Lib.byteCells_length]; simp [ByteArray.size]; omega) (Nat.le_trans I1.out.bel.size B2.out.size));clear hb2 X1 C1;go_wp2_with (go_at_call 147; refine C2.out.mono ?_);rintro e w3 ⟨rfl,hI,hb3,hk3⟩;have B3:=Lib.hid ((I1.out.bel.next B2.out).trans hb3);have Z3:=Lib.hid (oths_box hk3 Z2.out hne (by decide))
    have HI3:=Lib.hid (show Lib.IsBuilderF 219 5 w.heap.size w.heap.size (Lib.byteCells (textOf P k++Lib.itoa lo)) w3 from by
     rw [Lib.byteCells_append]
     exact hI)
    clear hI hb3 hk3 C2 Z2 B2 hc;have q0:=cellAt Z3.out 0;have q1:=cellAt Z3.out 1;simp only [List.getElem?_toArray,List.getElem?_cons_zero,List.getElem?_cons_succ] at q0 q1;by_cases heq:lo=hi
    ·have HE:=Lib.hid (show textOf P (k+1)=textOf P k++Lib.itoa lo from by rw [HT.out,HS.out]; unfold spanT; rw [if_pos heq])
     have ht:(lo != hi)=false:=by simp [heq]
     clear heq;go_wp2_with fail;exact⟨⟨k+1,hlt,by go_num,B3.out,by rw [HE.out]; exact HI3.out,(LG.out _ B3.out).1⟩,by simp [intOf]; omega⟩
    ·have HE:=Lib.hid (show textOf P (k+1)=textOf P k++Lib.itoa lo++(46::46::Lib.itoa hi) from by rw [HT.out,HS.out]; unfold spanT; rw [if_neg heq,List.append_assoc])
     have ht:(lo != hi)=true:=by simp [heq]
     clear heq;have hb4:=(Below.refl w3.heap.size w3).alloc (Nat.le_refl _) (.cells #[.iface 9 (.string ⟨#[46,46]⟩),.iface 3 (.int .i64 hi)] 20);have B4:=Lib.hid hb4
     have C4:=Lib.hid (said_low (some ⟨w3.heap.size,0,none⟩) 2 2 (twoP hi) (w3.alloc (.cells #[.iface 9 (.string ⟨#[46,46]⟩),.iface 3 (.int .i64 hi)] 20)) (by
      have h:=row_box (w:=w3.alloc (.cells #[.iface 9 (.string ⟨#[46,46]⟩),.iface 3 (.int .i64 hi)] 20)) (g:=w3.heap.size) (cell:=fun i=>(twoP hi i).v) (n:=2) (t:=20) (heap_alloc_new _ _) (by unfold maxLen; omega);exact h) (fun i hi2=>by
      unfold twoP
      split
      ·exact⟨by show([46,46]:List UInt8).length≤100000; decide,trivial⟩
      ·exact⟨hhi,trivial⟩) (by omega) ((LG.out _ B3.out).2.grow hb4))
     clear hb4;go_wp2_with (go_at_call 101; refine C4.out.mono ?_);rintro e w5 ⟨rfl,hb5⟩;rw [show textOf (twoP hi) 2=46::46::Lib.itoa hi from rfl];have B5:=Lib.hid (B4.out.next hb5);have C5:=Lib.hid (writeString_any w.heap.size w.heap.size _ ⟨(46::46::Lib.itoa hi).toArray⟩ w5 (bld_grow HI3.out B5.out) (by rw [Lib.byteCells_length]; simp [ByteArray.size]; omega) (Nat.le_trans B3.out.size B5.out.size));clear hb5 B4 C4;go_wp2_with (go_at_call 147; refine C5.out.mono ?_);rintro e w6 ⟨rfl,hI,hb6,-⟩;have B6:=Lib.hid ((B3.out.next B5.out).trans hb6)
     have HI6:=Lib.hid (show Lib.IsBuilderF 219 5 w.heap.size w.heap.size (Lib.byteCells (textOf P (k+1))) w6 from by
      rw [HE.out,Lib.byteCells_append]
      exact hI)
     clear hI hb6 C5 q0 q1;go_wp2_with fail;exact⟨⟨k+1,hlt,by go_num,B6.out,HI6.out,(LG.out _ B6.out).1⟩,by simp [intOf]; omega⟩
   | hours x =>
    have hx:x<2 ^ 40:=hkk;have h9:∀ w,(Instr.typeAssert (.iface 174 (.int .i64 x)) 20 9 true).run Tryz.prog w = .ok (.tuple #[.string ⟨#[]⟩,.bool false]) w:=fun _=>by kernel_rfl
    have h3:∀ w,(Instr.typeAssert (.iface 174 (.int .i64 x)) 20 3 true).run Tryz.prog w = .ok (.tuple #[.int .i64 0,.bool false]) w:=fun _=>by kernel_rfl
    have h128:∀ w,(Instr.typeAssert (.iface 174 (.int .i64 x)) 20 128 true).run Tryz.prog w = .ok (.tuple #[.agg #[.int .i64 0,.int .i64 0],.bool false]) w:=fun _=>by kernel_rfl
    have h174:∀ w,(Instr.typeAssert (.iface 174 (.int .i64 x)) 20 174 true).run Tryz.prog w = .ok (.tuple #[.int .i64 x,.bool true]) w:=fun _=>by kernel_rfl
    unfold Part.v at hc;clear hkk
    have I2:=Lib.hid (show Lib.IsBuilderF 219 5 w.heap.size w.heap.size (Lib.byteCells (textOf P k++hoursT x 0)) wr from by
     show Lib.IsBuilderF 219 5 w.heap.size w.heap.size (Lib.byteCells (textOf P k ++ [])) wr
     rw [List.append_nil]
     exact I1.out.bld)
    have HLK:=Lib.hid (HL.out k hk);have HX:=Lib.hid hx;have B0:=Lib.hid I1.out.bel;clear hx;go_wp2_with fail
    go_loopw [10] (fun v wi => ∃ h:Nat,h≤40∧v = .int .i64 h∧Below w.heap.size w wi∧Lib.IsBuilderF 219 5 w.heap.size w.heap.size (Lib.byteCells (textOf P k++hoursT x h)) wi) (fun v _=>40 - (intOf v).toNat)
    case atStart=>exact⟨0,Nat.zero_le _,rfl,B0.out,I2.out⟩
    case round =>
     clear I2 B0;obtain⟨h,hh,rfl,hb,hI⟩:=hrel;have B1:=Lib.hid hb;have I3:=Lib.hid hI;clear hb hI;obtain⟨y,ey⟩:∃ y,x / 2 ^ h=y:=⟨_,rfl⟩
     have e1:(x:Int) / 2 ^ h=y:=by rw [← ey]; simp
     have EY:=Lib.hid ey;clear ey;have hy0:(0:Int)≤y:=by omega
     by_cases h0:y=0
     ·have t0:((y:Int) != 0)=false:=by simp [h0]
      have HD:=Lib.hid (show textOf P (k+1)=textOf P k++hoursT x h from by
       rw [HT.out]
       show textOf P k++hoursT x 40=_
       have:=hours_done (x:=x) (h:=h) (by rw [EY.out,h0]) (40 - h);rw [show h+(40 - h)=40 by omega] at this
       rw [this])
      clear h0;go_wp2_with fail;exact⟨⟨k+1,hlt,by go_num,B1.out,by rw [HD.out]; exact I3.out,(LG.out _ B1.out).1⟩,by simp [intOf]; omega⟩
     ·have t0:((y:Int) != 0)=true:=by simp [h0]
      have h40:h<40:=by
       by_cases e:h<40
       ·exact e
       ·exfalso
        apply h0;rw [← EY.out];have:h=40:=by omega
        rw [this];exact Nat.div_eq_of_lt HX.out
      have hm:y % 2=0∨y % 2=1:=by omega
      have HH:=Lib.hid (show hoursT x (h+1)=hoursT x h++(if x >>> h &&& 1=1 then 32::Lib.itoa h else []) from rfl);clear h0;rcases hm with hm | hm
      ·have HM:=Lib.hid (show hoursT x (h+1)=hoursT x h from by rw [HH.out,if_neg (fun e=>by rw [shr_and,EY.out,hm] at e; cases e),List.append_nil])
       have t1:(bits .and .i64 (y:Int) 1==1)=false:=by rw [i64_and1]; exact beq_eq_false_iff_ne.2 (by omega)
       go_wp2_with fail;exact⟨⟨h+1,h40,by go_num,B1.out,by rw [HM.out]; exact I3.out⟩,by simp [intOf]; omega⟩
      ·have HM:=Lib.hid (show hoursT x (h+1)=hoursT x h++32::Lib.itoa h from by rw [HH.out,if_pos (by rw [shr_and,EY.out]; exact hm)])
       have hl1:=itoa_len (h:Int) (by omega);have hl2:=hours_len x h hh;have hlk:=HLK.out;have hb4:=(Below.refl wr.heap.size wr).alloc (Nat.le_refl _) (.cells #[.iface 9 (.string ⟨#[32]⟩),.iface 3 (.int .i64 h)] 20);have B4:=Lib.hid hb4
       have C4:=Lib.hid (said_low (some ⟨wr.heap.size,0,none⟩) 2 2 (hourP h) (wr.alloc (.cells #[.iface 9 (.string ⟨#[32]⟩),.iface 3 (.int .i64 h)] 20)) (by
        have h:=row_box (w:=wr.alloc (.cells #[.iface 9 (.string ⟨#[32]⟩),.iface 3 (.int .i64 h)] 20)) (g:=wr.heap.size) (cell:=fun i=>(hourP h i).v) (n:=2) (t:=20) (heap_alloc_new _ _) (by unfold maxLen; omega);exact h) (fun i hi2=>by
        unfold hourP
        split
        ·exact⟨by show([32]:List UInt8).length≤100000; decide,trivial⟩
        ·exact⟨⟨by omega,by omega⟩,trivial⟩) (by omega) ((LG.out _ B1.out).2.grow hb4))
       clear hb4;have t1:(bits .and .i64 (y:Int) 1==1)=true:=by rw [i64_and1]; exact beq_iff_eq.2 (by omega)
       go_wp2_with (go_at_call 101; refine C4.out.mono ?_);rintro e w5 ⟨rfl,hb5⟩;rw [show textOf (hourP h) 2=32::Lib.itoa h from rfl];have B5:=Lib.hid (B4.out.next hb5);have C5:=Lib.hid (writeString_any w.heap.size w.heap.size _ ⟨(32::Lib.itoa h).toArray⟩ w5 (bld_grow I3.out B5.out) (by rw [Lib.byteCells_length]; simp [ByteArray.size]; omega) (Nat.le_trans B1.out.size B5.out.size));clear hb5 B4 C4;go_wp2_with (go_at_call 147; refine C5.out.mono ?_);rintro e w6 ⟨rfl,hI,hb6,-⟩;have B6:=Lib.hid ((B1.out.next B5.out).trans hb6)
       have HI6:=Lib.hid (show Lib.IsBuilderF 219 5 w.heap.size w.heap.size (Lib.byteCells (textOf P k++hoursT x (h+1))) w6 from by
        rw [HM.out,← List.append_assoc,Lib.byteCells_append]
        exact hI)
       clear hI hb6 C5;go_wp2_with fail;exact⟨⟨h+1,h40,by go_num,B6.out,HI6.out⟩,by simp [intOf]; omega⟩
  ·obtain rfl:n=k:=by omega
   go_wp2_with (go_at_call 149; refine(Tryz.Builder_String_any_k w.heap.size w.heap.size _ _ I1.out.bld I1.out.bel.size).mono ?_);rintro e w2 ⟨rfl,-,hb2,-⟩;have HB:=Lib.hid hb2;clear hb2;go_wp2_with fail;go_ret;exact⟨rfl,I1.out.bel.trans HB.out⟩
def spanB(lo hi l h:Int):Bool:=decide (l≤lo)&&decide (lo≤hi)&&decide (hi≤h)
set_option maxHeartbeats 800000 in
theorem isSpan_any(lo hi l h:Int)(w:World) :
  Calls Tryz.prog 124 #[.agg #[.int .i64 lo,.int .i64 hi],.int .i64 l,.int .i64 h] w fun e w'=>e = .returned (.bool (spanB lo hi l h))∧Below w.heap.size w w':=by
 have hb:=(Below.refl w.heap.size w).alloc (Nat.le_refl _) (.cells #[.int .i64 lo,.int .i64 hi] 128);have B0:=Lib.hid hb;clear hb;go_enter Tryz.func124,Tryz.ntmps124
 go_wp2
 all_goals
  go_ret;refine⟨?_,B0.out⟩;simp [spanB];omega
end Go.Proofs.YtclbmlmlhiiaeaaGreatDoor
