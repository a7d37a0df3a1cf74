/- Laws: a range over a function whose rounds, and whose iterat -/
import Derived.RangeFuncNested
import Derived.RangeFuncBound
import Derived.RangeFuncCalls
import Derived.RangeFuncLeaves
import Derived.Test.YtclbmlmlhiiaeaaGreatDoorQE2
import Derived.Test.YtclbmlmlhiiaeaaGreatDoorQR4
namespace Go.Proofs.YtclbmlmlhiiaeaaGreatDoor
open Go.RowKit
section
variable {P:Program} {n:Nat} {f:FuncId} {fn:Func} {c x y:Code} {Q:Exit→Act→World→Prop} {a:Act} {w:World}
def wpOf(f:FuncId)(_n:Nat)(P:Program)(c:Code)(Q:Exit→Act→World→Prop)(a:Act)(w:World):Prop :=
 ∀ (b:Frame) (k:List Item) (cs:List Frame),b.roundOf=none→b.fn=f →
  ∃ e a' w',Q e a' w'∧ArrivesIn (Machine.fenced P Fence.wide) P (lone (b.atR a (.code c::k)) cs w) b k cs e a' w'
theorem wpOf_of_wpIn(h:c.wpIn Fence.wide n P Q a w):wpOf f n P c Q a w:=fun b k cs hro _=>h b k cs hro trivial (room_wide _)
theorem wpOf_of_wp(h:c.wp P Q a w):wpOf f n P c Q a w:=wpOf_of_wpIn (wpIn_wide.2 h)
theorem wpOf_seq(h:wpOf f n P x (Exit.then (wpOf f n P y Q) Q) a w):wpOf f n P (Code.seq x y) Q a w:=by
 intro b k cs hro hb;have h0:(lone (b.atR a (.code (.seq x y)::k)) cs w).fenced P Fence.wide:=fenced_wide _ _;obtain⟨e,a₁,w₁,hq,harr⟩:=h b (.code y::k) cs hro hb
 cases e with
 | normal =>
  obtain⟨e₂,a₂,w₂,hq₂,harr₂⟩:=hq b k cs hro hb;exact⟨e₂,a₂,w₂,hq₂,.of_steps (.head h0 stepR_seq harr) harr₂⟩
 | exit id=>exact⟨_,a₁,w₁,hq,.of_steps (.one h0 stepR_seq) (.pass (x:=.code y) rfl (fun _ _=>.inl (by simp)) harr)⟩
 | goto l=>exact⟨_,a₁,w₁,hq,.of_steps (.one h0 stepR_seq) (.pass (x:=.code y) rfl (fun _ _=>.inl (by simp)) harr)⟩
 | ret=>exact⟨_,a₁,w₁,hq,.of_steps (.one h0 stepR_seq) (.pass (x:=.code y) rfl (fun _ _=>.inl (by simp)) harr)⟩
 | panic ch=>exact⟨_,a₁,w₁,hq,.of_steps (.one h0 stepR_seq) (.pass (x:=.code y) rfl (fun _ _=>.inl (by simp)) harr)⟩
 | outgrown=>exact⟨_,a₁,w₁,hq,.of_steps (.one h0 stepR_seq) (.pass (x:=.code y) rfl (fun _ _=>.inl (by simp)) harr)⟩
theorem wpOf_seq_wp(h:x.wp P (Exit.then (wpOf f n P y Q) Q) a w):wpOf f n P (Code.seq x y) Q a w:=wpOf_seq (wpOf_of_wp h)
theorem wpOf_block{id:Nat}(h:wpOf f n P c (Exit.inBlock id Q) a w):wpOf f n P (Code.block id c) Q a w:=by
 intro b k cs hro hb;have hf:∀ m:Machine,m.fenced P Fence.wide:=fun m=>fenced_wide _ m;have h0:=hf (lone (b.atR a (.code (.block id c)::k)) cs w);obtain⟨e,a₁,w₁,hq,harr⟩:=h b (.inBlock id::k) cs hro hb
 cases e with
 | normal=>exact⟨.normal,a₁,w₁,hq,.head h0 stepR_block (StepsIn.trans harr (.one (hf _) stepR_inBlock))⟩
 | exit id' =>
  by_cases hid:id'=id
  ·simp only [Exit.inBlock,hid,if_true] at hq
   exact⟨.normal,a₁,w₁,hq,.head h0 stepR_block (harr.1 k (by simp [exitTo,hid]))⟩
  ·simp only [Exit.inBlock,hid,if_false] at hq
   have this:(id==id')=false:=by simp; exact fun h=>hid h.symm
   have hx:exitTo id' (.inBlock id::k)=exitTo id' k:=by simp [exitTo,this]
   exact⟨.exit id',a₁,w₁,hq,fun k' hk=>.head h0 stepR_block (harr.1 k' (by rw [hx]; exact hk)),
    fun hr' hk=>let ⟨k₁,h1,h2⟩:=harr.2 hr' (by rw [hx]; exact hk); ⟨k₁,h1,.head h0 stepR_block h2⟩⟩
 | goto l =>
  have hx:gotoIn l (.inBlock id::k)=gotoIn l k:=by simp [gotoIn]
  exact⟨_,a₁,w₁,hq,fun k' hk=>.head h0 stepR_block (harr.1 k' (by rw [hx]; exact hk)),
   fun hr' hk=>let ⟨k₁,h1,h2⟩:=harr.2 hr' (by rw [hx]; exact hk); ⟨k₁,h1,.head h0 stepR_block h2⟩⟩
 | ret=>exact⟨_,a₁,w₁,hq,.of_steps (.one h0 stepR_block) harr⟩
 | panic ch=>exact⟨_,a₁,w₁,hq,.of_steps (.one h0 stepR_block) harr⟩
 | outgrown=>exact⟨_,a₁,w₁,hq,.of_steps (.one h0 stepR_block) harr⟩
theorem calls_of_wpOf{args:Array Value}{R:Ending→World→Prop}(hf:P.funcs[f]? = some fn)(hb:fn.body=some c)
  (h:wpOf f n P c (bodyPostM Fence.wide n P fn R) {tmps:=args++Array.replicate (fn.ntmps - args.size) undef,defers:=[]} w):Calls P f args w R:=by
 refine(callsIn_wide (n:=n)).1 ⟨trivial,fun cs hr=>?_⟩
 let b:Frame:={ (default:Frame) with fn:=f,kind:=.normal,roundOf:=none}
 have henter:Frame.enter P f args .normal =
   b.atR {tmps:=args++Array.replicate (fn.ntmps - args.size) undef,defers:=[]} [.code c]:=by
  simp [Frame.enter,Frame.atR,hf,hb,b]
 obtain⟨e,a',w',hq,harr⟩:=h b [] cs rfl rfl;rw [← henter] at harr
 cases e with
 | normal =>
  obtain⟨e',w'',fr',hR,hs,hfn,hl⟩:=leaves_stepsInM a'.defers .returning w' {b.atR a' [] with mode:=.returning} cs rfl rfl rfl hf rfl trivial hr hq;exact⟨e',w'',fr',hR,ComesIn.of_steps (StepsIn.trans harr (.one (fenced_wide _ _) (stepR_end rfl))) hs,hfn,hl⟩
 | ret =>
  obtain⟨todo,hs₀⟩:=harr.1 rfl;obtain⟨e',w'',fr',hR,hs,hfn,hl⟩:=leaves_stepsInM a'.defers .returning w' {b.atR a' todo with mode:=.returning} cs rfl rfl rfl hf rfl trivial hr hq;exact⟨e',w'',fr',hR,ComesIn.of_steps hs₀ hs,hfn,hl⟩
 | panic chain =>
  obtain⟨todo,hs₀⟩:=harr;obtain⟨e',w'',fr',hR,hs,hfn,hl⟩:=leaves_stepsInM a'.defers (.panicking chain) w' {b.atR a' todo with mode:=.panicking chain} cs rfl rfl rfl hf rfl trivial hr hq;exact⟨e',w'',fr',hR,ComesIn.of_steps hs₀ hs,hfn,hl⟩
 | exit id=>exact hq.elim
 | goto l=>exact hq.elim
 | outgrown=>exact⟨.outgrown,w',b,hq,harr.resolve_left (by simp [b]),rfl,trivial⟩
def roundPostP(P:Program)(l:Nat)(R:Ending→World→Prop):Exit→Act→World→Prop
 | .normal,_,w => ∃ v w',(Instr.endRound l none).run P w = .ok v w'∧R (.returned v) w'
 | .panic chain,a,w=>a.defers = []∧R (.panicked chain) w
 | _,_,_=>False
theorem roundIn_of_wpInP{l:Nat}{tmps:Array Value}{assign body:Code}{R:Ending→World→Prop}(hf:P.funcs[f]? = some fn)
  (h:assign.wpIn (Fence.wide.inRound l) n P (Exit.then (fun a₁ w₁ => ∃ w₂,(Instr.beginRound l).run P w₁ = .ok () w₂∧body.wpIn (Fence.wide.inRound l) n P (roundPostP P l R) a₁ w₂) (fun _ _ _=>False))
   {tmps:=tmps,defers:=[]} w) :
  RoundIn Fence.wide n P l f tmps assign body w R:=by
 refine⟨trivial,fun c cs hr=>?_⟩
 let b:Frame:={ (default:Frame) with fn:=f,kind:=.normal,roundOf:=some l}
 have hb0:Frame.round l f tmps assign body .normal=b.atR {tmps:=tmps,defers:=[]} [.code assign,.beginRound,.code body]:=by
  simp [Frame.round,Frame.atR,b]
 have hr':(Fence.wide.inRound l).room ((c::cs).length+1+n):=hr;have hF':(Fence.wide.inRound l).fn b.fn:=trivial;obtain⟨e,a₁,w₁,hq,harr⟩:=h b [.beginRound,.code body] (c::cs) rfl hF' hr';rw [← hb0] at harr
 cases e with
 | normal =>
  obtain⟨w₂,hbr,hbody⟩:=hq
  have s1:StepsIn (Machine.fenced P (Fence.wide.inRound l)) P (lone (b.atR a₁ [.beginRound,.code body]) (c::cs) w₁) (lone (b.atR a₁ [.code body]) (c::cs) w₂) :=
   .one (fenced_calm (fr:=b.atR a₁ [.beginRound,.code body]) hF' hr' rfl) (stepR_beginRound rfl hbr)
  obtain⟨e₂,a₂,w₃,hq₂,harr₂⟩:=hbody b [] (c::cs) rfl hF' hr'
  cases e₂ with
  | normal =>
   obtain⟨v,w₄,hend,hR⟩:=hq₂;exact⟨.returned v,w₄,hR,(StepsIn.trans harr s1).trans (StepsIn.trans harr₂ (.one (fenced_calm (fr:=b.atR a₂ []) hF' hr' rfl) (stepR_round_end rfl rfl hend)))⟩
  | panic chain =>
   obtain⟨hd,hR⟩:=hq₂;obtain⟨todo,hs⟩:=harr₂;exact⟨.panicked chain,w₃,hR,(StepsIn.trans harr s1).trans (StepsIn.trans hs (.one (fenced_wide _ _) (step_leave_panicked (fr:={b.atR a₂ todo with mode:=.panicking chain}) ⟨rfl,hd,fn,hf⟩)))⟩
  | ret=>exact hq₂.elim
  | exit id=>exact hq₂.elim
  | goto t=>exact hq₂.elim
  | outgrown=>exact hq₂.elim
 | exit id=>exact hq.elim
 | goto t=>exact hq.elim
 | ret=>exact hq.elim
 | panic chain=>exact hq.elim
 | outgrown=>exact hq.elim
def rangePostP(P:Program)(l:Nat)(Q:Exit→Act→World→Prop)(a':Act):Ending→World→Prop
 | .returned _,w₃ => ∃ w₄,(Instr.endLoop l).run P w₃ = .ok none w₄∧Q .normal a' w₄
 | .panicked chain,w₃=>Q (.panic chain) a' w₃
 | .outgrown,_=>False
theorem wpOf_rangeFunc{g:Operand}{ps:Array Tmp}{assign body:Code}
  (h:∃ (l:Nat) (mark:List Deferred) (w₁:World) (d:Deferred) (w₁':World) (g':FuncId) (args:Array Value) (w₂:World),
   (Instr.enterLoop f a.tmps ps assign body none).run P w = .ok (l,mark) w₁ ∧
   (resolve a.eval (rangeCall g l) 0).run P w₁ = .ok d w₁' ∧
   (invoke d.target d.args).run P w₁' = .ok (.enter g' args) w₂ ∧
   CallsIn Fence.wide n P g' args w₂ (rangePostP P l Q {a with defers:=mark++a.defers})) :
  wpOf f n P (Code.rangeFunc g ps assign body) Q a w:=by
 intro b k cs hro hb;obtain⟨l,mark,w₁,d,w₁',g',args,w₂,he,hres,hinv,hF,hcall⟩:=h;rw [← hro,← hb] at he;have h0:∀ m:Machine,m.fenced P Fence.wide:=fun m=>fenced_wide _ m;have henter:=stepR_rangeFunc (P:=P) (b:=b) (a:=a) (k:=k) (cs:=cs) (w:=w) he hres hinv;obtain⟨e,w₃,fr,hR,hsteps,hfn,hleave⟩:=hcall (b.atR {a with defers:=mark++a.defers} (.inRangeFunc l::k)::cs) (room_wide _)
 cases e with
 | outgrown=>exact hR.elim
 | returned v =>
  obtain⟨w₄,hend,hj⟩:=hR;refine⟨.normal,_,w₄,hj,.head (h0 _) henter (StepsIn.trans hsteps (.head (h0 _) ?_ (.one (h0 _) (stepR_endRangeFunc (b:=b) (k:=k) hend))))⟩;rw [← finish_atR_inRangeFunc l v]; exact step_leave_returned hleave
 | panicked chain =>
  refine⟨.panic chain,_,w₃,hR,.inRangeFunc l::k,.head (h0 _) henter (StepsIn.trans hsteps (.one (h0 _) ?_))⟩;rw [← Frame.raise_atR]; exact step_leave_panicked hleave
def bodyP(B:Nat)(I Ip:World→Prop)(ch:List PanicEntry)(W:World):Exit→Act→World→Prop
 | .normal,_,W'=>KeepsFrom B W W'∧I W'
 | .panic c,a,W'=>a.defers = []∧c=ch∧KeepsFrom B W W'∧Ip W'
 | _,_,_=>False
def SeqP(n:Nat)(P:Program)(g:Nat)(lb:Array Value)(ch:List PanicEntry)(tb ty:Nat)(N:List UInt8→List UInt8→List UInt8→Prop)(Bad:List UInt8→Prop)(Pr:World→Prop)(t₀:List UInt8):Prop :=
 ∀ (l:Nat) (I:List UInt8→World→Prop) (Ip:World→Prop) (W:World),
  (∀ t (A B:World),I t A→Keep (fun k=>k<A.heap.size∧k≠tb) A B→I t B) →
  (∀ t (A:World),I t A→Bad t→Ip A) →
  (∀ t (A:World),I t A→Pr A) →
  (∀ t line rest (W1:World),I t W1→N t line rest→BoxAt W1 tb #[.string ⟨rest.toArray⟩] ty→YieldAt Fence.wide (n - 1) P l #[.string ⟨line.toArray⟩] W1 fun e W' =>
   (e = .returned (.bool true)∧I rest W'∧BoxAt W' tb #[.string ⟨rest.toArray⟩] ty)∨(e = .panicked ch∧Ip W')) →
  I t₀ W→BoxAt W tb #[.string ⟨t₀.toArray⟩] ty →
  CallsIn Fence.wide n P g (#[.func (.yield l) #[] #[]]++lb) W fun e W'=>(∃ v,e = .returned v∧I [] W')∨(e = .panicked ch∧Ip W')
theorem wpOf_range_text{g:Operand}{ps:Array Tmp}{assign body:Code}{ch:List PanicEntry}{gf tb ty:Nat}{lb:Array Value}{N:List UInt8→List UInt8→List UInt8→Prop}{Bad:List UInt8→Prop}{Pr:World→Prop}{t₀:List UInt8}
  (hf:P.funcs[f]? = some fn) (hg:a.eval g = .func (.func gf) #[] lb) (eg:∀ args w,(callFunc gf args).run P w = .ok (.enter gf args) w)
  (hseq:SeqP n P gf lb ch tb ty N Bad Pr t₀) (hps:ps.size=1) (htb:tb<w.heap.size)
  (I:List UInt8→World→Prop) (Ip:World→Prop)
  (hI:∀ t (A B:World),I t A→Keep (fun k=>k<A.heap.size∧k≠tb) A B→I t B)
  (hIo:∀ t (A:World) (l:Nat) (o o':Obj),I t A→w.heap.size≤l→A.heap[l]? = some o→o.isCells=false→I t (A.putObj l o'))
  (hIp:∀ t (A:World),I t A→Bad t→Ip A)
  (hPr:∀ t (A:World),I t A→Pr A)
  (h0:I t₀ w) (hb:BoxAt w tb #[.string ⟨t₀.toArray⟩] ty) (a₁:List UInt8→Act)
  (hassign:∀ (l:Nat) (x:List UInt8) (W:World) (K:Act→World→Prop),K (a₁ x) W →
   assign.wpIn (Fence.wide.inRound l) (n - 1) P (Exit.then K (fun _ _ _=>False)) {tmps:=(ps.zip #[.string ⟨x.toArray⟩]).foldl (fun t (p,v)=>t.setIfInBounds p v) a.tmps,defers:=[]} W)
  (hbody:∀ (l:Nat) (t line rest:List UInt8) (W:World),I t W→N t line rest→BoxAt W tb #[.string ⟨rest.toArray⟩] ty→(∃ r,W.heap[l]? = some (.loop r)) →
   body.wpIn (Fence.wide.inRound l) (n - 1) P (bodyP w.heap.size (fun W'=>I rest W'∧BoxAt W' tb #[.string ⟨rest.toArray⟩] ty) Ip ch W) (a₁ line) W)
  (hdone:∀ W:World,I [] W→W.heap[w.heap.size]? = some (.deferred (some []))→Q .normal {a with defers:={target:=.collected w.heap.size,args:=#[]}::a.defers} W)
  (hpan:∀ W:World,Ip W→W.heap[w.heap.size]? = some (.deferred (some []))→Q (.panic ch) {a with defers:={target:=.collected w.heap.size,args:=#[]}::a.defers} W) :
  wpOf f n P (Code.rangeFunc g ps assign body) Q a w:=by
 refine wpOf_rangeFunc ?_;obtain⟨rec,hrec⟩:∃ rec:LoopState→Option Code→Loop,rec=fun st pe=>{state:=st,pending:=pe,fn:=f,tmps:=a.tmps,params:=ps,assign,body,defers:=w.heap.size}:=⟨_,rfl⟩
 obtain⟨W1,hW1⟩:∃ W1,(w.alloc (.deferred (some []))).alloc (.loop (rec .ready none))=W1:=⟨_,rfl⟩
 have hL1:W1.heap[w.heap.size+1]? = some (.loop (rec .ready none)):=by
  rw [← hW1]; have:=World.alloc_heap_new (w.alloc (.deferred (some []))) (.loop (rec .ready none)); rwa [World.size_alloc] at this
 have hK1:W1.heap[w.heap.size]? = some (.deferred (some [])):=by
  rw [← hW1]; exact(Below.heap_alloc _ _ _ (by simp)).trans (World.alloc_heap_new w _)
 have hb1:Below w.heap.size w W1:=by
  rw [← hW1]; exact((Below.refl _ w).alloc (Nat.le_refl _) _).alloc (by simp) _
 have hI1:I t₀ W1:=hI _ _ _ h0 (Keep.of_below hb1 fun k hk=>hk.1);have hB1:BoxAt W1 tb #[.string ⟨t₀.toArray⟩] ty:=(hb1.block tb htb).trans hb
 refine⟨w.heap.size+1,[{target:=.collected w.heap.size,args:=#[]}],W1,{target:=.fn (.func gf) lb,args:=#[.func (.yield (w.heap.size+1)) #[] #[]]},W1,gf,
  #[.func (.yield (w.heap.size+1)) #[] #[]]++lb,W1,?_,?_,?_,?_⟩
 ·rw [← hW1,hrec]; exact run_enterLoop_outer _ _ _ _ _
 ·simp only [resolve,hg]
  simp [go_sem]
 ·simp [invoke,go_sem,eg]
 ·refine(hseq (w.heap.size+1)
   (fun t W=>I t W∧W.heap[w.heap.size+1]? = some (.loop (rec .ready none))∧W.heap[w.heap.size]? = some (.deferred (some [])))
   (fun W=>Ip W∧W.heap[w.heap.size]? = some (.deferred (some []))) W1 ?_ ?_ (fun t A h=>hPr t A h.1) ?_ ⟨hI1,hL1,hK1⟩ hB1).mono ?_
  ·rintro t A B ⟨hi,hl,hk⟩ hKp
   exact⟨hI _ _ _ hi hKp,(hKp.block _ ⟨(Array.getElem?_eq_some_iff.1 hl).1,by omega⟩).trans hl,(hKp.block _ ⟨(Array.getElem?_eq_some_iff.1 hk).1,by omega⟩).trans hk⟩
  ·rintro t A ⟨hi,hl,hk⟩ hbad
   exact⟨hIp _ _ hi hbad,hk⟩
  ·rintro t line rest W ⟨hi,hl,hk⟩ hN hbx
   have hlt:w.heap.size+1<W.heap.size:=(Array.getElem?_eq_some_iff.1 hl).1;have hy:=run_yield (P:=P) (args:=#[.string ⟨line.toArray⟩]) hl (by rw [hrec]; exact hps.symm);rw [hrec] at hy;refine⟨f,_,assign,body,hy,roundIn_of_wpInP hf (hassign _ line W _ ⟨_,run_beginRound hl (by rw [hrec]),?_⟩)⟩;have hl2:(W.putObj (w.heap.size+1) (.loop {rec .ready none with state:=.busy})).heap[w.heap.size+1]? = some (.loop {rec .ready none with state:=.busy}):=World.putObj_heap_same hlt;have hk2:(W.putObj (w.heap.size+1) (.loop {rec .ready none with state:=.busy})).heap[w.heap.size]? = some (.deferred (some [])):=(World.putObj_heap_other (by omega)).trans hk;have hbx2:BoxAt (W.putObj (w.heap.size+1) (.loop {rec .ready none with state:=.busy})) tb #[.string ⟨rest.toArray⟩] ty:=(World.putObj_heap_other (by omega)).trans hbx;refine wpIn_mono (hbody _ t line rest _ (hIo _ _ _ _ _ hi (by omega) hl rfl) hN hbx2 ⟨_,hl2⟩) ?_;rintro e a3 W3 hp
   cases e with
   | normal =>
    obtain⟨hk3,hi3,hbx3⟩:=hp;have hl3:=hk3.same _ _ (by omega) hl2 rfl;have hr:=run_endRound (P:=P) none hl3;rw [hrec] at hr;refine⟨_,_,hr,.inl ⟨rfl,⟨hIo _ _ _ _ _ hi3 (by omega) hl3 rfl,?_,?_⟩,?_⟩⟩
    ·rw [hrec]; exact World.putObj_heap_same (Array.getElem?_eq_some_iff.1 hl3).1
    ·exact(World.putObj_heap_other (by omega)).trans (hk3.same _ _ (Nat.le_refl _) hk2 rfl)
    ·exact(World.putObj_heap_other (by omega)).trans hbx3
   | panic c =>
    obtain⟨hd,rfl,hk3,hip⟩:=hp;exact⟨hd,.inr ⟨rfl,hip,hk3.same _ _ (Nat.le_refl _) hk2 rfl⟩⟩
   | ret=>exact hp.elim
   | exit id=>exact hp.elim
   | goto t=>exact hp.elim
   | outgrown=>exact hp.elim
  ·rintro e W2 (⟨v,rfl,hi,hl,hk⟩ | ⟨rfl,hip,hk⟩)
   ·refine⟨_,by have:=run_endLoop (P:=P) hl (by rw [hrec]; simp); rw [hrec] at this; exact this,?_⟩
    exact hdone _ (hIo _ _ _ _ _ hi (by omega) hl rfl) ((World.putObj_heap_other (by omega)).trans hk)
   ·exact hpan _ hip hk
end
attribute [local go_sem] ba_app List.append_toArray List.length_append
def perhapsW:List UInt8:=[32,112,101,114,104,97,112,115]
def frostP(fuel:Nat)(t:List UInt8):Option ((Nat×Nat)×List UInt8) :=
 if(Lib.cut t perhapsW).2.2 then match hoursP fuel (Lib.cut t perhapsW).1 0 with
  | none=>none
  | some (f,r1)=>match hoursP fuel (r1++(Lib.cut t perhapsW).2.1) 0 with
   | none=>none
   | some (p,r2)=>some ((f,p),r2)
 else none
theorem cut_len(t p:List UInt8):(Lib.cut t p).1.length+(Lib.cut t p).2.1.length≤t.length:=by
 unfold Lib.cut
 split
 ·simp only [List.length_take,List.length_drop]; omega
 ·simp
def FrostPost(rb pb:Nat)(x0 x3 x4:Value)(R:Option ((Nat×Nat)×List UInt8))(w:World)(e:Ending)(w':World):Prop :=
 Keep (fun k=>k<w.heap.size∧k≠rb∧k≠pb) w w'∧match R with
 | none=>e=err 8
 | some (s,r)=>e = .returned (.tuple #[])∧RdAt w' rb r∧BoxAt w' pb #[x0,.int .i64 s.1,.int .i64 s.2,x3,x4] 29
set_option maxRecDepth 100000 in
set_option maxHeartbeats 800000 in
theorem frost107_any(rb pb:Nat)(x0 x1 x2 x3 x4:Value)(m:Int)(t:List UInt8)(w:World)(h:RdAt w rb t)(hp:BoxAt w pb #[x0,x1,x2,x3,x4] 29)(hm:w.cell? ⟨1,0,none⟩=some (.int .i64 m))(hne:pb≠rb)(hl:t.length≤2000)(fuel:Nat)(hf:t.length≤fuel) :
  Calls Tryz.prog 107 #[bp pb,bp rb] w (FrostPost rb pb x0 x3 x4 (frostP fuel t) w):=by
 have hsz:(ByteArray.mk t.toArray).size=t.length:=by simp [ByteArray.size]
 have C0:=Lib.hid (Tryz.strings_Cut ⟨t.toArray⟩ ⟨#[32,112,101,114,104,97,112,115]⟩ m w (by omega) hm);have hcl:=cut_len t perhapsW;obtain⟨A,hA⟩:∃ A,Lib.cut t perhapsW=A:=⟨_,rfl⟩
 rw [show(Lib.cut (ByteArray.mk t.toArray).data.toList (ByteArray.mk #[32,112,101,114,104,97,112,115]).data.toList)=A from hA] at C0;obtain⟨a,b,c⟩:=A
 have HS:=Lib.hid (show frostP fuel t=(if c then match hoursP fuel a 0 with
  | none=>none
  | some (f,r1)=>match hoursP fuel (r1++b) 0 with
   | none=>none
   | some (p,r2)=>some ((f,p),r2)
  else none) from by unfold frostP; rw [hA])
 rw [hA] at hcl;dsimp only at hcl C0;have P0:=Lib.hid hp;have R0:=Lib.hid h;have c0:=cellAt h 0;have f0:=freeAt h 0;simp only [List.getElem?_toArray,List.getElem?_cons_zero] at c0;have hrl:=lt_of_heap h;have hpl:=lt_of_heap hp;clear h hp hA hsz hm;go_enter Tryz.func107,Tryz.ntmps107;go_wp2_with fail;refine C0.out.mono ?_;rintro e w' ⟨rfl,nq,rfl⟩;have hb0:=below_drewN (Below.refl w.heap.size w) nq;have O1:=Lib.hid (OffR.below (rb:=rb) hb0);have R1:=Lib.hid (show RdAt (w.drewN nq) rb t from BoxAt.grow R0.out hb0);have P1:=Lib.hid (P0.out.grow hb0);have hs1:w.heap.size≤(w.drewN nq).heap.size:=O1.out.size;clear R0 P0 hb0 c0 f0 C0;generalize World.drewN w nq=w1 at *
 cases c with
 | false =>
  go_wp2_with fail;refine(ask_false _ _).mono ?_;rintro e w' ⟨rfl,rfl⟩;exact⟨rfl,Keep.mono O1.out (fun k hk=>⟨hk.1,hk.2.1⟩),by rw [HS.out]; rfl⟩
 | true =>
  go_upto_region 1 with (fail)
  go_wp2_with fail;refine(ask_true _ _).mono ?_;rintro e w' ⟨rfl,rfl⟩;go_upto_region 3 with (fail)
  have hal:=(Below.refl w1.heap.size w1).alloc (Nat.le_refl _) (.cells #[.string ⟨a.toArray⟩] 173);have hrl1:=lt_of_heap R1.out;have hpl1:=lt_of_heap P1.out;have N2:=Lib.hid (show RdAt (w1.alloc (.cells #[.string ⟨a.toArray⟩] 173)) w1.heap.size a from heap_alloc_new _ _);have R2:=Lib.hid (show RdAt (w1.alloc (.cells #[.string ⟨a.toArray⟩] 173)) rb t from BoxAt.grow R1.out hal);have P2:=Lib.hid (P1.out.grow hal);have K2:=Lib.hid ((Keep.mono O1.out (fun k (hk:k<w.heap.size∧k≠rb∧k≠pb)=>(⟨hk.1,hk.2.1⟩:k<w.heap.size∧k≠rb))).trans (Keep.of_below hal fun k (hk:k<w.heap.size∧k≠rb∧k≠pb)=>Nat.lt_of_lt_of_le hk.1 hs1));have hs2:w1.heap.size<(w1.alloc (.cells #[.string ⟨a.toArray⟩] 173)).heap.size:=lt_of_heap N2.out;clear hal R1 P1 O1;generalize World.alloc w1 _=w2 at *;have C2:=Lib.hid (hours109_any w1.heap.size a w2 N2.out (by omega) fuel (by omega));clear N2;go_wp2_with fail;refine C2.out.mono ?_;intro e w3 hpost;obtain⟨ho,hh⟩:=hpost;have hk3:=K2.out.trans (Keep.mono ho (fun k (hk:k<w.heap.size∧k≠rb∧k≠pb)=>(⟨by omega,by omega⟩:k<w2.heap.size∧k≠w1.heap.size)))
  cases hr:hoursP fuel a 0 with
  | none =>
   rw [hr] at hh;dsimp only at hh;subst hh;simp only [err];exact⟨rfl,hk3,by rw [HS.out,hr]; rfl⟩
  | some p =>
  obtain⟨f,r1⟩:=p;rw [hr] at hh;obtain⟨he,hrd⟩:=hh;subst he
  have HS1:=Lib.hid (show frostP fuel t=(match hoursP fuel (r1++b) 0 with
   | none=>none
   | some (p,r2)=>some ((f,p),r2)) from by rw [HS.out,hr]; rfl)
  have hl1:=hoursP_shorter hr;have hl2:(r1++b).length≤2000:=by rw [List.length_append]; omega
  have hl3:(r1++b).length≤fuel:=by rw [List.length_append]; omega
  have P3:=Lib.hid (ho.box P2.out (by omega));have R3:=Lib.hid (show RdAt w3 rb t from ho.box R2.out (by omega));have K4:=Lib.hid (Keep.set hk3 pb 1 (.int .i64 f) (fun h=>h.2.2 rfl));have N4:=Lib.hid (show RdAt (w3.setCell ⟨pb,1,none⟩ (.int .i64 f)) w1.heap.size r1 from BoxAt.set hrd _ _ (by dsimp only; omega));have R4:=Lib.hid (show RdAt (w3.setCell ⟨pb,1,none⟩ (.int .i64 f)) rb t from BoxAt.set R3.out _ _ (by dsimp only; exact hne));have P4:=Lib.hid (show BoxAt (w3.setCell ⟨pb,1,none⟩ (.int .i64 f)) pb #[x0,.int .i64 f,x2,x3,x4] 29 from P3.out.store 1 _);have c1:=cellAt P3.out 1;have f1:=freeAt P3.out 1;simp only [List.getElem?_toArray,List.getElem?_cons_zero,List.getElem?_cons_succ] at c1;clear ho hk3 hr hrd C2 K2 R2 P2 HS;go_upto_region 4 with (fail)
  clear c1 f1 P3 R3;generalize World.setCell w3 _ _=w4 at *;have c0:=cellAt N4.out 0;have f0:=freeAt N4.out 0;have d0:=cellAt R4.out 0;have g0:=freeAt R4.out 0;simp only [List.getElem?_toArray,List.getElem?_cons_zero] at c0 d0;have n1:¬ (9223372036854775807<r1.length+b.length):=by omega
  have K5:=Lib.hid (Keep.set K4.out rb 0 (.string ⟨(r1++b).toArray⟩) (fun h=>h.2.1 rfl));have R5:=Lib.hid (R4.out.set (r1++b));have P5:=Lib.hid (P4.out.set ⟨rb,0,none⟩ (.string ⟨(r1++b).toArray⟩) (by dsimp only; omega));go_upto_region 5 with (fail)
  generalize World.setCell w4 _ _=w5 at *;clear c0 f0 d0 g0 K4 R4 P4 N4;have C5:=Lib.hid (hours109_any rb (r1++b) w5 R5.out hl2 fuel hl3);go_wp2_with fail;refine C5.out.mono ?_;intro e w6 hpost;obtain⟨ho,hh⟩:=hpost;have hs5:=K5.out.size;have hk6:=K5.out.trans (Keep.mono ho (fun k (hk:k<w.heap.size∧k≠rb∧k≠pb)=>(⟨by omega,hk.2.1⟩:k<w5.heap.size∧k≠rb)))
  cases hr:hoursP fuel (r1++b) 0 with
  | none =>
   rw [hr] at hh;dsimp only at hh;subst hh;simp only [err];exact⟨rfl,hk6,by rw [HS1.out,hr]; rfl⟩
  | some p =>
  obtain⟨q,r2⟩:=p;rw [hr] at hh;obtain⟨he,hrd⟩:=hh;subst he;have HF:=Lib.hid (show frostP fuel t=some ((f,q),r2) from by rw [HS1.out,hr]);have P6:=Lib.hid (ho.box P5.out hne);have R6:=Lib.hid hrd;have K6:=Lib.hid hk6;have c1:=cellAt P6.out 2;have f1:=freeAt P6.out 2;simp only [List.getElem?_toArray,List.getElem?_cons_zero,List.getElem?_cons_succ] at c1;clear ho hk6 hr hrd C5 K5 R5 P5 HS1;go_wp2_with fail
  go_end0
  unfold FrostPost;rw [HF.out];exact⟨Keep.set K6.out _ _ _ (fun hh=>hh.2.2 rfl),rfl,BoxAt.set R6.out _ _ (by dsimp only; exact hne),BoxAt.store P6.out 2 _⟩
end Go.Proofs.YtclbmlmlhiiaeaaGreatDoor
namespace Go.Proofs.YtclbmlmlhiiaeaaGreatDoor
open Go.RowKit
def kindFrom:List (List UInt8)→Nat→List UInt8→Nat
 | [],k,_=>k
 | p::ps,k,t=>if Lib.hasPrefix t p then k else kindFrom ps (k+1) t
def lineStep{σ:Type}(once:Nat)(ws:List (List UInt8))(take:Nat→σ→List UInt8→Option (σ×List UInt8))(s:σ×Nat)(t:List UInt8):Option (σ×Nat) :=
 if kindFrom (ws.drop s.2) s.2 t<ws.length then
  match take (kindFrom (ws.drop s.2) s.2 t) s.1 (t.drop (ws.getD (kindFrom (ws.drop s.2) s.2 t) []).length) with
  | none=>none
  | some (x,r)=>if r = [] then some (x,if kindFrom (ws.drop s.2) s.2 t<once then kindFrom (ws.drop s.2) s.2 t+1 else kindFrom (ws.drop s.2) s.2 t) else none
 else none
def linesF{σ:Type}(step:σ→List UInt8→Option σ):Nat→σ→List UInt8→Option σ
 | 0,s,_=>some s
 | k+1,s,t=>if t = [] then some s else if(Lib.cut t [10]).2.2 then
   match step s (Lib.cut t [10]).1 with
   | none=>none
   | some s'=>linesF step k s' (Lib.cut t [10]).2.1
  else none
def linesR{σ:Type}(step:σ→List UInt8→Option σ)(s:σ)(t:List UInt8):Option σ:=linesF step t.length s t
theorem cut_found(t:List UInt8)(h:(Lib.cut t [10]).2.2=true):(Lib.cut t [10]).1.length+(Lib.cut t [10]).2.1.length+1=t.length:=by
 unfold Lib.cut at h ⊢
 split at h
 ·rename_i h1
  rw [if_pos h1];have:=Lib.index_room t [10] h1;simp only [List.length_take,List.length_drop,List.length_cons,List.length_nil] at this ⊢;omega
 ·simp at h
theorem index_line(r:List UInt8):∀ l:List UInt8,(∀ c,c ∈ l→c≠10)→Lib.index (l++10::r) [10]=l.length
 | [],_=>rfl
 | c::l,h=>by
  have ih:=index_line r l (fun x hx=>h x (by simp [hx]));have hc:=h c (by simp)
  show Lib.index (c::(l++10::r)) [10]=_
  unfold Lib.index;rw [ih,if_neg (by simp [List.isPrefixOf]; exact fun e=>hc e.symm),if_neg (by simp)];simp
theorem cut_line{l:List UInt8}(h:∀ c,c ∈ l→c≠10)(r:List UInt8):Lib.cut (l++10::r) [10]=(l,r,true):=by
 unfold Lib.cut;rw [index_line r l h,if_pos (by omega)];simp
theorem linesF_fuel{σ:Type}(step:σ→List UInt8→Option σ):∀ (k:Nat) (s:σ) (t:List UInt8),t.length≤k→linesF step k s t=linesR step s t:=by
 have key:∀ (k j:Nat) (s:σ) (t:List UInt8),t.length≤k→t.length≤j→linesF step k s t=linesF step j s t:=by
  intro k
  induction k with
  | zero =>
   intro j s t hk _;obtain rfl:t = []:=List.length_eq_zero_iff.1 (by omega)
   cases j with
   | zero=>rfl
   | succ j=>rfl
  | succ k ih =>
   intro j s t hk hj
   cases j with
   | zero =>
    obtain rfl:t = []:=List.length_eq_zero_iff.1 (by omega);rfl
   | succ j =>
    unfold linesF
    split
    ·rfl
    ·split
     ·rename_i h1 h2
      have:=cut_found t h2
      cases step s (Lib.cut t [10]).1 with
      | none=>rfl
      | some s'=>exact ih j s' _ (by omega) (by omega)
     ·rfl
 intro k s t h;exact key k t.length s t h (Nat.le_refl _)
theorem linesR_bad{σ:Type}(step:σ→List UInt8→Option σ)(s:σ){t:List UInt8}(ht:t ≠ [])(h:(Lib.cut t [10]).2.2=false):linesR step s t=none:=by
 cases t with
 | nil=>exact absurd rfl ht
 | cons c t =>
  show linesF step (t.length+1) s (c::t)=none
  unfold linesF;rw [if_neg ht,h];rfl
theorem linesR_line{σ:Type}(step:σ→List UInt8→Option σ)(s:σ){t:List UInt8}(ht:t ≠ [])(h:(Lib.cut t [10]).2.2=true) :
  linesR step s t=match step s (Lib.cut t [10]).1 with | none=>none | some s'=>linesR step s' (Lib.cut t [10]).2.1:=by
 cases t with
 | nil=>exact absurd rfl ht
 | cons c t =>
  show linesF step (t.length+1) s (c::t)=_
  have hl:=cut_found _ h;unfold linesF;rw [if_neg ht,if_pos h]
  cases step s (Lib.cut (c::t) [10]).1 with
  | none=>rfl
  | some s'=>exact linesF_fuel step _ s' _ (by rw [List.length_cons] at hl; omega)
theorem linesR_bind{σ:Type}(step:σ→List UInt8→Option σ)(s:σ){t line rest:List UInt8}(ht:t ≠ [])(h:Lib.cut t [10]=(line,rest,true)) :
  linesR step s t=(step s line).bind fun s'=>linesR step s' rest:=by
 rw [linesR_line step s ht (by rw [h]),h]
 cases step s line <;> rfl
theorem lineStep_of{σ:Type}{once:Nat}{ws:List (List UInt8)}{take:Nat→σ→List UInt8→Option (σ×List UInt8)}{x:σ}{k J:Nat}{line:List UInt8}(hJ:kindFrom (ws.drop k) k line=J)(h2:J<ws.length) :
  lineStep once ws take (x,k) line=(take J x (line.drop (ws.getD J []).length)).bind fun p=>if p.2 = [] then some (p.1,if J<once then J+1 else J) else none:=by
 unfold lineStep;dsimp only;rw [hJ,if_pos h2]
 cases take J x (line.drop (ws.getD J []).length) <;> rfl
theorem lineStep_no{σ:Type}{once:Nat}{ws:List (List UInt8)}{take:Nat→σ→List UInt8→Option (σ×List UInt8)}{x:σ}{k J:Nat}{line:List UInt8}(hJ:kindFrom (ws.drop k) k line=J)(h2:¬ J<ws.length) :
  lineStep once ws take (x,k) line=none:=by
 unfold lineStep;dsimp only;rw [hJ,if_neg h2]
end Go.Proofs.YtclbmlmlhiiaeaaGreatDoor
