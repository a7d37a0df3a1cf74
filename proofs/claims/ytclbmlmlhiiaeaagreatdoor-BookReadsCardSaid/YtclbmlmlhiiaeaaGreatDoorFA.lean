/- The frame of the laws' cards, for laws of texts and files. -/
import Derived.Test.YtclbmlmlhiiaeaaGreatDoorRows
import Derived.Test.YtclbmlmlhiiaeaaGreatDoorQW6
import Derived.WalkKit
import Derived.ProofKit
import Derived.Handy
import Derived.Lay
import Derived.SevenTiedAt
import Derived.OpenShut
import Derived.ShutString
import Derived.ChangeOld
import Derived.Below
import Derived.HandedShaped
import Derived.Shelf.Vars
import Derived.Laws.IdiomArrays
import Derived.Lib.LaidTab
import Derived.Deep.Slices
import Derived.Lib.SmallJoins
namespace Go.Proofs.YtclbmlmlhiiaeaaGreatDoor.fr
open Go.ChangeShapes Go.WideShapes Go.ChangeAt Go.RowKit Go.Proofs.YtclbmlmlhiiaeaaGreatDoor
theorem returns_shaped{H:Type}{enc:TypeId×Value→H}{a:Assume}{C:Checked}{os:Os}{f:FuncId}{fn:Func}{s:ChangeSpec}{conds:List PathCond}{apart fresh handsOn again:Bool}{X:World→Array Value→Prop}
  (hX:∀ (w w':World) (args:Array Value),w.heap=w'.heap→X w args→X w' args)
  (own:ownKnob C.prog.godebug=none) (started:os.Started) (noInit:C.prog.inits.idxOf? f=none) (hfn:C.prog.funcs[f]? = some fn)
  (witness:∃ (w:World) (tape:Tape) (i:Input),w.os=os∧(w.forCall tape i).Shaped C.prog∧i.vars = []∧Input.okWide C.prog (w.forCall tape i) .any w.heap.size f i ∧
   ((s.pre enc C.prog fn conds apart (w.forCall tape i).memory i.args∧X (w.forCall tape i).memory i.args)∧sizedMet enc C.prog fn (OpenSpec.ofChange s) apart (w.forCall tape i).memory i.args)∧a.holds C.prog (lone (Frame.enter C.prog f i.args .normal) [] (w.forCall tape i)))
  (contract:∀ (W:World) (base:Nat) (args:Array Value) (ds gs:List (DataW H)) (before:List MemPlace),
   (∀ (j:Nat) t v,fn.params[j]? = some t→args[j]? = some v→Value.okWide C.prog W .any base t v) →
   DataW.Whole enc C.prog fn.params.toList s.vars apart W args.toList ds gs before→X W args→W.ShapedOpen C.prog →
   Calls C.prog f args W fun e W' => ∃ v,e = .returned v∧s.post enc C.prog fn apart fresh handsOn again W args v W') :
  ReturnsInHanded a C os f .any (fun w args=>(s.pre enc C.prog fn conds apart w args∧X w args)∧sizedMet enc C.prog fn (OpenSpec.ofChange s) apart w args) (s.post enc C.prog fn apart fresh handsOn again):=by
 refine returnsInHanded_of_calls own started noInit witness ?_;intro w tape i _ hsh _ hok hpre hholds;obtain⟨_,_,_,fn',hfn',_,_,_,_,hval⟩:=hok;have e:fn'=fn:=Option.some.inj (hfn'.symm.trans hfn);subst e;obtain⟨⟨⟨ds,gs,before,hw,hc⟩,hx⟩,hz⟩:=hpre;have hw':=DataW.Whole.of_heap (w':=w.forCall tape i) (by rfl) hw;refine(contract (w.forCall tape i) w.heap.size i.args ds gs before hval hw' (hX _ _ _ (by rfl) hx) hsh).mono fun e W' ⟨v,he,hp⟩=>?_;subst he;exact ChangeSpec.post_blind hp
def laid:List (String×DataW Unit):=Rows.bookMendRow.laid
theorem own:ownKnob Tryz.prog.godebug=none:=by kernel_rfl
theorem laidOut:laidOutB Tryz.prog=true:=by kernel_rfl
theorem g1:(Tryz.prog.globals[1]?).map (·.type)=some 3:=by kernel_rfl
theorem lim_of{W:World}(h:W.ShapedOpen Tryz.prog):Lim W :=
 cell_of_shapedOpen_int (t:=3) (zero:=#[.int .i64 0]) h (of_decide_eq_true (by kernel_rfl)) (by kernel_rfl) rfl (by kernel_rfl) (by kernel_rfl) (by kernel_rfl)
theorem size_of{W:World}(h:W.ShapedOpen Tryz.prog):1<W.heap.size:=by
 obtain⟨m,hm⟩:=lim_of h;exact World.block_lt_of_cell? W ⟨1,0,none⟩ hm
theorem tab_of{W:World}(h:laidMetH Tryz.prog laid W):Tab W:=by
 rw [MakeChecks.laidMetH_plain _ _ _ (by kernel_rfl)] at h;obtain⟨ps,⟨g0,t0,cs0,f0,p0,q0,hg0,ht0,hv0,hd0,⟨g1,t1,cs1,f1,p1,q1,hg1,ht1,hv1,hd1,⟨g2,t2,cs2,f2,p2,q2,hg2,ht2,hv2,hd2,⟨g3,t3,cs3,f3,p3,q3,hg3,ht3,hv3,hd3,_,_⟩,_⟩,_⟩,_⟩,_⟩:=h;obtain rfl:=Option.some.inj ((show Tryz.prog.globalNamed "internal/strconv.uint64pow10" = some 2 by kernel_rfl).symm.trans hg2);obtain rfl:=Option.some.inj ((show(Tryz.prog.globals[2]?).map (·.type)=some 245 by kernel_rfl).symm.trans ht2);have hd:DataW.trod (fun _=>()) Tryz.prog W 0 (fun _=>true) false f2 245 cs2.toList=some (Lib.tabData .u64 Lib.pow10Tab,p2):=hd2;have hc:=Lib.cells_of_tab (n:=20) Tryz.underlying245 Tryz.underlying236 (by kernel_rfl) (by kernel_rfl) hd;unfold Tab Lib.TabIs;rw [hv2,← hc]
theorem sides_of{W:World}(h:laidMetH Tryz.prog laid W):Sides W:=by
 rw [MakeChecks.laidMetH_plain _ _ _ (by kernel_rfl)] at h;obtain⟨ps,⟨g0,t0,cs0,f0,p0,q0,hg0,ht0,hv0,hd0,⟨g1,t1,cs1,f1,p1,q1,hg1,ht1,hv1,hd1,⟨g2,t2,cs2,f2,p2,q2,hg2,ht2,hv2,hd2,⟨g3,t3,cs3,f3,p3,q3,hg3,ht3,hv3,hd3,_,_⟩,_⟩,_⟩,_⟩,_⟩:=h;obtain rfl:=Option.some.inj ((show Tryz.prog.globalNamed "caulkworks/book.sides" = some 0 by kernel_rfl).symm.trans hg3);obtain rfl:=Option.some.inj ((show(Tryz.prog.globals[0]?).map (·.type)=some 163 by kernel_rfl).symm.trans ht3);obtain⟨xs,m,-,-,hl,-,-⟩:=DataW.trod_array Tryz.underlying163 hd3;rw [show Tryz.prog.cellsOf 163=3 by kernel_rfl] at hl;unfold Sides;rw [hv3];obtain⟨l⟩:=cs3
 match l,hl with
 | [c0,c1,c2],_ =>
  obtain⟨y0,y1,y2,n,hx,h0,h1,h2⟩:=trod_array3 Tryz.underlying163 (by kernel_rfl) hd3;obtain⟨s0,e0,x0,-⟩:=DataW.trod_string Tryz.underlying9 h0;obtain⟨s1,e1,x1,-⟩:=DataW.trod_string Tryz.underlying9 h1;obtain⟨s2,e2,x2,-⟩:=DataW.trod_string Tryz.underlying9 h2;subst x0 x1 x2;simp only [Rows.laid_caulkworks_book_sides,Prod.mk.injEq,DataW.agg.injEq,List.cons.injEq,DataW.lit.injEq,Lit.string.injEq,and_true] at hx e0 e1 e2;subst e0 e1 e2;obtain⟨⟨z0,z1,z2⟩,-⟩:=hx;obtain⟨⟨s0⟩⟩:=s0;obtain⟨⟨s1⟩⟩:=s1;obtain⟨⟨s2⟩⟩:=s2;simp only at z0 z1 z2;subst z0 z1 z2;rfl
set_option maxRecDepth 100000 in
theorem open_text{H:Type}{enc:TypeId×Value→H}{w:World}{base:Nat}{r:Reach}{b0:Nat}{v:Value}{d:DataW H}{p:List MemPlace}(hv:Value.okWide Tryz.prog w r b0 9 v)(_:DataW.Trod enc Tryz.prog w base (fun _=>true) true 9 v d p) :
  ∃ t:List UInt8,v = .string ⟨t.toArray⟩:=by
 obtain⟨s,e⟩:=okWide_string Tryz.underlying9 hv;obtain⟨⟨l⟩⟩:=s;exact⟨l,e⟩
end Go.Proofs.YtclbmlmlhiiaeaaGreatDoor.fr
