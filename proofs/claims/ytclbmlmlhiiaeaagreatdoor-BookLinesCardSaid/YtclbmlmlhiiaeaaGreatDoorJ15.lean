/- BookLines: for every hull, pitch, irons, number the law retu -/
import Derived.Test.YtclbmlmlhiiaeaaGreatDoorCards
import Derived.Test.YtclbmlmlhiiaeaaGreatDoorTie
import Derived.Test.YtclbmlmlhiiaeaaGreatDoorFR
import Derived.Test.YtclbmlmlhiiaeaaGreatDoorJ14
namespace Go.Proofs.YtclbmlmlhiiaeaaGreatDoor.bookLines
open Go.ChangeShapes Go.WideShapes Go.ChangeAt Go.RowKit Go.Proofs.YtclbmlmlhiiaeaaGreatDoor Go.Proofs.YtclbmlmlhiiaeaaGreatDoor.fr
def laid:List (String×DataW Unit):=Rows.bookLinesRow.laid
set_option maxRecDepth 100000 in
theorem lifted(os:Os)(started:os.Started)(H:Type)(enc:TypeId×Value→H) :
  ReturnsInHanded {} Tryz.checked os 11 .any (fun w args=>(Rows.bookLinesSpec.pre enc Tryz.prog Tryz.f11 [] false w args∧laidMetH Tryz.prog laid w)∧sizedMet enc Tryz.prog Tryz.f11 (OpenSpec.ofChange Rows.bookLinesSpec) false w args)
   (Rows.bookLinesSpec.post enc Tryz.prog Tryz.f11 false true false false):=by
 refine returns_shaped (C:=Tryz.checked) (X:=fun w _=>laidMetH Tryz.prog laid w) (fun _ _ _ hh h=>h.of_heap hh) own started (by kernel_rfl) Tryz.func11
  (ChangeSpec.witness_shaped (enc:=enc) (C:=Tryz.checked) (os:=os) (X:=fun w _=>laidMetH Tryz.prog laid w) false (World.laidAll Tryz.prog os laid) #[.agg #[.slice none 0 0,.slice none 0 0],.agg #[.int .i64 0,.int .i64 0,.int .i64 0,.slice none 0 0,.slice none 0 0],.agg #[.int .i64 0,.slice none 0 0,.slice none 0 0,.slice none 0 0,.slice none 0 0],.int .u8 0] 40 (World.laidAll_os _ _ _)
   (World.shaped_of_ZipB (by kernel_rfl) (by kernel_rfl)) (by kernel_rfl) (by kernel_rfl) (by kernel_rfl)
   (by rw [MakeChecks.laidMetH_plain _ _ _ (by kernel_rfl)]; exact laidMet_laidAll _ (by kernel_rfl) (by kernel_rfl))) ?_
 intro W base args ds gs before hval0 hW hL0 hsh;have hL:laidMetH Tryz.prog fr.laid W:=hL0;have hval:∀ (j:Nat) t v,Tryz.f11.params[j]? = some t→args[j]? = some v→Value.okWide Tryz.prog W .any base t v:=hval0;have hW':=hW;obtain⟨p,q,hA0,hV,rfl,hfz,hnd⟩:=hW;have hA:DataW.TrodAll enc Tryz.prog W 0 (fun _=>true) true Tryz.f11.params.toList args.toList ds p:=hA0;rw [Tryz.params11] at hA hval;obtain⟨v0,vs0,d0,ds0,p0,q0,hargs,rfl,rfl,h0,r0⟩:=trodAll_cons hA;obtain⟨v1,vs1,d1,ds1,p1,q1,rfl,rfl,rfl,h1,r1⟩:=trodAll_cons r0;obtain⟨v2,vs2,d2,ds2,p2,q2,rfl,rfl,rfl,h2,r2⟩:=trodAll_cons r1;obtain⟨v3,vs3,d3,ds3,p3,q3,rfl,rfl,rfl,h3,r3⟩:=trodAll_cons r2;obtain⟨rfl,rfl,rfl⟩:=trodAll_nil r3;obtain rfl:args = #[v0,v1,v2,v3]:=by cases args; simp_all
 obtain⟨rfl,rfl⟩:=trodVars_none hV;have lt0:∀ x ∈ p0,x.block<W.heap.size:=by obtain⟨m,hm⟩:=h0; exact DataW.trod_lt m _ _ _ hm
 have e0:=fun(W':World) (bel:Below W.heap.size W W')=>Below.trod laidOut (by kernel_rfl) (of_decide_eq_true (by kernel_rfl)) h0 bel lt0;have lt1:∀ x ∈ p1,x.block<W.heap.size:=by obtain⟨m,hm⟩:=h1; exact DataW.trod_lt m _ _ _ hm
 have e1:=fun(W':World) (bel:Below W.heap.size W W')=>Below.trod laidOut (by kernel_rfl) (of_decide_eq_true (by kernel_rfl)) h1 bel lt1;have lt2:∀ x ∈ p2,x.block<W.heap.size:=by obtain⟨m,hm⟩:=h2; exact DataW.trod_lt m _ _ _ hm
 have e2:=fun(W':World) (bel:Below W.heap.size W W')=>Below.trod laidOut (by kernel_rfl) (of_decide_eq_true (by kernel_rfl)) h2 bel lt2;have lt3:∀ x ∈ p3,x.block<W.heap.size:=by obtain⟨m,hm⟩:=h3; exact DataW.trod_lt m _ _ _ hm
 have e3:=fun(W':World) (bel:Below W.heap.size W W')=>Below.trod laidOut (by kernel_rfl) (of_decide_eq_true (by kernel_rfl)) h3 bel lt3;obtain⟨sa0,sn0,sc0,ua0,un0,uc0,S0,U0,rfl,hS0,hU0⟩:=open_hull (hval 0 25 v0 rfl rfl) h0;obtain⟨hr1,fr1,pe1,fa1,qa1,fn1,fc1,qn1,qc1,F1,Q1,rfl,hF1,hQ1⟩:=open_pitch (hval 1 29 v1 rfl rfl) h1;obtain⟨x2,oa2,ma2,sa2,ca2,oc2,mc2,sc2,cc2,op2,sp2,ok2,sk2,rfl,hI2⟩:=open_irons (hval 2 34 v2 rfl rfl) h2;obtain⟨a3,rfl,rfl,rfl,w3⟩:=open_int Tryz.underlying5 (hval 3 5 v3 rfl rfl) h3;have b3:=u8_bd w3;obtain⟨f3,rfl⟩:∃ f:UInt8,a3=(f.toNat:Int):=⟨UInt8.ofNat a3.toNat,by rw [UInt8.toNat_ofNat_of_lt' (by have:=b3.2; simp [UInt8.size]; omega)]; omega⟩
 have hst:Stands W:=⟨sides_of hL,lim_of hsh,tab_of hL,size_of hsh⟩
 clear hA0 hval0;refine(bookLines11_any ⟨sa0,ua0,sn0,sc0,un0,uc0,S0,U0⟩ ⟨hr1,fr1,pe1,fa1,qa1,fn1,fc1,qn1,qc1,F1,Q1⟩ ⟨x2,oa2,ma2,sa2,ca2,oc2,mc2,sc2,cc2,op2,sp2,ok2,sk2⟩ f3 W ⟨hS0,hU0⟩ ⟨hF1,hQ1⟩ hI2 hst).mono fun e W' ⟨he,bel⟩=>?_;subst he;exact⟨_,rfl,_,_,_,[],_,[],hW',trodAll_mk1 (shut_bool Tryz.underlying4 _),(trodAll_cons_mk (e0 W' bel) (trodAll_cons_mk (e1 W' bel) (trodAll_cons_mk (e2 W' bel) (trodAll_cons_mk (e3 W' bel) trodAll_mk0)))),rfl,bel.frame _,fun h=>by cases h⟩
theorem row_holds:Rows.BookLinesSaid :=
 OpenClaim.holds_of_wide 11 Tryz.f11 rfl rfl rfl rfl rfl rfl rfl ⟨rfl,rfl,rfl,rfl,rfl⟩ rfl rfl rfl rfl rfl (by kernel_rfl) Tryz.func11 (by kernel_rfl)
  (of_decide_eq_true (by kernel_rfl)) (by unfold Func.isWrapper; first | (rw [if_pos (by decide +kernel)]; kernel_rfl) | (rw [if_neg (by decide +kernel)]; exact⟨rfl,rfl⟩))
  (fun os started H enc _=>lifted os started H enc)
theorem card_holds:Rows.BookLinesCardSaid :=
 Claim7.holds_tied_plain_at .later [] [.data,.data,.data,.data] true (true,"066b7237fe145d4ac2878657bdd85e45b31ce7cfdb8d2acbb89a388b3fa40ac5") true row_holds (fun _ h=>by cases h) (by kernel_rfl) (fun _ h=>by cases h) bookLines_row_tie rfl ⟨rfl,rfl⟩ (by kernel_rfl) rfl
  (fun f fn hf hfn=>by
   obtain rfl:f=11:=Option.some.inj ((show Tryz.prog.funcNamed "caulkworks/caulkworkslaw14.BookLines" = some 11 by kernel_rfl).symm.trans hf) |>.symm
   obtain rfl:fn=Tryz.f11:=(Option.some.inj (Tryz.func11.symm.trans hfn)).symm
   exact⟨by kernel_rfl,fun j t ht=>by
    rw [Tryz.params11] at ht;have hm:t ∈ [25,29,34,5]:=by simpa using Array.mem_of_getElem? ht
    have hall:([25,29,34,5].all fun u => !Tryz.prog.wantsStandIn u)=true:=by kernel_rfl
    exact(show Tryz.prog.wantsStandIn t=false by simpa using List.all_eq_true.1 hall t hm)⟩)
  (by kernel_rfl)
#print axioms card_holds
end Go.Proofs.YtclbmlmlhiiaeaaGreatDoor.bookLines
