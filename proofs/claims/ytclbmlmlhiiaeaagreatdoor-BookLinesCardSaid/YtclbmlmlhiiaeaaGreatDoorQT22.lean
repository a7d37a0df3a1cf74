/- Plain laws for BookBack: what is written of a hull and of a -/
import Derived.Test.YtclbmlmlhiiaeaaGreatDoorQZ1
import Derived.Test.YtclbmlmlhiiaeaaGreatDoorQT6
import Derived.Test.YtclbmlmlhiiaeaaGreatDoorQP3
namespace Go.Proofs.YtclbmlmlhiiaeaaGreatDoor
open Go.RowKit
theorem hull_back(S:Nat→Sea)(n:Nat)(U:Nat→Sou)(m:Nat):∃ s e,wroteHull S n U m=WroteT s e∧s.length≤1000 ∧
  ((hullB S n U m=true∧e=0∧(hullRes s).1=0∧HullOk S n U m∧HullOk (seaOf (hullRes s).2.s) (hullRes s).2.s.length (souOf (hullRes s).2.u) (hullRes s).2.u.length∧hullT (seaOf (hullRes s).2.s) (hullRes s).2.s.length (souOf (hullRes s).2.u) (hullRes s).2.u.length=hullT S n U m)∨(hullB S n U m=false∧e=1∧s = []∧(hullRes s).1=8)):=by
 cases h:hullB S n U m with
 | false =>
  refine⟨[],1,by unfold wroteHull; rw [h]; rfl,by decide,.inr ⟨rfl,rfl,rfl,by rw [hullRes_empty]⟩⟩
 | true =>
  refine⟨hullT S n U m,0,by unfold wroteHull; rw [h]; rfl,hull_short h,.inl ⟨rfl,rfl,?_⟩⟩;rw [hullRes_back h];have eS:∀ i,i<n→seaOf (listN S n) i=S i:=fun i hi=>listN_get S _ n i hi;have eU:∀ i,i<m→souOf (listN U m) i=U i:=fun i hi=>listN_get U _ m i hi;dsimp only;rw [listN_len,listN_len];exact⟨rfl,hull_ok h,hull_ok ((hullB_congr eS eU).trans h),hullT_congr eS eU⟩
theorem pit_back(hr fr pe:Int)(F:Nat→Int)(fn:Nat)(Q:Nat→Pot)(qn:Nat):∃ s e,wrotePitch hr fr pe F fn Q qn=WroteT s e∧s.length≤1000 ∧
  ((pitchB hr fr pe F fn Q qn=true∧e=0∧(pitRes s).1=0∧PitOk hr fr pe F fn Q qn∧PitOk (pitRes s).2.hr (pitRes s).2.fr (pitRes s).2.pe (intOf' (pitRes s).2.f) (pitRes s).2.f.length (potOf (pitRes s).2.q) (pitRes s).2.q.length∧pitVT (pitRes s).2=pitchT hr fr pe F fn Q qn)∨(pitchB hr fr pe F fn Q qn=false∧e=1∧s = []∧(pitRes s).1=8)):=by
 cases h:pitchB hr fr pe F fn Q qn with
 | false =>
  refine⟨[],1,by unfold wrotePitch; rw [h]; rfl,by decide,.inr ⟨rfl,rfl,rfl,by rw [pitRes_empty]⟩⟩
 | true =>
  refine⟨pitchT hr fr pe F fn Q qn,0,by unfold wrotePitch; rw [h]; rfl,pitch_short h,.inl ⟨rfl,rfl,?_⟩⟩;rw [pitRes_back h];have eF:∀ i,i<fn→intOf' (listN F fn) i=F i:=fun i hi=>listN_get F _ fn i hi;have eQ:∀ i,i<qn→potOf (listN Q qn) i=Q i:=fun i hi=>listN_get Q _ qn i hi;unfold pitVT;dsimp only;rw [listN_len,listN_len];exact⟨rfl,pitch_ok h,pitch_ok ((pitchB_congr eF eQ).trans h),pitchT_congr eF eQ⟩
theorem iron_back(x:IronsV):∃ s e,wroteIrons x=WroteT s e∧s.length≤1000 ∧
  ((ironsB x=true∧e=0∧(ironRes s).1=0∧IrOk x∧IrOk (toV (ironRes s).2)∧sameI (toV (ironRes s).2) x=true)∨(ironsB x=false∧e=1∧s = []∧(ironRes s).1=8)):=by
 cases h:ironsB x with
 | false =>
  refine⟨[],1,by unfold wroteIrons; rw [h]; rfl,by decide,.inr ⟨rfl,rfl,rfl,by rw [ironRes_empty]⟩⟩
 | true =>
  refine⟨ironsT x,0,by unfold wroteIrons; rw [h]; rfl,irons_short h,.inl ⟨rfl,rfl,?_⟩⟩;have ok:=irons_ok h;have he:=backI_eq ok.mn;rw [ironRes_back h];dsimp only;refine⟨rfl,ok,irons_ok ((ironsB_congr he).trans h),?_⟩;unfold sameI;rw [decide_eq_true he.mn,decide_eq_true (he.mn.trans (ok.mn.trans he.on.symm)),decide_eq_true ok.mn,ironsT_congr he ok.mn,beq_self_eq_true];rfl
end Go.Proofs.YtclbmlmlhiiaeaaGreatDoor
