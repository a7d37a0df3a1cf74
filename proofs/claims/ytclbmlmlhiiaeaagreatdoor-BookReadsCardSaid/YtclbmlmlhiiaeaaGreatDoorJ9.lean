/- Walks: a pitch is read by the reference. -/
import Derived.Test.YtclbmlmlhiiaeaaGreatDoorQJ1
import Derived.Test.YtclbmlmlhiiaeaaGreatDoorJ8
namespace Go.Proofs.YtclbmlmlhiiaeaaGreatDoor
open Go.RowKit
def pitD(x:PitV)(v1 v2:Value):List RowD:=[⟨3,1,x.f.length,v1,intsV x.f⟩,⟨147,3,x.q.length,v2,potV x.q⟩]
abbrev RdPit(w:World)(la:Option Addr)(ls:List (List UInt8))(s1:Nat)(x:PitV)(v1 v2:Value)(W:World):Prop:=RdS w la ls s1 29 #[.int .i64 0,.int .i64 0,.int .i64 0,.slice none 0 0,.slice none 0 0] #[.int .i64 x.hr,.int .i64 x.fr,.int .i64 x.pe,v1,v2] (pitD x v1 v2) W
section
variable {w W W2:World} {la pa:Option Addr} {ls p:List (List UInt8)} {s1 g cap:Nat} {x:PitV} {v1 v2:Value}
theorem RdPit.hr(h:RdPit w la ls s1 x v1 v2 W)(n:Int):RdPit w la ls s1 {x with hr:=n} v1 v2 (W.setCell ⟨w.heap.size+1,0,none⟩ (.int .i64 n)):=RdS.put h 0 _
theorem RdPit.fr(h:RdPit w la ls s1 x v1 v2 W)(n:Int):RdPit w la ls s1 {x with fr:=n} v1 v2 (W.setCell ⟨w.heap.size+1,1,none⟩ (.int .i64 n)):=RdS.put h 1 _
theorem RdPit.pe(h:RdPit w la ls s1 x v1 v2 W)(n:Int):RdPit w la ls s1 {x with pe:=n} v1 v2 (W.setCell ⟨w.heap.size+1,2,none⟩ (.int .i64 n)):=RdS.put h 2 _
theorem intsV_snoc(l:List Int)(n:Int):intsV (l ++ [n])=intsV l ++ [.int .i64 n]:=by simp [intsV]
theorem RdPit.fire(h:RdPit w la ls s1 x v1 v2 W)(hp:PAt s1 pa p (pitD x v1 v2) W){n:Int}(h2:W2.ownsRow s1 3 1 (.slice (some ⟨g,0,none⟩) (x.f.length+1) cap) (x.f.length+1) (intsV x.f ++ [.int .i64 n]))
  (h3:W.grownBy W2 v1.ownBlock) (h4:v1.ownBlock=some g∨g=W.heap.size) :
  RdPit w la ls s1 {x with f:=x.f ++ [n]} (.slice (some ⟨g,0,none⟩) (x.f.length+1) cap) v2 (W2.setCell ⟨w.heap.size+1,3,none⟩ (.slice (some ⟨g,0,none⟩) (x.f.length+1) cap)) ∧
   PAt s1 pa p (pitD {x with f:=x.f ++ [n]} (.slice (some ⟨g,0,none⟩) (x.f.length+1) cap) v2) (W2.setCell ⟨w.heap.size+1,3,none⟩ (.slice (some ⟨g,0,none⟩) (x.f.length+1) cap))∧BoxAt W2 (w.heap.size+1) #[.int .i64 x.hr,.int .i64 x.fr,.int .i64 x.pe,v1,v2] 29:=by
 have hd:(⟨3,1,x.f.length,v1,intsV x.f⟩:RowD) ∈ pitD x v1 v2:=List.mem_cons_self
 have hw:RowD.At s1 W2 ⟨3,1,(x.f ++ [n]).length,.slice (some ⟨g,0,none⟩) (x.f.length+1) cap,intsV (x.f ++ [n])⟩:=by
  unfold RowD.At;dsimp only;rw [List.length_append,intsV_snoc];exact h2
 have hR:∀ e,e ∈ pitD {x with f:=x.f ++ [n]} (.slice (some ⟨g,0,none⟩) (x.f.length+1) cap) v2→e=⟨3,1,(x.f ++ [n]).length,.slice (some ⟨g,0,none⟩) (x.f.length+1) cap,intsV (x.f ++ [n])⟩∨(e ∈ pitD x v1 v2∧e.E≠3):=fun e he=>by
  simp only [pitD,List.mem_cons,List.not_mem_nil,or_false] at he ⊢;rcases he with rfl | rfl
  ·exact .inl rfl
  ·exact .inr ⟨.inr rfl,(show(147:Nat)≠3 by decide)⟩
 exact⟨RdS.next h hd h3 hw hR 3,PAt.next hp h hd h3 (fun k e=>by cases e; exact h4) hR 3,RdS.box2 h hd h3⟩
theorem RdPit.pot(h:RdPit w la ls s1 x v1 v2 W)(hp:PAt s1 pa p (pitD x v1 v2) W){y:Pot}(h2:W2.ownsRow s1 147 3 (.slice (some ⟨g,0,none⟩) (x.q.length+1) cap) (x.q.length+1) (potV x.q ++ [.int .i64 y.h,.int .i64 y.f,.int .i64 y.b]))
  (h3:W.grownBy W2 v2.ownBlock) (h4:v2.ownBlock=some g∨g=W.heap.size) :
  RdPit w la ls s1 {x with q:=x.q ++ [y]} v1 (.slice (some ⟨g,0,none⟩) (x.q.length+1) cap) (W2.setCell ⟨w.heap.size+1,4,none⟩ (.slice (some ⟨g,0,none⟩) (x.q.length+1) cap)) ∧
   PAt s1 pa p (pitD {x with q:=x.q ++ [y]} v1 (.slice (some ⟨g,0,none⟩) (x.q.length+1) cap)) (W2.setCell ⟨w.heap.size+1,4,none⟩ (.slice (some ⟨g,0,none⟩) (x.q.length+1) cap))∧BoxAt W2 (w.heap.size+1) #[.int .i64 x.hr,.int .i64 x.fr,.int .i64 x.pe,v1,v2] 29:=by
 have hd:(⟨147,3,x.q.length,v2,potV x.q⟩:RowD) ∈ pitD x v1 v2:=List.mem_cons_of_mem _ List.mem_cons_self
 have hw:RowD.At s1 W2 ⟨147,3,(x.q ++ [y]).length,.slice (some ⟨g,0,none⟩) (x.q.length+1) cap,potV (x.q ++ [y])⟩:=by
  unfold RowD.At;dsimp only;rw [List.length_append,potV_snoc];exact h2
 have hR:∀ e,e ∈ pitD {x with q:=x.q ++ [y]} v1 (.slice (some ⟨g,0,none⟩) (x.q.length+1) cap)→e=⟨147,3,(x.q ++ [y]).length,.slice (some ⟨g,0,none⟩) (x.q.length+1) cap,potV (x.q ++ [y])⟩∨(e ∈ pitD x v1 v2∧e.E≠147):=fun e he=>by
  simp only [pitD,List.mem_cons,List.not_mem_nil,or_false] at he ⊢;rcases he with rfl | rfl
  ·exact .inr ⟨.inl rfl,(show(3:Nat)≠147 by decide)⟩
  ·exact .inl rfl
 exact⟨RdS.next h hd h3 hw hR 4,PAt.next hp h hd h3 (fun k e=>by cases e; exact h4) hR 4,RdS.box2 h hd h3⟩
end
structure PitLen (k:Nat) (x:PitV):Prop where
 f:x.f.length≤k
 q:x.q.length≤k
theorem PitLen.l1{k i:Nat}{x:PitV}{p:List (List UInt8)}(h:PitLen k x):PitLen k (pitL1 i x p):=by
 unfold pitL1
 split
 ·exact⟨h.f,h.q⟩
 ·exact h
theorem PitLen.l2{k i:Nat}{x:PitV}{p:List (List UInt8)}(h:PitLen k x):PitLen k (pitL2 i x p):=by
 unfold pitL2
 split
 ·exact⟨h.f,h.q⟩
 ·exact h
theorem PitLen.l34{k:Nat}{x:PitV}{p:List (List UInt8)}(h:PitLen k x):PitLen (k+1) (pitL4 (pitL3 x p) p):=by
 have h1:=h.f;have h2:=h.q
 have e3:(pitL3 x p).f.length≤k+1∧(pitL3 x p).q=x.q:=by
  unfold pitL3
  split
  ·exact⟨by rw [List.length_append,List.length_singleton]; omega,rfl⟩
  ·exact⟨by omega,rfl⟩
 unfold pitL4
 split
 ·exact⟨e3.1,by rw [List.length_append,List.length_singleton,e3.2]; omega⟩
 ·exact⟨e3.1,by rw [e3.2]; omega⟩
theorem fold_pit(ls:List (List UInt8)):∀ k,PitLen k (foldN pitL ⟨-1,0,0,[],[]⟩ ls k)
 | 0=>⟨Nat.le_refl _,Nat.le_refl _⟩
 | k+1=>(fold_pit ls k).l1.l2.l34
theorem atN_lt(p:List (List UInt8)):∀ k,0<k→atN p k<k
 | k+1,_=>by
  show(if p.getD k []=perhW then k else atN p k)<k+1
  split
  ·omega
  ·rcases Nat.eq_zero_or_pos k with rfl | h
   ·exact Nat.lt_succ_self 0
   ·have:=atN_lt p k h
    omega
theorem tail80{oa:Option Addr}{n c l:Nat}(ho:oa=some ⟨blk oa,ofs oa,none⟩)(h1:l≤n)(hn:n≤c) :
  ∃ oa',(∀ w,(Instr.sliceAt 80 (.slice oa n c) (some (.int .i64 l)) none none).run Tryz.prog w = .ok (.slice oa' (n - l) (c - l)) w)∧(l<n→oa'=some ⟨blk oa,ofs oa+l,none⟩):=by
 refine⟨if c=l then oa else oa.map (·.add (l * 1)),fun w=>?_,fun h=>?_⟩
 ·rw [run_sliceAt_slice w 80 _ _ _ _ (by rw [elem80]; exact strs80),run_slice_l w 80 oa n c (by rw [elem80]; exact strs80) .i64 l (by omega) (by omega),size80]
  simp only [Result.andThen,sliced,Int.toNat_natCast]
 ·rw [if_neg (show ¬ c=l by omega),ho]
  simp only [Option.map,blk,ofs,Nat.mul_one,Addr.add]
  split
  ·rename_i e; subst e; rfl
  ·rfl
end Go.Proofs.YtclbmlmlhiiaeaaGreatDoor
