/- Walks: the reference's word on wages. Walks: wages written b -/
import Derived.Test.YtclbmlmlhiiaeaaGreatDoorQV2
import Derived.Test.YtclbmlmlhiiaeaaGreatDoorQE4
import Derived.Test.YtclbmlmlhiiaeaaGreatDoorQW6
import Derived.Lib.MinMax
namespace Go.Proofs.YtclbmlmlhiiaeaaGreatDoor
open Go.RowKit
structure TBx (w:World) (cr:Int) (sa ta:Option Addr) (sn sc tn tc:Nat) (S T:Nat→Nat→Int) (tb:Nat) (t:Nat→Int) (W:World):Prop where
 wb:WB w cr sa ta sn sc tn tc S T W
 tb:BoxAt W tb #[.int .i64 (t 0),.int .i64 (t 1),.int .i64 (t 2),.int .i64 (t 3),.int .i64 (t 4),.int .i64 (t 5),.int .i64 (t 6),.int .i64 (t 7)] 130
theorem TBx.grow{w W W':World}{cr:Int}{sa ta:Option Addr}{sn sc tn tc:Nat}{S T:Nat→Nat→Int}{tb:Nat}{t:Nat→Int}(h:TBx w cr sa ta sn sc tn tc S T tb t W)(hb:Below W.heap.size W W'):TBx w cr sa ta sn sc tn tc S T tb t W' :=
 ⟨h.wb.grow hb,h.tb.grow hb⟩
theorem TBx.new{w W:World}{cr:Int}{sa ta:Option Addr}{sn sc tn tc:Nat}{S T:Nat→Nat→Int}(h:WB w cr sa ta sn sc tn tc S T W)(t:Nat→Int) :
  TBx w cr sa ta sn sc tn tc S T W.heap.size t (W.alloc (.cells #[.int .i64 (t 0),.int .i64 (t 1),.int .i64 (t 2),.int .i64 (t 3),.int .i64 (t 4),.int .i64 (t 5),.int .i64 (t 6),.int .i64 (t 7)] 130)) :=
 ⟨h.grow ((Below.refl _ _).alloc (Nat.le_refl _) _),(blocks1 rfl).1⟩
theorem WagesOk.small{cr:Int}{S:Nat→Nat→Int}{sn:Nat}{T:Nat→Nat→Int}{tn:Nat}(h:WagesOk cr S sn T tn):SmallW (wagesV cr S sn T tn) where
 cr:=by have:=h.hcr; show cr.toNat≤1000; omega
 sn:=by have:=h.hsn; show sn≤100; omega
 tn:=by have:=h.htn; show tn≤100; omega
 s:=fun i hi=>by have:=h.s i hi; show(S i 0).toNat≤1000∧(S i 1).toNat≤1000; omega
 t:=fun i hi=>by have:=h.t i hi; have:=h.hcr; have:=h.hsn; show(T i 0).toNat≤1000∧(T i 1).toNat≤1000; omega
 pre:=h.pre
theorem run_max10{P:Program}(w:World)(ts:Array TypeId)(t:TypeId)(a b c d e f g h i j:Int) :
  (Builtin.max_ ts t #[.int .i64 a,.int .i64 b,.int .i64 c,.int .i64 d,.int .i64 e,.int .i64 f,.int .i64 g,.int .i64 h,.int .i64 i,.int .i64 j]).run P w = .ok (.int .i64 (max (max (max (max (max (max (max (max (max a b) c) d) e) f) g) h) i) j)) w:=by
 have k:∀ x y:Int,(if y > x then y else x)=max x y:=fun x y=>by
  rw [Int.max_def]
  split <;> split <;> omega
 simp only [gt_iff_lt] at k;simp [Builtin.max_,Builtin.max2,k]
structure FI (w:World) (b:Nat) (f:Int) (oa ma ka ca:Option Addr) (on oc mn mc kn kc cn cc:Nat) (op sp:Nat→Option Addr) (ol ok sl sk:Nat→Nat) (W:World):Prop where
 bel:Below w.heap.size w W
 bx:BoxAt W b #[.int .i64 f,.slice oa on oc,.slice ma mn mc,.slice ka kn kc,.slice ca cn cc] 34
 o:SlicesAt W oa on op ol ok
 s:SlicesAt W ka kn sp sl sk
set_option maxRecDepth 100000 in
set_option maxHeartbeats 2000000 in
theorem far12_any(sa ua fa qa oa ma ka ca wa ta:Option Addr)(sn sc un uc fn fc qn qc on oc mn mc kn kc cn cc wn wc tn tc:Nat)(hr fr pe f cr:Int)(op sp:Nat→Option Addr)(ol ok sl sk:Nat→Nat)(w:World)(hO:SlicesAt w oa on op ol ok)(hK:SlicesAt w ka kn sp sl sk) :
  Calls Tryz.prog 12 #[.agg #[.slice sa sn sc,.slice ua un uc],.agg #[.int .i64 hr,.int .i64 fr,.int .i64 pe,.slice fa fn fc,.slice qa qn qc],.agg #[.int .i64 f,.slice oa on oc,.slice ma mn mc,.slice ka kn kc,.slice ca cn cc],.agg #[.int .i64 cr,.slice wa wn wc,.slice ta tn tc]] w fun e w'=>(∃ b:Bool,e = .returned (.bool b))∧Below w.heap.size w w':=by
 have ho:=hO.small;have hk:=hK.small;unfold maxLen at ho hk
 obtain⟨z,hz⟩:∃ z:Int,∀ (W:World) (ts:Array TypeId) (t:TypeId),(Builtin.max_ ts t #[.int .i64 (sn:Nat),.int .i64 (un:Nat),.int .i64 (fn:Nat),.int .i64 (qn:Nat),.int .i64 (on:Nat),.int .i64 (mn:Nat),.int .i64 (kn:Nat),.int .i64 (cn:Nat),.int .i64 (wn:Nat),.int .i64 (tn:Nat)]).run Tryz.prog W = .ok (.int .i64 z) W :=
  ⟨_,fun W ts t=>run_max10 (P:=Tryz.prog) W ts t (sn:Nat) (un:Nat) (fn:Nat) (qn:Nat) (on:Nat) (mn:Nat) (kn:Nat) (cn:Nat) (wn:Nat) (tn:Nat)⟩
 go_enter Tryz.func12,Tryz.ntmps12;go_upto_region 1 with (fail)
 generalize hW:World.alloc _ _=W0;obtain⟨z0,z1,z2,z3,-,hB⟩:=blocks4 hW;have I0:=Lib.hid (show FI w (w.heap.size+1+1) f oa ma ka ca on oc mn mc kn kc cn cc op sp ol ok sl sk W0 from⟨hB,z2,Row.grow hO hB,Row.grow hK hB⟩);have a0:=cellAt z0 0;have a1:=cellAt z0 1;have a2:=cellAt z1 3;have a3:=cellAt z1 4;have a4:=cellAt z2 1;have a5:=cellAt z2 2;have a6:=cellAt z2 3;have a7:=cellAt z2 4;have a8:=cellAt z3 1;have a9:=cellAt z3 2;simp only [List.getElem?_toArray,List.getElem?_cons_zero,List.getElem?_cons_succ] at a0 a1 a2 a3 a4 a5 a6 a7 a8 a9;clear hW z0 z1 z2 z3 hB hO hK;go_upto_region 2 with (fail)
 clear hz a0 a1 a2 a3 a4 a5 a6 a7 a8 a9;have a4:=cellAt I0.out.bx 1;simp only [List.getElem?_toArray,List.getElem?_cons_zero,List.getElem?_cons_succ] at a4;go_wp2_with fail
 go_loop [9,48] (fun m i => ∃ (k:Nat) (y:Int),k≤on∧i = .int .i64 k∧m = .int .i64 y) (fun _ i=>on - (intOf i).toNat)
 case atStart=>exact⟨0,z,Nat.zero_le _,rfl,rfl⟩
 case round =>
  obtain⟨k,y,hk1,rfl,rfl⟩:=hrel;by_cases hlt:k<on
  ·have hi:=fun W=>run_indexAt_row (w:=W) (cap:=oc) owners30 size26 (I0.out.o.plain (by omega)) hlt
   have c0:=I0.out.o.cells k hlt 0 (by omega);simp only [Nat.add_zero,Nat.mul_one] at c0;go_wp2_with fail;exact⟨⟨k+1,_,hlt,by go_num,rfl⟩,by simp [intOf]; omega⟩
  ·obtain rfl:k=on:=by omega
   have a6:=cellAt I0.out.bx 3;simp only [List.getElem?_toArray,List.getElem?_cons_zero,List.getElem?_cons_succ] at a6;go_wp2_with fail
   go_loop [9,60] (fun m i => ∃ (j:Nat) (y:Int),j≤kn∧i = .int .i64 j∧m = .int .i64 y) (fun _ i=>kn - (intOf i).toNat)
   case atStart=>exact⟨0,y,Nat.zero_le _,rfl,rfl⟩
   case round =>
    obtain⟨j,y2,hj,rfl,rfl⟩:=hrel;by_cases hlt2:j<kn
    ·have hi:=fun W=>run_indexAt_row (w:=W) (cap:=kc) strakes31 size85 (I0.out.s.plain (by omega)) hlt2
     have c0:=I0.out.s.cells j hlt2 0 (by omega);simp only [Nat.add_zero,Nat.mul_one] at c0;go_wp2_with fail;exact⟨⟨j+1,_,hlt2,by go_num,rfl⟩,by simp [intOf]; omega⟩
    ·obtain rfl:j=kn:=by omega
     go_wp2_with fail;exact bodyPost_ret (v:=.bool (decide (40<y2))) (by simp [results,Tryz.results12,go_sem]) rfl ⟨by cases decide (40<y2) <;> simp,I0.out.bel⟩
structure HullA where
 (sa ua:Option Addr) (sn sc un uc:Nat) (S:Nat→Sea) (U:Nat→Sou)
structure PitA where
 (hr fr pe:Int) (fa qa:Option Addr) (fn fc qn qc:Nat) (F:Nat→Int) (Q:Nat→Pot)
structure IrA where
 (x:IronsV) (oa ma sa ca:Option Addr) (oc mc sc cc:Nat) (op sp:Nat→Option Addr) (ok sk:Nat→Nat)
structure WagA where
 (cr:Int) (sa ta:Option Addr) (sn sc tn tc:Nat) (S T:Nat→Nat→Int)
structure HullA.At (h:HullA) (W:World):Prop where
 s:SeasAt W h.sa h.sn h.S
 u:SousAt W h.ua h.un h.U
structure PitA.At (p:PitA) (W:World):Prop where
 f:IntsAt W p.fa p.fn p.F
 q:PotsAt W p.qa p.qn p.Q
abbrev IrA.At(x:IrA)(W:World):Prop:=IronsAt x.x x.oa x.ma x.sa x.ca x.oc x.mc x.sc x.cc x.op x.sp x.ok x.sk W
structure WagA.At (g:WagA) (W:World):Prop where
 s:NumsAt W g.sa g.sn 2 g.S
 t:NumsAt W g.ta g.tn 8 g.T
theorem HullA.At.grow{h:HullA}{W W':World}(x:h.At W)(hb:Below W.heap.size W W'):h.At W':=⟨x.s.grow hb,x.u.grow hb⟩
theorem PitA.At.grow{p:PitA}{W W':World}(x:p.At W)(hb:Below W.heap.size W W'):p.At W':=⟨x.f.grow hb,x.q.grow hb⟩
theorem WagA.At.grow{g:WagA}{W W':World}(x:g.At W)(hb:Below W.heap.size W W'):g.At W':=⟨x.s.grow hb,x.t.grow hb⟩
structure Stands (w:World):Prop where
 sides:Sides w
 lim:Lim w
 tab:Tab w
 size:1<w.heap.size
theorem Stands.grow{w W:World}(h:Stands w)(hb:Below w.heap.size w W):Stands W :=
 ⟨h.sides.grow hb,h.lim.keep (Keep.of_below hb (C:=fun k=>k<w.heap.size) fun _ hk=>hk) h.size,h.tab.grow hb,Nat.lt_of_lt_of_le h.size hb.size⟩
theorem awake_any{w:World}(h:Stands w):Calls Tryz.prog 13 #[] w fun e w'=>e = .returned (.bool true)∧Below w.heap.size w w':=awake13_any w h.sides h.lim h.tab h.size
def WroteT(s:List UInt8)(e:Int):Value:=.tuple #[.string ⟨s.toArray⟩,.int .i64 e]
structure LA (w:World) (h:HullA) (p:PitA) (x:IrA) (g:WagA) (W:World):Prop where
 bel:Below w.heap.size w W
 st:Stands W
 b0:BoxAt W (w.heap.size ) #[.slice h.sa h.sn h.sc,.slice h.ua h.un h.uc] 25
 a0:h.At W
 b1:BoxAt W (w.heap.size+1) #[.int .i64 p.hr,.int .i64 p.fr,.int .i64 p.pe,.slice p.fa p.fn p.fc,.slice p.qa p.qn p.qc] 29
 a1:p.At W
 b2:BoxAt W (w.heap.size+1+1) #[.int .i64 x.x.f,.slice x.oa x.x.on x.oc,.slice x.ma x.x.mn x.mc,.slice x.sa x.x.sn x.sc,.slice x.ca x.x.cn x.cc] 34
 a2:x.At W
 b3:BoxAt W (w.heap.size+1+1+1) #[.int .i64 g.cr,.slice g.sa g.sn g.sc,.slice g.ta g.tn g.tc] 38
 a3:g.At W
theorem LA.grow{w W W':World}{h:HullA}{p:PitA}{x:IrA}{g:WagA}(z:LA w h p x g W)(hb:Below W.heap.size W W'):LA w h p x g W' :=
 ⟨z.bel.next hb,z.st.grow hb,z.b0.grow hb,z.a0.grow hb,z.b1.grow hb,z.a1.grow hb,z.b2.grow hb,IronsAt.grow z.a2 hb,z.b3.grow hb,z.a3.grow hb⟩
end Go.Proofs.YtclbmlmlhiiaeaaGreatDoor
