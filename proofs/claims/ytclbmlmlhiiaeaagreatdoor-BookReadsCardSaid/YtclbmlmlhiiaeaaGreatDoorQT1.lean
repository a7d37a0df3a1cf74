/- Walks: the reference's word on wages. Walks: wages written b -/
import Derived.Test.YtclbmlmlhiiaeaaGreatDoorQV2
import Derived.Test.YtclbmlmlhiiaeaaGreatDoorQE4
import Derived.Test.YtclbmlmlhiiaeaaGreatDoorQW6
import Derived.Lib.MinMax
import Derived.Test.YtclbmlmlhiiaeaaGreatDoorS0
namespace Go.Proofs.YtclbmlmlhiiaeaaGreatDoor
open Go.RowKit
structure TBx (w:World) (cr:Int) (sa ta:Option Addr) (sn sc tn tc:Nat) (S T:Nat→Nat→Int) (tb:Nat) (t:Nat→Int) (W:World):Prop where
 wb:WB w cr sa ta sn sc tn tc S T W
 tb:BoxAt W tb #[.int .i64 (t 0),.int .i64 (t 1),.int .i64 (t 2),.int .i64 (t 3),.int .i64 (t 4),.int .i64 (t 5),.int .i64 (t 6),.int .i64 (t 7)] 130
theorem TBx.grow{w W W':World}{cr:Int}{sa ta:Option Addr}{sn sc tn tc:Nat}{S T:Nat→Nat→Int}{tb:Nat}{t:Nat→Int}(h:TBx w cr sa ta sn sc tn tc S T tb t W)(hb:Below W.heap.size W W'):TBx w cr sa ta sn sc tn tc S T tb t W' :=
 ⟨h.wb.grow hb,h.tb.grow hb⟩
theorem TBx.new{w W:World}{cr:Int}{sa ta:Option Addr}{sn sc tn tc:Nat}{S T:Nat→Nat→Int}(h:WB w cr sa ta sn sc tn tc S T W)(t:Nat→Int) :
  TBx w cr sa ta sn sc tn tc S T W.heap.size t (W.alloc (.cells #[.int .i64 (t 0),.int .i64 (t 1),.int .i64 (t 2),.int .i64 (t 3),.int .i64 (t 4),.int .i64 (t 5),.int .i64 (t 6),.int .i64 (t 7)] 130)) :=
 ⟨h.grow ((Below.refl _ _).alloc (Nat.le_refl _) _),(blocks1 rfl).1⟩
theorem WagesOk.small{cr:Int}{S:Nat→Nat→Int}{sn:Nat}{T:Nat→Nat→Int}{tn:Nat}(h:WagesOk cr S sn T tn):SmallW (wagesV cr S sn T tn) where
 cr:=by have:=h.hcr; show cr.toNat≤1000; omega
 sn:=by have:=h.hsn; show sn≤100; omega
 tn:=by have:=h.htn; show tn≤100; omega
 s:=fun i hi=>by have:=h.s i hi; show(S i 0).toNat≤1000∧(S i 1).toNat≤1000; omega
 t:=fun i hi=>by have:=h.t i hi; have:=h.hcr; have:=h.hsn; show(T i 0).toNat≤1000∧(T i 1).toNat≤1000; omega
 pre:=h.pre
structure LA (w:World) (h:HullA) (p:PitA) (x:IrA) (g:WagA) (W:World):Prop where
 bel:Below w.heap.size w W
 st:Stands W
 b0:BoxAt W (w.heap.size ) #[.slice h.sa h.sn h.sc,.slice h.ua h.un h.uc] 25
 a0:h.At W
 b1:BoxAt W (w.heap.size+1) #[.int .i64 p.hr,.int .i64 p.fr,.int .i64 p.pe,.slice p.fa p.fn p.fc,.slice p.qa p.qn p.qc] 29
 a1:p.At W
 b2:BoxAt W (w.heap.size+1+1) #[.int .i64 x.x.f,.slice x.oa x.x.on x.oc,.slice x.ma x.x.mn x.mc,.slice x.sa x.x.sn x.sc,.slice x.ca x.x.cn x.cc] 34
 a2:x.At W
 b3:BoxAt W (w.heap.size+1+1+1) #[.int .i64 g.cr,.slice g.sa g.sn g.sc,.slice g.ta g.tn g.tc] 38
 a3:g.At W
theorem LA.grow{w W W':World}{h:HullA}{p:PitA}{x:IrA}{g:WagA}(z:LA w h p x g W)(hb:Below W.heap.size W W'):LA w h p x g W' :=
 ⟨z.bel.next hb,z.st.grow hb,z.b0.grow hb,z.a0.grow hb,z.b1.grow hb,z.a1.grow hb,z.b2.grow hb,IronsAt.grow z.a2 hb,z.b3.grow hb,z.a3.grow hb⟩
end Go.Proofs.YtclbmlmlhiiaeaaGreatDoor
