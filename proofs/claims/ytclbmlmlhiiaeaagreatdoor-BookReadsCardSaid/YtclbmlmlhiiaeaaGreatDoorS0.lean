/- What the laws are given; what stands; what is written, by it -/
import Derived.Test.YtclbmlmlhiiaeaaGreatDoorQW6
namespace Go.Proofs.YtclbmlmlhiiaeaaGreatDoor
open Go.RowKit
structure HullA where
 (sa ua:Option Addr) (sn sc un uc:Nat) (S:Nat→Sea) (U:Nat→Sou)
structure PitA where
 (hr fr pe:Int) (fa qa:Option Addr) (fn fc qn qc:Nat) (F:Nat→Int) (Q:Nat→Pot)
structure IrA where
 (x:IronsV) (oa ma sa ca:Option Addr) (oc mc sc cc:Nat) (op sp:Nat→Option Addr) (ok sk:Nat→Nat)
structure WagA where
 (cr:Int) (sa ta:Option Addr) (sn sc tn tc:Nat) (S T:Nat→Nat→Int)
structure HullA.At (h:HullA) (W:World):Prop where
 s:SeasAt W h.sa h.sn h.S
 u:SousAt W h.ua h.un h.U
structure PitA.At (p:PitA) (W:World):Prop where
 f:IntsAt W p.fa p.fn p.F
 q:PotsAt W p.qa p.qn p.Q
abbrev IrA.At(x:IrA)(W:World):Prop:=IronsAt x.x x.oa x.ma x.sa x.ca x.oc x.mc x.sc x.cc x.op x.sp x.ok x.sk W
structure WagA.At (g:WagA) (W:World):Prop where
 s:NumsAt W g.sa g.sn 2 g.S
 t:NumsAt W g.ta g.tn 8 g.T
theorem HullA.At.grow{h:HullA}{W W':World}(x:h.At W)(hb:Below W.heap.size W W'):h.At W':=⟨x.s.grow hb,x.u.grow hb⟩
theorem PitA.At.grow{p:PitA}{W W':World}(x:p.At W)(hb:Below W.heap.size W W'):p.At W':=⟨x.f.grow hb,x.q.grow hb⟩
theorem WagA.At.grow{g:WagA}{W W':World}(x:g.At W)(hb:Below W.heap.size W W'):g.At W':=⟨x.s.grow hb,x.t.grow hb⟩
structure Stands (w:World):Prop where
 sides:Sides w
 lim:Lim w
 tab:Tab w
 size:1<w.heap.size
theorem Stands.grow{w W:World}(h:Stands w)(hb:Below w.heap.size w W):Stands W :=
 ⟨h.sides.grow hb,h.lim.keep (Keep.of_below hb (C:=fun k=>k<w.heap.size) fun _ hk=>hk) h.size,h.tab.grow hb,Nat.lt_of_lt_of_le h.size hb.size⟩
theorem awake_any{w:World}(h:Stands w):Calls Tryz.prog 13 #[] w fun e w'=>e = .returned (.bool true)∧Below w.heap.size w w':=awake13_any w h.sides h.lim h.tab h.size
end Go.Proofs.YtclbmlmlhiiaeaaGreatDoor
