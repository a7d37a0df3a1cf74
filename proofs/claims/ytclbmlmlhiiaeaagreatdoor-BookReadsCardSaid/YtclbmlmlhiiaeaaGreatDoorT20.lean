/- Walks: BookAgain. -/
import Derived.Test.YtclbmlmlhiiaeaaGreatDoorS0
import Derived.Test.YtclbmlmlhiiaeaaGreatDoorQY3
import Derived.Lib.MinMax
namespace Go.Proofs.YtclbmlmlhiiaeaaGreatDoor
open Go.RowKit
structure BW (x:WagesV) (p:Nat) (sa ta:Option Addr) (sc tc:Nat) (W:World):Prop where
 box:BoxAt W p #[.int .i64 x.cr,.slice sa x.sn sc,.slice ta x.tn tc] 38
 s:NumsAt W sa x.sn 2 (castW x.S)
 t:NumsAt W ta x.tn 8 (castW x.T)
theorem BW.grow{x:WagesV}{p:Nat}{sa ta:Option Addr}{sc tc:Nat}{W W':World}(h:BW x p sa ta sc tc W)(hb:Below W.heap.size W W'):BW x p sa ta sc tc W':=⟨h.box.grow hb,h.s.grow hb,h.t.grow hb⟩
theorem BW.cells{x:WagesV}{p:Nat}{sa ta:Option Addr}{sc tc:Nat}{W:World}(h:BW x p sa ta sc tc W):W.cell? ⟨p,0,none⟩=some (.int .i64 x.cr)∧W.cell? ⟨p,1,none⟩=some (.slice sa x.sn sc)∧W.cell? ⟨p,2,none⟩=some (.slice ta x.tn tc) :=
 ⟨cellAt h.box 0,cellAt h.box 1,cellAt h.box 2⟩
theorem BW.new{x:WagesV}{sa ta:Option Addr}{sc tc:Nat}{W:World}(hS:NumsAt W sa x.sn 2 (castW x.S))(hT:NumsAt W ta x.tn 8 (castW x.T)):BW x W.heap.size sa ta sc tc (W.alloc (.cells #[.int .i64 x.cr,.slice sa x.sn sc,.slice ta x.tn tc] 38)) :=
 have al:=(Below.refl W.heap.size W).alloc (Nat.le_refl _) (.cells #[.int .i64 x.cr,.slice sa x.sn sc,.slice ta x.tn tc] 38)
 ⟨heap_alloc_new _ _,hS.grow al,hT.grow al⟩
structure AgA (w:World) (oa:Option Addr) (L:Nat) (g:Nat→Nat) (W:World):Prop where
 bel:Below w.heap.size w W
 st:Stands W
 l:BytesAt W oa L g
theorem AgA.grow{w W W':World}{oa:Option Addr}{L:Nat}{g:Nat→Nat}(h:AgA w oa L g W)(hb:Below W.heap.size W W'):AgA w oa L g W':=⟨h.bel.next hb,h.st.grow hb,h.l.grow hb⟩
structure BH (x:HullV) (p:Nat) (sa:Option Addr) (sc:Nat) (ua:Option Addr) (uc:Nat) (W:World):Prop where
 box:BoxAt W p #[.slice sa x.s.length sc,.slice ua x.u.length uc] 25
 s:SeasAt W sa x.s.length (seaOf x.s)
 u:SousAt W ua x.u.length (souOf x.u)
theorem BH.grow{x:HullV}{p sc uc:Nat}{sa ua:Option Addr}{W W':World}(h:BH x p sa sc ua uc W)(hb:Below W.heap.size W W'):BH x p sa sc ua uc W':=⟨h.box.grow hb,h.s.grow hb,h.u.grow hb⟩
theorem BH.cells{x:HullV}{p sc uc:Nat}{sa ua:Option Addr}{W:World}(h:BH x p sa sc ua uc W):W.cell? ⟨p,0,none⟩=some (.slice sa x.s.length sc)∧W.cell? ⟨p,1,none⟩=some (.slice ua x.u.length uc):=⟨cellAt h.box 0,cellAt h.box 1⟩
structure BP (x:PitV) (p:Nat) (fa:Option Addr) (fc:Nat) (qa:Option Addr) (qc:Nat) (W:World):Prop where
 box:BoxAt W p #[.int .i64 x.hr,.int .i64 x.fr,.int .i64 x.pe,.slice fa x.f.length fc,.slice qa x.q.length qc] 29
 f:IntsAt W fa x.f.length (intOf' x.f)
 q:PotsAt W qa x.q.length (potOf x.q)
theorem BP.grow{x:PitV}{p fc qc:Nat}{fa qa:Option Addr}{W W':World}(h:BP x p fa fc qa qc W)(hb:Below W.heap.size W W'):BP x p fa fc qa qc W':=⟨h.box.grow hb,h.f.grow hb,h.q.grow hb⟩
theorem BP.cells{x:PitV}{p fc qc:Nat}{fa qa:Option Addr}{W:World}(h:BP x p fa fc qa qc W):W.cell? ⟨p,0,none⟩=some (.int .i64 x.hr)∧W.cell? ⟨p,1,none⟩=some (.int .i64 x.fr)∧W.cell? ⟨p,2,none⟩=some (.int .i64 x.pe)∧W.cell? ⟨p,3,none⟩=some (.slice fa x.f.length fc)∧W.cell? ⟨p,4,none⟩=some (.slice qa x.q.length qc):=⟨cellAt h.box 0,cellAt h.box 1,cellAt h.box 2,cellAt h.box 3,cellAt h.box 4⟩
structure BI (x:IronsV) (p:Nat) (oa ma sa ca:Option Addr) (oc mc sc cc:Nat) (op sp:Nat→Option Addr) (ok sk:Nat→Nat) (W:World):Prop where
 box:BoxAt W p #[.int .i64 x.f,.slice oa x.on oc,.slice ma x.mn mc,.slice sa x.sn sc,.slice ca x.cn cc] 34
 a:IronsAt x oa ma sa ca oc mc sc cc op sp ok sk W
theorem BI.grow{x:IronsV}{p oc mc sc cc:Nat}{oa ma sa ca:Option Addr}{op sp:Nat→Option Addr}{ok sk:Nat→Nat}{W W':World}(h:BI x p oa ma sa ca oc mc sc cc op sp ok sk W)(hb:Below W.heap.size W W'):BI x p oa ma sa ca oc mc sc cc op sp ok sk W':=⟨h.box.grow hb,h.a.grow hb⟩
theorem BI.cells{x:IronsV}{p oc mc sc cc:Nat}{oa ma sa ca:Option Addr}{op sp:Nat→Option Addr}{ok sk:Nat→Nat}{W:World}(h:BI x p oa ma sa ca oc mc sc cc op sp ok sk W):W.cell? ⟨p,0,none⟩=some (.int .i64 x.f)∧W.cell? ⟨p,1,none⟩=some (.slice oa x.on oc)∧W.cell? ⟨p,2,none⟩=some (.slice ma x.mn mc)∧W.cell? ⟨p,3,none⟩=some (.slice sa x.sn sc)∧W.cell? ⟨p,4,none⟩=some (.slice ca x.cn cc):=⟨cellAt h.box 0,cellAt h.box 1,cellAt h.box 2,cellAt h.box 3,cellAt h.box 4⟩
end Go.Proofs.YtclbmlmlhiiaeaaGreatDoor
