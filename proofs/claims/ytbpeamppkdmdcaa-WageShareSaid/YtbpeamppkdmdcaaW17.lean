/-
  Walks: wages that are opened, each way by itself; a panic in a region.
-/
import Derived.Test.YtbpeamppkdmdcaaW16
namespace Go.Proofs.Ytbpeamppkdmdcaa
open Go.RowKit

theorem open_ok (cr : Int) (sa ta : Option Addr) (sn sc tn tc : Nat) (S : Nat → Sm) (T : Nat → Tk) (w : World) (hS : SeamsAt w sa sn S) (hT : TicketsAt w ta tn T)
    (F : FuncId) (caps : Array Value) (b : Bool) (hv : Valid cr sn tn S T) (hb : b = true) (hcf : ∀ W, (callFunc F (#[.agg #[.int .i64 cr, .slice sa sn sc, .slice ta tn tc]] ++ caps)).run Try.prog W = .ok (.enter F (#[.agg #[.int .i64 cr, .slice sa sn sc, .slice ta tn tc]] ++ caps)) W) (hcl : ∀ W, Below w.heap.size w W → Valid cr sn tn S T → Calls Try.prog F (#[.agg #[.int .i64 cr, .slice sa sn sc, .slice ta tn tc]] ++ caps) W fun e w' => e = .returned (.bool b) ∧ Below W.heap.size W w') :
    Calls Try.prog 46 #[.agg #[.int .i64 cr, .slice sa sn sc, .slice ta tn tc], .func (.func F) #[] caps] w fun e w' => e = .returned (.agg #[.int .i64 cr, .slice sa sn sc, .slice ta tn tc]) ∧ Below w.heap.size w w' := by
  refine (open_any cr sa ta sn sc tn tc S T w hS hT F caps b hcf hcl).mono ?_
  rintro e w1 ⟨h0, ⟨_, _, rfl⟩ | ⟨_, h, _⟩ | ⟨h, _⟩⟩
  · exact ⟨rfl, h0⟩
  · rw [hb] at h; cases h
  · exact absurd hv h
theorem open_range (cr : Int) (sa ta : Option Addr) (sn sc tn tc : Nat) (S : Nat → Sm) (T : Nat → Tk) (w : World) (hS : SeamsAt w sa sn S) (hT : TicketsAt w ta tn T)
    (F : FuncId) (caps : Array Value) (b : Bool) (hv : Valid cr sn tn S T) (hb : b = false) (hcf : ∀ W, (callFunc F (#[.agg #[.int .i64 cr, .slice sa sn sc, .slice ta tn tc]] ++ caps)).run Try.prog W = .ok (.enter F (#[.agg #[.int .i64 cr, .slice sa sn sc, .slice ta tn tc]] ++ caps)) W) (hcl : ∀ W, Below w.heap.size w W → Valid cr sn tn S T → Calls Try.prog F (#[.agg #[.int .i64 cr, .slice sa sn sc, .slice ta tn tc]] ++ caps) W fun e w' => e = .returned (.bool b) ∧ Below W.heap.size W w') :
    Calls Try.prog 46 #[.agg #[.int .i64 cr, .slice sa sn sc, .slice ta tn tc], .func (.func F) #[] caps] w fun e w' => e = err 2 ∧ Below w.heap.size w w' := by
  refine (open_any cr sa ta sn sc tn tc S T w hS hT F caps b hcf hcl).mono ?_
  rintro e w1 ⟨h0, ⟨_, h, _⟩ | ⟨_, _, rfl⟩ | ⟨h, _⟩⟩
  · rw [hb] at h; cases h
  · exact ⟨rfl, h0⟩
  · exact absurd hv h
theorem open_arg (cr : Int) (sa ta : Option Addr) (sn sc tn tc : Nat) (S : Nat → Sm) (T : Nat → Tk) (w : World) (hS : SeamsAt w sa sn S) (hT : TicketsAt w ta tn T)
    (F : FuncId) (caps : Array Value) (hv : ¬ Valid cr sn tn S T) (hcf : ∀ W, (callFunc F (#[.agg #[.int .i64 cr, .slice sa sn sc, .slice ta tn tc]] ++ caps)).run Try.prog W = .ok (.enter F (#[.agg #[.int .i64 cr, .slice sa sn sc, .slice ta tn tc]] ++ caps)) W) :
    Calls Try.prog 46 #[.agg #[.int .i64 cr, .slice sa sn sc, .slice ta tn tc], .func (.func F) #[] caps] w fun e w' => e = err 1 ∧ Below w.heap.size w w' := by
  refine (open_any cr sa ta sn sc tn tc S T w hS hT F caps true hcf (fun _ _ h => absurd h hv)).mono ?_
  rintro e w1 ⟨h0, ⟨h, _, _⟩ | ⟨h, _, _⟩ | ⟨_, rfl⟩⟩
  · exact absurd h hv
  · exact absurd h hv
  · exact ⟨rfl, h0⟩

/-- A call that panics, in a region whose walk bears but one way on: what stands behind it is walked under 'False'. -/
theorem Calls.out {P : Program} {f : FuncId} {args : Array Value} {w : World} {x : Int} {R : Ending → World → Prop} {B : World → Prop} (v : Value) (h : Calls P f args w fun e w' => e = err x ∧ B w') (hp : ∀ w', B w' → R (err x) w') (_hk : Hid False → R (.returned v) w) : Calls P f args w R :=
  h.mono (by rintro e w' ⟨rfl, hb⟩; exact hp w' hb)
theorem Calls.never {P : Program} {f : FuncId} {args : Array Value} {w : World} {R : Ending → World → Prop} (v : Value) (h : Hid False) (_hk : R (.returned v) w) : Calls P f args w R := h.out.elim

structure H1 (w : World) (cr : Int) (sa ta : Option Addr) (sn sc tn tc : Nat) (s : Int) (w' : World) : Prop where
  bel : Below w.heap.size w w'
  bx : BoxAt w' w.heap.size #[.int .i64 cr, .slice sa sn sc, .slice ta tn tc] 25
  s : BoxAt w' (w.heap.size + 1) #[.int .i64 s] 3
theorem H1.grow {w : World} {cr : Int} {sa ta : Option Addr} {sn sc tn tc : Nat} {s : Int} {w1 w2 : World} (h : H1 w cr sa ta sn sc tn tc s w1) (hb : Below w1.heap.size w1 w2) : H1 w cr sa ta sn sc tn tc s w2 :=
  ⟨h.bel.trans (hb.mono (Nat.le_of_lt (lt_of_heap h.bx))), h.bx.grow hb, h.s.grow hb⟩
theorem H1.set {w : World} {cr : Int} {sa ta : Option Addr} {sn sc tn tc : Nat} {s : Int} {w1 : World} (h : H1 w cr sa ta sn sc tn tc s w1) (p : Addr) (v : Value) (h0 : w.heap.size + 1 < p.block) : H1 w cr sa ta sn sc tn tc s (w1.setCell p v) :=
  ⟨h.bel.setCell (by omega) v, h.bx.set p v (by omega), h.s.set p v (by omega)⟩
theorem H1.cells {w : World} {cr : Int} {sa ta : Option Addr} {sn sc tn tc : Nat} {s : Int} {w' : World} (h : H1 w cr sa ta sn sc tn tc s w') :
    (w'.cell? ⟨w.heap.size, 0, none⟩ = some (.int .i64 cr) ∧ w'.cell? ⟨w.heap.size, 1, none⟩ = some (.slice sa sn sc) ∧ w'.cell? ⟨w.heap.size, 2, none⟩ = some (.slice ta tn tc) ∧ w'.cell? ⟨w.heap.size + 1, 0, none⟩ = some (.int .i64 s)) ∧ H1 w cr sa ta sn sc tn tc s w' :=
  ⟨⟨cellAt h.bx 0, cellAt h.bx 1, cellAt h.bx 2, cellAt h.s 0⟩, h⟩

end Go.Proofs.Ytbpeamppkdmdcaa
