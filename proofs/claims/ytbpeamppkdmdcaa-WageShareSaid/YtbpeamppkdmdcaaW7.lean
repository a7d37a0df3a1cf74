/-
  Walks: the three truths; how many fathoms, how many coins.
-/
import Derived.Test.YtbpeamppkdmdcaaW6
import Derived.Test.YtbpeamppkdmdcaaW1b
import Derived.Test.YtbpeamppkdmdcaaW3
namespace Go.Proofs.Ytbpeamppkdmdcaa
open Go.RowKit

def mostK (m : Int) (T : Nat → Tk) (i : Nat) : Kn := ⟨if (T i).crew = m then (T i).fl else (T i).fh, if (T i).crew = m then (T i).th else (T i).tl, if (T i).crew = m then (T i).dl else (T i).dh⟩
def leastK (m : Int) (T : Nat → Tk) (i : Nat) : Kn := ⟨if (T i).crew = m then (T i).fh else (T i).fl, if (T i).crew = m then (T i).tl else (T i).th, if (T i).crew = m then (T i).dh else (T i).dl⟩
def toldK (f t d : Nat → Int) (i : Nat) : Kn := ⟨f i, t i, d i⟩

theorem truth_most (w : World) (m : Int) (tn : Nat) (T : Nat → Tk) : Truth w 83 (.agg #[.int .i64 m]) 58 tn T (mostK m T) where
  meth := fun w => by kernel_rfl
  enter := fun args w => by kernel_rfl
  call := fun i _ W _ => most_of_any m i (T i).crew (T i).seam (T i).fl (T i).fh (T i).tl (T i).th (T i).dl (T i).dh W
theorem truth_least (w : World) (m : Int) (tn : Nat) (T : Nat → Tk) : Truth w 85 (.agg #[.int .i64 m]) 124 tn T (leastK m T) where
  meth := fun w => by kernel_rfl
  enter := fun args w => by kernel_rfl
  call := fun i _ W _ => least_of_any m i (T i).crew (T i).seam (T i).fl (T i).fh (T i).tl (T i).th (T i).dl (T i).dh W
theorem truth_told (w : World) (oa ob oc : Option Addr) (m1 m2 m3 : Nat) (f t d : Nat → Int) (c1 c2 c3 : Nat) (tn : Nat) (T : Nat → Tk) (h1 : IntsAt w oa m1 f) (h2 : IntsAt w ob m2 t) (h3 : IntsAt w oc m3 d) (n1 : tn ≤ m1) (n2 : tn ≤ m2) (n3 : tn ≤ m3) :
    Truth w 112 (.agg #[.slice oa m1 c1, .slice ob m2 c2, .slice oc m3 c3]) 125 tn T (toldK f t d) where
  meth := fun w => by kernel_rfl
  enter := fun args w => by kernel_rfl
  call := fun i hi W hb => told_of_any oa ob oc m1 m2 m3 f t d c1 c2 c3 i (T i).crew (T i).seam (T i).fl (T i).fh (T i).tl (T i).th (T i).dl (T i).dh W (h1.grow hb) (h2.grow hb) (h3.grow hb) (by omega) (by omega) (by omega)
end Go.Proofs.Ytbpeamppkdmdcaa
