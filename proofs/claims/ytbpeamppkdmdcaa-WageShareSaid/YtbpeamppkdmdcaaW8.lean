/-
  Walks: how many fathoms, how many coins, in a truth; what is due.
-/
import Derived.Test.YtbpeamppkdmdcaaW7
import Derived.Test.YtbpeamppkdmdcaaM3
namespace Go.Proofs.Ytbpeamppkdmdcaa
open Go.RowKit

/-- Valid wages. -/
structure Valid (cr : Int) (sn tn : Nat) (S : Nat → Sm) (T : Nat → Tk) : Prop where
  cr0 : 1 ≤ cr
  cr1 : cr ≤ 4
  sn3 : sn ≤ 3
  tn6 : tn ≤ 6
  fat : ∀ j, j < sn → 0 ≤ (S j).fat ∧ (S j).fat ≤ 20
  rate : ∀ j, j < sn → 0 ≤ (S j).rate ∧ (S j).rate ≤ 50
  tk : ∀ i, i < tn → 0 ≤ (T i).crew ∧ (T i).crew < cr ∧ 0 ≤ (T i).seam ∧ (T i).seam < sn
  td : ∀ i, i < tn → spanB (T i).dl (T i).dh 40 = true
  fr : ∀ i, i < tn → spanB (T i).fl (T i).fh (S (T i).seam.toNat).fat = true
  to : ∀ i, i < tn → spanB (T i).tl (T i).th (S (T i).seam.toNat).fat = true
theorem Valid.tkOk {cr : Int} {sn tn : Nat} {S : Nat → Sm} {T : Nat → Tk} (h : Valid cr sn tn S T) : ∀ i, i < tn → TkOk sn (T i) := fun i hi => by
  have := h.tk i hi
  have := h.cr1
  exact ⟨by omega, by omega, by omega, by omega⟩
theorem Valid.spans {cr : Int} {sn tn : Nat} {S : Nat → Sm} {T : Nat → Tk} (h : Valid cr sn tn S T) {i : Nat} (hi : i < tn) :
    0 ≤ (T i).fl ∧ (T i).fl ≤ (T i).fh ∧ (T i).fh ≤ 20 ∧ 0 ≤ (T i).tl ∧ (T i).tl ≤ (T i).th ∧ (T i).th ≤ 20 ∧ 0 ≤ (T i).dl ∧ (T i).dl ≤ (T i).dh ∧ (T i).dh ≤ 40 := by
  have h1 := spanB_iff.1 (h.fr i hi)
  have h2 := spanB_iff.1 (h.to i hi)
  have h3 := spanB_iff.1 (h.td i hi)
  have h4 := h.tk i hi
  have h5 := h.fat (T i).seam.toNat (by omega)
  omega
theorem Valid.most {cr : Int} {sn tn : Nat} {S : Nat → Sm} {T : Nat → Tk} (h : Valid cr sn tn S T) (m : Int) : ∀ i, i < tn → KnOk (mostK m T i) := fun i hi => by
  have := h.spans hi
  unfold mostK
  constructor <;> simp only <;> split <;> omega
theorem Valid.least {cr : Int} {sn tn : Nat} {S : Nat → Sm} {T : Nat → Tk} (h : Valid cr sn tn S T) (m : Int) : ∀ i, i < tn → KnOk (leastK m T i) := fun i hi => by
  have := h.spans hi
  unfold leastK
  constructor <;> simp only <;> split <;> omega

set_option maxRecDepth 100000 in
set_option maxHeartbeats 1000000 in
theorem many_any (cr : Int) (sa ta : Option Addr) (sn sc tn tc : Nat) (S : Nat → Sm) (T : Nat → Tk) (K : Nat → Kn) (w : World) (hS : SeamsAt w sa sn S) (hT : TicketsAt w ta tn T) (hv : Valid cr sn tn S T) (hK : ∀ i, i < tn → KnOk (K i))
    (ty : TypeId) (v : Value) (fn : FuncId) (htr : Truth w ty v fn tn T K) (s c : Int) (s0 : 0 ≤ s) (s1 : s < sn) (c0 : -1 ≤ c) (c1 : c ≤ 3) :
    Calls Try.prog 50 #[.agg #[.int .i64 cr, .slice sa sn sc, .slice ta tn tc], .int .i64 s, .int .i64 c, .iface ty v] w
      fun e w' => e = .returned (.int .i64 (manyOf S T K tn s c)) ∧ Below w.heap.size w w' := by
  have C := fun W (hb : Below w.heap.size w W) (hW : w.heap.size ≤ W.heap.size) => owned_any cr sa ta sn sc tn tc S T K W (hS.grow hb) (hT.grow hb) hv.sn3 hv.tn6 hv.fat hv.tkOk hK ty v fn ⟨htr.meth, htr.enter, fun i hi W' hb' => htr.call i hi W' (hb.trans (hb'.mono hW))⟩
  have HC := Lib.hid C
  have HV := Lib.hid hv
  have hcnt := Lib.hid (fun g hp => foldG_count (g := g) hv.fat hv.sn3 hv.tkOk hK hp s0 s1 c c0)
  have hsm := Lib.hid (fun g => SmallG.fold S sn T K g hv.fat tn)
  have hd : pdom s c := ⟨s0, by have := hv.sn3; omega, c0, c1⟩
  clear C hS hT hv htr hK
  go_enter Try.func50, Try.ntmps50
  go_wp2_with fail
  refine (HC.out _ ((Below.refl _ _).alloc (Nat.le_refl _) _) (by simp)).mono ?_
  rintro e w1 ⟨B, n, G, rfl, hm, hb, hB, g, hp, rfl⟩
  have l1 := hm.look hd
  have hb0 : Below w.heap.size w w1 := ((Below.refl _ _).alloc (Nat.le_refl _) _).trans (hb.mono (by simp))
  have HB := Lib.hid hb0
  have HE := Lib.hid (hcnt.out g hp)
  have hlt := hsm.out g s c
  clear hm hb hB hp hb0
  go_wp2_with (go_at_call 93; refine (count_any _ _ hlt).mono ?_; rintro e w' ⟨rfl, m, rfl⟩)
  go_ret
  exact ⟨by rw [← HE.out]; rfl, below_drewN HB.out _⟩
end Go.Proofs.Ytbpeamppkdmdcaa
