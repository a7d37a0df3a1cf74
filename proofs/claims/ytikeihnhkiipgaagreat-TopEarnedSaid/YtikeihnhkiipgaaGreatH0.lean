/-
  Gangs that the reference calls valid, in plain numbers.
-/
import Derived.Test.YtikeihnhkiipgaaGreatQF3
namespace Go.Proofs.YtikeihnhkiipgaaGreat
open Go.RowKit

theorem row_congr {w : World} {oa : Option Addr} {n sz : Nat} {c1 c2 : Nat → Nat → Value} (h : Row w oa n sz c1) (e : ∀ i, i < n → ∀ j, j < sz → c1 i j = c2 i j) : Row w oa n sz c2 :=
  ⟨h.plain, h.old, h.small, fun i hi j hj => by rw [h.cells i hi j hj, e i hi j hj]⟩
def AG.pn (x : AG) : PN := ⟨x.hr.toNat, x.fr.toNat, x.pe.toNat, x.fn, fun i => (x.F i).toNat, x.qn, fun i => (x.Q i).h.toNat, fun i => (x.Q i).f.toNat, fun i => (x.Q i).b.toNat⟩
def AG.gn (x : AG) : GN := ⟨x.sn, fun i => (x.S i).m.toNat, fun i => (x.S i).d.toNat, fun i => (x.S i).l.toNat, fun i => (x.S i).p, x.cn, fun i => (x.C i).lo.toNat, fun i => (x.C i).hi.toNat, fun i => (x.C i).se.toNat, x.pn⟩
theorem setB_nat {h x : Int} (hb : setB h x = true) : ((x.toNat : Nat) : Int) = x ∧ x.toNat < 2 ^ h.toNat := by
  obtain ⟨h1, h2⟩ := inB_iff.1 hb
  have e : (2 : Int) ^ h.toNat = ((2 ^ h.toNat : Nat) : Int) := by simp
  rw [e] at h2
  generalize 2 ^ h.toNat = z at *
  omega
theorem in_nat {n a b : Int} (h : inB n a b = true) (ha : 0 ≤ a) : ((n.toNat : Nat) : Int) = n ∧ a ≤ n ∧ n ≤ b := by
  obtain ⟨h1, h2⟩ := inB_iff.1 h
  omega
theorem ag_ok {x : AG} (h : x.B = true) : x.gn.Ok ∧ x.gn.cs x.a = x.cs ∧ ∀ W, x.At W → x.gn.At x.a W := by
  unfold AG.B AG.hB AG.pB pitchB headB at h
  simp only [Bool.and_eq_true, decide_eq_true_eq] at h
  obtain ⟨⟨⟨⟨⟨⟨⟨⟨h1, h2⟩, h3⟩, h4⟩, h5⟩, h6⟩, h7⟩, h8⟩, h9⟩ := h
  obtain ⟨e1, -, a1⟩ := in_nat h1 (Int.le_refl _)
  have hf := setB_nat (allB_iff.1 h4 0 (by omega))
  have hp := setB_nat (allB_iff.1 h4 1 (by omega))
  have hF : ∀ i, i < x.fn → (((x.F i).toNat : Nat) : Int) = x.F i ∧ (x.F i).toNat < 2 ^ x.hr.toNat := fun i hi => by
    have := setB_nat (allB_iff.1 h4 (i + 2) (by omega))
    have e : setsOf x.fr x.pe x.F (i + 2) = x.F i := by
      unfold setsOf
      rw [if_neg (by omega), if_neg (by omega), show i + 2 - 2 = i by omega]
    rwa [e] at this
  have hQ : ∀ i, i < x.qn → (((x.Q i).h.toNat : Nat) : Int) = (x.Q i).h ∧ (((x.Q i).f.toNat : Nat) : Int) = (x.Q i).f ∧ (((x.Q i).b.toNat : Nat) : Int) = (x.Q i).b ∧ 1 ≤ (x.Q i).h ∧ (x.Q i).h ≤ 12 ∧ (x.Q i).f ≤ x.hr ∧ (x.Q i).b ≤ x.hr := fun i hi => by
    have := allB_iff.1 h5 i hi
    unfold okQ at this
    simp only [Bool.and_eq_true] at this
    have u1 := in_nat this.1.1 (by omega)
    have u2 := in_nat this.1.2 (by omega)
    have u3 := in_nat this.2 (by omega)
    omega
  have hS : ∀ i, i < x.sn → (((x.S i).m.toNat : Nat) : Int) = (x.S i).m ∧ (((x.S i).d.toNat : Nat) : Int) = (x.S i).d ∧ (((x.S i).l.toNat : Nat) : Int) = (x.S i).l ∧ 1 ≤ (x.S i).m ∧ (x.S i).m ≤ 60 ∧ (x.S i).d ≤ 24 ∧ (x.S i).l ≤ 24 ∧ -1 ≤ (x.S i).p ∧ (x.S i).p < x.qn := fun i hi => by
    have := allB_iff.1 h8 i hi
    unfold okSm at this
    simp only [Bool.and_eq_true] at this
    have u1 := in_nat this.1.1.1 (by omega)
    have u2 := in_nat this.1.1.2 (by omega)
    have u3 := in_nat this.1.2 (by omega)
    have u4 := inB_iff.1 this.2
    omega
  have hC : ∀ i, i < x.cn → (((x.C i).lo.toNat : Nat) : Int) = (x.C i).lo ∧ (((x.C i).hi.toNat : Nat) : Int) = (x.C i).hi ∧ (((x.C i).se.toNat : Nat) : Int) = (x.C i).se ∧ 1 ≤ (x.C i).lo ∧ (x.C i).lo ≤ (x.C i).hi ∧ (x.C i).hi ≤ 12 ∧ (x.C i).se.toNat < 2 ^ x.sn := fun i hi => by
    have := allB_iff.1 h9 i hi
    unfold okCw at this
    simp only [Bool.and_eq_true, decide_eq_true_eq] at this
    have u := in_nat this.2 (by omega)
    generalize 2 ^ x.sn = z at *
    omega
  refine ⟨⟨by show x.sn ≤ 5; omega, by show x.cn ≤ 3; omega, fun i hi => ?_, fun i hi => ?_, fun i hi => ?_, fun i hi => ?_, fun i hi => ?_, fun i hi => (hC i hi).2.2.2.2.2.2, ?_⟩, ?_, fun W hW => ⟨?_, ?_, ?_, ?_⟩⟩
  · have := hS i hi; show 1 ≤ (x.S i).m.toNat ∧ (x.S i).m.toNat ≤ 60; omega
  · have := hS i hi; show (x.S i).d.toNat ≤ 24; omega
  · have := hS i hi; show (x.S i).l.toNat ≤ 24; omega
  · have := hS i hi; show -1 ≤ (x.S i).p ∧ (x.S i).p < (x.qn : Int); omega
  · have := hC i hi; show 1 ≤ (x.C i).lo.toNat ∧ (x.C i).lo.toNat ≤ (x.C i).hi.toNat ∧ (x.C i).hi.toNat ≤ 12; omega
  · refine ⟨by show x.hr.toNat ≤ 12; omega, hf.2, hp.2, by show x.fn ≤ 3; omega, fun i hi => (hF i hi).2, by show x.qn ≤ 4; omega, fun i hi => ?_, fun i hi => ?_, fun i hi => ?_⟩
    · have := hQ i hi; show 1 ≤ (x.Q i).h.toNat ∧ (x.Q i).h.toNat ≤ 12; omega
    · have := hQ i hi; show (x.Q i).f.toNat ≤ x.hr.toNat; omega
    · have := hQ i hi; show (x.Q i).b.toNat ≤ x.hr.toNat; omega
  · show #[_, _, Value.int .i64 ((x.hr.toNat : Nat) : Int), .int .i64 ((x.fr.toNat : Nat) : Int), .int .i64 ((x.pe.toNat : Nat) : Int), _, _] = _
    rw [e1, show ((x.fr.toNat : Nat) : Int) = x.fr from hf.1, show ((x.pe.toNat : Nat) : Int) = x.pe from hp.1]
    rfl
  · exact row_congr hW.ss fun i hi j hj => by
      obtain ⟨u1, u2, u3, -⟩ := hS i hi
      rcases (show j = 0 ∨ j = 1 ∨ j = 2 ∨ j = 3 by omega) with rfl | rfl | rfl | rfl
      · show Value.int .i64 _ = .int .i64 (((x.S i).m.toNat : Nat) : Int); rw [u1]
      · show Value.int .i64 _ = .int .i64 (((x.S i).d.toNat : Nat) : Int); rw [u2]
      · show Value.int .i64 _ = .int .i64 (((x.S i).l.toNat : Nat) : Int); rw [u3]
      · rfl
  · exact row_congr hW.cc fun i hi j hj => by
      obtain ⟨u1, u2, u3, -⟩ := hC i hi
      rcases (show j = 0 ∨ j = 1 ∨ j = 2 by omega) with rfl | rfl | rfl
      · show Value.int .i64 _ = .int .i64 (((x.C i).lo.toNat : Nat) : Int); rw [u1]
      · show Value.int .i64 _ = .int .i64 (((x.C i).hi.toNat : Nat) : Int); rw [u2]
      · show Value.int .i64 _ = .int .i64 (((x.C i).se.toNat : Nat) : Int); rw [u3]
  · exact row_congr hW.ff fun i hi j hj => by
      show Value.int .i64 _ = .int .i64 (((x.F i).toNat : Nat) : Int); rw [(hF i hi).1]
  · exact row_congr hW.qq fun i hi j hj => by
      obtain ⟨u1, u2, u3, -⟩ := hQ i hi
      rcases (show j = 0 ∨ j = 1 ∨ j = 2 by omega) with rfl | rfl | rfl
      · show Value.int .i64 _ = .int .i64 (((x.Q i).h.toNat : Nat) : Int); rw [u1]
      · show Value.int .i64 _ = .int .i64 (((x.Q i).f.toNat : Nat) : Int); rw [u2]
      · show Value.int .i64 _ = .int .i64 (((x.Q i).b.toNat : Nat) : Int); rw [u3]
end Go.Proofs.YtikeihnhkiipgaaGreat
