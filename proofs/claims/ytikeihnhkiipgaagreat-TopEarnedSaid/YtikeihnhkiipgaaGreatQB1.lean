/-
  Plain: marks and steps; what the iterator over steps reads.
  Walks: the iterator over the places that the next pot can have.
-/
import Derived.Test.YtikeihnhkiipgaaGreatQA8
import Derived.RangeFuncNested
import Derived.LoopNIn
import Derived.LoopIn
import Derived.TacticsInMore
import Derived.RangeFuncBound
import Derived.RangeFuncCalls
import Derived.RangeFuncLeaves
import Derived.Shelf.RegionOpen
import Derived.Sort.CutIn
namespace Go.Proofs.YtikeihnhkiipgaaGreat
open Go.RowKit

/-- What is taken before a pot gets its place. -/
structure Mk where
  pot : Nat
  b0 : Nat
  b1 : Nat
  b2 : Nat
def Mk.b (m : Mk) : Nat → Nat
  | 0 => m.b0
  | 1 => m.b1
  | _ => m.b2
def Mk.set (m : Mk) (v : Nat) : Nat → Mk
  | 0 => { m with b0 := v }
  | 1 => { m with b1 := v }
  | _ => { m with b2 := v }
def Mk.cs (m : Mk) : Array Value := #[.int .i64 m.pot, .int .u64 m.b0, .int .u64 m.b1, .int .u64 m.b2]
def Mk.v (m : Mk) : Value := .agg m.cs
def Mk.start : Mk := ⟨0, 0, 0, 0⟩
/-- Its board is one of hours. -/
def Mk.Ok (m : Mk) : Prop := m.b0 < 4096 ∧ m.b1 < 4096 ∧ m.b2 < 4096
theorem Mk.Ok.b {m : Mk} (h : m.Ok) (f : Nat) : m.b f < 4096 := by
  unfold Mk.b
  split
  · exact h.1
  · exact h.2.1
  · exact h.2.2
theorem Mk.Ok.set {m : Mk} (h : m.Ok) (f : Nat) {v : Nat} (hv : v < 4096) : (m.set v f).Ok := by
  unfold Mk.set
  split
  · exact ⟨hv, h.2.1, h.2.2⟩
  · exact ⟨h.1, hv, h.2.2⟩
  · exact ⟨h.1, h.2.1, hv⟩
theorem Mk.set_pot (m : Mk) (v f : Nat) : (m.set v f).pot = m.pot := by unfold Mk.set; split <;> rfl
theorem Mk.cell (m : Mk) {f : Nat} (hf : f < 3) : m.cs[1 + f]? = some (.int .u64 (m.b f)) := by
  rcases (show f = 0 ∨ f = 1 ∨ f = 2 by omega) with rfl | rfl | rfl <;> rfl
theorem Mk.cs_set (m : Mk) {f : Nat} (hf : f < 3) (v : Nat) : m.cs.setIfInBounds (1 + f) (.int .u64 v) = (m.set v f).cs := by
  rcases (show f = 0 ∨ f = 1 ∨ f = 2 by omega) with rfl | rfl | rfl <;> rfl
theorem Mk.cs_pot (m : Mk) (k : Nat) : m.cs.setIfInBounds 0 (.int .i64 k) = ({ m with pot := k } : Mk).cs := rfl
/-- A place that the next pot can have, and what is taken then. -/
structure Stp where
  f : Nat
  h : Nat
  m : Mk
def Stp.vs (x : Stp) : Array Value := #[plV x.f x.h, x.m.v]
def PN.free (p : PN) (m : Mk) (f h : Nat) : Bool := (p.takes m.pot h &&& m.b f == 0) && p.alone m.pot f h
def PN.next (p : PN) (m : Mk) (f h : Nat) : Mk := ({ m with pot := m.pot + 1 } : Mk).set (m.b f ||| p.takes m.pot h) f
def PN.hrL (p : PN) (m : Mk) (f : Nat) : Nat → List Stp
  | 0 => []
  | k + 1 => p.hrL m f k ++ if p.free m f k then [⟨f, k, p.next m f k⟩] else []
def PN.fiL (p : PN) (m : Mk) : Nat → List Stp
  | 0 => []
  | i + 1 => p.fiL m i ++ p.hrL m i p.H
def PN.steps (p : PN) (m : Mk) : List Stp := p.fiL m p.fn
theorem mem_hrL {p : PN} {m : Mk} {f : Nat} {x : Stp} : ∀ {k : Nat}, x ∈ p.hrL m f k ↔ x.f = f ∧ x.h < k ∧ p.free m f x.h = true ∧ x.m = p.next m f x.h
  | 0 => by simp [PN.hrL]
  | k + 1 => by
    unfold PN.hrL
    rw [List.mem_append, mem_hrL]
    obtain ⟨xf, xh, xm⟩ := x
    dsimp only
    constructor
    · rintro (⟨h1, h2, h3, h4⟩ | h)
      · exact ⟨h1, by omega, h3, h4⟩
      · split at h
        · rename_i hf
          simp only [List.mem_singleton, Stp.mk.injEq] at h
          obtain ⟨rfl, rfl, rfl⟩ := h
          exact ⟨rfl, by omega, hf, rfl⟩
        · cases h
    · rintro ⟨rfl, h2, h3, rfl⟩
      by_cases e : xh = k
      · subst e
        exact .inr (by rw [if_pos h3]; simp)
      · exact .inl ⟨rfl, by omega, h3, rfl⟩
theorem mem_fiL {p : PN} {m : Mk} {x : Stp} : ∀ {i : Nat}, x ∈ p.fiL m i ↔ x.f < i ∧ x.h < p.H ∧ p.free m x.f x.h = true ∧ x.m = p.next m x.f x.h
  | 0 => by simp [PN.fiL]
  | i + 1 => by
    unfold PN.fiL
    rw [List.mem_append, mem_fiL, mem_hrL]
    constructor
    · rintro (⟨h1, h2⟩ | ⟨h1, h2⟩)
      · exact ⟨by omega, h2⟩
      · exact ⟨by omega, by rw [h1]; exact h2⟩
    · rintro ⟨h1, h2⟩
      by_cases e : x.f = i
      · exact .inr ⟨e, by rw [e] at h2; exact h2⟩
      · exact .inl ⟨by omega, h2⟩
theorem mem_steps {p : PN} {m : Mk} {x : Stp} : x ∈ p.steps m ↔ x.f < p.fn ∧ x.h < p.H ∧ p.free m x.f x.h = true ∧ x.m = p.next m x.f x.h := mem_fiL
theorem takes_lt {p : PN} (ok : p.Ok) (pot h : Nat) : p.takes pot h < 4096 := str_lt (by have := ok.hH; omega)
theorem next_ok {p : PN} (ok : p.Ok) {m : Mk} (hm : m.Ok) (f h : Nat) : (p.next m f h).Ok ∧ (p.next m f h).pot = m.pot + 1 := by
  unfold PN.next
  refine ⟨Mk.Ok.set (m := { m with pot := m.pot + 1 }) hm f ?_, Mk.set_pot _ _ _⟩
  exact or_lt12 (H := 12) (Nat.le_refl _) (hm.b f) (takes_lt ok _ _)
/-- Blocks that lie as they lay. -/
def KpC (C : Nat → Prop) (A B : World) : Prop := A.heap.size ≤ B.heap.size ∧ ∀ k, C k → B.heap[k]? = A.heap[k]?
theorem KpC.trans {C : Nat → Prop} {A B D : World} (h : KpC C A B) (k : KpC C B D) : KpC C A D := ⟨Nat.le_trans h.1 k.1, fun i hi => (k.2 i hi).trans (h.2 i hi)⟩
theorem KpC.refl (C : Nat → Prop) (A : World) : KpC C A A := ⟨Nat.le_refl _, fun _ _ => rfl⟩
theorem KpC.below {C : Nat → Prop} {A B : World} (h : Below A.heap.size A B) (hC : ∀ k, C k → k < A.heap.size) : KpC C A B := ⟨h.size, fun k hk => h.block k (hC k hk)⟩
theorem kpC_b {C : Nat → Prop} {w : World} (hC : ∀ k, C k → k < w.heap.size) (W : World) (l : Nat) (o o' : Obj) (hl : w.heap.size ≤ l) (_h : W.heap[l]? = some o) (_ : o.isCells = false) (_ : o.isWalk = false) : KpC C W (W.putObj l o') :=
  ⟨by unfold World.putObj; simp, fun k hk => World.putObj_heap_other (by have := hC k hk; omega)⟩
/-- What the iterator over steps reads. -/
structure StW (p : PN) (fa qa : Option Addr) (fc qc b c1 c2 : Nat) (m : Mk) (W : World) : Prop where
  ptr : BoxAt W c1 #[bp b] 154
  mark : BoxAt W c2 m.cs 169
  box : BoxAt W b (p.box fa qa fc qc) 160
  at' : p.At fa qa W
def StC (p : PN) (fa qa : Option Addr) (b c1 c2 : Nat) (k : Nat) : Prop := k = c1 ∨ k = c2 ∨ k = b ∨ (0 < p.fn ∧ k = blk fa) ∨ (0 < p.qn ∧ k = blk qa)
section
variable {p : PN} {fa qa : Option Addr} {fc qc b c1 c2 : Nat} {m : Mk} {A B : World}
theorem StW.grow (h : StW p fa qa fc qc b c1 c2 m A) (hb : Below A.heap.size A B) : StW p fa qa fc qc b c1 c2 m B := ⟨h.ptr.grow hb, h.mark.grow hb, h.box.grow hb, h.at'.grow hb⟩
theorem StW.lt (h : StW p fa qa fc qc b c1 c2 m A) : ∀ k, StC p fa qa b c1 c2 k → k < A.heap.size := by
  rintro k (rfl | rfl | rfl | ⟨h0, rfl⟩ | ⟨h0, rfl⟩)
  · exact lt_of_heap h.ptr
  · exact lt_of_heap h.mark
  · exact lt_of_heap h.box
  · exact h.at'.f.old h0
  · exact h.at'.q.old h0
theorem row_keep {oa : Option Addr} {n sz : Nat} {cell : Nat → Nat → Value} (h : Row A oa n sz cell) (hs : A.heap.size ≤ B.heap.size) (hk : 0 < n → B.heap[blk oa]? = A.heap[blk oa]?) : Row B oa n sz cell :=
  ⟨h.plain, fun hn => Nat.lt_of_lt_of_le (h.old hn) hs, h.small, fun i hi j hj => (World.cell?_of_block (a := ⟨blk oa, _, none⟩) (hk (by omega))).trans (h.cells i hi j hj)⟩
theorem StW.keep (h : StW p fa qa fc qc b c1 c2 m A) (hk : KpC (StC p fa qa b c1 c2) A B) : StW p fa qa fc qc b c1 c2 m B :=
  ⟨(hk.2 _ (.inl rfl)).trans h.ptr, (hk.2 _ (.inr (.inl rfl))).trans h.mark, (hk.2 _ (.inr (.inr (.inl rfl)))).trans h.box,
   ⟨row_keep h.at'.f hk.1 (fun h0 => hk.2 _ (.inr (.inr (.inr (.inl ⟨h0, rfl⟩))))), row_keep h.at'.q hk.1 (fun h0 => hk.2 _ (.inr (.inr (.inr (.inr ⟨h0, rfl⟩)))))⟩⟩
end
theorem run_board (g f : Nat) (hf : f < 3) (W : World) : (Instr.indexAt 167 (.pointer (some ⟨g, 1, none⟩)) (.int .i64 f)).run Tryz.prog W = .ok (.pointer (some ⟨g, 1 + f, none⟩)) W := by
  rcases (show f = 0 ∨ f = 1 ∨ f = 2 by omega) with rfl | rfl | rfl <;> kernel_rfl
end Go.Proofs.YtikeihnhkiipgaaGreat

namespace Go.Proofs.YtikeihnhkiipgaaGreat
open Go.RowKit

theorem wpIn_scope {n : Nat} {P : Program} {c : Code} {Q : Exit → Act → World → Prop} {a : Act} {w : World} (h : c.wpIn Fence.wide n P (Exit.noGoto Q) a w) : (Code.scope c).wpIn Fence.wide n P Q a w := wpIn_wide.2 (wp_scope_straight (wpIn_wide.1 h))
theorem fi_pre {p : PN} {m : Mk} : ∀ {i j : Nat}, i ≤ j → (p.fiL m i).length ≤ (p.fiL m j).length
  | i, 0, h => by obtain rfl : i = 0 := by omega
                  exact Nat.le_refl _
  | i, j + 1, h => by
    by_cases e : i = j + 1
    · subst e; exact Nat.le_refl _
    · have := fi_pre (p := p) (m := m) (i := i) (j := j) (by omega)
      rw [show p.fiL m (j + 1) = p.fiL m j ++ p.hrL m j p.H from rfl, List.length_append]
      omega
theorem hr_pre {p : PN} {m : Mk} {f : Nat} : ∀ {i j : Nat}, i ≤ j → (p.hrL m f i).length ≤ (p.hrL m f j).length
  | i, 0, h => by obtain rfl : i = 0 := by omega
                  exact Nat.le_refl _
  | i, j + 1, h => by
    by_cases e : i = j + 1
    · subst e; exact Nat.le_refl _
    · have := hr_pre (p := p) (m := m) (f := f) (i := i) (j := j) (by omega)
      rw [PN.hrL, List.length_append]
      omega
theorem pre_lt {p : PN} {m : Mk} {i k : Nat} (hi : i < p.fn) (hk : k < p.H) (hf : p.free m i k = true) : (p.fiL m i ++ p.hrL m i k).length < (p.steps m).length := by
  have h1 := fi_pre (p := p) (m := m) (show i + 1 ≤ p.fn by omega)
  have h2 := hr_pre (p := p) (m := m) (f := i) (show k + 1 ≤ p.H by omega)
  have h3 : (p.hrL m i (k + 1)).length = (p.hrL m i k).length + 1 := by rw [PN.hrL, if_pos hf, List.length_append]; rfl
  rw [PN.fiL, List.length_append] at h1
  unfold PN.steps
  rw [List.length_append]
  omega
theorem hr_split {p : PN} {m : Mk} {f k : Nat} (hf : p.free m f k = true) : ∀ {j : Nat}, k < j → ∃ s, p.hrL m f k ++ (⟨f, k, p.next m f k⟩ : Stp) :: s = p.hrL m f j
  | 0, h => by omega
  | j + 1, h => by
    by_cases e : k = j
    · subst e
      exact ⟨[], by rw [PN.hrL, if_pos hf]⟩
    · obtain ⟨s, hs⟩ := hr_split hf (j := j) (by omega)
      rw [show p.hrL m f (j + 1) = p.hrL m f j ++ (if p.free m f j then [⟨f, j, p.next m f j⟩] else []) from rfl]
      exact ⟨s ++ (if p.free m f j then [⟨f, j, p.next m f j⟩] else []), by rw [← hs]; simp⟩
theorem fi_split {p : PN} {m : Mk} {i : Nat} : ∀ {j : Nat}, i ≤ j → ∃ s, p.fiL m i ++ s = p.fiL m j
  | 0, h => by obtain rfl : i = 0 := by omega
               exact ⟨[], by simp⟩
  | j + 1, h => by
    by_cases e : i = j + 1
    · subst e; exact ⟨[], by simp⟩
    · obtain ⟨s, hs⟩ := fi_split (p := p) (m := m) (i := i) (j := j) (by omega)
      exact ⟨s ++ p.hrL m j p.H, by rw [← List.append_assoc, hs]; rfl⟩
theorem steps_split {p : PN} {m : Mk} {i k : Nat} (hi : i < p.fn) (hk : k < p.H) (hf : p.free m i k = true) : ∃ s, (p.fiL m i ++ p.hrL m i k) ++ (⟨i, k, p.next m i k⟩ : Stp) :: s = p.steps m := by
  obtain ⟨s, hs⟩ := hr_split hf hk
  obtain ⟨t, ht⟩ := fi_split (p := p) (m := m) (show i + 1 ≤ p.fn by omega)
  refine ⟨s ++ t, ?_⟩
  unfold PN.steps
  rw [← ht, show p.fiL m (i + 1) = p.fiL m i ++ p.hrL m i p.H from rfl, ← hs]
  simp
theorem hrL_yes {p : PN} {m : Mk} {f k : Nat} (hf : p.free m f k = true) : p.hrL m f (k + 1) = p.hrL m f k ++ [⟨f, k, p.next m f k⟩] := by rw [PN.hrL, if_pos hf]
theorem hrL_no {p : PN} {m : Mk} {f k : Nat} (hf : p.free m f k = false) : p.hrL m f (k + 1) = p.hrL m f k := by rw [PN.hrL, if_neg (by rw [hf]; simp), List.append_nil]
set_option maxRecDepth 100000 in
set_option maxHeartbeats 8000000 in
theorem steps1_in (n l : Nat) (p : PN) (ok : p.Ok) (fa qa : Option Addr) (fc qc b c1 c2 : Nat) (m : Mk) (hm : m.Ok) (hp : m.pot < p.qn) (J Jx : List Stp → World → Prop)
    (hJ : ∀ pre A B, J pre A → Below A.heap.size A B → J pre B)
    (hY : ∀ pre x W, x ∈ p.steps m → J pre W → pre.length < (p.steps m).length → (∃ s, pre ++ x :: s = p.steps m) → YieldAt Fence.wide (n - 1) Tryz.prog l x.vs W fun e W' =>
      (e = .returned (.bool true) ∧ J (pre ++ [x]) W' ∧ KpC (StC p fa qa b c1 c2) W W') ∨ (e = .returned (.bool false) ∧ Jx (pre ++ [x]) W'))
    (W : World) (hS : StW p fa qa fc qc b c1 c2 m W) (h0 : J [] W) :
    CallsIn Fence.wide n Tryz.prog 100 #[.func (.yield l) #[] #[], bp c1, bp c2] W fun e W' => (∃ v, e = .returned v) ∧
      ((∃ ys, ys = p.steps m ∧ J ys W') ∨ (∃ pre, (∃ s, pre ++ s = p.steps m) ∧ Jx pre W')) := by
  have OK := Lib.hid ok
  have HM := Lib.hid hm
  have HJB := Lib.hid hJ
  have HY := Lib.hid hY
  have S0 := Lib.hid hS
  have hH := ok.hH
  have hfn := ok.hfn
  have hqn := ok.hqn
  clear hJ hY hS
  refine callsIn_of_wp Tryz.func100 rfl trivial ?_ rfl
  simp only [Tryz.ntmps100, List.size_toArray, List.length_cons, List.length_nil, Nat.reduceAdd, Nat.reduceSub, Array.replicate_succ, Array.replicate_zero, List.push_toArray, List.append_toArray, List.nil_append, List.cons_append]
  have a0 := cellAt S0.out.ptr 0
  obtain ⟨q0, q1, q2, q3, q4, q5, q6⟩ := box_cells S0.out.box
  simp only [List.getElem?_toArray, List.getElem?_cons_zero] at a0
  gi_wp2
  clear a0 q0 q1 q2 q3 q4 q5 q6
  gi_loopw [18] (fun a wr => ∃ i : Nat, i ≤ p.fn ∧ a = .int .i64 i ∧ J (p.fiL m i) wr ∧ KpC (StC p fa qa b c1 c2) W wr) (fun a _ => p.fn - (intOf a).toNat)
  case atStart => exact ⟨0, Nat.zero_le _, rfl, h0, KpC.refl _ _⟩
  case round =>
    clear h0
    obtain ⟨i, hi, rfl, hJ, hK⟩ := hrel
    have HJ := Lib.hid hJ
    have HK := Lib.hid hK
    clear hJ hK
    by_cases hlt : i < p.fn
    · have hlt' : (i : Int) < p.fn := by omega
      have S1 := Lib.hid (S0.out.keep HK.out)
      have a0 := cellAt S1.out.ptr 0
      obtain ⟨q0, q1, q2, q3, q4, q5, q6⟩ := box_cells S1.out.box
      simp only [List.getElem?_toArray, List.getElem?_cons_zero] at a0
      gi_wp2
      refine wpIn_scope (wpIn_seq (wpIn_label ?_))
      gi_wp2
      clear a0 q0 q1 q2 q3 q4 q5 q6
      obtain ⟨wo, rfl⟩ : ∃ wo : World, wo = wr := ⟨_, rfl⟩
      gi_loopw [26] (fun a wr => ∃ k : Nat, k ≤ p.H ∧ a = .int .i64 k ∧ J (p.fiL m i ++ p.hrL m i k) wr ∧ KpC (StC p fa qa b c1 c2) W wr) (fun a _ => p.H - (intOf a).toNat)
      case atStart => exact ⟨0, Nat.zero_le _, rfl, by rw [PN.hrL, List.append_nil]; exact HJ.out, HK.out⟩
      case round =>
        clear HJ HK S1
        obtain ⟨k, hk, rfl, hJ, hK⟩ := hrel
        have HJ := Lib.hid hJ
        have HK := Lib.hid hK
        clear hJ hK
        by_cases hkt : k < p.H
        · have hkt' : (k : Int) < p.H := by omega
          have S1 := Lib.hid (S0.out.keep HK.out)
          have al := (Below.refl wr.heap.size wr).alloc (Nat.le_refl _) (.cells #[.int .i64 i, .int .i64 k] 122)
          have S2 := Lib.hid (S1.out.grow al)
          have a0 := cellAt S2.out.ptr 0
          have a1 := cellAt S2.out.mark 0
          simp only [Mk.cs, List.getElem?_toArray, List.getElem?_cons_zero] at a0 a1
          gi_wp2
          refine ⟨trivial, (fun h => by cases h), ?_⟩
          refine (callsIn_wide.2 (takes_any p OK.out fa qa fc qc b m.pot k _ S2.out.box S2.out.at' hp (by omega))).mono ?_
          rintro e w2 ⟨rfl, j, hw2⟩
          have hb2 : Below wr.heap.size wr w2 := by rw [hw2]; exact below_drewN al j
          have P2 := Lib.hid (show BoxAt w2 wr.heap.size #[.int .i64 i, .int .i64 k] 122 from by rw [hw2]; exact heap_alloc_new wr _)
          have S3 := Lib.hid (S1.out.grow hb2)
          have B2 := Lib.hid hb2
          clear hw2 hb2 al S2 a0 a1
          have hy := takes_lt OK.out m.pot k
          have hbf := HM.out.b i
          have HFR := Lib.hid (show p.free m i k = ((p.takes m.pot k &&& m.b i == 0) && p.alone m.pot i k) from rfl)
          have HNX := Lib.hid (show p.next m i k = ({ m with pot := m.pot + 1 } : Mk).set (m.b i ||| p.takes m.pot k) i from rfl)
          generalize p.takes m.pot k = y at *
          have hix := run_board c2 i (by omega)
          have c5 : w2.cell? ⟨c2, 1 + i, none⟩ = some (.int .u64 (m.b i)) := (cellAt S3.out.mark (1 + i)).trans (m.cell (by omega))
          have a0 := cellAt S3.out.ptr 0
          have a1 := cellAt S3.out.mark 0
          have p0 := cellAt P2.out 0
          have p1 := cellAt P2.out 1
          simp only [Mk.cs, List.getElem?_toArray, List.getElem?_cons_zero, List.getElem?_cons_succ] at a0 a1 p0 p1
          gi_wp2
          refine ⟨trivial, (fun h => by cases h), ?_⟩
          refine (callsIn_wide.2 (meets_any y (m.b i) w2 (by omega) (by omega))).mono ?_
          rintro e w3 ⟨rfl, rfl⟩
          have hKp := Lib.hid (HK.out.trans (KpC.below B2.out S1.out.lt))
          cases hmt : (y &&& m.b i != 0) with
          | true =>
            have HNO := Lib.hid (show p.free m i k = false from by rw [HFR.out]; simp at hmt; simp [hmt])
            have HJ2 := Lib.hid (HJB.out _ _ _ HJ.out B2.out)
            clear hmt
            gi_wp2
            refine ⟨(fun _ h => by cases h), ?_⟩
            gi_wp2
            exact ⟨⟨k + 1, by omega, by go_num, by rw [hrL_no HNO.out]; exact HJ2.out, hKp.out⟩, by simp [intOf]; omega⟩
          | false =>
            have CA := alone_any p OK.out fa qa fc qc b m.pot i k w2 S3.out.box S3.out.at' hp (by omega) hlt
            unfold plV at CA
            have HCA := Lib.hid CA
            clear CA
            gi_wp2
            refine ⟨trivial, (fun h => by cases h), ?_⟩
            refine (callsIn_wide.2 HCA.out).mono ?_
            rintro e w3 ⟨rfl, hb3⟩
            have hB3 := B2.out.next hb3
            have S4 := Lib.hid (S3.out.grow hb3)
            have P4 := Lib.hid (P2.out.grow hb3)
            have HJ4 := Lib.hid (HJB.out _ _ _ HJ.out hB3)
            have hK4 := Lib.hid (HK.out.trans (KpC.below hB3 S1.out.lt))
            clear hb3 hB3 S3 P2 B2 hKp HJ HCA a0 a1 p0 p1 c5
            cases hal : p.alone m.pot i k with
            | false =>
              have HNO := Lib.hid (show p.free m i k = false from by rw [HFR.out, hal]; simp)
              clear hmt hal
              gi_wp2
              exact ⟨⟨k + 1, by omega, by go_num, by rw [hrL_no HNO.out]; exact HJ4.out, hK4.out⟩, by simp [intOf]; omega⟩
            | true =>
              have HYES := Lib.hid (show p.free m i k = true from by rw [HFR.out, hal]; simp at hmt; simp [hmt])
              clear hmt hal
              have c5 : w3.cell? ⟨c2, 1 + i, none⟩ = some (.int .u64 (m.b i)) := (cellAt S4.out.mark (1 + i)).trans (m.cell (by omega))
              have d0 := cellAt S4.out.mark 0
              have d1 := cellAt S4.out.mark 1
              have d2 := cellAt S4.out.mark 2
              have d3 := cellAt S4.out.mark 3
              simp only [Mk.cs, List.getElem?_toArray, List.getElem?_cons_zero, List.getElem?_cons_succ] at d0 d1 d2 d3
              gi_upto_region 12 with (fail)
              have al := (Below.refl w3.heap.size w3).alloc (Nat.le_refl _) (.cells #[.int .i64 ((m.pot : Int) + 1), .int .u64 m.b0, .int .u64 m.b1, .int .u64 m.b2] 169)
              have N5 := Lib.hid (show BoxAt (w3.alloc (.cells #[.int .i64 ((m.pot : Int) + 1), .int .u64 m.b0, .int .u64 m.b1, .int .u64 m.b2] 169)) w3.heap.size ({ m with pot := m.pot + 1 } : Mk).cs 169 from heap_alloc_new w3 _)
              have S5 := Lib.hid (S4.out.grow al)
              have P5 := Lib.hid (P4.out.grow al)
              have B5 := Lib.hid al
              clear al c5 d0 d1 d2 d3
              generalize World.alloc w3 _ = w5 at *
              generalize hn9 : w3.heap.size = n9 at *
              have HN9 := Lib.hid hn9
              have hle9 := B5.out.size
              rw [hn9] at hle9
              clear hn9
              have al := (Below.refl w5.heap.size w5).alloc (Nat.le_refl _) (.cells #[.int .u64 (m.b i), .int .u64 y] 158)
              have N6 := Lib.hid (N5.out.grow al)
              have c5 : w5.cell? ⟨c2, 1 + i, none⟩ = some (.int .u64 (m.b i)) := (cellAt S5.out.mark (1 + i)).trans (m.cell (by omega))
              have hix9 := run_board n9 i (by omega)
              have c9 : (w5.alloc (.cells #[.int .u64 (m.b i), .int .u64 y] 158)).cell? ⟨n9, 1 + i, none⟩ = some (.int .u64 (m.b i)) := (cellAt N6.out (1 + i)).trans (Mk.cell { m with pot := m.pot + 1 } (by omega))
              have f9 := freeAt N6.out (1 + i)
              have CJ := Lib.hid (joined_any (some ⟨w5.heap.size, 0, none⟩) 2 (m.b i) y (w5.alloc (.cells #[.int .u64 (m.b i), .int .u64 y] 158)) (two_lit (show BoxAt _ _ _ _ from heap_alloc_new w5 _)) (by omega) (by omega))
              gi_wp2
              refine ⟨trivial, (fun h => by cases h), ?_⟩
              refine (callsIn_wide.2 CJ.out).mono ?_
              rintro e w6 ⟨rfl, rfl⟩
              gi_upto_region 13 with (fail)
              have N7 := Lib.hid (show BoxAt ((w5.alloc (.cells #[.int .u64 (m.b i), .int .u64 y] 158)).setCell ⟨n9, 1 + i, none⟩ (.int .u64 (m.b i ||| y : Nat))) n9 (p.next m i k).cs 169 from by
                have h := N6.out.store (1 + i) (.int .u64 (m.b i ||| y : Nat))
                rw [Mk.cs_set _ (by omega)] at h
                rw [HNX.out]
                exact h)
              have B7 := Lib.hid (show Below w3.heap.size w3 ((w5.alloc (.cells #[.int .u64 (m.b i), .int .u64 y] 158)).setCell ⟨n9, 1 + i, none⟩ (.int .u64 (m.b i ||| y : Nat))) from by
                rw [HN9.out]
                exact (B5.out.alloc hle9 _).setCell (p := ⟨n9, 1 + i, none⟩) (Nat.le_refl _) _)
              have HX := Lib.hid (show (⟨i, k, p.next m i k⟩ : Stp) ∈ p.steps m from mem_steps.2 ⟨hlt, hkt, HYES.out, rfl⟩)
              have HPR := Lib.hid (steps_split hlt hkt HYES.out)
              have HLT := Lib.hid (pre_lt hlt hkt HYES.out)
              have HAP := Lib.hid (hrL_yes HYES.out)
              clear HNX HYES HFR c9 f9 CJ N5 N6 S5 P5 hix hix9 c5 hle9 al hy hbf
              generalize p.next m i k = m2 at *
              generalize World.setCell _ _ _ = w7 at *
              have S7 := Lib.hid (S4.out.grow B7.out)
              have P7 := Lib.hid (P4.out.grow B7.out)
              have J7 := Lib.hid (HJB.out _ _ _ HJ4.out B7.out)
              have K7 := Lib.hid (hK4.out.trans (KpC.below B7.out S4.out.lt))
              clear S4 P4 HJ4 hK4 B7 B5
              have p0 := cellAt P7.out 0
              have p1 := cellAt P7.out 1
              have e0 := cellAt N7.out 0
              have e1 := cellAt N7.out 1
              have e2 := cellAt N7.out 2
              have e3 := cellAt N7.out 3
              simp only [Mk.cs, List.getElem?_toArray, List.getElem?_cons_zero, List.getElem?_cons_succ] at p0 p1 e0 e1 e2 e3
              obtain ⟨fn, tmps, assign, body, hyl, hR⟩ := HY.out _ _ _ HX.out J7.out HLT.out HPR.out
              simp only [Stp.vs, plV, Mk.v, Mk.cs] at hyl
              have HR := Lib.hid hR
              clear hR HX J7 HLT
              gi_wp2
              refine ⟨(fun h => by cases h), ?_⟩
              refine HR.out.mono ?_
              rintro e W3 (⟨rfl, hJ3, hk3⟩ | ⟨rfl, hJx3⟩)
              · have J8 := Lib.hid hJ3
                have K8 := Lib.hid (K7.out.trans hk3)
                clear hJ3 hk3 K7
                gi_wp2
                exact ⟨⟨k + 1, by omega, by go_num, by rw [HAP.out, ← List.append_assoc]; exact J8.out, K8.out⟩, by simp [intOf]; omega⟩
              · have Jx8 := Lib.hid hJx3
                clear hJx3
                gi_wp2
                rw [Exit.noGoto_ret]
                obtain ⟨s, hs⟩ := HPR.out
                gi_wp2
                refine bodyPost_ret (results_none rfl _ _ _) rfl ?_
                exact ⟨⟨_, rfl⟩, .inr ⟨_, ⟨s, by rw [← hs]; simp⟩, Jx8.out⟩⟩
        · have hkt' : ¬ (k : Int) < p.H := by omega
          obtain rfl : k = p.H := by omega
          gi_wp2
          exact ⟨⟨i + 1, hlt, by go_num, by rw [show p.fiL m (i + 1) = p.fiL m i ++ p.hrL m i p.H from rfl]; exact HJ.out, HK.out⟩, by simp [intOf]; omega⟩
    · have hlt' : ¬ (i : Int) < p.fn := by omega
      obtain rfl : i = p.fn := by omega
      gi_wp2
      go_end0
      exact ⟨⟨_, rfl⟩, .inl HJ.out⟩
end Go.Proofs.YtikeihnhkiipgaaGreat
