/-
  Can$1.
  Rows: what the closure reads; a row is made with room for one more, and copied.
  rows: the closure that goes on, where the set is whole.
-/
import Derived.Test.YtikeihnhkiipgaaGreatQD7
import Derived.Test.YtikeihnhkiipgaaGreatQG1
import Derived.WalkMore
import Derived.Scope
namespace Go.Proofs.YtikeihnhkiipgaaGreat
open Go.RowKit

section
variable (g : GN) (ok : g.Ok) (a : GA) (b : Nat) (v : Value)
include ok
set_option maxHeartbeats 1000000 in
theorem can1_any (x y n s : Nat) (hn : n < g.cn) (hs : s < 2 ^ g.sn) (w : World) (h : BoxAt w b (g.boxV a v) 77) (hx : BoxAt w x #[.int .i64 n] 3) (hy : BoxAt w y #[.int .i64 s] 3) :
    Calls Tryz.prog 27 #[bp b, bp x, bp y] w fun e W' => e = .returned (.bool true) ∧ Below w.heap.size w W' := by
  have c0 := cellAt hx 0
  have c1 := cellAt hy 0
  simp only [List.getElem?_toArray, List.getElem?_cons_zero] at c0 c1
  obtain ⟨q0, -, -⟩ := boxV_cells h
  have HD := Lib.hid (fun j => show BoxAt (w.drewN j) b (g.boxV a v) 77 from h)
  have C := Lib.hid (fun j => (isCrew_any g ok a b v n (w.drewN j) (HD.out j)))
  have HB := Lib.hid (show inB (n : Int) 0 ((g.cn : Int) - 1) = true from inB_true (by omega))
  have b3 := set_in hs ok.hsn
  have b4 := set_in' hs ok.hsn
  clear h
  go_enter Tryz.func27, Tryz.ntmps27
  go_upto_region 1 with (fail)
  go_quiet (first
    | (go_at_call 28; exact Calls.quiet_of_same ((C.out _).mono fun _ _ h => ⟨h.1.trans (by rw [HB.out]), h.2.symm⟩))
    | (go_at_call 29; exact Calls.quiet_of_same ((Ga.within_any _ _ _ _).mono fun _ _ h => ⟨h.1.trans (by first | rw [b3] | rw [b4]), h.2.symm⟩)))
  go_wp2_with fail
  go_ret
  exact ⟨rfl, below_drewN (Below.refl _ _) _⟩
end
end Go.Proofs.YtikeihnhkiipgaaGreat

namespace Go.Proofs.YtikeihnhkiipgaaGreat
open Go.RowKit

/-- Whatever the rounds keep: it stands as long as what lies stays. -/
structure RX where
  g : GN
  a : GA
  b : Nat
  r : Option Addr
  rc : Nat
  crew : Nat
  some : Nat
  l : Nat
  c : Nat
  s1 : Nat
  s2 : Nat
  s3 : Nat
  s4 : Nat
  s5 : Nat
  s6 : Nat
  lo : Nat
def RX.onV (x : RX) : Value := .func (.func 62) #[] #[bp x.s3, bp x.s4, bp x.s1, bp x.s5, bp x.s2, bp x.s6]
/-- What the closure reads. -/
structure RK (x : RX) (J : World → Prop) (W : World) : Prop where
  kw : KW x.g x.a x.b x.r x.rc x.crew x.c W
  gb : BoxAt W x.s1 #[bp x.b] 68
  cb : BoxAt W x.s2 #[.int .i64 x.crew] 3
  sb : BoxAt W x.s3 #[.int .u64 x.some] 74
  yb : BoxAt W x.s4 #[.func (.yield x.l) #[] #[]] 133
  kb : BoxAt W x.s5 #[knV x.c] 83
  ob : BoxAt W x.s6 #[x.onV] 133
  j : J W
  lo : x.lo ≤ W.heap.size
theorem RK.grow {x : RX} {J : World → Prop} {A B : World} (hJ : ∀ A B, J A → Below A.heap.size A B → J B) (h : RK x J A) (hb : Below A.heap.size A B) : RK x J B :=
  ⟨h.kw.grow hb, h.gb.grow hb, h.cb.grow hb, h.sb.grow hb, h.yb.grow hb, h.kb.grow hb, h.ob.grow hb, hJ _ _ h.j hb, Nat.le_trans h.lo hb.size⟩
/-- The numbers of a row. -/
def natsF (l : List Nat) : Nat → Int := fun i => ((l[i]?.getD 0 : Nat) : Int)
theorem rowVals_nats (l : List Nat) : rowVals (natsF l) l.length = l.map fun n => .int .i64 ((n : Nat) : Int) := by
  apply List.ext_getElem?
  intro i
  rcases Nat.lt_or_ge i l.length with h | h
  · rw [rowVals_get _ _ _ h, List.getElem?_map, List.getElem?_eq_getElem h]
    simp [natsF, List.getElem?_eq_getElem h]
  · rw [List.getElem?_eq_none (by rw [rowVals_length]; exact h), List.getElem?_eq_none (by simpa using h)]
theorem make_row (w : World) (n : Nat) (hn : n ≤ 5) : ∃ cs : Array Value, cs.size = n + 1 ∧ (Instr.makeSlice 24 (.int .i64 n) (.int .i64 ((n + 1 : Nat) : Int))).run Tryz.prog w = .ok (.slice (some ⟨w.heap.size, 0, none⟩) n (n + 1)) (w.alloc (.cells cs 3)) := by
  obtain ⟨i, hi, hz, hs, hb⟩ := info_parts info_int
  have h := run_make (P := Tryz.prog) w 24 3 i _ Tryz.underlying24 hi hz .i64 .i64 n ((n + 1 : Nat) : Int) (by omega) (by omega) (by rw [hb]; omega) (by omega)
  simp only [Int.toNat_natCast] at h
  exact ⟨_, by rw [size_madeCells, hs, Nat.mul_one], h⟩
theorem copy_none (w : World) (g n c : Nat) (ty : TypeId) : (Builtin.copy_ #[24, 24] ty #[.slice (some ⟨g, 0, none⟩) 0 n, .slice none 0 c]).run Tryz.prog w = .ok (.int .i64 0) w := by
  obtain ⟨i, hi, hz, hs, hb⟩ := info_parts info_int
  simp [Builtin.copy_, run_underlying Tryz.underlying24, Builtin.lenOf, Builtin.firstCells, sizeOf, typeInfo, hi, go_sem, storeCells]
/-- A row is copied into one with room for one more. -/
theorem copy_row {w : World} {g : Nat} {oa : Option Addr} {cap : Nat} {l : List Nat} {cur : Array Value} (hg : BoxAt w g cur 3) (hc : cur.size = l.length + 1) (hL : IntsAt w oa l.length (natsF l)) (hn : l.length ≤ 5) (ty : TypeId) :
    ∃ w', (Builtin.copy_ #[24, 24] ty #[.slice (some ⟨g, 0, none⟩) l.length (l.length + 1), .slice oa l.length cap]).run Tryz.prog w = .ok (.int .i64 l.length) w' ∧
      (∀ base, base ≤ g → w'.ownsRow base 3 1 (.slice (some ⟨g, 0, none⟩) l.length (l.length + 1)) l.length (l.map fun n => .int .i64 ((n : Nat) : Int))) ∧ ∀ B w0, Below B w0 w → B ≤ g → Below B w0 w' := by
  cases oa with
  | none =>
    have hl : l = [] := by
      cases l with
      | nil => rfl
      | cons x t => have := hL.plain (by simp); cases this
    subst hl
    refine ⟨w, copy_none w g _ cap ty, fun base hb => ⟨rfl, .inr ⟨g, 1, cur, rfl, hb, hg, by simp, by unfold maxLen; omega, hc, by simp⟩⟩, fun B w0 hb _ => hb⟩
  | some a =>
    have hlen : (l.map fun n => (.int .i64 ((n : Nat) : Int) : Value)).length = l.length := List.length_map _
    have ha : 0 < l.length → a = ⟨blk (some a), ofs (some a), none⟩ := fun h => by have := hL.plain h; simpa using this
    have h := run_copy_row_sz (P := Tryz.prog) w 24 24 ty 3 g l.length (l.length + 1) a l.length cap 1 cur 3 (l.map fun n => .int .i64 ((n : Nat) : Int)) Tryz.underlying24 size_int hg
      (by rw [hlen]; simp) (fun j v hj => by
        have hj2 := (List.getElem?_eq_some_iff.1 hj).1
        rw [hlen] at hj2
        have hc := hL.at hj2
        have e := ha (by omega)
        have ea : a.add j = ⟨blk (some a), ofs (some a) + j, none⟩ := by
          obtain ⟨ab, ao, ai⟩ := a
          obtain rfl : ai = none := congrArg Addr.spot e
          exact Addr.add_lit _ _ _
        rw [ea, hc, ← hj, List.getElem?_map, List.getElem?_eq_getElem hj2]
        simp [natsF, List.getElem?_eq_getElem hj2]) (by rw [hlen, hc]; omega) (by
        intro v hv
        obtain ⟨n, -, rfl⟩ := List.mem_map.1 hv
        rfl)
    rw [show Nat.min l.length l.length = l.length from Nat.min_self _] at h
    refine ⟨_, h, fun base hb => ⟨by simp, .inr ⟨g, l.length + 1, _, rfl, hb, setRow_heap w g cur _ 3 (0, 0) hg, by omega, by unfold maxLen; omega, ?_, ?_⟩⟩, fun B w0 hb hB => below_setRow hb hB _⟩
    · simp [hc]
    · simp
theorem or_mask {s m n : Nat} (hs : s < 18446744073709551616) (hn : n < 60) : (m &&& (18446744073709551615 - s)).testBit n = (m.testBit n && !s.testBit n) := by
  rw [Nat.testBit_and, show 18446744073709551615 - s = 2 ^ 64 - (s + 1) by omega, Nat.testBit_two_pow_sub_succ (by omega), decide_eq_true (by omega), Bool.true_and]
end Go.Proofs.YtikeihnhkiipgaaGreat

namespace Go.Proofs.YtikeihnhkiipgaaGreat
open Go.RowKit

attribute [local go_sem] Oper.semAt_some

/-- What a round is handed. -/
structure RE where
  oa : Option Addr
  cap : Nat
  row : List Nat
  st : St
def RE.vs (e : RE) : Array Value := #[.slice e.oa e.row.length e.cap, e.st.v]
def RE.lies (e : RE) (W : World) : Prop := IntsAt W e.oa e.row.length (natsF e.row)
/-- How the rounds go. -/
def RYield (x : RX) (J : World → Prop) (Jx : RE → World → Prop) (r0 : List Nat) : Prop :=
  ∀ e W, J W → e.row = r0 → e.lies W → (0 < e.row.length → x.lo ≤ blk e.oa) → ∀ m, YieldAt Fence.wide m Tryz.prog x.l e.vs W fun en W' => en = .returned (.bool false) ∧ Jx e W'
set_option maxRecDepth 100000 in
set_option maxHeartbeats 1000000 in
theorem on_hit (x : RX) (J : World → Prop) (Jx : RE → World → Prop) (hJ : ∀ A B, J A → Below A.heap.size A B → J B) (r0 : List Nat) (hY : RYield x J Jx r0)
    (oa : Option Addr) (cap : Nat) (s : St) (w : World) (h : RK x J w) (hs : s.s = x.some) (hA : IntsAt w oa r0.length (natsF r0)) (hlo : 0 < r0.length → x.lo ≤ blk oa) :
    Calls Tryz.prog 62 #[.slice oa r0.length cap, s.v, bp x.s3, bp x.s4, bp x.s1, bp x.s5, bp x.s2, bp x.s6] w fun e w' => e = .returned (.bool false) ∧ ∃ y, Jx y w' := by
  have al := (Below.refl w.heap.size w).alloc (Nat.le_refl _) (.cells s.cs 94)
  have I0 := Lib.hid (h.grow hJ al)
  have X0 := Lib.hid (show BoxAt (w.alloc (.cells s.cs 94)) w.heap.size s.cs 94 from heap_alloc_new _ _)
  have HY := Lib.hid (hY ⟨oa, cap, r0, s⟩ (w.alloc (.cells s.cs 94)) I0.out.j rfl (IntsAt.grow hA al) hlo)
  clear al h hA hY hJ hlo
  refine (callsIn_wide (n := 8)).1 ?_
  refine callsIn_of_wp Tryz.func62 rfl trivial ?_ rfl
  simp only [Tryz.ntmps62, List.size_toArray, List.length_cons, List.length_nil, Nat.reduceAdd, Nat.reduceSub, Array.replicate_succ, Array.replicate_zero, List.push_toArray, List.append_toArray, List.nil_append, List.cons_append]
  obtain ⟨fn, tmps, assign, body, hyl, hR⟩ := HY.out 7
  simp only [RE.vs] at hyl
  have HR := Lib.hid hR
  have c0 := cellAt X0.out 0
  have c1 := cellAt X0.out 1
  have d0 := cellAt I0.out.sb 0
  have d1 := cellAt I0.out.yb 0
  unfold St.v St.cs at *
  simp only [List.getElem?_toArray, List.getElem?_cons_zero, List.getElem?_cons_succ] at c0 c1 d0 d1
  rw [hs] at *
  clear hR HY X0 I0
  gi_wp2
  refine wpIn_scope ?_
  gi_wp2
  refine HR.out.mono ?_
  rintro e W3 ⟨rfl, hJx⟩
  gi_wp2
  rw [Exit.noGoto_ret]
  gi_wp2
  go_ret
  exact ⟨rfl, _, hJx⟩
end Go.Proofs.YtikeihnhkiipgaaGreat
