/-
  Row: isRow, and what hands it back.
  run: what a crew has done after each seam of a row, at a pace.
-/
import Derived.Test.YtikeihnhkiipgaaGreatQD7c
import Derived.RangeFuncBound
import Derived.RangeFuncCalls
import Derived.RangeFuncLeaves
import Derived.Shelf.RegionOpen
import Derived.TacticsInMore
import Derived.LoopNIn
import Derived.LoopIn
namespace Go.Proofs.YtikeihnhkiipgaaGreat
open Go.RowKit

/-- Which seams of a list were seen. -/
def seenL : List Nat → Nat
  | [] => 0
  | n :: l => seenL l ||| 2 ^ n
theorem seenL_bit {i : Nat} : ∀ {l : List Nat}, (seenL l).testBit i = decide (i ∈ l)
  | [] => by simp [seenL]
  | n :: l => by
    unfold seenL
    rw [or_bit, seenL_bit (l := l)]
    by_cases e : n = i
    · subst e; simp
    · simp [e, show ¬ i = n from fun h => e h.symm]
theorem seenL_lt {l : List Nat} (h : ∀ n ∈ l, n < 5) : seenL l < 32 := by
  induction l with
  | nil => decide
  | cons n l ih =>
    unfold seenL
    exact Nat.or_lt_two_pow (n := 5) (ih fun m hm => h m (List.mem_cons_of_mem _ hm)) (Nat.pow_lt_pow_right (by omega) (h n List.mem_cons_self))
theorem seenL_snoc (l : List Nat) (n : Nat) : seenL (l ++ [n]) = seenL l ||| 2 ^ n := by
  apply Nat.eq_of_testBit_eq
  intro i
  rw [or_bit, seenL_bit, seenL_bit]
  by_cases e : n = i
  · subst e; simp
  · simp [e, show ¬ i = n from fun h => e h.symm]
section
variable (g : GN) (ok : g.Ok) (a : GA) (b : Nat) (v : Value)
include ok
set_option maxHeartbeats 2000000 in
theorem isRow_any (oa : Option Addr) (cap : Nat) (l : List Nat) (hl : ∀ n ∈ l, n < g.sn) (hd : l.Nodup) (w : World) (h : BoxAt w b (g.boxV a v) 77) (hA : IntsAt w oa l.length (natsF l)) :
    Calls Tryz.prog 66 #[bp b, .slice oa l.length cap] w fun e w' => e = .returned (.bool true) ∧ w = w' := by
  have OK := Lib.hid ok
  have HL := Lib.hid hl
  have HD := Lib.hid hd
  have H0 := Lib.hid h
  have HA := Lib.hid hA
  have hsm := hA.small
  unfold maxLen at hsm
  have HSM := Lib.hid hsm
  clear ok hl hd h hA hsm
  go_enter Tryz.func66, Tryz.ntmps66
  go_wp2_with fail
  go_loopw [10, 5] (fun i s W => ∃ k : Nat, k ≤ l.length ∧ i = .int .i64 k ∧ s = .int .u64 ((seenL (l.take k) : Nat) : Int) ∧ W = w) (fun i _ _ => l.length - (intOf i).toNat)
  case atStart => exact ⟨0, Nat.zero_le _, rfl, rfl, rfl⟩
  case round =>
    obtain ⟨k, hk, rfl, rfl, rfl⟩ := hrel
    by_cases hlt : k < l.length
    · have hlt' : (k : Int) < l.length := by omega
      have hmeas : l.length - (k + 1) < l.length - k := by omega
      have HW := Lib.hid (show wrap64 ((k : Int) + 1) = ((k + 1 : Nat) : Int) from w64 (by have := HSM.out; omega))
      have hi := fun W => run_indexAt_row (w := W) (cap := cap) Tryz.underlying24 size_int (HA.out.plain (by omega)) hlt
      simp only [Nat.mul_one] at hi
      have c0 := HA.out.at hlt
      rw [show natsF l k = ((l[k] : Nat) : Int) from by simp [natsF, List.getElem?_eq_getElem hlt]] at c0
      have hn := HL.out l[k] (List.getElem_mem hlt)
      have HSN := Lib.hid (show l.take (k + 1) = l.take k ++ [l[k]] from by rw [List.take_add_one, List.getElem?_eq_getElem hlt]; rfl)
      have hno : (seenL (l.take k)).testBit l[k] = false := by
        rw [seenL_bit, decide_eq_false_iff_not]
        intro hm
        obtain ⟨i, hi1, hi2⟩ := List.getElem_of_mem hm
        rw [List.getElem_take] at hi2
        have hi3 : i < k := by have := hi1; rw [List.length_take] at this; omega
        exact List.pairwise_iff_getElem.1 HD.out i k (by omega) hlt hi3 hi2
      have hs32 : seenL (l.take k) < 32 := seenL_lt fun n hn => by have := HL.out n (List.mem_of_mem_take hn); have := OK.out.hsn; omega
      have HB := Lib.hid (show inB ((l[k] : Nat) : Int) 0 ((g.sn : Int) - 1) = true from inB_true (by omega))
      have HSS := Lib.hid (show seenL (l.take (k + 1)) = seenL (l.take k) ||| 2 ^ l[k] from by rw [HSN.out, seenL_snoc])
      clear HSN
      generalize l[k] = m at *
      generalize seenL (l.take k) = s at *
      have C1 := Lib.hid (isSeam_any g OK.out a b v m wr H0.out)
      rw [HB.out] at C1
      have C2 := Lib.hid (has_any s m wr (by omega) (by have := OK.out.hsn; omega))
      rw [hno] at C2
      have C3 := Lib.hid (with_any s m wr (by omega) (by have := OK.out.hsn; omega))
      clear hno hs32 hn HB
      go_wp2_with (first
        | (go_at_call 88; refine C1.out.mono ?_; rintro e w' ⟨rfl, rfl⟩)
        | (go_at_call 57; refine C2.out.mono ?_; rintro e w' ⟨rfl, rfl⟩)
        | (go_at_call 26; refine C3.out.mono ?_; rintro e w' ⟨rfl, rfl⟩))
      rw [HW.out]
      exact ⟨⟨k + 1, hlt, rfl, by rw [HSS.out], trivial⟩, hmeas⟩
    · have hlt' : ¬ (k : Int) < l.length := by omega
      go_wp2_with fail
      go_ret
      first | exact ⟨rfl, rfl⟩ | exact ⟨rfl, trivial⟩
set_option maxHeartbeats 1000000 in
theorem isRow1_any (x y crew : Nat) (hc : crew < g.cn) (oa : Option Addr) (cap : Nat) (l : List Nat) (hl : ∀ n ∈ l, n < g.sn) (hd : l.Nodup) (w : World) (h : BoxAt w b (g.boxV a v) 77) (hx : BoxAt w x #[.int .i64 crew] 3) (hy : BoxAt w y #[.slice oa l.length cap] 24) (hA : IntsAt w oa l.length (natsF l)) :
    Calls Tryz.prog 65 #[bp b, bp x, bp y] w fun e W' => e = .returned (.bool true) ∧ Below w.heap.size w W' := by
  have c0 := cellAt hx 0
  have c1 := cellAt hy 0
  simp only [List.getElem?_toArray, List.getElem?_cons_zero] at c0 c1
  have C := Lib.hid (isCrew_any g ok a b v crew w h)
  rw [show inB (crew : Int) 0 ((g.cn : Int) - 1) = true from inB_true (by omega)] at C
  have C2 := Lib.hid (isRow_any g ok a b v oa cap l hl hd w h hA)
  clear h hA hx hy
  go_enter Tryz.func65, Tryz.ntmps65
  go_wp2_with (first
    | (go_at_call 28; refine C.out.mono ?_; rintro e w' ⟨rfl, rfl⟩)
    | (go_at_call 66; refine C2.out.mono ?_; rintro e w' ⟨rfl, rfl⟩))
  go_ret
  exact ⟨rfl, Below.refl _ _⟩
end
theorem isRowF_any (crew : Nat) (oa : Option Addr) (n cap : Nat) (w : World) :
    Calls Tryz.prog 31 #[.int .i64 crew, .slice oa n cap] w fun e w' => e = .returned (.func (.func 65) #[] #[bp w.heap.size, bp (w.heap.size + 1)]) ∧ w' = (w.alloc (.cells #[.int .i64 crew] 3)).alloc (.cells #[.slice oa n cap] 24) := by
  go_enter Tryz.func31, Tryz.ntmps31
  go_wp2
  go_ret
  exact ⟨rfl, rfl⟩
end Go.Proofs.YtikeihnhkiipgaaGreat

namespace Go.Proofs.YtikeihnhkiipgaaGreat
open Go.RowKit Go.Shelf

attribute [local go_sem] Oper.semAt_some

set_option maxHeartbeats 400000 in
theorem fast_any (lo hi se : Nat) (w : World) :
    Calls Tryz.prog 130 #[.agg #[], .agg #[.int .i64 lo, .int .i64 hi, .int .i64 se]] w fun e w' => e = .returned (.int .i64 hi) ∧ Below w.heap.size w w' := by
  go_enter Tryz.func130, Tryz.ntmps130
  go_upto_region 1 with (fail)
  generalize hW : World.alloc (World.alloc w _) _ = W
  obtain ⟨-, z1, -, hB⟩ := blocks2 hW
  have c0 := cellAt z1 1
  simp only [List.getElem?_toArray, List.getElem?_cons_zero, List.getElem?_cons_succ] at c0
  go_wp2_with fail
  go_ret
  exact ⟨rfl, hB⟩
/-- How a crew goes through a row at a speed: what it has done behind each seam. -/
def GN.stP (g : GN) (sp : Nat) (l : List Nat) : Nat → St
  | 0 => ⟨0, 0⟩
  | k + 1 => g.nxtP sp (g.stP sp l k) (l[k]?.getD 0)
/-- Its hours are small. -/
theorem stP_le {g : GN} (ok : g.Ok) {sp : Nat} (hs : 1 ≤ sp) {l : List Nat} (hl : ∀ n ∈ l, n < g.sn) : ∀ k, k ≤ l.length → (g.stP sp l k).h ≤ 10100 + 100 * k ∧ (g.stP sp l k).s < 32
  | 0, _ => ⟨Nat.zero_le _, show (0 : Nat) < 32 from by decide⟩
  | k + 1, hk => by
    obtain ⟨h1, h2⟩ := stP_le ok hs hl k (by omega)
    have hn : l[k]?.getD 0 < g.sn := by rw [List.getElem?_eq_getElem (by omega)]; exact hl _ (List.getElem_mem _)
    unfold GN.stP GN.nxtP
    dsimp only
    have hr := rdy_le ok hn
    have hf := (ok.hfm _ hn).2
    have hd : (g.fm (l[k]?.getD 0) + sp - 1) / sp ≤ 60 := Nat.le_trans (by
      have h := takes_anti (f := g.fm (l[k]?.getD 0)) (a := 1) (b := sp) (by omega) hs
      rw [Nat.div_one] at h
      omega) hf
    exact ⟨by omega, Nat.or_lt_two_pow (n := 5) h2 (Nat.pow_lt_pow_right (by omega) (by have := ok.hsn; omega))⟩
/-- What the iterator captures. -/
structure RU (g : GN) (a : GA) (b : Nat) (r : Option Addr) (rc crew pt : Nat) (oa : Option Addr) (cap : Nat) (l : List Nat) (s : Nat) (W : World) : Prop where
  gw : GW g a b r rc W
  gb : BoxAt W s #[bp b] 68
  cb : BoxAt W (s + 1) #[.int .i64 crew] 3
  lb : BoxAt W (s + 2) #[.slice oa l.length cap] 24
  pb : BoxAt W (s + 3) #[.iface pt (.agg #[])] 139
  row : IntsAt W oa l.length (natsF l)
theorem RU.grow {g : GN} {a : GA} {b : Nat} {r : Option Addr} {rc crew pt : Nat} {oa : Option Addr} {cap : Nat} {l : List Nat} {s : Nat} {A B : World} (h : RU g a b r rc crew pt oa cap l s A) (hb : Below A.heap.size A B) : RU g a b r rc crew pt oa cap l s B :=
  ⟨h.gw.grow hb, h.gb.grow hb, h.cb.grow hb, h.lb.grow hb, h.pb.grow hb, h.row.grow hb⟩
section
variable (g : GN) (ok : g.Ok) (a : GA) (b : Nat) (r : Option Addr) (rc : Nat)
include ok
set_option maxHeartbeats 2000000 in
theorem run_any (crew pt : Nat) (hc : crew < g.cn) (oa : Option Addr) (cap : Nat) (l : List Nat) (hl : ∀ n ∈ l, n < g.sn ∧ g.kn crew n = true) (w : World) (h : GW g a b r rc w) (hA : IntsAt w oa l.length (natsF l)) :
    Calls Tryz.prog 32 #[bp b, .int .i64 crew, .slice oa l.length cap, .iface pt (.agg #[])] w fun e w' => e = .returned (.func (.func 67) #[] #[bp (w.heap.size + 2), bp w.heap.size, bp (w.heap.size + 1), bp (w.heap.size + 3)]) ∧
      RU g a b r rc crew pt oa cap l w.heap.size w' ∧ Below w.heap.size w w' := by
  have OK := Lib.hid ok
  have HL := Lib.hid hl
  have HC := Lib.hid hc
  have hsm := hA.small
  unfold maxLen at hsm
  have HSM := Lib.hid hsm
  have I0 := Lib.hid (show RU g a b r rc crew pt oa cap l w.heap.size ((((w.alloc (.cells #[bp b] 68)).alloc (.cells #[.int .i64 crew] 3)).alloc (.cells #[.slice oa l.length cap] 24)).alloc (.cells #[.iface pt (.agg #[])] 139)) from by
    obtain ⟨z0, z1, z2, z3, -, hB⟩ := blocks4 (show (((w.alloc (.cells #[bp b] 68)).alloc (.cells #[.int .i64 crew] 3)).alloc (.cells #[.slice oa l.length cap] 24)).alloc (.cells #[.iface pt (.agg #[])] 139) = _ from rfl)
    exact ⟨h.grow hB, z0, z1, z2, z3, hA.grow hB⟩)
  have B0 := Lib.hid (show Below w.heap.size w ((((w.alloc (.cells #[bp b] 68)).alloc (.cells #[.int .i64 crew] 3)).alloc (.cells #[.slice oa l.length cap] 24)).alloc (.cells #[.iface pt (.agg #[])] 139)) from by
    obtain ⟨-, -, -, -, -, hB⟩ := blocks4 (show (((w.alloc (.cells #[bp b] 68)).alloc (.cells #[.int .i64 crew] 3)).alloc (.cells #[.slice oa l.length cap] 24)).alloc (.cells #[.iface pt (.agg #[])] 139) = _ from rfl)
    exact hB)
  clear ok hl hc hsm h hA
  go_enter Tryz.func32, Tryz.ntmps32
  go_upto_region 1 with (fail)
  generalize World.alloc (World.alloc (World.alloc (World.alloc w _) _) _) _ = w0 at *
  have g0 := cellAt I0.out.gb 0
  have c0 := cellAt I0.out.cb 0
  simp only [List.getElem?_toArray, List.getElem?_cons_zero] at g0 c0
  have C1 := Lib.hid (knows_any g OK.out a b r rc crew HC.out w0 I0.out.gw)
  unfold knV at C1
  go_upto_region 2 with (go_at_call 61; refine C1.out.mono ?_; rintro e w1 ⟨rfl, hk1, hb1⟩)
  have I1 := Lib.hid (I0.out.grow hb1)
  have B1 := Lib.hid (B0.out.next hb1)
  have K1 := Lib.hid hk1
  clear C1 hk1 hb1 I0 B0 g0 c0
  generalize w0.heap.size = c at *
  have l0 := cellAt I1.out.lb 0
  simp only [List.getElem?_toArray, List.getElem?_cons_zero] at l0
  go_wp2_with fail
  clear l0
  go_loopw [17] (fun i W => ∃ k : Nat, k ≤ l.length ∧ i = .int .i64 k ∧ W = w1) (fun i _ => l.length - (intOf i).toNat)
  case atStart => exact ⟨0, Nat.zero_le _, rfl, rfl⟩
  case round =>
    obtain ⟨k, hk, rfl, rfl⟩ := hrel
    by_cases hlt : k < l.length
    · have hlt' : (k : Int) < l.length := by omega
      have hmeas : l.length - (k + 1) < l.length - k := by omega
      have HW := Lib.hid (show wrap64 ((k : Int) + 1) = ((k + 1 : Nat) : Int) from w64 (by have := HSM.out; omega))
      have hi := fun W => run_indexAt_row (w := W) (cap := cap) Tryz.underlying24 size_int (I1.out.row.plain (by omega)) hlt
      simp only [Nat.mul_one] at hi
      have c0 := I1.out.row.at hlt
      rw [show natsF l k = ((l[k] : Nat) : Int) from by simp [natsF, List.getElem?_eq_getElem hlt]] at c0
      obtain ⟨hn, hkn⟩ := HL.out l[k] (List.getElem_mem hlt)
      generalize l[k] = m at *
      have C3 := Lib.hid (knows1_any g OK.out a b r rc crew c m HC.out hn wr K1.out)
      rw [hkn] at C3
      have m0 : ∀ W, (callFunc 87 #[.int .i64 m, bp (c + 1), bp c]).run Tryz.prog W = .ok (.enter 87 #[.int .i64 m, bp (c + 1), bp c]) W := fun _ => by kernel_rfl
      clear hkn hn
      go_wp2_with (first
        | (go_at_call 87; refine C3.out.mono ?_; rintro e w' ⟨rfl, rfl⟩)
        | (go_at_call 25; ((with_reducible refine (Ga.ask_true _ _).mono ?_); rintro e w' ⟨rfl, rfl⟩)))
      rw [HW.out]
      exact ⟨⟨k + 1, hlt, rfl, trivial⟩, hmeas⟩
    · have hlt' : ¬ (k : Int) < l.length := by omega
      go_wp2_with fail
      go_ret
      exact ⟨rfl, I1.out, B1.out⟩
end
end Go.Proofs.YtikeihnhkiipgaaGreat
