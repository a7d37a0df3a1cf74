/-
  rows: the closure, as far as it goes; the iterator; what hands it back.
  Can, where a right row is there.
-/
import Derived.Test.YtikeihnhkiipgaaGreatG5
import Derived.Test.YtikeihnhkiipgaaGreatQD7c
namespace Go.Proofs.YtikeihnhkiipgaaGreat
open Go.RowKit

theorem on_any (x : RX) (ok : x.g.Ok) (J : World → Prop) (Jx : RE → World → Prop) (hJ : ∀ A B, J A → Below A.heap.size A B → J B) (r0 : List Nat) (hY : RYield x J Jx r0) (hcr : x.crew < x.g.cn) (hso : x.some < 2 ^ x.g.sn) :
    ∀ (k : Nat) (oa : Option Addr) (cap : Nat) (row : List Nat) (s : St) (w : World), RK x J w → missB x.some s.s x.g.sn ≤ k → row.length + k ≤ 5 → s.s < 32 → s.h ≤ 24 → IntsAt w oa row.length (natsF row) → (0 < row.length → x.lo ≤ blk oa) →
      (∀ r, x.g.first x.crew x.some k row s = some r → r = r0) →
      Calls Tryz.prog 62 #[.slice oa row.length cap, s.v, bp x.s3, bp x.s4, bp x.s1, bp x.s5, bp x.s2, bp x.s6] w (OnPost Jx r0 (x.g.first x.crew x.some k row s) w)
  | k, oa, cap, row, s, w, h, hm, hl, h32, hh, hA, hlo, hr => by
    by_cases hs : s.s = x.some
    · have hf := first_here (g := x.g) (crew := x.crew) (k := k) (row := row) hs
      have e := hr row hf
      subst e
      rw [hf]
      exact (on_hit x J Jx hJ row hY oa cap s w h hs hA hlo).mono fun _ _ ⟨h1, h2⟩ => .inr ⟨rfl, h1, h2⟩
    · cases k with
      | zero =>
        have hno : ∀ n, n < x.g.sn → x.g.cnx x.crew x.some s n = true → False := fun n hn hc => by
          have h1 := missB_zero (Nat.le_zero.1 hm) n hn
          obtain ⟨h2, h3, -⟩ := cnx_iff.1 hc
          rw [h2, h3] at h1
          cases h1
        have e : x.g.first x.crew x.some 0 row s = (List.range x.g.sn).findSome? fun n => if x.g.cnx x.crew x.some s n then (none : Option (List Nat)) else none := by
          rw [fs_none (fun i hi hc => (hno i hi hc).elim), GN.first, if_neg hs]
        rw [e] at hr ⊢
        exact on_loop x ok J Jx hJ r0 hcr hso oa cap row s w h hs h32 hh hA (fun _ => none) (fun n hn hc => (hno n hn hc).elim) hr fun n _ _ _ hn hc => (hno n hn hc).elim
      | succ k =>
        have e : x.g.first x.crew x.some (k + 1) row s = (List.range x.g.sn).findSome? fun n => if x.g.cnx x.crew x.some s n then x.g.first x.crew x.some k (row ++ [n]) (x.g.nxt s x.crew n) else none := by
          rw [GN.first, if_neg hs]
        rw [e] at hr ⊢
        refine on_loop x ok J Jx hJ r0 hcr hso oa cap row s w h hs h32 hh hA (fun n => x.g.first x.crew x.some k (row ++ [n]) (x.g.nxt s x.crew n)) (fun _ _ _ => by omega) hr fun n oa' cap' W hn hc hr' hW hA' hlo' => ?_
        have hlen : (row ++ [n]).length = row.length + 1 := by rw [List.length_append]; rfl
        have ih := on_any x ok J Jx hJ r0 hY hcr hso k oa' cap' (row ++ [n]) (x.g.nxt s x.crew n) W hW (cnx_miss hc hn hm) (by rw [hlen]; omega)
          (show s.s ||| 2 ^ n < 2 ^ 5 from Nat.or_lt_two_pow h32 (Nat.pow_lt_pow_right (by omega) (by have := ok.hsn; omega)))
          (Nat.le_trans (cnx_iff.1 hc).2.2.2 (ok.hfl n hn)) (by rw [hlen]; exact hA') (fun _ => hlo') hr'
        rw [hlen] at ih
        exact ih
/-- What the iterator captures. -/
structure RS (g : GN) (a : GA) (b : Nat) (r : Option Addr) (rc crew some s : Nat) (W : World) : Prop where
  gw : GW g a b r rc W
  gb : BoxAt W s #[bp b] 68
  cb : BoxAt W (s + 1) #[.int .i64 crew] 3
  sb : BoxAt W (s + 2) #[.int .u64 some] 74
theorem RS.grow {g : GN} {a : GA} {b : Nat} {r : Option Addr} {rc crew some s : Nat} {A B : World} (h : RS g a b r rc crew some s A) (hb : Below A.heap.size A B) : RS g a b r rc crew some s B := ⟨h.gw.grow hb, h.gb.grow hb, h.cb.grow hb, h.sb.grow hb⟩
set_option maxRecDepth 100000 in
set_option maxHeartbeats 2000000 in
theorem rows1_once (g : GN) (ok : g.Ok) (a : GA) (b : Nat) (r : Option Addr) (rc crew some s : Nat) (hcr : crew < g.cn) (hso : some < 2 ^ g.sn) (r0 : List Nat) (hf : g.first crew some g.sn [] ⟨0, 0⟩ = Option.some r0) (n : Nat) (w : World) (h : RS g a b r rc crew some s w) :
    OnceSeq Fence.wide n Tryz.prog 60 #[bp s, bp (s + 1), bp (s + 2)] RE.vs (fun e W => e.row = r0 ∧ e.lies W ∧ (0 < e.row.length → w.heap.size ≤ blk e.oa)) w := by
  intro l J Jx W hW hJ hJx hY h0
  refine callsIn_wide.2 ?_
  have S0 := Lib.hid (h.grow hW)
  have HLW := Lib.hid hW.size
  have HJ := Lib.hid hJ
  have HY := Lib.hid hY
  have OK := Lib.hid ok
  have HF := Lib.hid hf
  have HCR := Lib.hid hcr
  have HSO := Lib.hid hso
  have J0 := Lib.hid h0
  have al := (Below.refl W.heap.size W).alloc (Nat.le_refl _) (.cells #[.func (.yield l) #[] #[]] 133)
  have S1 := Lib.hid (S0.out.grow al)
  have Y1 := Lib.hid (show BoxAt (W.alloc (.cells #[.func (.yield l) #[] #[]] 133)) W.heap.size #[.func (.yield l) #[] #[]] 133 from heap_alloc_new _ _)
  have B1 := Lib.hid al
  clear hJ hY ok hf h0 h hJx hW al S0 hcr hso
  rw [show (#[.func (.yield l) #[] #[]] : Array Value) ++ #[bp s, bp (s + 1), bp (s + 2)] = #[.func (.yield l) #[] #[], bp s, bp (s + 1), bp (s + 2)] from rfl]
  go_enter Tryz.func60, Tryz.ntmps60
  go_upto_region 1 with (fail)
  generalize World.alloc W _ = w1 at *
  have g0 := cellAt S1.out.gb 0
  have c0 := cellAt S1.out.cb 0
  simp only [List.getElem?_toArray, List.getElem?_cons_zero] at g0 c0
  have C1 := Lib.hid (knows_any g OK.out a b r rc crew HCR.out w1 S1.out.gw)
  unfold knV at C1
  go_upto_region 2 with (go_at_call 61; refine C1.out.mono ?_; rintro e w2 ⟨rfl, hk2, hb2⟩)
  have al := (Below.refl w2.heap.size w2).alloc (Nat.le_refl _) (.cells #[knV w1.heap.size] 83)
  have S2 := Lib.hid ((S1.out.grow hb2).grow al)
  have K2 := Lib.hid (hk2.grow al)
  have Y2 := Lib.hid ((Y1.out.grow hb2).grow al)
  have Z2 := Lib.hid (show BoxAt (w2.alloc (.cells #[knV w1.heap.size] 83)) w2.heap.size #[knV w1.heap.size] 83 from heap_alloc_new _ _)
  have B2 := Lib.hid ((B1.out.next hb2).next al)
  unfold knV at al S2 K2 Y2 Z2 B2
  clear hk2 hb2 al C1 S1 Y1 B1 g0 c0
  generalize w1.heap.size = c at *
  generalize World.alloc w2 _ = w3 at *
  generalize w2.heap.size = s5 at *
  go_upto_region 4 with (fail)
  have X4 : ∃ x : RX, x = ⟨g, a, b, r, rc, crew, some, l, c, s, s + 1, s + 2, W.heap.size, s5, w3.heap.size, w.heap.size⟩ := ⟨_, rfl⟩
  obtain ⟨x, hx⟩ := X4
  have al := (Below.refl w3.heap.size w3).alloc (Nat.le_refl _) (.cells #[x.onV] 133)
  have R4 := Lib.hid (show RK x (fun V => J V ∧ Below W.heap.size W V) (w3.alloc (.cells #[x.onV] 133)) from by
    subst hx
    exact ⟨K2.out.grow al, S2.out.gb.grow al, S2.out.cb.grow al, S2.out.sb.grow al, Y2.out.grow al, Z2.out.grow al, heap_alloc_new _ _, ⟨HJ.out _ _ J0.out (B2.out.next al), B2.out.next al⟩, Nat.le_trans HLW.out (B2.out.next al).size⟩)
  have C4 := Lib.hid (on_any x (by subst hx; exact OK.out) (fun V => J V ∧ Below W.heap.size W V) Jx (fun A B hA hB => ⟨HJ.out A B hA.1 hB, hA.2.next hB⟩) r0 (fun e V hV he hl hlo m => by subst hx; exact HY.out e V hV.1 ⟨he, hl, hlo⟩ hV.2 m) (by subst hx; exact HCR.out) (by subst hx; exact HSO.out)
    g.sn none 0 [] ⟨0, 0⟩ _ R4.out (by subst hx; exact missB_le _ _ _) (by have := OK.out.hsn; simp; omega) (by decide) (by decide) ⟨fun h => absurd h (by simp), fun h => absurd h (by simp), by simp, fun i hi => absurd hi (by simp)⟩ (fun h => absurd h (by simp)) (fun q hq => by subst hx; exact Option.some.inj (hq.symm.trans HF.out)))
  have m0 : ∀ V, (callFunc 62 #[.slice none 0 0, .agg #[.int .u64 0, .int .i64 0], bp (s + 2), bp W.heap.size, bp s, bp s5, bp (s + 1), bp w3.heap.size]).run Tryz.prog V = .ok (.enter 62 #[.slice none 0 0, .agg #[.int .u64 0, .int .i64 0], bp (s + 2), bp W.heap.size, bp s, bp s5, bp (s + 1), bp w3.heap.size]) V := fun _ => by kernel_rfl
  clear R4 al HY HJ J0 S2 K2 Y2 Z2
  subst hx
  unfold RX.onV at C4
  rw [show ([] : List Nat).length = 0 from rfl] at C4
  have HF2 := Lib.hid HF.out
  simp only [St.v, St.cs, Int.natCast_zero] at C4
  go_wp2_with (go_at_call 62; (with_reducible refine C4.out.mono ?_); rintro e wB (⟨hfn, rfl, hbB⟩ | ⟨hfn, rfl, hjx⟩))
  · rw [HF2.out] at hfn
    cases hfn
  · go_end0
    exact ⟨⟨_, rfl⟩, hjx⟩
theorem rows_any (b crew some : Nat) (w : World) :
    Calls Tryz.prog 30 #[bp b, .int .i64 crew, .int .u64 some] w fun e w' => e = .returned (.func (.func 60) #[] #[bp w.heap.size, bp (w.heap.size + 1), bp (w.heap.size + 2)]) ∧
      w' = ((w.alloc (.cells #[bp b] 68)).alloc (.cells #[.int .i64 crew] 3)).alloc (.cells #[.int .u64 some] 74) := by
  go_enter Tryz.func30, Tryz.ntmps30
  go_wp2
  go_ret
  exact ⟨rfl, rfl⟩
end Go.Proofs.YtikeihnhkiipgaaGreat

namespace Go.Proofs.YtikeihnhkiipgaaGreat
open Go.RowKit Go.Shelf

attribute [local go_sem] Oper.semAt_some

/-- What stands in Can. -/
structure CW (g : GN) (a : GA) (w : World) (crew some : Nat) (W : World) : Prop where
  oi : OI g a w W
  x : BoxAt W (w.heap.size + 1) #[.int .i64 crew] 3
  y : BoxAt W (w.heap.size + 1 + 1) #[.int .i64 some] 3
  rs : BoxAt W (w.heap.size + 1 + 1 + 1) #[.slice none 0 0] 24
  e : BoxAt W (w.heap.size + 1 + 1 + 1 + 1) #[.int .i64 0] 33
theorem CW.grow {g : GN} {a : GA} {w : World} {crew some : Nat} {A B : World} (h : CW g a w crew some A) (hb : Below A.heap.size A B) : CW g a w crew some B := ⟨h.oi.grow hb, h.x.grow hb, h.y.grow hb, h.rs.grow hb, h.e.grow hb⟩
/-- What Can hands back. -/
def CanPost (r0 : List Nat) (w : World) (e : Ending) (w' : World) : Prop := Below w.heap.size w w' ∧ ∃ oa cap, e = .returned (.tuple #[.slice oa r0.length cap, .int .i64 0]) ∧ IntsAt w' oa r0.length (natsF r0)
/-- The same, and that it is a new one. -/
def CanPost' (r0 : List Nat) (w : World) (e : Ending) (w' : World) : Prop := Below w.heap.size w w' ∧ ∃ oa cap, e = .returned (.tuple #[.slice oa r0.length cap, .int .i64 0]) ∧ IntsAt w' oa r0.length (natsF r0) ∧ (0 < r0.length → w.heap.size ≤ blk oa)
theorem lies_put {e : RE} {A : World} {l : Nat} {o o' : Obj} (h : e.lies A) (ho : A.heap[l]? = some o) (hc : o.isCells = false) : e.lies (A.putObj l o') :=
  row_keep h (by simp [World.putObj]) fun h0 => World.putObj_heap_other (fun e => by
    obtain ⟨o2, ho2, hc2⟩ := row_isCells h h0
    rw [e] at ho2
    rw [ho] at ho2
    cases ho2
    rw [hc] at hc2
    cases hc2)
section
variable (g : GN) (ok : g.Ok) (a : GA)
include ok
set_option maxRecDepth 100000 in
set_option maxHeartbeats 4000000 in
theorem can_new (crew some : Nat) (hcr : crew < g.cn) (hso : some < 2 ^ g.sn) (r0 : List Nat) (hf : g.first crew some g.sn [] ⟨0, 0⟩ = Option.some r0) (w : World) (hA : g.At a w) :
    Calls Tryz.prog 7 #[.agg (g.cs a), .int .i64 crew, .int .i64 some] w (CanPost' r0 w) := by
  have I0 := Lib.hid (show CW g a w crew some (((((w.alloc (.cells (g.cs a) 29)).alloc (.cells #[.int .i64 crew] 3)).alloc (.cells #[.int .i64 some] 3)).alloc (.cells #[.slice none 0 0] 24)).alloc (.cells #[.int .i64 0] 33)) from by
    obtain ⟨z0, z1, z2, z3, z4, hB⟩ := blocks5' (show ((((w.alloc (.cells (g.cs a) 29)).alloc (.cells #[.int .i64 crew] 3)).alloc (.cells #[.int .i64 some] 3)).alloc (.cells #[.slice none 0 0] 24)).alloc (.cells #[.int .i64 0] 33) = _ from rfl)
    exact ⟨⟨hB, z0, hA.grow hB⟩, z1, z2, z3, z4⟩)
  have OK := Lib.hid ok
  have HCR := Lib.hid hcr
  have HSO := Lib.hid hso
  have HF := Lib.hid hf
  have H0 := Lib.hid hA
  have C1 := Lib.hid (fun W (h : CW g a w crew some W) => gopen_any g ok a 27 #[bp (w.heap.size + 1), bp (w.heap.size + 1 + 1)] W h.oi.at' (fun b W => by kernel_rfl) (fun b v W' hB hb => can1_any g ok a b v (w.heap.size + 1) (w.heap.size + 1 + 1) crew some hcr hso W' hb (h.x.grow hB) (h.y.grow hB)))
  have hso64 : IntKind.u64.wrap (some : Int) = (some : Int) := wrap64u rfl (by have : 2 ^ g.sn ≤ 2 ^ 5 := Nat.pow_le_pow_right (by omega) ok.hsn; omega)
  clear hA ok hcr hso hf
  unfold GN.cs at *
  refine (callsIn_wide (n := 9)).1 ?_
  refine callsIn_of_wp_marks Tryz.func7 rfl trivial ?_ rfl
  simp only [Tryz.ntmps7, List.size_toArray, List.length_cons, List.length_nil, Nat.reduceAdd, Nat.reduceSub, Array.replicate_succ, Array.replicate_zero, List.push_toArray, List.append_toArray, List.nil_append, List.cons_append]
  gi_upto_region 2 with (fail)
  generalize World.alloc (World.alloc (World.alloc (World.alloc (World.alloc w _) _) _) _) _ = w0 at *
  obtain ⟨q0, q1, q2, q3, q4, q5, q6⟩ := I0.out.oi.cells
  gi_wp2
  refine ⟨trivial, ?_⟩
  refine (callsIn_wide.2 (C1.out _ I0.out)).mono ?_
  rintro e w1 ⟨b, r, rc, rfl, hbw, hgw, hb1⟩
  have I1 := Lib.hid (I0.out.grow hb1)
  have G1 := Lib.hid hgw
  clear hgw hb1 hbw q0 q1 q2 q3 q4 q5 q6 I0 C1
  have x0 := cellAt I1.out.x 0
  have y0 := cellAt I1.out.y 0
  simp only [List.getElem?_toArray, List.getElem?_cons_zero] at x0 y0
  gi_wp2
  refine ⟨trivial, ?_⟩
  refine (callsIn_wide.2 (rows_any b crew some w1)).mono ?_
  rintro e w2 ⟨rfl, hw2⟩
  obtain ⟨z0, z1, z2, hB⟩ := blocks3' hw2.symm
  have I2 := Lib.hid (I1.out.grow hB)
  have S2 := Lib.hid (show RS g a b r rc crew some w1.heap.size w2 from ⟨G1.out.grow hB, z0, z1, z2⟩)
  clear hw2 z0 z1 z2 hB G1 I1 x0 y0
  generalize w1.heap.size = s at *
  gi_wp2
  generalize hA : Act.mk _ _ = A0
  have HA := Lib.hid hA
  clear hA
  have hlt : w.heap.size + 1 + 1 + 1 + 1 < w2.heap.size := lt_of_heap I2.out.e
  refine wpIn_rangeFunc_once (w := w2) rfl rfl (by omega) (gf := 60) (lb := #[bp s, bp (s + 1), bp (s + 2)]) (by rw [← HA.out]; rfl) trivial (enters_of Tryz.func60 (by kernel_rfl) rfl)
    (rows1_once g OK.out a b r rc crew some s HCR.out HSO.out r0 HF.out 8 w2 S2.out) (fun _ => rfl)
    (fun e W => Below w.heap.size w W ∧ (e.row = r0 ∧ e.lies W ∧ (0 < e.row.length → w2.heap.size ≤ blk e.oa)) ∧ BoxAt W (w.heap.size + 1 + 1 + 1) #[.slice e.oa e.row.length e.cap] 24 ∧ BoxAt W (w.heap.size + 1 + 1 + 1 + 1) #[.int .i64 0] 33)
    (fun e A l o o' hl ho hc h => ⟨h.1, lies_put h.2.1 ho hc, h.2.2⟩)
    (fun e A B h hb => ⟨h.1.next hb, ⟨h.2.1.1, IntsAt.grow h.2.1.2.1 hb, h.2.1.2.2⟩, h.2.2.1.grow hb, h.2.2.2.grow hb⟩)
    (fun e A l o o' hl ho hc h => ⟨h.1.grown (grownBy_putObj' A l o') h.1.size (fun k e => by cases e; omega), ⟨h.2.1.1, lies_put h.2.1.2.1 ho hc, h.2.1.2.2⟩, (World.putObj_heap_other (by omega)).trans h.2.2.1, (World.putObj_heap_other (by omega)).trans h.2.2.2⟩)
    (fun e => { tmps := ((A0.tmps.setIfInBounds 18 (.slice e.oa e.row.length e.cap)).setIfInBounds 19 e.st.v).setIfInBounds 9 (.slice e.oa e.row.length e.cap), defers := [] }) ?assign ?body ?stop
  case assign =>
    intro l e W K hK
    have HK := Lib.hid hK
    clear hK
    rw [← HA.out] at HK ⊢
    simp only [RE.vs] at *
    gi_wp2
    exact HK.out
  case body =>
    rintro l e W hbw ⟨he, hl, hlo⟩
    have I3 := Lib.hid (I2.out.grow hbw)
    have HE := Lib.hid he
    have HL := Lib.hid hl
    have HO := Lib.hid hlo
    have c0 := cellAt I3.out.rs 0
    have f0 := freeAt I3.out.rs 0
    have c1 := cellAt I3.out.e 0
    have f1 := freeAt I3.out.e 0
    simp only [List.getElem?_toArray, List.getElem?_cons_zero] at c0 c1
    clear he hl hlo hbw
    rw [← HA.out]
    simp only [List.setIfInBounds_toArray, List.set_cons_zero, List.set_cons_succ]
    gi_wp2
    refine ⟨((KeepsOthers.setCell _ _ _).trans (KeepsOthers.setCell _ _ _)).from _, ?_, ⟨HE.out, ?_, HO.out⟩, ?_, ?_⟩
    · exact (I3.out.oi.bel.setCell (by dsimp only; omega) _).setCell (by dsimp only; omega) _
    · exact Row.keep HL.out (((Keep.refl (fun i => w2.heap.size ≤ i) W).set _ _ _ (by omega)).set _ _ _ (by omega)) HO.out
    · exact (I3.out.rs.store 0 _).set _ _ (by dsimp only; omega)
    · exact (I3.out.e.set _ _ (by dsimp only; omega)).store 0 _
  case stop =>
    rintro D e W hD ⟨hb, ⟨he, hl, hlo⟩, h3, h4⟩ hk
    rw [← HA.out]
    have c0 := cellAt h3 0
    have c1 := cellAt h4 0
    simp only [List.getElem?_toArray, List.getElem?_cons_zero] at c0 c1
    gi_wp2
    refine leaves_marks (by simp) [D] _ (by simp) (fun E hE => ?_) (fun W5 hk5 => ?_)
    · rw [List.mem_singleton] at hE
      rw [hE]
      exact hk
    · refine ⟨by simp, .inr ⟨(fun h => by cases h), _, _, 19, #[bp (w.heap.size + 1 + 1 + 1 + 1)], rfl, ?_, fun _ _ => trivial, ?_⟩⟩
      · simp [invoke, go_sem]
      · refine (Ga.answerIn_idle _ _ _).mono ?_
        rintro e' u' w' ⟨rfl, rfl, rfl⟩
        have r3 := cellAt (hk5.box h3 (by simp; omega)) 0
        have r4 := cellAt (hk5.box h4 (by simp; omega)) 0
        simp only [List.getElem?_toArray, List.getElem?_cons_zero] at r3 r4
        refine ⟨.tuple #[.slice e.oa e.row.length e.cap, .int .i64 0], by simp [results, Tryz.results7, go_sem, r3, r4], ?_⟩
        rw [← he]
        exact ⟨hb.trans (hk5.to_below fun k hk => by simp; omega), e.oa, e.cap, rfl, Row.keep hl hk5 (fun h => by
          simp only [List.mem_singleton]
          intro e2
          obtain ⟨o2, ho2, hc2⟩ := row_isCells hl h
          rw [e2] at ho2
          rw [hk] at ho2
          cases ho2
          cases hc2), fun h => by have := hlo h; omega⟩
theorem can_any (crew some : Nat) (hcr : crew < g.cn) (hso : some < 2 ^ g.sn) (r0 : List Nat) (hf : g.first crew some g.sn [] ⟨0, 0⟩ = Option.some r0) (w : World) (hA : g.At a w) :
    Calls Tryz.prog 7 #[.agg (g.cs a), .int .i64 crew, .int .i64 some] w (CanPost r0 w) :=
  (can_new g ok a crew some hcr hso r0 hf w hA).mono fun _ _ ⟨hb, oa, cap, he, hr, _⟩ => ⟨hb, oa, cap, he, hr⟩
end
end Go.Proofs.YtikeihnhkiipgaaGreat
