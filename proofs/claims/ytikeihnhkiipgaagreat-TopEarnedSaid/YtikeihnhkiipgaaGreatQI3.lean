/-
  run: the iterator.
  Law: a range over an iterator that keeps a cell of its own between two rounds, by the rounds' numbers; run as such a one.
  Row: what is kept through its two ranges.
-/
import Derived.Test.YtikeihnhkiipgaaGreatQI1
import Derived.RangeFuncNested
import Derived.RangeFuncRecord
import Derived.Test.YtikeihnhkiipgaaGreatAF
namespace Go.Proofs.YtikeihnhkiipgaaGreat
open Go.RowKit Go.Shelf

attribute [local go_sem] Oper.semAt_some

/-- A place in a row, and what is done behind it. -/
structure RS2 where
  i : Nat
  st : St
def RS2.vs (x : RS2) : Array Value := #[.int .i64 x.i, x.st.v]
/-- What a round keeps: all cells but those of spans. -/
def KpT (W W' : World) : Prop := W.heap.size ≤ W'.heap.size ∧ ∀ (k : Nat) (cs : Array Value) (t : TypeId), BoxAt W k cs t → t ≠ 50 → t ≠ 46 → BoxAt W' k cs t
theorem KpT.trans {A B D : World} (h : KpT A B) (k : KpT B D) : KpT A D := ⟨Nat.le_trans h.1 k.1, fun i cs t hi h1 h2 => k.2 i cs t (h.2 i cs t hi h1 h2) h1 h2⟩
theorem KpT.box {A B : World} {x : Nat} {cs : Array Value} {t : TypeId} (h : KpT A B) (hx : BoxAt A x cs t) (h1 : t ≠ 50) (h2 : t ≠ 46) : BoxAt B x cs t := h.2 x cs t hx h1 h2
theorem KpT.below {A B : World} (h : Below A.heap.size A B) : KpT A B := ⟨h.size, fun k _ _ hk _ _ => (h.block k (lt_of_heap hk)).trans hk⟩
def KpR (n : Nat) (W W' : World) : Prop := Below n W W' ∧ KpT W W'
/-- What stands between two rounds. -/
structure RV (g : GN) (a : GA) (b : Nat) (r : Option Addr) (rc crew pt : Nat) (oa : Option Addr) (cap : Nat) (l : List Nat) (s t6 : Nat) (x : St) (W : World) : Prop where
  ru : RU g a b r rc crew pt oa cap l s W
  st : BoxAt W t6 x.cs 94
theorem RV.grow {g : GN} {a : GA} {b : Nat} {r : Option Addr} {rc crew pt : Nat} {oa : Option Addr} {cap : Nat} {l : List Nat} {s t6 : Nat} {x : St} {A B : World} (h : RV g a b r rc crew pt oa cap l s t6 x A) (hb : Below A.heap.size A B) : RV g a b r rc crew pt oa cap l s t6 x B := ⟨h.ru.grow hb, h.st.grow hb⟩
/-- The rows that it reads lie below n. -/
structure RLow (g : GN) (a : GA) (b : Nat) (r oa : Option Addr) (l : List Nat) (n : Nat) : Prop where
  b : b < n
  s : 0 < g.sn → blk a.sa < n
  c : 0 < g.cn → blk a.ca < n
  f : 0 < g.p.fn → blk a.fa < n
  q : 0 < g.p.qn → blk a.qa < n
  r : 0 < g.sn → blk r < n
  l : 0 < l.length → blk oa < n
theorem RV.kp {g : GN} {a : GA} {b : Nat} {r : Option Addr} {rc crew pt : Nat} {oa : Option Addr} {cap : Nat} {l : List Nat} {s t6 n : Nat} {x : St} {A B : World} (h : RV g a b r rc crew pt oa cap l s t6 x A) (hl : RLow g a b r oa l n) (hk : KpR n A B) : RV g a b r rc crew pt oa cap l s t6 x B :=
  ⟨⟨⟨(hk.1.block b hl.b).trans h.ru.gw.bx, ⟨Row.below h.ru.gw.at'.s hk.1 hl.s, Row.below h.ru.gw.at'.c hk.1 hl.c, Row.below h.ru.gw.at'.p.f hk.1 hl.f, Row.below h.ru.gw.at'.p.q hk.1 hl.q⟩, Row.below h.ru.gw.rd hk.1 hl.r⟩,
    hk.2.box h.ru.gb (by decide) (by decide), hk.2.box h.ru.cb (by decide) (by decide), hk.2.box h.ru.lb (by decide) (by decide), hk.2.box h.ru.pb (by decide) (by decide), Row.below h.ru.row hk.1 hl.l⟩, hk.2.box h.st (by decide) (by decide)⟩
theorem boxes_ne {W : World} {x y : Nat} {cs ds : Array Value} {t u : TypeId} (h : BoxAt W x cs t) (k : BoxAt W y ds u) (e : t ≠ u) : y ≠ x := by
  rintro rfl
  have := h.symm.trans k
  simp only [Option.some.injEq, Obj.cells.injEq] at this
  exact e this.2.1
theorem RU.set {g : GN} {a : GA} {b : Nat} {r : Option Addr} {rc crew pt : Nat} {oa : Option Addr} {cap : Nat} {l : List Nat} {s n t6 i : Nat} {v : Value} {cs : Array Value} {A : World} (h : RU g a b r rc crew pt oa cap l s A) (hl : RLow g a b r oa l n) (hn : n ≤ t6) (hx : BoxAt A t6 cs 94) : RU g a b r rc crew pt oa cap l s (A.setCell ⟨t6, i, none⟩ v) :=
  have hb : Below n A (A.setCell ⟨t6, i, none⟩ v) := (Below.refl n A).setCell (p := ⟨t6, i, none⟩) hn v
  ⟨⟨(hb.block b hl.b).trans h.gw.bx, ⟨Row.below h.gw.at'.s hb hl.s, Row.below h.gw.at'.c hb hl.c, Row.below h.gw.at'.p.f hb hl.f, Row.below h.gw.at'.p.q hb hl.q⟩, Row.below h.gw.rd hb hl.r⟩,
    h.gb.set _ _ (boxes_ne h.gb hx (by decide)), h.cb.set _ _ (boxes_ne h.cb hx (by decide)), h.lb.set _ _ (boxes_ne h.lb hx (by decide)), h.pb.set _ _ (boxes_ne h.pb hx (by decide)), Row.below h.row hb hl.l⟩
theorem RV.put {g : GN} {a : GA} {b : Nat} {r : Option Addr} {rc crew pt : Nat} {oa : Option Addr} {cap : Nat} {l : List Nat} {s n t6 : Nat} {x : St} {A : World} (h : RV g a b r rc crew pt oa cap l s t6 x A) (hl : RLow g a b r oa l n) (hn : n ≤ t6) (y : St) : RV g a b r rc crew pt oa cap l s t6 y ((A.setCell ⟨t6, 0, none⟩ (.int .u64 y.s)).setCell ⟨t6, 1, none⟩ (.int .i64 y.h)) :=
  have h1 := h.st.store 0 (.int .u64 y.s)
  ⟨(h.ru.set hl hn h.st).set hl hn h1, h1.store 1 (.int .i64 y.h)⟩
section
variable (g : GN) (ok : g.Ok) (a : GA) (b : Nat) (r : Option Addr) (rc : Nat)
include ok
set_option maxRecDepth 100000 in
set_option maxHeartbeats 4000000 in
theorem run1_in (n l0 crew pt F sp : Nat) (hc : crew < g.cn) (hs1 : 1 ≤ sp) (hs2 : sp ≤ 12)
    (m0 : ∀ w, (method 327 pt (.agg #[]) "caulkworks/gang.fathoms").run Tryz.prog w = .ok (F, .agg #[]) w) (h0 : ∀ w, (nilAhead 327 pt (.agg #[]) "caulkworks/gang.fathoms").run Tryz.prog w = .ok (some false) w)
    (n0 : ∀ w, (callFunc F #[.agg #[], .agg #[.int .i64 (g.lo crew), .int .i64 (g.hi crew), .int .i64 (g.se crew)]]).run Tryz.prog w = .ok (.enter F #[.agg #[], .agg #[.int .i64 (g.lo crew), .int .i64 (g.hi crew), .int .i64 (g.se crew)]]) w)
    (hF : ∀ w, Calls Tryz.prog F #[.agg #[], .agg #[.int .i64 (g.lo crew), .int .i64 (g.hi crew), .int .i64 (g.se crew)]] w fun e w' => e = .returned (.int .i64 sp) ∧ Below w.heap.size w w')
    (oa : Option Addr) (cap : Nat) (l : List Nat) (hl : ∀ n ∈ l, n < g.sn) (hl5 : l.length ≤ 5) (s lo : Nat) (hlo : RLow g a b r oa l lo) (J : Nat → World → Prop)
    (W : World) (hlw : lo ≤ W.heap.size)
    (hJ : ∀ k A B, J k A → Below A.heap.size A B → J k B) (hJs : ∀ k A x cs i v, J k A → BoxAt A x cs 94 → W.heap.size ≤ x → J k (A.setCell ⟨x, i, none⟩ v))
    (hY : ∀ k W', k < l.length → J k W' → YieldAt Fence.wide (n - 1) Tryz.prog l0 (RS2.vs ⟨k, g.stP sp l (k + 1)⟩) W' fun e W'' => e = .returned (.bool true) ∧ J (k + 1) W'' ∧ KpR lo W' W'')
    (hS : RU g a b r rc crew pt oa cap l s W) (hJ0 : J 0 W) :
    CallsIn Fence.wide n Tryz.prog 67 #[.func (.yield l0) #[] #[], bp (s + 2), bp s, bp (s + 1), bp (s + 3)] W fun e W' => (∃ v, e = .returned v) ∧ J l.length W' := by
  have OK := Lib.hid ok
  have HL := Lib.hid hl
  have HJ := Lib.hid hJ
  have HJ1 := Lib.hid hJs
  have HY := Lib.hid hY
  have HC := Lib.hid hc
  have HLO := Lib.hid hlo
  have CN := Lib.hid (fun (x : St) seam (hs : seam < g.sn) (hx : x.s < 18446744073709551616) (hh : x.h ≤ 20000) W (h : GW g a b r rc W) => nextP_any g ok a b r rc pt F sp x crew seam hc hs hx hh hs1 hs2 m0 h0 n0 hF W h)
  have HS1 := Lib.hid hs1
  have al := (Below.refl W.heap.size W).alloc (Nat.le_refl _) (.cells #[.int .u64 0, .int .i64 0] 94)
  have R0 := Lib.hid (show RV g a b r rc crew pt oa cap l s W.heap.size ⟨0, 0⟩ (W.alloc (.cells #[.int .u64 0, .int .i64 0] 94)) from ⟨hS.grow al, heap_alloc_new _ _⟩)
  have J0 := Lib.hid (hJ _ _ _ hJ0 al)
  clear ok hl hJ hJs hY hc hlo hs1 hs2 m0 h0 n0 hF al hS hJ0
  refine callsIn_of_wp Tryz.func67 rfl trivial ?_ rfl
  simp only [Tryz.ntmps67, List.size_toArray, List.length_cons, List.length_nil, Nat.reduceAdd, Nat.reduceSub, Array.replicate_succ, Array.replicate_zero, List.push_toArray, List.append_toArray, List.nil_append, List.cons_append]
  gi_upto_region 1 with (fail)
  generalize World.alloc W _ = w0 at *
  generalize W.heap.size = t6 at *
  have c0 := cellAt R0.out.ru.lb 0
  simp only [List.getElem?_toArray, List.getElem?_cons_zero] at c0
  gi_wp2
  clear c0
  gi_loopw [11] (fun i W' => ∃ k : Nat, k ≤ l.length ∧ i = .int .i64 k ∧ J k W' ∧ RV g a b r rc crew pt oa cap l s t6 (g.stP sp l k) W') (fun i _ => l.length - (intOf i).toNat)
  case atStart => exact ⟨0, Nat.zero_le _, rfl, J0.out, R0.out⟩
  case round =>
    clear J0 R0
    obtain ⟨k, hk, rfl, hJ, hR⟩ := hrel
    have J1 := Lib.hid hJ
    have R1 := Lib.hid hR
    clear hJ hR
    by_cases hlt : k < l.length
    · have hlt' : (k : Int) < l.length := by omega
      have hmeas : l.length - (k + 1) < l.length - k := by omega
      have HW := Lib.hid (show wrap64 ((k : Int) + 1) = ((k + 1 : Nat) : Int) from w64 (by omega))
      have hi := fun W => run_indexAt_row (w := W) (cap := cap) Tryz.underlying24 size_int (R1.out.ru.row.plain (by omega)) hlt
      simp only [Nat.mul_one] at hi
      have c0 := R1.out.ru.row.at hlt
      rw [show natsF l k = ((l[k] : Nat) : Int) from by simp [natsF, List.getElem?_eq_getElem hlt]] at c0
      have HN := HL.out l[k] (List.getElem_mem hlt)
      have HST := Lib.hid (show g.stP sp l (k + 1) = g.nxtP sp (g.stP sp l k) l[k] from by rw [GN.stP, List.getElem?_eq_getElem hlt]; rfl)
      have hst := stP_le OK.out HS1.out HL.out k hk
      generalize l[k] = m at *
      have C := Lib.hid (CN.out (g.stP sp l k) m HN (by omega) (by omega) wr R1.out.ru.gw)
      rw [← HST.out] at C
      clear HST HN hst
      have s0 := cellAt R1.out.st 0
      have s1 := cellAt R1.out.st 1
      have d0 := cellAt R1.out.ru.gb 0
      have d1 := cellAt R1.out.ru.cb 0
      have d2 := cellAt R1.out.ru.pb 0
      unfold St.v St.cs at *
      simp only [List.getElem?_toArray, List.getElem?_cons_zero, List.getElem?_cons_succ] at s0 s1 d0 d1 d2
      gi_wp2
      refine ⟨trivial, (fun h => by cases h), ?_⟩
      refine (callsIn_wide.2 C.out).mono ?_
      rintro e w1 ⟨rfl, hb1⟩
      have J2 := Lib.hid (HJ.out _ _ _ J1.out hb1)
      have R2 := Lib.hid (R1.out.grow hb1)
      clear J1 R1 C hb1 s0 s1 d0 d1 d2 hi c0
      have s0 := cellAt R2.out.st 0
      have s1 := cellAt R2.out.st 1
      have f0 := freeAt R2.out.st 0
      have f1 := freeAt R2.out.st 1
      unfold St.v St.cs at *
      simp only [List.getElem?_toArray, List.getElem?_cons_zero, List.getElem?_cons_succ] at s0 s1
      gi_upto_region 5 with (fail)
      have J3 := Lib.hid (HJ1.out _ _ _ _ 1 (.int .i64 (g.stP sp l (k + 1)).h) (HJ1.out _ _ _ _ 0 (.int .u64 (g.stP sp l (k + 1)).s) J2.out R2.out.st (Nat.le_refl _)) (R2.out.st.store 0 _) (Nat.le_refl _))
      have R3 := Lib.hid (R2.out.put HLO.out hlw (g.stP sp l (k + 1)))
      clear J2 R2 f0 f1 s0 s1
      obtain ⟨fn, tmps, assign, body, hyl, hR⟩ := HY.out k _ hlt J3.out
      generalize hyy : g.stP sp l (k + 1) = y at *
      generalize World.setCell (World.setCell _ _ _) _ _ = w3 at *
      have s0 := cellAt R3.out.st 0
      have s1 := cellAt R3.out.st 1
      simp only [RS2.vs, St.v, St.cs] at hyl
      unfold St.cs at s0 s1
      simp only [List.getElem?_toArray, List.getElem?_cons_zero, List.getElem?_cons_succ] at s0 s1
      have HR := Lib.hid hR
      clear hR J3
      gi_wp2
      refine ⟨(fun h => by cases h), ?_⟩
      refine HR.out.mono ?_
      rintro e W3 ⟨rfl, hJ3, hk3⟩
      have J4 := Lib.hid hJ3
      have R4 := Lib.hid (R3.out.kp HLO.out hk3)
      clear hJ3 hk3 R3 HR s0 s1
      gi_wp2
      exact ⟨⟨k + 1, hlt, by go_num, J4.out, by rw [hyy]; exact R4.out⟩, by simp [intOf]; omega⟩
    · have hlt' : ¬ (k : Int) < l.length := by omega
      have e : k = l.length := by omega
      subst e
      gi_wp2
      go_end0
      exact ⟨⟨_, rfl⟩, J1.out⟩
end
end Go.Proofs.YtikeihnhkiipgaaGreat

namespace Go.Proofs.YtikeihnhkiipgaaGreat
open Go.RowKit

section
variable {F : Fence} {n : Nat} {P : Program}
/-- An iterator of N rounds that writes cells of its own, of type T. -/
def SeqOn (F : Fence) (n : Nat) (P : Program) (g : Nat) (lb : Array Value) (enc : Nat → Array Value) (N : Nat) (Kp : World → World → Prop) (T : TypeId) (w : World) : Prop :=
  ∀ (l : Nat) (J : Nat → World → Prop) (W : World), Below w.heap.size w W → (∀ k A B, J k A → Below A.heap.size A B → J k B) →
    (∀ k A x cs i v, J k A → BoxAt A x cs T → W.heap.size ≤ x → J k (A.setCell ⟨x, i, none⟩ v)) →
    (∀ k W', k < N → J k W' → YieldAt F (n - 1) P l (enc k) W' fun e W'' => e = .returned (.bool true) ∧ J (k + 1) W'' ∧ Kp W' W'') →
    J 0 W → CallsIn F n P g (#[.func (.yield l) #[] #[]] ++ lb) W fun e W' => (∃ v, e = .returned v) ∧ J N W'
theorem set_other {A : World} {x i k : Nat} {v : Value} {cs : Array Value} {T : TypeId} {o : Obj} (h : BoxAt A x cs T) (hk : A.heap[k]? = some o) (ho : o.isCells = false) : (A.setCell ⟨x, i, none⟩ v).heap[k]? = some o :=
  (Below.heap_setCell A ⟨x, i, none⟩ v k (fun e => by
    have e : k = x := e
    subst e
    rw [show A.heap[k]? = some (.cells cs T (0, 0)) from h] at hk
    obtain rfl := Option.some.inj hk
    cases ho)).trans hk
theorem wpIn_rangeFunc_on {g : Operand} {ps : Array Tmp} {assign body : Code} {Q : Exit → Act → World → Prop} {a : Act} {w : World}
    (hro : F.round = none) (h1 : 1 ≤ n) {gf : Nat} {lb : Array Value} (hg : a.eval g = .func (.func gf) #[] lb) (hFg : F.fn gf) (eg : ∀ args w, (callFunc gf args).run P w = .ok (.enter gf args) w)
    {enc : Nat → Array Value} {N : Nat} {Kp : World → World → Prop} {T : TypeId} (hseq : SeqOn F (n - 1) P gf lb enc N Kp T w) (hps : ∀ x, (enc x).size = ps.size)
    (hKt : ∀ {A B C : World}, Kp A B → Kp B C → Kp A C) (hKb : ∀ (W : World) (l : Nat) (o o' : Obj), w.heap.size ≤ l → W.heap[l]? = some o → o.isCells = false → Kp W (W.putObj l o'))
    (I : Nat → World → Prop) (hIg : ∀ k A B, I k A → Below A.heap.size A B → I k B) (hIs : ∀ k A x cs i v, I k A → BoxAt A x cs T → w.heap.size ≤ x → I k (A.setCell ⟨x, i, none⟩ v))
    (hIp : ∀ k A l o o', w.heap.size ≤ l → A.heap[l]? = some o → o.isCells = false → I k A → I k (A.putObj l o')) (h0 : I 0 w)
    (Ax : Nat → Act → World → Prop) (hAp : ∀ k b A l o o', w.heap.size ≤ l → A.heap[l]? = some o → o.isCells = false → Ax k b A → Ax k b (A.putObj l o'))
    (hassign : ∀ (l k : Nat) (W : World) (K : Act → World → Prop), k < N → I k W → (∀ a' W', KeepsFrom w.heap.size W W' → Kp W W' → I k W' → Ax k a' W' → K a' W') →
      assign.wpIn (F.inRound l) (n - 1 - 1) P (Exit.then K (fun _ _ _ => False)) { tmps := (ps.zip (enc k)).foldl (fun t (p, v) => t.setIfInBounds p v) a.tmps, defers := [] } W)
    (hbody : ∀ (l k : Nat) (b : Act) (W : World), k < N → I k W → Ax k b W → body.wpIn (F.inRound l) (n - 1 - 1) P (fun e _ W' => e = .normal ∧ KeepsFrom w.heap.size W W' ∧ Kp W W' ∧ I (k + 1) W') b W)
    (hdone : ∀ (D : Nat) (W : World), w.heap.size ≤ D → I N W → W.heap[D]? = some (.deferred (some [])) → Q .normal { a with defers := { target := .collected D, args := #[] } :: a.defers } W) :
    (Code.rangeFunc g ps assign body).wpIn F n P Q a w := by
  refine wpIn_rangeFunc ?_
  intro fn hfn
  rw [hro]
  obtain ⟨rec, hrec⟩ : ∃ rec : LoopState → Option Code → Loop, rec = fun st pe => { state := st, pending := pe, fn, tmps := a.tmps, params := ps, assign, body, defers := w.heap.size } := ⟨_, rfl⟩
  obtain ⟨W1, hW1⟩ : ∃ W1, (w.alloc (.deferred (some []))).alloc (.loop (rec .ready none)) = W1 := ⟨_, rfl⟩
  have hL1 : W1.heap[w.heap.size + 1]? = some (.loop (rec .ready none)) := by
    rw [← hW1]; have := World.alloc_heap_new (w.alloc (.deferred (some []))) (.loop (rec .ready none)); rwa [World.size_alloc] at this
  have hK1 : W1.heap[w.heap.size]? = some (.deferred (some [])) := by
    rw [← hW1]; exact (Below.heap_alloc _ _ _ (by simp)).trans (World.alloc_heap_new w _)
  have hb1 : Below w.heap.size w W1 := by
    rw [← hW1]; exact ((Below.refl _ w).alloc (Nat.le_refl _) _).alloc (by simp) _
  refine ⟨w.heap.size + 1, [{ target := .collected w.heap.size, args := #[] }], W1, { target := .fn (.func gf) lb, args := #[.func (.yield (w.heap.size + 1)) #[] #[]] }, W1, gf,
    #[.func (.yield (w.heap.size + 1)) #[] #[]] ++ lb, W1, ?_, ?_, ?_, ?_, fun _ => h1, ?_⟩
  · rw [← hW1, hrec]; exact run_enterLoop_outer _ _ _ _ _
  · simp only [resolve, hg]
    simp [go_sem]
  · intro f' hf'; simp [Target.leads] at hf'; subst hf'; exact hFg
  · simp [invoke, go_sem, eg]
  · refine (hseq (w.heap.size + 1)
      (fun k W => I k W ∧ W.heap[w.heap.size + 1]? = some (.loop (rec .ready none)) ∧ W.heap[w.heap.size]? = some (.deferred (some [])))
      W1 hb1
      (fun k A B hs hb => ⟨hIg k A B hs.1 hb, (hb.block _ (Array.getElem?_eq_some_iff.1 hs.2.1).1).trans hs.2.1, (hb.block _ (Array.getElem?_eq_some_iff.1 hs.2.2).1).trans hs.2.2⟩)
      (fun k A x cs i v hs hx hle => ⟨hIs k A x cs i v hs.1 hx (Nat.le_trans hb1.size hle), set_other hx hs.2.1 rfl, set_other hx hs.2.2 rfl⟩)
      ?_ ⟨hIg 0 _ _ h0 hb1, hL1, hK1⟩).mono ?_
    · rintro k W hkN ⟨hi, hl, hk⟩
      have hy := run_yield (P := P) (args := enc k) hl (by rw [hrec]; exact hps k)
      rw [hrec] at hy
      refine ⟨fn, _, assign, body, hy, roundIn_of_wpIn hfn (hassign _ k W _ hkN hi ?_)⟩
      clear hy
      intro b Wa hkfa hkpa hia hax
      have hl1 := hkfa.same _ _ (by omega) hl rfl
      have hk1 := hkfa.same _ _ (Nat.le_refl _) hk rfl
      have hlt : w.heap.size + 1 < Wa.heap.size := (Array.getElem?_eq_some_iff.1 hl1).1
      refine ⟨_, run_beginRound hl1 (by rw [hrec]), ?_⟩
      have hl2 : (Wa.putObj (w.heap.size + 1) (.loop { rec .ready none with state := .busy })).heap[w.heap.size + 1]? = some (.loop { rec .ready none with state := .busy }) := World.putObj_heap_same hlt
      have hk2 : (Wa.putObj (w.heap.size + 1) (.loop { rec .ready none with state := .busy })).heap[w.heap.size]? = some (.deferred (some [])) := (World.putObj_heap_other (by omega)).trans hk1
      refine wpIn_mono (hbody _ k b _ hkN (hIp k _ _ _ _ (by omega) hl1 rfl hia) (hAp k b _ _ _ _ (by omega) hl1 rfl hax)) ?_
      rintro e a3 W3 ⟨rfl, hk3, hkp3, hi3⟩
      have hl3 := hk3.same _ _ (by omega) hl2 rfl
      have he := run_endRound (P := P) none hl3
      rw [hrec] at he hl3
      refine ⟨_, _, he, rfl, ⟨hIp _ _ _ _ _ (by omega) hl3 rfl hi3, ?_, (World.putObj_heap_other (by omega)).trans (hk3.same _ _ (Nat.le_refl _) hk2 rfl)⟩, hKt hkpa (hKt (hKt (hKb _ _ _ _ (by omega) hl1 rfl) hkp3) (hKb _ _ _ _ (by omega) hl3 rfl))⟩
      rw [hrec]
      exact World.putObj_heap_same (Array.getElem?_eq_some_iff.1 hl3).1
    · rintro e W2 ⟨⟨v, rfl⟩, hi, hl, hk⟩
      exact ⟨none, _, by have := run_endLoop (P := P) hl (by rw [hrec]; simp); rw [hrec] at this; exact this, hdone _ _ (Nat.le_refl _) (hIp _ _ _ _ _ (by omega) hl rfl hi) ((World.putObj_heap_other (by omega)).trans hk)⟩
end
section
variable (g : GN) (ok : g.Ok) (a : GA) (b : Nat) (r : Option Addr) (rc : Nat)
include ok
theorem run_seq (n crew pt F sp : Nat) (hc : crew < g.cn) (hs1 : 1 ≤ sp) (hs2 : sp ≤ 12)
    (m0 : ∀ w, (method 327 pt (.agg #[]) "caulkworks/gang.fathoms").run Tryz.prog w = .ok (F, .agg #[]) w) (h0 : ∀ w, (nilAhead 327 pt (.agg #[]) "caulkworks/gang.fathoms").run Tryz.prog w = .ok (some false) w)
    (n0 : ∀ w, (callFunc F #[.agg #[], .agg #[.int .i64 (g.lo crew), .int .i64 (g.hi crew), .int .i64 (g.se crew)]]).run Tryz.prog w = .ok (.enter F #[.agg #[], .agg #[.int .i64 (g.lo crew), .int .i64 (g.hi crew), .int .i64 (g.se crew)]]) w)
    (hF : ∀ w, Calls Tryz.prog F #[.agg #[], .agg #[.int .i64 (g.lo crew), .int .i64 (g.hi crew), .int .i64 (g.se crew)]] w fun e w' => e = .returned (.int .i64 sp) ∧ Below w.heap.size w w')
    (oa : Option Addr) (cap : Nat) (l : List Nat) (hl : ∀ n ∈ l, n < g.sn) (hl5 : l.length ≤ 5) (s lo : Nat) (hlo : RLow g a b r oa l lo)
    (w : World) (hlw : lo ≤ w.heap.size) (hS : RU g a b r rc crew pt oa cap l s w) :
    SeqOn Fence.wide n Tryz.prog 67 #[bp (s + 2), bp s, bp (s + 1), bp (s + 3)] (fun k => RS2.vs ⟨k, g.stP sp l (k + 1)⟩) l.length (KpR lo) 94 w :=
  fun l0 J W hW hJ hJs hY h0' => run1_in g ok a b r rc n l0 crew pt F sp hc hs1 hs2 m0 h0 n0 hF oa cap l hl hl5 s lo hlo J W (Nat.le_trans hlw hW.size) hJ hJs hY (hS.grow hW) h0'
end
end Go.Proofs.YtikeihnhkiipgaaGreat

namespace Go.Proofs.YtikeihnhkiipgaaGreat
open Go.RowKit

theorem KpR.trans {n : Nat} {A B C : World} (h : KpR n A B) (k : KpR n B C) : KpR n A C := ⟨h.1.trans k.1, h.2.trans k.2⟩
theorem KpR.put {n : Nat} {W : World} {l : Nat} {o : Obj} (o' : Obj) (hl : n ≤ l) (ho : W.heap[l]? = some o) (hc : o.isCells = false) : KpR n W (W.putObj l o') := by
  have hlt : l < W.heap.size := (Array.getElem?_eq_some_iff.1 ho).1
  refine ⟨(Below.refl n W).grown (grownBy_putObj' W l o') (by omega) (fun k e => by cases e; exact hl), by simp [World.putObj], fun k cs t hk _ _ => ?_⟩
  refine (World.putObj_heap_other (fun e => ?_)).trans hk
  subst e
  rw [show W.heap[k]? = some (.cells cs t (0, 0)) from hk] at ho
  obtain rfl := Option.some.inj ho
  cases hc
/-- What a row of two cells each holds. -/
def spL (F G : Nat → Nat) : Nat → List Value
  | 0 => []
  | k + 1 => spL F G k ++ [.int .i64 (F k), .int .i64 (G k)]
theorem spL_len (F G : Nat → Nat) : ∀ k, (spL F G k).length = k * 2
  | 0 => rfl
  | k + 1 => by rw [spL, List.length_append, spL_len F G k]; simp; omega
theorem spL_at (F G : Nat → Nat) : ∀ k i, i < k → (spL F G k)[i * 2]? = some (.int .i64 (F i)) ∧ (spL F G k)[i * 2 + 1]? = some (.int .i64 (G i))
  | k + 1, i, hi => by
    by_cases e : i = k
    · subst e
      rw [spL, List.getElem?_append_right (by rw [spL_len]; omega), List.getElem?_append_right (by rw [spL_len]; omega), spL_len, Nat.sub_self, show i * 2 + 1 - i * 2 = 1 by omega]
      exact ⟨rfl, rfl⟩
    · have := spL_at F G k i (by omega)
      rw [spL, List.getElem?_append_left (by rw [spL_len]; omega), List.getElem?_append_left (by rw [spL_len]; omega)]
      exact this
def spanC (F G : Nat → Nat) (i j : Nat) : Value := if j = 0 then .int .i64 (F i) else .int .i64 (G i)
/-- What Row hands back. -/
def RowPost (g : GN) (crew : Nat) (l : List Nat) (w : World) (e : Ending) (w' : World) : Prop :=
  Below w.heap.size w w' ∧ ∃ oa cap, e = .returned (.tuple #[.slice oa l.length cap, .int .i64 0]) ∧ Row w' oa l.length 2 (spanC (fun i => (g.stP (g.hi crew) l (i + 1)).h) (fun i => (g.stP (g.lo crew) l (i + 1)).h)) ∧ (0 < l.length → w.heap.size ≤ blk oa)
/-- What stands behind open. -/
structure RW1 (g : GN) (a : GA) (w : World) (oa : Option Addr) (l : List Nat) (b : Nat) (r : Option Addr) (rc t9 : Nat) (v : Value) (W : World) : Prop where
  oi : OI g a w W
  e : BoxAt W (w.heap.size + 1) #[.int .i64 0] 33
  gw : GW g a b r rc W
  row : IntsAt W oa l.length (natsF l)
  ob : BoxAt W t9 #[v] 46
theorem RW1.grow {g : GN} {a : GA} {w : World} {oa : Option Addr} {l : List Nat} {b : Nat} {r : Option Addr} {rc t9 : Nat} {v : Value} {A B : World} (h : RW1 g a w oa l b r rc t9 v A) (hb : Below A.heap.size A B) : RW1 g a w oa l b r rc t9 v B :=
  ⟨h.oi.grow hb, h.e.grow hb, h.gw.grow hb, h.row.grow hb, h.ob.grow hb⟩
/-- A world in which all below t9, and t9, lie as they lay. -/
theorem RW1.kept {g : GN} {a : GA} {w : World} {oa : Option Addr} {l : List Nat} {b : Nat} {r : Option Addr} {rc t9 : Nat} {v : Value} {A B : World} (h : RW1 g a w oa l b r rc t9 v A) (hl : RLow g a b r oa l t9) (hw : w.heap.size + 1 < t9) (hb : Below (t9 + 1) A B) : RW1 g a w oa l b r rc t9 v B :=
  have hb' : Below t9 A B := hb.mono (Nat.le_succ _)
  have hat : g.At a B := ⟨Row.below h.gw.at'.s hb' hl.s, Row.below h.gw.at'.c hb' hl.c, Row.below h.gw.at'.p.f hb' hl.f, Row.below h.gw.at'.p.q hb' hl.q⟩
  ⟨⟨h.oi.bel.trans (hb.mono (by omega)), (hb.block _ (by omega)).trans h.oi.box, hat⟩, (hb.block _ (by omega)).trans h.e, ⟨(hb'.block b hl.b).trans h.gw.bx, hat, Row.below h.gw.rd hb' hl.r⟩, Row.below h.row hb' hl.l, (hb.block _ (Nat.lt_succ_self _)).trans h.ob⟩
/-- t9 is written. -/
theorem RW1.put {g : GN} {a : GA} {w : World} {oa : Option Addr} {l : List Nat} {b : Nat} {r : Option Addr} {rc t9 : Nat} {v : Value} {A : World} (h : RW1 g a w oa l b r rc t9 v A) (hl : RLow g a b r oa l t9) (hw : w.heap.size + 1 < t9) (v' : Value) : RW1 g a w oa l b r rc t9 v' (A.setCell ⟨t9, 0, none⟩ v') :=
  have hb' : Below t9 A (A.setCell ⟨t9, 0, none⟩ v') := (Below.refl t9 A).setCell (p := ⟨t9, 0, none⟩) (Nat.le_refl _) v'
  have hat : g.At a (A.setCell ⟨t9, 0, none⟩ v') := ⟨Row.below h.gw.at'.s hb' hl.s, Row.below h.gw.at'.c hb' hl.c, Row.below h.gw.at'.p.f hb' hl.f, Row.below h.gw.at'.p.q hb' hl.q⟩
  ⟨⟨h.oi.bel.trans (hb'.mono (by omega)), (hb'.block _ (by omega)).trans h.oi.box, hat⟩, (hb'.block _ (by omega)).trans h.e, ⟨(hb'.block b hl.b).trans h.gw.bx, hat, Row.below h.gw.rd hb' hl.r⟩, Row.below h.row hb' hl.l, h.ob.store 0 v'⟩
/-- The row that is built, under what the iterator and the law write. -/
theorem own_state {w : World} {base sz n x i : Nat} {e T : TypeId} {v u : Value} {xs : List Value} {cs : Array Value} (h : w.ownsRow base e sz v n xs) (hx : BoxAt w x cs T) (hT : e ≠ T) : (w.setCell ⟨x, i, none⟩ u).ownsRow base e sz v n xs := by
  obtain ⟨hl, h | ⟨g, cap, cur, hv, hbg, hg, h3⟩⟩ := h
  · exact ⟨hl, .inl h⟩
  · exact ⟨hl, .inr ⟨g, cap, cur, hv, hbg, BoxAt.set (show BoxAt w g cur e from hg) ⟨x, i, none⟩ u (boxes_ne (show BoxAt w g cur e from hg) hx hT), h3⟩⟩
theorem own_put {w : World} {base sz n l : Nat} {e : TypeId} {v : Value} {xs : List Value} {o : Obj} (h : w.ownsRow base e sz v n xs) (o' : Obj) (ho : w.heap[l]? = some o) (hc : o.isCells = false) : (w.putObj l o').ownsRow base e sz v n xs := by
  obtain ⟨hl, h | ⟨g, cap, cur, hv, hbg, hg, h3⟩⟩ := h
  · exact ⟨hl, .inl h⟩
  · refine ⟨hl, .inr ⟨g, cap, cur, hv, hbg, (World.putObj_heap_other (fun e => ?_)).trans hg, h3⟩⟩
    subst e
    rw [hg] at ho
    obtain rfl := Option.some.inj ho
    cases hc
theorem keepsFrom_below {B : Nat} {W W' : World} (h : Below W.heap.size W W') : KeepsFrom B W W' := ⟨h.size, fun k _ _ hk _ => (h.block k (lt_of_heap hk)).trans hk⟩
theorem KpR.below {n : Nat} {A B : World} (hn : n ≤ A.heap.size) (h : Below A.heap.size A B) : KpR n A B := ⟨h.mono hn, KpT.below h⟩
theorem below_put {n : Nat} {W : World} {l : Nat} {o : Obj} (o' : Obj) (hl : n ≤ l) (ho : W.heap[l]? = some o) : Below n W (W.putObj l o') := by
  have hlt : l < W.heap.size := (Array.getElem?_eq_some_iff.1 ho).1
  exact (Below.refl n W).grown (grownBy_putObj' W l o') (by omega) (fun k e => by cases e; exact hl)
/-- A round of the first range: one more is put behind, and the row is stored. -/
theorem append_round {t9 s k : Nat} {W W2 W3 : World} {v v' : Value} {xs ys : List Value} (hs : t9 < s) (hob : BoxAt W t9 #[v] 46) (hown : W.ownsRow (t9 + 1) 50 2 v k xs) (hsz : t9 + 1 ≤ W.heap.size) (h2 : Below W.heap.size W W2)
    (hg : W2.grownBy W3 v.ownBlock) (ho : W3.ownsRow (t9 + 1) 50 2 v' (k + 1) ys) :
    Below (t9 + 1) W W3 ∧ KeepsFrom s W (W3.setCell ⟨t9, 0, none⟩ v') ∧ KpR t9 W (W3.setCell ⟨t9, 0, none⟩ v') ∧ (W3.setCell ⟨t9, 0, none⟩ v').ownsRow (t9 + 1) 50 2 v' (k + 1) ys := by
  have hown2 := own_grow hown h2
  have hlt := own_lt hown2
  have hty : ∀ j, v.ownBlock = some j → ∃ cur, W2.heap[j]? = some (.cells cur 50 (0, 0)) := fun j hj => by
    obtain ⟨-, h | ⟨g, cap, cur, rfl, -, hg', -⟩⟩ := hown2
    · rw [h.1] at hj; cases hj
    · cases hj; exact ⟨cur, hg'⟩
  have hb3 : Below (t9 + 1) W W3 := (h2.mono hsz).grown hg (Nat.le_trans hsz h2.size) fun j e => (hlt j e).1
  have hb4 : Below t9 W (W3.setCell ⟨t9, 0, none⟩ v') := (hb3.mono (Nat.le_succ _)).setCell (p := ⟨t9, 0, none⟩) (Nat.le_refl _) v'
  refine ⟨hb3, ⟨hb4.size, fun i o hi hio hc => ?_⟩, ⟨hb4, hb4.size, fun i cs t hi h1 h2' => ?_⟩, own_set ho _ _ (Nat.lt_succ_self _)⟩
  · have e2 : W2.heap[i]? = some o := (h2.block i (lt_of_heap hio)).trans hio
    refine (Below.heap_setCell W3 ⟨t9, 0, none⟩ v' i (by show i ≠ t9; omega)).trans ((hg.block i (lt_of_heap e2) (fun e => ?_)).trans e2)
    obtain ⟨cur, hcur⟩ := hty i e.symm
    rw [hcur] at e2
    obtain rfl := Option.some.inj e2
    cases hc
  · have e2 : W2.heap[i]? = some (.cells cs t (0, 0)) := (h2.block i (lt_of_heap hi)).trans hi
    refine (Below.heap_setCell W3 ⟨t9, 0, none⟩ v' i (boxes_ne hob hi (Ne.symm h2'))).trans ((hg.block i (lt_of_heap e2) (fun e => ?_)).trans e2)
    obtain ⟨cur, hcur⟩ := hty i e.symm
    rw [hcur] at e2
    simp only [Option.some.injEq, Obj.cells.injEq] at e2
    exact h1 e2.2.1.symm
/-- A row of spans as a box. -/
def SpB (W : World) (ra : Option Addr) (n t9 : Nat) (F G : Nat → Nat) : Prop :=
  n = 0 ∨ ∃ (gg : Nat) (cur : Array Value), ra = some ⟨gg, 0, none⟩ ∧ t9 < gg ∧ BoxAt W gg cur 50 ∧ ∀ i, i < n → cur[i * 2]? = some (.int .i64 (F i)) ∧ cur[i * 2 + 1]? = some (.int .i64 (G i))
theorem own_spans {W : World} {v : Value} {n t9 : Nat} {F G : Nat → Nat} (h : W.ownsRow (t9 + 1) 50 2 v n (spL F G n)) : ∃ ra rc, v = .slice ra n rc ∧ SpB W ra n t9 F G := by
  obtain ⟨-, ⟨rfl, rfl⟩ | ⟨gg, cap, cur, rfl, hb, hg, hnc, -, hcs, ht⟩⟩ := h
  · exact ⟨none, 0, rfl, .inl rfl⟩
  · refine ⟨_, _, rfl, .inr ⟨gg, cur, rfl, hb, hg, fun i hi => ?_⟩⟩
    obtain ⟨h1, h2⟩ := spL_at F G n i hi
    rw [← ht, List.getElem?_take_of_lt (by omega), Array.getElem?_toList] at h1 h2
    exact ⟨h1, h2⟩
theorem SpB.grow {A B : World} {ra : Option Addr} {n t9 : Nat} {F G : Nat → Nat} (h : SpB A ra n t9 F G) (hb : Below A.heap.size A B) : SpB B ra n t9 F G := by
  obtain h | ⟨gg, cur, h1, h2, h3, h4⟩ := h
  · exact .inl h
  · exact .inr ⟨gg, cur, h1, h2, h3.grow hb, h4⟩
theorem SpB.state {A : World} {ra : Option Addr} {n t9 x i : Nat} {F G : Nat → Nat} {cs : Array Value} {u : Value} (h : SpB A ra n t9 F G) (hx : BoxAt A x cs 94) : SpB (A.setCell ⟨x, i, none⟩ u) ra n t9 F G := by
  obtain h | ⟨gg, cur, h1, h2, h3, h4⟩ := h
  · exact .inl h
  · exact .inr ⟨gg, cur, h1, h2, h3.set _ _ (boxes_ne h3 hx (by decide)), h4⟩
theorem SpB.put {A : World} {ra : Option Addr} {n t9 l : Nat} {F G : Nat → Nat} {o : Obj} (h : SpB A ra n t9 F G) (o' : Obj) (ho : A.heap[l]? = some o) (hc : o.isCells = false) : SpB (A.putObj l o') ra n t9 F G := by
  obtain h | ⟨gg, cur, h1, h2, h3, h4⟩ := h
  · exact .inl h
  · refine .inr ⟨gg, cur, h1, h2, (World.putObj_heap_other (fun e => ?_)).trans h3, h4⟩
    subst e
    rw [show A.heap[gg]? = _ from h3] at ho
    obtain rfl := Option.some.inj ho
    cases hc
theorem SpB.store {A : World} {gg n t9 k v : Nat} {F G : Nat → Nat} {cur : Array Value} (hg : BoxAt A gg cur 50) (ht : t9 < gg) (hk : k < n) (hc : ∀ i, i < n → cur[i * 2]? = some (.int .i64 (F i)) ∧ cur[i * 2 + 1]? = some (.int .i64 (G i))) :
    SpB (A.setCell ⟨gg, k * 2 + 1, none⟩ (.int .i64 v)) (some ⟨gg, 0, none⟩) n t9 F (fun i => if i = k then v else G i) := by
  refine .inr ⟨gg, _, rfl, ht, hg.store (k * 2 + 1) (.int .i64 v), fun i hi => ?_⟩
  obtain ⟨h1, h2⟩ := hc i hi
  obtain ⟨h3, h4⟩ := hc k hk
  have hs := (Array.getElem?_eq_some_iff.1 h4).1
  rw [Array.getElem?_setIfInBounds, Array.getElem?_setIfInBounds, if_neg (by omega)]
  refine ⟨h1, ?_⟩
  by_cases e : i = k
  · subst e
    rw [if_pos rfl, if_pos hs]
    simp
  · rw [if_neg (by omega), h2]
    simp [e]
theorem SpB.row {W : World} {ra : Option Addr} {n t9 : Nat} {F G : Nat → Nat} (h : SpB W ra n t9 F G) (hn : n ≤ maxLen) : Row W ra n 2 (spanC F G) := by
  obtain rfl | ⟨gg, cur, rfl, h2, h3, h4⟩ := h
  · exact ⟨fun h => by omega, fun h => by omega, hn, fun i hi => by omega⟩
  · refine ⟨fun _ => rfl, fun _ => lt_of_heap h3, hn, fun i hi j hj => ?_⟩
    obtain ⟨c1, c2⟩ := h4 i hi
    match j, hj with
    | 0, _ => exact (cellAt h3 _).trans (by simpa [ofs, spanC] using c1)
    | 1, _ => exact (cellAt h3 _).trans (by simpa [ofs, spanC] using c2)
theorem SpB.low {A : World} {ra : Option Addr} {n t9 : Nat} {F G : Nat → Nat} {u : Value} {q : Addr} (h : SpB A ra n t9 F G) (hq : q.block ≤ t9) : SpB (A.setCell q u) ra n t9 F G := by
  obtain h | ⟨gg, cur, h1, h2, h3, h4⟩ := h
  · exact .inl h
  · exact .inr ⟨gg, cur, h1, h2, h3.set _ _ (by omega), h4⟩
theorem SpB.marks {A B : World} {ra : Option Addr} {n t9 : Nat} {F G : Nat → Nat} {Ds : List Nat} (h : SpB A ra n t9 F G) (hk : Keep (fun i => i ∉ Ds) A B) (hD : ∀ D ∈ Ds, A.heap[D]? = some (.deferred (some []))) : SpB B ra n t9 F G := by
  obtain h | ⟨gg, cur, h1, h2, h3, h4⟩ := h
  · exact .inl h
  · refine .inr ⟨gg, cur, h1, h2, hk.box h3 (fun hm => ?_), h4⟩
    have := hD gg hm
    rw [show A.heap[gg]? = _ from h3] at this
    cases this
theorem SpB.new {W : World} {ra : Option Addr} {n t9 : Nat} {F G : Nat → Nat} (h : SpB W ra n t9 F G) (hn : 0 < n) : t9 < blk ra := by
  obtain h | ⟨gg, cur, rfl, h2, -⟩ := h
  · omega
  · exact h2
theorem size_sp : (Tryz.prog.info? 50).map (·.size) = some 2 := by kernel_rfl
end Go.Proofs.YtikeihnhkiipgaaGreat
