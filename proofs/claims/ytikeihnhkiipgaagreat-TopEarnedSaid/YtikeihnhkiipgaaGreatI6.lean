/-
  Row.
-/
import Derived.Test.YtikeihnhkiipgaaGreatQI3
namespace Go.Proofs.YtikeihnhkiipgaaGreat
open Go.RowKit Go.Shelf

attribute [local go_sem] Oper.semAt_some

/-- What stands ahead of open. -/
structure RW0 (g : GN) (a : GA) (w : World) (oa : Option Addr) (l : List Nat) (W : World) : Prop where
  oi : OI g a w W
  e : BoxAt W (w.heap.size + 1) #[.int .i64 0] 33
  row : IntsAt W oa l.length (natsF l)
theorem RW0.grow {g : GN} {a : GA} {w : World} {oa : Option Addr} {l : List Nat} {A B : World} (h : RW0 g a w oa l A) (hb : Below A.heap.size A B) : RW0 g a w oa l B := ⟨h.oi.grow hb, h.e.grow hb, h.row.grow hb⟩
theorem info_span : (Tryz.prog.info? 50).map (fun i => (i.zero, i.size, i.bytes)) = some (some (.agg #[.int .i64 0, .int .i64 0]), 2, 16) := by kernel_rfl
section
variable (g : GN) (ok : g.Ok) (a : GA)
include ok
set_option maxRecDepth 100000 in
set_option maxHeartbeats 4000000 in
theorem row_any (crew : Nat) (hcr : crew < g.cn) (oa : Option Addr) (cap : Nat) (l : List Nat) (hl : ∀ n ∈ l, n < g.sn ∧ g.kn crew n = true) (hd : l.Nodup) (hl5 : l.length ≤ 5) (w : World) (hA : g.At a w) (hR : IntsAt w oa l.length (natsF l)) :
    Calls Tryz.prog 8 #[.agg (g.cs a), .int .i64 crew, .slice oa l.length cap] w (RowPost g crew l w) := by
  have I0 := Lib.hid (show RW0 g a w oa l ((w.alloc (.cells (g.cs a) 29)).alloc (.cells #[.int .i64 0] 33)) from by
    obtain ⟨z0, z1, -, hB⟩ := blocks2 (show (w.alloc (.cells (g.cs a) 29)).alloc (.cells #[.int .i64 0] 33) = _ from rfl)
    exact ⟨⟨hB, z0, hA.grow hB⟩, z1, hR.grow hB⟩)
  have OK := Lib.hid ok
  have HCR := Lib.hid hcr
  have HL := Lib.hid hl
  have H0 := Lib.hid hA
  have HD := Lib.hid hd
  clear hA ok hcr hl hR
  unfold GN.cs at *
  refine (callsIn_wide (n := 9)).1 ?_
  refine callsIn_of_wp_marks Tryz.func8 rfl trivial ?_ rfl
  simp only [Tryz.ntmps8, List.size_toArray, List.length_cons, List.length_nil, Nat.reduceAdd, Nat.reduceSub, Array.replicate_succ, Array.replicate_zero, List.push_toArray, List.append_toArray, List.nil_append, List.cons_append]
  refine wpIn_wide.2 ?_
  go_upto_region 2 with (fail)
  generalize World.alloc (World.alloc w _) _ = w0 at *
  have ID := Lib.hid (I0.out.grow (Below.drew (Below.refl w0.heap.size w0)))
  clear I0
  refine wp_region_noPanic ?_
  refine wp_region_stg (S := (fun w' : World => w'.cell? ⟨w.heap.size, 0, none⟩ = some (.slice a.sa g.sn a.sc) ∧ w'.cell? ⟨w.heap.size, 1, none⟩ = some (.slice a.ca g.cn a.cc) ∧ w'.cell? ⟨w.heap.size, 2, none⟩ = some (.int .i64 g.p.H) ∧ w'.cell? ⟨w.heap.size, 3, none⟩ = some (.int .i64 g.p.fr) ∧ w'.cell? ⟨w.heap.size, 4, none⟩ = some (.int .i64 g.p.pe) ∧ w'.cell? ⟨w.heap.size, 5, none⟩ = some (.slice a.fa g.p.fn a.fc) ∧ w'.cell? ⟨w.heap.size, 6, none⟩ = some (.slice a.qa g.p.qn a.qc))) (L := []) (D := []) (by kernel_rfl) (by kernel_rfl) ID.out.oi.cells (by intro e he; cases he) (fun hC0 hH0 => ?_)
  refine wpAnyT_take (i := 0) (oi := _) (v := ?_) rfl (by kernel_rfl) (by kernel_rfl) (by kernel_rfl) (fun _ _ _ h => h) (by kernel_rfl) (by rfl) hC0 (Or.inl ⟨by rfl, ?_⟩) hH0 (fun hC1 hH1 => ?_)
  rotate_left
  · (intro w9 hSw; obtain ⟨hSw, hLw⟩ := hSw; clear hLw; (try dsimp only at hSw); (go_split_ands; go_simp); (try with_reducible rfl))
  clear hC0 hH0
  try simp only [Act.put, List.setIfInBounds_toArray]
  refine wpAnyT_take (i := 1) (oi := _) (v := ?_) rfl (by kernel_rfl) (by kernel_rfl) (by kernel_rfl) (fun _ _ _ h => h) (by kernel_rfl) (by rfl) hC1 (Or.inl ⟨by rfl, ?_⟩) hH1 (fun hC2 hH2 => ?_)
  rotate_left
  · (intro w9 hSw; obtain ⟨hSw, hLw⟩ := hSw; clear hLw; (try dsimp only at hSw); (go_split_ands; go_simp); (try with_reducible rfl))
  clear hC1 hH1
  try simp only [Act.put]
  refine wpAnyT_take (i := 2) (oi := _) (v := ?_) rfl (by kernel_rfl) (by kernel_rfl) (by kernel_rfl) (fun _ _ _ h => h) (by kernel_rfl) (by rfl) hC2 (Or.inl ⟨by rfl, ?_⟩) hH2 (fun hC3 hH3 => ?_)
  rotate_left
  · (intro w9 hSw; obtain ⟨hSw, hLw⟩ := hSw; clear hLw; (try dsimp only at hSw); (go_split_ands; go_simp); (try with_reducible rfl))
  clear hC2 hH2
  try simp only [Act.put]
  refine wpAnyT_one (i := 3) (o := _) (by kernel_rfl) rfl (by kernel_rfl) hC3 (fun K hK => ?_)
  clear hC3 hH3
  go_simp
  (with_reducible refine (isRowF_any _ _ _ _ _).mono ?_)
  rintro e w1 ⟨rfl, hw1⟩
  obtain ⟨z0, z1, -, hB⟩ := blocks2 hw1.symm
  have I1 := Lib.hid (ID.out.grow hB)
  have Z0 := Lib.hid z0
  have Z1 := Lib.hid z1
  clear hw1 z0 z1 hB ID
  generalize w0.drew.heap.size = c at *
  go_wp2_with fail
  refine hK.out _ _ ?_ (fun hC4 hH4 => ?_)
  · exact ⟨I1.out.oi.cells, fun e he => by cases he⟩
  clear hK K
  try simp only [Act.put, List.setIfInBounds_toArray, List.set_cons_zero, List.set_cons_succ]
  refine wpAnyT_one (i := 4) (o := _) (by kernel_rfl) rfl (by kernel_rfl) hC4 (fun K hK => ?_)
  clear hC4 hH4
  go_simp
  have C1 := gopen_any g OK.out a 65 #[bp c, bp (c + 1)] w1 I1.out.oi.at' (fun b W => by kernel_rfl) (fun b v W' hB hb => isRow1_any g OK.out a b v c (c + 1) crew HCR.out oa cap l (fun n hn => (HL.out n hn).1) HD.out W' hb (BoxAt.grow Z0.out hB) (BoxAt.grow Z1.out hB) (I1.out.row.grow hB))
  unfold GN.cs at C1
  (with_reducible refine C1.mono ?_)
  rintro e w2 ⟨b, r, rc, rfl, -, hgw, hb1⟩
  have I2 := Lib.hid (I1.out.grow hb1)
  have G2 := Lib.hid hgw
  clear hgw hb1 C1 I1 Z0 Z1
  go_wp2_with fail
  refine hK.out _ _ ?_ (fun hC5 hH5 => ?_)
  · exact ⟨I2.out.oi.cells, fun e he => by cases he⟩
  clear hK K
  try simp only [Act.put, List.setIfInBounds_toArray, List.set_cons_zero, List.set_cons_succ]
  refine wpAnyT_one (i := 5) (o := _) (by kernel_rfl) rfl (by kernel_rfl) hC5 (fun K hK => ?_)
  clear hC5 hH5
  go_simp
  refine hK.out _ _ ?_ (fun hC6 hH6 => ?_)
  · exact ⟨I2.out.oi.cells, fun e he => by cases he⟩
  clear hK K
  try simp only [Act.put, List.setIfInBounds_toArray, List.set_cons_zero, List.set_cons_succ]
  refine wpAnyT_done (by kernel_rfl) ?_ _
  clear hC6 hH6
  refine NoPanic.normal ?_
  have hlo := Lib.hid (show RLow g a b r oa l w2.heap.size from ⟨lt_of_heap G2.out.bx, fun h => G2.out.at'.s.old h, fun h => G2.out.at'.c.old h, fun h => G2.out.at'.p.f.old h, fun h => G2.out.at'.p.q.old h, fun h => G2.out.rd.old h, fun h => I2.out.row.old h⟩)
  have R0 := Lib.hid (show RW1 g a w oa l b r rc w2.heap.size (.slice none 0 0) (w2.alloc (.cells #[.slice none 0 0] 46)) from by
    have al := (Below.refl w2.heap.size w2).alloc (Nat.le_refl _) (.cells #[.slice none 0 0] 46)
    exact ⟨I2.out.oi.grow al, I2.out.e.grow al, G2.out.grow al, I2.out.row.grow al, heap_alloc_new _ _⟩)
  have HT := Lib.hid (show w.heap.size + 1 < w2.heap.size from lt_of_heap I2.out.e)
  have HS := Lib.hid (show w2.heap.size < (w2.alloc (.cells #[.slice none 0 0] 46)).heap.size from by simp)
  clear I2 G2
  go_upto_region 4 with (fail)
  generalize World.alloc w2 _ = w3 at *
  generalize w2.heap.size = t9 at *
  have C2 := Lib.hid (run_any g OK.out a b r rc crew 92 HCR.out oa cap l HL.out w3 R0.out.gw R0.out.row)
  go_wp2_with (go_at_call 32; refine C2.out.mono ?_; rintro e w4 ⟨rfl, hru, hb4⟩)
  have R1 := Lib.hid (R0.out.grow hb4)
  have U1 := Lib.hid hru
  have HZ := hb4.size
  clear C2 hru hb4 R0
  have HS4 := Lib.hid (show t9 + 1 ≤ w4.heap.size from by have := HS.out; omega)
  clear HZ HS
  have J0 := Lib.hid (show ∃ v, RW1 g a w oa l b r rc t9 v w4 ∧ w4.ownsRow (t9 + 1) 50 2 v 0 (spL (fun i => (g.stP (g.hi crew) l (i + 1)).h) (fun _ => 0) 0) ∧ t9 + 1 ≤ w4.heap.size from ⟨_, R1.out, ⟨rfl, .inl ⟨rfl, rfl⟩⟩, HS4.out⟩)
  have hhi := OK.out.hlo crew HCR.out
  generalize w3.heap.size = s1 at *
  clear R1
  generalize hA : Act.mk _ _ = A0
  have HA := Lib.hid hA
  clear hA
  refine (wpIn_wide (n := 9)).1 ?_
  refine wpIn_rangeFunc_on (w := w4) rfl (by omega) (gf := 67) (lb := #[bp (s1 + 2), bp s1, bp (s1 + 1), bp (s1 + 3)]) (by rw [← HA.out]; rfl) trivial (enters_of Tryz.func67 (by kernel_rfl) rfl)
    (run_seq g OK.out a b r rc 8 crew 92 130 (g.hi crew) HCR.out (by omega) (by omega) (fun _ => by kernel_rfl) (fun _ => by kernel_rfl) (fun _ => by kernel_rfl) (fun w => fast_any _ _ _ w) oa cap l (fun n hn => (HL.out n hn).1) hl5 s1 t9 hlo.out w4 (Nat.le_trans (Nat.le_succ _) HS4.out) U1.out) (fun _ => rfl)
    KpR.trans (fun W l o o' hl ho hc => KpR.put o' (by have := HS4.out; omega) ho hc)
    (fun k W => ∃ v, RW1 g a w oa l b r rc t9 v W ∧ W.ownsRow (t9 + 1) 50 2 v k (spL (fun i => (g.stP (g.hi crew) l (i + 1)).h) (fun _ => 0) k) ∧ t9 + 1 ≤ W.heap.size)
    (fun k A B h hb => ?grow) (fun k A x cs i v h hx hle => ?sets) (fun k A l' o o' hl ho hc h => ?puts) J0.out
    (fun k b' W => ∃ c, t9 < c ∧ b' = { tmps := ((A0.tmps.setIfInBounds 25 (.int .i64 k)).setIfInBounds 26 (g.stP (g.hi crew) l (k + 1)).v).setIfInBounds 11 (bp c), defers := [] } ∧ BoxAt W c (g.stP (g.hi crew) l (k + 1)).cs 94)
    (fun k b' A l' o o' hl ho hc h => ?aputs) ?assign ?body ?done
  case grow =>
    obtain ⟨v, h1, h2, h3⟩ := h
    exact ⟨v, h1.grow hb, own_grow h2 hb, Nat.le_trans h3 hb.size⟩
  case sets =>
    obtain ⟨u, h1, h2, h3⟩ := h
    exact ⟨u, h1.kept hlo.out HT.out ((Below.refl _ A).setCell (p := ⟨x, i, none⟩) (Nat.le_trans HS4.out hle) v), own_state h2 hx (by decide), by rw [size_setCell]; exact h3⟩
  case puts =>
    obtain ⟨u, h1, h2, h3⟩ := h
    exact ⟨u, h1.kept hlo.out HT.out (below_put o' (Nat.le_trans HS4.out hl) ho), own_put h2 o' ho hc, by simpa [World.putObj] using h3⟩
  case aputs =>
    obtain ⟨c, h1, h2, h3⟩ := h
    refine ⟨c, h1, h2, (World.putObj_heap_other (fun e => ?_)).trans h3⟩
    subst e
    rw [show A.heap[c]? = _ from h3] at ho
    obtain rfl := Option.some.inj ho
    cases hc
  case assign =>
    intro L k W K hk hI hK
    have HK := Lib.hid hK
    have HI := Lib.hid hI
    clear hK hI
    rw [← HA.out] at HK ⊢
    simp only [RS2.vs, St.v, St.cs] at *
    gi_wp2
    have hb := (Below.refl W.heap.size W).alloc (Nat.le_refl _) (.cells #[.int .u64 (g.stP (g.hi crew) l (k + 1)).s, .int .i64 (g.stP (g.hi crew) l (k + 1)).h] 94)
    obtain ⟨v, h1, h2, h3⟩ := HI.out
    exact HK.out _ _ (keepsFrom_below hb) (KpR.below (Nat.le_trans (Nat.le_succ _) h3) hb) ⟨v, h1.grow hb, own_grow h2 hb, Nat.le_trans h3 hb.size⟩ ⟨W.heap.size, by omega, rfl, heap_alloc_new _ _⟩
  case body =>
    rintro L k b' W hk ⟨v, h1, h2, h3⟩ ⟨c1, hc1, rfl, hx⟩
    have HI := Lib.hid h1
    have HO := Lib.hid h2
    have HX := Lib.hid hx
    have HS := Lib.hid h3
    clear h1 h2 hx h3
    have al := (Below.refl W.heap.size W).alloc (Nat.le_refl _) (.cells #[.int .i64 (g.stP (g.hi crew) l (k + 1)).h, .int .i64 0] 50)
    have AL := Lib.hid al
    have N1 := Lib.hid (show BoxAt (W.alloc (.cells #[.int .i64 (g.stP (g.hi crew) l (k + 1)).h, .int .i64 0] 50)) W.heap.size #[.int .i64 (g.stP (g.hi crew) l (k + 1)).h, .int .i64 0] 50 from heap_alloc_new _ _)
    have R2 := Lib.hid (HI.out.grow al)
    have O2 := Lib.hid (own_grow HO.out al)
    have HSP := Lib.hid (show spL (fun i => (g.stP (g.hi crew) l (i + 1)).h) (fun _ => 0) k ++ [.int .i64 (g.stP (g.hi crew) l (k + 1)).h, .int .i64 0] = spL (fun i => (g.stP (g.hi crew) l (i + 1)).h) (fun _ => 0) (k + 1) from rfl)
    have o0 := cellAt HI.out.ob 0
    have x1 := cellAt HX.out 1
    obtain ⟨i0, hi0, hz0, hz1, hz2⟩ := info_parts info_span
    clear al
    rw [← HA.out]
    unfold St.v St.cs at *
    simp only [List.getElem?_toArray, List.getElem?_cons_zero, List.getElem?_cons_succ, List.setIfInBounds_toArray, List.set_cons_zero, List.set_cons_succ] at o0 x1 ⊢
    gi_wp2_with (gi_at_builtin; refine wpListIn_append_own _ rfl _ _ 46 rfl (t9 + 1) 50 i0 _ 2 16 Tryz.underlying46 hi0 hz0 hz1 hz2 rfl (by decide) _ k _ rfl O2.out ⟨W.heap.size, 0, none⟩ 1 1 [.int .i64 (g.stP (g.hi crew) l (k + 1)).h, .int .i64 0] rfl rfl ?c1 ?c2 ?c3 ?c4 ?c5 ?_)
    case c2 => exact ⟨rfl, rfl⟩
    case c3 => unfold maxLen; omega
    case c4 => omega
    case c5 => exact Nat.le_trans (Nat.le_succ _) HS.out
    intro v' w5 hown' hgrow _
    rw [HSP.out] at hown'
    obtain ⟨g5, c5, rfl⟩ : ∃ gg cap, v' = .slice (some ⟨gg, 0, none⟩) (k + 1) cap := by
      obtain ⟨-, h | ⟨gg, cap, cur, h, -⟩⟩ := hown'
      · exact absurd h.2 (Nat.succ_ne_zero k)
      · exact ⟨gg, cap, h⟩
    obtain ⟨b5, k5, p5, o5⟩ := append_round (s := w4.heap.size) HS4.out HI.out.ob HO.out HS.out AL.out hgrow hown'
    have R5 := Lib.hid (HI.out.kept hlo.out HT.out b5)
    have K5 := Lib.hid k5
    have P5 := Lib.hid p5
    have O5 := Lib.hid o5
    have S5 := Lib.hid (Nat.le_trans HS.out b5.size)
    clear b5 k5 p5 o5 hown' hgrow o0 x1 AL N1 R2 O2 HI HO HX HS HSP hi0 hz0 hz1 hz2
    have o0 := cellAt R5.out.ob 0
    have f0 := freeAt R5.out.ob 0
    simp only [List.getElem?_toArray, List.getElem?_cons_zero] at o0
    gi_wp2
    exact ⟨K5.out, P5.out, _, R5.out.put hlo.out HT.out _, O5.out, by first | exact S5.out | (rw [size_setCell]; exact S5.out)⟩
  case done =>
    rintro D W hD ⟨v, h1, h2, h3⟩ hk
    obtain ⟨ra, rcp, rfl, hsp⟩ := own_spans h2
    have HI := Lib.hid h1
    have HK := Lib.hid hk
    have HSP := Lib.hid hsp
    have HDS := Lib.hid (show D < W.heap.size from (Array.getElem?_eq_some_iff.1 hk).1)
    have HS5 := Lib.hid h3
    clear h1 h2 hk hsp h3 U1 J0
    rw [← HA.out]
    have C2 := Lib.hid (run_any g OK.out a b r rc crew 95 HCR.out oa cap l HL.out W HI.out.gw HI.out.row)
    go_wp2_with (go_at_call 32; refine C2.out.mono ?_; rintro e w5 ⟨rfl, hru, hb5⟩)
    have J5 := Lib.hid (show RW1 g a w oa l b r rc t9 (.slice ra l.length rcp) w5 ∧ SpB w5 ra l.length t9 (fun i => (g.stP (g.hi crew) l (i + 1)).h) (fun i => if i < 0 then (g.stP (g.lo crew) l (i + 1)).h else 0) ∧ w5.heap[D]? = some (.deferred (some [])) from ⟨HI.out.grow hb5, HSP.out.grow hb5, (hb5.block D HDS.out).trans HK.out⟩)
    have U5 := Lib.hid hru
    have HD5 := Lib.hid (Nat.lt_of_lt_of_le HDS.out hb5.size)
    have HS6 := Lib.hid (Nat.le_trans HS5.out hb5.size)
    clear C2 hru hb5 HI HSP HK HDS HS5 HA
    generalize W.heap.size = s2 at *
    generalize hA : Act.mk _ _ = A1
    have HA := Lib.hid hA
    clear hA
    refine (wpIn_wide (n := 9)).1 ?_
    refine wpIn_rangeFunc_on (w := w5) rfl (by omega) (gf := 67) (lb := #[bp (s2 + 2), bp s2, bp (s2 + 1), bp (s2 + 3)]) (by rw [← HA.out]; rfl) trivial (enters_of Tryz.func67 (by kernel_rfl) rfl)
      (run_seq g OK.out a b r rc 8 crew 95 131 (g.lo crew) HCR.out (by omega) (by omega) (fun _ => by kernel_rfl) (fun _ => by kernel_rfl) (fun _ => by kernel_rfl) (fun w => slow_any _ _ _ w) oa cap l (fun n hn => (HL.out n hn).1) hl5 s2 t9 hlo.out w5 (Nat.le_trans (Nat.le_succ _) HS6.out) U5.out) (fun _ => rfl)
      KpR.trans (fun W l o o' hl ho hc => KpR.put o' (by have := HS6.out; omega) ho hc)
      (fun k W => RW1 g a w oa l b r rc t9 (.slice ra l.length rcp) W ∧ SpB W ra l.length t9 (fun i => (g.stP (g.hi crew) l (i + 1)).h) (fun i => if i < k then (g.stP (g.lo crew) l (i + 1)).h else 0) ∧ W.heap[D]? = some (.deferred (some [])))
      (fun k A B h hb => ?grow) (fun k A x cs i v h hx hle => ?sets) (fun k A l' o o' hl ho hc h => ?puts) J5.out
      (fun k b' W => ∃ c, b' = { tmps := (((A1.tmps.setIfInBounds 39 (.int .i64 k)).setIfInBounds 40 (g.stP (g.lo crew) l (k + 1)).v).setIfInBounds 12 (.int .i64 k)).setIfInBounds 13 (bp c), defers := [] } ∧ BoxAt W c (g.stP (g.lo crew) l (k + 1)).cs 94)
      (fun k b' A l' o o' hl ho hc h => ?aputs) ?assign ?body ?done
    case grow => exact ⟨h.1.grow hb, h.2.1.grow hb, (hb.block D (Array.getElem?_eq_some_iff.1 h.2.2).1).trans h.2.2⟩
    case sets => exact ⟨h.1.kept hlo.out HT.out ((Below.refl _ A).setCell (p := ⟨x, i, none⟩) (Nat.le_trans HS6.out hle) v), h.2.1.state hx, set_other hx h.2.2 rfl⟩
    case puts =>
      exact ⟨h.1.kept hlo.out HT.out (below_put o' (Nat.le_trans HS6.out hl) ho), h.2.1.put o' ho hc, (World.putObj_heap_other (by have := HD5.out; omega)).trans h.2.2⟩
    case aputs =>
      obtain ⟨c, h2, h3⟩ := h
      refine ⟨c, h2, (World.putObj_heap_other (fun e => ?_)).trans h3⟩
      subst e
      rw [show A.heap[c]? = _ from h3] at ho
      obtain rfl := Option.some.inj ho
      cases hc
    case assign =>
      intro L k W K hk hI hK
      have HK := Lib.hid hK
      have HI := Lib.hid hI
      clear hK hI
      rw [← HA.out] at HK ⊢
      simp only [RS2.vs, St.v, St.cs] at *
      gi_wp2
      have hb := (Below.refl W.heap.size W).alloc (Nat.le_refl _) (.cells #[.int .u64 (g.stP (g.lo crew) l (k + 1)).s, .int .i64 (g.stP (g.lo crew) l (k + 1)).h] 94)
      obtain ⟨h1, h2, h3⟩ := HI.out
      exact HK.out _ _ (keepsFrom_below hb) (KpR.below (Nat.le_of_lt (lt_of_heap h1.ob)) hb) ⟨h1.grow hb, h2.grow hb, (hb.block D (Array.getElem?_eq_some_iff.1 h3).1).trans h3⟩ ⟨W.heap.size, rfl, heap_alloc_new _ _⟩
    case body =>
      rintro L k b' W hk ⟨h1, h2, h3⟩ ⟨c1, rfl, hx⟩
      have HI := Lib.hid h1
      have HX := Lib.hid hx
      have HDD := Lib.hid h3
      obtain h2 | ⟨gg, cur, rfl, h5, h6, h7⟩ := h2
      · exact absurd h2 (by omega)
      have HB := Lib.hid h6
      have HC := Lib.hid h7
      have HG := Lib.hid h5
      clear h1 hx h5 h6 h7 h3
      have o0 := cellAt HI.out.ob 0
      have x1 := cellAt HX.out 1
      have d1 := (cellAt HB.out (k * 2 + 1)).trans (HC.out k hk).2
      have f1 := freeAt HB.out (k * 2 + 1)
      have hi := fun W => run_indexAt_row (w := W) (oa := some ⟨gg, 0, none⟩) (cap := rcp) Tryz.underlying46 size_sp rfl hk
      simp only [blk, ofs, Nat.zero_add] at hi
      rw [← HA.out]
      unfold St.v St.cs at *
      simp only [List.getElem?_toArray, List.getElem?_cons_zero, List.getElem?_cons_succ, List.setIfInBounds_toArray, List.set_cons_zero, List.set_cons_succ] at o0 x1 ⊢
      gi_wp2
      refine ⟨⟨by simp [World.setCell], fun i o _ hio hc => set_other HB.out hio hc⟩, ⟨(Below.refl t9 W).setCell (p := ⟨gg, k * 2 + 1, none⟩) (Nat.le_of_lt HG.out) _, by simp [World.setCell], fun i cs t hi h1 _ => BoxAt.set hi _ _ (boxes_ne hi HB.out h1)⟩, HI.out.kept hlo.out HT.out ((Below.refl (t9 + 1) W).setCell (p := ⟨gg, k * 2 + 1, none⟩) HG.out _), ?_, set_other HB.out HDD.out rfl⟩
      have hst := SpB.store (v := (g.stP (g.lo crew) l (k + 1)).h) HB.out HG.out hk HC.out
      rwa [show (fun i => if i = k then (g.stP (g.lo crew) l (k + 1)).h else if i < k then (g.stP (g.lo crew) l (i + 1)).h else 0) = fun i => if i < k + 1 then (g.stP (g.lo crew) l (i + 1)).h else 0 from funext fun i => by
        by_cases e : i = k
        · subst e; rw [if_pos rfl, if_pos (Nat.lt_succ_self _)]
        · by_cases e2 : i < k
          · rw [if_neg e, if_pos e2, if_pos (by omega)]
          · rw [if_neg e, if_neg e2, if_neg (by omega)]] at hst
    case done =>
      rintro D2 W2 hD2 ⟨h1, h2, h3⟩ hk2
      have HI := Lib.hid h1
      have HSP := Lib.hid h2
      have HK1 := Lib.hid h3
      have HK2 := Lib.hid hk2
      have hne := HD5.out
      have HNE := Lib.hid (show D2 ≠ D by omega)
      clear h1 h2 h3 hk2 hne
      rw [← HA.out]
      have o0 := cellAt HI.out.ob 0
      have e0 := cellAt HI.out.e 0
      have f0 := freeAt HI.out.e 0
      simp only [List.getElem?_toArray, List.getElem?_cons_zero] at o0 e0
      go_wp2_with fail
      have E3 := Lib.hid (HI.out.e.store 0 (.int .i64 0))
      have B3 := Lib.hid (HI.out.oi.bel.setCell (p := ⟨w.heap.size + 1, 0, none⟩) (by dsimp only; omega) (.int .i64 0))
      have S3 := Lib.hid (HSP.out.low (u := .int .i64 0) (q := ⟨w.heap.size + 1, 0, none⟩) (Nat.le_of_lt HT.out))
      have M1 := Lib.hid (set_other (i := 0) (v := .int .i64 0) HI.out.e HK1.out rfl)
      have M2 := Lib.hid (set_other (i := 0) (v := .int .i64 0) HI.out.e HK2.out rfl)
      have L1 := Lib.hid (show w.heap.size + 1 < D from by have := HT.out; have := HS4.out; omega)
      have L2 := Lib.hid (show w.heap.size + 1 < D2 from by have := HT.out; have := HS6.out; omega)
      clear HI HSP HK1 HK2 o0 e0 f0 HD5 HS6 HS4
      generalize World.setCell W2 _ _ = W3 at *
      refine leaves_marks (by simp) [D2, D] _ (by have := HNE.out; simp; exact this) (fun E hE => ?_) (fun W5 hk5 => ?_)
      · simp only [List.mem_cons, List.mem_nil_iff, or_false] at hE
        rcases hE with rfl | rfl
        · exact M2.out
        · exact M1.out
      · refine ⟨by simp, .inr ⟨(fun h => by cases h), _, _, 19, #[bp (w.heap.size + 1)], rfl, ?_, fun _ _ => trivial, ?_⟩⟩
        · simp [invoke, go_sem]
        · refine (Ga.answerIn_idle _ _ _).mono ?_
          rintro e' u' w' ⟨rfl, rfl, rfl⟩
          have r4 := cellAt (hk5.box E3.out (by have := L1.out; have := L2.out; simp; omega)) 0
          simp only [List.setIfInBounds_toArray, List.set_cons_zero, List.getElem?_toArray, List.getElem?_cons_zero] at r4
          refine ⟨.tuple #[.slice ra l.length rcp, .int .i64 0], by simp [results, Tryz.results8, go_sem, r4], ?_⟩
          refine ⟨B3.out.trans (hk5.to_below fun k hk => by have := L1.out; have := L2.out; simp; omega), ra, rcp, rfl, ?_⟩
          have hfin := (S3.out.marks hk5 (fun E hE => by
            simp only [List.mem_cons, List.mem_nil_iff, or_false] at hE
            rcases hE with rfl | rfl
            · exact M2.out
            · exact M1.out)).row (by unfold maxLen; omega)
          refine ⟨⟨hfin.plain, hfin.old, hfin.small, fun i hi j hj => (hfin.cells i hi j hj).trans ?_⟩, fun h => by have := S3.out.new h; have := HT.out; omega⟩
          unfold spanC
          dsimp only
          rw [if_pos hi]
end
end Go.Proofs.YtikeihnhkiipgaaGreat
