/-
  Plain: the rows of the deal, and the hours at which their seams are done.
  Plain: the wages that the law writes.
  The law: the first loop: tickets are written, and what is due.
-/
import Derived.Test.YtikeihnhkiipgaaGreatQI1
import Derived.Test.YtikeihnhkiipgaaGreatWP
import Derived.Test.YtikeihnhkiipgaaGreatQL1
namespace Go.Proofs.YtikeihnhkiipgaaGreat
open Go.RowKit

/-- As stP, from any state. -/
def GN.stF (g : GN) (sp : Nat) (s : St) (l : List Nat) : Nat → St
  | 0 => s
  | k + 1 => g.nxtP sp (g.stF sp s l k) (l[k]?.getD 0)
theorem stP_stF (g : GN) (sp : Nat) (l : List Nat) : ∀ k, g.stP sp l k = g.stF sp ⟨0, 0⟩ l k
  | 0 => rfl
  | k + 1 => by rw [GN.stP, GN.stF, stP_stF g sp l k]
theorem stF_cons (g : GN) (sp : Nat) (s : St) (n : Nat) (l : List Nat) : ∀ k, g.stF sp s (n :: l) (k + 1) = g.stF sp (g.nxtP sp s n) l k
  | 0 => rfl
  | k + 1 => by rw [GN.stF, stF_cons g sp s n l k]; rfl
theorem goes_stF {g : GN} {crew : Nat} : ∀ {t : List Nat} {s : St}, g.goes crew s t → ∀ k (hk : k < t.length), (g.stF (g.lo crew) s t (k + 1)).h ≤ g.fl t[k]
  | n :: t, s, ⟨_, _, _, d, e⟩, k, hk => by
    cases k with
    | zero => exact d
    | succ k =>
      rw [stF_cons]
      exact goes_stF (t := t) e k (by simpa using hk)
/-- A faster crew is done no later. -/
theorem stP_mono {g : GN} {a b : Nat} (ha : 1 ≤ a) (hab : a ≤ b) (l : List Nat) : ∀ k, (g.stP b l k).h ≤ (g.stP a l k).h
  | 0 => Nat.le_refl _
  | k + 1 => by
    have h := stP_mono (g := g) ha hab l k
    have h2 := takes_anti (f := g.fm (l[k]?.getD 0)) ha hab
    unfold GN.stP GN.nxtP
    dsimp only
    omega
def GN.rowOf (g : GN) (c : Nat) : List Nat := (g.first c (setOf g.to c g.sn) g.sn [] ⟨0, 0⟩).getD []
structure RowIs (g : GN) (c : Nat) : Prop where
  first : g.first c (setOf g.to c g.sn) g.sn [] ⟨0, 0⟩ = some (g.rowOf c)
  goes : g.goes c ⟨0, 0⟩ (g.rowOf c)
  mem : ∀ n, n ∈ g.rowOf c ↔ n < g.sn ∧ g.to n = c
  all : ∀ n ∈ g.rowOf c, n < g.sn ∧ g.kn c n = true
  nodup : (g.rowOf c).Nodup
  len : (g.rowOf c).length ≤ g.sn
theorem nodup_len : ∀ {n : Nat} {l : List Nat}, l.Nodup → (∀ x ∈ l, x < n) → l.length ≤ n
  | 0, l, _, h => by
    cases l with
    | nil => exact Nat.le_refl _
    | cons x t => exact absurd (h x (by simp)) (by omega)
  | n + 1, l, hd, h => by
    by_cases hm : n ∈ l
    · have h1 := nodup_len (n := n) (hd.erase n) (fun x hx => by
        have h2 := (List.Nodup.mem_erase_iff hd).1 hx
        have h3 := h x h2.2
        have := h2.1
        omega)
      rw [List.length_erase_of_mem hm] at h1
      omega
    · have h1 := nodup_len (n := n) hd (fun x hx => by
        have h3 := h x hx
        have : x ≠ n := fun e => hm (by rw [← e]; exact hx)
        omega)
      omega
theorem row_is {g : GN} (ok : g.Ok) (h : g.dv g.sn Mk.start < 10000) {c : Nat} (hc : c < g.cn) : RowIs g c := by
  obtain ⟨r, h1, h2, h3⟩ := deal_rows ok h hc
  have e : g.rowOf c = r := by unfold GN.rowOf; rw [h1]; rfl
  rw [← e] at h1 h2 h3
  have hm : ∀ n, n ∈ g.rowOf c ↔ n < g.sn ∧ g.to n = c := fun n => by
    have hb : (g.ends c ⟨0, 0⟩ (g.rowOf c)).s.testBit n = (decide (n < g.sn) && decide (g.to n = c)) := by rw [h3, setOf_bit]
    rw [ends_mem, Nat.zero_testBit, Bool.false_or] at hb
    have hb2 : decide (n ∈ g.rowOf c) = true ↔ (decide (n < g.sn) && decide (g.to n = c)) = true := by rw [hb]
    simpa using hb2
  exact ⟨h1, h2, hm, fun n hn => goes_mem h2 hn, (goes_nodup h2).1, nodup_len (goes_nodup h2).1 fun n hn => ((hm n).1 hn).1⟩
/-- Where a seam stands in its crew's row. -/
def GN.pl (g : GN) (n : Nat) : Nat := (g.rowOf (g.to n)).idxOf n
def GN.dLo (g : GN) (n : Nat) : Nat := (g.stP (g.hi (g.to n)) (g.rowOf (g.to n)) (g.pl n + 1)).h
def GN.dHi (g : GN) (n : Nat) : Nat := (g.stP (g.lo (g.to n)) (g.rowOf (g.to n)) (g.pl n + 1)).h
theorem pl_lt {g : GN} (ok : g.Ok) (h : g.dv g.sn Mk.start < 10000) {n : Nat} (hn : n < g.sn) : g.pl n < (g.rowOf (g.to n)).length :=
  List.idxOf_lt_length_of_mem (((row_is ok h (to_lt ok h hn)).mem n).2 ⟨hn, rfl⟩)
theorem pl_at {g : GN} (ok : g.Ok) (h : g.dv g.sn Mk.start < 10000) {n : Nat} (hn : n < g.sn) {k : Nat} (hk : k < (g.rowOf (g.to n)).length) : (g.rowOf (g.to n))[k] = n ↔ k = g.pl n := by
  have hp := pl_lt ok h hn
  have he : (g.rowOf (g.to n))[g.pl n] = n := List.getElem_idxOf hp
  constructor
  · intro e
    have hd := (row_is ok h (to_lt ok h hn)).nodup
    rcases Nat.lt_trichotomy k (g.pl n) with h1 | h1 | h1
    · exact absurd (e.trans he.symm) (List.pairwise_iff_getElem.1 hd k _ hk hp h1)
    · exact h1
    · exact absurd (he.trans e.symm) (List.pairwise_iff_getElem.1 hd _ k hp hk h1)
  · rintro rfl
    exact he
theorem done_le {g : GN} (ok : g.Ok) (h : g.dv g.sn Mk.start < 10000) {n : Nat} (hn : n < g.sn) : g.dLo n ≤ g.dHi n ∧ g.dHi n ≤ 24 := by
  have hc := to_lt ok h hn
  have hlo := ok.hlo _ hc
  refine ⟨stP_mono hlo.1 hlo.2.1 _ _, ?_⟩
  have hr := row_is ok h hc
  have h1 := goes_stF hr.goes (g.pl n) (pl_lt ok h hn)
  rw [← stP_stF, (pl_at ok h hn (pl_lt ok h hn)).2 rfl] at h1
  have h2 := ok.hfl n hn
  unfold GN.dHi
  omega
end Go.Proofs.YtikeihnhkiipgaaGreat

namespace Go.Proofs.YtikeihnhkiipgaaGreat
open Go.RowKit

/-- The rate of a fathom of a seam. -/
def rateF (rn : Nat) (rf : Nat → Nat) (n : Nat) : Nat := if 0 < rn then rf (n % rn) % 51 else 1
theorem rate_le (rn : Nat) (rf : Nat → Nat) (n : Nat) : rateF rn rf n ≤ 50 := by
  unfold rateF
  split
  · omega
  · omega
def GN.wS (g : GN) (rn : Nat) (rf : Nat → Nat) (n : Nat) : Wa.Sm := ⟨(g.fm n : Nat), (rateF rn rf n : Nat)⟩
def GN.tide (g : GN) (n : Nat) : Nat := min (g.dHi n) (g.dLo n + 3)
def GN.wT (g : GN) (n : Nat) : Wa.Tk := ⟨(g.to n : Nat), (n : Nat), 0, 0, (g.fm n : Nat), (g.fm n : Nat), (g.dLo n : Nat), (g.tide n : Nat)⟩
def GN.wL (g : GN) (ot n : Nat) : Wa.Tk := ⟨((ot % g.cn : Nat) : Int), (n : Nat), 0, ((g.fm n % 4 : Nat) : Int), ((g.fm n - 1 : Nat) : Int), (g.fm n : Nat), 39, 40⟩
def GN.wU (g : GN) (ot i : Nat) : Wa.Tk := if i < g.sn then g.wT i else g.wL ot (i - g.sn)
section
variable {g : GN} (ok : g.Ok) (h : g.dv g.sn Mk.start < 10000) (h3 : g.sn ≤ 3) (h0 : 1 ≤ g.cn) (hf : ∀ n, n < g.sn → g.fm n ≤ 20)
include ok h
theorem tide_ok {n : Nat} (hn : n < g.sn) : g.dLo n ≤ g.tide n ∧ g.tide n ≤ 24 ∧ g.tide n ≤ g.dLo n + 3 := by
  have := done_le ok h hn
  unfold GN.tide
  omega
include h3 h0 hf
theorem first_T (rn : Nat) (rf : Nat → Nat) : Wa.First (g.wS rn rf) g.wT g.sn g.sn g.to := by
  have _ := h3
  have _ := h0
  have _ := hf
  refine ⟨Nat.le_refl _, fun s _ => Int.natCast_nonneg _, fun _ _ => rfl, fun _ _ => rfl, fun _ _ => rfl, fun _ _ => rfl, fun _ _ => rfl, fun _ _ => rfl, fun s hs => ?_, fun s hs => ?_, fun i h1 h2 => by omega, fun i h1 h2 => by omega⟩
  · have := done_le ok h hs
    show ((g.dLo s : Nat) : Int) ≤ 24
    omega
  · have := tide_ok ok h hs
    show ((g.tide s : Nat) : Int) ≤ 24
    omega
theorem valid_T (rn : Nat) (rf : Nat → Nat) : Wa.Valid g.cn g.sn g.sn (g.wS rn rf) g.wT := by
  have hcn := ok.hcn
  refine ⟨by omega, by omega, h3, by omega, fun j hj => ?_, fun j hj => ?_, fun i hi => ?_, fun i hi => ?_, fun i hi => ?_, fun i hi => ?_⟩
  · have := hf j hj
    show 0 ≤ ((g.fm j : Nat) : Int) ∧ ((g.fm j : Nat) : Int) ≤ 20
    omega
  · have := rate_le rn rf j
    show 0 ≤ ((rateF rn rf j : Nat) : Int) ∧ ((rateF rn rf j : Nat) : Int) ≤ 50
    omega
  · have := to_lt ok h hi
    show 0 ≤ ((g.to i : Nat) : Int) ∧ ((g.to i : Nat) : Int) < (g.cn : Int) ∧ 0 ≤ (i : Int) ∧ (i : Int) < (g.sn : Int)
    omega
  · have := tide_ok ok h hi
    show Wa.spanB ((g.dLo i : Nat) : Int) ((g.tide i : Nat) : Int) 40 = true
    unfold Wa.spanB
    simp
    omega
  · show Wa.spanB 0 0 ((g.fm i : Nat) : Int) = true
    unfold Wa.spanB
    simp
  · show Wa.spanB ((g.fm i : Nat) : Int) ((g.fm i : Nat) : Int) ((g.fm i : Nat) : Int) = true
    unfold Wa.spanB
    simp
theorem first_U (rn : Nat) (rf : Nat → Nat) (ot : Nat) : Wa.First (g.wS rn rf) (g.wU ot) g.sn (g.sn + g.sn) g.to := by
  have e1 : ∀ s, s < g.sn → g.wU ot s = g.wT s := fun s hs => if_pos hs
  have e2 : ∀ s, g.sn ≤ s → g.wU ot s = g.wL ot (s - g.sn) := fun s hs => if_neg (by omega)
  have F := first_T ok h h3 h0 hf rn rf
  refine ⟨by omega, F.fat, fun s hs => ?_, fun s hs => ?_, fun s hs => ?_, fun s hs => ?_, fun s hs => ?_, fun s hs => ?_, fun s hs => ?_, fun s hs => ?_, fun i h1 h2 => ?_, fun i h1 h2 => ?_⟩
  · rw [e1 s hs]; exact F.crew s hs
  · rw [e1 s hs]; exact F.seam s hs
  · rw [e1 s hs]; exact F.fl s hs
  · rw [e1 s hs]; exact F.fh s hs
  · rw [e1 s hs]; exact F.tl s hs
  · rw [e1 s hs]; exact F.th s hs
  · rw [e1 s hs]; exact F.dl s hs
  · rw [e1 s hs]; exact F.dh s hs
  · rw [e2 i h1]; show (39 : Int) ≤ 39; omega
  · rw [e2 i h1]; show (39 : Int) ≤ 40; omega
theorem valid_U (rn : Nat) (rf : Nat → Nat) (ot : Nat) : Wa.Valid g.cn g.sn (g.sn + g.sn) (g.wS rn rf) (g.wU ot) := by
  have V := valid_T ok h h3 h0 hf rn rf
  have hcn := ok.hcn
  have e1 : ∀ s, s < g.sn → g.wU ot s = g.wT s := fun s hs => if_pos hs
  have e2 : ∀ s, g.sn ≤ s → g.wU ot s = g.wL ot (s - g.sn) := fun s hs => if_neg (by omega)
  refine ⟨V.cr0, V.cr1, h3, by omega, V.fat, V.rate, fun i hi => ?_, fun i hi => ?_, fun i hi => ?_, fun i hi => ?_⟩ <;> rcases Nat.lt_or_ge i g.sn with hs | hs
  · rw [e1 i hs]; exact V.tk i hs
  · rw [e2 i hs]
    have := Nat.mod_lt ot (show g.cn > 0 by omega)
    show 0 ≤ ((ot % g.cn : Nat) : Int) ∧ ((ot % g.cn : Nat) : Int) < (g.cn : Int) ∧ 0 ≤ ((i - g.sn : Nat) : Int) ∧ ((i - g.sn : Nat) : Int) < (g.sn : Int)
    generalize ot % g.cn = z at *
    omega
  · rw [e1 i hs]; exact V.td i hs
  · rw [e2 i hs]; exact (show Wa.spanB 39 40 40 = true from by decide)
  · rw [e1 i hs]; exact V.fr i hs
  · rw [e2 i hs]
    have := hf (i - g.sn) (by omega)
    have := (ok.hfm (i - g.sn) (by omega)).1
    show Wa.spanB 0 ((g.fm (i - g.sn) % 4 : Nat) : Int) (g.wS rn rf ((i - g.sn : Nat) : Int).toNat).fat = true
    rw [Int.toNat_natCast]
    show Wa.spanB 0 ((g.fm (i - g.sn) % 4 : Nat) : Int) ((g.fm (i - g.sn) : Nat) : Int) = true
    generalize g.fm (i - g.sn) = f at *
    unfold Wa.spanB
    simp
    omega
  · rw [e1 i hs]; exact V.to i hs
  · rw [e2 i hs]
    have := hf (i - g.sn) (by omega)
    have := (ok.hfm (i - g.sn) (by omega)).1
    show Wa.spanB ((g.fm (i - g.sn) - 1 : Nat) : Int) ((g.fm (i - g.sn) : Nat) : Int) (g.wS rn rf ((i - g.sn : Nat) : Int).toNat).fat = true
    rw [Int.toNat_natCast]
    show Wa.spanB ((g.fm (i - g.sn) - 1 : Nat) : Int) ((g.fm (i - g.sn) : Nat) : Int) ((g.fm (i - g.sn) : Nat) : Int) = true
    generalize g.fm (i - g.sn) = f at *
    unfold Wa.spanB
    simp
    omega
end
end Go.Proofs.YtikeihnhkiipgaaGreat

namespace Go.Proofs.YtikeihnhkiipgaaGreat
open Go.RowKit

/-- The hours at which pots are hot. -/
def hotC (n : Nat) (H : Nat → Nat) : Array Value := (rowVals (fun i => ((H i : Nat) : Int)) n).toArray
theorem hotC_at {n : Nat} (H : Nat → Nat) {i : Nat} (h : i < n) : (hotC n H)[i]? = some (.int .i64 (H i)) := by
  unfold hotC
  rw [List.getElem?_toArray, rowVals_get _ _ _ h]
theorem hotC_set (n : Nat) (H : Nat → Nat) (k v : Nat) : (hotC n H).setIfInBounds k (.int .i64 v) = hotC n (updN H k v) := by
  unfold hotC
  rw [List.setIfInBounds_toArray, rowVals_set]
  congr 2
  funext i
  unfold updN
  split <;> rfl
theorem make_hot (w : World) (n : Nat) (hn : n ≤ 4) : (Instr.makeSlice 24 (.int .i64 n) (.int .i64 n)).run Tryz.prog w = .ok (.slice (some ⟨w.heap.size, 0, none⟩) n n) (w.alloc (.cells (hotC n fun _ => 0) 3)) := by
  obtain ⟨i, hi, hz, hs, hb⟩ := info_parts info_int
  have h := run_make (P := Tryz.prog) w 24 3 i _ Tryz.underlying24 hi hz .i64 .i64 n n (by omega) (Int.le_refl _) (by rw [hb]; omega) (by omega)
  simp only [Int.toNat_natCast] at h
  have e : madeCells (Value.int .i64 0).cells (n * 1) = hotC n fun _ => 0 := by
    rcases (show n = 0 ∨ n = 1 ∨ n = 2 ∨ n = 3 ∨ n = 4 by omega) with rfl | rfl | rfl | rfl | rfl <;> kernel_rfl
  rw [h, hs, e]
/-- A row out of its elements' cells. -/
def flL (c : Nat → List Value) : Nat → List Value
  | 0 => []
  | k + 1 => flL c k ++ c k
theorem flL_len {c : Nat → List Value} {sz : Nat} (hc : ∀ i, (c i).length = sz) : ∀ k, (flL c k).length = k * sz
  | 0 => by rw [Nat.zero_mul]; rfl
  | k + 1 => by rw [flL, List.length_append, flL_len hc k, hc k, Nat.add_mul, Nat.one_mul]
theorem flL_at {c : Nat → List Value} {sz : Nat} (hc : ∀ i, (c i).length = sz) : ∀ k i, i < k → ∀ j, j < sz → (flL c k)[i * sz + j]? = (c i)[j]?
  | k + 1, i, hi, j, hj => by
    by_cases e : i = k
    · subst e
      rw [flL, List.getElem?_append_right (by rw [flL_len hc]; omega), flL_len hc, Nat.add_sub_cancel_left]
    · have h1 : i * sz + j < k * sz := by
        have := Nat.mul_le_mul_right sz (show i + 1 ≤ k by omega)
        rw [Nat.add_mul, Nat.one_mul] at this
        omega
      rw [flL, List.getElem?_append_left (by rw [flL_len hc]; exact h1)]
      exact flL_at hc k i (by omega) j hj
def smC (S : Nat → Wa.Sm) (i : Nat) : List Value := [.int .i64 (S i).fat, .int .i64 (S i).rate]
def tkC (T : Nat → Wa.Tk) (i : Nat) : List Value := [.int .i64 (T i).crew, .int .i64 (T i).seam, .int .i64 (T i).fl, .int .i64 (T i).fh, .int .i64 (T i).tl, .int .i64 (T i).th, .int .i64 (T i).dl, .int .i64 (T i).dh]
/-- What is due to a crew behind k seams. -/
def GN.dueN (g : GN) (rn : Nat) (rf : Nat → Nat) : Nat → Nat → Nat
  | 0, _ => 0
  | k + 1, c => g.dueN rn rf k c + if g.to k = c then g.fm k * rateF rn rf k else 0
theorem dueN_le {g : GN} {rn : Nat} {rf : Nat → Nat} {c : Nat} : ∀ {k : Nat}, (∀ n, n < k → g.fm n ≤ 20) → g.dueN rn rf k c ≤ 1000 * k
  | 0, _ => Nat.le_refl _
  | k + 1, h => by
    have h1 := dueN_le (g := g) (rn := rn) (rf := rf) (c := c) (k := k) (fun n hn => h n (by omega))
    have h2 : g.fm k * rateF rn rf k ≤ 20 * 50 := Nat.mul_le_mul (h k (by omega)) (rate_le rn rf k)
    unfold GN.dueN
    split <;> omega
theorem dueN_upd {g : GN} {rn : Nat} {rf : Nat → Nat} {k : Nat} : updN (g.dueN rn rf k) (g.to k) (g.dueN rn rf k (g.to k) + g.fm k * rateF rn rf k) = g.dueN rn rf (k + 1) := by
  funext c
  unfold updN
  rw [GN.dueN]
  by_cases e : c = g.to k
  · subst e; rw [if_pos rfl, if_pos rfl]
  · rw [if_neg e, if_neg (fun h => e h.symm), Nat.add_zero]
/-- What lies behind the deal. -/
structure EZ (g : GN) (a : GA) (w : World) (oa rr : Option Addr) (rn : Nat) (rf : Nat → Nat) (ss : Option Addr) (shn : Nat) (shf : Nat → Nat) (W : World) : Prop where
  oi : OI g a w W
  dl : IntsAt W oa g.sn (fun i => ((g.to i : Nat) : Int))
  ra : Row W rr rn 1 (fun i _ => .int .u8 (rf i : Nat))
  sh : Row W ss shn 1 (fun i _ => .int .u8 (shf i : Nat))
theorem EZ.grow {g : GN} {a : GA} {w : World} {oa rr : Option Addr} {rn : Nat} {rf : Nat → Nat} {ss : Option Addr} {shn : Nat} {shf : Nat → Nat} {A B : World} (h : EZ g a w oa rr rn rf ss shn shf A) (hb : Below A.heap.size A B) : EZ g a w oa rr rn rf ss shn shf B :=
  ⟨h.oi.grow hb, h.dl.grow hb, Row.grow h.ra hb, Row.grow h.sh hb⟩
/-- What the first loop keeps. -/
structure E1 (g : GN) (rn : Nat) (rf : Nat → Nat) (w3 : World) (B k tn : Nat) (due : Nat → Nat) (vs vt : Value) (W : World) : Prop where
  bel : Below B w3 W
  wb : BoxAt W B #[.int .i64 g.cn, vs, vt] 39
  db : BoxAt W (B + 1) (hotC g.cn due) 3
  os : W.ownsRow (B + 2) 43 2 vs k (flL (smC (g.wS rn rf)) k)
  ot : W.ownsRow (B + 2) 53 8 vt tn (flL (tkC g.wT) tn)
  sz : B + 2 ≤ W.heap.size
theorem E1.grow {g : GN} {rn : Nat} {rf : Nat → Nat} {w3 : World} {B k tn : Nat} {due : Nat → Nat} {vs vt : Value} {A D : World} (h : E1 g rn rf w3 B k tn due vs vt A) (hd : Below A.heap.size A D) : E1 g rn rf w3 B k tn due vs vt D :=
  ⟨h.bel.trans (hd.mono (by have := h.sz; omega)), h.wb.grow hd, h.db.grow hd, own_grow h.os hd, own_grow h.ot hd, Nat.le_trans h.sz hd.size⟩
theorem i64_nat (a : Nat) (ha : a < 2147483648) : (BitVec.ofInt 64 (a : Int)).toNat = a := by
  rw [BitVec.ofInt_natCast, BitVec.toNat_ofNat]
  exact Nat.mod_eq_of_lt (by omega)
theorem i64_or (a b : Nat) (ha : a < 2147483648) (hb : b < 2147483648) : bits .or .i64 (a : Int) (b : Int) = ((a ||| b : Nat) : Int) := by
  have hx : a ||| b < 2 ^ 31 := Nat.or_lt_two_pow (by omega) (by omega)
  show IntKind.i64.wrap ((BitVec.ofInt 64 (a : Int) ||| BitVec.ofInt 64 (b : Int)).toNat : Int) = _
  rw [BitVec.toNat_or, i64_nat a ha, i64_nat b hb]
  exact IntWalk.i64_in _ (by omega)
theorem own_kept {W W' : World} {b sz n : Nat} {e e' : TypeId} {v : Value} {xs : List Value} {row : Option Nat} (h : W.ownsRow b e sz v n xs) (hg : W.grownBy W' row) (hr : ∀ j, row = some j → ∃ cur, BoxAt W j cur e') (he : e ≠ e') : W'.ownsRow b e sz v n xs := by
  obtain ⟨hl, h | ⟨g, cap, cur, hv, hbg, hg', h3⟩⟩ := h
  · exact ⟨hl, .inl h⟩
  · exact ⟨hl, .inr ⟨g, cap, cur, hv, hbg, BoxAt.kept (show BoxAt W g cur e from hg') hg (fun h => by
      obtain ⟨cur', hc⟩ := hr g h.symm
      exact boxes_ne (show BoxAt W g cur e from hg') hc he rfl), h3⟩⟩
theorem own_at {W : World} {b sz n : Nat} {e : TypeId} {v : Value} {xs : List Value} (h : W.ownsRow b e sz v n xs) : ∀ j, v.ownBlock = some j → ∃ cur, BoxAt W j cur e := fun j hj => by
  obtain ⟨-, h | ⟨g, cap, cur, rfl, -, hg', -⟩⟩ := h
  · rw [h.1] at hj; cases hj
  · cases hj; exact ⟨cur, hg'⟩
theorem own_slice {W : World} {b sz n : Nat} {e : TypeId} {v : Value} {xs : List Value} (h : W.ownsRow b e sz v n xs) : ∃ oa cap, v = .slice oa n cap := by
  obtain ⟨-, ⟨rfl, rfl⟩ | ⟨g, cap, cur, rfl, -⟩⟩ := h
  · exact ⟨none, 0, rfl⟩
  · exact ⟨_, cap, rfl⟩
/-- One seam more. -/
theorem E1.seam {g : GN} {rn : Nat} {rf : Nat → Nat} {w3 : World} {B k tn : Nat} {due : Nat → Nat} {vs vt v' : Value} {W W3 : World} (h : E1 g rn rf w3 B k tn due vs vt W) (hg : W.grownBy W3 vs.ownBlock) (ho : W3.ownsRow (B + 2) 43 2 v' (k + 1) (flL (smC (g.wS rn rf)) (k + 1))) :
    E1 g rn rf w3 B (k + 1) tn due v' vt (W3.setCell ⟨B, 1, none⟩ v') := by
  have hlt := own_lt h.os
  have hsz := h.sz
  have hne : ∀ i, i < B + 2 → (some i : Option Nat) ≠ vs.ownBlock := fun i hi e => by have := (hlt i e.symm).1; omega
  exact ⟨(h.bel.grown hg (by omega) fun j e => by have := (hlt j e).1; omega).setCell (p := ⟨B, 1, none⟩) (Nat.le_refl _) v', (h.wb.kept hg (hne B (by omega))).store 1 v', (h.db.kept hg (hne (B + 1) (by omega))).set _ _ (by show B ≠ B + 1; omega), own_set ho _ _ (by show B < B + 2; omega), own_set (own_kept h.ot hg (own_at h.os) (by decide)) _ _ (by show B < B + 2; omega), by rw [size_setCell]; exact Nat.le_trans hsz hg.size⟩
/-- One ticket more. -/
theorem E1.ticket {g : GN} {rn : Nat} {rf : Nat → Nat} {w3 : World} {B k tn : Nat} {due : Nat → Nat} {vs vt v' : Value} {W W3 : World} (h : E1 g rn rf w3 B k tn due vs vt W) (hg : W.grownBy W3 vt.ownBlock) (ho : W3.ownsRow (B + 2) 53 8 v' (tn + 1) (flL (tkC g.wT) (tn + 1))) :
    E1 g rn rf w3 B k (tn + 1) due vs v' (W3.setCell ⟨B, 2, none⟩ v') := by
  have hlt := own_lt h.ot
  have hsz := h.sz
  have hne : ∀ i, i < B + 2 → (some i : Option Nat) ≠ vt.ownBlock := fun i hi e => by have := (hlt i e.symm).1; omega
  exact ⟨(h.bel.grown hg (by omega) fun j e => by have := (hlt j e).1; omega).setCell (p := ⟨B, 2, none⟩) (Nat.le_refl _) v', (h.wb.kept hg (hne B (by omega))).store 2 v', (h.db.kept hg (hne (B + 1) (by omega))).set _ _ (by show B ≠ B + 1; omega), own_set (own_kept h.os hg (own_at h.ot) (by decide)) _ _ (by show B < B + 2; omega), own_set ho _ _ (by show B < B + 2; omega), by rw [size_setCell]; exact Nat.le_trans hsz hg.size⟩
/-- What is due is put up. -/
theorem E1.put {g : GN} {rn : Nat} {rf : Nat → Nat} {w3 : World} {B k tn : Nat} {due : Nat → Nat} {vs vt : Value} {W : World} (h : E1 g rn rf w3 B k tn due vs vt W) (c v : Nat) : E1 g rn rf w3 B k tn (updN due c v) vs vt (W.setCell ⟨B + 1, c, none⟩ (.int .i64 v)) := by
  have hdb := h.db.store c (.int .i64 v)
  rw [hotC_set] at hdb
  exact ⟨h.bel.setCell (p := ⟨B + 1, c, none⟩) (by show B ≤ B + 1; omega) _, h.wb.set _ _ (by show B + 1 ≠ B; omega), hdb, own_set h.os _ _ (by show B + 1 < B + 2; omega), own_set h.ot _ _ (by show B + 1 < B + 2; omega), by rw [size_setCell]; exact h.sz⟩
theorem E1.wseam {g : GN} {rn : Nat} {rf : Nat → Nat} {w3 : World} {B k tn : Nat} {due : Nat → Nat} {vs vt : Value} {W W3 : World} (h : E1 g rn rf w3 B k tn due vs vt W) (hg : W.grownBy W3 vs.ownBlock) : BoxAt W3 B #[.int .i64 g.cn, vs, vt] 39 :=
  h.wb.kept hg fun e => by have := (own_lt h.os B e.symm).1; omega
theorem E1.wticket {g : GN} {rn : Nat} {rf : Nat → Nat} {w3 : World} {B k tn : Nat} {due : Nat → Nat} {vs vt : Value} {W W3 : World} (h : E1 g rn rf w3 B k tn due vs vt W) (hg : W.grownBy W3 vt.ownBlock) : BoxAt W3 B #[.int .i64 g.cn, vs, vt] 39 :=
  h.wb.kept hg fun e => by have := (own_lt h.ot B e.symm).1; omega
/-- A box of another type stays. -/
theorem BoxAt.beside {W W' : World} {sz n base x : Nat} {e t : TypeId} {v : Value} {xs : List Value} {cs : Array Value} (hx : BoxAt W x cs t) (h : W.ownsRow base e sz v n xs) (hg : W.grownBy W' v.ownBlock) (he : t ≠ e) : BoxAt W' x cs t :=
  hx.kept hg fun h2 => by
    obtain ⟨cur, hc⟩ := own_at h x h2.symm
    exact boxes_ne hx hc he rfl
theorem info_ws : (Tryz.prog.info? 43).map (fun i => (i.zero, i.size, i.bytes)) = some (some (.agg #[.int .i64 0, .int .i64 0]), 2, 16) := by kernel_rfl
theorem info_wt : (Tryz.prog.info? 53).map (fun i => (i.zero, i.size, i.bytes)) = some (some (.agg #[.int .i64 0, .int .i64 0, .int .i64 0, .int .i64 0, .int .i64 0, .int .i64 0, .int .i64 0, .int .i64 0]), 8, 64) := by kernel_rfl
theorem step_appTk {ops : Array Oper} {o : Oper} {a : Act} {w : World} {K : Act → World → Prop} {Q : Exit → Act → World → Prop} {X : Prop} (hgd : o.guard = none) (s x : Operand)
    (ho : o.op = .call { callee := .builtin .append, args := #[s, x], argTypes := #[37, 37] }) {base n : Nat} {v : Value} {xs : List Value} (hs : a.eval s = v) (hown : w.ownsRow base 53 8 v n xs)
    {b : Nat} {us : List Value} (hl : us.length = 8) (h1 : ∀ u ∈ us, u.oneCell' = true) (hx : a.eval x = .slice (some ⟨b, 0, none⟩) 1 1) (hu : BoxAt w b us.toArray 53)
    (hlim : n ≤ 1000000) (hbase : base ≤ w.heap.size)
    (h : ∀ g cap w', w'.ownsRow base 53 8 (.slice (some ⟨g, 0, none⟩) (n + 1) cap) (n + 1) (xs ++ us) → w.grownBy w' v.ownBlock → (v.ownBlock = some g ∨ g = w.heap.size) → K (a.put o.dst (.slice (some ⟨g, 0, none⟩) (n + 1) cap)) w') :
    if Region.wanted o (yielded ops a.tmps) = true then Oper.wp Tryz.prog o a w K Q else X := by
  obtain ⟨i, hi, hz, hsz, hby⟩ := info_parts info_wt
  refine step_append_lies (w := w) hgd s x 37 ho base 53 i _ 8 64 Tryz.underlying37 hi hz hsz hby rfl (by decide) v n xs hs hown ⟨b, 0, none⟩ 1 1 us hx (by rw [hl]) ?_ h1 (by decide) (by unfold maxLen; omega) (by omega) hbase _ rfl
    fun g cap w' h2 h3 h4 _ => h g cap w' h2 h3 h4
  intro j y hy
  refine (show w.cell? (Addr.add ⟨b, 0, none⟩ j) = w.cell? ⟨b, j, none⟩ from by rw [Addr.add_lit, Nat.zero_add]).trans ((cellAt hu j).trans ?_)
  rw [List.getElem?_toArray]
  exact hy
theorem due_mul {f r : Nat} (hf : f ≤ 20) (hr : r ≤ 50) : IntKind.i64.wrap ((f : Int) * (r : Int)) = (f : Int) * (r : Int) ∧ wrap64 ((f : Int) * (r : Int)) = (f : Int) * (r : Int) := by
  have h : f * r ≤ 20 * 50 := Nat.mul_le_mul hf hr
  rw [← Int.natCast_mul]
  generalize f * r = p at *
  exact ⟨by rw [IntKind.wrap_i64]; omega, w64 (by omega)⟩
theorem due_add {d f r : Nat} (hd : d ≤ 3000) (hf : f ≤ 20) (hr : r ≤ 50) : IntKind.i64.wrap ((d : Int) + (f : Int) * (r : Int)) = ((d + f * r : Nat) : Int) ∧ wrap64 ((d : Int) + (f : Int) * (r : Int)) = ((d + f * r : Nat) : Int) := by
  have h : f * r ≤ 20 * 50 := Nat.mul_le_mul hf hr
  rw [← Int.natCast_mul, ← Int.natCast_add]
  generalize f * r = p at *
  exact ⟨by rw [IntKind.wrap_i64]; omega, w64 (by omega)⟩
theorem row_new {W W' : World} {oa : Option Addr} {n sz n9 : Nat} {cell : Nat → Nat → Value} {row : Option Nat} (h : Row W oa n sz cell) (hn : 0 < n → n9 ≤ blk oa) (hg : W.grownBy W' row) (hr : ∀ j, row = some j → j < n9) : Row W' oa n sz cell :=
  Row.keep h (Keep.grown (C := fun i => n9 ≤ i ∧ i < W.heap.size) (Keep.refl _ _) hg (fun k e hC => by have := hr k e; omega) (fun _ hC => hC.2)) fun h0 => ⟨hn h0, h.old h0⟩
theorem row_low {W : World} {oa : Option Addr} {n sz n9 x i : Nat} {v : Value} {cell : Nat → Nat → Value} (h : Row W oa n sz cell) (hn : 0 < n → n9 ≤ blk oa) (hx : x < n9) : Row (W.setCell ⟨x, i, none⟩ v) oa n sz cell :=
  Row.keep h (Keep.set (C := fun i => n9 ≤ i) (Keep.refl _ _) x i v (by omega)) fun h0 => hn h0
theorem size_u8 : (Tryz.prog.info? 5).map (·.size) = some 1 := by kernel_rfl
theorem flL_congr {c d : Nat → List Value} : ∀ {n : Nat}, (∀ i, i < n → c i = d i) → flL c n = flL d n
  | 0, _ => rfl
  | n + 1, h => by rw [flL, flL, flL_congr (fun i hi => h i (by omega)), h n (Nat.lt_succ_self _)]
/-- What the loop of late tickets keeps. -/
structure E2 (g : GN) (rn : Nat) (rf : Nat → Nat) (ot : Nat) (w3 : World) (B x tn : Nat) (so : Option Addr) (so2 : Nat) (ta : Option Addr) (ta2 : Nat) (vt : Value) (W : World) : Prop where
  e1 : E1 g rn rf w3 B g.sn g.sn (g.dueN rn rf g.sn) (.slice so g.sn so2) (.slice ta g.sn ta2) W
  lb : BoxAt W x #[.int .i64 g.cn, .slice so g.sn so2, vt] 39
  lt : W.ownsRow (x + 1) 53 8 vt tn (flL (tkC (g.wU ot)) tn)
  lo : ∀ j, (Value.slice ta g.sn ta2).ownBlock = some j → j < x
  bx : B + 2 ≤ x
  sz : x + 1 ≤ W.heap.size
theorem E2.grow {g : GN} {rn : Nat} {rf : Nat → Nat} {ot : Nat} {w3 : World} {B x tn : Nat} {so : Option Addr} {so2 : Nat} {ta : Option Addr} {ta2 : Nat} {vt : Value} {A D : World} (h : E2 g rn rf ot w3 B x tn so so2 ta ta2 vt A) (hd : Below A.heap.size A D) : E2 g rn rf ot w3 B x tn so so2 ta ta2 vt D :=
  ⟨h.e1.grow hd, h.lb.grow hd, own_grow h.lt hd, h.lo, h.bx, Nat.le_trans h.sz hd.size⟩
theorem E2.wlate {g : GN} {rn : Nat} {rf : Nat → Nat} {ot : Nat} {w3 : World} {B x tn : Nat} {so : Option Addr} {so2 : Nat} {ta : Option Addr} {ta2 : Nat} {vt : Value} {W W3 : World} (h : E2 g rn rf ot w3 B x tn so so2 ta ta2 vt W) (hg : W.grownBy W3 vt.ownBlock) : BoxAt W3 x #[.int .i64 g.cn, .slice so g.sn so2, vt] 39 :=
  h.lb.kept hg fun e => by have := (own_lt h.lt x e.symm).1; omega
theorem own_other {W W' : World} {b sz n : Nat} {e : TypeId} {v : Value} {xs : List Value} {row : Option Nat} (h : W.ownsRow b e sz v n xs) (hg : W.grownBy W' row) (hr : ∀ j, v.ownBlock = some j → row ≠ some j) : W'.ownsRow b e sz v n xs := by
  obtain ⟨hl, h | ⟨g, cap, cur, rfl, hbg, hg', h3⟩⟩ := h
  · exact ⟨hl, .inl h⟩
  · exact ⟨hl, .inr ⟨g, cap, cur, rfl, hbg, BoxAt.kept (show BoxAt W g cur e from hg') hg (fun h => hr g rfl h.symm), h3⟩⟩
/-- The first wages beside what is written of the late ones. -/
theorem E1.beside {g : GN} {rn : Nat} {rf : Nat → Nat} {w3 : World} {B k tn x : Nat} {due : Nat → Nat} {vs vt : Value} {cs : Array Value} {W W3 : World} {row : Option Nat} {i : Nat} {v' : Value} (h : E1 g rn rf w3 B k tn due vs vt W) (hg : W.grownBy W3 row)
    (hr : ∀ j, row = some j → x < j ∧ ∃ cur, BoxAt W j cur 53) (hlo : ∀ j, vt.ownBlock = some j → j < x) (hx : B + 2 ≤ x) (hX : BoxAt W3 x cs 39) : E1 g rn rf w3 B k tn due vs vt (W3.setCell ⟨x, i, none⟩ v') := by
  have hne : ∀ q, q < B + 2 → (some q : Option Nat) ≠ row := fun q hq e => by have := (hr q e.symm).1; omega
  have hsz := h.sz
  refine ⟨(h.bel.grown hg (by omega) fun j e => by have := (hr j e).1; omega).setCell (p := ⟨x, i, none⟩) (by show B ≤ x; omega) v', (h.wb.kept hg (hne B (by omega))).set _ _ (by show x ≠ B; omega), (h.db.kept hg (hne (B + 1) (by omega))).set _ _ (by show x ≠ B + 1; omega), ?_, ?_, by rw [size_setCell]; exact Nat.le_trans hsz hg.size⟩
  · exact own_state (own_kept h.os hg (fun j e => (hr j e).2) (by decide)) hX (by decide)
  · exact own_state (own_other h.ot hg (fun j hj e => by have := (hr j e).1; have := hlo j hj; omega)) hX (by decide)
theorem E2.late {g : GN} {rn : Nat} {rf : Nat → Nat} {ot : Nat} {w3 : World} {B x tn : Nat} {so : Option Addr} {so2 : Nat} {ta : Option Addr} {ta2 : Nat} {vt v' : Value} {W W3 : World} (h : E2 g rn rf ot w3 B x tn so so2 ta ta2 vt W) (hg : W.grownBy W3 vt.ownBlock)
    (ho : W3.ownsRow (x + 1) 53 8 v' (tn + 1) (flL (tkC (g.wU ot)) (tn + 1))) : E2 g rn rf ot w3 B x (tn + 1) so so2 ta ta2 v' (W3.setCell ⟨x, 2, none⟩ v') :=
  ⟨h.e1.beside hg (fun j e => ⟨by have := (own_lt h.lt j e).1; omega, own_at h.lt j e⟩) h.lo h.bx (h.wlate hg), (h.wlate hg).store 2 v', own_set ho _ _ (by show x < x + 1; omega), h.lo, h.bx, by rw [size_setCell]; exact Nat.le_trans h.sz hg.size⟩
theorem E1.start {g : GN} {rn : Nat} {rf : Nat → Nat} (ot : Nat) {w3 : World} {B x : Nat} {so : Option Addr} {so2 : Nat} {ta : Option Addr} {ta2 : Nat} {vt v' : Value} {W W3 : World} {row : Option Nat} (h : E1 g rn rf w3 B g.sn g.sn (g.dueN rn rf g.sn) (.slice so g.sn so2) (.slice ta g.sn ta2) W)
    (hX : BoxAt W x #[.int .i64 g.cn, .slice so g.sn so2, vt] 39) (hg : W.grownBy W3 row) (hr : ∀ j, row = some j → x < j ∧ ∃ cur, BoxAt W j cur 53) (hlo : ∀ j, (Value.slice ta g.sn ta2).ownBlock = some j → j < x) (hx : B + 2 ≤ x) (hsz : x + 1 ≤ W.heap.size)
    (ho : W3.ownsRow (x + 1) 53 8 v' g.sn (flL (tkC g.wT) g.sn)) : E2 g rn rf ot w3 B x g.sn so so2 ta ta2 v' (W3.setCell ⟨x, 2, none⟩ v') := by
  have hX3 := hX.kept hg fun e => by have := (hr x e.symm).1; omega
  rw [flL_congr (n := g.sn) (c := tkC g.wT) (d := tkC (g.wU ot)) (fun i hi => by unfold tkC; rw [show g.wU ot i = g.wT i from if_pos hi])] at ho
  exact ⟨h.beside hg hr hlo hx hX3, hX3.store 2 v', own_set ho _ _ (by show x < x + 1; omega), hlo, hx, by rw [size_setCell]; exact Nat.le_trans hsz hg.size⟩
theorem flL_one {c : Nat → List Value} (hc : ∀ i, ∀ u ∈ c i, u.oneCell' = true) : ∀ n, ∀ u ∈ flL c n, u.oneCell' = true
  | 0, u, hu => by cases hu
  | n + 1, u, hu => by
    rw [flL] at hu
    rcases List.mem_append.1 hu with hu | hu
    · exact flL_one hc n u hu
    · exact hc n u hu
theorem tkC_one (T : Nat → Wa.Tk) (i : Nat) : ∀ u ∈ tkC T i, u.oneCell' = true := by
  intro u hu
  simp only [tkC, List.mem_cons, List.mem_nil_iff, or_false] at hu
  rcases hu with rfl | rfl | rfl | rfl | rfl | rfl | rfl | rfl <;> rfl
theorem own_empty {W : World} {base : Nat} (h : base ≤ W.heap.size) : (W.alloc (.cells #[] 53)).ownsRow base 53 8 (.slice (some ⟨W.heap.size, 0, none⟩) 0 0) 0 [] :=
  ⟨rfl, .inr ⟨W.heap.size, 0, #[], rfl, h, heap_alloc_new _ _, Nat.le_refl _, Nat.zero_le _, rfl, rfl⟩⟩
theorem size_ws : (Tryz.prog.info? 43).map (·.size) = some 2 := by kernel_rfl
/-- What stands behind all that is written: whatever follows only lays blocks. -/
structure E3 (g : GN) (rn : Nat) (rf : Nat → Nat) (ot : Nat) (w : World) (B x : Nat) (so : Option Addr) (so2 : Nat) (ta : Option Addr) (ta2 : Nat) (tb : Option Addr) (tb2 : Nat) (sa : Option Addr) (sn : Nat) (sf : Nat → Nat) (W : World) : Prop where
  bel : Below w.heap.size w W
  db : BoxAt W (B + 1) (hotC g.cn (g.dueN rn rf g.sn)) 3
  ss : Row W so g.sn 2 (fun i j => (g.wS rn rf i).cell j)
  t1 : Row W ta g.sn 8 (fun i j => (g.wT i).cell j)
  t2 : Row W tb (g.sn + g.sn) 8 (fun i j => (g.wU ot i).cell j)
  sh : Row W sa sn 1 (fun i _ => .int .u8 (sf i : Nat))
  ab : BoxAt W x #[.int .i64 g.cn, .slice so g.sn so2, .slice ta g.sn ta2, .int .i64 g.cn, .slice so g.sn so2, .slice tb (g.sn + g.sn) tb2] 39
theorem E3.grow {g : GN} {rn : Nat} {rf : Nat → Nat} {ot : Nat} {w : World} {B x : Nat} {so : Option Addr} {so2 : Nat} {ta : Option Addr} {ta2 : Nat} {tb : Option Addr} {tb2 : Nat} {sa : Option Addr} {sn : Nat} {sf : Nat → Nat} {A D : World} (h : E3 g rn rf ot w B x so so2 ta ta2 tb tb2 sa sn sf A) (hd : Below A.heap.size A D) : E3 g rn rf ot w B x so so2 ta ta2 tb tb2 sa sn sf D :=
  ⟨h.bel.next hd, h.db.grow hd, Row.grow h.ss hd, Row.grow h.t1 hd, Row.grow h.t2 hd, Row.grow h.sh hd, h.ab.grow hd⟩
theorem sm_row {W : World} {b n : Nat} {oa : Option Addr} {cap : Nat} {S : Nat → Wa.Sm} (h : W.ownsRow b 43 2 (.slice oa n cap) n (flL (smC S) n)) (hn : n ≤ maxLen) : Row W oa n 2 (fun i j => (S i).cell j) := by
  obtain ⟨o9, c9, hv9, h9, -⟩ := own_row (cell := fun i j => (S i).cell j) h hn (fun i hi j hj => by
    rw [flL_at (sz := 2) (fun _ => rfl) n i hi j hj]
    match j, hj with
    | 0, _ => rfl
    | 1, _ => rfl)
  cases hv9
  exact h9
theorem tk_row {W : World} {b n : Nat} {oa : Option Addr} {cap : Nat} {T : Nat → Wa.Tk} (h : W.ownsRow b 53 8 (.slice oa n cap) n (flL (tkC T) n)) (hn : n ≤ maxLen) : Row W oa n 8 (fun i j => (T i).cell j) := by
  obtain ⟨o9, c9, hv9, h9, -⟩ := own_row (cell := fun i j => (T i).cell j) h hn (fun i hi j hj => by
    rw [flL_at (sz := 8) (fun _ => rfl) n i hi j hj]
    match j, hj with
    | 0, _ => rfl
    | 1, _ => rfl
    | 2, _ => rfl
    | 3, _ => rfl
    | 4, _ => rfl
    | 5, _ => rfl
    | 6, _ => rfl
    | 7, _ => rfl)
  cases hv9
  exact h9
/-- What is due, as the wages say it. -/
theorem due_sum (g : GN) (rn : Nat) (rf : Nat → Nat) (c : Nat) : ∀ k, Wa.sumF (Wa.dueF (g.wS rn rf) g.to (c : Nat)) k = ((g.dueN rn rf k c : Nat) : Int)
  | 0 => rfl
  | k + 1 => by
    rw [Wa.sumF, due_sum g rn rf c k, GN.dueN]
    unfold Wa.dueF GN.wS
    dsimp only
    by_cases e : g.to k = c
    · rw [if_pos e, if_pos (by rw [e]), Int.natCast_add, Int.natCast_mul]
    · rw [if_neg e, if_neg (by omega), Nat.add_zero, Int.add_zero]
theorem size_wg : (Tryz.prog.info? 39).map (·.size) = some 3 := by kernel_rfl
/-- With the wages that are asked. -/
structure E4 (g : GN) (rn : Nat) (rf : Nat → Nat) (ot : Nat) (w : World) (B x x31 : Nat) (so : Option Addr) (so2 : Nat) (ta : Option Addr) (ta2 : Nat) (tb : Option Addr) (tb2 : Nat) (tx : Option Addr) (tn tx2 : Nat) (T : Nat → Wa.Tk) (sa : Option Addr) (sn : Nat) (sf : Nat → Nat) (W : World) : Prop where
  e3 : E3 g rn rf ot w B x so so2 ta ta2 tb tb2 sa sn sf W
  tt : Row W tx tn 8 (fun i j => (T i).cell j)
  xb : BoxAt W x31 #[.int .i64 g.cn, .slice so g.sn so2, .slice tx tn tx2] 39
theorem E4.grow {g : GN} {rn : Nat} {rf : Nat → Nat} {ot : Nat} {w : World} {B x x31 : Nat} {so : Option Addr} {so2 : Nat} {ta : Option Addr} {ta2 : Nat} {tb : Option Addr} {tb2 : Nat} {tx : Option Addr} {tn tx2 : Nat} {T : Nat → Wa.Tk} {sa : Option Addr} {sn : Nat} {sf : Nat → Nat} {A D : World} (h : E4 g rn rf ot w B x x31 so so2 ta ta2 tb tb2 tx tn tx2 T sa sn sf A) (hd : Below A.heap.size A D) : E4 g rn rf ot w B x x31 so so2 ta ta2 tb tb2 tx tn tx2 T sa sn sf D :=
  ⟨h.e3.grow hd, Row.grow h.tt hd, h.xb.grow hd⟩
/-- What is due to the first crews. -/
def GN.dueS (g : GN) (rn : Nat) (rf : Nat → Nat) : Nat → Nat
  | 0 => 0
  | c + 1 => g.dueS rn rf c + g.dueN rn rf g.sn c
end Go.Proofs.YtikeihnhkiipgaaGreat
