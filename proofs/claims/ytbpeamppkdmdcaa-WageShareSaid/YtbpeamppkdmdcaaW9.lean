/-
  Walks: the coins of a crew.
-/
import Derived.Test.YtbpeamppkdmdcaaW8
import Derived.Deep.AppendLies
namespace Go.Proofs.Ytbpeamppkdmdcaa
open Go.RowKit

def sumF (f : Nat → Int) : Nat → Int
  | 0 => 0
  | n + 1 => sumF f n + f n
theorem sumF_bd (f : Nat → Int) (m : Nat) (h : ∀ i, i < m → 0 ≤ f i ∧ f i ≤ 1000000) : ∀ n, n ≤ m → 0 ≤ sumF f n ∧ sumF f n ≤ 1000000 * n
  | 0, _ => by simp [sumF]
  | n + 1, hn => by
    have := sumF_bd f m h n (by omega)
    have := h n (by omega)
    simp only [sumF]
    omega
theorem sumF_congr {f g : Nat → Int} : ∀ n, (∀ i, i < n → f i = g i) → sumF f n = sumF g n
  | 0, _ => rfl
  | n + 1, h => by simp only [sumF]; rw [sumF_congr n (fun i hi => h i (by omega)), h n (by omega)]

set_option maxHeartbeats 400000 in
theorem sum_any (oa : Option Addr) (n cap : Nat) (f : Nat → Int) (w : World) (hl : IntsAt w oa n f) (hn : n ≤ 1000) (hf : ∀ i, i < n → 0 ≤ f i ∧ f i ≤ 1000000) :
    Calls Try.prog 99 #[.slice oa n cap] w fun e w' => e = .returned (.int .i64 (sumF f n)) ∧ w = w' := by
  have HL := Lib.hid hl
  have HF := Lib.hid (sumF_bd f n hf)
  have hfb := Lib.hid hf
  clear hl hf
  go_enter Try.func99, Try.ntmps99
  go_wp2_with fail
  go_loop [2, 7] (fun s i => ∃ k : Nat, k ≤ n ∧ i = .int .i64 k ∧ s = .int .i64 (sumF f k)) (fun _ i => n - (intOf i).toNat)
  case atStart => exact ⟨0, Nat.zero_le _, rfl, rfl⟩
  case round =>
    obtain ⟨k, hk, rfl, rfl⟩ := hrel
    obtain ⟨x1, x2⟩ := HF.out k hk
    by_cases hlt : k < n
    · have hi := fun w => run_indexAt_row (w := w) (cap := cap) Try.underlying37 size3 (HL.out.plain (by omega)) hlt
      have hc := HL.out.at hlt
      obtain ⟨y1, y2⟩ := hfb.out k hlt
      simp only [Nat.mul_one] at hi
      go_wp2_with fail
      exact ⟨⟨k + 1, hlt, by go_num, rfl⟩, by simp [intOf]; omega⟩
    · obtain rfl : k = n := by omega
      go_wp2_with fail
      go_ret
      exact ⟨rfl, rfl⟩

def rowVals (f : Nat → Int) (k : Nat) : List Value := (List.range k).map fun (i : Nat) => Value.int .i64 (f i)
theorem rowVals_succ (f : Nat → Int) (k : Nat) : rowVals f (k + 1) = rowVals f k ++ [.int .i64 (f k)] := by simp [rowVals, List.range_succ]
theorem rowVals_get (f : Nat → Int) (k i : Nat) (h : i < k) : (rowVals f k)[i]? = some (.int .i64 (f i)) := by simp [rowVals, h]

/-- A row of integers that the call has made, as a slice that may be nil. -/
theorem row_ints {w : World} {base n : Nat} {v : Value} {f : Nat → Int} (h : w.ownsRow base 3 1 v n (rowVals f n)) (hn : n ≤ maxLen) :
    ∃ oa cap, v = .slice oa n cap ∧ IntsAt w oa n f ∧ (0 < n → base ≤ blk oa) := by
  rcases h.2 with ⟨rfl, rfl⟩ | ⟨g, cap, cur, rfl, hb, hg, hle, hm, hs, ht⟩
  · exact ⟨none, 0, rfl, ⟨fun h => by omega, fun h => by omega, hn, fun i hi => by omega⟩, fun h => by omega⟩
  · refine ⟨some ⟨g, 0, none⟩, cap, rfl, ⟨fun _ => rfl, fun _ => lt_of_heap hg, hn, fun i hi j hj => ?_⟩, fun _ => hb⟩
    obtain rfl : j = 0 := by omega
    show w.cell? ⟨g, 0 + i * 1 + 0, none⟩ = _
    rw [cellAt hg]
    have h1 := rowVals_get f n i hi
    rw [← ht, List.getElem?_take] at h1
    split at h1
    · simpa using h1
    · cases h1

def coinF (G : Int → Int → Nat) (S : Nat → Sm) (c : Int) (i : Nat) : Int := (popc (G (i : Int) c) : Int) * (S i).rate

structure CoinInv (w : World) (B n : Nat) (G : Int → Int → Nat) (base : Nat) (wr : World) : Prop where
  map : MapAt wr B n G
  bel : Below w.heap.size w wr
  lo : w.heap.size ≤ base
  hB : B < base
  hi : base ≤ wr.heap.size
theorem CoinInv.grow {w : World} {B n : Nat} {G : Int → Int → Nat} {base : Nat} {wr wr' : World} (h : CoinInv w B n G base wr) (hb : Below wr.heap.size wr wr') : CoinInv w B n G base wr' :=
  ⟨h.map.grow hb, h.bel.trans (hb.mono (Nat.le_trans h.lo h.hi)), h.lo, h.hB, Nat.le_trans h.hi hb.size⟩
theorem CoinInv.row {w : World} {B n : Nat} {G : Int → Int → Nat} {base : Nat} {wr wr' : World} (h : CoinInv w B n G base wr) {row : Option Nat} (hg : wr.grownBy wr' row) (hr : ∀ k, row = some k → base ≤ k) : CoinInv w B n G base wr' :=
  ⟨h.map.kept hg (fun e => by have := hr B e.symm; have := h.hB; omega), h.bel.grown hg (Nat.le_trans h.lo h.hi) (fun k e => Nat.le_trans h.lo (hr k e)), h.lo, h.hB, Nat.le_trans h.hi hg.size⟩

def CoinR (w : World) (B n : Nat) (G : Int → Int → Nat) (S : Nat → Sm) (c : Int) (sn base : Nat) (v i : Value) (wr : World) : Prop :=
  ∃ k : Nat, k ≤ sn ∧ i = .int .i64 k ∧ wr.ownsRow base 3 1 v k (rowVals (coinF G S c) k) ∧ CoinInv w B n G base wr

theorem coin_bd {G : Int → Int → Nat} {S : Nat → Sm} {c : Int} {i : Nat} (h : 0 ≤ (S i).rate ∧ (S i).rate ≤ 50) : 0 ≤ coinF G S c i ∧ coinF G S c i ≤ 1000 := by
  unfold coinF
  have h1 := popc_le (G i c)
  have h2 : (0 : Int) ≤ (popc (G i c) : Int) := by omega
  have h3 : (popc (G i c) : Int) ≤ 20 := by omega
  exact ⟨Int.mul_nonneg h2 h.1, Int.le_trans (Int.mul_le_mul h3 h.2 h.1 (by omega)) (by decide)⟩

theorem i64_mul_in {a b : Int} (h : 0 ≤ a * b ∧ a * b ≤ 1000) : IntKind.i64.wrap (a * b) = a * b := IntWalk.i64_in _ ⟨by omega, by omega⟩
theorem own_drewN {w : World} {base n : Nat} {e : TypeId} {sz : Nat} {v : Value} {xs : List Value} (h : w.ownsRow base e sz v n xs) (m : Nat) : (w.drewN m).ownsRow base e sz v n xs := h

set_option maxRecDepth 100000 in
set_option maxHeartbeats 1000000 in
theorem coins_any (cr : Int) (sa ta : Option Addr) (sn sc tn tc : Nat) (S : Nat → Sm) (T : Nat → Tk) (K : Nat → Kn) (w : World) (hS : SeamsAt w sa sn S) (hT : TicketsAt w ta tn T) (hv : Valid cr sn tn S T) (hK : ∀ i, i < tn → KnOk (K i))
    (ty : TypeId) (v : Value) (fn : FuncId) (htr : Truth w ty v fn tn T K) (c : Int) (c0 : -1 ≤ c) (c1 : c ≤ 3) :
    Calls Try.prog 70 #[.agg #[.int .i64 cr, .slice sa sn sc, .slice ta tn tc], .int .i64 c, .iface ty v] w
      fun e w' => e = .returned (.int .i64 (sumF (fun s => (manyOf S T K tn s c : Int) * (S s).rate) sn)) ∧ Below w.heap.size w w' := by
  have C := fun W (hb : Below w.heap.size w W) (hW : w.heap.size ≤ W.heap.size) => owned_any cr sa ta sn sc tn tc S T K W (hS.grow hb) (hT.grow hb) hv.sn3 hv.tn6 hv.fat hv.tkOk hK ty v fn ⟨htr.meth, htr.enter, fun i hi W' hb' => htr.call i hi W' (hb.trans (hb'.mono hW))⟩
  have HC := Lib.hid C
  have HV := Lib.hid hv
  have HS := Lib.hid hS
  have hcnt := Lib.hid (fun g hp (s : Nat) (hs : s < sn) => foldG_count (g := g) (s := s) hv.fat hv.sn3 hv.tkOk hK hp (by omega) (by omega) c c0)
  have hsm := Lib.hid (fun g => SmallG.fold S sn T K g hv.fat tn)
  have sn3 := hv.sn3
  clear C hS hT hv htr hK
  go_enter Try.func70, Try.ntmps70
  go_wp2_with fail
  refine (HC.out _ ((Below.refl _ _).alloc (Nat.le_refl _) _) (by simp)).mono ?_
  rintro e w1 ⟨B, n, G, rfl, hm, hb, hB, g, hp, hG⟩
  have hbx := Lib.hid (show w1.heap[w.heap.size]? = some (.cells #[.int .i64 cr, .slice sa sn sc, .slice ta tn tc] 77 (0, 0)) from (hb.block _ (by simp)).trans (by rw [heapAlloc, if_pos rfl]))
  have HI := Lib.hid (show CoinInv w B n G w1.heap.size w1 from ⟨hm, ((Below.refl _ _).alloc (Nat.le_refl _) _).trans (hb.mono (by simp)), by have := hb.size; simp at this; omega, hm.lt, Nat.le_refl _⟩)
  have HE := Lib.hid (hcnt.out g hp)
  have hlt := Lib.hid (hsm.out g)
  rw [← hG] at HE hlt
  have b1 := cellAt hbx.out 1
  simp only [List.getElem?_toArray, List.getElem?_cons_zero, List.getElem?_cons_succ] at b1
  clear hm hb hB hp hG hcnt hsm
  go_wp2_with fail
  go_loopw [7, 18] (CoinR w B n G S c sn w1.heap.size) (fun _ i _ => sn - (intOf i).toNat)
  case atStart => exact ⟨0, Nat.zero_le _, rfl, World.ownsRow_nil _ _ _ _, HI.out⟩
  case round =>
    clear HI b1
    obtain ⟨k, hk, rfl, hown, hinv⟩ := hrel
    have HI := Lib.hid hinv
    have HO := Lib.hid hown
    clear hinv hown
    by_cases hlt' : k < sn
    · have hi := fun w => run_indexAt_row (w := w) (cap := sc) Try.underlying22 size52 (HS.out.plain (by omega)) hlt'
      obtain ⟨g0, g1⟩ := (HS.out.grow HI.out.bel).at hlt'
      go_wp2_with fail
      generalize hW : World.alloc _ _ = W1
      obtain ⟨q0, hz, hB1⟩ := blocks1 hW
      have HO1 : Hid (W1.ownsRow w1.heap.size 3 1 u7 k (rowVals (coinF G S c) k)) := by rw [← hW]; exact HO.out.alloc _
      have HI1 := Lib.hid (HI.out.grow hB1)
      have HBX := Lib.hid (show BoxAt W1 wr.heap.size #[.int .i64 (S k).fat, .int .i64 (S k).rate] 52 from q0)
      have hmul := i64_mul_in (a := ((popc (G k c) : Nat) : Int)) (b := (S k).rate) (coin_bd (G := G) (c := c) (HV.out.rate k hlt'))
      have hd : pdom (k : Int) c := ⟨by omega, by omega, c0, c1⟩
      have hlo := HI.out.hi
      have hl := hlt.out k c
      obtain ⟨i0, hi0, hz0, hz1, hz2⟩ := info_parts info3
      have nb : some wr.heap.size ≠ u7.ownBlock := fun e => by have := (HO.out.lt _ e.symm).2; omega
      have nB : some B ≠ u7.ownBlock := own_ne HO.out HI.out.hB
      have HA := Lib.hid (fun m o => (below_drewN (Below.refl W1.heap.size W1) m).alloc (Nat.le_refl _) o)
      have hz' : w1.heap.size ≤ W1.heap.size := by omega
      have HZ := Lib.hid hz
      clear hW q0 hi g0 g1 HO HI hB1 hz
      go_region_held3 (fun w' => w'.cell? ⟨wr.heap.size, 1, none⟩ = some (.int .i64 (S k).rate) ∧ (Instr.lookup 96 (.map (some B)) (.agg #[.int .i64 k, .int .i64 c]) false).run Try.prog w' = .ok (.int .u32 (G k c)) w')
        (first | exact ⟨cellAt HBX.out 1, MapAt.look (MapAt.drew HI1.out.map) hd⟩ | exact ⟨cellAt HBX.out 1, MapAt.look (MapAt.drewN HI1.out.map _) hd⟩ | exact ⟨cellAt (HBX.out.grow (HA.out _ _)) 1, MapAt.look (HI1.out.map.grow (HA.out _ _)) hd⟩ | exact ⟨cellAt ((HBX.out.grow (HA.out _ _)).kept hgrow nb) 1, MapAt.look ((HI1.out.map.grow (HA.out _ _)).kept hgrow nB) hd⟩)
        (first | (go_at_call 93; refine (count_any _ _ hl).mono ?_; rintro e w' ⟨rfl, mm, rfl⟩) | ((refine step_append_lies _ (by rfl) _ _ _ (by rfl) w1.heap.size 3 i0 _ 1 8 Try.underlying37 hi0 hz0 hz1 hz2 rfl (by omega) u7 k (rowVals (coinF G S c) k) (by rfl) ((own_drewN HO1.out _).alloc _) ⟨W1.heap.size, 0, none⟩ 1 1 [.int .i64 (coinF G S c k)] (by rfl) (by rfl) (World.news_of_block (cs := #[.int .i64 (coinF G S c k)]) (t := 3) (fr := (0, 0)) (heap_alloc_new _ _)) (by simp [Value.oneCell']) (by omega) (by unfold maxLen; omega) (by omega) (by simp; omega) (W1.heap.size + 1) (by simp) ?_; intro gg cap w3 hown3 hgrow hat hlt3)))
      clear hmul
      have HR := Lib.hid hown3
      have HI3 := Lib.hid ((HI1.out.grow (HA.out _ _)).row hgrow (fun j e => (HO1.out.lt j e).1))
      clear hown3 hgrow
      go_wp2_with fail
      exact ⟨⟨k + 1, hlt', by go_num, by rw [rowVals_succ]; exact HR.out, HI3.out⟩, by simp [intOf]; omega⟩
    · obtain rfl : k = sn := by omega
      obtain ⟨oa, cap, rfl, hints, _⟩ := row_ints HO.out (by unfold maxLen; omega)
      have HX := Lib.hid (sum_any oa k cap (coinF G S c) wr hints (by omega) (fun i hi => by have := coin_bd (G := G) (S := S) (c := c) (i := i) (HV.out.rate i hi); omega))
      clear hints HO
      go_wp2_with fail
      refine HX.out.mono ?_
      rintro e w' ⟨rfl, rfl⟩
      go_wp2_with fail
      go_ret
      refine ⟨ret_int (sumF_congr k fun i hi => ?_), HI.out.bel⟩
      show (popc (G (i : Int) c) : Int) * (S i).rate = _
      rw [HE.out i hi]
end Go.Proofs.Ytbpeamppkdmdcaa
