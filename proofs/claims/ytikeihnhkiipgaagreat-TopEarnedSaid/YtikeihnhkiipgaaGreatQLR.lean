/-
  Plain: who has a share, and what they have together.
  The law: what is asked of the wages that are written.
  The law: steps that are shown apart, so that the walk's parts may be laid aside.
-/
import Derived.Test.YtikeihnhkiipgaaGreatWP
import Derived.Test.YtikeihnhkiipgaaGreatWG7
import Derived.Test.YtikeihnhkiipgaaGreatQLP
namespace Go.Proofs.YtikeihnhkiipgaaGreat.Wa
open Go.RowKit

theorem sumF_one (F : Nat → Int) (r : Nat) : ∀ n, r < n → sumF (fun i => if i = r then F i + 1 else F i) n = sumF F n + 1
  | 0, h => by omega
  | n + 1, h => by
    simp only [sumF]
    by_cases e : r = n
    · subst e
      rw [if_pos rfl, sumF_congr' (n := r) (g := F) (fun i hi => if_neg (by omega))]
      omega
    · rw [sumF_one F r n (by omega), if_neg (fun h => e h.symm)]
      omega
theorem minM_mem (sh own : Nat → Int) (f : Nat → Nat) : ∀ k, ∃ j, j ≤ k ∧ minM sh own f k = f j
  | 0 => ⟨0, Nat.le_refl _, rfl⟩
  | k + 1 => by
    unfold minM
    split
    · exact ⟨k + 1, Nat.le_refl _, rfl⟩
    · obtain ⟨j, hj, e⟩ := minM_mem sh own f k
      exact ⟨j, by omega, e⟩
theorem sum_own {sh : Nat → Int} {n : Nat} (hm : 0 < (menL sh n).length) : ∀ c : Nat, sumF (ownK sh n c) n = (c : Nat)
  | 0 => sumF_none fun _ _ => rfl
  | c + 1 => by
    obtain ⟨j, hj, e⟩ := minM_mem sh (ownK sh n c) (menF sh n) ((menL sh n).length - 1)
    have hr : minM sh (ownK sh n c) (menF sh n) ((menL sh n).length - 1) < n := by rw [e]; exact menF_lt (by omega)
    refine (sumF_one (ownK sh n c) _ n hr).trans ?_
    rw [sum_own hm c]
    omega
theorem menL_none {sh : Nat → Int} (hs : ∀ i, 0 ≤ sh i) : ∀ {n : Nat}, (menL sh n).length = 0 → sumF sh n = 0
  | 0, _ => rfl
  | n + 1, h => by
    rw [menL_succ] at h
    by_cases e : 0 < sh n
    · rw [if_pos e, List.length_append] at h
      simp at h
    · rw [if_neg e] at h
      rw [sumF, menL_none hs h]
      have := hs n
      omega
theorem sumF_nn {sh : Nat → Int} (hs : ∀ i, 0 ≤ sh i) : ∀ n, 0 ≤ sumF sh n
  | 0 => Int.le_refl _
  | n + 1 => by have := sumF_nn hs n; have := hs n; rw [sumF]; omega
theorem menL_some {sh : Nat → Int} (hs : ∀ i, 0 ≤ sh i) : ∀ {n : Nat}, 0 < (menL sh n).length → 0 < sumF sh n
  | 0, h => by cases h
  | n + 1, h => by
    rw [sumF]
    have h0 := sumF_nn hs n
    have h1 := hs n
    by_cases e : 0 < sh n
    · omega
    · rw [menL_succ, if_neg e] at h
      have := menL_some hs h
      omega
/-- All coins go to those who have a share, if anybody has. -/
theorem given_all {sh : Nat → Int} (hs : ∀ i, 0 ≤ sh i) (n c : Nat) : sumF (shareF sh n c) n = if 0 < sumF sh n then (c : Int) else 0 := by
  by_cases h : (menL sh n).length = 0
  · rw [menL_none hs h, if_neg (by omega)]
    exact sumF_none (f := shareF sh n c) fun i _ => by unfold shareF; rw [if_pos h]
  · rw [if_pos (menL_some hs (by omega))]
    refine Eq.trans ?_ (sum_own (sh := sh) (n := n) (by omega) c)
    exact sumF_congr' (g := ownK sh n c) fun i _ => by unfold shareF; rw [if_neg h]
theorem shareF_bd (sh : Nat → Int) (n c i : Nat) : 0 ≤ shareF sh n c i ∧ shareF sh n c i ≤ c := by
  unfold shareF
  split
  · omega
  · exact ownK_bd sh n c i
theorem sumF_le {f : Nat → Int} {b : Nat} : ∀ n, (∀ i, i < n → 0 ≤ f i ∧ f i ≤ b) → 0 ≤ sumF f n ∧ sumF f n ≤ b * n
  | 0, _ => by rw [sumF]; omega
  | n + 1, h => by
    have h1 := sumF_le n fun i hi => h i (by omega)
    have h2 := h n (by omega)
    rw [sumF, Int.natCast_add, Int.mul_add]
    omega
end Go.Proofs.YtikeihnhkiipgaaGreat.Wa

namespace Go.Proofs.YtikeihnhkiipgaaGreat
open Go.RowKit

theorem dueS_sum (g : GN) (rn : Nat) (rf : Nat → Nat) : ∀ k, Wa.sumF (fun c : Nat => Wa.sumF (Wa.dueF (g.wS rn rf) g.to (c : Nat)) g.sn) k = ((g.dueS rn rf k : Nat) : Int)
  | 0 => rfl
  | k + 1 => by rw [Wa.sumF, dueS_sum g rn rf k, due_sum, GN.dueS, Int.natCast_add]
section
variable {g : GN} (ok : g.Ok) (hdv : g.dv g.sn Mk.start < 10000)
include ok hdv
/-- What is due to all crews is all. -/
theorem dueS_all (rn : Nat) (rf : Nat → Nat) : Wa.allOf (g.wS rn rf) g.sn = ((g.dueS rn rf g.cn : Nat) : Int) := by
  rw [← dueS_sum, Wa.due_all (g.wS rn rf) fun s hs => to_lt ok hdv hs]
end
theorem dueS_le {g : GN} {rn : Nat} {rf : Nat → Nat} (h3 : g.sn ≤ 3) (hf : ∀ n, n < g.sn → g.fm n ≤ 20) : ∀ k, g.dueS rn rf k ≤ 3000 * k
  | 0 => Nat.le_refl _
  | k + 1 => by
    have h1 := dueS_le (rn := rn) (rf := rf) h3 hf k
    have h2 := dueN_le (rn := rn) (rf := rf) (c := k) (k := g.sn) hf
    rw [GN.dueS]
    omega
section
variable {g : GN} {rn : Nat} {rf : Nat → Nat} {so tx : Option Addr} {so2 tn tx2 : Nat} {T : Nat → Wa.Tk} (HV : Wa.Valid g.cn g.sn tn (g.wS rn rf) T) (HF : Wa.First (g.wS rn rf) T g.sn tn g.to)
  (W : World) (hs : Row W so g.sn 2 (fun i j => (g.wS rn rf i).cell j)) (ht : Row W tx tn 8 (fun i j => (T i).cell j))
include HV HF hs ht
theorem due_first {c : Nat} (hc : c < g.cn) : Calls Tryz.prog 10 #[.agg #[.int .i64 g.cn, .slice so g.sn so2, .slice tx tn tx2], .int .i64 c] W fun e w' => e = .returned (.tuple #[.agg #[.int .i64 (g.dueN rn rf g.sn c : Nat), .int .i64 (g.dueN rn rf g.sn c : Nat)], .int .i64 0]) ∧ Below W.heap.size W w' :=
  (Wa.dues_any g.cn so tx g.sn so2 tn tx2 (g.wS rn rf) T c W (wa_row hs) (wa_row ht)).mono fun e w' h => by
    obtain ⟨hb, ⟨-, -, h⟩ | ⟨-, h, -⟩ | ⟨h, -⟩⟩ := h
    · rw [Wa.first_coins HF (HF.least (c : Nat)) (c : Nat), Wa.first_coins HF (HF.most (c : Nat)) (c : Nat), due_sum] at h
      exact ⟨h, hb⟩
    · exact absurd (Wa.inB_iff.2 ⟨by omega, by omega⟩ : Wa.inB (c : Int) 0 ((g.cn : Int) - 1) = true) (by rw [h]; exact Bool.false_ne_true)
    · exact absurd HV h
theorem paid_first (ok : g.Ok) (hdv : g.dv g.sn Mk.start < 10000) : Calls Tryz.prog 12 #[.agg #[.int .i64 g.cn, .slice so g.sn so2, .slice tx tn tx2]] W fun e w' => e = .returned (.tuple #[.agg #[.int .i64 (g.dueS rn rf g.cn : Nat), .int .i64 (g.dueS rn rf g.cn : Nat)], .int .i64 0]) ∧ Below W.heap.size W w' :=
  (Wa.paid_any g.cn so tx g.sn so2 tn tx2 (g.wS rn rf) T W (wa_row hs) (wa_row ht)).mono fun e w' h => by
    obtain ⟨hb, ⟨-, -, h⟩ | ⟨-, h, -⟩ | ⟨h, -⟩⟩ := h
    · rw [Wa.first_coins HF (HF.least (-1)) (-1), Wa.first_coins HF (HF.most (-1)) (-1), Wa.due_nobody, dueS_all ok hdv, Int.sub_zero] at h
      exact ⟨h, hb⟩
    · cases h
    · exact absurd HV h
theorem left_first {s : Nat} (hl : s < g.sn) : Calls Tryz.prog 13 #[.agg #[.int .i64 g.cn, .slice so g.sn so2, .slice tx tn tx2], .int .i64 s] W fun e w' => e = .returned (.tuple #[.agg #[.int .i64 0, .int .i64 0], .int .i64 0]) ∧ Below W.heap.size W w' :=
  (Wa.left_any g.cn so tx g.sn so2 tn tx2 (g.wS rn rf) T s W (wa_row hs) (wa_row ht)).mono fun e w' h => by
    obtain ⟨hb, ⟨-, -, h⟩ | ⟨-, h, -⟩ | ⟨h, -⟩⟩ := h
    · rw [Wa.first_many HF (HF.least (-1)) hl (-1), Wa.first_many HF (HF.most (-1)) hl (-1), if_neg (by omega)] at h
      exact ⟨h, hb⟩
    · exact absurd (Wa.inB_iff.2 ⟨by omega, by omega⟩ : Wa.inB (s : Int) 0 ((g.sn : Int) - 1) = true) (by rw [h]; exact Bool.false_ne_true)
    · exact absurd HV h
end
def sumN (f : Nat → Nat) : Nat → Nat
  | 0 => 0
  | n + 1 => sumN f n + f n
theorem sumN_cast (f : Nat → Nat) : ∀ n, Wa.sumF (fun i => ((f i : Nat) : Int)) n = ((sumN f n : Nat) : Int)
  | 0 => rfl
  | n + 1 => by rw [Wa.sumF, sumN_cast f n, sumN, Int.natCast_add]
theorem sumN_le {f : Nat → Nat} {b : Nat} (hf : ∀ i, f i ≤ b) : ∀ n, sumN f n ≤ b * n
  | 0 => Nat.le_refl _
  | n + 1 => by have := sumN_le hf n; have := hf n; rw [sumN, Nat.mul_add]; omega
/-- The shares of the men. -/
def mnF (sf : Nat → Nat) (i : Nat) : Nat := sf i % 21
theorem mnF_le (sf : Nat → Nat) (i : Nat) : mnF sf i ≤ 20 := by unfold mnF; omega
/-- What they have of so many coins. -/
def givF (f : Nat → Nat) (m cz i : Nat) : Nat := (Wa.shareF (fun i => ((f i : Nat) : Int)) m cz i).toNat
theorem giv_cast (f : Nat → Nat) (m cz i : Nat) : ((givF f m cz i : Nat) : Int) = Wa.shareF (fun i => ((f i : Nat) : Int)) m cz i := Int.toNat_of_nonneg (Wa.shareF_bd _ _ _ _).1
theorem giv_le (f : Nat → Nat) (m cz i : Nat) : givF f m cz i ≤ cz := by
  have h1 := (Wa.shareF_bd (fun i => ((f i : Nat) : Int)) m cz i).2
  have h2 := giv_cast f m cz i
  omega
theorem giv_sum (f : Nat → Nat) (m cz : Nat) : sumN (givF f m cz) m = if 0 < sumN f m then cz else 0 := by
  have h := Wa.given_all (sh := fun i => ((f i : Nat) : Int)) (fun i => Int.natCast_nonneg _) m cz
  rw [sumN_cast, Wa.sumF_congr' (g := fun i => ((givF f m cz i : Nat) : Int)) (fun i _ => (giv_cast f m cz i).symm), sumN_cast] at h
  split at h
  · rw [if_pos (by omega)]; omega
  · rw [if_neg (by omega)]; omega
theorem share_first {cz m mc : Nat} {ma : Option Addr} (hz : cz ≤ 500) (hm : m ≤ 6) {f : Nat → Nat} (hf : ∀ i, f i ≤ 20) (W : World) (h : IntsAt W ma m fun i => ((f i : Nat) : Int)) :
    Calls Tryz.prog 11 #[.int .i64 cz, .slice ma m mc] W fun e w' => ∃ gs, e = .returned (.tuple #[.slice (some ⟨gs, 0, none⟩) m m, .int .i64 0]) ∧ IntsAt w' (some ⟨gs, 0, none⟩) m (fun i => ((givF f m cz i : Nat) : Int)) ∧ Below W.heap.size W w' :=
  (Wa.shares_any (cz : Nat) ma m mc (fun i => ((f i : Nat) : Int)) W (wa_row h)).mono fun e w' hp => by
    obtain ⟨hb, ⟨-, gs, -, he, hg⟩ | ⟨h1, -⟩⟩ := hp
    · rw [Int.toNat_natCast] at hg
      refine ⟨gs, he, ?_, hb⟩
      have h2 : Row w' (some ⟨gs, 0, none⟩) m 1 fun i _ => .int .i64 (Wa.shareF (fun i => ((f i : Nat) : Int)) m cz i) := of_wa_row (Wa.ints_box hg (by unfold maxLen; omega))
      have e2 : (fun i (_ : Nat) => Value.int .i64 (Wa.shareF (fun i => ((f i : Nat) : Int)) m cz i)) = fun i (_ : Nat) => Value.int .i64 ((givF f m cz i : Nat) : Int) := funext fun i => funext fun _ => by rw [giv_cast]
      rw [e2] at h2
      exact h2
    · exfalso
      have : Wa.shareOk (cz : Nat) m (fun i => ((f i : Nat) : Int)) = true := by
        unfold Wa.shareOk
        rw [show Wa.inB ((cz : Nat) : Int) 0 500 = true from Wa.inB_iff.2 ⟨by omega, by omega⟩, decide_eq_true hm, Bool.true_and, Bool.true_and, List.all_eq_true]
        intro i _
        have := hf i
        exact (Wa.inB_iff (n := ((f i : Nat) : Int))).2 ⟨by omega, by omega⟩
      rw [this] at h1
      cases h1
theorem rowVals_snoc (f : Nat → Int) (k : Nat) : rowVals f k ++ [.int .i64 (f k)] = rowVals f (k + 1) := by simp [rowVals, List.range_succ]
/-- A row of men that is the call's own. -/
theorem men_row {W : World} {b n : Nat} {oa : Option Addr} {cap : Nat} {f : Nat → Int} (h : W.ownsRow b 3 1 (.slice oa n cap) n (rowVals f n)) (hn : n ≤ maxLen) : IntsAt W oa n f := by
  obtain ⟨o9, c9, hv9, h9, -⟩ := own_row (cell := fun i _ => .int .i64 (f i)) h hn (fun i hi j hj => by
    obtain rfl : j = 0 := by omega
    rw [Nat.mul_one, Nat.add_zero]
    exact rowVals_get _ _ _ hi)
  cases hv9
  exact h9
end Go.Proofs.YtikeihnhkiipgaaGreat

namespace Go.Proofs.YtikeihnhkiipgaaGreat
open Go.RowKit

theorem lex26 : Region.lexB .any #[{ dst := some 164, op := Op.move (Operand.tmp 10), type := 24, pos := "top12.go:47", after := #[], guard := none }, { dst := some 165, op := Op.move (Operand.tmp 14), type := 3, pos := "top12.go:47", after := #[], guard := none }, { dst := some 166, op := Op.indexAddr 24 (Operand.tmp 164) (Operand.tmp 165), type := 0, pos := "top12.go:47", after := #[{ on := 0, ground := Ground.data }, { on := 1, ground := Ground.data }], guard := none }, { dst := some 167, op := Op.load 3 (Operand.tmp 166), type := 3, pos := "top12.go:47", after := #[{ on := 2, ground := Ground.data }], guard := none }, { dst := some 168, op := Op.binOp BinOp.lss 3 (Operand.tmp 167) (Operand.const (Value.int IntKind.i64 0)) 3, type := 4, pos := "top12.go:47", after := #[{ on := 3, ground := Ground.data }], guard := none }, { dst := some 169, op := Op.move (Operand.tmp 168), type := 4, pos := "top12.go:47", after := #[{ on := 4, ground := Ground.data }], guard := none }, { dst := some 170, op := Op.move (Operand.tmp 10), type := 24, pos := "top12.go:47", after := #[{ on := 5, ground := Ground.guard }], guard := some (5, false) }, { dst := some 171, op := Op.move (Operand.tmp 14), type := 3, pos := "top12.go:47", after := #[{ on := 5, ground := Ground.guard }], guard := some (5, false) }, { dst := some 172, op := Op.indexAddr 24 (Operand.tmp 170) (Operand.tmp 171), type := 0, pos := "top12.go:47", after := #[{ on := 6, ground := Ground.data }, { on := 7, ground := Ground.data }, { on := 5, ground := Ground.guard }], guard := some (5, false) }, { dst := some 173, op := Op.load 3 (Operand.tmp 172), type := 3, pos := "top12.go:47", after := #[{ on := 8, ground := Ground.data }, { on := 5, ground := Ground.guard }], guard := some (5, false) }, { dst := some 174, op := Op.fieldAddr 29 (Operand.tmp 4) 1, type := 0, pos := "top12.go:47", after := #[{ on := 5, ground := Ground.guard }], guard := some (5, false) }, { dst := some 175, op := Op.load 23 (Operand.tmp 174), type := 23, pos := "top12.go:47", after := #[{ on := 10, ground := Ground.data }, { on := 5, ground := Ground.guard }], guard := some (5, false) }, { dst := some 176, op := Op.call { callee := Callee.builtin Builtin.len, args := #[Operand.tmp 175], argTypes := #[23] }, type := 3, pos := "top12.go:47", after := #[{ on := 11, ground := Ground.data }, { on := 5, ground := Ground.guard }], guard := some (5, false) }, { dst := some 177, op := Op.binOp BinOp.geq 3 (Operand.tmp 173) (Operand.tmp 176) 3, type := 4, pos := "top12.go:47", after := #[{ on := 9, ground := Ground.data }, { on := 12, ground := Ground.data }, { on := 5, ground := Ground.guard }], guard := some (5, false) }, { dst := some 178, op := Op.pick (Operand.tmp 169) (Operand.const (Value.bool true)) (Operand.tmp 177), type := 4, pos := "top12.go:47", after := #[{ on := 5, ground := Ground.data }, { on := 13, ground := Ground.data }], guard := none }] = true := by kernel_rfl
theorem lex36 : Region.lexB .any #[{ dst := some 222, op := Op.move (Operand.tmp 22), type := 46, pos := "top12.go:57", after := #[], guard := none }, { dst := some 223, op := Op.move (Operand.tmp 24), type := 3, pos := "top12.go:57", after := #[], guard := none }, { dst := some 224, op := Op.indexAddr 46 (Operand.tmp 222) (Operand.tmp 223), type := 0, pos := "top12.go:57", after := #[{ on := 0, ground := Ground.data }, { on := 1, ground := Ground.data }], guard := none }, { dst := some 225, op := Op.fieldAddr 50 (Operand.tmp 224) 1, type := 0, pos := "top12.go:57", after := #[{ on := 2, ground := Ground.data }], guard := none }, { dst := some 226, op := Op.load 3 (Operand.tmp 225), type := 3, pos := "top12.go:57", after := #[{ on := 3, ground := Ground.data }], guard := none }, { dst := some 227, op := Op.move (Operand.tmp 22), type := 46, pos := "top12.go:57", after := #[], guard := none }, { dst := some 228, op := Op.move (Operand.tmp 24), type := 3, pos := "top12.go:57", after := #[], guard := none }, { dst := some 229, op := Op.indexAddr 46 (Operand.tmp 227) (Operand.tmp 228), type := 0, pos := "top12.go:57", after := #[{ on := 5, ground := Ground.data }, { on := 6, ground := Ground.data }], guard := none }, { dst := some 230, op := Op.fieldAddr 50 (Operand.tmp 229) 0, type := 0, pos := "top12.go:57", after := #[{ on := 7, ground := Ground.data }], guard := none }, { dst := some 231, op := Op.load 3 (Operand.tmp 230), type := 3, pos := "top12.go:57", after := #[{ on := 8, ground := Ground.data }], guard := none }, { dst := some 232, op := Op.binOp BinOp.add 3 (Operand.tmp 231) (Operand.const (Value.int IntKind.i64 3)) 3, type := 3, pos := "top12.go:57", after := #[{ on := 9, ground := Ground.data }], guard := none }, { dst := some 233, op := Op.call { callee := Callee.builtin Builtin.min, args := #[Operand.tmp 226, Operand.tmp 232], argTypes := #[3, 3] }, type := 3, pos := "top12.go:57", after := #[{ on := 4, ground := Ground.data }, { on := 10, ground := Ground.data }], guard := none }, { dst := some 26, op := Op.assign (Operand.tmp 233), type := 3, pos := "top12.go:57", after := #[{ on := 11, ground := Ground.data }, { on := 0, ground := Ground.phase }, { on := 1, ground := Ground.phase }, { on := 2, ground := Ground.phase }, { on := 3, ground := Ground.phase }, { on := 4, ground := Ground.phase }, { on := 5, ground := Ground.phase }, { on := 6, ground := Ground.phase }, { on := 7, ground := Ground.phase }, { on := 8, ground := Ground.phase }, { on := 9, ground := Ground.phase }, { on := 10, ground := Ground.phase }, { on := 11, ground := Ground.phase }], guard := none }] = true := by kernel_rfl
/-- A ticket is built. -/
theorem exec_tk {o : Oper} {ev : Operand → Value} {x0 x1 x2 x3 x4 : Operand} (ho : o.op = .build 53 #[(0, x0), (1, x1), (2, x2), (3, x3), (4, x4)]) {c s fl fh tl th dl dh : Int}
    (h0 : ev x0 = .int .i64 c) (h1 : ev x1 = .int .i64 s) (h2 : ev x2 = .agg #[.int .i64 fl, .int .i64 fh]) (h3 : ev x3 = .agg #[.int .i64 tl, .int .i64 th]) (h4 : ev x4 = .agg #[.int .i64 dl, .int .i64 dh]) (w : World) :
    (execOp ev o).run Tryz.prog w = .ok (.value (.agg #[.int .i64 c, .int .i64 s, .int .i64 fl, .int .i64 fh, .int .i64 tl, .int .i64 th, .int .i64 dl, .int .i64 dh])) w := by
  unfold execOp
  simp only [ho]
  go_simp
/-- A slice of one ticket. -/
theorem step_tk {ops : Array Oper} {o : Oper} {a : Act} {w : World} {K : Act → World → Prop} {Q : Exit → Act → World → Prop} {X : Prop} (hgd : o.guard = none) {x : Operand} (ho : o.op = .buildSlice 37 1 #[(0, x)])
    {v0 v1 v2 v3 v4 v5 v6 v7 : Int} (hx : a.eval x = .agg #[.int .i64 v0, .int .i64 v1, .int .i64 v2, .int .i64 v3, .int .i64 v4, .int .i64 v5, .int .i64 v6, .int .i64 v7])
    (h : K (a.put o.dst (.slice (some ⟨w.heap.size, 0, none⟩) 1 1)) (w.alloc (.cells #[.int .i64 v0, .int .i64 v1, .int .i64 v2, .int .i64 v3, .int .i64 v4, .int .i64 v5, .int .i64 v6, .int .i64 v7] 53))) :
    if Region.wanted o (yielded ops a.tmps) = true then Oper.wp Tryz.prog o a w K Q else X := by
  have hw : Region.wanted o (yielded ops a.tmps) = true := by unfold Region.wanted; rw [hgd]
  rw [if_pos hw]
  unfold Oper.wp execOp
  simp only [ho, List.map_toArray, List.map_cons, List.map_nil, hx]
  go_simp
  exact h
end Go.Proofs.YtikeihnhkiipgaaGreat
