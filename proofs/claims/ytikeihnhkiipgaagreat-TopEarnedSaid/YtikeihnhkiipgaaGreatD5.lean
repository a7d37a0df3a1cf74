/-
  The tables of all crews.
-/
import Derived.Test.YtikeihnhkiipgaaGreatD4
import Derived.Laws.AppendOwn
import Derived.ArgAppend
import Derived.Deep.AppendLies
import Derived.Test.YtikeihnhkiipgaaGreatAF
namespace Go.Proofs.YtikeihnhkiipgaaGreat
open Go.RowKit

theorem own_row {w : World} {base sz n : Nat} {e : TypeId} {v : Value} {xs : List Value} {cell : Nat → Nat → Value} (h : w.ownsRow base e sz v n xs) (hn : n ≤ maxLen) (hc : ∀ i, i < n → ∀ j, j < sz → xs[i * sz + j]? = some (cell i j)) :
    ∃ oa cap, v = .slice oa n cap ∧ Row w oa n sz cell ∧ (0 < n → base ≤ blk oa) := by
  obtain ⟨hl, h | ⟨g, cap, cur, rfl, hb, hg, hnc, hcm, hcs, ht⟩⟩ := h
  · obtain ⟨rfl, rfl⟩ := h
    exact ⟨none, 0, rfl, ⟨fun h => by omega, fun h => by omega, hn, fun i hi => by omega⟩, fun h => by omega⟩
  · refine ⟨some ⟨g, 0, none⟩, cap, rfl, ⟨fun _ => rfl, fun _ => lt_of_heap hg, hn, fun i hi j hj => ?_⟩, fun _ => hb⟩
    show w.cell? ⟨g, 0 + i * sz + j, none⟩ = _
    have hlt : i * sz + j < n * sz := by
      have : (i + 1) * sz ≤ n * sz := Nat.mul_le_mul_right _ hi
      rw [Nat.succ_mul] at this
      omega
    rw [cellAt hg, Nat.zero_add, ← hc i hi j hj, ← ht, List.getElem?_take_of_lt hlt, Array.getElem?_toList]
theorem own_grow {w w' : World} {base sz n : Nat} {e : TypeId} {v : Value} {xs : List Value} (h : w.ownsRow base e sz v n xs) (hb : Below w.heap.size w w') : w'.ownsRow base e sz v n xs := by
  obtain ⟨hl, h | ⟨g, cap, cur, hv, hbg, hg, h3⟩⟩ := h
  · exact ⟨hl, .inl h⟩
  · exact ⟨hl, .inr ⟨g, cap, cur, hv, hbg, (hb.block g (lt_of_heap hg)).trans hg, h3⟩⟩
theorem own_lt {w : World} {base sz n : Nat} {e : TypeId} {v : Value} {xs : List Value} (h : w.ownsRow base e sz v n xs) : ∀ j, v.ownBlock = some j → base ≤ j ∧ j < w.heap.size := fun j hj => by
  obtain ⟨-, h | ⟨g, cap, cur, rfl, hbg, hg, -⟩⟩ := h
  · rw [h.1] at hj; cases hj
  · cases hj; exact ⟨hbg, lt_of_heap hg⟩
theorem info_int : (Tryz.prog.info? 3).map (fun i => (i.zero, i.size, i.bytes)) = some (some (.int .i64 0), 1, 8) := by kernel_rfl
/-- One number more is put behind, in a region that draws its order. -/
theorem step_appInt {ops : Array Oper} {o : Oper} {a : Act} {w : World} {K : Act → World → Prop} {Q : Exit → Act → World → Prop} {X : Prop} (hgd : o.guard = none) (s x : Operand)
    (ho : o.op = .call { callee := .builtin .append, args := #[s, x], argTypes := #[24, 24] }) {base n : Nat} {v : Value} {xs : List Value} (hs : a.eval s = v) (hown : w.ownsRow base 3 1 v n xs)
    {b : Nat} {u : Int} (hx : a.eval x = .slice (some ⟨b, 0, none⟩) 1 1) (hu : BoxAt w b #[.int .i64 u] 3)
    (hlim : n ≤ 1000000) (hbase : base ≤ w.heap.size)
    (h : ∀ g cap w', w'.ownsRow base 3 1 (.slice (some ⟨g, 0, none⟩) (n + 1) cap) (n + 1) (xs ++ [.int .i64 u]) → w.grownBy w' v.ownBlock → (v.ownBlock = some g ∨ g = w.heap.size) → K (a.put o.dst (.slice (some ⟨g, 0, none⟩) (n + 1) cap)) w') :
    if Region.wanted o (yielded ops a.tmps) = true then Oper.wp Tryz.prog o a w K Q else X := by
  obtain ⟨i, hi, hz, hsz, hby⟩ := info_parts info_int
  refine step_append_lies (w := w) hgd s x 24 ho base 3 i _ 1 8 Tryz.underlying24 hi hz hsz hby rfl (by decide) v n xs hs hown ⟨b, 0, none⟩ 1 1 [.int .i64 u] hx rfl ?_ ?_ (by decide) (by unfold maxLen; omega) (by omega) hbase _ rfl
    fun g cap w' h2 h3 h4 _ => h g cap w' h2 h3 h4
  · intro j y hy
    cases j with
    | zero => cases hy; exact (cellAt hu 0)
    | succ j => cases hy
  · intro y hy; rw [List.mem_singleton] at hy; rw [hy]; rfl
/-- The cells of the first tables. -/
def tabsL (g : GN) (k : Nat) : List Value := (List.range k).flatMap fun c => (tabC (g.tab c (2 ^ g.sn))).toList
theorem tabsL_succ (g : GN) (k : Nat) : tabsL g (k + 1) = tabsL g k ++ (tabC (g.tab k (2 ^ g.sn))).toList := by simp [tabsL, List.range_succ]
theorem tabsL_len (g : GN) : ∀ k, (tabsL g k).length = k * 32
  | 0 => rfl
  | k + 1 => by rw [tabsL_succ, List.length_append, tabsL_len g k, Array.length_toList, tabC_len]; omega
theorem tabsL_get (g : GN) : ∀ (n i j : Nat), i < n → j < 32 → (tabsL g n)[i * 32 + j]? = some (.int .i64 (g.tab i (2 ^ g.sn) j))
  | 0, _, _, h, _ => by omega
  | n + 1, i, j, hi, hj => by
    rw [tabsL_succ]
    by_cases e : i = n
    · subst e
      rw [List.getElem?_append_right (by rw [tabsL_len]; omega), tabsL_len, show i * 32 + j - i * 32 = j by omega, Array.getElem?_toList, tabC_at _ hj]
    · rw [List.getElem?_append_left (by rw [tabsL_len]; omega)]
      exact tabsL_get g n i j (by omega) hj
theorem set_take {α : Type} (Z : List α) (k : Nat) (x : α) (h : k < Z.length) : (Z.set k x).take (k + 1) = Z.take k ++ [x] := by
  rw [List.set_eq_take_append_cons_drop, if_pos h, List.take_append]
  have e : (Z.take k).length = k := by simp [Nat.le_of_lt h]
  rw [e, List.take_of_length_le (by omega), show k + 1 - k = 1 by omega]
  rfl
theorem set_drop {α : Type} (Z : List α) (k m : Nat) (x : α) : (Z.set k x).drop (k + 1 + m) = Z.drop (k + 1 + m) := by
  rw [List.drop_set_of_lt (by omega)]
theorem foldl_set : ∀ (l : List Value) (k : Nat) (Z : List Value), k + l.length ≤ Z.length → (l.zipIdx k).foldl (fun (cs : Array Value) x => cs.setIfInBounds x.2 x.1) Z.toArray = (Z.take k ++ l ++ Z.drop (k + l.length)).toArray
  | [], k, Z, _ => by simp
  | x :: l, k, Z, h => by
    simp only [List.length_cons] at h
    simp only [List.zipIdx_cons, List.foldl_cons, List.setIfInBounds_toArray]
    rw [foldl_set l (k + 1) (Z.set k x) (by simp; omega)]
    rw [set_take Z k x (by omega), set_drop]
    congr 1
    simp [Nat.add_assoc, Nat.add_comm 1]
theorem foldl_set_all {X Z : Array Value} (h : X.size = Z.size) : X.zipIdx.foldl (fun (cs : Array Value) x => cs.setIfInBounds x.2 x.1) Z = X := by
  obtain ⟨l⟩ := X
  obtain ⟨z⟩ := Z
  have := foldl_set l 0 z (by simpa using Nat.le_of_eq h)
  simp at h this ⊢
  rw [this]
  simp [h]
theorem tab_info : (Tryz.prog.info? 125).map (fun i => (i.zero, i.size, i.bytes)) = some (some (.agg (tabC fun _ => 0)), 32, 256) := by kernel_rfl
/-- What its loop keeps. -/
structure FI (g : GN) (a : GA) (b : Nat) (r : Option Addr) (rc : Nat) (w : World) (v : Value) (k : Nat) (W : World) : Prop where
  bel : Below w.heap.size w W
  gw : GW g a b r rc W
  bx : BoxAt W w.heap.size #[.func (.func 59) #[bp b] #[]] 132
  own : W.ownsRow (w.heap.size + 1) 125 32 v k (tabsL g k)
  sz : w.heap.size + 1 ≤ W.heap.size
section
variable (g : GN) (ok : g.Ok) (a : GA) (b : Nat) (r : Option Addr) (rc : Nat)
include ok
set_option maxRecDepth 100000 in
set_option maxHeartbeats 1000000 in
theorem filled_any (w : World) (h : GW g a b r rc w) :
    Calls Tryz.prog 58 #[.int .i64 g.cn, .agg #[.func (.func 59) #[bp b] #[]]] w fun e w' => ∃ v, e = .returned v ∧ w'.ownsRow (w.heap.size + 1) 125 32 v g.cn (tabsL g g.cn) ∧ Below w.heap.size w w' := by
  have OK := Lib.hid ok
  have al := (Below.refl w.heap.size w).alloc (Nat.le_refl _) (.cells #[.func (.func 59) #[bp b] #[]] 132)
  have I0 := Lib.hid (show FI g a b r rc w (.slice none 0 0) 0 (w.alloc (.cells #[.func (.func 59) #[bp b] #[]] 132)) from ⟨al, h.grow al, heap_alloc_new _ _, ⟨rfl, .inl ⟨rfl, rfl⟩⟩, by rw [sizeAlloc]; exact Nat.le_refl _⟩)
  have H0 := Lib.hid h
  have C0 := Lib.hid (fun k (hk : k < g.cn) W (h : GW g a b r rc W) => table_any g ok a b r rc k hk W h)
  have m0 : ∀ (k : Nat) W, (callFunc 59 #[bp b, .int .i64 k]).run Tryz.prog W = .ok (.enter 59 #[bp b, .int .i64 k]) W := fun _ _ => by kernel_rfl
  clear al h ok
  go_enter Tryz.func58, Tryz.ntmps58
  go_upto_region 1 with (fail)
  generalize World.alloc w _ = w0 at *
  go_wp2_with fail
  go_loopw [4, 7] (fun v i W => ∃ k : Nat, k ≤ g.cn ∧ i = .int .i64 k ∧ FI g a b r rc w v k W) (fun _ i _ => g.cn - (intOf i).toNat)
  case atStart => exact ⟨0, Nat.zero_le _, rfl, I0.out⟩
  case round =>
    clear I0
    obtain ⟨k, hk, rfl, hI⟩ := hrel
    have I1 := Lib.hid hI
    clear hI
    by_cases hlt : k < g.cn
    · have hlt' : (k : Int) < g.cn := by omega
      have hmeas : g.cn - (k + 1) < g.cn - k := by omega
      have hcn3 := OK.out.hcn
      have x0 := cellAt I1.out.bx 0
      simp only [List.getElem?_toArray, List.getElem?_cons_zero] at x0
      have C1 := Lib.hid (C0.out k hlt wr I1.out.gw)
      have HL := Lib.hid (tabsL_succ g k)
      have XS := Lib.hid (tabC_len (g.tab k (2 ^ g.sn)))
      have X1 := Lib.hid (tabC_one (g.tab k (2 ^ g.sn)))
      generalize tabC (g.tab k (2 ^ g.sn)) = X at *
      clear C0
      go_upto_region 4 with (fail)
      obtain ⟨i0, hi0, hz0, hz1, hz2⟩ := info_parts tab_info
      refine wp_region_lit ?_
      go_wp2_with (first
        | (go_at_call 59; refine C1.out.mono ?_; rintro e w2 ⟨rfl, hb2⟩; have hX := XS.out; have hF := foldl_set_all (X := X) (Z := tabC fun _ => 0) (XS.out.trans (tabC_len _).symm); rw [show tabC (fun _ => 0) = #[.int .i64 0, .int .i64 0, .int .i64 0, .int .i64 0, .int .i64 0, .int .i64 0, .int .i64 0, .int .i64 0, .int .i64 0, .int .i64 0, .int .i64 0, .int .i64 0, .int .i64 0, .int .i64 0, .int .i64 0, .int .i64 0, .int .i64 0, .int .i64 0, .int .i64 0, .int .i64 0, .int .i64 0, .int .i64 0, .int .i64 0, .int .i64 0, .int .i64 0, .int .i64 0, .int .i64 0, .int .i64 0, .int .i64 0, .int .i64 0, .int .i64 0, .int .i64 0] from rfl, Array.size_zipIdx, XS.out] at hF)
        | (at_builtin; refine wpList_append_own _ rfl _ _ 78 rfl (w.heap.size + 1) 125 i0 _ 32 256 Tryz.underlying78 hi0 hz0 hz1 hz2 (by kernel_rfl) (by decide) _ k (tabsL g k) rfl ?own ⟨w2.heap.size, 0, none⟩ 1 1 X.toList rfl ?c0 ?c1 ?c2 ?c3 ?c4 ?c5 ?_))
      case own => exact own_grow (own_grow I1.out.own hb2) ((Below.refl _ _).alloc (Nat.le_refl _) _)
      case c0 => simp [XS.out]
      case c1 =>
        intro j u hj
        have ea : (⟨w2.heap.size, 0, none⟩ : Addr).add j = ⟨w2.heap.size, j, none⟩ := by
          unfold Addr.add
          split <;> simp_all
        rw [ea, cellAt (heap_alloc_new w2 _), ← hj, Array.getElem?_toList]
      case c2 =>
        intro u hu
        exact Array.all_eq_true_iff_forall_mem.1 X1.out u (Array.mem_toList_iff.1 hu)
      case c3 => unfold maxLen; omega
      case c4 => omega
      case c5 => rw [sizeAlloc]; have := I1.out.sz; have := hb2.size; omega
      intro v' w4 hown' hgrow _
      rw [← HL.out] at hown'
      have hA := (Below.refl w2.heap.size w2).alloc (Nat.le_refl _) (.cells X 125)
      have hsz : w.heap.size + 1 ≤ (w2.alloc (.cells X 125)).heap.size := by rw [sizeAlloc]; have := I1.out.sz; have := hb2.size; omega
      have hbel : Below w.heap.size w w4 := (((I1.out.bel.next hb2).next hA).grown hgrow (by omega) fun j e => by
        have := (own_lt I1.out.own j e).1
        omega)
      have hne : ∀ j, u4.ownBlock = some j → w.heap.size + 1 ≤ j := fun j hj => (own_lt I1.out.own j hj).1
      have I4 := Lib.hid (show FI g a b r rc w v' (k + 1) w4 from ⟨hbel, H0.out.grow hbel, ((I1.out.bx.grow hb2).grow hA).kept hgrow (fun e => by have := hne _ e.symm; omega), hown', Nat.le_trans hsz hgrow.size⟩)
      clear hown' hgrow hF hX hA hsz hbel hne x0 hb2
      go_wp2_with fail
      exact ⟨⟨k + 1, hlt, by go_num, I4.out⟩, by simpa [intOf] using hmeas⟩
    · have hlt' : ¬ (k : Int) < g.cn := by omega
      obtain rfl : k = g.cn := by omega
      go_wp2_with fail
      go_ret
      exact ⟨_, rfl, I1.out.own, I1.out.bel⟩
set_option maxHeartbeats 400000 in
theorem tables_any (w : World) (h : GW g a b r rc w) :
    Calls Tryz.prog 24 #[bp b] w fun e w' => ∃ oa cap, e = .returned (.slice oa g.cn cap) ∧ Row w' oa g.cn 32 (fun c j => .int .i64 (g.tab c (2 ^ g.sn) j)) ∧ Below w.heap.size w w' := by
  have C := Lib.hid (filled_any g ok a b r rc w h)
  have HN := Lib.hid (show g.cn ≤ maxLen by have := ok.hcn; unfold maxLen; omega)
  obtain ⟨q0, q1, q7⟩ := h.cells
  have hmf : ∀ (fn : Fn) (first cap : Array Value) (w : World), (Instr.makeFunc fn first cap).run Tryz.prog w = .ok (.func fn first cap) w := fun _ _ _ _ => rfl
  clear h ok
  go_enter Tryz.func24, Tryz.ntmps24
  go_wp2_with (go_at_call 58; refine C.out.mono ?_; rintro e w' ⟨v, rfl, ho, hb⟩)
  obtain ⟨oa, cap, rfl, hr, -⟩ := own_row ho HN.out (fun i hi j hj => tabsL_get g g.cn i j hi hj)
  go_ret
  exact ⟨oa, cap, rfl, hr, hb⟩
end
end Go.Proofs.YtikeihnhkiipgaaGreat
