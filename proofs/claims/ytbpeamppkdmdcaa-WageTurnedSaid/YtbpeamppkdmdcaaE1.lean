/-
  Walks: the three lists of a truth in which a crew's tickets have as much, as early, as they can, and all others as little, as late; or the other way round.
-/
import Derived.Test.YtbpeamppkdmdcaaJ1
namespace Go.Proofs.Ytbpeamppkdmdcaa
open Go.RowKit

/-- A ticket of a crew as early, and as much, as it can; or the other way round. -/
def withK (m : Int) (b : Bool) (T : Nat → Tk) (i : Nat) : Kn := if ((T i).crew == m) = b then ⟨(T i).fl, (T i).th, (T i).dl⟩ else ⟨(T i).fh, (T i).tl, (T i).dh⟩
theorem withK_true (m : Int) (T : Nat → Tk) : withK m true T = mostK m T := by
  funext i
  unfold withK mostK
  by_cases h : (T i).crew = m <;> simp [h]
theorem withK_false (m : Int) (T : Nat → Tk) : withK m false T = leastK m T := by
  funext i
  unfold withK leastK
  by_cases h : (T i).crew = m <;> simp [h]
theorem ne_of_beq {a b : Bool} (h : (a == b) = false) : ¬ a = b := fun e => by rw [e] at h; simp at h
theorem rowVals_length (f : Nat → Int) (k : Nat) : (rowVals f k).length = k := by simp [rowVals]
def threeVS (v1 v2 v3 : Value) (K : Nat → Kn) (k : Nat) : List (Value × List Value) := [(v1, rowVals (fun i => (K i).fr) k), (v2, rowVals (fun i => (K i).to) k), (v3, rowVals (fun i => (K i).td) k)]
theorem Own.ints {B : Nat} {w0 W : World} {KB : List (Nat × Array Value × TypeId)} {VS : List (Value × List Value)} (h : Own B w0 KB VS W) {v : Value} {f : Nat → Int} {k : Nat} (he : (v, rowVals f k) ∈ VS) (hk : k ≤ maxLen) : ∃ oa cap, v = .slice oa k cap ∧ IntsAt W oa k f ∧ (0 < k → B ≤ blk oa) := by
  have h1 := h.own _ he
  dsimp only at h1
  rw [rowVals_length] at h1
  exact row_ints h1 hk
theorem own_start3 {w : World} (K : Nat → Kn) : Own w.heap.size w [] (threeVS (.slice none 0 0) (.slice none 0 0) (.slice none 0 0) K 0) w :=
  Own.start (Below.refl _ _) (Nat.le_refl _) (fun e he => by cases he) (fun e he => by
    simp only [threeVS, List.mem_cons, List.mem_nil_iff, or_false] at he
    rcases he with rfl | rfl | rfl <;> rfl)
/-- The three rows, one ticket longer. -/
theorem threeVS_snoc {g1 p1 g2 p2 g3 p3 k : Nat} {K : Nat → Kn} {VR : List (Value × List Value)} {B : Nat} {w0 W : World} {KB : List (Nat × Array Value × TypeId)} {y1 y2 y3 : Int} (e1 : y1 = (K k).fr) (e2 : y2 = (K k).to) (e3 : y3 = (K k).td)
    (h : Own B w0 KB ((.slice (some ⟨g1, 0, none⟩) ((rowVals (fun i => (K i).fr) k).length + 1) p1, rowVals (fun i => (K i).fr) k ++ [.int .i64 y1]) :: (.slice (some ⟨g2, 0, none⟩) ((rowVals (fun i => (K i).to) k).length + 1) p2, rowVals (fun i => (K i).to) k ++ [.int .i64 y2]) :: (.slice (some ⟨g3, 0, none⟩) ((rowVals (fun i => (K i).td) k).length + 1) p3, rowVals (fun i => (K i).td) k ++ [.int .i64 y3]) :: VR) W) :
    Own B w0 KB (threeVS (.slice (some ⟨g1, 0, none⟩) (k + 1) p1) (.slice (some ⟨g2, 0, none⟩) (k + 1) p2) (.slice (some ⟨g3, 0, none⟩) (k + 1) p3) K (k + 1) ++ VR) W := by
  subst e1 e2 e3
  rw [rowVals_length, rowVals_length, rowVals_length] at h
  unfold threeVS
  rw [rowVals_succ, rowVals_succ, rowVals_succ]
  exact h

set_option maxRecDepth 100000 in
set_option maxHeartbeats 4000000 in
theorem with_any (cr : Int) (sa ta : Option Addr) (sn sc tn tc : Nat) (T : Nat → Tk) (c : Int) (b : Bool) (p : Nat) (w : World) (hx : BoxAt w p #[.int .i64 cr, .slice sa sn sc, .slice ta tn tc] 25) (hT : TicketsAt w ta tn T) (ht6 : tn ≤ 6) :
    Calls Try.prog 38 #[.int .i64 c, .bool b, bp p] w
      fun e w' => ∃ o1 c1 o2 c2 o3 c3, e = .returned (.tuple #[.slice o1 tn c1, .slice o2 tn c2, .slice o3 tn c3]) ∧ IntsAt w' o1 tn (fun i => (withK c b T i).fr) ∧ IntsAt w' o2 tn (fun i => (withK c b T i).to) ∧ IntsAt w' o3 tn (fun i => (withK c b T i).td) ∧ Below w.heap.size w w' := by
  have hpl := lt_of_heap hx
  have HX := Lib.hid hx
  have HT := Lib.hid hT
  have HP := Lib.hid hpl
  have x2 := cellAt hx 2
  simp only [List.getElem?_toArray, List.getElem?_cons_zero, List.getElem?_cons_succ] at x2
  have O0 := Lib.hid (own_start3 (w := w) (withK c b T))
  clear hx hT hpl
  go_enter Try.func38, Try.ntmps38
  go_wp2_with fail
  clear x2
  go_loopw [5, 6, 7, 13] (fun v1 v2 v3 i wr => ∃ k : Nat, k ≤ tn ∧ i = .int .i64 k ∧ Own w.heap.size w [] (threeVS v1 v2 v3 (withK c b T) k) wr) (fun _ _ _ i _ => tn - (intOf i).toNat)
  case atStart => exact ⟨0, Nat.zero_le _, rfl, O0.out⟩
  case round =>
    clear O0
    obtain ⟨k, hk, rfl, hown⟩ := hrel
    have HO := Lib.hid hown
    have HTR := Lib.hid (Row.grow HT.out hown.bel : TicketsAt wr ta tn T)
    clear hown
    by_cases hlt : k < tn
    · have hi := fun w => run_indexAt_row (w := w) (cap := tc) Try.underlying23 size58 (HTR.out.plain (by omega)) hlt
      obtain ⟨k0, k1, k2, k3, k4, k5, k6, k7⟩ := TicketsAt.at HTR.out hlt
      have HO1 := Lib.hid (HO.out.new #[.int .i64 (T k).crew, .int .i64 (T k).seam, .int .i64 (T k).fl, .int .i64 (T k).fh, .int .i64 (T k).tl, .int .i64 (T k).th, .int .i64 (T k).dl, .int .i64 (T k).dh] 58)
      obtain ⟨q, hq⟩ : ∃ q, (((T k).crew == c) == b) = q := ⟨_, rfl⟩
      have HQ := Lib.hid hq
      cases q with
      | true =>
        go_wp2_with fail
        generalize hW : World.alloc _ _ = W at *
        clear hW k0 k1 k2 k3 k4 k5 k6 k7 hi hq
        have z1 := cellAt (HO1.out.box _ List.mem_cons_self) 2
        have z2 := cellAt (HO1.out.box _ List.mem_cons_self) 5
        have z3 := cellAt (HO1.out.box _ List.mem_cons_self) 6
        simp only [List.getElem?_toArray, List.getElem?_cons_zero, List.getElem?_cons_succ] at z1 z2 z3
        refine wp_region_held_drew (S := (fun w' => w'.cell? ⟨wr.heap.size, 2, none⟩ = some (.int .i64 (T k).fl) ∧ w'.cell? ⟨wr.heap.size, 5, none⟩ = some (.int .i64 (T k).th) ∧ w'.cell? ⟨wr.heap.size, 6, none⟩ = some (.int .i64 (T k).dl))) (by kernel_rfl) (by exact ⟨z1, z2, z3⟩) (fun hHeld => ?_)
        refine wpAnyH_take (i := 0) (oi := { dst := some 23, op := Op.move (Operand.tmp 5), type := 37, pos := "outright.go:109", after := #[], guard := none }) (v := ?_) rfl (by kernel_rfl) (by kernel_rfl) (by kernel_rfl) (fun _ _ _ h => h) (Or.inl ⟨by rfl, ?_⟩) (by assumption) ?_
        rotate_left
        · (intro w9 hSw; (try dsimp only at hSw); (go_split_ands; go_simp); (try with_reducible rfl))
        try simp only [Act.put, List.setIfInBounds_toArray, List.set_cons_zero, List.set_cons_succ]
        refine wpAnyH_take (i := 1) (oi := { dst := some 24, op := Op.fieldAddr 58 (Operand.tmp 9) 2, type := 0, pos := "outright.go:109", after := #[], guard := none }) (v := ?_) rfl (by kernel_rfl) (by kernel_rfl) (by kernel_rfl) (fun _ _ _ h => h) (Or.inl ⟨by rfl, ?_⟩) (by assumption) ?_
        rotate_left
        · (intro w9 hSw; (try dsimp only at hSw); (go_split_ands; go_simp); (try with_reducible rfl))
        try simp only [Act.put, List.setIfInBounds_toArray, List.set_cons_zero, List.set_cons_succ]
        refine wpAnyH_take (i := 2) (oi := { dst := some 25, op := Op.fieldAddr 29 (Operand.tmp 24) 0, type := 0, pos := "outright.go:109", after := #[{ on := 1, ground := Ground.data }], guard := none }) (v := ?_) rfl (by kernel_rfl) (by kernel_rfl) (by kernel_rfl) (fun _ _ _ h => h) (Or.inl ⟨by rfl, ?_⟩) (by assumption) ?_
        rotate_left
        · (intro w9 hSw; (try dsimp only at hSw); (go_split_ands; go_simp); (try with_reducible rfl))
        try simp only [Act.put, List.setIfInBounds_toArray, List.set_cons_zero, List.set_cons_succ]
        refine wpAnyH_take (i := 3) (oi := { dst := some 26, op := Op.load 3 (Operand.tmp 25), type := 3, pos := "outright.go:109", after := #[{ on := 2, ground := Ground.data }], guard := none }) (v := ?_) rfl (by kernel_rfl) (by kernel_rfl) (by kernel_rfl) (fun _ _ _ h => h) (Or.inl ⟨by rfl, ?_⟩) (by assumption) ?_
        rotate_left
        · (intro w9 hSw; (try dsimp only at hSw); (go_split_ands; go_simp); (try with_reducible rfl))
        try simp only [Act.put, List.setIfInBounds_toArray, List.set_cons_zero, List.set_cons_succ]
        refine wpAnyH_take (i := 6) (oi := { dst := some 29, op := Op.move (Operand.tmp 6), type := 37, pos := "outright.go:109", after := #[], guard := none }) (v := ?_) rfl (by kernel_rfl) (by kernel_rfl) (by kernel_rfl) (fun _ _ _ h => h) (Or.inl ⟨by rfl, ?_⟩) (by assumption) ?_
        rotate_left
        · (intro w9 hSw; (try dsimp only at hSw); (go_split_ands; go_simp); (try with_reducible rfl))
        try simp only [Act.put, List.setIfInBounds_toArray, List.set_cons_zero, List.set_cons_succ]
        refine wpAnyH_take (i := 7) (oi := { dst := some 30, op := Op.fieldAddr 58 (Operand.tmp 9) 3, type := 0, pos := "outright.go:109", after := #[], guard := none }) (v := ?_) rfl (by kernel_rfl) (by kernel_rfl) (by kernel_rfl) (fun _ _ _ h => h) (Or.inl ⟨by rfl, ?_⟩) (by assumption) ?_
        rotate_left
        · (intro w9 hSw; (try dsimp only at hSw); (go_split_ands; go_simp); (try with_reducible rfl))
        try simp only [Act.put, List.setIfInBounds_toArray, List.set_cons_zero, List.set_cons_succ]
        refine wpAnyH_take (i := 8) (oi := { dst := some 31, op := Op.fieldAddr 29 (Operand.tmp 30) 1, type := 0, pos := "outright.go:109", after := #[{ on := 7, ground := Ground.data }], guard := none }) (v := ?_) rfl (by kernel_rfl) (by kernel_rfl) (by kernel_rfl) (fun _ _ _ h => h) (Or.inl ⟨by rfl, ?_⟩) (by assumption) ?_
        rotate_left
        · (intro w9 hSw; (try dsimp only at hSw); (go_split_ands; go_simp); (try with_reducible rfl))
        try simp only [Act.put, List.setIfInBounds_toArray, List.set_cons_zero, List.set_cons_succ]
        refine wpAnyH_take (i := 9) (oi := { dst := some 32, op := Op.load 3 (Operand.tmp 31), type := 3, pos := "outright.go:109", after := #[{ on := 8, ground := Ground.data }], guard := none }) (v := ?_) rfl (by kernel_rfl) (by kernel_rfl) (by kernel_rfl) (fun _ _ _ h => h) (Or.inl ⟨by rfl, ?_⟩) (by assumption) ?_
        rotate_left
        · (intro w9 hSw; (try dsimp only at hSw); (go_split_ands; go_simp); (try with_reducible rfl))
        try simp only [Act.put, List.setIfInBounds_toArray, List.set_cons_zero, List.set_cons_succ]
        refine wpAnyH_take (i := 12) (oi := { dst := some 35, op := Op.move (Operand.tmp 7), type := 37, pos := "outright.go:109", after := #[], guard := none }) (v := ?_) rfl (by kernel_rfl) (by kernel_rfl) (by kernel_rfl) (fun _ _ _ h => h) (Or.inl ⟨by rfl, ?_⟩) (by assumption) ?_
        rotate_left
        · (intro w9 hSw; (try dsimp only at hSw); (go_split_ands; go_simp); (try with_reducible rfl))
        try simp only [Act.put, List.setIfInBounds_toArray, List.set_cons_zero, List.set_cons_succ]
        refine wpAnyH_take (i := 13) (oi := { dst := some 36, op := Op.fieldAddr 58 (Operand.tmp 9) 4, type := 0, pos := "outright.go:109", after := #[], guard := none }) (v := ?_) rfl (by kernel_rfl) (by kernel_rfl) (by kernel_rfl) (fun _ _ _ h => h) (Or.inl ⟨by rfl, ?_⟩) (by assumption) ?_
        rotate_left
        · (intro w9 hSw; (try dsimp only at hSw); (go_split_ands; go_simp); (try with_reducible rfl))
        try simp only [Act.put, List.setIfInBounds_toArray, List.set_cons_zero, List.set_cons_succ]
        refine wpAnyH_take (i := 14) (oi := { dst := some 37, op := Op.fieldAddr 29 (Operand.tmp 36) 0, type := 0, pos := "outright.go:109", after := #[{ on := 13, ground := Ground.data }], guard := none }) (v := ?_) rfl (by kernel_rfl) (by kernel_rfl) (by kernel_rfl) (fun _ _ _ h => h) (Or.inl ⟨by rfl, ?_⟩) (by assumption) ?_
        rotate_left
        · (intro w9 hSw; (try dsimp only at hSw); (go_split_ands; go_simp); (try with_reducible rfl))
        try simp only [Act.put, List.setIfInBounds_toArray, List.set_cons_zero, List.set_cons_succ]
        refine wpAnyH_take (i := 15) (oi := { dst := some 38, op := Op.load 3 (Operand.tmp 37), type := 3, pos := "outright.go:109", after := #[{ on := 14, ground := Ground.data }], guard := none }) (v := ?_) rfl (by kernel_rfl) (by kernel_rfl) (by kernel_rfl) (fun _ _ _ h => h) (Or.inl ⟨by rfl, ?_⟩) (by assumption) ?_
        rotate_left
        · (intro w9 hSw; (try dsimp only at hSw); (go_split_ands; go_simp); (try with_reducible rfl))
        try simp only [Act.put, List.setIfInBounds_toArray, List.set_cons_zero, List.set_cons_succ]
        refine chains3 (c1 := ⟨4, 5, 27, 28, .tmp 23, .tmp 26, (T k).fl, u5, rowVals (fun i => (withK c b T i).fr) k⟩) (c2 := ⟨10, 11, 33, 34, .tmp 29, .tmp 32, (T k).th, u6, rowVals (fun i => (withK c b T i).to) k⟩) (c3 := ⟨16, 17, 39, 40, .tmp 35, .tmp 38, (T k).dl, u7, rowVals (fun i => (withK c b T i).td) k⟩) (VR := []) (by exact HO1.out.drew) (by kernel_rfl) (by kernel_rfl) (by kernel_rfl) ?_ ?_ ?_ ?_ ?_
        rotate_left 4
        · intro b1 g1 p1 b2 g2 p2 b3 g3 p3 W3 hO3 hHeld3
          try simp only [Act.put, List.setIfInBounds_toArray, List.set_cons_zero, List.set_cons_succ]
          refine wpAnyH_take (i := 18) (oi := { dst := some 5, op := Op.assign (Operand.tmp 28), type := 37, pos := "outright.go:109", after := #[{ on := 5, ground := Ground.data }, { on := 17, ground := Ground.chain }, { on := 0, ground := Ground.phase }, { on := 1, ground := Ground.phase }, { on := 2, ground := Ground.phase }, { on := 3, ground := Ground.phase }, { on := 4, ground := Ground.phase }, { on := 5, ground := Ground.phase }, { on := 6, ground := Ground.textOnly Departure.lateStores }, { on := 7, ground := Ground.textOnly Departure.lateStores }, { on := 8, ground := Ground.textOnly Departure.lateStores }, { on := 9, ground := Ground.textOnly Departure.lateStores }, { on := 10, ground := Ground.textOnly Departure.lateStores }, { on := 11, ground := Ground.textOnly Departure.lateStoresUnsure }, { on := 12, ground := Ground.textOnly Departure.lateStores }, { on := 13, ground := Ground.textOnly Departure.lateStores }, { on := 14, ground := Ground.textOnly Departure.lateStores }, { on := 15, ground := Ground.textOnly Departure.lateStores }, { on := 16, ground := Ground.textOnly Departure.lateStores }, { on := 17, ground := Ground.textOnly Departure.lateStoresUnsure }], guard := none }) (v := ?_) rfl (by kernel_rfl) (by kernel_rfl) (by kernel_rfl) (fun _ _ _ h => h) (Or.inl ⟨by rfl, ?_⟩) (by assumption) ?_
          rotate_left
          · (intro w9 hSw; (try dsimp only at hSw); (go_split_ands; go_simp); (try with_reducible rfl))
          try simp only [Act.put, List.setIfInBounds_toArray, List.set_cons_zero, List.set_cons_succ]
          refine wpAnyH_take (i := 19) (oi := { dst := some 6, op := Op.assign (Operand.tmp 34), type := 37, pos := "outright.go:109", after := #[{ on := 11, ground := Ground.data }, { on := 18, ground := Ground.chain }, { on := 0, ground := Ground.phase }, { on := 1, ground := Ground.phase }, { on := 2, ground := Ground.phase }, { on := 3, ground := Ground.phase }, { on := 4, ground := Ground.phase }, { on := 5, ground := Ground.phase }, { on := 6, ground := Ground.phase }, { on := 7, ground := Ground.phase }, { on := 8, ground := Ground.phase }, { on := 9, ground := Ground.phase }, { on := 10, ground := Ground.phase }, { on := 11, ground := Ground.phase }, { on := 12, ground := Ground.textOnly Departure.lateStores }, { on := 13, ground := Ground.textOnly Departure.lateStores }, { on := 14, ground := Ground.textOnly Departure.lateStores }, { on := 15, ground := Ground.textOnly Departure.lateStores }, { on := 16, ground := Ground.textOnly Departure.lateStores }, { on := 17, ground := Ground.textOnly Departure.lateStoresUnsure }, { on := 18, ground := Ground.phase }], guard := none }) (v := ?_) rfl (by kernel_rfl) (by kernel_rfl) (by kernel_rfl) (fun _ _ _ h => h) (Or.inl ⟨by rfl, ?_⟩) (by assumption) ?_
          rotate_left
          · (intro w9 hSw; (try dsimp only at hSw); (go_split_ands; go_simp); (try with_reducible rfl))
          try simp only [Act.put, List.setIfInBounds_toArray, List.set_cons_zero, List.set_cons_succ]
          refine wpAnyH_take (i := 20) (oi := { dst := some 7, op := Op.assign (Operand.tmp 40), type := 37, pos := "outright.go:109", after := #[{ on := 17, ground := Ground.data }, { on := 19, ground := Ground.chain }, { on := 0, ground := Ground.phase }, { on := 1, ground := Ground.phase }, { on := 2, ground := Ground.phase }, { on := 3, ground := Ground.phase }, { on := 4, ground := Ground.phase }, { on := 5, ground := Ground.phase }, { on := 6, ground := Ground.phase }, { on := 7, ground := Ground.phase }, { on := 8, ground := Ground.phase }, { on := 9, ground := Ground.phase }, { on := 10, ground := Ground.phase }, { on := 11, ground := Ground.phase }, { on := 12, ground := Ground.phase }, { on := 13, ground := Ground.phase }, { on := 14, ground := Ground.phase }, { on := 15, ground := Ground.phase }, { on := 16, ground := Ground.phase }, { on := 17, ground := Ground.phase }, { on := 18, ground := Ground.phase }, { on := 19, ground := Ground.phase }], guard := none }) (v := ?_) rfl (by kernel_rfl) (by kernel_rfl) (by kernel_rfl) (fun _ _ _ h => h) (Or.inl ⟨by rfl, ?_⟩) (by assumption) ?_
          rotate_left
          · (intro w9 hSw; (try dsimp only at hSw); (go_split_ands; go_simp); (try with_reducible rfl))
          try simp only [Act.put, List.setIfInBounds_toArray, List.set_cons_zero, List.set_cons_succ]
          refine wpAnyH_done (by kernel_rfl) ?_ _
          clear hHeld hHeld3
          have HZ := Lib.hid (Own.sub (KB' := []) (threeVS_snoc (by simp [withK, eq_of_beq HQ.out]) (by simp [withK, eq_of_beq HQ.out]) (by simp [withK, eq_of_beq HQ.out]) hO3) (fun e he => by cases he))
          clear hO3
          go_wp2_with fail
          simp only [rowVals_length]
          exact ⟨⟨k + 1, hlt, by go_num, by simpa using HZ.out⟩, by simp [intOf]; omega⟩
        · exact ⟨⟨_, rfl, rfl, rfl, rfl⟩, ⟨_, rfl, rfl, rfl, rfl⟩, (by rfl), (by rfl), (by rw [rowVals_length]; omega), (by simp)⟩
        · exact ⟨⟨_, rfl, rfl, rfl, rfl⟩, ⟨_, rfl, rfl, rfl, rfl⟩, (by rfl), (by rfl), (by rw [rowVals_length]; omega), (by simp)⟩
        · exact ⟨⟨_, rfl, rfl, rfl, rfl⟩, ⟨_, rfl, rfl, rfl, rfl⟩, (by rfl), (by rfl), (by rw [rowVals_length]; omega), (by simp)⟩
        · intro KB' VS' W' hk hO; have hb := hO.box _ (hk _ List.mem_cons_self); exact ⟨cellAt hb 2, cellAt hb 5, cellAt hb 6⟩
      | false =>
        go_wp2_with fail
        generalize hW : World.alloc _ _ = W at *
        clear hW k0 k1 k2 k3 k4 k5 k6 k7 hi hq
        have z1 := cellAt (HO1.out.box _ List.mem_cons_self) 3
        have z2 := cellAt (HO1.out.box _ List.mem_cons_self) 4
        have z3 := cellAt (HO1.out.box _ List.mem_cons_self) 7
        simp only [List.getElem?_toArray, List.getElem?_cons_zero, List.getElem?_cons_succ] at z1 z2 z3
        refine wp_region_held_drew (S := (fun w' => w'.cell? ⟨wr.heap.size, 3, none⟩ = some (.int .i64 (T k).fh) ∧ w'.cell? ⟨wr.heap.size, 4, none⟩ = some (.int .i64 (T k).tl) ∧ w'.cell? ⟨wr.heap.size, 7, none⟩ = some (.int .i64 (T k).dh))) (by kernel_rfl) (by exact ⟨z1, z2, z3⟩) (fun hHeld => ?_)
        refine wpAnyH_take (i := 0) (oi := { dst := some 41, op := Op.move (Operand.tmp 5), type := 37, pos := "outright.go:111", after := #[], guard := none }) (v := ?_) rfl (by kernel_rfl) (by kernel_rfl) (by kernel_rfl) (fun _ _ _ h => h) (Or.inl ⟨by rfl, ?_⟩) (by assumption) ?_
        rotate_left
        · (intro w9 hSw; (try dsimp only at hSw); (go_split_ands; go_simp); (try with_reducible rfl))
        try simp only [Act.put, List.setIfInBounds_toArray, List.set_cons_zero, List.set_cons_succ]
        refine wpAnyH_take (i := 1) (oi := { dst := some 42, op := Op.fieldAddr 58 (Operand.tmp 9) 2, type := 0, pos := "outright.go:111", after := #[], guard := none }) (v := ?_) rfl (by kernel_rfl) (by kernel_rfl) (by kernel_rfl) (fun _ _ _ h => h) (Or.inl ⟨by rfl, ?_⟩) (by assumption) ?_
        rotate_left
        · (intro w9 hSw; (try dsimp only at hSw); (go_split_ands; go_simp); (try with_reducible rfl))
        try simp only [Act.put, List.setIfInBounds_toArray, List.set_cons_zero, List.set_cons_succ]
        refine wpAnyH_take (i := 2) (oi := { dst := some 43, op := Op.fieldAddr 29 (Operand.tmp 42) 1, type := 0, pos := "outright.go:111", after := #[{ on := 1, ground := Ground.data }], guard := none }) (v := ?_) rfl (by kernel_rfl) (by kernel_rfl) (by kernel_rfl) (fun _ _ _ h => h) (Or.inl ⟨by rfl, ?_⟩) (by assumption) ?_
        rotate_left
        · (intro w9 hSw; (try dsimp only at hSw); (go_split_ands; go_simp); (try with_reducible rfl))
        try simp only [Act.put, List.setIfInBounds_toArray, List.set_cons_zero, List.set_cons_succ]
        refine wpAnyH_take (i := 3) (oi := { dst := some 44, op := Op.load 3 (Operand.tmp 43), type := 3, pos := "outright.go:111", after := #[{ on := 2, ground := Ground.data }], guard := none }) (v := ?_) rfl (by kernel_rfl) (by kernel_rfl) (by kernel_rfl) (fun _ _ _ h => h) (Or.inl ⟨by rfl, ?_⟩) (by assumption) ?_
        rotate_left
        · (intro w9 hSw; (try dsimp only at hSw); (go_split_ands; go_simp); (try with_reducible rfl))
        try simp only [Act.put, List.setIfInBounds_toArray, List.set_cons_zero, List.set_cons_succ]
        refine wpAnyH_take (i := 6) (oi := { dst := some 47, op := Op.move (Operand.tmp 6), type := 37, pos := "outright.go:111", after := #[], guard := none }) (v := ?_) rfl (by kernel_rfl) (by kernel_rfl) (by kernel_rfl) (fun _ _ _ h => h) (Or.inl ⟨by rfl, ?_⟩) (by assumption) ?_
        rotate_left
        · (intro w9 hSw; (try dsimp only at hSw); (go_split_ands; go_simp); (try with_reducible rfl))
        try simp only [Act.put, List.setIfInBounds_toArray, List.set_cons_zero, List.set_cons_succ]
        refine wpAnyH_take (i := 7) (oi := { dst := some 48, op := Op.fieldAddr 58 (Operand.tmp 9) 3, type := 0, pos := "outright.go:111", after := #[], guard := none }) (v := ?_) rfl (by kernel_rfl) (by kernel_rfl) (by kernel_rfl) (fun _ _ _ h => h) (Or.inl ⟨by rfl, ?_⟩) (by assumption) ?_
        rotate_left
        · (intro w9 hSw; (try dsimp only at hSw); (go_split_ands; go_simp); (try with_reducible rfl))
        try simp only [Act.put, List.setIfInBounds_toArray, List.set_cons_zero, List.set_cons_succ]
        refine wpAnyH_take (i := 8) (oi := { dst := some 49, op := Op.fieldAddr 29 (Operand.tmp 48) 0, type := 0, pos := "outright.go:111", after := #[{ on := 7, ground := Ground.data }], guard := none }) (v := ?_) rfl (by kernel_rfl) (by kernel_rfl) (by kernel_rfl) (fun _ _ _ h => h) (Or.inl ⟨by rfl, ?_⟩) (by assumption) ?_
        rotate_left
        · (intro w9 hSw; (try dsimp only at hSw); (go_split_ands; go_simp); (try with_reducible rfl))
        try simp only [Act.put, List.setIfInBounds_toArray, List.set_cons_zero, List.set_cons_succ]
        refine wpAnyH_take (i := 9) (oi := { dst := some 50, op := Op.load 3 (Operand.tmp 49), type := 3, pos := "outright.go:111", after := #[{ on := 8, ground := Ground.data }], guard := none }) (v := ?_) rfl (by kernel_rfl) (by kernel_rfl) (by kernel_rfl) (fun _ _ _ h => h) (Or.inl ⟨by rfl, ?_⟩) (by assumption) ?_
        rotate_left
        · (intro w9 hSw; (try dsimp only at hSw); (go_split_ands; go_simp); (try with_reducible rfl))
        try simp only [Act.put, List.setIfInBounds_toArray, List.set_cons_zero, List.set_cons_succ]
        refine wpAnyH_take (i := 12) (oi := { dst := some 53, op := Op.move (Operand.tmp 7), type := 37, pos := "outright.go:111", after := #[], guard := none }) (v := ?_) rfl (by kernel_rfl) (by kernel_rfl) (by kernel_rfl) (fun _ _ _ h => h) (Or.inl ⟨by rfl, ?_⟩) (by assumption) ?_
        rotate_left
        · (intro w9 hSw; (try dsimp only at hSw); (go_split_ands; go_simp); (try with_reducible rfl))
        try simp only [Act.put, List.setIfInBounds_toArray, List.set_cons_zero, List.set_cons_succ]
        refine wpAnyH_take (i := 13) (oi := { dst := some 54, op := Op.fieldAddr 58 (Operand.tmp 9) 4, type := 0, pos := "outright.go:111", after := #[], guard := none }) (v := ?_) rfl (by kernel_rfl) (by kernel_rfl) (by kernel_rfl) (fun _ _ _ h => h) (Or.inl ⟨by rfl, ?_⟩) (by assumption) ?_
        rotate_left
        · (intro w9 hSw; (try dsimp only at hSw); (go_split_ands; go_simp); (try with_reducible rfl))
        try simp only [Act.put, List.setIfInBounds_toArray, List.set_cons_zero, List.set_cons_succ]
        refine wpAnyH_take (i := 14) (oi := { dst := some 55, op := Op.fieldAddr 29 (Operand.tmp 54) 1, type := 0, pos := "outright.go:111", after := #[{ on := 13, ground := Ground.data }], guard := none }) (v := ?_) rfl (by kernel_rfl) (by kernel_rfl) (by kernel_rfl) (fun _ _ _ h => h) (Or.inl ⟨by rfl, ?_⟩) (by assumption) ?_
        rotate_left
        · (intro w9 hSw; (try dsimp only at hSw); (go_split_ands; go_simp); (try with_reducible rfl))
        try simp only [Act.put, List.setIfInBounds_toArray, List.set_cons_zero, List.set_cons_succ]
        refine wpAnyH_take (i := 15) (oi := { dst := some 56, op := Op.load 3 (Operand.tmp 55), type := 3, pos := "outright.go:111", after := #[{ on := 14, ground := Ground.data }], guard := none }) (v := ?_) rfl (by kernel_rfl) (by kernel_rfl) (by kernel_rfl) (fun _ _ _ h => h) (Or.inl ⟨by rfl, ?_⟩) (by assumption) ?_
        rotate_left
        · (intro w9 hSw; (try dsimp only at hSw); (go_split_ands; go_simp); (try with_reducible rfl))
        try simp only [Act.put, List.setIfInBounds_toArray, List.set_cons_zero, List.set_cons_succ]
        refine chains3 (c1 := ⟨4, 5, 45, 46, .tmp 41, .tmp 44, (T k).fh, u5, rowVals (fun i => (withK c b T i).fr) k⟩) (c2 := ⟨10, 11, 51, 52, .tmp 47, .tmp 50, (T k).tl, u6, rowVals (fun i => (withK c b T i).to) k⟩) (c3 := ⟨16, 17, 57, 58, .tmp 53, .tmp 56, (T k).dh, u7, rowVals (fun i => (withK c b T i).td) k⟩) (VR := []) (by exact HO1.out.drew) (by kernel_rfl) (by kernel_rfl) (by kernel_rfl) ?_ ?_ ?_ ?_ ?_
        rotate_left 4
        · intro b1 g1 p1 b2 g2 p2 b3 g3 p3 W3 hO3 hHeld3
          try simp only [Act.put, List.setIfInBounds_toArray, List.set_cons_zero, List.set_cons_succ]
          refine wpAnyH_take (i := 18) (oi := { dst := some 5, op := Op.assign (Operand.tmp 46), type := 37, pos := "outright.go:111", after := #[{ on := 5, ground := Ground.data }, { on := 17, ground := Ground.chain }, { on := 0, ground := Ground.phase }, { on := 1, ground := Ground.phase }, { on := 2, ground := Ground.phase }, { on := 3, ground := Ground.phase }, { on := 4, ground := Ground.phase }, { on := 5, ground := Ground.phase }, { on := 6, ground := Ground.textOnly Departure.lateStores }, { on := 7, ground := Ground.textOnly Departure.lateStores }, { on := 8, ground := Ground.textOnly Departure.lateStores }, { on := 9, ground := Ground.textOnly Departure.lateStores }, { on := 10, ground := Ground.textOnly Departure.lateStores }, { on := 11, ground := Ground.textOnly Departure.lateStoresUnsure }, { on := 12, ground := Ground.textOnly Departure.lateStores }, { on := 13, ground := Ground.textOnly Departure.lateStores }, { on := 14, ground := Ground.textOnly Departure.lateStores }, { on := 15, ground := Ground.textOnly Departure.lateStores }, { on := 16, ground := Ground.textOnly Departure.lateStores }, { on := 17, ground := Ground.textOnly Departure.lateStoresUnsure }], guard := none }) (v := ?_) rfl (by kernel_rfl) (by kernel_rfl) (by kernel_rfl) (fun _ _ _ h => h) (Or.inl ⟨by rfl, ?_⟩) (by assumption) ?_
          rotate_left
          · (intro w9 hSw; (try dsimp only at hSw); (go_split_ands; go_simp); (try with_reducible rfl))
          try simp only [Act.put, List.setIfInBounds_toArray, List.set_cons_zero, List.set_cons_succ]
          refine wpAnyH_take (i := 19) (oi := { dst := some 6, op := Op.assign (Operand.tmp 52), type := 37, pos := "outright.go:111", after := #[{ on := 11, ground := Ground.data }, { on := 18, ground := Ground.chain }, { on := 0, ground := Ground.phase }, { on := 1, ground := Ground.phase }, { on := 2, ground := Ground.phase }, { on := 3, ground := Ground.phase }, { on := 4, ground := Ground.phase }, { on := 5, ground := Ground.phase }, { on := 6, ground := Ground.phase }, { on := 7, ground := Ground.phase }, { on := 8, ground := Ground.phase }, { on := 9, ground := Ground.phase }, { on := 10, ground := Ground.phase }, { on := 11, ground := Ground.phase }, { on := 12, ground := Ground.textOnly Departure.lateStores }, { on := 13, ground := Ground.textOnly Departure.lateStores }, { on := 14, ground := Ground.textOnly Departure.lateStores }, { on := 15, ground := Ground.textOnly Departure.lateStores }, { on := 16, ground := Ground.textOnly Departure.lateStores }, { on := 17, ground := Ground.textOnly Departure.lateStoresUnsure }, { on := 18, ground := Ground.phase }], guard := none }) (v := ?_) rfl (by kernel_rfl) (by kernel_rfl) (by kernel_rfl) (fun _ _ _ h => h) (Or.inl ⟨by rfl, ?_⟩) (by assumption) ?_
          rotate_left
          · (intro w9 hSw; (try dsimp only at hSw); (go_split_ands; go_simp); (try with_reducible rfl))
          try simp only [Act.put, List.setIfInBounds_toArray, List.set_cons_zero, List.set_cons_succ]
          refine wpAnyH_take (i := 20) (oi := { dst := some 7, op := Op.assign (Operand.tmp 58), type := 37, pos := "outright.go:111", after := #[{ on := 17, ground := Ground.data }, { on := 19, ground := Ground.chain }, { on := 0, ground := Ground.phase }, { on := 1, ground := Ground.phase }, { on := 2, ground := Ground.phase }, { on := 3, ground := Ground.phase }, { on := 4, ground := Ground.phase }, { on := 5, ground := Ground.phase }, { on := 6, ground := Ground.phase }, { on := 7, ground := Ground.phase }, { on := 8, ground := Ground.phase }, { on := 9, ground := Ground.phase }, { on := 10, ground := Ground.phase }, { on := 11, ground := Ground.phase }, { on := 12, ground := Ground.phase }, { on := 13, ground := Ground.phase }, { on := 14, ground := Ground.phase }, { on := 15, ground := Ground.phase }, { on := 16, ground := Ground.phase }, { on := 17, ground := Ground.phase }, { on := 18, ground := Ground.phase }, { on := 19, ground := Ground.phase }], guard := none }) (v := ?_) rfl (by kernel_rfl) (by kernel_rfl) (by kernel_rfl) (fun _ _ _ h => h) (Or.inl ⟨by rfl, ?_⟩) (by assumption) ?_
          rotate_left
          · (intro w9 hSw; (try dsimp only at hSw); (go_split_ands; go_simp); (try with_reducible rfl))
          try simp only [Act.put, List.setIfInBounds_toArray, List.set_cons_zero, List.set_cons_succ]
          refine wpAnyH_done (by kernel_rfl) ?_ _
          clear hHeld hHeld3
          have HZ := Lib.hid (Own.sub (KB' := []) (threeVS_snoc (by simp [withK, ne_of_beq HQ.out]) (by simp [withK, ne_of_beq HQ.out]) (by simp [withK, ne_of_beq HQ.out]) hO3) (fun e he => by cases he))
          clear hO3
          go_wp2_with fail
          simp only [rowVals_length]
          exact ⟨⟨k + 1, hlt, by go_num, by simpa using HZ.out⟩, by simp [intOf]; omega⟩
        · exact ⟨⟨_, rfl, rfl, rfl, rfl⟩, ⟨_, rfl, rfl, rfl, rfl⟩, (by rfl), (by rfl), (by rw [rowVals_length]; omega), (by simp)⟩
        · exact ⟨⟨_, rfl, rfl, rfl, rfl⟩, ⟨_, rfl, rfl, rfl, rfl⟩, (by rfl), (by rfl), (by rw [rowVals_length]; omega), (by simp)⟩
        · exact ⟨⟨_, rfl, rfl, rfl, rfl⟩, ⟨_, rfl, rfl, rfl, rfl⟩, (by rfl), (by rfl), (by rw [rowVals_length]; omega), (by simp)⟩
        · intro KB' VS' W' hk hO; have hb := hO.box _ (hk _ List.mem_cons_self); exact ⟨cellAt hb 3, cellAt hb 4, cellAt hb 7⟩
    · obtain rfl : k = tn := by omega
      obtain ⟨o1, c1, rfl, i1, -⟩ := HO.out.ints (v := u5) (f := fun i => (withK c b T i).fr) (k := k) (by simp [threeVS]) (by unfold maxLen; omega)
      obtain ⟨o2, c2, rfl, i2, -⟩ := HO.out.ints (v := u6) (f := fun i => (withK c b T i).to) (k := k) (by simp [threeVS]) (by unfold maxLen; omega)
      obtain ⟨o3, c3, rfl, i3, -⟩ := HO.out.ints (v := u7) (f := fun i => (withK c b T i).td) (k := k) (by simp [threeVS]) (by unfold maxLen; omega)
      have J1 := Lib.hid i1
      have J2 := Lib.hid i2
      have J3 := Lib.hid i3
      clear i1 i2 i3
      go_wp2_with fail
      refine bodyPost_ret (v := .tuple #[.slice o1 k c1, .slice o2 k c2, .slice o3 k c3]) (by simp [results, Try.results38, go_sem]) rfl ⟨o1, c1, o2, c2, o3, c3, rfl, J1.out, J2.out, J3.out, HO.out.bel⟩
end Go.Proofs.Ytbpeamppkdmdcaa
