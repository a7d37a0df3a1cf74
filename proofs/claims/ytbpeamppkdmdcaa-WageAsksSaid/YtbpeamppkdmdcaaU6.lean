/-
  Walks: the span of some numbers, by the reference.
-/
import Derived.Test.YtbpeamppkdmdcaaU3
import Derived.Test.YtbpeamppkdmdcaaN0
import Derived.Test.YtbpeamppkdmdcaaN4
import Derived.Deep.Light
namespace Go.Proofs.Ytbpeamppkdmdcaa
open Go.RowKit
attribute [local go_sem ↓] Go.wp_at_zero Go.wp_at_succ

def loF (f : Nat → Int) : Nat → Int
  | 0 => f 0
  | k + 1 => if f k < loF f k then f k else loF f k
def hiF (f : Nat → Int) : Nat → Int
  | 0 => f 0
  | k + 1 => if hiF f k < f k then f k else hiF f k
theorem size29 : (Try.prog.info? 29).map (·.size) = some 2 := by kernel_rfl
theorem pair_all (a b : Int) : (#[Value.int .i64 a, .int .i64 b] : Array Value).all (·.oneCell') = true := by simp [Value.oneCell']
structure HU (w : World) (oa : Option Addr) (n : Nat) (f : Nat → Int) (W : World) : Prop where
  bel : Below w.heap.size w W
  r : BoxAt W w.heap.size #[.int .i64 0, .int .i64 0] 29
  l : IntsAt W oa n f
theorem HU.grow {w : World} {oa : Option Addr} {n : Nat} {f : Nat → Int} {W W2 : World} (h : HU w oa n f W) (hb : Below W.heap.size W W2) : HU w oa n f W2 := ⟨h.bel.next hb, h.r.grow hb, h.l.grow hb⟩
theorem HU.own {w : World} {oa : Option Addr} {n : Nat} {f : Nat → Int} {W W2 : World} {b : Nat} (h : HU w oa n f W) (hg : W.grownBy W2 (some b)) (hb : w.heap.size < b) (hl : 0 < n → blk oa < w.heap.size) : HU w oa n f W2 :=
  ⟨h.bel.of_grown hg (by omega) h.bel.size, h.r.kept hg (by simp; omega), ⟨h.l.plain, fun hn => Nat.lt_of_lt_of_le (h.l.old hn) hg.size, h.l.small, fun i hi j hj => (World.cell?_of_block (hg.block _ (h.l.old (by omega)) (by have := hl (by omega); simp; omega))).trans (h.l.cells i hi j hj)⟩⟩

set_option maxRecDepth 100000 in
set_option maxHeartbeats 4000000 in
theorem hullR_any (oa : Option Addr) (n cap : Nat) (f : Nat → Int) (w : World) (hI : IntsAt w oa n f) (h0 : 0 < n) :
    Calls Try.prog 72 #[.slice oa n cap] w fun e w' => e = .returned (.agg #[.int .i64 (loF f n), .int .i64 (hiF f n)]) ∧ Below w.heap.size w w' := by
  have hsm := hI.small
  unfold maxLen at hsm
  have HO := Lib.hid hI.old
  have hba := ba w (.cells #[.int .i64 0, .int .i64 0] 29)
  have I0 := Lib.hid (show HU w oa n f (w.alloc (.cells #[.int .i64 0, .int .i64 0] 29)) from ⟨hba, heap_alloc_new _ _, hI.grow hba⟩)
  have hix : ∀ w, (Instr.indexAt 37 (.slice oa n cap) (.int .i64 0)).run Try.prog w = .ok (.pointer (some ⟨blk oa, ofs oa, none⟩)) w := fun w => by simpa using run_indexAt_row (w := w) (cap := cap) (k := 0) Try.underlying37 size3 (hI.plain h0) h0
  clear hba hI
  go_enter Try.func72, Try.ntmps72
  go_wp2_with fail
  generalize World.alloc w _ = W0 at *
  go_cut [3] from 5 to 11 (fun v W => ∃ b, v = bp b ∧ w.heap.size < b ∧ BoxAt W b #[.int .i64 (f 0), .int .i64 (f 0)] 29 ∧ HU w oa n f W)
  case first =>
    rename_i J1 K1 hJ hK1
    have HKK := Lib.hid (fun a' w' h => hK1 a' w' (Met.intro (hJ a' w' h)))
    clear hJ hK1
    go_light
    have P0 := Lib.hid (I0.out.grow (Below.drew (Below.refl _ _)))
    clear I0
    refine wp_region_held_drew (S := (fun w' => w'.cell? ⟨blk oa, ofs oa, none⟩ = some (.int .i64 (f 0)))) (by kernel_rfl) (by exact (by have h := P0.out.l.at h0; simpa using h)) (fun hHeld => ?_)
    generalize World.drew W0 = WW at *
    refine wpAnyH_take (i := 0) (oi := { dst := some 5, op := Op.move (Operand.tmp 0), type := 37, pos := "ref.go:138", after := #[], guard := none }) (v := ?_) rfl (by kernel_rfl) (by kernel_rfl) (by kernel_rfl) (fun _ _ _ h => h) (Or.inl ⟨by rfl, ?_⟩) (by assumption) ?_
    rotate_left
    · (intro w9 hSw; (try dsimp only at hSw); (go_split_ands; go_simp); (try with_reducible rfl))
    try simp only [Act.put, List.setIfInBounds_toArray, List.set_cons_zero, List.set_cons_succ]
    refine wpAnyH_take (i := 1) (oi := { dst := some 6, op := Op.indexAddr 37 (Operand.tmp 5) (Operand.const (Value.int IntKind.i64 0)), type := 0, pos := "ref.go:138", after := #[{ on := 0, ground := Ground.data }], guard := none }) (v := ?_) rfl (by kernel_rfl) (by kernel_rfl) (by kernel_rfl) (fun _ _ _ h => h) (Or.inl ⟨by rfl, ?_⟩) (by assumption) ?_
    rotate_left
    · (intro w9 hSw; (try dsimp only at hSw); (go_split_ands; go_simp); (try with_reducible rfl))
    try simp only [Act.put, List.setIfInBounds_toArray, List.set_cons_zero, List.set_cons_succ]
    refine wpAnyH_take (i := 2) (oi := { dst := some 7, op := Op.load 3 (Operand.tmp 6), type := 3, pos := "ref.go:138", after := #[{ on := 1, ground := Ground.data }], guard := none }) (v := ?_) rfl (by kernel_rfl) (by kernel_rfl) (by kernel_rfl) (fun _ _ _ h => h) (Or.inl ⟨by rfl, ?_⟩) (by assumption) ?_
    rotate_left
    · (intro w9 hSw; (try dsimp only at hSw); (go_split_ands; go_simp); (try with_reducible rfl))
    try simp only [Act.put, List.setIfInBounds_toArray, List.set_cons_zero, List.set_cons_succ]
    refine wpAnyH_take (i := 3) (oi := { dst := some 8, op := Op.move (Operand.tmp 0), type := 37, pos := "ref.go:138", after := #[], guard := none }) (v := ?_) rfl (by kernel_rfl) (by kernel_rfl) (by kernel_rfl) (fun _ _ _ h => h) (Or.inl ⟨by rfl, ?_⟩) (by assumption) ?_
    rotate_left
    · (intro w9 hSw; (try dsimp only at hSw); (go_split_ands; go_simp); (try with_reducible rfl))
    try simp only [Act.put, List.setIfInBounds_toArray, List.set_cons_zero, List.set_cons_succ]
    refine wpAnyH_take (i := 4) (oi := { dst := some 9, op := Op.indexAddr 37 (Operand.tmp 8) (Operand.const (Value.int IntKind.i64 0)), type := 0, pos := "ref.go:138", after := #[{ on := 3, ground := Ground.data }], guard := none }) (v := ?_) rfl (by kernel_rfl) (by kernel_rfl) (by kernel_rfl) (fun _ _ _ h => h) (Or.inl ⟨by rfl, ?_⟩) (by assumption) ?_
    rotate_left
    · (intro w9 hSw; (try dsimp only at hSw); (go_split_ands; go_simp); (try with_reducible rfl))
    try simp only [Act.put, List.setIfInBounds_toArray, List.set_cons_zero, List.set_cons_succ]
    refine wpAnyH_take (i := 5) (oi := { dst := some 10, op := Op.load 3 (Operand.tmp 9), type := 3, pos := "ref.go:138", after := #[{ on := 4, ground := Ground.data }], guard := none }) (v := ?_) rfl (by kernel_rfl) (by kernel_rfl) (by kernel_rfl) (fun _ _ _ h => h) (Or.inl ⟨by rfl, ?_⟩) (by assumption) ?_
    rotate_left
    · (intro w9 hSw; (try dsimp only at hSw); (go_split_ands; go_simp); (try with_reducible rfl))
    try simp only [Act.put, List.setIfInBounds_toArray, List.set_cons_zero, List.set_cons_succ]
    refine wpAnyH_take (i := 6) (oi := { dst := some 11, op := Op.build 29 #[(0, Operand.tmp 7), (1, Operand.tmp 10)], type := 29, pos := "ref.go:138", after := #[{ on := 2, ground := Ground.data }, { on := 5, ground := Ground.data }], guard := none }) (v := ?_) rfl (by kernel_rfl) (by kernel_rfl) (by kernel_rfl) (fun _ _ _ h => h) (Or.inl ⟨by rfl, ?_⟩) (by assumption) ?_
    rotate_left
    · (intro w9 hSw; (try dsimp only at hSw); (go_split_ands; go_simp); (try with_reducible rfl))
    try simp only [Act.put, List.setIfInBounds_toArray, List.set_cons_zero, List.set_cons_succ]
    refine wpAnyH_ready (rs := [7]) (by kernel_rfl) (by simp) ?_
    refine AllReadyH.cons (o := { dst := some 3, op := Op.alloc 29, type := 0, pos := "ref.go:138", after := #[], guard := none }) rfl (fun K hK => ?_) (AllReadyH.nil)
    clear hHeld
    go_simp
    go_wp2_with fail
    have P1 := Lib.hid (P0.out.grow (ba WW (.cells #[.int .i64 0, .int .i64 0] 29)))
    have B1 := Lib.hid (show BoxAt (WW.alloc (.cells #[.int .i64 0, .int .i64 0] 29)) WW.heap.size #[.int .i64 0, .int .i64 0] 29 from heap_alloc_new _ _)
    have lz := lt_of_heap P0.out.r
    generalize World.alloc WW _ = W1c at *
    refine hK.out _ _ ?_ (fun hHeld => ?_)
    · exact (by have h := P1.out.l.at h0; simpa using h)
    clear hK K
    try simp only [Act.put, List.setIfInBounds_toArray, List.set_cons_zero, List.set_cons_succ]
    refine wpAnyH_ready (rs := [8]) (by kernel_rfl) (by simp) ?_
    refine AllReadyH.cons (o := { dst := none, op := Op.store 29 (Operand.tmp 3) (Operand.tmp 11), type := 0, pos := "ref.go:138", after := #[{ on := 7, ground := Ground.data }, { on := 6, ground := Ground.data }, { on := 0, ground := Ground.phase }, { on := 1, ground := Ground.phase }, { on := 2, ground := Ground.phase }, { on := 3, ground := Ground.phase }, { on := 4, ground := Ground.phase }, { on := 5, ground := Ground.phase }, { on := 6, ground := Ground.phase }, { on := 7, ground := Ground.phase }], guard := none }) rfl (fun K hK => ?_) (AllReadyH.nil)
    clear hHeld
    refine step_store (by rfl) 29 (.tmp 3) (.tmp 11) (by rfl) (g := WW.heap.size) (cells := #[.int .i64 (f 0), .int .i64 (f 0)]) (by rfl) (by rfl) B1.out size29 (by rfl) (pair_all _ _) ?_
    intro W2c hz hg
    have B2 := Lib.hid hz
    have P2 := Lib.hid (P1.out.own hg lz HO.out)
    clear hz hg
    refine hK.out _ _ ?_ (fun hHeld => ?_)
    · exact (by have h := P2.out.l.at h0; simpa using h)
    clear hK K
    try simp only [Act.put]
    refine wpAnyH_done (by kernel_rfl) ?_ _
    refine HKK.out _ _ ?_
    (repeat apply Exists.intro)
    refine ⟨?_, rfl⟩
    exact ⟨_, rfl, lz, B2.out, P2.out⟩
  case rest =>
    obtain ⟨b, rfl, hb, hbx, hu⟩ := hcut
    have BX := Lib.hid hbx
    have UX := Lib.hid hu
    clear hbx hu hix I0
    go_wp2_with fail
    go_loopw [4] (fun v W => ∃ k : Nat, k ≤ n ∧ v = .int .i64 k ∧ BoxAt W b #[.int .i64 (loF f k), .int .i64 (hiF f k)] 29 ∧ HU w oa n f W) (fun v _ => n - (intOf v).toNat)
    case atStart => exact ⟨0, Nat.zero_le _, rfl, BX.out, UX.out⟩
    case round =>
      clear BX UX
      obtain ⟨k, hk, rfl, hbx, hu⟩ := hrel
      by_cases hlt : k < n
      · have hix := fun w => run_indexAt_row (w := w) (cap := cap) Try.underlying37 size3 (hu.l.plain h0) hlt
        simp only [Nat.mul_one] at hix
        have B0 := Lib.hid (BoxAt.grow hbx (Below.drew (Below.refl _ _)))
        have P0 := Lib.hid (hu.grow (Below.drew (Below.refl _ _)))
        have hsl : loF f (k + 1) = if f k < loF f k then f k else loF f k := rfl
        have hsh : hiF f (k + 1) = if hiF f k < f k then f k else hiF f k := rfl
        obtain ⟨lo, elo⟩ : ∃ lo, lo = loF f k := ⟨_, rfl⟩
        obtain ⟨hi, ehi⟩ : ∃ hi, hi = hiF f k := ⟨_, rfl⟩
        rw [← elo] at hsl B0
        rw [← ehi] at hsh B0
        obtain ⟨m1, hm1⟩ : ∃ m, (if f k < lo then f k else lo) = m := ⟨_, rfl⟩
        obtain ⟨m2, hm2⟩ : ∃ m, (if hi < f k then f k else hi) = m := ⟨_, rfl⟩
        rw [hm1] at hsl
        rw [hm2] at hsh
        have HL := Lib.hid hsl
        have HH := Lib.hid hsh
        clear hsl hsh elo ehi hbx hu
        go_wp2_with fail
        refine wp_region_stg (S := (fun w' => w'.cell? ⟨blk oa, ofs oa + k, none⟩ = some (.int .i64 (f k)))) (L := [(15, (fun w' : World => w'.cell? ⟨b, 0, none⟩ = some (.int .i64 lo) ∧ w'.cell? ⟨b, 1, none⟩ = some (.int .i64 hi)))]) (D := [(15, 1), (15, 8)]) (by kernel_rfl) (by kernel_rfl) (by exact P0.out.l.at hlt) (by intro e he; simp only [List.mem_cons, List.mem_nil_iff, or_false] at he; subst he; exact ⟨cellAt B0.out 0, cellAt B0.out 1⟩) (fun hC0 hH0 => ?_)
        refine wpAnyT_take (i := 0) (oi := { dst := some 18, op := Op.fieldAddr 29 (Operand.tmp 3) 0, type := 0, pos := "ref.go:140", after := #[], guard := none }) (v := ?_) rfl (by kernel_rfl) (by kernel_rfl) (by kernel_rfl) (fun _ _ _ h => h) (by kernel_rfl) (by rfl) hC0 (Or.inl ⟨by rfl, ?_⟩) hH0 (fun hC1 hH1 => ?_)
        rotate_left
        · (intro w9 hSw; obtain ⟨hSw, hLw⟩ := hSw; clear hLw; (try dsimp only at hSw); (go_split_ands; go_simp); (try with_reducible rfl))
        clear hC0 hH0
        try simp only [Act.put, List.setIfInBounds_toArray, List.set_cons_zero, List.set_cons_succ]
        refine wpAnyT_take (i := 1) (oi := { dst := some 19, op := Op.load 3 (Operand.tmp 18), type := 3, pos := "ref.go:140", after := #[{ on := 0, ground := Ground.data }], guard := none }) (v := ?_) rfl (by kernel_rfl) (by kernel_rfl) (by kernel_rfl) (fun _ _ _ h => h) (by kernel_rfl) (by rfl) hC1 (Or.inl ⟨by rfl, ?_⟩) hH1 (fun hC2 hH2 => ?_)
        rotate_left
        · (intro w9 hSw; obtain ⟨hSw, hLw⟩ := hSw; have hl15 := hLw _ List.mem_cons_self rfl; dsimp only at hl15; clear hLw; (try dsimp only at hSw); (go_split_ands; go_simp); (try with_reducible rfl))
        clear hC1 hH1
        try simp only [Act.put, List.setIfInBounds_toArray, List.set_cons_zero, List.set_cons_succ]
        refine wpAnyT_take (i := 2) (oi := { dst := some 20, op := Op.move (Operand.tmp 0), type := 37, pos := "ref.go:140", after := #[], guard := none }) (v := ?_) rfl (by kernel_rfl) (by kernel_rfl) (by kernel_rfl) (fun _ _ _ h => h) (by kernel_rfl) (by rfl) hC2 (Or.inl ⟨by rfl, ?_⟩) hH2 (fun hC3 hH3 => ?_)
        rotate_left
        · (intro w9 hSw; obtain ⟨hSw, hLw⟩ := hSw; clear hLw; (try dsimp only at hSw); (go_split_ands; go_simp); (try with_reducible rfl))
        clear hC2 hH2
        try simp only [Act.put, List.setIfInBounds_toArray, List.set_cons_zero, List.set_cons_succ]
        refine wpAnyT_take (i := 3) (oi := { dst := some 21, op := Op.move (Operand.tmp 4), type := 3, pos := "ref.go:140", after := #[], guard := none }) (v := ?_) rfl (by kernel_rfl) (by kernel_rfl) (by kernel_rfl) (fun _ _ _ h => h) (by kernel_rfl) (by rfl) hC3 (Or.inl ⟨by rfl, ?_⟩) hH3 (fun hC4 hH4 => ?_)
        rotate_left
        · (intro w9 hSw; obtain ⟨hSw, hLw⟩ := hSw; clear hLw; (try dsimp only at hSw); (go_split_ands; go_simp); (try with_reducible rfl))
        clear hC3 hH3
        try simp only [Act.put, List.setIfInBounds_toArray, List.set_cons_zero, List.set_cons_succ]
        refine wpAnyT_take (i := 4) (oi := { dst := some 22, op := Op.indexAddr 37 (Operand.tmp 20) (Operand.tmp 21), type := 0, pos := "ref.go:140", after := #[{ on := 2, ground := Ground.data }, { on := 3, ground := Ground.data }], guard := none }) (v := ?_) rfl (by kernel_rfl) (by kernel_rfl) (by kernel_rfl) (fun _ _ _ h => h) (by kernel_rfl) (by rfl) hC4 (Or.inl ⟨by rfl, ?_⟩) hH4 (fun hC5 hH5 => ?_)
        rotate_left
        · (intro w9 hSw; obtain ⟨hSw, hLw⟩ := hSw; clear hLw; (try dsimp only at hSw); (go_split_ands; go_simp); (try with_reducible rfl))
        clear hC4 hH4
        try simp only [Act.put, List.setIfInBounds_toArray, List.set_cons_zero, List.set_cons_succ]
        refine wpAnyT_take (i := 5) (oi := { dst := some 23, op := Op.load 3 (Operand.tmp 22), type := 3, pos := "ref.go:140", after := #[{ on := 4, ground := Ground.data }], guard := none }) (v := ?_) rfl (by kernel_rfl) (by kernel_rfl) (by kernel_rfl) (fun _ _ _ h => h) (by kernel_rfl) (by rfl) hC5 (Or.inl ⟨by rfl, ?_⟩) hH5 (fun hC6 hH6 => ?_)
        rotate_left
        · (intro w9 hSw; obtain ⟨hSw, hLw⟩ := hSw; clear hLw; (try dsimp only at hSw); (go_split_ands; go_simp); (try with_reducible rfl))
        clear hC5 hH5
        try simp only [Act.put, List.setIfInBounds_toArray, List.set_cons_zero, List.set_cons_succ]
        refine wpAnyT_take (i := 6) (oi := { dst := some 24, op := Op.call { callee := Callee.builtin Builtin.min, args := #[Operand.tmp 19, Operand.tmp 23], argTypes := #[3, 3] }, type := 3, pos := "ref.go:140", after := #[{ on := 1, ground := Ground.data }, { on := 5, ground := Ground.data }], guard := none }) (v := ?_) rfl (by kernel_rfl) (by kernel_rfl) (by kernel_rfl) (fun _ _ _ h => h) (by kernel_rfl) (by rfl) hC6 (Or.inl ⟨by rfl, ?_⟩) hH6 (fun hC7 hH7 => ?_)
        rotate_left
        · (intro w9 hSw; obtain ⟨hSw, hLw⟩ := hSw; clear hLw; (try dsimp only at hSw); (go_split_ands; go_simp); (try with_reducible rfl))
        clear hC6 hH6
        try simp only [Act.put, List.setIfInBounds_toArray, List.set_cons_zero, List.set_cons_succ]
        refine wpAnyT_take (i := 7) (oi := { dst := some 25, op := Op.fieldAddr 29 (Operand.tmp 3) 1, type := 0, pos := "ref.go:140", after := #[], guard := none }) (v := ?_) rfl (by kernel_rfl) (by kernel_rfl) (by kernel_rfl) (fun _ _ _ h => h) (by kernel_rfl) (by rfl) hC7 (Or.inl ⟨by rfl, ?_⟩) hH7 (fun hC8 hH8 => ?_)
        rotate_left
        · (intro w9 hSw; obtain ⟨hSw, hLw⟩ := hSw; clear hLw; (try dsimp only at hSw); (go_split_ands; go_simp); (try with_reducible rfl))
        clear hC7 hH7
        try simp only [Act.put, List.setIfInBounds_toArray, List.set_cons_zero, List.set_cons_succ]
        refine wpAnyT_take (i := 8) (oi := { dst := some 26, op := Op.load 3 (Operand.tmp 25), type := 3, pos := "ref.go:140", after := #[{ on := 7, ground := Ground.data }], guard := none }) (v := ?_) rfl (by kernel_rfl) (by kernel_rfl) (by kernel_rfl) (fun _ _ _ h => h) (by kernel_rfl) (by rfl) hC8 (Or.inl ⟨by rfl, ?_⟩) hH8 (fun hC9 hH9 => ?_)
        rotate_left
        · (intro w9 hSw; obtain ⟨hSw, hLw⟩ := hSw; have hl15 := hLw _ List.mem_cons_self rfl; dsimp only at hl15; clear hLw; (try dsimp only at hSw); (go_split_ands; go_simp); (try with_reducible rfl))
        clear hC8 hH8
        try simp only [Act.put, List.setIfInBounds_toArray, List.set_cons_zero, List.set_cons_succ]
        refine wpAnyT_take (i := 9) (oi := { dst := some 27, op := Op.move (Operand.tmp 0), type := 37, pos := "ref.go:140", after := #[], guard := none }) (v := ?_) rfl (by kernel_rfl) (by kernel_rfl) (by kernel_rfl) (fun _ _ _ h => h) (by kernel_rfl) (by rfl) hC9 (Or.inl ⟨by rfl, ?_⟩) hH9 (fun hC10 hH10 => ?_)
        rotate_left
        · (intro w9 hSw; obtain ⟨hSw, hLw⟩ := hSw; clear hLw; (try dsimp only at hSw); (go_split_ands; go_simp); (try with_reducible rfl))
        clear hC9 hH9
        try simp only [Act.put, List.setIfInBounds_toArray, List.set_cons_zero, List.set_cons_succ]
        refine wpAnyT_take (i := 10) (oi := { dst := some 28, op := Op.move (Operand.tmp 4), type := 3, pos := "ref.go:140", after := #[], guard := none }) (v := ?_) rfl (by kernel_rfl) (by kernel_rfl) (by kernel_rfl) (fun _ _ _ h => h) (by kernel_rfl) (by rfl) hC10 (Or.inl ⟨by rfl, ?_⟩) hH10 (fun hC11 hH11 => ?_)
        rotate_left
        · (intro w9 hSw; obtain ⟨hSw, hLw⟩ := hSw; clear hLw; (try dsimp only at hSw); (go_split_ands; go_simp); (try with_reducible rfl))
        clear hC10 hH10
        try simp only [Act.put, List.setIfInBounds_toArray, List.set_cons_zero, List.set_cons_succ]
        refine wpAnyT_take (i := 11) (oi := { dst := some 29, op := Op.indexAddr 37 (Operand.tmp 27) (Operand.tmp 28), type := 0, pos := "ref.go:140", after := #[{ on := 9, ground := Ground.data }, { on := 10, ground := Ground.data }], guard := none }) (v := ?_) rfl (by kernel_rfl) (by kernel_rfl) (by kernel_rfl) (fun _ _ _ h => h) (by kernel_rfl) (by rfl) hC11 (Or.inl ⟨by rfl, ?_⟩) hH11 (fun hC12 hH12 => ?_)
        rotate_left
        · (intro w9 hSw; obtain ⟨hSw, hLw⟩ := hSw; clear hLw; (try dsimp only at hSw); (go_split_ands; go_simp); (try with_reducible rfl))
        clear hC11 hH11
        try simp only [Act.put, List.setIfInBounds_toArray, List.set_cons_zero, List.set_cons_succ]
        refine wpAnyT_take (i := 12) (oi := { dst := some 30, op := Op.load 3 (Operand.tmp 29), type := 3, pos := "ref.go:140", after := #[{ on := 11, ground := Ground.data }], guard := none }) (v := ?_) rfl (by kernel_rfl) (by kernel_rfl) (by kernel_rfl) (fun _ _ _ h => h) (by kernel_rfl) (by rfl) hC12 (Or.inl ⟨by rfl, ?_⟩) hH12 (fun hC13 hH13 => ?_)
        rotate_left
        · (intro w9 hSw; obtain ⟨hSw, hLw⟩ := hSw; clear hLw; (try dsimp only at hSw); (go_split_ands; go_simp); (try with_reducible rfl))
        clear hC12 hH12
        try simp only [Act.put, List.setIfInBounds_toArray, List.set_cons_zero, List.set_cons_succ]
        refine wpAnyT_take (i := 13) (oi := { dst := some 31, op := Op.call { callee := Callee.builtin Builtin.max, args := #[Operand.tmp 26, Operand.tmp 30], argTypes := #[3, 3] }, type := 3, pos := "ref.go:140", after := #[{ on := 8, ground := Ground.data }, { on := 12, ground := Ground.data }], guard := none }) (v := ?_) rfl (by kernel_rfl) (by kernel_rfl) (by kernel_rfl) (fun _ _ _ h => h) (by kernel_rfl) (by rfl) hC13 (Or.inl ⟨by rfl, ?_⟩) hH13 (fun hC14 hH14 => ?_)
        rotate_left
        · (intro w9 hSw; obtain ⟨hSw, hLw⟩ := hSw; clear hLw; (try dsimp only at hSw); (go_split_ands; go_simp); (try with_reducible rfl))
        clear hC13 hH13
        try simp only [Act.put, List.setIfInBounds_toArray, List.set_cons_zero, List.set_cons_succ]
        refine wpAnyT_take (i := 14) (oi := { dst := some 32, op := Op.build 29 #[(0, Operand.tmp 24), (1, Operand.tmp 31)], type := 29, pos := "ref.go:140", after := #[{ on := 6, ground := Ground.data }, { on := 13, ground := Ground.data }], guard := none }) (v := ?_) rfl (by kernel_rfl) (by kernel_rfl) (by kernel_rfl) (fun _ _ _ h => h) (by kernel_rfl) (by rfl) hC14 (Or.inl ⟨by rfl, ?_⟩) hH14 (fun hC15 hH15 => ?_)
        rotate_left
        · (intro w9 hSw; obtain ⟨hSw, hLw⟩ := hSw; clear hLw; (try dsimp only at hSw); (go_split_ands; go_simp); (try with_reducible rfl))
        clear hC14 hH14
        try simp only [Act.put, List.setIfInBounds_toArray, List.set_cons_zero, List.set_cons_succ]
        refine wpAnyT_one (i := 15) (o := { dst := none, op := Op.store 29 (Operand.tmp 3) (Operand.tmp 32), type := 0, pos := "ref.go:140", after := #[{ on := 14, ground := Ground.data }, { on := 0, ground := Ground.phase }, { on := 1, ground := Ground.phase }, { on := 2, ground := Ground.phase }, { on := 3, ground := Ground.phase }, { on := 4, ground := Ground.phase }, { on := 5, ground := Ground.phase }, { on := 6, ground := Ground.phase }, { on := 7, ground := Ground.phase }, { on := 8, ground := Ground.phase }, { on := 9, ground := Ground.phase }, { on := 10, ground := Ground.phase }, { on := 11, ground := Ground.phase }, { on := 12, ground := Ground.phase }, { on := 13, ground := Ground.phase }, { on := 14, ground := Ground.phase }], guard := none }) (by kernel_rfl) rfl (by kernel_rfl) hC15 (fun K hK => ?_)
        clear hC15 hH15
        refine step_store (by rfl) 29 (.tmp 3) (.tmp 32) (by rfl) (g := b) (cells := #[.int .i64 m1, .int .i64 m2]) (by rfl) (by rfl) B0.out size29 (by rfl) (pair_all _ _) ?_
        intro W2c hz hg
        rw [← HL.out, ← HH.out] at hz
        have B2 := Lib.hid hz
        have P2 := Lib.hid (P0.out.own hg hb HO.out)
        clear hz hg
        refine hK.out _ _ ?_ (fun hC16 hH16 => ?_)
        · refine ⟨P2.out.l.at hlt, fun e he h => ?_⟩
          simp only [List.mem_cons, List.mem_nil_iff, or_false] at he; subst he
          exact absurd h (by intro hx; exact Bool.false_ne_true (hx.symm.trans (by kernel_rfl)))
        clear hK K
        try simp only [Act.put]
        refine wpAnyT_done (by kernel_rfl) ?_ _
        clear hC16 hH16
        go_wp2_with fail
        exact ⟨⟨k + 1, hlt, by go_num, B2.out, P2.out⟩, by simp [intOf]; omega⟩
      · obtain rfl : n = k := by omega
        have BX := Lib.hid hbx
        have UX := Lib.hid hu
        have c0 := cellAt hbx 0
        have c1 := cellAt hbx 1
        have r0 := cellAt hu.r 0
        have r1 := cellAt hu.r 1
        have f0 := freeAt hu.r 0
        have f1 := freeAt hu.r 1
        simp only [List.getElem?_toArray, List.getElem?_cons_zero, List.getElem?_cons_succ] at c0 c1 r0 r1
        clear hbx hu
        go_wp2_with fail
        have hst := ((UX.out.r.store 0 (.int .i64 (loF f n))).store 1 (.int .i64 (hiF f n)))
        have z0 := cellAt hst 0
        have z1 := cellAt hst 1
        simp at z0 z1
        refine bodyPost_ret (v := .agg #[.int .i64 (loF f n), .int .i64 (hiF f n)]) (by simp [results, Try.results72, go_sem, z0, z1]) rfl ⟨rfl, ?_⟩
        exact (UX.out.bel.setCell (by dsimp only; omega) _).setCell (by dsimp only; omega) _
end Go.Proofs.Ytbpeamppkdmdcaa
