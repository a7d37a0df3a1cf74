/-
  Walks: what irons takes of a line: whose it is, and a claim.
-/
import Derived.Test.YtclbmlmlhiiaeaaGreatDoorQW6
namespace Go.Proofs.YtclbmlmlhiiaeaaGreatDoor
open Go.RowKit

/-- The box of 'number'. -/
def NumBox (W : World) (fb : Nat) : Prop := BoxAt W fb #[.func (.func 94) #[] #[]] 175
/-- The first word of irons. -/
def WhosePost (rb pb : Nat) (x : Array Value) (t : List UInt8) (w : World) (e : Ending) (w' : World) : Prop :=
  Keep (fun k => k < w.heap.size ∧ k ≠ rb ∧ k ≠ pb) w w' ∧ match numP t with
  | none => e = err 8
  | some (n, r) => e = .returned (.tuple #[]) ∧ RdAt w' rb r ∧ BoxAt w' pb (x.setIfInBounds 0 (.int .i64 n)) 34
set_option maxRecDepth 100000 in
set_option maxHeartbeats 2000000 in
theorem whose116_any (rb pb fb : Nat) (x0 x1 x2 x3 x4 : Value) (t : List UInt8) (w : World) (h : RdAt w rb t) (hp : BoxAt w pb #[x0, x1, x2, x3, x4] 34) (hf : NumBox w fb) (hne : pb ≠ rb) (hl : t.length ≤ 2000) :
    Calls Tryz.prog 116 #[bp pb, bp rb, bp fb] w (WhosePost rb pb #[x0, x1, x2, x3, x4] t w) := by
  have C0 := Lib.hid (number94_any rb t w h hl)
  have P0 := Lib.hid hp
  have d0 := cellAt hf 0
  have g0 := freeAt hf 0
  simp only [List.getElem?_toArray, List.getElem?_cons_zero] at d0
  clear h hp hf
  go_enter Tryz.func116, Tryz.ntmps116
  go_wp2_with fail
  refine C0.out.mono ?_
  intro e w1 hpost
  obtain ⟨ho, hw⟩ := hpost
  have hk := Keep.mono ho (fun k (hk : k < w.heap.size ∧ k ≠ rb ∧ k ≠ pb) => (⟨hk.1, hk.2.1⟩ : k < w.heap.size ∧ k ≠ rb))
  cases hr : numP t with
  | none =>
    rw [hr] at hw
    dsimp only at hw
    subst hw
    simp only [err]
    exact ⟨rfl, hk, by rw [hr]; rfl⟩
  | some p =>
    obtain ⟨n, r⟩ := p
    rw [hr] at hw
    obtain ⟨he, hrd⟩ := hw
    subst he
    have P1 := ho.box P0.out hne
    have c0 := cellAt P1 0
    have f0 := freeAt P1 0
    simp only [List.getElem?_toArray, List.getElem?_cons_zero] at c0
    have HP := Lib.hid P1
    have R1 := Lib.hid hrd
    have K1 := Lib.hid hk
    have HR := Lib.hid hr
    clear ho hrd hk hr P1 d0 g0
    go_wp2_with fail
    go_end0
    unfold WhosePost
    rw [HR.out]
    exact ⟨Keep.set K1.out _ _ _ (fun hh => hh.2.2 rfl), rfl, BoxAt.set R1.out _ _ (by dsimp only; exact hne), BoxAt.store HP.out 0 _⟩
end Go.Proofs.YtclbmlmlhiiaeaaGreatDoor

namespace Go.Proofs.YtclbmlmlhiiaeaaGreatDoor
open Go.RowKit

theorem sl32 : Tryz.prog.underlying 32 = some (.slice 82) := by kernel_rfl
theorem info82 : ∃ i, Tryz.prog.info? 82 = some i ∧ i.zero = some (.agg #[.int .i64 0, .int .i64 0, .bool false]) ∧ i.size = 3 ∧ i.bytes = 24 :=
  ⟨(Tryz.prog.info? 82).get (by kernel_rfl), by kernel_rfl, by kernel_rfl, by kernel_rfl, by kernel_rfl⟩
/-- A claim: who, of whom, and whether it is loud. -/
def claimRd (t : List UInt8) : Option ((Int × Int × Bool) × List UInt8) :=
  match numP t with
  | none => none
  | some (d, t1) => if Lib.hasPrefix t1 [32] then
      match numP (seesT (t1.drop 1) [33]) with
      | none => none
      | some (m, t3) => some ((d, m, Lib.hasPrefix (t1.drop 1) [33]), t3)
    else none
theorem seesT_le (t p : List UInt8) : (seesT t p).length ≤ t.length := by
  cases h : Lib.hasPrefix t p with
  | true => rw [seesT_yes h, List.length_drop]; omega
  | false => rw [seesT_no h]; exact Nat.le_refl _
/-- A claim, one more. -/
def ClaimPost (rb pb base : Nat) (x0 x1 x2 x3 v : Value) (xs : List Value) (n : Nat) (R : Option ((Int × Int × Bool) × List UInt8)) (w : World) (e : Ending) (w' : World) : Prop :=
  Keep (fun k => k < w.heap.size ∧ k ≠ rb ∧ k ≠ pb ∧ v.ownBlock ≠ some k) w w' ∧ match R with
  | none => e = err 8
  | some (s, r) => e = .returned (.tuple #[]) ∧ RdAt w' rb r ∧ ∃ v', BoxAt w' pb #[x0, x1, x2, x3, v'] 34 ∧ w'.ownsRow base 82 3 v' (n + 1) (xs ++ [.int .i64 s.1, .int .i64 s.2.1, .bool s.2.2]) ∧ (∀ g, v'.ownBlock = some g → v.ownBlock = some g ∨ w.heap.size ≤ g)
set_option maxRecDepth 100000 in
set_option maxHeartbeats 4000000 in
theorem claim119_any (rb pb fb base : Nat) (x0 x1 x2 x3 v : Value) (xs : List Value) (n : Nat) (t : List UInt8) (w : World) (h : RdAt w rb t) (hp : BoxAt w pb #[x0, x1, x2, x3, v] 34) (hf : NumBox w fb) (hfr : fb ≠ rb) (hne : pb ≠ rb)
    (hrb : v.ownBlock ≠ some rb) (hpb : v.ownBlock ≠ some pb) (hbase : base ≤ w.heap.size) (hv : w.ownsRow base 82 3 v n xs) (hn : n ≤ 1000000) (hl : t.length ≤ 2000) :
    Calls Tryz.prog 119 #[bp pb, bp rb, bp fb] w (ClaimPost rb pb base x0 x1 x2 x3 v xs n (claimRd t) w) := by
  have HS := Lib.hid (show claimRd t = (match numP t with
    | none => none
    | some (d, t1) => if Lib.hasPrefix t1 [32] then
        match numP (seesT (t1.drop 1) [33]) with
        | none => none
        | some (m, t3) => some ((d, m, Lib.hasPrefix (t1.drop 1) [33]), t3)
      else none) from rfl)
  have hrl0 := lt_of_heap h
  have hfl0 := lt_of_heap hf
  have P0 := Lib.hid hp
  have V0 := Lib.hid hv
  have F0 := Lib.hid hf
  have C0 := Lib.hid (number94_any rb t w h hl)
  have c0 := cellAt hf 0
  have f0 := freeAt hf 0
  simp only [List.getElem?_toArray, List.getElem?_cons_zero] at c0
  clear h hp hv hf
  go_enter Tryz.func119, Tryz.ntmps119
  go_wp2_with fail
  refine C0.out.mono ?_
  intro e w1 hpost
  obtain ⟨ho, hh⟩ := hpost
  cases hr : numP t with
  | none =>
    rw [hr] at hh
    dsimp only at hh
    subst hh
    simp only [err]
    exact ⟨rfl, ho.four, by rw [HS.out, hr]; rfl⟩
  | some p =>
  obtain ⟨d, t1⟩ := p
  rw [hr] at hh HS
  obtain ⟨he, hrd⟩ := hh
  subst he
  dsimp only at HS
  have hl1 := numP_shorter hr
  have hal := (Below.refl w1.heap.size w1).alloc (Nat.le_refl _) (.cells #[.int .i64 d, .int .i64 0, .bool false] 82)
  have O2 := Lib.hid (ho.trans (OffR.below hal))
  have F2 := Lib.hid (show NumBox (w1.alloc (.cells #[.int .i64 d, .int .i64 0, .bool false] 82)) fb from (ho.box F0.out hfr).grow hal)
  have S2 := Lib.hid (show BoxAt (w1.alloc (.cells #[.int .i64 d, .int .i64 0, .bool false] 82)) w1.heap.size #[.int .i64 d, .int .i64 0, .bool false] 82 from heap_alloc_new _ _)
  have R2 := Lib.hid (show RdAt (w1.alloc (.cells #[.int .i64 d, .int .i64 0, .bool false] 82)) rb t1 from BoxAt.grow hrd hal)
  have hs1 : w.heap.size ≤ w1.heap.size := ho.size
  clear ho hrd hal C0 hr c0 f0 F0
  go_upto_region 1 with (fail)
  generalize World.alloc w1 _ = w2 at *
  have C2 := Lib.hid (word_any rb t1 [32] w2 R2.out)
  go_wp2_with fail
  refine C2.out.mono ?_
  intro e w3 hpost
  obtain ⟨ho, hh⟩ := hpost
  cases hp1 : Lib.hasPrefix t1 [32] with
  | false =>
    rw [hp1] at hh
    have he : e = err 8 := hh
    subst he
    simp only [err]
    exact ⟨rfl, (O2.out.trans ho).four, by rw [HS.out, hp1]; rfl⟩
  | true =>
  rw [hp1] at hh
  obtain ⟨he, hrd⟩ := (show e = .returned (.tuple #[]) ∧ RdAt w3 rb (t1.drop 1) from hh)
  subst he
  have HS1 := Lib.hid (show claimRd t = (match numP (seesT (t1.drop 1) [33]) with
        | none => none
        | some (m, t3) => some ((d, m, Lib.hasPrefix (t1.drop 1) [33]), t3)) from by rw [HS.out, hp1]; rfl)
  have hd1 : (seesT (t1.drop 1) [33]).length ≤ 2000 := by have := seesT_le (t1.drop 1) [33]; rw [List.length_drop] at this; omega
  have O3 := Lib.hid (O2.out.trans ho)
  have F3 := Lib.hid (show NumBox w3 fb from ho.box F2.out hfr)
  have S3 := Lib.hid (ho.box S2.out (by omega))
  have C3 := Lib.hid (sees_any rb (t1.drop 1) [33] w3 hrd)
  have R3 := Lib.hid hrd
  clear ho hh hrd hp1 HS C2 R2 S2 O2 F2
  obtain ⟨bb, hbb⟩ : ∃ bb, Lib.hasPrefix (t1.drop 1) [33] = bb := ⟨_, rfl⟩
  rw [hbb] at C3 HS1
  go_upto_region 2 with (fail)
  go_wp2_with fail
  refine C3.out.mono ?_
  rintro e w4 ⟨rfl, rfl⟩
  have O4 := Lib.hid (O3.out.trans (OffR.set (rb := rb) (w := w3) (.string ⟨(seesT (t1.drop 1) [33]).toArray⟩)))
  have R4 := Lib.hid (R3.out.set (seesT (t1.drop 1) [33]))
  have F4 := Lib.hid (show NumBox (w3.setCell ⟨rb, 0, none⟩ (.string ⟨(seesT (t1.drop 1) [33]).toArray⟩)) fb from BoxAt.set F3.out _ _ (by dsimp only; exact fun h => hfr h.symm))
  have S4 := Lib.hid (S3.out.set ⟨rb, 0, none⟩ (.string ⟨(seesT (t1.drop 1) [33]).toArray⟩) (by dsimp only; omega))
  clear O3 R3 F3 S3 C3
  generalize World.setCell w3 _ _ = w4 at *
  have s2 := cellAt S4.out 2
  have sf2 := freeAt S4.out 2
  simp only [List.getElem?_toArray, List.getElem?_cons_zero, List.getElem?_cons_succ] at s2
  have O5 := Lib.hid (O4.out.other w1.heap.size 2 (.bool bb) hs1)
  have R5 := Lib.hid (show RdAt (w4.setCell ⟨w1.heap.size, 2, none⟩ (.bool bb)) rb (seesT (t1.drop 1) [33]) from BoxAt.set R4.out _ _ (by dsimp only; omega))
  have F5 := Lib.hid (show NumBox (w4.setCell ⟨w1.heap.size, 2, none⟩ (.bool bb)) fb from BoxAt.set F4.out _ _ (by dsimp only; omega))
  have S5 := Lib.hid (show BoxAt (w4.setCell ⟨w1.heap.size, 2, none⟩ (.bool bb)) w1.heap.size #[.int .i64 d, .int .i64 0, .bool bb] 82 from S4.out.store 2 _)
  go_upto_region 3 with (fail)
  clear O4 R4 F4 S4 s2 sf2
  generalize World.setCell w4 _ _ = w5 at *
  have C5 := Lib.hid (number94_any rb (seesT (t1.drop 1) [33]) w5 R5.out hd1)
  have c0 := cellAt F5.out 0
  have f0 := freeAt F5.out 0
  simp only [List.getElem?_toArray, List.getElem?_cons_zero] at c0
  go_wp2_with fail
  refine C5.out.mono ?_
  intro e w7 hpost
  obtain ⟨ho, hh⟩ := hpost
  cases hr : numP (seesT (t1.drop 1) [33]) with
  | none =>
    rw [hr] at hh
    dsimp only at hh
    subst hh
    simp only [err]
    exact ⟨rfl, (O5.out.trans ho).four, by rw [HS1.out, hr]; rfl⟩
  | some p =>
  obtain ⟨m, t3⟩ := p
  rw [hr] at hh HS1
  obtain ⟨he, hrd⟩ := hh
  subst he
  dsimp only at HS1
  have HS2 := Lib.hid HS1.out
  have S7 := Lib.hid (ho.box S5.out (by omega))
  have O8 := Lib.hid ((O5.out.trans ho).other w1.heap.size 1 (.int .i64 m) hs1)
  have R8 := Lib.hid (show RdAt (w7.setCell ⟨w1.heap.size, 1, none⟩ (.int .i64 m)) rb t3 from BoxAt.set hrd _ _ (by dsimp only; omega))
  have S8 := Lib.hid (show BoxAt (w7.setCell ⟨w1.heap.size, 1, none⟩ (.int .i64 m)) w1.heap.size #[.int .i64 d, .int .i64 m, .bool bb] 82 from S7.out.store 1 _)
  have s2 := cellAt S7.out 1
  have sf2 := freeAt S7.out 1
  simp only [List.getElem?_toArray, List.getElem?_cons_zero, List.getElem?_cons_succ] at s2
  clear ho hrd hr C5 S5 O5 R5 F5 HS1 c0 f0 hbb
  go_upto_region 4 with (fail)
  have hpw := lt_of_heap P0.out
  have P8 := Lib.hid (O8.out.box P0.out hne)
  have V8 := Lib.hid (O8.out.row V0.out hrb)
  have hvw := V0.out.lt
  have hs8 := O8.out.size
  have K8 := Lib.hid (OffR.four (pb := pb) (v := v) O8.out)
  generalize World.setCell w7 _ _ = w8 at *
  clear s2 sf2 S7 P0 V0 O8
  refine wp_region_stg (S := (fun _ => True)) (L := [(10, (fun w' : World => w'.cell? ⟨pb, 4, none⟩ = some v ∧ w'.cell? ⟨w1.heap.size, 0, none⟩ = some (.int .i64 d) ∧ w'.cell? ⟨w1.heap.size, 1, none⟩ = some (.int .i64 m) ∧ w'.cell? ⟨w1.heap.size, 2, none⟩ = some (.bool bb)))]) (D := [(10, 4), (10, 5)]) (by kernel_rfl) (by kernel_rfl) trivial (by intro e he; simp only [List.mem_cons, List.mem_nil_iff, or_false] at he; subst he; exact ⟨cellAt P8.out 4, cellAt S8.out 0, cellAt S8.out 1, cellAt S8.out 2⟩) (fun hC0 hH0 => ?_)
  have Pd := Lib.hid (show BoxAt w8.drew pb #[x0, x1, x2, x3, v] 34 from P8.out)
  have Sd := Lib.hid (show BoxAt w8.drew w1.heap.size #[.int .i64 d, .int .i64 m, .bool bb] 82 from S8.out)
  have Rd := Lib.hid (show RdAt w8.drew rb t3 from R8.out)
  have Vd := Lib.hid (V8.out.drew)
  have hk0 : Keep (fun k => k < w.heap.size ∧ k ≠ rb ∧ k ≠ pb ∧ v.ownBlock ≠ some k) w8 w8.drew := ⟨rfl, rfl, rfl, Nat.le_refl _, fun _ _ => rfl⟩
  have Kd := Lib.hid (K8.out.trans hk0)
  have hsd : w.heap.size ≤ w8.drew.heap.size := hs8
  generalize World.drew w8 = wd at *
  clear P8 S8 R8 V8 K8 hk0 hs8
  refine wpAnyT_take (i := 0) (oi := { dst := some 19, op := Op.move (Operand.tmp 0), type := 176, pos := "book.go:288", after := #[], guard := none }) (v := ?_) rfl (by kernel_rfl) (by kernel_rfl) (by kernel_rfl) (fun _ _ _ h => h) (by kernel_rfl) (by rfl) hC0 (Or.inl ⟨by rfl, ?_⟩) hH0 (fun hC1 hH1 => ?_)
  rotate_left
  · (intro w9 hSw; obtain ⟨hSw, hLw⟩ := hSw; clear hLw; (try dsimp only at hSw); (go_split_ands; go_simp); (try with_reducible rfl))
  clear hC0 hH0
  try simp only [Act.put, List.setIfInBounds_toArray, List.set_cons_zero, List.set_cons_succ]
  refine wpAnyT_take (i := 1) (oi := { dst := some 20, op := Op.move (Operand.tmp 0), type := 176, pos := "book.go:288", after := #[], guard := none }) (v := ?_) rfl (by kernel_rfl) (by kernel_rfl) (by kernel_rfl) (fun _ _ _ h => h) (by kernel_rfl) (by rfl) hC1 (Or.inl ⟨by rfl, ?_⟩) hH1 (fun hC2 hH2 => ?_)
  rotate_left
  · (intro w9 hSw; obtain ⟨hSw, hLw⟩ := hSw; clear hLw; (try dsimp only at hSw); (go_split_ands; go_simp); (try with_reducible rfl))
  clear hC1 hH1
  try simp only [Act.put, List.setIfInBounds_toArray, List.set_cons_zero, List.set_cons_succ]
  refine wpAnyT_take (i := 2) (oi := { dst := some 21, op := Op.nilCheck (Operand.tmp 20), type := 0, pos := "book.go:288", after := #[{ on := 1, ground := Ground.data }], guard := none }) (v := ?_) rfl (by kernel_rfl) (by kernel_rfl) (by kernel_rfl) (fun _ _ _ h => h) (by kernel_rfl) (by rfl) hC2 (Or.inl ⟨by rfl, ?_⟩) hH2 (fun hC3 hH3 => ?_)
  rotate_left
  · (intro w9 hSw; obtain ⟨hSw, hLw⟩ := hSw; clear hLw; (try dsimp only at hSw); (go_split_ands; go_simp); (try with_reducible rfl))
  clear hC2 hH2
  try simp only [Act.put, List.setIfInBounds_toArray, List.set_cons_zero, List.set_cons_succ]
  refine wpAnyT_take (i := 3) (oi := { dst := some 22, op := Op.fieldAddr 34 (Operand.tmp 21) 4, type := 0, pos := "book.go:288", after := #[{ on := 2, ground := Ground.data }], guard := none }) (v := ?_) rfl (by kernel_rfl) (by kernel_rfl) (by kernel_rfl) (fun _ _ _ h => h) (by kernel_rfl) (by rfl) hC3 (Or.inl ⟨by rfl, ?_⟩) hH3 (fun hC4 hH4 => ?_)
  rotate_left
  · (intro w9 hSw; obtain ⟨hSw, hLw⟩ := hSw; clear hLw; (try dsimp only at hSw); (go_split_ands; go_simp); (try with_reducible rfl))
  clear hC3 hH3
  try simp only [Act.put, List.setIfInBounds_toArray, List.set_cons_zero, List.set_cons_succ]
  refine wpAnyT_take (i := 4) (oi := { dst := some 23, op := Op.load 32 (Operand.tmp 22), type := 32, pos := "book.go:288", after := #[{ on := 3, ground := Ground.data }], guard := none }) (v := ?_) rfl (by kernel_rfl) (by kernel_rfl) (by kernel_rfl) (fun _ _ _ h => h) (by kernel_rfl) (by rfl) hC4 (Or.inl ⟨by rfl, ?_⟩) hH4 (fun hC5 hH5 => ?_)
  rotate_left
  · (intro w9 hSw; obtain ⟨hSw, hLw⟩ := hSw; have hl10 := hLw _ List.mem_cons_self rfl; dsimp only at hl10; clear hLw; (try dsimp only at hSw); (go_split_ands; go_simp); (try with_reducible rfl))
  clear hC4 hH4
  try simp only [Act.put, List.setIfInBounds_toArray, List.set_cons_zero, List.set_cons_succ]
  refine wpAnyT_take (i := 5) (oi := { dst := some 24, op := Op.load 82 (Operand.tmp 5), type := 82, pos := "book.go:288", after := #[], guard := none }) (v := ?_) rfl (by kernel_rfl) (by kernel_rfl) (by kernel_rfl) (fun _ _ _ h => h) (by kernel_rfl) (by rfl) hC5 (Or.inl ⟨by rfl, ?_⟩) hH5 (fun hC6 hH6 => ?_)
  rotate_left
  · (intro w9 hSw; obtain ⟨hSw, hLw⟩ := hSw; have hl10 := hLw _ List.mem_cons_self rfl; dsimp only at hl10; clear hLw; (try dsimp only at hSw); (go_split_ands; go_simp); (try with_reducible rfl))
  clear hC5 hH5
  try simp only [Act.put, List.setIfInBounds_toArray, List.set_cons_zero, List.set_cons_succ]
  refine wpAnyT_one (i := 6) (o := { dst := some 25, op := Op.buildSlice 32 1 #[(0, Operand.tmp 24)], type := 32, pos := "book.go:288", after := #[{ on := 5, ground := Ground.data }], guard := none }) (by kernel_rfl) rfl (by kernel_rfl) hC6 (fun K hK => ?_)
  clear hC6 hH6
  have hal := (Below.refl wd.heap.size wd).alloc (Nat.le_refl _) (.cells #[.int .i64 d, .int .i64 m, .bool bb] 82)
  have P9 := Lib.hid (show BoxAt (wd.alloc (.cells #[.int .i64 d, .int .i64 m, .bool bb] 82)) pb #[x0, x1, x2, x3, v] 34 from BoxAt.grow Pd.out hal)
  have S9 := Lib.hid (show BoxAt (wd.alloc (.cells #[.int .i64 d, .int .i64 m, .bool bb] 82)) w1.heap.size #[.int .i64 d, .int .i64 m, .bool bb] 82 from BoxAt.grow Sd.out hal)
  have R9 := Lib.hid (show RdAt (wd.alloc (.cells #[.int .i64 d, .int .i64 m, .bool bb] 82)) rb t3 from BoxAt.grow Rd.out hal)
  have V9 := Lib.hid (Vd.out.alloc (.cells #[.int .i64 d, .int .i64 m, .bool bb] 82))
  have B9 := Lib.hid (show BoxAt (wd.alloc (.cells #[.int .i64 d, .int .i64 m, .bool bb] 82)) wd.heap.size #[.int .i64 d, .int .i64 m, .bool bb] 82 from heap_alloc_new _ _)
  have K9 := Lib.hid (Kd.out.trans (Keep.of_below hal fun k (hk : k < w.heap.size ∧ k ≠ rb ∧ k ≠ pb ∧ v.ownBlock ≠ some k) => Nat.lt_of_lt_of_le hk.1 hsd))
  have hs9 : w.heap.size ≤ (wd.alloc (.cells #[.int .i64 d, .int .i64 m, .bool bb] 82)).heap.size := Nat.le_trans hsd hal.size
  go_simp
  go_wp2_with fail
  generalize World.alloc wd _ = w9 at *
  clear Pd Rd Vd Kd Sd hal
  refine hK.out _ _ ?_ (fun hC7 hH7 => ?_)
  · exact ⟨trivial, fun e he _ => by simp only [List.mem_cons, List.mem_nil_iff, or_false] at he; subst he; exact ⟨cellAt P9.out 4, cellAt S9.out 0, cellAt S9.out 1, cellAt S9.out 2⟩⟩
  clear hK K
  try simp only [Act.put, List.setIfInBounds_toArray, List.set_cons_zero, List.set_cons_succ]
  refine wpAnyT_one (i := 7) (o := { dst := some 26, op := Op.call { callee := Callee.builtin Builtin.append, args := #[Operand.tmp 23, Operand.tmp 25], argTypes := #[32, 32] }, type := 32, pos := "book.go:288", after := #[{ on := 4, ground := Ground.data }, { on := 6, ground := Ground.data }], guard := none }) (by kernel_rfl) rfl (by kernel_rfl) hC7 (fun K hK => ?_)
  clear hC7 hH7
  obtain ⟨i0, hi0, hz0, hz1, hz2⟩ := info82
  refine step_appRow (w := w9) sl32 hi0 hz0 hz1 hz2 (by rfl) (by decide) (by decide) (by rfl) (.tmp 23) (.tmp 25) (by rfl) (v := v) (xs := xs) (base := base) (n := n) (by rfl) V9.out (b := wd.heap.size) (us := [.int .i64 d, .int .i64 m, .bool bb]) (by rfl) B9.out (by rfl) (by intro u hu; simp only [List.mem_cons, List.mem_nil_iff, or_false] at hu; rcases hu with rfl | rfl | rfl <;> rfl) hn (Nat.le_trans hbase hs9) ?_
  intro g cap wA hw hg hor
  have hpv : (some pb : Option Nat) ≠ v.ownBlock := fun e => hpb e.symm
  have hrv : (some rb : Option Nat) ≠ v.ownBlock := fun e => hrb e.symm
  have hsv : (some w1.heap.size : Option Nat) ≠ v.ownBlock := fun e => by have := (hvw _ e.symm).2; omega
  have PA := Lib.hid (P9.out.kept hg hpv)
  have SA := Lib.hid (S9.out.kept hg hsv)
  have RA := Lib.hid (show RdAt wA rb t3 from BoxAt.kept R9.out hg hrv)
  have KA := Lib.hid (K9.out.trans (⟨hg.os, hg.tape, hg.output, hg.size, fun k (hk : k < w.heap.size ∧ k ≠ rb ∧ k ≠ pb ∧ v.ownBlock ≠ some k) => hg.block k (Nat.lt_of_lt_of_le hk.1 hs9) (fun e => hk.2.2.2 e.symm)⟩))
  have VA := Lib.hid hw
  clear hw hg hpv hrv hsv P9 R9 K9 V9 B9 S9
  refine hK.out _ _ ?_ (fun hC8 hH8 => ?_)
  · exact ⟨trivial, fun e he _ => by simp only [List.mem_cons, List.mem_nil_iff, or_false] at he; subst he; exact ⟨cellAt PA.out 4, cellAt SA.out 0, cellAt SA.out 1, cellAt SA.out 2⟩⟩
  clear hK K
  try simp only [Act.put, List.setIfInBounds_toArray, List.set_cons_zero, List.set_cons_succ]
  refine wpAnyT_take (i := 8) (oi := { dst := some 27, op := Op.nilCheck (Operand.tmp 19), type := 0, pos := "book.go:288", after := #[{ on := 0, ground := Ground.data }, { on := 0, ground := Ground.phase }, { on := 1, ground := Ground.phase }, { on := 2, ground := Ground.phase }, { on := 3, ground := Ground.phase }, { on := 4, ground := Ground.phase }, { on := 5, ground := Ground.phase }, { on := 6, ground := Ground.phase }, { on := 7, ground := Ground.phase }], guard := none }) (v := ?_) rfl (by kernel_rfl) (by kernel_rfl) (by kernel_rfl) (fun _ _ _ h => h) (by kernel_rfl) (by rfl) hC8 (Or.inl ⟨by rfl, ?_⟩) hH8 (fun hC9 hH9 => ?_)
  rotate_left
  · (intro w9 hSw; obtain ⟨hSw, hLw⟩ := hSw; clear hLw; (try dsimp only at hSw); (go_split_ands; go_simp); (try with_reducible rfl))
  clear hC8 hH8
  try simp only [Act.put, List.setIfInBounds_toArray, List.set_cons_zero, List.set_cons_succ]
  refine wpAnyT_take (i := 9) (oi := { dst := some 28, op := Op.fieldAddr 34 (Operand.tmp 27) 4, type := 0, pos := "book.go:288", after := #[{ on := 8, ground := Ground.data }, { on := 0, ground := Ground.phase }, { on := 1, ground := Ground.phase }, { on := 2, ground := Ground.phase }, { on := 3, ground := Ground.phase }, { on := 4, ground := Ground.phase }, { on := 5, ground := Ground.phase }, { on := 6, ground := Ground.phase }, { on := 7, ground := Ground.phase }], guard := none }) (v := ?_) rfl (by kernel_rfl) (by kernel_rfl) (by kernel_rfl) (fun _ _ _ h => h) (by kernel_rfl) (by rfl) hC9 (Or.inl ⟨by rfl, ?_⟩) hH9 (fun hC10 hH10 => ?_)
  rotate_left
  · (intro w9 hSw; obtain ⟨hSw, hLw⟩ := hSw; clear hLw; (try dsimp only at hSw); (go_split_ands; go_simp); (try with_reducible rfl))
  clear hC9 hH9
  try simp only [Act.put, List.setIfInBounds_toArray, List.set_cons_zero, List.set_cons_succ]
  refine wpAnyT_one (i := 10) (o := { dst := none, op := Op.store 32 (Operand.tmp 28) (Operand.tmp 26), type := 0, pos := "book.go:288", after := #[{ on := 9, ground := Ground.data }, { on := 7, ground := Ground.data }, { on := 7, ground := Ground.chain }, { on := 0, ground := Ground.phase }, { on := 1, ground := Ground.phase }, { on := 2, ground := Ground.phase }, { on := 3, ground := Ground.phase }, { on := 4, ground := Ground.phase }, { on := 5, ground := Ground.phase }, { on := 6, ground := Ground.phase }, { on := 7, ground := Ground.phase }], guard := none }) (by kernel_rfl) rfl (by kernel_rfl) hC10 (fun K hK => ?_)
  clear hC10 hH10
  have c0 := cellAt PA.out 4
  have f0 := freeAt PA.out 4
  simp only [List.getElem?_toArray, List.getElem?_cons_zero, List.getElem?_cons_succ] at c0
  go_simp
  go_wp2_with fail
  refine hK.out _ _ ?_ (fun hC11 hH11 => ?_)
  · exact ⟨trivial, fun e he h => by simp only [List.mem_cons, List.mem_nil_iff, or_false] at he; subst he; exact absurd h (by intro hx; exact Bool.false_ne_true (hx.symm.trans (by kernel_rfl)))⟩
  clear hK K
  try simp only [Act.put]
  refine wpAnyT_done (by kernel_rfl) ?_ _
  clear hC11 hH11
  go_end0
  have hsp : OffR pb wA (wA.setCell ⟨pb, 4, none⟩ (.slice (some ⟨g, 0, none⟩) (n + 1) cap)) := Keep.set (Keep.refl _ _) _ _ _ (fun h => h.2 rfl)
  unfold ClaimPost
  rw [HS2.out]
  exact ⟨Keep.set KA.out _ _ _ (fun hh => hh.2.2.1 rfl), rfl, BoxAt.set RA.out _ _ hne, _, BoxAt.store PA.out 4 _, hsp.row VA.out (fun e => by cases e; rcases hor with h | h; exact hpb h; exact absurd (Nat.lt_of_lt_of_le hpw (Nat.le_trans hs9 (Nat.le_of_eq h.symm))) (Nat.lt_irrefl _)), fun g' e => by
    cases e
    rcases hor with h | h
    · exact .inl h
    · exact .inr (Nat.le_trans hs9 (Nat.le_of_eq h.symm))⟩
end Go.Proofs.YtclbmlmlhiiaeaaGreatDoor
