/-
  Ready, at what is ready.
-/
import Derived.Test.YtikeihnhkiipgaaD7
import Derived.Test.YtikeihnhkiipgaaAF
namespace Go.Proofs.Ytikeihnhkiipgaa
open Go.RowKit

/-- What stands in a function of gangs, a number, and an error to be answered. -/
structure FW (g : GN) (a : GA) (w : World) (n : Nat) (W : World) : Prop where
  oi : OI g a w W
  x : BoxAt W (w.heap.size + 1) #[.int .i64 n] 3
  e : BoxAt W (w.heap.size + 1 + 1) #[.int .i64 0] 34
theorem FW.grow {g : GN} {a : GA} {w W W' : World} {n : Nat} (h : FW g a w n W) (hb : Below W.heap.size W W') : FW g a w n W' := ⟨h.oi.grow hb, h.x.grow hb, h.e.grow hb⟩
theorem blocks3' {w W : World} {a b c : Obj} (h : ((w.alloc a).alloc b).alloc c = W) : W.heap[w.heap.size]? = some a ∧ W.heap[w.heap.size + 1]? = some b ∧ W.heap[w.heap.size + 2]? = some c ∧ Below w.heap.size w W := by
  subst h
  have e1 : (w.alloc a).heap.size = w.heap.size + 1 := sizeAlloc _ _
  have e2 : ((w.alloc a).alloc b).heap.size = w.heap.size + 2 := by rw [sizeAlloc, e1]
  refine ⟨?_, ?_, ?_, ((((Below.refl _ _).alloc (Nat.le_refl _) _).alloc (by omega) _).alloc (by omega) _)⟩
  · rw [heapAlloc, if_neg (by omega), heapAlloc, if_neg (by omega)]; exact heap_alloc_new w a
  · rw [heapAlloc, if_neg (by omega), ← e1]; exact heap_alloc_new _ b
  · rw [← e2]; exact heap_alloc_new _ c
theorem fw_start {g : GN} {a : GA} {w : World} {n : Nat} (hA : g.At a w) : FW g a w n (((w.alloc (.cells (g.cs a) 29)).alloc (.cells #[.int .i64 n] 3)).alloc (.cells #[.int .i64 0] 34)) := by
  obtain ⟨z0, z1, z2, hB⟩ := blocks3' (show ((w.alloc (.cells (g.cs a) 29)).alloc (.cells #[.int .i64 n] 3)).alloc (.cells #[.int .i64 0] 34) = _ from rfl)
  exact ⟨⟨hB, z0, hA.grow hB⟩, z1, z2⟩
section
variable (g : GN) (ok : g.Ok) (a : GA)
include ok
set_option maxRecDepth 100000 in
set_option maxHeartbeats 2000000 in
theorem gready_any (n : Nat) (hn : n < g.sn) (hr : g.rdy n < 10000) (w : World) (hA : g.At a w) :
    Calls Try.prog 10 #[.agg (g.cs a), .int .i64 n] w fun e w' => e = .returned (.tuple #[.int .i64 (g.rdy n), .int .i64 0]) ∧ Below w.heap.size w w' := by
  have I0 := Lib.hid (fw_start (n := n) hA)
  have C1 := Lib.hid (fun W (h : FW g a w n W) => gopen_any g ok a 41 #[bp (w.heap.size + 1)] W h.oi.at' (fun b W => by kernel_rfl) (fun b v W' hB hb => ready1_any g ok a b v (w.heap.size + 1) n hn W' hb (h.x.grow hB)))
  have hr' : (g.rdy n : Int) < 10000 := by omega
  clear hA ok hr
  unfold GN.cs at *
  go_enter_defers Try.func10, Try.ntmps10
  go_upto_region 2 with (fail)
  generalize World.alloc (World.alloc (World.alloc w _) _) _ = w0 at *
  have ID := Lib.hid (I0.out.grow (Below.drew (Below.refl w0.heap.size w0)))
  obtain ⟨q0, q1, q2, q3, q4, q5, q6⟩ := ID.out.oi.cells
  have x0 := cellAt ID.out.x 0
  simp only [List.getElem?_toArray, List.getElem?_cons_zero] at x0
  clear I0
  refine wp_region_noPanic ?_
  refine wp_region_stg (S := (fun w' => (w'.cell? ⟨w.heap.size + 1, 0, none⟩ = some (.int .i64 n)))) (L := [(2, (fun w' : World => w'.cell? ⟨w.heap.size, 0, none⟩ = some (.slice a.sa g.sn a.sc) ∧ w'.cell? ⟨w.heap.size, 1, none⟩ = some (.slice a.ca g.cn a.cc) ∧ w'.cell? ⟨w.heap.size, 2, none⟩ = some (.int .i64 g.p.H) ∧ w'.cell? ⟨w.heap.size, 3, none⟩ = some (.int .i64 g.p.fr) ∧ w'.cell? ⟨w.heap.size, 4, none⟩ = some (.int .i64 g.p.pe) ∧ w'.cell? ⟨w.heap.size, 5, none⟩ = some (.slice a.fa g.p.fn a.fc) ∧ w'.cell? ⟨w.heap.size, 6, none⟩ = some (.slice a.qa g.p.qn a.qc)))]) (D := [(2, 0)]) (by kernel_rfl) (by kernel_rfl) x0 (by intro e he; simp only [List.mem_cons, List.mem_nil_iff, or_false] at he; subst he; exact ⟨q0, q1, q2, q3, q4, q5, q6⟩) (fun hC0 hH0 => ?_)
  refine wpAnyT_take (i := 0) (oi := _) (v := ?_) rfl (by kernel_rfl) (by kernel_rfl) (by kernel_rfl) (fun _ _ _ h => h) (by kernel_rfl) (by rfl) hC0 (Or.inl ⟨by rfl, ?_⟩) hH0 (fun hC1 hH1 => ?_)
  rotate_left
  · (intro w9 hSw; obtain ⟨hSw, hLw⟩ := hSw; have hL := hLw _ (List.mem_singleton.2 rfl) (by kernel_rfl); dsimp only at hL; (try dsimp only at hSw); (go_split_ands; go_simp); (try with_reducible rfl))
  clear hC0 hH0
  try simp only [Act.put, List.setIfInBounds_toArray]
  refine wpAnyT_take (i := 1) (oi := _) (v := ?_) rfl (by kernel_rfl) (by kernel_rfl) (by kernel_rfl) (fun _ _ _ h => h) (by kernel_rfl) (by rfl) hC1 (Or.inl ⟨by rfl, ?_⟩) hH1 (fun hC2 hH2 => ?_)
  rotate_left
  · (intro w9 hSw; obtain ⟨hSw, hLw⟩ := hSw; clear hLw; (try dsimp only at hSw); (go_split_ands; go_simp); (try with_reducible rfl))
  clear hC1 hH1
  try simp only [Act.put]
  refine wpAnyT_take (i := 6) (oi := _) (v := ?_) rfl (by kernel_rfl) (by kernel_rfl) (by kernel_rfl) (fun _ _ _ h => h) (by kernel_rfl) (by rfl) hC2 (Or.inl ⟨by rfl, ?_⟩) hH2 (fun hC3 hH3 => ?_)
  rotate_left
  · (intro w9 hSw; obtain ⟨hSw, hLw⟩ := hSw; clear hLw; (try dsimp only at hSw); (go_split_ands; go_simp); (try with_reducible rfl))
  clear hC2 hH2
  try simp only [Act.put]
  refine wpAnyT_one (i := 2) (o := _) (by kernel_rfl) rfl (by kernel_rfl) hC3 (fun K hK => ?_)
  clear hC3 hH3
  go_simp
  (with_reducible refine (C1.out _ ID.out).mono ?_)
  rintro e w1 ⟨b, r, rc, rfl, -, hgw, hb1⟩
  have I1 := Lib.hid (ID.out.grow hb1)
  have G1 := Lib.hid hgw
  clear hgw hb1 x0 q0 q1 q2 q3 q4 q5 q6 ID C1
  go_wp2_with fail
  refine hK.out _ _ ?_ (fun hC4 hH4 => ?_)
  · exact ⟨cellAt I1.out.x 0, fun e he h => by simp only [List.mem_cons, List.mem_nil_iff, or_false] at he; subst he; exact absurd h (by intro hx; exact Bool.false_ne_true (hx.symm.trans (by kernel_rfl)))⟩
  clear hK K
  try simp only [Act.put, List.setIfInBounds_toArray, List.set_cons_zero, List.set_cons_succ]
  refine wpAnyT_take (i := 3) (oi := _) (v := ?_) rfl (by kernel_rfl) (by kernel_rfl) (by kernel_rfl) (fun _ _ _ h => h) (by kernel_rfl) (by rfl) hC4 (Or.inl ⟨by rfl, ?_⟩) hH4 (fun hC5 hH5 => ?_)
  rotate_left
  · (intro w9 hSw; obtain ⟨hSw, hLw⟩ := hSw; clear hLw; (try dsimp only at hSw); (go_split_ands; go_simp); (try with_reducible rfl))
  clear hC4 hH4
  try simp only [Act.put, List.setIfInBounds_toArray]
  refine wpAnyT_take (i := 4) (oi := _) (v := ?_) rfl (by kernel_rfl) (by kernel_rfl) (by kernel_rfl) (fun _ _ _ h => h) (by kernel_rfl) (by rfl) hC5 (Or.inl ⟨by rfl, ?_⟩) hH5 (fun hC6 hH6 => ?_)
  rotate_left
  · (intro w9 hSw; obtain ⟨hSw, hLw⟩ := hSw; clear hLw; (try dsimp only at hSw); (go_split_ands; go_simp); (try with_reducible rfl))
  clear hC5 hH5
  try simp only [Act.put]
  refine wpAnyT_one (i := 5) (o := _) (by kernel_rfl) rfl (by kernel_rfl) hC6 (fun K hK => ?_)
  clear hC6 hH6
  have z7 := G1.out.cells.2.2
  go_simp
  refine hK.out _ _ ?_ (fun hC7 hH7 => ?_)
  · exact ⟨cellAt I1.out.x 0, fun e he h => by simp only [List.mem_cons, List.mem_nil_iff, or_false] at he; subst he; exact absurd h (by intro hx; exact Bool.false_ne_true (hx.symm.trans (by kernel_rfl)))⟩
  clear hK K
  try simp only [Act.put, List.setIfInBounds_toArray, List.set_cons_zero, List.set_cons_succ]
  have hi := fun W => run_indexAt_row (w := W) (cap := rc) Try.underlying24 size_int (G1.out.rd.plain (by omega)) hn
  simp only [Nat.mul_one] at hi
  refine wpAnyT_one (i := 7) (o := _) (by kernel_rfl) rfl (by kernel_rfl) hC7 (fun K hK => ?_)
  clear hC7 hH7
  go_simp
  refine hK.out _ _ ?_ (fun hC8 hH8 => ?_)
  · exact ⟨cellAt I1.out.x 0, fun e he h => by simp only [List.mem_cons, List.mem_nil_iff, or_false] at he; subst he; exact absurd h (by intro hx; exact Bool.false_ne_true (hx.symm.trans (by kernel_rfl)))⟩
  clear hK K
  try simp only [Act.put, List.setIfInBounds_toArray, List.set_cons_zero, List.set_cons_succ]
  refine wpAnyT_one (i := 8) (o := _) (by kernel_rfl) rfl (by kernel_rfl) hC8 (fun K hK => ?_)
  clear hC8 hH8
  have zr := G1.out.rd.at hn
  go_simp
  refine hK.out _ _ ?_ (fun hC9 hH9 => ?_)
  · exact ⟨cellAt I1.out.x 0, fun e he h => by simp only [List.mem_cons, List.mem_nil_iff, or_false] at he; subst he; exact absurd h (by intro hx; exact Bool.false_ne_true (hx.symm.trans (by kernel_rfl)))⟩
  clear hK K
  try simp only [Act.put, List.setIfInBounds_toArray, List.set_cons_zero, List.set_cons_succ]
  refine wpAnyT_one (i := 9) (o := _) (by kernel_rfl) rfl (by kernel_rfl) hC9 (fun K hK => ?_)
  clear hC9 hH9
  go_simp
  refine hK.out _ _ ?_ (fun hC10 hH10 => ?_)
  · exact ⟨cellAt I1.out.x 0, fun e he h => by simp only [List.mem_cons, List.mem_nil_iff, or_false] at he; subst he; exact absurd h (by intro hx; exact Bool.false_ne_true (hx.symm.trans (by kernel_rfl)))⟩
  clear hK K
  try simp only [Act.put, List.setIfInBounds_toArray, List.set_cons_zero, List.set_cons_succ]
  refine wpAnyT_done (by kernel_rfl) ?_ _
  clear hC10 hH10
  refine NoPanic.normal ?_
  have r0 := cellAt I1.out.e 0
  have f0 := freeAt I1.out.e 0
  simp only [List.getElem?_toArray, List.getElem?_cons_zero] at r0
  clear z7 zr hi
  go_wp2_with (go_at_call 23; ((with_reducible refine (Ga.ask_true _ _).mono ?_); rintro e w' ⟨rfl, rfl⟩))
  have E2 := Lib.hid (I1.out.e.store 0 (.int .i64 0))
  have B2 := Lib.hid (I1.out.oi.bel.setCell (p := ⟨w.heap.size + 1 + 1, 0, none⟩) (by dsimp only; omega) (.int .i64 0))
  clear r0 f0
  generalize World.setCell _ _ _ = w2 at *
  have r0 := cellAt E2.out 0
  simp only [List.setIfInBounds_toArray, List.set_cons_zero, List.getElem?_toArray, List.getElem?_cons_zero] at r0
  refine leaves_cons (f := 17) (args := #[bp (w.heap.size + 1 + 1)]) (by simp) (by simp [go_sem]) ?_
  refine (Ga.answer_idle _ _).mono ?_
  rintro e u' w'' ⟨rfl, rfl, rfl⟩
  simp [Leaves, settle, results, Try.results10, go_sem, r0]
  exact B2.out
end
end Go.Proofs.Ytikeihnhkiipgaa
