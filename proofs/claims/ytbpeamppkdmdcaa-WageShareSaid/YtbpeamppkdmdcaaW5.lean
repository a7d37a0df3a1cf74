/-
  Walks: the library's stable sort of at most six numbers.
-/
import Derived.Test.YtbpeamppkdmdcaaW4
namespace Go.Proofs.Ytbpeamppkdmdcaa
open Go.RowKit

set_option maxRecDepth 100000 in
set_option maxHeartbeats 1000000 in
theorem stable_any (oa : Option Addr) (n cap bl : Nat) (k : Nat → Int) (w : World) (hn : n ≤ 6) (hp : 0 < n → oa = some ⟨blk oa, ofs oa, none⟩) (h : Tides w bl k) (hs : Nums w (blk oa) (ofs oa) n (fun m => m)) (hne : 0 < n → bl ≠ blk oa) :
    Calls Try.prog 104 #[.slice oa n cap, .int .i64 n, .func (.func 96) #[] #[.pointer (some ⟨bl, 0, none⟩)]] w (SortPost w (blk oa) (ofs oa) n k) := by
  have c := insertion_any oa n cap bl k w hn hp h hs hne
  have C := Lib.hid c
  have d1 : decide ((20 : Int) ≤ (n : Int)) = false := by simp; omega
  have d2 : decide ((20 : Int) < (n : Int)) = false := by simp; omega
  clear c hp h hs hne
  go_enter Try.func104, Try.ntmps104
  go_wp2_with fail
  refine wp_loop_rounds 1 ?_
  rw [rounds_succ]
  go_wp2_with fail
  refine C.out.mono ?_
  rintro e w' ⟨rfl, HX⟩
  have HX' := Lib.hid HX
  clear HX
  go_wp2_with fail
  refine wp_loop_rounds 1 ?_
  rw [rounds_succ]
  go_wp2_with fail
  go_end0
  exact ⟨rfl, HX'.out⟩

set_option maxHeartbeats 400000 in
theorem sortStable_any (oa : Option Addr) (n cap bl : Nat) (k : Nat → Int) (w : World) (hn : n ≤ 6) (hp : 0 < n → oa = some ⟨blk oa, ofs oa, none⟩) (h : Tides w bl k) (hs : Nums w (blk oa) (ofs oa) n (fun m => m)) (hne : 0 < n → bl ≠ blk oa) :
    Calls Try.prog 95 #[.slice oa n cap, .func (.func 96) #[] #[.pointer (some ⟨bl, 0, none⟩)]] w (SortPost w (blk oa) (ofs oa) n k) := by
  have C := Lib.hid (stable_any oa n cap bl k w hn hp h hs hne)
  clear hp h hs hne
  go_enter Try.func95, Try.ntmps95
  go_wp2_with fail
  refine C.out.mono ?_
  rintro e w' ⟨rfl, HX⟩
  have HX' := Lib.hid HX
  clear HX
  go_wp2_with fail
  go_end0
  exact ⟨rfl, HX'.out⟩
end Go.Proofs.Ytbpeamppkdmdcaa
