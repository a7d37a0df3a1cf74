/-
  Walks: what is owned by whom, in a truth.
-/
import Derived.Test.YtbpeamppkdmdcaaL
import Derived.Deep.AppendLies
namespace Go.Proofs.Ytbpeamppkdmdcaa
open Go.RowKit

theorem size58 : (Try.prog.info? 58).map (·.size) = some 8 := by kernel_rfl
theorem size52 : (Try.prog.info? 52).map (·.size) = some 2 := by kernel_rfl
theorem info3 : (Try.prog.info? 3).map (fun i => (i.zero, i.size, i.bytes)) = some (some (.int .i64 0), 1, 8) := by kernel_rfl

/-- A truth: an interface value whose method 'of' tells what each ticket is. -/
structure Truth (w0 : World) (ty : TypeId) (v : Value) (fn : FuncId) (tn : Nat) (T : Nat → Tk) (K : Nat → Kn) : Prop where
  meth : ∀ w, (method 267 ty v "caulkworks/wage.of").run Try.prog w = .ok (fn, v) w
  enter : ∀ args w, (callFunc fn args).run Try.prog w = .ok (.enter fn args) w
  call : ∀ i, i < tn → ∀ W, Below w0.heap.size w0 W → Calls Try.prog fn #[v, .int .i64 (i : Int), (T i).v] W fun e w' => e = .returned (K i).v ∧ Below W.heap.size W w'

/-- The box of the wages: its three cells. -/
def BoxAt (wr : World) (b : Nat) (x : Array Value) (t : TypeId) : Prop := wr.heap[b]? = some (.cells x t (0, 0))
theorem BoxAt.kept {w w' : World} {b : Nat} {x : Array Value} {t : TypeId} {row : Option Nat} (h : BoxAt w b x t) (hg : w.grownBy w' row) (hne : some b ≠ row) : BoxAt w' b x t :=
  (hg.block b (lt_of_heap h) hne).trans h
theorem BoxAt.grow {w w' : World} {b : Nat} {x : Array Value} {t : TypeId} (h : BoxAt w b x t) (hb : Below w.heap.size w w') : BoxAt w' b x t :=
  (hb.block b (lt_of_heap h)).trans h

theorem own_ne {w : World} {base n : Nat} {e : TypeId} {sz : Nat} {v : Value} {xs : List Value} (h : w.ownsRow base e sz v n xs) {b : Nat} (hb : b < base) : some b ≠ v.ownBlock := fun e => by
  have := (h.lt b e.symm).1
  omega
theorem step_fun (K : Nat → Kn) (k : Nat) : setk (fun i => if i < k then K i else ⟨0, 0, 0⟩) k (K k) = fun i => if i < k + 1 then K i else ⟨0, 0, 0⟩ := by
  funext i
  unfold setk
  by_cases e : i = k
  · subst e; simp
  · by_cases h : i < k
    · simp [e, h, show i < k + 1 by omega]
    · simp [e, h, show ¬ i < k + 1 by omega]

def Own1 (w : World) (x : Array Value) (tn : Nat) (K : Nat → Kn) (v i : Value) (wr : World) : Prop :=
  ∃ k : Nat, k ≤ tn ∧ i = .int .i64 k ∧ wr.ownsRow (w.heap.size + 2) 3 1 v k (numVals k) ∧ Larr wr (w.heap.size + 1) (fun i => if i < k then K i else ⟨0, 0, 0⟩) ∧ BoxAt wr w.heap.size x 77 ∧ Below w.heap.size w wr ∧ w.heap.size + 2 ≤ wr.heap.size

theorem Nums.grow {w w' : World} {b o n : Nat} {g : Nat → Nat} {B : Nat} (h : Nums w b o n g) (hb : Below B w w') (hB : 0 < n → b < B) : Nums w' b o n g :=
  ⟨fun i hi => (hb.cell (p := ⟨b, o + i, none⟩) (hB (by omega))).trans (h.cell i hi), fun i hi => (hb.frozen (p := ⟨b, o + i, none⟩) (hB (by omega))).trans (h.free i hi)⟩
theorem Nums.kept {w w' : World} {b o n : Nat} {g : Nat → Nat} {row : Option Nat} (h : Nums w b o n g) (hg : w.grownBy w' row) (hb : 0 < n → b < w.heap.size ∧ some b ≠ row) : Nums w' b o n g :=
  ⟨fun i hi => (World.cell?_of_block (a := ⟨b, o + i, none⟩) (hg.block b (hb (by omega)).1 (hb (by omega)).2)).trans (h.cell i hi), fun i hi => (World.frozen?_of_block (a := ⟨b, o + i, none⟩) (hg.block b (hb (by omega)).1 (hb (by omega)).2)).trans (h.free i hi)⟩

/-- All that 'owned' has made lies as it should. -/
structure OwnInv (w : World) (x : Array Value) (oa : Option Addr) (k : Nat) (Kf : Nat → Kn) (g : Nat → Nat) (B n : Nat) (G : Int → Int → Nat) (wr : World) : Prop where
  larr : Larr wr (w.heap.size + 1) Kf
  box : BoxAt wr w.heap.size x 77
  nums : Nums wr (blk oa) (ofs oa) k g
  numlt : 0 < k → blk oa < wr.heap.size
  map : MapAt wr B n G
  bel : Below w.heap.size w wr
  hB : w.heap.size + 2 ≤ B
  ne : 0 < k → blk oa ≠ B
theorem OwnInv.grow {w : World} {x : Array Value} {oa : Option Addr} {k : Nat} {Kf : Nat → Kn} {g : Nat → Nat} {B n : Nat} {G : Int → Int → Nat} {wr wr' : World} (h : OwnInv w x oa k Kf g B n G wr) (hb : Below wr.heap.size wr wr') : OwnInv w x oa k Kf g B n G wr' :=
  ⟨h.larr.grow hb, h.box.grow hb, h.nums.grow hb h.numlt, fun hk => Nat.lt_of_lt_of_le (h.numlt hk) hb.size, h.map.grow hb, h.bel.trans (hb.mono (by have := h.box; exact Nat.le_of_lt (lt_of_heap this))), h.hB, h.ne⟩
theorem OwnInv.store {w : World} {x : Array Value} {oa : Option Addr} {k : Nat} {Kf : Nat → Kn} {g : Nat → Nat} {B n n' : Nat} {G G' : Int → Int → Nat} {wr wr' : World} (h : OwnInv w x oa k Kf g B n G wr) (hg : wr.grownBy wr' (some B)) (hm : MapAt wr' B n' G') : OwnInv w x oa k Kf g B n' G' wr' :=
  ⟨h.larr.kept hg (by have := h.hB; simp; omega), h.box.kept hg (by have := h.hB; simp; omega), h.nums.kept hg (fun hk => ⟨h.numlt hk, by have := h.ne hk; simpa using this⟩), fun hk => Nat.lt_of_lt_of_le (h.numlt hk) hg.size, hm, h.bel.grown hg (by have := lt_of_heap h.box; omega) (fun j e => by cases e; have := h.hB; omega), h.hB, h.ne⟩

/-- What nobody has, of the first j seams, before the first ticket. -/
def seamG (S : Nat → Sm) (j : Nat) : Int → Int → Nat := fun s c => if c = -1 ∧ 0 ≤ s ∧ s < j then 2 ^ (S s.toNat).fat.toNat - 1 else 0
theorem seamG_zero (S : Nat → Sm) : seamG S 0 = fun _ _ => 0 := by
  funext s c
  simp [seamG]
  omega
theorem seamG_succ (S : Nat → Sm) (j : Nat) : seamG S (j + 1) = upd (seamG S j) j (-1) (2 ^ (S j).fat.toNat - 1) := by
  funext s c
  unfold upd
  by_cases h : s = j ∧ c = -1
  · obtain ⟨rfl, rfl⟩ := h
    simp only [seamG, and_self, if_true, Int.toNat_natCast]
    rw [if_pos ⟨trivial, by omega, by omega⟩]
  · rw [if_neg h]
    unfold seamG
    by_cases hc : c = -1 ∧ 0 ≤ s ∧ s < j
    · rw [if_pos hc, if_pos (by omega)]
    · rw [if_neg hc, if_neg (by omega)]

theorem full_lt (f : Int) (h : f ≤ 20) : 2 ^ f.toNat - 1 < 4294967296 := by
  have : 2 ^ f.toNat ≤ 2 ^ 20 := Nat.pow_le_pow_right (by omega) (by omega)
  omega
theorem full_val (f : Int) (h : f ≤ 20) : ((2 : Int) ^ f.toNat - 1) % 4294967296 = ((2 ^ f.toNat - 1 : Nat) : Int) := by
  have h1 := full_lt f h
  have h2 : 0 < 2 ^ f.toNat := Nat.two_pow_pos _
  rw [Int.natCast_sub (by omega)]
  simp only [Int.natCast_pow, Int.natCast_one]
  have h3 : ((2 ^ f.toNat : Nat) : Int) = (2 : Int) ^ f.toNat := by simp
  have h4 : (2 : Int) ^ f.toNat < 4294967297 := by rw [← h3]; omega
  have h5 : (0 : Int) < (2 : Int) ^ f.toNat := Int.pow_pos (by omega)
  exact Int.emod_eq_of_lt (by omega) (by omega)

def Own2 (w : World) (x : Array Value) (oa : Option Addr) (k : Nat) (Kf : Nat → Kn) (g : Nat → Nat) (B : Nat) (S : Nat → Sm) (sn : Nat) (i : Value) (wr : World) : Prop :=
  ∃ j : Nat, j ≤ sn ∧ i = .int .i64 j ∧ OwnInv w x oa k Kf g B j (seamG S j) wr

/-- One ticket more. -/
def ownOf (T : Nat → Tk) (K : Nat → Kn) (i : Nat) (G : Int → Int → Nat) : Nat := fmask (K i).fr (K i).to &&& G (T i).seam (-1)
def leftG (T : Nat → Tk) (K : Nat → Kn) (i : Nat) (G : Int → Int → Nat) : Int → Int → Nat := upd G (T i).seam (-1) (G (T i).seam (-1) &&& (4294967295 - ownOf T K i G))
def stepG (T : Nat → Tk) (K : Nat → Kn) (i : Nat) (G : Int → Int → Nat) : Int → Int → Nat :=
  upd (leftG T K i G) (T i).seam (T i).crew (leftG T K i G (T i).seam (T i).crew ||| ownOf T K i G)
def foldG (S : Nat → Sm) (sn : Nat) (T : Nat → Tk) (K : Nat → Kn) (g : Nat → Nat) : Nat → Int → Int → Nat
  | 0 => seamG S sn
  | m + 1 => stepG T K (g m) (foldG S sn T K g m)

def SmallG (G : Int → Int → Nat) : Prop := ∀ s c, G s c < 1048576
theorem SmallG.upd {G : Int → Int → Nat} (h : SmallG G) (s c : Int) {v : Nat} (hv : v < 1048576) : SmallG (upd G s c v) := fun s' c' => by
  unfold Ytbpeamppkdmdcaa.upd
  split
  · exact hv
  · exact h s' c'
theorem ownOf_lt {G : Int → Int → Nat} (h : SmallG G) (T : Nat → Tk) (K : Nat → Kn) (i : Nat) : ownOf T K i G < 1048576 := Nat.lt_of_le_of_lt Nat.and_le_right (h _ _)
theorem SmallG.left {G : Int → Int → Nat} (h : SmallG G) (T : Nat → Tk) (K : Nat → Kn) (i : Nat) : SmallG (leftG T K i G) := h.upd _ _ (Nat.lt_of_le_of_lt Nat.and_le_left (h _ _))
theorem SmallG.step {G : Int → Int → Nat} (h : SmallG G) (T : Nat → Tk) (K : Nat → Kn) (i : Nat) : SmallG (stepG T K i G) :=
  (h.left T K i).upd _ _ (Nat.or_lt_two_pow (n := 20) (h.left T K i _ _) (ownOf_lt h T K i))
theorem SmallG.seam (S : Nat → Sm) (sn : Nat) (h : ∀ j, j < sn → 0 ≤ (S j).fat ∧ (S j).fat ≤ 20) : SmallG (seamG S sn) := fun s c => by
  unfold seamG
  split
  · rename_i hc
    have := (h s.toNat (by omega)).2
    have : 2 ^ (S s.toNat).fat.toNat ≤ 2 ^ 20 := Nat.pow_le_pow_right (by omega) (by omega)
    omega
  · omega
theorem SmallG.fold (S : Nat → Sm) (sn : Nat) (T : Nat → Tk) (K : Nat → Kn) (g : Nat → Nat) (h : ∀ j, j < sn → 0 ≤ (S j).fat ∧ (S j).fat ≤ 20) : ∀ m, SmallG (foldG S sn T K g m)
  | 0 => SmallG.seam S sn h
  | m + 1 => (SmallG.fold S sn T K g h m).step T K (g m)

structure TkOk (sn : Nat) (t : Tk) : Prop where
  c0 : 0 ≤ t.crew
  c1 : t.crew ≤ 3
  s0 : 0 ≤ t.seam
  s1 : t.seam < sn
structure KnOk (k : Kn) : Prop where
  f0 : 0 ≤ k.fr
  f1 : k.fr ≤ 20
  t0 : 0 ≤ k.to
  t1 : k.to ≤ 20

/-- In the third loop: beside it, the boxes of the ticket and of the place. -/
structure Inv3 (w : World) (x : Array Value) (oa : Option Addr) (k : Nat) (Kf : Nat → Kn) (g : Nat → Nat) (B n : Nat) (G : Int → Int → Nat) (b1 : Nat) (x1 : Array Value) (b2 : Nat) (x2 : Array Value) (wr : World) : Prop where
  inv : OwnInv w x oa k Kf g B n G wr
  tk : BoxAt wr b1 x1 58
  pl : BoxAt wr b2 x2 99
theorem Inv3.grow {w : World} {x : Array Value} {oa : Option Addr} {k : Nat} {Kf : Nat → Kn} {g : Nat → Nat} {B n : Nat} {G : Int → Int → Nat} {b1 b2 : Nat} {x1 x2 : Array Value} {wr wr' : World} (h : Inv3 w x oa k Kf g B n G b1 x1 b2 x2 wr) (hb : Below wr.heap.size wr wr') : Inv3 w x oa k Kf g B n G b1 x1 b2 x2 wr' :=
  ⟨h.inv.grow hb, h.tk.grow hb, h.pl.grow hb⟩
theorem Inv3.store {w : World} {x : Array Value} {oa : Option Addr} {k : Nat} {Kf : Nat → Kn} {g : Nat → Nat} {B n n' : Nat} {G G' : Int → Int → Nat} {b1 b2 : Nat} {x1 x2 : Array Value} {wr wr' : World} (h : Inv3 w x oa k Kf g B n G b1 x1 b2 x2 wr) (hg : wr.grownBy wr' (some B)) (hm : MapAt wr' B n' G') (h1 : b1 ≠ B) (h2 : b2 ≠ B) : Inv3 w x oa k Kf g B n' G' b1 x1 b2 x2 wr' :=
  ⟨h.inv.store hg hm, h.tk.kept hg (by simpa using h1), h.pl.kept hg (by simpa using h2)⟩

theorem eqs3 {w : World} {x : Array Value} {oa : Option Addr} {k : Nat} {K : Nat → Kn} {g : Nat → Nat} {B n : Nat} {G : Int → Int → Nat} {b1 b2 : Nat} {x1 : Array Value} {T : Nat → Tk} {i j : Nat} {wr : World} (hi : i < k) (hk : k ≤ 6) (hok : TkOk j (T i)) (hj : j ≤ 3)
    (h : Inv3 w x oa k (fun i => if i < k then K i else ⟨0, 0, 0⟩) g B n G b1 x1 b2 #[.int .i64 (T i).seam, .int .i64 (-1)] wr) :
    wr.cell? ⟨w.heap.size + 1, i * 3, none⟩ = some (.int .i64 (K i).fr) ∧ wr.cell? ⟨w.heap.size + 1, i * 3 + 1, none⟩ = some (.int .i64 (K i).to) ∧ wr.cell? ⟨w.heap.size + 1, i * 3 + 2, none⟩ = some (.int .i64 (K i).td) ∧
    wr.cell? ⟨b2, 0, none⟩ = some (.int .i64 (T i).seam) ∧ wr.cell? ⟨b2, 1, none⟩ = some (.int .i64 (-1)) ∧
    (Instr.lookup 96 (.map (some B)) (.agg #[.int .i64 (T i).seam, .int .i64 (-1)]) false).run Try.prog wr = .ok (.int .u32 (G (T i).seam (-1))) wr := by
  have a0 := h.inv.larr.fr i (by omega)
  have a1 := h.inv.larr.to i (by omega)
  have a2 := h.inv.larr.td i (by omega)
  simp only [hi, if_true] at a0 a1 a2
  have := hok.s0
  have := hok.s1
  exact ⟨a0, a1, a2, cellAt h.pl 0, cellAt h.pl 1, h.inv.map.look ⟨by omega, by omega, by omega, by omega⟩⟩
theorem both3 {w : World} {x : Array Value} {oa : Option Addr} {k : Nat} {K : Nat → Kn} {g : Nat → Nat} {B n : Nat} {G : Int → Int → Nat} {b1 b2 : Nat} {x1 : Array Value} {T : Nat → Tk} {i j : Nat} {wr : World} (hi : i < k) (hk : k ≤ 6) (hok : TkOk j (T i)) (hj : j ≤ 3)
    (h : Inv3 w x oa k (fun i => if i < k then K i else ⟨0, 0, 0⟩) g B n G b1 x1 b2 #[.int .i64 (T i).seam, .int .i64 (-1)] wr) :
    (wr.cell? ⟨w.heap.size + 1, i * 3, none⟩ = some (.int .i64 (K i).fr) ∧ wr.cell? ⟨w.heap.size + 1, i * 3 + 1, none⟩ = some (.int .i64 (K i).to) ∧ wr.cell? ⟨w.heap.size + 1, i * 3 + 2, none⟩ = some (.int .i64 (K i).td) ∧
    wr.cell? ⟨b2, 0, none⟩ = some (.int .i64 (T i).seam) ∧ wr.cell? ⟨b2, 1, none⟩ = some (.int .i64 (-1)) ∧
    (Instr.lookup 96 (.map (some B)) (.agg #[.int .i64 (T i).seam, .int .i64 (-1)]) false).run Try.prog wr = .ok (.int .u32 (G (T i).seam (-1))) wr) ∧
    Inv3 w x oa k (fun i => if i < k then K i else ⟨0, 0, 0⟩) g B n G b1 x1 b2 #[.int .i64 (T i).seam, .int .i64 (-1)] wr := ⟨eqs3 hi hk hok hj h, h⟩

def Own3 (w : World) (x : Array Value) (oa : Option Addr) (k : Nat) (Kf : Nat → Kn) (g : Nat → Nat) (B : Nat) (S : Nat → Sm) (sn : Nat) (T : Nat → Tk) (K : Nat → Kn) (i : Value) (wr : World) : Prop :=
  ∃ m n : Nat, m ≤ k ∧ n ≤ sn + 2 * m ∧ i = .int .i64 m ∧ OwnInv w x oa k Kf g B n (foldG S sn T K g m) wr

/-- What 'owned' hands back: a map of its own, of what each crew has of each seam when the tickets have come by their tides. -/
def OwnedPost (w : World) (S : Nat → Sm) (sn : Nat) (T : Nat → Tk) (K : Nat → Kn) (tn : Nat) (e : Ending) (w' : World) : Prop :=
  ∃ B n G, e = .returned (.map (some B)) ∧ MapAt w' B n G ∧ Below w.heap.size w w' ∧ w.heap.size ≤ B ∧ ∃ g, Pre (fun i => (K i).td) tn tn g ∧ G = foldG S sn T K g tn

set_option maxRecDepth 100000 in
set_option maxHeartbeats 2000000 in
theorem owned_any (cr : Int) (sa ta : Option Addr) (sn sc tn tc : Nat) (S : Nat → Sm) (T : Nat → Tk) (K : Nat → Kn) (w : World) (hS : SeamsAt w sa sn S) (hT : TicketsAt w ta tn T) (hs : sn ≤ 3) (ht : tn ≤ 6) (hSf : ∀ j, j < sn → 0 ≤ (S j).fat ∧ (S j).fat ≤ 20) (hTok : ∀ i, i < tn → TkOk sn (T i)) (hKok : ∀ i, i < tn → KnOk (K i))
    (ty : TypeId) (v : Value) (fn : FuncId) (htr : Truth w ty v fn tn T K) :
    Calls Try.prog 61 #[.agg #[.int .i64 cr, .slice sa sn sc, .slice ta tn tc], .iface ty v] w (OwnedPost w S sn T K tn) := by
  have HTR := Lib.hid htr
  have HS := Lib.hid hS
  have HT := Lib.hid hT
  clear htr hS hT
  go_enter Try.func61, Try.ntmps61
  go_wp2_with fail
  generalize hW : World.alloc _ _ = W
  obtain ⟨q0, q1, hz, hB⟩ := blocks2 hW
  clear hW
  have hL : Larr W (w.heap.size + 1) (fun i => if i < 0 then K i else ⟨0, 0, 0⟩) := by
    refine ⟨by omega, fun i hi => ?_, fun i hi => ?_, fun i hi => ?_, fun i hi => freeAt q1 _⟩
    all_goals
      rw [cellAt q1]
      rcases (show i = 0 ∨ i = 1 ∨ i = 2 ∨ i = 3 ∨ i = 4 ∨ i = 5 by omega) with rfl | rfl | rfl | rfl | rfl | rfl <;> rfl
  have HL := Lib.hid hL
  have HB := Lib.hid (show BoxAt W w.heap.size _ _ from q0)
  clear hL q0 q1
  go_loopw [6, 21] (Own1 w #[.int .i64 cr, .slice sa sn sc, .slice ta tn tc] tn K) (fun _ i _ => tn - (intOf i).toNat)
  case atStart => exact ⟨0, Nat.zero_le _, rfl, World.ownsRow_nil _ _ _ _, HL.out, HB.out, hB, by omega⟩
  case round =>
    obtain ⟨k, hk, rfl, hown, hlarr, hbox, hbel, hsz⟩ := hrel
    have HO := Lib.hid hown
    have HLA := Lib.hid hlarr
    have HBX := Lib.hid hbox
    clear HL HB hown hlarr hbox hB hz
    by_cases hlt : k < tn
    · have hi := fun w => run_indexAt_row (w := w) (cap := tc) Try.underlying23 size58 (HT.out.plain (by omega)) hlt
      obtain ⟨g0, g1, g2, g3, g4, g5, g6, g7⟩ := (HT.out.grow hbel).at hlt
      have hme := HTR.out.meth
      have hen := HTR.out.enter
      go_wp2_with fail
      refine (HTR.out.call k hlt _ (hbel.alloc (by omega) _)).mono ?_
      rintro e w1 ⟨rfl, hb1⟩
      clear hme hen hi g0 g1 g2 g3 g4 g5 g6 g7
      have hgr : wr.grownBy w1 none := ⟨hb1.os.trans rfl, hb1.tape.trans rfl, hb1.output.trans rfl, by have := hb1.size; rw [sizeAlloc] at this; omega, fun j hj _ => (hb1.block j (by rw [sizeAlloc]; omega)).trans (Below.heap_alloc _ _ j hj)⟩
      have hsz1 : w.heap.size + 2 ≤ w1.heap.size := Nat.le_trans hsz hgr.size
      have HL1 := Lib.hid (HLA.out.kept hgr (by simp))
      have HB1 := Lib.hid (HBX.out.kept hgr (by simp))
      have HO1 := Lib.hid (HO.out.kept hgr (by cases u6.ownBlock <;> simp))
      have hbel1 : Below w.heap.size w w1 := hbel.grown hgr (by omega) (fun _ h => by cases h)
      have f0 := HL1.out.fr k (by omega)
      have f1 := HL1.out.to k (by omega)
      have f2 := HL1.out.td k (by omega)
      have z0 := HL1.out.free (k * 3) (by omega)
      have z1 := HL1.out.free (k * 3 + 1) (by omega)
      have z2 := HL1.out.free (k * 3 + 2) (by omega)
      have k6 : (k : Int) < 6 := by omega
      simp only [Kn.v]
      have hg3 := grown3 w1 (w.heap.size + 1) (k * 3) (k * 3 + 1) (k * 3 + 2) (.int .i64 (K k).fr) (.int .i64 (K k).to) (.int .i64 (K k).td)
      have HL2 := Lib.hid (HL1.out.set (k := k) (by omega) (K k))
      have HB2 := Lib.hid (HB1.out.kept hg3 (by simp))
      have HO2 := Lib.hid (HO1.out.kept hg3 (by
        cases hb : u6.ownBlock with
        | none => exact .inl rfl
        | some g => exact .inr (by have := (HO1.out.lt g hb).1; simp; omega)))
      have hbel2 := Lib.hid (hbel1.grown hg3 (by omega) (fun j e => by cases e; omega))
      have hsz2 : w.heap.size + 2 ≤ (((w1.setCell ⟨w.heap.size + 1, k * 3, none⟩ (.int .i64 (K k).fr)).setCell ⟨w.heap.size + 1, k * 3 + 1, none⟩ (.int .i64 (K k).to)).setCell ⟨w.heap.size + 1, k * 3 + 2, none⟩ (.int .i64 (K k).td)).heap.size := by simp only [size_setCell]; exact hsz1
      clear hg3 hb1 HLA HBX HO HL1 HB1 HO1
      obtain ⟨i0, hi, hz0, hz1, hz2⟩ := info_parts info3
      go_wp2_with (at_builtin; refine wpList_append_own _ rfl _ _ 37 rfl (w.heap.size + 2) 3 i0 (.int .i64 0) 1 8 Try.underlying37 hi hz0 hz1 hz2 rfl (by decide) _ _ _ rfl (HO2.out.alloc _) ⟨w1.heap.size, 0, none⟩ 1 1 [.int .i64 k] rfl rfl ?c1 ?c2 ?c3 ?c4 ?c5 ?_)
      case c1 =>
        intro j u hj
        match j, hj with
        | 0, hj => simp at hj; subst hj; go_simp
        | j + 1, hj => simp at hj
      case c2 => intro u hu; simp at hu; subst hu; rfl
      case c3 => unfold maxLen; omega
      case c4 => omega
      case c5 => simp; omega
      intro v' w4 hown' hgrow _
      have HO3 := Lib.hid hown'
      have HG3 := Lib.hid hgrow
      clear hown' hgrow hi hz0 hz1 hz2
      go_wp2_with fail
      refine ⟨⟨k + 1, hlt, by go_num, by rw [numVals_succ]; exact HO3.out, ?_, ?_, ?_, ?_⟩, by simp [intOf]; omega⟩
      · have h := (HL2.out.grow ((Below.refl _ _).alloc (Nat.le_refl _) _)).kept HG3.out (own_ne HO2.out (by omega))
        rw [step_fun] at h
        exact h
      · exact (HB2.out.grow ((Below.refl _ _).alloc (Nat.le_refl _) _)).kept HG3.out (own_ne HO2.out (by omega))
      · exact (hbel2.out.alloc (by omega) _).grown HG3.out (by rw [sizeAlloc]; omega) (fun j e => by have := (HO2.out.lt j e).1; omega)
      · have := HG3.out.size
        rw [sizeAlloc] at this
        omega
    · obtain rfl : k = tn := by omega
      obtain ⟨oa, ocap, rfl, hp, hnum, hb6, hne⟩ := row_nums HO.out
      have C := Lib.hid (sortStable_any oa k ocap (w.heap.size + 1) (fun i => (if i < k then K i else ⟨0, 0, 0⟩ : Kn).td) wr ht hp HLA.out.tides hnum (fun h => hne _ (by omega) h))
      have HP := Lib.hid hp
      have HN6 := Lib.hid hb6
      clear hp hnum hb6 hne HO
      have hmf : ∀ (fn : Fn) (first cap : Array Value) (w : World), (Instr.makeFunc fn first cap).run Try.prog w = .ok (.func fn first cap) w := fun _ _ _ _ => rfl
      go_wp2_with fail
      refine C.out.mono ?_
      rintro e w1 ⟨rfl, HX⟩
      have HX := Lib.hid HX
      clear C hmf
      obtain ⟨g, hpre, hnums, hgr⟩ := HX.out
      have hne1 : some (w.heap.size + 1) ≠ rowOf k (blk oa) := by
        unfold rowOf
        split
        · simp
        · have := HN6.out (by omega); simp; omega
      have hne0 : some w.heap.size ≠ rowOf k (blk oa) := by
        unfold rowOf
        split
        · simp
        · have := HN6.out (by omega); simp; omega
      have HL1 := Lib.hid (HLA.out.kept hgr hne1)
      have HB1 := Lib.hid (HBX.out.kept hgr hne0)
      have HBE := Lib.hid (hbel.grown hgr (by omega) (fun j e => by
        unfold rowOf at e
        split at e
        · cases e
        · cases e; have := HN6.out (by omega); omega))
      have hsz1 : w.heap.size + 2 ≤ w1.heap.size := Nat.le_trans hsz hgr.size
      have hsz2 : wr.heap.size ≤ w1.heap.size := hgr.size
      have HNU := Lib.hid hnums
      have HPR := Lib.hid hpre
      have HB2 := Lib.hid (HB1.out.grow ((Below.refl _ w1).alloc (Nat.le_refl _) (.map #[] 0)))
      have b0 := cellAt HB2.out 0
      have b1 := cellAt HB2.out 1
      have b2 := cellAt HB2.out 2
      simp only [List.getElem?_toArray, List.getElem?_cons_zero, List.getElem?_cons_succ] at b0 b1 b2
      clear HB1 HX HLA HBX hbel hgr hnums hpre hne1 hne0
      have hmm := @run_makeMap Try.prog
      go_wp2_with fail
      have HI : OwnInv w #[.int .i64 cr, .slice sa sn sc, .slice ta k tc] oa k (fun i => if i < k then K i else ⟨0, 0, 0⟩) g w1.heap.size 0 (fun _ _ => 0) (w1.alloc (.map #[] 0)) := by
        have hb := (Below.refl w1.heap.size w1).alloc (Nat.le_refl _) (.map #[] 0)
        refine ⟨HL1.out.grow hb, HB2.out, HNU.out.grow hb (fun h => ?_), fun h => ?_, MapAt.made w1, HBE.out.alloc (by omega) _, hsz1, fun h => ?_⟩
        · have := HN6.out h; omega
        · have := HN6.out h; rw [sizeAlloc]; omega
        · have := HN6.out h; omega
      have HI := Lib.hid HI
      generalize w1.heap.size = B at *
      generalize w1.alloc (.map #[] 0) = W2 at *
      clear HB2 b0 b1 b2 HNU HL1 HBE hmm
      go_loopw [45] (Own2 w #[.int .i64 cr, .slice sa sn sc, .slice ta k tc] oa k (fun i => if i < k then K i else ⟨0, 0, 0⟩) g B S sn) (fun i _ => sn - (intOf i).toNat)
      case atStart => exact ⟨0, Nat.zero_le _, rfl, by rw [seamG_zero]; exact HI.out⟩
      case round =>
        obtain ⟨j, hj, rfl, hinv⟩ := hrel
        have HI := Lib.hid hinv
        clear hinv
        by_cases hlt : j < sn
        · have hi := fun w => run_indexAt_row (w := w) (cap := sc) Try.underlying22 size52 (HS.out.plain (by omega)) hlt
          obtain ⟨g0, g1⟩ := (HS.out.grow HI.out.bel).at hlt
          have hfat := hSf j hlt
          have HI2 := Lib.hid (HI.out.grow ((Below.refl _ wr).alloc (Nat.le_refl _) (.cells #[.int .i64 (S j).fat, .int .i64 (S j).rate] 52)))
          obtain ⟨w5, r1, r2, r3⟩ := HI2.out.map.store (s := j) (c := -1) ⟨by omega, by omega, by omega, by omega⟩ (v := 2 ^ (S j).fat.toNat - 1) (full_lt _ hfat.2) (by unfold maxLen; omega)
          rw [← full_val _ hfat.2] at r1
          have HR2 := Lib.hid r2
          have HR3 := Lib.hid r3
          obtain ⟨hf0, hf1⟩ := hfat
          clear r2 r3
          go_wp2_with fail
          exact ⟨⟨j + 1, hlt, by go_num, by rw [seamG_succ]; exact HI2.out.store HR3.out HR2.out⟩, by simp [intOf]; omega⟩
        · obtain rfl : j = sn := by omega
          clear HX HTR
          go_wp2_with fail
          go_loopw [60] (Own3 w #[.int .i64 cr, .slice sa j sc, .slice ta k tc] oa k (fun i => if i < k then K i else ⟨0, 0, 0⟩) g B S j T K) (fun i _ => k - (intOf i).toNat)
          case atStart => exact ⟨0, j, Nat.zero_le _, by omega, rfl, HI.out⟩
          case round =>
            clear HI
            obtain ⟨m, n, hm, hn, rfl, hinv⟩ := hrel
            have hsm := SmallG.fold S j T K g hSf m
            have hst : Hid (foldG S j T K g (m + 1) = stepG T K (g m) (foldG S j T K g m)) := rfl
            have hen : Hid (m = k → foldG S j T K g k = foldG S j T K g m) := fun e => by rw [e]
            generalize foldG S j T K g m = G at *
            have HI := Lib.hid hinv
            clear hinv
            by_cases hlt : m < k
            · have hgm := HPR.out.lt m hlt
              have hBlt := HI.out.map.lt
              have c6 := HI.out.nums.cell m hlt
              have hi6 := fun w => run_indexAt_row (w := w) (cap := ocap) (k := m) (n := k) Try.underlying37 size3 (HP.out (by omega)) hlt
              simp only [Nat.mul_one] at hi6
              have hi := fun w => run_indexAt_row (w := w) (cap := tc) (k := g m) (n := k) Try.underlying23 size58 (HT.out.plain (by omega)) hgm
              obtain ⟨g0, g1, g2, g3, g4, g5, g6, g7⟩ := (HT.out.grow HI.out.bel).at hgm
              have b0 := cellAt HI.out.box 0
              have b1 := cellAt HI.out.box 1
              have b2 := cellAt HI.out.box 2
              simp only [List.getElem?_toArray, List.getElem?_cons_zero, List.getElem?_cons_succ] at b0 b1 b2
              go_wp2_with fail
              generalize hW3 : World.alloc _ _ = W3
              obtain ⟨q0, q1, hz3, hB3⟩ := blocks2 hW3
              clear hW3
              have hok := hTok (g m) hgm
              have hkk := hKok (g m) hgm
              have I0 : Inv3 w #[.int .i64 cr, .slice sa j sc, .slice ta k tc] oa k (fun i => if i < k then K i else ⟨0, 0, 0⟩) g B n G wr.heap.size #[.int .i64 (T (g m)).crew, .int .i64 (T (g m)).seam, .int .i64 (T (g m)).fl, .int .i64 (T (g m)).fh, .int .i64 (T (g m)).tl, .int .i64 (T (g m)).th, .int .i64 (T (g m)).dl, .int .i64 (T (g m)).dh] (wr.heap.size + 1) #[.int .i64 (T (g m)).seam, .int .i64 (-1)] W3 :=
                ⟨HI.out.grow hB3, q0, q1⟩
              clear g0 g1 g2 g3 g4 g5 g6 g7 b0 b1 b2 q0 q1 hi hi6 c6
              have bnd1 : (0 : Int) ≤ (g m : Int) := by omega
              have bnd2 : (g m : Int) < 6 := by omega
              have E0 := eqs3 hgm (by omega) hok hs I0
              go_region_held3 (fun w' => (w'.cell? ⟨w.heap.size + 1, g m * 3, none⟩ = some (.int .i64 (K (g m)).fr) ∧ w'.cell? ⟨w.heap.size + 1, g m * 3 + 1, none⟩ = some (.int .i64 (K (g m)).to) ∧ w'.cell? ⟨w.heap.size + 1, g m * 3 + 2, none⟩ = some (.int .i64 (K (g m)).td) ∧
                  w'.cell? ⟨wr.heap.size + 1, 0, none⟩ = some (.int .i64 (T (g m)).seam) ∧ w'.cell? ⟨wr.heap.size + 1, 1, none⟩ = some (.int .i64 (-1)) ∧
                  (Instr.lookup 96 (.map (some B)) (.agg #[.int .i64 (T (g m)).seam, .int .i64 (-1)]) false).run Try.prog w' = .ok (.int .u32 (G (T (g m)).seam (-1))) w') ∧
                  Inv3 w #[.int .i64 cr, .slice sa j sc, .slice ta k tc] oa k (fun i => if i < k then K i else ⟨0, 0, 0⟩) g B n G wr.heap.size #[.int .i64 (T (g m)).crew, .int .i64 (T (g m)).seam, .int .i64 (T (g m)).fl, .int .i64 (T (g m)).fh, .int .i64 (T (g m)).tl, .int .i64 (T (g m)).th, .int .i64 (T (g m)).dl, .int .i64 (T (g m)).dh] (wr.heap.size + 1) #[.int .i64 (T (g m)).seam, .int .i64 (-1)] w')
                (first | exact both3 hgm (by omega) hok hs (I0.grow (Below.drew (Below.refl _ _))) | (go_split_ands; exact both3 hgm (by omega) hok hs (Inv3.grow (by assumption) hb)) | go_keep)
                (first | (go_at_call 59; refine (known_fathoms_any _ _ _ _ hkk.f0 hkk.f1 hkk.t0 hkk.t1).mono ?_; rintro e w' ⟨rfl, hb⟩))
              all_goals
                have I1 := (I0.grow (Below.drew (Below.refl _ _))).grow hb
                have I1d := Lib.hid (I1.grow (Below.drew (Below.refl _ _)))
                have he : bits .and .u32 ((fmask (K (g m)).fr (K (g m)).to : Nat) : Int) ((G (T (g m)).seam (-1) : Nat) : Int) = ((ownOf T K (g m) G : Nat) : Int) := u32_and_nat _ _ (by have := fmask_lt (K (g m)).fr (K (g m)).to hkk.t1; omega) (by have := hsm (T (g m)).seam (-1); omega)
                rw [he]
                have hol := ownOf_lt hsm T K (g m)
                have hgl := hsm (T (g m)).seam (-1)
                have dm1 : pdom (T (g m)).seam (-1) := ⟨hok.s0, by have := hok.s1; omega, by omega, by omega⟩
                have dm2 : pdom (T (g m)).seam (T (g m)).crew := ⟨hok.s0, by have := hok.s1; omega, by have := hok.c0; omega, hok.c1⟩
                have l1 := I1d.out.inv.map.look dm1
                obtain ⟨w6, r1, r2, r3⟩ := I1d.out.inv.map.store dm1 (v := G (T (g m)).seam (-1) &&& (4294967295 - ownOf T K (g m) G)) (Nat.lt_of_le_of_lt Nat.and_le_left (by omega)) (by unfold maxLen; omega)
                have I2 := Lib.hid (I1d.out.store r3 r2 (by omega) (by omega))
                clear he hb E0 I0 I1 r2 r3
                go_wp2_with fail
                go_region_held3 (fun w' => w'.cell? ⟨wr.heap.size + 1, 0, none⟩ = some (.int .i64 (T (g m)).seam) ∧ w'.cell? ⟨wr.heap.size + 1, 1, none⟩ = some (.int .i64 (-1)))
                  (first | exact ⟨cellAt I1d.out.pl 0, cellAt I1d.out.pl 1⟩ | exact ⟨cellAt I2.out.pl 0, cellAt I2.out.pl 1⟩)
                  (first | (go_at_call 97; refine (but_any _ _ _ (by omega) (by omega)).mono ?_; rintro e w' ⟨rfl, rfl⟩))
                clear l1 r1
                go_wp2_with fail
                have I2d := Lib.hid (I2.out.grow (Below.drew (Below.refl _ _)))
                have hsm1 := hsm.left T K (g m)
                have he2 : bits .or .u32 ((leftG T K (g m) G (T (g m)).seam (T (g m)).crew : Nat) : Int) ((ownOf T K (g m) G : Nat) : Int) = ((leftG T K (g m) G (T (g m)).seam (T (g m)).crew ||| ownOf T K (g m) G : Nat) : Int) := u32_or_nat _ _ (by have := hsm1 (T (g m)).seam (T (g m)).crew; omega) (by omega)
                have l2 : (Instr.lookup 96 (.map (some B)) (.agg #[.int .i64 (T (g m)).seam, .int .i64 (T (g m)).crew]) false).run Try.prog w6.drew = .ok (.int .u32 (leftG T K (g m) G (T (g m)).seam (T (g m)).crew)) w6.drew := I2d.out.inv.map.look dm2
                obtain ⟨v0, st, w7, w8, e1, e2, e3, e4, e5, e6⟩ := I2d.out.inv.map.entry dm2 (v := leftG T K (g m) G (T (g m)).seam (T (g m)).crew ||| ownOf T K (g m) G) (Nat.lt_trans (Nat.or_lt_two_pow (n := 20) (hsm1 _ _) hol) (by omega)) (by unfold maxLen; omega)
                have e2' : (Instr.lookup 96 (.map (some B)) (.agg #[.int .i64 (T (g m)).seam, .int .i64 (T (g m)).crew]) false).run Try.prog w7 = .ok (.int .u32 (leftG T K (g m) G (T (g m)).seam (T (g m)).crew)) w7 := e2
                have nB : some wr.heap.size ≠ some B := by simp; omega
                have t7 := Lib.hid (I2d.out.tk.kept e5 nB)
                have t8 := Lib.hid (I2d.out.tk.kept e6 nB)
                have I3 := Lib.hid (I2d.out.inv.store e6 e4)
                clear e2 e4 e5 e6 I1d hsm1
                simp only [goInt] at e1 e3
                go_region_held3 (fun w' => w'.cell? ⟨wr.heap.size, 0, none⟩ = some (.int .i64 (T (g m)).crew) ∧ w'.cell? ⟨wr.heap.size, 1, none⟩ = some (.int .i64 (T (g m)).seam))
                  (first | exact ⟨cellAt I2d.out.tk 0, cellAt I2d.out.tk 1⟩ | exact ⟨cellAt t7.out 0, cellAt t7.out 1⟩ | exact ⟨cellAt t8.out 0, cellAt t8.out 1⟩)
                  (fail)
                all_goals
                  clear he2 l2 e1 e2' e3
                  go_wp2_with fail
                  exact ⟨⟨m + 1, n + 1 + 1, hlt, by omega, by go_num, by rw [hst.out]; exact I3.out⟩, by simp [intOf]; omega⟩
            · obtain rfl : m = k := by omega
              have hG := hen.out rfl
              have HG := Lib.hid hG
              clear hG
              go_wp2_with fail
              go_ret
              exact ⟨B, n, G, rfl, HI.out.map, HI.out.bel, by omega, g, HPR.out.congr (fun i hi => by simp [hi]), HG.out.symm⟩
end Go.Proofs.Ytbpeamppkdmdcaa
