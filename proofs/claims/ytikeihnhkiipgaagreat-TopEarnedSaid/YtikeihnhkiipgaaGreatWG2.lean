/-
  --DROP
  Walks: what is owned by whom, in a truth.
  Walks: the three truths; how many fathoms, how many coins.
  Plain law: each fathom goes to the first ticket that has it, by tides, then by numbers.
  Walks: how many fathoms, how many coins, in a truth; what is due.
  Walks: the coins of a crew.
  Walks: what is due.
-/
import Derived.Test.YtikeihnhkiipgaaGreatWG1
import Derived.Deep.AppendLies
namespace Go.Proofs.YtikeihnhkiipgaaGreat.Wa
open Go.RowKit

theorem size58 : (Tryz.prog.info? 53).map (·.size) = some 8 := by kernel_rfl
theorem size52 : (Tryz.prog.info? 43).map (·.size) = some 2 := by kernel_rfl
theorem info3 : (Tryz.prog.info? 3).map (fun i => (i.zero, i.size, i.bytes)) = some (some (.int .i64 0), 1, 8) := by kernel_rfl

/-- A truth: an interface value whose method 'of' tells what each ticket is. -/
structure Truth (w0 : World) (ty : TypeId) (v : Value) (fn : FuncId) (tn : Nat) (T : Nat → Tk) (K : Nat → Kn) : Prop where
  meth : ∀ w, (method 327 ty v "caulkworks/wage.of").run Tryz.prog w = .ok (fn, v) w
  enter : ∀ args w, (callFunc fn args).run Tryz.prog w = .ok (.enter fn args) w
  call : ∀ i, i < tn → ∀ W, Below w0.heap.size w0 W → Calls Tryz.prog fn #[v, .int .i64 (i : Int), (T i).v] W fun e w' => e = .returned (K i).v ∧ Below W.heap.size W w'

/-- The box of the wages: its three cells. -/
def BoxAt (wr : World) (b : Nat) (x : Array Value) (t : TypeId) : Prop := wr.heap[b]? = some (.cells x t (0, 0))
theorem BoxAt.kept {w w' : World} {b : Nat} {x : Array Value} {t : TypeId} {row : Option Nat} (h : BoxAt w b x t) (hg : w.grownBy w' row) (hne : some b ≠ row) : BoxAt w' b x t :=
  (hg.block b (lt_of_heap h) hne).trans h
theorem BoxAt.grow {w w' : World} {b : Nat} {x : Array Value} {t : TypeId} (h : BoxAt w b x t) (hb : Below w.heap.size w w') : BoxAt w' b x t :=
  (hb.block b (lt_of_heap h)).trans h

theorem own_ne {w : World} {base n : Nat} {e : TypeId} {sz : Nat} {v : Value} {xs : List Value} (h : w.ownsRow base e sz v n xs) {b : Nat} (hb : b < base) : some b ≠ v.ownBlock := fun e => by
  have := (h.lt b e.symm).1
  omega
theorem step_fun (K : Nat → Kn) (k : Nat) : setk (fun i => if i < k then K i else ⟨0, 0, 0⟩) k (K k) = fun i => if i < k + 1 then K i else ⟨0, 0, 0⟩ := by
  funext i
  unfold setk
  by_cases e : i = k
  · subst e; simp
  · by_cases h : i < k
    · simp [e, h, show i < k + 1 by omega]
    · simp [e, h, show ¬ i < k + 1 by omega]

def Own1 (w : World) (x : Array Value) (tn : Nat) (K : Nat → Kn) (v i : Value) (wr : World) : Prop :=
  ∃ k : Nat, k ≤ tn ∧ i = .int .i64 k ∧ wr.ownsRow (w.heap.size + 2) 3 1 v k (numVals k) ∧ Larr wr (w.heap.size + 1) (fun i => if i < k then K i else ⟨0, 0, 0⟩) ∧ BoxAt wr w.heap.size x 97 ∧ Below w.heap.size w wr ∧ w.heap.size + 2 ≤ wr.heap.size

theorem Nums.grow {w w' : World} {b o n : Nat} {g : Nat → Nat} {B : Nat} (h : Nums w b o n g) (hb : Below B w w') (hB : 0 < n → b < B) : Nums w' b o n g :=
  ⟨fun i hi => (hb.cell (p := ⟨b, o + i, none⟩) (hB (by omega))).trans (h.cell i hi), fun i hi => (hb.frozen (p := ⟨b, o + i, none⟩) (hB (by omega))).trans (h.free i hi)⟩
theorem Nums.kept {w w' : World} {b o n : Nat} {g : Nat → Nat} {row : Option Nat} (h : Nums w b o n g) (hg : w.grownBy w' row) (hb : 0 < n → b < w.heap.size ∧ some b ≠ row) : Nums w' b o n g :=
  ⟨fun i hi => (World.cell?_of_block (a := ⟨b, o + i, none⟩) (hg.block b (hb (by omega)).1 (hb (by omega)).2)).trans (h.cell i hi), fun i hi => (World.frozen?_of_block (a := ⟨b, o + i, none⟩) (hg.block b (hb (by omega)).1 (hb (by omega)).2)).trans (h.free i hi)⟩

/-- All that 'owned' has made lies as it should. -/
structure OwnInv (w : World) (x : Array Value) (oa : Option Addr) (k : Nat) (Kf : Nat → Kn) (g : Nat → Nat) (B n : Nat) (G : Int → Int → Nat) (wr : World) : Prop where
  larr : Larr wr (w.heap.size + 1) Kf
  box : BoxAt wr w.heap.size x 97
  nums : Nums wr (blk oa) (ofs oa) k g
  numlt : 0 < k → blk oa < wr.heap.size
  map : MapAt wr B n G
  bel : Below w.heap.size w wr
  hB : w.heap.size + 2 ≤ B
  ne : 0 < k → blk oa ≠ B
theorem OwnInv.grow {w : World} {x : Array Value} {oa : Option Addr} {k : Nat} {Kf : Nat → Kn} {g : Nat → Nat} {B n : Nat} {G : Int → Int → Nat} {wr wr' : World} (h : OwnInv w x oa k Kf g B n G wr) (hb : Below wr.heap.size wr wr') : OwnInv w x oa k Kf g B n G wr' :=
  ⟨h.larr.grow hb, h.box.grow hb, h.nums.grow hb h.numlt, fun hk => Nat.lt_of_lt_of_le (h.numlt hk) hb.size, h.map.grow hb, h.bel.trans (hb.mono (by have := h.box; exact Nat.le_of_lt (lt_of_heap this))), h.hB, h.ne⟩
theorem OwnInv.store {w : World} {x : Array Value} {oa : Option Addr} {k : Nat} {Kf : Nat → Kn} {g : Nat → Nat} {B n n' : Nat} {G G' : Int → Int → Nat} {wr wr' : World} (h : OwnInv w x oa k Kf g B n G wr) (hg : wr.grownBy wr' (some B)) (hm : MapAt wr' B n' G') : OwnInv w x oa k Kf g B n' G' wr' :=
  ⟨h.larr.kept hg (by have := h.hB; simp; omega), h.box.kept hg (by have := h.hB; simp; omega), h.nums.kept hg (fun hk => ⟨h.numlt hk, by have := h.ne hk; simpa using this⟩), fun hk => Nat.lt_of_lt_of_le (h.numlt hk) hg.size, hm, h.bel.grown hg (by have := lt_of_heap h.box; omega) (fun j e => by cases e; have := h.hB; omega), h.hB, h.ne⟩

/-- What nobody has, of the first j seams, before the first ticket. -/
def seamG (S : Nat → Sm) (j : Nat) : Int → Int → Nat := fun s c => if c = -1 ∧ 0 ≤ s ∧ s < j then 2 ^ (S s.toNat).fat.toNat - 1 else 0
theorem seamG_zero (S : Nat → Sm) : seamG S 0 = fun _ _ => 0 := by
  funext s c
  simp [seamG]
  omega
theorem seamG_succ (S : Nat → Sm) (j : Nat) : seamG S (j + 1) = upd (seamG S j) j (-1) (2 ^ (S j).fat.toNat - 1) := by
  funext s c
  unfold upd
  by_cases h : s = j ∧ c = -1
  · obtain ⟨rfl, rfl⟩ := h
    simp only [seamG, and_self, if_true, Int.toNat_natCast]
    rw [if_pos ⟨trivial, by omega, by omega⟩]
  · rw [if_neg h]
    unfold seamG
    by_cases hc : c = -1 ∧ 0 ≤ s ∧ s < j
    · rw [if_pos hc, if_pos (by omega)]
    · rw [if_neg hc, if_neg (by omega)]

theorem full_lt (f : Int) (h : f ≤ 20) : 2 ^ f.toNat - 1 < 4294967296 := by
  have : 2 ^ f.toNat ≤ 2 ^ 20 := Nat.pow_le_pow_right (by omega) (by omega)
  omega
theorem full_val (f : Int) (h : f ≤ 20) : ((2 : Int) ^ f.toNat - 1) % 4294967296 = ((2 ^ f.toNat - 1 : Nat) : Int) := by
  have h1 := full_lt f h
  have h2 : 0 < 2 ^ f.toNat := Nat.two_pow_pos _
  rw [Int.natCast_sub (by omega)]
  simp only [Int.natCast_pow, Int.natCast_one]
  have h3 : ((2 ^ f.toNat : Nat) : Int) = (2 : Int) ^ f.toNat := by simp
  have h4 : (2 : Int) ^ f.toNat < 4294967297 := by rw [← h3]; omega
  have h5 : (0 : Int) < (2 : Int) ^ f.toNat := Int.pow_pos (by omega)
  exact Int.emod_eq_of_lt (by omega) (by omega)

def Own2 (w : World) (x : Array Value) (oa : Option Addr) (k : Nat) (Kf : Nat → Kn) (g : Nat → Nat) (B : Nat) (S : Nat → Sm) (sn : Nat) (i : Value) (wr : World) : Prop :=
  ∃ j : Nat, j ≤ sn ∧ i = .int .i64 j ∧ OwnInv w x oa k Kf g B j (seamG S j) wr

/-- One ticket more. -/
def ownOf (T : Nat → Tk) (K : Nat → Kn) (i : Nat) (G : Int → Int → Nat) : Nat := fmask (K i).fr (K i).to &&& G (T i).seam (-1)
def leftG (T : Nat → Tk) (K : Nat → Kn) (i : Nat) (G : Int → Int → Nat) : Int → Int → Nat := upd G (T i).seam (-1) (G (T i).seam (-1) &&& (4294967295 - ownOf T K i G))
def stepG (T : Nat → Tk) (K : Nat → Kn) (i : Nat) (G : Int → Int → Nat) : Int → Int → Nat :=
  upd (leftG T K i G) (T i).seam (T i).crew (leftG T K i G (T i).seam (T i).crew ||| ownOf T K i G)
def foldG (S : Nat → Sm) (sn : Nat) (T : Nat → Tk) (K : Nat → Kn) (g : Nat → Nat) : Nat → Int → Int → Nat
  | 0 => seamG S sn
  | m + 1 => stepG T K (g m) (foldG S sn T K g m)

def SmallG (G : Int → Int → Nat) : Prop := ∀ s c, G s c < 1048576
theorem SmallG.upd {G : Int → Int → Nat} (h : SmallG G) (s c : Int) {v : Nat} (hv : v < 1048576) : SmallG (upd G s c v) := fun s' c' => by
  unfold Wa.upd
  split
  · exact hv
  · exact h s' c'
theorem ownOf_lt {G : Int → Int → Nat} (h : SmallG G) (T : Nat → Tk) (K : Nat → Kn) (i : Nat) : ownOf T K i G < 1048576 := Nat.lt_of_le_of_lt Nat.and_le_right (h _ _)
theorem SmallG.left {G : Int → Int → Nat} (h : SmallG G) (T : Nat → Tk) (K : Nat → Kn) (i : Nat) : SmallG (leftG T K i G) := h.upd _ _ (Nat.lt_of_le_of_lt Nat.and_le_left (h _ _))
theorem SmallG.step {G : Int → Int → Nat} (h : SmallG G) (T : Nat → Tk) (K : Nat → Kn) (i : Nat) : SmallG (stepG T K i G) :=
  (h.left T K i).upd _ _ (Nat.or_lt_two_pow (n := 20) (h.left T K i _ _) (ownOf_lt h T K i))
theorem SmallG.seam (S : Nat → Sm) (sn : Nat) (h : ∀ j, j < sn → 0 ≤ (S j).fat ∧ (S j).fat ≤ 20) : SmallG (seamG S sn) := fun s c => by
  unfold seamG
  split
  · rename_i hc
    have := (h s.toNat (by omega)).2
    have : 2 ^ (S s.toNat).fat.toNat ≤ 2 ^ 20 := Nat.pow_le_pow_right (by omega) (by omega)
    omega
  · omega
theorem SmallG.fold (S : Nat → Sm) (sn : Nat) (T : Nat → Tk) (K : Nat → Kn) (g : Nat → Nat) (h : ∀ j, j < sn → 0 ≤ (S j).fat ∧ (S j).fat ≤ 20) : ∀ m, SmallG (foldG S sn T K g m)
  | 0 => SmallG.seam S sn h
  | m + 1 => (SmallG.fold S sn T K g h m).step T K (g m)

structure TkOk (sn : Nat) (t : Tk) : Prop where
  c0 : 0 ≤ t.crew
  c1 : t.crew ≤ 3
  s0 : 0 ≤ t.seam
  s1 : t.seam < sn
structure KnOk (k : Kn) : Prop where
  f0 : 0 ≤ k.fr
  f1 : k.fr ≤ 20
  t0 : 0 ≤ k.to
  t1 : k.to ≤ 20

/-- In the third loop: beside it, the boxes of the ticket and of the place. -/
structure Inv3 (w : World) (x : Array Value) (oa : Option Addr) (k : Nat) (Kf : Nat → Kn) (g : Nat → Nat) (B n : Nat) (G : Int → Int → Nat) (b1 : Nat) (x1 : Array Value) (b2 : Nat) (x2 : Array Value) (wr : World) : Prop where
  inv : OwnInv w x oa k Kf g B n G wr
  tk : BoxAt wr b1 x1 53
  pl : BoxAt wr b2 x2 151
theorem Inv3.grow {w : World} {x : Array Value} {oa : Option Addr} {k : Nat} {Kf : Nat → Kn} {g : Nat → Nat} {B n : Nat} {G : Int → Int → Nat} {b1 b2 : Nat} {x1 x2 : Array Value} {wr wr' : World} (h : Inv3 w x oa k Kf g B n G b1 x1 b2 x2 wr) (hb : Below wr.heap.size wr wr') : Inv3 w x oa k Kf g B n G b1 x1 b2 x2 wr' :=
  ⟨h.inv.grow hb, h.tk.grow hb, h.pl.grow hb⟩
theorem Inv3.store {w : World} {x : Array Value} {oa : Option Addr} {k : Nat} {Kf : Nat → Kn} {g : Nat → Nat} {B n n' : Nat} {G G' : Int → Int → Nat} {b1 b2 : Nat} {x1 x2 : Array Value} {wr wr' : World} (h : Inv3 w x oa k Kf g B n G b1 x1 b2 x2 wr) (hg : wr.grownBy wr' (some B)) (hm : MapAt wr' B n' G') (h1 : b1 ≠ B) (h2 : b2 ≠ B) : Inv3 w x oa k Kf g B n' G' b1 x1 b2 x2 wr' :=
  ⟨h.inv.store hg hm, h.tk.kept hg (by simpa using h1), h.pl.kept hg (by simpa using h2)⟩

theorem eqs3 {w : World} {x : Array Value} {oa : Option Addr} {k : Nat} {K : Nat → Kn} {g : Nat → Nat} {B n : Nat} {G : Int → Int → Nat} {b1 b2 : Nat} {x1 : Array Value} {T : Nat → Tk} {i j : Nat} {wr : World} (hi : i < k) (hk : k ≤ 6) (hok : TkOk j (T i)) (hj : j ≤ 3)
    (h : Inv3 w x oa k (fun i => if i < k then K i else ⟨0, 0, 0⟩) g B n G b1 x1 b2 #[.int .i64 (T i).seam, .int .i64 (-1)] wr) :
    wr.cell? ⟨w.heap.size + 1, i * 3, none⟩ = some (.int .i64 (K i).fr) ∧ wr.cell? ⟨w.heap.size + 1, i * 3 + 1, none⟩ = some (.int .i64 (K i).to) ∧ wr.cell? ⟨w.heap.size + 1, i * 3 + 2, none⟩ = some (.int .i64 (K i).td) ∧
    wr.cell? ⟨b2, 0, none⟩ = some (.int .i64 (T i).seam) ∧ wr.cell? ⟨b2, 1, none⟩ = some (.int .i64 (-1)) ∧
    (Instr.lookup 146 (.map (some B)) (.agg #[.int .i64 (T i).seam, .int .i64 (-1)]) false).run Tryz.prog wr = .ok (.int .u32 (G (T i).seam (-1))) wr := by
  have a0 := h.inv.larr.fr i (by omega)
  have a1 := h.inv.larr.to i (by omega)
  have a2 := h.inv.larr.td i (by omega)
  simp only [hi, if_true] at a0 a1 a2
  have := hok.s0
  have := hok.s1
  exact ⟨a0, a1, a2, cellAt h.pl 0, cellAt h.pl 1, h.inv.map.look ⟨by omega, by omega, by omega, by omega⟩⟩
theorem both3 {w : World} {x : Array Value} {oa : Option Addr} {k : Nat} {K : Nat → Kn} {g : Nat → Nat} {B n : Nat} {G : Int → Int → Nat} {b1 b2 : Nat} {x1 : Array Value} {T : Nat → Tk} {i j : Nat} {wr : World} (hi : i < k) (hk : k ≤ 6) (hok : TkOk j (T i)) (hj : j ≤ 3)
    (h : Inv3 w x oa k (fun i => if i < k then K i else ⟨0, 0, 0⟩) g B n G b1 x1 b2 #[.int .i64 (T i).seam, .int .i64 (-1)] wr) :
    (wr.cell? ⟨w.heap.size + 1, i * 3, none⟩ = some (.int .i64 (K i).fr) ∧ wr.cell? ⟨w.heap.size + 1, i * 3 + 1, none⟩ = some (.int .i64 (K i).to) ∧ wr.cell? ⟨w.heap.size + 1, i * 3 + 2, none⟩ = some (.int .i64 (K i).td) ∧
    wr.cell? ⟨b2, 0, none⟩ = some (.int .i64 (T i).seam) ∧ wr.cell? ⟨b2, 1, none⟩ = some (.int .i64 (-1)) ∧
    (Instr.lookup 146 (.map (some B)) (.agg #[.int .i64 (T i).seam, .int .i64 (-1)]) false).run Tryz.prog wr = .ok (.int .u32 (G (T i).seam (-1))) wr) ∧
    Inv3 w x oa k (fun i => if i < k then K i else ⟨0, 0, 0⟩) g B n G b1 x1 b2 #[.int .i64 (T i).seam, .int .i64 (-1)] wr := ⟨eqs3 hi hk hok hj h, h⟩

def Own3 (w : World) (x : Array Value) (oa : Option Addr) (k : Nat) (Kf : Nat → Kn) (g : Nat → Nat) (B : Nat) (S : Nat → Sm) (sn : Nat) (T : Nat → Tk) (K : Nat → Kn) (i : Value) (wr : World) : Prop :=
  ∃ m n : Nat, m ≤ k ∧ n ≤ sn + 2 * m ∧ i = .int .i64 m ∧ OwnInv w x oa k Kf g B n (foldG S sn T K g m) wr

/-- What 'owned' hands back: a map of its own, of what each crew has of each seam when the tickets have come by their tides. -/
def OwnedPost (w : World) (S : Nat → Sm) (sn : Nat) (T : Nat → Tk) (K : Nat → Kn) (tn : Nat) (e : Ending) (w' : World) : Prop :=
  ∃ B n G, e = .returned (.map (some B)) ∧ MapAt w' B n G ∧ Below w.heap.size w w' ∧ w.heap.size ≤ B ∧ ∃ g, Pre (fun i => (K i).td) tn tn g ∧ G = foldG S sn T K g tn

set_option maxRecDepth 100000 in
set_option maxHeartbeats 2000000 in
theorem owned_any (cr : Int) (sa ta : Option Addr) (sn sc tn tc : Nat) (S : Nat → Sm) (T : Nat → Tk) (K : Nat → Kn) (w : World) (hS : SeamsAt w sa sn S) (hT : TicketsAt w ta tn T) (hs : sn ≤ 3) (ht : tn ≤ 6) (hSf : ∀ j, j < sn → 0 ≤ (S j).fat ∧ (S j).fat ≤ 20) (hTok : ∀ i, i < tn → TkOk sn (T i)) (hKok : ∀ i, i < tn → KnOk (K i))
    (ty : TypeId) (v : Value) (fn : FuncId) (htr : Truth w ty v fn tn T K) :
    Calls Tryz.prog 70 #[.agg #[.int .i64 cr, .slice sa sn sc, .slice ta tn tc], .iface ty v] w (OwnedPost w S sn T K tn) := by
  have HTR := Lib.hid htr
  have HS := Lib.hid hS
  have HT := Lib.hid hT
  clear htr hS hT
  go_enter Tryz.func70, Tryz.ntmps70
  go_wp2_with fail
  generalize hW : World.alloc _ _ = W
  obtain ⟨q0, q1, hz, hB⟩ := blocks2 hW
  clear hW
  have hL : Larr W (w.heap.size + 1) (fun i => if i < 0 then K i else ⟨0, 0, 0⟩) := by
    refine ⟨by omega, fun i hi => ?_, fun i hi => ?_, fun i hi => ?_, fun i hi => freeAt q1 _⟩
    all_goals
      rw [cellAt q1]
      rcases (show i = 0 ∨ i = 1 ∨ i = 2 ∨ i = 3 ∨ i = 4 ∨ i = 5 by omega) with rfl | rfl | rfl | rfl | rfl | rfl <;> rfl
  have HL := Lib.hid hL
  have HB := Lib.hid (show BoxAt W w.heap.size _ _ from q0)
  clear hL q0 q1
  go_loopw [6, 21] (Own1 w #[.int .i64 cr, .slice sa sn sc, .slice ta tn tc] tn K) (fun _ i _ => tn - (intOf i).toNat)
  case atStart => exact ⟨0, Nat.zero_le _, rfl, World.ownsRow_nil _ _ _ _, HL.out, HB.out, hB, by omega⟩
  case round =>
    obtain ⟨k, hk, rfl, hown, hlarr, hbox, hbel, hsz⟩ := hrel
    have HO := Lib.hid hown
    have HLA := Lib.hid hlarr
    have HBX := Lib.hid hbox
    clear HL HB hown hlarr hbox hB hz
    by_cases hlt : k < tn
    · have hi := fun w => run_indexAt_row (w := w) (cap := tc) Tryz.underlying37 size58 (HT.out.plain (by omega)) hlt
      obtain ⟨g0, g1, g2, g3, g4, g5, g6, g7⟩ := (HT.out.grow hbel).at hlt
      have hme := HTR.out.meth
      have hen := HTR.out.enter
      go_wp2_with fail
      refine (HTR.out.call k hlt _ (hbel.alloc (by omega) _)).mono ?_
      rintro e w1 ⟨rfl, hb1⟩
      clear hme hen hi g0 g1 g2 g3 g4 g5 g6 g7
      have hgr : wr.grownBy w1 none := ⟨hb1.os.trans rfl, hb1.tape.trans rfl, hb1.output.trans rfl, by have := hb1.size; rw [sizeAlloc] at this; omega, fun j hj _ => (hb1.block j (by rw [sizeAlloc]; omega)).trans (Below.heap_alloc _ _ j hj)⟩
      have hsz1 : w.heap.size + 2 ≤ w1.heap.size := Nat.le_trans hsz hgr.size
      have HL1 := Lib.hid (HLA.out.kept hgr (by simp))
      have HB1 := Lib.hid (HBX.out.kept hgr (by simp))
      have HO1 := Lib.hid (HO.out.kept hgr (by cases u6.ownBlock <;> simp))
      have hbel1 : Below w.heap.size w w1 := hbel.grown hgr (by omega) (fun _ h => by cases h)
      have f0 := HL1.out.fr k (by omega)
      have f1 := HL1.out.to k (by omega)
      have f2 := HL1.out.td k (by omega)
      have z0 := HL1.out.free (k * 3) (by omega)
      have z1 := HL1.out.free (k * 3 + 1) (by omega)
      have z2 := HL1.out.free (k * 3 + 2) (by omega)
      have k6 : (k : Int) < 6 := by omega
      simp only [Kn.v]
      have hg3 := grown3 w1 (w.heap.size + 1) (k * 3) (k * 3 + 1) (k * 3 + 2) (.int .i64 (K k).fr) (.int .i64 (K k).to) (.int .i64 (K k).td)
      have HL2 := Lib.hid (HL1.out.set (k := k) (by omega) (K k))
      have HB2 := Lib.hid (HB1.out.kept hg3 (by simp))
      have HO2 := Lib.hid (HO1.out.kept hg3 (by
        cases hb : u6.ownBlock with
        | none => exact .inl rfl
        | some g => exact .inr (by have := (HO1.out.lt g hb).1; simp; omega)))
      have hbel2 := Lib.hid (hbel1.grown hg3 (by omega) (fun j e => by cases e; omega))
      have hsz2 : w.heap.size + 2 ≤ (((w1.setCell ⟨w.heap.size + 1, k * 3, none⟩ (.int .i64 (K k).fr)).setCell ⟨w.heap.size + 1, k * 3 + 1, none⟩ (.int .i64 (K k).to)).setCell ⟨w.heap.size + 1, k * 3 + 2, none⟩ (.int .i64 (K k).td)).heap.size := by simp only [size_setCell]; exact hsz1
      clear hg3 hb1 HLA HBX HO HL1 HB1 HO1
      obtain ⟨i0, hi, hz0, hz1, hz2⟩ := info_parts info3
      go_wp2_with (at_builtin; refine wpList_append_own _ rfl _ _ 24 rfl (w.heap.size + 2) 3 i0 (.int .i64 0) 1 8 Tryz.underlying24 hi hz0 hz1 hz2 rfl (by decide) _ _ _ rfl (HO2.out.alloc _) ⟨w1.heap.size, 0, none⟩ 1 1 [.int .i64 k] rfl rfl ?c1 ?c2 ?c3 ?c4 ?c5 ?_)
      case c1 =>
        intro j u hj
        match j, hj with
        | 0, hj => simp at hj; subst hj; go_simp
        | j + 1, hj => simp at hj
      case c2 => intro u hu; simp at hu; subst hu; rfl
      case c3 => unfold maxLen; omega
      case c4 => omega
      case c5 => simp; omega
      intro v' w4 hown' hgrow _
      have HO3 := Lib.hid hown'
      have HG3 := Lib.hid hgrow
      clear hown' hgrow hi hz0 hz1 hz2
      go_wp2_with fail
      refine ⟨⟨k + 1, hlt, by go_num, by rw [numVals_succ]; exact HO3.out, ?_, ?_, ?_, ?_⟩, by simp [intOf]; omega⟩
      · have h := (HL2.out.grow ((Below.refl _ _).alloc (Nat.le_refl _) _)).kept HG3.out (own_ne HO2.out (by omega))
        rw [step_fun] at h
        exact h
      · exact (HB2.out.grow ((Below.refl _ _).alloc (Nat.le_refl _) _)).kept HG3.out (own_ne HO2.out (by omega))
      · exact (hbel2.out.alloc (by omega) _).grown HG3.out (by rw [sizeAlloc]; omega) (fun j e => by have := (HO2.out.lt j e).1; omega)
      · have := HG3.out.size
        rw [sizeAlloc] at this
        omega
    · obtain rfl : k = tn := by omega
      obtain ⟨oa, ocap, rfl, hp, hnum, hb6, hne⟩ := row_nums HO.out
      have C := Lib.hid (sortStable_any oa k ocap (w.heap.size + 1) (fun i => (if i < k then K i else ⟨0, 0, 0⟩ : Kn).td) wr ht hp HLA.out.tides hnum (fun h => hne _ (by omega) h))
      have HP := Lib.hid hp
      have HN6 := Lib.hid hb6
      clear hp hnum hb6 hne HO
      have hmf : ∀ (fn : Fn) (first cap : Array Value) (w : World), (Instr.makeFunc fn first cap).run Tryz.prog w = .ok (.func fn first cap) w := fun _ _ _ _ => rfl
      go_wp2_with fail
      refine C.out.mono ?_
      rintro e w1 ⟨rfl, HX⟩
      have HX := Lib.hid HX
      clear C hmf
      obtain ⟨g, hpre, hnums, hgr⟩ := HX.out
      have hne1 : some (w.heap.size + 1) ≠ rowOf k (blk oa) := by
        unfold rowOf
        split
        · simp
        · have := HN6.out (by omega); simp; omega
      have hne0 : some w.heap.size ≠ rowOf k (blk oa) := by
        unfold rowOf
        split
        · simp
        · have := HN6.out (by omega); simp; omega
      have HL1 := Lib.hid (HLA.out.kept hgr hne1)
      have HB1 := Lib.hid (HBX.out.kept hgr hne0)
      have HBE := Lib.hid (hbel.grown hgr (by omega) (fun j e => by
        unfold rowOf at e
        split at e
        · cases e
        · cases e; have := HN6.out (by omega); omega))
      have hsz1 : w.heap.size + 2 ≤ w1.heap.size := Nat.le_trans hsz hgr.size
      have hsz2 : wr.heap.size ≤ w1.heap.size := hgr.size
      have HNU := Lib.hid hnums
      have HPR := Lib.hid hpre
      have HB2 := Lib.hid (HB1.out.grow ((Below.refl _ w1).alloc (Nat.le_refl _) (.map #[] 0)))
      have b0 := cellAt HB2.out 0
      have b1 := cellAt HB2.out 1
      have b2 := cellAt HB2.out 2
      simp only [List.getElem?_toArray, List.getElem?_cons_zero, List.getElem?_cons_succ] at b0 b1 b2
      clear HB1 HX HLA HBX hbel hgr hnums hpre hne1 hne0
      have hmm := @run_makeMap Tryz.prog
      go_wp2_with fail
      have HI : OwnInv w #[.int .i64 cr, .slice sa sn sc, .slice ta k tc] oa k (fun i => if i < k then K i else ⟨0, 0, 0⟩) g w1.heap.size 0 (fun _ _ => 0) (w1.alloc (.map #[] 0)) := by
        have hb := (Below.refl w1.heap.size w1).alloc (Nat.le_refl _) (.map #[] 0)
        refine ⟨HL1.out.grow hb, HB2.out, HNU.out.grow hb (fun h => ?_), fun h => ?_, MapAt.made w1, HBE.out.alloc (by omega) _, hsz1, fun h => ?_⟩
        · have := HN6.out h; omega
        · have := HN6.out h; rw [sizeAlloc]; omega
        · have := HN6.out h; omega
      have HI := Lib.hid HI
      generalize w1.heap.size = B at *
      generalize w1.alloc (.map #[] 0) = W2 at *
      clear HB2 b0 b1 b2 HNU HL1 HBE hmm
      go_loopw [45] (Own2 w #[.int .i64 cr, .slice sa sn sc, .slice ta k tc] oa k (fun i => if i < k then K i else ⟨0, 0, 0⟩) g B S sn) (fun i _ => sn - (intOf i).toNat)
      case atStart => exact ⟨0, Nat.zero_le _, rfl, by rw [seamG_zero]; exact HI.out⟩
      case round =>
        obtain ⟨j, hj, rfl, hinv⟩ := hrel
        have HI := Lib.hid hinv
        clear hinv
        by_cases hlt : j < sn
        · have hi := fun w => run_indexAt_row (w := w) (cap := sc) Tryz.underlying36 size52 (HS.out.plain (by omega)) hlt
          obtain ⟨g0, g1⟩ := (HS.out.grow HI.out.bel).at hlt
          have hfat := hSf j hlt
          have HI2 := Lib.hid (HI.out.grow ((Below.refl _ wr).alloc (Nat.le_refl _) (.cells #[.int .i64 (S j).fat, .int .i64 (S j).rate] 43)))
          obtain ⟨w5, r1, r2, r3⟩ := HI2.out.map.store (s := j) (c := -1) ⟨by omega, by omega, by omega, by omega⟩ (v := 2 ^ (S j).fat.toNat - 1) (full_lt _ hfat.2) (by unfold maxLen; omega)
          rw [← full_val _ hfat.2] at r1
          have HR2 := Lib.hid r2
          have HR3 := Lib.hid r3
          obtain ⟨hf0, hf1⟩ := hfat
          clear r2 r3
          go_wp2_with fail
          exact ⟨⟨j + 1, hlt, by go_num, by rw [seamG_succ]; exact HI2.out.store HR3.out HR2.out⟩, by simp [intOf]; omega⟩
        · obtain rfl : j = sn := by omega
          clear HX HTR
          go_wp2_with fail
          go_loopw [60] (Own3 w #[.int .i64 cr, .slice sa j sc, .slice ta k tc] oa k (fun i => if i < k then K i else ⟨0, 0, 0⟩) g B S j T K) (fun i _ => k - (intOf i).toNat)
          case atStart => exact ⟨0, j, Nat.zero_le _, by omega, rfl, HI.out⟩
          case round =>
            clear HI
            obtain ⟨m, n, hm, hn, rfl, hinv⟩ := hrel
            have hsm := SmallG.fold S j T K g hSf m
            have hst : Hid (foldG S j T K g (m + 1) = stepG T K (g m) (foldG S j T K g m)) := rfl
            have hen : Hid (m = k → foldG S j T K g k = foldG S j T K g m) := fun e => by rw [e]
            generalize foldG S j T K g m = G at *
            have HI := Lib.hid hinv
            clear hinv
            by_cases hlt : m < k
            · have hgm := HPR.out.lt m hlt
              have hBlt := HI.out.map.lt
              have c6 := HI.out.nums.cell m hlt
              have hi6 := fun w => run_indexAt_row (w := w) (cap := ocap) (k := m) (n := k) Tryz.underlying24 size3 (HP.out (by omega)) hlt
              simp only [Nat.mul_one] at hi6
              have hi := fun w => run_indexAt_row (w := w) (cap := tc) (k := g m) (n := k) Tryz.underlying37 size58 (HT.out.plain (by omega)) hgm
              obtain ⟨g0, g1, g2, g3, g4, g5, g6, g7⟩ := (HT.out.grow HI.out.bel).at hgm
              have b0 := cellAt HI.out.box 0
              have b1 := cellAt HI.out.box 1
              have b2 := cellAt HI.out.box 2
              simp only [List.getElem?_toArray, List.getElem?_cons_zero, List.getElem?_cons_succ] at b0 b1 b2
              go_wp2_with fail
              generalize hW3 : World.alloc _ _ = W3
              obtain ⟨q0, q1, hz3, hB3⟩ := blocks2 hW3
              clear hW3
              have hok := hTok (g m) hgm
              have hkk := hKok (g m) hgm
              have I0 : Inv3 w #[.int .i64 cr, .slice sa j sc, .slice ta k tc] oa k (fun i => if i < k then K i else ⟨0, 0, 0⟩) g B n G wr.heap.size #[.int .i64 (T (g m)).crew, .int .i64 (T (g m)).seam, .int .i64 (T (g m)).fl, .int .i64 (T (g m)).fh, .int .i64 (T (g m)).tl, .int .i64 (T (g m)).th, .int .i64 (T (g m)).dl, .int .i64 (T (g m)).dh] (wr.heap.size + 1) #[.int .i64 (T (g m)).seam, .int .i64 (-1)] W3 :=
                ⟨HI.out.grow hB3, q0, q1⟩
              clear g0 g1 g2 g3 g4 g5 g6 g7 b0 b1 b2 q0 q1 hi hi6 c6
              have bnd1 : (0 : Int) ≤ (g m : Int) := by omega
              have bnd2 : (g m : Int) < 6 := by omega
              have E0 := eqs3 hgm (by omega) hok hs I0
              go_region_held3 (fun w' => (w'.cell? ⟨w.heap.size + 1, g m * 3, none⟩ = some (.int .i64 (K (g m)).fr) ∧ w'.cell? ⟨w.heap.size + 1, g m * 3 + 1, none⟩ = some (.int .i64 (K (g m)).to) ∧ w'.cell? ⟨w.heap.size + 1, g m * 3 + 2, none⟩ = some (.int .i64 (K (g m)).td) ∧
                  w'.cell? ⟨wr.heap.size + 1, 0, none⟩ = some (.int .i64 (T (g m)).seam) ∧ w'.cell? ⟨wr.heap.size + 1, 1, none⟩ = some (.int .i64 (-1)) ∧
                  (Instr.lookup 146 (.map (some B)) (.agg #[.int .i64 (T (g m)).seam, .int .i64 (-1)]) false).run Tryz.prog w' = .ok (.int .u32 (G (T (g m)).seam (-1))) w') ∧
                  Inv3 w #[.int .i64 cr, .slice sa j sc, .slice ta k tc] oa k (fun i => if i < k then K i else ⟨0, 0, 0⟩) g B n G wr.heap.size #[.int .i64 (T (g m)).crew, .int .i64 (T (g m)).seam, .int .i64 (T (g m)).fl, .int .i64 (T (g m)).fh, .int .i64 (T (g m)).tl, .int .i64 (T (g m)).th, .int .i64 (T (g m)).dl, .int .i64 (T (g m)).dh] (wr.heap.size + 1) #[.int .i64 (T (g m)).seam, .int .i64 (-1)] w')
                (first | exact both3 hgm (by omega) hok hs (I0.grow (Below.drew (Below.refl _ _))) | (go_split_ands; exact both3 hgm (by omega) hok hs (Inv3.grow (by assumption) hb)) | go_keep)
                (first | (go_at_call 91; refine (known_fathoms_any _ _ _ _ hkk.f0 hkk.f1 hkk.t0 hkk.t1).mono ?_; rintro e w' ⟨rfl, hb⟩))
              all_goals
                have I1 := (I0.grow (Below.drew (Below.refl _ _))).grow hb
                have I1d := Lib.hid (I1.grow (Below.drew (Below.refl _ _)))
                have he : bits .and .u32 ((fmask (K (g m)).fr (K (g m)).to : Nat) : Int) ((G (T (g m)).seam (-1) : Nat) : Int) = ((ownOf T K (g m) G : Nat) : Int) := u32_and_nat _ _ (by have := fmask_lt (K (g m)).fr (K (g m)).to hkk.t1; omega) (by have := hsm (T (g m)).seam (-1); omega)
                rw [he]
                have hol := ownOf_lt hsm T K (g m)
                have hgl := hsm (T (g m)).seam (-1)
                have dm1 : pdom (T (g m)).seam (-1) := ⟨hok.s0, by have := hok.s1; omega, by omega, by omega⟩
                have dm2 : pdom (T (g m)).seam (T (g m)).crew := ⟨hok.s0, by have := hok.s1; omega, by have := hok.c0; omega, hok.c1⟩
                have l1 := I1d.out.inv.map.look dm1
                obtain ⟨w6, r1, r2, r3⟩ := I1d.out.inv.map.store dm1 (v := G (T (g m)).seam (-1) &&& (4294967295 - ownOf T K (g m) G)) (Nat.lt_of_le_of_lt Nat.and_le_left (by omega)) (by unfold maxLen; omega)
                have I2 := Lib.hid (I1d.out.store r3 r2 (by omega) (by omega))
                clear he hb E0 I0 I1 r2 r3
                go_wp2_with fail
                go_region_held3 (fun w' => w'.cell? ⟨wr.heap.size + 1, 0, none⟩ = some (.int .i64 (T (g m)).seam) ∧ w'.cell? ⟨wr.heap.size + 1, 1, none⟩ = some (.int .i64 (-1)))
                  (first | exact ⟨cellAt I1d.out.pl 0, cellAt I1d.out.pl 1⟩ | exact ⟨cellAt I2.out.pl 0, cellAt I2.out.pl 1⟩)
                  (first | (go_at_call 92; refine (but_any _ _ _ (by omega) (by omega)).mono ?_; rintro e w' ⟨rfl, rfl⟩))
                clear l1 r1
                go_wp2_with fail
                have I2d := Lib.hid (I2.out.grow (Below.drew (Below.refl _ _)))
                have hsm1 := hsm.left T K (g m)
                have he2 : bits .or .u32 ((leftG T K (g m) G (T (g m)).seam (T (g m)).crew : Nat) : Int) ((ownOf T K (g m) G : Nat) : Int) = ((leftG T K (g m) G (T (g m)).seam (T (g m)).crew ||| ownOf T K (g m) G : Nat) : Int) := u32_or_nat _ _ (by have := hsm1 (T (g m)).seam (T (g m)).crew; omega) (by omega)
                have l2 : (Instr.lookup 146 (.map (some B)) (.agg #[.int .i64 (T (g m)).seam, .int .i64 (T (g m)).crew]) false).run Tryz.prog w6.drew = .ok (.int .u32 (leftG T K (g m) G (T (g m)).seam (T (g m)).crew)) w6.drew := I2d.out.inv.map.look dm2
                obtain ⟨v0, st, w7, w8, e1, e2, e3, e4, e5, e6⟩ := I2d.out.inv.map.entry dm2 (v := leftG T K (g m) G (T (g m)).seam (T (g m)).crew ||| ownOf T K (g m) G) (Nat.lt_trans (Nat.or_lt_two_pow (n := 20) (hsm1 _ _) hol) (by omega)) (by unfold maxLen; omega)
                have e2' : (Instr.lookup 146 (.map (some B)) (.agg #[.int .i64 (T (g m)).seam, .int .i64 (T (g m)).crew]) false).run Tryz.prog w7 = .ok (.int .u32 (leftG T K (g m) G (T (g m)).seam (T (g m)).crew)) w7 := e2
                have nB : some wr.heap.size ≠ some B := by simp; omega
                have t7 := Lib.hid (I2d.out.tk.kept e5 nB)
                have t8 := Lib.hid (I2d.out.tk.kept e6 nB)
                have I3 := Lib.hid (I2d.out.inv.store e6 e4)
                clear e2 e4 e5 e6 I1d hsm1
                simp only [goInt] at e1 e3
                go_region_held3 (fun w' => w'.cell? ⟨wr.heap.size, 0, none⟩ = some (.int .i64 (T (g m)).crew) ∧ w'.cell? ⟨wr.heap.size, 1, none⟩ = some (.int .i64 (T (g m)).seam))
                  (first | exact ⟨cellAt I2d.out.tk 0, cellAt I2d.out.tk 1⟩ | exact ⟨cellAt t7.out 0, cellAt t7.out 1⟩ | exact ⟨cellAt t8.out 0, cellAt t8.out 1⟩)
                  (fail)
                all_goals
                  clear he2 l2 e1 e2' e3
                  go_wp2_with fail
                  exact ⟨⟨m + 1, n + 1 + 1, hlt, by omega, by go_num, by rw [hst.out]; exact I3.out⟩, by simp [intOf]; omega⟩
            · obtain rfl : m = k := by omega
              have hG := hen.out rfl
              have HG := Lib.hid hG
              clear hG
              go_wp2_with fail
              go_ret
              exact ⟨B, n, G, rfl, HI.out.map, HI.out.bel, by omega, g, HPR.out.congr (fun i hi => by simp [hi]), HG.out.symm⟩
end Go.Proofs.YtikeihnhkiipgaaGreat.Wa

namespace Go.Proofs.YtikeihnhkiipgaaGreat.Wa
open Go.RowKit

def mostK (m : Int) (T : Nat → Tk) (i : Nat) : Kn := ⟨if (T i).crew = m then (T i).fl else (T i).fh, if (T i).crew = m then (T i).th else (T i).tl, if (T i).crew = m then (T i).dl else (T i).dh⟩
def leastK (m : Int) (T : Nat → Tk) (i : Nat) : Kn := ⟨if (T i).crew = m then (T i).fh else (T i).fl, if (T i).crew = m then (T i).tl else (T i).th, if (T i).crew = m then (T i).dh else (T i).dl⟩
def toldK (f t d : Nat → Int) (i : Nat) : Kn := ⟨f i, t i, d i⟩

theorem truth_most (w : World) (m : Int) (tn : Nat) (T : Nat → Tk) : Truth w 106 (.agg #[.int .i64 m]) 132 tn T (mostK m T) where
  meth := fun w => by kernel_rfl
  enter := fun args w => by kernel_rfl
  call := fun i _ W _ => most_of_any m i (T i).crew (T i).seam (T i).fl (T i).fh (T i).tl (T i).th (T i).dl (T i).dh W
theorem truth_least (w : World) (m : Int) (tn : Nat) (T : Nat → Tk) : Truth w 108 (.agg #[.int .i64 m]) 133 tn T (leastK m T) where
  meth := fun w => by kernel_rfl
  enter := fun args w => by kernel_rfl
  call := fun i _ W _ => least_of_any m i (T i).crew (T i).seam (T i).fl (T i).fh (T i).tl (T i).th (T i).dl (T i).dh W
end Go.Proofs.YtikeihnhkiipgaaGreat.Wa

namespace Go.Proofs.YtikeihnhkiipgaaGreat.Wa
open Go.RowKit

/-- Does ticket i have the fathom f of seam s? -/
def hasB (T : Nat → Tk) (K : Nat → Kn) (s : Int) (f : Nat) (i : Nat) : Bool := decide ((T i).seam = s) && decide ((K i).fr ≤ f) && decide ((f : Int) < (K i).to)

/-- The first ticket that has it, by tides, then by numbers. -/
def best (T : Nat → Tk) (K : Nat → Kn) (s : Int) (f : Nat) : Nat → Option Nat
  | 0 => none
  | n + 1 =>
    match best T K s f n with
    | none => if hasB T K s f n then some n else none
    | some b => if hasB T K s f n && decide ((K n).td < (K b).td) then some n else some b

/-- The first one in an order. -/
def firstIn (T : Nat → Tk) (K : Nat → Kn) (s : Int) (f : Nat) (g : Nat → Nat) : Nat → Option Nat
  | 0 => none
  | m + 1 =>
    match firstIn T K s f g m with
    | some i => some i
    | none => if hasB T K s f (g m) then some (g m) else none

def crewOf (T : Nat → Tk) : Option Nat → Int
  | none => -1
  | some i => (T i).crew

/-- i is the first of those below n that have it. -/
def IsFirst (T : Nat → Tk) (K : Nat → Kn) (s : Int) (f n : Nat) : Option Nat → Prop
  | none => ∀ j, j < n → hasB T K s f j = false
  | some i => i < n ∧ hasB T K s f i = true ∧ ∀ j, j < n → hasB T K s f j = true → j = i ∨ lexlt (fun i => (K i).td) i j

theorem IsFirst.unique {T : Nat → Tk} {K : Nat → Kn} {s : Int} {f n : Nat} : ∀ {a b : Option Nat}, IsFirst T K s f n a → IsFirst T K s f n b → a = b
  | none, none, _, _ => rfl
  | none, some j, h, k => by have := h j k.1; rw [k.2.1] at this; cases this
  | some i, none, h, k => by have := k i h.1; rw [h.2.1] at this; cases this
  | some i, some j, h, k => by
    have h1 := h.2.2 j k.1 k.2.1
    have h2 := k.2.2 i h.1 h.2.1
    unfold lexlt at h1 h2
    congr 1
    omega

theorem best_isFirst (T : Nat → Tk) (K : Nat → Kn) (s : Int) (f : Nat) : ∀ n, IsFirst T K s f n (best T K s f n)
  | 0 => fun j h => by omega
  | n + 1 => by
    have ih := best_isFirst T K s f n
    unfold best
    cases hb : best T K s f n with
    | none =>
      rw [hb] at ih
      simp only
      by_cases hh : hasB T K s f n = true
      · rw [if_pos hh]
        refine ⟨by omega, hh, fun j hj hhj => ?_⟩
        by_cases e : j = n
        · exact .inl e
        · have := ih j (by omega); rw [hhj] at this; cases this
      · rw [if_neg hh]
        intro j hj
        by_cases e : j = n
        · rw [e]; simpa using hh
        · exact ih j (by omega)
    | some b =>
      rw [hb] at ih
      simp only
      obtain ⟨h1, h2, h3⟩ := ih
      by_cases hh : (hasB T K s f n && decide ((K n).td < (K b).td)) = true
      · rw [if_pos hh]
        simp only [Bool.and_eq_true, decide_eq_true_eq] at hh
        refine ⟨by omega, hh.1, fun j hj hhj => ?_⟩
        by_cases e : j = n
        · exact .inl e
        · have := h3 j (by omega) hhj
          right
          unfold lexlt at *
          rcases this with rfl | h
          · exact .inl hh.2
          · have := hh.2; simp only at h ⊢; omega
      · rw [if_neg hh]
        refine ⟨by omega, h2, fun j hj hhj => ?_⟩
        by_cases e : j = n
        · subst e
          right
          simp only [hhj, Bool.true_and, decide_eq_true_eq] at hh
          unfold lexlt
          have : (K b).td ≤ (K j).td := by omega
          simp only
          omega
        · exact h3 j (by omega) hhj

theorem firstIn_spec (T : Nat → Tk) (K : Nat → Kn) (s : Int) (f : Nat) (g : Nat → Nat) : ∀ m,
    match firstIn T K s f g m with
    | none => ∀ a, a < m → hasB T K s f (g a) = false
    | some i => ∃ a, a < m ∧ i = g a ∧ hasB T K s f i = true ∧ ∀ b, b < a → hasB T K s f (g b) = false
  | 0 => fun a h => by omega
  | m + 1 => by
    have ih := firstIn_spec T K s f g m
    unfold firstIn
    cases hb : firstIn T K s f g m with
    | some i =>
      rw [hb] at ih
      obtain ⟨a, h1, h2⟩ := ih
      exact ⟨a, by omega, h2⟩
    | none =>
      rw [hb] at ih
      simp only at ih ⊢
      by_cases hh : hasB T K s f (g m) = true
      · rw [if_pos hh]
        exact ⟨m, by omega, rfl, hh, fun b hb => ih b hb⟩
      · rw [if_neg hh]
        intro a ha
        by_cases e : a = m
        · rw [e]; simpa using hh
        · exact ih a (by omega)

theorem firstIn_isFirst {T : Nat → Tk} {K : Nat → Kn} {g : Nat → Nat} {n : Nat} (h : Pre (fun i => (K i).td) n n g) (s : Int) (f : Nat) : IsFirst T K s f n (firstIn T K s f g n) := by
  have hs := firstIn_spec T K s f g n
  cases hb : firstIn T K s f g n with
  | none =>
    rw [hb] at hs
    intro j hj
    obtain ⟨a, h1, h2⟩ := h.onto j hj
    rw [← h2]
    exact hs a h1
  | some i =>
    rw [hb] at hs
    obtain ⟨a, h1, h2, h3, h4⟩ := hs
    refine ⟨by rw [h2]; exact h.lt a h1, h3, fun j hj hhj => ?_⟩
    obtain ⟨b, e1, e2⟩ := h.onto j hj
    by_cases e : a = b
    · left; rw [h2, ← e2, e]
    · right
      rcases Nat.lt_or_ge a b with hab | hab
      · rw [h2, ← e2]; exact h.srt a b hab e1
      · have := h4 b (by omega)
        rw [e2, hhj] at this
        cases this

theorem firstIn_best {T : Nat → Tk} {K : Nat → Kn} {g : Nat → Nat} {n : Nat} (h : Pre (fun i => (K i).td) n n g) (s : Int) (f : Nat) : firstIn T K s f g n = best T K s f n :=
  (firstIn_isFirst h s f).unique (best_isFirst T K s f n)

/-! The bits. -/
theorem fmask_bit (a b : Int) (h0 : 0 ≤ a) (h1 : 0 ≤ b) (f : Nat) : (fmask a b).testBit f = (decide (a ≤ f) && decide ((f : Int) < b)) := by
  obtain ⟨a, rfl⟩ := Int.eq_ofNat_of_zero_le h0
  obtain ⟨b, rfl⟩ := Int.eq_ofNat_of_zero_le h1
  unfold fmask
  split
  · rename_i h
    simp
    omega
  · rename_i h
    simp only [Int.toNat_natCast]
    have e : 2 ^ b - 2 ^ a = 2 ^ a * (2 ^ (b - a) - 1) := by
      rw [Nat.mul_sub, ← Nat.pow_add, show a + (b - a) = b by omega, Nat.mul_one]
    rw [e, Nat.testBit_two_pow_mul, Nat.testBit_two_pow_sub_one, Bool.eq_iff_iff]
    simp
    omega
theorem full_bit (n f : Nat) : (2 ^ n - 1).testBit f = decide (f < n) := Nat.testBit_two_pow_sub_one n f
theorem not_bit (n f : Nat) (hn : n < 1048576) (hf : f < 32) : (4294967295 - n).testBit f = !n.testBit f := by
  have e : 4294967295 - n = 2 ^ 32 - (n + 1) := by omega
  rw [e, Nat.testBit_two_pow_sub_succ (by omega)]
  simp [hf]
theorem small_bit (n f : Nat) (hn : n < 1048576) (hf : 32 ≤ f) : n.testBit f = false :=
  Nat.testBit_lt_two_pow (Nat.lt_of_lt_of_le hn (Nat.le_trans (show 1048576 ≤ 2 ^ 32 by decide) (Nat.pow_le_pow_right (by omega) hf)))
theorem but_bit (m n f : Nat) (hm : m < 1048576) (hn : n < 1048576) : (m &&& (4294967295 - n)).testBit f = (m.testBit f && !n.testBit f) := by
  rw [Nat.testBit_and]
  rcases Nat.lt_or_ge f 32 with h | h
  · rw [not_bit n f hn h]
  · rw [small_bit m f hm h]; simp

/-- In a world of m tickets in the order g: whose each fathom is. -/
theorem foldG_bit {S : Nat → Sm} {sn : Nat} {T : Nat → Tk} {K : Nat → Kn} {g : Nat → Nat} {tn : Nat} (hs : ∀ j, j < sn → 0 ≤ (S j).fat ∧ (S j).fat ≤ 20) (hsn : sn ≤ 3)
    (hT : ∀ i, i < tn → TkOk sn (T i)) (hK : ∀ i, i < tn → KnOk (K i)) (hg : ∀ m, m < tn → g m < tn) {s : Int} (s0 : 0 ≤ s) (s1 : s < sn) (c : Int) (hc : -1 ≤ c) (f : Nat) :
    ∀ m, m ≤ tn → (foldG S sn T K g m s c).testBit f = (decide ((f : Int) < (S s.toNat).fat) && decide (crewOf T (firstIn T K s f g m) = c))
  | 0, _ => by
    have h1 := hs s.toNat (by omega)
    unfold foldG firstIn crewOf seamG
    by_cases e : c = -1
    · subst e
      rw [if_pos ⟨rfl, s0, s1⟩, full_bit, Bool.eq_iff_iff]
      simp
    · rw [if_neg (fun h => e h.1)]
      simp
      omega
  | m + 1, hm => by
    have ih := fun c hc => foldG_bit hs hsn hT hK hg s0 s1 c hc f m (by omega)
    have hsm := SmallG.fold S sn T K g hs m
    have hgm := hg m (by omega)
    have ht := hT _ hgm
    have hk := hK _ hgm
    unfold foldG firstIn
    generalize foldG S sn T K g m = G at *
    generalize g m = i at *
    have hown := ownOf_lt hsm T K i
    by_cases es : (T i).seam = s
    · -- the ticket's own seam
      have hb : hasB T K s f i = (decide ((K i).fr ≤ f) && decide ((f : Int) < (K i).to)) := by simp [hasB, es]
      have ho : (ownOf T K i G).testBit f = (hasB T K s f i && (G s (-1)).testBit f) := by
        unfold ownOf
        rw [Nat.testBit_and, fmask_bit _ _ hk.f0 hk.t0, es, hb]
      have hL := ih (-1) (by omega)
      have hC := ih c hc
      have hfs := firstIn_spec T K s f g m
      have hcr := ht.c0
      have hval : (stepG T K i G s c).testBit f = if c = (T i).crew then (G s c).testBit f || (ownOf T K i G).testBit f else if c = -1 then (G s c).testBit f && !(ownOf T K i G).testBit f else (G s c).testBit f := by
        unfold stepG leftG upd
        rw [es]
        by_cases e1 : c = (T i).crew
        · subst e1
          rw [if_pos ⟨rfl, rfl⟩, if_pos rfl, if_neg (fun h => by have := h.2; omega), Nat.testBit_or]
        · rw [if_neg (fun h => e1 h.2), if_neg e1]
          by_cases e2 : c = -1
          · subst e2
            rw [if_pos ⟨rfl, rfl⟩, if_pos rfl, but_bit _ _ _ (hsm _ _) hown]
          · rw [if_neg (fun h => e2 h.2), if_neg e2]
      rw [hval, ho, hC, hL]
      cases hf : firstIn T K s f g m with
      | none =>
        simp only [crewOf]
        cases hh : hasB T K s f i
        · simp
          congr
        · simp only [if_true, Bool.true_and]
          by_cases e1 : c = (T i).crew
          · have : ¬ ((-1 : Int) = (T i).crew) := by omega
            simp [e1, this]
          · rw [if_neg e1]
            have e1' : ¬ (T i).crew = c := fun h => e1 h.symm
            by_cases e2 : c = -1
            · subst e2
              simp [e1']
            · have e2' : ¬ (-1 : Int) = c := fun h => e2 h.symm
              simp [e1', e2, e2']
      | some i0 =>
        rw [hf] at hfs
        obtain ⟨a, ha, ea, _⟩ := hfs
        have h0 := (hT i0 (by rw [ea]; exact hg a (by omega))).c0
        have hn : ¬ (T i0).crew = -1 := by omega
        simp [crewOf, hn]
    · have hb : hasB T K s f i = false := by simp [hasB, es]
      have e1 : stepG T K i G s c = G s c := by
        unfold stepG leftG upd
        rw [if_neg (fun h => es h.1.symm), if_neg (fun h => es h.1.symm)]
      rw [e1, ih c hc]
      cases firstIn T K s f g m <;> simp [hb]

/-- To whom the fathom f of seam s is due: a crew, or nobody (-1). -/
def ownerOf (T : Nat → Tk) (K : Nat → Kn) (tn : Nat) (s : Int) (f : Nat) : Int := crewOf T (best T K s f tn)
/-- How many of the first n numbers are so. -/
def cntP (p : Nat → Bool) : Nat → Nat
  | 0 => 0
  | n + 1 => cntP p n + if p n then 1 else 0
theorem cntP_congr {p q : Nat → Bool} : ∀ n, (∀ i, i < n → p i = q i) → cntP p n = cntP q n
  | 0, _ => rfl
  | n + 1, h => by
    simp only [cntP]
    rw [cntP_congr n (fun i hi => h i (by omega)), h n (by omega)]
theorem bitsum_cntP (n m : Nat) : bitsum n m = cntP (fun i => m.testBit i) n := by
  induction n with
  | zero => rfl
  | succ n ih => simp only [bitsum, cntP, ih]
theorem cntP_cut (p : Nat → Bool) (a : Nat) : ∀ n, a ≤ n → cntP (fun i => decide (i < a) && p i) n = cntP p a
  | 0, h => by
    obtain rfl : a = 0 := by omega
    rfl
  | n + 1, h => by
    simp only [cntP]
    by_cases e : a = n + 1
    · subst e
      simp only [cntP]
      rw [cntP_congr n (q := p) (fun i hi => by simp [show i < n + 1 by omega])]
      simp
    · rw [cntP_cut p a n (by omega)]
      simp [show ¬ n < a by omega]
/-- How many fathoms of seam s are due to crew c (-1: nobody). -/
def manyOf (S : Nat → Sm) (T : Nat → Tk) (K : Nat → Kn) (tn : Nat) (s c : Int) : Nat := cntP (fun f => decide (ownerOf T K tn s f = c)) (S s.toNat).fat.toNat

theorem foldG_bits {S : Nat → Sm} {sn : Nat} {T : Nat → Tk} {K : Nat → Kn} {g : Nat → Nat} {tn : Nat} (hs : ∀ j, j < sn → 0 ≤ (S j).fat ∧ (S j).fat ≤ 20) (hsn : sn ≤ 3)
    (hT : ∀ i, i < tn → TkOk sn (T i)) (hK : ∀ i, i < tn → KnOk (K i)) (hp : Pre (fun i => (K i).td) tn tn g) {s : Int} (s0 : 0 ≤ s) (s1 : s < sn) (c : Int) (hc : -1 ≤ c) (f : Nat) :
    (foldG S sn T K g tn s c).testBit f = (decide ((f : Int) < (S s.toNat).fat) && decide (ownerOf T K tn s f = c)) := by
  rw [foldG_bit hs hsn hT hK hp.lt s0 s1 c hc f tn (Nat.le_refl _), firstIn_best hp]
  rfl
theorem foldG_count {S : Nat → Sm} {sn : Nat} {T : Nat → Tk} {K : Nat → Kn} {g : Nat → Nat} {tn : Nat} (hs : ∀ j, j < sn → 0 ≤ (S j).fat ∧ (S j).fat ≤ 20) (hsn : sn ≤ 3)
    (hT : ∀ i, i < tn → TkOk sn (T i)) (hK : ∀ i, i < tn → KnOk (K i)) (hp : Pre (fun i => (K i).td) tn tn g) {s : Int} (s0 : 0 ≤ s) (s1 : s < sn) (c : Int) (hc : -1 ≤ c) :
    popc (foldG S sn T K g tn s c) = manyOf S T K tn s c := by
  have h1 := hs s.toNat (by omega)
  unfold popc manyOf
  rw [bitsum_cntP, ← cntP_cut _ (S s.toNat).fat.toNat 20 (by omega)]
  refine cntP_congr 20 fun i _ => ?_
  rw [foldG_bits hs hsn hT hK hp s0 s1 c hc i]
  congr 1
  rw [Bool.eq_iff_iff]
  simp
end Go.Proofs.YtikeihnhkiipgaaGreat.Wa

namespace Go.Proofs.YtikeihnhkiipgaaGreat.Wa
open Go.RowKit

/-- Valid wages. -/
structure Valid (cr : Int) (sn tn : Nat) (S : Nat → Sm) (T : Nat → Tk) : Prop where
  cr0 : 1 ≤ cr
  cr1 : cr ≤ 4
  sn3 : sn ≤ 3
  tn6 : tn ≤ 6
  fat : ∀ j, j < sn → 0 ≤ (S j).fat ∧ (S j).fat ≤ 20
  rate : ∀ j, j < sn → 0 ≤ (S j).rate ∧ (S j).rate ≤ 50
  tk : ∀ i, i < tn → 0 ≤ (T i).crew ∧ (T i).crew < cr ∧ 0 ≤ (T i).seam ∧ (T i).seam < sn
  td : ∀ i, i < tn → spanB (T i).dl (T i).dh 40 = true
  fr : ∀ i, i < tn → spanB (T i).fl (T i).fh (S (T i).seam.toNat).fat = true
  to : ∀ i, i < tn → spanB (T i).tl (T i).th (S (T i).seam.toNat).fat = true
theorem Valid.tkOk {cr : Int} {sn tn : Nat} {S : Nat → Sm} {T : Nat → Tk} (h : Valid cr sn tn S T) : ∀ i, i < tn → TkOk sn (T i) := fun i hi => by
  have := h.tk i hi
  have := h.cr1
  exact ⟨by omega, by omega, by omega, by omega⟩
theorem Valid.spans {cr : Int} {sn tn : Nat} {S : Nat → Sm} {T : Nat → Tk} (h : Valid cr sn tn S T) {i : Nat} (hi : i < tn) :
    0 ≤ (T i).fl ∧ (T i).fl ≤ (T i).fh ∧ (T i).fh ≤ 20 ∧ 0 ≤ (T i).tl ∧ (T i).tl ≤ (T i).th ∧ (T i).th ≤ 20 ∧ 0 ≤ (T i).dl ∧ (T i).dl ≤ (T i).dh ∧ (T i).dh ≤ 40 := by
  have h1 := spanB_iff.1 (h.fr i hi)
  have h2 := spanB_iff.1 (h.to i hi)
  have h3 := spanB_iff.1 (h.td i hi)
  have h4 := h.tk i hi
  have h5 := h.fat (T i).seam.toNat (by omega)
  omega
theorem Valid.most {cr : Int} {sn tn : Nat} {S : Nat → Sm} {T : Nat → Tk} (h : Valid cr sn tn S T) (m : Int) : ∀ i, i < tn → KnOk (mostK m T i) := fun i hi => by
  have := h.spans hi
  unfold mostK
  constructor <;> simp only <;> split <;> omega
theorem Valid.least {cr : Int} {sn tn : Nat} {S : Nat → Sm} {T : Nat → Tk} (h : Valid cr sn tn S T) (m : Int) : ∀ i, i < tn → KnOk (leastK m T i) := fun i hi => by
  have := h.spans hi
  unfold leastK
  constructor <;> simp only <;> split <;> omega

set_option maxRecDepth 100000 in
set_option maxHeartbeats 1000000 in
theorem many_any (cr : Int) (sa ta : Option Addr) (sn sc tn tc : Nat) (S : Nat → Sm) (T : Nat → Tk) (K : Nat → Kn) (w : World) (hS : SeamsAt w sa sn S) (hT : TicketsAt w ta tn T) (hv : Valid cr sn tn S T) (hK : ∀ i, i < tn → KnOk (K i))
    (ty : TypeId) (v : Value) (fn : FuncId) (htr : Truth w ty v fn tn T K) (s c : Int) (s0 : 0 ≤ s) (s1 : s < sn) (c0 : -1 ≤ c) (c1 : c ≤ 3) :
    Calls Tryz.prog 48 #[.agg #[.int .i64 cr, .slice sa sn sc, .slice ta tn tc], .int .i64 s, .int .i64 c, .iface ty v] w
      fun e w' => e = .returned (.int .i64 (manyOf S T K tn s c)) ∧ Below w.heap.size w w' := by
  have C := fun W (hb : Below w.heap.size w W) (hW : w.heap.size ≤ W.heap.size) => owned_any cr sa ta sn sc tn tc S T K W (hS.grow hb) (hT.grow hb) hv.sn3 hv.tn6 hv.fat hv.tkOk hK ty v fn ⟨htr.meth, htr.enter, fun i hi W' hb' => htr.call i hi W' (hb.trans (hb'.mono hW))⟩
  have HC := Lib.hid C
  have HV := Lib.hid hv
  have hcnt := Lib.hid (fun g hp => foldG_count (g := g) hv.fat hv.sn3 hv.tkOk hK hp s0 s1 c c0)
  have hsm := Lib.hid (fun g => SmallG.fold S sn T K g hv.fat tn)
  have hd : pdom s c := ⟨s0, by have := hv.sn3; omega, c0, c1⟩
  clear C hS hT hv htr hK
  go_enter Tryz.func48, Tryz.ntmps48
  go_wp2_with fail
  refine (HC.out _ ((Below.refl _ _).alloc (Nat.le_refl _) _) (by simp)).mono ?_
  rintro e w1 ⟨B, n, G, rfl, hm, hb, hB, g, hp, rfl⟩
  have l1 := hm.look hd
  have hb0 : Below w.heap.size w w1 := ((Below.refl _ _).alloc (Nat.le_refl _) _).trans (hb.mono (by simp))
  have HB := Lib.hid hb0
  have HE := Lib.hid (hcnt.out g hp)
  have hlt := hsm.out g s c
  clear hm hb hB hp hb0
  go_wp2_with (go_at_call 71; refine (count_any _ _ hlt).mono ?_; rintro e w' ⟨rfl, m, rfl⟩)
  go_ret
  exact ⟨by rw [← HE.out]; rfl, below_drewN HB.out _⟩
end Go.Proofs.YtikeihnhkiipgaaGreat.Wa

namespace Go.Proofs.YtikeihnhkiipgaaGreat.Wa
open Go.RowKit

def sumF (f : Nat → Int) : Nat → Int
  | 0 => 0
  | n + 1 => sumF f n + f n
theorem sumF_bd (f : Nat → Int) (m : Nat) (h : ∀ i, i < m → 0 ≤ f i ∧ f i ≤ 1000000) : ∀ n, n ≤ m → 0 ≤ sumF f n ∧ sumF f n ≤ 1000000 * n
  | 0, _ => by simp [sumF]
  | n + 1, hn => by
    have := sumF_bd f m h n (by omega)
    have := h n (by omega)
    simp only [sumF]
    omega
theorem sumF_congr {f g : Nat → Int} : ∀ n, (∀ i, i < n → f i = g i) → sumF f n = sumF g n
  | 0, _ => rfl
  | n + 1, h => by simp only [sumF]; rw [sumF_congr n (fun i hi => h i (by omega)), h n (by omega)]

set_option maxHeartbeats 400000 in
theorem sum_any (oa : Option Addr) (n cap : Nat) (f : Nat → Int) (w : World) (hl : IntsAt w oa n f) (hn : n ≤ 1000) (hf : ∀ i, i < n → 0 ≤ f i ∧ f i ≤ 1000000) :
    Calls Tryz.prog 72 #[.slice oa n cap] w fun e w' => e = .returned (.int .i64 (sumF f n)) ∧ w = w' := by
  have HL := Lib.hid hl
  have HF := Lib.hid (sumF_bd f n hf)
  have hfb := Lib.hid hf
  clear hl hf
  go_enter Tryz.func72, Tryz.ntmps72
  go_wp2_with fail
  go_loop [2, 7] (fun s i => ∃ k : Nat, k ≤ n ∧ i = .int .i64 k ∧ s = .int .i64 (sumF f k)) (fun _ i => n - (intOf i).toNat)
  case atStart => exact ⟨0, Nat.zero_le _, rfl, rfl⟩
  case round =>
    obtain ⟨k, hk, rfl, rfl⟩ := hrel
    obtain ⟨x1, x2⟩ := HF.out k hk
    by_cases hlt : k < n
    · have hi := fun w => run_indexAt_row (w := w) (cap := cap) Tryz.underlying24 size3 (HL.out.plain (by omega)) hlt
      have hc := HL.out.at hlt
      obtain ⟨y1, y2⟩ := hfb.out k hlt
      simp only [Nat.mul_one] at hi
      go_wp2_with fail
      exact ⟨⟨k + 1, hlt, by go_num, rfl⟩, by simp [intOf]; omega⟩
    · obtain rfl : k = n := by omega
      go_wp2_with fail
      go_ret
      exact ⟨rfl, rfl⟩

def rowVals (f : Nat → Int) (k : Nat) : List Value := (List.range k).map fun (i : Nat) => Value.int .i64 (f i)
theorem rowVals_succ (f : Nat → Int) (k : Nat) : rowVals f (k + 1) = rowVals f k ++ [.int .i64 (f k)] := by simp [rowVals, List.range_succ]
theorem rowVals_get (f : Nat → Int) (k i : Nat) (h : i < k) : (rowVals f k)[i]? = some (.int .i64 (f i)) := by simp [rowVals, h]

/-- A row of integers that the call has made, as a slice that may be nil. -/
theorem row_ints {w : World} {base n : Nat} {v : Value} {f : Nat → Int} (h : w.ownsRow base 3 1 v n (rowVals f n)) (hn : n ≤ maxLen) :
    ∃ oa cap, v = .slice oa n cap ∧ IntsAt w oa n f ∧ (0 < n → base ≤ blk oa) := by
  rcases h.2 with ⟨rfl, rfl⟩ | ⟨g, cap, cur, rfl, hb, hg, hle, hm, hs, ht⟩
  · exact ⟨none, 0, rfl, ⟨fun h => by omega, fun h => by omega, hn, fun i hi => by omega⟩, fun h => by omega⟩
  · refine ⟨some ⟨g, 0, none⟩, cap, rfl, ⟨fun _ => rfl, fun _ => lt_of_heap hg, hn, fun i hi j hj => ?_⟩, fun _ => hb⟩
    obtain rfl : j = 0 := by omega
    show w.cell? ⟨g, 0 + i * 1 + 0, none⟩ = _
    rw [cellAt hg]
    have h1 := rowVals_get f n i hi
    rw [← ht, List.getElem?_take] at h1
    split at h1
    · simpa using h1
    · cases h1

def coinF (G : Int → Int → Nat) (S : Nat → Sm) (c : Int) (i : Nat) : Int := (popc (G (i : Int) c) : Int) * (S i).rate

structure CoinInv (w : World) (B n : Nat) (G : Int → Int → Nat) (base : Nat) (wr : World) : Prop where
  map : MapAt wr B n G
  bel : Below w.heap.size w wr
  lo : w.heap.size ≤ base
  hB : B < base
  hi : base ≤ wr.heap.size
theorem CoinInv.grow {w : World} {B n : Nat} {G : Int → Int → Nat} {base : Nat} {wr wr' : World} (h : CoinInv w B n G base wr) (hb : Below wr.heap.size wr wr') : CoinInv w B n G base wr' :=
  ⟨h.map.grow hb, h.bel.trans (hb.mono (Nat.le_trans h.lo h.hi)), h.lo, h.hB, Nat.le_trans h.hi hb.size⟩
theorem CoinInv.row {w : World} {B n : Nat} {G : Int → Int → Nat} {base : Nat} {wr wr' : World} (h : CoinInv w B n G base wr) {row : Option Nat} (hg : wr.grownBy wr' row) (hr : ∀ k, row = some k → base ≤ k) : CoinInv w B n G base wr' :=
  ⟨h.map.kept hg (fun e => by have := hr B e.symm; have := h.hB; omega), h.bel.grown hg (Nat.le_trans h.lo h.hi) (fun k e => Nat.le_trans h.lo (hr k e)), h.lo, h.hB, Nat.le_trans h.hi hg.size⟩

def CoinR (w : World) (B n : Nat) (G : Int → Int → Nat) (S : Nat → Sm) (c : Int) (sn base : Nat) (v i : Value) (wr : World) : Prop :=
  ∃ k : Nat, k ≤ sn ∧ i = .int .i64 k ∧ wr.ownsRow base 3 1 v k (rowVals (coinF G S c) k) ∧ CoinInv w B n G base wr

theorem coin_bd {G : Int → Int → Nat} {S : Nat → Sm} {c : Int} {i : Nat} (h : 0 ≤ (S i).rate ∧ (S i).rate ≤ 50) : 0 ≤ coinF G S c i ∧ coinF G S c i ≤ 1000 := by
  unfold coinF
  have h1 := popc_le (G i c)
  have h2 : (0 : Int) ≤ (popc (G i c) : Int) := by omega
  have h3 : (popc (G i c) : Int) ≤ 20 := by omega
  exact ⟨Int.mul_nonneg h2 h.1, Int.le_trans (Int.mul_le_mul h3 h.2 h.1 (by omega)) (by decide)⟩

theorem i64_mul_in {a b : Int} (h : 0 ≤ a * b ∧ a * b ≤ 1000) : IntKind.i64.wrap (a * b) = a * b := IntWalk.i64_in _ ⟨by omega, by omega⟩
theorem own_drewN {w : World} {base n : Nat} {e : TypeId} {sz : Nat} {v : Value} {xs : List Value} (h : w.ownsRow base e sz v n xs) (m : Nat) : (w.drewN m).ownsRow base e sz v n xs := h

set_option maxRecDepth 100000 in
set_option maxHeartbeats 1000000 in
theorem coins_any (cr : Int) (sa ta : Option Addr) (sn sc tn tc : Nat) (S : Nat → Sm) (T : Nat → Tk) (K : Nat → Kn) (w : World) (hS : SeamsAt w sa sn S) (hT : TicketsAt w ta tn T) (hv : Valid cr sn tn S T) (hK : ∀ i, i < tn → KnOk (K i))
    (ty : TypeId) (v : Value) (fn : FuncId) (htr : Truth w ty v fn tn T K) (c : Int) (c0 : -1 ≤ c) (c1 : c ≤ 3) :
    Calls Tryz.prog 45 #[.agg #[.int .i64 cr, .slice sa sn sc, .slice ta tn tc], .int .i64 c, .iface ty v] w
      fun e w' => e = .returned (.int .i64 (sumF (fun s => (manyOf S T K tn s c : Int) * (S s).rate) sn)) ∧ Below w.heap.size w w' := by
  have C := fun W (hb : Below w.heap.size w W) (hW : w.heap.size ≤ W.heap.size) => owned_any cr sa ta sn sc tn tc S T K W (hS.grow hb) (hT.grow hb) hv.sn3 hv.tn6 hv.fat hv.tkOk hK ty v fn ⟨htr.meth, htr.enter, fun i hi W' hb' => htr.call i hi W' (hb.trans (hb'.mono hW))⟩
  have HC := Lib.hid C
  have HV := Lib.hid hv
  have HS := Lib.hid hS
  have hcnt := Lib.hid (fun g hp (s : Nat) (hs : s < sn) => foldG_count (g := g) (s := s) hv.fat hv.sn3 hv.tkOk hK hp (by omega) (by omega) c c0)
  have hsm := Lib.hid (fun g => SmallG.fold S sn T K g hv.fat tn)
  have sn3 := hv.sn3
  clear C hS hT hv htr hK
  go_enter Tryz.func45, Tryz.ntmps45
  go_wp2_with fail
  refine (HC.out _ ((Below.refl _ _).alloc (Nat.le_refl _) _) (by simp)).mono ?_
  rintro e w1 ⟨B, n, G, rfl, hm, hb, hB, g, hp, hG⟩
  have hbx := Lib.hid (show w1.heap[w.heap.size]? = some (.cells #[.int .i64 cr, .slice sa sn sc, .slice ta tn tc] 97 (0, 0)) from (hb.block _ (by simp)).trans (by rw [heapAlloc, if_pos rfl]))
  have HI := Lib.hid (show CoinInv w B n G w1.heap.size w1 from ⟨hm, ((Below.refl _ _).alloc (Nat.le_refl _) _).trans (hb.mono (by simp)), by have := hb.size; simp at this; omega, hm.lt, Nat.le_refl _⟩)
  have HE := Lib.hid (hcnt.out g hp)
  have hlt := Lib.hid (hsm.out g)
  rw [← hG] at HE hlt
  have b1 := cellAt hbx.out 1
  simp only [List.getElem?_toArray, List.getElem?_cons_zero, List.getElem?_cons_succ] at b1
  clear hm hb hB hp hG hcnt hsm
  go_wp2_with fail
  go_loopw [7, 18] (CoinR w B n G S c sn w1.heap.size) (fun _ i _ => sn - (intOf i).toNat)
  case atStart => exact ⟨0, Nat.zero_le _, rfl, World.ownsRow_nil _ _ _ _, HI.out⟩
  case round =>
    clear HI b1
    obtain ⟨k, hk, rfl, hown, hinv⟩ := hrel
    have HI := Lib.hid hinv
    have HO := Lib.hid hown
    clear hinv hown
    by_cases hlt' : k < sn
    · have hi := fun w => run_indexAt_row (w := w) (cap := sc) Tryz.underlying36 size52 (HS.out.plain (by omega)) hlt'
      obtain ⟨g0, g1⟩ := (HS.out.grow HI.out.bel).at hlt'
      go_wp2_with fail
      generalize hW : World.alloc _ _ = W1
      obtain ⟨q0, hz, hB1⟩ := blocks1 hW
      have HO1 : Hid (W1.ownsRow w1.heap.size 3 1 u7 k (rowVals (coinF G S c) k)) := by rw [← hW]; exact HO.out.alloc _
      have HI1 := Lib.hid (HI.out.grow hB1)
      have HBX := Lib.hid (show BoxAt W1 wr.heap.size #[.int .i64 (S k).fat, .int .i64 (S k).rate] 43 from q0)
      have hmul := i64_mul_in (a := ((popc (G k c) : Nat) : Int)) (b := (S k).rate) (coin_bd (G := G) (c := c) (HV.out.rate k hlt'))
      have hd : pdom (k : Int) c := ⟨by omega, by omega, c0, c1⟩
      have hlo := HI.out.hi
      have hl := hlt.out k c
      obtain ⟨i0, hi0, hz0, hz1, hz2⟩ := info_parts info3
      have nb : some wr.heap.size ≠ u7.ownBlock := fun e => by have := (HO.out.lt _ e.symm).2; omega
      have nB : some B ≠ u7.ownBlock := own_ne HO.out HI.out.hB
      have HA := Lib.hid (fun m o => (below_drewN (Below.refl W1.heap.size W1) m).alloc (Nat.le_refl _) o)
      have hz' : w1.heap.size ≤ W1.heap.size := by omega
      have HZ := Lib.hid hz
      clear hW q0 hi g0 g1 HO HI hB1 hz
      go_region_held3 (fun w' => w'.cell? ⟨wr.heap.size, 1, none⟩ = some (.int .i64 (S k).rate) ∧ (Instr.lookup 146 (.map (some B)) (.agg #[.int .i64 k, .int .i64 c]) false).run Tryz.prog w' = .ok (.int .u32 (G k c)) w')
        (first | exact ⟨cellAt HBX.out 1, MapAt.look (MapAt.drew HI1.out.map) hd⟩ | exact ⟨cellAt HBX.out 1, MapAt.look (MapAt.drewN HI1.out.map _) hd⟩ | exact ⟨cellAt (HBX.out.grow (HA.out _ _)) 1, MapAt.look (HI1.out.map.grow (HA.out _ _)) hd⟩ | exact ⟨cellAt ((HBX.out.grow (HA.out _ _)).kept hgrow nb) 1, MapAt.look ((HI1.out.map.grow (HA.out _ _)).kept hgrow nB) hd⟩)
        (first | (go_at_call 71; refine (count_any _ _ hl).mono ?_; rintro e w' ⟨rfl, mm, rfl⟩) | ((refine step_append_lies _ (by rfl) _ _ _ (by rfl) w1.heap.size 3 i0 _ 1 8 Tryz.underlying24 hi0 hz0 hz1 hz2 rfl (by omega) u7 k (rowVals (coinF G S c) k) (by rfl) ((own_drewN HO1.out _).alloc _) ⟨W1.heap.size, 0, none⟩ 1 1 [.int .i64 (coinF G S c k)] (by rfl) (by rfl) (World.news_of_block (cs := #[.int .i64 (coinF G S c k)]) (t := 3) (fr := (0, 0)) (heap_alloc_new _ _)) (by simp [Value.oneCell']) (by omega) (by unfold maxLen; omega) (by omega) (by simp; omega) (W1.heap.size + 1) (by simp) ?_; intro gg cap w3 hown3 hgrow hat hlt3)))
      clear hmul
      have HR := Lib.hid hown3
      have HI3 := Lib.hid ((HI1.out.grow (HA.out _ _)).row hgrow (fun j e => (HO1.out.lt j e).1))
      clear hown3 hgrow
      go_wp2_with fail
      exact ⟨⟨k + 1, hlt', by go_num, by rw [rowVals_succ]; exact HR.out, HI3.out⟩, by simp [intOf]; omega⟩
    · obtain rfl : k = sn := by omega
      obtain ⟨oa, cap, rfl, hints, _⟩ := row_ints HO.out (by unfold maxLen; omega)
      have HX := Lib.hid (sum_any oa k cap (coinF G S c) wr hints (by omega) (fun i hi => by have := coin_bd (G := G) (S := S) (c := c) (i := i) (HV.out.rate i hi); omega))
      clear hints HO
      go_wp2_with fail
      refine HX.out.mono ?_
      rintro e w' ⟨rfl, rfl⟩
      go_wp2_with fail
      go_ret
      refine ⟨ret_int (sumF_congr k fun i hi => ?_), HI.out.bel⟩
      show (popc (G (i : Int) c) : Int) * (S i).rate = _
      rw [HE.out i hi]
end Go.Proofs.YtikeihnhkiipgaaGreat.Wa

namespace Go.Proofs.YtikeihnhkiipgaaGreat.Wa
open Go.RowKit

def coinsOf (S : Nat → Sm) (T : Nat → Tk) (K : Nat → Kn) (sn tn : Nat) (c : Int) : Int := sumF (fun s => (manyOf S T K tn s c : Int) * (S s).rate) sn

theorem coins_c (cr : Int) (sa ta : Option Addr) (sn sc tn tc : Nat) (S : Nat → Sm) (T : Nat → Tk) (K : Nat → Kn) (w : World) (hS : SeamsAt w sa sn S) (hT : TicketsAt w ta tn T) (hv : Valid cr sn tn S T) (hK : ∀ i, i < tn → KnOk (K i))
    (ty : TypeId) (v : Value) (fn : FuncId) (htr : Truth w ty v fn tn T K) (c : Int) (c0 : -1 ≤ c) (c1 : c ≤ 3) :
    Calls Tryz.prog 45 #[.agg #[.int .i64 cr, .slice sa sn sc, .slice ta tn tc], .int .i64 c, .iface ty v] w
      fun e w' => e = .returned (.int .i64 (coinsOf S T K sn tn c)) ∧ Below w.heap.size w w' := coins_any cr sa ta sn sc tn tc S T K w hS hT hv hK ty v fn htr c c0 c1

set_option maxRecDepth 100000 in
set_option maxHeartbeats 1000000 in
theorem due_any (cr : Int) (sa ta : Option Addr) (sn sc tn tc : Nat) (S : Nat → Sm) (T : Nat → Tk) (w : World) (hS : SeamsAt w sa sn S) (hT : TicketsAt w ta tn T) (hv : Valid cr sn tn S T) (c : Int) (c0 : -1 ≤ c) (c1 : c ≤ 3) :
    Calls Tryz.prog 37 #[.agg #[.int .i64 cr, .slice sa sn sc, .slice ta tn tc], .int .i64 c] w
      fun e w' => e = .returned (.agg #[.int .i64 (coinsOf S T (leastK c T) sn tn c), .int .i64 (coinsOf S T (mostK c T) sn tn c)]) ∧ Below w.heap.size w w' := by
  have C1 := Lib.hid (fun W (hb : Below w.heap.size w W) => coins_c cr sa ta sn sc tn tc S T (leastK c T) W (hS.grow hb) (hT.grow hb) hv (hv.least c) 108 _ 133 (truth_least W c tn T) c c0 c1)
  have C2 := Lib.hid (fun W (hb : Below w.heap.size w W) => coins_c cr sa ta sn sc tn tc S T (mostK c T) W (hS.grow hb) (hT.grow hb) hv (hv.most c) 106 _ 132 (truth_most W c tn T) c c0 c1)
  clear hS hT hv
  go_enter Tryz.func37, Tryz.ntmps37
  go_wp2_with fail
  generalize hW : World.alloc _ _ = W
  obtain ⟨q0, q1, hz, hB⟩ := blocks2 hW
  clear hW
  have HB := Lib.hid hB
  have HZ := Lib.hid hz
  have hsz : w.heap.size + 2 ≤ W.heap.size := by omega
  have H0 := Lib.hid (show BoxAt W w.heap.size #[.int .i64 cr, .slice sa sn sc, .slice ta tn tc] 97 from q0)
  have H1 := Lib.hid (show BoxAt W (w.heap.size + 1) #[.int .i64 0, .int .i64 0] 50 from q1)
  clear q0 q1 hz hB
  have tok1 : True := trivial
  have hD := Below.drew (Below.refl W.heap.size W)
  have HD := Lib.hid hD
  have n01 : w.heap.size + 1 ≠ w.heap.size := by omega
  clear hD
  go_region_held3 (fun w' => w'.cell? ⟨w.heap.size, 0, none⟩ = some (.int .i64 cr) ∧ w'.cell? ⟨w.heap.size, 1, none⟩ = some (.slice sa sn sc) ∧ w'.cell? ⟨w.heap.size, 2, none⟩ = some (.slice ta tn tc))
    (first | exact ⟨cellAt H0.out 0, cellAt H0.out 1, cellAt H0.out 2⟩ | exact ⟨cellAt ((H0.out.grow HD.out).grow H1b.out) 0, cellAt ((H0.out.grow HD.out).grow H1b.out) 1, cellAt ((H0.out.grow HD.out).grow H1b.out) 2⟩ | exact ⟨cellAt (((H0.out.grow HD.out).grow H1b.out).grow H2b.out) 0, cellAt (((H0.out.grow HD.out).grow H1b.out).grow H2b.out) 1, cellAt (((H0.out.grow HD.out).grow H1b.out).grow H2b.out) 2⟩ | go_keep)
    (first | (go_at_call 45; have tk := tok1; clear tk; refine (C1.out _ (HB.out.drew)).mono ?_; rintro e w1 ⟨rfl, hb1⟩; clear tok1; have H1b := Lib.hid hb1; clear hb1) | (go_at_call 45; refine (C2.out _ (HB.out.drew.trans (H1b.out.mono (by simp; omega)))).mono ?_; rintro e w2 ⟨rfl, hb2⟩; have H2b := Lib.hid hb2; clear hb2; have R := Lib.hid (((H1.out.grow HD.out).grow H1b.out).grow H2b.out); have r0 := cellAt R.out 0; have r1 := cellAt R.out 1; have f0 := freeAt R.out 0; have f1 := freeAt R.out 1))
  go_wp2_with fail
  exact bodyPost_ret (v := .agg #[.int .i64 (coinsOf S T (leastK c T) sn tn c), .int .i64 (coinsOf S T (mostK c T) sn tn c)]) (by simp [results, Tryz.results37, go_sem, r0, r1]) rfl
    ⟨rfl, (((HB.out.drew.trans (H1b.out.mono (by simp; omega))).trans (H2b.out.mono (by have := H1b.out.size; simp at this; omega))).setCell (p := ⟨_, _, none⟩) (by simp) _).setCell (p := ⟨_, _, none⟩) (by simp) _⟩
end Go.Proofs.YtikeihnhkiipgaaGreat.Wa
