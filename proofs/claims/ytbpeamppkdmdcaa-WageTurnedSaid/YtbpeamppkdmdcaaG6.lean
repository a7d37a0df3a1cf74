/-
  Walks: the exported functions: whose a fathom can be.
-/
import Derived.Test.YtbpeamppkdmdcaaG5

namespace Go.Proofs.Ytbpeamppkdmdcaa
open Go.RowKit

theorem run_shl (c : Nat) (hc : c ≤ 3) (w : World) : (binOp .shl 3 (.int .i64 1) (.int .i64 (c : Int))).run Try.prog w = .ok (.int .i64 ((2 ^ c : Nat) : Int)) w := by
  obtain rfl | rfl | rfl | rfl : c = 0 ∨ c = 1 ∨ c = 2 ∨ c = 3 := by omega
  all_goals kernel_rfl

/-- Ticket k of another crew has the fathom sooner than crew c's ticket i, whatever the truth. -/
def beats (T : Nat → Tk) (c s : Int) (f i k : Nat) : Bool := decide ((T k).crew ≠ c) && hasB T (mostK c T) s f k && (decide ((mostK c T k).td < (T i).dl) || (decide ((mostK c T k).td = (T i).dl) && decide (k < i)))
/-- By ticket i the fathom can be crew c's. -/
def canBy (T : Nat → Tk) (tn : Nat) (c s : Int) (f i : Nat) : Bool := decide ((T i).crew = c) && hasB T (mostK c T) s f i && (List.range tn).all fun k => !beats T c s f i k
def canN (T : Nat → Tk) (tn : Nat) (c s : Int) (f n : Nat) : Bool := (List.range n).any (canBy T tn c s f)
def setN (T : Nat → Tk) (tn : Nat) (s : Int) (f : Nat) : Nat → Nat
  | 0 => 0
  | c + 1 => if canN T tn c s f tn then setN T tn s f c ||| 2 ^ c else setN T tn s f c
def setI (T : Nat → Tk) (tn : Nat) (s : Int) (f c i : Nat) : Nat := if canN T tn c s f i then setN T tn s f c ||| 2 ^ c else setN T tn s f c
theorem canN_succ (T : Nat → Tk) (tn : Nat) (c s : Int) (f n : Nat) : canN T tn c s f (n + 1) = (canN T tn c s f n || canBy T tn c s f n) := by
  simp [canN, List.range_succ]
theorem setN_lt (T : Nat → Tk) (tn : Nat) (s : Int) (f : Nat) : ∀ c, setN T tn s f c < 2 ^ c
  | 0 => by simp [setN]
  | c + 1 => by
    have h := setN_lt T tn s f c
    simp only [setN]
    have h2 : 2 ^ (c + 1) = 2 ^ c + 2 ^ c := by rw [Nat.pow_succ]; omega
    split
    · exact Nat.or_lt_two_pow (by omega) (by omega)
    · omega
theorem setI_lt (T : Nat → Tk) (tn : Nat) (s : Int) (f c i : Nat) : setI T tn s f c i < 2 ^ (c + 1) := by
  have h := setN_lt T tn s f c
  have h2 : 2 ^ (c + 1) = 2 ^ c + 2 ^ c := by rw [Nat.pow_succ]; omega
  unfold setI
  split
  · exact Nat.or_lt_two_pow (by omega) (by omega)
  · omega
theorem setI_no {T : Nat → Tk} {tn : Nat} {s : Int} {f c i : Nat} (h : canBy T tn c s f i = false) : setI T tn s f c (i + 1) = setI T tn s f c i := by
  simp [setI, canN_succ, h]
theorem setI_yes {T : Nat → Tk} {tn : Nat} {s : Int} {f c i : Nat} (h : canBy T tn c s f i = true) : setI T tn s f c (i + 1) = setI T tn s f c i ||| 2 ^ c := by
  simp only [setI, canN_succ, h, Bool.or_true, if_true]
  split
  · rw [Nat.or_assoc, Nat.or_self]
  · rfl
theorem setI_zero (T : Nat → Tk) (tn : Nat) (s : Int) (f c : Nat) : setI T tn s f c 0 = setN T tn s f c := by simp [setI, canN]

theorem setI_full (T : Nat → Tk) (tn : Nat) (s : Int) (f c : Nat) : setI T tn s f c tn = setN T tn s f (c + 1) := by simp [setI, setN]
structure Y1 (w : World) (bx : Nat) (x : Array Value) (s f : Int) (w' : World) : Prop where
  bel : Below w.heap.size w w'
  box : BoxAt w' bx x 77
  s : BoxAt w' (w.heap.size + 1) #[.int .i64 s] 3
  f : BoxAt w' (w.heap.size + 1 + 1) #[.int .i64 f] 3
  r1 : BoxAt w' (w.heap.size + 1 + 1 + 1) #[.int .i64 0] 30
  hi : w.heap.size + 1 + 1 + 1 < bx
theorem Y1.grow {w : World} {bx : Nat} {x : Array Value} {s f : Int} {w1 w2 : World} (h : Y1 w bx x s f w1) (hb : Below w1.heap.size w1 w2) : Y1 w bx x s f w2 :=
  ⟨h.bel.trans (hb.mono (by have := lt_of_heap h.s; omega)), h.box.grow hb, h.s.grow hb, h.f.grow hb, h.r1.grow hb, h.hi⟩
def YR1 (w : World) (bx : Nat) (x : Array Value) (s : Int) (f : Nat) (T : Nat → Tk) (tn cn : Nat) (a i : Value) (wr : World) : Prop :=
  ∃ c : Nat, c ≤ cn ∧ i = .int .i64 c ∧ a = .int .i64 ((setN T tn s f c : Nat) : Int) ∧ Y1 w bx x s f wr
def YR2 (w : World) (bx : Nat) (x : Array Value) (s : Int) (f : Nat) (T : Nat → Tk) (tn c : Nat) (a i : Value) (wr : World) : Prop :=
  ∃ m : Nat, m ≤ tn ∧ i = .int .i64 m ∧ a = .int .i64 ((setI T tn s f c m : Nat) : Int) ∧ Y1 w bx x s f wr
abbrev tkCells (t : Tk) : Array Value := #[.int .i64 t.crew, .int .i64 t.seam, .int .i64 t.fl, .int .i64 t.fh, .int .i64 t.tl, .int .i64 t.th, .int .i64 t.dl, .int .i64 t.dh]
structure Y3 (w : World) (bx : Nat) (x : Array Value) (s f : Int) (tb mb : Nat) (t : Tk) (c : Int) (w' : World) : Prop where
  y : Y1 w bx x s f w'
  tb : BoxAt w' tb (tkCells t) 58
  mb : BoxAt w' mb #[.int .i64 c] 83
theorem Y3.grow {w : World} {bx : Nat} {x : Array Value} {s f : Int} {tb mb : Nat} {t : Tk} {c : Int} {w1 w2 : World} (h : Y3 w bx x s f tb mb t c w1) (hb : Below w1.heap.size w1 w2) : Y3 w bx x s f tb mb t c w2 :=
  ⟨h.y.grow hb, h.tb.grow hb, h.mb.grow hb⟩
def YR3 (w : World) (bx : Nat) (x : Array Value) (s : Int) (f : Nat) (T : Nat → Tk) (tn c m tb mb : Nat) (i : Value) (wr : World) : Prop :=
  ∃ k : Nat, k ≤ tn ∧ i = .int .i64 k ∧ (∀ j, j < k → beats T c s f m j = false) ∧ Y3 w bx x s f tb mb (T m) c wr

/-- What 'Whose' does. -/
def WhosePost (w : World) (V : Prop) (b : Bool) (set : Nat) (none : Bool) (e : Ending) (w' : World) : Prop :=
  Below w.heap.size w w' ∧ ((V ∧ b = true ∧ e = .returned (.tuple #[.int .i64 set, .bool none, .int .i64 0])) ∨ (V ∧ b = false ∧ e = .returned (.tuple #[.int .i64 0, .bool false, .int .i64 2])) ∨ (¬ V ∧ e = .returned (.tuple #[.int .i64 0, .bool false, .int .i64 1])))

structure Y0 (w : World) (bx : Nat) (x : Array Value) (s f : Int) (w' : World) : Prop where
  bel : Below w.heap.size w w'
  box : BoxAt w' bx x 77
  s : BoxAt w' (w.heap.size + 1) #[.int .i64 s] 3
  f : BoxAt w' (w.heap.size + 1 + 1) #[.int .i64 f] 3
  hi : w.heap.size + 1 + 1 + 1 < bx
theorem Y1.y0 {w : World} {bx : Nat} {x : Array Value} {s f : Int} {w1 : World} (h : Y1 w bx x s f w1) : Y0 w bx x s f w1 := ⟨h.bel, h.box, h.s, h.f, h.hi⟩
theorem Y0.set {w : World} {bx : Nat} {x : Array Value} {s f : Int} {w1 : World} (h : Y0 w bx x s f w1) (v : Value) : Y0 w bx x s f (w1.setCell ⟨w.heap.size + 1 + 1 + 1, 0, none⟩ v) :=
  ⟨h.bel.setCell (by dsimp only; omega) v, h.box.set _ v (by have := h.hi; dsimp only; omega), h.s.set _ v (by dsimp only; omega), h.f.set _ v (by dsimp only; omega), h.hi⟩
theorem Y0.cells {w : World} {bx c fn : Nat} {sa ta : Option Addr} {sn sc tn tc : Nat} {s : Int} {w' : World} (h : Y0 w bx #[.int .i64 c, .slice sa sn sc, .slice ta tn tc] s fn w') :
    (w'.cell? ⟨bx, 0, none⟩ = some (.int .i64 c) ∧ w'.cell? ⟨bx, 1, none⟩ = some (.slice sa sn sc) ∧ w'.cell? ⟨bx, 2, none⟩ = some (.slice ta tn tc) ∧ w'.cell? ⟨w.heap.size + 1, 0, none⟩ = some (.int .i64 s) ∧ w'.cell? ⟨w.heap.size + 1 + 1, 0, none⟩ = some (.int .i64 fn)) ∧ Y0 w bx #[.int .i64 c, .slice sa sn sc, .slice ta tn tc] s fn w' :=
  ⟨⟨cellAt h.box 0, cellAt h.box 1, cellAt h.box 2, cellAt h.s 0, cellAt h.f 0⟩, h⟩
structure Z7 (w : World) (bx : Nat) (x : Array Value) (s f : Int) (tb mb : Nat) (t o : Tk) (c : Int) (K : Kn) (ob kb : Nat) (w' : World) : Prop where
  y : Y3 w bx x s f tb mb t c w'
  ob : BoxAt w' ob (tkCells o) 58
  kb : BoxAt w' kb #[.int .i64 K.fr, .int .i64 K.to, .int .i64 K.td] 93
theorem Z7.grow {w : World} {bx : Nat} {x : Array Value} {s f : Int} {tb mb : Nat} {t o : Tk} {c : Int} {K : Kn} {ob kb : Nat} {w1 w2 : World} (h : Z7 w bx x s f tb mb t o c K ob kb w1) (hb : Below w1.heap.size w1 w2) : Z7 w bx x s f tb mb t o c K ob kb w2 :=
  ⟨h.y.grow hb, BoxAt.grow h.ob hb, BoxAt.grow h.kb hb⟩
theorem Z7.cells {w : World} {bx : Nat} {cn : Int} {sa ta : Option Addr} {sn sc tn tc : Nat} {T : Nat → Tk} {s : Int} {fn c m k tb ob kb : Nat} {w' : World} (h : Z7 w bx #[.int .i64 cn, .slice sa sn sc, .slice ta tn tc] s fn tb (tb + 1) (T m) (T k) c (mostK c T k) ob kb w') :
    (w'.cell? ⟨ob, 0, none⟩ = some (.int .i64 (T k).crew) ∧ w'.cell? ⟨ob, 1, none⟩ = some (.int .i64 (T k).seam) ∧ w'.cell? ⟨w.heap.size + 1, 0, none⟩ = some (.int .i64 s) ∧ w'.cell? ⟨kb, 0, none⟩ = some (.int .i64 (mostK c T k).fr) ∧ w'.cell? ⟨kb, 1, none⟩ = some (.int .i64 (mostK c T k).to) ∧ w'.cell? ⟨kb, 2, none⟩ = some (.int .i64 (mostK c T k).td) ∧ w'.cell? ⟨w.heap.size + 1 + 1, 0, none⟩ = some (.int .i64 fn) ∧ w'.cell? ⟨tb, 6, none⟩ = some (.int .i64 (T m).dl)) ∧ Z7 w bx #[.int .i64 cn, .slice sa sn sc, .slice ta tn tc] s fn tb (tb + 1) (T m) (T k) c (mostK c T k) ob kb w' :=
  ⟨⟨cellAt h.ob 0, cellAt h.ob 1, cellAt h.y.y.s 0, cellAt h.kb 0, cellAt h.kb 1, cellAt h.kb 2, cellAt h.y.y.f 0, cellAt h.y.tb 6⟩, h⟩
theorem or_shl (a c : Nat) (ha : a < 16) (hc : c ≤ 3) : bits .or .i64 (a : Int) (wrap64 (2 ^ c)) = ((a ||| 2 ^ c : Nat) : Int) := by
  have h : ∀ a : Fin 16, ∀ c : Fin 4, bits .or .i64 ((a : Nat) : Int) (wrap64 (2 ^ (c : Nat))) = (((a : Nat) ||| 2 ^ (c : Nat) : Nat) : Int) := by decide +kernel
  exact h ⟨a, ha⟩ ⟨c, by omega⟩

theorem beats_no {T : Nat → Tk} {c s : Int} {f i k : Nat} (h : false = (decide ((mostK c T k).fr ≤ (f : Int)) && decide ((f : Int) < (mostK c T k).to))) : beats T c s f i k = false := by
  simp only [beats, hasB]
  rw [Bool.and_assoc (decide ((T k).seam = s)), ← h]
  simp
theorem beats_yes {T : Nat → Tk} {c s : Int} {f i k : Nat} (h1 : ((T k).crew != c) = true) (h2 : ((T k).seam == s) = true) (h3 : (decide ((mostK c T k).fr ≤ (f : Int)) && decide ((f : Int) < (mostK c T k).to)) = true) (h4 : (mostK c T k).td < (T i).dl ∨ ((mostK c T k).td = (T i).dl ∧ k < i)) : beats T c s f i k = true := by
  simp only [beats, hasB]
  rw [Bool.and_assoc (decide ((T k).seam = s)), h3]
  simp only [bne_iff_ne, ne_eq, beq_iff_eq] at h1 h2
  simp [h1, h2, h4]
theorem most_ofK (m n : Int) (T : Nat → Tk) (i : Nat) (w : World) :
    Calls Try.prog 58 #[.agg #[.int .i64 m], .int .i64 n, .agg (tkCells (T i))] w fun e w' => e = .returned (.agg #[.int .i64 (mostK m T i).fr, .int .i64 (mostK m T i).to, .int .i64 (mostK m T i).td]) ∧ Below w.heap.size w w' := most_of_any m n _ _ _ _ _ _ _ _ w
theorem Y3.cells12 {w wr : World} {bx : Nat} {cn : Int} {sa ta : Option Addr} {sn sc tn tc : Nat} {T : Nat → Tk} {s : Int} {fn c m : Nat} {w' : World} (h : Y3 w bx #[.int .i64 cn, .slice sa sn sc, .slice ta tn tc] s fn wr.heap.size (wr.heap.size + 1) (T m) c w') :
    (w'.cell? ⟨wr.heap.size + 1, 0, none⟩ = some (.int .i64 c) ∧ w'.cell? ⟨wr.heap.size, 0, none⟩ = some (.int .i64 (T m).crew) ∧ w'.cell? ⟨wr.heap.size, 1, none⟩ = some (.int .i64 (T m).seam) ∧ w'.cell? ⟨wr.heap.size, 2, none⟩ = some (.int .i64 (T m).fl) ∧ w'.cell? ⟨wr.heap.size, 3, none⟩ = some (.int .i64 (T m).fh) ∧ w'.cell? ⟨wr.heap.size, 4, none⟩ = some (.int .i64 (T m).tl) ∧ w'.cell? ⟨wr.heap.size, 5, none⟩ = some (.int .i64 (T m).th) ∧ w'.cell? ⟨wr.heap.size, 6, none⟩ = some (.int .i64 (T m).dl) ∧ w'.cell? ⟨wr.heap.size, 7, none⟩ = some (.int .i64 (T m).dh) ∧ w'.cell? ⟨w.heap.size + 1 + 1, 0, none⟩ = some (.int .i64 fn)) ∧ Y3 w bx #[.int .i64 cn, .slice sa sn sc, .slice ta tn tc] s fn wr.heap.size (wr.heap.size + 1) (T m) c w' :=
  ⟨⟨cellAt h.mb 0, cellAt h.tb 0, cellAt h.tb 1, cellAt h.tb 2, cellAt h.tb 3, cellAt h.tb 4, cellAt h.tb 5, cellAt h.tb 6, cellAt h.tb 7, cellAt h.y.f 0⟩, h⟩

set_option maxRecDepth 100000 in
set_option maxHeartbeats 8000000 in
theorem whoses_any (cr : Int) (sa ta : Option Addr) (sn sc tn tc : Nat) (S : Nat → Sm) (T : Nat → Tk) (s f : Int) (w : World) (hS : SeamsAt w sa sn S) (hT : TicketsAt w ta tn T) :
    Calls Try.prog 19 #[.agg #[.int .i64 cr, .slice sa sn sc, .slice ta tn tc], .int .i64 s, .int .i64 f] w
      (WhosePost w (Valid cr sn tn S T) (inB s 0 (sn - 1) && inB f 0 ((S s.toNat).fat - 1)) (setN T tn s f.toNat cr.toNat) (decide (ownerOf T (mostK (-1) T) tn s f.toNat = -1))) := by
  have HS := Lib.hid hS
  have HT := Lib.hid hT
  clear hS hT
  have hmf : ∀ (fn : Fn) (first cap : Array Value) (w : World), (Instr.makeFunc fn first cap).run Try.prog w = .ok (.func fn first cap) w := fun _ _ _ _ => rfl
  go_enter_defers Try.func19, Try.ntmps19
  go_wp2_with fail
  generalize hW : World.alloc _ _ = W
  obtain ⟨q0, q1, q2, q3, hz, hB⟩ := blocks4 hW
  clear hW hz
  have HB := Lib.hid hB
  have Q1 := Lib.hid (show BoxAt W (w.heap.size + 1) #[.int .i64 s] 3 from q1)
  have Q2 := Lib.hid (show BoxAt W (w.heap.size + 1 + 1) #[.int .i64 f] 3 from q2)
  have Q3 := Lib.hid (show BoxAt W (w.heap.size + 1 + 1 + 1) #[.int .i64 0] 30 from q3)
  clear q0 q1 q2 q3 hB
  have hcf : ∀ W, (callFunc 56 (#[.agg #[.int .i64 cr, .slice sa sn sc, .slice ta tn tc]] ++ #[bp (w.heap.size + 1), bp (w.heap.size + 1 + 1)])).run Try.prog W = .ok (.enter 56 (#[.agg #[.int .i64 cr, .slice sa sn sc, .slice ta tn tc]] ++ #[bp (w.heap.size + 1), bp (w.heap.size + 1 + 1)])) W := by intro W1; kernel_rfl
  have HCF := Lib.hid hcf
  clear hcf
  refine (open_any cr sa ta sn sc tn tc S T W (HS.out.grow HB.out) (HT.out.grow HB.out) 56 _ (inB s 0 (sn - 1) && inB f 0 ((S s.toNat).fat - 1)) HCF.out ?_).mono ?_
  · intro W1 hb hv
    exact whose1_any cr sa ta sn sc tn tc S s f _ _ W1 (by have := hv.sn3; unfold maxLen; omega) hv.fat (HS.out.grow (HB.out.next hb)) (Q1.out.grow hb) (Q2.out.grow hb)
  rintro e w1 ⟨hb, hD⟩
  have B1 := Lib.hid hb
  have Q3' := Lib.hid (Q3.out.grow hb)
  clear hb
  rcases hD with ⟨hv, hbt, rfl⟩ | ⟨hv, hbf, rfl⟩ | ⟨hnv, rfl⟩
  · have HV := Lib.hid hv
    have HT2 := Lib.hid hbt
    obtain ⟨cn, rfl⟩ : ∃ n : Nat, cr = n := ⟨cr.toNat, by have := hv.cr0; omega⟩
    have tn6 : tn ≤ 6 := hv.tn6
    have cn4 : cn ≤ 4 := by have := hv.cr1; omega
    simp only [Bool.and_eq_true, inB_iff] at hbt
    obtain ⟨⟨s0, s1⟩, ⟨f0, f1⟩⟩ := hbt
    have f2 : f ≤ 19 := by have := hv.fat s.toNat (by omega); omega
    obtain ⟨fn, rfl⟩ : ∃ n : Nat, f = n := ⟨f.toNat, by omega⟩
    clear hv
    go_wp2_with fail
    generalize hW2 : World.alloc _ _ = W2
    obtain ⟨q0, hz, hB⟩ := blocks1 hW2
    have hl1 := lt_of_heap Q3'.out
    have I2 := Lib.hid (show Y1 w w1.heap.size #[.int .i64 cn, .slice sa sn sc, .slice ta tn tc] s fn W2 from ⟨(HB.out.next B1.out).trans (hB.mono (by omega)), q0, (Q1.out.grow B1.out).grow hB, (Q2.out.grow B1.out).grow hB, Q3'.out.grow hB, by omega⟩)
    obtain ⟨bx, hbx⟩ : ∃ bx, bx = w1.heap.size := ⟨_, rfl⟩
    rw [← hbx] at I2 hl1 ⊢
    clear hW2 q0 hz hB hbx hl1
    have b0 := cellAt I2.out.box 0
    have b1 := cellAt I2.out.box 1
    have b2 := cellAt I2.out.box 2
    simp only [List.getElem?_toArray, List.getElem?_cons_zero, List.getElem?_cons_succ] at b0 b1 b2
    go_wp2_with fail
    clear b0 b1 b2
    go_loopw [10, 24] (YR1 w bx #[.int .i64 cn, .slice sa sn sc, .slice ta tn tc] s fn T tn cn) (fun _ i _ => cn - (intOf i).toNat)
    case atStart => exact ⟨0, Nat.zero_le _, rfl, rfl, I2.out⟩
    case round =>
      clear I2
      obtain ⟨c, hc, rfl, rfl, hinv⟩ := hrel
      have HI := Lib.hid hinv
      clear hinv
      have b0 := cellAt HI.out.box 0
      have b1 := cellAt HI.out.box 1
      have b2 := cellAt HI.out.box 2
      simp only [List.getElem?_toArray, List.getElem?_cons_zero, List.getElem?_cons_succ] at b0 b1 b2
      by_cases hlt : c < cn
      · go_wp2_with fail
        go_step3
        go_wp2_with fail
        go_step3
        go_wp2_with fail
        clear b0 b1 b2
        go_loopw [10, 31] (YR2 w bx #[.int .i64 cn, .slice sa sn sc, .slice ta tn tc] s fn T tn c) (fun _ i _ => tn - (intOf i).toNat)
        case atStart => exact ⟨0, Nat.zero_le _, rfl, by rw [setI_zero], HI.out⟩
        case round =>
          clear HI
          obtain ⟨m, hm, rfl, rfl, hinv⟩ := hrel
          have HI := Lib.hid hinv
          clear hinv
          by_cases hltm : m < tn
          · have hi := fun w => run_indexAt_row (w := w) (cap := tc) Try.underlying23 size58 (HT.out.plain (by omega)) hltm
            obtain ⟨g0, g1, g2, g3, g4, g5, g6, g7⟩ := (HT.out.grow HI.out.bel).at hltm
            have s1c := cellAt HI.out.s 0
            have l1 := lt_of_heap HI.out.s
            simp only [List.getElem?_toArray, List.getElem?_cons_zero] at s1c
            have hc1 : ((T m).crew != (c : Int)) = false ∨ ((T m).crew != (c : Int)) = true := by cases ((T m).crew != (c : Int)) <;> simp
            have hc2 : ((T m).seam != s) = false ∨ ((T m).seam != s) = true := by cases ((T m).seam != s) <;> simp
            rcases hc1 with e1 | e1
            · rcases hc2 with e2 | e2
              ·
                have hK := HV.out.most c m hltm
                have HKm := Lib.hid hK
                have hfm := fmask_lt (mostK c T m).fr (mostK c T m).to hK.t1
                have hbit : (fmask (mostK c T m).fr (mostK c T m).to).testBit fn = true ∨ (fmask (mostK c T m).fr (mostK c T m).to).testBit fn = false := by cases (fmask (mostK c T m).fr (mostK c T m).to).testBit fn <;> simp
                have HFB := Lib.hid (fmask_bit (mostK c T m).fr (mostK c T m).to hK.f0 hK.t0 fn)
                obtain ⟨k0, k1, k2, k3⟩ := hK
                have hfn : fn ≤ 31 := by omega
                have hfm2 : fmask (mostK c T m).fr (mostK c T m).to < 4294967296 := by omega
                go_wp2_with fail
                generalize hW3 : World.alloc _ _ = W3
                obtain ⟨q0, q1, hz, hB⟩ := blocks2 hW3
                have I3 := Lib.hid (show Y3 w bx #[.int .i64 cn, .slice sa sn sc, .slice ta tn tc] s fn wr.heap.size (wr.heap.size + 1) (T m) c W3 from ⟨HI.out.grow hB, q0, q1⟩)
                have J3 := Lib.hid (I3.out.grow (Below.drew (Below.refl _ _)))
                have HB3 := Lib.hid hB.drew
                clear hW3 q0 q1 hz hB g0 g1 g2 g3 g4 g5 g6 g7 s1c l1
                rcases hbit with hb1 | hb1
                · refine wp_region_noPanic ?_
                  refine wp_region_held_drew (S := (fun w' => (w'.cell? ⟨wr.heap.size + 1, 0, none⟩ = some (.int .i64 c) ∧ w'.cell? ⟨wr.heap.size, 0, none⟩ = some (.int .i64 (T m).crew) ∧ w'.cell? ⟨wr.heap.size, 1, none⟩ = some (.int .i64 (T m).seam) ∧ w'.cell? ⟨wr.heap.size, 2, none⟩ = some (.int .i64 (T m).fl) ∧ w'.cell? ⟨wr.heap.size, 3, none⟩ = some (.int .i64 (T m).fh) ∧ w'.cell? ⟨wr.heap.size, 4, none⟩ = some (.int .i64 (T m).tl) ∧ w'.cell? ⟨wr.heap.size, 5, none⟩ = some (.int .i64 (T m).th) ∧ w'.cell? ⟨wr.heap.size, 6, none⟩ = some (.int .i64 (T m).dl) ∧ w'.cell? ⟨wr.heap.size, 7, none⟩ = some (.int .i64 (T m).dh) ∧ w'.cell? ⟨w.heap.size + 1 + 1, 0, none⟩ = some (.int .i64 fn)) ∧ Y3 w bx #[.int .i64 cn, .slice sa sn sc, .slice ta tn tc] s fn wr.heap.size (wr.heap.size + 1) (T m) c w')) (by kernel_rfl) (Y3.cells12 J3.out) (fun hHeld => ?_)
                  refine wpAnyH_take (i := 0) (oi := { dst := some 48, op := Op.load 83 (Operand.tmp 14), type := 83, pos := "wage.go:218", after := #[], guard := none }) (v := ?_) rfl (by kernel_rfl) (by kernel_rfl) (by kernel_rfl) (fun _ _ _ h => h) (Or.inl ⟨by rfl, ?_⟩) (by assumption) ?_
                  rotate_left
                  · (intro w9 hSw; (try dsimp only at hSw); (go_split_ands; go_simp); (try with_reducible rfl))
                  try simp only [Act.put, List.setIfInBounds_toArray, List.set_cons_zero, List.set_cons_succ]
                  refine wpAnyH_take (i := 1) (oi := { dst := some 49, op := Op.move (Operand.tmp 12), type := 3, pos := "wage.go:218", after := #[], guard := none }) (v := ?_) rfl (by kernel_rfl) (by kernel_rfl) (by kernel_rfl) (fun _ _ _ h => h) (Or.inl ⟨by rfl, ?_⟩) (by assumption) ?_
                  rotate_left
                  · (intro w9 hSw; (try dsimp only at hSw); (go_split_ands; go_simp); (try with_reducible rfl))
                  try simp only [Act.put, List.setIfInBounds_toArray, List.set_cons_zero, List.set_cons_succ]
                  refine wpAnyH_take (i := 2) (oi := { dst := some 50, op := Op.load 58 (Operand.tmp 13), type := 58, pos := "wage.go:218", after := #[], guard := none }) (v := ?_) rfl (by kernel_rfl) (by kernel_rfl) (by kernel_rfl) (fun _ _ _ h => h) (Or.inl ⟨by rfl, ?_⟩) (by assumption) ?_
                  rotate_left
                  · (intro w9 hSw; (try dsimp only at hSw); (go_split_ands; go_simp); (try with_reducible rfl))
                  try simp only [Act.put, List.setIfInBounds_toArray, List.set_cons_zero, List.set_cons_succ]
                  refine wpAnyH_take (i := 5) (oi := { dst := some 53, op := Op.load 3 (Operand.tmp 5), type := 3, pos := "wage.go:218", after := #[], guard := none }) (v := ?_) rfl (by kernel_rfl) (by kernel_rfl) (by kernel_rfl) (fun _ _ _ h => h) (Or.inl ⟨by rfl, ?_⟩) (by assumption) ?_
                  rotate_left
                  · (intro w9 hSw; (try dsimp only at hSw); (go_split_ands; go_simp); (try with_reducible rfl))
                  try simp only [Act.put, List.setIfInBounds_toArray, List.set_cons_zero, List.set_cons_succ]
                  refine wpAnyH_ready (rs := [3]) (by kernel_rfl) (by simp) ?_
                  refine AllReadyH.cons (o := { dst := some 51, op := Op.call { callee := Callee.value (Operand.func 58), args := #[Operand.tmp 48, Operand.tmp 49, Operand.tmp 50], argTypes := #[83, 3, 58] }, type := 93, pos := "wage.go:218", after := #[{ on := 0, ground := Ground.data }, { on := 1, ground := Ground.data }, { on := 2, ground := Ground.data }], guard := none }) rfl (fun K hK => ?_) AllReadyH.nil
                  go_simp
                  go_at_call 58; refine (most_ofK c m T m _).mono ?_; rintro e w5 ⟨rfl, hb5⟩; have B5 := Lib.hid hb5; clear hb5
                  go_wp2_with fail
                  refine hK.out _ _ ?_ (fun hHeld => ?_)
                  · exact Y3.cells12 (Y3.grow J3.out B5.out)
                  clear hK K
                  try simp only [Act.put, List.setIfInBounds_toArray, List.set_cons_zero, List.set_cons_succ]
                  have J4 := Lib.hid hHeld.2
                  refine wpAnyH_ready (rs := [4]) (by kernel_rfl) (by simp) ?_
                  refine AllReadyH.cons (o := { dst := some 52, op := Op.call { callee := Callee.value (Operand.func 59), args := #[Operand.tmp 51], argTypes := #[93] }, type := 91, pos := "wage.go:218", after := #[{ on := 3, ground := Ground.data }, { on := 3, ground := Ground.chain }], guard := none }) rfl (fun K hK => ?_) AllReadyH.nil
                  go_simp
                  go_at_call 59; refine (known_fathoms_any _ _ _ _ k0 k1 k2 k3).mono ?_; rintro e w6 ⟨rfl, hb6⟩; have B6 := Lib.hid hb6; clear hb6
                  go_wp2_with fail
                  refine hK.out _ _ ?_ (fun hHeld => ?_)
                  · exact Y3.cells12 (Y3.grow J4.out B6.out)
                  clear hK K
                  try simp only [Act.put, List.setIfInBounds_toArray, List.set_cons_zero, List.set_cons_succ]
                  have J5 := Lib.hid hHeld.2
                  refine wpAnyH_ready (rs := [6]) (by kernel_rfl) (by simp) ?_
                  refine AllReadyH.cons (o := { dst := some 54, op := Op.call { callee := Callee.value (Operand.func 60), args := #[Operand.tmp 52, Operand.tmp 53], argTypes := #[91, 3] }, type := 4, pos := "wage.go:218", after := #[{ on := 4, ground := Ground.data }, { on := 5, ground := Ground.data }, { on := 4, ground := Ground.chain }], guard := none }) rfl (fun K hK => ?_) AllReadyH.nil
                  go_simp
                  go_at_call 60; refine (has_any _ _ _ hfm2 hfn).mono ?_; rintro e w7 ⟨rfl, rfl⟩
                  go_wp2_with fail
                  refine hK.out _ _ ?_ (fun hHeld => ?_)
                  · assumption
                  clear hK K
                  try simp only [Act.put, List.setIfInBounds_toArray, List.set_cons_zero, List.set_cons_succ]
                  refine wpAnyH_take (i := 7) (oi := { dst := some 55, op := Op.unOp UnOp.not 4 (Operand.tmp 54), type := 4, pos := "wage.go:218", after := #[{ on := 6, ground := Ground.data }], guard := none }) (v := ?_) rfl (by kernel_rfl) (by kernel_rfl) (by kernel_rfl) (fun _ _ _ h => h) (Or.inl ⟨by rfl, ?_⟩) (by assumption) ?_
                  rotate_left
                  · (intro w9 hSw; (try dsimp only at hSw); (go_split_ands; go_simp); (try with_reducible rfl))
                  try simp only [Act.put, List.setIfInBounds_toArray, List.set_cons_zero, List.set_cons_succ]
                  refine wpAnyH_done (by kernel_rfl) ?_ _
                  refine NoPanic.normal ?_
                  clear hHeld
                  have b2' := cellAt J5.out.y.box 2
                  simp only [List.getElem?_toArray, List.getElem?_cons_zero, List.getElem?_cons_succ] at b2'
                  go_wp2_with fail
                  clear b2'
                  obtain ⟨tb, htb⟩ : ∃ tb, tb = wr.heap.size := ⟨_, rfl⟩
                  rw [← htb] at J5 ⊢
                  clear htb HB3 J3 J4 I3 B5 B6 HI hi
                  go_loopw [60] (YR3 w bx #[.int .i64 cn, .slice sa sn sc, .slice ta tn tc] s fn T tn c m tb (tb + 1)) (fun i _ => tn - (intOf i).toNat)
                  case atStart => exact ⟨0, Nat.zero_le _, rfl, fun j hj => by omega, J5.out⟩
                  case round =>
                    clear J5
                    obtain ⟨k, hk, rfl, hok, hinv⟩ := hrel
                    have HO := Lib.hid hok
                    have HI := Lib.hid hinv
                    clear hinv hok
                    by_cases hltk : k < tn
                    · have hi := fun w => run_indexAt_row (w := w) (cap := tc) Try.underlying23 size58 (HT.out.plain (by omega)) hltk
                      obtain ⟨g0, g1, g2, g3, g4, g5, g6, g7⟩ := (HT.out.grow HI.out.y.bel).at hltk
                      have mc := cellAt HI.out.mb 0
                      have l2 := lt_of_heap HI.out.mb
                      simp only [List.getElem?_toArray, List.getElem?_cons_zero] at mc
                      have HA := Lib.hid (fun (o : Obj) => (Below.refl wr.heap.size wr).alloc (Nat.le_refl _) o)
                      go_wp2_with (first | (go_at_call 58; refine (most_ofK c k T k _).mono ?_; rintro e w8 ⟨rfl, hb8⟩; have B8 := Lib.hid hb8; clear hb8))
                      generalize hW9 : World.alloc _ _ = W9
                      obtain ⟨q0, hz, hB⟩ := blocks1 hW9
                      have I9 := Lib.hid (show Y3 w bx #[.int .i64 cn, .slice sa sn sc, .slice ta tn tc] s fn tb (tb + 1) (T m) c W9 from ((HI.out.grow (HA.out _)).grow B8.out).grow hB)
                      have O9 := Lib.hid (BoxAt.grow (BoxAt.grow (show BoxAt (wr.alloc (.cells (tkCells (T k)) 58)) wr.heap.size (tkCells (T k)) 58 from (blocks1 rfl).1) B8.out) hB)
                      have K9 := Lib.hid (show BoxAt W9 w8.heap.size #[.int .i64 (mostK c T k).fr, .int .i64 (mostK c T k).to, .int .i64 (mostK c T k).td] 93 from q0)
                      clear hW9 q0 hz hB g0 g1 g2 g3 g4 g5 g6 g7 mc l2 HA B8 hi
                      have Z0 := Lib.hid (show Z7 w bx #[.int .i64 cn, .slice sa sn sc, .slice ta tn tc] s fn tb (tb + 1) (T m) (T k) c (mostK c T k) wr.heap.size w8.heap.size W9.drew from Z7.grow ⟨I9.out, O9.out, K9.out⟩ (Below.drew (Below.refl _ _)))
                      clear I9 O9 K9
                      have hKk := HV.out.most c k hltk
                      have hfmk0 := fmask_lt (mostK c T k).fr (mostK c T k).to hKk.t1
                      have hfmk : fmask (mostK c T k).fr (mostK c T k).to < 4294967296 := by omega
                      have HFK := Lib.hid (fmask_bit (mostK c T k).fr (mostK c T k).to hKk.f0 hKk.t0 fn)
                      obtain ⟨k0', k1', k2', k3'⟩ := hKk
                      have hc1 : ((T k).crew != (c : Int)) = false ∨ ((T k).crew != (c : Int)) = true := by cases ((T k).crew != (c : Int)) <;> simp
                      have hc2 : ((T k).seam == s) = false ∨ ((T k).seam == s) = true := by cases ((T k).seam == s) <;> simp
                      have hc3 : (fmask (mostK c T k).fr (mostK c T k).to).testBit fn = false ∨ (fmask (mostK c T k).fr (mostK c T k).to).testBit fn = true := by cases (fmask (mostK c T k).fr (mostK c T k).to).testBit fn <;> simp
                      have hc5 : ((mostK c T k).td == (T m).dl) = false ∨ ((mostK c T k).td == (T m).dl) = true := by cases ((mostK c T k).td == (T m).dl) <;> simp
                      rcases hc1 with n1 | n1
                      · clear hc2 hc3 hc5
                        refine wp_region_noPanic ?_
                        refine wp_region_held_drew (S := (fun w' => (w'.cell? ⟨wr.heap.size, 0, none⟩ = some (.int .i64 (T k).crew) ∧ w'.cell? ⟨wr.heap.size, 1, none⟩ = some (.int .i64 (T k).seam) ∧ w'.cell? ⟨w.heap.size + 1, 0, none⟩ = some (.int .i64 s) ∧ w'.cell? ⟨w8.heap.size, 0, none⟩ = some (.int .i64 (mostK c T k).fr) ∧ w'.cell? ⟨w8.heap.size, 1, none⟩ = some (.int .i64 (mostK c T k).to) ∧ w'.cell? ⟨w8.heap.size, 2, none⟩ = some (.int .i64 (mostK c T k).td) ∧ w'.cell? ⟨w.heap.size + 1 + 1, 0, none⟩ = some (.int .i64 fn) ∧ w'.cell? ⟨tb, 6, none⟩ = some (.int .i64 (T m).dl)) ∧ Z7 w bx #[.int .i64 cn, .slice sa sn sc, .slice ta tn tc] s fn tb (tb + 1) (T m) (T k) c (mostK c T k) wr.heap.size w8.heap.size w')) (by kernel_rfl) (Z7.cells Z0.out) (fun hHeld => ?_)
                        refine wpAnyH_take (i := 0) (oi := { dst := some 69, op := Op.fieldAddr 58 (Operand.tmp 16) 0, type := 0, pos := "wage.go:223", after := #[], guard := none }) (v := ?_) rfl (by kernel_rfl) (by kernel_rfl) (by kernel_rfl) (fun _ _ _ h => h) (Or.inl ⟨by rfl, ?_⟩) (by assumption) ?_
                        rotate_left
                        · (intro w9 hSw; (try dsimp only at hSw); (go_split_ands; go_simp); (try with_reducible rfl))
                        try simp only [Act.put, List.setIfInBounds_toArray, List.set_cons_zero, List.set_cons_succ]
                        refine wpAnyH_take (i := 1) (oi := { dst := some 70, op := Op.load 3 (Operand.tmp 69), type := 3, pos := "wage.go:223", after := #[{ on := 0, ground := Ground.data }], guard := none }) (v := ?_) rfl (by kernel_rfl) (by kernel_rfl) (by kernel_rfl) (fun _ _ _ h => h) (Or.inl ⟨by rfl, ?_⟩) (by assumption) ?_
                        rotate_left
                        · (intro w9 hSw; (try dsimp only at hSw); (go_split_ands; go_simp); (try with_reducible rfl))
                        try simp only [Act.put, List.setIfInBounds_toArray, List.set_cons_zero, List.set_cons_succ]
                        refine wpAnyH_take (i := 2) (oi := { dst := some 71, op := Op.move (Operand.tmp 11), type := 3, pos := "wage.go:223", after := #[], guard := none }) (v := ?_) rfl (by kernel_rfl) (by kernel_rfl) (by kernel_rfl) (fun _ _ _ h => h) (Or.inl ⟨by rfl, ?_⟩) (by assumption) ?_
                        rotate_left
                        · (intro w9 hSw; (try dsimp only at hSw); (go_split_ands; go_simp); (try with_reducible rfl))
                        try simp only [Act.put, List.setIfInBounds_toArray, List.set_cons_zero, List.set_cons_succ]
                        refine wpAnyH_take (i := 3) (oi := { dst := some 72, op := Op.binOp BinOp.neq 3 (Operand.tmp 70) (Operand.tmp 71) 3, type := 4, pos := "wage.go:223", after := #[{ on := 1, ground := Ground.data }, { on := 2, ground := Ground.data }], guard := none }) (v := ?_) rfl (by kernel_rfl) (by kernel_rfl) (by kernel_rfl) (fun _ _ _ h => h) (Or.inl ⟨by rfl, ?_⟩) (by assumption) ?_
                        rotate_left
                        · (intro w9 hSw; (try dsimp only at hSw); (go_split_ands; go_simp); (try with_reducible rfl))
                        try simp only [Act.put, List.setIfInBounds_toArray, List.set_cons_zero, List.set_cons_succ]
                        refine wpAnyH_take (i := 4) (oi := { dst := some 73, op := Op.move (Operand.tmp 72), type := 4, pos := "wage.go:223", after := #[{ on := 3, ground := Ground.data }], guard := none }) (v := ?_) rfl (by kernel_rfl) (by kernel_rfl) (by kernel_rfl) (fun _ _ _ h => h) (Or.inl ⟨by rfl, ?_⟩) (by assumption) ?_
                        rotate_left
                        · (intro w9 hSw; (try dsimp only at hSw); (go_split_ands; go_simp); (try with_reducible rfl))
                        try simp only [Act.put, List.setIfInBounds_toArray, List.set_cons_zero, List.set_cons_succ]
                        refine wpAnyH_take (i := 5) (oi := { dst := some 74, op := Op.fieldAddr 58 (Operand.tmp 16) 1, type := 0, pos := "wage.go:223", after := #[{ on := 4, ground := Ground.guard }], guard := some (4, true) }) (v := undef) rfl (by kernel_rfl) (by kernel_rfl) (by kernel_rfl) (fun _ _ _ h => h) (Or.inr ⟨by rfl, rfl⟩) (by assumption) ?_
                        try simp only [Act.put, List.setIfInBounds_toArray, List.set_cons_zero, List.set_cons_succ]
                        refine wpAnyH_take (i := 6) (oi := { dst := some 75, op := Op.load 3 (Operand.tmp 74), type := 3, pos := "wage.go:223", after := #[{ on := 5, ground := Ground.data }, { on := 4, ground := Ground.guard }], guard := some (4, true) }) (v := undef) rfl (by kernel_rfl) (by kernel_rfl) (by kernel_rfl) (fun _ _ _ h => h) (Or.inr ⟨by rfl, rfl⟩) (by assumption) ?_
                        try simp only [Act.put, List.setIfInBounds_toArray, List.set_cons_zero, List.set_cons_succ]
                        refine wpAnyH_take (i := 7) (oi := { dst := some 76, op := Op.load 3 (Operand.tmp 4), type := 3, pos := "wage.go:223", after := #[{ on := 4, ground := Ground.guard }], guard := some (4, true) }) (v := undef) rfl (by kernel_rfl) (by kernel_rfl) (by kernel_rfl) (fun _ _ _ h => h) (Or.inr ⟨by rfl, rfl⟩) (by assumption) ?_
                        try simp only [Act.put, List.setIfInBounds_toArray, List.set_cons_zero, List.set_cons_succ]
                        refine wpAnyH_take (i := 8) (oi := { dst := some 77, op := Op.binOp BinOp.eql 3 (Operand.tmp 75) (Operand.tmp 76) 3, type := 4, pos := "wage.go:223", after := #[{ on := 6, ground := Ground.data }, { on := 7, ground := Ground.data }, { on := 4, ground := Ground.guard }], guard := some (4, true) }) (v := undef) rfl (by kernel_rfl) (by kernel_rfl) (by kernel_rfl) (fun _ _ _ h => h) (Or.inr ⟨by rfl, rfl⟩) (by assumption) ?_
                        try simp only [Act.put, List.setIfInBounds_toArray, List.set_cons_zero, List.set_cons_succ]
                        refine wpAnyH_take (i := 9) (oi := { dst := some 78, op := Op.pick (Operand.tmp 73) (Operand.tmp 77) (Operand.const (Value.bool false)), type := 4, pos := "wage.go:223", after := #[{ on := 4, ground := Ground.data }, { on := 8, ground := Ground.data }], guard := none }) (v := ?_) rfl (by kernel_rfl) (by kernel_rfl) (by kernel_rfl) (fun _ _ _ h => h) (Or.inl ⟨by rfl, ?_⟩) (by assumption) ?_
                        rotate_left
                        · (intro w9 hSw; (try dsimp only at hSw); (go_split_ands; go_simp); (try with_reducible rfl))
                        try simp only [Act.put, List.setIfInBounds_toArray, List.set_cons_zero, List.set_cons_succ]
                        refine wpAnyH_take (i := 10) (oi := { dst := some 79, op := Op.move (Operand.tmp 78), type := 4, pos := "wage.go:223", after := #[{ on := 9, ground := Ground.data }, { on := 4, ground := Ground.chain }], guard := none }) (v := ?_) rfl (by kernel_rfl) (by kernel_rfl) (by kernel_rfl) (fun _ _ _ h => h) (Or.inl ⟨by rfl, ?_⟩) (by assumption) ?_
                        rotate_left
                        · (intro w9 hSw; (try dsimp only at hSw); (go_split_ands; go_simp); (try with_reducible rfl))
                        try simp only [Act.put, List.setIfInBounds_toArray, List.set_cons_zero, List.set_cons_succ]
                        refine wpAnyH_take (i := 11) (oi := { dst := some 80, op := Op.load 93 (Operand.tmp 17), type := 93, pos := "wage.go:223", after := #[{ on := 10, ground := Ground.guard }], guard := some (10, true) }) (v := undef) rfl (by kernel_rfl) (by kernel_rfl) (by kernel_rfl) (fun _ _ _ h => h) (Or.inr ⟨by rfl, rfl⟩) (by assumption) ?_
                        try simp only [Act.put, List.setIfInBounds_toArray, List.set_cons_zero, List.set_cons_succ]
                        refine wpAnyH_take (i := 12) (oi := { dst := some 81, op := Op.call { callee := Callee.value (Operand.func 59), args := #[Operand.tmp 80], argTypes := #[93] }, type := 91, pos := "wage.go:223", after := #[{ on := 11, ground := Ground.data }, { on := 10, ground := Ground.chain }, { on := 10, ground := Ground.guard }], guard := some (10, true) }) (v := undef) rfl (by kernel_rfl) (by kernel_rfl) (by kernel_rfl) (fun _ _ _ h => h) (Or.inr ⟨by rfl, rfl⟩) (by assumption) ?_
                        try simp only [Act.put, List.setIfInBounds_toArray, List.set_cons_zero, List.set_cons_succ]
                        refine wpAnyH_take (i := 13) (oi := { dst := some 82, op := Op.load 3 (Operand.tmp 5), type := 3, pos := "wage.go:223", after := #[{ on := 10, ground := Ground.guard }], guard := some (10, true) }) (v := undef) rfl (by kernel_rfl) (by kernel_rfl) (by kernel_rfl) (fun _ _ _ h => h) (Or.inr ⟨by rfl, rfl⟩) (by assumption) ?_
                        try simp only [Act.put, List.setIfInBounds_toArray, List.set_cons_zero, List.set_cons_succ]
                        refine wpAnyH_take (i := 14) (oi := { dst := some 83, op := Op.call { callee := Callee.value (Operand.func 60), args := #[Operand.tmp 81, Operand.tmp 82], argTypes := #[91, 3] }, type := 4, pos := "wage.go:223", after := #[{ on := 12, ground := Ground.data }, { on := 13, ground := Ground.data }, { on := 12, ground := Ground.chain }, { on := 10, ground := Ground.guard }], guard := some (10, true) }) (v := undef) rfl (by kernel_rfl) (by kernel_rfl) (by kernel_rfl) (fun _ _ _ h => h) (Or.inr ⟨by rfl, rfl⟩) (by assumption) ?_
                        try simp only [Act.put, List.setIfInBounds_toArray, List.set_cons_zero, List.set_cons_succ]
                        refine wpAnyH_take (i := 15) (oi := { dst := some 84, op := Op.pick (Operand.tmp 79) (Operand.tmp 83) (Operand.const (Value.bool false)), type := 4, pos := "wage.go:223", after := #[{ on := 10, ground := Ground.data }, { on := 14, ground := Ground.data }], guard := none }) (v := ?_) rfl (by kernel_rfl) (by kernel_rfl) (by kernel_rfl) (fun _ _ _ h => h) (Or.inl ⟨by rfl, ?_⟩) (by assumption) ?_
                        rotate_left
                        · (intro w9 hSw; (try dsimp only at hSw); (go_split_ands; go_simp); (try with_reducible rfl))
                        try simp only [Act.put, List.setIfInBounds_toArray, List.set_cons_zero, List.set_cons_succ]
                        refine wpAnyH_take (i := 16) (oi := { dst := some 85, op := Op.move (Operand.tmp 84), type := 4, pos := "wage.go:223", after := #[{ on := 15, ground := Ground.data }, { on := 14, ground := Ground.chain }], guard := none }) (v := ?_) rfl (by kernel_rfl) (by kernel_rfl) (by kernel_rfl) (fun _ _ _ h => h) (Or.inl ⟨by rfl, ?_⟩) (by assumption) ?_
                        rotate_left
                        · (intro w9 hSw; (try dsimp only at hSw); (go_split_ands; go_simp); (try with_reducible rfl))
                        try simp only [Act.put, List.setIfInBounds_toArray, List.set_cons_zero, List.set_cons_succ]
                        refine wpAnyH_take (i := 17) (oi := { dst := some 86, op := Op.fieldAddr 93 (Operand.tmp 17) 2, type := 0, pos := "wage.go:223", after := #[{ on := 16, ground := Ground.guard }], guard := some (16, true) }) (v := undef) rfl (by kernel_rfl) (by kernel_rfl) (by kernel_rfl) (fun _ _ _ h => h) (Or.inr ⟨by rfl, rfl⟩) (by assumption) ?_
                        try simp only [Act.put, List.setIfInBounds_toArray, List.set_cons_zero, List.set_cons_succ]
                        refine wpAnyH_take (i := 18) (oi := { dst := some 87, op := Op.load 3 (Operand.tmp 86), type := 3, pos := "wage.go:223", after := #[{ on := 17, ground := Ground.data }, { on := 16, ground := Ground.guard }], guard := some (16, true) }) (v := undef) rfl (by kernel_rfl) (by kernel_rfl) (by kernel_rfl) (fun _ _ _ h => h) (Or.inr ⟨by rfl, rfl⟩) (by assumption) ?_
                        try simp only [Act.put, List.setIfInBounds_toArray, List.set_cons_zero, List.set_cons_succ]
                        refine wpAnyH_take (i := 19) (oi := { dst := some 88, op := Op.fieldAddr 58 (Operand.tmp 13) 4, type := 0, pos := "wage.go:223", after := #[{ on := 16, ground := Ground.guard }], guard := some (16, true) }) (v := undef) rfl (by kernel_rfl) (by kernel_rfl) (by kernel_rfl) (fun _ _ _ h => h) (Or.inr ⟨by rfl, rfl⟩) (by assumption) ?_
                        try simp only [Act.put, List.setIfInBounds_toArray, List.set_cons_zero, List.set_cons_succ]
                        refine wpAnyH_take (i := 20) (oi := { dst := some 89, op := Op.fieldAddr 29 (Operand.tmp 88) 0, type := 0, pos := "wage.go:223", after := #[{ on := 19, ground := Ground.data }, { on := 16, ground := Ground.guard }], guard := some (16, true) }) (v := undef) rfl (by kernel_rfl) (by kernel_rfl) (by kernel_rfl) (fun _ _ _ h => h) (Or.inr ⟨by rfl, rfl⟩) (by assumption) ?_
                        try simp only [Act.put, List.setIfInBounds_toArray, List.set_cons_zero, List.set_cons_succ]
                        refine wpAnyH_take (i := 21) (oi := { dst := some 90, op := Op.load 3 (Operand.tmp 89), type := 3, pos := "wage.go:223", after := #[{ on := 20, ground := Ground.data }, { on := 16, ground := Ground.guard }], guard := some (16, true) }) (v := undef) rfl (by kernel_rfl) (by kernel_rfl) (by kernel_rfl) (fun _ _ _ h => h) (Or.inr ⟨by rfl, rfl⟩) (by assumption) ?_
                        try simp only [Act.put, List.setIfInBounds_toArray, List.set_cons_zero, List.set_cons_succ]
                        refine wpAnyH_take (i := 22) (oi := { dst := some 91, op := Op.binOp BinOp.lss 3 (Operand.tmp 87) (Operand.tmp 90) 3, type := 4, pos := "wage.go:223", after := #[{ on := 18, ground := Ground.data }, { on := 21, ground := Ground.data }, { on := 16, ground := Ground.guard }], guard := some (16, true) }) (v := undef) rfl (by kernel_rfl) (by kernel_rfl) (by kernel_rfl) (fun _ _ _ h => h) (Or.inr ⟨by rfl, rfl⟩) (by assumption) ?_
                        try simp only [Act.put, List.setIfInBounds_toArray, List.set_cons_zero, List.set_cons_succ]
                        refine wpAnyH_take (i := 23) (oi := { dst := some 92, op := Op.move (Operand.tmp 91), type := 4, pos := "wage.go:223", after := #[{ on := 22, ground := Ground.data }, { on := 16, ground := Ground.chain }, { on := 16, ground := Ground.guard }], guard := some (16, true) }) (v := undef) rfl (by kernel_rfl) (by kernel_rfl) (by kernel_rfl) (fun _ _ _ h => h) (Or.inr ⟨by rfl, rfl⟩) (by assumption) ?_
                        try simp only [Act.put, List.setIfInBounds_toArray, List.set_cons_zero, List.set_cons_succ]
                        refine wpAnyH_take (i := 24) (oi := { dst := some 93, op := Op.fieldAddr 93 (Operand.tmp 17) 2, type := 0, pos := "wage.go:223", after := #[{ on := 23, ground := Ground.guard }], guard := some (23, false) }) (v := undef) rfl (by kernel_rfl) (by kernel_rfl) (by kernel_rfl) (fun _ _ _ h => h) (Or.inr ⟨by rfl, rfl⟩) (by assumption) ?_
                        try simp only [Act.put, List.setIfInBounds_toArray, List.set_cons_zero, List.set_cons_succ]
                        refine wpAnyH_take (i := 25) (oi := { dst := some 94, op := Op.load 3 (Operand.tmp 93), type := 3, pos := "wage.go:223", after := #[{ on := 24, ground := Ground.data }, { on := 23, ground := Ground.guard }], guard := some (23, false) }) (v := undef) rfl (by kernel_rfl) (by kernel_rfl) (by kernel_rfl) (fun _ _ _ h => h) (Or.inr ⟨by rfl, rfl⟩) (by assumption) ?_
                        try simp only [Act.put, List.setIfInBounds_toArray, List.set_cons_zero, List.set_cons_succ]
                        refine wpAnyH_take (i := 26) (oi := { dst := some 95, op := Op.fieldAddr 58 (Operand.tmp 13) 4, type := 0, pos := "wage.go:223", after := #[{ on := 23, ground := Ground.guard }], guard := some (23, false) }) (v := undef) rfl (by kernel_rfl) (by kernel_rfl) (by kernel_rfl) (fun _ _ _ h => h) (Or.inr ⟨by rfl, rfl⟩) (by assumption) ?_
                        try simp only [Act.put, List.setIfInBounds_toArray, List.set_cons_zero, List.set_cons_succ]
                        refine wpAnyH_take (i := 27) (oi := { dst := some 96, op := Op.fieldAddr 29 (Operand.tmp 95) 0, type := 0, pos := "wage.go:223", after := #[{ on := 26, ground := Ground.data }, { on := 23, ground := Ground.guard }], guard := some (23, false) }) (v := undef) rfl (by kernel_rfl) (by kernel_rfl) (by kernel_rfl) (fun _ _ _ h => h) (Or.inr ⟨by rfl, rfl⟩) (by assumption) ?_
                        try simp only [Act.put, List.setIfInBounds_toArray, List.set_cons_zero, List.set_cons_succ]
                        refine wpAnyH_take (i := 28) (oi := { dst := some 97, op := Op.load 3 (Operand.tmp 96), type := 3, pos := "wage.go:223", after := #[{ on := 27, ground := Ground.data }, { on := 23, ground := Ground.guard }], guard := some (23, false) }) (v := undef) rfl (by kernel_rfl) (by kernel_rfl) (by kernel_rfl) (fun _ _ _ h => h) (Or.inr ⟨by rfl, rfl⟩) (by assumption) ?_
                        try simp only [Act.put, List.setIfInBounds_toArray, List.set_cons_zero, List.set_cons_succ]
                        refine wpAnyH_take (i := 29) (oi := { dst := some 98, op := Op.binOp BinOp.eql 3 (Operand.tmp 94) (Operand.tmp 97) 3, type := 4, pos := "wage.go:223", after := #[{ on := 25, ground := Ground.data }, { on := 28, ground := Ground.data }, { on := 23, ground := Ground.guard }], guard := some (23, false) }) (v := undef) rfl (by kernel_rfl) (by kernel_rfl) (by kernel_rfl) (fun _ _ _ h => h) (Or.inr ⟨by rfl, rfl⟩) (by assumption) ?_
                        try simp only [Act.put, List.setIfInBounds_toArray, List.set_cons_zero, List.set_cons_succ]
                        refine wpAnyH_take (i := 30) (oi := { dst := some 99, op := Op.move (Operand.tmp 98), type := 4, pos := "wage.go:223", after := #[{ on := 29, ground := Ground.data }, { on := 23, ground := Ground.chain }, { on := 23, ground := Ground.guard }], guard := some (23, false) }) (v := undef) rfl (by kernel_rfl) (by kernel_rfl) (by kernel_rfl) (fun _ _ _ h => h) (Or.inr ⟨by rfl, rfl⟩) (by assumption) ?_
                        try simp only [Act.put, List.setIfInBounds_toArray, List.set_cons_zero, List.set_cons_succ]
                        refine wpAnyH_take (i := 31) (oi := { dst := some 100, op := Op.move (Operand.tmp 15), type := 3, pos := "wage.go:223", after := #[{ on := 30, ground := Ground.guard }], guard := some (30, true) }) (v := undef) rfl (by kernel_rfl) (by kernel_rfl) (by kernel_rfl) (fun _ _ _ h => h) (Or.inr ⟨by rfl, rfl⟩) (by assumption) ?_
                        try simp only [Act.put, List.setIfInBounds_toArray, List.set_cons_zero, List.set_cons_succ]
                        refine wpAnyH_take (i := 32) (oi := { dst := some 101, op := Op.move (Operand.tmp 12), type := 3, pos := "wage.go:223", after := #[{ on := 30, ground := Ground.guard }], guard := some (30, true) }) (v := undef) rfl (by kernel_rfl) (by kernel_rfl) (by kernel_rfl) (fun _ _ _ h => h) (Or.inr ⟨by rfl, rfl⟩) (by assumption) ?_
                        try simp only [Act.put, List.setIfInBounds_toArray, List.set_cons_zero, List.set_cons_succ]
                        refine wpAnyH_take (i := 33) (oi := { dst := some 102, op := Op.binOp BinOp.lss 3 (Operand.tmp 100) (Operand.tmp 101) 3, type := 4, pos := "wage.go:223", after := #[{ on := 31, ground := Ground.data }, { on := 32, ground := Ground.data }, { on := 30, ground := Ground.guard }], guard := some (30, true) }) (v := undef) rfl (by kernel_rfl) (by kernel_rfl) (by kernel_rfl) (fun _ _ _ h => h) (Or.inr ⟨by rfl, rfl⟩) (by assumption) ?_
                        try simp only [Act.put, List.setIfInBounds_toArray, List.set_cons_zero, List.set_cons_succ]
                        refine wpAnyH_take (i := 34) (oi := { dst := some 103, op := Op.pick (Operand.tmp 99) (Operand.tmp 102) (Operand.const (Value.bool false)), type := 4, pos := "wage.go:223", after := #[{ on := 30, ground := Ground.data }, { on := 33, ground := Ground.data }, { on := 23, ground := Ground.guard }], guard := some (23, false) }) (v := undef) rfl (by kernel_rfl) (by kernel_rfl) (by kernel_rfl) (fun _ _ _ h => h) (Or.inr ⟨by rfl, rfl⟩) (by assumption) ?_
                        try simp only [Act.put, List.setIfInBounds_toArray, List.set_cons_zero, List.set_cons_succ]
                        refine wpAnyH_take (i := 35) (oi := { dst := some 104, op := Op.pick (Operand.tmp 92) (Operand.const (Value.bool true)) (Operand.tmp 103), type := 4, pos := "wage.go:223", after := #[{ on := 23, ground := Ground.data }, { on := 34, ground := Ground.data }, { on := 16, ground := Ground.guard }], guard := some (16, true) }) (v := undef) rfl (by kernel_rfl) (by kernel_rfl) (by kernel_rfl) (fun _ _ _ h => h) (Or.inr ⟨by rfl, rfl⟩) (by assumption) ?_
                        try simp only [Act.put, List.setIfInBounds_toArray, List.set_cons_zero, List.set_cons_succ]
                        refine wpAnyH_take (i := 36) (oi := { dst := some 105, op := Op.pick (Operand.tmp 85) (Operand.tmp 104) (Operand.const (Value.bool false)), type := 4, pos := "wage.go:223", after := #[{ on := 16, ground := Ground.data }, { on := 35, ground := Ground.data }], guard := none }) (v := ?_) rfl (by kernel_rfl) (by kernel_rfl) (by kernel_rfl) (fun _ _ _ h => h) (Or.inl ⟨by rfl, ?_⟩) (by assumption) ?_
                        rotate_left
                        · (intro w9 hSw; (try dsimp only at hSw); (go_split_ands; go_simp); (try with_reducible rfl))
                        try simp only [Act.put, List.setIfInBounds_toArray, List.set_cons_zero, List.set_cons_succ]
                        refine wpAnyH_done (by kernel_rfl) ?_ _
                        refine NoPanic.normal ?_
                        clear hHeld
                        go_wp2_with fail
                        refine ⟨⟨k + 1, hltk, by go_num, fun j hj => ?_, Z0.out.y⟩, by simp [intOf]; omega⟩
                        by_cases e : j = k
                        · rw [e]; simp [beats]; intro h; simp_all
                        · exact HO.out j (by omega)
                      · rcases hc2 with n2 | n2
                        · clear hc3 hc5
                          refine wp_region_noPanic ?_
                          refine wp_region_held_drew (S := (fun w' => (w'.cell? ⟨wr.heap.size, 0, none⟩ = some (.int .i64 (T k).crew) ∧ w'.cell? ⟨wr.heap.size, 1, none⟩ = some (.int .i64 (T k).seam) ∧ w'.cell? ⟨w.heap.size + 1, 0, none⟩ = some (.int .i64 s) ∧ w'.cell? ⟨w8.heap.size, 0, none⟩ = some (.int .i64 (mostK c T k).fr) ∧ w'.cell? ⟨w8.heap.size, 1, none⟩ = some (.int .i64 (mostK c T k).to) ∧ w'.cell? ⟨w8.heap.size, 2, none⟩ = some (.int .i64 (mostK c T k).td) ∧ w'.cell? ⟨w.heap.size + 1 + 1, 0, none⟩ = some (.int .i64 fn) ∧ w'.cell? ⟨tb, 6, none⟩ = some (.int .i64 (T m).dl)) ∧ Z7 w bx #[.int .i64 cn, .slice sa sn sc, .slice ta tn tc] s fn tb (tb + 1) (T m) (T k) c (mostK c T k) wr.heap.size w8.heap.size w')) (by kernel_rfl) (Z7.cells Z0.out) (fun hHeld => ?_)
                          refine wpAnyH_take (i := 0) (oi := { dst := some 69, op := Op.fieldAddr 58 (Operand.tmp 16) 0, type := 0, pos := "wage.go:223", after := #[], guard := none }) (v := ?_) rfl (by kernel_rfl) (by kernel_rfl) (by kernel_rfl) (fun _ _ _ h => h) (Or.inl ⟨by rfl, ?_⟩) (by assumption) ?_
                          rotate_left
                          · (intro w9 hSw; (try dsimp only at hSw); (go_split_ands; go_simp); (try with_reducible rfl))
                          try simp only [Act.put, List.setIfInBounds_toArray, List.set_cons_zero, List.set_cons_succ]
                          refine wpAnyH_take (i := 1) (oi := { dst := some 70, op := Op.load 3 (Operand.tmp 69), type := 3, pos := "wage.go:223", after := #[{ on := 0, ground := Ground.data }], guard := none }) (v := ?_) rfl (by kernel_rfl) (by kernel_rfl) (by kernel_rfl) (fun _ _ _ h => h) (Or.inl ⟨by rfl, ?_⟩) (by assumption) ?_
                          rotate_left
                          · (intro w9 hSw; (try dsimp only at hSw); (go_split_ands; go_simp); (try with_reducible rfl))
                          try simp only [Act.put, List.setIfInBounds_toArray, List.set_cons_zero, List.set_cons_succ]
                          refine wpAnyH_take (i := 2) (oi := { dst := some 71, op := Op.move (Operand.tmp 11), type := 3, pos := "wage.go:223", after := #[], guard := none }) (v := ?_) rfl (by kernel_rfl) (by kernel_rfl) (by kernel_rfl) (fun _ _ _ h => h) (Or.inl ⟨by rfl, ?_⟩) (by assumption) ?_
                          rotate_left
                          · (intro w9 hSw; (try dsimp only at hSw); (go_split_ands; go_simp); (try with_reducible rfl))
                          try simp only [Act.put, List.setIfInBounds_toArray, List.set_cons_zero, List.set_cons_succ]
                          refine wpAnyH_take (i := 3) (oi := { dst := some 72, op := Op.binOp BinOp.neq 3 (Operand.tmp 70) (Operand.tmp 71) 3, type := 4, pos := "wage.go:223", after := #[{ on := 1, ground := Ground.data }, { on := 2, ground := Ground.data }], guard := none }) (v := ?_) rfl (by kernel_rfl) (by kernel_rfl) (by kernel_rfl) (fun _ _ _ h => h) (Or.inl ⟨by rfl, ?_⟩) (by assumption) ?_
                          rotate_left
                          · (intro w9 hSw; (try dsimp only at hSw); (go_split_ands; go_simp); (try with_reducible rfl))
                          try simp only [Act.put, List.setIfInBounds_toArray, List.set_cons_zero, List.set_cons_succ]
                          refine wpAnyH_take (i := 4) (oi := { dst := some 73, op := Op.move (Operand.tmp 72), type := 4, pos := "wage.go:223", after := #[{ on := 3, ground := Ground.data }], guard := none }) (v := ?_) rfl (by kernel_rfl) (by kernel_rfl) (by kernel_rfl) (fun _ _ _ h => h) (Or.inl ⟨by rfl, ?_⟩) (by assumption) ?_
                          rotate_left
                          · (intro w9 hSw; (try dsimp only at hSw); (go_split_ands; go_simp); (try with_reducible rfl))
                          try simp only [Act.put, List.setIfInBounds_toArray, List.set_cons_zero, List.set_cons_succ]
                          refine wpAnyH_take (i := 5) (oi := { dst := some 74, op := Op.fieldAddr 58 (Operand.tmp 16) 1, type := 0, pos := "wage.go:223", after := #[{ on := 4, ground := Ground.guard }], guard := some (4, true) }) (v := ?_) rfl (by kernel_rfl) (by kernel_rfl) (by kernel_rfl) (fun _ _ _ h => h) (Or.inl ⟨by rfl, ?_⟩) (by assumption) ?_
                          rotate_left
                          · (intro w9 hSw; (try dsimp only at hSw); (go_split_ands; go_simp); (try with_reducible rfl))
                          try simp only [Act.put, List.setIfInBounds_toArray, List.set_cons_zero, List.set_cons_succ]
                          refine wpAnyH_take (i := 6) (oi := { dst := some 75, op := Op.load 3 (Operand.tmp 74), type := 3, pos := "wage.go:223", after := #[{ on := 5, ground := Ground.data }, { on := 4, ground := Ground.guard }], guard := some (4, true) }) (v := ?_) rfl (by kernel_rfl) (by kernel_rfl) (by kernel_rfl) (fun _ _ _ h => h) (Or.inl ⟨by rfl, ?_⟩) (by assumption) ?_
                          rotate_left
                          · (intro w9 hSw; (try dsimp only at hSw); (go_split_ands; go_simp); (try with_reducible rfl))
                          try simp only [Act.put, List.setIfInBounds_toArray, List.set_cons_zero, List.set_cons_succ]
                          refine wpAnyH_take (i := 7) (oi := { dst := some 76, op := Op.load 3 (Operand.tmp 4), type := 3, pos := "wage.go:223", after := #[{ on := 4, ground := Ground.guard }], guard := some (4, true) }) (v := ?_) rfl (by kernel_rfl) (by kernel_rfl) (by kernel_rfl) (fun _ _ _ h => h) (Or.inl ⟨by rfl, ?_⟩) (by assumption) ?_
                          rotate_left
                          · (intro w9 hSw; (try dsimp only at hSw); (go_split_ands; go_simp); (try with_reducible rfl))
                          try simp only [Act.put, List.setIfInBounds_toArray, List.set_cons_zero, List.set_cons_succ]
                          refine wpAnyH_take (i := 8) (oi := { dst := some 77, op := Op.binOp BinOp.eql 3 (Operand.tmp 75) (Operand.tmp 76) 3, type := 4, pos := "wage.go:223", after := #[{ on := 6, ground := Ground.data }, { on := 7, ground := Ground.data }, { on := 4, ground := Ground.guard }], guard := some (4, true) }) (v := ?_) rfl (by kernel_rfl) (by kernel_rfl) (by kernel_rfl) (fun _ _ _ h => h) (Or.inl ⟨by rfl, ?_⟩) (by assumption) ?_
                          rotate_left
                          · (intro w9 hSw; (try dsimp only at hSw); (go_split_ands; go_simp); (try with_reducible rfl))
                          try simp only [Act.put, List.setIfInBounds_toArray, List.set_cons_zero, List.set_cons_succ]
                          refine wpAnyH_take (i := 9) (oi := { dst := some 78, op := Op.pick (Operand.tmp 73) (Operand.tmp 77) (Operand.const (Value.bool false)), type := 4, pos := "wage.go:223", after := #[{ on := 4, ground := Ground.data }, { on := 8, ground := Ground.data }], guard := none }) (v := ?_) rfl (by kernel_rfl) (by kernel_rfl) (by kernel_rfl) (fun _ _ _ h => h) (Or.inl ⟨by rfl, ?_⟩) (by assumption) ?_
                          rotate_left
                          · (intro w9 hSw; (try dsimp only at hSw); (go_split_ands; go_simp); (try with_reducible rfl))
                          try simp only [Act.put, List.setIfInBounds_toArray, List.set_cons_zero, List.set_cons_succ]
                          refine wpAnyH_take (i := 10) (oi := { dst := some 79, op := Op.move (Operand.tmp 78), type := 4, pos := "wage.go:223", after := #[{ on := 9, ground := Ground.data }, { on := 4, ground := Ground.chain }], guard := none }) (v := ?_) rfl (by kernel_rfl) (by kernel_rfl) (by kernel_rfl) (fun _ _ _ h => h) (Or.inl ⟨by rfl, ?_⟩) (by assumption) ?_
                          rotate_left
                          · (intro w9 hSw; (try dsimp only at hSw); (go_split_ands; go_simp); (try with_reducible rfl))
                          try simp only [Act.put, List.setIfInBounds_toArray, List.set_cons_zero, List.set_cons_succ]
                          refine wpAnyH_take (i := 11) (oi := { dst := some 80, op := Op.load 93 (Operand.tmp 17), type := 93, pos := "wage.go:223", after := #[{ on := 10, ground := Ground.guard }], guard := some (10, true) }) (v := undef) rfl (by kernel_rfl) (by kernel_rfl) (by kernel_rfl) (fun _ _ _ h => h) (Or.inr ⟨by rfl, rfl⟩) (by assumption) ?_
                          try simp only [Act.put, List.setIfInBounds_toArray, List.set_cons_zero, List.set_cons_succ]
                          refine wpAnyH_take (i := 12) (oi := { dst := some 81, op := Op.call { callee := Callee.value (Operand.func 59), args := #[Operand.tmp 80], argTypes := #[93] }, type := 91, pos := "wage.go:223", after := #[{ on := 11, ground := Ground.data }, { on := 10, ground := Ground.chain }, { on := 10, ground := Ground.guard }], guard := some (10, true) }) (v := undef) rfl (by kernel_rfl) (by kernel_rfl) (by kernel_rfl) (fun _ _ _ h => h) (Or.inr ⟨by rfl, rfl⟩) (by assumption) ?_
                          try simp only [Act.put, List.setIfInBounds_toArray, List.set_cons_zero, List.set_cons_succ]
                          refine wpAnyH_take (i := 13) (oi := { dst := some 82, op := Op.load 3 (Operand.tmp 5), type := 3, pos := "wage.go:223", after := #[{ on := 10, ground := Ground.guard }], guard := some (10, true) }) (v := undef) rfl (by kernel_rfl) (by kernel_rfl) (by kernel_rfl) (fun _ _ _ h => h) (Or.inr ⟨by rfl, rfl⟩) (by assumption) ?_
                          try simp only [Act.put, List.setIfInBounds_toArray, List.set_cons_zero, List.set_cons_succ]
                          refine wpAnyH_take (i := 14) (oi := { dst := some 83, op := Op.call { callee := Callee.value (Operand.func 60), args := #[Operand.tmp 81, Operand.tmp 82], argTypes := #[91, 3] }, type := 4, pos := "wage.go:223", after := #[{ on := 12, ground := Ground.data }, { on := 13, ground := Ground.data }, { on := 12, ground := Ground.chain }, { on := 10, ground := Ground.guard }], guard := some (10, true) }) (v := undef) rfl (by kernel_rfl) (by kernel_rfl) (by kernel_rfl) (fun _ _ _ h => h) (Or.inr ⟨by rfl, rfl⟩) (by assumption) ?_
                          try simp only [Act.put, List.setIfInBounds_toArray, List.set_cons_zero, List.set_cons_succ]
                          refine wpAnyH_take (i := 15) (oi := { dst := some 84, op := Op.pick (Operand.tmp 79) (Operand.tmp 83) (Operand.const (Value.bool false)), type := 4, pos := "wage.go:223", after := #[{ on := 10, ground := Ground.data }, { on := 14, ground := Ground.data }], guard := none }) (v := ?_) rfl (by kernel_rfl) (by kernel_rfl) (by kernel_rfl) (fun _ _ _ h => h) (Or.inl ⟨by rfl, ?_⟩) (by assumption) ?_
                          rotate_left
                          · (intro w9 hSw; (try dsimp only at hSw); (go_split_ands; go_simp); (try with_reducible rfl))
                          try simp only [Act.put, List.setIfInBounds_toArray, List.set_cons_zero, List.set_cons_succ]
                          refine wpAnyH_take (i := 16) (oi := { dst := some 85, op := Op.move (Operand.tmp 84), type := 4, pos := "wage.go:223", after := #[{ on := 15, ground := Ground.data }, { on := 14, ground := Ground.chain }], guard := none }) (v := ?_) rfl (by kernel_rfl) (by kernel_rfl) (by kernel_rfl) (fun _ _ _ h => h) (Or.inl ⟨by rfl, ?_⟩) (by assumption) ?_
                          rotate_left
                          · (intro w9 hSw; (try dsimp only at hSw); (go_split_ands; go_simp); (try with_reducible rfl))
                          try simp only [Act.put, List.setIfInBounds_toArray, List.set_cons_zero, List.set_cons_succ]
                          refine wpAnyH_take (i := 17) (oi := { dst := some 86, op := Op.fieldAddr 93 (Operand.tmp 17) 2, type := 0, pos := "wage.go:223", after := #[{ on := 16, ground := Ground.guard }], guard := some (16, true) }) (v := undef) rfl (by kernel_rfl) (by kernel_rfl) (by kernel_rfl) (fun _ _ _ h => h) (Or.inr ⟨by rfl, rfl⟩) (by assumption) ?_
                          try simp only [Act.put, List.setIfInBounds_toArray, List.set_cons_zero, List.set_cons_succ]
                          refine wpAnyH_take (i := 18) (oi := { dst := some 87, op := Op.load 3 (Operand.tmp 86), type := 3, pos := "wage.go:223", after := #[{ on := 17, ground := Ground.data }, { on := 16, ground := Ground.guard }], guard := some (16, true) }) (v := undef) rfl (by kernel_rfl) (by kernel_rfl) (by kernel_rfl) (fun _ _ _ h => h) (Or.inr ⟨by rfl, rfl⟩) (by assumption) ?_
                          try simp only [Act.put, List.setIfInBounds_toArray, List.set_cons_zero, List.set_cons_succ]
                          refine wpAnyH_take (i := 19) (oi := { dst := some 88, op := Op.fieldAddr 58 (Operand.tmp 13) 4, type := 0, pos := "wage.go:223", after := #[{ on := 16, ground := Ground.guard }], guard := some (16, true) }) (v := undef) rfl (by kernel_rfl) (by kernel_rfl) (by kernel_rfl) (fun _ _ _ h => h) (Or.inr ⟨by rfl, rfl⟩) (by assumption) ?_
                          try simp only [Act.put, List.setIfInBounds_toArray, List.set_cons_zero, List.set_cons_succ]
                          refine wpAnyH_take (i := 20) (oi := { dst := some 89, op := Op.fieldAddr 29 (Operand.tmp 88) 0, type := 0, pos := "wage.go:223", after := #[{ on := 19, ground := Ground.data }, { on := 16, ground := Ground.guard }], guard := some (16, true) }) (v := undef) rfl (by kernel_rfl) (by kernel_rfl) (by kernel_rfl) (fun _ _ _ h => h) (Or.inr ⟨by rfl, rfl⟩) (by assumption) ?_
                          try simp only [Act.put, List.setIfInBounds_toArray, List.set_cons_zero, List.set_cons_succ]
                          refine wpAnyH_take (i := 21) (oi := { dst := some 90, op := Op.load 3 (Operand.tmp 89), type := 3, pos := "wage.go:223", after := #[{ on := 20, ground := Ground.data }, { on := 16, ground := Ground.guard }], guard := some (16, true) }) (v := undef) rfl (by kernel_rfl) (by kernel_rfl) (by kernel_rfl) (fun _ _ _ h => h) (Or.inr ⟨by rfl, rfl⟩) (by assumption) ?_
                          try simp only [Act.put, List.setIfInBounds_toArray, List.set_cons_zero, List.set_cons_succ]
                          refine wpAnyH_take (i := 22) (oi := { dst := some 91, op := Op.binOp BinOp.lss 3 (Operand.tmp 87) (Operand.tmp 90) 3, type := 4, pos := "wage.go:223", after := #[{ on := 18, ground := Ground.data }, { on := 21, ground := Ground.data }, { on := 16, ground := Ground.guard }], guard := some (16, true) }) (v := undef) rfl (by kernel_rfl) (by kernel_rfl) (by kernel_rfl) (fun _ _ _ h => h) (Or.inr ⟨by rfl, rfl⟩) (by assumption) ?_
                          try simp only [Act.put, List.setIfInBounds_toArray, List.set_cons_zero, List.set_cons_succ]
                          refine wpAnyH_take (i := 23) (oi := { dst := some 92, op := Op.move (Operand.tmp 91), type := 4, pos := "wage.go:223", after := #[{ on := 22, ground := Ground.data }, { on := 16, ground := Ground.chain }, { on := 16, ground := Ground.guard }], guard := some (16, true) }) (v := undef) rfl (by kernel_rfl) (by kernel_rfl) (by kernel_rfl) (fun _ _ _ h => h) (Or.inr ⟨by rfl, rfl⟩) (by assumption) ?_
                          try simp only [Act.put, List.setIfInBounds_toArray, List.set_cons_zero, List.set_cons_succ]
                          refine wpAnyH_take (i := 24) (oi := { dst := some 93, op := Op.fieldAddr 93 (Operand.tmp 17) 2, type := 0, pos := "wage.go:223", after := #[{ on := 23, ground := Ground.guard }], guard := some (23, false) }) (v := undef) rfl (by kernel_rfl) (by kernel_rfl) (by kernel_rfl) (fun _ _ _ h => h) (Or.inr ⟨by rfl, rfl⟩) (by assumption) ?_
                          try simp only [Act.put, List.setIfInBounds_toArray, List.set_cons_zero, List.set_cons_succ]
                          refine wpAnyH_take (i := 25) (oi := { dst := some 94, op := Op.load 3 (Operand.tmp 93), type := 3, pos := "wage.go:223", after := #[{ on := 24, ground := Ground.data }, { on := 23, ground := Ground.guard }], guard := some (23, false) }) (v := undef) rfl (by kernel_rfl) (by kernel_rfl) (by kernel_rfl) (fun _ _ _ h => h) (Or.inr ⟨by rfl, rfl⟩) (by assumption) ?_
                          try simp only [Act.put, List.setIfInBounds_toArray, List.set_cons_zero, List.set_cons_succ]
                          refine wpAnyH_take (i := 26) (oi := { dst := some 95, op := Op.fieldAddr 58 (Operand.tmp 13) 4, type := 0, pos := "wage.go:223", after := #[{ on := 23, ground := Ground.guard }], guard := some (23, false) }) (v := undef) rfl (by kernel_rfl) (by kernel_rfl) (by kernel_rfl) (fun _ _ _ h => h) (Or.inr ⟨by rfl, rfl⟩) (by assumption) ?_
                          try simp only [Act.put, List.setIfInBounds_toArray, List.set_cons_zero, List.set_cons_succ]
                          refine wpAnyH_take (i := 27) (oi := { dst := some 96, op := Op.fieldAddr 29 (Operand.tmp 95) 0, type := 0, pos := "wage.go:223", after := #[{ on := 26, ground := Ground.data }, { on := 23, ground := Ground.guard }], guard := some (23, false) }) (v := undef) rfl (by kernel_rfl) (by kernel_rfl) (by kernel_rfl) (fun _ _ _ h => h) (Or.inr ⟨by rfl, rfl⟩) (by assumption) ?_
                          try simp only [Act.put, List.setIfInBounds_toArray, List.set_cons_zero, List.set_cons_succ]
                          refine wpAnyH_take (i := 28) (oi := { dst := some 97, op := Op.load 3 (Operand.tmp 96), type := 3, pos := "wage.go:223", after := #[{ on := 27, ground := Ground.data }, { on := 23, ground := Ground.guard }], guard := some (23, false) }) (v := undef) rfl (by kernel_rfl) (by kernel_rfl) (by kernel_rfl) (fun _ _ _ h => h) (Or.inr ⟨by rfl, rfl⟩) (by assumption) ?_
                          try simp only [Act.put, List.setIfInBounds_toArray, List.set_cons_zero, List.set_cons_succ]
                          refine wpAnyH_take (i := 29) (oi := { dst := some 98, op := Op.binOp BinOp.eql 3 (Operand.tmp 94) (Operand.tmp 97) 3, type := 4, pos := "wage.go:223", after := #[{ on := 25, ground := Ground.data }, { on := 28, ground := Ground.data }, { on := 23, ground := Ground.guard }], guard := some (23, false) }) (v := undef) rfl (by kernel_rfl) (by kernel_rfl) (by kernel_rfl) (fun _ _ _ h => h) (Or.inr ⟨by rfl, rfl⟩) (by assumption) ?_
                          try simp only [Act.put, List.setIfInBounds_toArray, List.set_cons_zero, List.set_cons_succ]
                          refine wpAnyH_take (i := 30) (oi := { dst := some 99, op := Op.move (Operand.tmp 98), type := 4, pos := "wage.go:223", after := #[{ on := 29, ground := Ground.data }, { on := 23, ground := Ground.chain }, { on := 23, ground := Ground.guard }], guard := some (23, false) }) (v := undef) rfl (by kernel_rfl) (by kernel_rfl) (by kernel_rfl) (fun _ _ _ h => h) (Or.inr ⟨by rfl, rfl⟩) (by assumption) ?_
                          try simp only [Act.put, List.setIfInBounds_toArray, List.set_cons_zero, List.set_cons_succ]
                          refine wpAnyH_take (i := 31) (oi := { dst := some 100, op := Op.move (Operand.tmp 15), type := 3, pos := "wage.go:223", after := #[{ on := 30, ground := Ground.guard }], guard := some (30, true) }) (v := undef) rfl (by kernel_rfl) (by kernel_rfl) (by kernel_rfl) (fun _ _ _ h => h) (Or.inr ⟨by rfl, rfl⟩) (by assumption) ?_
                          try simp only [Act.put, List.setIfInBounds_toArray, List.set_cons_zero, List.set_cons_succ]
                          refine wpAnyH_take (i := 32) (oi := { dst := some 101, op := Op.move (Operand.tmp 12), type := 3, pos := "wage.go:223", after := #[{ on := 30, ground := Ground.guard }], guard := some (30, true) }) (v := undef) rfl (by kernel_rfl) (by kernel_rfl) (by kernel_rfl) (fun _ _ _ h => h) (Or.inr ⟨by rfl, rfl⟩) (by assumption) ?_
                          try simp only [Act.put, List.setIfInBounds_toArray, List.set_cons_zero, List.set_cons_succ]
                          refine wpAnyH_take (i := 33) (oi := { dst := some 102, op := Op.binOp BinOp.lss 3 (Operand.tmp 100) (Operand.tmp 101) 3, type := 4, pos := "wage.go:223", after := #[{ on := 31, ground := Ground.data }, { on := 32, ground := Ground.data }, { on := 30, ground := Ground.guard }], guard := some (30, true) }) (v := undef) rfl (by kernel_rfl) (by kernel_rfl) (by kernel_rfl) (fun _ _ _ h => h) (Or.inr ⟨by rfl, rfl⟩) (by assumption) ?_
                          try simp only [Act.put, List.setIfInBounds_toArray, List.set_cons_zero, List.set_cons_succ]
                          refine wpAnyH_take (i := 34) (oi := { dst := some 103, op := Op.pick (Operand.tmp 99) (Operand.tmp 102) (Operand.const (Value.bool false)), type := 4, pos := "wage.go:223", after := #[{ on := 30, ground := Ground.data }, { on := 33, ground := Ground.data }, { on := 23, ground := Ground.guard }], guard := some (23, false) }) (v := undef) rfl (by kernel_rfl) (by kernel_rfl) (by kernel_rfl) (fun _ _ _ h => h) (Or.inr ⟨by rfl, rfl⟩) (by assumption) ?_
                          try simp only [Act.put, List.setIfInBounds_toArray, List.set_cons_zero, List.set_cons_succ]
                          refine wpAnyH_take (i := 35) (oi := { dst := some 104, op := Op.pick (Operand.tmp 92) (Operand.const (Value.bool true)) (Operand.tmp 103), type := 4, pos := "wage.go:223", after := #[{ on := 23, ground := Ground.data }, { on := 34, ground := Ground.data }, { on := 16, ground := Ground.guard }], guard := some (16, true) }) (v := undef) rfl (by kernel_rfl) (by kernel_rfl) (by kernel_rfl) (fun _ _ _ h => h) (Or.inr ⟨by rfl, rfl⟩) (by assumption) ?_
                          try simp only [Act.put, List.setIfInBounds_toArray, List.set_cons_zero, List.set_cons_succ]
                          refine wpAnyH_take (i := 36) (oi := { dst := some 105, op := Op.pick (Operand.tmp 85) (Operand.tmp 104) (Operand.const (Value.bool false)), type := 4, pos := "wage.go:223", after := #[{ on := 16, ground := Ground.data }, { on := 35, ground := Ground.data }], guard := none }) (v := ?_) rfl (by kernel_rfl) (by kernel_rfl) (by kernel_rfl) (fun _ _ _ h => h) (Or.inl ⟨by rfl, ?_⟩) (by assumption) ?_
                          rotate_left
                          · (intro w9 hSw; (try dsimp only at hSw); (go_split_ands; go_simp); (try with_reducible rfl))
                          try simp only [Act.put, List.setIfInBounds_toArray, List.set_cons_zero, List.set_cons_succ]
                          refine wpAnyH_done (by kernel_rfl) ?_ _
                          refine NoPanic.normal ?_
                          clear hHeld
                          go_wp2_with fail
                          refine ⟨⟨k + 1, hltk, by go_num, fun j hj => ?_, Z0.out.y⟩, by simp [intOf]; omega⟩
                          by_cases e : j = k
                          · rw [e]; simp [beats, hasB]; intros; simp_all
                          · exact HO.out j (by omega)
                        · rcases hc3 with n3 | n3
                          · clear hc5
                            refine wp_region_noPanic ?_
                            refine wp_region_held_drew (S := (fun w' => (w'.cell? ⟨wr.heap.size, 0, none⟩ = some (.int .i64 (T k).crew) ∧ w'.cell? ⟨wr.heap.size, 1, none⟩ = some (.int .i64 (T k).seam) ∧ w'.cell? ⟨w.heap.size + 1, 0, none⟩ = some (.int .i64 s) ∧ w'.cell? ⟨w8.heap.size, 0, none⟩ = some (.int .i64 (mostK c T k).fr) ∧ w'.cell? ⟨w8.heap.size, 1, none⟩ = some (.int .i64 (mostK c T k).to) ∧ w'.cell? ⟨w8.heap.size, 2, none⟩ = some (.int .i64 (mostK c T k).td) ∧ w'.cell? ⟨w.heap.size + 1 + 1, 0, none⟩ = some (.int .i64 fn) ∧ w'.cell? ⟨tb, 6, none⟩ = some (.int .i64 (T m).dl)) ∧ Z7 w bx #[.int .i64 cn, .slice sa sn sc, .slice ta tn tc] s fn tb (tb + 1) (T m) (T k) c (mostK c T k) wr.heap.size w8.heap.size w')) (by kernel_rfl) (Z7.cells Z0.out) (fun hHeld => ?_)
                            refine wpAnyH_take (i := 0) (oi := { dst := some 69, op := Op.fieldAddr 58 (Operand.tmp 16) 0, type := 0, pos := "wage.go:223", after := #[], guard := none }) (v := ?_) rfl (by kernel_rfl) (by kernel_rfl) (by kernel_rfl) (fun _ _ _ h => h) (Or.inl ⟨by rfl, ?_⟩) (by assumption) ?_
                            rotate_left
                            · (intro w9 hSw; (try dsimp only at hSw); (go_split_ands; go_simp); (try with_reducible rfl))
                            try simp only [Act.put, List.setIfInBounds_toArray, List.set_cons_zero, List.set_cons_succ]
                            refine wpAnyH_take (i := 1) (oi := { dst := some 70, op := Op.load 3 (Operand.tmp 69), type := 3, pos := "wage.go:223", after := #[{ on := 0, ground := Ground.data }], guard := none }) (v := ?_) rfl (by kernel_rfl) (by kernel_rfl) (by kernel_rfl) (fun _ _ _ h => h) (Or.inl ⟨by rfl, ?_⟩) (by assumption) ?_
                            rotate_left
                            · (intro w9 hSw; (try dsimp only at hSw); (go_split_ands; go_simp); (try with_reducible rfl))
                            try simp only [Act.put, List.setIfInBounds_toArray, List.set_cons_zero, List.set_cons_succ]
                            refine wpAnyH_take (i := 2) (oi := { dst := some 71, op := Op.move (Operand.tmp 11), type := 3, pos := "wage.go:223", after := #[], guard := none }) (v := ?_) rfl (by kernel_rfl) (by kernel_rfl) (by kernel_rfl) (fun _ _ _ h => h) (Or.inl ⟨by rfl, ?_⟩) (by assumption) ?_
                            rotate_left
                            · (intro w9 hSw; (try dsimp only at hSw); (go_split_ands; go_simp); (try with_reducible rfl))
                            try simp only [Act.put, List.setIfInBounds_toArray, List.set_cons_zero, List.set_cons_succ]
                            refine wpAnyH_take (i := 3) (oi := { dst := some 72, op := Op.binOp BinOp.neq 3 (Operand.tmp 70) (Operand.tmp 71) 3, type := 4, pos := "wage.go:223", after := #[{ on := 1, ground := Ground.data }, { on := 2, ground := Ground.data }], guard := none }) (v := ?_) rfl (by kernel_rfl) (by kernel_rfl) (by kernel_rfl) (fun _ _ _ h => h) (Or.inl ⟨by rfl, ?_⟩) (by assumption) ?_
                            rotate_left
                            · (intro w9 hSw; (try dsimp only at hSw); (go_split_ands; go_simp); (try with_reducible rfl))
                            try simp only [Act.put, List.setIfInBounds_toArray, List.set_cons_zero, List.set_cons_succ]
                            refine wpAnyH_take (i := 4) (oi := { dst := some 73, op := Op.move (Operand.tmp 72), type := 4, pos := "wage.go:223", after := #[{ on := 3, ground := Ground.data }], guard := none }) (v := ?_) rfl (by kernel_rfl) (by kernel_rfl) (by kernel_rfl) (fun _ _ _ h => h) (Or.inl ⟨by rfl, ?_⟩) (by assumption) ?_
                            rotate_left
                            · (intro w9 hSw; (try dsimp only at hSw); (go_split_ands; go_simp); (try with_reducible rfl))
                            try simp only [Act.put, List.setIfInBounds_toArray, List.set_cons_zero, List.set_cons_succ]
                            refine wpAnyH_take (i := 5) (oi := { dst := some 74, op := Op.fieldAddr 58 (Operand.tmp 16) 1, type := 0, pos := "wage.go:223", after := #[{ on := 4, ground := Ground.guard }], guard := some (4, true) }) (v := ?_) rfl (by kernel_rfl) (by kernel_rfl) (by kernel_rfl) (fun _ _ _ h => h) (Or.inl ⟨by rfl, ?_⟩) (by assumption) ?_
                            rotate_left
                            · (intro w9 hSw; (try dsimp only at hSw); (go_split_ands; go_simp); (try with_reducible rfl))
                            try simp only [Act.put, List.setIfInBounds_toArray, List.set_cons_zero, List.set_cons_succ]
                            refine wpAnyH_take (i := 6) (oi := { dst := some 75, op := Op.load 3 (Operand.tmp 74), type := 3, pos := "wage.go:223", after := #[{ on := 5, ground := Ground.data }, { on := 4, ground := Ground.guard }], guard := some (4, true) }) (v := ?_) rfl (by kernel_rfl) (by kernel_rfl) (by kernel_rfl) (fun _ _ _ h => h) (Or.inl ⟨by rfl, ?_⟩) (by assumption) ?_
                            rotate_left
                            · (intro w9 hSw; (try dsimp only at hSw); (go_split_ands; go_simp); (try with_reducible rfl))
                            try simp only [Act.put, List.setIfInBounds_toArray, List.set_cons_zero, List.set_cons_succ]
                            refine wpAnyH_take (i := 7) (oi := { dst := some 76, op := Op.load 3 (Operand.tmp 4), type := 3, pos := "wage.go:223", after := #[{ on := 4, ground := Ground.guard }], guard := some (4, true) }) (v := ?_) rfl (by kernel_rfl) (by kernel_rfl) (by kernel_rfl) (fun _ _ _ h => h) (Or.inl ⟨by rfl, ?_⟩) (by assumption) ?_
                            rotate_left
                            · (intro w9 hSw; (try dsimp only at hSw); (go_split_ands; go_simp); (try with_reducible rfl))
                            try simp only [Act.put, List.setIfInBounds_toArray, List.set_cons_zero, List.set_cons_succ]
                            refine wpAnyH_take (i := 8) (oi := { dst := some 77, op := Op.binOp BinOp.eql 3 (Operand.tmp 75) (Operand.tmp 76) 3, type := 4, pos := "wage.go:223", after := #[{ on := 6, ground := Ground.data }, { on := 7, ground := Ground.data }, { on := 4, ground := Ground.guard }], guard := some (4, true) }) (v := ?_) rfl (by kernel_rfl) (by kernel_rfl) (by kernel_rfl) (fun _ _ _ h => h) (Or.inl ⟨by rfl, ?_⟩) (by assumption) ?_
                            rotate_left
                            · (intro w9 hSw; (try dsimp only at hSw); (go_split_ands; go_simp); (try with_reducible rfl))
                            try simp only [Act.put, List.setIfInBounds_toArray, List.set_cons_zero, List.set_cons_succ]
                            refine wpAnyH_take (i := 9) (oi := { dst := some 78, op := Op.pick (Operand.tmp 73) (Operand.tmp 77) (Operand.const (Value.bool false)), type := 4, pos := "wage.go:223", after := #[{ on := 4, ground := Ground.data }, { on := 8, ground := Ground.data }], guard := none }) (v := ?_) rfl (by kernel_rfl) (by kernel_rfl) (by kernel_rfl) (fun _ _ _ h => h) (Or.inl ⟨by rfl, ?_⟩) (by assumption) ?_
                            rotate_left
                            · (intro w9 hSw; (try dsimp only at hSw); (go_split_ands; go_simp); (try with_reducible rfl))
                            try simp only [Act.put, List.setIfInBounds_toArray, List.set_cons_zero, List.set_cons_succ]
                            refine wpAnyH_take (i := 10) (oi := { dst := some 79, op := Op.move (Operand.tmp 78), type := 4, pos := "wage.go:223", after := #[{ on := 9, ground := Ground.data }, { on := 4, ground := Ground.chain }], guard := none }) (v := ?_) rfl (by kernel_rfl) (by kernel_rfl) (by kernel_rfl) (fun _ _ _ h => h) (Or.inl ⟨by rfl, ?_⟩) (by assumption) ?_
                            rotate_left
                            · (intro w9 hSw; (try dsimp only at hSw); (go_split_ands; go_simp); (try with_reducible rfl))
                            try simp only [Act.put, List.setIfInBounds_toArray, List.set_cons_zero, List.set_cons_succ]
                            refine wpAnyH_take (i := 11) (oi := { dst := some 80, op := Op.load 93 (Operand.tmp 17), type := 93, pos := "wage.go:223", after := #[{ on := 10, ground := Ground.guard }], guard := some (10, true) }) (v := ?_) rfl (by kernel_rfl) (by kernel_rfl) (by kernel_rfl) (fun _ _ _ h => h) (Or.inl ⟨by rfl, ?_⟩) (by assumption) ?_
                            rotate_left
                            · (intro w9 hSw; (try dsimp only at hSw); (go_split_ands; go_simp); (try with_reducible rfl))
                            try simp only [Act.put, List.setIfInBounds_toArray, List.set_cons_zero, List.set_cons_succ]
                            refine wpAnyH_take (i := 13) (oi := { dst := some 82, op := Op.load 3 (Operand.tmp 5), type := 3, pos := "wage.go:223", after := #[{ on := 10, ground := Ground.guard }], guard := some (10, true) }) (v := ?_) rfl (by kernel_rfl) (by kernel_rfl) (by kernel_rfl) (fun _ _ _ h => h) (Or.inl ⟨by rfl, ?_⟩) (by assumption) ?_
                            rotate_left
                            · (intro w9 hSw; (try dsimp only at hSw); (go_split_ands; go_simp); (try with_reducible rfl))
                            try simp only [Act.put, List.setIfInBounds_toArray, List.set_cons_zero, List.set_cons_succ]
                            refine wpAnyH_ready (rs := [12]) (by kernel_rfl) (by simp) ?_
                            refine AllReadyH.cons (o := { dst := some 81, op := Op.call { callee := Callee.value (Operand.func 59), args := #[Operand.tmp 80], argTypes := #[93] }, type := 91, pos := "wage.go:223", after := #[{ on := 11, ground := Ground.data }, { on := 10, ground := Ground.chain }, { on := 10, ground := Ground.guard }], guard := some (10, true) }) rfl (fun K hK => ?_) AllReadyH.nil
                            go_simp
                            go_at_call 59; refine (known_fathoms_any _ _ _ _ k0' k1' k2' k3').mono ?_; rintro e w10 ⟨rfl, hb10⟩; have B10 := Lib.hid hb10; clear hb10
                            go_wp2_with fail
                            refine hK.out _ _ ?_ (fun hHeld => ?_)
                            · exact Z7.cells (Z7.grow Z0.out B10.out)
                            clear hK K
                            try simp only [Act.put, List.setIfInBounds_toArray, List.set_cons_zero, List.set_cons_succ]
                            have Z1 := Lib.hid hHeld.2
                            refine wpAnyH_ready (rs := [14]) (by kernel_rfl) (by simp) ?_
                            refine AllReadyH.cons (o := { dst := some 83, op := Op.call { callee := Callee.value (Operand.func 60), args := #[Operand.tmp 81, Operand.tmp 82], argTypes := #[91, 3] }, type := 4, pos := "wage.go:223", after := #[{ on := 12, ground := Ground.data }, { on := 13, ground := Ground.data }, { on := 12, ground := Ground.chain }, { on := 10, ground := Ground.guard }], guard := some (10, true) }) rfl (fun K hK => ?_) AllReadyH.nil
                            go_simp
                            go_at_call 60; refine (has_any _ _ _ hfmk hfn).mono ?_; rintro e w11 ⟨rfl, rfl⟩
                            go_wp2_with fail
                            refine hK.out _ _ ?_ (fun hHeld => ?_)
                            · assumption
                            clear hK K
                            try simp only [Act.put, List.setIfInBounds_toArray, List.set_cons_zero, List.set_cons_succ]
                            refine wpAnyH_take (i := 15) (oi := { dst := some 84, op := Op.pick (Operand.tmp 79) (Operand.tmp 83) (Operand.const (Value.bool false)), type := 4, pos := "wage.go:223", after := #[{ on := 10, ground := Ground.data }, { on := 14, ground := Ground.data }], guard := none }) (v := ?_) rfl (by kernel_rfl) (by kernel_rfl) (by kernel_rfl) (fun _ _ _ h => h) (Or.inl ⟨by rfl, ?_⟩) (by assumption) ?_
                            rotate_left
                            · (intro w9 hSw; (try dsimp only at hSw); (go_split_ands; go_simp); (try with_reducible rfl))
                            try simp only [Act.put, List.setIfInBounds_toArray, List.set_cons_zero, List.set_cons_succ]
                            refine wpAnyH_take (i := 16) (oi := { dst := some 85, op := Op.move (Operand.tmp 84), type := 4, pos := "wage.go:223", after := #[{ on := 15, ground := Ground.data }, { on := 14, ground := Ground.chain }], guard := none }) (v := ?_) rfl (by kernel_rfl) (by kernel_rfl) (by kernel_rfl) (fun _ _ _ h => h) (Or.inl ⟨by rfl, ?_⟩) (by assumption) ?_
                            rotate_left
                            · (intro w9 hSw; (try dsimp only at hSw); (go_split_ands; go_simp); (try with_reducible rfl))
                            try simp only [Act.put, List.setIfInBounds_toArray, List.set_cons_zero, List.set_cons_succ]
                            refine wpAnyH_take (i := 17) (oi := { dst := some 86, op := Op.fieldAddr 93 (Operand.tmp 17) 2, type := 0, pos := "wage.go:223", after := #[{ on := 16, ground := Ground.guard }], guard := some (16, true) }) (v := undef) rfl (by kernel_rfl) (by kernel_rfl) (by kernel_rfl) (fun _ _ _ h => h) (Or.inr ⟨by rfl, rfl⟩) (by assumption) ?_
                            try simp only [Act.put, List.setIfInBounds_toArray, List.set_cons_zero, List.set_cons_succ]
                            refine wpAnyH_take (i := 18) (oi := { dst := some 87, op := Op.load 3 (Operand.tmp 86), type := 3, pos := "wage.go:223", after := #[{ on := 17, ground := Ground.data }, { on := 16, ground := Ground.guard }], guard := some (16, true) }) (v := undef) rfl (by kernel_rfl) (by kernel_rfl) (by kernel_rfl) (fun _ _ _ h => h) (Or.inr ⟨by rfl, rfl⟩) (by assumption) ?_
                            try simp only [Act.put, List.setIfInBounds_toArray, List.set_cons_zero, List.set_cons_succ]
                            refine wpAnyH_take (i := 19) (oi := { dst := some 88, op := Op.fieldAddr 58 (Operand.tmp 13) 4, type := 0, pos := "wage.go:223", after := #[{ on := 16, ground := Ground.guard }], guard := some (16, true) }) (v := undef) rfl (by kernel_rfl) (by kernel_rfl) (by kernel_rfl) (fun _ _ _ h => h) (Or.inr ⟨by rfl, rfl⟩) (by assumption) ?_
                            try simp only [Act.put, List.setIfInBounds_toArray, List.set_cons_zero, List.set_cons_succ]
                            refine wpAnyH_take (i := 20) (oi := { dst := some 89, op := Op.fieldAddr 29 (Operand.tmp 88) 0, type := 0, pos := "wage.go:223", after := #[{ on := 19, ground := Ground.data }, { on := 16, ground := Ground.guard }], guard := some (16, true) }) (v := undef) rfl (by kernel_rfl) (by kernel_rfl) (by kernel_rfl) (fun _ _ _ h => h) (Or.inr ⟨by rfl, rfl⟩) (by assumption) ?_
                            try simp only [Act.put, List.setIfInBounds_toArray, List.set_cons_zero, List.set_cons_succ]
                            refine wpAnyH_take (i := 21) (oi := { dst := some 90, op := Op.load 3 (Operand.tmp 89), type := 3, pos := "wage.go:223", after := #[{ on := 20, ground := Ground.data }, { on := 16, ground := Ground.guard }], guard := some (16, true) }) (v := undef) rfl (by kernel_rfl) (by kernel_rfl) (by kernel_rfl) (fun _ _ _ h => h) (Or.inr ⟨by rfl, rfl⟩) (by assumption) ?_
                            try simp only [Act.put, List.setIfInBounds_toArray, List.set_cons_zero, List.set_cons_succ]
                            refine wpAnyH_take (i := 22) (oi := { dst := some 91, op := Op.binOp BinOp.lss 3 (Operand.tmp 87) (Operand.tmp 90) 3, type := 4, pos := "wage.go:223", after := #[{ on := 18, ground := Ground.data }, { on := 21, ground := Ground.data }, { on := 16, ground := Ground.guard }], guard := some (16, true) }) (v := undef) rfl (by kernel_rfl) (by kernel_rfl) (by kernel_rfl) (fun _ _ _ h => h) (Or.inr ⟨by rfl, rfl⟩) (by assumption) ?_
                            try simp only [Act.put, List.setIfInBounds_toArray, List.set_cons_zero, List.set_cons_succ]
                            refine wpAnyH_take (i := 23) (oi := { dst := some 92, op := Op.move (Operand.tmp 91), type := 4, pos := "wage.go:223", after := #[{ on := 22, ground := Ground.data }, { on := 16, ground := Ground.chain }, { on := 16, ground := Ground.guard }], guard := some (16, true) }) (v := undef) rfl (by kernel_rfl) (by kernel_rfl) (by kernel_rfl) (fun _ _ _ h => h) (Or.inr ⟨by rfl, rfl⟩) (by assumption) ?_
                            try simp only [Act.put, List.setIfInBounds_toArray, List.set_cons_zero, List.set_cons_succ]
                            refine wpAnyH_take (i := 24) (oi := { dst := some 93, op := Op.fieldAddr 93 (Operand.tmp 17) 2, type := 0, pos := "wage.go:223", after := #[{ on := 23, ground := Ground.guard }], guard := some (23, false) }) (v := undef) rfl (by kernel_rfl) (by kernel_rfl) (by kernel_rfl) (fun _ _ _ h => h) (Or.inr ⟨by rfl, rfl⟩) (by assumption) ?_
                            try simp only [Act.put, List.setIfInBounds_toArray, List.set_cons_zero, List.set_cons_succ]
                            refine wpAnyH_take (i := 25) (oi := { dst := some 94, op := Op.load 3 (Operand.tmp 93), type := 3, pos := "wage.go:223", after := #[{ on := 24, ground := Ground.data }, { on := 23, ground := Ground.guard }], guard := some (23, false) }) (v := undef) rfl (by kernel_rfl) (by kernel_rfl) (by kernel_rfl) (fun _ _ _ h => h) (Or.inr ⟨by rfl, rfl⟩) (by assumption) ?_
                            try simp only [Act.put, List.setIfInBounds_toArray, List.set_cons_zero, List.set_cons_succ]
                            refine wpAnyH_take (i := 26) (oi := { dst := some 95, op := Op.fieldAddr 58 (Operand.tmp 13) 4, type := 0, pos := "wage.go:223", after := #[{ on := 23, ground := Ground.guard }], guard := some (23, false) }) (v := undef) rfl (by kernel_rfl) (by kernel_rfl) (by kernel_rfl) (fun _ _ _ h => h) (Or.inr ⟨by rfl, rfl⟩) (by assumption) ?_
                            try simp only [Act.put, List.setIfInBounds_toArray, List.set_cons_zero, List.set_cons_succ]
                            refine wpAnyH_take (i := 27) (oi := { dst := some 96, op := Op.fieldAddr 29 (Operand.tmp 95) 0, type := 0, pos := "wage.go:223", after := #[{ on := 26, ground := Ground.data }, { on := 23, ground := Ground.guard }], guard := some (23, false) }) (v := undef) rfl (by kernel_rfl) (by kernel_rfl) (by kernel_rfl) (fun _ _ _ h => h) (Or.inr ⟨by rfl, rfl⟩) (by assumption) ?_
                            try simp only [Act.put, List.setIfInBounds_toArray, List.set_cons_zero, List.set_cons_succ]
                            refine wpAnyH_take (i := 28) (oi := { dst := some 97, op := Op.load 3 (Operand.tmp 96), type := 3, pos := "wage.go:223", after := #[{ on := 27, ground := Ground.data }, { on := 23, ground := Ground.guard }], guard := some (23, false) }) (v := undef) rfl (by kernel_rfl) (by kernel_rfl) (by kernel_rfl) (fun _ _ _ h => h) (Or.inr ⟨by rfl, rfl⟩) (by assumption) ?_
                            try simp only [Act.put, List.setIfInBounds_toArray, List.set_cons_zero, List.set_cons_succ]
                            refine wpAnyH_take (i := 29) (oi := { dst := some 98, op := Op.binOp BinOp.eql 3 (Operand.tmp 94) (Operand.tmp 97) 3, type := 4, pos := "wage.go:223", after := #[{ on := 25, ground := Ground.data }, { on := 28, ground := Ground.data }, { on := 23, ground := Ground.guard }], guard := some (23, false) }) (v := undef) rfl (by kernel_rfl) (by kernel_rfl) (by kernel_rfl) (fun _ _ _ h => h) (Or.inr ⟨by rfl, rfl⟩) (by assumption) ?_
                            try simp only [Act.put, List.setIfInBounds_toArray, List.set_cons_zero, List.set_cons_succ]
                            refine wpAnyH_take (i := 30) (oi := { dst := some 99, op := Op.move (Operand.tmp 98), type := 4, pos := "wage.go:223", after := #[{ on := 29, ground := Ground.data }, { on := 23, ground := Ground.chain }, { on := 23, ground := Ground.guard }], guard := some (23, false) }) (v := undef) rfl (by kernel_rfl) (by kernel_rfl) (by kernel_rfl) (fun _ _ _ h => h) (Or.inr ⟨by rfl, rfl⟩) (by assumption) ?_
                            try simp only [Act.put, List.setIfInBounds_toArray, List.set_cons_zero, List.set_cons_succ]
                            refine wpAnyH_take (i := 31) (oi := { dst := some 100, op := Op.move (Operand.tmp 15), type := 3, pos := "wage.go:223", after := #[{ on := 30, ground := Ground.guard }], guard := some (30, true) }) (v := undef) rfl (by kernel_rfl) (by kernel_rfl) (by kernel_rfl) (fun _ _ _ h => h) (Or.inr ⟨by rfl, rfl⟩) (by assumption) ?_
                            try simp only [Act.put, List.setIfInBounds_toArray, List.set_cons_zero, List.set_cons_succ]
                            refine wpAnyH_take (i := 32) (oi := { dst := some 101, op := Op.move (Operand.tmp 12), type := 3, pos := "wage.go:223", after := #[{ on := 30, ground := Ground.guard }], guard := some (30, true) }) (v := undef) rfl (by kernel_rfl) (by kernel_rfl) (by kernel_rfl) (fun _ _ _ h => h) (Or.inr ⟨by rfl, rfl⟩) (by assumption) ?_
                            try simp only [Act.put, List.setIfInBounds_toArray, List.set_cons_zero, List.set_cons_succ]
                            refine wpAnyH_take (i := 33) (oi := { dst := some 102, op := Op.binOp BinOp.lss 3 (Operand.tmp 100) (Operand.tmp 101) 3, type := 4, pos := "wage.go:223", after := #[{ on := 31, ground := Ground.data }, { on := 32, ground := Ground.data }, { on := 30, ground := Ground.guard }], guard := some (30, true) }) (v := undef) rfl (by kernel_rfl) (by kernel_rfl) (by kernel_rfl) (fun _ _ _ h => h) (Or.inr ⟨by rfl, rfl⟩) (by assumption) ?_
                            try simp only [Act.put, List.setIfInBounds_toArray, List.set_cons_zero, List.set_cons_succ]
                            refine wpAnyH_take (i := 34) (oi := { dst := some 103, op := Op.pick (Operand.tmp 99) (Operand.tmp 102) (Operand.const (Value.bool false)), type := 4, pos := "wage.go:223", after := #[{ on := 30, ground := Ground.data }, { on := 33, ground := Ground.data }, { on := 23, ground := Ground.guard }], guard := some (23, false) }) (v := undef) rfl (by kernel_rfl) (by kernel_rfl) (by kernel_rfl) (fun _ _ _ h => h) (Or.inr ⟨by rfl, rfl⟩) (by assumption) ?_
                            try simp only [Act.put, List.setIfInBounds_toArray, List.set_cons_zero, List.set_cons_succ]
                            refine wpAnyH_take (i := 35) (oi := { dst := some 104, op := Op.pick (Operand.tmp 92) (Operand.const (Value.bool true)) (Operand.tmp 103), type := 4, pos := "wage.go:223", after := #[{ on := 23, ground := Ground.data }, { on := 34, ground := Ground.data }, { on := 16, ground := Ground.guard }], guard := some (16, true) }) (v := undef) rfl (by kernel_rfl) (by kernel_rfl) (by kernel_rfl) (fun _ _ _ h => h) (Or.inr ⟨by rfl, rfl⟩) (by assumption) ?_
                            try simp only [Act.put, List.setIfInBounds_toArray, List.set_cons_zero, List.set_cons_succ]
                            refine wpAnyH_take (i := 36) (oi := { dst := some 105, op := Op.pick (Operand.tmp 85) (Operand.tmp 104) (Operand.const (Value.bool false)), type := 4, pos := "wage.go:223", after := #[{ on := 16, ground := Ground.data }, { on := 35, ground := Ground.data }], guard := none }) (v := ?_) rfl (by kernel_rfl) (by kernel_rfl) (by kernel_rfl) (fun _ _ _ h => h) (Or.inl ⟨by rfl, ?_⟩) (by assumption) ?_
                            rotate_left
                            · (intro w9 hSw; (try dsimp only at hSw); (go_split_ands; go_simp); (try with_reducible rfl))
                            try simp only [Act.put, List.setIfInBounds_toArray, List.set_cons_zero, List.set_cons_succ]
                            refine wpAnyH_done (by kernel_rfl) ?_ _
                            refine NoPanic.normal ?_
                            clear hHeld
                            go_wp2_with fail
                            have hf := HFK.out
                            rw [n3] at hf
                            refine ⟨⟨k + 1, hltk, by go_num, fun j hj => ?_, Z1.out.y⟩, by simp [intOf]; omega⟩
                            by_cases e : j = k
                            · rw [e]; exact beats_no hf
                            · exact HO.out j (by omega)
                          · by_cases n4 : (mostK c T k).td < (T m).dl
                            · clear hc5
                              have hbt : beats T c s fn m k = true := by
                                exact beats_yes n1 n2 (HFK.out.symm.trans n3) (.inl n4)
                              have hcb : canBy T tn c s fn m = false := by
                                simp only [canBy]
                                rw [all_no hltk (by simp [hbt])]
                                simp
                              have HC := Lib.hid (setI_no hcb)
                              clear hcb hbt
                              refine wp_region_noPanic ?_
                              refine wp_region_held_drew (S := (fun w' => (w'.cell? ⟨wr.heap.size, 0, none⟩ = some (.int .i64 (T k).crew) ∧ w'.cell? ⟨wr.heap.size, 1, none⟩ = some (.int .i64 (T k).seam) ∧ w'.cell? ⟨w.heap.size + 1, 0, none⟩ = some (.int .i64 s) ∧ w'.cell? ⟨w8.heap.size, 0, none⟩ = some (.int .i64 (mostK c T k).fr) ∧ w'.cell? ⟨w8.heap.size, 1, none⟩ = some (.int .i64 (mostK c T k).to) ∧ w'.cell? ⟨w8.heap.size, 2, none⟩ = some (.int .i64 (mostK c T k).td) ∧ w'.cell? ⟨w.heap.size + 1 + 1, 0, none⟩ = some (.int .i64 fn) ∧ w'.cell? ⟨tb, 6, none⟩ = some (.int .i64 (T m).dl)) ∧ Z7 w bx #[.int .i64 cn, .slice sa sn sc, .slice ta tn tc] s fn tb (tb + 1) (T m) (T k) c (mostK c T k) wr.heap.size w8.heap.size w')) (by kernel_rfl) (Z7.cells Z0.out) (fun hHeld => ?_)
                              refine wpAnyH_take (i := 0) (oi := { dst := some 69, op := Op.fieldAddr 58 (Operand.tmp 16) 0, type := 0, pos := "wage.go:223", after := #[], guard := none }) (v := ?_) rfl (by kernel_rfl) (by kernel_rfl) (by kernel_rfl) (fun _ _ _ h => h) (Or.inl ⟨by rfl, ?_⟩) (by assumption) ?_
                              rotate_left
                              · (intro w9 hSw; (try dsimp only at hSw); (go_split_ands; go_simp); (try with_reducible rfl))
                              try simp only [Act.put, List.setIfInBounds_toArray, List.set_cons_zero, List.set_cons_succ]
                              refine wpAnyH_take (i := 1) (oi := { dst := some 70, op := Op.load 3 (Operand.tmp 69), type := 3, pos := "wage.go:223", after := #[{ on := 0, ground := Ground.data }], guard := none }) (v := ?_) rfl (by kernel_rfl) (by kernel_rfl) (by kernel_rfl) (fun _ _ _ h => h) (Or.inl ⟨by rfl, ?_⟩) (by assumption) ?_
                              rotate_left
                              · (intro w9 hSw; (try dsimp only at hSw); (go_split_ands; go_simp); (try with_reducible rfl))
                              try simp only [Act.put, List.setIfInBounds_toArray, List.set_cons_zero, List.set_cons_succ]
                              refine wpAnyH_take (i := 2) (oi := { dst := some 71, op := Op.move (Operand.tmp 11), type := 3, pos := "wage.go:223", after := #[], guard := none }) (v := ?_) rfl (by kernel_rfl) (by kernel_rfl) (by kernel_rfl) (fun _ _ _ h => h) (Or.inl ⟨by rfl, ?_⟩) (by assumption) ?_
                              rotate_left
                              · (intro w9 hSw; (try dsimp only at hSw); (go_split_ands; go_simp); (try with_reducible rfl))
                              try simp only [Act.put, List.setIfInBounds_toArray, List.set_cons_zero, List.set_cons_succ]
                              refine wpAnyH_take (i := 3) (oi := { dst := some 72, op := Op.binOp BinOp.neq 3 (Operand.tmp 70) (Operand.tmp 71) 3, type := 4, pos := "wage.go:223", after := #[{ on := 1, ground := Ground.data }, { on := 2, ground := Ground.data }], guard := none }) (v := ?_) rfl (by kernel_rfl) (by kernel_rfl) (by kernel_rfl) (fun _ _ _ h => h) (Or.inl ⟨by rfl, ?_⟩) (by assumption) ?_
                              rotate_left
                              · (intro w9 hSw; (try dsimp only at hSw); (go_split_ands; go_simp); (try with_reducible rfl))
                              try simp only [Act.put, List.setIfInBounds_toArray, List.set_cons_zero, List.set_cons_succ]
                              refine wpAnyH_take (i := 4) (oi := { dst := some 73, op := Op.move (Operand.tmp 72), type := 4, pos := "wage.go:223", after := #[{ on := 3, ground := Ground.data }], guard := none }) (v := ?_) rfl (by kernel_rfl) (by kernel_rfl) (by kernel_rfl) (fun _ _ _ h => h) (Or.inl ⟨by rfl, ?_⟩) (by assumption) ?_
                              rotate_left
                              · (intro w9 hSw; (try dsimp only at hSw); (go_split_ands; go_simp); (try with_reducible rfl))
                              try simp only [Act.put, List.setIfInBounds_toArray, List.set_cons_zero, List.set_cons_succ]
                              refine wpAnyH_take (i := 5) (oi := { dst := some 74, op := Op.fieldAddr 58 (Operand.tmp 16) 1, type := 0, pos := "wage.go:223", after := #[{ on := 4, ground := Ground.guard }], guard := some (4, true) }) (v := ?_) rfl (by kernel_rfl) (by kernel_rfl) (by kernel_rfl) (fun _ _ _ h => h) (Or.inl ⟨by rfl, ?_⟩) (by assumption) ?_
                              rotate_left
                              · (intro w9 hSw; (try dsimp only at hSw); (go_split_ands; go_simp); (try with_reducible rfl))
                              try simp only [Act.put, List.setIfInBounds_toArray, List.set_cons_zero, List.set_cons_succ]
                              refine wpAnyH_take (i := 6) (oi := { dst := some 75, op := Op.load 3 (Operand.tmp 74), type := 3, pos := "wage.go:223", after := #[{ on := 5, ground := Ground.data }, { on := 4, ground := Ground.guard }], guard := some (4, true) }) (v := ?_) rfl (by kernel_rfl) (by kernel_rfl) (by kernel_rfl) (fun _ _ _ h => h) (Or.inl ⟨by rfl, ?_⟩) (by assumption) ?_
                              rotate_left
                              · (intro w9 hSw; (try dsimp only at hSw); (go_split_ands; go_simp); (try with_reducible rfl))
                              try simp only [Act.put, List.setIfInBounds_toArray, List.set_cons_zero, List.set_cons_succ]
                              refine wpAnyH_take (i := 7) (oi := { dst := some 76, op := Op.load 3 (Operand.tmp 4), type := 3, pos := "wage.go:223", after := #[{ on := 4, ground := Ground.guard }], guard := some (4, true) }) (v := ?_) rfl (by kernel_rfl) (by kernel_rfl) (by kernel_rfl) (fun _ _ _ h => h) (Or.inl ⟨by rfl, ?_⟩) (by assumption) ?_
                              rotate_left
                              · (intro w9 hSw; (try dsimp only at hSw); (go_split_ands; go_simp); (try with_reducible rfl))
                              try simp only [Act.put, List.setIfInBounds_toArray, List.set_cons_zero, List.set_cons_succ]
                              refine wpAnyH_take (i := 8) (oi := { dst := some 77, op := Op.binOp BinOp.eql 3 (Operand.tmp 75) (Operand.tmp 76) 3, type := 4, pos := "wage.go:223", after := #[{ on := 6, ground := Ground.data }, { on := 7, ground := Ground.data }, { on := 4, ground := Ground.guard }], guard := some (4, true) }) (v := ?_) rfl (by kernel_rfl) (by kernel_rfl) (by kernel_rfl) (fun _ _ _ h => h) (Or.inl ⟨by rfl, ?_⟩) (by assumption) ?_
                              rotate_left
                              · (intro w9 hSw; (try dsimp only at hSw); (go_split_ands; go_simp); (try with_reducible rfl))
                              try simp only [Act.put, List.setIfInBounds_toArray, List.set_cons_zero, List.set_cons_succ]
                              refine wpAnyH_take (i := 9) (oi := { dst := some 78, op := Op.pick (Operand.tmp 73) (Operand.tmp 77) (Operand.const (Value.bool false)), type := 4, pos := "wage.go:223", after := #[{ on := 4, ground := Ground.data }, { on := 8, ground := Ground.data }], guard := none }) (v := ?_) rfl (by kernel_rfl) (by kernel_rfl) (by kernel_rfl) (fun _ _ _ h => h) (Or.inl ⟨by rfl, ?_⟩) (by assumption) ?_
                              rotate_left
                              · (intro w9 hSw; (try dsimp only at hSw); (go_split_ands; go_simp); (try with_reducible rfl))
                              try simp only [Act.put, List.setIfInBounds_toArray, List.set_cons_zero, List.set_cons_succ]
                              refine wpAnyH_take (i := 10) (oi := { dst := some 79, op := Op.move (Operand.tmp 78), type := 4, pos := "wage.go:223", after := #[{ on := 9, ground := Ground.data }, { on := 4, ground := Ground.chain }], guard := none }) (v := ?_) rfl (by kernel_rfl) (by kernel_rfl) (by kernel_rfl) (fun _ _ _ h => h) (Or.inl ⟨by rfl, ?_⟩) (by assumption) ?_
                              rotate_left
                              · (intro w9 hSw; (try dsimp only at hSw); (go_split_ands; go_simp); (try with_reducible rfl))
                              try simp only [Act.put, List.setIfInBounds_toArray, List.set_cons_zero, List.set_cons_succ]
                              refine wpAnyH_take (i := 11) (oi := { dst := some 80, op := Op.load 93 (Operand.tmp 17), type := 93, pos := "wage.go:223", after := #[{ on := 10, ground := Ground.guard }], guard := some (10, true) }) (v := ?_) rfl (by kernel_rfl) (by kernel_rfl) (by kernel_rfl) (fun _ _ _ h => h) (Or.inl ⟨by rfl, ?_⟩) (by assumption) ?_
                              rotate_left
                              · (intro w9 hSw; (try dsimp only at hSw); (go_split_ands; go_simp); (try with_reducible rfl))
                              try simp only [Act.put, List.setIfInBounds_toArray, List.set_cons_zero, List.set_cons_succ]
                              refine wpAnyH_take (i := 13) (oi := { dst := some 82, op := Op.load 3 (Operand.tmp 5), type := 3, pos := "wage.go:223", after := #[{ on := 10, ground := Ground.guard }], guard := some (10, true) }) (v := ?_) rfl (by kernel_rfl) (by kernel_rfl) (by kernel_rfl) (fun _ _ _ h => h) (Or.inl ⟨by rfl, ?_⟩) (by assumption) ?_
                              rotate_left
                              · (intro w9 hSw; (try dsimp only at hSw); (go_split_ands; go_simp); (try with_reducible rfl))
                              try simp only [Act.put, List.setIfInBounds_toArray, List.set_cons_zero, List.set_cons_succ]
                              refine wpAnyH_ready (rs := [12]) (by kernel_rfl) (by simp) ?_
                              refine AllReadyH.cons (o := { dst := some 81, op := Op.call { callee := Callee.value (Operand.func 59), args := #[Operand.tmp 80], argTypes := #[93] }, type := 91, pos := "wage.go:223", after := #[{ on := 11, ground := Ground.data }, { on := 10, ground := Ground.chain }, { on := 10, ground := Ground.guard }], guard := some (10, true) }) rfl (fun K hK => ?_) AllReadyH.nil
                              go_simp
                              go_at_call 59; refine (known_fathoms_any _ _ _ _ k0' k1' k2' k3').mono ?_; rintro e w10 ⟨rfl, hb10⟩; have B10 := Lib.hid hb10; clear hb10
                              go_wp2_with fail
                              refine hK.out _ _ ?_ (fun hHeld => ?_)
                              · exact Z7.cells (Z7.grow Z0.out B10.out)
                              clear hK K
                              try simp only [Act.put, List.setIfInBounds_toArray, List.set_cons_zero, List.set_cons_succ]
                              have Z1 := Lib.hid hHeld.2
                              refine wpAnyH_ready (rs := [14]) (by kernel_rfl) (by simp) ?_
                              refine AllReadyH.cons (o := { dst := some 83, op := Op.call { callee := Callee.value (Operand.func 60), args := #[Operand.tmp 81, Operand.tmp 82], argTypes := #[91, 3] }, type := 4, pos := "wage.go:223", after := #[{ on := 12, ground := Ground.data }, { on := 13, ground := Ground.data }, { on := 12, ground := Ground.chain }, { on := 10, ground := Ground.guard }], guard := some (10, true) }) rfl (fun K hK => ?_) AllReadyH.nil
                              go_simp
                              go_at_call 60; refine (has_any _ _ _ hfmk hfn).mono ?_; rintro e w11 ⟨rfl, rfl⟩
                              go_wp2_with fail
                              refine hK.out _ _ ?_ (fun hHeld => ?_)
                              · assumption
                              clear hK K
                              try simp only [Act.put, List.setIfInBounds_toArray, List.set_cons_zero, List.set_cons_succ]
                              refine wpAnyH_take (i := 15) (oi := { dst := some 84, op := Op.pick (Operand.tmp 79) (Operand.tmp 83) (Operand.const (Value.bool false)), type := 4, pos := "wage.go:223", after := #[{ on := 10, ground := Ground.data }, { on := 14, ground := Ground.data }], guard := none }) (v := ?_) rfl (by kernel_rfl) (by kernel_rfl) (by kernel_rfl) (fun _ _ _ h => h) (Or.inl ⟨by rfl, ?_⟩) (by assumption) ?_
                              rotate_left
                              · (intro w9 hSw; (try dsimp only at hSw); (go_split_ands; go_simp); (try with_reducible rfl))
                              try simp only [Act.put, List.setIfInBounds_toArray, List.set_cons_zero, List.set_cons_succ]
                              refine wpAnyH_take (i := 16) (oi := { dst := some 85, op := Op.move (Operand.tmp 84), type := 4, pos := "wage.go:223", after := #[{ on := 15, ground := Ground.data }, { on := 14, ground := Ground.chain }], guard := none }) (v := ?_) rfl (by kernel_rfl) (by kernel_rfl) (by kernel_rfl) (fun _ _ _ h => h) (Or.inl ⟨by rfl, ?_⟩) (by assumption) ?_
                              rotate_left
                              · (intro w9 hSw; (try dsimp only at hSw); (go_split_ands; go_simp); (try with_reducible rfl))
                              try simp only [Act.put, List.setIfInBounds_toArray, List.set_cons_zero, List.set_cons_succ]
                              refine wpAnyH_take (i := 17) (oi := { dst := some 86, op := Op.fieldAddr 93 (Operand.tmp 17) 2, type := 0, pos := "wage.go:223", after := #[{ on := 16, ground := Ground.guard }], guard := some (16, true) }) (v := ?_) rfl (by kernel_rfl) (by kernel_rfl) (by kernel_rfl) (fun _ _ _ h => h) (Or.inl ⟨by rfl, ?_⟩) (by assumption) ?_
                              rotate_left
                              · (intro w9 hSw; (try dsimp only at hSw); (go_split_ands; go_simp); (try with_reducible rfl))
                              try simp only [Act.put, List.setIfInBounds_toArray, List.set_cons_zero, List.set_cons_succ]
                              refine wpAnyH_take (i := 18) (oi := { dst := some 87, op := Op.load 3 (Operand.tmp 86), type := 3, pos := "wage.go:223", after := #[{ on := 17, ground := Ground.data }, { on := 16, ground := Ground.guard }], guard := some (16, true) }) (v := ?_) rfl (by kernel_rfl) (by kernel_rfl) (by kernel_rfl) (fun _ _ _ h => h) (Or.inl ⟨by rfl, ?_⟩) (by assumption) ?_
                              rotate_left
                              · (intro w9 hSw; (try dsimp only at hSw); (go_split_ands; go_simp); (try with_reducible rfl))
                              try simp only [Act.put, List.setIfInBounds_toArray, List.set_cons_zero, List.set_cons_succ]
                              refine wpAnyH_take (i := 19) (oi := { dst := some 88, op := Op.fieldAddr 58 (Operand.tmp 13) 4, type := 0, pos := "wage.go:223", after := #[{ on := 16, ground := Ground.guard }], guard := some (16, true) }) (v := ?_) rfl (by kernel_rfl) (by kernel_rfl) (by kernel_rfl) (fun _ _ _ h => h) (Or.inl ⟨by rfl, ?_⟩) (by assumption) ?_
                              rotate_left
                              · (intro w9 hSw; (try dsimp only at hSw); (go_split_ands; go_simp); (try with_reducible rfl))
                              try simp only [Act.put, List.setIfInBounds_toArray, List.set_cons_zero, List.set_cons_succ]
                              refine wpAnyH_take (i := 20) (oi := { dst := some 89, op := Op.fieldAddr 29 (Operand.tmp 88) 0, type := 0, pos := "wage.go:223", after := #[{ on := 19, ground := Ground.data }, { on := 16, ground := Ground.guard }], guard := some (16, true) }) (v := ?_) rfl (by kernel_rfl) (by kernel_rfl) (by kernel_rfl) (fun _ _ _ h => h) (Or.inl ⟨by rfl, ?_⟩) (by assumption) ?_
                              rotate_left
                              · (intro w9 hSw; (try dsimp only at hSw); (go_split_ands; go_simp); (try with_reducible rfl))
                              try simp only [Act.put, List.setIfInBounds_toArray, List.set_cons_zero, List.set_cons_succ]
                              refine wpAnyH_take (i := 21) (oi := { dst := some 90, op := Op.load 3 (Operand.tmp 89), type := 3, pos := "wage.go:223", after := #[{ on := 20, ground := Ground.data }, { on := 16, ground := Ground.guard }], guard := some (16, true) }) (v := ?_) rfl (by kernel_rfl) (by kernel_rfl) (by kernel_rfl) (fun _ _ _ h => h) (Or.inl ⟨by rfl, ?_⟩) (by assumption) ?_
                              rotate_left
                              · (intro w9 hSw; (try dsimp only at hSw); (go_split_ands; go_simp); (try with_reducible rfl))
                              try simp only [Act.put, List.setIfInBounds_toArray, List.set_cons_zero, List.set_cons_succ]
                              refine wpAnyH_take (i := 22) (oi := { dst := some 91, op := Op.binOp BinOp.lss 3 (Operand.tmp 87) (Operand.tmp 90) 3, type := 4, pos := "wage.go:223", after := #[{ on := 18, ground := Ground.data }, { on := 21, ground := Ground.data }, { on := 16, ground := Ground.guard }], guard := some (16, true) }) (v := ?_) rfl (by kernel_rfl) (by kernel_rfl) (by kernel_rfl) (fun _ _ _ h => h) (Or.inl ⟨by rfl, ?_⟩) (by assumption) ?_
                              rotate_left
                              · (intro w9 hSw; (try dsimp only at hSw); (go_split_ands; go_simp); (try with_reducible rfl))
                              try simp only [Act.put, List.setIfInBounds_toArray, List.set_cons_zero, List.set_cons_succ]
                              refine wpAnyH_take (i := 23) (oi := { dst := some 92, op := Op.move (Operand.tmp 91), type := 4, pos := "wage.go:223", after := #[{ on := 22, ground := Ground.data }, { on := 16, ground := Ground.chain }, { on := 16, ground := Ground.guard }], guard := some (16, true) }) (v := ?_) rfl (by kernel_rfl) (by kernel_rfl) (by kernel_rfl) (fun _ _ _ h => h) (Or.inl ⟨by rfl, ?_⟩) (by assumption) ?_
                              rotate_left
                              · (intro w9 hSw; (try dsimp only at hSw); (go_split_ands; go_simp); (try with_reducible rfl))
                              try simp only [Act.put, List.setIfInBounds_toArray, List.set_cons_zero, List.set_cons_succ]
                              refine wpAnyH_take (i := 24) (oi := { dst := some 93, op := Op.fieldAddr 93 (Operand.tmp 17) 2, type := 0, pos := "wage.go:223", after := #[{ on := 23, ground := Ground.guard }], guard := some (23, false) }) (v := undef) rfl (by kernel_rfl) (by kernel_rfl) (by kernel_rfl) (fun _ _ _ h => h) (Or.inr ⟨by rfl, rfl⟩) (by assumption) ?_
                              try simp only [Act.put, List.setIfInBounds_toArray, List.set_cons_zero, List.set_cons_succ]
                              refine wpAnyH_take (i := 25) (oi := { dst := some 94, op := Op.load 3 (Operand.tmp 93), type := 3, pos := "wage.go:223", after := #[{ on := 24, ground := Ground.data }, { on := 23, ground := Ground.guard }], guard := some (23, false) }) (v := undef) rfl (by kernel_rfl) (by kernel_rfl) (by kernel_rfl) (fun _ _ _ h => h) (Or.inr ⟨by rfl, rfl⟩) (by assumption) ?_
                              try simp only [Act.put, List.setIfInBounds_toArray, List.set_cons_zero, List.set_cons_succ]
                              refine wpAnyH_take (i := 26) (oi := { dst := some 95, op := Op.fieldAddr 58 (Operand.tmp 13) 4, type := 0, pos := "wage.go:223", after := #[{ on := 23, ground := Ground.guard }], guard := some (23, false) }) (v := undef) rfl (by kernel_rfl) (by kernel_rfl) (by kernel_rfl) (fun _ _ _ h => h) (Or.inr ⟨by rfl, rfl⟩) (by assumption) ?_
                              try simp only [Act.put, List.setIfInBounds_toArray, List.set_cons_zero, List.set_cons_succ]
                              refine wpAnyH_take (i := 27) (oi := { dst := some 96, op := Op.fieldAddr 29 (Operand.tmp 95) 0, type := 0, pos := "wage.go:223", after := #[{ on := 26, ground := Ground.data }, { on := 23, ground := Ground.guard }], guard := some (23, false) }) (v := undef) rfl (by kernel_rfl) (by kernel_rfl) (by kernel_rfl) (fun _ _ _ h => h) (Or.inr ⟨by rfl, rfl⟩) (by assumption) ?_
                              try simp only [Act.put, List.setIfInBounds_toArray, List.set_cons_zero, List.set_cons_succ]
                              refine wpAnyH_take (i := 28) (oi := { dst := some 97, op := Op.load 3 (Operand.tmp 96), type := 3, pos := "wage.go:223", after := #[{ on := 27, ground := Ground.data }, { on := 23, ground := Ground.guard }], guard := some (23, false) }) (v := undef) rfl (by kernel_rfl) (by kernel_rfl) (by kernel_rfl) (fun _ _ _ h => h) (Or.inr ⟨by rfl, rfl⟩) (by assumption) ?_
                              try simp only [Act.put, List.setIfInBounds_toArray, List.set_cons_zero, List.set_cons_succ]
                              refine wpAnyH_take (i := 29) (oi := { dst := some 98, op := Op.binOp BinOp.eql 3 (Operand.tmp 94) (Operand.tmp 97) 3, type := 4, pos := "wage.go:223", after := #[{ on := 25, ground := Ground.data }, { on := 28, ground := Ground.data }, { on := 23, ground := Ground.guard }], guard := some (23, false) }) (v := undef) rfl (by kernel_rfl) (by kernel_rfl) (by kernel_rfl) (fun _ _ _ h => h) (Or.inr ⟨by rfl, rfl⟩) (by assumption) ?_
                              try simp only [Act.put, List.setIfInBounds_toArray, List.set_cons_zero, List.set_cons_succ]
                              refine wpAnyH_take (i := 30) (oi := { dst := some 99, op := Op.move (Operand.tmp 98), type := 4, pos := "wage.go:223", after := #[{ on := 29, ground := Ground.data }, { on := 23, ground := Ground.chain }, { on := 23, ground := Ground.guard }], guard := some (23, false) }) (v := undef) rfl (by kernel_rfl) (by kernel_rfl) (by kernel_rfl) (fun _ _ _ h => h) (Or.inr ⟨by rfl, rfl⟩) (by assumption) ?_
                              try simp only [Act.put, List.setIfInBounds_toArray, List.set_cons_zero, List.set_cons_succ]
                              refine wpAnyH_take (i := 31) (oi := { dst := some 100, op := Op.move (Operand.tmp 15), type := 3, pos := "wage.go:223", after := #[{ on := 30, ground := Ground.guard }], guard := some (30, true) }) (v := undef) rfl (by kernel_rfl) (by kernel_rfl) (by kernel_rfl) (fun _ _ _ h => h) (Or.inr ⟨by rfl, rfl⟩) (by assumption) ?_
                              try simp only [Act.put, List.setIfInBounds_toArray, List.set_cons_zero, List.set_cons_succ]
                              refine wpAnyH_take (i := 32) (oi := { dst := some 101, op := Op.move (Operand.tmp 12), type := 3, pos := "wage.go:223", after := #[{ on := 30, ground := Ground.guard }], guard := some (30, true) }) (v := undef) rfl (by kernel_rfl) (by kernel_rfl) (by kernel_rfl) (fun _ _ _ h => h) (Or.inr ⟨by rfl, rfl⟩) (by assumption) ?_
                              try simp only [Act.put, List.setIfInBounds_toArray, List.set_cons_zero, List.set_cons_succ]
                              refine wpAnyH_take (i := 33) (oi := { dst := some 102, op := Op.binOp BinOp.lss 3 (Operand.tmp 100) (Operand.tmp 101) 3, type := 4, pos := "wage.go:223", after := #[{ on := 31, ground := Ground.data }, { on := 32, ground := Ground.data }, { on := 30, ground := Ground.guard }], guard := some (30, true) }) (v := undef) rfl (by kernel_rfl) (by kernel_rfl) (by kernel_rfl) (fun _ _ _ h => h) (Or.inr ⟨by rfl, rfl⟩) (by assumption) ?_
                              try simp only [Act.put, List.setIfInBounds_toArray, List.set_cons_zero, List.set_cons_succ]
                              refine wpAnyH_take (i := 34) (oi := { dst := some 103, op := Op.pick (Operand.tmp 99) (Operand.tmp 102) (Operand.const (Value.bool false)), type := 4, pos := "wage.go:223", after := #[{ on := 30, ground := Ground.data }, { on := 33, ground := Ground.data }, { on := 23, ground := Ground.guard }], guard := some (23, false) }) (v := undef) rfl (by kernel_rfl) (by kernel_rfl) (by kernel_rfl) (fun _ _ _ h => h) (Or.inr ⟨by rfl, rfl⟩) (by assumption) ?_
                              try simp only [Act.put, List.setIfInBounds_toArray, List.set_cons_zero, List.set_cons_succ]
                              refine wpAnyH_take (i := 35) (oi := { dst := some 104, op := Op.pick (Operand.tmp 92) (Operand.const (Value.bool true)) (Operand.tmp 103), type := 4, pos := "wage.go:223", after := #[{ on := 23, ground := Ground.data }, { on := 34, ground := Ground.data }, { on := 16, ground := Ground.guard }], guard := some (16, true) }) (v := ?_) rfl (by kernel_rfl) (by kernel_rfl) (by kernel_rfl) (fun _ _ _ h => h) (Or.inl ⟨by rfl, ?_⟩) (by assumption) ?_
                              rotate_left
                              · (intro w9 hSw; (try dsimp only at hSw); (go_split_ands; go_simp); (try with_reducible rfl))
                              try simp only [Act.put, List.setIfInBounds_toArray, List.set_cons_zero, List.set_cons_succ]
                              refine wpAnyH_take (i := 36) (oi := { dst := some 105, op := Op.pick (Operand.tmp 85) (Operand.tmp 104) (Operand.const (Value.bool false)), type := 4, pos := "wage.go:223", after := #[{ on := 16, ground := Ground.data }, { on := 35, ground := Ground.data }], guard := none }) (v := ?_) rfl (by kernel_rfl) (by kernel_rfl) (by kernel_rfl) (fun _ _ _ h => h) (Or.inl ⟨by rfl, ?_⟩) (by assumption) ?_
                              rotate_left
                              · (intro w9 hSw; (try dsimp only at hSw); (go_split_ands; go_simp); (try with_reducible rfl))
                              try simp only [Act.put, List.setIfInBounds_toArray, List.set_cons_zero, List.set_cons_succ]
                              refine wpAnyH_done (by kernel_rfl) ?_ _
                              refine NoPanic.normal ?_
                              clear hHeld
                              go_wp2_with fail
                              exact ⟨⟨m + 1, hltm, by go_num, by rw [HC.out], Z1.out.y.y⟩, by simp [intOf]; omega⟩
                            · have n4b : decide ((mostK c T k).td < (T m).dl) = false := by simpa using n4
                              have N4 := Lib.hid n4
                              clear n4
                              rcases hc5 with n5 | n5
                              · refine wp_region_noPanic ?_
                                refine wp_region_held_drew (S := (fun w' => (w'.cell? ⟨wr.heap.size, 0, none⟩ = some (.int .i64 (T k).crew) ∧ w'.cell? ⟨wr.heap.size, 1, none⟩ = some (.int .i64 (T k).seam) ∧ w'.cell? ⟨w.heap.size + 1, 0, none⟩ = some (.int .i64 s) ∧ w'.cell? ⟨w8.heap.size, 0, none⟩ = some (.int .i64 (mostK c T k).fr) ∧ w'.cell? ⟨w8.heap.size, 1, none⟩ = some (.int .i64 (mostK c T k).to) ∧ w'.cell? ⟨w8.heap.size, 2, none⟩ = some (.int .i64 (mostK c T k).td) ∧ w'.cell? ⟨w.heap.size + 1 + 1, 0, none⟩ = some (.int .i64 fn) ∧ w'.cell? ⟨tb, 6, none⟩ = some (.int .i64 (T m).dl)) ∧ Z7 w bx #[.int .i64 cn, .slice sa sn sc, .slice ta tn tc] s fn tb (tb + 1) (T m) (T k) c (mostK c T k) wr.heap.size w8.heap.size w')) (by kernel_rfl) (Z7.cells Z0.out) (fun hHeld => ?_)
                                refine wpAnyH_take (i := 0) (oi := { dst := some 69, op := Op.fieldAddr 58 (Operand.tmp 16) 0, type := 0, pos := "wage.go:223", after := #[], guard := none }) (v := ?_) rfl (by kernel_rfl) (by kernel_rfl) (by kernel_rfl) (fun _ _ _ h => h) (Or.inl ⟨by rfl, ?_⟩) (by assumption) ?_
                                rotate_left
                                · (intro w9 hSw; (try dsimp only at hSw); (go_split_ands; go_simp); (try with_reducible rfl))
                                try simp only [Act.put, List.setIfInBounds_toArray, List.set_cons_zero, List.set_cons_succ]
                                refine wpAnyH_take (i := 1) (oi := { dst := some 70, op := Op.load 3 (Operand.tmp 69), type := 3, pos := "wage.go:223", after := #[{ on := 0, ground := Ground.data }], guard := none }) (v := ?_) rfl (by kernel_rfl) (by kernel_rfl) (by kernel_rfl) (fun _ _ _ h => h) (Or.inl ⟨by rfl, ?_⟩) (by assumption) ?_
                                rotate_left
                                · (intro w9 hSw; (try dsimp only at hSw); (go_split_ands; go_simp); (try with_reducible rfl))
                                try simp only [Act.put, List.setIfInBounds_toArray, List.set_cons_zero, List.set_cons_succ]
                                refine wpAnyH_take (i := 2) (oi := { dst := some 71, op := Op.move (Operand.tmp 11), type := 3, pos := "wage.go:223", after := #[], guard := none }) (v := ?_) rfl (by kernel_rfl) (by kernel_rfl) (by kernel_rfl) (fun _ _ _ h => h) (Or.inl ⟨by rfl, ?_⟩) (by assumption) ?_
                                rotate_left
                                · (intro w9 hSw; (try dsimp only at hSw); (go_split_ands; go_simp); (try with_reducible rfl))
                                try simp only [Act.put, List.setIfInBounds_toArray, List.set_cons_zero, List.set_cons_succ]
                                refine wpAnyH_take (i := 3) (oi := { dst := some 72, op := Op.binOp BinOp.neq 3 (Operand.tmp 70) (Operand.tmp 71) 3, type := 4, pos := "wage.go:223", after := #[{ on := 1, ground := Ground.data }, { on := 2, ground := Ground.data }], guard := none }) (v := ?_) rfl (by kernel_rfl) (by kernel_rfl) (by kernel_rfl) (fun _ _ _ h => h) (Or.inl ⟨by rfl, ?_⟩) (by assumption) ?_
                                rotate_left
                                · (intro w9 hSw; (try dsimp only at hSw); (go_split_ands; go_simp); (try with_reducible rfl))
                                try simp only [Act.put, List.setIfInBounds_toArray, List.set_cons_zero, List.set_cons_succ]
                                refine wpAnyH_take (i := 4) (oi := { dst := some 73, op := Op.move (Operand.tmp 72), type := 4, pos := "wage.go:223", after := #[{ on := 3, ground := Ground.data }], guard := none }) (v := ?_) rfl (by kernel_rfl) (by kernel_rfl) (by kernel_rfl) (fun _ _ _ h => h) (Or.inl ⟨by rfl, ?_⟩) (by assumption) ?_
                                rotate_left
                                · (intro w9 hSw; (try dsimp only at hSw); (go_split_ands; go_simp); (try with_reducible rfl))
                                try simp only [Act.put, List.setIfInBounds_toArray, List.set_cons_zero, List.set_cons_succ]
                                refine wpAnyH_take (i := 5) (oi := { dst := some 74, op := Op.fieldAddr 58 (Operand.tmp 16) 1, type := 0, pos := "wage.go:223", after := #[{ on := 4, ground := Ground.guard }], guard := some (4, true) }) (v := ?_) rfl (by kernel_rfl) (by kernel_rfl) (by kernel_rfl) (fun _ _ _ h => h) (Or.inl ⟨by rfl, ?_⟩) (by assumption) ?_
                                rotate_left
                                · (intro w9 hSw; (try dsimp only at hSw); (go_split_ands; go_simp); (try with_reducible rfl))
                                try simp only [Act.put, List.setIfInBounds_toArray, List.set_cons_zero, List.set_cons_succ]
                                refine wpAnyH_take (i := 6) (oi := { dst := some 75, op := Op.load 3 (Operand.tmp 74), type := 3, pos := "wage.go:223", after := #[{ on := 5, ground := Ground.data }, { on := 4, ground := Ground.guard }], guard := some (4, true) }) (v := ?_) rfl (by kernel_rfl) (by kernel_rfl) (by kernel_rfl) (fun _ _ _ h => h) (Or.inl ⟨by rfl, ?_⟩) (by assumption) ?_
                                rotate_left
                                · (intro w9 hSw; (try dsimp only at hSw); (go_split_ands; go_simp); (try with_reducible rfl))
                                try simp only [Act.put, List.setIfInBounds_toArray, List.set_cons_zero, List.set_cons_succ]
                                refine wpAnyH_take (i := 7) (oi := { dst := some 76, op := Op.load 3 (Operand.tmp 4), type := 3, pos := "wage.go:223", after := #[{ on := 4, ground := Ground.guard }], guard := some (4, true) }) (v := ?_) rfl (by kernel_rfl) (by kernel_rfl) (by kernel_rfl) (fun _ _ _ h => h) (Or.inl ⟨by rfl, ?_⟩) (by assumption) ?_
                                rotate_left
                                · (intro w9 hSw; (try dsimp only at hSw); (go_split_ands; go_simp); (try with_reducible rfl))
                                try simp only [Act.put, List.setIfInBounds_toArray, List.set_cons_zero, List.set_cons_succ]
                                refine wpAnyH_take (i := 8) (oi := { dst := some 77, op := Op.binOp BinOp.eql 3 (Operand.tmp 75) (Operand.tmp 76) 3, type := 4, pos := "wage.go:223", after := #[{ on := 6, ground := Ground.data }, { on := 7, ground := Ground.data }, { on := 4, ground := Ground.guard }], guard := some (4, true) }) (v := ?_) rfl (by kernel_rfl) (by kernel_rfl) (by kernel_rfl) (fun _ _ _ h => h) (Or.inl ⟨by rfl, ?_⟩) (by assumption) ?_
                                rotate_left
                                · (intro w9 hSw; (try dsimp only at hSw); (go_split_ands; go_simp); (try with_reducible rfl))
                                try simp only [Act.put, List.setIfInBounds_toArray, List.set_cons_zero, List.set_cons_succ]
                                refine wpAnyH_take (i := 9) (oi := { dst := some 78, op := Op.pick (Operand.tmp 73) (Operand.tmp 77) (Operand.const (Value.bool false)), type := 4, pos := "wage.go:223", after := #[{ on := 4, ground := Ground.data }, { on := 8, ground := Ground.data }], guard := none }) (v := ?_) rfl (by kernel_rfl) (by kernel_rfl) (by kernel_rfl) (fun _ _ _ h => h) (Or.inl ⟨by rfl, ?_⟩) (by assumption) ?_
                                rotate_left
                                · (intro w9 hSw; (try dsimp only at hSw); (go_split_ands; go_simp); (try with_reducible rfl))
                                try simp only [Act.put, List.setIfInBounds_toArray, List.set_cons_zero, List.set_cons_succ]
                                refine wpAnyH_take (i := 10) (oi := { dst := some 79, op := Op.move (Operand.tmp 78), type := 4, pos := "wage.go:223", after := #[{ on := 9, ground := Ground.data }, { on := 4, ground := Ground.chain }], guard := none }) (v := ?_) rfl (by kernel_rfl) (by kernel_rfl) (by kernel_rfl) (fun _ _ _ h => h) (Or.inl ⟨by rfl, ?_⟩) (by assumption) ?_
                                rotate_left
                                · (intro w9 hSw; (try dsimp only at hSw); (go_split_ands; go_simp); (try with_reducible rfl))
                                try simp only [Act.put, List.setIfInBounds_toArray, List.set_cons_zero, List.set_cons_succ]
                                refine wpAnyH_take (i := 11) (oi := { dst := some 80, op := Op.load 93 (Operand.tmp 17), type := 93, pos := "wage.go:223", after := #[{ on := 10, ground := Ground.guard }], guard := some (10, true) }) (v := ?_) rfl (by kernel_rfl) (by kernel_rfl) (by kernel_rfl) (fun _ _ _ h => h) (Or.inl ⟨by rfl, ?_⟩) (by assumption) ?_
                                rotate_left
                                · (intro w9 hSw; (try dsimp only at hSw); (go_split_ands; go_simp); (try with_reducible rfl))
                                try simp only [Act.put, List.setIfInBounds_toArray, List.set_cons_zero, List.set_cons_succ]
                                refine wpAnyH_take (i := 13) (oi := { dst := some 82, op := Op.load 3 (Operand.tmp 5), type := 3, pos := "wage.go:223", after := #[{ on := 10, ground := Ground.guard }], guard := some (10, true) }) (v := ?_) rfl (by kernel_rfl) (by kernel_rfl) (by kernel_rfl) (fun _ _ _ h => h) (Or.inl ⟨by rfl, ?_⟩) (by assumption) ?_
                                rotate_left
                                · (intro w9 hSw; (try dsimp only at hSw); (go_split_ands; go_simp); (try with_reducible rfl))
                                try simp only [Act.put, List.setIfInBounds_toArray, List.set_cons_zero, List.set_cons_succ]
                                refine wpAnyH_ready (rs := [12]) (by kernel_rfl) (by simp) ?_
                                refine AllReadyH.cons (o := { dst := some 81, op := Op.call { callee := Callee.value (Operand.func 59), args := #[Operand.tmp 80], argTypes := #[93] }, type := 91, pos := "wage.go:223", after := #[{ on := 11, ground := Ground.data }, { on := 10, ground := Ground.chain }, { on := 10, ground := Ground.guard }], guard := some (10, true) }) rfl (fun K hK => ?_) AllReadyH.nil
                                go_simp
                                go_at_call 59; refine (known_fathoms_any _ _ _ _ k0' k1' k2' k3').mono ?_; rintro e w10 ⟨rfl, hb10⟩; have B10 := Lib.hid hb10; clear hb10
                                go_wp2_with fail
                                refine hK.out _ _ ?_ (fun hHeld => ?_)
                                · exact Z7.cells (Z7.grow Z0.out B10.out)
                                clear hK K
                                try simp only [Act.put, List.setIfInBounds_toArray, List.set_cons_zero, List.set_cons_succ]
                                have Z1 := Lib.hid hHeld.2
                                refine wpAnyH_ready (rs := [14]) (by kernel_rfl) (by simp) ?_
                                refine AllReadyH.cons (o := { dst := some 83, op := Op.call { callee := Callee.value (Operand.func 60), args := #[Operand.tmp 81, Operand.tmp 82], argTypes := #[91, 3] }, type := 4, pos := "wage.go:223", after := #[{ on := 12, ground := Ground.data }, { on := 13, ground := Ground.data }, { on := 12, ground := Ground.chain }, { on := 10, ground := Ground.guard }], guard := some (10, true) }) rfl (fun K hK => ?_) AllReadyH.nil
                                go_simp
                                go_at_call 60; refine (has_any _ _ _ hfmk hfn).mono ?_; rintro e w11 ⟨rfl, rfl⟩
                                go_wp2_with fail
                                refine hK.out _ _ ?_ (fun hHeld => ?_)
                                · assumption
                                clear hK K
                                try simp only [Act.put, List.setIfInBounds_toArray, List.set_cons_zero, List.set_cons_succ]
                                refine wpAnyH_take (i := 15) (oi := { dst := some 84, op := Op.pick (Operand.tmp 79) (Operand.tmp 83) (Operand.const (Value.bool false)), type := 4, pos := "wage.go:223", after := #[{ on := 10, ground := Ground.data }, { on := 14, ground := Ground.data }], guard := none }) (v := ?_) rfl (by kernel_rfl) (by kernel_rfl) (by kernel_rfl) (fun _ _ _ h => h) (Or.inl ⟨by rfl, ?_⟩) (by assumption) ?_
                                rotate_left
                                · (intro w9 hSw; (try dsimp only at hSw); (go_split_ands; go_simp); (try with_reducible rfl))
                                try simp only [Act.put, List.setIfInBounds_toArray, List.set_cons_zero, List.set_cons_succ]
                                refine wpAnyH_take (i := 16) (oi := { dst := some 85, op := Op.move (Operand.tmp 84), type := 4, pos := "wage.go:223", after := #[{ on := 15, ground := Ground.data }, { on := 14, ground := Ground.chain }], guard := none }) (v := ?_) rfl (by kernel_rfl) (by kernel_rfl) (by kernel_rfl) (fun _ _ _ h => h) (Or.inl ⟨by rfl, ?_⟩) (by assumption) ?_
                                rotate_left
                                · (intro w9 hSw; (try dsimp only at hSw); (go_split_ands; go_simp); (try with_reducible rfl))
                                try simp only [Act.put, List.setIfInBounds_toArray, List.set_cons_zero, List.set_cons_succ]
                                refine wpAnyH_take (i := 17) (oi := { dst := some 86, op := Op.fieldAddr 93 (Operand.tmp 17) 2, type := 0, pos := "wage.go:223", after := #[{ on := 16, ground := Ground.guard }], guard := some (16, true) }) (v := ?_) rfl (by kernel_rfl) (by kernel_rfl) (by kernel_rfl) (fun _ _ _ h => h) (Or.inl ⟨by rfl, ?_⟩) (by assumption) ?_
                                rotate_left
                                · (intro w9 hSw; (try dsimp only at hSw); (go_split_ands; go_simp); (try with_reducible rfl))
                                try simp only [Act.put, List.setIfInBounds_toArray, List.set_cons_zero, List.set_cons_succ]
                                refine wpAnyH_take (i := 18) (oi := { dst := some 87, op := Op.load 3 (Operand.tmp 86), type := 3, pos := "wage.go:223", after := #[{ on := 17, ground := Ground.data }, { on := 16, ground := Ground.guard }], guard := some (16, true) }) (v := ?_) rfl (by kernel_rfl) (by kernel_rfl) (by kernel_rfl) (fun _ _ _ h => h) (Or.inl ⟨by rfl, ?_⟩) (by assumption) ?_
                                rotate_left
                                · (intro w9 hSw; (try dsimp only at hSw); (go_split_ands; go_simp); (try with_reducible rfl))
                                try simp only [Act.put, List.setIfInBounds_toArray, List.set_cons_zero, List.set_cons_succ]
                                refine wpAnyH_take (i := 19) (oi := { dst := some 88, op := Op.fieldAddr 58 (Operand.tmp 13) 4, type := 0, pos := "wage.go:223", after := #[{ on := 16, ground := Ground.guard }], guard := some (16, true) }) (v := ?_) rfl (by kernel_rfl) (by kernel_rfl) (by kernel_rfl) (fun _ _ _ h => h) (Or.inl ⟨by rfl, ?_⟩) (by assumption) ?_
                                rotate_left
                                · (intro w9 hSw; (try dsimp only at hSw); (go_split_ands; go_simp); (try with_reducible rfl))
                                try simp only [Act.put, List.setIfInBounds_toArray, List.set_cons_zero, List.set_cons_succ]
                                refine wpAnyH_take (i := 20) (oi := { dst := some 89, op := Op.fieldAddr 29 (Operand.tmp 88) 0, type := 0, pos := "wage.go:223", after := #[{ on := 19, ground := Ground.data }, { on := 16, ground := Ground.guard }], guard := some (16, true) }) (v := ?_) rfl (by kernel_rfl) (by kernel_rfl) (by kernel_rfl) (fun _ _ _ h => h) (Or.inl ⟨by rfl, ?_⟩) (by assumption) ?_
                                rotate_left
                                · (intro w9 hSw; (try dsimp only at hSw); (go_split_ands; go_simp); (try with_reducible rfl))
                                try simp only [Act.put, List.setIfInBounds_toArray, List.set_cons_zero, List.set_cons_succ]
                                refine wpAnyH_take (i := 21) (oi := { dst := some 90, op := Op.load 3 (Operand.tmp 89), type := 3, pos := "wage.go:223", after := #[{ on := 20, ground := Ground.data }, { on := 16, ground := Ground.guard }], guard := some (16, true) }) (v := ?_) rfl (by kernel_rfl) (by kernel_rfl) (by kernel_rfl) (fun _ _ _ h => h) (Or.inl ⟨by rfl, ?_⟩) (by assumption) ?_
                                rotate_left
                                · (intro w9 hSw; (try dsimp only at hSw); (go_split_ands; go_simp); (try with_reducible rfl))
                                try simp only [Act.put, List.setIfInBounds_toArray, List.set_cons_zero, List.set_cons_succ]
                                refine wpAnyH_take (i := 22) (oi := { dst := some 91, op := Op.binOp BinOp.lss 3 (Operand.tmp 87) (Operand.tmp 90) 3, type := 4, pos := "wage.go:223", after := #[{ on := 18, ground := Ground.data }, { on := 21, ground := Ground.data }, { on := 16, ground := Ground.guard }], guard := some (16, true) }) (v := ?_) rfl (by kernel_rfl) (by kernel_rfl) (by kernel_rfl) (fun _ _ _ h => h) (Or.inl ⟨by rfl, ?_⟩) (by assumption) ?_
                                rotate_left
                                · (intro w9 hSw; (try dsimp only at hSw); (go_split_ands; go_simp); (try with_reducible rfl))
                                try simp only [Act.put, List.setIfInBounds_toArray, List.set_cons_zero, List.set_cons_succ]
                                refine wpAnyH_take (i := 23) (oi := { dst := some 92, op := Op.move (Operand.tmp 91), type := 4, pos := "wage.go:223", after := #[{ on := 22, ground := Ground.data }, { on := 16, ground := Ground.chain }, { on := 16, ground := Ground.guard }], guard := some (16, true) }) (v := ?_) rfl (by kernel_rfl) (by kernel_rfl) (by kernel_rfl) (fun _ _ _ h => h) (Or.inl ⟨by rfl, ?_⟩) (by assumption) ?_
                                rotate_left
                                · (intro w9 hSw; (try dsimp only at hSw); (go_split_ands; go_simp); (try with_reducible rfl))
                                try simp only [Act.put, List.setIfInBounds_toArray, List.set_cons_zero, List.set_cons_succ]
                                refine wpAnyH_take (i := 24) (oi := { dst := some 93, op := Op.fieldAddr 93 (Operand.tmp 17) 2, type := 0, pos := "wage.go:223", after := #[{ on := 23, ground := Ground.guard }], guard := some (23, false) }) (v := ?_) rfl (by kernel_rfl) (by kernel_rfl) (by kernel_rfl) (fun _ _ _ h => h) (Or.inl ⟨by rfl, ?_⟩) (by assumption) ?_
                                rotate_left
                                · (intro w9 hSw; (try dsimp only at hSw); (go_split_ands; go_simp); (try with_reducible rfl))
                                try simp only [Act.put, List.setIfInBounds_toArray, List.set_cons_zero, List.set_cons_succ]
                                refine wpAnyH_take (i := 25) (oi := { dst := some 94, op := Op.load 3 (Operand.tmp 93), type := 3, pos := "wage.go:223", after := #[{ on := 24, ground := Ground.data }, { on := 23, ground := Ground.guard }], guard := some (23, false) }) (v := ?_) rfl (by kernel_rfl) (by kernel_rfl) (by kernel_rfl) (fun _ _ _ h => h) (Or.inl ⟨by rfl, ?_⟩) (by assumption) ?_
                                rotate_left
                                · (intro w9 hSw; (try dsimp only at hSw); (go_split_ands; go_simp); (try with_reducible rfl))
                                try simp only [Act.put, List.setIfInBounds_toArray, List.set_cons_zero, List.set_cons_succ]
                                refine wpAnyH_take (i := 26) (oi := { dst := some 95, op := Op.fieldAddr 58 (Operand.tmp 13) 4, type := 0, pos := "wage.go:223", after := #[{ on := 23, ground := Ground.guard }], guard := some (23, false) }) (v := ?_) rfl (by kernel_rfl) (by kernel_rfl) (by kernel_rfl) (fun _ _ _ h => h) (Or.inl ⟨by rfl, ?_⟩) (by assumption) ?_
                                rotate_left
                                · (intro w9 hSw; (try dsimp only at hSw); (go_split_ands; go_simp); (try with_reducible rfl))
                                try simp only [Act.put, List.setIfInBounds_toArray, List.set_cons_zero, List.set_cons_succ]
                                refine wpAnyH_take (i := 27) (oi := { dst := some 96, op := Op.fieldAddr 29 (Operand.tmp 95) 0, type := 0, pos := "wage.go:223", after := #[{ on := 26, ground := Ground.data }, { on := 23, ground := Ground.guard }], guard := some (23, false) }) (v := ?_) rfl (by kernel_rfl) (by kernel_rfl) (by kernel_rfl) (fun _ _ _ h => h) (Or.inl ⟨by rfl, ?_⟩) (by assumption) ?_
                                rotate_left
                                · (intro w9 hSw; (try dsimp only at hSw); (go_split_ands; go_simp); (try with_reducible rfl))
                                try simp only [Act.put, List.setIfInBounds_toArray, List.set_cons_zero, List.set_cons_succ]
                                refine wpAnyH_take (i := 28) (oi := { dst := some 97, op := Op.load 3 (Operand.tmp 96), type := 3, pos := "wage.go:223", after := #[{ on := 27, ground := Ground.data }, { on := 23, ground := Ground.guard }], guard := some (23, false) }) (v := ?_) rfl (by kernel_rfl) (by kernel_rfl) (by kernel_rfl) (fun _ _ _ h => h) (Or.inl ⟨by rfl, ?_⟩) (by assumption) ?_
                                rotate_left
                                · (intro w9 hSw; (try dsimp only at hSw); (go_split_ands; go_simp); (try with_reducible rfl))
                                try simp only [Act.put, List.setIfInBounds_toArray, List.set_cons_zero, List.set_cons_succ]
                                refine wpAnyH_take (i := 29) (oi := { dst := some 98, op := Op.binOp BinOp.eql 3 (Operand.tmp 94) (Operand.tmp 97) 3, type := 4, pos := "wage.go:223", after := #[{ on := 25, ground := Ground.data }, { on := 28, ground := Ground.data }, { on := 23, ground := Ground.guard }], guard := some (23, false) }) (v := ?_) rfl (by kernel_rfl) (by kernel_rfl) (by kernel_rfl) (fun _ _ _ h => h) (Or.inl ⟨by rfl, ?_⟩) (by assumption) ?_
                                rotate_left
                                · (intro w9 hSw; (try dsimp only at hSw); (go_split_ands; go_simp); (try with_reducible rfl))
                                try simp only [Act.put, List.setIfInBounds_toArray, List.set_cons_zero, List.set_cons_succ]
                                refine wpAnyH_take (i := 30) (oi := { dst := some 99, op := Op.move (Operand.tmp 98), type := 4, pos := "wage.go:223", after := #[{ on := 29, ground := Ground.data }, { on := 23, ground := Ground.chain }, { on := 23, ground := Ground.guard }], guard := some (23, false) }) (v := ?_) rfl (by kernel_rfl) (by kernel_rfl) (by kernel_rfl) (fun _ _ _ h => h) (Or.inl ⟨by rfl, ?_⟩) (by assumption) ?_
                                rotate_left
                                · (intro w9 hSw; (try dsimp only at hSw); (go_split_ands; go_simp); (try with_reducible rfl))
                                try simp only [Act.put, List.setIfInBounds_toArray, List.set_cons_zero, List.set_cons_succ]
                                refine wpAnyH_take (i := 31) (oi := { dst := some 100, op := Op.move (Operand.tmp 15), type := 3, pos := "wage.go:223", after := #[{ on := 30, ground := Ground.guard }], guard := some (30, true) }) (v := undef) rfl (by kernel_rfl) (by kernel_rfl) (by kernel_rfl) (fun _ _ _ h => h) (Or.inr ⟨by rfl, rfl⟩) (by assumption) ?_
                                try simp only [Act.put, List.setIfInBounds_toArray, List.set_cons_zero, List.set_cons_succ]
                                refine wpAnyH_take (i := 32) (oi := { dst := some 101, op := Op.move (Operand.tmp 12), type := 3, pos := "wage.go:223", after := #[{ on := 30, ground := Ground.guard }], guard := some (30, true) }) (v := undef) rfl (by kernel_rfl) (by kernel_rfl) (by kernel_rfl) (fun _ _ _ h => h) (Or.inr ⟨by rfl, rfl⟩) (by assumption) ?_
                                try simp only [Act.put, List.setIfInBounds_toArray, List.set_cons_zero, List.set_cons_succ]
                                refine wpAnyH_take (i := 33) (oi := { dst := some 102, op := Op.binOp BinOp.lss 3 (Operand.tmp 100) (Operand.tmp 101) 3, type := 4, pos := "wage.go:223", after := #[{ on := 31, ground := Ground.data }, { on := 32, ground := Ground.data }, { on := 30, ground := Ground.guard }], guard := some (30, true) }) (v := undef) rfl (by kernel_rfl) (by kernel_rfl) (by kernel_rfl) (fun _ _ _ h => h) (Or.inr ⟨by rfl, rfl⟩) (by assumption) ?_
                                try simp only [Act.put, List.setIfInBounds_toArray, List.set_cons_zero, List.set_cons_succ]
                                refine wpAnyH_take (i := 34) (oi := { dst := some 103, op := Op.pick (Operand.tmp 99) (Operand.tmp 102) (Operand.const (Value.bool false)), type := 4, pos := "wage.go:223", after := #[{ on := 30, ground := Ground.data }, { on := 33, ground := Ground.data }, { on := 23, ground := Ground.guard }], guard := some (23, false) }) (v := ?_) rfl (by kernel_rfl) (by kernel_rfl) (by kernel_rfl) (fun _ _ _ h => h) (Or.inl ⟨by rfl, ?_⟩) (by assumption) ?_
                                rotate_left
                                · (intro w9 hSw; (try dsimp only at hSw); (go_split_ands; go_simp); (try with_reducible rfl))
                                try simp only [Act.put, List.setIfInBounds_toArray, List.set_cons_zero, List.set_cons_succ]
                                refine wpAnyH_take (i := 35) (oi := { dst := some 104, op := Op.pick (Operand.tmp 92) (Operand.const (Value.bool true)) (Operand.tmp 103), type := 4, pos := "wage.go:223", after := #[{ on := 23, ground := Ground.data }, { on := 34, ground := Ground.data }, { on := 16, ground := Ground.guard }], guard := some (16, true) }) (v := ?_) rfl (by kernel_rfl) (by kernel_rfl) (by kernel_rfl) (fun _ _ _ h => h) (Or.inl ⟨by rfl, ?_⟩) (by assumption) ?_
                                rotate_left
                                · (intro w9 hSw; (try dsimp only at hSw); (go_split_ands; go_simp); (try with_reducible rfl))
                                try simp only [Act.put, List.setIfInBounds_toArray, List.set_cons_zero, List.set_cons_succ]
                                refine wpAnyH_take (i := 36) (oi := { dst := some 105, op := Op.pick (Operand.tmp 85) (Operand.tmp 104) (Operand.const (Value.bool false)), type := 4, pos := "wage.go:223", after := #[{ on := 16, ground := Ground.data }, { on := 35, ground := Ground.data }], guard := none }) (v := ?_) rfl (by kernel_rfl) (by kernel_rfl) (by kernel_rfl) (fun _ _ _ h => h) (Or.inl ⟨by rfl, ?_⟩) (by assumption) ?_
                                rotate_left
                                · (intro w9 hSw; (try dsimp only at hSw); (go_split_ands; go_simp); (try with_reducible rfl))
                                try simp only [Act.put, List.setIfInBounds_toArray, List.set_cons_zero, List.set_cons_succ]
                                refine wpAnyH_done (by kernel_rfl) ?_ _
                                refine NoPanic.normal ?_
                                clear hHeld
                                go_wp2_with fail
                                have n4c := N4.out
                                have n5b : (mostK c T k).td ≠ (T m).dl := by simpa using n5
                                clear n4b n5
                                refine ⟨⟨k + 1, hltk, by go_num, fun j hj => ?_, Z1.out.y⟩, by simp [intOf]; omega⟩
                                by_cases e : j = k
                                · rw [e]; simp only [beats]; rw [decide_eq_false (show ¬ (mostK c T k).td < (T m).dl by omega), decide_eq_false n5b]; simp
                                · exact HO.out j (by omega)
                              · by_cases n6' : k < m
                                · have n6 : (k : Int) < (m : Int) := by omega
                                  have hbt : beats T c s fn m k = true := by
                                    exact beats_yes n1 n2 (HFK.out.symm.trans n3) (.inr ⟨by simpa using n5, n6'⟩)
                                  have hcb : canBy T tn c s fn m = false := by
                                    simp only [canBy]
                                    rw [all_no hltk (by simp [hbt])]
                                    simp
                                  have HC := Lib.hid (setI_no hcb)
                                  clear hcb hbt
                                  refine wp_region_noPanic ?_
                                  refine wp_region_held_drew (S := (fun w' => (w'.cell? ⟨wr.heap.size, 0, none⟩ = some (.int .i64 (T k).crew) ∧ w'.cell? ⟨wr.heap.size, 1, none⟩ = some (.int .i64 (T k).seam) ∧ w'.cell? ⟨w.heap.size + 1, 0, none⟩ = some (.int .i64 s) ∧ w'.cell? ⟨w8.heap.size, 0, none⟩ = some (.int .i64 (mostK c T k).fr) ∧ w'.cell? ⟨w8.heap.size, 1, none⟩ = some (.int .i64 (mostK c T k).to) ∧ w'.cell? ⟨w8.heap.size, 2, none⟩ = some (.int .i64 (mostK c T k).td) ∧ w'.cell? ⟨w.heap.size + 1 + 1, 0, none⟩ = some (.int .i64 fn) ∧ w'.cell? ⟨tb, 6, none⟩ = some (.int .i64 (T m).dl)) ∧ Z7 w bx #[.int .i64 cn, .slice sa sn sc, .slice ta tn tc] s fn tb (tb + 1) (T m) (T k) c (mostK c T k) wr.heap.size w8.heap.size w')) (by kernel_rfl) (Z7.cells Z0.out) (fun hHeld => ?_)
                                  refine wpAnyH_take (i := 0) (oi := { dst := some 69, op := Op.fieldAddr 58 (Operand.tmp 16) 0, type := 0, pos := "wage.go:223", after := #[], guard := none }) (v := ?_) rfl (by kernel_rfl) (by kernel_rfl) (by kernel_rfl) (fun _ _ _ h => h) (Or.inl ⟨by rfl, ?_⟩) (by assumption) ?_
                                  rotate_left
                                  · (intro w9 hSw; (try dsimp only at hSw); (go_split_ands; go_simp); (try with_reducible rfl))
                                  try simp only [Act.put, List.setIfInBounds_toArray, List.set_cons_zero, List.set_cons_succ]
                                  refine wpAnyH_take (i := 1) (oi := { dst := some 70, op := Op.load 3 (Operand.tmp 69), type := 3, pos := "wage.go:223", after := #[{ on := 0, ground := Ground.data }], guard := none }) (v := ?_) rfl (by kernel_rfl) (by kernel_rfl) (by kernel_rfl) (fun _ _ _ h => h) (Or.inl ⟨by rfl, ?_⟩) (by assumption) ?_
                                  rotate_left
                                  · (intro w9 hSw; (try dsimp only at hSw); (go_split_ands; go_simp); (try with_reducible rfl))
                                  try simp only [Act.put, List.setIfInBounds_toArray, List.set_cons_zero, List.set_cons_succ]
                                  refine wpAnyH_take (i := 2) (oi := { dst := some 71, op := Op.move (Operand.tmp 11), type := 3, pos := "wage.go:223", after := #[], guard := none }) (v := ?_) rfl (by kernel_rfl) (by kernel_rfl) (by kernel_rfl) (fun _ _ _ h => h) (Or.inl ⟨by rfl, ?_⟩) (by assumption) ?_
                                  rotate_left
                                  · (intro w9 hSw; (try dsimp only at hSw); (go_split_ands; go_simp); (try with_reducible rfl))
                                  try simp only [Act.put, List.setIfInBounds_toArray, List.set_cons_zero, List.set_cons_succ]
                                  refine wpAnyH_take (i := 3) (oi := { dst := some 72, op := Op.binOp BinOp.neq 3 (Operand.tmp 70) (Operand.tmp 71) 3, type := 4, pos := "wage.go:223", after := #[{ on := 1, ground := Ground.data }, { on := 2, ground := Ground.data }], guard := none }) (v := ?_) rfl (by kernel_rfl) (by kernel_rfl) (by kernel_rfl) (fun _ _ _ h => h) (Or.inl ⟨by rfl, ?_⟩) (by assumption) ?_
                                  rotate_left
                                  · (intro w9 hSw; (try dsimp only at hSw); (go_split_ands; go_simp); (try with_reducible rfl))
                                  try simp only [Act.put, List.setIfInBounds_toArray, List.set_cons_zero, List.set_cons_succ]
                                  refine wpAnyH_take (i := 4) (oi := { dst := some 73, op := Op.move (Operand.tmp 72), type := 4, pos := "wage.go:223", after := #[{ on := 3, ground := Ground.data }], guard := none }) (v := ?_) rfl (by kernel_rfl) (by kernel_rfl) (by kernel_rfl) (fun _ _ _ h => h) (Or.inl ⟨by rfl, ?_⟩) (by assumption) ?_
                                  rotate_left
                                  · (intro w9 hSw; (try dsimp only at hSw); (go_split_ands; go_simp); (try with_reducible rfl))
                                  try simp only [Act.put, List.setIfInBounds_toArray, List.set_cons_zero, List.set_cons_succ]
                                  refine wpAnyH_take (i := 5) (oi := { dst := some 74, op := Op.fieldAddr 58 (Operand.tmp 16) 1, type := 0, pos := "wage.go:223", after := #[{ on := 4, ground := Ground.guard }], guard := some (4, true) }) (v := ?_) rfl (by kernel_rfl) (by kernel_rfl) (by kernel_rfl) (fun _ _ _ h => h) (Or.inl ⟨by rfl, ?_⟩) (by assumption) ?_
                                  rotate_left
                                  · (intro w9 hSw; (try dsimp only at hSw); (go_split_ands; go_simp); (try with_reducible rfl))
                                  try simp only [Act.put, List.setIfInBounds_toArray, List.set_cons_zero, List.set_cons_succ]
                                  refine wpAnyH_take (i := 6) (oi := { dst := some 75, op := Op.load 3 (Operand.tmp 74), type := 3, pos := "wage.go:223", after := #[{ on := 5, ground := Ground.data }, { on := 4, ground := Ground.guard }], guard := some (4, true) }) (v := ?_) rfl (by kernel_rfl) (by kernel_rfl) (by kernel_rfl) (fun _ _ _ h => h) (Or.inl ⟨by rfl, ?_⟩) (by assumption) ?_
                                  rotate_left
                                  · (intro w9 hSw; (try dsimp only at hSw); (go_split_ands; go_simp); (try with_reducible rfl))
                                  try simp only [Act.put, List.setIfInBounds_toArray, List.set_cons_zero, List.set_cons_succ]
                                  refine wpAnyH_take (i := 7) (oi := { dst := some 76, op := Op.load 3 (Operand.tmp 4), type := 3, pos := "wage.go:223", after := #[{ on := 4, ground := Ground.guard }], guard := some (4, true) }) (v := ?_) rfl (by kernel_rfl) (by kernel_rfl) (by kernel_rfl) (fun _ _ _ h => h) (Or.inl ⟨by rfl, ?_⟩) (by assumption) ?_
                                  rotate_left
                                  · (intro w9 hSw; (try dsimp only at hSw); (go_split_ands; go_simp); (try with_reducible rfl))
                                  try simp only [Act.put, List.setIfInBounds_toArray, List.set_cons_zero, List.set_cons_succ]
                                  refine wpAnyH_take (i := 8) (oi := { dst := some 77, op := Op.binOp BinOp.eql 3 (Operand.tmp 75) (Operand.tmp 76) 3, type := 4, pos := "wage.go:223", after := #[{ on := 6, ground := Ground.data }, { on := 7, ground := Ground.data }, { on := 4, ground := Ground.guard }], guard := some (4, true) }) (v := ?_) rfl (by kernel_rfl) (by kernel_rfl) (by kernel_rfl) (fun _ _ _ h => h) (Or.inl ⟨by rfl, ?_⟩) (by assumption) ?_
                                  rotate_left
                                  · (intro w9 hSw; (try dsimp only at hSw); (go_split_ands; go_simp); (try with_reducible rfl))
                                  try simp only [Act.put, List.setIfInBounds_toArray, List.set_cons_zero, List.set_cons_succ]
                                  refine wpAnyH_take (i := 9) (oi := { dst := some 78, op := Op.pick (Operand.tmp 73) (Operand.tmp 77) (Operand.const (Value.bool false)), type := 4, pos := "wage.go:223", after := #[{ on := 4, ground := Ground.data }, { on := 8, ground := Ground.data }], guard := none }) (v := ?_) rfl (by kernel_rfl) (by kernel_rfl) (by kernel_rfl) (fun _ _ _ h => h) (Or.inl ⟨by rfl, ?_⟩) (by assumption) ?_
                                  rotate_left
                                  · (intro w9 hSw; (try dsimp only at hSw); (go_split_ands; go_simp); (try with_reducible rfl))
                                  try simp only [Act.put, List.setIfInBounds_toArray, List.set_cons_zero, List.set_cons_succ]
                                  refine wpAnyH_take (i := 10) (oi := { dst := some 79, op := Op.move (Operand.tmp 78), type := 4, pos := "wage.go:223", after := #[{ on := 9, ground := Ground.data }, { on := 4, ground := Ground.chain }], guard := none }) (v := ?_) rfl (by kernel_rfl) (by kernel_rfl) (by kernel_rfl) (fun _ _ _ h => h) (Or.inl ⟨by rfl, ?_⟩) (by assumption) ?_
                                  rotate_left
                                  · (intro w9 hSw; (try dsimp only at hSw); (go_split_ands; go_simp); (try with_reducible rfl))
                                  try simp only [Act.put, List.setIfInBounds_toArray, List.set_cons_zero, List.set_cons_succ]
                                  refine wpAnyH_take (i := 11) (oi := { dst := some 80, op := Op.load 93 (Operand.tmp 17), type := 93, pos := "wage.go:223", after := #[{ on := 10, ground := Ground.guard }], guard := some (10, true) }) (v := ?_) rfl (by kernel_rfl) (by kernel_rfl) (by kernel_rfl) (fun _ _ _ h => h) (Or.inl ⟨by rfl, ?_⟩) (by assumption) ?_
                                  rotate_left
                                  · (intro w9 hSw; (try dsimp only at hSw); (go_split_ands; go_simp); (try with_reducible rfl))
                                  try simp only [Act.put, List.setIfInBounds_toArray, List.set_cons_zero, List.set_cons_succ]
                                  refine wpAnyH_take (i := 13) (oi := { dst := some 82, op := Op.load 3 (Operand.tmp 5), type := 3, pos := "wage.go:223", after := #[{ on := 10, ground := Ground.guard }], guard := some (10, true) }) (v := ?_) rfl (by kernel_rfl) (by kernel_rfl) (by kernel_rfl) (fun _ _ _ h => h) (Or.inl ⟨by rfl, ?_⟩) (by assumption) ?_
                                  rotate_left
                                  · (intro w9 hSw; (try dsimp only at hSw); (go_split_ands; go_simp); (try with_reducible rfl))
                                  try simp only [Act.put, List.setIfInBounds_toArray, List.set_cons_zero, List.set_cons_succ]
                                  refine wpAnyH_ready (rs := [12]) (by kernel_rfl) (by simp) ?_
                                  refine AllReadyH.cons (o := { dst := some 81, op := Op.call { callee := Callee.value (Operand.func 59), args := #[Operand.tmp 80], argTypes := #[93] }, type := 91, pos := "wage.go:223", after := #[{ on := 11, ground := Ground.data }, { on := 10, ground := Ground.chain }, { on := 10, ground := Ground.guard }], guard := some (10, true) }) rfl (fun K hK => ?_) AllReadyH.nil
                                  go_simp
                                  go_at_call 59; refine (known_fathoms_any _ _ _ _ k0' k1' k2' k3').mono ?_; rintro e w10 ⟨rfl, hb10⟩; have B10 := Lib.hid hb10; clear hb10
                                  go_wp2_with fail
                                  refine hK.out _ _ ?_ (fun hHeld => ?_)
                                  · exact Z7.cells (Z7.grow Z0.out B10.out)
                                  clear hK K
                                  try simp only [Act.put, List.setIfInBounds_toArray, List.set_cons_zero, List.set_cons_succ]
                                  have Z1 := Lib.hid hHeld.2
                                  refine wpAnyH_ready (rs := [14]) (by kernel_rfl) (by simp) ?_
                                  refine AllReadyH.cons (o := { dst := some 83, op := Op.call { callee := Callee.value (Operand.func 60), args := #[Operand.tmp 81, Operand.tmp 82], argTypes := #[91, 3] }, type := 4, pos := "wage.go:223", after := #[{ on := 12, ground := Ground.data }, { on := 13, ground := Ground.data }, { on := 12, ground := Ground.chain }, { on := 10, ground := Ground.guard }], guard := some (10, true) }) rfl (fun K hK => ?_) AllReadyH.nil
                                  go_simp
                                  go_at_call 60; refine (has_any _ _ _ hfmk hfn).mono ?_; rintro e w11 ⟨rfl, rfl⟩
                                  go_wp2_with fail
                                  refine hK.out _ _ ?_ (fun hHeld => ?_)
                                  · assumption
                                  clear hK K
                                  try simp only [Act.put, List.setIfInBounds_toArray, List.set_cons_zero, List.set_cons_succ]
                                  refine wpAnyH_take (i := 15) (oi := { dst := some 84, op := Op.pick (Operand.tmp 79) (Operand.tmp 83) (Operand.const (Value.bool false)), type := 4, pos := "wage.go:223", after := #[{ on := 10, ground := Ground.data }, { on := 14, ground := Ground.data }], guard := none }) (v := ?_) rfl (by kernel_rfl) (by kernel_rfl) (by kernel_rfl) (fun _ _ _ h => h) (Or.inl ⟨by rfl, ?_⟩) (by assumption) ?_
                                  rotate_left
                                  · (intro w9 hSw; (try dsimp only at hSw); (go_split_ands; go_simp); (try with_reducible rfl))
                                  try simp only [Act.put, List.setIfInBounds_toArray, List.set_cons_zero, List.set_cons_succ]
                                  refine wpAnyH_take (i := 16) (oi := { dst := some 85, op := Op.move (Operand.tmp 84), type := 4, pos := "wage.go:223", after := #[{ on := 15, ground := Ground.data }, { on := 14, ground := Ground.chain }], guard := none }) (v := ?_) rfl (by kernel_rfl) (by kernel_rfl) (by kernel_rfl) (fun _ _ _ h => h) (Or.inl ⟨by rfl, ?_⟩) (by assumption) ?_
                                  rotate_left
                                  · (intro w9 hSw; (try dsimp only at hSw); (go_split_ands; go_simp); (try with_reducible rfl))
                                  try simp only [Act.put, List.setIfInBounds_toArray, List.set_cons_zero, List.set_cons_succ]
                                  refine wpAnyH_take (i := 17) (oi := { dst := some 86, op := Op.fieldAddr 93 (Operand.tmp 17) 2, type := 0, pos := "wage.go:223", after := #[{ on := 16, ground := Ground.guard }], guard := some (16, true) }) (v := ?_) rfl (by kernel_rfl) (by kernel_rfl) (by kernel_rfl) (fun _ _ _ h => h) (Or.inl ⟨by rfl, ?_⟩) (by assumption) ?_
                                  rotate_left
                                  · (intro w9 hSw; (try dsimp only at hSw); (go_split_ands; go_simp); (try with_reducible rfl))
                                  try simp only [Act.put, List.setIfInBounds_toArray, List.set_cons_zero, List.set_cons_succ]
                                  refine wpAnyH_take (i := 18) (oi := { dst := some 87, op := Op.load 3 (Operand.tmp 86), type := 3, pos := "wage.go:223", after := #[{ on := 17, ground := Ground.data }, { on := 16, ground := Ground.guard }], guard := some (16, true) }) (v := ?_) rfl (by kernel_rfl) (by kernel_rfl) (by kernel_rfl) (fun _ _ _ h => h) (Or.inl ⟨by rfl, ?_⟩) (by assumption) ?_
                                  rotate_left
                                  · (intro w9 hSw; (try dsimp only at hSw); (go_split_ands; go_simp); (try with_reducible rfl))
                                  try simp only [Act.put, List.setIfInBounds_toArray, List.set_cons_zero, List.set_cons_succ]
                                  refine wpAnyH_take (i := 19) (oi := { dst := some 88, op := Op.fieldAddr 58 (Operand.tmp 13) 4, type := 0, pos := "wage.go:223", after := #[{ on := 16, ground := Ground.guard }], guard := some (16, true) }) (v := ?_) rfl (by kernel_rfl) (by kernel_rfl) (by kernel_rfl) (fun _ _ _ h => h) (Or.inl ⟨by rfl, ?_⟩) (by assumption) ?_
                                  rotate_left
                                  · (intro w9 hSw; (try dsimp only at hSw); (go_split_ands; go_simp); (try with_reducible rfl))
                                  try simp only [Act.put, List.setIfInBounds_toArray, List.set_cons_zero, List.set_cons_succ]
                                  refine wpAnyH_take (i := 20) (oi := { dst := some 89, op := Op.fieldAddr 29 (Operand.tmp 88) 0, type := 0, pos := "wage.go:223", after := #[{ on := 19, ground := Ground.data }, { on := 16, ground := Ground.guard }], guard := some (16, true) }) (v := ?_) rfl (by kernel_rfl) (by kernel_rfl) (by kernel_rfl) (fun _ _ _ h => h) (Or.inl ⟨by rfl, ?_⟩) (by assumption) ?_
                                  rotate_left
                                  · (intro w9 hSw; (try dsimp only at hSw); (go_split_ands; go_simp); (try with_reducible rfl))
                                  try simp only [Act.put, List.setIfInBounds_toArray, List.set_cons_zero, List.set_cons_succ]
                                  refine wpAnyH_take (i := 21) (oi := { dst := some 90, op := Op.load 3 (Operand.tmp 89), type := 3, pos := "wage.go:223", after := #[{ on := 20, ground := Ground.data }, { on := 16, ground := Ground.guard }], guard := some (16, true) }) (v := ?_) rfl (by kernel_rfl) (by kernel_rfl) (by kernel_rfl) (fun _ _ _ h => h) (Or.inl ⟨by rfl, ?_⟩) (by assumption) ?_
                                  rotate_left
                                  · (intro w9 hSw; (try dsimp only at hSw); (go_split_ands; go_simp); (try with_reducible rfl))
                                  try simp only [Act.put, List.setIfInBounds_toArray, List.set_cons_zero, List.set_cons_succ]
                                  refine wpAnyH_take (i := 22) (oi := { dst := some 91, op := Op.binOp BinOp.lss 3 (Operand.tmp 87) (Operand.tmp 90) 3, type := 4, pos := "wage.go:223", after := #[{ on := 18, ground := Ground.data }, { on := 21, ground := Ground.data }, { on := 16, ground := Ground.guard }], guard := some (16, true) }) (v := ?_) rfl (by kernel_rfl) (by kernel_rfl) (by kernel_rfl) (fun _ _ _ h => h) (Or.inl ⟨by rfl, ?_⟩) (by assumption) ?_
                                  rotate_left
                                  · (intro w9 hSw; (try dsimp only at hSw); (go_split_ands; go_simp); (try with_reducible rfl))
                                  try simp only [Act.put, List.setIfInBounds_toArray, List.set_cons_zero, List.set_cons_succ]
                                  refine wpAnyH_take (i := 23) (oi := { dst := some 92, op := Op.move (Operand.tmp 91), type := 4, pos := "wage.go:223", after := #[{ on := 22, ground := Ground.data }, { on := 16, ground := Ground.chain }, { on := 16, ground := Ground.guard }], guard := some (16, true) }) (v := ?_) rfl (by kernel_rfl) (by kernel_rfl) (by kernel_rfl) (fun _ _ _ h => h) (Or.inl ⟨by rfl, ?_⟩) (by assumption) ?_
                                  rotate_left
                                  · (intro w9 hSw; (try dsimp only at hSw); (go_split_ands; go_simp); (try with_reducible rfl))
                                  try simp only [Act.put, List.setIfInBounds_toArray, List.set_cons_zero, List.set_cons_succ]
                                  refine wpAnyH_take (i := 24) (oi := { dst := some 93, op := Op.fieldAddr 93 (Operand.tmp 17) 2, type := 0, pos := "wage.go:223", after := #[{ on := 23, ground := Ground.guard }], guard := some (23, false) }) (v := ?_) rfl (by kernel_rfl) (by kernel_rfl) (by kernel_rfl) (fun _ _ _ h => h) (Or.inl ⟨by rfl, ?_⟩) (by assumption) ?_
                                  rotate_left
                                  · (intro w9 hSw; (try dsimp only at hSw); (go_split_ands; go_simp); (try with_reducible rfl))
                                  try simp only [Act.put, List.setIfInBounds_toArray, List.set_cons_zero, List.set_cons_succ]
                                  refine wpAnyH_take (i := 25) (oi := { dst := some 94, op := Op.load 3 (Operand.tmp 93), type := 3, pos := "wage.go:223", after := #[{ on := 24, ground := Ground.data }, { on := 23, ground := Ground.guard }], guard := some (23, false) }) (v := ?_) rfl (by kernel_rfl) (by kernel_rfl) (by kernel_rfl) (fun _ _ _ h => h) (Or.inl ⟨by rfl, ?_⟩) (by assumption) ?_
                                  rotate_left
                                  · (intro w9 hSw; (try dsimp only at hSw); (go_split_ands; go_simp); (try with_reducible rfl))
                                  try simp only [Act.put, List.setIfInBounds_toArray, List.set_cons_zero, List.set_cons_succ]
                                  refine wpAnyH_take (i := 26) (oi := { dst := some 95, op := Op.fieldAddr 58 (Operand.tmp 13) 4, type := 0, pos := "wage.go:223", after := #[{ on := 23, ground := Ground.guard }], guard := some (23, false) }) (v := ?_) rfl (by kernel_rfl) (by kernel_rfl) (by kernel_rfl) (fun _ _ _ h => h) (Or.inl ⟨by rfl, ?_⟩) (by assumption) ?_
                                  rotate_left
                                  · (intro w9 hSw; (try dsimp only at hSw); (go_split_ands; go_simp); (try with_reducible rfl))
                                  try simp only [Act.put, List.setIfInBounds_toArray, List.set_cons_zero, List.set_cons_succ]
                                  refine wpAnyH_take (i := 27) (oi := { dst := some 96, op := Op.fieldAddr 29 (Operand.tmp 95) 0, type := 0, pos := "wage.go:223", after := #[{ on := 26, ground := Ground.data }, { on := 23, ground := Ground.guard }], guard := some (23, false) }) (v := ?_) rfl (by kernel_rfl) (by kernel_rfl) (by kernel_rfl) (fun _ _ _ h => h) (Or.inl ⟨by rfl, ?_⟩) (by assumption) ?_
                                  rotate_left
                                  · (intro w9 hSw; (try dsimp only at hSw); (go_split_ands; go_simp); (try with_reducible rfl))
                                  try simp only [Act.put, List.setIfInBounds_toArray, List.set_cons_zero, List.set_cons_succ]
                                  refine wpAnyH_take (i := 28) (oi := { dst := some 97, op := Op.load 3 (Operand.tmp 96), type := 3, pos := "wage.go:223", after := #[{ on := 27, ground := Ground.data }, { on := 23, ground := Ground.guard }], guard := some (23, false) }) (v := ?_) rfl (by kernel_rfl) (by kernel_rfl) (by kernel_rfl) (fun _ _ _ h => h) (Or.inl ⟨by rfl, ?_⟩) (by assumption) ?_
                                  rotate_left
                                  · (intro w9 hSw; (try dsimp only at hSw); (go_split_ands; go_simp); (try with_reducible rfl))
                                  try simp only [Act.put, List.setIfInBounds_toArray, List.set_cons_zero, List.set_cons_succ]
                                  refine wpAnyH_take (i := 29) (oi := { dst := some 98, op := Op.binOp BinOp.eql 3 (Operand.tmp 94) (Operand.tmp 97) 3, type := 4, pos := "wage.go:223", after := #[{ on := 25, ground := Ground.data }, { on := 28, ground := Ground.data }, { on := 23, ground := Ground.guard }], guard := some (23, false) }) (v := ?_) rfl (by kernel_rfl) (by kernel_rfl) (by kernel_rfl) (fun _ _ _ h => h) (Or.inl ⟨by rfl, ?_⟩) (by assumption) ?_
                                  rotate_left
                                  · (intro w9 hSw; (try dsimp only at hSw); (go_split_ands; go_simp); (try with_reducible rfl))
                                  try simp only [Act.put, List.setIfInBounds_toArray, List.set_cons_zero, List.set_cons_succ]
                                  refine wpAnyH_take (i := 30) (oi := { dst := some 99, op := Op.move (Operand.tmp 98), type := 4, pos := "wage.go:223", after := #[{ on := 29, ground := Ground.data }, { on := 23, ground := Ground.chain }, { on := 23, ground := Ground.guard }], guard := some (23, false) }) (v := ?_) rfl (by kernel_rfl) (by kernel_rfl) (by kernel_rfl) (fun _ _ _ h => h) (Or.inl ⟨by rfl, ?_⟩) (by assumption) ?_
                                  rotate_left
                                  · (intro w9 hSw; (try dsimp only at hSw); (go_split_ands; go_simp); (try with_reducible rfl))
                                  try simp only [Act.put, List.setIfInBounds_toArray, List.set_cons_zero, List.set_cons_succ]
                                  refine wpAnyH_take (i := 31) (oi := { dst := some 100, op := Op.move (Operand.tmp 15), type := 3, pos := "wage.go:223", after := #[{ on := 30, ground := Ground.guard }], guard := some (30, true) }) (v := ?_) rfl (by kernel_rfl) (by kernel_rfl) (by kernel_rfl) (fun _ _ _ h => h) (Or.inl ⟨by rfl, ?_⟩) (by assumption) ?_
                                  rotate_left
                                  · (intro w9 hSw; (try dsimp only at hSw); (go_split_ands; go_simp); (try with_reducible rfl))
                                  try simp only [Act.put, List.setIfInBounds_toArray, List.set_cons_zero, List.set_cons_succ]
                                  refine wpAnyH_take (i := 32) (oi := { dst := some 101, op := Op.move (Operand.tmp 12), type := 3, pos := "wage.go:223", after := #[{ on := 30, ground := Ground.guard }], guard := some (30, true) }) (v := ?_) rfl (by kernel_rfl) (by kernel_rfl) (by kernel_rfl) (fun _ _ _ h => h) (Or.inl ⟨by rfl, ?_⟩) (by assumption) ?_
                                  rotate_left
                                  · (intro w9 hSw; (try dsimp only at hSw); (go_split_ands; go_simp); (try with_reducible rfl))
                                  try simp only [Act.put, List.setIfInBounds_toArray, List.set_cons_zero, List.set_cons_succ]
                                  refine wpAnyH_take (i := 33) (oi := { dst := some 102, op := Op.binOp BinOp.lss 3 (Operand.tmp 100) (Operand.tmp 101) 3, type := 4, pos := "wage.go:223", after := #[{ on := 31, ground := Ground.data }, { on := 32, ground := Ground.data }, { on := 30, ground := Ground.guard }], guard := some (30, true) }) (v := ?_) rfl (by kernel_rfl) (by kernel_rfl) (by kernel_rfl) (fun _ _ _ h => h) (Or.inl ⟨by rfl, ?_⟩) (by assumption) ?_
                                  rotate_left
                                  · (intro w9 hSw; (try dsimp only at hSw); (go_split_ands; go_simp); (try with_reducible rfl))
                                  try simp only [Act.put, List.setIfInBounds_toArray, List.set_cons_zero, List.set_cons_succ]
                                  refine wpAnyH_take (i := 34) (oi := { dst := some 103, op := Op.pick (Operand.tmp 99) (Operand.tmp 102) (Operand.const (Value.bool false)), type := 4, pos := "wage.go:223", after := #[{ on := 30, ground := Ground.data }, { on := 33, ground := Ground.data }, { on := 23, ground := Ground.guard }], guard := some (23, false) }) (v := ?_) rfl (by kernel_rfl) (by kernel_rfl) (by kernel_rfl) (fun _ _ _ h => h) (Or.inl ⟨by rfl, ?_⟩) (by assumption) ?_
                                  rotate_left
                                  · (intro w9 hSw; (try dsimp only at hSw); (go_split_ands; go_simp); (try with_reducible rfl))
                                  try simp only [Act.put, List.setIfInBounds_toArray, List.set_cons_zero, List.set_cons_succ]
                                  refine wpAnyH_take (i := 35) (oi := { dst := some 104, op := Op.pick (Operand.tmp 92) (Operand.const (Value.bool true)) (Operand.tmp 103), type := 4, pos := "wage.go:223", after := #[{ on := 23, ground := Ground.data }, { on := 34, ground := Ground.data }, { on := 16, ground := Ground.guard }], guard := some (16, true) }) (v := ?_) rfl (by kernel_rfl) (by kernel_rfl) (by kernel_rfl) (fun _ _ _ h => h) (Or.inl ⟨by rfl, ?_⟩) (by assumption) ?_
                                  rotate_left
                                  · (intro w9 hSw; (try dsimp only at hSw); (go_split_ands; go_simp); (try with_reducible rfl))
                                  try simp only [Act.put, List.setIfInBounds_toArray, List.set_cons_zero, List.set_cons_succ]
                                  refine wpAnyH_take (i := 36) (oi := { dst := some 105, op := Op.pick (Operand.tmp 85) (Operand.tmp 104) (Operand.const (Value.bool false)), type := 4, pos := "wage.go:223", after := #[{ on := 16, ground := Ground.data }, { on := 35, ground := Ground.data }], guard := none }) (v := ?_) rfl (by kernel_rfl) (by kernel_rfl) (by kernel_rfl) (fun _ _ _ h => h) (Or.inl ⟨by rfl, ?_⟩) (by assumption) ?_
                                  rotate_left
                                  · (intro w9 hSw; (try dsimp only at hSw); (go_split_ands; go_simp); (try with_reducible rfl))
                                  try simp only [Act.put, List.setIfInBounds_toArray, List.set_cons_zero, List.set_cons_succ]
                                  refine wpAnyH_done (by kernel_rfl) ?_ _
                                  refine NoPanic.normal ?_
                                  clear hHeld
                                  go_wp2_with fail
                                  exact ⟨⟨m + 1, hltm, by go_num, by rw [HC.out], Z1.out.y.y⟩, by simp [intOf]; omega⟩
                                · have n6b : decide ((k : Int) < (m : Int)) = false := by simp; omega
                                  have n6c : decide (k < m) = false := by simp; omega
                                  have N6 := Lib.hid n6'
                                  clear n6'
                                  refine wp_region_noPanic ?_
                                  refine wp_region_held_drew (S := (fun w' => (w'.cell? ⟨wr.heap.size, 0, none⟩ = some (.int .i64 (T k).crew) ∧ w'.cell? ⟨wr.heap.size, 1, none⟩ = some (.int .i64 (T k).seam) ∧ w'.cell? ⟨w.heap.size + 1, 0, none⟩ = some (.int .i64 s) ∧ w'.cell? ⟨w8.heap.size, 0, none⟩ = some (.int .i64 (mostK c T k).fr) ∧ w'.cell? ⟨w8.heap.size, 1, none⟩ = some (.int .i64 (mostK c T k).to) ∧ w'.cell? ⟨w8.heap.size, 2, none⟩ = some (.int .i64 (mostK c T k).td) ∧ w'.cell? ⟨w.heap.size + 1 + 1, 0, none⟩ = some (.int .i64 fn) ∧ w'.cell? ⟨tb, 6, none⟩ = some (.int .i64 (T m).dl)) ∧ Z7 w bx #[.int .i64 cn, .slice sa sn sc, .slice ta tn tc] s fn tb (tb + 1) (T m) (T k) c (mostK c T k) wr.heap.size w8.heap.size w')) (by kernel_rfl) (Z7.cells Z0.out) (fun hHeld => ?_)
                                  refine wpAnyH_take (i := 0) (oi := { dst := some 69, op := Op.fieldAddr 58 (Operand.tmp 16) 0, type := 0, pos := "wage.go:223", after := #[], guard := none }) (v := ?_) rfl (by kernel_rfl) (by kernel_rfl) (by kernel_rfl) (fun _ _ _ h => h) (Or.inl ⟨by rfl, ?_⟩) (by assumption) ?_
                                  rotate_left
                                  · (intro w9 hSw; (try dsimp only at hSw); (go_split_ands; go_simp); (try with_reducible rfl))
                                  try simp only [Act.put, List.setIfInBounds_toArray, List.set_cons_zero, List.set_cons_succ]
                                  refine wpAnyH_take (i := 1) (oi := { dst := some 70, op := Op.load 3 (Operand.tmp 69), type := 3, pos := "wage.go:223", after := #[{ on := 0, ground := Ground.data }], guard := none }) (v := ?_) rfl (by kernel_rfl) (by kernel_rfl) (by kernel_rfl) (fun _ _ _ h => h) (Or.inl ⟨by rfl, ?_⟩) (by assumption) ?_
                                  rotate_left
                                  · (intro w9 hSw; (try dsimp only at hSw); (go_split_ands; go_simp); (try with_reducible rfl))
                                  try simp only [Act.put, List.setIfInBounds_toArray, List.set_cons_zero, List.set_cons_succ]
                                  refine wpAnyH_take (i := 2) (oi := { dst := some 71, op := Op.move (Operand.tmp 11), type := 3, pos := "wage.go:223", after := #[], guard := none }) (v := ?_) rfl (by kernel_rfl) (by kernel_rfl) (by kernel_rfl) (fun _ _ _ h => h) (Or.inl ⟨by rfl, ?_⟩) (by assumption) ?_
                                  rotate_left
                                  · (intro w9 hSw; (try dsimp only at hSw); (go_split_ands; go_simp); (try with_reducible rfl))
                                  try simp only [Act.put, List.setIfInBounds_toArray, List.set_cons_zero, List.set_cons_succ]
                                  refine wpAnyH_take (i := 3) (oi := { dst := some 72, op := Op.binOp BinOp.neq 3 (Operand.tmp 70) (Operand.tmp 71) 3, type := 4, pos := "wage.go:223", after := #[{ on := 1, ground := Ground.data }, { on := 2, ground := Ground.data }], guard := none }) (v := ?_) rfl (by kernel_rfl) (by kernel_rfl) (by kernel_rfl) (fun _ _ _ h => h) (Or.inl ⟨by rfl, ?_⟩) (by assumption) ?_
                                  rotate_left
                                  · (intro w9 hSw; (try dsimp only at hSw); (go_split_ands; go_simp); (try with_reducible rfl))
                                  try simp only [Act.put, List.setIfInBounds_toArray, List.set_cons_zero, List.set_cons_succ]
                                  refine wpAnyH_take (i := 4) (oi := { dst := some 73, op := Op.move (Operand.tmp 72), type := 4, pos := "wage.go:223", after := #[{ on := 3, ground := Ground.data }], guard := none }) (v := ?_) rfl (by kernel_rfl) (by kernel_rfl) (by kernel_rfl) (fun _ _ _ h => h) (Or.inl ⟨by rfl, ?_⟩) (by assumption) ?_
                                  rotate_left
                                  · (intro w9 hSw; (try dsimp only at hSw); (go_split_ands; go_simp); (try with_reducible rfl))
                                  try simp only [Act.put, List.setIfInBounds_toArray, List.set_cons_zero, List.set_cons_succ]
                                  refine wpAnyH_take (i := 5) (oi := { dst := some 74, op := Op.fieldAddr 58 (Operand.tmp 16) 1, type := 0, pos := "wage.go:223", after := #[{ on := 4, ground := Ground.guard }], guard := some (4, true) }) (v := ?_) rfl (by kernel_rfl) (by kernel_rfl) (by kernel_rfl) (fun _ _ _ h => h) (Or.inl ⟨by rfl, ?_⟩) (by assumption) ?_
                                  rotate_left
                                  · (intro w9 hSw; (try dsimp only at hSw); (go_split_ands; go_simp); (try with_reducible rfl))
                                  try simp only [Act.put, List.setIfInBounds_toArray, List.set_cons_zero, List.set_cons_succ]
                                  refine wpAnyH_take (i := 6) (oi := { dst := some 75, op := Op.load 3 (Operand.tmp 74), type := 3, pos := "wage.go:223", after := #[{ on := 5, ground := Ground.data }, { on := 4, ground := Ground.guard }], guard := some (4, true) }) (v := ?_) rfl (by kernel_rfl) (by kernel_rfl) (by kernel_rfl) (fun _ _ _ h => h) (Or.inl ⟨by rfl, ?_⟩) (by assumption) ?_
                                  rotate_left
                                  · (intro w9 hSw; (try dsimp only at hSw); (go_split_ands; go_simp); (try with_reducible rfl))
                                  try simp only [Act.put, List.setIfInBounds_toArray, List.set_cons_zero, List.set_cons_succ]
                                  refine wpAnyH_take (i := 7) (oi := { dst := some 76, op := Op.load 3 (Operand.tmp 4), type := 3, pos := "wage.go:223", after := #[{ on := 4, ground := Ground.guard }], guard := some (4, true) }) (v := ?_) rfl (by kernel_rfl) (by kernel_rfl) (by kernel_rfl) (fun _ _ _ h => h) (Or.inl ⟨by rfl, ?_⟩) (by assumption) ?_
                                  rotate_left
                                  · (intro w9 hSw; (try dsimp only at hSw); (go_split_ands; go_simp); (try with_reducible rfl))
                                  try simp only [Act.put, List.setIfInBounds_toArray, List.set_cons_zero, List.set_cons_succ]
                                  refine wpAnyH_take (i := 8) (oi := { dst := some 77, op := Op.binOp BinOp.eql 3 (Operand.tmp 75) (Operand.tmp 76) 3, type := 4, pos := "wage.go:223", after := #[{ on := 6, ground := Ground.data }, { on := 7, ground := Ground.data }, { on := 4, ground := Ground.guard }], guard := some (4, true) }) (v := ?_) rfl (by kernel_rfl) (by kernel_rfl) (by kernel_rfl) (fun _ _ _ h => h) (Or.inl ⟨by rfl, ?_⟩) (by assumption) ?_
                                  rotate_left
                                  · (intro w9 hSw; (try dsimp only at hSw); (go_split_ands; go_simp); (try with_reducible rfl))
                                  try simp only [Act.put, List.setIfInBounds_toArray, List.set_cons_zero, List.set_cons_succ]
                                  refine wpAnyH_take (i := 9) (oi := { dst := some 78, op := Op.pick (Operand.tmp 73) (Operand.tmp 77) (Operand.const (Value.bool false)), type := 4, pos := "wage.go:223", after := #[{ on := 4, ground := Ground.data }, { on := 8, ground := Ground.data }], guard := none }) (v := ?_) rfl (by kernel_rfl) (by kernel_rfl) (by kernel_rfl) (fun _ _ _ h => h) (Or.inl ⟨by rfl, ?_⟩) (by assumption) ?_
                                  rotate_left
                                  · (intro w9 hSw; (try dsimp only at hSw); (go_split_ands; go_simp); (try with_reducible rfl))
                                  try simp only [Act.put, List.setIfInBounds_toArray, List.set_cons_zero, List.set_cons_succ]
                                  refine wpAnyH_take (i := 10) (oi := { dst := some 79, op := Op.move (Operand.tmp 78), type := 4, pos := "wage.go:223", after := #[{ on := 9, ground := Ground.data }, { on := 4, ground := Ground.chain }], guard := none }) (v := ?_) rfl (by kernel_rfl) (by kernel_rfl) (by kernel_rfl) (fun _ _ _ h => h) (Or.inl ⟨by rfl, ?_⟩) (by assumption) ?_
                                  rotate_left
                                  · (intro w9 hSw; (try dsimp only at hSw); (go_split_ands; go_simp); (try with_reducible rfl))
                                  try simp only [Act.put, List.setIfInBounds_toArray, List.set_cons_zero, List.set_cons_succ]
                                  refine wpAnyH_take (i := 11) (oi := { dst := some 80, op := Op.load 93 (Operand.tmp 17), type := 93, pos := "wage.go:223", after := #[{ on := 10, ground := Ground.guard }], guard := some (10, true) }) (v := ?_) rfl (by kernel_rfl) (by kernel_rfl) (by kernel_rfl) (fun _ _ _ h => h) (Or.inl ⟨by rfl, ?_⟩) (by assumption) ?_
                                  rotate_left
                                  · (intro w9 hSw; (try dsimp only at hSw); (go_split_ands; go_simp); (try with_reducible rfl))
                                  try simp only [Act.put, List.setIfInBounds_toArray, List.set_cons_zero, List.set_cons_succ]
                                  refine wpAnyH_take (i := 13) (oi := { dst := some 82, op := Op.load 3 (Operand.tmp 5), type := 3, pos := "wage.go:223", after := #[{ on := 10, ground := Ground.guard }], guard := some (10, true) }) (v := ?_) rfl (by kernel_rfl) (by kernel_rfl) (by kernel_rfl) (fun _ _ _ h => h) (Or.inl ⟨by rfl, ?_⟩) (by assumption) ?_
                                  rotate_left
                                  · (intro w9 hSw; (try dsimp only at hSw); (go_split_ands; go_simp); (try with_reducible rfl))
                                  try simp only [Act.put, List.setIfInBounds_toArray, List.set_cons_zero, List.set_cons_succ]
                                  refine wpAnyH_ready (rs := [12]) (by kernel_rfl) (by simp) ?_
                                  refine AllReadyH.cons (o := { dst := some 81, op := Op.call { callee := Callee.value (Operand.func 59), args := #[Operand.tmp 80], argTypes := #[93] }, type := 91, pos := "wage.go:223", after := #[{ on := 11, ground := Ground.data }, { on := 10, ground := Ground.chain }, { on := 10, ground := Ground.guard }], guard := some (10, true) }) rfl (fun K hK => ?_) AllReadyH.nil
                                  go_simp
                                  go_at_call 59; refine (known_fathoms_any _ _ _ _ k0' k1' k2' k3').mono ?_; rintro e w10 ⟨rfl, hb10⟩; have B10 := Lib.hid hb10; clear hb10
                                  go_wp2_with fail
                                  refine hK.out _ _ ?_ (fun hHeld => ?_)
                                  · exact Z7.cells (Z7.grow Z0.out B10.out)
                                  clear hK K
                                  try simp only [Act.put, List.setIfInBounds_toArray, List.set_cons_zero, List.set_cons_succ]
                                  have Z1 := Lib.hid hHeld.2
                                  refine wpAnyH_ready (rs := [14]) (by kernel_rfl) (by simp) ?_
                                  refine AllReadyH.cons (o := { dst := some 83, op := Op.call { callee := Callee.value (Operand.func 60), args := #[Operand.tmp 81, Operand.tmp 82], argTypes := #[91, 3] }, type := 4, pos := "wage.go:223", after := #[{ on := 12, ground := Ground.data }, { on := 13, ground := Ground.data }, { on := 12, ground := Ground.chain }, { on := 10, ground := Ground.guard }], guard := some (10, true) }) rfl (fun K hK => ?_) AllReadyH.nil
                                  go_simp
                                  go_at_call 60; refine (has_any _ _ _ hfmk hfn).mono ?_; rintro e w11 ⟨rfl, rfl⟩
                                  go_wp2_with fail
                                  refine hK.out _ _ ?_ (fun hHeld => ?_)
                                  · assumption
                                  clear hK K
                                  try simp only [Act.put, List.setIfInBounds_toArray, List.set_cons_zero, List.set_cons_succ]
                                  refine wpAnyH_take (i := 15) (oi := { dst := some 84, op := Op.pick (Operand.tmp 79) (Operand.tmp 83) (Operand.const (Value.bool false)), type := 4, pos := "wage.go:223", after := #[{ on := 10, ground := Ground.data }, { on := 14, ground := Ground.data }], guard := none }) (v := ?_) rfl (by kernel_rfl) (by kernel_rfl) (by kernel_rfl) (fun _ _ _ h => h) (Or.inl ⟨by rfl, ?_⟩) (by assumption) ?_
                                  rotate_left
                                  · (intro w9 hSw; (try dsimp only at hSw); (go_split_ands; go_simp); (try with_reducible rfl))
                                  try simp only [Act.put, List.setIfInBounds_toArray, List.set_cons_zero, List.set_cons_succ]
                                  refine wpAnyH_take (i := 16) (oi := { dst := some 85, op := Op.move (Operand.tmp 84), type := 4, pos := "wage.go:223", after := #[{ on := 15, ground := Ground.data }, { on := 14, ground := Ground.chain }], guard := none }) (v := ?_) rfl (by kernel_rfl) (by kernel_rfl) (by kernel_rfl) (fun _ _ _ h => h) (Or.inl ⟨by rfl, ?_⟩) (by assumption) ?_
                                  rotate_left
                                  · (intro w9 hSw; (try dsimp only at hSw); (go_split_ands; go_simp); (try with_reducible rfl))
                                  try simp only [Act.put, List.setIfInBounds_toArray, List.set_cons_zero, List.set_cons_succ]
                                  refine wpAnyH_take (i := 17) (oi := { dst := some 86, op := Op.fieldAddr 93 (Operand.tmp 17) 2, type := 0, pos := "wage.go:223", after := #[{ on := 16, ground := Ground.guard }], guard := some (16, true) }) (v := ?_) rfl (by kernel_rfl) (by kernel_rfl) (by kernel_rfl) (fun _ _ _ h => h) (Or.inl ⟨by rfl, ?_⟩) (by assumption) ?_
                                  rotate_left
                                  · (intro w9 hSw; (try dsimp only at hSw); (go_split_ands; go_simp); (try with_reducible rfl))
                                  try simp only [Act.put, List.setIfInBounds_toArray, List.set_cons_zero, List.set_cons_succ]
                                  refine wpAnyH_take (i := 18) (oi := { dst := some 87, op := Op.load 3 (Operand.tmp 86), type := 3, pos := "wage.go:223", after := #[{ on := 17, ground := Ground.data }, { on := 16, ground := Ground.guard }], guard := some (16, true) }) (v := ?_) rfl (by kernel_rfl) (by kernel_rfl) (by kernel_rfl) (fun _ _ _ h => h) (Or.inl ⟨by rfl, ?_⟩) (by assumption) ?_
                                  rotate_left
                                  · (intro w9 hSw; (try dsimp only at hSw); (go_split_ands; go_simp); (try with_reducible rfl))
                                  try simp only [Act.put, List.setIfInBounds_toArray, List.set_cons_zero, List.set_cons_succ]
                                  refine wpAnyH_take (i := 19) (oi := { dst := some 88, op := Op.fieldAddr 58 (Operand.tmp 13) 4, type := 0, pos := "wage.go:223", after := #[{ on := 16, ground := Ground.guard }], guard := some (16, true) }) (v := ?_) rfl (by kernel_rfl) (by kernel_rfl) (by kernel_rfl) (fun _ _ _ h => h) (Or.inl ⟨by rfl, ?_⟩) (by assumption) ?_
                                  rotate_left
                                  · (intro w9 hSw; (try dsimp only at hSw); (go_split_ands; go_simp); (try with_reducible rfl))
                                  try simp only [Act.put, List.setIfInBounds_toArray, List.set_cons_zero, List.set_cons_succ]
                                  refine wpAnyH_take (i := 20) (oi := { dst := some 89, op := Op.fieldAddr 29 (Operand.tmp 88) 0, type := 0, pos := "wage.go:223", after := #[{ on := 19, ground := Ground.data }, { on := 16, ground := Ground.guard }], guard := some (16, true) }) (v := ?_) rfl (by kernel_rfl) (by kernel_rfl) (by kernel_rfl) (fun _ _ _ h => h) (Or.inl ⟨by rfl, ?_⟩) (by assumption) ?_
                                  rotate_left
                                  · (intro w9 hSw; (try dsimp only at hSw); (go_split_ands; go_simp); (try with_reducible rfl))
                                  try simp only [Act.put, List.setIfInBounds_toArray, List.set_cons_zero, List.set_cons_succ]
                                  refine wpAnyH_take (i := 21) (oi := { dst := some 90, op := Op.load 3 (Operand.tmp 89), type := 3, pos := "wage.go:223", after := #[{ on := 20, ground := Ground.data }, { on := 16, ground := Ground.guard }], guard := some (16, true) }) (v := ?_) rfl (by kernel_rfl) (by kernel_rfl) (by kernel_rfl) (fun _ _ _ h => h) (Or.inl ⟨by rfl, ?_⟩) (by assumption) ?_
                                  rotate_left
                                  · (intro w9 hSw; (try dsimp only at hSw); (go_split_ands; go_simp); (try with_reducible rfl))
                                  try simp only [Act.put, List.setIfInBounds_toArray, List.set_cons_zero, List.set_cons_succ]
                                  refine wpAnyH_take (i := 22) (oi := { dst := some 91, op := Op.binOp BinOp.lss 3 (Operand.tmp 87) (Operand.tmp 90) 3, type := 4, pos := "wage.go:223", after := #[{ on := 18, ground := Ground.data }, { on := 21, ground := Ground.data }, { on := 16, ground := Ground.guard }], guard := some (16, true) }) (v := ?_) rfl (by kernel_rfl) (by kernel_rfl) (by kernel_rfl) (fun _ _ _ h => h) (Or.inl ⟨by rfl, ?_⟩) (by assumption) ?_
                                  rotate_left
                                  · (intro w9 hSw; (try dsimp only at hSw); (go_split_ands; go_simp); (try with_reducible rfl))
                                  try simp only [Act.put, List.setIfInBounds_toArray, List.set_cons_zero, List.set_cons_succ]
                                  refine wpAnyH_take (i := 23) (oi := { dst := some 92, op := Op.move (Operand.tmp 91), type := 4, pos := "wage.go:223", after := #[{ on := 22, ground := Ground.data }, { on := 16, ground := Ground.chain }, { on := 16, ground := Ground.guard }], guard := some (16, true) }) (v := ?_) rfl (by kernel_rfl) (by kernel_rfl) (by kernel_rfl) (fun _ _ _ h => h) (Or.inl ⟨by rfl, ?_⟩) (by assumption) ?_
                                  rotate_left
                                  · (intro w9 hSw; (try dsimp only at hSw); (go_split_ands; go_simp); (try with_reducible rfl))
                                  try simp only [Act.put, List.setIfInBounds_toArray, List.set_cons_zero, List.set_cons_succ]
                                  refine wpAnyH_take (i := 24) (oi := { dst := some 93, op := Op.fieldAddr 93 (Operand.tmp 17) 2, type := 0, pos := "wage.go:223", after := #[{ on := 23, ground := Ground.guard }], guard := some (23, false) }) (v := ?_) rfl (by kernel_rfl) (by kernel_rfl) (by kernel_rfl) (fun _ _ _ h => h) (Or.inl ⟨by rfl, ?_⟩) (by assumption) ?_
                                  rotate_left
                                  · (intro w9 hSw; (try dsimp only at hSw); (go_split_ands; go_simp); (try with_reducible rfl))
                                  try simp only [Act.put, List.setIfInBounds_toArray, List.set_cons_zero, List.set_cons_succ]
                                  refine wpAnyH_take (i := 25) (oi := { dst := some 94, op := Op.load 3 (Operand.tmp 93), type := 3, pos := "wage.go:223", after := #[{ on := 24, ground := Ground.data }, { on := 23, ground := Ground.guard }], guard := some (23, false) }) (v := ?_) rfl (by kernel_rfl) (by kernel_rfl) (by kernel_rfl) (fun _ _ _ h => h) (Or.inl ⟨by rfl, ?_⟩) (by assumption) ?_
                                  rotate_left
                                  · (intro w9 hSw; (try dsimp only at hSw); (go_split_ands; go_simp); (try with_reducible rfl))
                                  try simp only [Act.put, List.setIfInBounds_toArray, List.set_cons_zero, List.set_cons_succ]
                                  refine wpAnyH_take (i := 26) (oi := { dst := some 95, op := Op.fieldAddr 58 (Operand.tmp 13) 4, type := 0, pos := "wage.go:223", after := #[{ on := 23, ground := Ground.guard }], guard := some (23, false) }) (v := ?_) rfl (by kernel_rfl) (by kernel_rfl) (by kernel_rfl) (fun _ _ _ h => h) (Or.inl ⟨by rfl, ?_⟩) (by assumption) ?_
                                  rotate_left
                                  · (intro w9 hSw; (try dsimp only at hSw); (go_split_ands; go_simp); (try with_reducible rfl))
                                  try simp only [Act.put, List.setIfInBounds_toArray, List.set_cons_zero, List.set_cons_succ]
                                  refine wpAnyH_take (i := 27) (oi := { dst := some 96, op := Op.fieldAddr 29 (Operand.tmp 95) 0, type := 0, pos := "wage.go:223", after := #[{ on := 26, ground := Ground.data }, { on := 23, ground := Ground.guard }], guard := some (23, false) }) (v := ?_) rfl (by kernel_rfl) (by kernel_rfl) (by kernel_rfl) (fun _ _ _ h => h) (Or.inl ⟨by rfl, ?_⟩) (by assumption) ?_
                                  rotate_left
                                  · (intro w9 hSw; (try dsimp only at hSw); (go_split_ands; go_simp); (try with_reducible rfl))
                                  try simp only [Act.put, List.setIfInBounds_toArray, List.set_cons_zero, List.set_cons_succ]
                                  refine wpAnyH_take (i := 28) (oi := { dst := some 97, op := Op.load 3 (Operand.tmp 96), type := 3, pos := "wage.go:223", after := #[{ on := 27, ground := Ground.data }, { on := 23, ground := Ground.guard }], guard := some (23, false) }) (v := ?_) rfl (by kernel_rfl) (by kernel_rfl) (by kernel_rfl) (fun _ _ _ h => h) (Or.inl ⟨by rfl, ?_⟩) (by assumption) ?_
                                  rotate_left
                                  · (intro w9 hSw; (try dsimp only at hSw); (go_split_ands; go_simp); (try with_reducible rfl))
                                  try simp only [Act.put, List.setIfInBounds_toArray, List.set_cons_zero, List.set_cons_succ]
                                  refine wpAnyH_take (i := 29) (oi := { dst := some 98, op := Op.binOp BinOp.eql 3 (Operand.tmp 94) (Operand.tmp 97) 3, type := 4, pos := "wage.go:223", after := #[{ on := 25, ground := Ground.data }, { on := 28, ground := Ground.data }, { on := 23, ground := Ground.guard }], guard := some (23, false) }) (v := ?_) rfl (by kernel_rfl) (by kernel_rfl) (by kernel_rfl) (fun _ _ _ h => h) (Or.inl ⟨by rfl, ?_⟩) (by assumption) ?_
                                  rotate_left
                                  · (intro w9 hSw; (try dsimp only at hSw); (go_split_ands; go_simp); (try with_reducible rfl))
                                  try simp only [Act.put, List.setIfInBounds_toArray, List.set_cons_zero, List.set_cons_succ]
                                  refine wpAnyH_take (i := 30) (oi := { dst := some 99, op := Op.move (Operand.tmp 98), type := 4, pos := "wage.go:223", after := #[{ on := 29, ground := Ground.data }, { on := 23, ground := Ground.chain }, { on := 23, ground := Ground.guard }], guard := some (23, false) }) (v := ?_) rfl (by kernel_rfl) (by kernel_rfl) (by kernel_rfl) (fun _ _ _ h => h) (Or.inl ⟨by rfl, ?_⟩) (by assumption) ?_
                                  rotate_left
                                  · (intro w9 hSw; (try dsimp only at hSw); (go_split_ands; go_simp); (try with_reducible rfl))
                                  try simp only [Act.put, List.setIfInBounds_toArray, List.set_cons_zero, List.set_cons_succ]
                                  refine wpAnyH_take (i := 31) (oi := { dst := some 100, op := Op.move (Operand.tmp 15), type := 3, pos := "wage.go:223", after := #[{ on := 30, ground := Ground.guard }], guard := some (30, true) }) (v := ?_) rfl (by kernel_rfl) (by kernel_rfl) (by kernel_rfl) (fun _ _ _ h => h) (Or.inl ⟨by rfl, ?_⟩) (by assumption) ?_
                                  rotate_left
                                  · (intro w9 hSw; (try dsimp only at hSw); (go_split_ands; go_simp); (try with_reducible rfl))
                                  try simp only [Act.put, List.setIfInBounds_toArray, List.set_cons_zero, List.set_cons_succ]
                                  refine wpAnyH_take (i := 32) (oi := { dst := some 101, op := Op.move (Operand.tmp 12), type := 3, pos := "wage.go:223", after := #[{ on := 30, ground := Ground.guard }], guard := some (30, true) }) (v := ?_) rfl (by kernel_rfl) (by kernel_rfl) (by kernel_rfl) (fun _ _ _ h => h) (Or.inl ⟨by rfl, ?_⟩) (by assumption) ?_
                                  rotate_left
                                  · (intro w9 hSw; (try dsimp only at hSw); (go_split_ands; go_simp); (try with_reducible rfl))
                                  try simp only [Act.put, List.setIfInBounds_toArray, List.set_cons_zero, List.set_cons_succ]
                                  refine wpAnyH_take (i := 33) (oi := { dst := some 102, op := Op.binOp BinOp.lss 3 (Operand.tmp 100) (Operand.tmp 101) 3, type := 4, pos := "wage.go:223", after := #[{ on := 31, ground := Ground.data }, { on := 32, ground := Ground.data }, { on := 30, ground := Ground.guard }], guard := some (30, true) }) (v := ?_) rfl (by kernel_rfl) (by kernel_rfl) (by kernel_rfl) (fun _ _ _ h => h) (Or.inl ⟨by rfl, ?_⟩) (by assumption) ?_
                                  rotate_left
                                  · (intro w9 hSw; (try dsimp only at hSw); (go_split_ands; go_simp); (try with_reducible rfl))
                                  try simp only [Act.put, List.setIfInBounds_toArray, List.set_cons_zero, List.set_cons_succ]
                                  refine wpAnyH_take (i := 34) (oi := { dst := some 103, op := Op.pick (Operand.tmp 99) (Operand.tmp 102) (Operand.const (Value.bool false)), type := 4, pos := "wage.go:223", after := #[{ on := 30, ground := Ground.data }, { on := 33, ground := Ground.data }, { on := 23, ground := Ground.guard }], guard := some (23, false) }) (v := ?_) rfl (by kernel_rfl) (by kernel_rfl) (by kernel_rfl) (fun _ _ _ h => h) (Or.inl ⟨by rfl, ?_⟩) (by assumption) ?_
                                  rotate_left
                                  · (intro w9 hSw; (try dsimp only at hSw); (go_split_ands; go_simp); (try with_reducible rfl))
                                  try simp only [Act.put, List.setIfInBounds_toArray, List.set_cons_zero, List.set_cons_succ]
                                  refine wpAnyH_take (i := 35) (oi := { dst := some 104, op := Op.pick (Operand.tmp 92) (Operand.const (Value.bool true)) (Operand.tmp 103), type := 4, pos := "wage.go:223", after := #[{ on := 23, ground := Ground.data }, { on := 34, ground := Ground.data }, { on := 16, ground := Ground.guard }], guard := some (16, true) }) (v := ?_) rfl (by kernel_rfl) (by kernel_rfl) (by kernel_rfl) (fun _ _ _ h => h) (Or.inl ⟨by rfl, ?_⟩) (by assumption) ?_
                                  rotate_left
                                  · (intro w9 hSw; (try dsimp only at hSw); (go_split_ands; go_simp); (try with_reducible rfl))
                                  try simp only [Act.put, List.setIfInBounds_toArray, List.set_cons_zero, List.set_cons_succ]
                                  refine wpAnyH_take (i := 36) (oi := { dst := some 105, op := Op.pick (Operand.tmp 85) (Operand.tmp 104) (Operand.const (Value.bool false)), type := 4, pos := "wage.go:223", after := #[{ on := 16, ground := Ground.data }, { on := 35, ground := Ground.data }], guard := none }) (v := ?_) rfl (by kernel_rfl) (by kernel_rfl) (by kernel_rfl) (fun _ _ _ h => h) (Or.inl ⟨by rfl, ?_⟩) (by assumption) ?_
                                  rotate_left
                                  · (intro w9 hSw; (try dsimp only at hSw); (go_split_ands; go_simp); (try with_reducible rfl))
                                  try simp only [Act.put, List.setIfInBounds_toArray, List.set_cons_zero, List.set_cons_succ]
                                  refine wpAnyH_done (by kernel_rfl) ?_ _
                                  refine NoPanic.normal ?_
                                  clear hHeld
                                  go_wp2_with fail
                                  refine ⟨⟨k + 1, hltk, by go_num, fun j hj => ?_, Z1.out.y⟩, by simp [intOf]; omega⟩
                                  by_cases e : j = k
                                  · rw [e]; have := N4.out; have := N6.out; simp [beats]; intros; omega
                                  · exact HO.out j (by omega)
                    · obtain rfl : k = tn := by omega
                      have hcb : canBy T k c s fn m = true := by
                        simp only [canBy, Bool.and_eq_true, decide_eq_true_eq, List.all_eq_true]
                        refine ⟨⟨by simpa using e1, ?_⟩, fun j hj => ?_⟩
                        · simp only [hasB, Bool.and_eq_true, decide_eq_true_eq]
                          have h3 := HFB.out.symm.trans hb1
                          simp only [Bool.and_eq_true, decide_eq_true_eq] at h3
                          exact ⟨⟨by simpa using e2, h3.1⟩, h3.2⟩
                        · rw [HO.out j (by simpa using hj)]; rfl
                      have HC := Lib.hid (setI_yes hcb)
                      clear hcb
                      have hsl := setI_lt T k s fn c m
                      have h2c : 2 ^ (c + 1) ≤ 2 ^ 4 := Nat.pow_le_pow_right (by omega) (by omega)
                      have HOR := Lib.hid (or_shl (setI T k s fn c m) c (by omega) (by omega))
                      clear h2c hsl
                      go_wp2_with fail
                      exact ⟨⟨m + 1, hltm, by go_num, by rw [HOR.out, HC.out], HI.out.y⟩, by simp [intOf]; omega⟩
                · refine wp_region_noPanic ?_
                  refine wp_region_held_drew (S := (fun w' => (w'.cell? ⟨wr.heap.size + 1, 0, none⟩ = some (.int .i64 c) ∧ w'.cell? ⟨wr.heap.size, 0, none⟩ = some (.int .i64 (T m).crew) ∧ w'.cell? ⟨wr.heap.size, 1, none⟩ = some (.int .i64 (T m).seam) ∧ w'.cell? ⟨wr.heap.size, 2, none⟩ = some (.int .i64 (T m).fl) ∧ w'.cell? ⟨wr.heap.size, 3, none⟩ = some (.int .i64 (T m).fh) ∧ w'.cell? ⟨wr.heap.size, 4, none⟩ = some (.int .i64 (T m).tl) ∧ w'.cell? ⟨wr.heap.size, 5, none⟩ = some (.int .i64 (T m).th) ∧ w'.cell? ⟨wr.heap.size, 6, none⟩ = some (.int .i64 (T m).dl) ∧ w'.cell? ⟨wr.heap.size, 7, none⟩ = some (.int .i64 (T m).dh) ∧ w'.cell? ⟨w.heap.size + 1 + 1, 0, none⟩ = some (.int .i64 fn)) ∧ Y3 w bx #[.int .i64 cn, .slice sa sn sc, .slice ta tn tc] s fn wr.heap.size (wr.heap.size + 1) (T m) c w')) (by kernel_rfl) (Y3.cells12 J3.out) (fun hHeld => ?_)
                  refine wpAnyH_take (i := 0) (oi := { dst := some 48, op := Op.load 83 (Operand.tmp 14), type := 83, pos := "wage.go:218", after := #[], guard := none }) (v := ?_) rfl (by kernel_rfl) (by kernel_rfl) (by kernel_rfl) (fun _ _ _ h => h) (Or.inl ⟨by rfl, ?_⟩) (by assumption) ?_
                  rotate_left
                  · (intro w9 hSw; (try dsimp only at hSw); (go_split_ands; go_simp); (try with_reducible rfl))
                  try simp only [Act.put, List.setIfInBounds_toArray, List.set_cons_zero, List.set_cons_succ]
                  refine wpAnyH_take (i := 1) (oi := { dst := some 49, op := Op.move (Operand.tmp 12), type := 3, pos := "wage.go:218", after := #[], guard := none }) (v := ?_) rfl (by kernel_rfl) (by kernel_rfl) (by kernel_rfl) (fun _ _ _ h => h) (Or.inl ⟨by rfl, ?_⟩) (by assumption) ?_
                  rotate_left
                  · (intro w9 hSw; (try dsimp only at hSw); (go_split_ands; go_simp); (try with_reducible rfl))
                  try simp only [Act.put, List.setIfInBounds_toArray, List.set_cons_zero, List.set_cons_succ]
                  refine wpAnyH_take (i := 2) (oi := { dst := some 50, op := Op.load 58 (Operand.tmp 13), type := 58, pos := "wage.go:218", after := #[], guard := none }) (v := ?_) rfl (by kernel_rfl) (by kernel_rfl) (by kernel_rfl) (fun _ _ _ h => h) (Or.inl ⟨by rfl, ?_⟩) (by assumption) ?_
                  rotate_left
                  · (intro w9 hSw; (try dsimp only at hSw); (go_split_ands; go_simp); (try with_reducible rfl))
                  try simp only [Act.put, List.setIfInBounds_toArray, List.set_cons_zero, List.set_cons_succ]
                  refine wpAnyH_take (i := 5) (oi := { dst := some 53, op := Op.load 3 (Operand.tmp 5), type := 3, pos := "wage.go:218", after := #[], guard := none }) (v := ?_) rfl (by kernel_rfl) (by kernel_rfl) (by kernel_rfl) (fun _ _ _ h => h) (Or.inl ⟨by rfl, ?_⟩) (by assumption) ?_
                  rotate_left
                  · (intro w9 hSw; (try dsimp only at hSw); (go_split_ands; go_simp); (try with_reducible rfl))
                  try simp only [Act.put, List.setIfInBounds_toArray, List.set_cons_zero, List.set_cons_succ]
                  refine wpAnyH_ready (rs := [3]) (by kernel_rfl) (by simp) ?_
                  refine AllReadyH.cons (o := { dst := some 51, op := Op.call { callee := Callee.value (Operand.func 58), args := #[Operand.tmp 48, Operand.tmp 49, Operand.tmp 50], argTypes := #[83, 3, 58] }, type := 93, pos := "wage.go:218", after := #[{ on := 0, ground := Ground.data }, { on := 1, ground := Ground.data }, { on := 2, ground := Ground.data }], guard := none }) rfl (fun K hK => ?_) AllReadyH.nil
                  go_simp
                  go_at_call 58; refine (most_ofK c m T m _).mono ?_; rintro e w5 ⟨rfl, hb5⟩; have B5 := Lib.hid hb5; clear hb5
                  go_wp2_with fail
                  refine hK.out _ _ ?_ (fun hHeld => ?_)
                  · exact Y3.cells12 (Y3.grow J3.out B5.out)
                  clear hK K
                  try simp only [Act.put, List.setIfInBounds_toArray, List.set_cons_zero, List.set_cons_succ]
                  have J4 := Lib.hid hHeld.2
                  refine wpAnyH_ready (rs := [4]) (by kernel_rfl) (by simp) ?_
                  refine AllReadyH.cons (o := { dst := some 52, op := Op.call { callee := Callee.value (Operand.func 59), args := #[Operand.tmp 51], argTypes := #[93] }, type := 91, pos := "wage.go:218", after := #[{ on := 3, ground := Ground.data }, { on := 3, ground := Ground.chain }], guard := none }) rfl (fun K hK => ?_) AllReadyH.nil
                  go_simp
                  go_at_call 59; refine (known_fathoms_any _ _ _ _ k0 k1 k2 k3).mono ?_; rintro e w6 ⟨rfl, hb6⟩; have B6 := Lib.hid hb6; clear hb6
                  go_wp2_with fail
                  refine hK.out _ _ ?_ (fun hHeld => ?_)
                  · exact Y3.cells12 (Y3.grow J4.out B6.out)
                  clear hK K
                  try simp only [Act.put, List.setIfInBounds_toArray, List.set_cons_zero, List.set_cons_succ]
                  have J5 := Lib.hid hHeld.2
                  refine wpAnyH_ready (rs := [6]) (by kernel_rfl) (by simp) ?_
                  refine AllReadyH.cons (o := { dst := some 54, op := Op.call { callee := Callee.value (Operand.func 60), args := #[Operand.tmp 52, Operand.tmp 53], argTypes := #[91, 3] }, type := 4, pos := "wage.go:218", after := #[{ on := 4, ground := Ground.data }, { on := 5, ground := Ground.data }, { on := 4, ground := Ground.chain }], guard := none }) rfl (fun K hK => ?_) AllReadyH.nil
                  go_simp
                  go_at_call 60; refine (has_any _ _ _ hfm2 hfn).mono ?_; rintro e w7 ⟨rfl, rfl⟩
                  go_wp2_with fail
                  refine hK.out _ _ ?_ (fun hHeld => ?_)
                  · assumption
                  clear hK K
                  try simp only [Act.put, List.setIfInBounds_toArray, List.set_cons_zero, List.set_cons_succ]
                  refine wpAnyH_take (i := 7) (oi := { dst := some 55, op := Op.unOp UnOp.not 4 (Operand.tmp 54), type := 4, pos := "wage.go:218", after := #[{ on := 6, ground := Ground.data }], guard := none }) (v := ?_) rfl (by kernel_rfl) (by kernel_rfl) (by kernel_rfl) (fun _ _ _ h => h) (Or.inl ⟨by rfl, ?_⟩) (by assumption) ?_
                  rotate_left
                  · (intro w9 hSw; (try dsimp only at hSw); (go_split_ands; go_simp); (try with_reducible rfl))
                  try simp only [Act.put, List.setIfInBounds_toArray, List.set_cons_zero, List.set_cons_succ]
                  refine wpAnyH_done (by kernel_rfl) ?_ _
                  refine NoPanic.normal ?_
                  clear hHeld
                  have hcb : canBy T tn c s fn m = false := by
                    have h3 := HFB.out.symm.trans hb1
                    simp only [canBy, hasB]
                    rw [Bool.and_assoc (decide ((T m).seam = s)), h3]
                    simp
                  have HC := Lib.hid (setI_no hcb)
                  clear hcb
                  go_wp2_with fail
                  exact ⟨⟨m + 1, hltm, by go_num, by rw [HC.out], J5.out.y⟩, by simp [intOf]; omega⟩
              · have hcb : canBy T tn c s fn m = false := by
                  have : (T m).seam ≠ s := by simpa using e2
                  simp [canBy, hasB, this]
                have HC := Lib.hid (setI_no hcb)
                clear hcb
                go_wp2_with fail
                exact ⟨⟨m + 1, hltm, by go_num, by rw [HC.out], HI.out.grow ((Below.refl _ _).alloc (Nat.le_refl _) _)⟩, by simp [intOf]; omega⟩
            · clear hc2
              have hcb : canBy T tn c s fn m = false := by
                have : (T m).crew ≠ c := by simpa using e1
                simp [canBy, this]
              have HC := Lib.hid (setI_no hcb)
              clear hcb
              go_wp2_with fail
              exact ⟨⟨m + 1, hltm, by go_num, by rw [HC.out], HI.out.grow ((Below.refl _ _).alloc (Nat.le_refl _) _)⟩, by simp [intOf]; omega⟩
          · obtain rfl : m = tn := by omega
            go_wp2_with fail
            simp only [Exit.noGoto, Exit.inBlock, Exit.then]
            go_wp2_with fail
            exact ⟨⟨c + 1, hlt, by go_num, by rw [setI_full], HI.out⟩, by simp [intOf]; omega⟩
      · obtain rfl : c = cn := by omega
        have J0 := Lib.hid (show Y1 w bx #[.int .i64 c, .slice sa sn sc, .slice ta tn tc] s fn wr.drew from HI.out.grow (Below.drew (Below.refl _ _)))
        have CO := Lib.hid (fun W' (hb : Below w.heap.size w W') => owned_any c sa ta sn sc tn tc S T (mostK (-1) T) W' (HS.out.grow hb) (HT.out.grow hb) HV.out.sn3 HV.out.tn6 HV.out.fat HV.out.tkOk (HV.out.most (-1)) 83 _ 58 (truth_most W' (-1) tn T))
        have hcnt := Lib.hid (fun g hp => foldG_bits (g := g) HV.out.fat HV.out.sn3 HV.out.tkOk (HV.out.most (-1)) hp s0 (by omega) (-1) (by decide) fn)
        have hsm := Lib.hid (fun g => SmallG.fold S sn T (mostK (-1) T) g HV.out.fat tn)
        have hd : pdom s (-1) := ⟨s0, by have := HV.out.sn3; omega, by decide, by decide⟩
        have hfn : fn ≤ 31 := by omega
        clear b0 b1 b2
        go_wp2_with fail
        refine wp_region_noPanic ?_
        refine wp_region_held_drew (S := (fun w' => (w'.cell? ⟨bx, 0, none⟩ = some (.int .i64 c) ∧ w'.cell? ⟨bx, 1, none⟩ = some (.slice sa sn sc) ∧ w'.cell? ⟨bx, 2, none⟩ = some (.slice ta tn tc) ∧ w'.cell? ⟨w.heap.size + 1, 0, none⟩ = some (.int .i64 s) ∧ w'.cell? ⟨w.heap.size + 1 + 1, 0, none⟩ = some (.int .i64 fn)) ∧ Y0 w bx #[.int .i64 c, .slice sa sn sc, .slice ta tn tc] s fn w')) (by kernel_rfl) (Y0.cells J0.out.y0) (fun hHeld => ?_)
        refine wpAnyH_take (i := 0) (oi := { dst := some 113, op := Op.move (Operand.tmp 10), type := 3, pos := "wage.go:230", after := #[], guard := none }) (v := ?_) rfl (by kernel_rfl) (by kernel_rfl) (by kernel_rfl) (fun _ _ _ h => h) (Or.inl ⟨by rfl, ?_⟩) (by assumption) ?_
        rotate_left
        · (intro w9 hSw; (try dsimp only at hSw); (go_split_ands; go_simp); (try with_reducible rfl))
        try simp only [Act.put, List.setIfInBounds_toArray, List.set_cons_zero, List.set_cons_succ]
        refine wpAnyH_take (i := 1) (oi := { dst := some 114, op := Op.load 77 (Operand.tmp 9), type := 77, pos := "wage.go:230", after := #[], guard := none }) (v := ?_) rfl (by kernel_rfl) (by kernel_rfl) (by kernel_rfl) (fun _ _ _ h => h) (Or.inl ⟨by rfl, ?_⟩) (by assumption) ?_
        rotate_left
        · (intro w9 hSw; (try dsimp only at hSw); (go_split_ands; go_simp); (try with_reducible rfl))
        try simp only [Act.put, List.setIfInBounds_toArray, List.set_cons_zero, List.set_cons_succ]
        refine wpAnyH_take (i := 2) (oi := { dst := some 115, op := Op.build 83 #[(0, Operand.const (Value.int IntKind.i64 (-1)))], type := 83, pos := "wage.go:230", after := #[], guard := none }) (v := ?_) rfl (by kernel_rfl) (by kernel_rfl) (by kernel_rfl) (fun _ _ _ h => h) (Or.inl ⟨by rfl, ?_⟩) (by assumption) ?_
        rotate_left
        · (intro w9 hSw; (try dsimp only at hSw); (go_split_ands; go_simp); (try with_reducible rfl))
        try simp only [Act.put, List.setIfInBounds_toArray, List.set_cons_zero, List.set_cons_succ]
        refine wpAnyH_take (i := 3) (oi := { dst := some 116, op := Op.makeInterface 83 (Operand.tmp 115), type := 139, pos := "wage.go:230", after := #[{ on := 2, ground := Ground.data }], guard := none }) (v := ?_) rfl (by kernel_rfl) (by kernel_rfl) (by kernel_rfl) (fun _ _ _ h => h) (Or.inl ⟨by rfl, ?_⟩) (by assumption) ?_
        rotate_left
        · (intro w9 hSw; (try dsimp only at hSw); (go_split_ands; go_simp); (try with_reducible rfl))
        try simp only [Act.put, List.setIfInBounds_toArray, List.set_cons_zero, List.set_cons_succ]
        refine wpAnyH_take (i := 5) (oi := { dst := some 118, op := Op.load 3 (Operand.tmp 4), type := 3, pos := "wage.go:230", after := #[], guard := none }) (v := ?_) rfl (by kernel_rfl) (by kernel_rfl) (by kernel_rfl) (fun _ _ _ h => h) (Or.inl ⟨by rfl, ?_⟩) (by assumption) ?_
        rotate_left
        · (intro w9 hSw; (try dsimp only at hSw); (go_split_ands; go_simp); (try with_reducible rfl))
        try simp only [Act.put, List.setIfInBounds_toArray, List.set_cons_zero, List.set_cons_succ]
        refine wpAnyH_take (i := 6) (oi := { dst := some 119, op := Op.build 99 #[(0, Operand.tmp 118), (1, Operand.const (Value.int IntKind.i64 (-1)))], type := 99, pos := "wage.go:230", after := #[{ on := 5, ground := Ground.data }], guard := none }) (v := ?_) rfl (by kernel_rfl) (by kernel_rfl) (by kernel_rfl) (fun _ _ _ h => h) (Or.inl ⟨by rfl, ?_⟩) (by assumption) ?_
        rotate_left
        · (intro w9 hSw; (try dsimp only at hSw); (go_split_ands; go_simp); (try with_reducible rfl))
        try simp only [Act.put, List.setIfInBounds_toArray, List.set_cons_zero, List.set_cons_succ]
        refine wpAnyH_take (i := 8) (oi := { dst := some 121, op := Op.load 3 (Operand.tmp 5), type := 3, pos := "wage.go:230", after := #[], guard := none }) (v := ?_) rfl (by kernel_rfl) (by kernel_rfl) (by kernel_rfl) (fun _ _ _ h => h) (Or.inl ⟨by rfl, ?_⟩) (by assumption) ?_
        rotate_left
        · (intro w9 hSw; (try dsimp only at hSw); (go_split_ands; go_simp); (try with_reducible rfl))
        try simp only [Act.put, List.setIfInBounds_toArray, List.set_cons_zero, List.set_cons_succ]
        refine wpAnyH_ready (rs := [4]) (by kernel_rfl) (by simp) ?_
        refine AllReadyH.cons (o := { dst := some 117, op := Op.call { callee := Callee.value (Operand.func 61), args := #[Operand.tmp 114, Operand.tmp 116], argTypes := #[77, 139] }, type := 96, pos := "wage.go:230", after := #[{ on := 1, ground := Ground.data }, { on := 3, ground := Ground.data }], guard := none }) rfl (fun K hK => ?_) AllReadyH.nil
        go_simp
        go_at_call 61; refine (CO.out _ J0.out.bel).mono ?_; rintro e w5 ⟨B, n, G, rfl, hmp, hb5, hBB, g, hp, hG⟩; have J1 := Lib.hid (J0.out.grow hb5); have l1 := hmp.look hd; have HE := Lib.hid (hcnt.out g hp); have hlG := hsm.out g s (-1); rw [← hG] at HE hlG; clear hmp hb5 hBB hp hG
        go_wp2_with fail
        refine hK.out _ _ ?_ (fun hHeld => ?_)
        · exact Y0.cells J1.out.y0
        clear hK K
        try simp only [Act.put, List.setIfInBounds_toArray, List.set_cons_zero, List.set_cons_succ]
        refine wpAnyH_ready (rs := [7]) (by kernel_rfl) (by simp) ?_
        refine AllReadyH.cons (o := { dst := some 120, op := Op.lookup 96 (Operand.tmp 117) (Operand.tmp 119) false, type := 91, pos := "wage.go:230", after := #[{ on := 4, ground := Ground.data }, { on := 6, ground := Ground.data }], guard := none }) rfl (fun K hK => ?_) AllReadyH.nil
        go_simp
        skip
        go_wp2_with fail
        refine hK.out _ _ ?_ (fun hHeld => ?_)
        · assumption
        clear hK K
        try simp only [Act.put, List.setIfInBounds_toArray, List.set_cons_zero, List.set_cons_succ]
        have hlG2 : G s (-1) < 4294967296 := by omega
        refine wpAnyH_ready (rs := [9]) (by kernel_rfl) (by simp) ?_
        refine AllReadyH.cons (o := { dst := some 122, op := Op.call { callee := Callee.value (Operand.func 60), args := #[Operand.tmp 120, Operand.tmp 121], argTypes := #[91, 3] }, type := 4, pos := "wage.go:230", after := #[{ on := 7, ground := Ground.data }, { on := 8, ground := Ground.data }, { on := 4, ground := Ground.chain }], guard := none }) rfl (fun K hK => ?_) AllReadyH.nil
        go_simp
        go_at_call 60; refine (has_any _ _ _ hlG2 hfn).mono ?_; rintro e w11 ⟨rfl, rfl⟩
        go_wp2_with fail
        refine hK.out _ _ ?_ (fun hHeld => ?_)
        · assumption
        clear hK K
        try simp only [Act.put, List.setIfInBounds_toArray, List.set_cons_zero, List.set_cons_succ]
        refine wpAnyH_ready (rs := [10]) (by kernel_rfl) (by simp) ?_
        refine AllReadyH.cons (o := { dst := some 6, op := Op.assign (Operand.tmp 113), type := 3, pos := "wage.go:230", after := #[{ on := 0, ground := Ground.data }, { on := 9, ground := Ground.chain }, { on := 0, ground := Ground.phase }, { on := 1, ground := Ground.textOnly Departure.lateStoresUnsure }, { on := 2, ground := Ground.textOnly Departure.lateStoresUnsure }, { on := 3, ground := Ground.textOnly Departure.lateStoresUnsure }, { on := 4, ground := Ground.textOnly Departure.lateStoresUnsure }, { on := 5, ground := Ground.textOnly Departure.lateStoresUnsure }, { on := 6, ground := Ground.textOnly Departure.lateStoresUnsure }, { on := 7, ground := Ground.textOnly Departure.lateStoresUnsure }, { on := 8, ground := Ground.textOnly Departure.lateStoresUnsure }, { on := 9, ground := Ground.textOnly Departure.lateStoresUnsure }], guard := none }) rfl (fun K hK => ?_) AllReadyH.nil
        go_simp
        skip
        go_wp2_with fail
        refine hK.out _ _ ?_ (fun hHeld => ?_)
        · assumption
        clear hK K
        try simp only [Act.put, List.setIfInBounds_toArray, List.set_cons_zero, List.set_cons_succ]
        refine wpAnyH_ready (rs := [11]) (by kernel_rfl) (by simp) ?_
        refine AllReadyH.cons (o := { dst := some 7, op := Op.assign (Operand.tmp 122), type := 4, pos := "wage.go:230", after := #[{ on := 9, ground := Ground.data }, { on := 10, ground := Ground.chain }, { on := 0, ground := Ground.phase }, { on := 1, ground := Ground.phase }, { on := 2, ground := Ground.phase }, { on := 3, ground := Ground.phase }, { on := 4, ground := Ground.phase }, { on := 5, ground := Ground.phase }, { on := 6, ground := Ground.phase }, { on := 7, ground := Ground.phase }, { on := 8, ground := Ground.phase }, { on := 9, ground := Ground.phase }, { on := 10, ground := Ground.phase }], guard := none }) rfl (fun K hK => ?_) AllReadyH.nil
        go_simp
        skip
        go_wp2_with fail
        refine hK.out _ _ ?_ (fun hHeld => ?_)
        · assumption
        clear hK K
        try simp only [Act.put, List.setIfInBounds_toArray, List.set_cons_zero, List.set_cons_succ]
        have r2 := cellAt J1.out.r1 0
        have f2 := freeAt J1.out.r1 0
        simp only [List.getElem?_toArray, List.getElem?_cons_zero] at r2
        refine wpAnyH_ready (rs := [12]) (by kernel_rfl) (by simp) ?_
        refine AllReadyH.cons (o := { dst := none, op := Op.store 30 (Operand.tmp 8) (Operand.const (Value.int IntKind.i64 0)), type := 0, pos := "wage.go:230", after := #[{ on := 11, ground := Ground.chain }, { on := 0, ground := Ground.phase }, { on := 1, ground := Ground.phase }, { on := 2, ground := Ground.phase }, { on := 3, ground := Ground.phase }, { on := 4, ground := Ground.phase }, { on := 5, ground := Ground.phase }, { on := 6, ground := Ground.phase }, { on := 7, ground := Ground.phase }, { on := 8, ground := Ground.phase }, { on := 9, ground := Ground.phase }, { on := 10, ground := Ground.phase }, { on := 11, ground := Ground.phase }], guard := none }) rfl (fun K hK => ?_) AllReadyH.nil
        go_simp
        skip
        go_wp2_with fail
        refine hK.out _ _ ?_ (fun hHeld => ?_)
        · exact Y0.cells (Y0.set J1.out.y0 _)
        clear hK K
        try simp only [Act.put, List.setIfInBounds_toArray, List.set_cons_zero, List.set_cons_succ]
        have J4 := Lib.hid hHeld.2
        refine wpAnyH_done (by kernel_rfl) ?_ _
        refine NoPanic.normal ?_
        clear hHeld
        go_wp2_with fail
        refine leaves_cons (f := 45) (args := #[bp (w.heap.size + 1 + 1 + 1)]) (by simp) (by simp [go_sem]) ?_
        refine (answer_idle _ _).mono ?_
        rintro e u' w'' ⟨rfl, rfl, rfl⟩
        have hfx : decide ((fn : Int) < (S s.toNat).fat) = true := by simp; omega
        have HE2 := HE.out
        rw [hfx, Bool.true_and] at HE2
        simp [Leaves, settle, results, Try.results19, go_sem, r2]
        refine ⟨J4.out.bel, .inl ⟨HV.out, HT2.out, ?_⟩⟩
        rw [HE2]
  · have HV := Lib.hid hv
    have HT2 := Lib.hid hbf
    clear hv hbf
    simp only [err]
    go_wp2_with fail
    refine leaves_cons (f := 45) (args := #[bp (w.heap.size + 1 + 1 + 1)]) (by simp) (by simp [go_sem]) ?_
    refine (answer_panicking _ 0 2 [] _ Q3'.out).mono ?_
    rintro e u' w'' ⟨rfl, rfl, rfl⟩
    have r2 := cellAt Q3'.out 0
    simp only [List.getElem?_toArray, List.getElem?_cons_zero] at r2
    simp [Leaves, settle, results, Try.results19, go_sem, r2]
    exact ⟨(HB.out.next B1.out).setCell (by dsimp only; omega) _, .inr (.inl ⟨HV.out, HT2.out, rfl⟩)⟩
  · have HV := Lib.hid hnv
    clear hnv
    simp only [err]
    go_wp2_with fail
    refine leaves_cons (f := 45) (args := #[bp (w.heap.size + 1 + 1 + 1)]) (by simp) (by simp [go_sem]) ?_
    refine (answer_panicking _ 0 1 [] _ Q3'.out).mono ?_
    rintro e u' w'' ⟨rfl, rfl, rfl⟩
    have r2 := cellAt Q3'.out 0
    simp only [List.getElem?_toArray, List.getElem?_cons_zero] at r2
    simp [Leaves, settle, results, Try.results19, go_sem, r2]
    exact ⟨(HB.out.next B1.out).setCell (by dsimp only; omega) _, .inr (.inr ⟨HV.out, rfl⟩)⟩
end Go.Proofs.Ytbpeamppkdmdcaa
