/-
  No cell of these rows narrows 'for every input' (looked for: loops, veiled, ifaces, maps, wideKeys, modest, calm, conditions, laid).
  DERIVED. THE GIVEN ROWS OF THIS SEAT. 10 by the template 'for every input the law returns true; each argument reads behind the call as it read before'; 0 by the template 'total and deterministic' (their statements: YtbpeamppkdmdcaaTotals.lean).
  GIVEN WITH THE SEED: the statements are not yours to turn. If you find one false, say at which input.
  Laid BY PROGRAM, IN A SANDBOX (cutbox-rows.mjs): the forced cells as the released guide's own fill.sh prints them over the translation aa1f369d6d9a899a… (all of the seat's roots in one cut). By AI agents, Wed Nov 11 2026. No macro, syntax, notation, axiom, sorry.
-/
import Derived.Test.YtbpeamppkdmdcaaChecked
import GoSem.Claim
import GoSem.ClaimJoined
import GoSem.ClaimMapViews
import Derived.JoinedTies
import Derived.KernelRfl
namespace Go.Proofs.Ytbpeamppkdmdcaa
/- THE CELL 'sum', in the pinned program and in every row, IS THE sha256 OF THE DUMP (.gsa) THAT YtbpeamppkdmdcaaProg.lean LOADS. Nothing in Lean hashes anything: it is a label: what it is worth is what the hold of that sum in a sandbox is worth. -/
noncomputable def Try.pinned : Pinned := { name := "ytbpeamppkdmdcaa", sum := "aa1f369d6d9a899ad01c7a63752995e72e77961abaf1b8adfbd6def20b10b955", checked := Try.checked }
namespace Rows
def none {H : Type} : Left H := { results := [], args := [] }

/-- 'caulkworkslaw12.WageReads': WHATEVER THE INPUT: true; the input reads as it did. -/
def wageReadsSpec : ChangeSpec := { name := "wageReads", fn := fun _ => fun
  | [d1, d2, d3, d4] => { results := [.lit (.bool true)], args := [d1, d2, d3, d4] }
  | _ => none }
def wageReadsRow : OpenClaim := { program := "ytbpeamppkdmdcaa", sum := "aa1f369d6d9a899ad01c7a63752995e72e77961abaf1b8adfbd6def20b10b955", func := "caulkworks/caulkworkslaw12.WageReads", spec := "wageReads", unfollowed := true, recurses := true, plainKeys := false, apart := false }
def WageReadsSaid : Prop := wageReadsRow.holds Try.pinned (OpenSpec.ofChange wageReadsSpec)

/-- ITS FALSE NEIGHBOUR: 'it returns false'. Refute it at one input. -/
def wageReadsWrong : ChangeSpec := { name := "wageReads", fn := fun _ => fun
  | [d1, d2, d3, d4] => { results := [.lit (.bool false)], args := [d1, d2, d3, d4] }
  | _ => none }
def WageReadsWrongFalsely : Prop := wageReadsRow.holds Try.pinned (OpenSpec.ofChange wageReadsWrong)

/-- 'caulkworkslaw12.WageCoins': WHATEVER THE INPUT: true; the input reads as it did. -/
def wageCoinsSpec : ChangeSpec := { name := "wageCoins", fn := fun _ => fun
  | [d1, d2, d3, d4, d5] => { results := [.lit (.bool true)], args := [d1, d2, d3, d4, d5] }
  | _ => none }
def wageCoinsRow : OpenClaim := { program := "ytbpeamppkdmdcaa", sum := "aa1f369d6d9a899ad01c7a63752995e72e77961abaf1b8adfbd6def20b10b955", func := "caulkworks/caulkworkslaw12.WageCoins", spec := "wageCoins", unfollowed := true, recurses := true, plainKeys := false, apart := false }
def WageCoinsSaid : Prop := wageCoinsRow.holds Try.pinned (OpenSpec.ofChange wageCoinsSpec)

/-- ITS FALSE NEIGHBOUR: 'it returns false'. Refute it at one input. -/
def wageCoinsWrong : ChangeSpec := { name := "wageCoins", fn := fun _ => fun
  | [d1, d2, d3, d4, d5] => { results := [.lit (.bool false)], args := [d1, d2, d3, d4, d5] }
  | _ => none }
def WageCoinsWrongFalsely : Prop := wageCoinsRow.holds Try.pinned (OpenSpec.ofChange wageCoinsWrong)

/-- 'caulkworkslaw12.WageAsks': WHATEVER THE INPUT: true; the input reads as it did. -/
def wageAsksSpec : ChangeSpec := { name := "wageAsks", fn := fun _ => fun
  | [d1, d2, d3, d4] => { results := [.lit (.bool true)], args := [d1, d2, d3, d4] }
  | _ => none }
def wageAsksRow : OpenClaim := { program := "ytbpeamppkdmdcaa", sum := "aa1f369d6d9a899ad01c7a63752995e72e77961abaf1b8adfbd6def20b10b955", func := "caulkworks/caulkworkslaw12.WageAsks", spec := "wageAsks", unfollowed := true, recurses := true, plainKeys := false, apart := false }
def WageAsksSaid : Prop := wageAsksRow.holds Try.pinned (OpenSpec.ofChange wageAsksSpec)

/-- ITS FALSE NEIGHBOUR: 'it returns false'. Refute it at one input. -/
def wageAsksWrong : ChangeSpec := { name := "wageAsks", fn := fun _ => fun
  | [d1, d2, d3, d4] => { results := [.lit (.bool false)], args := [d1, d2, d3, d4] }
  | _ => none }
def WageAsksWrongFalsely : Prop := wageAsksRow.holds Try.pinned (OpenSpec.ofChange wageAsksWrong)

/-- 'caulkworkslaw12.WageTrue': WHATEVER THE INPUT: true; the input reads as it did. -/
def wageTrueSpec : ChangeSpec := { name := "wageTrue", fn := fun _ => fun
  | [d1, d2] => { results := [.lit (.bool true)], args := [d1, d2] }
  | _ => none }
def wageTrueRow : OpenClaim := { program := "ytbpeamppkdmdcaa", sum := "aa1f369d6d9a899ad01c7a63752995e72e77961abaf1b8adfbd6def20b10b955", func := "caulkworks/caulkworkslaw12.WageTrue", spec := "wageTrue", unfollowed := true, recurses := true, plainKeys := false, apart := false }
def WageTrueSaid : Prop := wageTrueRow.holds Try.pinned (OpenSpec.ofChange wageTrueSpec)

/-- ITS FALSE NEIGHBOUR: 'it returns false'. Refute it at one input. -/
def wageTrueWrong : ChangeSpec := { name := "wageTrue", fn := fun _ => fun
  | [d1, d2] => { results := [.lit (.bool false)], args := [d1, d2] }
  | _ => none }
def WageTrueWrongFalsely : Prop := wageTrueRow.holds Try.pinned (OpenSpec.ofChange wageTrueWrong)

/-- 'caulkworkslaw12.WageEnds': WHATEVER THE INPUT: true; the input reads as it did. -/
def wageEndsSpec : ChangeSpec := { name := "wageEnds", fn := fun _ => fun
  | [d1, d2] => { results := [.lit (.bool true)], args := [d1, d2] }
  | _ => none }
def wageEndsRow : OpenClaim := { program := "ytbpeamppkdmdcaa", sum := "aa1f369d6d9a899ad01c7a63752995e72e77961abaf1b8adfbd6def20b10b955", func := "caulkworks/caulkworkslaw12.WageEnds", spec := "wageEnds", unfollowed := true, recurses := true, plainKeys := false, apart := false }
def WageEndsSaid : Prop := wageEndsRow.holds Try.pinned (OpenSpec.ofChange wageEndsSpec)

/-- ITS FALSE NEIGHBOUR: 'it returns false'. Refute it at one input. -/
def wageEndsWrong : ChangeSpec := { name := "wageEnds", fn := fun _ => fun
  | [d1, d2] => { results := [.lit (.bool false)], args := [d1, d2] }
  | _ => none }
def WageEndsWrongFalsely : Prop := wageEndsRow.holds Try.pinned (OpenSpec.ofChange wageEndsWrong)

/-- 'caulkworkslaw12.WageWhose': WHATEVER THE INPUT: true; the input reads as it did. -/
def wageWhoseSpec : ChangeSpec := { name := "wageWhose", fn := fun _ => fun
  | [d1, d2, d3, d4] => { results := [.lit (.bool true)], args := [d1, d2, d3, d4] }
  | _ => none }
def wageWhoseRow : OpenClaim := { program := "ytbpeamppkdmdcaa", sum := "aa1f369d6d9a899ad01c7a63752995e72e77961abaf1b8adfbd6def20b10b955", func := "caulkworks/caulkworkslaw12.WageWhose", spec := "wageWhose", unfollowed := true, recurses := true, plainKeys := false, apart := false }
def WageWhoseSaid : Prop := wageWhoseRow.holds Try.pinned (OpenSpec.ofChange wageWhoseSpec)

/-- ITS FALSE NEIGHBOUR: 'it returns false'. Refute it at one input. -/
def wageWhoseWrong : ChangeSpec := { name := "wageWhose", fn := fun _ => fun
  | [d1, d2, d3, d4] => { results := [.lit (.bool false)], args := [d1, d2, d3, d4] }
  | _ => none }
def WageWhoseWrongFalsely : Prop := wageWhoseRow.holds Try.pinned (OpenSpec.ofChange wageWhoseWrong)

/-- 'caulkworkslaw12.WageAsk': WHATEVER THE INPUT: true; the input reads as it did. -/
def wageAskSpec : ChangeSpec := { name := "wageAsk", fn := fun _ => fun
  | [d1, d2, d3] => { results := [.lit (.bool true)], args := [d1, d2, d3] }
  | _ => none }
def wageAskRow : OpenClaim := { program := "ytbpeamppkdmdcaa", sum := "aa1f369d6d9a899ad01c7a63752995e72e77961abaf1b8adfbd6def20b10b955", func := "caulkworks/caulkworkslaw12.WageAsk", spec := "wageAsk", unfollowed := true, recurses := true, plainKeys := false, apart := false }
def WageAskSaid : Prop := wageAskRow.holds Try.pinned (OpenSpec.ofChange wageAskSpec)

/-- ITS FALSE NEIGHBOUR: 'it returns false'. Refute it at one input. -/
def wageAskWrong : ChangeSpec := { name := "wageAsk", fn := fun _ => fun
  | [d1, d2, d3] => { results := [.lit (.bool false)], args := [d1, d2, d3] }
  | _ => none }
def WageAskWrongFalsely : Prop := wageAskRow.holds Try.pinned (OpenSpec.ofChange wageAskWrong)

/-- 'caulkworkslaw12.WageShare': WHATEVER THE INPUT: true; the input reads as it did. -/
def wageShareSpec : ChangeSpec := { name := "wageShare", fn := fun _ => fun
  | [d1, d2] => { results := [.lit (.bool true)], args := [d1, d2] }
  | _ => none }
def wageShareRow : OpenClaim := { program := "ytbpeamppkdmdcaa", sum := "aa1f369d6d9a899ad01c7a63752995e72e77961abaf1b8adfbd6def20b10b955", func := "caulkworks/caulkworkslaw12.WageShare", spec := "wageShare", unfollowed := true, recurses := true, plainKeys := false, apart := false }
def WageShareSaid : Prop := wageShareRow.holds Try.pinned (OpenSpec.ofChange wageShareSpec)

/-- ITS FALSE NEIGHBOUR: 'it returns false'. Refute it at one input. -/
def wageShareWrong : ChangeSpec := { name := "wageShare", fn := fun _ => fun
  | [d1, d2] => { results := [.lit (.bool false)], args := [d1, d2] }
  | _ => none }
def WageShareWrongFalsely : Prop := wageShareRow.holds Try.pinned (OpenSpec.ofChange wageShareWrong)

/-- 'caulkworkslaw12.WageMore': WHATEVER THE INPUT: true; the input reads as it did. -/
def wageMoreSpec : ChangeSpec := { name := "wageMore", fn := fun _ => fun
  | [d1, d2, d3, d4] => { results := [.lit (.bool true)], args := [d1, d2, d3, d4] }
  | _ => none }
def wageMoreRow : OpenClaim := { program := "ytbpeamppkdmdcaa", sum := "aa1f369d6d9a899ad01c7a63752995e72e77961abaf1b8adfbd6def20b10b955", func := "caulkworks/caulkworkslaw12.WageMore", spec := "wageMore", unfollowed := true, recurses := true, plainKeys := false, apart := false }
def WageMoreSaid : Prop := wageMoreRow.holds Try.pinned (OpenSpec.ofChange wageMoreSpec)

/-- ITS FALSE NEIGHBOUR: 'it returns false'. Refute it at one input. -/
def wageMoreWrong : ChangeSpec := { name := "wageMore", fn := fun _ => fun
  | [d1, d2, d3, d4] => { results := [.lit (.bool false)], args := [d1, d2, d3, d4] }
  | _ => none }
def WageMoreWrongFalsely : Prop := wageMoreRow.holds Try.pinned (OpenSpec.ofChange wageMoreWrong)

/-- 'caulkworkslaw12.WageTurned': WHATEVER THE INPUT: true; the input reads as it did. -/
def wageTurnedSpec : ChangeSpec := { name := "wageTurned", fn := fun _ => fun
  | [d1, d2] => { results := [.lit (.bool true)], args := [d1, d2] }
  | _ => none }
def wageTurnedRow : OpenClaim := { program := "ytbpeamppkdmdcaa", sum := "aa1f369d6d9a899ad01c7a63752995e72e77961abaf1b8adfbd6def20b10b955", func := "caulkworks/caulkworkslaw12.WageTurned", spec := "wageTurned", unfollowed := true, recurses := true, plainKeys := false, apart := false }
def WageTurnedSaid : Prop := wageTurnedRow.holds Try.pinned (OpenSpec.ofChange wageTurnedSpec)

/-- ITS FALSE NEIGHBOUR: 'it returns false'. Refute it at one input. -/
def wageTurnedWrong : ChangeSpec := { name := "wageTurned", fn := fun _ => fun
  | [d1, d2] => { results := [.lit (.bool false)], args := [d1, d2] }
  | _ => none }
def WageTurnedWrongFalsely : Prop := wageTurnedRow.holds Try.pinned (OpenSpec.ofChange wageTurnedWrong)

/- THE SECOND FORM. 'bulk': how many values and letters a reading holds, each counted each time it is reached (what is shared counts as often as it is met; a slice's spare places count too). A statement '..UptoSaid' is the law's where the arguments, and the package variables that the reading takes, are together of bulk at most 1048576: NARROWER than '..Said'. Prove '..Said' where nothing that the law and all that it calls make is longer than what came in: it says more and counts as full. Else prove '..UptoSaid'. A law counts once. -/
mutual
def uptoBulk {H : Type} : DataW H → Nat
  | .lit (.string bytes) => bytes.length + 1
  | .lit _ => 1
  | .nil => 1
  | .ptr d => uptoBulk d + 1
  | .slice elems spare => uptoBulkAll elems + uptoBulkAll spare + 1
  | .agg parts => uptoBulkAll parts + 1
  | .iface _ d => uptoBulk d + 1
  | .map entries => uptoBulkEntries entries + 1
  | .held _ => 1
def uptoBulkAll {H : Type} : List (DataW H) → Nat
  | [] => 0
  | d :: r => uptoBulk d + uptoBulkAll r
def uptoBulkEntries {H : Type} : List (Lit × DataW H) → Nat
  | [] => 0
  | x :: r => uptoBulkEntry x + uptoBulkEntries r
def uptoBulkEntry {H : Type} : Lit × DataW H → Nat
  | (.string bytes, d) => bytes.length + uptoBulk d + 1
  | (_, d) => uptoBulk d + 1
 end
def uptoSmall : (H : Type) → List (DataW H) → Bool := fun _ ds => decide (uptoBulkAll ds ≤ 1048576)
def OpenSpec.upto (s : _root_.Go.ChangeSpec) : _root_.Go.OpenSpec := { _root_.Go.OpenSpec.ofChange s with cond := some uptoSmall }

/-- 'caulkworkslaw12.WageReads', WHERE WHAT IT READS IS OF BULK AT MOST 1048576: true; the input reads as it did. -/
def wageReadsUptoRow : OpenClaim := { program := "ytbpeamppkdmdcaa", sum := "aa1f369d6d9a899ad01c7a63752995e72e77961abaf1b8adfbd6def20b10b955", func := "caulkworks/caulkworkslaw12.WageReads", spec := "wageReads", unfollowed := true, recurses := true, plainKeys := false, apart := false, narrowed := true }
def WageReadsUptoSaid : Prop := wageReadsUptoRow.holds Try.pinned (OpenSpec.upto wageReadsSpec)

/-- 'caulkworkslaw12.WageCoins', WHERE WHAT IT READS IS OF BULK AT MOST 1048576: true; the input reads as it did. -/
def wageCoinsUptoRow : OpenClaim := { program := "ytbpeamppkdmdcaa", sum := "aa1f369d6d9a899ad01c7a63752995e72e77961abaf1b8adfbd6def20b10b955", func := "caulkworks/caulkworkslaw12.WageCoins", spec := "wageCoins", unfollowed := true, recurses := true, plainKeys := false, apart := false, narrowed := true }
def WageCoinsUptoSaid : Prop := wageCoinsUptoRow.holds Try.pinned (OpenSpec.upto wageCoinsSpec)

/-- 'caulkworkslaw12.WageAsks', WHERE WHAT IT READS IS OF BULK AT MOST 1048576: true; the input reads as it did. -/
def wageAsksUptoRow : OpenClaim := { program := "ytbpeamppkdmdcaa", sum := "aa1f369d6d9a899ad01c7a63752995e72e77961abaf1b8adfbd6def20b10b955", func := "caulkworks/caulkworkslaw12.WageAsks", spec := "wageAsks", unfollowed := true, recurses := true, plainKeys := false, apart := false, narrowed := true }
def WageAsksUptoSaid : Prop := wageAsksUptoRow.holds Try.pinned (OpenSpec.upto wageAsksSpec)

/-- 'caulkworkslaw12.WageTrue', WHERE WHAT IT READS IS OF BULK AT MOST 1048576: true; the input reads as it did. -/
def wageTrueUptoRow : OpenClaim := { program := "ytbpeamppkdmdcaa", sum := "aa1f369d6d9a899ad01c7a63752995e72e77961abaf1b8adfbd6def20b10b955", func := "caulkworks/caulkworkslaw12.WageTrue", spec := "wageTrue", unfollowed := true, recurses := true, plainKeys := false, apart := false, narrowed := true }
def WageTrueUptoSaid : Prop := wageTrueUptoRow.holds Try.pinned (OpenSpec.upto wageTrueSpec)

/-- 'caulkworkslaw12.WageEnds', WHERE WHAT IT READS IS OF BULK AT MOST 1048576: true; the input reads as it did. -/
def wageEndsUptoRow : OpenClaim := { program := "ytbpeamppkdmdcaa", sum := "aa1f369d6d9a899ad01c7a63752995e72e77961abaf1b8adfbd6def20b10b955", func := "caulkworks/caulkworkslaw12.WageEnds", spec := "wageEnds", unfollowed := true, recurses := true, plainKeys := false, apart := false, narrowed := true }
def WageEndsUptoSaid : Prop := wageEndsUptoRow.holds Try.pinned (OpenSpec.upto wageEndsSpec)

/-- 'caulkworkslaw12.WageWhose', WHERE WHAT IT READS IS OF BULK AT MOST 1048576: true; the input reads as it did. -/
def wageWhoseUptoRow : OpenClaim := { program := "ytbpeamppkdmdcaa", sum := "aa1f369d6d9a899ad01c7a63752995e72e77961abaf1b8adfbd6def20b10b955", func := "caulkworks/caulkworkslaw12.WageWhose", spec := "wageWhose", unfollowed := true, recurses := true, plainKeys := false, apart := false, narrowed := true }
def WageWhoseUptoSaid : Prop := wageWhoseUptoRow.holds Try.pinned (OpenSpec.upto wageWhoseSpec)

/-- 'caulkworkslaw12.WageAsk', WHERE WHAT IT READS IS OF BULK AT MOST 1048576: true; the input reads as it did. -/
def wageAskUptoRow : OpenClaim := { program := "ytbpeamppkdmdcaa", sum := "aa1f369d6d9a899ad01c7a63752995e72e77961abaf1b8adfbd6def20b10b955", func := "caulkworks/caulkworkslaw12.WageAsk", spec := "wageAsk", unfollowed := true, recurses := true, plainKeys := false, apart := false, narrowed := true }
def WageAskUptoSaid : Prop := wageAskUptoRow.holds Try.pinned (OpenSpec.upto wageAskSpec)

/-- 'caulkworkslaw12.WageShare', WHERE WHAT IT READS IS OF BULK AT MOST 1048576: true; the input reads as it did. -/
def wageShareUptoRow : OpenClaim := { program := "ytbpeamppkdmdcaa", sum := "aa1f369d6d9a899ad01c7a63752995e72e77961abaf1b8adfbd6def20b10b955", func := "caulkworks/caulkworkslaw12.WageShare", spec := "wageShare", unfollowed := true, recurses := true, plainKeys := false, apart := false, narrowed := true }
def WageShareUptoSaid : Prop := wageShareUptoRow.holds Try.pinned (OpenSpec.upto wageShareSpec)

/-- 'caulkworkslaw12.WageMore', WHERE WHAT IT READS IS OF BULK AT MOST 1048576: true; the input reads as it did. -/
def wageMoreUptoRow : OpenClaim := { program := "ytbpeamppkdmdcaa", sum := "aa1f369d6d9a899ad01c7a63752995e72e77961abaf1b8adfbd6def20b10b955", func := "caulkworks/caulkworkslaw12.WageMore", spec := "wageMore", unfollowed := true, recurses := true, plainKeys := false, apart := false, narrowed := true }
def WageMoreUptoSaid : Prop := wageMoreUptoRow.holds Try.pinned (OpenSpec.upto wageMoreSpec)

/-- 'caulkworkslaw12.WageTurned', WHERE WHAT IT READS IS OF BULK AT MOST 1048576: true; the input reads as it did. -/
def wageTurnedUptoRow : OpenClaim := { program := "ytbpeamppkdmdcaa", sum := "aa1f369d6d9a899ad01c7a63752995e72e77961abaf1b8adfbd6def20b10b955", func := "caulkworks/caulkworkslaw12.WageTurned", spec := "wageTurned", unfollowed := true, recurses := true, plainKeys := false, apart := false, narrowed := true }
def WageTurnedUptoSaid : Prop := wageTurnedUptoRow.holds Try.pinned (OpenSpec.upto wageTurnedSpec)

end Rows
end Go.Proofs.Ytbpeamppkdmdcaa
