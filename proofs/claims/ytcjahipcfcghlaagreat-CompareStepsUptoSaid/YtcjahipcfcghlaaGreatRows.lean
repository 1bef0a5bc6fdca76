/-
  No cell of these rows narrows 'for every input' (looked for: loops, veiled, ifaces, maps, wideKeys, modest, calm, conditions, laid).
  DERIVED. THE GIVEN ROWS OF THIS SEAT. 2 by the template 'for every input the law returns true; each argument reads behind the call as it read before'; 0 by the template 'total and deterministic' (their statements: YtcjahipcfcghlaaGreatTotals.lean).
  GIVEN WITH THE SEED: the statements are not yours to turn. If you find one false, say at which input.
  Laid BY PROGRAM, IN A SANDBOX (cutbox-rows.mjs): the forced cells as the released guide's own fill.sh prints them over the translation 45d24c7ffe04b539… (all of the seat's roots in one cut). By AI agents, Wed Nov 11 2026. No macro, syntax, notation, axiom, sorry.
-/
import Derived.Test.YtcjahipcfcghlaaGreatChecked
import GoSem.Claim
import GoSem.ClaimJoined
import GoSem.ClaimMapViews
import Derived.JoinedTies
import Derived.KernelRfl
namespace Go.Proofs.YtcjahipcfcghlaaGreat
/- THE CELL 'sum', in the pinned program and in every row, IS THE sha256 OF THE DUMP (.gsa) THAT YtcjahipcfcghlaaGreatProg.lean LOADS. Nothing in Lean hashes anything: it is a label: what it is worth is what the hold of that sum in a sandbox is worth. -/
noncomputable def Tryz.pinned : Pinned := { name := "ytcjahipcfcghlaagreat", sum := "45d24c7ffe04b539f4d8b7a93f5fac91f2260f9bf55f3f5a44bf230f4c2cae87", checked := Tryz.checked }
namespace Rows
def none {H : Type} : Left H := { results := [], args := [] }

/-- 'satchellaw24.CompareTurned': WHATEVER THE INPUT: true; the input reads as it did. -/
def compareTurnedSpec : ChangeSpec := { name := "compareTurned", fn := fun _ => fun
  | [d1, d2] => { results := [.lit (.bool true)], args := [d1, d2] }
  | _ => none }
def compareTurnedRow : OpenClaim := { program := "ytcjahipcfcghlaagreat", sum := "45d24c7ffe04b539f4d8b7a93f5fac91f2260f9bf55f3f5a44bf230f4c2cae87", func := "satchel/satchellaw24.CompareTurned", spec := "compareTurned", inPlace := ["internal/bytealg.IndexByteString", "internal/bytealg.IndexString", "internal/abi.NoEscape", "internal/bytealg.MakeNoZero"], unfollowed := true, recurses := true, named := ["internal/bytealg.MaxLen"], apart := false }
def CompareTurnedSaid : Prop := compareTurnedRow.holds Tryz.pinned (OpenSpec.ofChange compareTurnedSpec)

/-- ITS FALSE NEIGHBOUR: 'it returns false'. Refute it at one input. -/
def compareTurnedWrong : ChangeSpec := { name := "compareTurned", fn := fun _ => fun
  | [d1, d2] => { results := [.lit (.bool false)], args := [d1, d2] }
  | _ => none }
def CompareTurnedWrongFalsely : Prop := compareTurnedRow.holds Tryz.pinned (OpenSpec.ofChange compareTurnedWrong)

/-- 'satchellaw24.CompareSteps': WHATEVER THE INPUT: true; the input reads as it did. -/
def compareStepsSpec : ChangeSpec := { name := "compareSteps", fn := fun _ => fun
  | [d1, d2, d3] => { results := [.lit (.bool true)], args := [d1, d2, d3] }
  | _ => none }
def compareStepsRow : OpenClaim := { program := "ytcjahipcfcghlaagreat", sum := "45d24c7ffe04b539f4d8b7a93f5fac91f2260f9bf55f3f5a44bf230f4c2cae87", func := "satchel/satchellaw24.CompareSteps", spec := "compareSteps", inPlace := ["internal/bytealg.IndexByteString", "internal/bytealg.IndexString", "internal/abi.NoEscape", "internal/bytealg.MakeNoZero"], unfollowed := true, recurses := true, named := ["internal/bytealg.MaxLen"], apart := false }
def CompareStepsSaid : Prop := compareStepsRow.holds Tryz.pinned (OpenSpec.ofChange compareStepsSpec)

/-- ITS FALSE NEIGHBOUR: 'it returns false'. Refute it at one input. -/
def compareStepsWrong : ChangeSpec := { name := "compareSteps", fn := fun _ => fun
  | [d1, d2, d3] => { results := [.lit (.bool false)], args := [d1, d2, d3] }
  | _ => none }
def CompareStepsWrongFalsely : Prop := compareStepsRow.holds Tryz.pinned (OpenSpec.ofChange compareStepsWrong)

/- THE SECOND FORM. 'bulk': how many values and letters a reading holds, each counted each time it is reached (what is shared counts as often as it is met; a slice's spare places count too). A statement '..UptoSaid' is the law's where the arguments, and the package variables that the reading takes, are together of bulk at most 1048576: NARROWER than '..Said'. Prove '..Said' where nothing that the law and all that it calls make is longer than what came in: it says more and counts as full. Else prove '..UptoSaid'. A law counts once. -/
mutual
def uptoBulk {H : Type} : DataW H → Nat
  | .lit (.string bytes) => bytes.length + 1
  | .lit _ => 1
  | .nil => 1
  | .ptr d => uptoBulk d + 1
  | .slice elems spare => uptoBulkAll elems + uptoBulkAll spare + 1
  | .agg parts => uptoBulkAll parts + 1
  | .iface _ d => uptoBulk d + 1
  | .map entries => uptoBulkEntries entries + 1
  | .held _ => 1
def uptoBulkAll {H : Type} : List (DataW H) → Nat
  | [] => 0
  | d :: r => uptoBulk d + uptoBulkAll r
def uptoBulkEntries {H : Type} : List (Lit × DataW H) → Nat
  | [] => 0
  | x :: r => uptoBulkEntry x + uptoBulkEntries r
def uptoBulkEntry {H : Type} : Lit × DataW H → Nat
  | (.string bytes, d) => bytes.length + uptoBulk d + 1
  | (_, d) => uptoBulk d + 1
 end
def uptoSmall : (H : Type) → List (DataW H) → Bool := fun _ ds => decide (uptoBulkAll ds ≤ 1048576)
def OpenSpec.upto (s : _root_.Go.ChangeSpec) : _root_.Go.OpenSpec := { _root_.Go.OpenSpec.ofChange s with cond := some uptoSmall }

/-- 'satchellaw24.CompareTurned', WHERE WHAT IT READS IS OF BULK AT MOST 1048576: true; the input reads as it did. -/
def compareTurnedUptoRow : OpenClaim := { program := "ytcjahipcfcghlaagreat", sum := "45d24c7ffe04b539f4d8b7a93f5fac91f2260f9bf55f3f5a44bf230f4c2cae87", func := "satchel/satchellaw24.CompareTurned", spec := "compareTurned", inPlace := ["internal/bytealg.IndexByteString", "internal/bytealg.IndexString", "internal/abi.NoEscape", "internal/bytealg.MakeNoZero"], unfollowed := true, recurses := true, named := ["internal/bytealg.MaxLen"], apart := false, narrowed := true }
def CompareTurnedUptoSaid : Prop := compareTurnedUptoRow.holds Tryz.pinned (OpenSpec.upto compareTurnedSpec)

/-- 'satchellaw24.CompareSteps', WHERE WHAT IT READS IS OF BULK AT MOST 1048576: true; the input reads as it did. -/
def compareStepsUptoRow : OpenClaim := { program := "ytcjahipcfcghlaagreat", sum := "45d24c7ffe04b539f4d8b7a93f5fac91f2260f9bf55f3f5a44bf230f4c2cae87", func := "satchel/satchellaw24.CompareSteps", spec := "compareSteps", inPlace := ["internal/bytealg.IndexByteString", "internal/bytealg.IndexString", "internal/abi.NoEscape", "internal/bytealg.MakeNoZero"], unfollowed := true, recurses := true, named := ["internal/bytealg.MaxLen"], apart := false, narrowed := true }
def CompareStepsUptoSaid : Prop := compareStepsUptoRow.holds Tryz.pinned (OpenSpec.upto compareStepsSpec)

end Rows
end Go.Proofs.YtcjahipcfcghlaaGreat
