/-
  DERIVED. GIVEN WITH THE SEED: THE CARDS: each row of YtbebdhaceifmoaaDoorRows.lean that lists a variable, with what it lists TIED to the program's text (the seventh form; the later family's looks); each row that meets fmt, with fmt's text TOLD by the authors' own Lean function (tested against real Go, not proved from fmt's source: count such statements apart). THE CARD IS WHAT COUNTS. Prove the row's statement (the work); the ties are given (YtbebdhaceifmoaaDoorTie.lean); close each card by the builder's one call (the guide's Derived/Test/ToyasCard.lean, 'card_holds'). Laid BY PROGRAM, IN A SANDBOX (cutbox-door.mjs). By AI agents, Wed Nov 11 2026. No macro, syntax, notation, axiom, sorry.
-/
import Derived.Test.YtbebdhaceifmoaaDoorRows
import GoSem.ClaimSeven
namespace Go.Proofs.YtbebdhaceifmoaaDoor
namespace Rows

/-- THE TIED CARD OF 'satchellaw19.ApplyChecks'. -/
def applyChecksCard : Claim7 := { stood := { row := applyChecksRow, standIns := [], harness := (true, "b165f173d2127f4b0d17040431495dd01126acda87ddd70ae6b7887c985e2a47"), looks := false }, kinds := [], alts := [], laidByText := true, laidKinds := [.data, .pinned], laidTests := true, laidLooks := .later }
def ApplyChecksCardSaid : Prop := Claim7.holds Tryd.pinned (.plain (OpenSpec.ofChange applyChecksSpec)) applyChecksCard

/-- THE SECOND FORM's CARD OF 'satchellaw19.ApplyChecks'. -/
def applyChecksUptoCard : Claim7 := { stood := { row := applyChecksUptoRow, standIns := [], harness := (true, "b165f173d2127f4b0d17040431495dd01126acda87ddd70ae6b7887c985e2a47"), looks := false }, kinds := [], alts := [], laidByText := true, laidKinds := [.data, .pinned], laidTests := true, laidLooks := .later }
def ApplyChecksUptoCardSaid : Prop := Claim7.holds Tryd.pinned (.plain (OpenSpec.upto applyChecksSpec)) applyChecksUptoCard
end Rows
end Go.Proofs.YtbebdhaceifmoaaDoor
