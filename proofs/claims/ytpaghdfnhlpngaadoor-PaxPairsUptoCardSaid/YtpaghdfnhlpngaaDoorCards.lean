/-
  DERIVED. GIVEN WITH THE SEED: THE CARDS: each row of YtpaghdfnhlpngaaDoorRows.lean that lists a variable, with what it lists TIED to the program's text (the seventh form; the later family's looks); each row that meets fmt, with fmt's text TOLD by the authors' own Lean function (tested against real Go, not proved from fmt's source: count such statements apart). THE CARD IS WHAT COUNTS. Prove the row's statement (the work); the ties are given (YtpaghdfnhlpngaaDoorTie.lean); close each card by the builder's one call (the guide's Derived/Test/ToyasCard.lean, 'card_holds'). Laid BY PROGRAM, IN A SANDBOX (cutbox-door.mjs). By AI agents, Wed Nov 11 2026. No macro, syntax, notation, axiom, sorry.
-/
import Derived.Test.YtpaghdfnhlpngaaDoorRows
import GoSem.ClaimSeven
namespace Go.Proofs.YtpaghdfnhlpngaaDoor
namespace Rows

/-- THE TIED CARD OF 'satchellaw14.PaxPairs'. -/
def paxPairsCard : Claim7 := { stood := { row := paxPairsRow, standIns := [], harness := (true, "23eafad54a7ed63ffd6d63e445496716b41387e1577ad9aa7301126190fd1a15"), looks := true }, kinds := [], alts := [], laidByText := true, laidKinds := [.data, .data, .data], laidTests := true, laidLooks := .later }
def PaxPairsCardSaid : Prop := Claim7.holds Tryd.pinned (.plain (OpenSpec.ofChange paxPairsSpec)) paxPairsCard

/-- THE TIED CARD OF 'satchellaw14.PaxMerged'. -/
def paxMergedCard : Claim7 := { stood := { row := paxMergedRow, standIns := [], harness := (true, "23eafad54a7ed63ffd6d63e445496716b41387e1577ad9aa7301126190fd1a15"), looks := true }, kinds := [], alts := [], laidByText := true, laidKinds := [.data, .data, .data, .data, .pinned], laidTests := true, laidLooks := .later }
def PaxMergedCardSaid : Prop := Claim7.holds Tryd.pinned (.plain (OpenSpec.ofChange paxMergedSpec)) paxMergedCard

/-- THE TIED CARD OF 'satchellaw30.ShellParses'. -/
def shellParsesCard : Claim7 := { stood := { row := shellParsesRow, standIns := [], harness := (true, "23eafad54a7ed63ffd6d63e445496716b41387e1577ad9aa7301126190fd1a15"), looks := true }, kinds := [], alts := [], laidByText := true, laidKinds := [.data, .data, .data, .data, .sentinel, .sentinel, .mapped, .mapped, .mapped, .mapped, .pinned], laidTests := true, laidLooks := .later }
def ShellParsesCardSaid : Prop := Claim7.holds Tryd.pinned (.plain (OpenSpec.ofChange shellParsesSpec)) shellParsesCard

/-- THE SECOND FORM's CARD OF 'satchellaw14.PaxPairs'. -/
def paxPairsUptoCard : Claim7 := { stood := { row := paxPairsUptoRow, standIns := [], harness := (true, "23eafad54a7ed63ffd6d63e445496716b41387e1577ad9aa7301126190fd1a15"), looks := true }, kinds := [], alts := [], laidByText := true, laidKinds := [.data, .data, .data], laidTests := true, laidLooks := .later }
def PaxPairsUptoCardSaid : Prop := Claim7.holds Tryd.pinned (.plain (OpenSpec.upto paxPairsSpec)) paxPairsUptoCard

/-- THE SECOND FORM's CARD OF 'satchellaw14.PaxMerged'. -/
def paxMergedUptoCard : Claim7 := { stood := { row := paxMergedUptoRow, standIns := [], harness := (true, "23eafad54a7ed63ffd6d63e445496716b41387e1577ad9aa7301126190fd1a15"), looks := true }, kinds := [], alts := [], laidByText := true, laidKinds := [.data, .data, .data, .data, .pinned], laidTests := true, laidLooks := .later }
def PaxMergedUptoCardSaid : Prop := Claim7.holds Tryd.pinned (.plain (OpenSpec.upto paxMergedSpec)) paxMergedUptoCard

/-- THE SECOND FORM's CARD OF 'satchellaw30.ShellParses'. -/
def shellParsesUptoCard : Claim7 := { stood := { row := shellParsesUptoRow, standIns := [], harness := (true, "23eafad54a7ed63ffd6d63e445496716b41387e1577ad9aa7301126190fd1a15"), looks := true }, kinds := [], alts := [], laidByText := true, laidKinds := [.data, .data, .data, .data, .sentinel, .sentinel, .mapped, .mapped, .mapped, .mapped, .pinned], laidTests := true, laidLooks := .later }
def ShellParsesUptoCardSaid : Prop := Claim7.holds Tryd.pinned (.plain (OpenSpec.upto shellParsesSpec)) shellParsesUptoCard
end Rows
end Go.Proofs.YtpaghdfnhlpngaaDoor
