/-
  DERIVED. GIVEN WITH THE SEED: THE CARDS: each row of YtohgoaiimhhckaaDoorRows.lean that lists a variable, with what it lists TIED to the program's text (the seventh form; the later family's looks); each row that meets fmt, with fmt's text TOLD by the authors' own Lean function (tested against real Go, not proved from fmt's source: count such statements apart). THE CARD IS WHAT COUNTS. Prove the row's statement (the work); the ties are given (YtohgoaiimhhckaaDoorTie.lean); close each card by the builder's one call (the guide's Derived/Test/ToyasCard.lean, 'card_holds'). Laid BY PROGRAM, IN A SANDBOX (cutbox-door.mjs). By AI agents, Wed Nov 11 2026. No macro, syntax, notation, axiom, sorry.
-/
import Derived.Test.YtohgoaiimhhckaaDoorRows
import GoSem.ClaimSeven
namespace Go.Proofs.YtohgoaiimhhckaaDoor
namespace Rows

/-- THE TIED CARD OF 'satchellaw28.ManifestSums'. -/
def manifestSumsCard : Claim7 := { stood := { row := manifestSumsRow, standIns := [], harness := (true, "fe6e81c26a1d9162c822fa186cbcee8ab5f138fed50b01f039b0e5702d96b1ca"), looks := false }, kinds := [], alts := [], laidByText := true, laidKinds := [.data, .data], laidTests := true, laidLooks := .later }
def ManifestSumsCardSaid : Prop := Claim7.holds Tryd.pinned (.plain (OpenSpec.ofChange manifestSumsSpec)) manifestSumsCard

/-- THE TIED CARD OF 'satchellaw14.PaxNumbers'. -/
def paxNumbersCard : Claim7 := { stood := { row := paxNumbersRow, standIns := [], harness := (true, "fe6e81c26a1d9162c822fa186cbcee8ab5f138fed50b01f039b0e5702d96b1ca"), looks := false }, kinds := [], alts := [], laidByText := true, laidKinds := [.data, .data, .data, .data, .pinned], laidTests := true, laidLooks := .later }
def PaxNumbersCardSaid : Prop := Claim7.holds Tryd.pinned (.plain (OpenSpec.ofChange paxNumbersSpec)) paxNumbersCard

/-- THE TIED CARD OF 'satchellaw14.PaxPairs'. -/
def paxPairsCard : Claim7 := { stood := { row := paxPairsRow, standIns := [], harness := (true, "fe6e81c26a1d9162c822fa186cbcee8ab5f138fed50b01f039b0e5702d96b1ca"), looks := false }, kinds := [], alts := [], laidByText := true, laidKinds := [.data, .data, .data], laidTests := true, laidLooks := .later }
def PaxPairsCardSaid : Prop := Claim7.holds Tryd.pinned (.plain (OpenSpec.ofChange paxPairsSpec)) paxPairsCard

/-- THE TIED CARD OF 'satchellaw14.PaxBack'. -/
def paxBackCard : Claim7 := { stood := { row := paxBackRow, standIns := [], harness := (true, "fe6e81c26a1d9162c822fa186cbcee8ab5f138fed50b01f039b0e5702d96b1ca"), looks := false }, kinds := [], alts := [], laidByText := true, laidKinds := [.data, .data, .data, .data, .pinned], laidTests := true, laidLooks := .later }
def PaxBackCardSaid : Prop := Claim7.holds Tryd.pinned (.plain (OpenSpec.ofChange paxBackSpec)) paxBackCard

/-- THE TIED CARD OF 'satchellaw14.PaxBehind'. -/
def paxBehindCard : Claim7 := { stood := { row := paxBehindRow, standIns := [], harness := (true, "fe6e81c26a1d9162c822fa186cbcee8ab5f138fed50b01f039b0e5702d96b1ca"), looks := false }, kinds := [], alts := [], laidByText := true, laidKinds := [.data, .data, .data, .data, .pinned], laidTests := true, laidLooks := .later }
def PaxBehindCardSaid : Prop := Claim7.holds Tryd.pinned (.plain (OpenSpec.ofChange paxBehindSpec)) paxBehindCard

/-- THE TIED CARD OF 'satchellaw14.PaxTimes'. -/
def paxTimesCard : Claim7 := { stood := { row := paxTimesRow, standIns := [], harness := (true, "fe6e81c26a1d9162c822fa186cbcee8ab5f138fed50b01f039b0e5702d96b1ca"), looks := false }, kinds := [], alts := [], laidByText := true, laidKinds := [.data, .data, .data, .data, .pinned], laidTests := true, laidLooks := .later }
def PaxTimesCardSaid : Prop := Claim7.holds Tryd.pinned (.plain (OpenSpec.ofChange paxTimesSpec)) paxTimesCard

/-- THE TIED CARD OF 'satchellaw14.PaxMerged'. -/
def paxMergedCard : Claim7 := { stood := { row := paxMergedRow, standIns := [], harness := (true, "fe6e81c26a1d9162c822fa186cbcee8ab5f138fed50b01f039b0e5702d96b1ca"), looks := false }, kinds := [], alts := [], laidByText := true, laidKinds := [.data, .data, .data, .data, .pinned], laidTests := true, laidLooks := .later }
def PaxMergedCardSaid : Prop := Claim7.holds Tryd.pinned (.plain (OpenSpec.ofChange paxMergedSpec)) paxMergedCard

/-- THE SECOND FORM's CARD OF 'satchellaw28.ManifestSums'. -/
def manifestSumsUptoCard : Claim7 := { stood := { row := manifestSumsUptoRow, standIns := [], harness := (true, "fe6e81c26a1d9162c822fa186cbcee8ab5f138fed50b01f039b0e5702d96b1ca"), looks := false }, kinds := [], alts := [], laidByText := true, laidKinds := [.data, .data], laidTests := true, laidLooks := .later }
def ManifestSumsUptoCardSaid : Prop := Claim7.holds Tryd.pinned (.plain (OpenSpec.upto manifestSumsSpec)) manifestSumsUptoCard

/-- THE SECOND FORM's CARD OF 'satchellaw14.PaxNumbers'. -/
def paxNumbersUptoCard : Claim7 := { stood := { row := paxNumbersUptoRow, standIns := [], harness := (true, "fe6e81c26a1d9162c822fa186cbcee8ab5f138fed50b01f039b0e5702d96b1ca"), looks := false }, kinds := [], alts := [], laidByText := true, laidKinds := [.data, .data, .data, .data, .pinned], laidTests := true, laidLooks := .later }
def PaxNumbersUptoCardSaid : Prop := Claim7.holds Tryd.pinned (.plain (OpenSpec.upto paxNumbersSpec)) paxNumbersUptoCard

/-- THE SECOND FORM's CARD OF 'satchellaw14.PaxPairs'. -/
def paxPairsUptoCard : Claim7 := { stood := { row := paxPairsUptoRow, standIns := [], harness := (true, "fe6e81c26a1d9162c822fa186cbcee8ab5f138fed50b01f039b0e5702d96b1ca"), looks := false }, kinds := [], alts := [], laidByText := true, laidKinds := [.data, .data, .data], laidTests := true, laidLooks := .later }
def PaxPairsUptoCardSaid : Prop := Claim7.holds Tryd.pinned (.plain (OpenSpec.upto paxPairsSpec)) paxPairsUptoCard

/-- THE SECOND FORM's CARD OF 'satchellaw14.PaxBack'. -/
def paxBackUptoCard : Claim7 := { stood := { row := paxBackUptoRow, standIns := [], harness := (true, "fe6e81c26a1d9162c822fa186cbcee8ab5f138fed50b01f039b0e5702d96b1ca"), looks := false }, kinds := [], alts := [], laidByText := true, laidKinds := [.data, .data, .data, .data, .pinned], laidTests := true, laidLooks := .later }
def PaxBackUptoCardSaid : Prop := Claim7.holds Tryd.pinned (.plain (OpenSpec.upto paxBackSpec)) paxBackUptoCard

/-- THE SECOND FORM's CARD OF 'satchellaw14.PaxBehind'. -/
def paxBehindUptoCard : Claim7 := { stood := { row := paxBehindUptoRow, standIns := [], harness := (true, "fe6e81c26a1d9162c822fa186cbcee8ab5f138fed50b01f039b0e5702d96b1ca"), looks := false }, kinds := [], alts := [], laidByText := true, laidKinds := [.data, .data, .data, .data, .pinned], laidTests := true, laidLooks := .later }
def PaxBehindUptoCardSaid : Prop := Claim7.holds Tryd.pinned (.plain (OpenSpec.upto paxBehindSpec)) paxBehindUptoCard

/-- THE SECOND FORM's CARD OF 'satchellaw14.PaxTimes'. -/
def paxTimesUptoCard : Claim7 := { stood := { row := paxTimesUptoRow, standIns := [], harness := (true, "fe6e81c26a1d9162c822fa186cbcee8ab5f138fed50b01f039b0e5702d96b1ca"), looks := false }, kinds := [], alts := [], laidByText := true, laidKinds := [.data, .data, .data, .data, .pinned], laidTests := true, laidLooks := .later }
def PaxTimesUptoCardSaid : Prop := Claim7.holds Tryd.pinned (.plain (OpenSpec.upto paxTimesSpec)) paxTimesUptoCard

/-- THE SECOND FORM's CARD OF 'satchellaw14.PaxMerged'. -/
def paxMergedUptoCard : Claim7 := { stood := { row := paxMergedUptoRow, standIns := [], harness := (true, "fe6e81c26a1d9162c822fa186cbcee8ab5f138fed50b01f039b0e5702d96b1ca"), looks := false }, kinds := [], alts := [], laidByText := true, laidKinds := [.data, .data, .data, .data, .pinned], laidTests := true, laidLooks := .later }
def PaxMergedUptoCardSaid : Prop := Claim7.holds Tryd.pinned (.plain (OpenSpec.upto paxMergedSpec)) paxMergedUptoCard
end Rows
end Go.Proofs.YtohgoaiimhhckaaDoor
