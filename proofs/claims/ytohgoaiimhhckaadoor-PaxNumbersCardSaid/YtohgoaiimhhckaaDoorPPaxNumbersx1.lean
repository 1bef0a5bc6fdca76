-- WRITTEN BY wip/xprint.py, a program of the proving session round the kit's print.py; Lean checks it.
import Derived.Test.YtohgoaiimhhckaaDoorPPaxNumbersx0
namespace Go.Proofs.YtohgoaiimhhckaaDoor.PPaxNumbers
open Go.Proofs.YtohgoaiimhhckaaDoorX
open Go.RowKit Go.Proofs.YtohgoaiimhhckaaDoorW.PrintWords Go.Proofs.YtohgoaiimhhckaaDoorW.PrintLast Go.Proofs.YtohgoaiimhhckaaDoorW.PrintMore
attribute [local go_sem] max2_int min2_int max_two min_two max_three min_three max_four min_four   -- for this text's walks alone
set_option linter.unusedVariables false
set_option linter.unusedSimpArgs false

/-! ### strings_Trim: function 68 -/

def strings_Trim.f (a0 : ByteArray) (a1 : ByteArray) : Option (ByteArray) := if a0.size ≤ 9223372036854775807 then (if a1.size < 4294967281 then (if a1.data.toList.all (fun b => decide (b.toNat < 128)) = true then some ⟨(Lib.trimS a0.data.toList a1.data.toList).toArray⟩ else none) else none) else none
theorem strings_Trim.calls (a0 : ByteArray) (a1 : ByteArray) (r : ByteArray) (w : World) (hG : Gv w) (h : strings_Trim.f a0 a1 = some r) :
    Calls Tryd.prog 68 #[.string a0, .string a1] w fun e w' => e = .returned (.string r) ∧ Below w.heap.size w w' := by
  unfold strings_Trim.f at h
  split at h
  · split at h
    · split at h
      · rename_i h1 h2 h3
        obtain rfl := Option.some.inj h
        exact Tryd.strings_Trim_laid a0 a1 w h1 h2 (ascii_of_all h3)
      · cases h
    · cases h
  · cases h


end Go.Proofs.YtohgoaiimhhckaaDoor.PPaxNumbers
