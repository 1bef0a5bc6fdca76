-- WRITTEN BY wip/xprint.py, a program of the proving session round the kit's print.py; Lean checks it.
import Derived.Test.YtohgoaiimhhckaaDoorPPaxNumbersx0
namespace Go.Proofs.YtohgoaiimhhckaaDoor.PPaxNumbers
open Go.Proofs.YtohgoaiimhhckaaDoorX
open Go.RowKit Go.Proofs.YtohgoaiimhhckaaDoorW.PrintWords Go.Proofs.YtohgoaiimhhckaaDoorW.PrintLast Go.Proofs.YtohgoaiimhhckaaDoorW.PrintMore
attribute [local go_sem] max2_int min2_int max_two min_two max_three min_three max_four min_four   -- for this text's walks alone
set_option linter.unusedVariables false
set_option linter.unusedSimpArgs false

/-! ### strconv_FormatUint: function 51 -/

def strconv_FormatUint.f (a0 : Int) (a1 : Int) : Option (ByteArray) := if a1 = 10 then (if 0 ≤ a0 ∧ a0 ≤ 18446744073709551615 then some ⟨(Lib.itoa a0).toArray⟩ else none) else none
theorem strconv_FormatUint.calls (a0 : Int) (a1 : Int) (r : ByteArray) (w : World) (hG : Gv w) (h : strconv_FormatUint.f a0 a1 = some r) :
    Calls Tryd.prog 51 #[.int .u64 a0, .int .i64 a1] w fun e w' => e = .returned (.string r) ∧ Below w.heap.size w w' := by
  unfold strconv_FormatUint.f at h
  split at h
  · rename_i h0
    subst h0
    split at h
    · rename_i h1
      obtain rfl := Option.some.inj h
      exact (FormatUint_10 a0 h1.1 h1.2 w hG).mono fun e w' ⟨p, k, os, q⟩ => ⟨p, q ▸ below_grow_drewN k os⟩
    · cases h
  · cases h


end Go.Proofs.YtohgoaiimhhckaaDoor.PPaxNumbers
