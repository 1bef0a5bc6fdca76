-- WRITTEN BY wip/xprint.py, a program of the proving session round the kit's print.py; Lean checks it.
import Derived.Test.YtpaghdfnhlpngaaDoorPPaxMergedx0
namespace Go.Proofs.YtpaghdfnhlpngaaDoor.PPaxMerged
open Go.Proofs.YtpaghdfnhlpngaaDoorX
open Go.RowKit Go.Proofs.YtpaghdfnhlpngaaDoorW.PrintWords Go.Proofs.YtpaghdfnhlpngaaDoorW.PrintLast Go.Proofs.YtpaghdfnhlpngaaDoorW.PrintMore
attribute [local go_sem] str_leq str_gtr max2_int min2_int max_two min_two max_three min_three max_four min_four   -- for this text's walks alone
set_option linter.unusedVariables false
set_option linter.unusedSimpArgs false

/-! ### strconv_FormatUint: function 53 -/

def strconv_FormatUint.f (a0 : Int) (a1 : Int) : Option (ByteArray) := if a1 = 10 then (if 0 ≤ a0 ∧ a0 ≤ 18446744073709551615 then some ⟨(Lib.itoa a0).toArray⟩ else none) else none
theorem strconv_FormatUint.calls (a0 : Int) (a1 : Int) (r : ByteArray) (w : World) (hG : Gv w) (h : strconv_FormatUint.f a0 a1 = some r) :
    Calls Tryd.prog 53 #[.int .u64 a0, .int .i64 a1] w fun e w' => e = .returned (.string r) ∧ Below w.heap.size w w' := by
  unfold strconv_FormatUint.f at h
  split at h
  · rename_i h0
    subst h0
    split at h
    · rename_i h1
      obtain rfl := Option.some.inj h
      exact (FormatUint_10 a0 h1.1 h1.2 w hG).mono fun e w' ⟨p, k, os, q⟩ => ⟨p, q ▸ below_grow_drewN k os⟩
    · cases h
  · cases h


/-! ### strings_TrimRight: function 54 -/

def strings_TrimRight.f (a0 : ByteArray) (a1 : ByteArray) : Option (ByteArray) := if a0.size ≤ 9223372036854775807 then (match a1.data.toList with | [c] => if c.toNat < 128 then some ⟨(Lib.trimRightB a0.data.toList c).toArray⟩ else none | _ => none) else none
theorem strings_TrimRight.calls (a0 : ByteArray) (a1 : ByteArray) (r : ByteArray) (w : World) (hG : Gv w) (h : strings_TrimRight.f a0 a1 = some r) :
    Calls Tryd.prog 54 #[.string a0, .string a1] w fun e w' => e = .returned (.string r) ∧ Drawn0 w w' := by
  unfold strings_TrimRight.f at h
  split at h
  · rename_i h1
    split at h
    · rename_i c hc
      split at h
      · rename_i h2
        obtain rfl := Option.some.inj h
        have e1 : a1 = ⟨#[c]⟩ := by rw [← Lib.mk_data a1, hc]
        subst e1
        exact (Tryd.strings_TrimRight_one a0 c h2 w h1).mono fun e w' ⟨p, q⟩ => ⟨p, q ▸ Drawn0.refl _⟩
      · cases h
    · cases h
  · cases h


end Go.Proofs.YtpaghdfnhlpngaaDoor.PPaxMerged
