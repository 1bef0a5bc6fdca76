-- WRITTEN BY wip/xprint.py, a program of the proving session round the kit's print.py; Lean checks it.
import Derived.Test.YtohgoaiimhhckaaPPaxParsesx0
namespace Go.Proofs.Ytohgoaiimhhckaa.PPaxParses
open Go.Proofs.YtohgoaiimhhckaaX
open Go.RowKit Go.Proofs.YtohgoaiimhhckaaW.PrintWords Go.Proofs.YtohgoaiimhhckaaW.PrintLast Go.Proofs.YtohgoaiimhhckaaW.PrintMore
attribute [local go_sem] max2_int min2_int max_two min_two max_three min_three max_four min_four   -- for this text's walks alone
set_option linter.unusedVariables false
set_option linter.unusedSimpArgs false

/-! ### bytes_IndexByte: function 12 -/

def bytes_IndexByte.f (l0 : List Int) (a1 : Int) : Option (Int) := some (Lib.indexByte (Lib.bytesOf l0) a1.toNat.toUInt8)
theorem bytes_IndexByte.calls (A0 : Option Addr) (c0 : Nat) (l0 : List Int) (a1 : Int) (r : Int) (w : World) (hr0 : Kd.C (Kd.int .u8) w A0 l0.length l0) (hc0 : l0.length ≤ c0) (h : bytes_IndexByte.f l0 a1 = some r) :
    Calls Try.prog 12 #[.slice A0 l0.length c0, .int .u8 a1] w fun e w' => e = .returned (.int .i64 r) ∧ Drawn0 w w' := by
  obtain rfl := Option.some.inj h
  obtain ⟨hl, hm, hc⟩ := Kd.reads_of_C (d := (0 : Int)) (h1 := fun _ => rfl) hr0
  have HR : ∀ cv : Int, (Extern.BytealgIndexByte.indexByte #[.slice A0 l0.length c0, .int .u8 cv]).run Try.prog w = .ok (.int .i64 (Lib.indexByte (Lib.bytesOf l0) cv.toNat.toUInt8)) w := by
    intro cv
    cases A0 with
    | none =>
      have h0 : l0 = [] := by
        rcases l0 with _ | ⟨x, l⟩
        · rfl
        · obtain ⟨ad, he, _⟩ := hc (by simp)
          cases he
      subst h0
      exact Lib.run_indexByteNil w 0 c0 cv
    | some a =>
      refine Lib.run_indexByteAt w a _ c0 l0 rfl (fun i hi => ?_) cv
      obtain ⟨ad, he, hcc⟩ := hc (by omega)
      cases he
      exact hcc i hi
  clear hc hl hr0 hm
  go_enter Try.func12, Try.ntmps12
  go_wp2
  rw [run_callFunc_extern Try.func17 (by kernel_rfl) (by kernel_rfl) (by kernel_rfl) (e := Extern.BytealgIndexByte.indexByte) (by kernel_rfl), HR]
  simp only [Result.andThen]
  rw [Oper.upon_value]
  clear HR
  go_wp2
  go_ret
  exact ⟨rfl, Drawn0.refl _⟩


end Go.Proofs.Ytohgoaiimhhckaa.PPaxParses
