-- WRITTEN BY wip/xprint.py, a program of the proving session round the kit's print.py; Lean checks it.
import Derived.Test.YtohgoaiimhhckaaPPaxParsesx0
import Derived.Test.YtohgoaiimhhckaaPPaxParsesx3
namespace Go.Proofs.Ytohgoaiimhhckaa.PPaxParses
open Go.Proofs.YtohgoaiimhhckaaX
open Go.RowKit Go.Proofs.YtohgoaiimhhckaaW.PrintWords Go.Proofs.YtohgoaiimhhckaaW.PrintLast Go.Proofs.YtohgoaiimhhckaaW.PrintMore
attribute [local go_sem] max2_int min2_int max_two min_two max_three min_three max_four min_four   -- for this text's walks alone
set_option linter.unusedVariables false
set_option linter.unusedSimpArgs false

/-! ### bytes_Index: function 16 -/

def bytes_Index.f (l0 : List Int) (l1 : List Int) : Option (Int) := if l1.length = 1 then some (Lib.indexByte (Lib.bytesOf l0) (rd l1 0).toNat.toUInt8) else none
set_option maxHeartbeats 2000000 in
set_option maxRecDepth 100000 in
theorem bytes_Index.calls (A0 : Option Addr) (c0 : Nat) (l0 : List Int) (A1 : Option Addr) (c1 : Nat) (l1 : List Int) (r : Int) (w : World) (hr0 : Kd.C (Kd.int .u8) w A0 l0.length l0) (hc0 : l0.length ≤ c0) (hr1 : Kd.C (Kd.int .u8) w A1 l1.length l1) (hc1 : l1.length ≤ c1) (h : bytes_Index.f l0 l1 = some r) :
    Calls Try.prog 16 #[.slice A0 l0.length c0, .slice A1 l1.length c1] w fun e w' => e = .returned (.int .i64 r) ∧ Drawn0 w w' := by
  unfold bytes_Index.f at h
  split at h
  · rename_i h1
    have hcall := bytes_IndexByte.calls A0 c0 l0 (rd l1 0) r w hr0 hc0 h
    obtain ⟨ad, he, hcell⟩ := Kd.at_int hr1 0 (by omega) (by omega)
    subst he
    have hcell0 : w.cell? ad = some (.int .u8 (rd l1 0)) := by simpa [Addr.add] using hcell
    clear hcell hr1 hr0 h
    rw [h1]
    go_enter Try.func16, Try.ntmps16
    go_wp2_with (go_at_call 12; refine hcall.mono ?_; rintro e w' ⟨rfl, ⟨n, rfl⟩⟩)
    go_ret
    exact ⟨rfl, ⟨⟨_, rfl⟩⟩⟩
  · cases h


end Go.Proofs.Ytohgoaiimhhckaa.PPaxParses
