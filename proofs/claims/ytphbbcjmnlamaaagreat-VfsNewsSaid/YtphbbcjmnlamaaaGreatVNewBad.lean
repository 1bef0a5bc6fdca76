/- vfs: New where a bound can't be. -/
import Derived.Test.YtphbbcjmnlamaaaGreatVNew
namespace Go.Proofs.YtphbbcjmnlamaaaGreatV
open Go.RowKit
set_option linter.unusedVariables false
set_option linter.unusedSimpArgs false
theorem New_bad (w : World) (nodes bytes : Int) (h : nodes < 1 ∨ nodes > 4096 ∨ bytes < 0 ∨ bytes > 4194304) :
    Calls Tryz.prog 7 #[.int .i64 nodes, .int .i64 bytes] w fun e w' => e = .returned (.tuple #[.pointer none, .int .i64 1]) ∧ w' = w := by
  by_cases h1 : nodes < 1
  · have d1 : decide (nodes < 1) = true := decide_eq_true h1
    clear h
    go_enter Tryz.func7, Tryz.ntmps7
    go_wp2
    go_ret2
    exact ⟨rfl, rfl⟩
  · have d1 : decide (nodes < 1) = false := decide_eq_false h1
    by_cases h2 : 4096 < nodes
    · have d2 : decide (4096 < nodes) = true := decide_eq_true h2
      clear h
      go_enter Tryz.func7, Tryz.ntmps7
      go_wp2
      go_ret2
      exact ⟨rfl, rfl⟩
    · have d2 : decide (4096 < nodes) = false := decide_eq_false h2
      by_cases h3 : bytes < 0
      · have d3 : decide (bytes < 0) = true := decide_eq_true h3
        clear h
        go_enter Tryz.func7, Tryz.ntmps7
        go_wp2
        go_ret2
        exact ⟨rfl, rfl⟩
      · have d3 : decide (bytes < 0) = false := decide_eq_false h3
        have d4 : 4194304 < bytes := by omega
        clear h
        go_enter Tryz.func7, Tryz.ntmps7
        go_wp2
        go_ret2
        exact ⟨rfl, rfl⟩
end Go.Proofs.YtphbbcjmnlamaaaGreatV
