/- VfsNews: the reference's questions at an empty file system. -/
import Derived.Test.YtphbbcjmnlamaaaGreatVnRef
import Derived.Deep.RegionHeld3
namespace Go.Proofs.YtphbbcjmnlamaaaGreatV
open Go.RowKit
set_option linter.unusedVariables false
set_option linter.unusedSimpArgs false
section
variable {w : World} {d lb : Nat} {nodes bytes : Int}
theorem RAt_calls (h : RefAt w d lb nodes bytes) : Calls Tryz.prog 39 #[.pointer (some ⟨d, 0, none⟩), .int .i64 1] w fun e w' => e = .returned (.pointer (some ⟨lb, 0, none⟩)) ∧ w' = w := by
  obtain ⟨c0, c1, c2, c3, c4⟩ := h.c
  have HP := Lib.hid (place_calls h)
  clear h
  go_enter Tryz.func39, Tryz.ntmps39
  go_wp2_with fail
  refine HP.out.mono ?_
  rintro e w' ⟨rfl, rfl⟩
  go_wp2
  go_ret
  exact ⟨rfl, rfl⟩
theorem links_calls (h : RefAt w d lb nodes bytes) : Calls Tryz.prog 41 #[.slice (some ⟨lb, 0, none⟩) 1 1, .int .i64 1] w fun e w' => e = .returned (.int .i64 1) ∧ w' = w := by
  obtain ⟨k0, k1, k2, k3, k4, k5, k6, k7, k8, k9⟩ := node_c h.node
  clear h
  go_enter Tryz.func41, Tryz.ntmps41
  go_wp2
  refine wp_loop_rounds 2 ?_
  rw [rounds_succ]
  go_wp2
  refine wp_loop_rounds 1 ?_
  rw [rounds_succ]
  go_wp2
  rw [rounds_succ]
  go_wp2
  go_ret
  exact ⟨rfl, rfl⟩
theorem bytes_calls (h : RefAt w d lb nodes bytes) : Calls Tryz.prog 42 #[.slice (some ⟨lb, 0, none⟩) 1 1] w fun e w' => e = .returned (.int .i64 0) ∧ w' = w := by
  obtain ⟨k0, k1, k2, k3, k4, k5, k6, k7, k8, k9⟩ := node_c h.node
  clear h
  go_enter Tryz.func42, Tryz.ntmps42
  go_wp2
  refine wp_loop_rounds 2 ?_
  rw [rounds_succ]
  go_wp2
  rw [rounds_succ]
  go_wp2
  go_ret
  exact ⟨rfl, rfl⟩
end
end Go.Proofs.YtphbbcjmnlamaaaGreatV
