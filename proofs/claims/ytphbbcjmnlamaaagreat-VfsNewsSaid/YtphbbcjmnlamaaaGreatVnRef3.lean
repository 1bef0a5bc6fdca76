/- VfsNews: the reference's questions at an empty file system, second part. -/
import Derived.Test.YtphbbcjmnlamaaaGreatVnRef2
import Derived.WalkSmall
namespace Go.Proofs.YtphbbcjmnlamaaaGreatV
open Go.RowKit
set_option linter.unusedVariables false
set_option linter.unusedSimpArgs false
section
variable {w : World} {d lb : Nat} {nodes bytes : Int}
theorem RUp_calls (h : RefAt w d lb nodes bytes) : Calls Tryz.prog 17 #[.pointer (some ⟨d, 0, none⟩), .int .i64 1] w fun e w' => e = .returned (.tuple #[.int .i64 1, .int .i64 0]) ∧ w' = w := by
  obtain ⟨c0, c1, c2, c3, c4⟩ := h.c
  obtain ⟨k0, k1, k2, k3, k4, k5, k6, k7, k8, k9⟩ := node_c h.node
  have HP := Lib.hid (RAt_calls h)
  clear h
  go_enter Tryz.func17, Tryz.ntmps17
  go_wp2_with fail
  refine HP.out.mono ?_
  rintro e w' ⟨rfl, rfl⟩
  go_wp2
  refine wp_loop_rounds 2 ?_
  rw [rounds_succ]
  go_wp2
  refine wp_loop_rounds 1 ?_
  rw [rounds_succ]
  go_wp2
  rw [rounds_succ]
  go_wp2
  go_ret2
  exact ⟨rfl, rfl⟩
theorem RFree_calls (h : RefAt w d lb nodes bytes) (hn : 1 ≤ nodes ∧ nodes ≤ 4096) (hb : 0 ≤ bytes ∧ bytes ≤ 4194304) : Calls Tryz.prog 28 #[.pointer (some ⟨d, 0, none⟩)] w fun e w' => e = .returned (.tuple #[.int .i64 (nodes - 1), .int .i64 bytes]) ∧ Below w.heap.size w w' := by
  obtain ⟨c0, c1, c2, c3, c4⟩ := h.c
  obtain ⟨k0, k1, k2, k3, k4, k5, k6, k7, k8, k9⟩ := node_c h.node
  have HP : ∀ n, Aside (Calls Tryz.prog 42 #[.slice (some ⟨lb, 0, none⟩) 1 1] (w.drewN n) fun e w' => e = .returned (.int .i64 0) ∧ w' = w.drewN n) := fun n => bytes_calls (w := w.drewN n) ⟨h.top, h.node⟩
  have e1 : IntKind.i64.wrap (nodes - 1) = nodes - 1 := IntWalk.i64_in _ (by omega)
  have e2 : IntKind.i64.wrap (bytes - 0) = bytes := by rw [Int.sub_zero]; exact IntWalk.i64_in _ (by omega)
  clear h
  go_enter Tryz.func28, Tryz.ntmps28
  go_wp2_with fail
  go_quiet ((go_at_call 42; exact Calls.quiet_of_same (HP _).out))
  go_wp2
  go_ret2
  exact ⟨rfl, ⟨rfl, rfl, rfl, Nat.le_refl _, fun _ _ => rfl⟩⟩
/-- What Stat tells of the root. -/
def rootStat : Value := .agg #[.int .i64 1, .int .i64 1, .int .u32 0, .int .u32 0, .int .u32 0, .int .i64 0, .int .i32 0, .int .i64 1, .int .i64 0]
/-- What the reference's Stat reads. -/
abbrev RS (w : World) (d lb : Nat) (nodes bytes : Int) : Prop := RefAt w d lb nodes bytes ∧ w.cell? ⟨d, 3, none⟩ = some (.slice (some ⟨lb, 0, none⟩) 1 1) ∧ w.cell? ⟨lb, 1, none⟩ = some (.int .i64 1) ∧ w.cell? ⟨lb, 2, none⟩ = some (.int .u32 0) ∧ w.cell? ⟨lb, 3, none⟩ = some (.int .u32 0) ∧ w.cell? ⟨lb, 4, none⟩ = some (.int .u32 0) ∧ w.cell? ⟨lb, 5, none⟩ = some (.int .i64 0) ∧ w.cell? ⟨lb, 6, none⟩ = some (.int .i32 0)
      ∧ w.cell? ⟨lb, 7, none⟩ = some (.slice none 0 0) ∧ w.cell? ⟨lb, 8, none⟩ = some (.string ⟨#[]⟩) ∧ w.cell? ⟨lb, 9, none⟩ = some (.slice none 0 0)
theorem RefAt.rs (h : RefAt w d lb nodes bytes) : RS w d lb nodes bytes := by
  obtain ⟨c0, c1, c2, c3, c4⟩ := h.c
  obtain ⟨k0, k1, k2, k3, k4, k5, k6, k7, k8, k9⟩ := node_c h.node
  exact ⟨h, c3, k1, k2, k3, k4, k5, k6, k7, k8, k9⟩
theorem RefAt.drew (h : RefAt w d lb nodes bytes) : RefAt w.drew d lb nodes bytes := ⟨h.top, h.node⟩
set_option maxHeartbeats 1000000 in
theorem RStat_calls (h : RefAt w d lb nodes bytes) : Calls Tryz.prog 22 #[.pointer (some ⟨d, 0, none⟩), .int .i64 1] w fun e w' => e = .returned (.tuple #[rootStat, .int .i64 0]) ∧ Below w.heap.size w w' := by
  have hall : ∀ o, RS (w.alloc o).drew d lb nodes bytes := fun o => ((h.of_below (alloc_below w o)).drew).rs
  have h2 := h.of_below (alloc_below w (.cells #[.int .i64 0, .int .i64 0, .int .u32 0, .int .u32 0, .int .u32 0, .int .i64 0, .int .i32 0, .int .i64 0, .int .i64 0] 62 (0, 0)))
  obtain ⟨_, c3, k1, k2, k3, k4, k5, k6, k7, k8, k9⟩ := h2.rs
  have HP := Lib.hid (RAt_calls h2)
  have HL : ∀ w, RefAt w d lb nodes bytes → Aside (Calls Tryz.prog 41 #[.slice (some ⟨lb, 0, none⟩) 1 1, .int .i64 1] w fun e w' => e = .returned (.int .i64 1) ∧ w' = w) := fun w h => links_calls h
  clear h
  go_enter Tryz.func22, Tryz.ntmps22
  go_wp2_with fail
  refine HP.out.mono ?_
  rintro e w' ⟨rfl, rfl⟩
  go_wp2_with fail
  go_region_held3 (fun w' => RefAt w' d lb nodes bytes ∧ w'.cell? ⟨d, 3, none⟩ = some (.slice (some ⟨lb, 0, none⟩) 1 1) ∧ w'.cell? ⟨lb, 1, none⟩ = some (.int .i64 1) ∧ w'.cell? ⟨lb, 2, none⟩ = some (.int .u32 0) ∧ w'.cell? ⟨lb, 3, none⟩ = some (.int .u32 0) ∧ w'.cell? ⟨lb, 4, none⟩ = some (.int .u32 0) ∧ w'.cell? ⟨lb, 5, none⟩ = some (.int .i64 0) ∧ w'.cell? ⟨lb, 6, none⟩ = some (.int .i32 0)
      ∧ w'.cell? ⟨lb, 7, none⟩ = some (.slice none 0 0) ∧ w'.cell? ⟨lb, 8, none⟩ = some (.string ⟨#[]⟩) ∧ w'.cell? ⟨lb, 9, none⟩ = some (.slice none 0 0))
    (first | exact hall _ | go_keep)
    (first | (go_at_call 41; refine Calls.mono (HL _ ?_).out ?_; (go_split_ands; first | assumption | exact ⟨h2.top, h2.node⟩); rintro e w1 ⟨rfl, rfl⟩))
  go_wp2
  refine bodyPost_ret (v := .tuple #[rootStat, .int .i64 0]) (by simp [results, Tryz.results22, go_sem, rootStat, show IntKind.i64.wrap 0 = 0 from rfl]) rfl ⟨rfl, ?_⟩
  exact (alloc_below w _).drew
theorem RList_calls (h : RefAt w d lb nodes bytes) : Calls Tryz.prog 19 #[.pointer (some ⟨d, 0, none⟩), .int .i64 1] w fun e w' => (∃ p c, e = .returned (.tuple #[.slice p 0 c, .int .i64 0])) ∧ Below w.heap.size w w' := by
  obtain ⟨k0, k1, k2, k3, k4, k5, k6, k7, k8, k9⟩ := node_c h.node
  have k9' := fun o => (node_c (h.of_below (alloc_below w o)).node).2.2.2.2.2.2.2.2.2
  have HP := Lib.hid (RAt_calls h)
  clear h
  go_enter Tryz.func19, Tryz.ntmps19
  go_wp2_with fail
  refine HP.out.mono ?_
  rintro e w' ⟨rfl, rfl⟩
  go_wp2
  go_ret2
  exact ⟨⟨_, _, rfl⟩, alloc_below _ _⟩
end
end Go.Proofs.YtphbbcjmnlamaaaGreatV
