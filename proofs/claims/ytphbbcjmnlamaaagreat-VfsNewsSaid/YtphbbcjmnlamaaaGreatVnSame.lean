/- VfsNews: Same, wipe, sameActs, sameNamed. -/
import Derived.Test.YtphbbcjmnlamaaaGreatVnRef3
import Derived.StillTailTactics
namespace Go.Proofs.YtphbbcjmnlamaaaGreatV
open Go.RowKit
set_option linter.unusedVariables false
set_option linter.unusedSimpArgs false
theorem conv_nil (w : World) : (convert 34 9 (.slice none 0 0)).run Tryz.prog w = .ok (.string ⟨#[]⟩) w := by kernel_rfl
set_option maxRecDepth 100000 in
set_option maxHeartbeats 4000000 in
theorem SameNode_calls (w : World) : Calls Tryz.prog 33 #[.agg (nodeCells 1), .agg (nodeCells 1)] w fun e w' => e = .returned (.bool true) ∧ Below w.heap.size w w' := by
  unfold nodeCells
  have hcv := conv_nil
  go_enter Tryz.func33, Tryz.ntmps33
  go_wp2
  refine wp_loop_rounds 1 ?_
  rw [rounds_succ]
  go_wp2
  go_ret
  exact ⟨rfl, below_two w _ _⟩
section
variable {w : World} {nodes bytes : Int} {g c lb : Nat}
def imgV (nodes bytes : Int) (g c : Nat) : Value := .agg #[.int .i64 nodes, .int .i64 bytes, .int .i64 2, .slice (some ⟨g, 0, none⟩) 1 c]
/-- What Same's loop reads. -/
abbrev SmS (a b g c lb : Nat) (W : World) : Prop := W.cell? ⟨a, 3, none⟩ = some (.slice (some ⟨g, 0, none⟩) 1 c) ∧ W.cell? ⟨b, 3, none⟩ = some (.slice (some ⟨lb, 0, none⟩) 1 1) ∧ W.cell? ⟨g, 0, none⟩ = some (.int .i64 1) ∧ W.cell? ⟨g, 1, none⟩ = some (.int .i64 1) ∧ W.cell? ⟨g, 2, none⟩ = some (.int .u32 0) ∧ W.cell? ⟨g, 3, none⟩ = some (.int .u32 0) ∧ W.cell? ⟨g, 4, none⟩ = some (.int .u32 0) ∧ W.cell? ⟨g, 5, none⟩ = some (.int .i64 0) ∧ W.cell? ⟨g, 6, none⟩ = some (.int .i32 0) ∧ W.cell? ⟨g, 7, none⟩ = some (.slice none 0 0) ∧ W.cell? ⟨g, 8, none⟩ = some (.string ⟨#[]⟩) ∧ W.cell? ⟨g, 9, none⟩ = some (.slice none 0 0) ∧ W.cell? ⟨lb, 0, none⟩ = some (.int .i64 1) ∧ W.cell? ⟨lb, 1, none⟩ = some (.int .i64 1) ∧ W.cell? ⟨lb, 2, none⟩ = some (.int .u32 0) ∧ W.cell? ⟨lb, 3, none⟩ = some (.int .u32 0) ∧ W.cell? ⟨lb, 4, none⟩ = some (.int .u32 0) ∧ W.cell? ⟨lb, 5, none⟩ = some (.int .i64 0) ∧ W.cell? ⟨lb, 6, none⟩ = some (.int .i32 0) ∧ W.cell? ⟨lb, 7, none⟩ = some (.slice none 0 0) ∧ W.cell? ⟨lb, 8, none⟩ = some (.string ⟨#[]⟩) ∧ W.cell? ⟨lb, 9, none⟩ = some (.slice none 0 0)
theorem sm_below {a b : Nat} {W W' : World} (h : SmS a b g c lb W) (hb : Below W.heap.size W W') : SmS a b g c lb W' := by
  obtain ⟨q0, q1, q2, q3, q4, q5, q6, q7, q8, q9, q10, q11, q12, q13, q14, q15, q16, q17, q18, q19, q20, q21⟩ := h
  have k : ∀ {p : Addr} {v : Value}, W.cell? p = some v → W'.cell? p = some v := fun {p v} e => (hb.cell (World.block_lt_of_cell? W _ e)).trans e
  exact ⟨k q0, k q1, k q2, k q3, k q4, k q5, k q6, k q7, k q8, k q9, k q10, k q11, k q12, k q13, k q14, k q15, k q16, k q17, k q18, k q19, k q20, k q21⟩
theorem sm_of {a b : Nat} {W : World} (ha : W.cell? ⟨a, 3, none⟩ = some (.slice (some ⟨g, 0, none⟩) 1 c)) (hb : W.cell? ⟨b, 3, none⟩ = some (.slice (some ⟨lb, 0, none⟩) 1 1)) (hg : ∀ j u, (nodeCells 1).toList[j]? = some u → W.cell? ⟨g, j, none⟩ = some u) (hl : ∀ j u, (nodeCells 1).toList[j]? = some u → W.cell? ⟨lb, j, none⟩ = some u) : SmS a b g c lb W :=
  ⟨ha, hb, hg 0 _ rfl, hg 1 _ rfl, hg 2 _ rfl, hg 3 _ rfl, hg 4 _ rfl, hg 5 _ rfl, hg 6 _ rfl, hg 7 _ rfl, hg 8 _ rfl, hg 9 _ rfl, hl 0 _ rfl, hl 1 _ rfl, hl 2 _ rfl, hl 3 _ rfl, hl 4 _ rfl, hl 5 _ rfl, hl 6 _ rfl, hl 7 _ rfl, hl 8 _ rfl, hl 9 _ rfl⟩
set_option maxRecDepth 100000 in
set_option maxHeartbeats 4000000 in
theorem Same_calls (hg : ∀ j u, (nodeCells 1).toList[j]? = some u → w.cell? ⟨g, j, none⟩ = some u) (hl : ∀ j u, (nodeCells 1).toList[j]? = some u → w.cell? ⟨lb, j, none⟩ = some u) :
    Calls Tryz.prog 10 #[imgV nodes bytes g c, imgV nodes bytes lb 1] w fun e w' => e = .returned (.bool true) ∧ Below w.heap.size w w' := by
  have lt1 : g < w.heap.size := World.block_lt_of_cell? w _ (hg 0 (.int .i64 1) rfl)
  have lt2 : lb < w.heap.size := World.block_lt_of_cell? w _ (hl 0 (.int .i64 1) rfl)
  have hS0 : SmS w.heap.size (w.heap.size + 1) g c lb ((w.alloc (.cells #[.int .i64 nodes, .int .i64 bytes, .int .i64 2, .slice (some ⟨g, 0, none⟩) 1 c] 37)).alloc (.cells #[.int .i64 nodes, .int .i64 bytes, .int .i64 2, .slice (some ⟨lb, 0, none⟩) 1 1] 37)).drew :=
    sm_of (cell_of ((Below.heap_alloc _ _ _ (by simp)).trans (Go.heap_alloc_new _ _)) 3) (cell_of (heap_two w _ _) 3) (fun j u h => ((below_two w _ _).cell (p := ⟨g, j, none⟩) lt1).trans (hg j u h)) (fun j u h => ((below_two w _ _).cell (p := ⟨lb, j, none⟩) lt2).trans (hl j u h))
  have HS0 := Lib.hid hS0
  have HN := Lib.hid SameNode_calls
  unfold imgV
  clear hg hl hS0
  go_enter Tryz.func10, Tryz.ntmps10
  go_wp2
  refine wp_loop_rounds 2 ?_
  rw [rounds_succ]
  go_wp2_with fail
  go_region_held3 (fun W => W.cell? ⟨w.heap.size, 3, none⟩ = some (.slice (some ⟨g, 0, none⟩) 1 c) ∧ W.cell? ⟨w.heap.size + 1, 3, none⟩ = some (.slice (some ⟨lb, 0, none⟩) 1 1) ∧ W.cell? ⟨g, 0, none⟩ = some (.int .i64 1) ∧ W.cell? ⟨g, 1, none⟩ = some (.int .i64 1) ∧ W.cell? ⟨g, 2, none⟩ = some (.int .u32 0) ∧ W.cell? ⟨g, 3, none⟩ = some (.int .u32 0) ∧ W.cell? ⟨g, 4, none⟩ = some (.int .u32 0) ∧ W.cell? ⟨g, 5, none⟩ = some (.int .i64 0) ∧ W.cell? ⟨g, 6, none⟩ = some (.int .i32 0) ∧ W.cell? ⟨g, 7, none⟩ = some (.slice none 0 0) ∧ W.cell? ⟨g, 8, none⟩ = some (.string ⟨#[]⟩) ∧ W.cell? ⟨g, 9, none⟩ = some (.slice none 0 0) ∧ W.cell? ⟨lb, 0, none⟩ = some (.int .i64 1) ∧ W.cell? ⟨lb, 1, none⟩ = some (.int .i64 1) ∧ W.cell? ⟨lb, 2, none⟩ = some (.int .u32 0) ∧ W.cell? ⟨lb, 3, none⟩ = some (.int .u32 0) ∧ W.cell? ⟨lb, 4, none⟩ = some (.int .u32 0) ∧ W.cell? ⟨lb, 5, none⟩ = some (.int .i64 0) ∧ W.cell? ⟨lb, 6, none⟩ = some (.int .i32 0) ∧ W.cell? ⟨lb, 7, none⟩ = some (.slice none 0 0) ∧ W.cell? ⟨lb, 8, none⟩ = some (.string ⟨#[]⟩) ∧ W.cell? ⟨lb, 9, none⟩ = some (.slice none 0 0))
    (first | exact HS0.out | exact sm_below HS0.out hb)
    (first | (go_at_call 33; refine (HN.out _).mono ?_; rintro e w1 ⟨rfl, hb⟩))
  go_wp2_with fail
  rw [rounds_succ]
  go_wp2
  go_ret
  exact ⟨rfl, (below_two w _ _).drew.trans (hb.mono (below_two w _ _).drew.size)⟩
end
end Go.Proofs.YtphbbcjmnlamaaaGreatV
