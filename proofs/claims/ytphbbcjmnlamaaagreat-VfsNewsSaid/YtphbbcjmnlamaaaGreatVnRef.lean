/- VfsNews: the reference's calls at an empty file system. -/
import Derived.Test.YtphbbcjmnlamaaaGreatVNewBad
import Derived.Test.YtphbbcjmnlamaaaGreatVMore
namespace Go.Proofs.YtphbbcjmnlamaaaGreatV
open Go.RowKit
set_option linter.unusedVariables false
set_option linter.unusedSimpArgs false
def nodeCells (n : Int) : Array Value := #[.int .i64 n, .int .i64 1, .int .u32 0, .int .u32 0, .int .u32 0, .int .i64 0, .int .i32 0, .slice none 0 0, .string ⟨#[]⟩, .slice none 0 0]
def refCells (nodes bytes : Int) (lb : Nat) : Array Value := #[.int .i64 nodes, .int .i64 bytes, .int .i64 2, .slice (some ⟨lb, 0, none⟩) 1 1, .slice none 0 0]
def bothNew (w : World) (nodes bytes : Int) : World := (w.alloc (.cells (nodeCells 1) 79 (0, 0))).alloc (.cells (refCells nodes bytes w.heap.size) 50 (0, 0))
theorem RNew_calls (w : World) (nodes bytes : Int) (hn : 1 ≤ nodes ∧ nodes ≤ 4096) (hb : 0 ≤ bytes ∧ bytes ≤ 4194304) :
    Calls Tryz.prog 8 #[.int .i64 nodes, .int .i64 bytes] w fun e w' => e = .returned (.tuple #[.pointer (some ⟨w.heap.size + 1, 0, none⟩), .int .i64 0]) ∧ w' = bothNew w nodes bytes := by
  have d1 : decide (nodes < 1) = false := decide_eq_false (by omega)
  have d2 : decide (4096 < nodes) = false := decide_eq_false (by omega)
  have d3 : decide (bytes < 0) = false := decide_eq_false (by omega)
  have d4 : decide (4194304 < bytes) = false := decide_eq_false (by omega)
  go_enter Tryz.func8, Tryz.ntmps8
  go_wp2
  go_ret2
  exact ⟨rfl, rfl⟩
theorem RNew_bad (w : World) (nodes bytes : Int) (h : nodes < 1 ∨ nodes > 4096 ∨ bytes < 0 ∨ bytes > 4194304) :
    Calls Tryz.prog 8 #[.int .i64 nodes, .int .i64 bytes] w fun e w' => e = .returned (.tuple #[.pointer none, .int .i64 1]) ∧ w' = w := by
  by_cases h1 : nodes < 1
  · have d1 : decide (nodes < 1) = true := decide_eq_true h1
    clear h
    go_enter Tryz.func8, Tryz.ntmps8
    go_wp2
    go_ret2
    exact ⟨rfl, rfl⟩
  · have d1 : decide (nodes < 1) = false := decide_eq_false h1
    by_cases h2 : 4096 < nodes
    · have d2 : decide (4096 < nodes) = true := decide_eq_true h2
      clear h
      go_enter Tryz.func8, Tryz.ntmps8
      go_wp2
      go_ret2
      exact ⟨rfl, rfl⟩
    · have d2 : decide (4096 < nodes) = false := decide_eq_false h2
      by_cases h3 : bytes < 0
      · have d3 : decide (bytes < 0) = true := decide_eq_true h3
        clear h
        go_enter Tryz.func8, Tryz.ntmps8
        go_wp2
        go_ret2
        exact ⟨rfl, rfl⟩
      · have d3 : decide (bytes < 0) = false := decide_eq_false h3
        have d4 : 4194304 < bytes := by omega
        clear h
        go_enter Tryz.func8, Tryz.ntmps8
        go_wp2
        go_ret2
        exact ⟨rfl, rfl⟩
/-- How the reference's empty file system lies. -/
structure RefAt (w : World) (d lb : Nat) (nodes bytes : Int) : Prop where
  top : w.heap[d]? = some (.cells (refCells nodes bytes lb) 50 (0, 0))
  node : w.heap[lb]? = some (.cells (nodeCells 1) 79 (0, 0))
section
variable {w : World} {d lb : Nat} {nodes bytes : Int}
theorem RefAt.lt (h : RefAt w d lb nodes bytes) : d < w.heap.size ∧ lb < w.heap.size := ⟨(Array.getElem?_eq_some_iff.1 h.top).1, (Array.getElem?_eq_some_iff.1 h.node).1⟩
theorem RefAt.of_below {w' : World} (h : RefAt w d lb nodes bytes) (hb : Below w.heap.size w w') : RefAt w' d lb nodes bytes := ⟨(hb.block _ h.lt.1).trans h.top, (hb.block _ h.lt.2).trans h.node⟩
theorem RefAt.c (h : RefAt w d lb nodes bytes) : w.cell? ⟨d, 0, none⟩ = some (.int .i64 nodes) ∧ w.cell? ⟨d, 1, none⟩ = some (.int .i64 bytes) ∧ w.cell? ⟨d, 2, none⟩ = some (.int .i64 2) ∧ w.cell? ⟨d, 3, none⟩ = some (.slice (some ⟨lb, 0, none⟩) 1 1) ∧ w.cell? ⟨d, 4, none⟩ = some (.slice none 0 0) := by
  refine ⟨?_, ?_, ?_, ?_, ?_⟩ <;> exact cell_of h.top _
theorem node_c {n : Int} {b : Nat} {fr : Nat × Nat} {t : TypeId} (h : w.heap[b]? = some (.cells (nodeCells n) t fr)) : w.cell? ⟨b, 0, none⟩ = some (.int .i64 n) ∧ w.cell? ⟨b, 1, none⟩ = some (.int .i64 1) ∧ w.cell? ⟨b, 2, none⟩ = some (.int .u32 0) ∧ w.cell? ⟨b, 3, none⟩ = some (.int .u32 0) ∧ w.cell? ⟨b, 4, none⟩ = some (.int .u32 0) ∧ w.cell? ⟨b, 5, none⟩ = some (.int .i64 0) ∧ w.cell? ⟨b, 6, none⟩ = some (.int .i32 0)
    ∧ w.cell? ⟨b, 7, none⟩ = some (.slice none 0 0) ∧ w.cell? ⟨b, 8, none⟩ = some (.string ⟨#[]⟩) ∧ w.cell? ⟨b, 9, none⟩ = some (.slice none 0 0) := by
  refine ⟨?_, ?_, ?_, ?_, ?_, ?_, ?_, ?_, ?_, ?_⟩ <;> exact cell_of h _
theorem place_calls (h : RefAt w d lb nodes bytes) : Calls Tryz.prog 50 #[.slice (some ⟨lb, 0, none⟩) 1 1, .int .i64 1] w fun e w' => e = .returned (.int .i64 0) ∧ w' = w := by
  obtain ⟨k0, k1, k2, k3, k4, k5, k6, k7, k8, k9⟩ := node_c h.node
  clear h
  go_enter Tryz.func50, Tryz.ntmps50
  go_wp2
  refine wp_loop_rounds 1 ?_
  rw [rounds_succ]
  go_wp2
  go_ret
  exact ⟨rfl, rfl⟩
end
end Go.Proofs.YtphbbcjmnlamaaaGreatV
