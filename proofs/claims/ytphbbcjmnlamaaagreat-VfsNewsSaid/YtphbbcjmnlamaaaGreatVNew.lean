/- vfs: New. -/
import Derived.Test.YtphbbcjmnlamaaaGreatVTrace
namespace Go.Proofs.YtphbbcjmnlamaaaGreatV
open Go.RowKit
set_option linter.unusedVariables false
set_option linter.unusedSimpArgs false
def ownNew (s : Nat) : Nat → Option Int := fun b => if b = s ∨ b = s + 1 then some (-1) else if b = s + 2 ∨ b = s + 3 then some 1 else none
def phNew (s : Nat) : Phys := ⟨s + 1, .slice none 0 0, fun _ => s + 3, fun _ => .slice none 0 0, fun _ => .map (some (s + 2))⟩
def root0 : Ino := ⟨1, zeroMt, [], noName, [], 1, 1⟩
def topOf (nodes bytes : Int) (m : Value) : Array Value := #[.int .i64 nodes, .int .i64 bytes, .int .i64 2, .int .i64 0, m, .slice none 0 0]
def stNew (nodes bytes : Int) : FSt := ⟨nodes, bytes, 2, 0, [(1, root0)], []⟩
def worldNew (w : World) (nodes bytes : Int) : World := (((w.alloc (.cells (topOf nodes bytes (.map none)) 73 (0, 0))).alloc (.map #[] 0)).alloc (.map #[] 0)).alloc (.cells (inoCells root0 (.slice none 0 0) (.map (some (w.heap.size + 2)))) 77 (0, 0))
theorem heap_alloc_at (w : World) (o : Obj) (b : Nat) (hb : b = w.heap.size) : (w.alloc o).heap[b]? = some o := by subst hb; exact (MapKept.heap_alloc w o).1
theorem worldNew_heap (w : World) (nodes bytes : Int) : (worldNew w nodes bytes).heap.size = w.heap.size + 4 ∧ (worldNew w nodes bytes).heap[w.heap.size]? = some (.cells (topOf nodes bytes (.map none)) 73 (0, 0)) ∧ (worldNew w nodes bytes).heap[w.heap.size + 1]? = some (.map #[] 0)
    ∧ (worldNew w nodes bytes).heap[w.heap.size + 2]? = some (.map #[] 0) ∧ (worldNew w nodes bytes).heap[w.heap.size + 3]? = some (.cells (inoCells root0 (.slice none 0 0) (.map (some (w.heap.size + 2)))) 77 (0, 0)) := by
  unfold worldNew
  refine ⟨by simp, ?_, ?_, ?_, ?_⟩
  · rw [Below.heap_alloc _ _ _ (by simp; omega), Below.heap_alloc _ _ _ (by simp; omega), Below.heap_alloc _ _ _ (by simp)]
    exact heap_alloc_at _ _ _ rfl
  · rw [Below.heap_alloc _ _ _ (by simp), Below.heap_alloc _ _ _ (by simp)]
    exact heap_alloc_at _ _ _ (by simp)
  · rw [Below.heap_alloc _ _ _ (by simp)]
    exact heap_alloc_at _ _ _ (by simp)
  · exact heap_alloc_at _ _ _ (by simp)
theorem worldNew_below (w : World) (nodes bytes : Int) : Below w.heap.size w (worldNew w nodes bytes) := by
  unfold worldNew
  exact ((((Below.refl _ _).alloc (Nat.le_refl _) _).alloc (by simp) _).alloc (by simp; omega) _).alloc (by simp; omega) _
theorem new_rep (w : World) (nodes bytes : Int) {w5 : World} (hM : MapAt keyInt encPtr w5 (w.heap.size + 1) (aset 1 (w.heap.size + 3) ([] : List (Int × Nat)))) (hT : Turned (worldNew w nodes bytes) w5 (w.heap.size + 1)) :
    FSRep (w5.setCell ⟨w.heap.size, 4, none⟩ (.map (some (w.heap.size + 1)))) w.heap.size w.heap.size (ownNew w.heap.size) (phNew w.heap.size) (stNew nodes bytes) ∧ Frame w (w5.setCell ⟨w.heap.size, 4, none⟩ (.map (some (w.heap.size + 1)))) (fun _ => none) (ownNew w.heap.size) := by
  obtain ⟨h0, h1, h2, h3, h4⟩ := worldNew_heap w nodes bytes
  have hT2 := Turned.setCell w5 w.heap.size 4 (.map (some (w.heap.size + 1)))
  have hsz : (w5.setCell ⟨w.heap.size, 4, none⟩ (.map (some (w.heap.size + 1)))).heap.size = w.heap.size + 4 := by rw [hT2.size, hT.size, h0]
  have hB := worldNew_below w nodes bytes
  have hblk : ∀ b, b ≠ w.heap.size → b ≠ w.heap.size + 1 → (w5.setCell ⟨w.heap.size, 4, none⟩ (.map (some (w.heap.size + 1)))).heap[b]? = (worldNew w nodes bytes).heap[b]? := fun b e1 e2 => (hT2.block b e1).trans (hT.block b e2)
  have o2 : ownNew w.heap.size (w.heap.size + 2) = some 1 := by unfold ownNew; rw [if_neg (by omega), if_pos (by omega)]
  have o3 : ownNew w.heap.size (w.heap.size + 3) = some 1 := by unfold ownNew; rw [if_neg (by omega), if_pos (by omega)]
  refine ⟨⟨fun b n ho => ?_, ?_, if_pos (.inl rfl), if_pos (.inr rfl), ?_, ⟨⟨rfl, .inl ⟨rfl, rfl⟩⟩, fun k hk => by simp [phNew, Value.ownBlock] at hk⟩, fun n i hi => ?_, ?_, fun n hn => ?_⟩, ⟨?_, ?_, ?_, ?_, fun b hb _ => ⟨?_, ?_⟩⟩⟩
  · rw [hsz]
    unfold ownNew at ho
    split at ho
    · rename_i e; omega
    · split at ho
      · rename_i e; omega
      · cases ho
  · exact (heap_setCell_at ((hT.block _ (by omega)).trans h1) 4 _).trans rfl
  · show MapAt keyInt encPtr _ (w.heap.size + 1) [(1, w.heap.size + 3)]
    exact MapAt.of_block hM (hT2.block _ (by omega))
  · have hin : n = 1 ∧ i = root0 := by
      simp only [stNew, aget] at hi
      split at hi
      · rename_i e; cases hi; exact ⟨e.symm, rfl⟩
      · cases hi
    obtain ⟨rfl, rfl⟩ := hin
    refine ⟨(hblk (w.heap.size + 3) (by omega) (by omega)).trans h4, o3, ⟨⟨rfl, .inl ⟨rfl, rfl⟩⟩, fun k hk => by simp [phNew, Value.ownBlock] at hk⟩, .inl ⟨rfl, w.heap.size + 2, rfl, o2, #[], 0, (hblk (w.heap.size + 2) (by omega) (by omega)).trans h3, rfl, by simp, by simp⟩⟩
  · simp [stNew, akeys]
  · simp [stNew, akeys] at hn
    omega
  · exact hT2.os.trans (hT.os.trans hB.os)
  · exact hT2.tape.trans (hT.tape.trans hB.tape)
  · exact hT2.output.trans (hT.output.trans hB.output)
  · rw [hsz]; omega
  · exact (hblk _ (by omega) (by omega)).trans (hB.block _ hb)
  · unfold ownNew
    rw [if_neg (by omega), if_neg (by omega)]
set_option maxHeartbeats 1000000 in
theorem New_calls (w : World) (nodes bytes : Int) (hn : 1 ≤ nodes ∧ nodes ≤ 4096) (hb : 0 ≤ bytes ∧ bytes ≤ 4194304) :
    Calls Tryz.prog 7 #[.int .i64 nodes, .int .i64 bytes] w fun e w' => e = .returned (.tuple #[.pointer (some ⟨w.heap.size, 0, none⟩), .int .i64 0]) ∧ FSRep w' w.heap.size w.heap.size (ownNew w.heap.size) (phNew w.heap.size) (stNew nodes bytes) ∧ Frame w w' (fun _ => none) (ownNew w.heap.size) := by
  obtain ⟨h0, h1, h2, h3, h4⟩ := worldNew_heap w nodes bytes
  have hM0 : MapAt keyInt encPtr (worldNew w nodes bytes) (w.heap.size + 1) ([] : List (Int × Nat)) := ⟨#[], 0, h2, rfl, by simp, by simp⟩
  obtain ⟨w5, hput, hM, hT⟩ := put_ino hM0 1 (w.heap.size + 3)
  have HR := Lib.hid (new_rep w nodes bytes hM hT)
  have b4 : w5.heap[w.heap.size]? = _ := (hT.block _ (by omega)).trans h1
  have c4 : w5.cell? ⟨w.heap.size, 4, none⟩ = some (.map none) := (cell_of b4 4).trans rfl
  have f4 : w5.frozen? ⟨w.heap.size, 4, none⟩ = false := frozen_of b4 4
  have d1 : decide (nodes < 1) = false := decide_eq_false (by omega)
  have d2 : decide (4096 < nodes) = false := decide_eq_false (by omega)
  have d3 : decide (bytes < 0) = false := decide_eq_false (by omega)
  have d4 : decide (4194304 < bytes) = false := decide_eq_false (by omega)
  unfold worldNew topOf inoCells root0 zeroMt noName at hput
  have mk : ∀ (t : TypeId) (w : World), (Instr.makeMap t none).run Tryz.prog w = .ok (.map (some w.heap.size)) (w.alloc (.map #[] 0)) := fun _ _ => rfl
  clear hM hT hM0 h0 h1 h2 h3 h4 b4
  go_enter Tryz.func7, Tryz.ntmps7
  go_wp2_with fail
  go_ret2
  exact ⟨rfl, HR.out.1, HR.out.2⟩
end Go.Proofs.YtphbbcjmnlamaaaGreatV
