/- VfsNews: the questions. -/
import Derived.Test.YtphbbcjmnlamaaaGreatVnWhole
import Derived.Test.YtphbbcjmnlamaaaGreatVMore
namespace Go.Proofs.YtphbbcjmnlamaaaGreatV
open Go.RowKit
set_option linter.unusedVariables false
set_option linter.unusedSimpArgs false
def opCells (kind dir node : Int) : Array Value := #[.int .i64 kind, .bool false, .int .i64 dir, .string ⟨#[]⟩, .int .i64 node, .int .i64 0, .string ⟨#[]⟩, .string ⟨#[]⟩, .int .u32 0, .int .u32 0, .int .u32 0, .int .i64 0, .int .i32 0, .int .i64 0, .int .i64 0, .slice none 0 0, .int .i64 0, .int .i64 0, .int .i64 0, .slice none 0 0]
structure AskAt (w : World) (b pb s d lb : Nat) (nodes bytes kind dir node : Int) : Prop where
  pair : PairAt w pb s d lb nodes bytes
  op : w.heap[b]? = some (.cells (opCells kind dir node) 39 (0, 0))
section
variable {w : World} {b pb s d lb : Nat} {nodes bytes kind dir node : Int}
theorem AskAt.of_below {w' : World} (h : AskAt w b pb s d lb nodes bytes kind dir node) (hb : Below w.heap.size w w') : AskAt w' b pb s d lb nodes bytes kind dir node :=
  ⟨h.pair.of_below hb, (hb.block _ (Array.getElem?_eq_some_iff.1 h.op).1).trans h.op⟩
theorem AskAt.drew (h : AskAt w b pb s d lb nodes bytes kind dir node) : AskAt w.drew b pb s d lb nodes bytes kind dir node := h.of_below ((Below.refl _ w).drew)
theorem AskAt.made (h : PairAt w pb s d lb nodes bytes) : AskAt (w.alloc (.cells (opCells kind dir node) 39)) w.heap.size pb s d lb nodes bytes kind dir node := ⟨h.of_below (alloc_below w _), Go.heap_alloc_new _ _⟩
theorem ask_s {W : World} (h : AskAt W b pb s d lb nodes bytes kind dir node) : W.cell? ⟨pb, 0, none⟩ = some (.pointer (some ⟨s, 0, none⟩)) ∧ W.cell? ⟨pb, 1, none⟩ = some (.pointer (some ⟨d, 0, none⟩)) ∧ W.cell? ⟨b, 2, none⟩ = some (.int .i64 dir) ∧ W.cell? ⟨b, 4, none⟩ = some (.int .i64 node) := ⟨h.pair.p0, h.pair.p1, cell_of h.op 2, cell_of h.op 4⟩
theorem inv_new (hn : 1 ≤ nodes ∧ nodes ≤ 4096) (hb : 0 ≤ bytes ∧ bytes ≤ 4194304) : Inv (stNew nodes bytes) := by
  have key : ∀ n i, aget n (stNew nodes bytes).inodes = some i → n = 1 ∧ i = root0 := fun n i hi => by
    simp only [stNew, aget] at hi
    split at hi
    · rename_i e; cases hi; exact ⟨e.symm, rfl⟩
    · cases hi
  refine ⟨hn, hb, by simp [stNew], by simp [stNew]; omega, by simp [stNew]; omega, by simp [stNew], fun n i hi => ?_, fun n i hi e he => ?_⟩
  · obtain ⟨rfl, rfl⟩ := key n i hi
    exact ⟨by simp [root0], by simp [root0], by simp [root0], by simp [root0, noName, ByteArray.size], by simp [root0], by simp [stNew]⟩
  · obtain ⟨rfl, rfl⟩ := key n i hi
    simp [root0] at he
set_option maxRecDepth 100000 in
set_option maxHeartbeats 4000000 in
theorem asks_free (h : PairAt w pb s d lb nodes bytes) (hn : 1 ≤ nodes ∧ nodes ≤ 4096) (hb : 0 ≤ bytes ∧ bytes ≤ 4194304) :
    Calls Tryz.prog 6 #[.pointer (some ⟨pb, 0, none⟩), .agg (opCells 20 0 0)] w fun e w' => e = .returned (.bool true) ∧ Below w.heap.size w w' := by
  have HA := Lib.hid (AskAt.made (kind := 20) (dir := 0) (node := 0) h)
  have p0 := HA.out.pair.p0
  have HI := Lib.hid (inv_new hn hb)
  have HN := Lib.hid hn
  have HBY := Lib.hid hb
  clear h hn hb
  unfold opCells at *
  go_enter Tryz.func6, Tryz.ntmps6
  go_wp2_with fail
  have hFr := Free_calls HA.out.pair.fs HI.out
  unfold opCells at hFr
  refine hFr.mono ?_
  clear hFr
  rintro e w1 ⟨rfl, hb1⟩
  have h1 := Lib.hid (HA.out.pair.of_below hb1)
  have HB1 := Lib.hid ((alloc_below w _).trans (hb1.mono (by simp)))
  have p1 := h1.out.p1
  clear hb1
  go_wp2_with fail
  refine (RFree_calls h1.out.rf HN.out HBY.out).mono ?_
  rintro e w2 ⟨rfl, hb2⟩
  have HW := Lib.hid (whole_calls (h1.out.of_below hb2))
  have HB2 := Lib.hid (HB1.out.trans (hb2.mono HB1.out.size))
  clear hb2
  have e1 : (((stNew nodes bytes).inodes.length : Nat) : Int) = 1 := rfl
  have e2 : (stNew nodes bytes).nodes = nodes := rfl
  have e3 : (stNew nodes bytes).bytes - (stNew nodes bytes).used = bytes := Int.sub_zero _
  rw [e1, e2, e3]
  clear e1 e2 e3
  go_wp2_with fail
  refine HW.out.mono ?_
  rintro e w3 ⟨rfl, hb3⟩
  have HB3 := Lib.hid (HB2.out.trans (hb3.mono HB2.out.size))
  clear hb3
  go_wp2
  go_ret
  exact ⟨rfl, HB3.out⟩
set_option maxRecDepth 100000 in
set_option maxHeartbeats 4000000 in
theorem asks_up (h : PairAt w pb s d lb nodes bytes) : Calls Tryz.prog 6 #[.pointer (some ⟨pb, 0, none⟩), .agg (opCells 12 1 0)] w fun e w' => e = .returned (.bool true) ∧ Below w.heap.size w w' := by
  have HA := Lib.hid (AskAt.made (kind := 12) (dir := 1) (node := 0) h)
  clear h
  unfold opCells at *
  go_enter Tryz.func6, Tryz.ntmps6
  go_wp2_with fail
  go_region_held3 (fun W => W.cell? ⟨pb, 0, none⟩ = some (.pointer (some ⟨s, 0, none⟩)) ∧ W.cell? ⟨pb, 1, none⟩ = some (.pointer (some ⟨d, 0, none⟩)) ∧ W.cell? ⟨w.heap.size, 2, none⟩ = some (.int .i64 1) ∧ W.cell? ⟨w.heap.size, 4, none⟩ = some (.int .i64 0))
    (first | exact ask_s HA.out.drew | exact ask_s (HA.out.drew.of_below hb1))
    (first | (go_at_call 16; refine (Up_calls HA.out.drew.pair.fs 1).mono ?_; rintro e w1 ⟨rfl, hb1⟩))
  have h1 := Lib.hid (HA.out.drew.of_below hb1)
  have HB1 := Lib.hid ((alloc_below w _).drew.trans (hb1.mono (alloc_below w _).drew.size))
  have hu : upS (stNew nodes bytes) 1 = (1, 0) := rfl
  rw [hu]
  clear hb1 hu
  go_wp2_with fail
  go_region_held3 (fun W => W.cell? ⟨pb, 0, none⟩ = some (.pointer (some ⟨s, 0, none⟩)) ∧ W.cell? ⟨pb, 1, none⟩ = some (.pointer (some ⟨d, 0, none⟩)) ∧ W.cell? ⟨w.heap.size, 2, none⟩ = some (.int .i64 1) ∧ W.cell? ⟨w.heap.size, 4, none⟩ = some (.int .i64 0))
    (first | exact ask_s h1.out.drew)
    (first | (go_at_call 17; refine (RUp_calls h1.out.drew.pair.rf).mono ?_; rintro e w2 ⟨rfl, rfl⟩))
  go_wp2
  go_ret
  exact ⟨rfl, HB1.out.drew⟩
set_option maxRecDepth 100000 in
set_option maxHeartbeats 4000000 in
theorem asks_list (h : PairAt w pb s d lb nodes bytes) : Calls Tryz.prog 6 #[.pointer (some ⟨pb, 0, none⟩), .agg (opCells 13 1 0)] w fun e w' => e = .returned (.bool true) ∧ Below w.heap.size w w' := by
  have HA := Lib.hid (AskAt.made (kind := 13) (dir := 1) (node := 0) h)
  clear h
  unfold opCells at *
  go_enter Tryz.func6, Tryz.ntmps6
  go_wp2_with fail
  go_region_held3 (fun W => W.cell? ⟨pb, 0, none⟩ = some (.pointer (some ⟨s, 0, none⟩)) ∧ W.cell? ⟨pb, 1, none⟩ = some (.pointer (some ⟨d, 0, none⟩)) ∧ W.cell? ⟨w.heap.size, 2, none⟩ = some (.int .i64 1) ∧ W.cell? ⟨w.heap.size, 4, none⟩ = some (.int .i64 0))
    (first | exact ask_s HA.out.drew | exact ask_s (HA.out.drew.of_below hb1))
    (first | (go_at_call 18; refine (VList_calls HA.out.drew.pair.fs).mono ?_; rintro e w1 ⟨rfl, hb1⟩))
  have h1 := Lib.hid (HA.out.drew.of_below hb1)
  have HB1 := Lib.hid ((alloc_below w _).drew.trans (hb1.mono (alloc_below w _).drew.size))
  clear hb1
  go_wp2_with fail
  go_region_held3 (fun W => W.cell? ⟨pb, 0, none⟩ = some (.pointer (some ⟨s, 0, none⟩)) ∧ W.cell? ⟨pb, 1, none⟩ = some (.pointer (some ⟨d, 0, none⟩)) ∧ W.cell? ⟨w.heap.size, 2, none⟩ = some (.int .i64 1) ∧ W.cell? ⟨w.heap.size, 4, none⟩ = some (.int .i64 0))
    (first | exact ask_s h1.out.drew | exact ask_s (h1.out.drew.of_below hb2))
    (first | (go_at_call 19; refine (RList_calls h1.out.drew.pair.rf).mono ?_; rintro e w2 ⟨⟨p, c, rfl⟩, hb2⟩))
  have HB2 := Lib.hid (HB1.out.drew.trans (hb2.mono HB1.out.drew.size))
  clear hb2
  go_wp2_with fail
  refine (sameNamed_calls w2 p c).mono ?_
  rintro e w3 ⟨rfl, hb3⟩
  have HB3 := Lib.hid (HB2.out.trans (hb3.mono HB2.out.size))
  clear hb3
  go_wp2
  go_ret
  exact ⟨rfl, HB3.out⟩
end
end Go.Proofs.YtphbbcjmnlamaaaGreatV
