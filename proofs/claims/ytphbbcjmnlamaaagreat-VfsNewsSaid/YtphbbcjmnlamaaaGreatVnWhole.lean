/- VfsNews: whole: all of it is the document's. -/
import Derived.Test.YtphbbcjmnlamaaaGreatVnWipe
namespace Go.Proofs.YtphbbcjmnlamaaaGreatV
open Go.RowKit
set_option linter.unusedVariables false
set_option linter.unusedSimpArgs false
/-- A file system by the program and by the document, both empty. -/
structure PairAt (w : World) (pb s d lb : Nat) (nodes bytes : Int) : Prop where
  top : w.heap[pb]? = some (.cells #[.pointer (some ⟨s, 0, none⟩), .pointer (some ⟨d, 0, none⟩)] 28 (0, 0))
  fs : FsAt w s nodes bytes
  rf : RefAt w d lb nodes bytes
section
variable {w : World} {pb s d lb : Nat} {nodes bytes : Int}
theorem PairAt.of_below {w' : World} (h : PairAt w pb s d lb nodes bytes) (hb : Below w.heap.size w w') : PairAt w' pb s d lb nodes bytes :=
  ⟨(hb.block _ (Array.getElem?_eq_some_iff.1 h.top).1).trans h.top, FsAt.of_below h.fs hb, h.rf.of_below hb⟩
theorem PairAt.lt (h : PairAt w pb s d lb nodes bytes) : pb < w.heap.size := (Array.getElem?_eq_some_iff.1 h.top).1
theorem PairAt.p0 (h : PairAt w pb s d lb nodes bytes) : w.cell? ⟨pb, 0, none⟩ = some (.pointer (some ⟨s, 0, none⟩)) := cell_of h.top 0
theorem PairAt.p1 (h : PairAt w pb s d lb nodes bytes) : w.cell? ⟨pb, 1, none⟩ = some (.pointer (some ⟨d, 0, none⟩)) := cell_of h.top 1
theorem own_cells {W : World} {base g c : Nat} {xs : List Value} (h : W.ownsRow base 79 10 (.slice (some ⟨g, 0, none⟩) 1 c) 1 xs) : ∀ j u, xs[j]? = some u → W.cell? ⟨g, j, none⟩ = some u := fun j u hj => by
  have := h.cells (g := g) rfl j u hj
  rwa [Addr.add_lit, Nat.zero_add] at this
theorem node_cells {W : World} (h : RefAt W d lb nodes bytes) : ∀ j u, (nodeCells 1).toList[j]? = some u → W.cell? ⟨lb, j, none⟩ = some u := fun j u hj => (cell_of h.node j).trans (by rw [← Array.getElem?_toList]; exact hj)
theorem wh_of {W : World} {b g c : Nat} (h : PairAt W pb s d lb nodes bytes) (hi : W.heap[b]? = some (.cells #[.int .i64 nodes, .int .i64 bytes, .int .i64 2, .slice (some ⟨g, 0, none⟩) 1 c] 37 (0, 0))) : W.cell? ⟨b, 0, none⟩ = some (.int .i64 nodes) ∧ W.cell? ⟨b, 1, none⟩ = some (.int .i64 bytes) ∧ W.cell? ⟨b, 2, none⟩ = some (.int .i64 2) ∧ W.cell? ⟨b, 3, none⟩ = some (.slice (some ⟨g, 0, none⟩) 1 c) ∧ W.cell? ⟨pb, 1, none⟩ = some (.pointer (some ⟨d, 0, none⟩)) ∧ W.cell? ⟨d, 0, none⟩ = some (.int .i64 nodes) ∧ W.cell? ⟨d, 1, none⟩ = some (.int .i64 bytes) ∧ W.cell? ⟨d, 2, none⟩ = some (.int .i64 2) ∧ W.cell? ⟨d, 3, none⟩ = some (.slice (some ⟨lb, 0, none⟩) 1 1) := by
  obtain ⟨c0, c1, c2, c3, c4⟩ := h.rf.c
  exact ⟨cell_of hi 0, cell_of hi 1, cell_of hi 2, cell_of hi 3, h.p1, c0, c1, c2, c3⟩
theorem tr_of {W : World} (h : PairAt W pb s d lb nodes bytes) : W.cell? ⟨pb, 0, none⟩ = some (.pointer (some ⟨s, 0, none⟩)) ∧ W.cell? ⟨pb, 1, none⟩ = some (.pointer (some ⟨d, 0, none⟩)) ∧ W.cell? ⟨d, 4, none⟩ = some (.slice none 0 0) := ⟨h.p0, h.p1, h.rf.c.2.2.2.2⟩
theorem PairAt.drew (h : PairAt w pb s d lb nodes bytes) : PairAt w.drew pb s d lb nodes bytes := h.of_below ((Below.refl _ w).drew)
set_option maxRecDepth 100000 in
set_option maxHeartbeats 4000000 in
theorem whole_calls (h : PairAt w pb s d lb nodes bytes) : Calls Tryz.prog 5 #[.pointer (some ⟨pb, 0, none⟩)] w fun e w' => e = .returned (.bool true) ∧ Below w.heap.size w w' := by
  have HR := Lib.hid h
  have p0 := h.p0
  clear h
  go_enter Tryz.func5, Tryz.ntmps5
  go_wp2_with fail
  refine (Image_calls HR.out.fs).mono ?_
  rintro e w1 ⟨g, c, rfl, ho1, hb1⟩
  have h1 := HR.out.of_below hb1
  have h2 := (h1.of_below (alloc_below w1 (.cells #[.int .i64 nodes, .int .i64 bytes, .int .i64 2, .slice (some ⟨g, 0, none⟩) 1 c] 37))).drew
  have hi2 : (w1.alloc (.cells #[.int .i64 nodes, .int .i64 bytes, .int .i64 2, .slice (some ⟨g, 0, none⟩) 1 c] 37)).drew.heap[w1.heap.size]? = some (.cells #[.int .i64 nodes, .int .i64 bytes, .int .i64 2, .slice (some ⟨g, 0, none⟩) 1 c] 37 (0, 0)) := Go.heap_alloc_new _ _
  have HO2 := Lib.hid (own_drew (own_alloc ho1 (.cells #[.int .i64 nodes, .int .i64 bytes, .int .i64 2, .slice (some ⟨g, 0, none⟩) 1 c] 37)))
  have H2 := Lib.hid h2
  have HI2 := Lib.hid hi2
  have HB2 := Lib.hid ((below_alloc2 hb1 (.cells #[.int .i64 nodes, .int .i64 bytes, .int .i64 2, .slice (some ⟨g, 0, none⟩) 1 c] 37)).drew)
  have HW2 := Lib.hid (show w1.heap.size < (w1.alloc (.cells #[.int .i64 nodes, .int .i64 bytes, .int .i64 2, .slice (some ⟨g, 0, none⟩) 1 c] 37)).drew.heap.size by simp)
  clear h2 hi2 ho1 hb1 h1 p0
  go_wp2_with fail
  go_region_held3 (fun W => W.cell? ⟨w1.heap.size, 0, none⟩ = some (.int .i64 nodes) ∧ W.cell? ⟨w1.heap.size, 1, none⟩ = some (.int .i64 bytes) ∧ W.cell? ⟨w1.heap.size, 2, none⟩ = some (.int .i64 2) ∧ W.cell? ⟨w1.heap.size, 3, none⟩ = some (.slice (some ⟨g, 0, none⟩) 1 c) ∧ W.cell? ⟨pb, 1, none⟩ = some (.pointer (some ⟨d, 0, none⟩)) ∧ W.cell? ⟨d, 0, none⟩ = some (.int .i64 nodes) ∧ W.cell? ⟨d, 1, none⟩ = some (.int .i64 bytes) ∧ W.cell? ⟨d, 2, none⟩ = some (.int .i64 2) ∧ W.cell? ⟨d, 3, none⟩ = some (.slice (some ⟨lb, 0, none⟩) 1 1))
    (first | exact wh_of H2.out HI2.out | exact wh_of (H2.out.of_below hb3) ((hb3.block _ HW2.out).trans HI2.out))
    (first | (go_at_call 10; refine (Same_calls (own_cells HO2.out) (node_cells H2.out.rf)).mono ?_; rintro e w3 ⟨rfl, hb3⟩))
  have H3 := Lib.hid (H2.out.of_below hb3)
  have hI3 := (hb3.block _ HW2.out).trans HI2.out
  have x0 := cell_of hI3 0
  have x1 := cell_of hI3 1
  have x2 := cell_of hI3 2
  have x3 := cell_of hI3 3
  simp only [List.getElem?_toArray, List.getElem?_cons_zero, List.getElem?_cons_succ] at x0 x1 x2 x3
  have HO3 := Lib.hid (own_move HO2.out fun k hk => hb3.block k (HO2.out.lt k hk).2)
  have HB3 := Lib.hid (HB2.out.trans (hb3.mono HB2.out.size))
  clear hI3 hb3
  go_wp2_with fail
  refine (wipe_calls HO3.out HB3.out.size).mono ?_
  rintro e w4 ⟨rfl, hb4⟩
  have H4 := Lib.hid (show PairAt w4 pb s d lb nodes bytes from HR.out.of_below (HB3.out.trans hb4))
  have HB4 := Lib.hid (HB3.out.trans hb4)
  clear hb4 x0 x1 x2 x3
  go_wp2_with fail
  go_region_held3 (fun W => W.cell? ⟨pb, 0, none⟩ = some (.pointer (some ⟨s, 0, none⟩)) ∧ W.cell? ⟨pb, 1, none⟩ = some (.pointer (some ⟨d, 0, none⟩)) ∧ W.cell? ⟨d, 4, none⟩ = some (.slice none 0 0))
    (first | exact tr_of H4.out.drew | exact tr_of (H4.out.drew.of_below hb5))
    (first
      | (go_at_call 13; refine (VTrace_calls H4.out.drew.fs).mono ?_; rintro e w5 ⟨rfl, rfl⟩)
      | (go_at_call 12; refine (sameActs_calls _).mono ?_; rintro e w5 ⟨rfl, hb5⟩))
  go_wp2
  go_ret
  exact ⟨rfl, HB4.out.drew.trans (hb5.mono HB4.out.drew.size)⟩
end
end Go.Proofs.YtphbbcjmnlamaaaGreatV
