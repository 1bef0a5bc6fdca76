/- VfsNews: the walk. -/
import Derived.Test.YtphbbcjmnlamaaaGreatVnStat
namespace Go.Proofs.YtphbbcjmnlamaaaGreatV
open Go.RowKit
set_option linter.unusedVariables false
set_option linter.unusedSimpArgs false
theorem below_frame {w w' : World} {o : Nat → Option Int} (h : Frame w w' (fun _ => none) o) : Below w.heap.size w w' := ⟨h.os, h.tape, h.output, h.size, fun k hk => (h.block k hk rfl).1⟩
theorem both_at (w : World) (nodes bytes : Int) : RefAt (bothNew w nodes bytes) (w.heap.size + 1) w.heap.size nodes bytes ∧ Below w.heap.size w (bothNew w nodes bytes) :=
  ⟨⟨heap_two w _ _, (Below.heap_alloc _ _ _ (by simp)).trans (Go.heap_alloc_new _ _)⟩, below_two w _ _⟩
section
variable {w : World} {nodes bytes : Int}
set_option maxHeartbeats 1000000 in
theorem made_good (hn : 1 ≤ nodes ∧ nodes ≤ 4096) (hb : 0 ≤ bytes ∧ bytes ≤ 4194304) :
    Calls Tryz.prog 4 #[.int .i64 nodes, .int .i64 bytes] w fun e w' => ∃ pb s d lb, e = .returned (.tuple #[.pointer (some ⟨pb, 0, none⟩), .bool true]) ∧ PairAt w' pb s d lb nodes bytes ∧ Below w.heap.size w w' := by
  have HN := Lib.hid hn
  have HB := Lib.hid hb
  clear hn hb
  go_enter Tryz.func4, Tryz.ntmps4
  go_wp2_with fail
  refine (New_calls w nodes bytes HN.out HB.out).mono ?_
  rintro e w1 ⟨rfl, hr, hf⟩
  have HR := Lib.hid (show FsAt w1 w.heap.size nodes bytes from hr)
  have H1 := Lib.hid (below_frame hf)
  clear hr hf
  go_wp2_with fail
  refine (RNew_calls w1 nodes bytes HN.out HB.out).mono ?_
  rintro e w2 ⟨rfl, rfl⟩
  obtain ⟨h2, h3⟩ := both_at w1 nodes bytes
  have H2 := Lib.hid h2
  have H3 := Lib.hid (FsAt.of_below HR.out h3)
  have H4 := Lib.hid (H1.out.trans (h3.mono H1.out.size))
  clear h2 h3
  generalize bothNew w1 nodes bytes = w2 at H2 H3 H4 ⊢
  go_wp2
  go_ret2
  exact ⟨w2.heap.size, w.heap.size, w1.heap.size + 1, w1.heap.size, rfl, ⟨Go.heap_alloc_new _ _, FsAt.of_below H3.out (alloc_below w2 _), H2.out.of_below (alloc_below w2 _)⟩, below_alloc2 H4.out _⟩
set_option maxHeartbeats 1000000 in
theorem made_bad (h : nodes < 1 ∨ nodes > 4096 ∨ bytes < 0 ∨ bytes > 4194304) :
    Calls Tryz.prog 4 #[.int .i64 nodes, .int .i64 bytes] w fun e w' => e = .returned (.tuple #[.pointer (some ⟨w.heap.size, 0, none⟩), .bool true]) ∧ w' = w.alloc (.cells #[.pointer none, .pointer none] 28) := by
  have H := Lib.hid h
  clear h
  go_enter Tryz.func4, Tryz.ntmps4
  go_wp2_with fail
  refine (New_bad w nodes bytes H.out).mono ?_
  rintro e w1 ⟨rfl, rfl⟩
  go_wp2_with fail
  refine (RNew_bad w1 nodes bytes H.out).mono ?_
  rintro e w2 ⟨rfl, rfl⟩
  go_wp2
  go_ret2
  exact ⟨rfl, rfl⟩
set_option maxRecDepth 100000 in
set_option maxHeartbeats 4000000 in
theorem VfsNews_good (hn : 1 ≤ nodes ∧ nodes ≤ 4096) (hb : 0 ≤ bytes ∧ bytes ≤ 4194304) :
    Calls Tryz.prog 3 #[.int .i64 nodes, .int .i64 bytes] w fun e w' => e = .returned (.bool true) ∧ Below w.heap.size w w' := by
  have HN := Lib.hid hn
  have HB := Lib.hid hb
  clear hn hb
  go_enter Tryz.func3, Tryz.ntmps3
  go_wp2_with fail
  refine (made_good HN.out HB.out).mono ?_
  rintro e w1 ⟨pb, s, d, lb, rfl, hp, hb1⟩
  have p0 := hp.p0
  have HP := Lib.hid hp
  have H1 := Lib.hid hb1
  clear hp hb1
  go_wp2_with fail
  refine (whole_calls HP.out).mono ?_
  rintro e w2 ⟨rfl, hb2⟩
  have HP2 := Lib.hid (HP.out.of_below hb2)
  have H2 := Lib.hid (H1.out.trans (hb2.mono H1.out.size))
  clear hb2 p0
  go_wp2_with fail
  refine (asks_free HP2.out HN.out HB.out).mono ?_
  rintro e w3 ⟨rfl, hb3⟩
  have HP3 := Lib.hid (HP2.out.of_below hb3)
  have H3 := Lib.hid (H2.out.trans (hb3.mono H2.out.size))
  clear hb3
  go_wp2_with fail
  refine (asks_up HP3.out).mono ?_
  rintro e w4 ⟨rfl, hb4⟩
  have HP4 := Lib.hid (HP3.out.of_below hb4)
  have H4 := Lib.hid (H3.out.trans (hb4.mono H3.out.size))
  clear hb4
  go_wp2_with fail
  refine (asks_stat HP4.out HN.out HB.out).mono ?_
  rintro e w5 ⟨rfl, hb5⟩
  have HP5 := Lib.hid (HP4.out.of_below hb5)
  have H5 := Lib.hid (H4.out.trans (hb5.mono H4.out.size))
  clear hb5
  go_wp2_with fail
  refine (asks_list HP5.out).mono ?_
  rintro e w6 ⟨rfl, hb6⟩
  have H6 := Lib.hid (H5.out.trans (hb6.mono H5.out.size))
  clear hb6
  go_wp2
  go_ret
  exact ⟨rfl, H6.out⟩
set_option maxRecDepth 100000 in
set_option maxHeartbeats 4000000 in
theorem VfsNews_bad (h : nodes < 1 ∨ nodes > 4096 ∨ bytes < 0 ∨ bytes > 4194304) :
    Calls Tryz.prog 3 #[.int .i64 nodes, .int .i64 bytes] w fun e w' => e = .returned (.bool true) ∧ Below w.heap.size w w' := by
  have H := Lib.hid h
  clear h
  go_enter Tryz.func3, Tryz.ntmps3
  go_wp2_with fail
  refine (made_bad H.out).mono ?_
  rintro e w1 ⟨rfl, rfl⟩
  go_wp2
  go_ret
  exact ⟨rfl, alloc_below w _⟩
theorem VfsNews_calls (w : World) (nodes bytes : Int) : Calls Tryz.prog 3 #[.int .i64 nodes, .int .i64 bytes] w fun e w' => e = .returned (.bool true) ∧ Below w.heap.size w w' := by
  by_cases h : nodes < 1 ∨ nodes > 4096 ∨ bytes < 0 ∨ bytes > 4194304
  · exact VfsNews_bad h
  · exact VfsNews_good (by omega) (by omega)
end
end Go.Proofs.YtphbbcjmnlamaaaGreatV
