-- WRITTEN BY wip/xprint.py, a program of the proving session round the kit's print.py; Lean checks it.
import Derived.Test.YtbebdhaceifmoaaDoorPApplyChecksx0
import Derived.Test.YtbebdhaceifmoaaDoorPApplyChecksx4
import Derived.Test.YtbebdhaceifmoaaDoorPApplyChecksx5
import Derived.Test.YtbebdhaceifmoaaDoorPApplyChecksx6
import Derived.Test.YtbebdhaceifmoaaDoorPApplyChecksx9
namespace Go.Proofs.YtbebdhaceifmoaaDoor.PApplyChecks
open Go.Proofs.YtbebdhaceifmoaaDoorX
open Go.RowKit Go.Proofs.YtbebdhaceifmoaaDoorW.PrintWords Go.Proofs.YtbebdhaceifmoaaDoorW.PrintLast Go.Proofs.YtbebdhaceifmoaaDoorW.PrintMore
attribute [local go_sem] max2_int min2_int max_two min_two max_three min_three max_four min_four   -- for this text's walks alone
set_option linter.unusedVariables false
set_option linter.unusedSimpArgs false

/-! ### apply_wrong: function 8 -/
mutual
def apply_wrong.j0 : Nat → List Int → Bool → ByteArray → Int → Int → Int → Int → Int → Int → ByteArray → ByteArray → ByteArray → Int → Int → Int → Bool → Int → Bool → Option (List ByteArray × Int)
  | 0, _, _, _, _, _, _, _, _, _, _, _, _, _, _, _, _, _, _ => none
  | k + 1, x1, x20, x119000, x119001, x119002, x119003, x119004, x119005, x119006, x119007, x119008, x119009, x119010, x119011, x120000, x120001, x120002, x120003 => if x20 = true then (some (([] : List ByteArray), 1)) else ((path_Split.f k x119000).bind fun bt120 => ((apply_ours.f x119000 x119001 x119002 x119003 x119004 x119005 x119006 x119007 x119008 x119009 x119010 x119011 x120000 x120001 x120002 x120003).bind fun bt124 => (if bt120.2 = 0 then (if x119001 < 1 then (apply_wrong.j1 k x1 bt120.1 true x119000 x119001 x119002 x119003 x119004 x119005 x119006 x119007 x119008 x119009 x119010 x119011 x120000 x120001 x120002 x120003 bt124.1 bt124.2.1 bt124.2.2.1 bt124.2.2.2.1 bt124.2.2.2.2) else (apply_wrong.j1 k x1 bt120.1 (decide (x119001 > 4)) x119000 x119001 x119002 x119003 x119004 x119005 x119006 x119007 x119008 x119009 x119010 x119011 x120000 x120001 x120002 x120003 bt124.1 bt124.2.1 bt124.2.2.1 bt124.2.2.2.1 bt124.2.2.2.2)) else (some (([] : List ByteArray), bt120.2)))))
def apply_wrong.j1 : Nat → List Int → List ByteArray → Bool → ByteArray → Int → Int → Int → Int → Int → Int → ByteArray → ByteArray → ByteArray → Int → Int → Int → Bool → Int → Bool → Int → Int → Int → Int → Int → Option (List ByteArray × Int)
  | 0, _, _, _, _, _, _, _, _, _, _, _, _, _, _, _, _, _, _, _, _, _, _, _, _ => none
  | k + 1, x1, x8, x34, x119000, x119001, x119002, x119003, x119004, x119005, x119006, x119007, x119008, x119009, x119010, x119011, x120000, x120001, x120002, x120003, x130000, x130001, x130002, x130003, x130004 => if x34 = true then (some (([] : List ByteArray), 193)) else (if x130000 > 4095 then (some (([] : List ByteArray), 1)) else (if x130004 < 0 then (some (([] : List ByteArray), 1)) else (if x130004 > 999999999 then (some (([] : List ByteArray), 1)) else (if x119001 = 2 then (if x119010 = (x1.length : Int) then (some (x8, 0)) else (some (([] : List ByteArray), 192))) else (if x119001 = 3 then (if x119009.toList = ([] : List UInt8) then (apply_wrong.j2 k x8 true x119000 x119001 x119002 x119003 x119004 x119005 x119006 x119007 x119008 x119009 x119010 x119011 x120000 x120001 x120002 x120003) else (if (x119009.size : Int) > 4096 then (apply_wrong.j2 k x8 true x119000 x119001 x119002 x119003 x119004 x119005 x119006 x119007 x119008 x119009 x119010 x119011 x120000 x120001 x120002 x120003) else ((strings_IndexByte.f x119009 0).bind fun t130 => (apply_wrong.j2 k x8 (decide (t130 ≥ 0)) x119000 x119001 x119002 x119003 x119004 x119005 x119006 x119007 x119008 x119009 x119010 x119011 x120000 x120001 x120002 x120003)))) else (if x119001 = 4 then ((path_Split.f k x119009).bind fun bt136 => (if bt136.2 = 0 then (some (x8, 0)) else (some (([] : List ByteArray), bt136.2)))) else (some (x8, 0))))))))
def apply_wrong.j2 : Nat → List ByteArray → Bool → ByteArray → Int → Int → Int → Int → Int → Int → ByteArray → ByteArray → ByteArray → Int → Int → Int → Bool → Int → Bool → Option (List ByteArray × Int)
  | 0, _, _, _, _, _, _, _, _, _, _, _, _, _, _, _, _, _, _ => none
  | k + 1, x8, x82, x119000, x119001, x119002, x119003, x119004, x119005, x119006, x119007, x119008, x119009, x119010, x119011, x120000, x120001, x120002, x120003 => if x82 = true then (some (([] : List ByteArray), 107)) else (if x120003 = true then (some (x8, 0)) else (if 0 ≤ (wrap64 ((x8.length : Int) - 1)) then (if (wrap64 ((x8.length : Int) - 1)) ≤ (x8.length : Int) then ((path_Leaves.f k (x8.take ((wrap64 ((x8.length : Int) - 1)) : Int).toNat) x119009).bind fun t135 => (if t135 = true then (some (([] : List ByteArray), 190)) else (some (x8, 0)))) else (none)) else (none)))
end
def apply_wrong.f (k : Nat) (a0_0 : ByteArray) (a0_1 : Int) (a0_2 : Int) (a0_3 : Int) (a0_4 : Int) (a0_5 : Int) (a0_6 : Int) (a0_7 : ByteArray) (a0_8 : ByteArray) (a0_9 : ByteArray) (a0_10 : Int) (a0_11 : Int) (l1 : List Int) (a2_0 : Int) (a2_1 : Bool) (a2_2 : Int) (a2_3 : Bool) : Option (List ByteArray × Int) := if a2_0 < 0 then (apply_wrong.j0 k l1 true a0_0 a0_1 a0_2 a0_3 a0_4 a0_5 a0_6 a0_7 a0_8 a0_9 a0_10 a0_11 a2_0 a2_1 a2_2 a2_3) else (apply_wrong.j0 k l1 (decide (a2_0 > 2)) a0_0 a0_1 a0_2 a0_3 a0_4 a0_5 a0_6 a0_7 a0_8 a0_9 a0_10 a0_11 a2_0 a2_1 a2_2 a2_3)
theorem apply_wrong.mono_l : ∀ k, (∀ y0 y1 y2 y3 y4 y5 y6 y7 y8 y9 y10 y11 y12 y13 y14 y15 y16 y17, LeO (apply_wrong.j0 k y0 y1 y2 y3 y4 y5 y6 y7 y8 y9 y10 y11 y12 y13 y14 y15 y16 y17) (apply_wrong.j0 (k + 1) y0 y1 y2 y3 y4 y5 y6 y7 y8 y9 y10 y11 y12 y13 y14 y15 y16 y17)) ∧ (∀ y0 y1 y2 y3 y4 y5 y6 y7 y8 y9 y10 y11 y12 y13 y14 y15 y16 y17 y18 y19 y20 y21 y22 y23, LeO (apply_wrong.j1 k y0 y1 y2 y3 y4 y5 y6 y7 y8 y9 y10 y11 y12 y13 y14 y15 y16 y17 y18 y19 y20 y21 y22 y23) (apply_wrong.j1 (k + 1) y0 y1 y2 y3 y4 y5 y6 y7 y8 y9 y10 y11 y12 y13 y14 y15 y16 y17 y18 y19 y20 y21 y22 y23)) ∧ (∀ y0 y1 y2 y3 y4 y5 y6 y7 y8 y9 y10 y11 y12 y13 y14 y15 y16 y17, LeO (apply_wrong.j2 k y0 y1 y2 y3 y4 y5 y6 y7 y8 y9 y10 y11 y12 y13 y14 y15 y16 y17) (apply_wrong.j2 (k + 1) y0 y1 y2 y3 y4 y5 y6 y7 y8 y9 y10 y11 y12 y13 y14 y15 y16 y17))
  | 0 => ⟨fun _ _ _ _ _ _ _ _ _ _ _ _ _ _ _ _ _ _ r h => by simp [apply_wrong.j0] at h, fun _ _ _ _ _ _ _ _ _ _ _ _ _ _ _ _ _ _ _ _ _ _ _ _ r h => by simp [apply_wrong.j1] at h, fun _ _ _ _ _ _ _ _ _ _ _ _ _ _ _ _ _ _ r h => by simp [apply_wrong.j2] at h⟩
  | k + 1 => by
    obtain ⟨ih0, ih1, ih2⟩ := apply_wrong.mono_l k
    refine ⟨?_, ?_, ?_⟩
    · intro y0 y1 y2 y3 y4 y5 y6 y7 y8 y9 y10 y11 y12 y13 y14 y15 y16 y17
      unfold apply_wrong.j0
      repeat' first
      | (with_reducible exact ih0 _ _ _ _ _ _ _ _ _ _ _ _ _ _ _ _ _ _)
      | (with_reducible exact ih1 _ _ _ _ _ _ _ _ _ _ _ _ _ _ _ _ _ _ _ _ _ _ _ _)
      | (with_reducible exact ih2 _ _ _ _ _ _ _ _ _ _ _ _ _ _ _ _ _ _)
      | (with_reducible exact path_Leaves.mono _ _ _)
      | (with_reducible exact path_Split.mono _ _)
      | (with_reducible exact LeO.refl _)
      | (with_reducible exact LeO.none _)
      | (with_reducible refine LeO.ite ?_ ?_)
      | (with_reducible refine LeO.bind ?_ (fun _ => ?_))
      | exact ih0 _ _ _ _ _ _ _ _ _ _ _ _ _ _ _ _ _ _
      | exact ih1 _ _ _ _ _ _ _ _ _ _ _ _ _ _ _ _ _ _ _ _ _ _ _ _
      | exact ih2 _ _ _ _ _ _ _ _ _ _ _ _ _ _ _ _ _ _
      | exact path_Leaves.mono _ _ _
      | exact path_Split.mono _ _
      | exact LeO.none _
      | refine LeO.ite ?_ ?_
      | refine LeO.bind ?_ (fun _ => ?_)
    · intro y0 y1 y2 y3 y4 y5 y6 y7 y8 y9 y10 y11 y12 y13 y14 y15 y16 y17 y18 y19 y20 y21 y22 y23
      unfold apply_wrong.j1
      repeat' first
      | (with_reducible exact ih0 _ _ _ _ _ _ _ _ _ _ _ _ _ _ _ _ _ _)
      | (with_reducible exact ih1 _ _ _ _ _ _ _ _ _ _ _ _ _ _ _ _ _ _ _ _ _ _ _ _)
      | (with_reducible exact ih2 _ _ _ _ _ _ _ _ _ _ _ _ _ _ _ _ _ _)
      | (with_reducible exact path_Leaves.mono _ _ _)
      | (with_reducible exact path_Split.mono _ _)
      | (with_reducible exact LeO.refl _)
      | (with_reducible exact LeO.none _)
      | (with_reducible refine LeO.ite ?_ ?_)
      | (with_reducible refine LeO.bind ?_ (fun _ => ?_))
      | exact ih0 _ _ _ _ _ _ _ _ _ _ _ _ _ _ _ _ _ _
      | exact ih1 _ _ _ _ _ _ _ _ _ _ _ _ _ _ _ _ _ _ _ _ _ _ _ _
      | exact ih2 _ _ _ _ _ _ _ _ _ _ _ _ _ _ _ _ _ _
      | exact path_Leaves.mono _ _ _
      | exact path_Split.mono _ _
      | exact LeO.none _
      | refine LeO.ite ?_ ?_
      | refine LeO.bind ?_ (fun _ => ?_)
    · intro y0 y1 y2 y3 y4 y5 y6 y7 y8 y9 y10 y11 y12 y13 y14 y15 y16 y17
      unfold apply_wrong.j2
      repeat' first
      | (with_reducible exact ih0 _ _ _ _ _ _ _ _ _ _ _ _ _ _ _ _ _ _)
      | (with_reducible exact ih1 _ _ _ _ _ _ _ _ _ _ _ _ _ _ _ _ _ _ _ _ _ _ _ _)
      | (with_reducible exact ih2 _ _ _ _ _ _ _ _ _ _ _ _ _ _ _ _ _ _)
      | (with_reducible exact path_Leaves.mono _ _ _)
      | (with_reducible exact path_Split.mono _ _)
      | (with_reducible exact LeO.refl _)
      | (with_reducible exact LeO.none _)
      | (with_reducible refine LeO.ite ?_ ?_)
      | (with_reducible refine LeO.bind ?_ (fun _ => ?_))
      | exact ih0 _ _ _ _ _ _ _ _ _ _ _ _ _ _ _ _ _ _
      | exact ih1 _ _ _ _ _ _ _ _ _ _ _ _ _ _ _ _ _ _ _ _ _ _ _ _
      | exact ih2 _ _ _ _ _ _ _ _ _ _ _ _ _ _ _ _ _ _
      | exact path_Leaves.mono _ _ _
      | exact path_Split.mono _ _
      | exact LeO.none _
      | refine LeO.ite ?_ ?_
      | refine LeO.bind ?_ (fun _ => ?_)
theorem apply_wrong.mono : ∀ a0 a1 a2 a3 a4 a5 a6 a7 a8 a9 a10 a11 a12 a13 a14 a15 a16 k, LeO (apply_wrong.f k a0 a1 a2 a3 a4 a5 a6 a7 a8 a9 a10 a11 a12 a13 a14 a15 a16) (apply_wrong.f (k + 1) a0 a1 a2 a3 a4 a5 a6 a7 a8 a9 a10 a11 a12 a13 a14 a15 a16) := by
  intro a0 a1 a2 a3 a4 a5 a6 a7 a8 a9 a10 a11 a12 a13 a14 a15 a16 k
  obtain ⟨ih0, ih1, ih2⟩ := apply_wrong.mono_l k
  unfold apply_wrong.f
  repeat' first
      | (with_reducible exact ih0 _ _ _ _ _ _ _ _ _ _ _ _ _ _ _ _ _ _)
      | (with_reducible exact ih1 _ _ _ _ _ _ _ _ _ _ _ _ _ _ _ _ _ _ _ _ _ _ _ _)
      | (with_reducible exact ih2 _ _ _ _ _ _ _ _ _ _ _ _ _ _ _ _ _ _)
      | (with_reducible exact path_Leaves.mono _ _ _)
      | (with_reducible exact path_Split.mono _ _)
      | (with_reducible exact LeO.refl _)
      | (with_reducible exact LeO.none _)
      | (with_reducible refine LeO.ite ?_ ?_)
      | (with_reducible refine LeO.bind ?_ (fun _ => ?_))
      | exact ih0 _ _ _ _ _ _ _ _ _ _ _ _ _ _ _ _ _ _
      | exact ih1 _ _ _ _ _ _ _ _ _ _ _ _ _ _ _ _ _ _ _ _ _ _ _ _
      | exact ih2 _ _ _ _ _ _ _ _ _ _ _ _ _ _ _ _ _ _
      | exact path_Leaves.mono _ _ _
      | exact path_Split.mono _ _
      | exact LeO.none _
      | refine LeO.ite ?_ ?_
      | refine LeO.bind ?_ (fun _ => ?_)
def apply_wrong.T18 : Bool × List (List Nat × List Nat) := (true, [([], []), ([0], [0]), ([1], [1]), ([2], [2]), ([3], [3]), ([3], [3]), ([5, 3], [3, 5]), ([6, 3], [3, 6]), ([4, 7, 3], [3, 4, 7]), ([3], [3]), ([9, 3], [3, 9]), ([8, 10, 3, 3], [3, 8, 10]), ([3, 11], [3, 11])])
def apply_wrong.B18 : List Nat := [0, 1, 3, 7, 15, 15, 47, 111, 255, 15, 527, 2047, 4095]
theorem apply_wrong.tab18 : rtab .any (opsOf Tryd.f8 18) = apply_wrong.T18 := by kernel_rfl
theorem apply_wrong.bits18 : waitsOk apply_wrong.T18.2 apply_wrong.B18 = true := by kernel_rfl
set_option maxHeartbeats 8000000 in
set_option maxRecDepth 100000 in
theorem apply_wrong.calls (k : Nat) (a0_0 : ByteArray) (a0_1 : Int) (a0_2 : Int) (a0_3 : Int) (a0_4 : Int) (a0_5 : Int) (a0_6 : Int) (a0_7 : ByteArray) (a0_8 : ByteArray) (a0_9 : ByteArray) (a0_10 : Int) (a0_11 : Int) (A1 : Option Addr) (c1 : Nat) (l1 : List Int) (a2_0 : Int) (a2_1 : Bool) (a2_2 : Int) (a2_3 : Bool) (r1 : List ByteArray) (r2 : Int) (w : World) (hG : Gv w) (hr1 : Kd.C (Kd.int .u8) w A1 l1.length l1) (hc1 : l1.length ≤ c1) (h : apply_wrong.f k a0_0 a0_1 a0_2 a0_3 a0_4 a0_5 a0_6 a0_7 a0_8 a0_9 a0_10 a0_11 l1 a2_0 a2_1 a2_2 a2_3 = some (r1, r2)) :
    Calls Tryd.prog 8 #[.agg #[.string a0_0, .int .i64 a0_1, .int .u32 a0_2, .int .u32 a0_3, .int .u32 a0_4, .int .i64 a0_5, .int .i32 a0_6, .string a0_7, .string a0_8, .string a0_9, .int .i64 a0_10, .int .u8 a0_11], .slice A1 l1.length c1, .agg #[.int .i64 a2_0, .bool a2_1, .int .u32 a2_2, .bool a2_3]] w fun e w' => ∃ v0_ : Value, e = .returned (.tuple #[v0_, .int .i64 r2]) ∧ Kd.R Kd.string 9 w' w.heap.size (fun _ => True) v0_ r1 ∧ Below w.heap.size w w' := by
  have hu26 := Tryd.underlying26
  have hu29 := Tryd.underlying29
  have hu24 := Tryd.underlying24
  have HR1 := Aside0.mk hr1
  have HC1 := Aside0.mk hc1
  clear hr1 hc1
  have HB := Aside0.mk (Below.refl w.heap.size w)
  have HG := Aside0.mk hG
  clear hG
  have H : (if a2_0 < 0 then (apply_wrong.j0 k l1 true a0_0 a0_1 a0_2 a0_3 a0_4 a0_5 a0_6 a0_7 a0_8 a0_9 a0_10 a0_11 a2_0 a2_1 a2_2 a2_3) else (apply_wrong.j0 k l1 (decide (a2_0 > 2)) a0_0 a0_1 a0_2 a0_3 a0_4 a0_5 a0_6 a0_7 a0_8 a0_9 a0_10 a0_11 a2_0 a2_1 a2_2 a2_3)) = some (r1, r2) := h
  clear h
  have HC4 := Aside0.mk H
  clear H
  go_enter Tryd.func8, Tryd.ntmps8
  go_upto_region 1 with (first | ((with_reducible refine gate_dst (N := 3) rfl ?_); (try (refine gate_guard (by rfl) ?_; dsimp only)); refine box_event ?hg (N := 3) ?hd (cs := #[.string a0_0, .int .i64 a0_1, .int .u32 a0_2, .int .u32 a0_3, .int .u32 a0_4, .int .i64 a0_5, .int .i32 a0_6, .string a0_7, .string a0_8, .string a0_9, .int .i64 a0_10, .int .u8 a0_11]) (t := 26) ?hr ?_; (case hd => rfl); (case hg => rfl); (case hr => first | (go_simp; done) | (go_simp; rfl)); intro gb118 hg w5 hbox hb; have n0_ := Aside0.mk (below_step (by repeat (first | (with_reducible first | exact HB.out | apply below_alloc | apply pw_below_drewN | apply below_drew1) | exact HB.out)) hb); have n1_ := Aside0.mk (hbox); have n2_ := Aside0.mk ((by rw [hg]; exact (below_size (by repeat (first | (with_reducible first | exact HB.out | apply below_alloc | apply pw_below_drewN | apply below_drew1) | exact HB.out))) : w.heap.size ≤ gb118)); have n3_ := Aside0.mk ((by rw [hg]; exact (below_size (by repeat (first | (with_reducible first | exact HB.out | apply below_alloc | apply pw_below_drewN | apply below_drew1) | exact HB.out))) : w.heap.size ≤ gb118)); clear HB; have HB := n0_; have BK118 := n1_; have GW118 := n2_; have GE118 := n3_; clear n0_ n1_ n2_ n3_; clear hb hbox hg) | ((with_reducible refine gate_dst (N := 5) rfl ?_); (try (refine gate_guard (by rfl) ?_; dsimp only)); refine box_event ?hg (N := 5) ?hd (cs := #[.int .i64 a2_0, .bool a2_1, .int .u32 a2_2, .bool a2_3]) (t := 29) ?hr ?_; (case hd => rfl); (case hg => rfl); (case hr => first | (go_simp; done) | (go_simp; rfl)); intro gb119 hg w6 hbox hb; have n0_ := Aside0.mk (blk_below (g := gb118) (o := .cells #[.string a0_0, .int .i64 a0_1, .int .u32 a0_2, .int .u32 a0_3, .int .u32 a0_4, .int .i64 a0_5, .int .i32 a0_6, .string a0_7, .string a0_8, .string a0_9, .int .i64 a0_10, .int .u8 a0_11] 26 (0, 0)) (by (with_reducible repeat (first | refine blk_drewN ?_ _ | refine blk_drew ?_ | refine blk_alloc ?_ _)); exact BK118.out) hb); have n1_ := Aside0.mk (below_step (by repeat (first | (with_reducible first | exact HB.out | apply below_alloc | apply pw_below_drewN | apply below_drew1 | refine below_set ?_ GE118.out) | exact HB.out)) hb); have n2_ := Aside0.mk (hbox); have n3_ := Aside0.mk ((by rw [hg]; exact (below_size (by repeat (first | (with_reducible first | exact HB.out | apply below_alloc | apply pw_below_drewN | apply below_drew1 | refine below_set ?_ GE118.out) | exact HB.out))) : w.heap.size ≤ gb119)); have n4_ := Aside0.mk ((by rw [hg]; exact (below_size (by repeat (first | (with_reducible first | exact HB.out | apply below_alloc | apply pw_below_drewN | apply below_drew1 | refine below_set ?_ GE118.out) | exact HB.out))) : w.heap.size ≤ gb119)); have n5_ := Aside0.mk ((by rw [hg]; exact Nat.ne_of_lt (blk_lt (g := gb118) (o := .cells #[.string a0_0, .int .i64 a0_1, .int .u32 a0_2, .int .u32 a0_3, .int .u32 a0_4, .int .i64 a0_5, .int .i32 a0_6, .string a0_7, .string a0_8, .string a0_9, .int .i64 a0_10, .int .u8 a0_11] 26 (0, 0)) (by (with_reducible repeat (first | refine blk_drewN ?_ _ | refine blk_drew ?_ | refine blk_alloc ?_ _)); exact BK118.out)) : gb118 ≠ gb119)); have n6_ := Aside0.mk ((by rw [hg]; exact Nat.ne_of_gt (blk_lt (g := gb118) (o := .cells #[.string a0_0, .int .i64 a0_1, .int .u32 a0_2, .int .u32 a0_3, .int .u32 a0_4, .int .i64 a0_5, .int .i32 a0_6, .string a0_7, .string a0_8, .string a0_9, .int .i64 a0_10, .int .u8 a0_11] 26 (0, 0)) (by (with_reducible repeat (first | refine blk_drewN ?_ _ | refine blk_drew ?_ | refine blk_alloc ?_ _)); exact BK118.out)) : gb119 ≠ gb118)); clear BK118; clear HB; have BK118 := n0_; have HB := n1_; have BK119 := n2_; have GW119 := n3_; have GE119 := n4_; have NB118_119 := n5_; have NB119_118 := n6_; clear n0_ n1_ n2_ n3_ n4_ n5_ n6_; clear hb hbox hg))
  (try simp only [Act.put, List.setIfInBounds_toArray, List.set_cons_zero, List.set_cons_succ])
  go_cut [20] (fun v20 wc => ∃ (kq : Nat) (x20_3 : Bool), v20 = .bool x20_3 ∧ Aside0 (apply_wrong.j0 kq l1 x20_3 a0_0 a0_1 a0_2 a0_3 a0_4 a0_5 a0_6 a0_7 a0_8 a0_9 a0_10 a0_11 a2_0 a2_1 a2_2 a2_3 = some (r1, r2)) ∧ Aside0 (kq ≤ k) ∧ Aside0 (wc.heap[gb118]? = some (.cells #[.string a0_0, .int .i64 a0_1, .int .u32 a0_2, .int .u32 a0_3, .int .u32 a0_4, .int .i64 a0_5, .int .i32 a0_6, .string a0_7, .string a0_8, .string a0_9, .int .i64 a0_10, .int .u8 a0_11] 26 (0, 0))) ∧ Aside0 (wc.heap[gb119]? = some (.cells #[.int .i64 a2_0, .bool a2_1, .int .u32 a2_2, .bool a2_3] 29 (0, 0))) ∧ Aside0 (Below w.heap.size w wc))
  case first =>
    have H := HC4.out
    clear HC4
    by_cases c7 : a2_0 < 0
    · rw [if_pos c7] at H
      have c7b0 : decide (a2_0 < 0) = true := decide_eq_true c7
      clear c7
      (first | rw [c7b0] | rw [c7be] | (simp only [i64_w, i32_w]; rw [c7b0]) | skip)
      have H' := Aside0.mk H
      clear H
      have hnb8 := NB119_118.out
      have hnc8 := NB118_119.out
      have hcz9_0 : w6.cell? ⟨gb119, 0, none⟩ = some (.int .i64 a2_0) := (blk_cell BK119.out 0).trans rfl
      have hcz9_1 : w6.cell? ⟨gb119, 1, none⟩ = some (.bool a2_1) := (blk_cell BK119.out 1).trans rfl
      have hcz9_2 : w6.cell? ⟨gb119, 2, none⟩ = some (.int .u32 a2_2) := (blk_cell BK119.out 2).trans rfl
      have hcz9_3 : w6.cell? ⟨gb119, 3, none⟩ = some (.bool a2_3) := (blk_cell BK119.out 3).trans rfl
      have hfz9_0 := blk_frozen BK119.out 0
      have hfz9_1 := blk_frozen BK119.out 1
      have hfz9_2 := blk_frozen BK119.out 2
      have hfz9_3 := blk_frozen BK119.out 3
      go_wp2
      go_meet
      case rel => exact ⟨_, (true), (by first | rfl | (simp; done) | (simp [*]; done)), H', ⟨by first | omega | exact Nat.le_refl _⟩, ⟨by (with_reducible repeat (first | refine blk_drewN ?_ _ | refine blk_drew ?_ | refine blk_alloc ?_ _)); exact BK118.out⟩, ⟨by (with_reducible repeat (first | refine blk_drewN ?_ _ | refine blk_drew ?_ | refine blk_alloc ?_ _)); exact BK119.out⟩, ⟨by repeat (first | (with_reducible first | exact HB.out | apply below_alloc | apply pw_below_drewN | apply below_drew1 | refine below_set ?_ GE118.out | refine below_set ?_ GE119.out) | exact HB.out)⟩⟩
    · rw [if_neg c7] at H
      have c7b0 : decide (a2_0 < 0) = false := decide_eq_false c7
      clear c7
      (first | rw [c7b0] | rw [c7be] | (simp only [i64_w, i32_w]; rw [c7b0]) | skip)
      have H' := Aside0.mk H
      clear H
      have hnb10 := NB119_118.out
      have hnc10 := NB118_119.out
      have hcz11_0 : w6.cell? ⟨gb119, 0, none⟩ = some (.int .i64 a2_0) := (blk_cell BK119.out 0).trans rfl
      have hcz11_1 : w6.cell? ⟨gb119, 1, none⟩ = some (.bool a2_1) := (blk_cell BK119.out 1).trans rfl
      have hcz11_2 : w6.cell? ⟨gb119, 2, none⟩ = some (.int .u32 a2_2) := (blk_cell BK119.out 2).trans rfl
      have hcz11_3 : w6.cell? ⟨gb119, 3, none⟩ = some (.bool a2_3) := (blk_cell BK119.out 3).trans rfl
      have hfz11_0 := blk_frozen BK119.out 0
      have hfz11_1 := blk_frozen BK119.out 1
      have hfz11_2 := blk_frozen BK119.out 2
      have hfz11_3 := blk_frozen BK119.out 3
      go_wp2
      go_meet
      case rel => exact ⟨_, (decide (a2_0 > 2)), (by first | rfl | (simp; done) | (simp [*]; done)), H', ⟨by first | omega | exact Nat.le_refl _⟩, ⟨by (with_reducible repeat (first | refine blk_drewN ?_ _ | refine blk_drew ?_ | refine blk_alloc ?_ _)); exact BK118.out⟩, ⟨by (with_reducible repeat (first | refine blk_drewN ?_ _ | refine blk_drew ?_ | refine blk_alloc ?_ _)); exact BK119.out⟩, ⟨by repeat (first | (with_reducible first | exact HB.out | apply below_alloc | apply pw_below_drewN | apply below_drew1 | refine below_set ?_ GE118.out | refine below_set ?_ GE119.out) | exact HB.out)⟩⟩
  case rest =>
    clear HC4
    try clear c1
    try clear p2
    try clear c7
    try clear c7b0
    try clear c8
    try clear c10
    try clear hcz11_0
    try clear hcz11_1
    try clear hcz11_2
    try clear hcz11_3
    try clear hcz9_0
    try clear hcz9_1
    try clear hcz9_2
    try clear hcz9_3
    try clear hfz11_0
    try clear hfz11_1
    try clear hfz11_2
    try clear hfz11_3
    try clear hfz9_0
    try clear hfz9_1
    try clear hfz9_2
    try clear hfz9_3
    obtain ⟨kq, x20_3, rfl, HA, HJ3, BK118, BK119, HB⟩ := hcut
    cases kq with
    | zero => exact absurd HA.out (by simp [apply_wrong.j0])
    | succ kj3 =>
      have H := HA.out
      clear HA
      simp only [apply_wrong.j0] at H
      by_cases c12 : x20_3 = true
      · subst c12
        have H1 : (some (([] : List ByteArray), 1)) = some (r1, r2) := by rw [if_pos rfl] at H; exact H
        clear H
        have H := H1
        clear H1
        simp only [Option.some.injEq, Prod.mk.injEq] at H
        obtain ⟨rfl, rfl⟩ := H
        go_wp2
        go_ret2
        exact ⟨_, by first | rfl | (simp [errW_none, errW_some] <;> rfl) | (simp [*, errW_none, errW_some] <;> rfl), by first | exact Kd.R_nil _ _ _ _ _ | exact Kd.N_nil _ _ _ _ _ | exact Kd.V_nil _ _ _ _ _ | exact Kd.Q_nil _ _ _ _ _ | exact Kd.S_nil _ _ _ _ _, by repeat (first | (with_reducible first | exact HB.out | apply below_alloc | apply pw_below_drewN | apply below_drew1 | refine below_set ?_ GE118.out | refine below_set ?_ GE119.out) | exact HB.out)⟩
      · replace c12 := Bool.eq_false_iff.mpr c12
        subst c12
        have H1 : ((path_Split.f kj3 a0_0).bind fun bt120 => ((apply_ours.f a0_0 a0_1 a0_2 a0_3 a0_4 a0_5 a0_6 a0_7 a0_8 a0_9 a0_10 a0_11 a2_0 a2_1 a2_2 a2_3).bind fun bt124 => (if bt120.2 = 0 then (if a0_1 < 1 then (apply_wrong.j1 kj3 l1 bt120.1 true a0_0 a0_1 a0_2 a0_3 a0_4 a0_5 a0_6 a0_7 a0_8 a0_9 a0_10 a0_11 a2_0 a2_1 a2_2 a2_3 bt124.1 bt124.2.1 bt124.2.2.1 bt124.2.2.2.1 bt124.2.2.2.2) else (apply_wrong.j1 kj3 l1 bt120.1 (decide (a0_1 > 4)) a0_0 a0_1 a0_2 a0_3 a0_4 a0_5 a0_6 a0_7 a0_8 a0_9 a0_10 a0_11 a2_0 a2_1 a2_2 a2_3 bt124.1 bt124.2.1 bt124.2.2.1 bt124.2.2.2.1 bt124.2.2.2.2)) else (some (([] : List ByteArray), bt120.2))))) = some (r1, r2) := by rw [if_neg (show ¬ (false = true) by decide)] at H; exact H
        clear H
        have H := H1
        clear H1
        replace H := Option.bind_eq_some_iff.mp H
        obtain ⟨⟨t120, t121⟩, A130, H⟩ := H
        replace H : ((apply_ours.f a0_0 a0_1 a0_2 a0_3 a0_4 a0_5 a0_6 a0_7 a0_8 a0_9 a0_10 a0_11 a2_0 a2_1 a2_2 a2_3).bind fun bt124 => (if t121 = 0 then (if a0_1 < 1 then (apply_wrong.j1 kj3 l1 t120 true a0_0 a0_1 a0_2 a0_3 a0_4 a0_5 a0_6 a0_7 a0_8 a0_9 a0_10 a0_11 a2_0 a2_1 a2_2 a2_3 bt124.1 bt124.2.1 bt124.2.2.1 bt124.2.2.2.1 bt124.2.2.2.2) else (apply_wrong.j1 kj3 l1 t120 (decide (a0_1 > 4)) a0_0 a0_1 a0_2 a0_3 a0_4 a0_5 a0_6 a0_7 a0_8 a0_9 a0_10 a0_11 a2_0 a2_1 a2_2 a2_3 bt124.1 bt124.2.1 bt124.2.2.1 bt124.2.2.2.1 bt124.2.2.2.2)) else (some (([] : List ByteArray), t121)))) = some (r1, r2) := H
        have A13 := Aside0.mk A130
        clear A130
        replace H := Option.bind_eq_some_iff.mp H
        obtain ⟨⟨t124, t125, t126, t127, t128⟩, A140, H⟩ := H
        replace H : (if t121 = 0 then (if a0_1 < 1 then (apply_wrong.j1 kj3 l1 t120 true a0_0 a0_1 a0_2 a0_3 a0_4 a0_5 a0_6 a0_7 a0_8 a0_9 a0_10 a0_11 a2_0 a2_1 a2_2 a2_3 t124 t125 t126 t127 t128) else (apply_wrong.j1 kj3 l1 t120 (decide (a0_1 > 4)) a0_0 a0_1 a0_2 a0_3 a0_4 a0_5 a0_6 a0_7 a0_8 a0_9 a0_10 a0_11 a2_0 a2_1 a2_2 a2_3 t124 t125 t126 t127 t128)) else (some (([] : List ByteArray), t121))) = some (r1, r2) := H
        have A14 := Aside0.mk A140
        clear A140
        by_cases c15 : t121 = 0
        · rw [if_pos c15] at H
          have c15b0 : (t121 == 0) = true := beq_iff_eq.mpr c15
          have c15b1 : (t121 != 0) = false := bne_eq_false_iff_eq.mpr c15
          clear c15
          have HC16 := Aside0.mk H
          clear H
          have hnb17 := NB118_119.out
          have hnc17 := NB119_118.out
          have hcz18_0 : wc.cell? ⟨gb118, 0, none⟩ = some (.string a0_0) := (blk_cell BK118.out 0).trans rfl
          have hcz18_1 : wc.cell? ⟨gb118, 1, none⟩ = some (.int .i64 a0_1) := (blk_cell BK118.out 1).trans rfl
          have hcz18_2 : wc.cell? ⟨gb118, 2, none⟩ = some (.int .u32 a0_2) := (blk_cell BK118.out 2).trans rfl
          have hcz18_3 : wc.cell? ⟨gb118, 3, none⟩ = some (.int .u32 a0_3) := (blk_cell BK118.out 3).trans rfl
          have hcz18_4 : wc.cell? ⟨gb118, 4, none⟩ = some (.int .u32 a0_4) := (blk_cell BK118.out 4).trans rfl
          have hcz18_5 : wc.cell? ⟨gb118, 5, none⟩ = some (.int .i64 a0_5) := (blk_cell BK118.out 5).trans rfl
          have hcz18_6 : wc.cell? ⟨gb118, 6, none⟩ = some (.int .i32 a0_6) := (blk_cell BK118.out 6).trans rfl
          have hcz18_7 : wc.cell? ⟨gb118, 7, none⟩ = some (.string a0_7) := (blk_cell BK118.out 7).trans rfl
          have hcz18_8 : wc.cell? ⟨gb118, 8, none⟩ = some (.string a0_8) := (blk_cell BK118.out 8).trans rfl
          have hcz18_9 : wc.cell? ⟨gb118, 9, none⟩ = some (.string a0_9) := (blk_cell BK118.out 9).trans rfl
          have hcz18_10 : wc.cell? ⟨gb118, 10, none⟩ = some (.int .i64 a0_10) := (blk_cell BK118.out 10).trans rfl
          have hcz18_11 : wc.cell? ⟨gb118, 11, none⟩ = some (.int .u8 a0_11) := (blk_cell BK118.out 11).trans rfl
          have hfz18_0 := blk_frozen BK118.out 0
          have hfz18_1 := blk_frozen BK118.out 1
          have hfz18_2 := blk_frozen BK118.out 2
          have hfz18_3 := blk_frozen BK118.out 3
          have hfz18_4 := blk_frozen BK118.out 4
          have hfz18_5 := blk_frozen BK118.out 5
          have hfz18_6 := blk_frozen BK118.out 6
          have hfz18_7 := blk_frozen BK118.out 7
          have hfz18_8 := blk_frozen BK118.out 8
          have hfz18_9 := blk_frozen BK118.out 9
          have hfz18_10 := blk_frozen BK118.out 10
          have hfz18_11 := blk_frozen BK118.out 11
          go_upto_region 7 with (first | ((with_reducible refine gate_callee (f := 14) rfl ?_); refine goesL_ (some 24) rfl rfl Tryd.func14 (by kernel_rfl) rfl #[.string a0_0] rfl (by (try simp only [List.map_toArray, List.map_cons, List.map_nil]); first | done | rfl | (simp only [List.length_drop, List.length_take]; rfl)) ?_; (with_reducible refine (path_Split.calls kj3 a0_0 t120 t121 _ ?side1 A13.out).mono ?_); (case side1 => exact Gv_below HG.out (by repeat (first | (with_reducible first | exact HB.out | apply below_alloc | apply pw_below_drewN | apply below_drew1 | refine below_set ?_ GE118.out | refine below_set ?_ GE119.out) | exact HB.out))); rintro e w19 ⟨v122, rfl, ho0, hb⟩; refine ⟨_, rfl, ?_⟩; have n0_ := Aside0.mk (Kd.R_lower ho0 (below_size (by repeat (first | (with_reducible first | exact HB.out | apply below_alloc | apply pw_below_drewN | apply below_drew1 | refine below_set ?_ GE118.out | refine below_set ?_ GE119.out) | exact HB.out)))); have n1_ := Aside0.mk (blk_below (g := gb118) (o := .cells #[.string a0_0, .int .i64 a0_1, .int .u32 a0_2, .int .u32 a0_3, .int .u32 a0_4, .int .i64 a0_5, .int .i32 a0_6, .string a0_7, .string a0_8, .string a0_9, .int .i64 a0_10, .int .u8 a0_11] 26 (0, 0)) (by (with_reducible repeat (first | refine blk_drewN ?_ _ | refine blk_drew ?_ | refine blk_alloc ?_ _)); exact BK118.out) hb); have n2_ := Aside0.mk (blk_below (g := gb119) (o := .cells #[.int .i64 a2_0, .bool a2_1, .int .u32 a2_2, .bool a2_3] 29 (0, 0)) (by (with_reducible repeat (first | refine blk_drewN ?_ _ | refine blk_drew ?_ | refine blk_alloc ?_ _)); exact BK119.out) hb); have n3_ := Aside0.mk (below_step (by repeat (first | (with_reducible first | exact HB.out | apply below_alloc | apply pw_below_drewN | apply below_drew1 | refine below_set ?_ GE118.out | refine below_set ?_ GE119.out) | exact HB.out)) hb); clear BK118; clear BK119; clear HB; have HO123 := n0_; have BK118 := n1_; have BK119 := n2_; have HB := n3_; clear n0_ n1_ n2_ n3_; (try clear hb); (try clear hb2); (try clear hk); (try clear hi); (try clear ho0); have hcz20_0 : w19.cell? ⟨gb118, 0, none⟩ = some (.string a0_0) := (blk_cell BK118.out 0).trans rfl; have hcz20_1 : w19.cell? ⟨gb118, 1, none⟩ = some (.int .i64 a0_1) := (blk_cell BK118.out 1).trans rfl; have hcz20_2 : w19.cell? ⟨gb118, 2, none⟩ = some (.int .u32 a0_2) := (blk_cell BK118.out 2).trans rfl; have hcz20_3 : w19.cell? ⟨gb118, 3, none⟩ = some (.int .u32 a0_3) := (blk_cell BK118.out 3).trans rfl; have hcz20_4 : w19.cell? ⟨gb118, 4, none⟩ = some (.int .u32 a0_4) := (blk_cell BK118.out 4).trans rfl; have hcz20_5 : w19.cell? ⟨gb118, 5, none⟩ = some (.int .i64 a0_5) := (blk_cell BK118.out 5).trans rfl; have hcz20_6 : w19.cell? ⟨gb118, 6, none⟩ = some (.int .i32 a0_6) := (blk_cell BK118.out 6).trans rfl; have hcz20_7 : w19.cell? ⟨gb118, 7, none⟩ = some (.string a0_7) := (blk_cell BK118.out 7).trans rfl; have hcz20_8 : w19.cell? ⟨gb118, 8, none⟩ = some (.string a0_8) := (blk_cell BK118.out 8).trans rfl; have hcz20_9 : w19.cell? ⟨gb118, 9, none⟩ = some (.string a0_9) := (blk_cell BK118.out 9).trans rfl; have hcz20_10 : w19.cell? ⟨gb118, 10, none⟩ = some (.int .i64 a0_10) := (blk_cell BK118.out 10).trans rfl; have hcz20_11 : w19.cell? ⟨gb118, 11, none⟩ = some (.int .u8 a0_11) := (blk_cell BK118.out 11).trans rfl; have hfz20_0 := blk_frozen BK118.out 0; have hfz20_1 := blk_frozen BK118.out 1; have hfz20_2 := blk_frozen BK118.out 2; have hfz20_3 := blk_frozen BK118.out 3; have hfz20_4 := blk_frozen BK118.out 4; have hfz20_5 := blk_frozen BK118.out 5; have hfz20_6 := blk_frozen BK118.out 6; have hfz20_7 := blk_frozen BK118.out 7; have hfz20_8 := blk_frozen BK118.out 8; have hfz20_9 := blk_frozen BK118.out 9; have hfz20_10 := blk_frozen BK118.out 10; have hfz20_11 := blk_frozen BK118.out 11; have hcz21_0 : w19.cell? ⟨gb119, 0, none⟩ = some (.int .i64 a2_0) := (blk_cell BK119.out 0).trans rfl; have hcz21_1 : w19.cell? ⟨gb119, 1, none⟩ = some (.bool a2_1) := (blk_cell BK119.out 1).trans rfl; have hcz21_2 : w19.cell? ⟨gb119, 2, none⟩ = some (.int .u32 a2_2) := (blk_cell BK119.out 2).trans rfl; have hcz21_3 : w19.cell? ⟨gb119, 3, none⟩ = some (.bool a2_3) := (blk_cell BK119.out 3).trans rfl; have hfz21_0 := blk_frozen BK119.out 0; have hfz21_1 := blk_frozen BK119.out 1; have hfz21_2 := blk_frozen BK119.out 2; have hfz21_3 := blk_frozen BK119.out 3) | ((with_reducible refine gate_callee (f := 15) rfl ?_); refine goesL_ (some 29) rfl rfl Tryd.func15 (by kernel_rfl) rfl #[.agg #[.string a0_0, .int .i64 a0_1, .int .u32 a0_2, .int .u32 a0_3, .int .u32 a0_4, .int .i64 a0_5, .int .i32 a0_6, .string a0_7, .string a0_8, .string a0_9, .int .i64 a0_10, .int .u8 a0_11], .agg #[.int .i64 a2_0, .bool a2_1, .int .u32 a2_2, .bool a2_3]] rfl (by (try simp only [List.map_toArray, List.map_cons, List.map_nil]); first | done | rfl | (simp only [List.length_drop, List.length_take]; rfl)) ?_; (with_reducible refine (apply_ours.calls a0_0 a0_1 a0_2 a0_3 a0_4 a0_5 a0_6 a0_7 a0_8 a0_9 a0_10 a0_11 a2_0 a2_1 a2_2 a2_3 t124 t125 t126 t127 t128 _ ?side1 A14.out).mono ?_); (case side1 => exact Gv_below HG.out (by repeat (first | (with_reducible first | exact HB.out | apply below_alloc | apply pw_below_drewN | apply below_drew1 | refine below_set ?_ GE118.out | refine below_set ?_ GE119.out) | exact HB.out))); rintro e w22 ⟨rfl, hb⟩; refine ⟨_, rfl, ?_⟩; have n0_ := Aside0.mk (Kd.R_below (by (with_reducible repeat (first | apply Kd.R_alloc | apply Kd.R_drewN | apply Kd.R_drew)); exact HO123.out) hb); have n1_ := Aside0.mk (blk_below (g := gb118) (o := .cells #[.string a0_0, .int .i64 a0_1, .int .u32 a0_2, .int .u32 a0_3, .int .u32 a0_4, .int .i64 a0_5, .int .i32 a0_6, .string a0_7, .string a0_8, .string a0_9, .int .i64 a0_10, .int .u8 a0_11] 26 (0, 0)) (by (with_reducible repeat (first | refine blk_drewN ?_ _ | refine blk_drew ?_ | refine blk_alloc ?_ _)); exact BK118.out) hb); have n2_ := Aside0.mk (blk_below (g := gb119) (o := .cells #[.int .i64 a2_0, .bool a2_1, .int .u32 a2_2, .bool a2_3] 29 (0, 0)) (by (with_reducible repeat (first | refine blk_drewN ?_ _ | refine blk_drew ?_ | refine blk_alloc ?_ _)); exact BK119.out) hb); have n3_ := Aside0.mk (below_step (by repeat (first | (with_reducible first | exact HB.out | apply below_alloc | apply pw_below_drewN | apply below_drew1 | refine below_set ?_ GE118.out | refine below_set ?_ GE119.out) | exact HB.out)) hb); clear HO123; clear BK118; clear BK119; clear HB; have HO123 := n0_; have BK118 := n1_; have BK119 := n2_; have HB := n3_; clear n0_ n1_ n2_ n3_; (try clear hb); (try clear hb2); (try clear hk); (try clear hi)) | ((with_reducible refine gate_dst (N := 10) rfl ?_); (try (refine gate_guard (by rfl) ?_; dsimp only)); refine box_event ?hg (N := 10) ?hd (cs := #[.int .u32 0, .int .u32 0, .int .u32 0, .int .i64 0, .int .i32 0]) (t := 24) ?hr ?_; (case hd => rfl); (case hg => rfl); (case hr => first | (go_simp; done) | (go_simp; rfl)); intro gb129 hg w23 hbox hb; have n0_ := Aside0.mk (Kd.R_below (by (with_reducible repeat (first | apply Kd.R_alloc | apply Kd.R_drewN | apply Kd.R_drew)); exact HO123.out) hb); have n1_ := Aside0.mk (blk_below (g := gb118) (o := .cells #[.string a0_0, .int .i64 a0_1, .int .u32 a0_2, .int .u32 a0_3, .int .u32 a0_4, .int .i64 a0_5, .int .i32 a0_6, .string a0_7, .string a0_8, .string a0_9, .int .i64 a0_10, .int .u8 a0_11] 26 (0, 0)) (by (with_reducible repeat (first | refine blk_drewN ?_ _ | refine blk_drew ?_ | refine blk_alloc ?_ _)); exact BK118.out) hb); have n2_ := Aside0.mk (blk_below (g := gb119) (o := .cells #[.int .i64 a2_0, .bool a2_1, .int .u32 a2_2, .bool a2_3] 29 (0, 0)) (by (with_reducible repeat (first | refine blk_drewN ?_ _ | refine blk_drew ?_ | refine blk_alloc ?_ _)); exact BK119.out) hb); have n3_ := Aside0.mk (below_step (by repeat (first | (with_reducible first | exact HB.out | apply below_alloc | apply pw_below_drewN | apply below_drew1 | refine below_set ?_ GE118.out | refine below_set ?_ GE119.out) | exact HB.out)) hb); have n4_ := Aside0.mk (hbox); have n5_ := Aside0.mk ((by rw [hg]; exact (below_size (by repeat (first | (with_reducible first | exact HB.out | apply below_alloc | apply pw_below_drewN | apply below_drew1 | refine below_set ?_ GE118.out | refine below_set ?_ GE119.out) | exact HB.out))) : w.heap.size ≤ gb129)); have n6_ := Aside0.mk ((by rw [hg]; exact (below_size (by repeat (first | (with_reducible first | exact HB.out | apply below_alloc | apply pw_below_drewN | apply below_drew1 | refine below_set ?_ GE118.out | refine below_set ?_ GE119.out) | exact HB.out))) : w.heap.size ≤ gb129)); have n7_ := Aside0.mk ((by rw [hg]; exact Nat.ne_of_lt (blk_lt (g := gb118) (o := .cells #[.string a0_0, .int .i64 a0_1, .int .u32 a0_2, .int .u32 a0_3, .int .u32 a0_4, .int .i64 a0_5, .int .i32 a0_6, .string a0_7, .string a0_8, .string a0_9, .int .i64 a0_10, .int .u8 a0_11] 26 (0, 0)) (by (with_reducible repeat (first | refine blk_drewN ?_ _ | refine blk_drew ?_ | refine blk_alloc ?_ _)); exact BK118.out)) : gb118 ≠ gb129)); have n8_ := Aside0.mk ((by rw [hg]; exact Nat.ne_of_gt (blk_lt (g := gb118) (o := .cells #[.string a0_0, .int .i64 a0_1, .int .u32 a0_2, .int .u32 a0_3, .int .u32 a0_4, .int .i64 a0_5, .int .i32 a0_6, .string a0_7, .string a0_8, .string a0_9, .int .i64 a0_10, .int .u8 a0_11] 26 (0, 0)) (by (with_reducible repeat (first | refine blk_drewN ?_ _ | refine blk_drew ?_ | refine blk_alloc ?_ _)); exact BK118.out)) : gb129 ≠ gb118)); have n9_ := Aside0.mk ((by rw [hg]; exact Nat.ne_of_lt (blk_lt (g := gb119) (o := .cells #[.int .i64 a2_0, .bool a2_1, .int .u32 a2_2, .bool a2_3] 29 (0, 0)) (by (with_reducible repeat (first | refine blk_drewN ?_ _ | refine blk_drew ?_ | refine blk_alloc ?_ _)); exact BK119.out)) : gb119 ≠ gb129)); have n10_ := Aside0.mk ((by rw [hg]; exact Nat.ne_of_gt (blk_lt (g := gb119) (o := .cells #[.int .i64 a2_0, .bool a2_1, .int .u32 a2_2, .bool a2_3] 29 (0, 0)) (by (with_reducible repeat (first | refine blk_drewN ?_ _ | refine blk_drew ?_ | refine blk_alloc ?_ _)); exact BK119.out)) : gb129 ≠ gb119)); clear HO123; clear BK118; clear BK119; clear HB; have HO123 := n0_; have BK118 := n1_; have BK119 := n2_; have HB := n3_; have BK129 := n4_; have GW129 := n5_; have GE129 := n6_; have NB118_129 := n7_; have NB129_118 := n8_; have NB119_129 := n9_; have NB129_119 := n10_; clear n0_ n1_ n2_ n3_ n4_ n5_ n6_ n7_ n8_ n9_ n10_; clear hb hbox hg; have hnb24 := NB129_118.out; have hnc24 := NB118_129.out; have hnb25 := NB129_119.out; have hnc25 := NB119_129.out; have hcz26_0 : w23.cell? ⟨gb129, 0, none⟩ = some (.int .u32 0) := (blk_cell BK129.out 0).trans rfl; have hcz26_1 : w23.cell? ⟨gb129, 1, none⟩ = some (.int .u32 0) := (blk_cell BK129.out 1).trans rfl; have hcz26_2 : w23.cell? ⟨gb129, 2, none⟩ = some (.int .u32 0) := (blk_cell BK129.out 2).trans rfl; have hcz26_3 : w23.cell? ⟨gb129, 3, none⟩ = some (.int .i64 0) := (blk_cell BK129.out 3).trans rfl; have hcz26_4 : w23.cell? ⟨gb129, 4, none⟩ = some (.int .i32 0) := (blk_cell BK129.out 4).trans rfl; have hfz26_0 := blk_frozen BK129.out 0; have hfz26_1 := blk_frozen BK129.out 1; have hfz26_2 := blk_frozen BK129.out 2; have hfz26_3 := blk_frozen BK129.out 3; have hfz26_4 := blk_frozen BK129.out 4))
          (try simp only [Act.put, List.setIfInBounds_toArray, List.set_cons_zero, List.set_cons_succ])
          go_cut [34] (fun v34 wc => ∃ (kq : Nat) (x34_15 : Bool), v34 = .bool x34_15 ∧ Aside0 (apply_wrong.j1 kq l1 t120 x34_15 a0_0 a0_1 a0_2 a0_3 a0_4 a0_5 a0_6 a0_7 a0_8 a0_9 a0_10 a0_11 a2_0 a2_1 a2_2 a2_3 t124 t125 t126 t127 t128 = some (r1, r2)) ∧ Aside0 (kq ≤ kj3) ∧ Aside0 (Kd.R Kd.string 9 wc w.heap.size (fun _ => True) v122 t120) ∧ Aside0 (wc.heap[gb118]? = some (.cells #[.string a0_0, .int .i64 a0_1, .int .u32 a0_2, .int .u32 a0_3, .int .u32 a0_4, .int .i64 a0_5, .int .i32 a0_6, .string a0_7, .string a0_8, .string a0_9, .int .i64 a0_10, .int .u8 a0_11] 26 (0, 0))) ∧ Aside0 (wc.heap[gb119]? = some (.cells #[.int .i64 a2_0, .bool a2_1, .int .u32 a2_2, .bool a2_3] 29 (0, 0))) ∧ Aside0 (wc.heap[gb129]? = some (.cells #[.int .u32 t124, .int .u32 t125, .int .u32 t126, .int .i64 t127, .int .i32 t128] 24 (0, 0))) ∧ Aside0 (Below w.heap.size w wc))
          case first =>
            have H := HC16.out
            clear HC16
            by_cases c27 : a0_1 < 1
            · rw [if_pos c27] at H
              have c27b0 : decide (a0_1 < 1) = true := decide_eq_true c27
              clear c27
              (first | rw [c27b0] | rw [c27be] | (simp only [i64_w, i32_w]; rw [c27b0]) | skip)
              have H' := Aside0.mk H
              clear H
              have hnb28 := NB118_119.out
              have hnc28 := NB119_118.out
              have hnb29 := NB118_129.out
              have hnc29 := NB129_118.out
              have hcz30_0 : w23.cell? ⟨gb118, 0, none⟩ = some (.string a0_0) := (blk_cell BK118.out 0).trans rfl
              have hcz30_1 : w23.cell? ⟨gb118, 1, none⟩ = some (.int .i64 a0_1) := (blk_cell BK118.out 1).trans rfl
              have hcz30_2 : w23.cell? ⟨gb118, 2, none⟩ = some (.int .u32 a0_2) := (blk_cell BK118.out 2).trans rfl
              have hcz30_3 : w23.cell? ⟨gb118, 3, none⟩ = some (.int .u32 a0_3) := (blk_cell BK118.out 3).trans rfl
              have hcz30_4 : w23.cell? ⟨gb118, 4, none⟩ = some (.int .u32 a0_4) := (blk_cell BK118.out 4).trans rfl
              have hcz30_5 : w23.cell? ⟨gb118, 5, none⟩ = some (.int .i64 a0_5) := (blk_cell BK118.out 5).trans rfl
              have hcz30_6 : w23.cell? ⟨gb118, 6, none⟩ = some (.int .i32 a0_6) := (blk_cell BK118.out 6).trans rfl
              have hcz30_7 : w23.cell? ⟨gb118, 7, none⟩ = some (.string a0_7) := (blk_cell BK118.out 7).trans rfl
              have hcz30_8 : w23.cell? ⟨gb118, 8, none⟩ = some (.string a0_8) := (blk_cell BK118.out 8).trans rfl
              have hcz30_9 : w23.cell? ⟨gb118, 9, none⟩ = some (.string a0_9) := (blk_cell BK118.out 9).trans rfl
              have hcz30_10 : w23.cell? ⟨gb118, 10, none⟩ = some (.int .i64 a0_10) := (blk_cell BK118.out 10).trans rfl
              have hcz30_11 : w23.cell? ⟨gb118, 11, none⟩ = some (.int .u8 a0_11) := (blk_cell BK118.out 11).trans rfl
              have hfz30_0 := blk_frozen BK118.out 0
              have hfz30_1 := blk_frozen BK118.out 1
              have hfz30_2 := blk_frozen BK118.out 2
              have hfz30_3 := blk_frozen BK118.out 3
              have hfz30_4 := blk_frozen BK118.out 4
              have hfz30_5 := blk_frozen BK118.out 5
              have hfz30_6 := blk_frozen BK118.out 6
              have hfz30_7 := blk_frozen BK118.out 7
              have hfz30_8 := blk_frozen BK118.out 8
              have hfz30_9 := blk_frozen BK118.out 9
              have hfz30_10 := blk_frozen BK118.out 10
              have hfz30_11 := blk_frozen BK118.out 11
              go_wp2
              go_meet
              case rel => exact ⟨_, (true), (by first | rfl | (simp; done) | (simp [*]; done)), H', ⟨by have := HJ3.out; first | omega | exact Nat.le_refl _⟩, ⟨by (with_reducible repeat (first | apply Kd.R_alloc | apply Kd.R_drewN | apply Kd.R_drew)); exact Kd.R_mono (Kd.R_far (p := ⟨gb129, 4, none⟩) (Kd.R_far (p := ⟨gb129, 3, none⟩) (Kd.R_far (p := ⟨gb129, 2, none⟩) (Kd.R_far (p := ⟨gb129, 1, none⟩) (Kd.R_far (p := ⟨gb129, 0, none⟩) (Kd.R_types HO123.out BK129.out (by decide)) (fun _ hk => hk.2) (.int .u32 t124)) (fun _ hk => hk.2) (.int .u32 t125)) (fun _ hk => hk.2) (.int .u32 t126)) (fun _ hk => hk.2) (.int .i64 t127)) (fun _ hk => hk.2) (.int .i32 t128)) (fun _ hk => trivial)⟩, ⟨by (with_reducible repeat (first | refine blk_drewN ?_ _ | refine blk_drew ?_ | refine blk_alloc ?_ _)); refine blk_far ?_ NB118_129.out _; (with_reducible repeat (first | refine blk_drewN ?_ _ | refine blk_drew ?_ | refine blk_alloc ?_ _)); refine blk_far ?_ NB118_129.out _; (with_reducible repeat (first | refine blk_drewN ?_ _ | refine blk_drew ?_ | refine blk_alloc ?_ _)); refine blk_far ?_ NB118_129.out _; (with_reducible repeat (first | refine blk_drewN ?_ _ | refine blk_drew ?_ | refine blk_alloc ?_ _)); refine blk_far ?_ NB118_129.out _; (with_reducible repeat (first | refine blk_drewN ?_ _ | refine blk_drew ?_ | refine blk_alloc ?_ _)); refine blk_far ?_ NB118_129.out _; (with_reducible repeat (first | refine blk_drewN ?_ _ | refine blk_drew ?_ | refine blk_alloc ?_ _)); exact BK118.out⟩, ⟨by (with_reducible repeat (first | refine blk_drewN ?_ _ | refine blk_drew ?_ | refine blk_alloc ?_ _)); refine blk_far ?_ NB119_129.out _; (with_reducible repeat (first | refine blk_drewN ?_ _ | refine blk_drew ?_ | refine blk_alloc ?_ _)); refine blk_far ?_ NB119_129.out _; (with_reducible repeat (first | refine blk_drewN ?_ _ | refine blk_drew ?_ | refine blk_alloc ?_ _)); refine blk_far ?_ NB119_129.out _; (with_reducible repeat (first | refine blk_drewN ?_ _ | refine blk_drew ?_ | refine blk_alloc ?_ _)); refine blk_far ?_ NB119_129.out _; (with_reducible repeat (first | refine blk_drewN ?_ _ | refine blk_drew ?_ | refine blk_alloc ?_ _)); refine blk_far ?_ NB119_129.out _; (with_reducible repeat (first | refine blk_drewN ?_ _ | refine blk_drew ?_ | refine blk_alloc ?_ _)); exact BK119.out⟩, ⟨by (with_reducible repeat (first | refine blk_drewN ?_ _ | refine blk_drew ?_ | refine blk_alloc ?_ _)); refine blk_put (cs := #[.int .u32 t124, .int .u32 t125, .int .u32 t126, .int .i64 t127, .int .i32 0]) ?_ 4 _ rfl; (with_reducible repeat (first | refine blk_drewN ?_ _ | refine blk_drew ?_ | refine blk_alloc ?_ _)); refine blk_put (cs := #[.int .u32 t124, .int .u32 t125, .int .u32 t126, .int .i64 0, .int .i32 0]) ?_ 3 _ rfl; (with_reducible repeat (first | refine blk_drewN ?_ _ | refine blk_drew ?_ | refine blk_alloc ?_ _)); refine blk_put (cs := #[.int .u32 t124, .int .u32 t125, .int .u32 0, .int .i64 0, .int .i32 0]) ?_ 2 _ rfl; (with_reducible repeat (first | refine blk_drewN ?_ _ | refine blk_drew ?_ | refine blk_alloc ?_ _)); refine blk_put (cs := #[.int .u32 t124, .int .u32 0, .int .u32 0, .int .i64 0, .int .i32 0]) ?_ 1 _ rfl; (with_reducible repeat (first | refine blk_drewN ?_ _ | refine blk_drew ?_ | refine blk_alloc ?_ _)); refine blk_put (cs := #[.int .u32 0, .int .u32 0, .int .u32 0, .int .i64 0, .int .i32 0]) ?_ 0 _ rfl; (with_reducible repeat (first | refine blk_drewN ?_ _ | refine blk_drew ?_ | refine blk_alloc ?_ _)); exact BK129.out⟩, ⟨by repeat (first | (with_reducible first | exact HB.out | apply below_alloc | apply pw_below_drewN | apply below_drew1 | refine below_set ?_ GE118.out | refine below_set ?_ GE119.out | refine below_set ?_ GE129.out) | exact HB.out)⟩⟩
            · rw [if_neg c27] at H
              have c27b0 : decide (a0_1 < 1) = false := decide_eq_false c27
              clear c27
              (first | rw [c27b0] | rw [c27be] | (simp only [i64_w, i32_w]; rw [c27b0]) | skip)
              have H' := Aside0.mk H
              clear H
              have hnb31 := NB118_119.out
              have hnc31 := NB119_118.out
              have hnb32 := NB118_129.out
              have hnc32 := NB129_118.out
              have hcz33_0 : w23.cell? ⟨gb118, 0, none⟩ = some (.string a0_0) := (blk_cell BK118.out 0).trans rfl
              have hcz33_1 : w23.cell? ⟨gb118, 1, none⟩ = some (.int .i64 a0_1) := (blk_cell BK118.out 1).trans rfl
              have hcz33_2 : w23.cell? ⟨gb118, 2, none⟩ = some (.int .u32 a0_2) := (blk_cell BK118.out 2).trans rfl
              have hcz33_3 : w23.cell? ⟨gb118, 3, none⟩ = some (.int .u32 a0_3) := (blk_cell BK118.out 3).trans rfl
              have hcz33_4 : w23.cell? ⟨gb118, 4, none⟩ = some (.int .u32 a0_4) := (blk_cell BK118.out 4).trans rfl
              have hcz33_5 : w23.cell? ⟨gb118, 5, none⟩ = some (.int .i64 a0_5) := (blk_cell BK118.out 5).trans rfl
              have hcz33_6 : w23.cell? ⟨gb118, 6, none⟩ = some (.int .i32 a0_6) := (blk_cell BK118.out 6).trans rfl
              have hcz33_7 : w23.cell? ⟨gb118, 7, none⟩ = some (.string a0_7) := (blk_cell BK118.out 7).trans rfl
              have hcz33_8 : w23.cell? ⟨gb118, 8, none⟩ = some (.string a0_8) := (blk_cell BK118.out 8).trans rfl
              have hcz33_9 : w23.cell? ⟨gb118, 9, none⟩ = some (.string a0_9) := (blk_cell BK118.out 9).trans rfl
              have hcz33_10 : w23.cell? ⟨gb118, 10, none⟩ = some (.int .i64 a0_10) := (blk_cell BK118.out 10).trans rfl
              have hcz33_11 : w23.cell? ⟨gb118, 11, none⟩ = some (.int .u8 a0_11) := (blk_cell BK118.out 11).trans rfl
              have hfz33_0 := blk_frozen BK118.out 0
              have hfz33_1 := blk_frozen BK118.out 1
              have hfz33_2 := blk_frozen BK118.out 2
              have hfz33_3 := blk_frozen BK118.out 3
              have hfz33_4 := blk_frozen BK118.out 4
              have hfz33_5 := blk_frozen BK118.out 5
              have hfz33_6 := blk_frozen BK118.out 6
              have hfz33_7 := blk_frozen BK118.out 7
              have hfz33_8 := blk_frozen BK118.out 8
              have hfz33_9 := blk_frozen BK118.out 9
              have hfz33_10 := blk_frozen BK118.out 10
              have hfz33_11 := blk_frozen BK118.out 11
              go_wp2
              go_meet
              case rel => exact ⟨_, (decide (a0_1 > 4)), (by first | rfl | (simp; done) | (simp [*]; done)), H', ⟨by have := HJ3.out; first | omega | exact Nat.le_refl _⟩, ⟨by (with_reducible repeat (first | apply Kd.R_alloc | apply Kd.R_drewN | apply Kd.R_drew)); exact Kd.R_mono (Kd.R_far (p := ⟨gb129, 4, none⟩) (Kd.R_far (p := ⟨gb129, 3, none⟩) (Kd.R_far (p := ⟨gb129, 2, none⟩) (Kd.R_far (p := ⟨gb129, 1, none⟩) (Kd.R_far (p := ⟨gb129, 0, none⟩) (Kd.R_types HO123.out BK129.out (by decide)) (fun _ hk => hk.2) (.int .u32 t124)) (fun _ hk => hk.2) (.int .u32 t125)) (fun _ hk => hk.2) (.int .u32 t126)) (fun _ hk => hk.2) (.int .i64 t127)) (fun _ hk => hk.2) (.int .i32 t128)) (fun _ hk => trivial)⟩, ⟨by (with_reducible repeat (first | refine blk_drewN ?_ _ | refine blk_drew ?_ | refine blk_alloc ?_ _)); refine blk_far ?_ NB118_129.out _; (with_reducible repeat (first | refine blk_drewN ?_ _ | refine blk_drew ?_ | refine blk_alloc ?_ _)); refine blk_far ?_ NB118_129.out _; (with_reducible repeat (first | refine blk_drewN ?_ _ | refine blk_drew ?_ | refine blk_alloc ?_ _)); refine blk_far ?_ NB118_129.out _; (with_reducible repeat (first | refine blk_drewN ?_ _ | refine blk_drew ?_ | refine blk_alloc ?_ _)); refine blk_far ?_ NB118_129.out _; (with_reducible repeat (first | refine blk_drewN ?_ _ | refine blk_drew ?_ | refine blk_alloc ?_ _)); refine blk_far ?_ NB118_129.out _; (with_reducible repeat (first | refine blk_drewN ?_ _ | refine blk_drew ?_ | refine blk_alloc ?_ _)); exact BK118.out⟩, ⟨by (with_reducible repeat (first | refine blk_drewN ?_ _ | refine blk_drew ?_ | refine blk_alloc ?_ _)); refine blk_far ?_ NB119_129.out _; (with_reducible repeat (first | refine blk_drewN ?_ _ | refine blk_drew ?_ | refine blk_alloc ?_ _)); refine blk_far ?_ NB119_129.out _; (with_reducible repeat (first | refine blk_drewN ?_ _ | refine blk_drew ?_ | refine blk_alloc ?_ _)); refine blk_far ?_ NB119_129.out _; (with_reducible repeat (first | refine blk_drewN ?_ _ | refine blk_drew ?_ | refine blk_alloc ?_ _)); refine blk_far ?_ NB119_129.out _; (with_reducible repeat (first | refine blk_drewN ?_ _ | refine blk_drew ?_ | refine blk_alloc ?_ _)); refine blk_far ?_ NB119_129.out _; (with_reducible repeat (first | refine blk_drewN ?_ _ | refine blk_drew ?_ | refine blk_alloc ?_ _)); exact BK119.out⟩, ⟨by (with_reducible repeat (first | refine blk_drewN ?_ _ | refine blk_drew ?_ | refine blk_alloc ?_ _)); refine blk_put (cs := #[.int .u32 t124, .int .u32 t125, .int .u32 t126, .int .i64 t127, .int .i32 0]) ?_ 4 _ rfl; (with_reducible repeat (first | refine blk_drewN ?_ _ | refine blk_drew ?_ | refine blk_alloc ?_ _)); refine blk_put (cs := #[.int .u32 t124, .int .u32 t125, .int .u32 t126, .int .i64 0, .int .i32 0]) ?_ 3 _ rfl; (with_reducible repeat (first | refine blk_drewN ?_ _ | refine blk_drew ?_ | refine blk_alloc ?_ _)); refine blk_put (cs := #[.int .u32 t124, .int .u32 t125, .int .u32 0, .int .i64 0, .int .i32 0]) ?_ 2 _ rfl; (with_reducible repeat (first | refine blk_drewN ?_ _ | refine blk_drew ?_ | refine blk_alloc ?_ _)); refine blk_put (cs := #[.int .u32 t124, .int .u32 0, .int .u32 0, .int .i64 0, .int .i32 0]) ?_ 1 _ rfl; (with_reducible repeat (first | refine blk_drewN ?_ _ | refine blk_drew ?_ | refine blk_alloc ?_ _)); refine blk_put (cs := #[.int .u32 0, .int .u32 0, .int .u32 0, .int .i64 0, .int .i32 0]) ?_ 0 _ rfl; (with_reducible repeat (first | refine blk_drewN ?_ _ | refine blk_drew ?_ | refine blk_alloc ?_ _)); exact BK129.out⟩, ⟨by repeat (first | (with_reducible first | exact HB.out | apply below_alloc | apply pw_below_drewN | apply below_drew1 | refine below_set ?_ GE118.out | refine below_set ?_ GE119.out | refine below_set ?_ GE129.out) | exact HB.out)⟩⟩
          case rest =>
            clear HC16
            try clear c1
            try clear c2
            try clear p2
            try clear c3
            try clear c7
            try clear c7b0
            try clear c8
            try clear c10
            try clear c12
            try clear c14
            try clear c15
            try clear c15b0
            try clear c15b1
            try clear c17
            try clear c24
            try clear c25
            try clear c27
            try clear c27b0
            try clear c28
            try clear c29
            try clear c31
            try clear c32
            try clear hcz11_0
            try clear hcz11_1
            try clear hcz11_2
            try clear hcz11_3
            try clear hcz18_0
            try clear hcz18_1
            try clear hcz18_10
            try clear hcz18_11
            try clear hcz18_2
            try clear hcz18_3
            try clear hcz18_4
            try clear hcz18_5
            try clear hcz18_6
            try clear hcz18_7
            try clear hcz18_8
            try clear hcz18_9
            try clear hcz20_0
            try clear hcz20_1
            try clear hcz20_10
            try clear hcz20_11
            try clear hcz20_2
            try clear hcz20_3
            try clear hcz20_4
            try clear hcz20_5
            try clear hcz20_6
            try clear hcz20_7
            try clear hcz20_8
            try clear hcz20_9
            try clear hcz21_0
            try clear hcz21_1
            try clear hcz21_2
            try clear hcz21_3
            try clear hcz26_0
            try clear hcz26_1
            try clear hcz26_2
            try clear hcz26_3
            try clear hcz26_4
            try clear hcz30_0
            try clear hcz30_1
            try clear hcz30_10
            try clear hcz30_11
            try clear hcz30_2
            try clear hcz30_3
            try clear hcz30_4
            try clear hcz30_5
            try clear hcz30_6
            try clear hcz30_7
            try clear hcz30_8
            try clear hcz30_9
            try clear hcz33_0
            try clear hcz33_1
            try clear hcz33_10
            try clear hcz33_11
            try clear hcz33_2
            try clear hcz33_3
            try clear hcz33_4
            try clear hcz33_5
            try clear hcz33_6
            try clear hcz33_7
            try clear hcz33_8
            try clear hcz33_9
            try clear hcz9_0
            try clear hcz9_1
            try clear hcz9_2
            try clear hcz9_3
            try clear hfz11_0
            try clear hfz11_1
            try clear hfz11_2
            try clear hfz11_3
            try clear hfz18_0
            try clear hfz18_1
            try clear hfz18_10
            try clear hfz18_11
            try clear hfz18_2
            try clear hfz18_3
            try clear hfz18_4
            try clear hfz18_5
            try clear hfz18_6
            try clear hfz18_7
            try clear hfz18_8
            try clear hfz18_9
            try clear hfz20_0
            try clear hfz20_1
            try clear hfz20_10
            try clear hfz20_11
            try clear hfz20_2
            try clear hfz20_3
            try clear hfz20_4
            try clear hfz20_5
            try clear hfz20_6
            try clear hfz20_7
            try clear hfz20_8
            try clear hfz20_9
            try clear hfz21_0
            try clear hfz21_1
            try clear hfz21_2
            try clear hfz21_3
            try clear hfz26_0
            try clear hfz26_1
            try clear hfz26_2
            try clear hfz26_3
            try clear hfz26_4
            try clear hfz30_0
            try clear hfz30_1
            try clear hfz30_10
            try clear hfz30_11
            try clear hfz30_2
            try clear hfz30_3
            try clear hfz30_4
            try clear hfz30_5
            try clear hfz30_6
            try clear hfz30_7
            try clear hfz30_8
            try clear hfz30_9
            try clear hfz33_0
            try clear hfz33_1
            try clear hfz33_10
            try clear hfz33_11
            try clear hfz33_2
            try clear hfz33_3
            try clear hfz33_4
            try clear hfz33_5
            try clear hfz33_6
            try clear hfz33_7
            try clear hfz33_8
            try clear hfz33_9
            try clear hfz9_0
            try clear hfz9_1
            try clear hfz9_2
            try clear hfz9_3
            try clear p2
            obtain ⟨kq, x34_15, rfl, HA, HJ15, HO_8, BK118, BK119, BK129, HB⟩ := hcut
            cases kq with
            | zero => exact absurd HA.out (by simp [apply_wrong.j1])
            | succ kj15 =>
              have H := HA.out
              clear HA
              simp only [apply_wrong.j1] at H
              by_cases c34 : x34_15 = true
              · subst c34
                have H1 : (some (([] : List ByteArray), 193)) = some (r1, r2) := by rw [if_pos rfl] at H; exact H
                clear H
                have H := H1
                clear H1
                simp only [Option.some.injEq, Prod.mk.injEq] at H
                obtain ⟨rfl, rfl⟩ := H
                go_wp2
                go_ret2
                exact ⟨_, by first | rfl | (simp [errW_none, errW_some] <;> rfl) | (simp [*, errW_none, errW_some] <;> rfl), by first | exact Kd.R_nil _ _ _ _ _ | exact Kd.N_nil _ _ _ _ _ | exact Kd.V_nil _ _ _ _ _ | exact Kd.Q_nil _ _ _ _ _ | exact Kd.S_nil _ _ _ _ _, by repeat (first | (with_reducible first | exact HB.out | apply below_alloc | apply pw_below_drewN | apply below_drew1 | refine below_set ?_ GE118.out | refine below_set ?_ GE119.out | refine below_set ?_ GE129.out) | exact HB.out)⟩
              · replace c34 := Bool.eq_false_iff.mpr c34
                subst c34
                have H1 : (if t124 > 4095 then (some (([] : List ByteArray), 1)) else (if t128 < 0 then (some (([] : List ByteArray), 1)) else (if t128 > 999999999 then (some (([] : List ByteArray), 1)) else (if a0_1 = 2 then (if a0_10 = (l1.length : Int) then (some (t120, 0)) else (some (([] : List ByteArray), 192))) else (if a0_1 = 3 then (if a0_9.toList = ([] : List UInt8) then (apply_wrong.j2 kj15 t120 true a0_0 a0_1 a0_2 a0_3 a0_4 a0_5 a0_6 a0_7 a0_8 a0_9 a0_10 a0_11 a2_0 a2_1 a2_2 a2_3) else (if (a0_9.size : Int) > 4096 then (apply_wrong.j2 kj15 t120 true a0_0 a0_1 a0_2 a0_3 a0_4 a0_5 a0_6 a0_7 a0_8 a0_9 a0_10 a0_11 a2_0 a2_1 a2_2 a2_3) else ((strings_IndexByte.f a0_9 0).bind fun t130 => (apply_wrong.j2 kj15 t120 (decide (t130 ≥ 0)) a0_0 a0_1 a0_2 a0_3 a0_4 a0_5 a0_6 a0_7 a0_8 a0_9 a0_10 a0_11 a2_0 a2_1 a2_2 a2_3)))) else (if a0_1 = 4 then ((path_Split.f kj15 a0_9).bind fun bt136 => (if bt136.2 = 0 then (some (t120, 0)) else (some (([] : List ByteArray), bt136.2)))) else (some (t120, 0)))))))) = some (r1, r2) := by rw [if_neg (show ¬ (false = true) by decide)] at H; exact H
                clear H
                have H := H1
                clear H1
                by_cases c35 : t124 > 4095
                · rw [if_pos c35] at H
                  have c35b0 : decide (4095 < t124) = true := decide_eq_true c35
                  clear c35
                  simp only [Option.some.injEq, Prod.mk.injEq] at H
                  obtain ⟨rfl, rfl⟩ := H
                  have hnb36 := NB129_118.out
                  have hnc36 := NB118_129.out
                  have hnb37 := NB129_119.out
                  have hnc37 := NB119_129.out
                  have hcz38_0 : wc.cell? ⟨gb129, 0, none⟩ = some (.int .u32 t124) := (blk_cell BK129.out 0).trans rfl
                  have hcz38_1 : wc.cell? ⟨gb129, 1, none⟩ = some (.int .u32 t125) := (blk_cell BK129.out 1).trans rfl
                  have hcz38_2 : wc.cell? ⟨gb129, 2, none⟩ = some (.int .u32 t126) := (blk_cell BK129.out 2).trans rfl
                  have hcz38_3 : wc.cell? ⟨gb129, 3, none⟩ = some (.int .i64 t127) := (blk_cell BK129.out 3).trans rfl
                  have hcz38_4 : wc.cell? ⟨gb129, 4, none⟩ = some (.int .i32 t128) := (blk_cell BK129.out 4).trans rfl
                  have hfz38_0 := blk_frozen BK129.out 0
                  have hfz38_1 := blk_frozen BK129.out 1
                  have hfz38_2 := blk_frozen BK129.out 2
                  have hfz38_3 := blk_frozen BK129.out 3
                  have hfz38_4 := blk_frozen BK129.out 4
                  go_wp2
                  go_ret2
                  exact ⟨_, by first | rfl | (simp [errW_none, errW_some] <;> rfl) | (simp [*, errW_none, errW_some] <;> rfl), by first | exact Kd.R_nil _ _ _ _ _ | exact Kd.N_nil _ _ _ _ _ | exact Kd.V_nil _ _ _ _ _ | exact Kd.Q_nil _ _ _ _ _ | exact Kd.S_nil _ _ _ _ _, by repeat (first | (with_reducible first | exact HB.out | apply below_alloc | apply pw_below_drewN | apply below_drew1 | refine below_set ?_ GE118.out | refine below_set ?_ GE119.out | refine below_set ?_ GE129.out) | exact HB.out)⟩
                · rw [if_neg c35] at H
                  have c35b0 : decide (4095 < t124) = false := decide_eq_false c35
                  clear c35
                  by_cases c39 : t128 < 0
                  · rw [if_pos c39] at H
                    have c39b0 : decide (t128 < 0) = true := decide_eq_true c39
                    clear c39
                    simp only [Option.some.injEq, Prod.mk.injEq] at H
                    obtain ⟨rfl, rfl⟩ := H
                    have hnb40 := NB129_118.out
                    have hnc40 := NB118_129.out
                    have hnb41 := NB129_119.out
                    have hnc41 := NB119_129.out
                    have hcz42_0 : wc.cell? ⟨gb129, 0, none⟩ = some (.int .u32 t124) := (blk_cell BK129.out 0).trans rfl
                    have hcz42_1 : wc.cell? ⟨gb129, 1, none⟩ = some (.int .u32 t125) := (blk_cell BK129.out 1).trans rfl
                    have hcz42_2 : wc.cell? ⟨gb129, 2, none⟩ = some (.int .u32 t126) := (blk_cell BK129.out 2).trans rfl
                    have hcz42_3 : wc.cell? ⟨gb129, 3, none⟩ = some (.int .i64 t127) := (blk_cell BK129.out 3).trans rfl
                    have hcz42_4 : wc.cell? ⟨gb129, 4, none⟩ = some (.int .i32 t128) := (blk_cell BK129.out 4).trans rfl
                    have hfz42_0 := blk_frozen BK129.out 0
                    have hfz42_1 := blk_frozen BK129.out 1
                    have hfz42_2 := blk_frozen BK129.out 2
                    have hfz42_3 := blk_frozen BK129.out 3
                    have hfz42_4 := blk_frozen BK129.out 4
                    go_wp2
                    go_ret2
                    exact ⟨_, by first | rfl | (simp [errW_none, errW_some] <;> rfl) | (simp [*, errW_none, errW_some] <;> rfl), by first | exact Kd.R_nil _ _ _ _ _ | exact Kd.N_nil _ _ _ _ _ | exact Kd.V_nil _ _ _ _ _ | exact Kd.Q_nil _ _ _ _ _ | exact Kd.S_nil _ _ _ _ _, by repeat (first | (with_reducible first | exact HB.out | apply below_alloc | apply pw_below_drewN | apply below_drew1 | refine below_set ?_ GE118.out | refine below_set ?_ GE119.out | refine below_set ?_ GE129.out) | exact HB.out)⟩
                  · rw [if_neg c39] at H
                    have c39b0 : decide (t128 < 0) = false := decide_eq_false c39
                    clear c39
                    by_cases c43 : t128 > 999999999
                    · rw [if_pos c43] at H
                      have c43b0 : decide (999999999 < t128) = true := decide_eq_true c43
                      clear c43
                      simp only [Option.some.injEq, Prod.mk.injEq] at H
                      obtain ⟨rfl, rfl⟩ := H
                      have hnb44 := NB129_118.out
                      have hnc44 := NB118_129.out
                      have hnb45 := NB129_119.out
                      have hnc45 := NB119_129.out
                      have hcz46_0 : wc.cell? ⟨gb129, 0, none⟩ = some (.int .u32 t124) := (blk_cell BK129.out 0).trans rfl
                      have hcz46_1 : wc.cell? ⟨gb129, 1, none⟩ = some (.int .u32 t125) := (blk_cell BK129.out 1).trans rfl
                      have hcz46_2 : wc.cell? ⟨gb129, 2, none⟩ = some (.int .u32 t126) := (blk_cell BK129.out 2).trans rfl
                      have hcz46_3 : wc.cell? ⟨gb129, 3, none⟩ = some (.int .i64 t127) := (blk_cell BK129.out 3).trans rfl
                      have hcz46_4 : wc.cell? ⟨gb129, 4, none⟩ = some (.int .i32 t128) := (blk_cell BK129.out 4).trans rfl
                      have hfz46_0 := blk_frozen BK129.out 0
                      have hfz46_1 := blk_frozen BK129.out 1
                      have hfz46_2 := blk_frozen BK129.out 2
                      have hfz46_3 := blk_frozen BK129.out 3
                      have hfz46_4 := blk_frozen BK129.out 4
                      go_wp2
                      go_ret2
                      exact ⟨_, by first | rfl | (simp [errW_none, errW_some] <;> rfl) | (simp [*, errW_none, errW_some] <;> rfl), by first | exact Kd.R_nil _ _ _ _ _ | exact Kd.N_nil _ _ _ _ _ | exact Kd.V_nil _ _ _ _ _ | exact Kd.Q_nil _ _ _ _ _ | exact Kd.S_nil _ _ _ _ _, by repeat (first | (with_reducible first | exact HB.out | apply below_alloc | apply pw_below_drewN | apply below_drew1 | refine below_set ?_ GE118.out | refine below_set ?_ GE119.out | refine below_set ?_ GE129.out) | exact HB.out)⟩
                    · rw [if_neg c43] at H
                      have c43b0 : decide (999999999 < t128) = false := decide_eq_false c43
                      clear c43
                      by_cases c47 : a0_1 = 2
                      · rw [if_pos c47] at H
                        have c47b0 : (a0_1 == 2) = true := beq_iff_eq.mpr c47
                        have c47b1 : (a0_1 != 2) = false := bne_eq_false_iff_eq.mpr c47
                        clear c47
                        by_cases c48 : a0_10 = (l1.length : Int)
                        · rw [if_pos c48] at H
                          have c48b0 : (a0_10 == (l1.length : Int)) = true := beq_iff_eq.mpr c48
                          have c48b1 : (a0_10 != (l1.length : Int)) = false := bne_eq_false_iff_eq.mpr c48
                          clear c48
                          simp only [Option.some.injEq, Prod.mk.injEq] at H
                          obtain ⟨rfl, rfl⟩ := H
                          have hnb49 := NB129_118.out
                          have hnc49 := NB118_129.out
                          have hnb50 := NB129_119.out
                          have hnc50 := NB119_129.out
                          have hcz51_0 : wc.cell? ⟨gb129, 0, none⟩ = some (.int .u32 t124) := (blk_cell BK129.out 0).trans rfl
                          have hcz51_1 : wc.cell? ⟨gb129, 1, none⟩ = some (.int .u32 t125) := (blk_cell BK129.out 1).trans rfl
                          have hcz51_2 : wc.cell? ⟨gb129, 2, none⟩ = some (.int .u32 t126) := (blk_cell BK129.out 2).trans rfl
                          have hcz51_3 : wc.cell? ⟨gb129, 3, none⟩ = some (.int .i64 t127) := (blk_cell BK129.out 3).trans rfl
                          have hcz51_4 : wc.cell? ⟨gb129, 4, none⟩ = some (.int .i32 t128) := (blk_cell BK129.out 4).trans rfl
                          have hfz51_0 := blk_frozen BK129.out 0
                          have hfz51_1 := blk_frozen BK129.out 1
                          have hfz51_2 := blk_frozen BK129.out 2
                          have hfz51_3 := blk_frozen BK129.out 3
                          have hfz51_4 := blk_frozen BK129.out 4
                          have hnb52 := NB118_119.out
                          have hnc52 := NB119_118.out
                          have hcz53_0 : wc.cell? ⟨gb118, 0, none⟩ = some (.string a0_0) := (blk_cell BK118.out 0).trans rfl
                          have hcz53_1 : wc.cell? ⟨gb118, 1, none⟩ = some (.int .i64 a0_1) := (blk_cell BK118.out 1).trans rfl
                          have hcz53_2 : wc.cell? ⟨gb118, 2, none⟩ = some (.int .u32 a0_2) := (blk_cell BK118.out 2).trans rfl
                          have hcz53_3 : wc.cell? ⟨gb118, 3, none⟩ = some (.int .u32 a0_3) := (blk_cell BK118.out 3).trans rfl
                          have hcz53_4 : wc.cell? ⟨gb118, 4, none⟩ = some (.int .u32 a0_4) := (blk_cell BK118.out 4).trans rfl
                          have hcz53_5 : wc.cell? ⟨gb118, 5, none⟩ = some (.int .i64 a0_5) := (blk_cell BK118.out 5).trans rfl
                          have hcz53_6 : wc.cell? ⟨gb118, 6, none⟩ = some (.int .i32 a0_6) := (blk_cell BK118.out 6).trans rfl
                          have hcz53_7 : wc.cell? ⟨gb118, 7, none⟩ = some (.string a0_7) := (blk_cell BK118.out 7).trans rfl
                          have hcz53_8 : wc.cell? ⟨gb118, 8, none⟩ = some (.string a0_8) := (blk_cell BK118.out 8).trans rfl
                          have hcz53_9 : wc.cell? ⟨gb118, 9, none⟩ = some (.string a0_9) := (blk_cell BK118.out 9).trans rfl
                          have hcz53_10 : wc.cell? ⟨gb118, 10, none⟩ = some (.int .i64 a0_10) := (blk_cell BK118.out 10).trans rfl
                          have hcz53_11 : wc.cell? ⟨gb118, 11, none⟩ = some (.int .u8 a0_11) := (blk_cell BK118.out 11).trans rfl
                          have hfz53_0 := blk_frozen BK118.out 0
                          have hfz53_1 := blk_frozen BK118.out 1
                          have hfz53_2 := blk_frozen BK118.out 2
                          have hfz53_3 := blk_frozen BK118.out 3
                          have hfz53_4 := blk_frozen BK118.out 4
                          have hfz53_5 := blk_frozen BK118.out 5
                          have hfz53_6 := blk_frozen BK118.out 6
                          have hfz53_7 := blk_frozen BK118.out 7
                          have hfz53_8 := blk_frozen BK118.out 8
                          have hfz53_9 := blk_frozen BK118.out 9
                          have hfz53_10 := blk_frozen BK118.out 10
                          have hfz53_11 := blk_frozen BK118.out 11
                          go_wp2
                          go_ret2
                          exact ⟨_, by first | rfl | (simp [errW_none, errW_some] <;> rfl) | (simp [*, errW_none, errW_some] <;> rfl), by (with_reducible repeat (first | apply Kd.R_alloc | apply Kd.R_drewN | apply Kd.R_drew)); exact HO_8.out, by repeat (first | (with_reducible first | exact HB.out | apply below_alloc | apply pw_below_drewN | apply below_drew1 | refine below_set ?_ GE118.out | refine below_set ?_ GE119.out | refine below_set ?_ GE129.out) | exact HB.out)⟩
                        · rw [if_neg c48] at H
                          have c48b0 : (a0_10 == (l1.length : Int)) = false := beq_eq_false_iff_ne.mpr c48
                          have c48b1 : (a0_10 != (l1.length : Int)) = true := bne_iff_ne.mpr c48
                          simp only [Option.some.injEq, Prod.mk.injEq] at H
                          obtain ⟨rfl, rfl⟩ := H
                          have hnb54 := NB129_118.out
                          have hnc54 := NB118_129.out
                          have hnb55 := NB129_119.out
                          have hnc55 := NB119_129.out
                          have hcz56_0 : wc.cell? ⟨gb129, 0, none⟩ = some (.int .u32 t124) := (blk_cell BK129.out 0).trans rfl
                          have hcz56_1 : wc.cell? ⟨gb129, 1, none⟩ = some (.int .u32 t125) := (blk_cell BK129.out 1).trans rfl
                          have hcz56_2 : wc.cell? ⟨gb129, 2, none⟩ = some (.int .u32 t126) := (blk_cell BK129.out 2).trans rfl
                          have hcz56_3 : wc.cell? ⟨gb129, 3, none⟩ = some (.int .i64 t127) := (blk_cell BK129.out 3).trans rfl
                          have hcz56_4 : wc.cell? ⟨gb129, 4, none⟩ = some (.int .i32 t128) := (blk_cell BK129.out 4).trans rfl
                          have hfz56_0 := blk_frozen BK129.out 0
                          have hfz56_1 := blk_frozen BK129.out 1
                          have hfz56_2 := blk_frozen BK129.out 2
                          have hfz56_3 := blk_frozen BK129.out 3
                          have hfz56_4 := blk_frozen BK129.out 4
                          have hnb57 := NB118_119.out
                          have hnc57 := NB119_118.out
                          have hcz58_0 : wc.cell? ⟨gb118, 0, none⟩ = some (.string a0_0) := (blk_cell BK118.out 0).trans rfl
                          have hcz58_1 : wc.cell? ⟨gb118, 1, none⟩ = some (.int .i64 a0_1) := (blk_cell BK118.out 1).trans rfl
                          have hcz58_2 : wc.cell? ⟨gb118, 2, none⟩ = some (.int .u32 a0_2) := (blk_cell BK118.out 2).trans rfl
                          have hcz58_3 : wc.cell? ⟨gb118, 3, none⟩ = some (.int .u32 a0_3) := (blk_cell BK118.out 3).trans rfl
                          have hcz58_4 : wc.cell? ⟨gb118, 4, none⟩ = some (.int .u32 a0_4) := (blk_cell BK118.out 4).trans rfl
                          have hcz58_5 : wc.cell? ⟨gb118, 5, none⟩ = some (.int .i64 a0_5) := (blk_cell BK118.out 5).trans rfl
                          have hcz58_6 : wc.cell? ⟨gb118, 6, none⟩ = some (.int .i32 a0_6) := (blk_cell BK118.out 6).trans rfl
                          have hcz58_7 : wc.cell? ⟨gb118, 7, none⟩ = some (.string a0_7) := (blk_cell BK118.out 7).trans rfl
                          have hcz58_8 : wc.cell? ⟨gb118, 8, none⟩ = some (.string a0_8) := (blk_cell BK118.out 8).trans rfl
                          have hcz58_9 : wc.cell? ⟨gb118, 9, none⟩ = some (.string a0_9) := (blk_cell BK118.out 9).trans rfl
                          have hcz58_10 : wc.cell? ⟨gb118, 10, none⟩ = some (.int .i64 a0_10) := (blk_cell BK118.out 10).trans rfl
                          have hcz58_11 : wc.cell? ⟨gb118, 11, none⟩ = some (.int .u8 a0_11) := (blk_cell BK118.out 11).trans rfl
                          have hfz58_0 := blk_frozen BK118.out 0
                          have hfz58_1 := blk_frozen BK118.out 1
                          have hfz58_2 := blk_frozen BK118.out 2
                          have hfz58_3 := blk_frozen BK118.out 3
                          have hfz58_4 := blk_frozen BK118.out 4
                          have hfz58_5 := blk_frozen BK118.out 5
                          have hfz58_6 := blk_frozen BK118.out 6
                          have hfz58_7 := blk_frozen BK118.out 7
                          have hfz58_8 := blk_frozen BK118.out 8
                          have hfz58_9 := blk_frozen BK118.out 9
                          have hfz58_10 := blk_frozen BK118.out 10
                          have hfz58_11 := blk_frozen BK118.out 11
                          go_wp2
                          go_ret2
                          exact ⟨_, by first | rfl | (simp [errW_none, errW_some] <;> rfl) | (simp [*, errW_none, errW_some] <;> rfl), by first | exact Kd.R_nil _ _ _ _ _ | exact Kd.N_nil _ _ _ _ _ | exact Kd.V_nil _ _ _ _ _ | exact Kd.Q_nil _ _ _ _ _ | exact Kd.S_nil _ _ _ _ _, by repeat (first | (with_reducible first | exact HB.out | apply below_alloc | apply pw_below_drewN | apply below_drew1 | refine below_set ?_ GE118.out | refine below_set ?_ GE119.out | refine below_set ?_ GE129.out) | exact HB.out)⟩
                      · rw [if_neg c47] at H
                        have c47b0 : (a0_1 == 2) = false := beq_eq_false_iff_ne.mpr c47
                        have c47b1 : (a0_1 != 2) = true := bne_iff_ne.mpr c47
                        by_cases c59 : a0_1 = 3
                        · rw [if_pos c59] at H
                          have c59b0 : (a0_1 == 3) = true := beq_iff_eq.mpr c59
                          have c59b1 : (a0_1 != 3) = false := bne_eq_false_iff_eq.mpr c59
                          clear c59
                          have HC60 := Aside0.mk H
                          clear H
                          have hnb61 := NB129_118.out
                          have hnc61 := NB118_129.out
                          have hnb62 := NB129_119.out
                          have hnc62 := NB119_129.out
                          have hcz63_0 : wc.cell? ⟨gb129, 0, none⟩ = some (.int .u32 t124) := (blk_cell BK129.out 0).trans rfl
                          have hcz63_1 : wc.cell? ⟨gb129, 1, none⟩ = some (.int .u32 t125) := (blk_cell BK129.out 1).trans rfl
                          have hcz63_2 : wc.cell? ⟨gb129, 2, none⟩ = some (.int .u32 t126) := (blk_cell BK129.out 2).trans rfl
                          have hcz63_3 : wc.cell? ⟨gb129, 3, none⟩ = some (.int .i64 t127) := (blk_cell BK129.out 3).trans rfl
                          have hcz63_4 : wc.cell? ⟨gb129, 4, none⟩ = some (.int .i32 t128) := (blk_cell BK129.out 4).trans rfl
                          have hfz63_0 := blk_frozen BK129.out 0
                          have hfz63_1 := blk_frozen BK129.out 1
                          have hfz63_2 := blk_frozen BK129.out 2
                          have hfz63_3 := blk_frozen BK129.out 3
                          have hfz63_4 := blk_frozen BK129.out 4
                          have hnb64 := NB118_119.out
                          have hnc64 := NB119_118.out
                          have hcz65_0 : wc.cell? ⟨gb118, 0, none⟩ = some (.string a0_0) := (blk_cell BK118.out 0).trans rfl
                          have hcz65_1 : wc.cell? ⟨gb118, 1, none⟩ = some (.int .i64 a0_1) := (blk_cell BK118.out 1).trans rfl
                          have hcz65_2 : wc.cell? ⟨gb118, 2, none⟩ = some (.int .u32 a0_2) := (blk_cell BK118.out 2).trans rfl
                          have hcz65_3 : wc.cell? ⟨gb118, 3, none⟩ = some (.int .u32 a0_3) := (blk_cell BK118.out 3).trans rfl
                          have hcz65_4 : wc.cell? ⟨gb118, 4, none⟩ = some (.int .u32 a0_4) := (blk_cell BK118.out 4).trans rfl
                          have hcz65_5 : wc.cell? ⟨gb118, 5, none⟩ = some (.int .i64 a0_5) := (blk_cell BK118.out 5).trans rfl
                          have hcz65_6 : wc.cell? ⟨gb118, 6, none⟩ = some (.int .i32 a0_6) := (blk_cell BK118.out 6).trans rfl
                          have hcz65_7 : wc.cell? ⟨gb118, 7, none⟩ = some (.string a0_7) := (blk_cell BK118.out 7).trans rfl
                          have hcz65_8 : wc.cell? ⟨gb118, 8, none⟩ = some (.string a0_8) := (blk_cell BK118.out 8).trans rfl
                          have hcz65_9 : wc.cell? ⟨gb118, 9, none⟩ = some (.string a0_9) := (blk_cell BK118.out 9).trans rfl
                          have hcz65_10 : wc.cell? ⟨gb118, 10, none⟩ = some (.int .i64 a0_10) := (blk_cell BK118.out 10).trans rfl
                          have hcz65_11 : wc.cell? ⟨gb118, 11, none⟩ = some (.int .u8 a0_11) := (blk_cell BK118.out 11).trans rfl
                          have hfz65_0 := blk_frozen BK118.out 0
                          have hfz65_1 := blk_frozen BK118.out 1
                          have hfz65_2 := blk_frozen BK118.out 2
                          have hfz65_3 := blk_frozen BK118.out 3
                          have hfz65_4 := blk_frozen BK118.out 4
                          have hfz65_5 := blk_frozen BK118.out 5
                          have hfz65_6 := blk_frozen BK118.out 6
                          have hfz65_7 := blk_frozen BK118.out 7
                          have hfz65_8 := blk_frozen BK118.out 8
                          have hfz65_9 := blk_frozen BK118.out 9
                          have hfz65_10 := blk_frozen BK118.out 10
                          have hfz65_11 := blk_frozen BK118.out 11
                          go_upto_region 16 with (fail)
                          go_cut [82] (fun v82 wc => ∃ (kq : Nat) (x82_59 : Bool), v82 = .bool x82_59 ∧ Aside0 (apply_wrong.j2 kq t120 x82_59 a0_0 a0_1 a0_2 a0_3 a0_4 a0_5 a0_6 a0_7 a0_8 a0_9 a0_10 a0_11 a2_0 a2_1 a2_2 a2_3 = some (r1, r2)) ∧ Aside0 (kq ≤ kj15) ∧ Aside0 (Kd.R Kd.string 9 wc w.heap.size (fun _ => True) v122 t120) ∧ Aside0 (wc.heap[gb118]? = some (.cells #[.string a0_0, .int .i64 a0_1, .int .u32 a0_2, .int .u32 a0_3, .int .u32 a0_4, .int .i64 a0_5, .int .i32 a0_6, .string a0_7, .string a0_8, .string a0_9, .int .i64 a0_10, .int .u8 a0_11] 26 (0, 0))) ∧ Aside0 (wc.heap[gb119]? = some (.cells #[.int .i64 a2_0, .bool a2_1, .int .u32 a2_2, .bool a2_3] 29 (0, 0))) ∧ Aside0 (wc.heap[gb129]? = some (.cells #[.int .u32 t124, .int .u32 t125, .int .u32 t126, .int .i64 t127, .int .i32 t128] 24 (0, 0))) ∧ Aside0 (Below w.heap.size w wc))
                          case first =>
                            have H := HC60.out
                            clear HC60
                            by_cases c66 : a0_9.toList = ([] : List UInt8)
                            · rw [if_pos c66] at H
                              have c66b0 : (a0_9.toList == ([] : List UInt8)) = true := beq_iff_eq.mpr c66
                              have c66b1 : (a0_9.toList != ([] : List UInt8)) = false := bne_eq_false_iff_eq.mpr c66
                              clear c66
                              (first | rw [c66b0] | rw [c66be] | (simp only [i64_w, i32_w]; rw [c66b0]) | skip)
                              have H' := Aside0.mk H
                              clear H
                              have hnb67 := NB118_119.out
                              have hnc67 := NB119_118.out
                              have hnb68 := NB118_129.out
                              have hnc68 := NB129_118.out
                              have hcz69_0 : wc.cell? ⟨gb118, 0, none⟩ = some (.string a0_0) := (blk_cell BK118.out 0).trans rfl
                              have hcz69_1 : wc.cell? ⟨gb118, 1, none⟩ = some (.int .i64 a0_1) := (blk_cell BK118.out 1).trans rfl
                              have hcz69_2 : wc.cell? ⟨gb118, 2, none⟩ = some (.int .u32 a0_2) := (blk_cell BK118.out 2).trans rfl
                              have hcz69_3 : wc.cell? ⟨gb118, 3, none⟩ = some (.int .u32 a0_3) := (blk_cell BK118.out 3).trans rfl
                              have hcz69_4 : wc.cell? ⟨gb118, 4, none⟩ = some (.int .u32 a0_4) := (blk_cell BK118.out 4).trans rfl
                              have hcz69_5 : wc.cell? ⟨gb118, 5, none⟩ = some (.int .i64 a0_5) := (blk_cell BK118.out 5).trans rfl
                              have hcz69_6 : wc.cell? ⟨gb118, 6, none⟩ = some (.int .i32 a0_6) := (blk_cell BK118.out 6).trans rfl
                              have hcz69_7 : wc.cell? ⟨gb118, 7, none⟩ = some (.string a0_7) := (blk_cell BK118.out 7).trans rfl
                              have hcz69_8 : wc.cell? ⟨gb118, 8, none⟩ = some (.string a0_8) := (blk_cell BK118.out 8).trans rfl
                              have hcz69_9 : wc.cell? ⟨gb118, 9, none⟩ = some (.string a0_9) := (blk_cell BK118.out 9).trans rfl
                              have hcz69_10 : wc.cell? ⟨gb118, 10, none⟩ = some (.int .i64 a0_10) := (blk_cell BK118.out 10).trans rfl
                              have hcz69_11 : wc.cell? ⟨gb118, 11, none⟩ = some (.int .u8 a0_11) := (blk_cell BK118.out 11).trans rfl
                              have hfz69_0 := blk_frozen BK118.out 0
                              have hfz69_1 := blk_frozen BK118.out 1
                              have hfz69_2 := blk_frozen BK118.out 2
                              have hfz69_3 := blk_frozen BK118.out 3
                              have hfz69_4 := blk_frozen BK118.out 4
                              have hfz69_5 := blk_frozen BK118.out 5
                              have hfz69_6 := blk_frozen BK118.out 6
                              have hfz69_7 := blk_frozen BK118.out 7
                              have hfz69_8 := blk_frozen BK118.out 8
                              have hfz69_9 := blk_frozen BK118.out 9
                              have hfz69_10 := blk_frozen BK118.out 10
                              have hfz69_11 := blk_frozen BK118.out 11
                              go_wp2
                              go_meet
                              case rel => exact ⟨_, (true), (by first | rfl | (simp; done) | (simp [*]; done)), H', ⟨by have := HJ3.out; have := HJ15.out; first | omega | exact Nat.le_refl _⟩, ⟨by (with_reducible repeat (first | apply Kd.R_alloc | apply Kd.R_drewN | apply Kd.R_drew)); exact HO_8.out⟩, ⟨by (with_reducible repeat (first | refine blk_drewN ?_ _ | refine blk_drew ?_ | refine blk_alloc ?_ _)); exact BK118.out⟩, ⟨by (with_reducible repeat (first | refine blk_drewN ?_ _ | refine blk_drew ?_ | refine blk_alloc ?_ _)); exact BK119.out⟩, ⟨by (with_reducible repeat (first | refine blk_drewN ?_ _ | refine blk_drew ?_ | refine blk_alloc ?_ _)); exact BK129.out⟩, ⟨by repeat (first | (with_reducible first | exact HB.out | apply below_alloc | apply pw_below_drewN | apply below_drew1 | refine below_set ?_ GE118.out | refine below_set ?_ GE119.out | refine below_set ?_ GE129.out) | exact HB.out)⟩⟩
                            · rw [if_neg c66] at H
                              have c66b0 : (a0_9.toList == ([] : List UInt8)) = false := beq_eq_false_iff_ne.mpr c66
                              have c66b1 : (a0_9.toList != ([] : List UInt8)) = true := bne_iff_ne.mpr c66
                              (first | rw [c66b0] | rw [c66be] | (simp only [i64_w, i32_w]; rw [c66b0]) | skip)
                              by_cases c70 : (a0_9.size : Int) > 4096
                              · rw [if_pos c70] at H
                                have c70b0 : decide (4096 < (a0_9.size : Int)) = true := decide_eq_true c70
                                have c70b1 : decide (4096 < a0_9.size) = true := decide_eq_true (by omega)
                                clear c70
                                have H' := Aside0.mk H
                                clear H
                                have hnb71 := NB118_119.out
                                have hnc71 := NB119_118.out
                                have hnb72 := NB118_129.out
                                have hnc72 := NB129_118.out
                                have hcz73_0 : wc.cell? ⟨gb118, 0, none⟩ = some (.string a0_0) := (blk_cell BK118.out 0).trans rfl
                                have hcz73_1 : wc.cell? ⟨gb118, 1, none⟩ = some (.int .i64 a0_1) := (blk_cell BK118.out 1).trans rfl
                                have hcz73_2 : wc.cell? ⟨gb118, 2, none⟩ = some (.int .u32 a0_2) := (blk_cell BK118.out 2).trans rfl
                                have hcz73_3 : wc.cell? ⟨gb118, 3, none⟩ = some (.int .u32 a0_3) := (blk_cell BK118.out 3).trans rfl
                                have hcz73_4 : wc.cell? ⟨gb118, 4, none⟩ = some (.int .u32 a0_4) := (blk_cell BK118.out 4).trans rfl
                                have hcz73_5 : wc.cell? ⟨gb118, 5, none⟩ = some (.int .i64 a0_5) := (blk_cell BK118.out 5).trans rfl
                                have hcz73_6 : wc.cell? ⟨gb118, 6, none⟩ = some (.int .i32 a0_6) := (blk_cell BK118.out 6).trans rfl
                                have hcz73_7 : wc.cell? ⟨gb118, 7, none⟩ = some (.string a0_7) := (blk_cell BK118.out 7).trans rfl
                                have hcz73_8 : wc.cell? ⟨gb118, 8, none⟩ = some (.string a0_8) := (blk_cell BK118.out 8).trans rfl
                                have hcz73_9 : wc.cell? ⟨gb118, 9, none⟩ = some (.string a0_9) := (blk_cell BK118.out 9).trans rfl
                                have hcz73_10 : wc.cell? ⟨gb118, 10, none⟩ = some (.int .i64 a0_10) := (blk_cell BK118.out 10).trans rfl
                                have hcz73_11 : wc.cell? ⟨gb118, 11, none⟩ = some (.int .u8 a0_11) := (blk_cell BK118.out 11).trans rfl
                                have hfz73_0 := blk_frozen BK118.out 0
                                have hfz73_1 := blk_frozen BK118.out 1
                                have hfz73_2 := blk_frozen BK118.out 2
                                have hfz73_3 := blk_frozen BK118.out 3
                                have hfz73_4 := blk_frozen BK118.out 4
                                have hfz73_5 := blk_frozen BK118.out 5
                                have hfz73_6 := blk_frozen BK118.out 6
                                have hfz73_7 := blk_frozen BK118.out 7
                                have hfz73_8 := blk_frozen BK118.out 8
                                have hfz73_9 := blk_frozen BK118.out 9
                                have hfz73_10 := blk_frozen BK118.out 10
                                have hfz73_11 := blk_frozen BK118.out 11
                                go_wp2
                                go_meet
                                case rel => exact ⟨_, (true), (by first | rfl | (simp; done) | (simp [*]; done)), H', ⟨by have := HJ3.out; have := HJ15.out; first | omega | exact Nat.le_refl _⟩, ⟨by (with_reducible repeat (first | apply Kd.R_alloc | apply Kd.R_drewN | apply Kd.R_drew)); exact HO_8.out⟩, ⟨by (with_reducible repeat (first | refine blk_drewN ?_ _ | refine blk_drew ?_ | refine blk_alloc ?_ _)); exact BK118.out⟩, ⟨by (with_reducible repeat (first | refine blk_drewN ?_ _ | refine blk_drew ?_ | refine blk_alloc ?_ _)); exact BK119.out⟩, ⟨by (with_reducible repeat (first | refine blk_drewN ?_ _ | refine blk_drew ?_ | refine blk_alloc ?_ _)); exact BK129.out⟩, ⟨by repeat (first | (with_reducible first | exact HB.out | apply below_alloc | apply pw_below_drewN | apply below_drew1 | refine below_set ?_ GE118.out | refine below_set ?_ GE119.out | refine below_set ?_ GE129.out) | exact HB.out)⟩⟩
                              · rw [if_neg c70] at H
                                have c70b0 : decide (4096 < (a0_9.size : Int)) = false := decide_eq_false c70
                                have c70b1 : decide (4096 < a0_9.size) = false := decide_eq_false (by omega)
                                clear c70
                                replace H := Option.bind_eq_some_iff.mp H
                                obtain ⟨t130, A740, H⟩ := H
                                replace H : (apply_wrong.j2 kj15 t120 (decide (t130 ≥ 0)) a0_0 a0_1 a0_2 a0_3 a0_4 a0_5 a0_6 a0_7 a0_8 a0_9 a0_10 a0_11 a2_0 a2_1 a2_2 a2_3) = some (r1, r2) := H
                                have A74 := Aside0.mk A740
                                clear A740
                                have H' := Aside0.mk H
                                clear H
                                have hnb75 := NB118_119.out
                                have hnc75 := NB119_118.out
                                have hnb76 := NB118_129.out
                                have hnc76 := NB129_118.out
                                have hcz77_0 : wc.cell? ⟨gb118, 0, none⟩ = some (.string a0_0) := (blk_cell BK118.out 0).trans rfl
                                have hcz77_1 : wc.cell? ⟨gb118, 1, none⟩ = some (.int .i64 a0_1) := (blk_cell BK118.out 1).trans rfl
                                have hcz77_2 : wc.cell? ⟨gb118, 2, none⟩ = some (.int .u32 a0_2) := (blk_cell BK118.out 2).trans rfl
                                have hcz77_3 : wc.cell? ⟨gb118, 3, none⟩ = some (.int .u32 a0_3) := (blk_cell BK118.out 3).trans rfl
                                have hcz77_4 : wc.cell? ⟨gb118, 4, none⟩ = some (.int .u32 a0_4) := (blk_cell BK118.out 4).trans rfl
                                have hcz77_5 : wc.cell? ⟨gb118, 5, none⟩ = some (.int .i64 a0_5) := (blk_cell BK118.out 5).trans rfl
                                have hcz77_6 : wc.cell? ⟨gb118, 6, none⟩ = some (.int .i32 a0_6) := (blk_cell BK118.out 6).trans rfl
                                have hcz77_7 : wc.cell? ⟨gb118, 7, none⟩ = some (.string a0_7) := (blk_cell BK118.out 7).trans rfl
                                have hcz77_8 : wc.cell? ⟨gb118, 8, none⟩ = some (.string a0_8) := (blk_cell BK118.out 8).trans rfl
                                have hcz77_9 : wc.cell? ⟨gb118, 9, none⟩ = some (.string a0_9) := (blk_cell BK118.out 9).trans rfl
                                have hcz77_10 : wc.cell? ⟨gb118, 10, none⟩ = some (.int .i64 a0_10) := (blk_cell BK118.out 10).trans rfl
                                have hcz77_11 : wc.cell? ⟨gb118, 11, none⟩ = some (.int .u8 a0_11) := (blk_cell BK118.out 11).trans rfl
                                have hfz77_0 := blk_frozen BK118.out 0
                                have hfz77_1 := blk_frozen BK118.out 1
                                have hfz77_2 := blk_frozen BK118.out 2
                                have hfz77_3 := blk_frozen BK118.out 3
                                have hfz77_4 := blk_frozen BK118.out 4
                                have hfz77_5 := blk_frozen BK118.out 5
                                have hfz77_6 := blk_frozen BK118.out 6
                                have hfz77_7 := blk_frozen BK118.out 7
                                have hfz77_8 := blk_frozen BK118.out 8
                                have hfz77_9 := blk_frozen BK118.out 9
                                have hfz77_10 := blk_frozen BK118.out 10
                                have hfz77_11 := blk_frozen BK118.out 11
                                go_wp2_with (first | (go_at_call 16; (with_reducible refine (strings_IndexByte.calls a0_9 0 t130 _ ?side1 A74.out).mono ?_); (case side1 => exact Gv_below HG.out (by repeat (first | (with_reducible first | exact HB.out | apply below_alloc | apply pw_below_drewN | apply below_drew1 | refine below_set ?_ GE118.out | refine below_set ?_ GE119.out | refine below_set ?_ GE129.out) | exact HB.out))); rintro e w' ⟨rfl, ⟨nd, rfl⟩⟩))
                                go_meet
                                case rel => exact ⟨_, (decide (t130 ≥ 0)), (by first | rfl | (simp; done) | (simp [*]; done)), H', ⟨by have := HJ3.out; have := HJ15.out; first | omega | exact Nat.le_refl _⟩, ⟨by (with_reducible repeat (first | apply Kd.R_alloc | apply Kd.R_drewN | apply Kd.R_drew)); exact HO_8.out⟩, ⟨by (with_reducible repeat (first | refine blk_drewN ?_ _ | refine blk_drew ?_ | refine blk_alloc ?_ _)); exact BK118.out⟩, ⟨by (with_reducible repeat (first | refine blk_drewN ?_ _ | refine blk_drew ?_ | refine blk_alloc ?_ _)); exact BK119.out⟩, ⟨by (with_reducible repeat (first | refine blk_drewN ?_ _ | refine blk_drew ?_ | refine blk_alloc ?_ _)); exact BK129.out⟩, ⟨by repeat (first | (with_reducible first | exact HB.out | apply below_alloc | apply pw_below_drewN | apply below_drew1 | refine below_set ?_ GE118.out | refine below_set ?_ GE119.out | refine below_set ?_ GE129.out) | exact HB.out)⟩⟩
                          case rest =>
                            clear HC60
                            try clear c1
                            try clear c2
                            try clear p2
                            try clear c3
                            try clear c4
                            try clear c5
                            try clear c6
                            try clear c7
                            try clear c7b0
                            try clear c8
                            try clear c10
                            try clear c12
                            try clear c14
                            try clear c15
                            try clear c15b0
                            try clear c15b1
                            try clear c17
                            try clear c24
                            try clear c25
                            try clear c27
                            try clear c27b0
                            try clear c28
                            try clear c29
                            try clear c31
                            try clear c32
                            try clear c34
                            try clear c35
                            try clear c35b0
                            try clear c36
                            try clear c37
                            try clear c39
                            try clear c39b0
                            try clear c40
                            try clear c41
                            try clear c43
                            try clear c43b0
                            try clear c44
                            try clear c45
                            try clear c47
                            try clear c47b0
                            try clear c47b1
                            try clear c48
                            try clear c48b0
                            try clear c48b1
                            try clear c49
                            try clear c50
                            try clear c52
                            try clear c54
                            try clear c55
                            try clear c57
                            try clear c59
                            try clear c59b0
                            try clear c59b1
                            try clear c61
                            try clear c62
                            try clear c64
                            try clear c66
                            try clear c66b0
                            try clear c66b1
                            try clear c67
                            try clear c68
                            try clear c70
                            try clear c70b0
                            try clear c70b1
                            try clear c71
                            try clear c72
                            try clear c75
                            try clear c76
                            try clear hcz11_0
                            try clear hcz11_1
                            try clear hcz11_2
                            try clear hcz11_3
                            try clear hcz18_0
                            try clear hcz18_1
                            try clear hcz18_10
                            try clear hcz18_11
                            try clear hcz18_2
                            try clear hcz18_3
                            try clear hcz18_4
                            try clear hcz18_5
                            try clear hcz18_6
                            try clear hcz18_7
                            try clear hcz18_8
                            try clear hcz18_9
                            try clear hcz20_0
                            try clear hcz20_1
                            try clear hcz20_10
                            try clear hcz20_11
                            try clear hcz20_2
                            try clear hcz20_3
                            try clear hcz20_4
                            try clear hcz20_5
                            try clear hcz20_6
                            try clear hcz20_7
                            try clear hcz20_8
                            try clear hcz20_9
                            try clear hcz21_0
                            try clear hcz21_1
                            try clear hcz21_2
                            try clear hcz21_3
                            try clear hcz26_0
                            try clear hcz26_1
                            try clear hcz26_2
                            try clear hcz26_3
                            try clear hcz26_4
                            try clear hcz30_0
                            try clear hcz30_1
                            try clear hcz30_10
                            try clear hcz30_11
                            try clear hcz30_2
                            try clear hcz30_3
                            try clear hcz30_4
                            try clear hcz30_5
                            try clear hcz30_6
                            try clear hcz30_7
                            try clear hcz30_8
                            try clear hcz30_9
                            try clear hcz33_0
                            try clear hcz33_1
                            try clear hcz33_10
                            try clear hcz33_11
                            try clear hcz33_2
                            try clear hcz33_3
                            try clear hcz33_4
                            try clear hcz33_5
                            try clear hcz33_6
                            try clear hcz33_7
                            try clear hcz33_8
                            try clear hcz33_9
                            try clear hcz38_0
                            try clear hcz38_1
                            try clear hcz38_2
                            try clear hcz38_3
                            try clear hcz38_4
                            try clear hcz42_0
                            try clear hcz42_1
                            try clear hcz42_2
                            try clear hcz42_3
                            try clear hcz42_4
                            try clear hcz46_0
                            try clear hcz46_1
                            try clear hcz46_2
                            try clear hcz46_3
                            try clear hcz46_4
                            try clear hcz51_0
                            try clear hcz51_1
                            try clear hcz51_2
                            try clear hcz51_3
                            try clear hcz51_4
                            try clear hcz53_0
                            try clear hcz53_1
                            try clear hcz53_10
                            try clear hcz53_11
                            try clear hcz53_2
                            try clear hcz53_3
                            try clear hcz53_4
                            try clear hcz53_5
                            try clear hcz53_6
                            try clear hcz53_7
                            try clear hcz53_8
                            try clear hcz53_9
                            try clear hcz56_0
                            try clear hcz56_1
                            try clear hcz56_2
                            try clear hcz56_3
                            try clear hcz56_4
                            try clear hcz58_0
                            try clear hcz58_1
                            try clear hcz58_10
                            try clear hcz58_11
                            try clear hcz58_2
                            try clear hcz58_3
                            try clear hcz58_4
                            try clear hcz58_5
                            try clear hcz58_6
                            try clear hcz58_7
                            try clear hcz58_8
                            try clear hcz58_9
                            try clear hcz63_0
                            try clear hcz63_1
                            try clear hcz63_2
                            try clear hcz63_3
                            try clear hcz63_4
                            try clear hcz65_0
                            try clear hcz65_1
                            try clear hcz65_10
                            try clear hcz65_11
                            try clear hcz65_2
                            try clear hcz65_3
                            try clear hcz65_4
                            try clear hcz65_5
                            try clear hcz65_6
                            try clear hcz65_7
                            try clear hcz65_8
                            try clear hcz65_9
                            try clear hcz69_0
                            try clear hcz69_1
                            try clear hcz69_10
                            try clear hcz69_11
                            try clear hcz69_2
                            try clear hcz69_3
                            try clear hcz69_4
                            try clear hcz69_5
                            try clear hcz69_6
                            try clear hcz69_7
                            try clear hcz69_8
                            try clear hcz69_9
                            try clear hcz73_0
                            try clear hcz73_1
                            try clear hcz73_10
                            try clear hcz73_11
                            try clear hcz73_2
                            try clear hcz73_3
                            try clear hcz73_4
                            try clear hcz73_5
                            try clear hcz73_6
                            try clear hcz73_7
                            try clear hcz73_8
                            try clear hcz73_9
                            try clear hcz77_0
                            try clear hcz77_1
                            try clear hcz77_10
                            try clear hcz77_11
                            try clear hcz77_2
                            try clear hcz77_3
                            try clear hcz77_4
                            try clear hcz77_5
                            try clear hcz77_6
                            try clear hcz77_7
                            try clear hcz77_8
                            try clear hcz77_9
                            try clear hcz9_0
                            try clear hcz9_1
                            try clear hcz9_2
                            try clear hcz9_3
                            try clear hfz11_0
                            try clear hfz11_1
                            try clear hfz11_2
                            try clear hfz11_3
                            try clear hfz18_0
                            try clear hfz18_1
                            try clear hfz18_10
                            try clear hfz18_11
                            try clear hfz18_2
                            try clear hfz18_3
                            try clear hfz18_4
                            try clear hfz18_5
                            try clear hfz18_6
                            try clear hfz18_7
                            try clear hfz18_8
                            try clear hfz18_9
                            try clear hfz20_0
                            try clear hfz20_1
                            try clear hfz20_10
                            try clear hfz20_11
                            try clear hfz20_2
                            try clear hfz20_3
                            try clear hfz20_4
                            try clear hfz20_5
                            try clear hfz20_6
                            try clear hfz20_7
                            try clear hfz20_8
                            try clear hfz20_9
                            try clear hfz21_0
                            try clear hfz21_1
                            try clear hfz21_2
                            try clear hfz21_3
                            try clear hfz26_0
                            try clear hfz26_1
                            try clear hfz26_2
                            try clear hfz26_3
                            try clear hfz26_4
                            try clear hfz30_0
                            try clear hfz30_1
                            try clear hfz30_10
                            try clear hfz30_11
                            try clear hfz30_2
                            try clear hfz30_3
                            try clear hfz30_4
                            try clear hfz30_5
                            try clear hfz30_6
                            try clear hfz30_7
                            try clear hfz30_8
                            try clear hfz30_9
                            try clear hfz33_0
                            try clear hfz33_1
                            try clear hfz33_10
                            try clear hfz33_11
                            try clear hfz33_2
                            try clear hfz33_3
                            try clear hfz33_4
                            try clear hfz33_5
                            try clear hfz33_6
                            try clear hfz33_7
                            try clear hfz33_8
                            try clear hfz33_9
                            try clear hfz38_0
                            try clear hfz38_1
                            try clear hfz38_2
                            try clear hfz38_3
                            try clear hfz38_4
                            try clear hfz42_0
                            try clear hfz42_1
                            try clear hfz42_2
                            try clear hfz42_3
                            try clear hfz42_4
                            try clear hfz46_0
                            try clear hfz46_1
                            try clear hfz46_2
                            try clear hfz46_3
                            try clear hfz46_4
                            try clear hfz51_0
                            try clear hfz51_1
                            try clear hfz51_2
                            try clear hfz51_3
                            try clear hfz51_4
                            try clear hfz53_0
                            try clear hfz53_1
                            try clear hfz53_10
                            try clear hfz53_11
                            try clear hfz53_2
                            try clear hfz53_3
                            try clear hfz53_4
                            try clear hfz53_5
                            try clear hfz53_6
                            try clear hfz53_7
                            try clear hfz53_8
                            try clear hfz53_9
                            try clear hfz56_0
                            try clear hfz56_1
                            try clear hfz56_2
                            try clear hfz56_3
                            try clear hfz56_4
                            try clear hfz58_0
                            try clear hfz58_1
                            try clear hfz58_10
                            try clear hfz58_11
                            try clear hfz58_2
                            try clear hfz58_3
                            try clear hfz58_4
                            try clear hfz58_5
                            try clear hfz58_6
                            try clear hfz58_7
                            try clear hfz58_8
                            try clear hfz58_9
                            try clear hfz63_0
                            try clear hfz63_1
                            try clear hfz63_2
                            try clear hfz63_3
                            try clear hfz63_4
                            try clear hfz65_0
                            try clear hfz65_1
                            try clear hfz65_10
                            try clear hfz65_11
                            try clear hfz65_2
                            try clear hfz65_3
                            try clear hfz65_4
                            try clear hfz65_5
                            try clear hfz65_6
                            try clear hfz65_7
                            try clear hfz65_8
                            try clear hfz65_9
                            try clear hfz69_0
                            try clear hfz69_1
                            try clear hfz69_10
                            try clear hfz69_11
                            try clear hfz69_2
                            try clear hfz69_3
                            try clear hfz69_4
                            try clear hfz69_5
                            try clear hfz69_6
                            try clear hfz69_7
                            try clear hfz69_8
                            try clear hfz69_9
                            try clear hfz73_0
                            try clear hfz73_1
                            try clear hfz73_10
                            try clear hfz73_11
                            try clear hfz73_2
                            try clear hfz73_3
                            try clear hfz73_4
                            try clear hfz73_5
                            try clear hfz73_6
                            try clear hfz73_7
                            try clear hfz73_8
                            try clear hfz73_9
                            try clear hfz77_0
                            try clear hfz77_1
                            try clear hfz77_10
                            try clear hfz77_11
                            try clear hfz77_2
                            try clear hfz77_3
                            try clear hfz77_4
                            try clear hfz77_5
                            try clear hfz77_6
                            try clear hfz77_7
                            try clear hfz77_8
                            try clear hfz77_9
                            try clear hfz9_0
                            try clear hfz9_1
                            try clear hfz9_2
                            try clear hfz9_3
                            try clear p2
                            obtain ⟨kq, x82_59, rfl, HA, HJ59, HO_8, BK118, BK119, BK129, HB⟩ := hcut
                            cases kq with
                            | zero => exact absurd HA.out (by simp [apply_wrong.j2])
                            | succ kj59 =>
                              have H := HA.out
                              clear HA
                              simp only [apply_wrong.j2] at H
                              by_cases c78 : x82_59 = true
                              · subst c78
                                have H1 : (some (([] : List ByteArray), 107)) = some (r1, r2) := by rw [if_pos rfl] at H; exact H
                                clear H
                                have H := H1
                                clear H1
                                simp only [Option.some.injEq, Prod.mk.injEq] at H
                                obtain ⟨rfl, rfl⟩ := H
                                go_wp2
                                go_ret2
                                exact ⟨_, by first | rfl | (simp [errW_none, errW_some] <;> rfl) | (simp [*, errW_none, errW_some] <;> rfl), by first | exact Kd.R_nil _ _ _ _ _ | exact Kd.N_nil _ _ _ _ _ | exact Kd.V_nil _ _ _ _ _ | exact Kd.Q_nil _ _ _ _ _ | exact Kd.S_nil _ _ _ _ _, by repeat (first | (with_reducible first | exact HB.out | apply below_alloc | apply pw_below_drewN | apply below_drew1 | refine below_set ?_ GE118.out | refine below_set ?_ GE119.out | refine below_set ?_ GE129.out) | exact HB.out)⟩
                              · replace c78 := Bool.eq_false_iff.mpr c78
                                subst c78
                                have H1 : (if a2_3 = true then (some (t120, 0)) else (if 0 ≤ (wrap64 ((t120.length : Int) - 1)) then (if (wrap64 ((t120.length : Int) - 1)) ≤ (t120.length : Int) then ((path_Leaves.f kj59 (t120.take ((wrap64 ((t120.length : Int) - 1)) : Int).toNat) a0_9).bind fun t135 => (if t135 = true then (some (([] : List ByteArray), 190)) else (some (t120, 0)))) else (none)) else (none))) = some (r1, r2) := by rw [if_neg (show ¬ (false = true) by decide)] at H; exact H
                                clear H
                                have H := H1
                                clear H1
                                by_cases c79 : a2_3 = true
                                · subst c79
                                  have H1 : (some (t120, 0)) = some (r1, r2) := by rw [if_pos rfl] at H; exact H
                                  clear H
                                  have H := H1
                                  clear H1
                                  simp only [Option.some.injEq, Prod.mk.injEq] at H
                                  obtain ⟨rfl, rfl⟩ := H
                                  try go_wp2
                                  have n0_ := Aside0.mk (Kd.R_drew HO_8.out)
                                  have n1_ := Aside0.mk (blk_drew BK118.out)
                                  have n2_ := Aside0.mk (blk_drew BK119.out)
                                  have n3_ := Aside0.mk (blk_drew BK129.out)
                                  have n4_ := Aside0.mk (below_drew1 HB.out)
                                  clear HO_8
                                  clear BK118
                                  clear BK119
                                  clear BK129
                                  clear HB
                                  have HO_8 := n0_
                                  have BK118 := n1_
                                  have BK119 := n2_
                                  have BK129 := n3_
                                  have HB := n4_
                                  clear n0_ n1_ n2_ n3_ n4_
                                  refine start_ (n := 13) (S := fun w' => w'.cell? ⟨gb119, 0, none⟩ = some (.int .i64 a2_0) ∧ w'.cell? ⟨gb119, 1, none⟩ = some (.bool a2_1) ∧ w'.cell? ⟨gb119, 2, none⟩ = some (.int .u32 a2_2) ∧ w'.cell? ⟨gb119, 3, none⟩ = some (.bool true)) (ds := []) #[false, false, false, false, false, false, false, false, false, false, false, false, false] (by kernel_rfl) rfl rfl ⟨(blk_cell BK119.out 0).trans rfl, (blk_cell BK119.out 1).trans rfl, (blk_cell BK119.out 2).trans rfl, (blk_cell BK119.out 3).trans rfl⟩ (fun hHeld => ?_); refine with_tabW apply_wrong.tab18 apply_wrong.bits18 (fun HT_ HW_ => ?_)
                                  generalize wc.drew = w80 at HO_8 BK118 BK119 BK129 HB hHeld ⊢
                                  refine pure_ (i := 0) (N := some 83) (v := ?_) (a' := ?_) #[true, false, false, false, false, false, false, false, false, false, false, false, false] rfl rfl (any_of HT_.out (by kernel_rfl)) (fun _ _ _ h => h) (Or.inl ⟨by rfl, ?_⟩) ?_ ?_
                                  rotate_left
                                  · intro w'
                                    go_simp
                                    with_reducible rfl
                                  rotate_left
                                  · simp only [Act.put, List.setIfInBounds_toArray, List.set_cons_zero, List.set_cons_succ, i64_w, i32_w]
                                    rfl
                                  refine take_ (i := 1) (N := some 84) (v := ?_) (a' := ?_) #[true, true, false, false, false, false, false, false, false, false, false, false, false] rfl rfl (take_ofW HT_.out HW_.out (by kernel_rfl)) (fun _ _ _ h => h) (Or.inl ⟨by rfl, ?_⟩) hHeld ?_ ?_
                                  rotate_left
                                  · rintro w' ⟨s0, s1, s2, s3⟩
                                    go_simp
                                    with_reducible rfl
                                  rotate_left
                                  · simp only [Act.put, List.setIfInBounds_toArray, List.set_cons_zero, List.set_cons_succ, i64_w, i32_w]
                                    rfl
                                  refine pure_ (i := 2) (N := some 85) (v := ?_) (a' := ?_) #[true, true, true, false, false, false, false, false, false, false, false, false, false] rfl rfl (any_of HT_.out (by kernel_rfl)) (fun _ _ _ h => h) (Or.inl ⟨by rfl, ?_⟩) ?_ ?_
                                  rotate_left
                                  · intro w'
                                    go_simp
                                    with_reducible rfl
                                  rotate_left
                                  · simp only [Act.put, List.setIfInBounds_toArray, List.set_cons_zero, List.set_cons_succ, i64_w, i32_w]
                                    rfl
                                  refine pure_ (i := 3) (N := some 86) (v := ?_) (a' := ?_) #[true, true, true, true, false, false, false, false, false, false, false, false, false] rfl rfl (any_of HT_.out (by kernel_rfl)) (fun _ _ _ h => h) (Or.inl ⟨by rfl, ?_⟩) ?_ ?_
                                  rotate_left
                                  · intro w'
                                    go_simp
                                    with_reducible rfl
                                  rotate_left
                                  · simp only [Act.put, List.setIfInBounds_toArray, List.set_cons_zero, List.set_cons_succ, i64_w, i32_w]
                                    rfl
                                  refine pure_ (i := 4) (N := some 87) (v := undef) (a' := ?_) #[true, true, true, true, true, false, false, false, false, false, false, false, false] rfl rfl (any_of HT_.out (by kernel_rfl)) (fun _ _ _ h => h) (Or.inr ⟨by rfl, rfl⟩) ?_ ?_
                                  rotate_left
                                  · simp only [Act.put, List.setIfInBounds_toArray, List.set_cons_zero, List.set_cons_succ, i64_w, i32_w]
                                    rfl
                                  refine pure_ (i := 5) (N := some 88) (v := undef) (a' := ?_) #[true, true, true, true, true, true, false, false, false, false, false, false, false] rfl rfl (any_of HT_.out (by kernel_rfl)) (fun _ _ _ h => h) (Or.inr ⟨by rfl, rfl⟩) ?_ ?_
                                  rotate_left
                                  · simp only [Act.put, List.setIfInBounds_toArray, List.set_cons_zero, List.set_cons_succ, i64_w, i32_w]
                                    rfl
                                  refine pure_ (i := 6) (N := some 89) (v := undef) (a' := ?_) #[true, true, true, true, true, true, true, false, false, false, false, false, false] rfl rfl (any_of HT_.out (by kernel_rfl)) (fun _ _ _ h => h) (Or.inr ⟨by rfl, rfl⟩) ?_ ?_
                                  rotate_left
                                  · simp only [Act.put, List.setIfInBounds_toArray, List.set_cons_zero, List.set_cons_succ, i64_w, i32_w]
                                    rfl
                                  refine pure_ (i := 7) (N := some 90) (v := undef) (a' := ?_) #[true, true, true, true, true, true, true, true, false, false, false, false, false] rfl rfl (any_of HT_.out (by kernel_rfl)) (fun _ _ _ h => h) (Or.inr ⟨by rfl, rfl⟩) ?_ ?_
                                  rotate_left
                                  · simp only [Act.put, List.setIfInBounds_toArray, List.set_cons_zero, List.set_cons_succ, i64_w, i32_w]
                                    rfl
                                  refine pure_ (i := 8) (N := some 91) (v := undef) (a' := ?_) #[true, true, true, true, true, true, true, true, true, false, false, false, false] rfl rfl (any_of HT_.out (by kernel_rfl)) (fun _ _ _ h => h) (Or.inr ⟨by rfl, rfl⟩) ?_ ?_
                                  rotate_left
                                  · simp only [Act.put, List.setIfInBounds_toArray, List.set_cons_zero, List.set_cons_succ, i64_w, i32_w]
                                    rfl
                                  refine pure_ (i := 9) (N := some 92) (v := undef) (a' := ?_) #[true, true, true, true, true, true, true, true, true, true, false, false, false] rfl rfl (any_of HT_.out (by kernel_rfl)) (fun _ _ _ h => h) (Or.inr ⟨by rfl, rfl⟩) ?_ ?_
                                  rotate_left
                                  · simp only [Act.put, List.setIfInBounds_toArray, List.set_cons_zero, List.set_cons_succ, i64_w, i32_w]
                                    rfl
                                  refine pure_ (i := 10) (N := some 93) (v := undef) (a' := ?_) #[true, true, true, true, true, true, true, true, true, true, true, false, false] rfl rfl (any_of HT_.out (by kernel_rfl)) (fun _ _ _ h => h) (Or.inr ⟨by rfl, rfl⟩) ?_ ?_
                                  rotate_left
                                  · simp only [Act.put, List.setIfInBounds_toArray, List.set_cons_zero, List.set_cons_succ, i64_w, i32_w]
                                    rfl
                                  refine pure_ (i := 11) (N := some 94) (v := undef) (a' := ?_) #[true, true, true, true, true, true, true, true, true, true, true, true, false] rfl rfl (any_of HT_.out (by kernel_rfl)) (fun _ _ _ h => h) (Or.inr ⟨by rfl, rfl⟩) ?_ ?_
                                  rotate_left
                                  · simp only [Act.put, List.setIfInBounds_toArray, List.set_cons_zero, List.set_cons_succ, i64_w, i32_w]
                                    rfl
                                  refine pure_ (i := 12) (N := some 95) (v := ?_) (a' := ?_) #[true, true, true, true, true, true, true, true, true, true, true, true, true] rfl rfl (any_of HT_.out (by kernel_rfl)) (fun _ _ _ h => h) (Or.inl ⟨by rfl, ?_⟩) ?_ ?_
                                  rotate_left
                                  · intro w'
                                    go_simp
                                    with_reducible rfl
                                  rotate_left
                                  · simp only [Act.put, List.setIfInBounds_toArray, List.set_cons_zero, List.set_cons_succ, i64_w, i32_w]
                                    rfl
                                  refine done_ (done_of HT_.out (by kernel_rfl)) ?_
                                  try go_wp2
                                  go_ret2
                                  exact ⟨_, by first | rfl | (simp [errW_none, errW_some] <;> rfl) | (simp [*, errW_none, errW_some] <;> rfl), by (with_reducible repeat (first | apply Kd.R_alloc | apply Kd.R_drewN | apply Kd.R_drew)); exact HO_8.out, by repeat (first | (with_reducible first | exact HB.out | apply below_alloc | apply pw_below_drewN | apply below_drew1 | refine below_set ?_ GE118.out | refine below_set ?_ GE119.out | refine below_set ?_ GE129.out) | exact HB.out)⟩
                                · replace c79 := Bool.eq_false_iff.mpr c79
                                  subst c79
                                  have H1 : (if 0 ≤ (wrap64 ((t120.length : Int) - 1)) then (if (wrap64 ((t120.length : Int) - 1)) ≤ (t120.length : Int) then ((path_Leaves.f kj59 (t120.take ((wrap64 ((t120.length : Int) - 1)) : Int).toNat) a0_9).bind fun t135 => (if t135 = true then (some (([] : List ByteArray), 190)) else (some (t120, 0)))) else (none)) else (none)) = some (r1, r2) := by rw [if_neg (show ¬ (false = true) by decide)] at H; exact H
                                  clear H
                                  have H := H1
                                  clear H1
                                  obtain ⟨ji81, hji81⟩ : ∃ j_ : Int, (wrap64 ((t120.length : Int) - 1)) = j_ := ⟨_, rfl⟩
                                  replace H : (if 0 ≤ (ji81) then (if (ji81) ≤ (t120.length : Int) then ((path_Leaves.f kj59 (t120.take ((ji81) : Int).toNat) a0_9).bind fun t135 => (if t135 = true then (some (([] : List ByteArray), 190)) else (some (t120, 0)))) else (none)) else (none)) = some (r1, r2) := by first | (rw [hji81] at H; exact H) | (simp only [hji81] at H ⊢; exact H)
                                  have hji81w : (IntKind.i64.wrap ((t120.length : Int) - 1)) = ji81 := (i64_w _).trans hji81
                                  by_cases c82 : 0 ≤ (ji81)
                                  · rw [if_pos c82] at H
                                    have c82b0 := eq_true c82
                                    have c82b1 : decide (0 ≤ (ji81)) = true := decide_eq_true c82
                                    clear c82
                                    by_cases c83 : (ji81) ≤ (t120.length : Int)
                                    · rw [if_pos c83] at H
                                      have c83b0 := eq_true c83
                                      have c83b1 : decide ((ji81) ≤ (t120.length : Int)) = true := decide_eq_true c83
                                      clear c83
                                      obtain ⟨y131, hy131⟩ : ∃ y_ : List ByteArray, y_ = (t120.take ((ji81) : Int).toNat) := ⟨_, rfl⟩
                                      replace H : ((path_Leaves.f kj59 y131 a0_9).bind fun t135 => (if t135 = true then (some (([] : List ByteArray), 190)) else (some (t120, 0)))) = some (r1, r2) := by first | (rw [hy131]; with_reducible exact H) | (have H2_ := (Option.bind_some _ _).symm.trans H; rw [hy131]; with_reducible exact H2_) | (have H2_ := (Option.bind_some _ _).symm.trans H; with_reducible exact H2_) | with_reducible exact H | (rw [hy131]; exact H) | exact H
                                      have Ny131 := Aside0.mk hy131
                                      clear hy131
                                      replace H := Option.bind_eq_some_iff.mp H
                                      obtain ⟨t135, A840, H⟩ := H
                                      replace H : (if t135 = true then (some (([] : List ByteArray), 190)) else (some (t120, 0))) = some (r1, r2) := H
                                      have A84 := Aside0.mk A840
                                      clear A840
                                      by_cases c85 : t135 = true
                                      · subst c85
                                        have H1 : (some (([] : List ByteArray), 190)) = some (r1, r2) := by rw [if_pos rfl] at H; exact H
                                        clear H
                                        have H := H1
                                        clear H1
                                        simp only [Option.some.injEq, Prod.mk.injEq] at H
                                        obtain ⟨rfl, rfl⟩ := H
                                        try go_wp2
                                        have n0_ := Aside0.mk (Kd.R_drew HO_8.out)
                                        have n1_ := Aside0.mk (blk_drew BK118.out)
                                        have n2_ := Aside0.mk (blk_drew BK119.out)
                                        have n3_ := Aside0.mk (blk_drew BK129.out)
                                        have n4_ := Aside0.mk (below_drew1 HB.out)
                                        clear HO_8
                                        clear BK118
                                        clear BK119
                                        clear BK129
                                        clear HB
                                        have HO_8 := n0_
                                        have BK118 := n1_
                                        have BK119 := n2_
                                        have BK129 := n3_
                                        have HB := n4_
                                        clear n0_ n1_ n2_ n3_ n4_
                                        obtain ⟨Ao87, co87, eo87⟩ := Kd.R_slice HO_8.out
                                        (first | subst eo87 | (injection eo87 with f1_ f2_ f3_; have f4_ := f1_.symm; have f5_ := f3_.symm; clear f1_ f2_ f3_; subst f4_; subst f5_))
                                        have q88 : ((ji81) : Int) ≤ ((t120.length : Int) : Int) := of_decide_eq_true (by first | (with_reducible assumption) | assumption)
                                        obtain ⟨i088, hi088, _, hsz88, _⟩ := info_parts info9
                                        have hroom88 : t120.length ≤ co87 := (Kd.R_reads' HO_8.out).2.1
                                        have hC88 : Kd.C Kd.string _ Ao87 t120.length t120 := (Kd.R_reads' HO_8.out).2.2
                                        have hcut88 := cut_to (P := Tryd.prog) 38 9 .i64 Tryd.underlying38 hi088 Ao87 t120.length co87 (ji81) (of_decide_eq_true (by first | (with_reducible assumption) | assumption)) q88 hroom88
                                        have hr88 := Kd.C_take (m := ((ji81) : Int).toNat) hC88 (by omega)
                                        have hy88 : y131.length = ((ji81) : Int).toNat := (by rw [Ny131.out, List.length_take]; omega)
                                        rw [← Ny131.out] at hr88
                                        rw [← hy88] at hcut88
                                        have HR134 := Aside0.mk hr88
                                        have HC134 := Aside0.mk (show y131.length ≤ co87 from by omega)
                                        clear hr88 hC88 hroom88 hi088 hsz88
                                        have KY88 := Aside0.mk hy88
                                        clear hy88
                                        have KL88 := Aside0.mk (show ((ji81) : Int).toNat ≤ t120.length from by omega)
                                        replace q88 := eq_true q88
                                        refine start_ (n := 13) (S := fun w' => w'.cell? ⟨gb119, 0, none⟩ = some (.int .i64 a2_0) ∧ w'.cell? ⟨gb119, 1, none⟩ = some (.bool a2_1) ∧ w'.cell? ⟨gb119, 2, none⟩ = some (.int .u32 a2_2) ∧ w'.cell? ⟨gb119, 3, none⟩ = some (.bool false) ∧ w'.cell? ⟨gb118, 0, none⟩ = some (.string a0_0) ∧ w'.cell? ⟨gb118, 1, none⟩ = some (.int .i64 a0_1) ∧ w'.cell? ⟨gb118, 2, none⟩ = some (.int .u32 a0_2) ∧ w'.cell? ⟨gb118, 3, none⟩ = some (.int .u32 a0_3) ∧ w'.cell? ⟨gb118, 4, none⟩ = some (.int .u32 a0_4) ∧ w'.cell? ⟨gb118, 5, none⟩ = some (.int .i64 a0_5) ∧ w'.cell? ⟨gb118, 6, none⟩ = some (.int .i32 a0_6) ∧ w'.cell? ⟨gb118, 7, none⟩ = some (.string a0_7) ∧ w'.cell? ⟨gb118, 8, none⟩ = some (.string a0_8) ∧ w'.cell? ⟨gb118, 9, none⟩ = some (.string a0_9) ∧ w'.cell? ⟨gb118, 10, none⟩ = some (.int .i64 a0_10) ∧ w'.cell? ⟨gb118, 11, none⟩ = some (.int .u8 a0_11)) (ds := []) #[false, false, false, false, false, false, false, false, false, false, false, false, false] (by kernel_rfl) rfl rfl ⟨(blk_cell BK119.out 0).trans rfl, (blk_cell BK119.out 1).trans rfl, (blk_cell BK119.out 2).trans rfl, (blk_cell BK119.out 3).trans rfl, (blk_cell BK118.out 0).trans rfl, (blk_cell BK118.out 1).trans rfl, (blk_cell BK118.out 2).trans rfl, (blk_cell BK118.out 3).trans rfl, (blk_cell BK118.out 4).trans rfl, (blk_cell BK118.out 5).trans rfl, (blk_cell BK118.out 6).trans rfl, (blk_cell BK118.out 7).trans rfl, (blk_cell BK118.out 8).trans rfl, (blk_cell BK118.out 9).trans rfl, (blk_cell BK118.out 10).trans rfl, (blk_cell BK118.out 11).trans rfl⟩ (fun hHeld => ?_); refine with_tabW apply_wrong.tab18 apply_wrong.bits18 (fun HT_ HW_ => ?_)
                                        generalize wc.drew = w86 at HO_8 BK118 BK119 BK129 HB HR134 hHeld ⊢
                                        refine pure_ (i := 0) (N := some 83) (v := ?_) (a' := ?_) #[true, false, false, false, false, false, false, false, false, false, false, false, false] rfl rfl (any_of HT_.out (by kernel_rfl)) (fun _ _ _ h => h) (Or.inl ⟨by rfl, ?_⟩) ?_ ?_
                                        rotate_left
                                        · intro w'
                                          go_simp
                                          with_reducible rfl
                                        rotate_left
                                        · simp only [Act.put, List.setIfInBounds_toArray, List.set_cons_zero, List.set_cons_succ, i64_w, i32_w]
                                          rfl
                                        refine take_ (i := 1) (N := some 84) (v := ?_) (a' := ?_) #[true, true, false, false, false, false, false, false, false, false, false, false, false] rfl rfl (take_ofW HT_.out HW_.out (by kernel_rfl)) (fun _ _ _ h => h) (Or.inl ⟨by rfl, ?_⟩) hHeld ?_ ?_
                                        rotate_left
                                        · rintro w' ⟨s0, s1, s2, s3, s4, s5, s6, s7, s8, s9, s10, s11, s12, s13, s14, s15⟩
                                          go_simp
                                          with_reducible rfl
                                        rotate_left
                                        · simp only [Act.put, List.setIfInBounds_toArray, List.set_cons_zero, List.set_cons_succ, i64_w, i32_w]
                                          rfl
                                        refine pure_ (i := 2) (N := some 85) (v := ?_) (a' := ?_) #[true, true, true, false, false, false, false, false, false, false, false, false, false] rfl rfl (any_of HT_.out (by kernel_rfl)) (fun _ _ _ h => h) (Or.inl ⟨by rfl, ?_⟩) ?_ ?_
                                        rotate_left
                                        · intro w'
                                          go_simp
                                          with_reducible rfl
                                        rotate_left
                                        · simp only [Act.put, List.setIfInBounds_toArray, List.set_cons_zero, List.set_cons_succ, i64_w, i32_w]
                                          rfl
                                        refine pure_ (i := 3) (N := some 86) (v := ?_) (a' := ?_) #[true, true, true, true, false, false, false, false, false, false, false, false, false] rfl rfl (any_of HT_.out (by kernel_rfl)) (fun _ _ _ h => h) (Or.inl ⟨by rfl, ?_⟩) ?_ ?_
                                        rotate_left
                                        · intro w'
                                          go_simp
                                          with_reducible rfl
                                        rotate_left
                                        · simp only [Act.put, List.setIfInBounds_toArray, List.set_cons_zero, List.set_cons_succ, i64_w, i32_w]
                                          rfl
                                        refine pure_ (i := 4) (N := some 87) (v := ?_) (a' := ?_) #[true, true, true, true, true, false, false, false, false, false, false, false, false] rfl rfl (any_of HT_.out (by kernel_rfl)) (fun _ _ _ h => h) (Or.inl ⟨by rfl, ?_⟩) ?_ ?_
                                        rotate_left
                                        · intro w'
                                          go_simp
                                          with_reducible rfl
                                        rotate_left
                                        · simp only [Act.put, List.setIfInBounds_toArray, List.set_cons_zero, List.set_cons_succ, i64_w, i32_w]
                                          rfl
                                        refine pure_ (i := 5) (N := some 88) (v := ?_) (a' := ?_) #[true, true, true, true, true, true, false, false, false, false, false, false, false] rfl rfl (any_of HT_.out (by kernel_rfl)) (fun _ _ _ h => h) (Or.inl ⟨by rfl, ?_⟩) ?_ ?_
                                        rotate_left
                                        · intro w'
                                          go_simp
                                          with_reducible rfl
                                        rotate_left
                                        · simp only [Act.put, List.setIfInBounds_toArray, List.set_cons_zero, List.set_cons_succ, i64_w, i32_w]
                                          rfl
                                        refine pure_ (i := 6) (N := some 89) (v := ?_) (a' := ?_) #[true, true, true, true, true, true, true, false, false, false, false, false, false] rfl rfl (any_of HT_.out (by kernel_rfl)) (fun _ _ _ h => h) (Or.inl ⟨by rfl, ?_⟩) ?_ ?_
                                        rotate_left
                                        · intro w'
                                          go_simp
                                          with_reducible rfl
                                        rotate_left
                                        · simp only [Act.put, List.setIfInBounds_toArray, List.set_cons_zero, List.set_cons_succ, i64_w, i32_w]
                                          rfl
                                        refine pure_ (i := 7) (N := some 90) (v := ?_) (a' := ?_) #[true, true, true, true, true, true, true, true, false, false, false, false, false] rfl rfl (any_of HT_.out (by kernel_rfl)) (fun _ _ _ h => h) (Or.inl ⟨by rfl, ?_⟩) ?_ ?_
                                        rotate_left
                                        · intro w'
                                          go_simp
                                          with_reducible rfl
                                        rotate_left
                                        · simp only [Act.put, List.setIfInBounds_toArray, List.set_cons_zero, List.set_cons_succ, i64_w, i32_w]
                                          rfl
                                        refine pure_ (i := 8) (N := some 91) (v := ?_) (a' := ?_) #[true, true, true, true, true, true, true, true, true, false, false, false, false] rfl rfl (any_of HT_.out (by kernel_rfl)) (fun _ _ _ h => h) (Or.inl ⟨by rfl, ?_⟩) ?_ ?_
                                        rotate_left
                                        · intro w'
                                          go_simp
                                          with_reducible rfl
                                        rotate_left
                                        · simp only [Act.put, List.setIfInBounds_toArray, List.set_cons_zero, List.set_cons_succ, i64_w, i32_w]
                                          rfl
                                        refine pure_ (i := 9) (N := some 92) (v := ?_) (a' := ?_) #[true, true, true, true, true, true, true, true, true, true, false, false, false] rfl rfl (any_of HT_.out (by kernel_rfl)) (fun _ _ _ h => h) (Or.inl ⟨by rfl, ?_⟩) ?_ ?_
                                        rotate_left
                                        · intro w'
                                          go_simp
                                          with_reducible rfl
                                        rotate_left
                                        · simp only [Act.put, List.setIfInBounds_toArray, List.set_cons_zero, List.set_cons_succ, i64_w, i32_w]
                                          rfl
                                        refine take_ (i := 10) (N := some 93) (v := ?_) (a' := ?_) #[true, true, true, true, true, true, true, true, true, true, true, false, false] rfl rfl (take_ofW HT_.out HW_.out (by kernel_rfl)) (fun _ _ _ h => h) (Or.inl ⟨by rfl, ?_⟩) hHeld ?_ ?_
                                        rotate_left
                                        · rintro w' ⟨s0, s1, s2, s3, s4, s5, s6, s7, s8, s9, s10, s11, s12, s13, s14, s15⟩
                                          go_simp
                                          with_reducible rfl
                                        rotate_left
                                        · simp only [Act.put, List.setIfInBounds_toArray, List.set_cons_zero, List.set_cons_succ, i64_w, i32_w]
                                          rfl
                                        refine one_ (i := 11) (N := some 94) #[true, true, true, true, true, true, true, true, true, true, true, true, false] rfl rfl (one_of HT_.out (by kernel_rfl)) (by decide) (fun K hK => ?_)
                                        refine goes_ Tryd.func17 (by kernel_rfl) rfl #[.slice Ao87 y131.length co87, .string a0_9] (by rfl) rfl rfl (by (try simp only [List.map_toArray, List.map_cons, List.map_nil]); first | done | rfl | (simp only [List.length_drop, List.length_take]; rfl)) ?_
                                        with_reducible refine (path_Leaves.calls kj59 _ _ y131 a0_9 true _ ?side3 ?side1 ?side2 A84.out).mono ?_
                                        (case side1 => repeat (first | exact (by repeat (first | (with_reducible exact HR134.out) | (with_reducible refine Kd.C_alloc ?_ _) | (with_reducible refine Kd.C_drewN ?_ _) | (with_reducible refine Kd.C_drew ?_) | exact HR134.out)) | (with_reducible refine Kd.C_alloc ?_ _) | (with_reducible refine Kd.C_drewN ?_ _) | (with_reducible refine Kd.C_drew ?_)))
                                        (case side2 => exact HC134.out)
                                        (case side3 => exact Gv_below HG.out (by repeat (first | (with_reducible first | exact HB.out | apply below_alloc | apply pw_below_drewN | apply below_drew1 | refine below_set ?_ GE118.out | refine below_set ?_ GE119.out | refine below_set ?_ GE129.out) | exact HB.out)))
                                        rintro e w89 ⟨rfl, hb⟩
                                        refine ⟨_, rfl, ?_⟩
                                        have n0_ := Aside0.mk (Kd.R_below (by (with_reducible repeat (first | apply Kd.R_alloc | apply Kd.R_drewN | apply Kd.R_drew)); exact HO_8.out) hb)
                                        have n1_ := Aside0.mk (blk_below (g := gb118) (o := .cells #[.string a0_0, .int .i64 a0_1, .int .u32 a0_2, .int .u32 a0_3, .int .u32 a0_4, .int .i64 a0_5, .int .i32 a0_6, .string a0_7, .string a0_8, .string a0_9, .int .i64 a0_10, .int .u8 a0_11] 26 (0, 0)) (by (with_reducible repeat (first | refine blk_drewN ?_ _ | refine blk_drew ?_ | refine blk_alloc ?_ _)); exact BK118.out) hb)
                                        have n2_ := Aside0.mk (blk_below (g := gb119) (o := .cells #[.int .i64 a2_0, .bool a2_1, .int .u32 a2_2, .bool false] 29 (0, 0)) (by (with_reducible repeat (first | refine blk_drewN ?_ _ | refine blk_drew ?_ | refine blk_alloc ?_ _)); exact BK119.out) hb)
                                        have n3_ := Aside0.mk (blk_below (g := gb129) (o := .cells #[.int .u32 t124, .int .u32 t125, .int .u32 t126, .int .i64 t127, .int .i32 t128] 24 (0, 0)) (by (with_reducible repeat (first | refine blk_drewN ?_ _ | refine blk_drew ?_ | refine blk_alloc ?_ _)); exact BK129.out) hb)
                                        have n4_ := Aside0.mk (Kd.C_below (by repeat (first | (with_reducible exact HR134.out) | (with_reducible refine Kd.C_alloc ?_ _) | (with_reducible refine Kd.C_drewN ?_ _) | (with_reducible refine Kd.C_drew ?_) | exact HR134.out)) hb)
                                        have n5_ := Aside0.mk (below_step (by repeat (first | (with_reducible first | exact HB.out | apply below_alloc | apply pw_below_drewN | apply below_drew1 | refine below_set ?_ GE118.out | refine below_set ?_ GE119.out | refine below_set ?_ GE129.out) | exact HB.out)) hb)
                                        clear HO_8
                                        clear BK118
                                        clear BK119
                                        clear BK129
                                        clear HR134
                                        clear HB
                                        have HO_8 := n0_
                                        have BK118 := n1_
                                        have BK119 := n2_
                                        have BK129 := n3_
                                        have HR134 := n4_
                                        have HB := n5_
                                        clear n0_ n1_ n2_ n3_ n4_ n5_
                                        (try clear hb)
                                        (try clear hb2)
                                        (try clear hk)
                                        (try clear hi)
                                        refine hK.out _ _ ⟨(blk_cell BK119.out 0).trans rfl, (blk_cell BK119.out 1).trans rfl, (blk_cell BK119.out 2).trans rfl, (blk_cell BK119.out 3).trans rfl, (blk_cell BK118.out 0).trans rfl, (blk_cell BK118.out 1).trans rfl, (blk_cell BK118.out 2).trans rfl, (blk_cell BK118.out 3).trans rfl, (blk_cell BK118.out 4).trans rfl, (blk_cell BK118.out 5).trans rfl, (blk_cell BK118.out 6).trans rfl, (blk_cell BK118.out 7).trans rfl, (blk_cell BK118.out 8).trans rfl, (blk_cell BK118.out 9).trans rfl, (blk_cell BK118.out 10).trans rfl, (blk_cell BK118.out 11).trans rfl⟩ (fun hHeld => ?_)
                                        clear hK K
                                        refine norm_ (a' := ?_) ?_ ?_
                                        rotate_left
                                        · show Act.put _ (some 94) _ = _
                                          simp only [Act.put, List.setIfInBounds_toArray, List.set_cons_zero, List.set_cons_succ, i64_w, i32_w]
                                          rfl
                                        refine pure_ (i := 12) (N := some 95) (v := ?_) (a' := ?_) #[true, true, true, true, true, true, true, true, true, true, true, true, true] rfl rfl (any_of HT_.out (by kernel_rfl)) (fun _ _ _ h => h) (Or.inl ⟨by rfl, ?_⟩) ?_ ?_
                                        rotate_left
                                        · intro w'
                                          go_simp
                                          with_reducible rfl
                                        rotate_left
                                        · simp only [Act.put, List.setIfInBounds_toArray, List.set_cons_zero, List.set_cons_succ, i64_w, i32_w]
                                          rfl
                                        refine done_ (done_of HT_.out (by kernel_rfl)) ?_
                                        try go_wp2
                                        go_ret2
                                        exact ⟨_, by first | rfl | (simp [errW_none, errW_some] <;> rfl) | (simp only [← hji81]; first | rfl | (simp [errW_none, errW_some] <;> rfl)) | (simp [*, errW_none, errW_some] <;> rfl), by first | exact Kd.R_nil _ _ _ _ _ | exact Kd.N_nil _ _ _ _ _ | exact Kd.V_nil _ _ _ _ _ | exact Kd.Q_nil _ _ _ _ _ | exact Kd.S_nil _ _ _ _ _, by repeat (first | (with_reducible first | exact HB.out | apply below_alloc | apply pw_below_drewN | apply below_drew1 | refine below_set ?_ GE118.out | refine below_set ?_ GE119.out | refine below_set ?_ GE129.out) | exact HB.out)⟩
                                      · replace c85 := Bool.eq_false_iff.mpr c85
                                        subst c85
                                        have H1 : (some (t120, 0)) = some (r1, r2) := by rw [if_neg (show ¬ (false = true) by decide)] at H; exact H
                                        clear H
                                        have H := H1
                                        clear H1
                                        simp only [Option.some.injEq, Prod.mk.injEq] at H
                                        obtain ⟨rfl, rfl⟩ := H
                                        try go_wp2
                                        have n0_ := Aside0.mk (Kd.R_drew HO_8.out)
                                        have n1_ := Aside0.mk (blk_drew BK118.out)
                                        have n2_ := Aside0.mk (blk_drew BK119.out)
                                        have n3_ := Aside0.mk (blk_drew BK129.out)
                                        have n4_ := Aside0.mk (below_drew1 HB.out)
                                        clear HO_8
                                        clear BK118
                                        clear BK119
                                        clear BK129
                                        clear HB
                                        have HO_8 := n0_
                                        have BK118 := n1_
                                        have BK119 := n2_
                                        have BK129 := n3_
                                        have HB := n4_
                                        clear n0_ n1_ n2_ n3_ n4_
                                        obtain ⟨Ao91, co91, eo91⟩ := Kd.R_slice HO_8.out
                                        (first | subst eo91 | (injection eo91 with f1_ f2_ f3_; have f4_ := f1_.symm; have f5_ := f3_.symm; clear f1_ f2_ f3_; subst f4_; subst f5_))
                                        have q92 : ((ji81) : Int) ≤ ((t120.length : Int) : Int) := of_decide_eq_true (by first | (with_reducible assumption) | assumption)
                                        obtain ⟨i092, hi092, _, hsz92, _⟩ := info_parts info9
                                        have hroom92 : t120.length ≤ co91 := (Kd.R_reads' HO_8.out).2.1
                                        have hC92 : Kd.C Kd.string _ Ao91 t120.length t120 := (Kd.R_reads' HO_8.out).2.2
                                        have hcut92 := cut_to (P := Tryd.prog) 38 9 .i64 Tryd.underlying38 hi092 Ao91 t120.length co91 (ji81) (of_decide_eq_true (by first | (with_reducible assumption) | assumption)) q92 hroom92
                                        have hr92 := Kd.C_take (m := ((ji81) : Int).toNat) hC92 (by omega)
                                        have hy92 : y131.length = ((ji81) : Int).toNat := (by rw [Ny131.out, List.length_take]; omega)
                                        rw [← Ny131.out] at hr92
                                        rw [← hy92] at hcut92
                                        have HR134 := Aside0.mk hr92
                                        have HC134 := Aside0.mk (show y131.length ≤ co91 from by omega)
                                        clear hr92 hC92 hroom92 hi092 hsz92
                                        have KY92 := Aside0.mk hy92
                                        clear hy92
                                        have KL92 := Aside0.mk (show ((ji81) : Int).toNat ≤ t120.length from by omega)
                                        replace q92 := eq_true q92
                                        refine start_ (n := 13) (S := fun w' => w'.cell? ⟨gb119, 0, none⟩ = some (.int .i64 a2_0) ∧ w'.cell? ⟨gb119, 1, none⟩ = some (.bool a2_1) ∧ w'.cell? ⟨gb119, 2, none⟩ = some (.int .u32 a2_2) ∧ w'.cell? ⟨gb119, 3, none⟩ = some (.bool false) ∧ w'.cell? ⟨gb118, 0, none⟩ = some (.string a0_0) ∧ w'.cell? ⟨gb118, 1, none⟩ = some (.int .i64 a0_1) ∧ w'.cell? ⟨gb118, 2, none⟩ = some (.int .u32 a0_2) ∧ w'.cell? ⟨gb118, 3, none⟩ = some (.int .u32 a0_3) ∧ w'.cell? ⟨gb118, 4, none⟩ = some (.int .u32 a0_4) ∧ w'.cell? ⟨gb118, 5, none⟩ = some (.int .i64 a0_5) ∧ w'.cell? ⟨gb118, 6, none⟩ = some (.int .i32 a0_6) ∧ w'.cell? ⟨gb118, 7, none⟩ = some (.string a0_7) ∧ w'.cell? ⟨gb118, 8, none⟩ = some (.string a0_8) ∧ w'.cell? ⟨gb118, 9, none⟩ = some (.string a0_9) ∧ w'.cell? ⟨gb118, 10, none⟩ = some (.int .i64 a0_10) ∧ w'.cell? ⟨gb118, 11, none⟩ = some (.int .u8 a0_11)) (ds := []) #[false, false, false, false, false, false, false, false, false, false, false, false, false] (by kernel_rfl) rfl rfl ⟨(blk_cell BK119.out 0).trans rfl, (blk_cell BK119.out 1).trans rfl, (blk_cell BK119.out 2).trans rfl, (blk_cell BK119.out 3).trans rfl, (blk_cell BK118.out 0).trans rfl, (blk_cell BK118.out 1).trans rfl, (blk_cell BK118.out 2).trans rfl, (blk_cell BK118.out 3).trans rfl, (blk_cell BK118.out 4).trans rfl, (blk_cell BK118.out 5).trans rfl, (blk_cell BK118.out 6).trans rfl, (blk_cell BK118.out 7).trans rfl, (blk_cell BK118.out 8).trans rfl, (blk_cell BK118.out 9).trans rfl, (blk_cell BK118.out 10).trans rfl, (blk_cell BK118.out 11).trans rfl⟩ (fun hHeld => ?_); refine with_tabW apply_wrong.tab18 apply_wrong.bits18 (fun HT_ HW_ => ?_)
                                        generalize wc.drew = w90 at HO_8 BK118 BK119 BK129 HB HR134 hHeld ⊢
                                        refine pure_ (i := 0) (N := some 83) (v := ?_) (a' := ?_) #[true, false, false, false, false, false, false, false, false, false, false, false, false] rfl rfl (any_of HT_.out (by kernel_rfl)) (fun _ _ _ h => h) (Or.inl ⟨by rfl, ?_⟩) ?_ ?_
                                        rotate_left
                                        · intro w'
                                          go_simp
                                          with_reducible rfl
                                        rotate_left
                                        · simp only [Act.put, List.setIfInBounds_toArray, List.set_cons_zero, List.set_cons_succ, i64_w, i32_w]
                                          rfl
                                        refine take_ (i := 1) (N := some 84) (v := ?_) (a' := ?_) #[true, true, false, false, false, false, false, false, false, false, false, false, false] rfl rfl (take_ofW HT_.out HW_.out (by kernel_rfl)) (fun _ _ _ h => h) (Or.inl ⟨by rfl, ?_⟩) hHeld ?_ ?_
                                        rotate_left
                                        · rintro w' ⟨s0, s1, s2, s3, s4, s5, s6, s7, s8, s9, s10, s11, s12, s13, s14, s15⟩
                                          go_simp
                                          with_reducible rfl
                                        rotate_left
                                        · simp only [Act.put, List.setIfInBounds_toArray, List.set_cons_zero, List.set_cons_succ, i64_w, i32_w]
                                          rfl
                                        refine pure_ (i := 2) (N := some 85) (v := ?_) (a' := ?_) #[true, true, true, false, false, false, false, false, false, false, false, false, false] rfl rfl (any_of HT_.out (by kernel_rfl)) (fun _ _ _ h => h) (Or.inl ⟨by rfl, ?_⟩) ?_ ?_
                                        rotate_left
                                        · intro w'
                                          go_simp
                                          with_reducible rfl
                                        rotate_left
                                        · simp only [Act.put, List.setIfInBounds_toArray, List.set_cons_zero, List.set_cons_succ, i64_w, i32_w]
                                          rfl
                                        refine pure_ (i := 3) (N := some 86) (v := ?_) (a' := ?_) #[true, true, true, true, false, false, false, false, false, false, false, false, false] rfl rfl (any_of HT_.out (by kernel_rfl)) (fun _ _ _ h => h) (Or.inl ⟨by rfl, ?_⟩) ?_ ?_
                                        rotate_left
                                        · intro w'
                                          go_simp
                                          with_reducible rfl
                                        rotate_left
                                        · simp only [Act.put, List.setIfInBounds_toArray, List.set_cons_zero, List.set_cons_succ, i64_w, i32_w]
                                          rfl
                                        refine pure_ (i := 4) (N := some 87) (v := ?_) (a' := ?_) #[true, true, true, true, true, false, false, false, false, false, false, false, false] rfl rfl (any_of HT_.out (by kernel_rfl)) (fun _ _ _ h => h) (Or.inl ⟨by rfl, ?_⟩) ?_ ?_
                                        rotate_left
                                        · intro w'
                                          go_simp
                                          with_reducible rfl
                                        rotate_left
                                        · simp only [Act.put, List.setIfInBounds_toArray, List.set_cons_zero, List.set_cons_succ, i64_w, i32_w]
                                          rfl
                                        refine pure_ (i := 5) (N := some 88) (v := ?_) (a' := ?_) #[true, true, true, true, true, true, false, false, false, false, false, false, false] rfl rfl (any_of HT_.out (by kernel_rfl)) (fun _ _ _ h => h) (Or.inl ⟨by rfl, ?_⟩) ?_ ?_
                                        rotate_left
                                        · intro w'
                                          go_simp
                                          with_reducible rfl
                                        rotate_left
                                        · simp only [Act.put, List.setIfInBounds_toArray, List.set_cons_zero, List.set_cons_succ, i64_w, i32_w]
                                          rfl
                                        refine pure_ (i := 6) (N := some 89) (v := ?_) (a' := ?_) #[true, true, true, true, true, true, true, false, false, false, false, false, false] rfl rfl (any_of HT_.out (by kernel_rfl)) (fun _ _ _ h => h) (Or.inl ⟨by rfl, ?_⟩) ?_ ?_
                                        rotate_left
                                        · intro w'
                                          go_simp
                                          with_reducible rfl
                                        rotate_left
                                        · simp only [Act.put, List.setIfInBounds_toArray, List.set_cons_zero, List.set_cons_succ, i64_w, i32_w]
                                          rfl
                                        refine pure_ (i := 7) (N := some 90) (v := ?_) (a' := ?_) #[true, true, true, true, true, true, true, true, false, false, false, false, false] rfl rfl (any_of HT_.out (by kernel_rfl)) (fun _ _ _ h => h) (Or.inl ⟨by rfl, ?_⟩) ?_ ?_
                                        rotate_left
                                        · intro w'
                                          go_simp
                                          with_reducible rfl
                                        rotate_left
                                        · simp only [Act.put, List.setIfInBounds_toArray, List.set_cons_zero, List.set_cons_succ, i64_w, i32_w]
                                          rfl
                                        refine pure_ (i := 8) (N := some 91) (v := ?_) (a' := ?_) #[true, true, true, true, true, true, true, true, true, false, false, false, false] rfl rfl (any_of HT_.out (by kernel_rfl)) (fun _ _ _ h => h) (Or.inl ⟨by rfl, ?_⟩) ?_ ?_
                                        rotate_left
                                        · intro w'
                                          go_simp
                                          with_reducible rfl
                                        rotate_left
                                        · simp only [Act.put, List.setIfInBounds_toArray, List.set_cons_zero, List.set_cons_succ, i64_w, i32_w]
                                          rfl
                                        refine pure_ (i := 9) (N := some 92) (v := ?_) (a' := ?_) #[true, true, true, true, true, true, true, true, true, true, false, false, false] rfl rfl (any_of HT_.out (by kernel_rfl)) (fun _ _ _ h => h) (Or.inl ⟨by rfl, ?_⟩) ?_ ?_
                                        rotate_left
                                        · intro w'
                                          go_simp
                                          with_reducible rfl
                                        rotate_left
                                        · simp only [Act.put, List.setIfInBounds_toArray, List.set_cons_zero, List.set_cons_succ, i64_w, i32_w]
                                          rfl
                                        refine take_ (i := 10) (N := some 93) (v := ?_) (a' := ?_) #[true, true, true, true, true, true, true, true, true, true, true, false, false] rfl rfl (take_ofW HT_.out HW_.out (by kernel_rfl)) (fun _ _ _ h => h) (Or.inl ⟨by rfl, ?_⟩) hHeld ?_ ?_
                                        rotate_left
                                        · rintro w' ⟨s0, s1, s2, s3, s4, s5, s6, s7, s8, s9, s10, s11, s12, s13, s14, s15⟩
                                          go_simp
                                          with_reducible rfl
                                        rotate_left
                                        · simp only [Act.put, List.setIfInBounds_toArray, List.set_cons_zero, List.set_cons_succ, i64_w, i32_w]
                                          rfl
                                        refine one_ (i := 11) (N := some 94) #[true, true, true, true, true, true, true, true, true, true, true, true, false] rfl rfl (one_of HT_.out (by kernel_rfl)) (by decide) (fun K hK => ?_)
                                        refine goes_ Tryd.func17 (by kernel_rfl) rfl #[.slice Ao91 y131.length co91, .string a0_9] (by rfl) rfl rfl (by (try simp only [List.map_toArray, List.map_cons, List.map_nil]); first | done | rfl | (simp only [List.length_drop, List.length_take]; rfl)) ?_
                                        with_reducible refine (path_Leaves.calls kj59 _ _ y131 a0_9 false _ ?side3 ?side1 ?side2 A84.out).mono ?_
                                        (case side1 => repeat (first | exact (by repeat (first | (with_reducible exact HR134.out) | (with_reducible refine Kd.C_alloc ?_ _) | (with_reducible refine Kd.C_drewN ?_ _) | (with_reducible refine Kd.C_drew ?_) | exact HR134.out)) | (with_reducible refine Kd.C_alloc ?_ _) | (with_reducible refine Kd.C_drewN ?_ _) | (with_reducible refine Kd.C_drew ?_)))
                                        (case side2 => exact HC134.out)
                                        (case side3 => exact Gv_below HG.out (by repeat (first | (with_reducible first | exact HB.out | apply below_alloc | apply pw_below_drewN | apply below_drew1 | refine below_set ?_ GE118.out | refine below_set ?_ GE119.out | refine below_set ?_ GE129.out) | exact HB.out)))
                                        rintro e w93 ⟨rfl, hb⟩
                                        refine ⟨_, rfl, ?_⟩
                                        have n0_ := Aside0.mk (Kd.R_below (by (with_reducible repeat (first | apply Kd.R_alloc | apply Kd.R_drewN | apply Kd.R_drew)); exact HO_8.out) hb)
                                        have n1_ := Aside0.mk (blk_below (g := gb118) (o := .cells #[.string a0_0, .int .i64 a0_1, .int .u32 a0_2, .int .u32 a0_3, .int .u32 a0_4, .int .i64 a0_5, .int .i32 a0_6, .string a0_7, .string a0_8, .string a0_9, .int .i64 a0_10, .int .u8 a0_11] 26 (0, 0)) (by (with_reducible repeat (first | refine blk_drewN ?_ _ | refine blk_drew ?_ | refine blk_alloc ?_ _)); exact BK118.out) hb)
                                        have n2_ := Aside0.mk (blk_below (g := gb119) (o := .cells #[.int .i64 a2_0, .bool a2_1, .int .u32 a2_2, .bool false] 29 (0, 0)) (by (with_reducible repeat (first | refine blk_drewN ?_ _ | refine blk_drew ?_ | refine blk_alloc ?_ _)); exact BK119.out) hb)
                                        have n3_ := Aside0.mk (blk_below (g := gb129) (o := .cells #[.int .u32 t124, .int .u32 t125, .int .u32 t126, .int .i64 t127, .int .i32 t128] 24 (0, 0)) (by (with_reducible repeat (first | refine blk_drewN ?_ _ | refine blk_drew ?_ | refine blk_alloc ?_ _)); exact BK129.out) hb)
                                        have n4_ := Aside0.mk (Kd.C_below (by repeat (first | (with_reducible exact HR134.out) | (with_reducible refine Kd.C_alloc ?_ _) | (with_reducible refine Kd.C_drewN ?_ _) | (with_reducible refine Kd.C_drew ?_) | exact HR134.out)) hb)
                                        have n5_ := Aside0.mk (below_step (by repeat (first | (with_reducible first | exact HB.out | apply below_alloc | apply pw_below_drewN | apply below_drew1 | refine below_set ?_ GE118.out | refine below_set ?_ GE119.out | refine below_set ?_ GE129.out) | exact HB.out)) hb)
                                        clear HO_8
                                        clear BK118
                                        clear BK119
                                        clear BK129
                                        clear HR134
                                        clear HB
                                        have HO_8 := n0_
                                        have BK118 := n1_
                                        have BK119 := n2_
                                        have BK129 := n3_
                                        have HR134 := n4_
                                        have HB := n5_
                                        clear n0_ n1_ n2_ n3_ n4_ n5_
                                        (try clear hb)
                                        (try clear hb2)
                                        (try clear hk)
                                        (try clear hi)
                                        refine hK.out _ _ ⟨(blk_cell BK119.out 0).trans rfl, (blk_cell BK119.out 1).trans rfl, (blk_cell BK119.out 2).trans rfl, (blk_cell BK119.out 3).trans rfl, (blk_cell BK118.out 0).trans rfl, (blk_cell BK118.out 1).trans rfl, (blk_cell BK118.out 2).trans rfl, (blk_cell BK118.out 3).trans rfl, (blk_cell BK118.out 4).trans rfl, (blk_cell BK118.out 5).trans rfl, (blk_cell BK118.out 6).trans rfl, (blk_cell BK118.out 7).trans rfl, (blk_cell BK118.out 8).trans rfl, (blk_cell BK118.out 9).trans rfl, (blk_cell BK118.out 10).trans rfl, (blk_cell BK118.out 11).trans rfl⟩ (fun hHeld => ?_)
                                        clear hK K
                                        refine norm_ (a' := ?_) ?_ ?_
                                        rotate_left
                                        · show Act.put _ (some 94) _ = _
                                          simp only [Act.put, List.setIfInBounds_toArray, List.set_cons_zero, List.set_cons_succ, i64_w, i32_w]
                                          rfl
                                        refine pure_ (i := 12) (N := some 95) (v := ?_) (a' := ?_) #[true, true, true, true, true, true, true, true, true, true, true, true, true] rfl rfl (any_of HT_.out (by kernel_rfl)) (fun _ _ _ h => h) (Or.inl ⟨by rfl, ?_⟩) ?_ ?_
                                        rotate_left
                                        · intro w'
                                          go_simp
                                          with_reducible rfl
                                        rotate_left
                                        · simp only [Act.put, List.setIfInBounds_toArray, List.set_cons_zero, List.set_cons_succ, i64_w, i32_w]
                                          rfl
                                        refine done_ (done_of HT_.out (by kernel_rfl)) ?_
                                        try go_wp2
                                        go_ret2
                                        exact ⟨_, by first | rfl | (simp [errW_none, errW_some] <;> rfl) | (simp only [← hji81]; first | rfl | (simp [errW_none, errW_some] <;> rfl)) | (simp [*, errW_none, errW_some] <;> rfl), by (with_reducible repeat (first | apply Kd.R_alloc | apply Kd.R_drewN | apply Kd.R_drew)); exact HO_8.out, by repeat (first | (with_reducible first | exact HB.out | apply below_alloc | apply pw_below_drewN | apply below_drew1 | refine below_set ?_ GE118.out | refine below_set ?_ GE119.out | refine below_set ?_ GE129.out) | exact HB.out)⟩
                                    · rw [if_neg c83] at H
                                      exact absurd H (by simp)
                                  · rw [if_neg c82] at H
                                    exact absurd H (by simp)
                        · rw [if_neg c59] at H
                          have c59b0 : (a0_1 == 3) = false := beq_eq_false_iff_ne.mpr c59
                          have c59b1 : (a0_1 != 3) = true := bne_iff_ne.mpr c59
                          by_cases c94 : a0_1 = 4
                          · rw [if_pos c94] at H
                            have c94b0 : (a0_1 == 4) = true := beq_iff_eq.mpr c94
                            have c94b1 : (a0_1 != 4) = false := bne_eq_false_iff_eq.mpr c94
                            clear c94
                            replace H := Option.bind_eq_some_iff.mp H
                            obtain ⟨⟨t136, t137⟩, A950, H⟩ := H
                            replace H : (if t137 = 0 then (some (t120, 0)) else (some (([] : List ByteArray), t137))) = some (r1, r2) := H
                            have A95 := Aside0.mk A950
                            clear A950
                            by_cases c96 : t137 = 0
                            · rw [if_pos c96] at H
                              have c96b0 : (t137 == 0) = true := beq_iff_eq.mpr c96
                              have c96b1 : (t137 != 0) = false := bne_eq_false_iff_eq.mpr c96
                              clear c96
                              simp only [Option.some.injEq, Prod.mk.injEq] at H
                              obtain ⟨rfl, rfl⟩ := H
                              have hnb97 := NB129_118.out
                              have hnc97 := NB118_129.out
                              have hnb98 := NB129_119.out
                              have hnc98 := NB119_129.out
                              have hcz99_0 : wc.cell? ⟨gb129, 0, none⟩ = some (.int .u32 t124) := (blk_cell BK129.out 0).trans rfl
                              have hcz99_1 : wc.cell? ⟨gb129, 1, none⟩ = some (.int .u32 t125) := (blk_cell BK129.out 1).trans rfl
                              have hcz99_2 : wc.cell? ⟨gb129, 2, none⟩ = some (.int .u32 t126) := (blk_cell BK129.out 2).trans rfl
                              have hcz99_3 : wc.cell? ⟨gb129, 3, none⟩ = some (.int .i64 t127) := (blk_cell BK129.out 3).trans rfl
                              have hcz99_4 : wc.cell? ⟨gb129, 4, none⟩ = some (.int .i32 t128) := (blk_cell BK129.out 4).trans rfl
                              have hfz99_0 := blk_frozen BK129.out 0
                              have hfz99_1 := blk_frozen BK129.out 1
                              have hfz99_2 := blk_frozen BK129.out 2
                              have hfz99_3 := blk_frozen BK129.out 3
                              have hfz99_4 := blk_frozen BK129.out 4
                              have hnb100 := NB118_119.out
                              have hnc100 := NB119_118.out
                              have hcz101_0 : wc.cell? ⟨gb118, 0, none⟩ = some (.string a0_0) := (blk_cell BK118.out 0).trans rfl
                              have hcz101_1 : wc.cell? ⟨gb118, 1, none⟩ = some (.int .i64 a0_1) := (blk_cell BK118.out 1).trans rfl
                              have hcz101_2 : wc.cell? ⟨gb118, 2, none⟩ = some (.int .u32 a0_2) := (blk_cell BK118.out 2).trans rfl
                              have hcz101_3 : wc.cell? ⟨gb118, 3, none⟩ = some (.int .u32 a0_3) := (blk_cell BK118.out 3).trans rfl
                              have hcz101_4 : wc.cell? ⟨gb118, 4, none⟩ = some (.int .u32 a0_4) := (blk_cell BK118.out 4).trans rfl
                              have hcz101_5 : wc.cell? ⟨gb118, 5, none⟩ = some (.int .i64 a0_5) := (blk_cell BK118.out 5).trans rfl
                              have hcz101_6 : wc.cell? ⟨gb118, 6, none⟩ = some (.int .i32 a0_6) := (blk_cell BK118.out 6).trans rfl
                              have hcz101_7 : wc.cell? ⟨gb118, 7, none⟩ = some (.string a0_7) := (blk_cell BK118.out 7).trans rfl
                              have hcz101_8 : wc.cell? ⟨gb118, 8, none⟩ = some (.string a0_8) := (blk_cell BK118.out 8).trans rfl
                              have hcz101_9 : wc.cell? ⟨gb118, 9, none⟩ = some (.string a0_9) := (blk_cell BK118.out 9).trans rfl
                              have hcz101_10 : wc.cell? ⟨gb118, 10, none⟩ = some (.int .i64 a0_10) := (blk_cell BK118.out 10).trans rfl
                              have hcz101_11 : wc.cell? ⟨gb118, 11, none⟩ = some (.int .u8 a0_11) := (blk_cell BK118.out 11).trans rfl
                              have hfz101_0 := blk_frozen BK118.out 0
                              have hfz101_1 := blk_frozen BK118.out 1
                              have hfz101_2 := blk_frozen BK118.out 2
                              have hfz101_3 := blk_frozen BK118.out 3
                              have hfz101_4 := blk_frozen BK118.out 4
                              have hfz101_5 := blk_frozen BK118.out 5
                              have hfz101_6 := blk_frozen BK118.out 6
                              have hfz101_7 := blk_frozen BK118.out 7
                              have hfz101_8 := blk_frozen BK118.out 8
                              have hfz101_9 := blk_frozen BK118.out 9
                              have hfz101_10 := blk_frozen BK118.out 10
                              have hfz101_11 := blk_frozen BK118.out 11
                              go_wp2_with (first | ((with_reducible refine gate_callee (f := 14) rfl ?_); refine goesL_ (some 101) rfl rfl Tryd.func14 (by kernel_rfl) rfl #[.string a0_9] rfl (by (try simp only [List.map_toArray, List.map_cons, List.map_nil]); first | done | rfl | (simp only [List.length_drop, List.length_take]; rfl)) ?_; (with_reducible refine (path_Split.calls kj15 a0_9 t136 t137 _ ?side1 A95.out).mono ?_); (case side1 => exact Gv_below HG.out (by repeat (first | (with_reducible first | exact HB.out | apply below_alloc | apply pw_below_drewN | apply below_drew1 | refine below_set ?_ GE118.out | refine below_set ?_ GE119.out | refine below_set ?_ GE129.out) | exact HB.out))); rintro e w102 ⟨v138, rfl, ho0, hb⟩; refine ⟨_, rfl, ?_⟩; have n0_ := Aside0.mk (Kd.R_elder' (by (with_reducible repeat (first | apply Kd.R_alloc | apply Kd.R_drewN | apply Kd.R_drew)); exact HO_8.out) (Kd.R_base ho0) hb); have n1_ := Aside0.mk (Kd.R_lower (Kd.R_new' ho0 (Kd.R_lt (by (with_reducible repeat (first | apply Kd.R_alloc | apply Kd.R_drewN | apply Kd.R_drew)); exact HO_8.out))) (below_size (by repeat (first | (with_reducible first | exact HB.out | apply below_alloc | apply pw_below_drewN | apply below_drew1 | refine below_set ?_ GE118.out | refine below_set ?_ GE119.out | refine below_set ?_ GE129.out) | exact HB.out)))); have n2_ := Aside0.mk (blk_below (g := gb118) (o := .cells #[.string a0_0, .int .i64 a0_1, .int .u32 a0_2, .int .u32 a0_3, .int .u32 a0_4, .int .i64 a0_5, .int .i32 a0_6, .string a0_7, .string a0_8, .string a0_9, .int .i64 a0_10, .int .u8 a0_11] 26 (0, 0)) (by (with_reducible repeat (first | refine blk_drewN ?_ _ | refine blk_drew ?_ | refine blk_alloc ?_ _)); exact BK118.out) hb); have n3_ := Aside0.mk (blk_below (g := gb119) (o := .cells #[.int .i64 a2_0, .bool a2_1, .int .u32 a2_2, .bool a2_3] 29 (0, 0)) (by (with_reducible repeat (first | refine blk_drewN ?_ _ | refine blk_drew ?_ | refine blk_alloc ?_ _)); exact BK119.out) hb); have n4_ := Aside0.mk (blk_below (g := gb129) (o := .cells #[.int .u32 t124, .int .u32 t125, .int .u32 t126, .int .i64 t127, .int .i32 t128] 24 (0, 0)) (by (with_reducible repeat (first | refine blk_drewN ?_ _ | refine blk_drew ?_ | refine blk_alloc ?_ _)); exact BK129.out) hb); have n5_ := Aside0.mk (below_step (by repeat (first | (with_reducible first | exact HB.out | apply below_alloc | apply pw_below_drewN | apply below_drew1 | refine below_set ?_ GE118.out | refine below_set ?_ GE119.out | refine below_set ?_ GE129.out) | exact HB.out)) hb); clear HO_8; clear BK118; clear BK119; clear BK129; clear HB; have HO_8 := n0_; have HO139 := n1_; have BK118 := n2_; have BK119 := n3_; have BK129 := n4_; have HB := n5_; clear n0_ n1_ n2_ n3_ n4_ n5_; (try clear hb); (try clear hb2); (try clear hk); (try clear hi); (try clear ho0)))
                              go_ret2
                              exact ⟨_, by first | rfl | (simp [errW_none, errW_some] <;> rfl) | (simp [*, errW_none, errW_some] <;> rfl), by (with_reducible repeat (first | apply Kd.R_alloc | apply Kd.R_drewN | apply Kd.R_drew)); exact Kd.R_mono HO_8.out (fun _ hk => trivial), by repeat (first | (with_reducible first | exact HB.out | apply below_alloc | apply pw_below_drewN | apply below_drew1 | refine below_set ?_ GE118.out | refine below_set ?_ GE119.out | refine below_set ?_ GE129.out) | exact HB.out)⟩
                            · rw [if_neg c96] at H
                              have c96b0 : (t137 == 0) = false := beq_eq_false_iff_ne.mpr c96
                              have c96b1 : (t137 != 0) = true := bne_iff_ne.mpr c96
                              simp only [Option.some.injEq, Prod.mk.injEq] at H
                              obtain ⟨rfl, rfl⟩ := H
                              have hnb103 := NB129_118.out
                              have hnc103 := NB118_129.out
                              have hnb104 := NB129_119.out
                              have hnc104 := NB119_129.out
                              have hcz105_0 : wc.cell? ⟨gb129, 0, none⟩ = some (.int .u32 t124) := (blk_cell BK129.out 0).trans rfl
                              have hcz105_1 : wc.cell? ⟨gb129, 1, none⟩ = some (.int .u32 t125) := (blk_cell BK129.out 1).trans rfl
                              have hcz105_2 : wc.cell? ⟨gb129, 2, none⟩ = some (.int .u32 t126) := (blk_cell BK129.out 2).trans rfl
                              have hcz105_3 : wc.cell? ⟨gb129, 3, none⟩ = some (.int .i64 t127) := (blk_cell BK129.out 3).trans rfl
                              have hcz105_4 : wc.cell? ⟨gb129, 4, none⟩ = some (.int .i32 t128) := (blk_cell BK129.out 4).trans rfl
                              have hfz105_0 := blk_frozen BK129.out 0
                              have hfz105_1 := blk_frozen BK129.out 1
                              have hfz105_2 := blk_frozen BK129.out 2
                              have hfz105_3 := blk_frozen BK129.out 3
                              have hfz105_4 := blk_frozen BK129.out 4
                              have hnb106 := NB118_119.out
                              have hnc106 := NB119_118.out
                              have hcz107_0 : wc.cell? ⟨gb118, 0, none⟩ = some (.string a0_0) := (blk_cell BK118.out 0).trans rfl
                              have hcz107_1 : wc.cell? ⟨gb118, 1, none⟩ = some (.int .i64 a0_1) := (blk_cell BK118.out 1).trans rfl
                              have hcz107_2 : wc.cell? ⟨gb118, 2, none⟩ = some (.int .u32 a0_2) := (blk_cell BK118.out 2).trans rfl
                              have hcz107_3 : wc.cell? ⟨gb118, 3, none⟩ = some (.int .u32 a0_3) := (blk_cell BK118.out 3).trans rfl
                              have hcz107_4 : wc.cell? ⟨gb118, 4, none⟩ = some (.int .u32 a0_4) := (blk_cell BK118.out 4).trans rfl
                              have hcz107_5 : wc.cell? ⟨gb118, 5, none⟩ = some (.int .i64 a0_5) := (blk_cell BK118.out 5).trans rfl
                              have hcz107_6 : wc.cell? ⟨gb118, 6, none⟩ = some (.int .i32 a0_6) := (blk_cell BK118.out 6).trans rfl
                              have hcz107_7 : wc.cell? ⟨gb118, 7, none⟩ = some (.string a0_7) := (blk_cell BK118.out 7).trans rfl
                              have hcz107_8 : wc.cell? ⟨gb118, 8, none⟩ = some (.string a0_8) := (blk_cell BK118.out 8).trans rfl
                              have hcz107_9 : wc.cell? ⟨gb118, 9, none⟩ = some (.string a0_9) := (blk_cell BK118.out 9).trans rfl
                              have hcz107_10 : wc.cell? ⟨gb118, 10, none⟩ = some (.int .i64 a0_10) := (blk_cell BK118.out 10).trans rfl
                              have hcz107_11 : wc.cell? ⟨gb118, 11, none⟩ = some (.int .u8 a0_11) := (blk_cell BK118.out 11).trans rfl
                              have hfz107_0 := blk_frozen BK118.out 0
                              have hfz107_1 := blk_frozen BK118.out 1
                              have hfz107_2 := blk_frozen BK118.out 2
                              have hfz107_3 := blk_frozen BK118.out 3
                              have hfz107_4 := blk_frozen BK118.out 4
                              have hfz107_5 := blk_frozen BK118.out 5
                              have hfz107_6 := blk_frozen BK118.out 6
                              have hfz107_7 := blk_frozen BK118.out 7
                              have hfz107_8 := blk_frozen BK118.out 8
                              have hfz107_9 := blk_frozen BK118.out 9
                              have hfz107_10 := blk_frozen BK118.out 10
                              have hfz107_11 := blk_frozen BK118.out 11
                              go_wp2_with (first | ((with_reducible refine gate_callee (f := 14) rfl ?_); refine goesL_ (some 101) rfl rfl Tryd.func14 (by kernel_rfl) rfl #[.string a0_9] rfl (by (try simp only [List.map_toArray, List.map_cons, List.map_nil]); first | done | rfl | (simp only [List.length_drop, List.length_take]; rfl)) ?_; (with_reducible refine (path_Split.calls kj15 a0_9 t136 t137 _ ?side1 A95.out).mono ?_); (case side1 => exact Gv_below HG.out (by repeat (first | (with_reducible first | exact HB.out | apply below_alloc | apply pw_below_drewN | apply below_drew1 | refine below_set ?_ GE118.out | refine below_set ?_ GE119.out | refine below_set ?_ GE129.out) | exact HB.out))); rintro e w108 ⟨v138, rfl, ho0, hb⟩; refine ⟨_, rfl, ?_⟩; have n0_ := Aside0.mk (Kd.R_elder' (by (with_reducible repeat (first | apply Kd.R_alloc | apply Kd.R_drewN | apply Kd.R_drew)); exact HO_8.out) (Kd.R_base ho0) hb); have n1_ := Aside0.mk (Kd.R_lower (Kd.R_new' ho0 (Kd.R_lt (by (with_reducible repeat (first | apply Kd.R_alloc | apply Kd.R_drewN | apply Kd.R_drew)); exact HO_8.out))) (below_size (by repeat (first | (with_reducible first | exact HB.out | apply below_alloc | apply pw_below_drewN | apply below_drew1 | refine below_set ?_ GE118.out | refine below_set ?_ GE119.out | refine below_set ?_ GE129.out) | exact HB.out)))); have n2_ := Aside0.mk (blk_below (g := gb118) (o := .cells #[.string a0_0, .int .i64 a0_1, .int .u32 a0_2, .int .u32 a0_3, .int .u32 a0_4, .int .i64 a0_5, .int .i32 a0_6, .string a0_7, .string a0_8, .string a0_9, .int .i64 a0_10, .int .u8 a0_11] 26 (0, 0)) (by (with_reducible repeat (first | refine blk_drewN ?_ _ | refine blk_drew ?_ | refine blk_alloc ?_ _)); exact BK118.out) hb); have n3_ := Aside0.mk (blk_below (g := gb119) (o := .cells #[.int .i64 a2_0, .bool a2_1, .int .u32 a2_2, .bool a2_3] 29 (0, 0)) (by (with_reducible repeat (first | refine blk_drewN ?_ _ | refine blk_drew ?_ | refine blk_alloc ?_ _)); exact BK119.out) hb); have n4_ := Aside0.mk (blk_below (g := gb129) (o := .cells #[.int .u32 t124, .int .u32 t125, .int .u32 t126, .int .i64 t127, .int .i32 t128] 24 (0, 0)) (by (with_reducible repeat (first | refine blk_drewN ?_ _ | refine blk_drew ?_ | refine blk_alloc ?_ _)); exact BK129.out) hb); have n5_ := Aside0.mk (below_step (by repeat (first | (with_reducible first | exact HB.out | apply below_alloc | apply pw_below_drewN | apply below_drew1 | refine below_set ?_ GE118.out | refine below_set ?_ GE119.out | refine below_set ?_ GE129.out) | exact HB.out)) hb); clear HO_8; clear BK118; clear BK119; clear BK129; clear HB; have HO_8 := n0_; have HO139 := n1_; have BK118 := n2_; have BK119 := n3_; have BK129 := n4_; have HB := n5_; clear n0_ n1_ n2_ n3_ n4_ n5_; (try clear hb); (try clear hb2); (try clear hk); (try clear hi); (try clear ho0)))
                              go_ret2
                              exact ⟨_, by first | rfl | (simp [errW_none, errW_some] <;> rfl) | (simp [*, errW_none, errW_some] <;> rfl), by first | exact Kd.R_nil _ _ _ _ _ | exact Kd.N_nil _ _ _ _ _ | exact Kd.V_nil _ _ _ _ _ | exact Kd.Q_nil _ _ _ _ _ | exact Kd.S_nil _ _ _ _ _, by repeat (first | (with_reducible first | exact HB.out | apply below_alloc | apply pw_below_drewN | apply below_drew1 | refine below_set ?_ GE118.out | refine below_set ?_ GE119.out | refine below_set ?_ GE129.out) | exact HB.out)⟩
                          · rw [if_neg c94] at H
                            have c94b0 : (a0_1 == 4) = false := beq_eq_false_iff_ne.mpr c94
                            have c94b1 : (a0_1 != 4) = true := bne_iff_ne.mpr c94
                            simp only [Option.some.injEq, Prod.mk.injEq] at H
                            obtain ⟨rfl, rfl⟩ := H
                            have hnb109 := NB129_118.out
                            have hnc109 := NB118_129.out
                            have hnb110 := NB129_119.out
                            have hnc110 := NB119_129.out
                            have hcz111_0 : wc.cell? ⟨gb129, 0, none⟩ = some (.int .u32 t124) := (blk_cell BK129.out 0).trans rfl
                            have hcz111_1 : wc.cell? ⟨gb129, 1, none⟩ = some (.int .u32 t125) := (blk_cell BK129.out 1).trans rfl
                            have hcz111_2 : wc.cell? ⟨gb129, 2, none⟩ = some (.int .u32 t126) := (blk_cell BK129.out 2).trans rfl
                            have hcz111_3 : wc.cell? ⟨gb129, 3, none⟩ = some (.int .i64 t127) := (blk_cell BK129.out 3).trans rfl
                            have hcz111_4 : wc.cell? ⟨gb129, 4, none⟩ = some (.int .i32 t128) := (blk_cell BK129.out 4).trans rfl
                            have hfz111_0 := blk_frozen BK129.out 0
                            have hfz111_1 := blk_frozen BK129.out 1
                            have hfz111_2 := blk_frozen BK129.out 2
                            have hfz111_3 := blk_frozen BK129.out 3
                            have hfz111_4 := blk_frozen BK129.out 4
                            have hnb112 := NB118_119.out
                            have hnc112 := NB119_118.out
                            have hcz113_0 : wc.cell? ⟨gb118, 0, none⟩ = some (.string a0_0) := (blk_cell BK118.out 0).trans rfl
                            have hcz113_1 : wc.cell? ⟨gb118, 1, none⟩ = some (.int .i64 a0_1) := (blk_cell BK118.out 1).trans rfl
                            have hcz113_2 : wc.cell? ⟨gb118, 2, none⟩ = some (.int .u32 a0_2) := (blk_cell BK118.out 2).trans rfl
                            have hcz113_3 : wc.cell? ⟨gb118, 3, none⟩ = some (.int .u32 a0_3) := (blk_cell BK118.out 3).trans rfl
                            have hcz113_4 : wc.cell? ⟨gb118, 4, none⟩ = some (.int .u32 a0_4) := (blk_cell BK118.out 4).trans rfl
                            have hcz113_5 : wc.cell? ⟨gb118, 5, none⟩ = some (.int .i64 a0_5) := (blk_cell BK118.out 5).trans rfl
                            have hcz113_6 : wc.cell? ⟨gb118, 6, none⟩ = some (.int .i32 a0_6) := (blk_cell BK118.out 6).trans rfl
                            have hcz113_7 : wc.cell? ⟨gb118, 7, none⟩ = some (.string a0_7) := (blk_cell BK118.out 7).trans rfl
                            have hcz113_8 : wc.cell? ⟨gb118, 8, none⟩ = some (.string a0_8) := (blk_cell BK118.out 8).trans rfl
                            have hcz113_9 : wc.cell? ⟨gb118, 9, none⟩ = some (.string a0_9) := (blk_cell BK118.out 9).trans rfl
                            have hcz113_10 : wc.cell? ⟨gb118, 10, none⟩ = some (.int .i64 a0_10) := (blk_cell BK118.out 10).trans rfl
                            have hcz113_11 : wc.cell? ⟨gb118, 11, none⟩ = some (.int .u8 a0_11) := (blk_cell BK118.out 11).trans rfl
                            have hfz113_0 := blk_frozen BK118.out 0
                            have hfz113_1 := blk_frozen BK118.out 1
                            have hfz113_2 := blk_frozen BK118.out 2
                            have hfz113_3 := blk_frozen BK118.out 3
                            have hfz113_4 := blk_frozen BK118.out 4
                            have hfz113_5 := blk_frozen BK118.out 5
                            have hfz113_6 := blk_frozen BK118.out 6
                            have hfz113_7 := blk_frozen BK118.out 7
                            have hfz113_8 := blk_frozen BK118.out 8
                            have hfz113_9 := blk_frozen BK118.out 9
                            have hfz113_10 := blk_frozen BK118.out 10
                            have hfz113_11 := blk_frozen BK118.out 11
                            go_wp2
                            go_ret2
                            exact ⟨_, by first | rfl | (simp [errW_none, errW_some] <;> rfl) | (simp [*, errW_none, errW_some] <;> rfl), by (with_reducible repeat (first | apply Kd.R_alloc | apply Kd.R_drewN | apply Kd.R_drew)); exact HO_8.out, by repeat (first | (with_reducible first | exact HB.out | apply below_alloc | apply pw_below_drewN | apply below_drew1 | refine below_set ?_ GE118.out | refine below_set ?_ GE119.out | refine below_set ?_ GE129.out) | exact HB.out)⟩
        · rw [if_neg c15] at H
          have c15b0 : (t121 == 0) = false := beq_eq_false_iff_ne.mpr c15
          have c15b1 : (t121 != 0) = true := bne_iff_ne.mpr c15
          simp only [Option.some.injEq, Prod.mk.injEq] at H
          obtain ⟨rfl, rfl⟩ := H
          have hnb114 := NB118_119.out
          have hnc114 := NB119_118.out
          have hcz115_0 : wc.cell? ⟨gb118, 0, none⟩ = some (.string a0_0) := (blk_cell BK118.out 0).trans rfl
          have hcz115_1 : wc.cell? ⟨gb118, 1, none⟩ = some (.int .i64 a0_1) := (blk_cell BK118.out 1).trans rfl
          have hcz115_2 : wc.cell? ⟨gb118, 2, none⟩ = some (.int .u32 a0_2) := (blk_cell BK118.out 2).trans rfl
          have hcz115_3 : wc.cell? ⟨gb118, 3, none⟩ = some (.int .u32 a0_3) := (blk_cell BK118.out 3).trans rfl
          have hcz115_4 : wc.cell? ⟨gb118, 4, none⟩ = some (.int .u32 a0_4) := (blk_cell BK118.out 4).trans rfl
          have hcz115_5 : wc.cell? ⟨gb118, 5, none⟩ = some (.int .i64 a0_5) := (blk_cell BK118.out 5).trans rfl
          have hcz115_6 : wc.cell? ⟨gb118, 6, none⟩ = some (.int .i32 a0_6) := (blk_cell BK118.out 6).trans rfl
          have hcz115_7 : wc.cell? ⟨gb118, 7, none⟩ = some (.string a0_7) := (blk_cell BK118.out 7).trans rfl
          have hcz115_8 : wc.cell? ⟨gb118, 8, none⟩ = some (.string a0_8) := (blk_cell BK118.out 8).trans rfl
          have hcz115_9 : wc.cell? ⟨gb118, 9, none⟩ = some (.string a0_9) := (blk_cell BK118.out 9).trans rfl
          have hcz115_10 : wc.cell? ⟨gb118, 10, none⟩ = some (.int .i64 a0_10) := (blk_cell BK118.out 10).trans rfl
          have hcz115_11 : wc.cell? ⟨gb118, 11, none⟩ = some (.int .u8 a0_11) := (blk_cell BK118.out 11).trans rfl
          have hfz115_0 := blk_frozen BK118.out 0
          have hfz115_1 := blk_frozen BK118.out 1
          have hfz115_2 := blk_frozen BK118.out 2
          have hfz115_3 := blk_frozen BK118.out 3
          have hfz115_4 := blk_frozen BK118.out 4
          have hfz115_5 := blk_frozen BK118.out 5
          have hfz115_6 := blk_frozen BK118.out 6
          have hfz115_7 := blk_frozen BK118.out 7
          have hfz115_8 := blk_frozen BK118.out 8
          have hfz115_9 := blk_frozen BK118.out 9
          have hfz115_10 := blk_frozen BK118.out 10
          have hfz115_11 := blk_frozen BK118.out 11
          go_wp2_with (first | ((with_reducible refine gate_callee (f := 14) rfl ?_); refine goesL_ (some 24) rfl rfl Tryd.func14 (by kernel_rfl) rfl #[.string a0_0] rfl (by (try simp only [List.map_toArray, List.map_cons, List.map_nil]); first | done | rfl | (simp only [List.length_drop, List.length_take]; rfl)) ?_; (with_reducible refine (path_Split.calls kj3 a0_0 t120 t121 _ ?side1 A13.out).mono ?_); (case side1 => exact Gv_below HG.out (by repeat (first | (with_reducible first | exact HB.out | apply below_alloc | apply pw_below_drewN | apply below_drew1 | refine below_set ?_ GE118.out | refine below_set ?_ GE119.out) | exact HB.out))); rintro e w116 ⟨v122, rfl, ho0, hb⟩; refine ⟨_, rfl, ?_⟩; have n0_ := Aside0.mk (Kd.R_lower ho0 (below_size (by repeat (first | (with_reducible first | exact HB.out | apply below_alloc | apply pw_below_drewN | apply below_drew1 | refine below_set ?_ GE118.out | refine below_set ?_ GE119.out) | exact HB.out)))); have n1_ := Aside0.mk (blk_below (g := gb118) (o := .cells #[.string a0_0, .int .i64 a0_1, .int .u32 a0_2, .int .u32 a0_3, .int .u32 a0_4, .int .i64 a0_5, .int .i32 a0_6, .string a0_7, .string a0_8, .string a0_9, .int .i64 a0_10, .int .u8 a0_11] 26 (0, 0)) (by (with_reducible repeat (first | refine blk_drewN ?_ _ | refine blk_drew ?_ | refine blk_alloc ?_ _)); exact BK118.out) hb); have n2_ := Aside0.mk (blk_below (g := gb119) (o := .cells #[.int .i64 a2_0, .bool a2_1, .int .u32 a2_2, .bool a2_3] 29 (0, 0)) (by (with_reducible repeat (first | refine blk_drewN ?_ _ | refine blk_drew ?_ | refine blk_alloc ?_ _)); exact BK119.out) hb); have n3_ := Aside0.mk (below_step (by repeat (first | (with_reducible first | exact HB.out | apply below_alloc | apply pw_below_drewN | apply below_drew1 | refine below_set ?_ GE118.out | refine below_set ?_ GE119.out) | exact HB.out)) hb); clear BK118; clear BK119; clear HB; have HO123 := n0_; have BK118 := n1_; have BK119 := n2_; have HB := n3_; clear n0_ n1_ n2_ n3_; (try clear hb); (try clear hb2); (try clear hk); (try clear hi); (try clear ho0); have hcz117_0 : w116.cell? ⟨gb118, 0, none⟩ = some (.string a0_0) := (blk_cell BK118.out 0).trans rfl; have hcz117_1 : w116.cell? ⟨gb118, 1, none⟩ = some (.int .i64 a0_1) := (blk_cell BK118.out 1).trans rfl; have hcz117_2 : w116.cell? ⟨gb118, 2, none⟩ = some (.int .u32 a0_2) := (blk_cell BK118.out 2).trans rfl; have hcz117_3 : w116.cell? ⟨gb118, 3, none⟩ = some (.int .u32 a0_3) := (blk_cell BK118.out 3).trans rfl; have hcz117_4 : w116.cell? ⟨gb118, 4, none⟩ = some (.int .u32 a0_4) := (blk_cell BK118.out 4).trans rfl; have hcz117_5 : w116.cell? ⟨gb118, 5, none⟩ = some (.int .i64 a0_5) := (blk_cell BK118.out 5).trans rfl; have hcz117_6 : w116.cell? ⟨gb118, 6, none⟩ = some (.int .i32 a0_6) := (blk_cell BK118.out 6).trans rfl; have hcz117_7 : w116.cell? ⟨gb118, 7, none⟩ = some (.string a0_7) := (blk_cell BK118.out 7).trans rfl; have hcz117_8 : w116.cell? ⟨gb118, 8, none⟩ = some (.string a0_8) := (blk_cell BK118.out 8).trans rfl; have hcz117_9 : w116.cell? ⟨gb118, 9, none⟩ = some (.string a0_9) := (blk_cell BK118.out 9).trans rfl; have hcz117_10 : w116.cell? ⟨gb118, 10, none⟩ = some (.int .i64 a0_10) := (blk_cell BK118.out 10).trans rfl; have hcz117_11 : w116.cell? ⟨gb118, 11, none⟩ = some (.int .u8 a0_11) := (blk_cell BK118.out 11).trans rfl; have hfz117_0 := blk_frozen BK118.out 0; have hfz117_1 := blk_frozen BK118.out 1; have hfz117_2 := blk_frozen BK118.out 2; have hfz117_3 := blk_frozen BK118.out 3; have hfz117_4 := blk_frozen BK118.out 4; have hfz117_5 := blk_frozen BK118.out 5; have hfz117_6 := blk_frozen BK118.out 6; have hfz117_7 := blk_frozen BK118.out 7; have hfz117_8 := blk_frozen BK118.out 8; have hfz117_9 := blk_frozen BK118.out 9; have hfz117_10 := blk_frozen BK118.out 10; have hfz117_11 := blk_frozen BK118.out 11; have hcz118_0 : w116.cell? ⟨gb119, 0, none⟩ = some (.int .i64 a2_0) := (blk_cell BK119.out 0).trans rfl; have hcz118_1 : w116.cell? ⟨gb119, 1, none⟩ = some (.bool a2_1) := (blk_cell BK119.out 1).trans rfl; have hcz118_2 : w116.cell? ⟨gb119, 2, none⟩ = some (.int .u32 a2_2) := (blk_cell BK119.out 2).trans rfl; have hcz118_3 : w116.cell? ⟨gb119, 3, none⟩ = some (.bool a2_3) := (blk_cell BK119.out 3).trans rfl; have hfz118_0 := blk_frozen BK119.out 0; have hfz118_1 := blk_frozen BK119.out 1; have hfz118_2 := blk_frozen BK119.out 2; have hfz118_3 := blk_frozen BK119.out 3) | ((with_reducible refine gate_callee (f := 15) rfl ?_); refine goesL_ (some 29) rfl rfl Tryd.func15 (by kernel_rfl) rfl #[.agg #[.string a0_0, .int .i64 a0_1, .int .u32 a0_2, .int .u32 a0_3, .int .u32 a0_4, .int .i64 a0_5, .int .i32 a0_6, .string a0_7, .string a0_8, .string a0_9, .int .i64 a0_10, .int .u8 a0_11], .agg #[.int .i64 a2_0, .bool a2_1, .int .u32 a2_2, .bool a2_3]] rfl (by (try simp only [List.map_toArray, List.map_cons, List.map_nil]); first | done | rfl | (simp only [List.length_drop, List.length_take]; rfl)) ?_; (with_reducible refine (apply_ours.calls a0_0 a0_1 a0_2 a0_3 a0_4 a0_5 a0_6 a0_7 a0_8 a0_9 a0_10 a0_11 a2_0 a2_1 a2_2 a2_3 t124 t125 t126 t127 t128 _ ?side1 A14.out).mono ?_); (case side1 => exact Gv_below HG.out (by repeat (first | (with_reducible first | exact HB.out | apply below_alloc | apply pw_below_drewN | apply below_drew1 | refine below_set ?_ GE118.out | refine below_set ?_ GE119.out) | exact HB.out))); rintro e w119 ⟨rfl, hb⟩; refine ⟨_, rfl, ?_⟩; have n0_ := Aside0.mk (Kd.R_below (by (with_reducible repeat (first | apply Kd.R_alloc | apply Kd.R_drewN | apply Kd.R_drew)); exact HO123.out) hb); have n1_ := Aside0.mk (blk_below (g := gb118) (o := .cells #[.string a0_0, .int .i64 a0_1, .int .u32 a0_2, .int .u32 a0_3, .int .u32 a0_4, .int .i64 a0_5, .int .i32 a0_6, .string a0_7, .string a0_8, .string a0_9, .int .i64 a0_10, .int .u8 a0_11] 26 (0, 0)) (by (with_reducible repeat (first | refine blk_drewN ?_ _ | refine blk_drew ?_ | refine blk_alloc ?_ _)); exact BK118.out) hb); have n2_ := Aside0.mk (blk_below (g := gb119) (o := .cells #[.int .i64 a2_0, .bool a2_1, .int .u32 a2_2, .bool a2_3] 29 (0, 0)) (by (with_reducible repeat (first | refine blk_drewN ?_ _ | refine blk_drew ?_ | refine blk_alloc ?_ _)); exact BK119.out) hb); have n3_ := Aside0.mk (below_step (by repeat (first | (with_reducible first | exact HB.out | apply below_alloc | apply pw_below_drewN | apply below_drew1 | refine below_set ?_ GE118.out | refine below_set ?_ GE119.out) | exact HB.out)) hb); clear HO123; clear BK118; clear BK119; clear HB; have HO123 := n0_; have BK118 := n1_; have BK119 := n2_; have HB := n3_; clear n0_ n1_ n2_ n3_; (try clear hb); (try clear hb2); (try clear hk); (try clear hi)) | ((with_reducible refine gate_dst (N := 10) rfl ?_); (try (refine gate_guard (by rfl) ?_; dsimp only)); refine box_event ?hg (N := 10) ?hd (cs := #[.int .u32 0, .int .u32 0, .int .u32 0, .int .i64 0, .int .i32 0]) (t := 24) ?hr ?_; (case hd => rfl); (case hg => rfl); (case hr => first | (go_simp; done) | (go_simp; rfl)); intro gb129 hg w120 hbox hb; have n0_ := Aside0.mk (Kd.R_below (by (with_reducible repeat (first | apply Kd.R_alloc | apply Kd.R_drewN | apply Kd.R_drew)); exact HO123.out) hb); have n1_ := Aside0.mk (blk_below (g := gb118) (o := .cells #[.string a0_0, .int .i64 a0_1, .int .u32 a0_2, .int .u32 a0_3, .int .u32 a0_4, .int .i64 a0_5, .int .i32 a0_6, .string a0_7, .string a0_8, .string a0_9, .int .i64 a0_10, .int .u8 a0_11] 26 (0, 0)) (by (with_reducible repeat (first | refine blk_drewN ?_ _ | refine blk_drew ?_ | refine blk_alloc ?_ _)); exact BK118.out) hb); have n2_ := Aside0.mk (blk_below (g := gb119) (o := .cells #[.int .i64 a2_0, .bool a2_1, .int .u32 a2_2, .bool a2_3] 29 (0, 0)) (by (with_reducible repeat (first | refine blk_drewN ?_ _ | refine blk_drew ?_ | refine blk_alloc ?_ _)); exact BK119.out) hb); have n3_ := Aside0.mk (below_step (by repeat (first | (with_reducible first | exact HB.out | apply below_alloc | apply pw_below_drewN | apply below_drew1 | refine below_set ?_ GE118.out | refine below_set ?_ GE119.out) | exact HB.out)) hb); have n4_ := Aside0.mk (hbox); have n5_ := Aside0.mk ((by rw [hg]; exact (below_size (by repeat (first | (with_reducible first | exact HB.out | apply below_alloc | apply pw_below_drewN | apply below_drew1 | refine below_set ?_ GE118.out | refine below_set ?_ GE119.out) | exact HB.out))) : w.heap.size ≤ gb129)); have n6_ := Aside0.mk ((by rw [hg]; exact (below_size (by repeat (first | (with_reducible first | exact HB.out | apply below_alloc | apply pw_below_drewN | apply below_drew1 | refine below_set ?_ GE118.out | refine below_set ?_ GE119.out) | exact HB.out))) : w.heap.size ≤ gb129)); have n7_ := Aside0.mk ((by rw [hg]; exact Nat.ne_of_lt (blk_lt (g := gb118) (o := .cells #[.string a0_0, .int .i64 a0_1, .int .u32 a0_2, .int .u32 a0_3, .int .u32 a0_4, .int .i64 a0_5, .int .i32 a0_6, .string a0_7, .string a0_8, .string a0_9, .int .i64 a0_10, .int .u8 a0_11] 26 (0, 0)) (by (with_reducible repeat (first | refine blk_drewN ?_ _ | refine blk_drew ?_ | refine blk_alloc ?_ _)); exact BK118.out)) : gb118 ≠ gb129)); have n8_ := Aside0.mk ((by rw [hg]; exact Nat.ne_of_gt (blk_lt (g := gb118) (o := .cells #[.string a0_0, .int .i64 a0_1, .int .u32 a0_2, .int .u32 a0_3, .int .u32 a0_4, .int .i64 a0_5, .int .i32 a0_6, .string a0_7, .string a0_8, .string a0_9, .int .i64 a0_10, .int .u8 a0_11] 26 (0, 0)) (by (with_reducible repeat (first | refine blk_drewN ?_ _ | refine blk_drew ?_ | refine blk_alloc ?_ _)); exact BK118.out)) : gb129 ≠ gb118)); have n9_ := Aside0.mk ((by rw [hg]; exact Nat.ne_of_lt (blk_lt (g := gb119) (o := .cells #[.int .i64 a2_0, .bool a2_1, .int .u32 a2_2, .bool a2_3] 29 (0, 0)) (by (with_reducible repeat (first | refine blk_drewN ?_ _ | refine blk_drew ?_ | refine blk_alloc ?_ _)); exact BK119.out)) : gb119 ≠ gb129)); have n10_ := Aside0.mk ((by rw [hg]; exact Nat.ne_of_gt (blk_lt (g := gb119) (o := .cells #[.int .i64 a2_0, .bool a2_1, .int .u32 a2_2, .bool a2_3] 29 (0, 0)) (by (with_reducible repeat (first | refine blk_drewN ?_ _ | refine blk_drew ?_ | refine blk_alloc ?_ _)); exact BK119.out)) : gb129 ≠ gb119)); clear HO123; clear BK118; clear BK119; clear HB; have HO123 := n0_; have BK118 := n1_; have BK119 := n2_; have HB := n3_; have BK129 := n4_; have GW129 := n5_; have GE129 := n6_; have NB118_129 := n7_; have NB129_118 := n8_; have NB119_129 := n9_; have NB129_119 := n10_; clear n0_ n1_ n2_ n3_ n4_ n5_ n6_ n7_ n8_ n9_ n10_; clear hb hbox hg; have hnb121 := NB129_118.out; have hnc121 := NB118_129.out; have hnb122 := NB129_119.out; have hnc122 := NB119_129.out; have hcz123_0 : w120.cell? ⟨gb129, 0, none⟩ = some (.int .u32 0) := (blk_cell BK129.out 0).trans rfl; have hcz123_1 : w120.cell? ⟨gb129, 1, none⟩ = some (.int .u32 0) := (blk_cell BK129.out 1).trans rfl; have hcz123_2 : w120.cell? ⟨gb129, 2, none⟩ = some (.int .u32 0) := (blk_cell BK129.out 2).trans rfl; have hcz123_3 : w120.cell? ⟨gb129, 3, none⟩ = some (.int .i64 0) := (blk_cell BK129.out 3).trans rfl; have hcz123_4 : w120.cell? ⟨gb129, 4, none⟩ = some (.int .i32 0) := (blk_cell BK129.out 4).trans rfl; have hfz123_0 := blk_frozen BK129.out 0; have hfz123_1 := blk_frozen BK129.out 1; have hfz123_2 := blk_frozen BK129.out 2; have hfz123_3 := blk_frozen BK129.out 3; have hfz123_4 := blk_frozen BK129.out 4))
          go_ret2
          exact ⟨_, by first | rfl | (simp [errW_none, errW_some] <;> rfl) | (simp [*, errW_none, errW_some] <;> rfl), by first | exact Kd.R_nil _ _ _ _ _ | exact Kd.N_nil _ _ _ _ _ | exact Kd.V_nil _ _ _ _ _ | exact Kd.Q_nil _ _ _ _ _ | exact Kd.S_nil _ _ _ _ _, by repeat (first | (with_reducible first | exact HB.out | apply below_alloc | apply pw_below_drewN | apply below_drew1 | refine below_set ?_ GE118.out | refine below_set ?_ GE119.out | refine below_set ?_ GE129.out) | exact HB.out)⟩

end Go.Proofs.YtbebdhaceifmoaaDoor.PApplyChecks
