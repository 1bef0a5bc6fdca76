-- WRITTEN BY wip/xprint.py, a program of the proving session round the kit's print.py; Lean checks it.
import Derived.Test.YtncnnbabokkafaaPCompareChangesx0
namespace Go.Proofs.Ytncnnbabokkafaa.PCompareChanges
open Go.Proofs.YtncnnbabokkafaaX
open Go.RowKit Go.Proofs.YtncnnbabokkafaaW.PrintWords Go.Proofs.YtncnnbabokkafaaW.PrintLast Go.Proofs.YtncnnbabokkafaaW.PrintMore
attribute [local go_sem] str_leq str_gtr max2_int min2_int max_two min_two max_three min_three max_four min_four   -- for this text's walks alone
set_option linter.unusedVariables false
set_option linter.unusedSimpArgs false

/-! ### satchelref24_last: function 18 -/
def satchelref24_last.l0 : Nat → List (S33) → ByteArray → Int → Option (ByteArray × Int × Int × Int × Int × Int × Int × Int × Int × ByteArray × Bool)
  | 0, _, _, _ => none
  | k + 1, x0, x1, x6 => if x6 ≥ 0 then (if 0 ≤ x6 then (if x6 < (x0.length : Int) then (if ((rd_T33 x0 x6).f0).toList = x1.toList then (some ((rd_T33 x0 x6).f0, (rd_T33 x0 x6).f1, (rd_T33 x0 x6).f2.f0, (rd_T33 x0 x6).f2.f1, (rd_T33 x0 x6).f2.f2, (rd_T33 x0 x6).f2.f3, (rd_T33 x0 x6).f2.f4, (rd_T33 x0 x6).f3, (rd_T33 x0 x6).f4, (rd_T33 x0 x6).f5, true)) else (satchelref24_last.l0 k x0 x1 (wrap64 (x6 - 1)))) else (none)) else (none)) else (some ((⟨#[]⟩ : ByteArray), 0, 0, 0, 0, 0, 0, 0, 0, (⟨#[]⟩ : ByteArray), false))
def satchelref24_last.f (k : Nat) (l0 : List (S33)) (a1 : ByteArray) : Option (ByteArray × Int × Int × Int × Int × Int × Int × Int × Int × ByteArray × Bool) := satchelref24_last.l0 k l0 a1 (wrap64 ((l0.length : Int) - 1))
theorem satchelref24_last.mono_l : ∀ k, (∀ y0 y1 y2, LeO (satchelref24_last.l0 k y0 y1 y2) (satchelref24_last.l0 (k + 1) y0 y1 y2))
  | 0 => fun _ _ _ r h => by simp [satchelref24_last.l0] at h
  | k + 1 => by
    have ih0 := satchelref24_last.mono_l k
    · intro y0 y1 y2
      unfold satchelref24_last.l0
      repeat' first
      | (with_reducible exact ih0 _ _ _)
      | (with_reducible exact LeO.refl _)
      | (with_reducible exact LeO.none _)
      | (with_reducible refine LeO.ite ?_ ?_)
      | (with_reducible refine LeO.bind ?_ (fun _ => ?_))
      | exact ih0 _ _ _
      | exact LeO.none _
      | refine LeO.ite ?_ ?_
      | refine LeO.bind ?_ (fun _ => ?_)
theorem satchelref24_last.mono : ∀ a0 a1 k, LeO (satchelref24_last.f k a0 a1) (satchelref24_last.f (k + 1) a0 a1) := by
  intro a0 a1 k
  have ih0 := satchelref24_last.mono_l k
  unfold satchelref24_last.f
  repeat' first
      | (with_reducible exact ih0 _ _ _)
      | (with_reducible exact LeO.refl _)
      | (with_reducible exact LeO.none _)
      | (with_reducible refine LeO.ite ?_ ?_)
      | (with_reducible refine LeO.bind ?_ (fun _ => ?_))
      | exact ih0 _ _ _
      | exact LeO.none _
      | refine LeO.ite ?_ ?_
      | refine LeO.bind ?_ (fun _ => ?_)
set_option maxHeartbeats 8000000 in
set_option maxRecDepth 100000 in
theorem satchelref24_last.calls (k : Nat) (A0 : Option Addr) (c0 : Nat) (l0 : List (S33)) (a1 : ByteArray) (r1 : ByteArray) (r2 : Int) (r3 : Int) (r4 : Int) (r5 : Int) (r6 : Int) (r7 : Int) (r8 : Int) (r9 : Int) (r10 : ByteArray) (r11 : Bool) (w : World) (hr0 : Kd.C k33 w A0 l0.length l0) (hc0 : l0.length ≤ c0) (h : satchelref24_last.f k l0 a1 = some (r1, r2, r3, r4, r5, r6, r7, r8, r9, r10, r11)) :
    Calls Try.prog 18 #[.slice A0 l0.length c0, .string a1] w fun e w' => e = .returned (.tuple #[.agg #[.string r1, .int .i64 r2, .int .u32 r3, .int .u32 r4, .int .u32 r5, .int .i64 r6, .int .i32 r7, .int .i64 r8, .int .u64 r9, .string r10], .bool r11]) ∧ Below w.heap.size w w' := by
  have hu33 := Try.underlying33
  have HR0 := Aside0.mk hr0
  have HC0 := Aside0.mk hc0
  clear hr0 hc0
  have HB := Aside0.mk (Below.refl w.heap.size w)
  have H : (satchelref24_last.l0 k l0 a1 (wrap64 ((l0.length : Int) - 1))) = some (r1, r2, r3, r4, r5, r6, r7, r8, r9, r10, r11) := h
  clear h
  have H' := Aside0.mk H
  clear H
  go_enter Try.func18, Try.ntmps18
  go_wp2_with (first | ((with_reducible refine gate_dst (N := 4) rfl ?_); refine box_event ?hg (N := 4) ?hd (cs := #[.string (⟨#[]⟩ : ByteArray), .int .i64 0, .int .u32 0, .int .u32 0, .int .u32 0, .int .i64 0, .int .i32 0, .int .i64 0, .int .u64 0, .string (⟨#[]⟩ : ByteArray)]) (t := 33) ?hr ?_; (case hd => rfl); (case hg => rfl); (case hr => first | (go_simp; done) | (go_simp; rfl)); intro gb118 hg w3 hbox hb; have n0_ := Aside0.mk (below_step (by repeat (first | (with_reducible first | exact HB.out | apply below_alloc | apply pw_below_drewN | apply below_drew1) | exact HB.out)) hb); have n1_ := Aside0.mk (hbox); have n2_ := Aside0.mk ((by rw [hg]; exact (below_size (by repeat (first | (with_reducible first | exact HB.out | apply below_alloc | apply pw_below_drewN | apply below_drew1) | exact HB.out))) : w.heap.size ≤ gb118)); have n3_ := Aside0.mk ((by rw [hg]; exact (below_size (by repeat (first | (with_reducible first | exact HB.out | apply below_alloc | apply pw_below_drewN | apply below_drew1) | exact HB.out))) : w.heap.size ≤ gb118)); clear HB; have HB := n0_; have BK118 := n1_; have GW118 := n2_; have GE118 := n3_; clear n0_ n1_ n2_ n3_; clear hb hbox hg))
  go_loopg [6] k (fun kq v6 w' => ∃ (x6_1 : Int) (x119000_1 : ByteArray) (x119001_1 : Int) (x119002_1 : Int) (x119003_1 : Int) (x119004_1 : Int) (x119005_1 : Int) (x119006_1 : Int) (x119007_1 : Int) (x119008_1 : Int) (x119009_1 : ByteArray), v6 = .int .i64 x6_1 ∧ Aside0 (satchelref24_last.l0 kq l0 a1 x6_1 = some (r1, r2, r3, r4, r5, r6, r7, r8, r9, r10, r11)) ∧ Aside0 (kq ≤ k) ∧ Aside0 (w'.heap[gb118]? = some (.cells #[.string x119000_1, .int .i64 x119001_1, .int .u32 x119002_1, .int .u32 x119003_1, .int .u32 x119004_1, .int .i64 x119005_1, .int .i32 x119006_1, .int .i64 x119007_1, .int .u64 x119008_1, .string x119009_1] 33 (0, 0))) ∧ Aside0 (Below w.heap.size w w'))
  case atStart => exact ⟨(wrap64 ((l0.length : Int) - 1)), ((⟨#[]⟩ : ByteArray)), (0), (0), (0), (0), (0), (0), (0), (0), ((⟨#[]⟩ : ByteArray)), (by first | rfl | (simp; done) | (simp [*]; done) | (simp; unfold wrap64; rfl)), H', ⟨Nat.le_refl _⟩, ⟨by (with_reducible repeat (first | refine blk_drewN ?_ _ | refine blk_drew ?_ | refine blk_alloc ?_ _)); exact BK118.out⟩, ⟨by repeat (first | (with_reducible first | exact HB.out | apply below_alloc | apply pw_below_drewN | apply below_drew1 | refine below_set ?_ GE118.out) | exact HB.out)⟩⟩
  case round =>
    clear H'
    try clear c1
    try clear p2
    obtain ⟨x6_1, x119000_1, x119001_1, x119002_1, x119003_1, x119004_1, x119005_1, x119006_1, x119007_1, x119008_1, x119009_1, rfl, HA, HK1, BK118, HB⟩ := hrel
    cases gk with
    | zero => exact absurd HA.out (by simp [satchelref24_last.l0])
    | succ k1 =>
      have H := HA.out
      clear HA
      simp only [satchelref24_last.l0] at H
      by_cases c4 : x6_1 ≥ 0
      · rw [if_pos c4] at H
        have c4b0 : decide (0 ≤ x6_1) = true := decide_eq_true c4
        clear c4
        by_cases c5 : 0 ≤ x6_1
        · rw [if_pos c5] at H
          have c5b0 : decide (0 ≤ x6_1) = true := decide_eq_true c5
          clear c5
          by_cases c6 : x6_1 < (l0.length : Int)
          · rw [if_pos c6] at H
            have c6b0 : decide (x6_1 < (l0.length : Int)) = true := decide_eq_true c6
            clear c6
            by_cases c7 : ((rd_T33 l0 x6_1).f0).toList = a1.toList
            · rw [if_pos c7] at H
              have c7b0 : (((rd_T33 l0 x6_1).f0).toList == a1.toList) = true := beq_iff_eq.mpr c7
              have c7b1 : (((rd_T33 l0 x6_1).f0).toList != a1.toList) = false := bne_eq_false_iff_eq.mpr c7
              clear c7
              simp only [Option.some.injEq, Prod.mk.injEq] at H
              obtain ⟨rfl, rfl, rfl, rfl, rfl, rfl, rfl, rfl, rfl, rfl, rfl⟩ := H
              have p119 : 0 ≤ (x6_1 : Int) := of_decide_eq_true (by first | (with_reducible assumption) | assumption)
              have q119 : x6_1 < (l0.length : Int) := of_decide_eq_true (by first | (with_reducible assumption) | assumption)
              obtain ⟨ad119, e119, hx119_0, hx119_1, hx119_2, hx119_3, hx119_4, hx119_5, hx119_6, hx119_7, hx119_8, hx119_9⟩ := at_T33 HR0.out x6_1 p119 q119
              cases e119
              replace hx119_0 := (HB.out.cell (World.block_lt_of_cell? w _ hx119_0)).trans hx119_0
              replace hx119_1 := (HB.out.cell (World.block_lt_of_cell? w _ hx119_1)).trans hx119_1
              replace hx119_2 := (HB.out.cell (World.block_lt_of_cell? w _ hx119_2)).trans hx119_2
              replace hx119_3 := (HB.out.cell (World.block_lt_of_cell? w _ hx119_3)).trans hx119_3
              replace hx119_4 := (HB.out.cell (World.block_lt_of_cell? w _ hx119_4)).trans hx119_4
              replace hx119_5 := (HB.out.cell (World.block_lt_of_cell? w _ hx119_5)).trans hx119_5
              replace hx119_6 := (HB.out.cell (World.block_lt_of_cell? w _ hx119_6)).trans hx119_6
              replace hx119_7 := (HB.out.cell (World.block_lt_of_cell? w _ hx119_7)).trans hx119_7
              replace hx119_8 := (HB.out.cell (World.block_lt_of_cell? w _ hx119_8)).trans hx119_8
              replace hx119_9 := (HB.out.cell (World.block_lt_of_cell? w _ hx119_9)).trans hx119_9
              replace p119 := eq_true p119
              replace q119 := eq_true q119
              have p120 : 0 ≤ (x6_1 : Int) := of_decide_eq_true (by first | (with_reducible assumption) | assumption)
              have q120 : x6_1 < (l0.length : Int) := of_decide_eq_true (by first | (with_reducible assumption) | assumption)
              obtain ⟨ad120, e120, hx120_0, hx120_1, hx120_2, hx120_3, hx120_4, hx120_5, hx120_6, hx120_7, hx120_8, hx120_9⟩ := at_T33 HR0.out x6_1 p120 q120
              obtain rfl : ad119 = ad120 := (by injection e120)
              replace hx120_0 := (HB.out.cell (World.block_lt_of_cell? w _ hx120_0)).trans hx120_0
              replace hx120_1 := (HB.out.cell (World.block_lt_of_cell? w _ hx120_1)).trans hx120_1
              replace hx120_2 := (HB.out.cell (World.block_lt_of_cell? w _ hx120_2)).trans hx120_2
              replace hx120_3 := (HB.out.cell (World.block_lt_of_cell? w _ hx120_3)).trans hx120_3
              replace hx120_4 := (HB.out.cell (World.block_lt_of_cell? w _ hx120_4)).trans hx120_4
              replace hx120_5 := (HB.out.cell (World.block_lt_of_cell? w _ hx120_5)).trans hx120_5
              replace hx120_6 := (HB.out.cell (World.block_lt_of_cell? w _ hx120_6)).trans hx120_6
              replace hx120_7 := (HB.out.cell (World.block_lt_of_cell? w _ hx120_7)).trans hx120_7
              replace hx120_8 := (HB.out.cell (World.block_lt_of_cell? w _ hx120_8)).trans hx120_8
              replace hx120_9 := (HB.out.cell (World.block_lt_of_cell? w _ hx120_9)).trans hx120_9
              replace p120 := eq_true p120
              replace q120 := eq_true q120
              have hcz8_0 : wr.cell? ⟨gb118, 0, none⟩ = some (.string x119000_1) := (blk_cell BK118.out 0).trans rfl
              have hcz8_1 : wr.cell? ⟨gb118, 1, none⟩ = some (.int .i64 x119001_1) := (blk_cell BK118.out 1).trans rfl
              have hcz8_2 : wr.cell? ⟨gb118, 2, none⟩ = some (.int .u32 x119002_1) := (blk_cell BK118.out 2).trans rfl
              have hcz8_3 : wr.cell? ⟨gb118, 3, none⟩ = some (.int .u32 x119003_1) := (blk_cell BK118.out 3).trans rfl
              have hcz8_4 : wr.cell? ⟨gb118, 4, none⟩ = some (.int .u32 x119004_1) := (blk_cell BK118.out 4).trans rfl
              have hcz8_5 : wr.cell? ⟨gb118, 5, none⟩ = some (.int .i64 x119005_1) := (blk_cell BK118.out 5).trans rfl
              have hcz8_6 : wr.cell? ⟨gb118, 6, none⟩ = some (.int .i32 x119006_1) := (blk_cell BK118.out 6).trans rfl
              have hcz8_7 : wr.cell? ⟨gb118, 7, none⟩ = some (.int .i64 x119007_1) := (blk_cell BK118.out 7).trans rfl
              have hcz8_8 : wr.cell? ⟨gb118, 8, none⟩ = some (.int .u64 x119008_1) := (blk_cell BK118.out 8).trans rfl
              have hcz8_9 : wr.cell? ⟨gb118, 9, none⟩ = some (.string x119009_1) := (blk_cell BK118.out 9).trans rfl
              have hfz8_0 := blk_frozen BK118.out 0
              have hfz8_1 := blk_frozen BK118.out 1
              have hfz8_2 := blk_frozen BK118.out 2
              have hfz8_3 := blk_frozen BK118.out 3
              have hfz8_4 := blk_frozen BK118.out 4
              have hfz8_5 := blk_frozen BK118.out 5
              have hfz8_6 := blk_frozen BK118.out 6
              have hfz8_7 := blk_frozen BK118.out 7
              have hfz8_8 := blk_frozen BK118.out 8
              have hfz8_9 := blk_frozen BK118.out 9
              go_wp2
              refine bodyPost_ret (results_ct rfl _ _ gb118 33 #[.string ((rd_T33 l0 x6_1).f0), .int .i64 ((rd_T33 l0 x6_1).f1), .int .u32 ((rd_T33 l0 x6_1).f2.f0), .int .u32 ((rd_T33 l0 x6_1).f2.f1), .int .u32 ((rd_T33 l0 x6_1).f2.f2), .int .i64 ((rd_T33 l0 x6_1).f2.f3), .int .i32 ((rd_T33 l0 x6_1).f2.f4), .int .i64 ((rd_T33 l0 x6_1).f3), .int .u64 ((rd_T33 l0 x6_1).f4), .string ((rd_T33 l0 x6_1).f5)] (0, 0) _ rfl (by (with_reducible repeat (first | refine blk_drewN ?_ _ | refine blk_drew ?_ | refine blk_alloc ?_ _)); refine blk_put (cs := #[.string ((rd_T33 l0 x6_1).f0), .int .i64 ((rd_T33 l0 x6_1).f1), .int .u32 ((rd_T33 l0 x6_1).f2.f0), .int .u32 ((rd_T33 l0 x6_1).f2.f1), .int .u32 ((rd_T33 l0 x6_1).f2.f2), .int .i64 ((rd_T33 l0 x6_1).f2.f3), .int .i32 ((rd_T33 l0 x6_1).f2.f4), .int .i64 ((rd_T33 l0 x6_1).f3), .int .u64 ((rd_T33 l0 x6_1).f4), .string x119009_1]) ?_ 9 _ rfl; (with_reducible repeat (first | refine blk_drewN ?_ _ | refine blk_drew ?_ | refine blk_alloc ?_ _)); refine blk_put (cs := #[.string ((rd_T33 l0 x6_1).f0), .int .i64 ((rd_T33 l0 x6_1).f1), .int .u32 ((rd_T33 l0 x6_1).f2.f0), .int .u32 ((rd_T33 l0 x6_1).f2.f1), .int .u32 ((rd_T33 l0 x6_1).f2.f2), .int .i64 ((rd_T33 l0 x6_1).f2.f3), .int .i32 ((rd_T33 l0 x6_1).f2.f4), .int .i64 ((rd_T33 l0 x6_1).f3), .int .u64 x119008_1, .string x119009_1]) ?_ 8 _ rfl; (with_reducible repeat (first | refine blk_drewN ?_ _ | refine blk_drew ?_ | refine blk_alloc ?_ _)); refine blk_put (cs := #[.string ((rd_T33 l0 x6_1).f0), .int .i64 ((rd_T33 l0 x6_1).f1), .int .u32 ((rd_T33 l0 x6_1).f2.f0), .int .u32 ((rd_T33 l0 x6_1).f2.f1), .int .u32 ((rd_T33 l0 x6_1).f2.f2), .int .i64 ((rd_T33 l0 x6_1).f2.f3), .int .i32 ((rd_T33 l0 x6_1).f2.f4), .int .i64 x119007_1, .int .u64 x119008_1, .string x119009_1]) ?_ 7 _ rfl; (with_reducible repeat (first | refine blk_drewN ?_ _ | refine blk_drew ?_ | refine blk_alloc ?_ _)); refine blk_put (cs := #[.string ((rd_T33 l0 x6_1).f0), .int .i64 ((rd_T33 l0 x6_1).f1), .int .u32 ((rd_T33 l0 x6_1).f2.f0), .int .u32 ((rd_T33 l0 x6_1).f2.f1), .int .u32 ((rd_T33 l0 x6_1).f2.f2), .int .i64 ((rd_T33 l0 x6_1).f2.f3), .int .i32 x119006_1, .int .i64 x119007_1, .int .u64 x119008_1, .string x119009_1]) ?_ 6 _ rfl; (with_reducible repeat (first | refine blk_drewN ?_ _ | refine blk_drew ?_ | refine blk_alloc ?_ _)); refine blk_put (cs := #[.string ((rd_T33 l0 x6_1).f0), .int .i64 ((rd_T33 l0 x6_1).f1), .int .u32 ((rd_T33 l0 x6_1).f2.f0), .int .u32 ((rd_T33 l0 x6_1).f2.f1), .int .u32 ((rd_T33 l0 x6_1).f2.f2), .int .i64 x119005_1, .int .i32 x119006_1, .int .i64 x119007_1, .int .u64 x119008_1, .string x119009_1]) ?_ 5 _ rfl; (with_reducible repeat (first | refine blk_drewN ?_ _ | refine blk_drew ?_ | refine blk_alloc ?_ _)); refine blk_put (cs := #[.string ((rd_T33 l0 x6_1).f0), .int .i64 ((rd_T33 l0 x6_1).f1), .int .u32 ((rd_T33 l0 x6_1).f2.f0), .int .u32 ((rd_T33 l0 x6_1).f2.f1), .int .u32 x119004_1, .int .i64 x119005_1, .int .i32 x119006_1, .int .i64 x119007_1, .int .u64 x119008_1, .string x119009_1]) ?_ 4 _ rfl; (with_reducible repeat (first | refine blk_drewN ?_ _ | refine blk_drew ?_ | refine blk_alloc ?_ _)); refine blk_put (cs := #[.string ((rd_T33 l0 x6_1).f0), .int .i64 ((rd_T33 l0 x6_1).f1), .int .u32 ((rd_T33 l0 x6_1).f2.f0), .int .u32 x119003_1, .int .u32 x119004_1, .int .i64 x119005_1, .int .i32 x119006_1, .int .i64 x119007_1, .int .u64 x119008_1, .string x119009_1]) ?_ 3 _ rfl; (with_reducible repeat (first | refine blk_drewN ?_ _ | refine blk_drew ?_ | refine blk_alloc ?_ _)); refine blk_put (cs := #[.string ((rd_T33 l0 x6_1).f0), .int .i64 ((rd_T33 l0 x6_1).f1), .int .u32 x119002_1, .int .u32 x119003_1, .int .u32 x119004_1, .int .i64 x119005_1, .int .i32 x119006_1, .int .i64 x119007_1, .int .u64 x119008_1, .string x119009_1]) ?_ 2 _ rfl; (with_reducible repeat (first | refine blk_drewN ?_ _ | refine blk_drew ?_ | refine blk_alloc ?_ _)); refine blk_put (cs := #[.string ((rd_T33 l0 x6_1).f0), .int .i64 x119001_1, .int .u32 x119002_1, .int .u32 x119003_1, .int .u32 x119004_1, .int .i64 x119005_1, .int .i32 x119006_1, .int .i64 x119007_1, .int .u64 x119008_1, .string x119009_1]) ?_ 1 _ rfl; (with_reducible repeat (first | refine blk_drewN ?_ _ | refine blk_drew ?_ | refine blk_alloc ?_ _)); refine blk_put (cs := #[.string x119000_1, .int .i64 x119001_1, .int .u32 x119002_1, .int .u32 x119003_1, .int .u32 x119004_1, .int .i64 x119005_1, .int .i32 x119006_1, .int .i64 x119007_1, .int .u64 x119008_1, .string x119009_1]) ?_ 0 _ rfl; (with_reducible repeat (first | refine blk_drewN ?_ _ | refine blk_drew ?_ | refine blk_alloc ?_ _)); exact BK118.out) Try.underlying33 rfl (by kernel_rfl)) rfl ?_
              exact ⟨by first | rfl | (simp [errW_none, errW_some] <;> rfl) | (simp [*, errW_none, errW_some] <;> rfl), by repeat (first | (with_reducible first | exact HB.out | apply below_alloc | apply pw_below_drewN | apply below_drew1 | refine below_set ?_ GE118.out) | exact HB.out)⟩
            · rw [if_neg c7] at H
              have c7b0 : (((rd_T33 l0 x6_1).f0).toList == a1.toList) = false := beq_eq_false_iff_ne.mpr c7
              have c7b1 : (((rd_T33 l0 x6_1).f0).toList != a1.toList) = true := bne_iff_ne.mpr c7
              have H' := Aside0.mk H
              clear H
              have p119 : 0 ≤ (x6_1 : Int) := of_decide_eq_true (by first | (with_reducible assumption) | assumption)
              have q119 : x6_1 < (l0.length : Int) := of_decide_eq_true (by first | (with_reducible assumption) | assumption)
              obtain ⟨ad119, e119, hx119_0, hx119_1, hx119_2, hx119_3, hx119_4, hx119_5, hx119_6, hx119_7, hx119_8, hx119_9⟩ := at_T33 HR0.out x6_1 p119 q119
              cases e119
              replace hx119_0 := (HB.out.cell (World.block_lt_of_cell? w _ hx119_0)).trans hx119_0
              replace hx119_1 := (HB.out.cell (World.block_lt_of_cell? w _ hx119_1)).trans hx119_1
              replace hx119_2 := (HB.out.cell (World.block_lt_of_cell? w _ hx119_2)).trans hx119_2
              replace hx119_3 := (HB.out.cell (World.block_lt_of_cell? w _ hx119_3)).trans hx119_3
              replace hx119_4 := (HB.out.cell (World.block_lt_of_cell? w _ hx119_4)).trans hx119_4
              replace hx119_5 := (HB.out.cell (World.block_lt_of_cell? w _ hx119_5)).trans hx119_5
              replace hx119_6 := (HB.out.cell (World.block_lt_of_cell? w _ hx119_6)).trans hx119_6
              replace hx119_7 := (HB.out.cell (World.block_lt_of_cell? w _ hx119_7)).trans hx119_7
              replace hx119_8 := (HB.out.cell (World.block_lt_of_cell? w _ hx119_8)).trans hx119_8
              replace hx119_9 := (HB.out.cell (World.block_lt_of_cell? w _ hx119_9)).trans hx119_9
              replace p119 := eq_true p119
              replace q119 := eq_true q119
              go_wp2
              go_roundg k1
              case measure => have := HK1.out; omega
              case rel => exact ⟨(wrap64 (x6_1 - 1)), (x119000_1), (x119001_1), (x119002_1), (x119003_1), (x119004_1), (x119005_1), (x119006_1), (x119007_1), (x119008_1), (x119009_1), (by first | rfl | (simp; done) | (simp [*]; done) | (simp; unfold wrap64; rfl)), H', ⟨by have := HK1.out; omega⟩, ⟨by (with_reducible repeat (first | refine blk_drewN ?_ _ | refine blk_drew ?_ | refine blk_alloc ?_ _)); exact BK118.out⟩, ⟨by repeat (first | (with_reducible first | exact HB.out | apply below_alloc | apply pw_below_drewN | apply below_drew1 | refine below_set ?_ GE118.out) | exact HB.out)⟩⟩
          · rw [if_neg c6] at H
            exact absurd H (by simp)
        · rw [if_neg c5] at H
          exact absurd H (by simp)
      · rw [if_neg c4] at H
        have c4b0 : decide (0 ≤ x6_1) = false := decide_eq_false c4
        clear c4
        simp only [Option.some.injEq, Prod.mk.injEq] at H
        obtain ⟨rfl, rfl, rfl, rfl, rfl, rfl, rfl, rfl, rfl, rfl, rfl⟩ := H
        have hcz9_0 : wr.cell? ⟨gb118, 0, none⟩ = some (.string x119000_1) := (blk_cell BK118.out 0).trans rfl
        have hcz9_1 : wr.cell? ⟨gb118, 1, none⟩ = some (.int .i64 x119001_1) := (blk_cell BK118.out 1).trans rfl
        have hcz9_2 : wr.cell? ⟨gb118, 2, none⟩ = some (.int .u32 x119002_1) := (blk_cell BK118.out 2).trans rfl
        have hcz9_3 : wr.cell? ⟨gb118, 3, none⟩ = some (.int .u32 x119003_1) := (blk_cell BK118.out 3).trans rfl
        have hcz9_4 : wr.cell? ⟨gb118, 4, none⟩ = some (.int .u32 x119004_1) := (blk_cell BK118.out 4).trans rfl
        have hcz9_5 : wr.cell? ⟨gb118, 5, none⟩ = some (.int .i64 x119005_1) := (blk_cell BK118.out 5).trans rfl
        have hcz9_6 : wr.cell? ⟨gb118, 6, none⟩ = some (.int .i32 x119006_1) := (blk_cell BK118.out 6).trans rfl
        have hcz9_7 : wr.cell? ⟨gb118, 7, none⟩ = some (.int .i64 x119007_1) := (blk_cell BK118.out 7).trans rfl
        have hcz9_8 : wr.cell? ⟨gb118, 8, none⟩ = some (.int .u64 x119008_1) := (blk_cell BK118.out 8).trans rfl
        have hcz9_9 : wr.cell? ⟨gb118, 9, none⟩ = some (.string x119009_1) := (blk_cell BK118.out 9).trans rfl
        have hfz9_0 := blk_frozen BK118.out 0
        have hfz9_1 := blk_frozen BK118.out 1
        have hfz9_2 := blk_frozen BK118.out 2
        have hfz9_3 := blk_frozen BK118.out 3
        have hfz9_4 := blk_frozen BK118.out 4
        have hfz9_5 := blk_frozen BK118.out 5
        have hfz9_6 := blk_frozen BK118.out 6
        have hfz9_7 := blk_frozen BK118.out 7
        have hfz9_8 := blk_frozen BK118.out 8
        have hfz9_9 := blk_frozen BK118.out 9
        go_wp2
        refine bodyPost_ret (results_ct rfl _ _ gb118 33 #[.string (⟨#[]⟩ : ByteArray), .int .i64 0, .int .u32 0, .int .u32 0, .int .u32 0, .int .i64 0, .int .i32 0, .int .i64 0, .int .u64 0, .string (⟨#[]⟩ : ByteArray)] (0, 0) _ rfl (by (with_reducible repeat (first | refine blk_drewN ?_ _ | refine blk_drew ?_ | refine blk_alloc ?_ _)); refine blk_put (cs := #[.string (⟨#[]⟩ : ByteArray), .int .i64 0, .int .u32 0, .int .u32 0, .int .u32 0, .int .i64 0, .int .i32 0, .int .i64 0, .int .u64 0, .string x119009_1]) ?_ 9 _ rfl; (with_reducible repeat (first | refine blk_drewN ?_ _ | refine blk_drew ?_ | refine blk_alloc ?_ _)); refine blk_put (cs := #[.string (⟨#[]⟩ : ByteArray), .int .i64 0, .int .u32 0, .int .u32 0, .int .u32 0, .int .i64 0, .int .i32 0, .int .i64 0, .int .u64 x119008_1, .string x119009_1]) ?_ 8 _ rfl; (with_reducible repeat (first | refine blk_drewN ?_ _ | refine blk_drew ?_ | refine blk_alloc ?_ _)); refine blk_put (cs := #[.string (⟨#[]⟩ : ByteArray), .int .i64 0, .int .u32 0, .int .u32 0, .int .u32 0, .int .i64 0, .int .i32 0, .int .i64 x119007_1, .int .u64 x119008_1, .string x119009_1]) ?_ 7 _ rfl; (with_reducible repeat (first | refine blk_drewN ?_ _ | refine blk_drew ?_ | refine blk_alloc ?_ _)); refine blk_put (cs := #[.string (⟨#[]⟩ : ByteArray), .int .i64 0, .int .u32 0, .int .u32 0, .int .u32 0, .int .i64 0, .int .i32 x119006_1, .int .i64 x119007_1, .int .u64 x119008_1, .string x119009_1]) ?_ 6 _ rfl; (with_reducible repeat (first | refine blk_drewN ?_ _ | refine blk_drew ?_ | refine blk_alloc ?_ _)); refine blk_put (cs := #[.string (⟨#[]⟩ : ByteArray), .int .i64 0, .int .u32 0, .int .u32 0, .int .u32 0, .int .i64 x119005_1, .int .i32 x119006_1, .int .i64 x119007_1, .int .u64 x119008_1, .string x119009_1]) ?_ 5 _ rfl; (with_reducible repeat (first | refine blk_drewN ?_ _ | refine blk_drew ?_ | refine blk_alloc ?_ _)); refine blk_put (cs := #[.string (⟨#[]⟩ : ByteArray), .int .i64 0, .int .u32 0, .int .u32 0, .int .u32 x119004_1, .int .i64 x119005_1, .int .i32 x119006_1, .int .i64 x119007_1, .int .u64 x119008_1, .string x119009_1]) ?_ 4 _ rfl; (with_reducible repeat (first | refine blk_drewN ?_ _ | refine blk_drew ?_ | refine blk_alloc ?_ _)); refine blk_put (cs := #[.string (⟨#[]⟩ : ByteArray), .int .i64 0, .int .u32 0, .int .u32 x119003_1, .int .u32 x119004_1, .int .i64 x119005_1, .int .i32 x119006_1, .int .i64 x119007_1, .int .u64 x119008_1, .string x119009_1]) ?_ 3 _ rfl; (with_reducible repeat (first | refine blk_drewN ?_ _ | refine blk_drew ?_ | refine blk_alloc ?_ _)); refine blk_put (cs := #[.string (⟨#[]⟩ : ByteArray), .int .i64 0, .int .u32 x119002_1, .int .u32 x119003_1, .int .u32 x119004_1, .int .i64 x119005_1, .int .i32 x119006_1, .int .i64 x119007_1, .int .u64 x119008_1, .string x119009_1]) ?_ 2 _ rfl; (with_reducible repeat (first | refine blk_drewN ?_ _ | refine blk_drew ?_ | refine blk_alloc ?_ _)); refine blk_put (cs := #[.string (⟨#[]⟩ : ByteArray), .int .i64 x119001_1, .int .u32 x119002_1, .int .u32 x119003_1, .int .u32 x119004_1, .int .i64 x119005_1, .int .i32 x119006_1, .int .i64 x119007_1, .int .u64 x119008_1, .string x119009_1]) ?_ 1 _ rfl; (with_reducible repeat (first | refine blk_drewN ?_ _ | refine blk_drew ?_ | refine blk_alloc ?_ _)); refine blk_put (cs := #[.string x119000_1, .int .i64 x119001_1, .int .u32 x119002_1, .int .u32 x119003_1, .int .u32 x119004_1, .int .i64 x119005_1, .int .i32 x119006_1, .int .i64 x119007_1, .int .u64 x119008_1, .string x119009_1]) ?_ 0 _ rfl; (with_reducible repeat (first | refine blk_drewN ?_ _ | refine blk_drew ?_ | refine blk_alloc ?_ _)); exact BK118.out) Try.underlying33 rfl (by kernel_rfl)) rfl ?_
        exact ⟨by first | rfl | (simp [errW_none, errW_some] <;> rfl) | (simp [*, errW_none, errW_some] <;> rfl), by repeat (first | (with_reducible first | exact HB.out | apply below_alloc | apply pw_below_drewN | apply below_drew1 | refine below_set ?_ GE118.out) | exact HB.out)⟩

end Go.Proofs.Ytncnnbabokkafaa.PCompareChanges
