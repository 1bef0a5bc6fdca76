-- WRITTEN BY wip/xprint.py, a program of the proving session round the kit's print.py; Lean checks it.
import Derived.Test.YtpaghdfnhlpngaaDoorPPaxPairsx0
import Derived.Test.YtpaghdfnhlpngaaDoorPPaxPairsx3
import Derived.Test.YtpaghdfnhlpngaaDoorPPaxPairsx4
import Derived.Test.YtpaghdfnhlpngaaDoorPPaxPairsx5
namespace Go.Proofs.YtpaghdfnhlpngaaDoor.PPaxPairs
open Go.Proofs.YtpaghdfnhlpngaaDoorX
open Go.RowKit Go.Proofs.YtpaghdfnhlpngaaDoorW.PrintWords Go.Proofs.YtpaghdfnhlpngaaDoorW.PrintLast Go.Proofs.YtpaghdfnhlpngaaDoorW.PrintMore
attribute [local go_sem] str_leq str_gtr max2_int min2_int max_two min_two max_three min_three max_four min_four   -- for this text's walks alone
set_option linter.unusedVariables false
set_option linter.unusedSimpArgs false

/-! ### pax_Print: function 7 -/
mutual
def pax_Print.l0 : Nat → List (S36) → List (S36) → Int → Int → Option (List Int × Int)
  | 0, _, _, _, _ => none
  | k + 1, x0, x11, x12, x13 => if x13 < x12 then (if 0 ≤ x13 then (if x13 < (x11.length : Int) then (if ((rd_T36 x11 x13).f0).toList = ([] : List UInt8) then (some (([] : List Int), 141)) else ((strings_ContainsAny.f ((rd_T36 x11 x13).f0) (⟨#[61, 0]⟩ : ByteArray)).bind fun t112 => (if t112 = true then (some (([] : List Int), 141)) else ((strings_IndexByte.f ((rd_T36 x11 x13).f1) 0).bind fun t113 => (if t113 ≥ 0 then (some (([] : List Int), 141)) else (pax_Print.l0 k x0 x11 x12 (wrap64 (x13 + 1)))))))) else (none)) else (none)) else (pax_Print.l1 k ([] : List Int) x0 (x0.length : Int) 0)
def pax_Print.l1 : Nat → List Int → List (S36) → Int → Int → Option (List Int × Int)
  | 0, _, _, _, _ => none
  | k + 1, x6, x32, x33, x34 => if x34 < x33 then (if 0 ≤ x34 then (if x34 < (x32.length : Int) then (pax_Print.l2 k x6 (wrap64 ((wrap64 ((((rd_T36 x32 x34).f0).size : Int) + (((rd_T36 x32 x34).f1).size : Int))) + 3)) (wrap64 ((wrap64 ((wrap64 ((((rd_T36 x32 x34).f0).size : Int) + (((rd_T36 x32 x34).f1).size : Int))) + 3)) + 1)) x32 x33 x34 ((rd_T36 x32 x34).f0) ((rd_T36 x32 x34).f1)) else (none)) else (none)) else (some (x6, 0))
def pax_Print.l2 : Nat → List Int → Int → Int → List (S36) → Int → Int → ByteArray → ByteArray → Option (List Int × Int)
  | 0, _, _, _, _, _, _, _, _ => none
  | k + 1, x6, x9, x10, x32, x33, x34, x116000, x116001 => (strconv_Itoa.f x10).bind fun t116 => (if (t116.size : Int) = (wrap64 (x10 - x9)) then (if (wrap64 (x10 - x9)) > 7 then (some (([] : List Int), 2)) else ((strconv_Itoa.f x10).bind fun t117 => (if t117.size + 1 ≤ 9223372036854775807 then (if (t117 ++ (⟨#[32]⟩ : ByteArray)).size + x116000.size ≤ 9223372036854775807 then (if ((t117 ++ (⟨#[32]⟩ : ByteArray)) ++ x116000).size + 1 ≤ 9223372036854775807 then (if (((t117 ++ (⟨#[32]⟩ : ByteArray)) ++ x116000) ++ (⟨#[61]⟩ : ByteArray)).size + x116001.size ≤ 9223372036854775807 then (if ((((t117 ++ (⟨#[32]⟩ : ByteArray)) ++ x116000) ++ (⟨#[61]⟩ : ByteArray)) ++ x116001).size + 1 ≤ 9223372036854775807 then (if x6.length + (((((t117 ++ (⟨#[32]⟩ : ByteArray)) ++ x116000) ++ (⟨#[61]⟩ : ByteArray)) ++ x116001) ++ (⟨#[10]⟩ : ByteArray)).size < 140737488355328 then (pax_Print.l1 k (x6 ++ bytesOf (((((t117 ++ (⟨#[32]⟩ : ByteArray)) ++ x116000) ++ (⟨#[61]⟩ : ByteArray)) ++ x116001) ++ (⟨#[10]⟩ : ByteArray))) x32 x33 (wrap64 (x34 + 1))) else (none)) else (none)) else (none)) else (none)) else (none)) else (none)))) else (if (wrap64 (x10 - x9)) ≤ 7 then (pax_Print.l2 k x6 x9 (wrap64 (x10 + 1)) x32 x33 x34 x116000 x116001) else (if (wrap64 (x10 - x9)) > 7 then (some (([] : List Int), 2)) else ((strconv_Itoa.f x10).bind fun t121 => (if t121.size + 1 ≤ 9223372036854775807 then (if (t121 ++ (⟨#[32]⟩ : ByteArray)).size + x116000.size ≤ 9223372036854775807 then (if ((t121 ++ (⟨#[32]⟩ : ByteArray)) ++ x116000).size + 1 ≤ 9223372036854775807 then (if (((t121 ++ (⟨#[32]⟩ : ByteArray)) ++ x116000) ++ (⟨#[61]⟩ : ByteArray)).size + x116001.size ≤ 9223372036854775807 then (if ((((t121 ++ (⟨#[32]⟩ : ByteArray)) ++ x116000) ++ (⟨#[61]⟩ : ByteArray)) ++ x116001).size + 1 ≤ 9223372036854775807 then (if x6.length + (((((t121 ++ (⟨#[32]⟩ : ByteArray)) ++ x116000) ++ (⟨#[61]⟩ : ByteArray)) ++ x116001) ++ (⟨#[10]⟩ : ByteArray)).size < 140737488355328 then (pax_Print.l1 k (x6 ++ bytesOf (((((t121 ++ (⟨#[32]⟩ : ByteArray)) ++ x116000) ++ (⟨#[61]⟩ : ByteArray)) ++ x116001) ++ (⟨#[10]⟩ : ByteArray))) x32 x33 (wrap64 (x34 + 1))) else (none)) else (none)) else (none)) else (none)) else (none)) else (none))))))
end
def pax_Print.f (k : Nat) (l0 : List (S36)) : Option (List Int × Int) := pax_Print.l0 k l0 l0 (l0.length : Int) 0
theorem pax_Print.mono_l : ∀ k, (∀ y0 y1 y2 y3, LeO (pax_Print.l0 k y0 y1 y2 y3) (pax_Print.l0 (k + 1) y0 y1 y2 y3)) ∧ (∀ y0 y1 y2 y3, LeO (pax_Print.l1 k y0 y1 y2 y3) (pax_Print.l1 (k + 1) y0 y1 y2 y3)) ∧ (∀ y0 y1 y2 y3 y4 y5 y6 y7, LeO (pax_Print.l2 k y0 y1 y2 y3 y4 y5 y6 y7) (pax_Print.l2 (k + 1) y0 y1 y2 y3 y4 y5 y6 y7))
  | 0 => ⟨fun _ _ _ _ r h => by simp [pax_Print.l0] at h, fun _ _ _ _ r h => by simp [pax_Print.l1] at h, fun _ _ _ _ _ _ _ _ r h => by simp [pax_Print.l2] at h⟩
  | k + 1 => by
    obtain ⟨ih0, ih1, ih2⟩ := pax_Print.mono_l k
    refine ⟨?_, ?_, ?_⟩
    · intro y0 y1 y2 y3
      unfold pax_Print.l0
      repeat' first
      | (with_reducible exact ih0 _ _ _ _)
      | (with_reducible exact ih1 _ _ _ _)
      | (with_reducible exact ih2 _ _ _ _ _ _ _ _)
      | (with_reducible exact LeO.refl _)
      | (with_reducible exact LeO.none _)
      | (with_reducible refine LeO.ite ?_ ?_)
      | (with_reducible refine LeO.bind ?_ (fun _ => ?_))
      | exact ih0 _ _ _ _
      | exact ih1 _ _ _ _
      | exact ih2 _ _ _ _ _ _ _ _
      | exact LeO.none _
      | refine LeO.ite ?_ ?_
      | refine LeO.bind ?_ (fun _ => ?_)
    · intro y0 y1 y2 y3
      unfold pax_Print.l1
      repeat' first
      | (with_reducible exact ih0 _ _ _ _)
      | (with_reducible exact ih1 _ _ _ _)
      | (with_reducible exact ih2 _ _ _ _ _ _ _ _)
      | (with_reducible exact LeO.refl _)
      | (with_reducible exact LeO.none _)
      | (with_reducible refine LeO.ite ?_ ?_)
      | (with_reducible refine LeO.bind ?_ (fun _ => ?_))
      | exact ih0 _ _ _ _
      | exact ih1 _ _ _ _
      | exact ih2 _ _ _ _ _ _ _ _
      | exact LeO.none _
      | refine LeO.ite ?_ ?_
      | refine LeO.bind ?_ (fun _ => ?_)
    · intro y0 y1 y2 y3 y4 y5 y6 y7
      unfold pax_Print.l2
      repeat' first
      | (with_reducible exact ih0 _ _ _ _)
      | (with_reducible exact ih1 _ _ _ _)
      | (with_reducible exact ih2 _ _ _ _ _ _ _ _)
      | (with_reducible exact LeO.refl _)
      | (with_reducible exact LeO.none _)
      | (with_reducible refine LeO.ite ?_ ?_)
      | (with_reducible refine LeO.bind ?_ (fun _ => ?_))
      | exact ih0 _ _ _ _
      | exact ih1 _ _ _ _
      | exact ih2 _ _ _ _ _ _ _ _
      | exact LeO.none _
      | refine LeO.ite ?_ ?_
      | refine LeO.bind ?_ (fun _ => ?_)
theorem pax_Print.mono : ∀ a0 k, LeO (pax_Print.f k a0) (pax_Print.f (k + 1) a0) := by
  intro a0 k
  obtain ⟨ih0, ih1, ih2⟩ := pax_Print.mono_l k
  unfold pax_Print.f
  repeat' first
      | (with_reducible exact ih0 _ _ _ _)
      | (with_reducible exact ih1 _ _ _ _)
      | (with_reducible exact ih2 _ _ _ _ _ _ _ _)
      | (with_reducible exact LeO.refl _)
      | (with_reducible exact LeO.none _)
      | (with_reducible refine LeO.ite ?_ ?_)
      | (with_reducible refine LeO.bind ?_ (fun _ => ?_))
      | exact ih0 _ _ _ _
      | exact ih1 _ _ _ _
      | exact ih2 _ _ _ _ _ _ _ _
      | exact LeO.none _
      | refine LeO.ite ?_ ?_
      | refine LeO.bind ?_ (fun _ => ?_)
def pax_Print.T17 : Bool × List (List Nat × List Nat) := (true, [([], []), ([], []), ([1], [1]), ([2], [2]), ([], []), ([4], [4]), ([3, 5], [3, 5]), ([6], [6]), ([], []), ([8], [8]), ([7, 9], [7, 9]), ([10], [10]), ([0, 11, 2], [0, 11]), ([12, 12, 0, 1, 2, 3, 4, 5, 6, 7, 8, 9, 10, 11, 12], [0, 12])])
def pax_Print.B17 : List Nat := [0, 0, 2, 6, 0, 16, 62, 126, 0, 256, 1022, 2046, 4095, 8191]
theorem pax_Print.tab17 : rtab .any (opsOf Tryd.f7 17) = pax_Print.T17 := by kernel_rfl
theorem pax_Print.bits17 : waitsOk pax_Print.T17.2 pax_Print.B17 = true := by kernel_rfl
set_option maxHeartbeats 8000000 in
set_option maxRecDepth 100000 in
theorem pax_Print.calls (k : Nat) (A0 : Option Addr) (c0 : Nat) (l0 : List (S36)) (r1 : List Int) (r2 : Int) (w : World) (hG : Gv w) (hr0 : Kd.C k36 w A0 l0.length l0) (hc0 : l0.length ≤ c0) (h : pax_Print.f k l0 = some (r1, r2)) :
    Calls Tryd.prog 7 #[.slice A0 l0.length c0] w fun e w' => ∃ v0_ : Value, e = .returned (.tuple #[v0_, .int .i64 r2]) ∧ Kd.R (Kd.int .u8) 5 w' w.heap.size (fun _ => True) v0_ r1 ∧ Below w.heap.size w w' := by
  have hu36 := Tryd.underlying36
  have HR0 := Aside0.mk hr0
  have HC0 := Aside0.mk hc0
  clear hr0 hc0
  have HB := Aside0.mk (Below.refl w.heap.size w)
  have HG := Aside0.mk hG
  clear hG
  have H : (pax_Print.l0 k l0 l0 (l0.length : Int) 0) = some (r1, r2) := h
  clear h
  have H' := Aside0.mk H
  clear H
  go_enter Tryd.func7, Tryd.ntmps7
  go_wp2
  go_loopg [13] k (fun kq v13 w' => ∃ (x13_1 : Int), v13 = .int .i64 x13_1 ∧ Aside0 (pax_Print.l0 kq l0 l0 (l0.length : Int) x13_1 = some (r1, r2)) ∧ Aside0 (kq ≤ k) ∧ Aside0 (Below w.heap.size w w'))
  case atStart => exact ⟨(0), (by first | rfl | (simp; done) | (simp [*]; done)), H', ⟨Nat.le_refl _⟩, ⟨by repeat (first | (with_reducible first | exact HB.out | apply below_alloc | apply pw_below_drewN | apply below_drew1) | exact HB.out)⟩⟩
  case round =>
    clear H'
    obtain ⟨x13_1, rfl, HA, HK1, HB⟩ := hrel
    cases gk with
    | zero => exact absurd HA.out (by simp [pax_Print.l0])
    | succ k1 =>
      have H := HA.out
      clear HA
      simp only [pax_Print.l0] at H
      by_cases c2 : x13_1 < (l0.length : Int)
      · rw [if_pos c2] at H
        have c2b0 : decide (x13_1 < (l0.length : Int)) = true := decide_eq_true c2
        clear c2
        by_cases c3 : 0 ≤ x13_1
        · rw [if_pos c3] at H
          have c3b0 : decide (0 ≤ x13_1) = true := decide_eq_true c3
          clear c3
          by_cases c4 : x13_1 < (l0.length : Int)
          · rw [if_pos c4] at H
            have c4b0 : decide (x13_1 < (l0.length : Int)) = true := decide_eq_true c4
            clear c4
            by_cases c5 : ((rd_T36 l0 x13_1).f0).toList = ([] : List UInt8)
            · rw [if_pos c5] at H
              have c5b0 : (((rd_T36 l0 x13_1).f0).toList == ([] : List UInt8)) = true := beq_iff_eq.mpr c5
              have c5be : ((rd_T36 l0 x13_1).f0).toList.isEmpty = true := (show ((rd_T36 l0 x13_1).f0).toList.isEmpty = (((rd_T36 l0 x13_1).f0).toList == ([] : List UInt8)) by cases ((rd_T36 l0 x13_1).f0).toList <;> rfl).trans c5b0
              have c5b1 : (((rd_T36 l0 x13_1).f0).toList != ([] : List UInt8)) = false := bne_eq_false_iff_eq.mpr c5
              clear c5
              simp only [Option.some.injEq, Prod.mk.injEq] at H
              obtain ⟨rfl, rfl⟩ := H
              have p110 : 0 ≤ (x13_1 : Int) := of_decide_eq_true (by first | (with_reducible assumption) | assumption)
              have q110 : x13_1 < (l0.length : Int) := of_decide_eq_true (by first | (with_reducible assumption) | assumption)
              obtain ⟨ad110, e110, hx110_0, hx110_1⟩ := at_T36 HR0.out x13_1 p110 q110
              cases e110
              replace hx110_0 := (HB.out.cell (World.block_lt_of_cell? w _ hx110_0)).trans hx110_0
              replace hx110_1 := (HB.out.cell (World.block_lt_of_cell? w _ hx110_1)).trans hx110_1
              replace p110 := eq_true p110
              replace q110 := eq_true q110
              go_wp2_with (first | ((with_reducible refine gate_dst (N := 5) rfl ?_); refine box_event ?hg (N := 5) ?hd (cs := #[.string (⟨#[]⟩ : ByteArray), .string (⟨#[]⟩ : ByteArray)]) (t := 36) ?hr ?_; (case hd => rfl); (case hg => rfl); (case hr => first | (go_simp; done) | (go_simp; rfl)); intro gb111 hg w6 hbox hb; have n0_ := Aside0.mk (below_step (by repeat (first | (with_reducible first | exact HB.out | apply below_alloc | apply pw_below_drewN | apply below_drew1) | exact HB.out)) hb); have n1_ := Aside0.mk (hbox); have n2_ := Aside0.mk ((by rw [hg]; exact (below_size (by repeat (first | (with_reducible first | exact HB.out | apply below_alloc | apply pw_below_drewN | apply below_drew1) | exact HB.out))) : w.heap.size ≤ gb111)); have n3_ := Aside0.mk ((by rw [hg]; exact (below_size (by repeat (first | (with_reducible first | exact HB.out | apply below_alloc | apply pw_below_drewN | apply below_drew1) | exact HB.out))) : w.heap.size ≤ gb111)); clear HB; have HB := n0_; have BK111 := n1_; have GW111 := n2_; have GE111 := n3_; clear n0_ n1_ n2_ n3_; clear hb hbox hg; have hcz7_0 : w6.cell? ⟨gb111, 0, none⟩ = some (.string (⟨#[]⟩ : ByteArray)) := (blk_cell BK111.out 0).trans rfl; have hcz7_1 : w6.cell? ⟨gb111, 1, none⟩ = some (.string (⟨#[]⟩ : ByteArray)) := (blk_cell BK111.out 1).trans rfl; have hfz7_0 := blk_frozen BK111.out 0; have hfz7_1 := blk_frozen BK111.out 1))
              go_ret2
              exact ⟨_, by first | rfl | (simp [errW_none, errW_some] <;> rfl) | (simp [*, errW_none, errW_some] <;> rfl), by first | exact Kd.R_nil _ _ _ _ _ | exact Kd.N_nil _ _ _ _ _ | exact Kd.V_nil _ _ _ _ _ | exact Kd.Q_nil _ _ _ _ _ | exact Kd.S_nil _ _ _ _ _, by repeat (first | (with_reducible first | exact HB.out | apply below_alloc | apply pw_below_drewN | apply below_drew1 | refine below_set ?_ GE111.out) | exact HB.out)⟩
            · rw [if_neg c5] at H
              have c5b0 : (((rd_T36 l0 x13_1).f0).toList == ([] : List UInt8)) = false := beq_eq_false_iff_ne.mpr c5
              have c5be : ((rd_T36 l0 x13_1).f0).toList.isEmpty = false := (show ((rd_T36 l0 x13_1).f0).toList.isEmpty = (((rd_T36 l0 x13_1).f0).toList == ([] : List UInt8)) by cases ((rd_T36 l0 x13_1).f0).toList <;> rfl).trans c5b0
              have c5b1 : (((rd_T36 l0 x13_1).f0).toList != ([] : List UInt8)) = true := bne_iff_ne.mpr c5
              replace H := Option.bind_eq_some_iff.mp H
              obtain ⟨t112, A80, H⟩ := H
              replace H : (if t112 = true then (some (([] : List Int), 141)) else ((strings_IndexByte.f ((rd_T36 l0 x13_1).f1) 0).bind fun t113 => (if t113 ≥ 0 then (some (([] : List Int), 141)) else (pax_Print.l0 k1 l0 l0 (l0.length : Int) (wrap64 (x13_1 + 1)))))) = some (r1, r2) := H
              have A8 := Aside0.mk A80
              clear A80
              by_cases c9 : t112 = true
              · subst c9
                have H1 : (some (([] : List Int), 141)) = some (r1, r2) := by rw [if_pos rfl] at H; exact H
                clear H
                have H := H1
                clear H1
                simp only [Option.some.injEq, Prod.mk.injEq] at H
                obtain ⟨rfl, rfl⟩ := H
                have p110 : 0 ≤ (x13_1 : Int) := of_decide_eq_true (by first | (with_reducible assumption) | assumption)
                have q110 : x13_1 < (l0.length : Int) := of_decide_eq_true (by first | (with_reducible assumption) | assumption)
                obtain ⟨ad110, e110, hx110_0, hx110_1⟩ := at_T36 HR0.out x13_1 p110 q110
                cases e110
                replace hx110_0 := (HB.out.cell (World.block_lt_of_cell? w _ hx110_0)).trans hx110_0
                replace hx110_1 := (HB.out.cell (World.block_lt_of_cell? w _ hx110_1)).trans hx110_1
                replace p110 := eq_true p110
                replace q110 := eq_true q110
                go_wp2_with (first | ((with_reducible refine gate_dst (N := 5) rfl ?_); refine box_event ?hg (N := 5) ?hd (cs := #[.string (⟨#[]⟩ : ByteArray), .string (⟨#[]⟩ : ByteArray)]) (t := 36) ?hr ?_; (case hd => rfl); (case hg => rfl); (case hr => first | (go_simp; done) | (go_simp; rfl)); intro gb111 hg w10 hbox hb; have n0_ := Aside0.mk (below_step (by repeat (first | (with_reducible first | exact HB.out | apply below_alloc | apply pw_below_drewN | apply below_drew1) | exact HB.out)) hb); have n1_ := Aside0.mk (hbox); have n2_ := Aside0.mk ((by rw [hg]; exact (below_size (by repeat (first | (with_reducible first | exact HB.out | apply below_alloc | apply pw_below_drewN | apply below_drew1) | exact HB.out))) : w.heap.size ≤ gb111)); have n3_ := Aside0.mk ((by rw [hg]; exact (below_size (by repeat (first | (with_reducible first | exact HB.out | apply below_alloc | apply pw_below_drewN | apply below_drew1) | exact HB.out))) : w.heap.size ≤ gb111)); clear HB; have HB := n0_; have BK111 := n1_; have GW111 := n2_; have GE111 := n3_; clear n0_ n1_ n2_ n3_; clear hb hbox hg; have hcz11_0 : w10.cell? ⟨gb111, 0, none⟩ = some (.string (⟨#[]⟩ : ByteArray)) := (blk_cell BK111.out 0).trans rfl; have hcz11_1 : w10.cell? ⟨gb111, 1, none⟩ = some (.string (⟨#[]⟩ : ByteArray)) := (blk_cell BK111.out 1).trans rfl; have hfz11_0 := blk_frozen BK111.out 0; have hfz11_1 := blk_frozen BK111.out 1) | (go_at_call 21; (with_reducible refine (strings_ContainsAny.calls ((rd_T36 l0 x13_1).f0) (⟨#[61, 0]⟩ : ByteArray) true _ ?side1 A8.out).mono ?_); (case side1 => exact Gv_below HG.out (by repeat (first | (with_reducible first | exact HB.out | apply below_alloc | apply pw_below_drewN | apply below_drew1 | refine below_set ?_ GE111.out) | exact HB.out))); rintro e w12 ⟨rfl, hb⟩; have n0_ := Aside0.mk (blk_below (g := gb111) (o := .cells #[.string ((rd_T36 l0 x13_1).f0), .string ((rd_T36 l0 x13_1).f1)] 36 (0, 0)) (by (with_reducible repeat (first | refine blk_drewN ?_ _ | refine blk_drew ?_ | refine blk_alloc ?_ _)); refine blk_put (cs := #[.string ((rd_T36 l0 x13_1).f0), .string (⟨#[]⟩ : ByteArray)]) ?_ 1 _ rfl; (with_reducible repeat (first | refine blk_drewN ?_ _ | refine blk_drew ?_ | refine blk_alloc ?_ _)); refine blk_put (cs := #[.string (⟨#[]⟩ : ByteArray), .string (⟨#[]⟩ : ByteArray)]) ?_ 0 _ rfl; (with_reducible repeat (first | refine blk_drewN ?_ _ | refine blk_drew ?_ | refine blk_alloc ?_ _)); exact BK111.out) hb); have n1_ := Aside0.mk (below_step (by repeat (first | (with_reducible first | exact HB.out | apply below_alloc | apply pw_below_drewN | apply below_drew1 | refine below_set ?_ GE111.out) | exact HB.out)) hb); clear BK111; clear HB; have BK111 := n0_; have HB := n1_; clear n0_ n1_; (try clear hb); (try clear hb2); (try clear hk); (try clear hi)))
                go_ret2
                exact ⟨_, by first | rfl | (simp [errW_none, errW_some] <;> rfl) | (simp [*, errW_none, errW_some] <;> rfl), by first | exact Kd.R_nil _ _ _ _ _ | exact Kd.N_nil _ _ _ _ _ | exact Kd.V_nil _ _ _ _ _ | exact Kd.Q_nil _ _ _ _ _ | exact Kd.S_nil _ _ _ _ _, by repeat (first | (with_reducible first | exact HB.out | apply below_alloc | apply pw_below_drewN | apply below_drew1 | refine below_set ?_ GE111.out) | exact HB.out)⟩
              · replace c9 := Bool.eq_false_iff.mpr c9
                subst c9
                have H1 : ((strings_IndexByte.f ((rd_T36 l0 x13_1).f1) 0).bind fun t113 => (if t113 ≥ 0 then (some (([] : List Int), 141)) else (pax_Print.l0 k1 l0 l0 (l0.length : Int) (wrap64 (x13_1 + 1))))) = some (r1, r2) := by rw [if_neg (show ¬ (false = true) by decide)] at H; exact H
                clear H
                have H := H1
                clear H1
                replace H := Option.bind_eq_some_iff.mp H
                obtain ⟨t113, A130, H⟩ := H
                replace H : (if t113 ≥ 0 then (some (([] : List Int), 141)) else (pax_Print.l0 k1 l0 l0 (l0.length : Int) (wrap64 (x13_1 + 1)))) = some (r1, r2) := H
                have A13 := Aside0.mk A130
                clear A130
                by_cases c14 : t113 ≥ 0
                · rw [if_pos c14] at H
                  have c14b0 : decide (0 ≤ t113) = true := decide_eq_true c14
                  clear c14
                  simp only [Option.some.injEq, Prod.mk.injEq] at H
                  obtain ⟨rfl, rfl⟩ := H
                  have p110 : 0 ≤ (x13_1 : Int) := of_decide_eq_true (by first | (with_reducible assumption) | assumption)
                  have q110 : x13_1 < (l0.length : Int) := of_decide_eq_true (by first | (with_reducible assumption) | assumption)
                  obtain ⟨ad110, e110, hx110_0, hx110_1⟩ := at_T36 HR0.out x13_1 p110 q110
                  cases e110
                  replace hx110_0 := (HB.out.cell (World.block_lt_of_cell? w _ hx110_0)).trans hx110_0
                  replace hx110_1 := (HB.out.cell (World.block_lt_of_cell? w _ hx110_1)).trans hx110_1
                  replace p110 := eq_true p110
                  replace q110 := eq_true q110
                  go_wp2_with (first | ((with_reducible refine gate_dst (N := 5) rfl ?_); refine box_event ?hg (N := 5) ?hd (cs := #[.string (⟨#[]⟩ : ByteArray), .string (⟨#[]⟩ : ByteArray)]) (t := 36) ?hr ?_; (case hd => rfl); (case hg => rfl); (case hr => first | (go_simp; done) | (go_simp; rfl)); intro gb111 hg w15 hbox hb; have n0_ := Aside0.mk (below_step (by repeat (first | (with_reducible first | exact HB.out | apply below_alloc | apply pw_below_drewN | apply below_drew1) | exact HB.out)) hb); have n1_ := Aside0.mk (hbox); have n2_ := Aside0.mk ((by rw [hg]; exact (below_size (by repeat (first | (with_reducible first | exact HB.out | apply below_alloc | apply pw_below_drewN | apply below_drew1) | exact HB.out))) : w.heap.size ≤ gb111)); have n3_ := Aside0.mk ((by rw [hg]; exact (below_size (by repeat (first | (with_reducible first | exact HB.out | apply below_alloc | apply pw_below_drewN | apply below_drew1) | exact HB.out))) : w.heap.size ≤ gb111)); clear HB; have HB := n0_; have BK111 := n1_; have GW111 := n2_; have GE111 := n3_; clear n0_ n1_ n2_ n3_; clear hb hbox hg; have hcz16_0 : w15.cell? ⟨gb111, 0, none⟩ = some (.string (⟨#[]⟩ : ByteArray)) := (blk_cell BK111.out 0).trans rfl; have hcz16_1 : w15.cell? ⟨gb111, 1, none⟩ = some (.string (⟨#[]⟩ : ByteArray)) := (blk_cell BK111.out 1).trans rfl; have hfz16_0 := blk_frozen BK111.out 0; have hfz16_1 := blk_frozen BK111.out 1) | (go_at_call 21; (with_reducible refine (strings_ContainsAny.calls ((rd_T36 l0 x13_1).f0) (⟨#[61, 0]⟩ : ByteArray) false _ ?side1 A8.out).mono ?_); (case side1 => exact Gv_below HG.out (by repeat (first | (with_reducible first | exact HB.out | apply below_alloc | apply pw_below_drewN | apply below_drew1 | refine below_set ?_ GE111.out) | exact HB.out))); rintro e w17 ⟨rfl, hb⟩; have n0_ := Aside0.mk (blk_below (g := gb111) (o := .cells #[.string ((rd_T36 l0 x13_1).f0), .string ((rd_T36 l0 x13_1).f1)] 36 (0, 0)) (by (with_reducible repeat (first | refine blk_drewN ?_ _ | refine blk_drew ?_ | refine blk_alloc ?_ _)); refine blk_put (cs := #[.string ((rd_T36 l0 x13_1).f0), .string (⟨#[]⟩ : ByteArray)]) ?_ 1 _ rfl; (with_reducible repeat (first | refine blk_drewN ?_ _ | refine blk_drew ?_ | refine blk_alloc ?_ _)); refine blk_put (cs := #[.string (⟨#[]⟩ : ByteArray), .string (⟨#[]⟩ : ByteArray)]) ?_ 0 _ rfl; (with_reducible repeat (first | refine blk_drewN ?_ _ | refine blk_drew ?_ | refine blk_alloc ?_ _)); exact BK111.out) hb); have n1_ := Aside0.mk (below_step (by repeat (first | (with_reducible first | exact HB.out | apply below_alloc | apply pw_below_drewN | apply below_drew1 | refine below_set ?_ GE111.out) | exact HB.out)) hb); clear BK111; clear HB; have BK111 := n0_; have HB := n1_; clear n0_ n1_; (try clear hb); (try clear hb2); (try clear hk); (try clear hi); have hcz18_0 : w17.cell? ⟨gb111, 0, none⟩ = some (.string ((rd_T36 l0 x13_1).f0)) := (blk_cell BK111.out 0).trans rfl; have hcz18_1 : w17.cell? ⟨gb111, 1, none⟩ = some (.string ((rd_T36 l0 x13_1).f1)) := (blk_cell BK111.out 1).trans rfl; have hfz18_0 := blk_frozen BK111.out 0; have hfz18_1 := blk_frozen BK111.out 1) | (go_at_call 22; (with_reducible refine (strings_IndexByte.calls ((rd_T36 l0 x13_1).f1) 0 t113 _ ?side1 A13.out).mono ?_); (case side1 => exact Gv_below HG.out (by repeat (first | (with_reducible first | exact HB.out | apply below_alloc | apply pw_below_drewN | apply below_drew1 | refine below_set ?_ GE111.out) | exact HB.out))); rintro e w' ⟨rfl, ⟨nd, rfl⟩⟩))
                  go_ret2
                  exact ⟨_, by first | rfl | (simp [errW_none, errW_some] <;> rfl) | (simp [*, errW_none, errW_some] <;> rfl), by first | exact Kd.R_nil _ _ _ _ _ | exact Kd.N_nil _ _ _ _ _ | exact Kd.V_nil _ _ _ _ _ | exact Kd.Q_nil _ _ _ _ _ | exact Kd.S_nil _ _ _ _ _, by repeat (first | (with_reducible first | exact HB.out | apply below_alloc | apply pw_below_drewN | apply below_drew1 | refine below_set ?_ GE111.out) | exact HB.out)⟩
                · rw [if_neg c14] at H
                  have c14b0 : decide (0 ≤ t113) = false := decide_eq_false c14
                  clear c14
                  have H' := Aside0.mk H
                  clear H
                  have p110 : 0 ≤ (x13_1 : Int) := of_decide_eq_true (by first | (with_reducible assumption) | assumption)
                  have q110 : x13_1 < (l0.length : Int) := of_decide_eq_true (by first | (with_reducible assumption) | assumption)
                  obtain ⟨ad110, e110, hx110_0, hx110_1⟩ := at_T36 HR0.out x13_1 p110 q110
                  cases e110
                  replace hx110_0 := (HB.out.cell (World.block_lt_of_cell? w _ hx110_0)).trans hx110_0
                  replace hx110_1 := (HB.out.cell (World.block_lt_of_cell? w _ hx110_1)).trans hx110_1
                  replace p110 := eq_true p110
                  replace q110 := eq_true q110
                  go_wp2_with (first | ((with_reducible refine gate_dst (N := 5) rfl ?_); refine box_event ?hg (N := 5) ?hd (cs := #[.string (⟨#[]⟩ : ByteArray), .string (⟨#[]⟩ : ByteArray)]) (t := 36) ?hr ?_; (case hd => rfl); (case hg => rfl); (case hr => first | (go_simp; done) | (go_simp; rfl)); intro gb111 hg w19 hbox hb; have n0_ := Aside0.mk (below_step (by repeat (first | (with_reducible first | exact HB.out | apply below_alloc | apply pw_below_drewN | apply below_drew1) | exact HB.out)) hb); have n1_ := Aside0.mk (hbox); have n2_ := Aside0.mk ((by rw [hg]; exact (below_size (by repeat (first | (with_reducible first | exact HB.out | apply below_alloc | apply pw_below_drewN | apply below_drew1) | exact HB.out))) : w.heap.size ≤ gb111)); have n3_ := Aside0.mk ((by rw [hg]; exact (below_size (by repeat (first | (with_reducible first | exact HB.out | apply below_alloc | apply pw_below_drewN | apply below_drew1) | exact HB.out))) : w.heap.size ≤ gb111)); clear HB; have HB := n0_; have BK111 := n1_; have GW111 := n2_; have GE111 := n3_; clear n0_ n1_ n2_ n3_; clear hb hbox hg; have hcz20_0 : w19.cell? ⟨gb111, 0, none⟩ = some (.string (⟨#[]⟩ : ByteArray)) := (blk_cell BK111.out 0).trans rfl; have hcz20_1 : w19.cell? ⟨gb111, 1, none⟩ = some (.string (⟨#[]⟩ : ByteArray)) := (blk_cell BK111.out 1).trans rfl; have hfz20_0 := blk_frozen BK111.out 0; have hfz20_1 := blk_frozen BK111.out 1) | (go_at_call 21; (with_reducible refine (strings_ContainsAny.calls ((rd_T36 l0 x13_1).f0) (⟨#[61, 0]⟩ : ByteArray) false _ ?side1 A8.out).mono ?_); (case side1 => exact Gv_below HG.out (by repeat (first | (with_reducible first | exact HB.out | apply below_alloc | apply pw_below_drewN | apply below_drew1 | refine below_set ?_ GE111.out) | exact HB.out))); rintro e w21 ⟨rfl, hb⟩; have n0_ := Aside0.mk (blk_below (g := gb111) (o := .cells #[.string ((rd_T36 l0 x13_1).f0), .string ((rd_T36 l0 x13_1).f1)] 36 (0, 0)) (by (with_reducible repeat (first | refine blk_drewN ?_ _ | refine blk_drew ?_ | refine blk_alloc ?_ _)); refine blk_put (cs := #[.string ((rd_T36 l0 x13_1).f0), .string (⟨#[]⟩ : ByteArray)]) ?_ 1 _ rfl; (with_reducible repeat (first | refine blk_drewN ?_ _ | refine blk_drew ?_ | refine blk_alloc ?_ _)); refine blk_put (cs := #[.string (⟨#[]⟩ : ByteArray), .string (⟨#[]⟩ : ByteArray)]) ?_ 0 _ rfl; (with_reducible repeat (first | refine blk_drewN ?_ _ | refine blk_drew ?_ | refine blk_alloc ?_ _)); exact BK111.out) hb); have n1_ := Aside0.mk (below_step (by repeat (first | (with_reducible first | exact HB.out | apply below_alloc | apply pw_below_drewN | apply below_drew1 | refine below_set ?_ GE111.out) | exact HB.out)) hb); clear BK111; clear HB; have BK111 := n0_; have HB := n1_; clear n0_ n1_; (try clear hb); (try clear hb2); (try clear hk); (try clear hi); have hcz22_0 : w21.cell? ⟨gb111, 0, none⟩ = some (.string ((rd_T36 l0 x13_1).f0)) := (blk_cell BK111.out 0).trans rfl; have hcz22_1 : w21.cell? ⟨gb111, 1, none⟩ = some (.string ((rd_T36 l0 x13_1).f1)) := (blk_cell BK111.out 1).trans rfl; have hfz22_0 := blk_frozen BK111.out 0; have hfz22_1 := blk_frozen BK111.out 1) | (go_at_call 22; (with_reducible refine (strings_IndexByte.calls ((rd_T36 l0 x13_1).f1) 0 t113 _ ?side1 A13.out).mono ?_); (case side1 => exact Gv_below HG.out (by repeat (first | (with_reducible first | exact HB.out | apply below_alloc | apply pw_below_drewN | apply below_drew1 | refine below_set ?_ GE111.out) | exact HB.out))); rintro e w' ⟨rfl, ⟨nd, rfl⟩⟩))
                  go_roundg k1
                  case measure => have := HK1.out; omega
                  case rel => exact ⟨(wrap64 (x13_1 + 1)), (by first | rfl | (simp; done) | (simp [*]; done)), H', ⟨by have := HK1.out; omega⟩, ⟨by repeat (first | (with_reducible first | exact HB.out | apply below_alloc | apply pw_below_drewN | apply below_drew1 | refine below_set ?_ GE111.out) | exact HB.out)⟩⟩
          · rw [if_neg c4] at H
            exact absurd H (by simp)
        · rw [if_neg c3] at H
          exact absurd H (by simp)
      · rw [if_neg c2] at H
        have c2b0 : decide (x13_1 < (l0.length : Int)) = false := decide_eq_false c2
        clear c2
        have H' := Aside0.mk H
        clear H
        go_wp2
        go_loopg [6, 34] k1 (fun kq v6 v34 w' => ∃ (x6_2 : List Int) (x34_2 : Int), v34 = .int .i64 x34_2 ∧ Aside0 (pax_Print.l1 kq x6_2 l0 (l0.length : Int) x34_2 = some (r1, r2)) ∧ Aside0 (kq ≤ k1) ∧ Aside0 (Kd.R (Kd.int .u8) 5 w' w.heap.size (fun _ => True) v6 x6_2) ∧ Aside0 (Below w.heap.size w w'))
        case atStart => exact ⟨(([] : List Int)), (0), (by first | rfl | (simp; done) | (simp [*]; done)), H', ⟨Nat.le_refl _⟩, ⟨by first | exact Kd.R_nil _ _ _ _ _ | exact Kd.N_nil _ _ _ _ _ | exact Kd.V_nil _ _ _ _ _ | exact Kd.Q_nil _ _ _ _ _ | exact Kd.S_nil _ _ _ _ _⟩, ⟨by repeat (first | (with_reducible first | exact HB.out | apply below_alloc | apply pw_below_drewN | apply below_drew1) | exact HB.out)⟩⟩
        case round =>
          clear H'
          try clear c1
          try clear p1
          try clear q1
          try clear hx1
          try clear c2
          try clear c2b0
          try clear p2
          try clear c3
          try clear c3b0
          try clear c4
          try clear c4b0
          try clear c5
          try clear c5b0
          try clear c5b1
          try clear p6
          try clear c7
          try clear c9
          try clear p11
          try clear q11
          try clear hx11
          try clear c14
          try clear c14b0
          try clear hcz11_0
          try clear hcz11_1
          try clear hcz16_0
          try clear hcz16_1
          try clear hcz18_0
          try clear hcz18_1
          try clear hcz20_0
          try clear hcz20_1
          try clear hcz22_0
          try clear hcz22_1
          try clear hcz7_0
          try clear hcz7_1
          try clear hfz11_0
          try clear hfz11_1
          try clear hfz16_0
          try clear hfz16_1
          try clear hfz18_0
          try clear hfz18_1
          try clear hfz20_0
          try clear hfz20_1
          try clear hfz22_0
          try clear hfz22_1
          try clear hfz7_0
          try clear hfz7_1
          try clear hx110_0
          try clear hx110_1
          try clear p110
          try clear q110
          obtain ⟨x6_2, x34_2, rfl, HA, HK2, HO_6, HB⟩ := hrel
          cases gk with
          | zero => exact absurd HA.out (by simp [pax_Print.l1])
          | succ k2 =>
            have H := HA.out
            clear HA
            simp only [pax_Print.l1] at H
            by_cases c23 : x34_2 < (l0.length : Int)
            · rw [if_pos c23] at H
              have c23b0 : decide (x34_2 < (l0.length : Int)) = true := decide_eq_true c23
              clear c23
              by_cases c24 : 0 ≤ x34_2
              · rw [if_pos c24] at H
                have c24b0 : decide (0 ≤ x34_2) = true := decide_eq_true c24
                clear c24
                by_cases c25 : x34_2 < (l0.length : Int)
                · rw [if_pos c25] at H
                  have c25b0 : decide (x34_2 < (l0.length : Int)) = true := decide_eq_true c25
                  clear c25
                  have H' := Aside0.mk H
                  clear H
                  have p114 : 0 ≤ (x34_2 : Int) := of_decide_eq_true (by first | (with_reducible assumption) | assumption)
                  have q114 : x34_2 < (l0.length : Int) := of_decide_eq_true (by first | (with_reducible assumption) | assumption)
                  obtain ⟨ad114, e114, hx114_0, hx114_1⟩ := at_T36 HR0.out x34_2 p114 q114
                  cases e114
                  replace hx114_0 := (HB.out.cell (World.block_lt_of_cell? w _ hx114_0)).trans hx114_0
                  replace hx114_1 := (HB.out.cell (World.block_lt_of_cell? w _ hx114_1)).trans hx114_1
                  replace p114 := eq_true p114
                  replace q114 := eq_true q114
                  go_wp2_with (first | ((with_reducible refine gate_dst (N := 8) rfl ?_); refine box_event ?hg (N := 8) ?hd (cs := #[.string (⟨#[]⟩ : ByteArray), .string (⟨#[]⟩ : ByteArray)]) (t := 36) ?hr ?_; (case hd => rfl); (case hg => rfl); (case hr => first | (go_simp; done) | (go_simp; rfl)); intro gb115 hg w26 hbox hb; have n0_ := Aside0.mk (Kd.R_below (by (with_reducible repeat (first | apply Kd.R_alloc | apply Kd.R_drewN | apply Kd.R_drew)); exact HO_6.out) hb); have n1_ := Aside0.mk (below_step (by repeat (first | (with_reducible first | exact HB.out | apply below_alloc | apply pw_below_drewN | apply below_drew1) | exact HB.out)) hb); have n2_ := Aside0.mk (hbox); have n3_ := Aside0.mk ((by rw [hg]; exact (below_size (by repeat (first | (with_reducible first | exact HB.out | apply below_alloc | apply pw_below_drewN | apply below_drew1) | exact HB.out))) : w.heap.size ≤ gb115)); have n4_ := Aside0.mk ((by rw [hg]; exact (below_size (by repeat (first | (with_reducible first | exact HB.out | apply below_alloc | apply pw_below_drewN | apply below_drew1) | exact HB.out))) : w.heap.size ≤ gb115)); clear HO_6; clear HB; have HO_6 := n0_; have HB := n1_; have BK115 := n2_; have GW115 := n3_; have GE115 := n4_; clear n0_ n1_ n2_ n3_ n4_; clear hb hbox hg; have hcz27_0 : w26.cell? ⟨gb115, 0, none⟩ = some (.string (⟨#[]⟩ : ByteArray)) := (blk_cell BK115.out 0).trans rfl; have hcz27_1 : w26.cell? ⟨gb115, 1, none⟩ = some (.string (⟨#[]⟩ : ByteArray)) := (blk_cell BK115.out 1).trans rfl; have hfz27_0 := blk_frozen BK115.out 0; have hfz27_1 := blk_frozen BK115.out 1))
                  go_loopg [10] k2 (fun kq v10 w' => ∃ (x10_3 : Int), v10 = .int .i64 x10_3 ∧ Aside0 (pax_Print.l2 kq x6_2 (wrap64 ((wrap64 ((((rd_T36 l0 x34_2).f0).size : Int) + (((rd_T36 l0 x34_2).f1).size : Int))) + 3)) x10_3 l0 (l0.length : Int) x34_2 ((rd_T36 l0 x34_2).f0) ((rd_T36 l0 x34_2).f1) = some (r1, r2)) ∧ Aside0 (kq ≤ k2) ∧ Aside0 (Kd.R (Kd.int .u8) 5 w' w.heap.size (fun _ => True) u6 x6_2) ∧ Aside0 (w'.heap[gb115]? = some (.cells #[.string ((rd_T36 l0 x34_2).f0), .string ((rd_T36 l0 x34_2).f1)] 36 (0, 0))) ∧ Aside0 (Below w.heap.size w w'))
                  case atStart => exact ⟨(wrap64 ((wrap64 ((wrap64 ((((rd_T36 l0 x34_2).f0).size : Int) + (((rd_T36 l0 x34_2).f1).size : Int))) + 3)) + 1)), (by first | rfl | (simp; done) | (simp [*]; done)), H', ⟨Nat.le_refl _⟩, ⟨by (with_reducible repeat (first | apply Kd.R_alloc | apply Kd.R_drewN | apply Kd.R_drew)); exact Kd.R_mono (Kd.R_far (p := ⟨gb115, 1, none⟩) (Kd.R_far (p := ⟨gb115, 0, none⟩) (Kd.R_types HO_6.out BK115.out (by decide)) (fun _ hk => hk.2) (.string ((rd_T36 l0 x34_2).f0))) (fun _ hk => hk.2) (.string ((rd_T36 l0 x34_2).f1))) (fun _ hk => trivial)⟩, ⟨by (with_reducible repeat (first | refine blk_drewN ?_ _ | refine blk_drew ?_ | refine blk_alloc ?_ _)); refine blk_put (cs := #[.string ((rd_T36 l0 x34_2).f0), .string (⟨#[]⟩ : ByteArray)]) ?_ 1 _ rfl; (with_reducible repeat (first | refine blk_drewN ?_ _ | refine blk_drew ?_ | refine blk_alloc ?_ _)); refine blk_put (cs := #[.string (⟨#[]⟩ : ByteArray), .string (⟨#[]⟩ : ByteArray)]) ?_ 0 _ rfl; (with_reducible repeat (first | refine blk_drewN ?_ _ | refine blk_drew ?_ | refine blk_alloc ?_ _)); exact BK115.out⟩, ⟨by repeat (first | (with_reducible first | exact HB.out | apply below_alloc | apply pw_below_drewN | apply below_drew1 | refine below_set ?_ GE115.out) | exact HB.out)⟩⟩
                  case round =>
                    clear H'
                    try clear c1
                    try clear p1
                    try clear q1
                    try clear hx1
                    try clear c2
                    try clear c2b0
                    try clear p2
                    try clear c3
                    try clear c3b0
                    try clear c4
                    try clear c4b0
                    try clear c5
                    try clear c5b0
                    try clear c5b1
                    try clear p6
                    try clear c7
                    try clear c9
                    try clear p11
                    try clear q11
                    try clear hx11
                    try clear c14
                    try clear c14b0
                    try clear c23
                    try clear c23b0
                    try clear c24
                    try clear c24b0
                    try clear c25
                    try clear c25b0
                    try clear hcz11_0
                    try clear hcz11_1
                    try clear hcz16_0
                    try clear hcz16_1
                    try clear hcz18_0
                    try clear hcz18_1
                    try clear hcz20_0
                    try clear hcz20_1
                    try clear hcz22_0
                    try clear hcz22_1
                    try clear hcz27_0
                    try clear hcz27_1
                    try clear hcz7_0
                    try clear hcz7_1
                    try clear hfz11_0
                    try clear hfz11_1
                    try clear hfz16_0
                    try clear hfz16_1
                    try clear hfz18_0
                    try clear hfz18_1
                    try clear hfz20_0
                    try clear hfz20_1
                    try clear hfz22_0
                    try clear hfz22_1
                    try clear hfz27_0
                    try clear hfz27_1
                    try clear hfz7_0
                    try clear hfz7_1
                    try clear hx110_0
                    try clear hx110_1
                    try clear hx114_0
                    try clear hx114_1
                    try clear p1
                    try clear p11
                    try clear p110
                    try clear p114
                    try clear p2
                    try clear p6
                    try clear q1
                    try clear q11
                    try clear q110
                    try clear q114
                    obtain ⟨x10_3, rfl, HA, HK3, HO_6, BK115, HB⟩ := hrel
                    cases gk with
                    | zero => exact absurd HA.out (by simp [pax_Print.l2])
                    | succ k3 =>
                      have H := HA.out
                      clear HA
                      simp only [pax_Print.l2] at H
                      replace H := Option.bind_eq_some_iff.mp H
                      obtain ⟨t116, A280, H⟩ := H
                      replace H : (if (t116.size : Int) = (wrap64 (x10_3 - (wrap64 ((wrap64 ((((rd_T36 l0 x34_2).f0).size : Int) + (((rd_T36 l0 x34_2).f1).size : Int))) + 3)))) then (if (wrap64 (x10_3 - (wrap64 ((wrap64 ((((rd_T36 l0 x34_2).f0).size : Int) + (((rd_T36 l0 x34_2).f1).size : Int))) + 3)))) > 7 then (some (([] : List Int), 2)) else ((strconv_Itoa.f x10_3).bind fun t117 => (if t117.size + 1 ≤ 9223372036854775807 then (if (t117 ++ (⟨#[32]⟩ : ByteArray)).size + ((rd_T36 l0 x34_2).f0).size ≤ 9223372036854775807 then (if ((t117 ++ (⟨#[32]⟩ : ByteArray)) ++ ((rd_T36 l0 x34_2).f0)).size + 1 ≤ 9223372036854775807 then (if (((t117 ++ (⟨#[32]⟩ : ByteArray)) ++ ((rd_T36 l0 x34_2).f0)) ++ (⟨#[61]⟩ : ByteArray)).size + ((rd_T36 l0 x34_2).f1).size ≤ 9223372036854775807 then (if ((((t117 ++ (⟨#[32]⟩ : ByteArray)) ++ ((rd_T36 l0 x34_2).f0)) ++ (⟨#[61]⟩ : ByteArray)) ++ ((rd_T36 l0 x34_2).f1)).size + 1 ≤ 9223372036854775807 then (if x6_2.length + (((((t117 ++ (⟨#[32]⟩ : ByteArray)) ++ ((rd_T36 l0 x34_2).f0)) ++ (⟨#[61]⟩ : ByteArray)) ++ ((rd_T36 l0 x34_2).f1)) ++ (⟨#[10]⟩ : ByteArray)).size < 140737488355328 then (pax_Print.l1 k3 (x6_2 ++ bytesOf (((((t117 ++ (⟨#[32]⟩ : ByteArray)) ++ ((rd_T36 l0 x34_2).f0)) ++ (⟨#[61]⟩ : ByteArray)) ++ ((rd_T36 l0 x34_2).f1)) ++ (⟨#[10]⟩ : ByteArray))) l0 (l0.length : Int) (wrap64 (x34_2 + 1))) else (none)) else (none)) else (none)) else (none)) else (none)) else (none)))) else (if (wrap64 (x10_3 - (wrap64 ((wrap64 ((((rd_T36 l0 x34_2).f0).size : Int) + (((rd_T36 l0 x34_2).f1).size : Int))) + 3)))) ≤ 7 then (pax_Print.l2 k3 x6_2 (wrap64 ((wrap64 ((((rd_T36 l0 x34_2).f0).size : Int) + (((rd_T36 l0 x34_2).f1).size : Int))) + 3)) (wrap64 (x10_3 + 1)) l0 (l0.length : Int) x34_2 ((rd_T36 l0 x34_2).f0) ((rd_T36 l0 x34_2).f1)) else (if (wrap64 (x10_3 - (wrap64 ((wrap64 ((((rd_T36 l0 x34_2).f0).size : Int) + (((rd_T36 l0 x34_2).f1).size : Int))) + 3)))) > 7 then (some (([] : List Int), 2)) else ((strconv_Itoa.f x10_3).bind fun t121 => (if t121.size + 1 ≤ 9223372036854775807 then (if (t121 ++ (⟨#[32]⟩ : ByteArray)).size + ((rd_T36 l0 x34_2).f0).size ≤ 9223372036854775807 then (if ((t121 ++ (⟨#[32]⟩ : ByteArray)) ++ ((rd_T36 l0 x34_2).f0)).size + 1 ≤ 9223372036854775807 then (if (((t121 ++ (⟨#[32]⟩ : ByteArray)) ++ ((rd_T36 l0 x34_2).f0)) ++ (⟨#[61]⟩ : ByteArray)).size + ((rd_T36 l0 x34_2).f1).size ≤ 9223372036854775807 then (if ((((t121 ++ (⟨#[32]⟩ : ByteArray)) ++ ((rd_T36 l0 x34_2).f0)) ++ (⟨#[61]⟩ : ByteArray)) ++ ((rd_T36 l0 x34_2).f1)).size + 1 ≤ 9223372036854775807 then (if x6_2.length + (((((t121 ++ (⟨#[32]⟩ : ByteArray)) ++ ((rd_T36 l0 x34_2).f0)) ++ (⟨#[61]⟩ : ByteArray)) ++ ((rd_T36 l0 x34_2).f1)) ++ (⟨#[10]⟩ : ByteArray)).size < 140737488355328 then (pax_Print.l1 k3 (x6_2 ++ bytesOf (((((t121 ++ (⟨#[32]⟩ : ByteArray)) ++ ((rd_T36 l0 x34_2).f0)) ++ (⟨#[61]⟩ : ByteArray)) ++ ((rd_T36 l0 x34_2).f1)) ++ (⟨#[10]⟩ : ByteArray))) l0 (l0.length : Int) (wrap64 (x34_2 + 1))) else (none)) else (none)) else (none)) else (none)) else (none)) else (none)))))) = some (r1, r2) := H
                      have A28 := Aside0.mk A280
                      clear A280
                      by_cases c29 : (t116.size : Int) = (wrap64 (x10_3 - (wrap64 ((wrap64 ((((rd_T36 l0 x34_2).f0).size : Int) + (((rd_T36 l0 x34_2).f1).size : Int))) + 3))))
                      · rw [if_pos c29] at H
                        have c29b0 : ((t116.size : Int) == (wrap64 (x10_3 - (wrap64 ((wrap64 ((((rd_T36 l0 x34_2).f0).size : Int) + (((rd_T36 l0 x34_2).f1).size : Int))) + 3))))) = true := beq_iff_eq.mpr c29
                        have c29b1 : ((t116.size : Int) != (wrap64 (x10_3 - (wrap64 ((wrap64 ((((rd_T36 l0 x34_2).f0).size : Int) + (((rd_T36 l0 x34_2).f1).size : Int))) + 3))))) = false := bne_eq_false_iff_eq.mpr c29
                        clear c29
                        by_cases c30 : (wrap64 (x10_3 - (wrap64 ((wrap64 ((((rd_T36 l0 x34_2).f0).size : Int) + (((rd_T36 l0 x34_2).f1).size : Int))) + 3)))) > 7
                        · rw [if_pos c30] at H
                          have c30b0 : decide (7 < (wrap64 (x10_3 - (wrap64 ((wrap64 ((((rd_T36 l0 x34_2).f0).size : Int) + (((rd_T36 l0 x34_2).f1).size : Int))) + 3))))) = true := decide_eq_true c30
                          clear c30
                          simp only [Option.some.injEq, Prod.mk.injEq] at H
                          obtain ⟨rfl, rfl⟩ := H
                          go_wp2_with (first | ((with_reducible refine gate_callee (f := 23) rfl ?_); refine goesL_ (some 49) rfl rfl Tryd.func23 (by kernel_rfl) rfl #[.int .i64 x10_3] rfl (by (try simp only [List.map_toArray, List.map_cons, List.map_nil]); first | done | rfl | (simp only [List.length_drop, List.length_take]; rfl)) ?_; (with_reducible refine (strconv_Itoa.calls x10_3 t116 _ ?side1 A28.out).mono ?_); (case side1 => exact Gv_below HG.out (by repeat (first | (with_reducible first | exact HB.out | apply below_alloc | apply pw_below_drewN | apply below_drew1 | refine below_set ?_ GE115.out) | exact HB.out))); rintro e w31 ⟨rfl, hb⟩; refine ⟨_, rfl, ?_⟩; have n0_ := Aside0.mk (Kd.R_below (by (with_reducible repeat (first | apply Kd.R_alloc | apply Kd.R_drewN | apply Kd.R_drew)); exact HO_6.out) hb); have n1_ := Aside0.mk (blk_below (g := gb115) (o := .cells #[.string ((rd_T36 l0 x34_2).f0), .string ((rd_T36 l0 x34_2).f1)] 36 (0, 0)) (by (with_reducible repeat (first | refine blk_drewN ?_ _ | refine blk_drew ?_ | refine blk_alloc ?_ _)); exact BK115.out) hb); have n2_ := Aside0.mk (below_step (by repeat (first | (with_reducible first | exact HB.out | apply below_alloc | apply pw_below_drewN | apply below_drew1 | refine below_set ?_ GE115.out) | exact HB.out)) hb); clear HO_6; clear BK115; clear HB; have HO_6 := n0_; have BK115 := n1_; have HB := n2_; clear n0_ n1_ n2_; (try clear hb); (try clear hb2); (try clear hk); (try clear hi)))
                          go_ret2
                          exact ⟨_, by first | rfl | (simp [errW_none, errW_some] <;> rfl) | (simp [*, errW_none, errW_some] <;> rfl), by first | exact Kd.R_nil _ _ _ _ _ | exact Kd.N_nil _ _ _ _ _ | exact Kd.V_nil _ _ _ _ _ | exact Kd.Q_nil _ _ _ _ _ | exact Kd.S_nil _ _ _ _ _, by repeat (first | (with_reducible first | exact HB.out | apply below_alloc | apply pw_below_drewN | apply below_drew1 | refine below_set ?_ GE115.out) | exact HB.out)⟩
                        · rw [if_neg c30] at H
                          have c30b0 : decide (7 < (wrap64 (x10_3 - (wrap64 ((wrap64 ((((rd_T36 l0 x34_2).f0).size : Int) + (((rd_T36 l0 x34_2).f1).size : Int))) + 3))))) = false := decide_eq_false c30
                          clear c30
                          replace H := Option.bind_eq_some_iff.mp H
                          obtain ⟨t117, A320, H⟩ := H
                          replace H : (if t117.size + 1 ≤ 9223372036854775807 then (if (t117 ++ (⟨#[32]⟩ : ByteArray)).size + ((rd_T36 l0 x34_2).f0).size ≤ 9223372036854775807 then (if ((t117 ++ (⟨#[32]⟩ : ByteArray)) ++ ((rd_T36 l0 x34_2).f0)).size + 1 ≤ 9223372036854775807 then (if (((t117 ++ (⟨#[32]⟩ : ByteArray)) ++ ((rd_T36 l0 x34_2).f0)) ++ (⟨#[61]⟩ : ByteArray)).size + ((rd_T36 l0 x34_2).f1).size ≤ 9223372036854775807 then (if ((((t117 ++ (⟨#[32]⟩ : ByteArray)) ++ ((rd_T36 l0 x34_2).f0)) ++ (⟨#[61]⟩ : ByteArray)) ++ ((rd_T36 l0 x34_2).f1)).size + 1 ≤ 9223372036854775807 then (if x6_2.length + (((((t117 ++ (⟨#[32]⟩ : ByteArray)) ++ ((rd_T36 l0 x34_2).f0)) ++ (⟨#[61]⟩ : ByteArray)) ++ ((rd_T36 l0 x34_2).f1)) ++ (⟨#[10]⟩ : ByteArray)).size < 140737488355328 then (pax_Print.l1 k3 (x6_2 ++ bytesOf (((((t117 ++ (⟨#[32]⟩ : ByteArray)) ++ ((rd_T36 l0 x34_2).f0)) ++ (⟨#[61]⟩ : ByteArray)) ++ ((rd_T36 l0 x34_2).f1)) ++ (⟨#[10]⟩ : ByteArray))) l0 (l0.length : Int) (wrap64 (x34_2 + 1))) else (none)) else (none)) else (none)) else (none)) else (none)) else (none)) = some (r1, r2) := H
                          have A32 := Aside0.mk A320
                          clear A320
                          by_cases c33 : t117.size + 1 ≤ 9223372036854775807
                          · rw [if_pos c33] at H
                            have c33b0 := eq_true c33
                            have c33b1 : decide (t117.size + 1 ≤ 9223372036854775807) = true := decide_eq_true c33
                            try have c33b2 : (9223372036854775807 < t117.size + 1) = False := eq_false (Nat.not_lt.2 c33)
                            by_cases c34 : (t117 ++ (⟨#[32]⟩ : ByteArray)).size + ((rd_T36 l0 x34_2).f0).size ≤ 9223372036854775807
                            · rw [if_pos c34] at H
                              have c34b0 := eq_true c34
                              have c34b1 : decide ((t117 ++ (⟨#[32]⟩ : ByteArray)).size + ((rd_T36 l0 x34_2).f0).size ≤ 9223372036854775807) = true := decide_eq_true c34
                              try have c34b2 : (9223372036854775807 < (t117 ++ (⟨#[32]⟩ : ByteArray)).size + ((rd_T36 l0 x34_2).f0).size) = False := eq_false (Nat.not_lt.2 c34)
                              try have c34b3 := c34b2
                              try simp only [ByteArray.size_append, (show ByteArray.size (⟨#[32]⟩ : ByteArray) = 1 from rfl)] at c34b3
                              by_cases c35 : ((t117 ++ (⟨#[32]⟩ : ByteArray)) ++ ((rd_T36 l0 x34_2).f0)).size + 1 ≤ 9223372036854775807
                              · rw [if_pos c35] at H
                                have c35b0 := eq_true c35
                                have c35b1 : decide (((t117 ++ (⟨#[32]⟩ : ByteArray)) ++ ((rd_T36 l0 x34_2).f0)).size + 1 ≤ 9223372036854775807) = true := decide_eq_true c35
                                try have c35b2 : (9223372036854775807 < ((t117 ++ (⟨#[32]⟩ : ByteArray)) ++ ((rd_T36 l0 x34_2).f0)).size + 1) = False := eq_false (Nat.not_lt.2 c35)
                                try have c35b3 := c35b2
                                try simp only [ByteArray.size_append, (show ByteArray.size (⟨#[32]⟩ : ByteArray) = 1 from rfl)] at c35b3
                                by_cases c36 : (((t117 ++ (⟨#[32]⟩ : ByteArray)) ++ ((rd_T36 l0 x34_2).f0)) ++ (⟨#[61]⟩ : ByteArray)).size + ((rd_T36 l0 x34_2).f1).size ≤ 9223372036854775807
                                · rw [if_pos c36] at H
                                  have c36b0 := eq_true c36
                                  have c36b1 : decide ((((t117 ++ (⟨#[32]⟩ : ByteArray)) ++ ((rd_T36 l0 x34_2).f0)) ++ (⟨#[61]⟩ : ByteArray)).size + ((rd_T36 l0 x34_2).f1).size ≤ 9223372036854775807) = true := decide_eq_true c36
                                  try have c36b2 : (9223372036854775807 < (((t117 ++ (⟨#[32]⟩ : ByteArray)) ++ ((rd_T36 l0 x34_2).f0)) ++ (⟨#[61]⟩ : ByteArray)).size + ((rd_T36 l0 x34_2).f1).size) = False := eq_false (Nat.not_lt.2 c36)
                                  try have c36b3 := c36b2
                                  try simp only [ByteArray.size_append, (show ByteArray.size (⟨#[32]⟩ : ByteArray) = 1 from rfl), (show ByteArray.size (⟨#[61]⟩ : ByteArray) = 1 from rfl)] at c36b3
                                  by_cases c37 : ((((t117 ++ (⟨#[32]⟩ : ByteArray)) ++ ((rd_T36 l0 x34_2).f0)) ++ (⟨#[61]⟩ : ByteArray)) ++ ((rd_T36 l0 x34_2).f1)).size + 1 ≤ 9223372036854775807
                                  · rw [if_pos c37] at H
                                    have c37b0 := eq_true c37
                                    have c37b1 : decide (((((t117 ++ (⟨#[32]⟩ : ByteArray)) ++ ((rd_T36 l0 x34_2).f0)) ++ (⟨#[61]⟩ : ByteArray)) ++ ((rd_T36 l0 x34_2).f1)).size + 1 ≤ 9223372036854775807) = true := decide_eq_true c37
                                    try have c37b2 : (9223372036854775807 < ((((t117 ++ (⟨#[32]⟩ : ByteArray)) ++ ((rd_T36 l0 x34_2).f0)) ++ (⟨#[61]⟩ : ByteArray)) ++ ((rd_T36 l0 x34_2).f1)).size + 1) = False := eq_false (Nat.not_lt.2 c37)
                                    try have c37b3 := c37b2
                                    try simp only [ByteArray.size_append, (show ByteArray.size (⟨#[32]⟩ : ByteArray) = 1 from rfl), (show ByteArray.size (⟨#[61]⟩ : ByteArray) = 1 from rfl)] at c37b3
                                    by_cases c38 : x6_2.length + (((((t117 ++ (⟨#[32]⟩ : ByteArray)) ++ ((rd_T36 l0 x34_2).f0)) ++ (⟨#[61]⟩ : ByteArray)) ++ ((rd_T36 l0 x34_2).f1)) ++ (⟨#[10]⟩ : ByteArray)).size < 140737488355328
                                    · rw [if_pos c38] at H
                                      have LMc38 := Aside0.mk c38
                                      clear c38
                                      obtain ⟨y118, hy118⟩ : ∃ y_ : List Int, y_ = (x6_2 ++ bytesOf (((((t117 ++ (⟨#[32]⟩ : ByteArray)) ++ ((rd_T36 l0 x34_2).f0)) ++ (⟨#[61]⟩ : ByteArray)) ++ ((rd_T36 l0 x34_2).f1)) ++ (⟨#[10]⟩ : ByteArray))) := ⟨_, rfl⟩
                                      replace H : (pax_Print.l1 k3 y118 l0 (l0.length : Int) (wrap64 (x34_2 + 1))) = some (r1, r2) := by first | (rw [hy118]; with_reducible exact H) | (have H2_ := (Option.bind_some _ _).symm.trans H; rw [hy118]; with_reducible exact H2_) | (have H2_ := (Option.bind_some _ _).symm.trans H; with_reducible exact H2_) | with_reducible exact H | (rw [hy118]; exact H) | exact H
                                      have Ny118 := Aside0.mk hy118
                                      clear hy118
                                      have H' := Aside0.mk H
                                      clear H
                                      try go_wp2_with (first | ((with_reducible refine gate_callee (f := 23) rfl ?_); refine goesL_ (some 49) rfl rfl Tryd.func23 (by kernel_rfl) rfl #[.int .i64 x10_3] rfl (by (try simp only [List.map_toArray, List.map_cons, List.map_nil]); first | done | rfl | (simp only [List.length_drop, List.length_take]; rfl)) ?_; (with_reducible refine (strconv_Itoa.calls x10_3 t116 _ ?side1 A28.out).mono ?_); (case side1 => exact Gv_below HG.out (by repeat (first | (with_reducible first | exact HB.out | apply below_alloc | apply pw_below_drewN | apply below_drew1 | refine below_set ?_ GE115.out) | exact HB.out))); rintro e w39 ⟨rfl, hb⟩; refine ⟨_, rfl, ?_⟩; have n0_ := Aside0.mk (Kd.R_below (by (with_reducible repeat (first | apply Kd.R_alloc | apply Kd.R_drewN | apply Kd.R_drew)); exact HO_6.out) hb); have n1_ := Aside0.mk (blk_below (g := gb115) (o := .cells #[.string ((rd_T36 l0 x34_2).f0), .string ((rd_T36 l0 x34_2).f1)] 36 (0, 0)) (by (with_reducible repeat (first | refine blk_drewN ?_ _ | refine blk_drew ?_ | refine blk_alloc ?_ _)); exact BK115.out) hb); have n2_ := Aside0.mk (below_step (by repeat (first | (with_reducible first | exact HB.out | apply below_alloc | apply pw_below_drewN | apply below_drew1 | refine below_set ?_ GE115.out) | exact HB.out)) hb); clear HO_6; clear BK115; clear HB; have HO_6 := n0_; have BK115 := n1_; have HB := n2_; clear n0_ n1_ n2_; (try clear hb); (try clear hb2); (try clear hk); (try clear hi)))
                                      have n0_ := Aside0.mk (Kd.R_drew HO_6.out)
                                      have n1_ := Aside0.mk (blk_drew BK115.out)
                                      have n2_ := Aside0.mk (below_drew1 HB.out)
                                      clear HO_6
                                      clear BK115
                                      clear HB
                                      have HO_6 := n0_
                                      have BK115 := n1_
                                      have HB := n2_
                                      clear n0_ n1_ n2_
                                      refine start_ (n := 14) (S := fun w' => w'.cell? ⟨gb115, 0, none⟩ = some (.string ((rd_T36 l0 x34_2).f0)) ∧ w'.cell? ⟨gb115, 1, none⟩ = some (.string ((rd_T36 l0 x34_2).f1))) (ds := []) #[false, false, false, false, false, false, false, false, false, false, false, false, false, false] (by kernel_rfl) rfl rfl ⟨(blk_cell BK115.out 0).trans rfl, (blk_cell BK115.out 1).trans rfl⟩ (fun hHeld => ?_); refine with_tabW pax_Print.tab17 pax_Print.bits17 (fun HT_ HW_ => ?_)
                                      generalize w39.drew = w40 at HO_6 BK115 HB hHeld ⊢
                                      refine pure_ (i := 0) (N := some 67) (v := ?_) (a' := ?_) #[true, false, false, false, false, false, false, false, false, false, false, false, false, false] rfl rfl (any_of HT_.out (by kernel_rfl)) (fun _ _ _ h => h) (Or.inl ⟨by rfl, ?_⟩) ?_ ?_
                                      rotate_left
                                      · intro w'
                                        go_simp
                                        with_reducible rfl
                                      rotate_left
                                      · simp only [Act.put, List.setIfInBounds_toArray, List.set_cons_zero, List.set_cons_succ, i64_w, i32_w]
                                        rfl
                                      refine pure_ (i := 1) (N := some 68) (v := ?_) (a' := ?_) #[true, true, false, false, false, false, false, false, false, false, false, false, false, false] rfl rfl (any_of HT_.out (by kernel_rfl)) (fun _ _ _ h => h) (Or.inl ⟨by rfl, ?_⟩) ?_ ?_
                                      rotate_left
                                      · intro w'
                                        go_simp
                                        with_reducible rfl
                                      rotate_left
                                      · simp only [Act.put, List.setIfInBounds_toArray, List.set_cons_zero, List.set_cons_succ, i64_w, i32_w]
                                        rfl
                                      refine pure_ (i := 4) (N := some 71) (v := ?_) (a' := ?_) #[true, true, false, false, true, false, false, false, false, false, false, false, false, false] rfl rfl (any_of HT_.out (by kernel_rfl)) (fun _ _ _ h => h) (Or.inl ⟨by rfl, ?_⟩) ?_ ?_
                                      rotate_left
                                      · intro w'
                                        go_simp
                                        with_reducible rfl
                                      rotate_left
                                      · simp only [Act.put, List.setIfInBounds_toArray, List.set_cons_zero, List.set_cons_succ, i64_w, i32_w]
                                        rfl
                                      refine pure_ (i := 8) (N := some 75) (v := ?_) (a' := ?_) #[true, true, false, false, true, false, false, false, true, false, false, false, false, false] rfl rfl (any_of HT_.out (by kernel_rfl)) (fun _ _ _ h => h) (Or.inl ⟨by rfl, ?_⟩) ?_ ?_
                                      rotate_left
                                      · intro w'
                                        go_simp
                                        with_reducible rfl
                                      rotate_left
                                      · simp only [Act.put, List.setIfInBounds_toArray, List.set_cons_zero, List.set_cons_succ, i64_w, i32_w]
                                        rfl
                                      refine take_ (i := 5) (N := some 72) (v := ?_) (a' := ?_) #[true, true, false, false, true, true, false, false, true, false, false, false, false, false] rfl rfl (take_ofW HT_.out HW_.out (by kernel_rfl)) (fun _ _ _ h => h) (Or.inl ⟨by rfl, ?_⟩) hHeld ?_ ?_
                                      rotate_left
                                      · rintro w' ⟨s0, s1⟩
                                        go_simp
                                        with_reducible rfl
                                      rotate_left
                                      · simp only [Act.put, List.setIfInBounds_toArray, List.set_cons_zero, List.set_cons_succ, i64_w, i32_w]
                                        rfl
                                      refine take_ (i := 9) (N := some 76) (v := ?_) (a' := ?_) #[true, true, false, false, true, true, false, false, true, true, false, false, false, false] rfl rfl (take_ofW HT_.out HW_.out (by kernel_rfl)) (fun _ _ _ h => h) (Or.inl ⟨by rfl, ?_⟩) hHeld ?_ ?_
                                      rotate_left
                                      · rintro w' ⟨s0, s1⟩
                                        go_simp
                                        with_reducible rfl
                                      rotate_left
                                      · simp only [Act.put, List.setIfInBounds_toArray, List.set_cons_zero, List.set_cons_succ, i64_w, i32_w]
                                        rfl
                                      refine one_ (i := 2) (N := some 69) #[true, true, true, false, true, true, false, false, true, true, false, false, false, false] rfl rfl (one_of HT_.out (by kernel_rfl)) (by decide) (fun K hK => ?_)
                                      refine goes_ Tryd.func23 (by kernel_rfl) rfl #[.int .i64 x10_3] (by rfl) rfl rfl (by (try simp only [List.map_toArray, List.map_cons, List.map_nil]); first | done | rfl | (simp only [List.length_drop, List.length_take]; rfl)) ?_
                                      with_reducible refine (strconv_Itoa.calls x10_3 t117 _ ?side1 A32.out).mono ?_
                                      (case side1 => exact Gv_below HG.out (by repeat (first | (with_reducible first | exact HB.out | apply below_alloc | apply pw_below_drewN | apply below_drew1 | refine below_set ?_ GE115.out) | exact HB.out)))
                                      rintro e w41 ⟨rfl, hb⟩
                                      refine ⟨_, rfl, ?_⟩
                                      have n0_ := Aside0.mk (Kd.R_below (by (with_reducible repeat (first | apply Kd.R_alloc | apply Kd.R_drewN | apply Kd.R_drew)); exact HO_6.out) hb)
                                      have n1_ := Aside0.mk (blk_below (g := gb115) (o := .cells #[.string ((rd_T36 l0 x34_2).f0), .string ((rd_T36 l0 x34_2).f1)] 36 (0, 0)) (by (with_reducible repeat (first | refine blk_drewN ?_ _ | refine blk_drew ?_ | refine blk_alloc ?_ _)); exact BK115.out) hb)
                                      have n2_ := Aside0.mk (below_step (by repeat (first | (with_reducible first | exact HB.out | apply below_alloc | apply pw_below_drewN | apply below_drew1 | refine below_set ?_ GE115.out) | exact HB.out)) hb)
                                      clear HO_6
                                      clear BK115
                                      clear HB
                                      have HO_6 := n0_
                                      have BK115 := n1_
                                      have HB := n2_
                                      clear n0_ n1_ n2_
                                      (try clear hb)
                                      (try clear hb2)
                                      (try clear hk)
                                      (try clear hi)
                                      refine hK.out _ _ ⟨(blk_cell BK115.out 0).trans rfl, (blk_cell BK115.out 1).trans rfl⟩ (fun hHeld => ?_)
                                      clear hK K
                                      refine norm_ (a' := ?_) ?_ ?_
                                      rotate_left
                                      · show Act.put _ (some 69) _ = _
                                        simp only [Act.put, List.setIfInBounds_toArray, List.set_cons_zero, List.set_cons_succ, i64_w, i32_w]
                                        rfl
                                      refine pure_ (i := 3) (N := some 70) (v := ?_) (a' := ?_) #[true, true, true, true, true, true, false, false, true, true, false, false, false, false] rfl rfl (any_of HT_.out (by kernel_rfl)) (fun _ _ _ h => h) (Or.inl ⟨by rfl, ?_⟩) ?_ ?_
                                      rotate_left
                                      · intro w'
                                        go_simp
                                        with_reducible rfl
                                      rotate_left
                                      · simp only [Act.put, List.setIfInBounds_toArray, List.set_cons_zero, List.set_cons_succ, i64_w, i32_w]
                                        rfl
                                      refine pure_ (i := 6) (N := some 73) (v := ?_) (a' := ?_) #[true, true, true, true, true, true, true, false, true, true, false, false, false, false] rfl rfl (any_of HT_.out (by kernel_rfl)) (fun _ _ _ h => h) (Or.inl ⟨by rfl, ?_⟩) ?_ ?_
                                      rotate_left
                                      · intro w'
                                        go_simp
                                        with_reducible rfl
                                      rotate_left
                                      · simp only [Act.put, List.setIfInBounds_toArray, List.set_cons_zero, List.set_cons_succ, i64_w, i32_w]
                                        rfl
                                      refine pure_ (i := 7) (N := some 74) (v := ?_) (a' := ?_) #[true, true, true, true, true, true, true, true, true, true, false, false, false, false] rfl rfl (any_of HT_.out (by kernel_rfl)) (fun _ _ _ h => h) (Or.inl ⟨by rfl, ?_⟩) ?_ ?_
                                      rotate_left
                                      · intro w'
                                        go_simp
                                        with_reducible rfl
                                      rotate_left
                                      · simp only [Act.put, List.setIfInBounds_toArray, List.set_cons_zero, List.set_cons_succ, i64_w, i32_w]
                                        rfl
                                      refine pure_ (i := 10) (N := some 77) (v := ?_) (a' := ?_) #[true, true, true, true, true, true, true, true, true, true, true, false, false, false] rfl rfl (any_of HT_.out (by kernel_rfl)) (fun _ _ _ h => h) (Or.inl ⟨by rfl, ?_⟩) ?_ ?_
                                      rotate_left
                                      · intro w'
                                        go_simp
                                        with_reducible rfl
                                      rotate_left
                                      · simp only [Act.put, List.setIfInBounds_toArray, List.set_cons_zero, List.set_cons_succ, i64_w, i32_w]
                                        rfl
                                      refine pure_ (i := 11) (N := some 78) (v := ?_) (a' := ?_) #[true, true, true, true, true, true, true, true, true, true, true, true, false, false] rfl rfl (any_of HT_.out (by kernel_rfl)) (fun _ _ _ h => h) (Or.inl ⟨by rfl, ?_⟩) ?_ ?_
                                      rotate_left
                                      · intro w'
                                        go_simp
                                        with_reducible rfl
                                      rotate_left
                                      · simp only [Act.put, List.setIfInBounds_toArray, List.set_cons_zero, List.set_cons_succ, i64_w, i32_w]
                                        rfl
                                      refine one_ (i := 12) (N := some 79) #[true, true, true, true, true, true, true, true, true, true, true, true, true, false] rfl rfl (one_of HT_.out (by kernel_rfl)) (by decide) (fun K hK => ?_)
                                      refine print_append_str_step (w0 := w) w.heap.size (by rfl) (.tmp 67) _ 24 9 5 rfl Tryd.underlying24 Tryd.underlying9 info5 u6 x6_2 (((((t117 ++ (⟨#[32]⟩ : ByteArray)) ++ ((rd_T36 l0 x34_2).f0)) ++ (⟨#[61]⟩ : ByteArray)) ++ ((rd_T36 l0 x34_2).f1)) ++ (⟨#[10]⟩ : ByteArray)) rfl rfl ?aO ?aB ?aS ?aL ?_
                                      (case aB => exact (by repeat (first | (with_reducible first | exact HB.out | apply below_alloc | apply pw_below_drewN | apply below_drew1 | refine below_set ?_ GE115.out) | exact HB.out)))
                                      (case aO => exact (Kd.own_of_R (by (with_reducible repeat (first | apply Kd.R_alloc | apply Kd.R_drewN | apply Kd.R_drew)); exact HO_6.out)))
                                      (case aS => exact (below_size (by repeat (first | (with_reducible first | exact HB.out | apply below_alloc | apply pw_below_drewN | apply below_drew1 | refine below_set ?_ GE115.out) | exact HB.out))))
                                      (case aL => have := LMc38.out; omega)
                                      intro v119 w42 ho0 hb hg
                                      have ho := Kd.R_of_own (h1 := fun _ => rfl) (ok := fun _ => True) ho0 (fun _ _ => trivial)
                                      clear ho0
                                      have hat := True.intro
                                      rw [← Ny118.out] at ho
                                      change Kd.R (Kd.int .u8) 5 w42 w.heap.size (fun _ => True) v119 y118 at ho
                                      have n0_ := Aside0.mk (blk_grown (g := gb115) (o := .cells #[.string ((rd_T36 l0 x34_2).f0), .string ((rd_T36 l0 x34_2).f1)] 36 (0, 0)) (by (with_reducible repeat (first | refine blk_drewN ?_ _ | refine blk_drew ?_ | refine blk_alloc ?_ _)); exact BK115.out) hg (Kd.R_ne HO_6.out BK115.out (by decide)))
                                      have n1_ := Aside0.mk (hb)
                                      have n2_ := Aside0.mk (ho)
                                      clear BK115
                                      clear HB
                                      clear HO_6
                                      have BK115 := n0_
                                      have HB := n1_
                                      have HO120 := n2_
                                      clear n0_ n1_ n2_
                                      clear ho hb hg hat
                                      refine hK.out _ _ ⟨(blk_cell BK115.out 0).trans rfl, (blk_cell BK115.out 1).trans rfl⟩ (fun hHeld => ?_)
                                      clear hK K
                                      refine norm_ (a' := ?_) ?_ ?_
                                      rotate_left
                                      · show Act.put _ (some 79) _ = _
                                        simp only [Act.put, List.setIfInBounds_toArray, List.set_cons_zero, List.set_cons_succ, i64_w, i32_w]
                                        rfl
                                      refine pure_ (i := 13) (N := some 6) (v := ?_) (a' := ?_) #[true, true, true, true, true, true, true, true, true, true, true, true, true, true] rfl rfl (any_of HT_.out (by kernel_rfl)) (fun _ _ _ h => h) (Or.inl ⟨by rfl, ?_⟩) ?_ ?_
                                      rotate_left
                                      · intro w'
                                        go_simp
                                        with_reducible rfl
                                      rotate_left
                                      · simp only [Act.put, List.setIfInBounds_toArray, List.set_cons_zero, List.set_cons_succ, i64_w, i32_w]
                                        rfl
                                      refine done_ (done_of HT_.out (by kernel_rfl)) ?_
                                      try go_wp2
                                      go_roundg k3
                                      case measure => have := HK1.out; have := HK2.out; have := HK3.out; omega
                                      case rel => exact ⟨(y118), (wrap64 (x34_2 + 1)), (by first | rfl | (simp; done) | (simp [*]; done)), H', ⟨by have := HK1.out; have := HK2.out; have := HK3.out; omega⟩, ⟨by (with_reducible repeat (first | apply Kd.R_alloc | apply Kd.R_drewN | apply Kd.R_drew)); exact HO120.out⟩, ⟨by repeat (first | (with_reducible first | exact HB.out | apply below_alloc | apply pw_below_drewN | apply below_drew1 | refine below_set ?_ GE115.out) | exact HB.out)⟩⟩
                                    · rw [if_neg c38] at H
                                      exact absurd H (by simp)
                                  · rw [if_neg c37] at H
                                    exact absurd H (by simp)
                                · rw [if_neg c36] at H
                                  exact absurd H (by simp)
                              · rw [if_neg c35] at H
                                exact absurd H (by simp)
                            · rw [if_neg c34] at H
                              exact absurd H (by simp)
                          · rw [if_neg c33] at H
                            exact absurd H (by simp)
                      · rw [if_neg c29] at H
                        have c29b0 : ((t116.size : Int) == (wrap64 (x10_3 - (wrap64 ((wrap64 ((((rd_T36 l0 x34_2).f0).size : Int) + (((rd_T36 l0 x34_2).f1).size : Int))) + 3))))) = false := beq_eq_false_iff_ne.mpr c29
                        have c29b1 : ((t116.size : Int) != (wrap64 (x10_3 - (wrap64 ((wrap64 ((((rd_T36 l0 x34_2).f0).size : Int) + (((rd_T36 l0 x34_2).f1).size : Int))) + 3))))) = true := bne_iff_ne.mpr c29
                        by_cases c43 : (wrap64 (x10_3 - (wrap64 ((wrap64 ((((rd_T36 l0 x34_2).f0).size : Int) + (((rd_T36 l0 x34_2).f1).size : Int))) + 3)))) ≤ 7
                        · rw [if_pos c43] at H
                          have c43b0 : decide ((wrap64 (x10_3 - (wrap64 ((wrap64 ((((rd_T36 l0 x34_2).f0).size : Int) + (((rd_T36 l0 x34_2).f1).size : Int))) + 3)))) ≤ 7) = true := decide_eq_true c43
                          clear c43
                          have H' := Aside0.mk H
                          clear H
                          go_wp2_with (first | ((with_reducible refine gate_callee (f := 23) rfl ?_); refine goesL_ (some 49) rfl rfl Tryd.func23 (by kernel_rfl) rfl #[.int .i64 x10_3] rfl (by (try simp only [List.map_toArray, List.map_cons, List.map_nil]); first | done | rfl | (simp only [List.length_drop, List.length_take]; rfl)) ?_; (with_reducible refine (strconv_Itoa.calls x10_3 t116 _ ?side1 A28.out).mono ?_); (case side1 => exact Gv_below HG.out (by repeat (first | (with_reducible first | exact HB.out | apply below_alloc | apply pw_below_drewN | apply below_drew1 | refine below_set ?_ GE115.out) | exact HB.out))); rintro e w44 ⟨rfl, hb⟩; refine ⟨_, rfl, ?_⟩; have n0_ := Aside0.mk (Kd.R_below (by (with_reducible repeat (first | apply Kd.R_alloc | apply Kd.R_drewN | apply Kd.R_drew)); exact HO_6.out) hb); have n1_ := Aside0.mk (blk_below (g := gb115) (o := .cells #[.string ((rd_T36 l0 x34_2).f0), .string ((rd_T36 l0 x34_2).f1)] 36 (0, 0)) (by (with_reducible repeat (first | refine blk_drewN ?_ _ | refine blk_drew ?_ | refine blk_alloc ?_ _)); exact BK115.out) hb); have n2_ := Aside0.mk (below_step (by repeat (first | (with_reducible first | exact HB.out | apply below_alloc | apply pw_below_drewN | apply below_drew1 | refine below_set ?_ GE115.out) | exact HB.out)) hb); clear HO_6; clear BK115; clear HB; have HO_6 := n0_; have BK115 := n1_; have HB := n2_; clear n0_ n1_ n2_; (try clear hb); (try clear hb2); (try clear hk); (try clear hi)))
                          go_roundg k3
                          case measure => have := HK1.out; have := HK2.out; have := HK3.out; omega
                          case rel => exact ⟨(wrap64 (x10_3 + 1)), (by first | rfl | (simp; done) | (simp [*]; done)), H', ⟨by have := HK1.out; have := HK2.out; have := HK3.out; omega⟩, ⟨by (with_reducible repeat (first | apply Kd.R_alloc | apply Kd.R_drewN | apply Kd.R_drew)); exact HO_6.out⟩, ⟨by (with_reducible repeat (first | refine blk_drewN ?_ _ | refine blk_drew ?_ | refine blk_alloc ?_ _)); exact BK115.out⟩, ⟨by repeat (first | (with_reducible first | exact HB.out | apply below_alloc | apply pw_below_drewN | apply below_drew1 | refine below_set ?_ GE115.out) | exact HB.out)⟩⟩
                        · rw [if_neg c43] at H
                          have c43b0 : decide ((wrap64 (x10_3 - (wrap64 ((wrap64 ((((rd_T36 l0 x34_2).f0).size : Int) + (((rd_T36 l0 x34_2).f1).size : Int))) + 3)))) ≤ 7) = false := decide_eq_false c43
                          clear c43
                          by_cases c45 : (wrap64 (x10_3 - (wrap64 ((wrap64 ((((rd_T36 l0 x34_2).f0).size : Int) + (((rd_T36 l0 x34_2).f1).size : Int))) + 3)))) > 7
                          · rw [if_pos c45] at H
                            have c45b0 : decide (7 < (wrap64 (x10_3 - (wrap64 ((wrap64 ((((rd_T36 l0 x34_2).f0).size : Int) + (((rd_T36 l0 x34_2).f1).size : Int))) + 3))))) = true := decide_eq_true c45
                            clear c45
                            simp only [Option.some.injEq, Prod.mk.injEq] at H
                            obtain ⟨rfl, rfl⟩ := H
                            go_wp2_with (first | ((with_reducible refine gate_callee (f := 23) rfl ?_); refine goesL_ (some 49) rfl rfl Tryd.func23 (by kernel_rfl) rfl #[.int .i64 x10_3] rfl (by (try simp only [List.map_toArray, List.map_cons, List.map_nil]); first | done | rfl | (simp only [List.length_drop, List.length_take]; rfl)) ?_; (with_reducible refine (strconv_Itoa.calls x10_3 t116 _ ?side1 A28.out).mono ?_); (case side1 => exact Gv_below HG.out (by repeat (first | (with_reducible first | exact HB.out | apply below_alloc | apply pw_below_drewN | apply below_drew1 | refine below_set ?_ GE115.out) | exact HB.out))); rintro e w46 ⟨rfl, hb⟩; refine ⟨_, rfl, ?_⟩; have n0_ := Aside0.mk (Kd.R_below (by (with_reducible repeat (first | apply Kd.R_alloc | apply Kd.R_drewN | apply Kd.R_drew)); exact HO_6.out) hb); have n1_ := Aside0.mk (blk_below (g := gb115) (o := .cells #[.string ((rd_T36 l0 x34_2).f0), .string ((rd_T36 l0 x34_2).f1)] 36 (0, 0)) (by (with_reducible repeat (first | refine blk_drewN ?_ _ | refine blk_drew ?_ | refine blk_alloc ?_ _)); exact BK115.out) hb); have n2_ := Aside0.mk (below_step (by repeat (first | (with_reducible first | exact HB.out | apply below_alloc | apply pw_below_drewN | apply below_drew1 | refine below_set ?_ GE115.out) | exact HB.out)) hb); clear HO_6; clear BK115; clear HB; have HO_6 := n0_; have BK115 := n1_; have HB := n2_; clear n0_ n1_ n2_; (try clear hb); (try clear hb2); (try clear hk); (try clear hi)))
                            go_ret2
                            exact ⟨_, by first | rfl | (simp [errW_none, errW_some] <;> rfl) | (simp [*, errW_none, errW_some] <;> rfl), by first | exact Kd.R_nil _ _ _ _ _ | exact Kd.N_nil _ _ _ _ _ | exact Kd.V_nil _ _ _ _ _ | exact Kd.Q_nil _ _ _ _ _ | exact Kd.S_nil _ _ _ _ _, by repeat (first | (with_reducible first | exact HB.out | apply below_alloc | apply pw_below_drewN | apply below_drew1 | refine below_set ?_ GE115.out) | exact HB.out)⟩
                          · rw [if_neg c45] at H
                            have c45b0 : decide (7 < (wrap64 (x10_3 - (wrap64 ((wrap64 ((((rd_T36 l0 x34_2).f0).size : Int) + (((rd_T36 l0 x34_2).f1).size : Int))) + 3))))) = false := decide_eq_false c45
                            clear c45
                            replace H := Option.bind_eq_some_iff.mp H
                            obtain ⟨t121, A470, H⟩ := H
                            replace H : (if t121.size + 1 ≤ 9223372036854775807 then (if (t121 ++ (⟨#[32]⟩ : ByteArray)).size + ((rd_T36 l0 x34_2).f0).size ≤ 9223372036854775807 then (if ((t121 ++ (⟨#[32]⟩ : ByteArray)) ++ ((rd_T36 l0 x34_2).f0)).size + 1 ≤ 9223372036854775807 then (if (((t121 ++ (⟨#[32]⟩ : ByteArray)) ++ ((rd_T36 l0 x34_2).f0)) ++ (⟨#[61]⟩ : ByteArray)).size + ((rd_T36 l0 x34_2).f1).size ≤ 9223372036854775807 then (if ((((t121 ++ (⟨#[32]⟩ : ByteArray)) ++ ((rd_T36 l0 x34_2).f0)) ++ (⟨#[61]⟩ : ByteArray)) ++ ((rd_T36 l0 x34_2).f1)).size + 1 ≤ 9223372036854775807 then (if x6_2.length + (((((t121 ++ (⟨#[32]⟩ : ByteArray)) ++ ((rd_T36 l0 x34_2).f0)) ++ (⟨#[61]⟩ : ByteArray)) ++ ((rd_T36 l0 x34_2).f1)) ++ (⟨#[10]⟩ : ByteArray)).size < 140737488355328 then (pax_Print.l1 k3 (x6_2 ++ bytesOf (((((t121 ++ (⟨#[32]⟩ : ByteArray)) ++ ((rd_T36 l0 x34_2).f0)) ++ (⟨#[61]⟩ : ByteArray)) ++ ((rd_T36 l0 x34_2).f1)) ++ (⟨#[10]⟩ : ByteArray))) l0 (l0.length : Int) (wrap64 (x34_2 + 1))) else (none)) else (none)) else (none)) else (none)) else (none)) else (none)) = some (r1, r2) := H
                            have A47 := Aside0.mk A470
                            clear A470
                            by_cases c48 : t121.size + 1 ≤ 9223372036854775807
                            · rw [if_pos c48] at H
                              have c48b0 := eq_true c48
                              have c48b1 : decide (t121.size + 1 ≤ 9223372036854775807) = true := decide_eq_true c48
                              try have c48b2 : (9223372036854775807 < t121.size + 1) = False := eq_false (Nat.not_lt.2 c48)
                              by_cases c49 : (t121 ++ (⟨#[32]⟩ : ByteArray)).size + ((rd_T36 l0 x34_2).f0).size ≤ 9223372036854775807
                              · rw [if_pos c49] at H
                                have c49b0 := eq_true c49
                                have c49b1 : decide ((t121 ++ (⟨#[32]⟩ : ByteArray)).size + ((rd_T36 l0 x34_2).f0).size ≤ 9223372036854775807) = true := decide_eq_true c49
                                try have c49b2 : (9223372036854775807 < (t121 ++ (⟨#[32]⟩ : ByteArray)).size + ((rd_T36 l0 x34_2).f0).size) = False := eq_false (Nat.not_lt.2 c49)
                                try have c49b3 := c49b2
                                try simp only [ByteArray.size_append, (show ByteArray.size (⟨#[32]⟩ : ByteArray) = 1 from rfl)] at c49b3
                                by_cases c50 : ((t121 ++ (⟨#[32]⟩ : ByteArray)) ++ ((rd_T36 l0 x34_2).f0)).size + 1 ≤ 9223372036854775807
                                · rw [if_pos c50] at H
                                  have c50b0 := eq_true c50
                                  have c50b1 : decide (((t121 ++ (⟨#[32]⟩ : ByteArray)) ++ ((rd_T36 l0 x34_2).f0)).size + 1 ≤ 9223372036854775807) = true := decide_eq_true c50
                                  try have c50b2 : (9223372036854775807 < ((t121 ++ (⟨#[32]⟩ : ByteArray)) ++ ((rd_T36 l0 x34_2).f0)).size + 1) = False := eq_false (Nat.not_lt.2 c50)
                                  try have c50b3 := c50b2
                                  try simp only [ByteArray.size_append, (show ByteArray.size (⟨#[32]⟩ : ByteArray) = 1 from rfl)] at c50b3
                                  by_cases c51 : (((t121 ++ (⟨#[32]⟩ : ByteArray)) ++ ((rd_T36 l0 x34_2).f0)) ++ (⟨#[61]⟩ : ByteArray)).size + ((rd_T36 l0 x34_2).f1).size ≤ 9223372036854775807
                                  · rw [if_pos c51] at H
                                    have c51b0 := eq_true c51
                                    have c51b1 : decide ((((t121 ++ (⟨#[32]⟩ : ByteArray)) ++ ((rd_T36 l0 x34_2).f0)) ++ (⟨#[61]⟩ : ByteArray)).size + ((rd_T36 l0 x34_2).f1).size ≤ 9223372036854775807) = true := decide_eq_true c51
                                    try have c51b2 : (9223372036854775807 < (((t121 ++ (⟨#[32]⟩ : ByteArray)) ++ ((rd_T36 l0 x34_2).f0)) ++ (⟨#[61]⟩ : ByteArray)).size + ((rd_T36 l0 x34_2).f1).size) = False := eq_false (Nat.not_lt.2 c51)
                                    try have c51b3 := c51b2
                                    try simp only [ByteArray.size_append, (show ByteArray.size (⟨#[32]⟩ : ByteArray) = 1 from rfl), (show ByteArray.size (⟨#[61]⟩ : ByteArray) = 1 from rfl)] at c51b3
                                    by_cases c52 : ((((t121 ++ (⟨#[32]⟩ : ByteArray)) ++ ((rd_T36 l0 x34_2).f0)) ++ (⟨#[61]⟩ : ByteArray)) ++ ((rd_T36 l0 x34_2).f1)).size + 1 ≤ 9223372036854775807
                                    · rw [if_pos c52] at H
                                      have c52b0 := eq_true c52
                                      have c52b1 : decide (((((t121 ++ (⟨#[32]⟩ : ByteArray)) ++ ((rd_T36 l0 x34_2).f0)) ++ (⟨#[61]⟩ : ByteArray)) ++ ((rd_T36 l0 x34_2).f1)).size + 1 ≤ 9223372036854775807) = true := decide_eq_true c52
                                      try have c52b2 : (9223372036854775807 < ((((t121 ++ (⟨#[32]⟩ : ByteArray)) ++ ((rd_T36 l0 x34_2).f0)) ++ (⟨#[61]⟩ : ByteArray)) ++ ((rd_T36 l0 x34_2).f1)).size + 1) = False := eq_false (Nat.not_lt.2 c52)
                                      try have c52b3 := c52b2
                                      try simp only [ByteArray.size_append, (show ByteArray.size (⟨#[32]⟩ : ByteArray) = 1 from rfl), (show ByteArray.size (⟨#[61]⟩ : ByteArray) = 1 from rfl)] at c52b3
                                      by_cases c53 : x6_2.length + (((((t121 ++ (⟨#[32]⟩ : ByteArray)) ++ ((rd_T36 l0 x34_2).f0)) ++ (⟨#[61]⟩ : ByteArray)) ++ ((rd_T36 l0 x34_2).f1)) ++ (⟨#[10]⟩ : ByteArray)).size < 140737488355328
                                      · rw [if_pos c53] at H
                                        have LMc53 := Aside0.mk c53
                                        clear c53
                                        obtain ⟨y122, hy122⟩ : ∃ y_ : List Int, y_ = (x6_2 ++ bytesOf (((((t121 ++ (⟨#[32]⟩ : ByteArray)) ++ ((rd_T36 l0 x34_2).f0)) ++ (⟨#[61]⟩ : ByteArray)) ++ ((rd_T36 l0 x34_2).f1)) ++ (⟨#[10]⟩ : ByteArray))) := ⟨_, rfl⟩
                                        replace H : (pax_Print.l1 k3 y122 l0 (l0.length : Int) (wrap64 (x34_2 + 1))) = some (r1, r2) := by first | (rw [hy122]; with_reducible exact H) | (have H2_ := (Option.bind_some _ _).symm.trans H; rw [hy122]; with_reducible exact H2_) | (have H2_ := (Option.bind_some _ _).symm.trans H; with_reducible exact H2_) | with_reducible exact H | (rw [hy122]; exact H) | exact H
                                        have Ny122 := Aside0.mk hy122
                                        clear hy122
                                        have H' := Aside0.mk H
                                        clear H
                                        try go_wp2_with (first | ((with_reducible refine gate_callee (f := 23) rfl ?_); refine goesL_ (some 49) rfl rfl Tryd.func23 (by kernel_rfl) rfl #[.int .i64 x10_3] rfl (by (try simp only [List.map_toArray, List.map_cons, List.map_nil]); first | done | rfl | (simp only [List.length_drop, List.length_take]; rfl)) ?_; (with_reducible refine (strconv_Itoa.calls x10_3 t116 _ ?side1 A28.out).mono ?_); (case side1 => exact Gv_below HG.out (by repeat (first | (with_reducible first | exact HB.out | apply below_alloc | apply pw_below_drewN | apply below_drew1 | refine below_set ?_ GE115.out) | exact HB.out))); rintro e w54 ⟨rfl, hb⟩; refine ⟨_, rfl, ?_⟩; have n0_ := Aside0.mk (Kd.R_below (by (with_reducible repeat (first | apply Kd.R_alloc | apply Kd.R_drewN | apply Kd.R_drew)); exact HO_6.out) hb); have n1_ := Aside0.mk (blk_below (g := gb115) (o := .cells #[.string ((rd_T36 l0 x34_2).f0), .string ((rd_T36 l0 x34_2).f1)] 36 (0, 0)) (by (with_reducible repeat (first | refine blk_drewN ?_ _ | refine blk_drew ?_ | refine blk_alloc ?_ _)); exact BK115.out) hb); have n2_ := Aside0.mk (below_step (by repeat (first | (with_reducible first | exact HB.out | apply below_alloc | apply pw_below_drewN | apply below_drew1 | refine below_set ?_ GE115.out) | exact HB.out)) hb); clear HO_6; clear BK115; clear HB; have HO_6 := n0_; have BK115 := n1_; have HB := n2_; clear n0_ n1_ n2_; (try clear hb); (try clear hb2); (try clear hk); (try clear hi)))
                                        have n0_ := Aside0.mk (Kd.R_drew HO_6.out)
                                        have n1_ := Aside0.mk (blk_drew BK115.out)
                                        have n2_ := Aside0.mk (below_drew1 HB.out)
                                        clear HO_6
                                        clear BK115
                                        clear HB
                                        have HO_6 := n0_
                                        have BK115 := n1_
                                        have HB := n2_
                                        clear n0_ n1_ n2_
                                        refine start_ (n := 14) (S := fun w' => w'.cell? ⟨gb115, 0, none⟩ = some (.string ((rd_T36 l0 x34_2).f0)) ∧ w'.cell? ⟨gb115, 1, none⟩ = some (.string ((rd_T36 l0 x34_2).f1))) (ds := []) #[false, false, false, false, false, false, false, false, false, false, false, false, false, false] (by kernel_rfl) rfl rfl ⟨(blk_cell BK115.out 0).trans rfl, (blk_cell BK115.out 1).trans rfl⟩ (fun hHeld => ?_); refine with_tabW pax_Print.tab17 pax_Print.bits17 (fun HT_ HW_ => ?_)
                                        generalize w54.drew = w55 at HO_6 BK115 HB hHeld ⊢
                                        refine pure_ (i := 0) (N := some 67) (v := ?_) (a' := ?_) #[true, false, false, false, false, false, false, false, false, false, false, false, false, false] rfl rfl (any_of HT_.out (by kernel_rfl)) (fun _ _ _ h => h) (Or.inl ⟨by rfl, ?_⟩) ?_ ?_
                                        rotate_left
                                        · intro w'
                                          go_simp
                                          with_reducible rfl
                                        rotate_left
                                        · simp only [Act.put, List.setIfInBounds_toArray, List.set_cons_zero, List.set_cons_succ, i64_w, i32_w]
                                          rfl
                                        refine pure_ (i := 1) (N := some 68) (v := ?_) (a' := ?_) #[true, true, false, false, false, false, false, false, false, false, false, false, false, false] rfl rfl (any_of HT_.out (by kernel_rfl)) (fun _ _ _ h => h) (Or.inl ⟨by rfl, ?_⟩) ?_ ?_
                                        rotate_left
                                        · intro w'
                                          go_simp
                                          with_reducible rfl
                                        rotate_left
                                        · simp only [Act.put, List.setIfInBounds_toArray, List.set_cons_zero, List.set_cons_succ, i64_w, i32_w]
                                          rfl
                                        refine pure_ (i := 4) (N := some 71) (v := ?_) (a' := ?_) #[true, true, false, false, true, false, false, false, false, false, false, false, false, false] rfl rfl (any_of HT_.out (by kernel_rfl)) (fun _ _ _ h => h) (Or.inl ⟨by rfl, ?_⟩) ?_ ?_
                                        rotate_left
                                        · intro w'
                                          go_simp
                                          with_reducible rfl
                                        rotate_left
                                        · simp only [Act.put, List.setIfInBounds_toArray, List.set_cons_zero, List.set_cons_succ, i64_w, i32_w]
                                          rfl
                                        refine pure_ (i := 8) (N := some 75) (v := ?_) (a' := ?_) #[true, true, false, false, true, false, false, false, true, false, false, false, false, false] rfl rfl (any_of HT_.out (by kernel_rfl)) (fun _ _ _ h => h) (Or.inl ⟨by rfl, ?_⟩) ?_ ?_
                                        rotate_left
                                        · intro w'
                                          go_simp
                                          with_reducible rfl
                                        rotate_left
                                        · simp only [Act.put, List.setIfInBounds_toArray, List.set_cons_zero, List.set_cons_succ, i64_w, i32_w]
                                          rfl
                                        refine take_ (i := 5) (N := some 72) (v := ?_) (a' := ?_) #[true, true, false, false, true, true, false, false, true, false, false, false, false, false] rfl rfl (take_ofW HT_.out HW_.out (by kernel_rfl)) (fun _ _ _ h => h) (Or.inl ⟨by rfl, ?_⟩) hHeld ?_ ?_
                                        rotate_left
                                        · rintro w' ⟨s0, s1⟩
                                          go_simp
                                          with_reducible rfl
                                        rotate_left
                                        · simp only [Act.put, List.setIfInBounds_toArray, List.set_cons_zero, List.set_cons_succ, i64_w, i32_w]
                                          rfl
                                        refine take_ (i := 9) (N := some 76) (v := ?_) (a' := ?_) #[true, true, false, false, true, true, false, false, true, true, false, false, false, false] rfl rfl (take_ofW HT_.out HW_.out (by kernel_rfl)) (fun _ _ _ h => h) (Or.inl ⟨by rfl, ?_⟩) hHeld ?_ ?_
                                        rotate_left
                                        · rintro w' ⟨s0, s1⟩
                                          go_simp
                                          with_reducible rfl
                                        rotate_left
                                        · simp only [Act.put, List.setIfInBounds_toArray, List.set_cons_zero, List.set_cons_succ, i64_w, i32_w]
                                          rfl
                                        refine one_ (i := 2) (N := some 69) #[true, true, true, false, true, true, false, false, true, true, false, false, false, false] rfl rfl (one_of HT_.out (by kernel_rfl)) (by decide) (fun K hK => ?_)
                                        refine goes_ Tryd.func23 (by kernel_rfl) rfl #[.int .i64 x10_3] (by rfl) rfl rfl (by (try simp only [List.map_toArray, List.map_cons, List.map_nil]); first | done | rfl | (simp only [List.length_drop, List.length_take]; rfl)) ?_
                                        with_reducible refine (strconv_Itoa.calls x10_3 t121 _ ?side1 A47.out).mono ?_
                                        (case side1 => exact Gv_below HG.out (by repeat (first | (with_reducible first | exact HB.out | apply below_alloc | apply pw_below_drewN | apply below_drew1 | refine below_set ?_ GE115.out) | exact HB.out)))
                                        rintro e w56 ⟨rfl, hb⟩
                                        refine ⟨_, rfl, ?_⟩
                                        have n0_ := Aside0.mk (Kd.R_below (by (with_reducible repeat (first | apply Kd.R_alloc | apply Kd.R_drewN | apply Kd.R_drew)); exact HO_6.out) hb)
                                        have n1_ := Aside0.mk (blk_below (g := gb115) (o := .cells #[.string ((rd_T36 l0 x34_2).f0), .string ((rd_T36 l0 x34_2).f1)] 36 (0, 0)) (by (with_reducible repeat (first | refine blk_drewN ?_ _ | refine blk_drew ?_ | refine blk_alloc ?_ _)); exact BK115.out) hb)
                                        have n2_ := Aside0.mk (below_step (by repeat (first | (with_reducible first | exact HB.out | apply below_alloc | apply pw_below_drewN | apply below_drew1 | refine below_set ?_ GE115.out) | exact HB.out)) hb)
                                        clear HO_6
                                        clear BK115
                                        clear HB
                                        have HO_6 := n0_
                                        have BK115 := n1_
                                        have HB := n2_
                                        clear n0_ n1_ n2_
                                        (try clear hb)
                                        (try clear hb2)
                                        (try clear hk)
                                        (try clear hi)
                                        refine hK.out _ _ ⟨(blk_cell BK115.out 0).trans rfl, (blk_cell BK115.out 1).trans rfl⟩ (fun hHeld => ?_)
                                        clear hK K
                                        refine norm_ (a' := ?_) ?_ ?_
                                        rotate_left
                                        · show Act.put _ (some 69) _ = _
                                          simp only [Act.put, List.setIfInBounds_toArray, List.set_cons_zero, List.set_cons_succ, i64_w, i32_w]
                                          rfl
                                        refine pure_ (i := 3) (N := some 70) (v := ?_) (a' := ?_) #[true, true, true, true, true, true, false, false, true, true, false, false, false, false] rfl rfl (any_of HT_.out (by kernel_rfl)) (fun _ _ _ h => h) (Or.inl ⟨by rfl, ?_⟩) ?_ ?_
                                        rotate_left
                                        · intro w'
                                          go_simp
                                          with_reducible rfl
                                        rotate_left
                                        · simp only [Act.put, List.setIfInBounds_toArray, List.set_cons_zero, List.set_cons_succ, i64_w, i32_w]
                                          rfl
                                        refine pure_ (i := 6) (N := some 73) (v := ?_) (a' := ?_) #[true, true, true, true, true, true, true, false, true, true, false, false, false, false] rfl rfl (any_of HT_.out (by kernel_rfl)) (fun _ _ _ h => h) (Or.inl ⟨by rfl, ?_⟩) ?_ ?_
                                        rotate_left
                                        · intro w'
                                          go_simp
                                          with_reducible rfl
                                        rotate_left
                                        · simp only [Act.put, List.setIfInBounds_toArray, List.set_cons_zero, List.set_cons_succ, i64_w, i32_w]
                                          rfl
                                        refine pure_ (i := 7) (N := some 74) (v := ?_) (a' := ?_) #[true, true, true, true, true, true, true, true, true, true, false, false, false, false] rfl rfl (any_of HT_.out (by kernel_rfl)) (fun _ _ _ h => h) (Or.inl ⟨by rfl, ?_⟩) ?_ ?_
                                        rotate_left
                                        · intro w'
                                          go_simp
                                          with_reducible rfl
                                        rotate_left
                                        · simp only [Act.put, List.setIfInBounds_toArray, List.set_cons_zero, List.set_cons_succ, i64_w, i32_w]
                                          rfl
                                        refine pure_ (i := 10) (N := some 77) (v := ?_) (a' := ?_) #[true, true, true, true, true, true, true, true, true, true, true, false, false, false] rfl rfl (any_of HT_.out (by kernel_rfl)) (fun _ _ _ h => h) (Or.inl ⟨by rfl, ?_⟩) ?_ ?_
                                        rotate_left
                                        · intro w'
                                          go_simp
                                          with_reducible rfl
                                        rotate_left
                                        · simp only [Act.put, List.setIfInBounds_toArray, List.set_cons_zero, List.set_cons_succ, i64_w, i32_w]
                                          rfl
                                        refine pure_ (i := 11) (N := some 78) (v := ?_) (a' := ?_) #[true, true, true, true, true, true, true, true, true, true, true, true, false, false] rfl rfl (any_of HT_.out (by kernel_rfl)) (fun _ _ _ h => h) (Or.inl ⟨by rfl, ?_⟩) ?_ ?_
                                        rotate_left
                                        · intro w'
                                          go_simp
                                          with_reducible rfl
                                        rotate_left
                                        · simp only [Act.put, List.setIfInBounds_toArray, List.set_cons_zero, List.set_cons_succ, i64_w, i32_w]
                                          rfl
                                        refine one_ (i := 12) (N := some 79) #[true, true, true, true, true, true, true, true, true, true, true, true, true, false] rfl rfl (one_of HT_.out (by kernel_rfl)) (by decide) (fun K hK => ?_)
                                        refine print_append_str_step (w0 := w) w.heap.size (by rfl) (.tmp 67) _ 24 9 5 rfl Tryd.underlying24 Tryd.underlying9 info5 u6 x6_2 (((((t121 ++ (⟨#[32]⟩ : ByteArray)) ++ ((rd_T36 l0 x34_2).f0)) ++ (⟨#[61]⟩ : ByteArray)) ++ ((rd_T36 l0 x34_2).f1)) ++ (⟨#[10]⟩ : ByteArray)) rfl rfl ?aO ?aB ?aS ?aL ?_
                                        (case aB => exact (by repeat (first | (with_reducible first | exact HB.out | apply below_alloc | apply pw_below_drewN | apply below_drew1 | refine below_set ?_ GE115.out) | exact HB.out)))
                                        (case aO => exact (Kd.own_of_R (by (with_reducible repeat (first | apply Kd.R_alloc | apply Kd.R_drewN | apply Kd.R_drew)); exact HO_6.out)))
                                        (case aS => exact (below_size (by repeat (first | (with_reducible first | exact HB.out | apply below_alloc | apply pw_below_drewN | apply below_drew1 | refine below_set ?_ GE115.out) | exact HB.out))))
                                        (case aL => have := LMc53.out; omega)
                                        intro v123 w57 ho0 hb hg
                                        have ho := Kd.R_of_own (h1 := fun _ => rfl) (ok := fun _ => True) ho0 (fun _ _ => trivial)
                                        clear ho0
                                        have hat := True.intro
                                        rw [← Ny122.out] at ho
                                        change Kd.R (Kd.int .u8) 5 w57 w.heap.size (fun _ => True) v123 y122 at ho
                                        have n0_ := Aside0.mk (blk_grown (g := gb115) (o := .cells #[.string ((rd_T36 l0 x34_2).f0), .string ((rd_T36 l0 x34_2).f1)] 36 (0, 0)) (by (with_reducible repeat (first | refine blk_drewN ?_ _ | refine blk_drew ?_ | refine blk_alloc ?_ _)); exact BK115.out) hg (Kd.R_ne HO_6.out BK115.out (by decide)))
                                        have n1_ := Aside0.mk (hb)
                                        have n2_ := Aside0.mk (ho)
                                        clear BK115
                                        clear HB
                                        clear HO_6
                                        have BK115 := n0_
                                        have HB := n1_
                                        have HO124 := n2_
                                        clear n0_ n1_ n2_
                                        clear ho hb hg hat
                                        refine hK.out _ _ ⟨(blk_cell BK115.out 0).trans rfl, (blk_cell BK115.out 1).trans rfl⟩ (fun hHeld => ?_)
                                        clear hK K
                                        refine norm_ (a' := ?_) ?_ ?_
                                        rotate_left
                                        · show Act.put _ (some 79) _ = _
                                          simp only [Act.put, List.setIfInBounds_toArray, List.set_cons_zero, List.set_cons_succ, i64_w, i32_w]
                                          rfl
                                        refine pure_ (i := 13) (N := some 6) (v := ?_) (a' := ?_) #[true, true, true, true, true, true, true, true, true, true, true, true, true, true] rfl rfl (any_of HT_.out (by kernel_rfl)) (fun _ _ _ h => h) (Or.inl ⟨by rfl, ?_⟩) ?_ ?_
                                        rotate_left
                                        · intro w'
                                          go_simp
                                          with_reducible rfl
                                        rotate_left
                                        · simp only [Act.put, List.setIfInBounds_toArray, List.set_cons_zero, List.set_cons_succ, i64_w, i32_w]
                                          rfl
                                        refine done_ (done_of HT_.out (by kernel_rfl)) ?_
                                        try go_wp2
                                        go_roundg k3
                                        case measure => have := HK1.out; have := HK2.out; have := HK3.out; omega
                                        case rel => exact ⟨(y122), (wrap64 (x34_2 + 1)), (by first | rfl | (simp; done) | (simp [*]; done)), H', ⟨by have := HK1.out; have := HK2.out; have := HK3.out; omega⟩, ⟨by (with_reducible repeat (first | apply Kd.R_alloc | apply Kd.R_drewN | apply Kd.R_drew)); exact HO124.out⟩, ⟨by repeat (first | (with_reducible first | exact HB.out | apply below_alloc | apply pw_below_drewN | apply below_drew1 | refine below_set ?_ GE115.out) | exact HB.out)⟩⟩
                                      · rw [if_neg c53] at H
                                        exact absurd H (by simp)
                                    · rw [if_neg c52] at H
                                      exact absurd H (by simp)
                                  · rw [if_neg c51] at H
                                    exact absurd H (by simp)
                                · rw [if_neg c50] at H
                                  exact absurd H (by simp)
                              · rw [if_neg c49] at H
                                exact absurd H (by simp)
                            · rw [if_neg c48] at H
                              exact absurd H (by simp)
                · rw [if_neg c25] at H
                  exact absurd H (by simp)
              · rw [if_neg c24] at H
                exact absurd H (by simp)
            · rw [if_neg c23] at H
              have c23b0 : decide (x34_2 < (l0.length : Int)) = false := decide_eq_false c23
              clear c23
              simp only [Option.some.injEq, Prod.mk.injEq] at H
              obtain ⟨rfl, rfl⟩ := H
              go_wp2
              go_ret2
              exact ⟨_, by first | rfl | (simp [errW_none, errW_some] <;> rfl) | (simp [*, errW_none, errW_some] <;> rfl), by (with_reducible repeat (first | apply Kd.R_alloc | apply Kd.R_drewN | apply Kd.R_drew)); exact HO_6.out, by repeat (first | (with_reducible first | exact HB.out | apply below_alloc | apply pw_below_drewN | apply below_drew1) | exact HB.out)⟩

end Go.Proofs.YtpaghdfnhlpngaaDoor.PPaxPairs
