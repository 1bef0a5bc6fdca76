-- WRITTEN BY wip/xprint.py, a program of the proving session round the kit's print.py; Lean checks it.
import Derived.Test.YtncnnbabokkafaaPCompareChangesx0
import Derived.Test.YtncnnbabokkafaaPCompareChangesx1
import Derived.Test.YtncnnbabokkafaaPCompareChangesx8
namespace Go.Proofs.Ytncnnbabokkafaa.PCompareChanges
open Go.Proofs.YtncnnbabokkafaaX
open Go.RowKit Go.Proofs.YtncnnbabokkafaaW.PrintWords Go.Proofs.YtncnnbabokkafaaW.PrintLast Go.Proofs.YtncnnbabokkafaaW.PrintMore
attribute [local go_sem] str_leq str_gtr max2_int min2_int max_two min_two max_three min_three max_four min_four   -- for this text's walks alone
set_option linter.unusedVariables false
set_option linter.unusedSimpArgs false

attribute [local go_sem high] eqA30
/-! ### satchelref24_what: function 13 -/
mutual
def satchelref24_what.j0 : Nat → Int → Bool → ByteArray → Int → Int → Int → Int → Int → Int → Int → Int → ByteArray → ByteArray → Int → Int → Int → Int → Int → Int → Int → Int → ByteArray → Option (Int)
  | 0, _, _, _, _, _, _, _, _, _, _, _, _, _, _, _, _, _, _, _, _, _, _ => none
  | k + 1, x11, x47, x133000, x133001, x133002, x133003, x133004, x133005, x133006, x133007, x133008, x133009, x145000, x145001, x145002, x145003, x145004, x145005, x145006, x145007, x145008, x145009 => if x47 = true then (satchelref24_what.j1 k (wrap64 (x11 + 8)) x133000 x133001 x133002 x133003 x133004 x133005 x133006 x133007 x133008 x133009 x145000 x145001 x145002 x145003 x145004 x145005 x145006 x145007 x145008 x145009) else (satchelref24_what.j1 k x11 x133000 x133001 x133002 x133003 x133004 x133005 x133006 x133007 x133008 x133009 x145000 x145001 x145002 x145003 x145004 x145005 x145006 x145007 x145008 x145009)
def satchelref24_what.j1 : Nat → Int → ByteArray → Int → Int → Int → Int → Int → Int → Int → Int → ByteArray → ByteArray → Int → Int → Int → Int → Int → Int → Int → Int → ByteArray → Option (Int)
  | 0, _, _, _, _, _, _, _, _, _, _, _, _, _, _, _, _, _, _, _, _, _ => none
  | k + 1, x11, x133000, x133001, x133002, x133003, x133004, x133005, x133006, x133007, x133008, x133009, x145000, x145001, x145002, x145003, x145004, x145005, x145006, x145007, x145008, x145009 => if (!(x133002 == x145002) || (!(x133003 == x145003) || (!(x133004 == x145004) || (!(x133005 == x145005) || (!(x133006 == x145006)))))) = true then (if x133009.toList = x145009.toList then (some (wrap64 (x11 + 16))) else (some (wrap64 ((wrap64 (x11 + 16)) + 32)))) else (if x133009.toList = x145009.toList then (some x11) else (some (wrap64 (x11 + 32))))
end
def satchelref24_what.f (k : Nat) (l0 : List (S33)) (l1 : List (S33)) (a2 : ByteArray) : Option (Int) := (satchelref24_last.f k l0 a2).bind fun bt121 => ((satchelref24_last.f k l1 a2).bind fun bt133 => (if bt121.2.2.2.2.2.2.2.2.2.2 = true then (if bt133.2.2.2.2.2.2.2.2.2.2 = true then (if bt121.2.1 = bt133.2.1 then (if bt121.2.2.2.2.2.2.2.1 = bt133.2.2.2.2.2.2.2.1 then (satchelref24_what.j0 k 0 (bt121.2.2.2.2.2.2.2.2.1 != bt133.2.2.2.2.2.2.2.2.1) bt121.1 bt121.2.1 bt121.2.2.1 bt121.2.2.2.1 bt121.2.2.2.2.1 bt121.2.2.2.2.2.1 bt121.2.2.2.2.2.2.1 bt121.2.2.2.2.2.2.2.1 bt121.2.2.2.2.2.2.2.2.1 bt121.2.2.2.2.2.2.2.2.2.1 bt133.1 bt133.2.1 bt133.2.2.1 bt133.2.2.2.1 bt133.2.2.2.2.1 bt133.2.2.2.2.2.1 bt133.2.2.2.2.2.2.1 bt133.2.2.2.2.2.2.2.1 bt133.2.2.2.2.2.2.2.2.1 bt133.2.2.2.2.2.2.2.2.2.1) else (satchelref24_what.j0 k 0 true bt121.1 bt121.2.1 bt121.2.2.1 bt121.2.2.2.1 bt121.2.2.2.2.1 bt121.2.2.2.2.2.1 bt121.2.2.2.2.2.2.1 bt121.2.2.2.2.2.2.2.1 bt121.2.2.2.2.2.2.2.2.1 bt121.2.2.2.2.2.2.2.2.2.1 bt133.1 bt133.2.1 bt133.2.2.1 bt133.2.2.2.1 bt133.2.2.2.2.1 bt133.2.2.2.2.2.1 bt133.2.2.2.2.2.2.1 bt133.2.2.2.2.2.2.2.1 bt133.2.2.2.2.2.2.2.2.1 bt133.2.2.2.2.2.2.2.2.2.1)) else (some 4)) else (some 2)) else (some 1)))
theorem satchelref24_what.mono_l : ∀ k, (∀ y0 y1 y2 y3 y4 y5 y6 y7 y8 y9 y10 y11 y12 y13 y14 y15 y16 y17 y18 y19 y20 y21, LeO (satchelref24_what.j0 k y0 y1 y2 y3 y4 y5 y6 y7 y8 y9 y10 y11 y12 y13 y14 y15 y16 y17 y18 y19 y20 y21) (satchelref24_what.j0 (k + 1) y0 y1 y2 y3 y4 y5 y6 y7 y8 y9 y10 y11 y12 y13 y14 y15 y16 y17 y18 y19 y20 y21)) ∧ (∀ y0 y1 y2 y3 y4 y5 y6 y7 y8 y9 y10 y11 y12 y13 y14 y15 y16 y17 y18 y19 y20, LeO (satchelref24_what.j1 k y0 y1 y2 y3 y4 y5 y6 y7 y8 y9 y10 y11 y12 y13 y14 y15 y16 y17 y18 y19 y20) (satchelref24_what.j1 (k + 1) y0 y1 y2 y3 y4 y5 y6 y7 y8 y9 y10 y11 y12 y13 y14 y15 y16 y17 y18 y19 y20))
  | 0 => ⟨fun _ _ _ _ _ _ _ _ _ _ _ _ _ _ _ _ _ _ _ _ _ _ r h => by simp [satchelref24_what.j0] at h, fun _ _ _ _ _ _ _ _ _ _ _ _ _ _ _ _ _ _ _ _ _ r h => by simp [satchelref24_what.j1] at h⟩
  | k + 1 => by
    obtain ⟨ih0, ih1⟩ := satchelref24_what.mono_l k
    refine ⟨?_, ?_⟩
    · intro y0 y1 y2 y3 y4 y5 y6 y7 y8 y9 y10 y11 y12 y13 y14 y15 y16 y17 y18 y19 y20 y21
      unfold satchelref24_what.j0
      repeat' first
      | (with_reducible exact ih0 _ _ _ _ _ _ _ _ _ _ _ _ _ _ _ _ _ _ _ _ _ _)
      | (with_reducible exact ih1 _ _ _ _ _ _ _ _ _ _ _ _ _ _ _ _ _ _ _ _ _)
      | (with_reducible exact satchelref24_last.mono _ _ _)
      | (with_reducible exact LeO.refl _)
      | (with_reducible exact LeO.none _)
      | (with_reducible refine LeO.ite ?_ ?_)
      | (with_reducible refine LeO.bind ?_ (fun _ => ?_))
      | exact ih0 _ _ _ _ _ _ _ _ _ _ _ _ _ _ _ _ _ _ _ _ _ _
      | exact ih1 _ _ _ _ _ _ _ _ _ _ _ _ _ _ _ _ _ _ _ _ _
      | exact satchelref24_last.mono _ _ _
      | exact LeO.none _
      | refine LeO.ite ?_ ?_
      | refine LeO.bind ?_ (fun _ => ?_)
    · intro y0 y1 y2 y3 y4 y5 y6 y7 y8 y9 y10 y11 y12 y13 y14 y15 y16 y17 y18 y19 y20
      unfold satchelref24_what.j1
      repeat' first
      | (with_reducible exact ih0 _ _ _ _ _ _ _ _ _ _ _ _ _ _ _ _ _ _ _ _ _ _)
      | (with_reducible exact ih1 _ _ _ _ _ _ _ _ _ _ _ _ _ _ _ _ _ _ _ _ _)
      | (with_reducible exact satchelref24_last.mono _ _ _)
      | (with_reducible exact LeO.refl _)
      | (with_reducible exact LeO.none _)
      | (with_reducible refine LeO.ite ?_ ?_)
      | (with_reducible refine LeO.bind ?_ (fun _ => ?_))
      | exact ih0 _ _ _ _ _ _ _ _ _ _ _ _ _ _ _ _ _ _ _ _ _ _
      | exact ih1 _ _ _ _ _ _ _ _ _ _ _ _ _ _ _ _ _ _ _ _ _
      | exact satchelref24_last.mono _ _ _
      | exact LeO.none _
      | refine LeO.ite ?_ ?_
      | refine LeO.bind ?_ (fun _ => ?_)
theorem satchelref24_what.mono : ∀ a0 a1 a2 k, LeO (satchelref24_what.f k a0 a1 a2) (satchelref24_what.f (k + 1) a0 a1 a2) := by
  intro a0 a1 a2 k
  obtain ⟨ih0, ih1⟩ := satchelref24_what.mono_l k
  unfold satchelref24_what.f
  repeat' first
      | (with_reducible exact ih0 _ _ _ _ _ _ _ _ _ _ _ _ _ _ _ _ _ _ _ _ _ _)
      | (with_reducible exact ih1 _ _ _ _ _ _ _ _ _ _ _ _ _ _ _ _ _ _ _ _ _)
      | (with_reducible exact satchelref24_last.mono _ _ _)
      | (with_reducible exact LeO.refl _)
      | (with_reducible exact LeO.none _)
      | (with_reducible refine LeO.ite ?_ ?_)
      | (with_reducible refine LeO.bind ?_ (fun _ => ?_))
      | exact ih0 _ _ _ _ _ _ _ _ _ _ _ _ _ _ _ _ _ _ _ _ _ _
      | exact ih1 _ _ _ _ _ _ _ _ _ _ _ _ _ _ _ _ _ _ _ _ _
      | exact satchelref24_last.mono _ _ _
      | exact LeO.none _
      | refine LeO.ite ?_ ?_
      | refine LeO.bind ?_ (fun _ => ?_)
set_option maxHeartbeats 8000000 in
set_option maxRecDepth 100000 in
theorem satchelref24_what.calls (k : Nat) (A0 : Option Addr) (c0 : Nat) (l0 : List (S33)) (A1 : Option Addr) (c1 : Nat) (l1 : List (S33)) (a2 : ByteArray) (r : Int) (w : World) (hr0 : Kd.C k33 w A0 l0.length l0) (hc0 : l0.length ≤ c0) (hr1 : Kd.C k33 w A1 l1.length l1) (hc1 : l1.length ≤ c1) (h : satchelref24_what.f k l0 l1 a2 = some r) :
    Calls Try.prog 13 #[.slice A0 l0.length c0, .slice A1 l1.length c1, .string a2] w fun e w' => e = .returned (.int .i64 r) ∧ Below w.heap.size w w' := by
  have hu33 := Try.underlying33
  have hu30 := Try.underlying30
  have HR0 := Aside0.mk hr0
  have HC0 := Aside0.mk hc0
  clear hr0 hc0
  have HR1 := Aside0.mk hr1
  have HC1 := Aside0.mk hc1
  clear hr1 hc1
  have HB := Aside0.mk (Below.refl w.heap.size w)
  have H : ((satchelref24_last.f k l0 a2).bind fun bt121 => ((satchelref24_last.f k l1 a2).bind fun bt133 => (if bt121.2.2.2.2.2.2.2.2.2.2 = true then (if bt133.2.2.2.2.2.2.2.2.2.2 = true then (if bt121.2.1 = bt133.2.1 then (if bt121.2.2.2.2.2.2.2.1 = bt133.2.2.2.2.2.2.2.1 then (satchelref24_what.j0 k 0 (bt121.2.2.2.2.2.2.2.2.1 != bt133.2.2.2.2.2.2.2.2.1) bt121.1 bt121.2.1 bt121.2.2.1 bt121.2.2.2.1 bt121.2.2.2.2.1 bt121.2.2.2.2.2.1 bt121.2.2.2.2.2.2.1 bt121.2.2.2.2.2.2.2.1 bt121.2.2.2.2.2.2.2.2.1 bt121.2.2.2.2.2.2.2.2.2.1 bt133.1 bt133.2.1 bt133.2.2.1 bt133.2.2.2.1 bt133.2.2.2.2.1 bt133.2.2.2.2.2.1 bt133.2.2.2.2.2.2.1 bt133.2.2.2.2.2.2.2.1 bt133.2.2.2.2.2.2.2.2.1 bt133.2.2.2.2.2.2.2.2.2.1) else (satchelref24_what.j0 k 0 true bt121.1 bt121.2.1 bt121.2.2.1 bt121.2.2.2.1 bt121.2.2.2.2.1 bt121.2.2.2.2.2.1 bt121.2.2.2.2.2.2.1 bt121.2.2.2.2.2.2.2.1 bt121.2.2.2.2.2.2.2.2.1 bt121.2.2.2.2.2.2.2.2.2.1 bt133.1 bt133.2.1 bt133.2.2.1 bt133.2.2.2.1 bt133.2.2.2.2.1 bt133.2.2.2.2.2.1 bt133.2.2.2.2.2.2.1 bt133.2.2.2.2.2.2.2.1 bt133.2.2.2.2.2.2.2.2.1 bt133.2.2.2.2.2.2.2.2.2.1)) else (some 4)) else (some 2)) else (some 1)))) = some r := h
  clear h
  replace H := Option.bind_eq_some_iff.mp H
  obtain ⟨⟨t121, t122, t123, t124, t125, t126, t127, t128, t129, t130, t131⟩, A40, H⟩ := H
  replace H : ((satchelref24_last.f k l1 a2).bind fun bt133 => (if t131 = true then (if bt133.2.2.2.2.2.2.2.2.2.2 = true then (if t122 = bt133.2.1 then (if t128 = bt133.2.2.2.2.2.2.2.1 then (satchelref24_what.j0 k 0 (t129 != bt133.2.2.2.2.2.2.2.2.1) t121 t122 t123 t124 t125 t126 t127 t128 t129 t130 bt133.1 bt133.2.1 bt133.2.2.1 bt133.2.2.2.1 bt133.2.2.2.2.1 bt133.2.2.2.2.2.1 bt133.2.2.2.2.2.2.1 bt133.2.2.2.2.2.2.2.1 bt133.2.2.2.2.2.2.2.2.1 bt133.2.2.2.2.2.2.2.2.2.1) else (satchelref24_what.j0 k 0 true t121 t122 t123 t124 t125 t126 t127 t128 t129 t130 bt133.1 bt133.2.1 bt133.2.2.1 bt133.2.2.2.1 bt133.2.2.2.2.1 bt133.2.2.2.2.2.1 bt133.2.2.2.2.2.2.1 bt133.2.2.2.2.2.2.2.1 bt133.2.2.2.2.2.2.2.2.1 bt133.2.2.2.2.2.2.2.2.2.1)) else (some 4)) else (some 2)) else (some 1))) = some r := H
  have A4 := Aside0.mk A40
  clear A40
  replace H := Option.bind_eq_some_iff.mp H
  obtain ⟨⟨t133, t134, t135, t136, t137, t138, t139, t140, t141, t142, t143⟩, A50, H⟩ := H
  replace H : (if t131 = true then (if t143 = true then (if t122 = t134 then (if t128 = t140 then (satchelref24_what.j0 k 0 (t129 != t141) t121 t122 t123 t124 t125 t126 t127 t128 t129 t130 t133 t134 t135 t136 t137 t138 t139 t140 t141 t142) else (satchelref24_what.j0 k 0 true t121 t122 t123 t124 t125 t126 t127 t128 t129 t130 t133 t134 t135 t136 t137 t138 t139 t140 t141 t142)) else (some 4)) else (some 2)) else (some 1)) = some r := H
  have A5 := Aside0.mk A50
  clear A50
  by_cases c6 : t131 = true
  · subst c6
    have H1 : (if t143 = true then (if t122 = t134 then (if t128 = t140 then (satchelref24_what.j0 k 0 (t129 != t141) t121 t122 t123 t124 t125 t126 t127 t128 t129 t130 t133 t134 t135 t136 t137 t138 t139 t140 t141 t142) else (satchelref24_what.j0 k 0 true t121 t122 t123 t124 t125 t126 t127 t128 t129 t130 t133 t134 t135 t136 t137 t138 t139 t140 t141 t142)) else (some 4)) else (some 2)) = some r := by rw [if_pos rfl] at H; exact H
    clear H
    have H := H1
    clear H1
    by_cases c7 : t143 = true
    · subst c7
      have H1 : (if t122 = t134 then (if t128 = t140 then (satchelref24_what.j0 k 0 (t129 != t141) t121 t122 t123 t124 t125 t126 t127 t128 t129 t130 t133 t134 t135 t136 t137 t138 t139 t140 t141 t142) else (satchelref24_what.j0 k 0 true t121 t122 t123 t124 t125 t126 t127 t128 t129 t130 t133 t134 t135 t136 t137 t138 t139 t140 t141 t142)) else (some 4)) = some r := by rw [if_pos rfl] at H; exact H
      clear H
      have H := H1
      clear H1
      by_cases c8 : t122 = t134
      · rw [if_pos c8] at H
        have c8b0 : (t122 == t134) = true := beq_iff_eq.mpr c8
        have c8b1 : (t122 != t134) = false := bne_eq_false_iff_eq.mpr c8
        clear c8
        have HC9 := Aside0.mk H
        clear H
        go_enter Try.func13, Try.ntmps13
        go_upto_region 10 with (first | ((with_reducible refine gate_callee (f := 18) rfl ?_); refine goesL_ (some 15) rfl rfl Try.func18 (by kernel_rfl) rfl #[.slice A0 l0.length c0, .string a2] rfl (by (try simp only [List.map_toArray, List.map_cons, List.map_nil]); first | done | rfl | (simp only [List.length_drop, List.length_take]; rfl)) ?_; (with_reducible refine (satchelref24_last.calls k _ _ l0 a2 t121 t122 t123 t124 t125 t126 t127 t128 t129 t130 true _ ?side1 ?side2 A4.out).mono ?_); (case side1 => repeat (first | exact HR0.out | (with_reducible refine Kd.C_alloc ?_ _) | (with_reducible refine Kd.C_drewN ?_ _) | (with_reducible refine Kd.C_drew ?_))); (case side2 => exact HC0.out); rintro e w10 ⟨rfl, hb⟩; refine ⟨_, rfl, ?_⟩; have n0_ := Aside0.mk (below_step (by repeat (first | (with_reducible first | exact HB.out | apply below_alloc | apply pw_below_drewN | apply below_drew1) | exact HB.out)) hb); clear HB; have HB := n0_; clear n0_; (try clear hb); (try clear hb2); (try clear hk); (try clear hi)) | ((with_reducible refine gate_dst (N := 7) rfl ?_); refine box_event ?hg (N := 7) ?hd (cs := #[.string (⟨#[]⟩ : ByteArray), .int .i64 0, .int .u32 0, .int .u32 0, .int .u32 0, .int .i64 0, .int .i32 0, .int .i64 0, .int .u64 0, .string (⟨#[]⟩ : ByteArray)]) (t := 33) ?hr ?_; (case hd => rfl); (case hg => rfl); (case hr => first | (go_simp; done) | (go_simp; rfl)); intro gb132 hg w11 hbox hb; have n0_ := Aside0.mk (below_step (by repeat (first | (with_reducible first | exact HB.out | apply below_alloc | apply pw_below_drewN | apply below_drew1) | exact HB.out)) hb); have n1_ := Aside0.mk (hbox); have n2_ := Aside0.mk ((by rw [hg]; exact (below_size (by repeat (first | (with_reducible first | exact HB.out | apply below_alloc | apply pw_below_drewN | apply below_drew1) | exact HB.out))) : w.heap.size ≤ gb132)); have n3_ := Aside0.mk ((by rw [hg]; exact (below_size (by repeat (first | (with_reducible first | exact HB.out | apply below_alloc | apply pw_below_drewN | apply below_drew1) | exact HB.out))) : w.heap.size ≤ gb132)); clear HB; have HB := n0_; have BK132 := n1_; have GW132 := n2_; have GE132 := n3_; clear n0_ n1_ n2_ n3_; clear hb hbox hg; have hcz12_0 : w11.cell? ⟨gb132, 0, none⟩ = some (.string (⟨#[]⟩ : ByteArray)) := (blk_cell BK132.out 0).trans rfl; have hcz12_1 : w11.cell? ⟨gb132, 1, none⟩ = some (.int .i64 0) := (blk_cell BK132.out 1).trans rfl; have hcz12_2 : w11.cell? ⟨gb132, 2, none⟩ = some (.int .u32 0) := (blk_cell BK132.out 2).trans rfl; have hcz12_3 : w11.cell? ⟨gb132, 3, none⟩ = some (.int .u32 0) := (blk_cell BK132.out 3).trans rfl; have hcz12_4 : w11.cell? ⟨gb132, 4, none⟩ = some (.int .u32 0) := (blk_cell BK132.out 4).trans rfl; have hcz12_5 : w11.cell? ⟨gb132, 5, none⟩ = some (.int .i64 0) := (blk_cell BK132.out 5).trans rfl; have hcz12_6 : w11.cell? ⟨gb132, 6, none⟩ = some (.int .i32 0) := (blk_cell BK132.out 6).trans rfl; have hcz12_7 : w11.cell? ⟨gb132, 7, none⟩ = some (.int .i64 0) := (blk_cell BK132.out 7).trans rfl; have hcz12_8 : w11.cell? ⟨gb132, 8, none⟩ = some (.int .u64 0) := (blk_cell BK132.out 8).trans rfl; have hcz12_9 : w11.cell? ⟨gb132, 9, none⟩ = some (.string (⟨#[]⟩ : ByteArray)) := (blk_cell BK132.out 9).trans rfl; have hfz12_0 := blk_frozen BK132.out 0; have hfz12_1 := blk_frozen BK132.out 1; have hfz12_2 := blk_frozen BK132.out 2; have hfz12_3 := blk_frozen BK132.out 3; have hfz12_4 := blk_frozen BK132.out 4; have hfz12_5 := blk_frozen BK132.out 5; have hfz12_6 := blk_frozen BK132.out 6; have hfz12_7 := blk_frozen BK132.out 7; have hfz12_8 := blk_frozen BK132.out 8; have hfz12_9 := blk_frozen BK132.out 9) | ((with_reducible refine gate_callee (f := 18) rfl ?_); refine goesL_ (some 21) rfl rfl Try.func18 (by kernel_rfl) rfl #[.slice A1 l1.length c1, .string a2] rfl (by (try simp only [List.map_toArray, List.map_cons, List.map_nil]); first | done | rfl | (simp only [List.length_drop, List.length_take]; rfl)) ?_; (with_reducible refine (satchelref24_last.calls k _ _ l1 a2 t133 t134 t135 t136 t137 t138 t139 t140 t141 t142 true _ ?side1 ?side2 A5.out).mono ?_); (case side1 => exact Kd.C_below HR1.out (by repeat (first | (with_reducible first | exact HB.out | apply below_alloc | apply pw_below_drewN | apply below_drew1 | refine below_set ?_ GE132.out) | exact HB.out))); (case side2 => exact HC1.out); rintro e w13 ⟨rfl, hb⟩; refine ⟨_, rfl, ?_⟩; have n0_ := Aside0.mk (blk_below (g := gb132) (o := .cells #[.string t121, .int .i64 t122, .int .u32 t123, .int .u32 t124, .int .u32 t125, .int .i64 t126, .int .i32 t127, .int .i64 t128, .int .u64 t129, .string t130] 33 (0, 0)) (by (with_reducible repeat (first | refine blk_drewN ?_ _ | refine blk_drew ?_ | refine blk_alloc ?_ _)); refine blk_put (cs := #[.string t121, .int .i64 t122, .int .u32 t123, .int .u32 t124, .int .u32 t125, .int .i64 t126, .int .i32 t127, .int .i64 t128, .int .u64 t129, .string (⟨#[]⟩ : ByteArray)]) ?_ 9 _ rfl; (with_reducible repeat (first | refine blk_drewN ?_ _ | refine blk_drew ?_ | refine blk_alloc ?_ _)); refine blk_put (cs := #[.string t121, .int .i64 t122, .int .u32 t123, .int .u32 t124, .int .u32 t125, .int .i64 t126, .int .i32 t127, .int .i64 t128, .int .u64 0, .string (⟨#[]⟩ : ByteArray)]) ?_ 8 _ rfl; (with_reducible repeat (first | refine blk_drewN ?_ _ | refine blk_drew ?_ | refine blk_alloc ?_ _)); refine blk_put (cs := #[.string t121, .int .i64 t122, .int .u32 t123, .int .u32 t124, .int .u32 t125, .int .i64 t126, .int .i32 t127, .int .i64 0, .int .u64 0, .string (⟨#[]⟩ : ByteArray)]) ?_ 7 _ rfl; (with_reducible repeat (first | refine blk_drewN ?_ _ | refine blk_drew ?_ | refine blk_alloc ?_ _)); refine blk_put (cs := #[.string t121, .int .i64 t122, .int .u32 t123, .int .u32 t124, .int .u32 t125, .int .i64 t126, .int .i32 0, .int .i64 0, .int .u64 0, .string (⟨#[]⟩ : ByteArray)]) ?_ 6 _ rfl; (with_reducible repeat (first | refine blk_drewN ?_ _ | refine blk_drew ?_ | refine blk_alloc ?_ _)); refine blk_put (cs := #[.string t121, .int .i64 t122, .int .u32 t123, .int .u32 t124, .int .u32 t125, .int .i64 0, .int .i32 0, .int .i64 0, .int .u64 0, .string (⟨#[]⟩ : ByteArray)]) ?_ 5 _ rfl; (with_reducible repeat (first | refine blk_drewN ?_ _ | refine blk_drew ?_ | refine blk_alloc ?_ _)); refine blk_put (cs := #[.string t121, .int .i64 t122, .int .u32 t123, .int .u32 t124, .int .u32 0, .int .i64 0, .int .i32 0, .int .i64 0, .int .u64 0, .string (⟨#[]⟩ : ByteArray)]) ?_ 4 _ rfl; (with_reducible repeat (first | refine blk_drewN ?_ _ | refine blk_drew ?_ | refine blk_alloc ?_ _)); refine blk_put (cs := #[.string t121, .int .i64 t122, .int .u32 t123, .int .u32 0, .int .u32 0, .int .i64 0, .int .i32 0, .int .i64 0, .int .u64 0, .string (⟨#[]⟩ : ByteArray)]) ?_ 3 _ rfl; (with_reducible repeat (first | refine blk_drewN ?_ _ | refine blk_drew ?_ | refine blk_alloc ?_ _)); refine blk_put (cs := #[.string t121, .int .i64 t122, .int .u32 0, .int .u32 0, .int .u32 0, .int .i64 0, .int .i32 0, .int .i64 0, .int .u64 0, .string (⟨#[]⟩ : ByteArray)]) ?_ 2 _ rfl; (with_reducible repeat (first | refine blk_drewN ?_ _ | refine blk_drew ?_ | refine blk_alloc ?_ _)); refine blk_put (cs := #[.string t121, .int .i64 0, .int .u32 0, .int .u32 0, .int .u32 0, .int .i64 0, .int .i32 0, .int .i64 0, .int .u64 0, .string (⟨#[]⟩ : ByteArray)]) ?_ 1 _ rfl; (with_reducible repeat (first | refine blk_drewN ?_ _ | refine blk_drew ?_ | refine blk_alloc ?_ _)); refine blk_put (cs := #[.string (⟨#[]⟩ : ByteArray), .int .i64 0, .int .u32 0, .int .u32 0, .int .u32 0, .int .i64 0, .int .i32 0, .int .i64 0, .int .u64 0, .string (⟨#[]⟩ : ByteArray)]) ?_ 0 _ rfl; (with_reducible repeat (first | refine blk_drewN ?_ _ | refine blk_drew ?_ | refine blk_alloc ?_ _)); exact BK132.out) hb); have n1_ := Aside0.mk (below_step (by repeat (first | (with_reducible first | exact HB.out | apply below_alloc | apply pw_below_drewN | apply below_drew1 | refine below_set ?_ GE132.out) | exact HB.out)) hb); clear BK132; clear HB; have BK132 := n0_; have HB := n1_; clear n0_ n1_; (try clear hb); (try clear hb2); (try clear hk); (try clear hi)) | ((with_reducible refine gate_dst (N := 9) rfl ?_); refine box_event ?hg (N := 9) ?hd (cs := #[.string (⟨#[]⟩ : ByteArray), .int .i64 0, .int .u32 0, .int .u32 0, .int .u32 0, .int .i64 0, .int .i32 0, .int .i64 0, .int .u64 0, .string (⟨#[]⟩ : ByteArray)]) (t := 33) ?hr ?_; (case hd => rfl); (case hg => rfl); (case hr => first | (go_simp; done) | (go_simp; rfl)); intro gb144 hg w14 hbox hb; have n0_ := Aside0.mk (blk_below (g := gb132) (o := .cells #[.string t121, .int .i64 t122, .int .u32 t123, .int .u32 t124, .int .u32 t125, .int .i64 t126, .int .i32 t127, .int .i64 t128, .int .u64 t129, .string t130] 33 (0, 0)) (by (with_reducible repeat (first | refine blk_drewN ?_ _ | refine blk_drew ?_ | refine blk_alloc ?_ _)); exact BK132.out) hb); have n1_ := Aside0.mk (below_step (by repeat (first | (with_reducible first | exact HB.out | apply below_alloc | apply pw_below_drewN | apply below_drew1 | refine below_set ?_ GE132.out) | exact HB.out)) hb); have n2_ := Aside0.mk (hbox); have n3_ := Aside0.mk ((by rw [hg]; exact (below_size (by repeat (first | (with_reducible first | exact HB.out | apply below_alloc | apply pw_below_drewN | apply below_drew1 | refine below_set ?_ GE132.out) | exact HB.out))) : w.heap.size ≤ gb144)); have n4_ := Aside0.mk ((by rw [hg]; exact (below_size (by repeat (first | (with_reducible first | exact HB.out | apply below_alloc | apply pw_below_drewN | apply below_drew1 | refine below_set ?_ GE132.out) | exact HB.out))) : w.heap.size ≤ gb144)); have n5_ := Aside0.mk ((by rw [hg]; exact Nat.ne_of_lt (blk_lt (g := gb132) (o := .cells #[.string t121, .int .i64 t122, .int .u32 t123, .int .u32 t124, .int .u32 t125, .int .i64 t126, .int .i32 t127, .int .i64 t128, .int .u64 t129, .string t130] 33 (0, 0)) (by (with_reducible repeat (first | refine blk_drewN ?_ _ | refine blk_drew ?_ | refine blk_alloc ?_ _)); exact BK132.out)) : gb132 ≠ gb144)); have n6_ := Aside0.mk ((by rw [hg]; exact Nat.ne_of_gt (blk_lt (g := gb132) (o := .cells #[.string t121, .int .i64 t122, .int .u32 t123, .int .u32 t124, .int .u32 t125, .int .i64 t126, .int .i32 t127, .int .i64 t128, .int .u64 t129, .string t130] 33 (0, 0)) (by (with_reducible repeat (first | refine blk_drewN ?_ _ | refine blk_drew ?_ | refine blk_alloc ?_ _)); exact BK132.out)) : gb144 ≠ gb132)); clear BK132; clear HB; have BK132 := n0_; have HB := n1_; have BK144 := n2_; have GW144 := n3_; have GE144 := n4_; have NB132_144 := n5_; have NB144_132 := n6_; clear n0_ n1_ n2_ n3_ n4_ n5_ n6_; clear hb hbox hg; have hnb15 := NB144_132.out; have hnc15 := NB132_144.out; have hcz16_0 : w14.cell? ⟨gb144, 0, none⟩ = some (.string (⟨#[]⟩ : ByteArray)) := (blk_cell BK144.out 0).trans rfl; have hcz16_1 : w14.cell? ⟨gb144, 1, none⟩ = some (.int .i64 0) := (blk_cell BK144.out 1).trans rfl; have hcz16_2 : w14.cell? ⟨gb144, 2, none⟩ = some (.int .u32 0) := (blk_cell BK144.out 2).trans rfl; have hcz16_3 : w14.cell? ⟨gb144, 3, none⟩ = some (.int .u32 0) := (blk_cell BK144.out 3).trans rfl; have hcz16_4 : w14.cell? ⟨gb144, 4, none⟩ = some (.int .u32 0) := (blk_cell BK144.out 4).trans rfl; have hcz16_5 : w14.cell? ⟨gb144, 5, none⟩ = some (.int .i64 0) := (blk_cell BK144.out 5).trans rfl; have hcz16_6 : w14.cell? ⟨gb144, 6, none⟩ = some (.int .i32 0) := (blk_cell BK144.out 6).trans rfl; have hcz16_7 : w14.cell? ⟨gb144, 7, none⟩ = some (.int .i64 0) := (blk_cell BK144.out 7).trans rfl; have hcz16_8 : w14.cell? ⟨gb144, 8, none⟩ = some (.int .u64 0) := (blk_cell BK144.out 8).trans rfl; have hcz16_9 : w14.cell? ⟨gb144, 9, none⟩ = some (.string (⟨#[]⟩ : ByteArray)) := (blk_cell BK144.out 9).trans rfl; have hfz16_0 := blk_frozen BK144.out 0; have hfz16_1 := blk_frozen BK144.out 1; have hfz16_2 := blk_frozen BK144.out 2; have hfz16_3 := blk_frozen BK144.out 3; have hfz16_4 := blk_frozen BK144.out 4; have hfz16_5 := blk_frozen BK144.out 5; have hfz16_6 := blk_frozen BK144.out 6; have hfz16_7 := blk_frozen BK144.out 7; have hfz16_8 := blk_frozen BK144.out 8; have hfz16_9 := blk_frozen BK144.out 9; have hcz17_0 : w14.cell? ⟨gb132, 0, none⟩ = some (.string t121) := (blk_cell BK132.out 0).trans rfl; have hcz17_1 : w14.cell? ⟨gb132, 1, none⟩ = some (.int .i64 t122) := (blk_cell BK132.out 1).trans rfl; have hcz17_2 : w14.cell? ⟨gb132, 2, none⟩ = some (.int .u32 t123) := (blk_cell BK132.out 2).trans rfl; have hcz17_3 : w14.cell? ⟨gb132, 3, none⟩ = some (.int .u32 t124) := (blk_cell BK132.out 3).trans rfl; have hcz17_4 : w14.cell? ⟨gb132, 4, none⟩ = some (.int .u32 t125) := (blk_cell BK132.out 4).trans rfl; have hcz17_5 : w14.cell? ⟨gb132, 5, none⟩ = some (.int .i64 t126) := (blk_cell BK132.out 5).trans rfl; have hcz17_6 : w14.cell? ⟨gb132, 6, none⟩ = some (.int .i32 t127) := (blk_cell BK132.out 6).trans rfl; have hcz17_7 : w14.cell? ⟨gb132, 7, none⟩ = some (.int .i64 t128) := (blk_cell BK132.out 7).trans rfl; have hcz17_8 : w14.cell? ⟨gb132, 8, none⟩ = some (.int .u64 t129) := (blk_cell BK132.out 8).trans rfl; have hcz17_9 : w14.cell? ⟨gb132, 9, none⟩ = some (.string t130) := (blk_cell BK132.out 9).trans rfl; have hfz17_0 := blk_frozen BK132.out 0; have hfz17_1 := blk_frozen BK132.out 1; have hfz17_2 := blk_frozen BK132.out 2; have hfz17_3 := blk_frozen BK132.out 3; have hfz17_4 := blk_frozen BK132.out 4; have hfz17_5 := blk_frozen BK132.out 5; have hfz17_6 := blk_frozen BK132.out 6; have hfz17_7 := blk_frozen BK132.out 7; have hfz17_8 := blk_frozen BK132.out 8; have hfz17_9 := blk_frozen BK132.out 9))
        (try simp only [Act.put, List.setIfInBounds_toArray, List.set_cons_zero, List.set_cons_succ])
        go_cut [47] (fun v47 wc => ∃ (kq : Nat) (x47_8 : Bool), v47 = .bool x47_8 ∧ Aside0 (satchelref24_what.j0 kq 0 x47_8 t121 t122 t123 t124 t125 t126 t127 t128 t129 t130 t133 t134 t135 t136 t137 t138 t139 t140 t141 t142 = some r) ∧ Aside0 (kq ≤ k) ∧ Aside0 (wc.heap[gb132]? = some (.cells #[.string t121, .int .i64 t122, .int .u32 t123, .int .u32 t124, .int .u32 t125, .int .i64 t126, .int .i32 t127, .int .i64 t128, .int .u64 t129, .string t130] 33 (0, 0))) ∧ Aside0 (wc.heap[gb144]? = some (.cells #[.string t133, .int .i64 t134, .int .u32 t135, .int .u32 t136, .int .u32 t137, .int .i64 t138, .int .i32 t139, .int .i64 t140, .int .u64 t141, .string t142] 33 (0, 0))) ∧ Aside0 (Below w.heap.size w wc))
        case first =>
          have H := HC9.out
          clear HC9
          by_cases c18 : t128 = t140
          · rw [if_pos c18] at H
            have c18b0 : (t128 == t140) = true := beq_iff_eq.mpr c18
            have c18b1 : (t128 != t140) = false := bne_eq_false_iff_eq.mpr c18
            clear c18
            (first | rw [c18b0] | rw [c18be] | (simp only [i64_w, i32_w]; rw [c18b0]) | skip)
            have H' := Aside0.mk H
            clear H
            have hnb19 := NB132_144.out
            have hnc19 := NB144_132.out
            have hcz20_0 : w14.cell? ⟨gb132, 0, none⟩ = some (.string t121) := (blk_cell BK132.out 0).trans rfl
            have hcz20_1 : w14.cell? ⟨gb132, 1, none⟩ = some (.int .i64 t122) := (blk_cell BK132.out 1).trans rfl
            have hcz20_2 : w14.cell? ⟨gb132, 2, none⟩ = some (.int .u32 t123) := (blk_cell BK132.out 2).trans rfl
            have hcz20_3 : w14.cell? ⟨gb132, 3, none⟩ = some (.int .u32 t124) := (blk_cell BK132.out 3).trans rfl
            have hcz20_4 : w14.cell? ⟨gb132, 4, none⟩ = some (.int .u32 t125) := (blk_cell BK132.out 4).trans rfl
            have hcz20_5 : w14.cell? ⟨gb132, 5, none⟩ = some (.int .i64 t126) := (blk_cell BK132.out 5).trans rfl
            have hcz20_6 : w14.cell? ⟨gb132, 6, none⟩ = some (.int .i32 t127) := (blk_cell BK132.out 6).trans rfl
            have hcz20_7 : w14.cell? ⟨gb132, 7, none⟩ = some (.int .i64 t128) := (blk_cell BK132.out 7).trans rfl
            have hcz20_8 : w14.cell? ⟨gb132, 8, none⟩ = some (.int .u64 t129) := (blk_cell BK132.out 8).trans rfl
            have hcz20_9 : w14.cell? ⟨gb132, 9, none⟩ = some (.string t130) := (blk_cell BK132.out 9).trans rfl
            have hfz20_0 := blk_frozen BK132.out 0
            have hfz20_1 := blk_frozen BK132.out 1
            have hfz20_2 := blk_frozen BK132.out 2
            have hfz20_3 := blk_frozen BK132.out 3
            have hfz20_4 := blk_frozen BK132.out 4
            have hfz20_5 := blk_frozen BK132.out 5
            have hfz20_6 := blk_frozen BK132.out 6
            have hfz20_7 := blk_frozen BK132.out 7
            have hfz20_8 := blk_frozen BK132.out 8
            have hfz20_9 := blk_frozen BK132.out 9
            have hcz21_0 : w14.cell? ⟨gb144, 0, none⟩ = some (.string (⟨#[]⟩ : ByteArray)) := (blk_cell BK144.out 0).trans rfl
            have hcz21_1 : w14.cell? ⟨gb144, 1, none⟩ = some (.int .i64 0) := (blk_cell BK144.out 1).trans rfl
            have hcz21_2 : w14.cell? ⟨gb144, 2, none⟩ = some (.int .u32 0) := (blk_cell BK144.out 2).trans rfl
            have hcz21_3 : w14.cell? ⟨gb144, 3, none⟩ = some (.int .u32 0) := (blk_cell BK144.out 3).trans rfl
            have hcz21_4 : w14.cell? ⟨gb144, 4, none⟩ = some (.int .u32 0) := (blk_cell BK144.out 4).trans rfl
            have hcz21_5 : w14.cell? ⟨gb144, 5, none⟩ = some (.int .i64 0) := (blk_cell BK144.out 5).trans rfl
            have hcz21_6 : w14.cell? ⟨gb144, 6, none⟩ = some (.int .i32 0) := (blk_cell BK144.out 6).trans rfl
            have hcz21_7 : w14.cell? ⟨gb144, 7, none⟩ = some (.int .i64 0) := (blk_cell BK144.out 7).trans rfl
            have hcz21_8 : w14.cell? ⟨gb144, 8, none⟩ = some (.int .u64 0) := (blk_cell BK144.out 8).trans rfl
            have hcz21_9 : w14.cell? ⟨gb144, 9, none⟩ = some (.string (⟨#[]⟩ : ByteArray)) := (blk_cell BK144.out 9).trans rfl
            have hfz21_0 := blk_frozen BK144.out 0
            have hfz21_1 := blk_frozen BK144.out 1
            have hfz21_2 := blk_frozen BK144.out 2
            have hfz21_3 := blk_frozen BK144.out 3
            have hfz21_4 := blk_frozen BK144.out 4
            have hfz21_5 := blk_frozen BK144.out 5
            have hfz21_6 := blk_frozen BK144.out 6
            have hfz21_7 := blk_frozen BK144.out 7
            have hfz21_8 := blk_frozen BK144.out 8
            have hfz21_9 := blk_frozen BK144.out 9
            go_wp2
            go_meet
            case rel => exact ⟨_, ((t129 != t141)), (by first | rfl | (simp; done) | (simp [*]; done) | (simp; unfold wrap64; rfl)), H', ⟨by first | omega | exact Nat.le_refl _⟩, ⟨by (with_reducible repeat (first | refine blk_drewN ?_ _ | refine blk_drew ?_ | refine blk_alloc ?_ _)); refine blk_far ?_ NB132_144.out _; (with_reducible repeat (first | refine blk_drewN ?_ _ | refine blk_drew ?_ | refine blk_alloc ?_ _)); refine blk_far ?_ NB132_144.out _; (with_reducible repeat (first | refine blk_drewN ?_ _ | refine blk_drew ?_ | refine blk_alloc ?_ _)); refine blk_far ?_ NB132_144.out _; (with_reducible repeat (first | refine blk_drewN ?_ _ | refine blk_drew ?_ | refine blk_alloc ?_ _)); refine blk_far ?_ NB132_144.out _; (with_reducible repeat (first | refine blk_drewN ?_ _ | refine blk_drew ?_ | refine blk_alloc ?_ _)); refine blk_far ?_ NB132_144.out _; (with_reducible repeat (first | refine blk_drewN ?_ _ | refine blk_drew ?_ | refine blk_alloc ?_ _)); refine blk_far ?_ NB132_144.out _; (with_reducible repeat (first | refine blk_drewN ?_ _ | refine blk_drew ?_ | refine blk_alloc ?_ _)); refine blk_far ?_ NB132_144.out _; (with_reducible repeat (first | refine blk_drewN ?_ _ | refine blk_drew ?_ | refine blk_alloc ?_ _)); refine blk_far ?_ NB132_144.out _; (with_reducible repeat (first | refine blk_drewN ?_ _ | refine blk_drew ?_ | refine blk_alloc ?_ _)); refine blk_far ?_ NB132_144.out _; (with_reducible repeat (first | refine blk_drewN ?_ _ | refine blk_drew ?_ | refine blk_alloc ?_ _)); refine blk_far ?_ NB132_144.out _; (with_reducible repeat (first | refine blk_drewN ?_ _ | refine blk_drew ?_ | refine blk_alloc ?_ _)); exact BK132.out⟩, ⟨by (with_reducible repeat (first | refine blk_drewN ?_ _ | refine blk_drew ?_ | refine blk_alloc ?_ _)); refine blk_put (cs := #[.string t133, .int .i64 t134, .int .u32 t135, .int .u32 t136, .int .u32 t137, .int .i64 t138, .int .i32 t139, .int .i64 t140, .int .u64 t141, .string (⟨#[]⟩ : ByteArray)]) ?_ 9 _ rfl; (with_reducible repeat (first | refine blk_drewN ?_ _ | refine blk_drew ?_ | refine blk_alloc ?_ _)); refine blk_put (cs := #[.string t133, .int .i64 t134, .int .u32 t135, .int .u32 t136, .int .u32 t137, .int .i64 t138, .int .i32 t139, .int .i64 t140, .int .u64 0, .string (⟨#[]⟩ : ByteArray)]) ?_ 8 _ rfl; (with_reducible repeat (first | refine blk_drewN ?_ _ | refine blk_drew ?_ | refine blk_alloc ?_ _)); refine blk_put (cs := #[.string t133, .int .i64 t134, .int .u32 t135, .int .u32 t136, .int .u32 t137, .int .i64 t138, .int .i32 t139, .int .i64 0, .int .u64 0, .string (⟨#[]⟩ : ByteArray)]) ?_ 7 _ rfl; (with_reducible repeat (first | refine blk_drewN ?_ _ | refine blk_drew ?_ | refine blk_alloc ?_ _)); refine blk_put (cs := #[.string t133, .int .i64 t134, .int .u32 t135, .int .u32 t136, .int .u32 t137, .int .i64 t138, .int .i32 0, .int .i64 0, .int .u64 0, .string (⟨#[]⟩ : ByteArray)]) ?_ 6 _ rfl; (with_reducible repeat (first | refine blk_drewN ?_ _ | refine blk_drew ?_ | refine blk_alloc ?_ _)); refine blk_put (cs := #[.string t133, .int .i64 t134, .int .u32 t135, .int .u32 t136, .int .u32 t137, .int .i64 0, .int .i32 0, .int .i64 0, .int .u64 0, .string (⟨#[]⟩ : ByteArray)]) ?_ 5 _ rfl; (with_reducible repeat (first | refine blk_drewN ?_ _ | refine blk_drew ?_ | refine blk_alloc ?_ _)); refine blk_put (cs := #[.string t133, .int .i64 t134, .int .u32 t135, .int .u32 t136, .int .u32 0, .int .i64 0, .int .i32 0, .int .i64 0, .int .u64 0, .string (⟨#[]⟩ : ByteArray)]) ?_ 4 _ rfl; (with_reducible repeat (first | refine blk_drewN ?_ _ | refine blk_drew ?_ | refine blk_alloc ?_ _)); refine blk_put (cs := #[.string t133, .int .i64 t134, .int .u32 t135, .int .u32 0, .int .u32 0, .int .i64 0, .int .i32 0, .int .i64 0, .int .u64 0, .string (⟨#[]⟩ : ByteArray)]) ?_ 3 _ rfl; (with_reducible repeat (first | refine blk_drewN ?_ _ | refine blk_drew ?_ | refine blk_alloc ?_ _)); refine blk_put (cs := #[.string t133, .int .i64 t134, .int .u32 0, .int .u32 0, .int .u32 0, .int .i64 0, .int .i32 0, .int .i64 0, .int .u64 0, .string (⟨#[]⟩ : ByteArray)]) ?_ 2 _ rfl; (with_reducible repeat (first | refine blk_drewN ?_ _ | refine blk_drew ?_ | refine blk_alloc ?_ _)); refine blk_put (cs := #[.string t133, .int .i64 0, .int .u32 0, .int .u32 0, .int .u32 0, .int .i64 0, .int .i32 0, .int .i64 0, .int .u64 0, .string (⟨#[]⟩ : ByteArray)]) ?_ 1 _ rfl; (with_reducible repeat (first | refine blk_drewN ?_ _ | refine blk_drew ?_ | refine blk_alloc ?_ _)); refine blk_put (cs := #[.string (⟨#[]⟩ : ByteArray), .int .i64 0, .int .u32 0, .int .u32 0, .int .u32 0, .int .i64 0, .int .i32 0, .int .i64 0, .int .u64 0, .string (⟨#[]⟩ : ByteArray)]) ?_ 0 _ rfl; (with_reducible repeat (first | refine blk_drewN ?_ _ | refine blk_drew ?_ | refine blk_alloc ?_ _)); exact BK144.out⟩, ⟨by repeat (first | (with_reducible first | exact HB.out | apply below_alloc | apply pw_below_drewN | apply below_drew1 | refine below_set ?_ GE132.out | refine below_set ?_ GE144.out) | exact HB.out)⟩⟩
          · rw [if_neg c18] at H
            have c18b0 : (t128 == t140) = false := beq_eq_false_iff_ne.mpr c18
            have c18b1 : (t128 != t140) = true := bne_iff_ne.mpr c18
            (first | rw [c18b0] | rw [c18be] | (simp only [i64_w, i32_w]; rw [c18b0]) | skip)
            have H' := Aside0.mk H
            clear H
            have hnb22 := NB132_144.out
            have hnc22 := NB144_132.out
            have hcz23_0 : w14.cell? ⟨gb132, 0, none⟩ = some (.string t121) := (blk_cell BK132.out 0).trans rfl
            have hcz23_1 : w14.cell? ⟨gb132, 1, none⟩ = some (.int .i64 t122) := (blk_cell BK132.out 1).trans rfl
            have hcz23_2 : w14.cell? ⟨gb132, 2, none⟩ = some (.int .u32 t123) := (blk_cell BK132.out 2).trans rfl
            have hcz23_3 : w14.cell? ⟨gb132, 3, none⟩ = some (.int .u32 t124) := (blk_cell BK132.out 3).trans rfl
            have hcz23_4 : w14.cell? ⟨gb132, 4, none⟩ = some (.int .u32 t125) := (blk_cell BK132.out 4).trans rfl
            have hcz23_5 : w14.cell? ⟨gb132, 5, none⟩ = some (.int .i64 t126) := (blk_cell BK132.out 5).trans rfl
            have hcz23_6 : w14.cell? ⟨gb132, 6, none⟩ = some (.int .i32 t127) := (blk_cell BK132.out 6).trans rfl
            have hcz23_7 : w14.cell? ⟨gb132, 7, none⟩ = some (.int .i64 t128) := (blk_cell BK132.out 7).trans rfl
            have hcz23_8 : w14.cell? ⟨gb132, 8, none⟩ = some (.int .u64 t129) := (blk_cell BK132.out 8).trans rfl
            have hcz23_9 : w14.cell? ⟨gb132, 9, none⟩ = some (.string t130) := (blk_cell BK132.out 9).trans rfl
            have hfz23_0 := blk_frozen BK132.out 0
            have hfz23_1 := blk_frozen BK132.out 1
            have hfz23_2 := blk_frozen BK132.out 2
            have hfz23_3 := blk_frozen BK132.out 3
            have hfz23_4 := blk_frozen BK132.out 4
            have hfz23_5 := blk_frozen BK132.out 5
            have hfz23_6 := blk_frozen BK132.out 6
            have hfz23_7 := blk_frozen BK132.out 7
            have hfz23_8 := blk_frozen BK132.out 8
            have hfz23_9 := blk_frozen BK132.out 9
            have hcz24_0 : w14.cell? ⟨gb144, 0, none⟩ = some (.string (⟨#[]⟩ : ByteArray)) := (blk_cell BK144.out 0).trans rfl
            have hcz24_1 : w14.cell? ⟨gb144, 1, none⟩ = some (.int .i64 0) := (blk_cell BK144.out 1).trans rfl
            have hcz24_2 : w14.cell? ⟨gb144, 2, none⟩ = some (.int .u32 0) := (blk_cell BK144.out 2).trans rfl
            have hcz24_3 : w14.cell? ⟨gb144, 3, none⟩ = some (.int .u32 0) := (blk_cell BK144.out 3).trans rfl
            have hcz24_4 : w14.cell? ⟨gb144, 4, none⟩ = some (.int .u32 0) := (blk_cell BK144.out 4).trans rfl
            have hcz24_5 : w14.cell? ⟨gb144, 5, none⟩ = some (.int .i64 0) := (blk_cell BK144.out 5).trans rfl
            have hcz24_6 : w14.cell? ⟨gb144, 6, none⟩ = some (.int .i32 0) := (blk_cell BK144.out 6).trans rfl
            have hcz24_7 : w14.cell? ⟨gb144, 7, none⟩ = some (.int .i64 0) := (blk_cell BK144.out 7).trans rfl
            have hcz24_8 : w14.cell? ⟨gb144, 8, none⟩ = some (.int .u64 0) := (blk_cell BK144.out 8).trans rfl
            have hcz24_9 : w14.cell? ⟨gb144, 9, none⟩ = some (.string (⟨#[]⟩ : ByteArray)) := (blk_cell BK144.out 9).trans rfl
            have hfz24_0 := blk_frozen BK144.out 0
            have hfz24_1 := blk_frozen BK144.out 1
            have hfz24_2 := blk_frozen BK144.out 2
            have hfz24_3 := blk_frozen BK144.out 3
            have hfz24_4 := blk_frozen BK144.out 4
            have hfz24_5 := blk_frozen BK144.out 5
            have hfz24_6 := blk_frozen BK144.out 6
            have hfz24_7 := blk_frozen BK144.out 7
            have hfz24_8 := blk_frozen BK144.out 8
            have hfz24_9 := blk_frozen BK144.out 9
            go_wp2
            go_meet
            case rel => exact ⟨_, (true), (by first | rfl | (simp; done) | (simp [*]; done) | (simp; unfold wrap64; rfl)), H', ⟨by first | omega | exact Nat.le_refl _⟩, ⟨by (with_reducible repeat (first | refine blk_drewN ?_ _ | refine blk_drew ?_ | refine blk_alloc ?_ _)); refine blk_far ?_ NB132_144.out _; (with_reducible repeat (first | refine blk_drewN ?_ _ | refine blk_drew ?_ | refine blk_alloc ?_ _)); refine blk_far ?_ NB132_144.out _; (with_reducible repeat (first | refine blk_drewN ?_ _ | refine blk_drew ?_ | refine blk_alloc ?_ _)); refine blk_far ?_ NB132_144.out _; (with_reducible repeat (first | refine blk_drewN ?_ _ | refine blk_drew ?_ | refine blk_alloc ?_ _)); refine blk_far ?_ NB132_144.out _; (with_reducible repeat (first | refine blk_drewN ?_ _ | refine blk_drew ?_ | refine blk_alloc ?_ _)); refine blk_far ?_ NB132_144.out _; (with_reducible repeat (first | refine blk_drewN ?_ _ | refine blk_drew ?_ | refine blk_alloc ?_ _)); refine blk_far ?_ NB132_144.out _; (with_reducible repeat (first | refine blk_drewN ?_ _ | refine blk_drew ?_ | refine blk_alloc ?_ _)); refine blk_far ?_ NB132_144.out _; (with_reducible repeat (first | refine blk_drewN ?_ _ | refine blk_drew ?_ | refine blk_alloc ?_ _)); refine blk_far ?_ NB132_144.out _; (with_reducible repeat (first | refine blk_drewN ?_ _ | refine blk_drew ?_ | refine blk_alloc ?_ _)); refine blk_far ?_ NB132_144.out _; (with_reducible repeat (first | refine blk_drewN ?_ _ | refine blk_drew ?_ | refine blk_alloc ?_ _)); refine blk_far ?_ NB132_144.out _; (with_reducible repeat (first | refine blk_drewN ?_ _ | refine blk_drew ?_ | refine blk_alloc ?_ _)); exact BK132.out⟩, ⟨by (with_reducible repeat (first | refine blk_drewN ?_ _ | refine blk_drew ?_ | refine blk_alloc ?_ _)); refine blk_put (cs := #[.string t133, .int .i64 t134, .int .u32 t135, .int .u32 t136, .int .u32 t137, .int .i64 t138, .int .i32 t139, .int .i64 t140, .int .u64 t141, .string (⟨#[]⟩ : ByteArray)]) ?_ 9 _ rfl; (with_reducible repeat (first | refine blk_drewN ?_ _ | refine blk_drew ?_ | refine blk_alloc ?_ _)); refine blk_put (cs := #[.string t133, .int .i64 t134, .int .u32 t135, .int .u32 t136, .int .u32 t137, .int .i64 t138, .int .i32 t139, .int .i64 t140, .int .u64 0, .string (⟨#[]⟩ : ByteArray)]) ?_ 8 _ rfl; (with_reducible repeat (first | refine blk_drewN ?_ _ | refine blk_drew ?_ | refine blk_alloc ?_ _)); refine blk_put (cs := #[.string t133, .int .i64 t134, .int .u32 t135, .int .u32 t136, .int .u32 t137, .int .i64 t138, .int .i32 t139, .int .i64 0, .int .u64 0, .string (⟨#[]⟩ : ByteArray)]) ?_ 7 _ rfl; (with_reducible repeat (first | refine blk_drewN ?_ _ | refine blk_drew ?_ | refine blk_alloc ?_ _)); refine blk_put (cs := #[.string t133, .int .i64 t134, .int .u32 t135, .int .u32 t136, .int .u32 t137, .int .i64 t138, .int .i32 0, .int .i64 0, .int .u64 0, .string (⟨#[]⟩ : ByteArray)]) ?_ 6 _ rfl; (with_reducible repeat (first | refine blk_drewN ?_ _ | refine blk_drew ?_ | refine blk_alloc ?_ _)); refine blk_put (cs := #[.string t133, .int .i64 t134, .int .u32 t135, .int .u32 t136, .int .u32 t137, .int .i64 0, .int .i32 0, .int .i64 0, .int .u64 0, .string (⟨#[]⟩ : ByteArray)]) ?_ 5 _ rfl; (with_reducible repeat (first | refine blk_drewN ?_ _ | refine blk_drew ?_ | refine blk_alloc ?_ _)); refine blk_put (cs := #[.string t133, .int .i64 t134, .int .u32 t135, .int .u32 t136, .int .u32 0, .int .i64 0, .int .i32 0, .int .i64 0, .int .u64 0, .string (⟨#[]⟩ : ByteArray)]) ?_ 4 _ rfl; (with_reducible repeat (first | refine blk_drewN ?_ _ | refine blk_drew ?_ | refine blk_alloc ?_ _)); refine blk_put (cs := #[.string t133, .int .i64 t134, .int .u32 t135, .int .u32 0, .int .u32 0, .int .i64 0, .int .i32 0, .int .i64 0, .int .u64 0, .string (⟨#[]⟩ : ByteArray)]) ?_ 3 _ rfl; (with_reducible repeat (first | refine blk_drewN ?_ _ | refine blk_drew ?_ | refine blk_alloc ?_ _)); refine blk_put (cs := #[.string t133, .int .i64 t134, .int .u32 0, .int .u32 0, .int .u32 0, .int .i64 0, .int .i32 0, .int .i64 0, .int .u64 0, .string (⟨#[]⟩ : ByteArray)]) ?_ 2 _ rfl; (with_reducible repeat (first | refine blk_drewN ?_ _ | refine blk_drew ?_ | refine blk_alloc ?_ _)); refine blk_put (cs := #[.string t133, .int .i64 0, .int .u32 0, .int .u32 0, .int .u32 0, .int .i64 0, .int .i32 0, .int .i64 0, .int .u64 0, .string (⟨#[]⟩ : ByteArray)]) ?_ 1 _ rfl; (with_reducible repeat (first | refine blk_drewN ?_ _ | refine blk_drew ?_ | refine blk_alloc ?_ _)); refine blk_put (cs := #[.string (⟨#[]⟩ : ByteArray), .int .i64 0, .int .u32 0, .int .u32 0, .int .u32 0, .int .i64 0, .int .i32 0, .int .i64 0, .int .u64 0, .string (⟨#[]⟩ : ByteArray)]) ?_ 0 _ rfl; (with_reducible repeat (first | refine blk_drewN ?_ _ | refine blk_drew ?_ | refine blk_alloc ?_ _)); exact BK144.out⟩, ⟨by repeat (first | (with_reducible first | exact HB.out | apply below_alloc | apply pw_below_drewN | apply below_drew1 | refine below_set ?_ GE132.out | refine below_set ?_ GE144.out) | exact HB.out)⟩⟩
        case rest =>
          clear HC9
          try clear c1
          try clear c2
          try clear p2
          try clear c6
          try clear p6
          try clear c7
          try clear c8
          try clear c8b0
          try clear c8b1
          try clear c13
          try clear c15
          try clear c18
          try clear c18b0
          try clear c18b1
          try clear c19
          try clear c22
          try clear hcz12_0
          try clear hcz12_1
          try clear hcz12_2
          try clear hcz12_3
          try clear hcz12_4
          try clear hcz12_5
          try clear hcz12_6
          try clear hcz12_7
          try clear hcz12_8
          try clear hcz12_9
          try clear hcz16_0
          try clear hcz16_1
          try clear hcz16_2
          try clear hcz16_3
          try clear hcz16_4
          try clear hcz16_5
          try clear hcz16_6
          try clear hcz16_7
          try clear hcz16_8
          try clear hcz16_9
          try clear hcz17_0
          try clear hcz17_1
          try clear hcz17_2
          try clear hcz17_3
          try clear hcz17_4
          try clear hcz17_5
          try clear hcz17_6
          try clear hcz17_7
          try clear hcz17_8
          try clear hcz17_9
          try clear hcz20_0
          try clear hcz20_1
          try clear hcz20_2
          try clear hcz20_3
          try clear hcz20_4
          try clear hcz20_5
          try clear hcz20_6
          try clear hcz20_7
          try clear hcz20_8
          try clear hcz20_9
          try clear hcz21_0
          try clear hcz21_1
          try clear hcz21_2
          try clear hcz21_3
          try clear hcz21_4
          try clear hcz21_5
          try clear hcz21_6
          try clear hcz21_7
          try clear hcz21_8
          try clear hcz21_9
          try clear hcz23_0
          try clear hcz23_1
          try clear hcz23_2
          try clear hcz23_3
          try clear hcz23_4
          try clear hcz23_5
          try clear hcz23_6
          try clear hcz23_7
          try clear hcz23_8
          try clear hcz23_9
          try clear hcz24_0
          try clear hcz24_1
          try clear hcz24_2
          try clear hcz24_3
          try clear hcz24_4
          try clear hcz24_5
          try clear hcz24_6
          try clear hcz24_7
          try clear hcz24_8
          try clear hcz24_9
          try clear hfz12_0
          try clear hfz12_1
          try clear hfz12_2
          try clear hfz12_3
          try clear hfz12_4
          try clear hfz12_5
          try clear hfz12_6
          try clear hfz12_7
          try clear hfz12_8
          try clear hfz12_9
          try clear hfz16_0
          try clear hfz16_1
          try clear hfz16_2
          try clear hfz16_3
          try clear hfz16_4
          try clear hfz16_5
          try clear hfz16_6
          try clear hfz16_7
          try clear hfz16_8
          try clear hfz16_9
          try clear hfz17_0
          try clear hfz17_1
          try clear hfz17_2
          try clear hfz17_3
          try clear hfz17_4
          try clear hfz17_5
          try clear hfz17_6
          try clear hfz17_7
          try clear hfz17_8
          try clear hfz17_9
          try clear hfz20_0
          try clear hfz20_1
          try clear hfz20_2
          try clear hfz20_3
          try clear hfz20_4
          try clear hfz20_5
          try clear hfz20_6
          try clear hfz20_7
          try clear hfz20_8
          try clear hfz20_9
          try clear hfz21_0
          try clear hfz21_1
          try clear hfz21_2
          try clear hfz21_3
          try clear hfz21_4
          try clear hfz21_5
          try clear hfz21_6
          try clear hfz21_7
          try clear hfz21_8
          try clear hfz21_9
          try clear hfz23_0
          try clear hfz23_1
          try clear hfz23_2
          try clear hfz23_3
          try clear hfz23_4
          try clear hfz23_5
          try clear hfz23_6
          try clear hfz23_7
          try clear hfz23_8
          try clear hfz23_9
          try clear hfz24_0
          try clear hfz24_1
          try clear hfz24_2
          try clear hfz24_3
          try clear hfz24_4
          try clear hfz24_5
          try clear hfz24_6
          try clear hfz24_7
          try clear hfz24_8
          try clear hfz24_9
          obtain ⟨kq, x47_8, rfl, HA, HJ8, BK132, BK144, HB⟩ := hcut
          cases kq with
          | zero => exact absurd HA.out (by simp [satchelref24_what.j0])
          | succ kj8 =>
            have H := HA.out
            clear HA
            simp only [satchelref24_what.j0] at H
            have HC25 := Aside0.mk H
            clear H
            go_upto_if 47 with (fail)
            go_cut [11] (fun v11 wc => ∃ (kq : Nat) (x11_24 : Int), v11 = .int .i64 x11_24 ∧ Aside0 (satchelref24_what.j1 kq x11_24 t121 t122 t123 t124 t125 t126 t127 t128 t129 t130 t133 t134 t135 t136 t137 t138 t139 t140 t141 t142 = some r) ∧ Aside0 (kq ≤ kj8) ∧ Aside0 (wc.heap[gb132]? = some (.cells #[.string t121, .int .i64 t122, .int .u32 t123, .int .u32 t124, .int .u32 t125, .int .i64 t126, .int .i32 t127, .int .i64 t128, .int .u64 t129, .string t130] 33 (0, 0))) ∧ Aside0 (wc.heap[gb144]? = some (.cells #[.string t133, .int .i64 t134, .int .u32 t135, .int .u32 t136, .int .u32 t137, .int .i64 t138, .int .i32 t139, .int .i64 t140, .int .u64 t141, .string t142] 33 (0, 0))) ∧ Aside0 (Below w.heap.size w wc))
            case first =>
              have H := HC25.out
              clear HC25
              by_cases c26 : x47_8 = true
              · subst c26
                have H1 : (satchelref24_what.j1 kj8 (wrap64 (0 + 8)) t121 t122 t123 t124 t125 t126 t127 t128 t129 t130 t133 t134 t135 t136 t137 t138 t139 t140 t141 t142) = some r := by rw [if_pos rfl] at H; exact H
                clear H
                have H := H1
                clear H1
                have H' := Aside0.mk H
                clear H
                go_wp2
                go_meet
                case rel => exact ⟨_, (wrap64 (0 + 8)), (by first | rfl | (simp; done) | (simp [*]; done) | (simp; unfold wrap64; rfl)), H', ⟨by have := HJ8.out; first | omega | exact Nat.le_refl _⟩, ⟨by (with_reducible repeat (first | refine blk_drewN ?_ _ | refine blk_drew ?_ | refine blk_alloc ?_ _)); exact BK132.out⟩, ⟨by (with_reducible repeat (first | refine blk_drewN ?_ _ | refine blk_drew ?_ | refine blk_alloc ?_ _)); exact BK144.out⟩, ⟨by repeat (first | (with_reducible first | exact HB.out | apply below_alloc | apply pw_below_drewN | apply below_drew1 | refine below_set ?_ GE132.out | refine below_set ?_ GE144.out) | exact HB.out)⟩⟩
              · replace c26 := Bool.eq_false_iff.mpr c26
                subst c26
                have H1 : (satchelref24_what.j1 kj8 0 t121 t122 t123 t124 t125 t126 t127 t128 t129 t130 t133 t134 t135 t136 t137 t138 t139 t140 t141 t142) = some r := by rw [if_neg (show ¬ (false = true) by decide)] at H; exact H
                clear H
                have H := H1
                clear H1
                have H' := Aside0.mk H
                clear H
                go_wp2
                go_meet
                case rel => exact ⟨_, (0), (by first | rfl | (simp; done) | (simp [*]; done) | (simp; unfold wrap64; rfl)), H', ⟨by have := HJ8.out; first | omega | exact Nat.le_refl _⟩, ⟨by (with_reducible repeat (first | refine blk_drewN ?_ _ | refine blk_drew ?_ | refine blk_alloc ?_ _)); exact BK132.out⟩, ⟨by (with_reducible repeat (first | refine blk_drewN ?_ _ | refine blk_drew ?_ | refine blk_alloc ?_ _)); exact BK144.out⟩, ⟨by repeat (first | (with_reducible first | exact HB.out | apply below_alloc | apply pw_below_drewN | apply below_drew1 | refine below_set ?_ GE132.out | refine below_set ?_ GE144.out) | exact HB.out)⟩⟩
            case rest =>
              clear HC25
              try clear c1
              try clear c2
              try clear p2
              try clear c6
              try clear p6
              try clear c7
              try clear c8
              try clear c8b0
              try clear c8b1
              try clear c13
              try clear c15
              try clear c18
              try clear c18b0
              try clear c18b1
              try clear c19
              try clear c22
              try clear c26
              try clear hcz12_0
              try clear hcz12_1
              try clear hcz12_2
              try clear hcz12_3
              try clear hcz12_4
              try clear hcz12_5
              try clear hcz12_6
              try clear hcz12_7
              try clear hcz12_8
              try clear hcz12_9
              try clear hcz16_0
              try clear hcz16_1
              try clear hcz16_2
              try clear hcz16_3
              try clear hcz16_4
              try clear hcz16_5
              try clear hcz16_6
              try clear hcz16_7
              try clear hcz16_8
              try clear hcz16_9
              try clear hcz17_0
              try clear hcz17_1
              try clear hcz17_2
              try clear hcz17_3
              try clear hcz17_4
              try clear hcz17_5
              try clear hcz17_6
              try clear hcz17_7
              try clear hcz17_8
              try clear hcz17_9
              try clear hcz20_0
              try clear hcz20_1
              try clear hcz20_2
              try clear hcz20_3
              try clear hcz20_4
              try clear hcz20_5
              try clear hcz20_6
              try clear hcz20_7
              try clear hcz20_8
              try clear hcz20_9
              try clear hcz21_0
              try clear hcz21_1
              try clear hcz21_2
              try clear hcz21_3
              try clear hcz21_4
              try clear hcz21_5
              try clear hcz21_6
              try clear hcz21_7
              try clear hcz21_8
              try clear hcz21_9
              try clear hcz23_0
              try clear hcz23_1
              try clear hcz23_2
              try clear hcz23_3
              try clear hcz23_4
              try clear hcz23_5
              try clear hcz23_6
              try clear hcz23_7
              try clear hcz23_8
              try clear hcz23_9
              try clear hcz24_0
              try clear hcz24_1
              try clear hcz24_2
              try clear hcz24_3
              try clear hcz24_4
              try clear hcz24_5
              try clear hcz24_6
              try clear hcz24_7
              try clear hcz24_8
              try clear hcz24_9
              try clear hfz12_0
              try clear hfz12_1
              try clear hfz12_2
              try clear hfz12_3
              try clear hfz12_4
              try clear hfz12_5
              try clear hfz12_6
              try clear hfz12_7
              try clear hfz12_8
              try clear hfz12_9
              try clear hfz16_0
              try clear hfz16_1
              try clear hfz16_2
              try clear hfz16_3
              try clear hfz16_4
              try clear hfz16_5
              try clear hfz16_6
              try clear hfz16_7
              try clear hfz16_8
              try clear hfz16_9
              try clear hfz17_0
              try clear hfz17_1
              try clear hfz17_2
              try clear hfz17_3
              try clear hfz17_4
              try clear hfz17_5
              try clear hfz17_6
              try clear hfz17_7
              try clear hfz17_8
              try clear hfz17_9
              try clear hfz20_0
              try clear hfz20_1
              try clear hfz20_2
              try clear hfz20_3
              try clear hfz20_4
              try clear hfz20_5
              try clear hfz20_6
              try clear hfz20_7
              try clear hfz20_8
              try clear hfz20_9
              try clear hfz21_0
              try clear hfz21_1
              try clear hfz21_2
              try clear hfz21_3
              try clear hfz21_4
              try clear hfz21_5
              try clear hfz21_6
              try clear hfz21_7
              try clear hfz21_8
              try clear hfz21_9
              try clear hfz23_0
              try clear hfz23_1
              try clear hfz23_2
              try clear hfz23_3
              try clear hfz23_4
              try clear hfz23_5
              try clear hfz23_6
              try clear hfz23_7
              try clear hfz23_8
              try clear hfz23_9
              try clear hfz24_0
              try clear hfz24_1
              try clear hfz24_2
              try clear hfz24_3
              try clear hfz24_4
              try clear hfz24_5
              try clear hfz24_6
              try clear hfz24_7
              try clear hfz24_8
              try clear hfz24_9
              try clear p2
              try clear p6
              obtain ⟨kq, x11_24, rfl, HA, HJ24, BK132, BK144, HB⟩ := hcut
              cases kq with
              | zero => exact absurd HA.out (by simp [satchelref24_what.j1])
              | succ kj24 =>
                have H := HA.out
                clear HA
                simp only [satchelref24_what.j1] at H
                by_cases c27 : (!(t123 == t135) || (!(t124 == t136) || (!(t125 == t137) || (!(t126 == t138) || (!(t127 == t139)))))) = true
                · rw [if_pos c27] at H
                  have c27b0 : (!(t123 == t135) || (!(t124 == t136) || (!(t125 == t137) || (!(t126 == t138) || (!(t127 == t139)))))) = true := c27
                  clear c27
                  by_cases c28 : t130.toList = t142.toList
                  · rw [if_pos c28] at H
                    have c28b0 : (t130.toList == t142.toList) = true := beq_iff_eq.mpr c28
                    have c28b1 : (t130.toList != t142.toList) = false := bne_eq_false_iff_eq.mpr c28
                    clear c28
                    obtain rfl := Option.some.inj H
                    have hnb29 := NB132_144.out
                    have hnc29 := NB144_132.out
                    have hcz30_0 : wc.cell? ⟨gb132, 0, none⟩ = some (.string t121) := (blk_cell BK132.out 0).trans rfl
                    have hcz30_1 : wc.cell? ⟨gb132, 1, none⟩ = some (.int .i64 t122) := (blk_cell BK132.out 1).trans rfl
                    have hcz30_2 : wc.cell? ⟨gb132, 2, none⟩ = some (.int .u32 t123) := (blk_cell BK132.out 2).trans rfl
                    have hcz30_3 : wc.cell? ⟨gb132, 3, none⟩ = some (.int .u32 t124) := (blk_cell BK132.out 3).trans rfl
                    have hcz30_4 : wc.cell? ⟨gb132, 4, none⟩ = some (.int .u32 t125) := (blk_cell BK132.out 4).trans rfl
                    have hcz30_5 : wc.cell? ⟨gb132, 5, none⟩ = some (.int .i64 t126) := (blk_cell BK132.out 5).trans rfl
                    have hcz30_6 : wc.cell? ⟨gb132, 6, none⟩ = some (.int .i32 t127) := (blk_cell BK132.out 6).trans rfl
                    have hcz30_7 : wc.cell? ⟨gb132, 7, none⟩ = some (.int .i64 t128) := (blk_cell BK132.out 7).trans rfl
                    have hcz30_8 : wc.cell? ⟨gb132, 8, none⟩ = some (.int .u64 t129) := (blk_cell BK132.out 8).trans rfl
                    have hcz30_9 : wc.cell? ⟨gb132, 9, none⟩ = some (.string t130) := (blk_cell BK132.out 9).trans rfl
                    have hfz30_0 := blk_frozen BK132.out 0
                    have hfz30_1 := blk_frozen BK132.out 1
                    have hfz30_2 := blk_frozen BK132.out 2
                    have hfz30_3 := blk_frozen BK132.out 3
                    have hfz30_4 := blk_frozen BK132.out 4
                    have hfz30_5 := blk_frozen BK132.out 5
                    have hfz30_6 := blk_frozen BK132.out 6
                    have hfz30_7 := blk_frozen BK132.out 7
                    have hfz30_8 := blk_frozen BK132.out 8
                    have hfz30_9 := blk_frozen BK132.out 9
                    have hcz31_0 : wc.cell? ⟨gb144, 0, none⟩ = some (.string t133) := (blk_cell BK144.out 0).trans rfl
                    have hcz31_1 : wc.cell? ⟨gb144, 1, none⟩ = some (.int .i64 t134) := (blk_cell BK144.out 1).trans rfl
                    have hcz31_2 : wc.cell? ⟨gb144, 2, none⟩ = some (.int .u32 t135) := (blk_cell BK144.out 2).trans rfl
                    have hcz31_3 : wc.cell? ⟨gb144, 3, none⟩ = some (.int .u32 t136) := (blk_cell BK144.out 3).trans rfl
                    have hcz31_4 : wc.cell? ⟨gb144, 4, none⟩ = some (.int .u32 t137) := (blk_cell BK144.out 4).trans rfl
                    have hcz31_5 : wc.cell? ⟨gb144, 5, none⟩ = some (.int .i64 t138) := (blk_cell BK144.out 5).trans rfl
                    have hcz31_6 : wc.cell? ⟨gb144, 6, none⟩ = some (.int .i32 t139) := (blk_cell BK144.out 6).trans rfl
                    have hcz31_7 : wc.cell? ⟨gb144, 7, none⟩ = some (.int .i64 t140) := (blk_cell BK144.out 7).trans rfl
                    have hcz31_8 : wc.cell? ⟨gb144, 8, none⟩ = some (.int .u64 t141) := (blk_cell BK144.out 8).trans rfl
                    have hcz31_9 : wc.cell? ⟨gb144, 9, none⟩ = some (.string t142) := (blk_cell BK144.out 9).trans rfl
                    have hfz31_0 := blk_frozen BK144.out 0
                    have hfz31_1 := blk_frozen BK144.out 1
                    have hfz31_2 := blk_frozen BK144.out 2
                    have hfz31_3 := blk_frozen BK144.out 3
                    have hfz31_4 := blk_frozen BK144.out 4
                    have hfz31_5 := blk_frozen BK144.out 5
                    have hfz31_6 := blk_frozen BK144.out 6
                    have hfz31_7 := blk_frozen BK144.out 7
                    have hfz31_8 := blk_frozen BK144.out 8
                    have hfz31_9 := blk_frozen BK144.out 9
                    go_wp2
                    go_ret
                    exact ⟨by first | rfl | (simp [errW_none, errW_some] <;> rfl) | (simp [*, errW_none, errW_some] <;> rfl), by repeat (first | (with_reducible first | exact HB.out | apply below_alloc | apply pw_below_drewN | apply below_drew1 | refine below_set ?_ GE132.out | refine below_set ?_ GE144.out) | exact HB.out)⟩
                  · rw [if_neg c28] at H
                    have c28b0 : (t130.toList == t142.toList) = false := beq_eq_false_iff_ne.mpr c28
                    have c28b1 : (t130.toList != t142.toList) = true := bne_iff_ne.mpr c28
                    obtain rfl := Option.some.inj H
                    have hnb32 := NB132_144.out
                    have hnc32 := NB144_132.out
                    have hcz33_0 : wc.cell? ⟨gb132, 0, none⟩ = some (.string t121) := (blk_cell BK132.out 0).trans rfl
                    have hcz33_1 : wc.cell? ⟨gb132, 1, none⟩ = some (.int .i64 t122) := (blk_cell BK132.out 1).trans rfl
                    have hcz33_2 : wc.cell? ⟨gb132, 2, none⟩ = some (.int .u32 t123) := (blk_cell BK132.out 2).trans rfl
                    have hcz33_3 : wc.cell? ⟨gb132, 3, none⟩ = some (.int .u32 t124) := (blk_cell BK132.out 3).trans rfl
                    have hcz33_4 : wc.cell? ⟨gb132, 4, none⟩ = some (.int .u32 t125) := (blk_cell BK132.out 4).trans rfl
                    have hcz33_5 : wc.cell? ⟨gb132, 5, none⟩ = some (.int .i64 t126) := (blk_cell BK132.out 5).trans rfl
                    have hcz33_6 : wc.cell? ⟨gb132, 6, none⟩ = some (.int .i32 t127) := (blk_cell BK132.out 6).trans rfl
                    have hcz33_7 : wc.cell? ⟨gb132, 7, none⟩ = some (.int .i64 t128) := (blk_cell BK132.out 7).trans rfl
                    have hcz33_8 : wc.cell? ⟨gb132, 8, none⟩ = some (.int .u64 t129) := (blk_cell BK132.out 8).trans rfl
                    have hcz33_9 : wc.cell? ⟨gb132, 9, none⟩ = some (.string t130) := (blk_cell BK132.out 9).trans rfl
                    have hfz33_0 := blk_frozen BK132.out 0
                    have hfz33_1 := blk_frozen BK132.out 1
                    have hfz33_2 := blk_frozen BK132.out 2
                    have hfz33_3 := blk_frozen BK132.out 3
                    have hfz33_4 := blk_frozen BK132.out 4
                    have hfz33_5 := blk_frozen BK132.out 5
                    have hfz33_6 := blk_frozen BK132.out 6
                    have hfz33_7 := blk_frozen BK132.out 7
                    have hfz33_8 := blk_frozen BK132.out 8
                    have hfz33_9 := blk_frozen BK132.out 9
                    have hcz34_0 : wc.cell? ⟨gb144, 0, none⟩ = some (.string t133) := (blk_cell BK144.out 0).trans rfl
                    have hcz34_1 : wc.cell? ⟨gb144, 1, none⟩ = some (.int .i64 t134) := (blk_cell BK144.out 1).trans rfl
                    have hcz34_2 : wc.cell? ⟨gb144, 2, none⟩ = some (.int .u32 t135) := (blk_cell BK144.out 2).trans rfl
                    have hcz34_3 : wc.cell? ⟨gb144, 3, none⟩ = some (.int .u32 t136) := (blk_cell BK144.out 3).trans rfl
                    have hcz34_4 : wc.cell? ⟨gb144, 4, none⟩ = some (.int .u32 t137) := (blk_cell BK144.out 4).trans rfl
                    have hcz34_5 : wc.cell? ⟨gb144, 5, none⟩ = some (.int .i64 t138) := (blk_cell BK144.out 5).trans rfl
                    have hcz34_6 : wc.cell? ⟨gb144, 6, none⟩ = some (.int .i32 t139) := (blk_cell BK144.out 6).trans rfl
                    have hcz34_7 : wc.cell? ⟨gb144, 7, none⟩ = some (.int .i64 t140) := (blk_cell BK144.out 7).trans rfl
                    have hcz34_8 : wc.cell? ⟨gb144, 8, none⟩ = some (.int .u64 t141) := (blk_cell BK144.out 8).trans rfl
                    have hcz34_9 : wc.cell? ⟨gb144, 9, none⟩ = some (.string t142) := (blk_cell BK144.out 9).trans rfl
                    have hfz34_0 := blk_frozen BK144.out 0
                    have hfz34_1 := blk_frozen BK144.out 1
                    have hfz34_2 := blk_frozen BK144.out 2
                    have hfz34_3 := blk_frozen BK144.out 3
                    have hfz34_4 := blk_frozen BK144.out 4
                    have hfz34_5 := blk_frozen BK144.out 5
                    have hfz34_6 := blk_frozen BK144.out 6
                    have hfz34_7 := blk_frozen BK144.out 7
                    have hfz34_8 := blk_frozen BK144.out 8
                    have hfz34_9 := blk_frozen BK144.out 9
                    go_wp2
                    go_ret
                    exact ⟨by first | rfl | (simp [errW_none, errW_some] <;> rfl) | (simp [*, errW_none, errW_some] <;> rfl), by repeat (first | (with_reducible first | exact HB.out | apply below_alloc | apply pw_below_drewN | apply below_drew1 | refine below_set ?_ GE132.out | refine below_set ?_ GE144.out) | exact HB.out)⟩
                · rw [if_neg c27] at H
                  have c27b0 : (!(t123 == t135) || (!(t124 == t136) || (!(t125 == t137) || (!(t126 == t138) || (!(t127 == t139)))))) = false := by simpa using c27
                  clear c27
                  by_cases c35 : t130.toList = t142.toList
                  · rw [if_pos c35] at H
                    have c35b0 : (t130.toList == t142.toList) = true := beq_iff_eq.mpr c35
                    have c35b1 : (t130.toList != t142.toList) = false := bne_eq_false_iff_eq.mpr c35
                    clear c35
                    obtain rfl := Option.some.inj H
                    have hnb36 := NB132_144.out
                    have hnc36 := NB144_132.out
                    have hcz37_0 : wc.cell? ⟨gb132, 0, none⟩ = some (.string t121) := (blk_cell BK132.out 0).trans rfl
                    have hcz37_1 : wc.cell? ⟨gb132, 1, none⟩ = some (.int .i64 t122) := (blk_cell BK132.out 1).trans rfl
                    have hcz37_2 : wc.cell? ⟨gb132, 2, none⟩ = some (.int .u32 t123) := (blk_cell BK132.out 2).trans rfl
                    have hcz37_3 : wc.cell? ⟨gb132, 3, none⟩ = some (.int .u32 t124) := (blk_cell BK132.out 3).trans rfl
                    have hcz37_4 : wc.cell? ⟨gb132, 4, none⟩ = some (.int .u32 t125) := (blk_cell BK132.out 4).trans rfl
                    have hcz37_5 : wc.cell? ⟨gb132, 5, none⟩ = some (.int .i64 t126) := (blk_cell BK132.out 5).trans rfl
                    have hcz37_6 : wc.cell? ⟨gb132, 6, none⟩ = some (.int .i32 t127) := (blk_cell BK132.out 6).trans rfl
                    have hcz37_7 : wc.cell? ⟨gb132, 7, none⟩ = some (.int .i64 t128) := (blk_cell BK132.out 7).trans rfl
                    have hcz37_8 : wc.cell? ⟨gb132, 8, none⟩ = some (.int .u64 t129) := (blk_cell BK132.out 8).trans rfl
                    have hcz37_9 : wc.cell? ⟨gb132, 9, none⟩ = some (.string t130) := (blk_cell BK132.out 9).trans rfl
                    have hfz37_0 := blk_frozen BK132.out 0
                    have hfz37_1 := blk_frozen BK132.out 1
                    have hfz37_2 := blk_frozen BK132.out 2
                    have hfz37_3 := blk_frozen BK132.out 3
                    have hfz37_4 := blk_frozen BK132.out 4
                    have hfz37_5 := blk_frozen BK132.out 5
                    have hfz37_6 := blk_frozen BK132.out 6
                    have hfz37_7 := blk_frozen BK132.out 7
                    have hfz37_8 := blk_frozen BK132.out 8
                    have hfz37_9 := blk_frozen BK132.out 9
                    have hcz38_0 : wc.cell? ⟨gb144, 0, none⟩ = some (.string t133) := (blk_cell BK144.out 0).trans rfl
                    have hcz38_1 : wc.cell? ⟨gb144, 1, none⟩ = some (.int .i64 t134) := (blk_cell BK144.out 1).trans rfl
                    have hcz38_2 : wc.cell? ⟨gb144, 2, none⟩ = some (.int .u32 t135) := (blk_cell BK144.out 2).trans rfl
                    have hcz38_3 : wc.cell? ⟨gb144, 3, none⟩ = some (.int .u32 t136) := (blk_cell BK144.out 3).trans rfl
                    have hcz38_4 : wc.cell? ⟨gb144, 4, none⟩ = some (.int .u32 t137) := (blk_cell BK144.out 4).trans rfl
                    have hcz38_5 : wc.cell? ⟨gb144, 5, none⟩ = some (.int .i64 t138) := (blk_cell BK144.out 5).trans rfl
                    have hcz38_6 : wc.cell? ⟨gb144, 6, none⟩ = some (.int .i32 t139) := (blk_cell BK144.out 6).trans rfl
                    have hcz38_7 : wc.cell? ⟨gb144, 7, none⟩ = some (.int .i64 t140) := (blk_cell BK144.out 7).trans rfl
                    have hcz38_8 : wc.cell? ⟨gb144, 8, none⟩ = some (.int .u64 t141) := (blk_cell BK144.out 8).trans rfl
                    have hcz38_9 : wc.cell? ⟨gb144, 9, none⟩ = some (.string t142) := (blk_cell BK144.out 9).trans rfl
                    have hfz38_0 := blk_frozen BK144.out 0
                    have hfz38_1 := blk_frozen BK144.out 1
                    have hfz38_2 := blk_frozen BK144.out 2
                    have hfz38_3 := blk_frozen BK144.out 3
                    have hfz38_4 := blk_frozen BK144.out 4
                    have hfz38_5 := blk_frozen BK144.out 5
                    have hfz38_6 := blk_frozen BK144.out 6
                    have hfz38_7 := blk_frozen BK144.out 7
                    have hfz38_8 := blk_frozen BK144.out 8
                    have hfz38_9 := blk_frozen BK144.out 9
                    go_wp2
                    go_ret
                    exact ⟨by first | rfl | (simp [errW_none, errW_some] <;> rfl) | (simp [*, errW_none, errW_some] <;> rfl), by repeat (first | (with_reducible first | exact HB.out | apply below_alloc | apply pw_below_drewN | apply below_drew1 | refine below_set ?_ GE132.out | refine below_set ?_ GE144.out) | exact HB.out)⟩
                  · rw [if_neg c35] at H
                    have c35b0 : (t130.toList == t142.toList) = false := beq_eq_false_iff_ne.mpr c35
                    have c35b1 : (t130.toList != t142.toList) = true := bne_iff_ne.mpr c35
                    obtain rfl := Option.some.inj H
                    have hnb39 := NB132_144.out
                    have hnc39 := NB144_132.out
                    have hcz40_0 : wc.cell? ⟨gb132, 0, none⟩ = some (.string t121) := (blk_cell BK132.out 0).trans rfl
                    have hcz40_1 : wc.cell? ⟨gb132, 1, none⟩ = some (.int .i64 t122) := (blk_cell BK132.out 1).trans rfl
                    have hcz40_2 : wc.cell? ⟨gb132, 2, none⟩ = some (.int .u32 t123) := (blk_cell BK132.out 2).trans rfl
                    have hcz40_3 : wc.cell? ⟨gb132, 3, none⟩ = some (.int .u32 t124) := (blk_cell BK132.out 3).trans rfl
                    have hcz40_4 : wc.cell? ⟨gb132, 4, none⟩ = some (.int .u32 t125) := (blk_cell BK132.out 4).trans rfl
                    have hcz40_5 : wc.cell? ⟨gb132, 5, none⟩ = some (.int .i64 t126) := (blk_cell BK132.out 5).trans rfl
                    have hcz40_6 : wc.cell? ⟨gb132, 6, none⟩ = some (.int .i32 t127) := (blk_cell BK132.out 6).trans rfl
                    have hcz40_7 : wc.cell? ⟨gb132, 7, none⟩ = some (.int .i64 t128) := (blk_cell BK132.out 7).trans rfl
                    have hcz40_8 : wc.cell? ⟨gb132, 8, none⟩ = some (.int .u64 t129) := (blk_cell BK132.out 8).trans rfl
                    have hcz40_9 : wc.cell? ⟨gb132, 9, none⟩ = some (.string t130) := (blk_cell BK132.out 9).trans rfl
                    have hfz40_0 := blk_frozen BK132.out 0
                    have hfz40_1 := blk_frozen BK132.out 1
                    have hfz40_2 := blk_frozen BK132.out 2
                    have hfz40_3 := blk_frozen BK132.out 3
                    have hfz40_4 := blk_frozen BK132.out 4
                    have hfz40_5 := blk_frozen BK132.out 5
                    have hfz40_6 := blk_frozen BK132.out 6
                    have hfz40_7 := blk_frozen BK132.out 7
                    have hfz40_8 := blk_frozen BK132.out 8
                    have hfz40_9 := blk_frozen BK132.out 9
                    have hcz41_0 : wc.cell? ⟨gb144, 0, none⟩ = some (.string t133) := (blk_cell BK144.out 0).trans rfl
                    have hcz41_1 : wc.cell? ⟨gb144, 1, none⟩ = some (.int .i64 t134) := (blk_cell BK144.out 1).trans rfl
                    have hcz41_2 : wc.cell? ⟨gb144, 2, none⟩ = some (.int .u32 t135) := (blk_cell BK144.out 2).trans rfl
                    have hcz41_3 : wc.cell? ⟨gb144, 3, none⟩ = some (.int .u32 t136) := (blk_cell BK144.out 3).trans rfl
                    have hcz41_4 : wc.cell? ⟨gb144, 4, none⟩ = some (.int .u32 t137) := (blk_cell BK144.out 4).trans rfl
                    have hcz41_5 : wc.cell? ⟨gb144, 5, none⟩ = some (.int .i64 t138) := (blk_cell BK144.out 5).trans rfl
                    have hcz41_6 : wc.cell? ⟨gb144, 6, none⟩ = some (.int .i32 t139) := (blk_cell BK144.out 6).trans rfl
                    have hcz41_7 : wc.cell? ⟨gb144, 7, none⟩ = some (.int .i64 t140) := (blk_cell BK144.out 7).trans rfl
                    have hcz41_8 : wc.cell? ⟨gb144, 8, none⟩ = some (.int .u64 t141) := (blk_cell BK144.out 8).trans rfl
                    have hcz41_9 : wc.cell? ⟨gb144, 9, none⟩ = some (.string t142) := (blk_cell BK144.out 9).trans rfl
                    have hfz41_0 := blk_frozen BK144.out 0
                    have hfz41_1 := blk_frozen BK144.out 1
                    have hfz41_2 := blk_frozen BK144.out 2
                    have hfz41_3 := blk_frozen BK144.out 3
                    have hfz41_4 := blk_frozen BK144.out 4
                    have hfz41_5 := blk_frozen BK144.out 5
                    have hfz41_6 := blk_frozen BK144.out 6
                    have hfz41_7 := blk_frozen BK144.out 7
                    have hfz41_8 := blk_frozen BK144.out 8
                    have hfz41_9 := blk_frozen BK144.out 9
                    go_wp2
                    go_ret
                    exact ⟨by first | rfl | (simp [errW_none, errW_some] <;> rfl) | (simp [*, errW_none, errW_some] <;> rfl), by repeat (first | (with_reducible first | exact HB.out | apply below_alloc | apply pw_below_drewN | apply below_drew1 | refine below_set ?_ GE132.out | refine below_set ?_ GE144.out) | exact HB.out)⟩
      · rw [if_neg c8] at H
        have c8b0 : (t122 == t134) = false := beq_eq_false_iff_ne.mpr c8
        have c8b1 : (t122 != t134) = true := bne_iff_ne.mpr c8
        obtain rfl := Option.some.inj H
        go_enter Try.func13, Try.ntmps13
        go_wp2_with (first | ((with_reducible refine gate_callee (f := 18) rfl ?_); refine goesL_ (some 15) rfl rfl Try.func18 (by kernel_rfl) rfl #[.slice A0 l0.length c0, .string a2] rfl (by (try simp only [List.map_toArray, List.map_cons, List.map_nil]); first | done | rfl | (simp only [List.length_drop, List.length_take]; rfl)) ?_; (with_reducible refine (satchelref24_last.calls k _ _ l0 a2 t121 t122 t123 t124 t125 t126 t127 t128 t129 t130 true _ ?side1 ?side2 A4.out).mono ?_); (case side1 => repeat (first | exact HR0.out | (with_reducible refine Kd.C_alloc ?_ _) | (with_reducible refine Kd.C_drewN ?_ _) | (with_reducible refine Kd.C_drew ?_))); (case side2 => exact HC0.out); rintro e w42 ⟨rfl, hb⟩; refine ⟨_, rfl, ?_⟩; have n0_ := Aside0.mk (below_step (by repeat (first | (with_reducible first | exact HB.out | apply below_alloc | apply pw_below_drewN | apply below_drew1) | exact HB.out)) hb); clear HB; have HB := n0_; clear n0_; (try clear hb); (try clear hb2); (try clear hk); (try clear hi)) | ((with_reducible refine gate_dst (N := 7) rfl ?_); refine box_event ?hg (N := 7) ?hd (cs := #[.string (⟨#[]⟩ : ByteArray), .int .i64 0, .int .u32 0, .int .u32 0, .int .u32 0, .int .i64 0, .int .i32 0, .int .i64 0, .int .u64 0, .string (⟨#[]⟩ : ByteArray)]) (t := 33) ?hr ?_; (case hd => rfl); (case hg => rfl); (case hr => first | (go_simp; done) | (go_simp; rfl)); intro gb132 hg w43 hbox hb; have n0_ := Aside0.mk (below_step (by repeat (first | (with_reducible first | exact HB.out | apply below_alloc | apply pw_below_drewN | apply below_drew1) | exact HB.out)) hb); have n1_ := Aside0.mk (hbox); have n2_ := Aside0.mk ((by rw [hg]; exact (below_size (by repeat (first | (with_reducible first | exact HB.out | apply below_alloc | apply pw_below_drewN | apply below_drew1) | exact HB.out))) : w.heap.size ≤ gb132)); have n3_ := Aside0.mk ((by rw [hg]; exact (below_size (by repeat (first | (with_reducible first | exact HB.out | apply below_alloc | apply pw_below_drewN | apply below_drew1) | exact HB.out))) : w.heap.size ≤ gb132)); clear HB; have HB := n0_; have BK132 := n1_; have GW132 := n2_; have GE132 := n3_; clear n0_ n1_ n2_ n3_; clear hb hbox hg; have hcz44_0 : w43.cell? ⟨gb132, 0, none⟩ = some (.string (⟨#[]⟩ : ByteArray)) := (blk_cell BK132.out 0).trans rfl; have hcz44_1 : w43.cell? ⟨gb132, 1, none⟩ = some (.int .i64 0) := (blk_cell BK132.out 1).trans rfl; have hcz44_2 : w43.cell? ⟨gb132, 2, none⟩ = some (.int .u32 0) := (blk_cell BK132.out 2).trans rfl; have hcz44_3 : w43.cell? ⟨gb132, 3, none⟩ = some (.int .u32 0) := (blk_cell BK132.out 3).trans rfl; have hcz44_4 : w43.cell? ⟨gb132, 4, none⟩ = some (.int .u32 0) := (blk_cell BK132.out 4).trans rfl; have hcz44_5 : w43.cell? ⟨gb132, 5, none⟩ = some (.int .i64 0) := (blk_cell BK132.out 5).trans rfl; have hcz44_6 : w43.cell? ⟨gb132, 6, none⟩ = some (.int .i32 0) := (blk_cell BK132.out 6).trans rfl; have hcz44_7 : w43.cell? ⟨gb132, 7, none⟩ = some (.int .i64 0) := (blk_cell BK132.out 7).trans rfl; have hcz44_8 : w43.cell? ⟨gb132, 8, none⟩ = some (.int .u64 0) := (blk_cell BK132.out 8).trans rfl; have hcz44_9 : w43.cell? ⟨gb132, 9, none⟩ = some (.string (⟨#[]⟩ : ByteArray)) := (blk_cell BK132.out 9).trans rfl; have hfz44_0 := blk_frozen BK132.out 0; have hfz44_1 := blk_frozen BK132.out 1; have hfz44_2 := blk_frozen BK132.out 2; have hfz44_3 := blk_frozen BK132.out 3; have hfz44_4 := blk_frozen BK132.out 4; have hfz44_5 := blk_frozen BK132.out 5; have hfz44_6 := blk_frozen BK132.out 6; have hfz44_7 := blk_frozen BK132.out 7; have hfz44_8 := blk_frozen BK132.out 8; have hfz44_9 := blk_frozen BK132.out 9) | ((with_reducible refine gate_callee (f := 18) rfl ?_); refine goesL_ (some 21) rfl rfl Try.func18 (by kernel_rfl) rfl #[.slice A1 l1.length c1, .string a2] rfl (by (try simp only [List.map_toArray, List.map_cons, List.map_nil]); first | done | rfl | (simp only [List.length_drop, List.length_take]; rfl)) ?_; (with_reducible refine (satchelref24_last.calls k _ _ l1 a2 t133 t134 t135 t136 t137 t138 t139 t140 t141 t142 true _ ?side1 ?side2 A5.out).mono ?_); (case side1 => exact Kd.C_below HR1.out (by repeat (first | (with_reducible first | exact HB.out | apply below_alloc | apply pw_below_drewN | apply below_drew1 | refine below_set ?_ GE132.out) | exact HB.out))); (case side2 => exact HC1.out); rintro e w45 ⟨rfl, hb⟩; refine ⟨_, rfl, ?_⟩; have n0_ := Aside0.mk (blk_below (g := gb132) (o := .cells #[.string t121, .int .i64 t122, .int .u32 t123, .int .u32 t124, .int .u32 t125, .int .i64 t126, .int .i32 t127, .int .i64 t128, .int .u64 t129, .string t130] 33 (0, 0)) (by (with_reducible repeat (first | refine blk_drewN ?_ _ | refine blk_drew ?_ | refine blk_alloc ?_ _)); refine blk_put (cs := #[.string t121, .int .i64 t122, .int .u32 t123, .int .u32 t124, .int .u32 t125, .int .i64 t126, .int .i32 t127, .int .i64 t128, .int .u64 t129, .string (⟨#[]⟩ : ByteArray)]) ?_ 9 _ rfl; (with_reducible repeat (first | refine blk_drewN ?_ _ | refine blk_drew ?_ | refine blk_alloc ?_ _)); refine blk_put (cs := #[.string t121, .int .i64 t122, .int .u32 t123, .int .u32 t124, .int .u32 t125, .int .i64 t126, .int .i32 t127, .int .i64 t128, .int .u64 0, .string (⟨#[]⟩ : ByteArray)]) ?_ 8 _ rfl; (with_reducible repeat (first | refine blk_drewN ?_ _ | refine blk_drew ?_ | refine blk_alloc ?_ _)); refine blk_put (cs := #[.string t121, .int .i64 t122, .int .u32 t123, .int .u32 t124, .int .u32 t125, .int .i64 t126, .int .i32 t127, .int .i64 0, .int .u64 0, .string (⟨#[]⟩ : ByteArray)]) ?_ 7 _ rfl; (with_reducible repeat (first | refine blk_drewN ?_ _ | refine blk_drew ?_ | refine blk_alloc ?_ _)); refine blk_put (cs := #[.string t121, .int .i64 t122, .int .u32 t123, .int .u32 t124, .int .u32 t125, .int .i64 t126, .int .i32 0, .int .i64 0, .int .u64 0, .string (⟨#[]⟩ : ByteArray)]) ?_ 6 _ rfl; (with_reducible repeat (first | refine blk_drewN ?_ _ | refine blk_drew ?_ | refine blk_alloc ?_ _)); refine blk_put (cs := #[.string t121, .int .i64 t122, .int .u32 t123, .int .u32 t124, .int .u32 t125, .int .i64 0, .int .i32 0, .int .i64 0, .int .u64 0, .string (⟨#[]⟩ : ByteArray)]) ?_ 5 _ rfl; (with_reducible repeat (first | refine blk_drewN ?_ _ | refine blk_drew ?_ | refine blk_alloc ?_ _)); refine blk_put (cs := #[.string t121, .int .i64 t122, .int .u32 t123, .int .u32 t124, .int .u32 0, .int .i64 0, .int .i32 0, .int .i64 0, .int .u64 0, .string (⟨#[]⟩ : ByteArray)]) ?_ 4 _ rfl; (with_reducible repeat (first | refine blk_drewN ?_ _ | refine blk_drew ?_ | refine blk_alloc ?_ _)); refine blk_put (cs := #[.string t121, .int .i64 t122, .int .u32 t123, .int .u32 0, .int .u32 0, .int .i64 0, .int .i32 0, .int .i64 0, .int .u64 0, .string (⟨#[]⟩ : ByteArray)]) ?_ 3 _ rfl; (with_reducible repeat (first | refine blk_drewN ?_ _ | refine blk_drew ?_ | refine blk_alloc ?_ _)); refine blk_put (cs := #[.string t121, .int .i64 t122, .int .u32 0, .int .u32 0, .int .u32 0, .int .i64 0, .int .i32 0, .int .i64 0, .int .u64 0, .string (⟨#[]⟩ : ByteArray)]) ?_ 2 _ rfl; (with_reducible repeat (first | refine blk_drewN ?_ _ | refine blk_drew ?_ | refine blk_alloc ?_ _)); refine blk_put (cs := #[.string t121, .int .i64 0, .int .u32 0, .int .u32 0, .int .u32 0, .int .i64 0, .int .i32 0, .int .i64 0, .int .u64 0, .string (⟨#[]⟩ : ByteArray)]) ?_ 1 _ rfl; (with_reducible repeat (first | refine blk_drewN ?_ _ | refine blk_drew ?_ | refine blk_alloc ?_ _)); refine blk_put (cs := #[.string (⟨#[]⟩ : ByteArray), .int .i64 0, .int .u32 0, .int .u32 0, .int .u32 0, .int .i64 0, .int .i32 0, .int .i64 0, .int .u64 0, .string (⟨#[]⟩ : ByteArray)]) ?_ 0 _ rfl; (with_reducible repeat (first | refine blk_drewN ?_ _ | refine blk_drew ?_ | refine blk_alloc ?_ _)); exact BK132.out) hb); have n1_ := Aside0.mk (below_step (by repeat (first | (with_reducible first | exact HB.out | apply below_alloc | apply pw_below_drewN | apply below_drew1 | refine below_set ?_ GE132.out) | exact HB.out)) hb); clear BK132; clear HB; have BK132 := n0_; have HB := n1_; clear n0_ n1_; (try clear hb); (try clear hb2); (try clear hk); (try clear hi)) | ((with_reducible refine gate_dst (N := 9) rfl ?_); refine box_event ?hg (N := 9) ?hd (cs := #[.string (⟨#[]⟩ : ByteArray), .int .i64 0, .int .u32 0, .int .u32 0, .int .u32 0, .int .i64 0, .int .i32 0, .int .i64 0, .int .u64 0, .string (⟨#[]⟩ : ByteArray)]) (t := 33) ?hr ?_; (case hd => rfl); (case hg => rfl); (case hr => first | (go_simp; done) | (go_simp; rfl)); intro gb144 hg w46 hbox hb; have n0_ := Aside0.mk (blk_below (g := gb132) (o := .cells #[.string t121, .int .i64 t122, .int .u32 t123, .int .u32 t124, .int .u32 t125, .int .i64 t126, .int .i32 t127, .int .i64 t128, .int .u64 t129, .string t130] 33 (0, 0)) (by (with_reducible repeat (first | refine blk_drewN ?_ _ | refine blk_drew ?_ | refine blk_alloc ?_ _)); exact BK132.out) hb); have n1_ := Aside0.mk (below_step (by repeat (first | (with_reducible first | exact HB.out | apply below_alloc | apply pw_below_drewN | apply below_drew1 | refine below_set ?_ GE132.out) | exact HB.out)) hb); have n2_ := Aside0.mk (hbox); have n3_ := Aside0.mk ((by rw [hg]; exact (below_size (by repeat (first | (with_reducible first | exact HB.out | apply below_alloc | apply pw_below_drewN | apply below_drew1 | refine below_set ?_ GE132.out) | exact HB.out))) : w.heap.size ≤ gb144)); have n4_ := Aside0.mk ((by rw [hg]; exact (below_size (by repeat (first | (with_reducible first | exact HB.out | apply below_alloc | apply pw_below_drewN | apply below_drew1 | refine below_set ?_ GE132.out) | exact HB.out))) : w.heap.size ≤ gb144)); have n5_ := Aside0.mk ((by rw [hg]; exact Nat.ne_of_lt (blk_lt (g := gb132) (o := .cells #[.string t121, .int .i64 t122, .int .u32 t123, .int .u32 t124, .int .u32 t125, .int .i64 t126, .int .i32 t127, .int .i64 t128, .int .u64 t129, .string t130] 33 (0, 0)) (by (with_reducible repeat (first | refine blk_drewN ?_ _ | refine blk_drew ?_ | refine blk_alloc ?_ _)); exact BK132.out)) : gb132 ≠ gb144)); have n6_ := Aside0.mk ((by rw [hg]; exact Nat.ne_of_gt (blk_lt (g := gb132) (o := .cells #[.string t121, .int .i64 t122, .int .u32 t123, .int .u32 t124, .int .u32 t125, .int .i64 t126, .int .i32 t127, .int .i64 t128, .int .u64 t129, .string t130] 33 (0, 0)) (by (with_reducible repeat (first | refine blk_drewN ?_ _ | refine blk_drew ?_ | refine blk_alloc ?_ _)); exact BK132.out)) : gb144 ≠ gb132)); clear BK132; clear HB; have BK132 := n0_; have HB := n1_; have BK144 := n2_; have GW144 := n3_; have GE144 := n4_; have NB132_144 := n5_; have NB144_132 := n6_; clear n0_ n1_ n2_ n3_ n4_ n5_ n6_; clear hb hbox hg; have hnb47 := NB144_132.out; have hnc47 := NB132_144.out; have hcz48_0 : w46.cell? ⟨gb144, 0, none⟩ = some (.string (⟨#[]⟩ : ByteArray)) := (blk_cell BK144.out 0).trans rfl; have hcz48_1 : w46.cell? ⟨gb144, 1, none⟩ = some (.int .i64 0) := (blk_cell BK144.out 1).trans rfl; have hcz48_2 : w46.cell? ⟨gb144, 2, none⟩ = some (.int .u32 0) := (blk_cell BK144.out 2).trans rfl; have hcz48_3 : w46.cell? ⟨gb144, 3, none⟩ = some (.int .u32 0) := (blk_cell BK144.out 3).trans rfl; have hcz48_4 : w46.cell? ⟨gb144, 4, none⟩ = some (.int .u32 0) := (blk_cell BK144.out 4).trans rfl; have hcz48_5 : w46.cell? ⟨gb144, 5, none⟩ = some (.int .i64 0) := (blk_cell BK144.out 5).trans rfl; have hcz48_6 : w46.cell? ⟨gb144, 6, none⟩ = some (.int .i32 0) := (blk_cell BK144.out 6).trans rfl; have hcz48_7 : w46.cell? ⟨gb144, 7, none⟩ = some (.int .i64 0) := (blk_cell BK144.out 7).trans rfl; have hcz48_8 : w46.cell? ⟨gb144, 8, none⟩ = some (.int .u64 0) := (blk_cell BK144.out 8).trans rfl; have hcz48_9 : w46.cell? ⟨gb144, 9, none⟩ = some (.string (⟨#[]⟩ : ByteArray)) := (blk_cell BK144.out 9).trans rfl; have hfz48_0 := blk_frozen BK144.out 0; have hfz48_1 := blk_frozen BK144.out 1; have hfz48_2 := blk_frozen BK144.out 2; have hfz48_3 := blk_frozen BK144.out 3; have hfz48_4 := blk_frozen BK144.out 4; have hfz48_5 := blk_frozen BK144.out 5; have hfz48_6 := blk_frozen BK144.out 6; have hfz48_7 := blk_frozen BK144.out 7; have hfz48_8 := blk_frozen BK144.out 8; have hfz48_9 := blk_frozen BK144.out 9; have hcz49_0 : w46.cell? ⟨gb132, 0, none⟩ = some (.string t121) := (blk_cell BK132.out 0).trans rfl; have hcz49_1 : w46.cell? ⟨gb132, 1, none⟩ = some (.int .i64 t122) := (blk_cell BK132.out 1).trans rfl; have hcz49_2 : w46.cell? ⟨gb132, 2, none⟩ = some (.int .u32 t123) := (blk_cell BK132.out 2).trans rfl; have hcz49_3 : w46.cell? ⟨gb132, 3, none⟩ = some (.int .u32 t124) := (blk_cell BK132.out 3).trans rfl; have hcz49_4 : w46.cell? ⟨gb132, 4, none⟩ = some (.int .u32 t125) := (blk_cell BK132.out 4).trans rfl; have hcz49_5 : w46.cell? ⟨gb132, 5, none⟩ = some (.int .i64 t126) := (blk_cell BK132.out 5).trans rfl; have hcz49_6 : w46.cell? ⟨gb132, 6, none⟩ = some (.int .i32 t127) := (blk_cell BK132.out 6).trans rfl; have hcz49_7 : w46.cell? ⟨gb132, 7, none⟩ = some (.int .i64 t128) := (blk_cell BK132.out 7).trans rfl; have hcz49_8 : w46.cell? ⟨gb132, 8, none⟩ = some (.int .u64 t129) := (blk_cell BK132.out 8).trans rfl; have hcz49_9 : w46.cell? ⟨gb132, 9, none⟩ = some (.string t130) := (blk_cell BK132.out 9).trans rfl; have hfz49_0 := blk_frozen BK132.out 0; have hfz49_1 := blk_frozen BK132.out 1; have hfz49_2 := blk_frozen BK132.out 2; have hfz49_3 := blk_frozen BK132.out 3; have hfz49_4 := blk_frozen BK132.out 4; have hfz49_5 := blk_frozen BK132.out 5; have hfz49_6 := blk_frozen BK132.out 6; have hfz49_7 := blk_frozen BK132.out 7; have hfz49_8 := blk_frozen BK132.out 8; have hfz49_9 := blk_frozen BK132.out 9))
        go_ret
        exact ⟨by first | rfl | (simp [errW_none, errW_some] <;> rfl) | (simp [*, errW_none, errW_some] <;> rfl), by repeat (first | (with_reducible first | exact HB.out | apply below_alloc | apply pw_below_drewN | apply below_drew1 | refine below_set ?_ GE132.out | refine below_set ?_ GE144.out) | exact HB.out)⟩
    · replace c7 := Bool.eq_false_iff.mpr c7
      subst c7
      have H1 : (some 2) = some r := by rw [if_neg (show ¬ (false = true) by decide)] at H; exact H
      clear H
      have H := H1
      clear H1
      obtain rfl := Option.some.inj H
      go_enter Try.func13, Try.ntmps13
      go_wp2_with (first | ((with_reducible refine gate_callee (f := 18) rfl ?_); refine goesL_ (some 15) rfl rfl Try.func18 (by kernel_rfl) rfl #[.slice A0 l0.length c0, .string a2] rfl (by (try simp only [List.map_toArray, List.map_cons, List.map_nil]); first | done | rfl | (simp only [List.length_drop, List.length_take]; rfl)) ?_; (with_reducible refine (satchelref24_last.calls k _ _ l0 a2 t121 t122 t123 t124 t125 t126 t127 t128 t129 t130 true _ ?side1 ?side2 A4.out).mono ?_); (case side1 => repeat (first | exact HR0.out | (with_reducible refine Kd.C_alloc ?_ _) | (with_reducible refine Kd.C_drewN ?_ _) | (with_reducible refine Kd.C_drew ?_))); (case side2 => exact HC0.out); rintro e w50 ⟨rfl, hb⟩; refine ⟨_, rfl, ?_⟩; have n0_ := Aside0.mk (below_step (by repeat (first | (with_reducible first | exact HB.out | apply below_alloc | apply pw_below_drewN | apply below_drew1) | exact HB.out)) hb); clear HB; have HB := n0_; clear n0_; (try clear hb); (try clear hb2); (try clear hk); (try clear hi)) | ((with_reducible refine gate_dst (N := 7) rfl ?_); refine box_event ?hg (N := 7) ?hd (cs := #[.string (⟨#[]⟩ : ByteArray), .int .i64 0, .int .u32 0, .int .u32 0, .int .u32 0, .int .i64 0, .int .i32 0, .int .i64 0, .int .u64 0, .string (⟨#[]⟩ : ByteArray)]) (t := 33) ?hr ?_; (case hd => rfl); (case hg => rfl); (case hr => first | (go_simp; done) | (go_simp; rfl)); intro gb132 hg w51 hbox hb; have n0_ := Aside0.mk (below_step (by repeat (first | (with_reducible first | exact HB.out | apply below_alloc | apply pw_below_drewN | apply below_drew1) | exact HB.out)) hb); have n1_ := Aside0.mk (hbox); have n2_ := Aside0.mk ((by rw [hg]; exact (below_size (by repeat (first | (with_reducible first | exact HB.out | apply below_alloc | apply pw_below_drewN | apply below_drew1) | exact HB.out))) : w.heap.size ≤ gb132)); have n3_ := Aside0.mk ((by rw [hg]; exact (below_size (by repeat (first | (with_reducible first | exact HB.out | apply below_alloc | apply pw_below_drewN | apply below_drew1) | exact HB.out))) : w.heap.size ≤ gb132)); clear HB; have HB := n0_; have BK132 := n1_; have GW132 := n2_; have GE132 := n3_; clear n0_ n1_ n2_ n3_; clear hb hbox hg; have hcz52_0 : w51.cell? ⟨gb132, 0, none⟩ = some (.string (⟨#[]⟩ : ByteArray)) := (blk_cell BK132.out 0).trans rfl; have hcz52_1 : w51.cell? ⟨gb132, 1, none⟩ = some (.int .i64 0) := (blk_cell BK132.out 1).trans rfl; have hcz52_2 : w51.cell? ⟨gb132, 2, none⟩ = some (.int .u32 0) := (blk_cell BK132.out 2).trans rfl; have hcz52_3 : w51.cell? ⟨gb132, 3, none⟩ = some (.int .u32 0) := (blk_cell BK132.out 3).trans rfl; have hcz52_4 : w51.cell? ⟨gb132, 4, none⟩ = some (.int .u32 0) := (blk_cell BK132.out 4).trans rfl; have hcz52_5 : w51.cell? ⟨gb132, 5, none⟩ = some (.int .i64 0) := (blk_cell BK132.out 5).trans rfl; have hcz52_6 : w51.cell? ⟨gb132, 6, none⟩ = some (.int .i32 0) := (blk_cell BK132.out 6).trans rfl; have hcz52_7 : w51.cell? ⟨gb132, 7, none⟩ = some (.int .i64 0) := (blk_cell BK132.out 7).trans rfl; have hcz52_8 : w51.cell? ⟨gb132, 8, none⟩ = some (.int .u64 0) := (blk_cell BK132.out 8).trans rfl; have hcz52_9 : w51.cell? ⟨gb132, 9, none⟩ = some (.string (⟨#[]⟩ : ByteArray)) := (blk_cell BK132.out 9).trans rfl; have hfz52_0 := blk_frozen BK132.out 0; have hfz52_1 := blk_frozen BK132.out 1; have hfz52_2 := blk_frozen BK132.out 2; have hfz52_3 := blk_frozen BK132.out 3; have hfz52_4 := blk_frozen BK132.out 4; have hfz52_5 := blk_frozen BK132.out 5; have hfz52_6 := blk_frozen BK132.out 6; have hfz52_7 := blk_frozen BK132.out 7; have hfz52_8 := blk_frozen BK132.out 8; have hfz52_9 := blk_frozen BK132.out 9) | ((with_reducible refine gate_callee (f := 18) rfl ?_); refine goesL_ (some 21) rfl rfl Try.func18 (by kernel_rfl) rfl #[.slice A1 l1.length c1, .string a2] rfl (by (try simp only [List.map_toArray, List.map_cons, List.map_nil]); first | done | rfl | (simp only [List.length_drop, List.length_take]; rfl)) ?_; (with_reducible refine (satchelref24_last.calls k _ _ l1 a2 t133 t134 t135 t136 t137 t138 t139 t140 t141 t142 false _ ?side1 ?side2 A5.out).mono ?_); (case side1 => exact Kd.C_below HR1.out (by repeat (first | (with_reducible first | exact HB.out | apply below_alloc | apply pw_below_drewN | apply below_drew1 | refine below_set ?_ GE132.out) | exact HB.out))); (case side2 => exact HC1.out); rintro e w53 ⟨rfl, hb⟩; refine ⟨_, rfl, ?_⟩; have n0_ := Aside0.mk (blk_below (g := gb132) (o := .cells #[.string t121, .int .i64 t122, .int .u32 t123, .int .u32 t124, .int .u32 t125, .int .i64 t126, .int .i32 t127, .int .i64 t128, .int .u64 t129, .string t130] 33 (0, 0)) (by (with_reducible repeat (first | refine blk_drewN ?_ _ | refine blk_drew ?_ | refine blk_alloc ?_ _)); refine blk_put (cs := #[.string t121, .int .i64 t122, .int .u32 t123, .int .u32 t124, .int .u32 t125, .int .i64 t126, .int .i32 t127, .int .i64 t128, .int .u64 t129, .string (⟨#[]⟩ : ByteArray)]) ?_ 9 _ rfl; (with_reducible repeat (first | refine blk_drewN ?_ _ | refine blk_drew ?_ | refine blk_alloc ?_ _)); refine blk_put (cs := #[.string t121, .int .i64 t122, .int .u32 t123, .int .u32 t124, .int .u32 t125, .int .i64 t126, .int .i32 t127, .int .i64 t128, .int .u64 0, .string (⟨#[]⟩ : ByteArray)]) ?_ 8 _ rfl; (with_reducible repeat (first | refine blk_drewN ?_ _ | refine blk_drew ?_ | refine blk_alloc ?_ _)); refine blk_put (cs := #[.string t121, .int .i64 t122, .int .u32 t123, .int .u32 t124, .int .u32 t125, .int .i64 t126, .int .i32 t127, .int .i64 0, .int .u64 0, .string (⟨#[]⟩ : ByteArray)]) ?_ 7 _ rfl; (with_reducible repeat (first | refine blk_drewN ?_ _ | refine blk_drew ?_ | refine blk_alloc ?_ _)); refine blk_put (cs := #[.string t121, .int .i64 t122, .int .u32 t123, .int .u32 t124, .int .u32 t125, .int .i64 t126, .int .i32 0, .int .i64 0, .int .u64 0, .string (⟨#[]⟩ : ByteArray)]) ?_ 6 _ rfl; (with_reducible repeat (first | refine blk_drewN ?_ _ | refine blk_drew ?_ | refine blk_alloc ?_ _)); refine blk_put (cs := #[.string t121, .int .i64 t122, .int .u32 t123, .int .u32 t124, .int .u32 t125, .int .i64 0, .int .i32 0, .int .i64 0, .int .u64 0, .string (⟨#[]⟩ : ByteArray)]) ?_ 5 _ rfl; (with_reducible repeat (first | refine blk_drewN ?_ _ | refine blk_drew ?_ | refine blk_alloc ?_ _)); refine blk_put (cs := #[.string t121, .int .i64 t122, .int .u32 t123, .int .u32 t124, .int .u32 0, .int .i64 0, .int .i32 0, .int .i64 0, .int .u64 0, .string (⟨#[]⟩ : ByteArray)]) ?_ 4 _ rfl; (with_reducible repeat (first | refine blk_drewN ?_ _ | refine blk_drew ?_ | refine blk_alloc ?_ _)); refine blk_put (cs := #[.string t121, .int .i64 t122, .int .u32 t123, .int .u32 0, .int .u32 0, .int .i64 0, .int .i32 0, .int .i64 0, .int .u64 0, .string (⟨#[]⟩ : ByteArray)]) ?_ 3 _ rfl; (with_reducible repeat (first | refine blk_drewN ?_ _ | refine blk_drew ?_ | refine blk_alloc ?_ _)); refine blk_put (cs := #[.string t121, .int .i64 t122, .int .u32 0, .int .u32 0, .int .u32 0, .int .i64 0, .int .i32 0, .int .i64 0, .int .u64 0, .string (⟨#[]⟩ : ByteArray)]) ?_ 2 _ rfl; (with_reducible repeat (first | refine blk_drewN ?_ _ | refine blk_drew ?_ | refine blk_alloc ?_ _)); refine blk_put (cs := #[.string t121, .int .i64 0, .int .u32 0, .int .u32 0, .int .u32 0, .int .i64 0, .int .i32 0, .int .i64 0, .int .u64 0, .string (⟨#[]⟩ : ByteArray)]) ?_ 1 _ rfl; (with_reducible repeat (first | refine blk_drewN ?_ _ | refine blk_drew ?_ | refine blk_alloc ?_ _)); refine blk_put (cs := #[.string (⟨#[]⟩ : ByteArray), .int .i64 0, .int .u32 0, .int .u32 0, .int .u32 0, .int .i64 0, .int .i32 0, .int .i64 0, .int .u64 0, .string (⟨#[]⟩ : ByteArray)]) ?_ 0 _ rfl; (with_reducible repeat (first | refine blk_drewN ?_ _ | refine blk_drew ?_ | refine blk_alloc ?_ _)); exact BK132.out) hb); have n1_ := Aside0.mk (below_step (by repeat (first | (with_reducible first | exact HB.out | apply below_alloc | apply pw_below_drewN | apply below_drew1 | refine below_set ?_ GE132.out) | exact HB.out)) hb); clear BK132; clear HB; have BK132 := n0_; have HB := n1_; clear n0_ n1_; (try clear hb); (try clear hb2); (try clear hk); (try clear hi)) | ((with_reducible refine gate_dst (N := 9) rfl ?_); refine box_event ?hg (N := 9) ?hd (cs := #[.string (⟨#[]⟩ : ByteArray), .int .i64 0, .int .u32 0, .int .u32 0, .int .u32 0, .int .i64 0, .int .i32 0, .int .i64 0, .int .u64 0, .string (⟨#[]⟩ : ByteArray)]) (t := 33) ?hr ?_; (case hd => rfl); (case hg => rfl); (case hr => first | (go_simp; done) | (go_simp; rfl)); intro gb144 hg w54 hbox hb; have n0_ := Aside0.mk (blk_below (g := gb132) (o := .cells #[.string t121, .int .i64 t122, .int .u32 t123, .int .u32 t124, .int .u32 t125, .int .i64 t126, .int .i32 t127, .int .i64 t128, .int .u64 t129, .string t130] 33 (0, 0)) (by (with_reducible repeat (first | refine blk_drewN ?_ _ | refine blk_drew ?_ | refine blk_alloc ?_ _)); exact BK132.out) hb); have n1_ := Aside0.mk (below_step (by repeat (first | (with_reducible first | exact HB.out | apply below_alloc | apply pw_below_drewN | apply below_drew1 | refine below_set ?_ GE132.out) | exact HB.out)) hb); have n2_ := Aside0.mk (hbox); have n3_ := Aside0.mk ((by rw [hg]; exact (below_size (by repeat (first | (with_reducible first | exact HB.out | apply below_alloc | apply pw_below_drewN | apply below_drew1 | refine below_set ?_ GE132.out) | exact HB.out))) : w.heap.size ≤ gb144)); have n4_ := Aside0.mk ((by rw [hg]; exact (below_size (by repeat (first | (with_reducible first | exact HB.out | apply below_alloc | apply pw_below_drewN | apply below_drew1 | refine below_set ?_ GE132.out) | exact HB.out))) : w.heap.size ≤ gb144)); have n5_ := Aside0.mk ((by rw [hg]; exact Nat.ne_of_lt (blk_lt (g := gb132) (o := .cells #[.string t121, .int .i64 t122, .int .u32 t123, .int .u32 t124, .int .u32 t125, .int .i64 t126, .int .i32 t127, .int .i64 t128, .int .u64 t129, .string t130] 33 (0, 0)) (by (with_reducible repeat (first | refine blk_drewN ?_ _ | refine blk_drew ?_ | refine blk_alloc ?_ _)); exact BK132.out)) : gb132 ≠ gb144)); have n6_ := Aside0.mk ((by rw [hg]; exact Nat.ne_of_gt (blk_lt (g := gb132) (o := .cells #[.string t121, .int .i64 t122, .int .u32 t123, .int .u32 t124, .int .u32 t125, .int .i64 t126, .int .i32 t127, .int .i64 t128, .int .u64 t129, .string t130] 33 (0, 0)) (by (with_reducible repeat (first | refine blk_drewN ?_ _ | refine blk_drew ?_ | refine blk_alloc ?_ _)); exact BK132.out)) : gb144 ≠ gb132)); clear BK132; clear HB; have BK132 := n0_; have HB := n1_; have BK144 := n2_; have GW144 := n3_; have GE144 := n4_; have NB132_144 := n5_; have NB144_132 := n6_; clear n0_ n1_ n2_ n3_ n4_ n5_ n6_; clear hb hbox hg; have hnb55 := NB144_132.out; have hnc55 := NB132_144.out; have hcz56_0 : w54.cell? ⟨gb144, 0, none⟩ = some (.string (⟨#[]⟩ : ByteArray)) := (blk_cell BK144.out 0).trans rfl; have hcz56_1 : w54.cell? ⟨gb144, 1, none⟩ = some (.int .i64 0) := (blk_cell BK144.out 1).trans rfl; have hcz56_2 : w54.cell? ⟨gb144, 2, none⟩ = some (.int .u32 0) := (blk_cell BK144.out 2).trans rfl; have hcz56_3 : w54.cell? ⟨gb144, 3, none⟩ = some (.int .u32 0) := (blk_cell BK144.out 3).trans rfl; have hcz56_4 : w54.cell? ⟨gb144, 4, none⟩ = some (.int .u32 0) := (blk_cell BK144.out 4).trans rfl; have hcz56_5 : w54.cell? ⟨gb144, 5, none⟩ = some (.int .i64 0) := (blk_cell BK144.out 5).trans rfl; have hcz56_6 : w54.cell? ⟨gb144, 6, none⟩ = some (.int .i32 0) := (blk_cell BK144.out 6).trans rfl; have hcz56_7 : w54.cell? ⟨gb144, 7, none⟩ = some (.int .i64 0) := (blk_cell BK144.out 7).trans rfl; have hcz56_8 : w54.cell? ⟨gb144, 8, none⟩ = some (.int .u64 0) := (blk_cell BK144.out 8).trans rfl; have hcz56_9 : w54.cell? ⟨gb144, 9, none⟩ = some (.string (⟨#[]⟩ : ByteArray)) := (blk_cell BK144.out 9).trans rfl; have hfz56_0 := blk_frozen BK144.out 0; have hfz56_1 := blk_frozen BK144.out 1; have hfz56_2 := blk_frozen BK144.out 2; have hfz56_3 := blk_frozen BK144.out 3; have hfz56_4 := blk_frozen BK144.out 4; have hfz56_5 := blk_frozen BK144.out 5; have hfz56_6 := blk_frozen BK144.out 6; have hfz56_7 := blk_frozen BK144.out 7; have hfz56_8 := blk_frozen BK144.out 8; have hfz56_9 := blk_frozen BK144.out 9))
      go_ret
      exact ⟨by first | rfl | (simp [errW_none, errW_some] <;> rfl) | (simp [*, errW_none, errW_some] <;> rfl), by repeat (first | (with_reducible first | exact HB.out | apply below_alloc | apply pw_below_drewN | apply below_drew1 | refine below_set ?_ GE132.out | refine below_set ?_ GE144.out) | exact HB.out)⟩
  · replace c6 := Bool.eq_false_iff.mpr c6
    subst c6
    have H1 : (some 1) = some r := by rw [if_neg (show ¬ (false = true) by decide)] at H; exact H
    clear H
    have H := H1
    clear H1
    obtain rfl := Option.some.inj H
    go_enter Try.func13, Try.ntmps13
    go_wp2_with (first | ((with_reducible refine gate_callee (f := 18) rfl ?_); refine goesL_ (some 15) rfl rfl Try.func18 (by kernel_rfl) rfl #[.slice A0 l0.length c0, .string a2] rfl (by (try simp only [List.map_toArray, List.map_cons, List.map_nil]); first | done | rfl | (simp only [List.length_drop, List.length_take]; rfl)) ?_; (with_reducible refine (satchelref24_last.calls k _ _ l0 a2 t121 t122 t123 t124 t125 t126 t127 t128 t129 t130 false _ ?side1 ?side2 A4.out).mono ?_); (case side1 => repeat (first | exact HR0.out | (with_reducible refine Kd.C_alloc ?_ _) | (with_reducible refine Kd.C_drewN ?_ _) | (with_reducible refine Kd.C_drew ?_))); (case side2 => exact HC0.out); rintro e w57 ⟨rfl, hb⟩; refine ⟨_, rfl, ?_⟩; have n0_ := Aside0.mk (below_step (by repeat (first | (with_reducible first | exact HB.out | apply below_alloc | apply pw_below_drewN | apply below_drew1) | exact HB.out)) hb); clear HB; have HB := n0_; clear n0_; (try clear hb); (try clear hb2); (try clear hk); (try clear hi)) | ((with_reducible refine gate_dst (N := 7) rfl ?_); refine box_event ?hg (N := 7) ?hd (cs := #[.string (⟨#[]⟩ : ByteArray), .int .i64 0, .int .u32 0, .int .u32 0, .int .u32 0, .int .i64 0, .int .i32 0, .int .i64 0, .int .u64 0, .string (⟨#[]⟩ : ByteArray)]) (t := 33) ?hr ?_; (case hd => rfl); (case hg => rfl); (case hr => first | (go_simp; done) | (go_simp; rfl)); intro gb132 hg w58 hbox hb; have n0_ := Aside0.mk (below_step (by repeat (first | (with_reducible first | exact HB.out | apply below_alloc | apply pw_below_drewN | apply below_drew1) | exact HB.out)) hb); have n1_ := Aside0.mk (hbox); have n2_ := Aside0.mk ((by rw [hg]; exact (below_size (by repeat (first | (with_reducible first | exact HB.out | apply below_alloc | apply pw_below_drewN | apply below_drew1) | exact HB.out))) : w.heap.size ≤ gb132)); have n3_ := Aside0.mk ((by rw [hg]; exact (below_size (by repeat (first | (with_reducible first | exact HB.out | apply below_alloc | apply pw_below_drewN | apply below_drew1) | exact HB.out))) : w.heap.size ≤ gb132)); clear HB; have HB := n0_; have BK132 := n1_; have GW132 := n2_; have GE132 := n3_; clear n0_ n1_ n2_ n3_; clear hb hbox hg; have hcz59_0 : w58.cell? ⟨gb132, 0, none⟩ = some (.string (⟨#[]⟩ : ByteArray)) := (blk_cell BK132.out 0).trans rfl; have hcz59_1 : w58.cell? ⟨gb132, 1, none⟩ = some (.int .i64 0) := (blk_cell BK132.out 1).trans rfl; have hcz59_2 : w58.cell? ⟨gb132, 2, none⟩ = some (.int .u32 0) := (blk_cell BK132.out 2).trans rfl; have hcz59_3 : w58.cell? ⟨gb132, 3, none⟩ = some (.int .u32 0) := (blk_cell BK132.out 3).trans rfl; have hcz59_4 : w58.cell? ⟨gb132, 4, none⟩ = some (.int .u32 0) := (blk_cell BK132.out 4).trans rfl; have hcz59_5 : w58.cell? ⟨gb132, 5, none⟩ = some (.int .i64 0) := (blk_cell BK132.out 5).trans rfl; have hcz59_6 : w58.cell? ⟨gb132, 6, none⟩ = some (.int .i32 0) := (blk_cell BK132.out 6).trans rfl; have hcz59_7 : w58.cell? ⟨gb132, 7, none⟩ = some (.int .i64 0) := (blk_cell BK132.out 7).trans rfl; have hcz59_8 : w58.cell? ⟨gb132, 8, none⟩ = some (.int .u64 0) := (blk_cell BK132.out 8).trans rfl; have hcz59_9 : w58.cell? ⟨gb132, 9, none⟩ = some (.string (⟨#[]⟩ : ByteArray)) := (blk_cell BK132.out 9).trans rfl; have hfz59_0 := blk_frozen BK132.out 0; have hfz59_1 := blk_frozen BK132.out 1; have hfz59_2 := blk_frozen BK132.out 2; have hfz59_3 := blk_frozen BK132.out 3; have hfz59_4 := blk_frozen BK132.out 4; have hfz59_5 := blk_frozen BK132.out 5; have hfz59_6 := blk_frozen BK132.out 6; have hfz59_7 := blk_frozen BK132.out 7; have hfz59_8 := blk_frozen BK132.out 8; have hfz59_9 := blk_frozen BK132.out 9) | ((with_reducible refine gate_callee (f := 18) rfl ?_); refine goesL_ (some 21) rfl rfl Try.func18 (by kernel_rfl) rfl #[.slice A1 l1.length c1, .string a2] rfl (by (try simp only [List.map_toArray, List.map_cons, List.map_nil]); first | done | rfl | (simp only [List.length_drop, List.length_take]; rfl)) ?_; (with_reducible refine (satchelref24_last.calls k _ _ l1 a2 t133 t134 t135 t136 t137 t138 t139 t140 t141 t142 t143 _ ?side1 ?side2 A5.out).mono ?_); (case side1 => exact Kd.C_below HR1.out (by repeat (first | (with_reducible first | exact HB.out | apply below_alloc | apply pw_below_drewN | apply below_drew1 | refine below_set ?_ GE132.out) | exact HB.out))); (case side2 => exact HC1.out); rintro e w60 ⟨rfl, hb⟩; refine ⟨_, rfl, ?_⟩; have n0_ := Aside0.mk (blk_below (g := gb132) (o := .cells #[.string t121, .int .i64 t122, .int .u32 t123, .int .u32 t124, .int .u32 t125, .int .i64 t126, .int .i32 t127, .int .i64 t128, .int .u64 t129, .string t130] 33 (0, 0)) (by (with_reducible repeat (first | refine blk_drewN ?_ _ | refine blk_drew ?_ | refine blk_alloc ?_ _)); refine blk_put (cs := #[.string t121, .int .i64 t122, .int .u32 t123, .int .u32 t124, .int .u32 t125, .int .i64 t126, .int .i32 t127, .int .i64 t128, .int .u64 t129, .string (⟨#[]⟩ : ByteArray)]) ?_ 9 _ rfl; (with_reducible repeat (first | refine blk_drewN ?_ _ | refine blk_drew ?_ | refine blk_alloc ?_ _)); refine blk_put (cs := #[.string t121, .int .i64 t122, .int .u32 t123, .int .u32 t124, .int .u32 t125, .int .i64 t126, .int .i32 t127, .int .i64 t128, .int .u64 0, .string (⟨#[]⟩ : ByteArray)]) ?_ 8 _ rfl; (with_reducible repeat (first | refine blk_drewN ?_ _ | refine blk_drew ?_ | refine blk_alloc ?_ _)); refine blk_put (cs := #[.string t121, .int .i64 t122, .int .u32 t123, .int .u32 t124, .int .u32 t125, .int .i64 t126, .int .i32 t127, .int .i64 0, .int .u64 0, .string (⟨#[]⟩ : ByteArray)]) ?_ 7 _ rfl; (with_reducible repeat (first | refine blk_drewN ?_ _ | refine blk_drew ?_ | refine blk_alloc ?_ _)); refine blk_put (cs := #[.string t121, .int .i64 t122, .int .u32 t123, .int .u32 t124, .int .u32 t125, .int .i64 t126, .int .i32 0, .int .i64 0, .int .u64 0, .string (⟨#[]⟩ : ByteArray)]) ?_ 6 _ rfl; (with_reducible repeat (first | refine blk_drewN ?_ _ | refine blk_drew ?_ | refine blk_alloc ?_ _)); refine blk_put (cs := #[.string t121, .int .i64 t122, .int .u32 t123, .int .u32 t124, .int .u32 t125, .int .i64 0, .int .i32 0, .int .i64 0, .int .u64 0, .string (⟨#[]⟩ : ByteArray)]) ?_ 5 _ rfl; (with_reducible repeat (first | refine blk_drewN ?_ _ | refine blk_drew ?_ | refine blk_alloc ?_ _)); refine blk_put (cs := #[.string t121, .int .i64 t122, .int .u32 t123, .int .u32 t124, .int .u32 0, .int .i64 0, .int .i32 0, .int .i64 0, .int .u64 0, .string (⟨#[]⟩ : ByteArray)]) ?_ 4 _ rfl; (with_reducible repeat (first | refine blk_drewN ?_ _ | refine blk_drew ?_ | refine blk_alloc ?_ _)); refine blk_put (cs := #[.string t121, .int .i64 t122, .int .u32 t123, .int .u32 0, .int .u32 0, .int .i64 0, .int .i32 0, .int .i64 0, .int .u64 0, .string (⟨#[]⟩ : ByteArray)]) ?_ 3 _ rfl; (with_reducible repeat (first | refine blk_drewN ?_ _ | refine blk_drew ?_ | refine blk_alloc ?_ _)); refine blk_put (cs := #[.string t121, .int .i64 t122, .int .u32 0, .int .u32 0, .int .u32 0, .int .i64 0, .int .i32 0, .int .i64 0, .int .u64 0, .string (⟨#[]⟩ : ByteArray)]) ?_ 2 _ rfl; (with_reducible repeat (first | refine blk_drewN ?_ _ | refine blk_drew ?_ | refine blk_alloc ?_ _)); refine blk_put (cs := #[.string t121, .int .i64 0, .int .u32 0, .int .u32 0, .int .u32 0, .int .i64 0, .int .i32 0, .int .i64 0, .int .u64 0, .string (⟨#[]⟩ : ByteArray)]) ?_ 1 _ rfl; (with_reducible repeat (first | refine blk_drewN ?_ _ | refine blk_drew ?_ | refine blk_alloc ?_ _)); refine blk_put (cs := #[.string (⟨#[]⟩ : ByteArray), .int .i64 0, .int .u32 0, .int .u32 0, .int .u32 0, .int .i64 0, .int .i32 0, .int .i64 0, .int .u64 0, .string (⟨#[]⟩ : ByteArray)]) ?_ 0 _ rfl; (with_reducible repeat (first | refine blk_drewN ?_ _ | refine blk_drew ?_ | refine blk_alloc ?_ _)); exact BK132.out) hb); have n1_ := Aside0.mk (below_step (by repeat (first | (with_reducible first | exact HB.out | apply below_alloc | apply pw_below_drewN | apply below_drew1 | refine below_set ?_ GE132.out) | exact HB.out)) hb); clear BK132; clear HB; have BK132 := n0_; have HB := n1_; clear n0_ n1_; (try clear hb); (try clear hb2); (try clear hk); (try clear hi)) | ((with_reducible refine gate_dst (N := 9) rfl ?_); refine box_event ?hg (N := 9) ?hd (cs := #[.string (⟨#[]⟩ : ByteArray), .int .i64 0, .int .u32 0, .int .u32 0, .int .u32 0, .int .i64 0, .int .i32 0, .int .i64 0, .int .u64 0, .string (⟨#[]⟩ : ByteArray)]) (t := 33) ?hr ?_; (case hd => rfl); (case hg => rfl); (case hr => first | (go_simp; done) | (go_simp; rfl)); intro gb144 hg w61 hbox hb; have n0_ := Aside0.mk (blk_below (g := gb132) (o := .cells #[.string t121, .int .i64 t122, .int .u32 t123, .int .u32 t124, .int .u32 t125, .int .i64 t126, .int .i32 t127, .int .i64 t128, .int .u64 t129, .string t130] 33 (0, 0)) (by (with_reducible repeat (first | refine blk_drewN ?_ _ | refine blk_drew ?_ | refine blk_alloc ?_ _)); exact BK132.out) hb); have n1_ := Aside0.mk (below_step (by repeat (first | (with_reducible first | exact HB.out | apply below_alloc | apply pw_below_drewN | apply below_drew1 | refine below_set ?_ GE132.out) | exact HB.out)) hb); have n2_ := Aside0.mk (hbox); have n3_ := Aside0.mk ((by rw [hg]; exact (below_size (by repeat (first | (with_reducible first | exact HB.out | apply below_alloc | apply pw_below_drewN | apply below_drew1 | refine below_set ?_ GE132.out) | exact HB.out))) : w.heap.size ≤ gb144)); have n4_ := Aside0.mk ((by rw [hg]; exact (below_size (by repeat (first | (with_reducible first | exact HB.out | apply below_alloc | apply pw_below_drewN | apply below_drew1 | refine below_set ?_ GE132.out) | exact HB.out))) : w.heap.size ≤ gb144)); have n5_ := Aside0.mk ((by rw [hg]; exact Nat.ne_of_lt (blk_lt (g := gb132) (o := .cells #[.string t121, .int .i64 t122, .int .u32 t123, .int .u32 t124, .int .u32 t125, .int .i64 t126, .int .i32 t127, .int .i64 t128, .int .u64 t129, .string t130] 33 (0, 0)) (by (with_reducible repeat (first | refine blk_drewN ?_ _ | refine blk_drew ?_ | refine blk_alloc ?_ _)); exact BK132.out)) : gb132 ≠ gb144)); have n6_ := Aside0.mk ((by rw [hg]; exact Nat.ne_of_gt (blk_lt (g := gb132) (o := .cells #[.string t121, .int .i64 t122, .int .u32 t123, .int .u32 t124, .int .u32 t125, .int .i64 t126, .int .i32 t127, .int .i64 t128, .int .u64 t129, .string t130] 33 (0, 0)) (by (with_reducible repeat (first | refine blk_drewN ?_ _ | refine blk_drew ?_ | refine blk_alloc ?_ _)); exact BK132.out)) : gb144 ≠ gb132)); clear BK132; clear HB; have BK132 := n0_; have HB := n1_; have BK144 := n2_; have GW144 := n3_; have GE144 := n4_; have NB132_144 := n5_; have NB144_132 := n6_; clear n0_ n1_ n2_ n3_ n4_ n5_ n6_; clear hb hbox hg; have hnb62 := NB144_132.out; have hnc62 := NB132_144.out; have hcz63_0 : w61.cell? ⟨gb144, 0, none⟩ = some (.string (⟨#[]⟩ : ByteArray)) := (blk_cell BK144.out 0).trans rfl; have hcz63_1 : w61.cell? ⟨gb144, 1, none⟩ = some (.int .i64 0) := (blk_cell BK144.out 1).trans rfl; have hcz63_2 : w61.cell? ⟨gb144, 2, none⟩ = some (.int .u32 0) := (blk_cell BK144.out 2).trans rfl; have hcz63_3 : w61.cell? ⟨gb144, 3, none⟩ = some (.int .u32 0) := (blk_cell BK144.out 3).trans rfl; have hcz63_4 : w61.cell? ⟨gb144, 4, none⟩ = some (.int .u32 0) := (blk_cell BK144.out 4).trans rfl; have hcz63_5 : w61.cell? ⟨gb144, 5, none⟩ = some (.int .i64 0) := (blk_cell BK144.out 5).trans rfl; have hcz63_6 : w61.cell? ⟨gb144, 6, none⟩ = some (.int .i32 0) := (blk_cell BK144.out 6).trans rfl; have hcz63_7 : w61.cell? ⟨gb144, 7, none⟩ = some (.int .i64 0) := (blk_cell BK144.out 7).trans rfl; have hcz63_8 : w61.cell? ⟨gb144, 8, none⟩ = some (.int .u64 0) := (blk_cell BK144.out 8).trans rfl; have hcz63_9 : w61.cell? ⟨gb144, 9, none⟩ = some (.string (⟨#[]⟩ : ByteArray)) := (blk_cell BK144.out 9).trans rfl; have hfz63_0 := blk_frozen BK144.out 0; have hfz63_1 := blk_frozen BK144.out 1; have hfz63_2 := blk_frozen BK144.out 2; have hfz63_3 := blk_frozen BK144.out 3; have hfz63_4 := blk_frozen BK144.out 4; have hfz63_5 := blk_frozen BK144.out 5; have hfz63_6 := blk_frozen BK144.out 6; have hfz63_7 := blk_frozen BK144.out 7; have hfz63_8 := blk_frozen BK144.out 8; have hfz63_9 := blk_frozen BK144.out 9))
    go_ret
    exact ⟨by first | rfl | (simp [errW_none, errW_some] <;> rfl) | (simp [*, errW_none, errW_some] <;> rfl), by repeat (first | (with_reducible first | exact HB.out | apply below_alloc | apply pw_below_drewN | apply below_drew1 | refine below_set ?_ GE132.out | refine below_set ?_ GE144.out) | exact HB.out)⟩

end Go.Proofs.Ytncnnbabokkafaa.PCompareChanges
