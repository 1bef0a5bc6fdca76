-- WRITTEN BY wip/xprint.py, a program of the proving session round the kit's print.py; Lean checks it.
import Derived.Test.YtbebdhaceifmoaaDoorPApplyChecksx0
import Derived.Test.YtbebdhaceifmoaaDoorPApplyChecksx14
import Derived.Test.YtbebdhaceifmoaaDoorPApplyChecksx15
import Derived.Test.YtbebdhaceifmoaaDoorPApplyChecksx16
import Derived.Test.YtbebdhaceifmoaaDoorPApplyChecksx17
import Derived.Test.YtbebdhaceifmoaaDoorPApplyChecksx18
namespace Go.Proofs.YtbebdhaceifmoaaDoor.PApplyChecks
open Go.Proofs.YtbebdhaceifmoaaDoorX
open Go.RowKit Go.Proofs.YtbebdhaceifmoaaDoorW.PrintWords Go.Proofs.YtbebdhaceifmoaaDoorW.PrintLast Go.Proofs.YtbebdhaceifmoaaDoorW.PrintMore
attribute [local go_sem] max2_int min2_int max_two min_two max_three min_three max_four min_four   -- for this text's walks alone
set_option linter.unusedVariables false
set_option linter.unusedSimpArgs false

/-! ### satchelref19_Check: function 6 -/
mutual
def satchelref19_Check.j0 : Nat → List Int → Bool → ByteArray → Int → Int → Int → Int → Int → Int → ByteArray → ByteArray → ByteArray → Int → Int → Int → Bool → Int → Bool → Option (Int)
  | 0, _, _, _, _, _, _, _, _, _, _, _, _, _, _, _, _, _, _ => none
  | k + 1, x1, x16, x182000, x182001, x182002, x182003, x182004, x182005, x182006, x182007, x182008, x182009, x182010, x182011, x183000, x183001, x183002, x183003 => if x16 = true then (some 1) else ((satchelref09_Split.f k x182000).bind fun bt183 => (if bt183.2 = 0 then (if x182001 < 1 then (satchelref19_Check.j1 k x1 bt183.1 true x182000 x182001 x182002 x182003 x182004 x182005 x182006 x182007 x182008 x182009 x182010 x182011 x183000 x183001 x183002 x183003) else (satchelref19_Check.j1 k x1 bt183.1 (decide (x182001 > 4)) x182000 x182001 x182002 x182003 x182004 x182005 x182006 x182007 x182008 x182009 x182010 x182011 x183000 x183001 x183002 x183003)) else (some bt183.2)))
def satchelref19_Check.j1 : Nat → List Int → List ByteArray → Bool → ByteArray → Int → Int → Int → Int → Int → Int → ByteArray → ByteArray → ByteArray → Int → Int → Int → Bool → Int → Bool → Option (Int)
  | 0, _, _, _, _, _, _, _, _, _, _, _, _, _, _, _, _, _, _, _ => none
  | k + 1, x1, x7, x33, x182000, x182001, x182002, x182003, x182004, x182005, x182006, x182007, x182008, x182009, x182010, x182011, x183000, x183001, x183002, x183003 => if x33 = true then (some 193) else ((satchelref19_Meta.f x182000 x182001 x182002 x182003 x182004 x182005 x182006 x182007 x182008 x182009 x182010 x182011 x183000 x183001 x183002 x183003).bind fun bt187 => ((satchelref10_Meta.f bt187.1 bt187.2.1 bt187.2.2.1 bt187.2.2.2.1 bt187.2.2.2.2).bind fun t192 => (if t192 = true then (if x182001 = 2 then (satchelref19_Check.j2 k x7 (x182010 != (x1.length : Int)) x182000 x182001 x182002 x182003 x182004 x182005 x182006 x182007 x182008 x182009 x182010 x182011 x183000 x183001 x183002 x183003) else (satchelref19_Check.j2 k x7 false x182000 x182001 x182002 x182003 x182004 x182005 x182006 x182007 x182008 x182009 x182010 x182011 x183000 x183001 x183002 x183003)) else (some 1))))
def satchelref19_Check.j2 : Nat → List ByteArray → Bool → ByteArray → Int → Int → Int → Int → Int → Int → ByteArray → ByteArray → ByteArray → Int → Int → Int → Bool → Int → Bool → Option (Int)
  | 0, _, _, _, _, _, _, _, _, _, _, _, _, _, _, _, _, _, _ => none
  | k + 1, x7, x48, x182000, x182001, x182002, x182003, x182004, x182005, x182006, x182007, x182008, x182009, x182010, x182011, x183000, x183001, x183002, x183003 => if x48 = true then (some 192) else (if x182001 = 3 then ((satchelref10_Target.f k x182009).bind fun t193 => (if t193 = true then (if x183003 = true then (satchelref19_Check.j3 k false x182000 x182001 x182002 x182003 x182004 x182005 x182006 x182007 x182008 x182009 x182010 x182011) else (if 0 ≤ (wrap64 ((x7.length : Int) - 1)) then (if (wrap64 ((x7.length : Int) - 1)) ≤ (x7.length : Int) then ((satchelref09_Leaves.f k (x7.take ((wrap64 ((x7.length : Int) - 1)) : Int).toNat) x182009).bind fun t198 => (satchelref19_Check.j3 k t198 x182000 x182001 x182002 x182003 x182004 x182005 x182006 x182007 x182008 x182009 x182010 x182011)) else (none)) else (none))) else (some 107))) else (if x182001 = 4 then ((satchelref09_Split.f k x182009).bind fun bt203 => (some bt203.2)) else (some 0)))
def satchelref19_Check.j3 : Nat → Bool → ByteArray → Int → Int → Int → Int → Int → Int → ByteArray → ByteArray → ByteArray → Int → Int → Option (Int)
  | 0, _, _, _, _, _, _, _, _, _, _, _, _, _ => none
  | k + 1, x68, x182000, x182001, x182002, x182003, x182004, x182005, x182006, x182007, x182008, x182009, x182010, x182011 => if x68 = true then (some 190) else (if x182001 = 4 then ((satchelref09_Split.f k x182009).bind fun bt199 => (some bt199.2)) else (some 0))
end
def satchelref19_Check.f (k : Nat) (a0_0 : ByteArray) (a0_1 : Int) (a0_2 : Int) (a0_3 : Int) (a0_4 : Int) (a0_5 : Int) (a0_6 : Int) (a0_7 : ByteArray) (a0_8 : ByteArray) (a0_9 : ByteArray) (a0_10 : Int) (a0_11 : Int) (l1 : List Int) (a2_0 : Int) (a2_1 : Bool) (a2_2 : Int) (a2_3 : Bool) : Option (Int) := if a2_0 < 0 then (satchelref19_Check.j0 k l1 true a0_0 a0_1 a0_2 a0_3 a0_4 a0_5 a0_6 a0_7 a0_8 a0_9 a0_10 a0_11 a2_0 a2_1 a2_2 a2_3) else (satchelref19_Check.j0 k l1 (decide (a2_0 > 2)) a0_0 a0_1 a0_2 a0_3 a0_4 a0_5 a0_6 a0_7 a0_8 a0_9 a0_10 a0_11 a2_0 a2_1 a2_2 a2_3)
theorem satchelref19_Check.mono_l : ∀ k, (∀ y0 y1 y2 y3 y4 y5 y6 y7 y8 y9 y10 y11 y12 y13 y14 y15 y16 y17, LeO (satchelref19_Check.j0 k y0 y1 y2 y3 y4 y5 y6 y7 y8 y9 y10 y11 y12 y13 y14 y15 y16 y17) (satchelref19_Check.j0 (k + 1) y0 y1 y2 y3 y4 y5 y6 y7 y8 y9 y10 y11 y12 y13 y14 y15 y16 y17)) ∧ (∀ y0 y1 y2 y3 y4 y5 y6 y7 y8 y9 y10 y11 y12 y13 y14 y15 y16 y17 y18, LeO (satchelref19_Check.j1 k y0 y1 y2 y3 y4 y5 y6 y7 y8 y9 y10 y11 y12 y13 y14 y15 y16 y17 y18) (satchelref19_Check.j1 (k + 1) y0 y1 y2 y3 y4 y5 y6 y7 y8 y9 y10 y11 y12 y13 y14 y15 y16 y17 y18)) ∧ (∀ y0 y1 y2 y3 y4 y5 y6 y7 y8 y9 y10 y11 y12 y13 y14 y15 y16 y17, LeO (satchelref19_Check.j2 k y0 y1 y2 y3 y4 y5 y6 y7 y8 y9 y10 y11 y12 y13 y14 y15 y16 y17) (satchelref19_Check.j2 (k + 1) y0 y1 y2 y3 y4 y5 y6 y7 y8 y9 y10 y11 y12 y13 y14 y15 y16 y17)) ∧ (∀ y0 y1 y2 y3 y4 y5 y6 y7 y8 y9 y10 y11 y12, LeO (satchelref19_Check.j3 k y0 y1 y2 y3 y4 y5 y6 y7 y8 y9 y10 y11 y12) (satchelref19_Check.j3 (k + 1) y0 y1 y2 y3 y4 y5 y6 y7 y8 y9 y10 y11 y12))
  | 0 => ⟨fun _ _ _ _ _ _ _ _ _ _ _ _ _ _ _ _ _ _ r h => by simp [satchelref19_Check.j0] at h, fun _ _ _ _ _ _ _ _ _ _ _ _ _ _ _ _ _ _ _ r h => by simp [satchelref19_Check.j1] at h, fun _ _ _ _ _ _ _ _ _ _ _ _ _ _ _ _ _ _ r h => by simp [satchelref19_Check.j2] at h, fun _ _ _ _ _ _ _ _ _ _ _ _ _ r h => by simp [satchelref19_Check.j3] at h⟩
  | k + 1 => by
    obtain ⟨ih0, ih1, ih2, ih3⟩ := satchelref19_Check.mono_l k
    refine ⟨?_, ?_, ?_, ?_⟩
    · intro y0 y1 y2 y3 y4 y5 y6 y7 y8 y9 y10 y11 y12 y13 y14 y15 y16 y17
      unfold satchelref19_Check.j0
      repeat' first
      | (with_reducible exact ih0 _ _ _ _ _ _ _ _ _ _ _ _ _ _ _ _ _ _)
      | (with_reducible exact ih1 _ _ _ _ _ _ _ _ _ _ _ _ _ _ _ _ _ _ _)
      | (with_reducible exact ih2 _ _ _ _ _ _ _ _ _ _ _ _ _ _ _ _ _ _)
      | (with_reducible exact ih3 _ _ _ _ _ _ _ _ _ _ _ _ _)
      | (with_reducible exact satchelref09_Leaves.mono _ _ _)
      | (with_reducible exact satchelref09_Split.mono _ _)
      | (with_reducible exact satchelref10_Target.mono _ _)
      | (with_reducible exact LeO.refl _)
      | (with_reducible exact LeO.none _)
      | (with_reducible refine LeO.ite ?_ ?_)
      | (with_reducible refine LeO.bind ?_ (fun _ => ?_))
      | exact ih0 _ _ _ _ _ _ _ _ _ _ _ _ _ _ _ _ _ _
      | exact ih1 _ _ _ _ _ _ _ _ _ _ _ _ _ _ _ _ _ _ _
      | exact ih2 _ _ _ _ _ _ _ _ _ _ _ _ _ _ _ _ _ _
      | exact ih3 _ _ _ _ _ _ _ _ _ _ _ _ _
      | exact satchelref09_Leaves.mono _ _ _
      | exact satchelref09_Split.mono _ _
      | exact satchelref10_Target.mono _ _
      | exact LeO.none _
      | refine LeO.ite ?_ ?_
      | refine LeO.bind ?_ (fun _ => ?_)
    · intro y0 y1 y2 y3 y4 y5 y6 y7 y8 y9 y10 y11 y12 y13 y14 y15 y16 y17 y18
      unfold satchelref19_Check.j1
      repeat' first
      | (with_reducible exact ih0 _ _ _ _ _ _ _ _ _ _ _ _ _ _ _ _ _ _)
      | (with_reducible exact ih1 _ _ _ _ _ _ _ _ _ _ _ _ _ _ _ _ _ _ _)
      | (with_reducible exact ih2 _ _ _ _ _ _ _ _ _ _ _ _ _ _ _ _ _ _)
      | (with_reducible exact ih3 _ _ _ _ _ _ _ _ _ _ _ _ _)
      | (with_reducible exact satchelref09_Leaves.mono _ _ _)
      | (with_reducible exact satchelref09_Split.mono _ _)
      | (with_reducible exact satchelref10_Target.mono _ _)
      | (with_reducible exact LeO.refl _)
      | (with_reducible exact LeO.none _)
      | (with_reducible refine LeO.ite ?_ ?_)
      | (with_reducible refine LeO.bind ?_ (fun _ => ?_))
      | exact ih0 _ _ _ _ _ _ _ _ _ _ _ _ _ _ _ _ _ _
      | exact ih1 _ _ _ _ _ _ _ _ _ _ _ _ _ _ _ _ _ _ _
      | exact ih2 _ _ _ _ _ _ _ _ _ _ _ _ _ _ _ _ _ _
      | exact ih3 _ _ _ _ _ _ _ _ _ _ _ _ _
      | exact satchelref09_Leaves.mono _ _ _
      | exact satchelref09_Split.mono _ _
      | exact satchelref10_Target.mono _ _
      | exact LeO.none _
      | refine LeO.ite ?_ ?_
      | refine LeO.bind ?_ (fun _ => ?_)
    · intro y0 y1 y2 y3 y4 y5 y6 y7 y8 y9 y10 y11 y12 y13 y14 y15 y16 y17
      unfold satchelref19_Check.j2
      repeat' first
      | (with_reducible exact ih0 _ _ _ _ _ _ _ _ _ _ _ _ _ _ _ _ _ _)
      | (with_reducible exact ih1 _ _ _ _ _ _ _ _ _ _ _ _ _ _ _ _ _ _ _)
      | (with_reducible exact ih2 _ _ _ _ _ _ _ _ _ _ _ _ _ _ _ _ _ _)
      | (with_reducible exact ih3 _ _ _ _ _ _ _ _ _ _ _ _ _)
      | (with_reducible exact satchelref09_Leaves.mono _ _ _)
      | (with_reducible exact satchelref09_Split.mono _ _)
      | (with_reducible exact satchelref10_Target.mono _ _)
      | (with_reducible exact LeO.refl _)
      | (with_reducible exact LeO.none _)
      | (with_reducible refine LeO.ite ?_ ?_)
      | (with_reducible refine LeO.bind ?_ (fun _ => ?_))
      | exact ih0 _ _ _ _ _ _ _ _ _ _ _ _ _ _ _ _ _ _
      | exact ih1 _ _ _ _ _ _ _ _ _ _ _ _ _ _ _ _ _ _ _
      | exact ih2 _ _ _ _ _ _ _ _ _ _ _ _ _ _ _ _ _ _
      | exact ih3 _ _ _ _ _ _ _ _ _ _ _ _ _
      | exact satchelref09_Leaves.mono _ _ _
      | exact satchelref09_Split.mono _ _
      | exact satchelref10_Target.mono _ _
      | exact LeO.none _
      | refine LeO.ite ?_ ?_
      | refine LeO.bind ?_ (fun _ => ?_)
    · intro y0 y1 y2 y3 y4 y5 y6 y7 y8 y9 y10 y11 y12
      unfold satchelref19_Check.j3
      repeat' first
      | (with_reducible exact ih0 _ _ _ _ _ _ _ _ _ _ _ _ _ _ _ _ _ _)
      | (with_reducible exact ih1 _ _ _ _ _ _ _ _ _ _ _ _ _ _ _ _ _ _ _)
      | (with_reducible exact ih2 _ _ _ _ _ _ _ _ _ _ _ _ _ _ _ _ _ _)
      | (with_reducible exact ih3 _ _ _ _ _ _ _ _ _ _ _ _ _)
      | (with_reducible exact satchelref09_Leaves.mono _ _ _)
      | (with_reducible exact satchelref09_Split.mono _ _)
      | (with_reducible exact satchelref10_Target.mono _ _)
      | (with_reducible exact LeO.refl _)
      | (with_reducible exact LeO.none _)
      | (with_reducible refine LeO.ite ?_ ?_)
      | (with_reducible refine LeO.bind ?_ (fun _ => ?_))
      | exact ih0 _ _ _ _ _ _ _ _ _ _ _ _ _ _ _ _ _ _
      | exact ih1 _ _ _ _ _ _ _ _ _ _ _ _ _ _ _ _ _ _ _
      | exact ih2 _ _ _ _ _ _ _ _ _ _ _ _ _ _ _ _ _ _
      | exact ih3 _ _ _ _ _ _ _ _ _ _ _ _ _
      | exact satchelref09_Leaves.mono _ _ _
      | exact satchelref09_Split.mono _ _
      | exact satchelref10_Target.mono _ _
      | exact LeO.none _
      | refine LeO.ite ?_ ?_
      | refine LeO.bind ?_ (fun _ => ?_)
theorem satchelref19_Check.mono : ∀ a0 a1 a2 a3 a4 a5 a6 a7 a8 a9 a10 a11 a12 a13 a14 a15 a16 k, LeO (satchelref19_Check.f k a0 a1 a2 a3 a4 a5 a6 a7 a8 a9 a10 a11 a12 a13 a14 a15 a16) (satchelref19_Check.f (k + 1) a0 a1 a2 a3 a4 a5 a6 a7 a8 a9 a10 a11 a12 a13 a14 a15 a16) := by
  intro a0 a1 a2 a3 a4 a5 a6 a7 a8 a9 a10 a11 a12 a13 a14 a15 a16 k
  obtain ⟨ih0, ih1, ih2, ih3⟩ := satchelref19_Check.mono_l k
  unfold satchelref19_Check.f
  repeat' first
      | (with_reducible exact ih0 _ _ _ _ _ _ _ _ _ _ _ _ _ _ _ _ _ _)
      | (with_reducible exact ih1 _ _ _ _ _ _ _ _ _ _ _ _ _ _ _ _ _ _ _)
      | (with_reducible exact ih2 _ _ _ _ _ _ _ _ _ _ _ _ _ _ _ _ _ _)
      | (with_reducible exact ih3 _ _ _ _ _ _ _ _ _ _ _ _ _)
      | (with_reducible exact satchelref09_Leaves.mono _ _ _)
      | (with_reducible exact satchelref09_Split.mono _ _)
      | (with_reducible exact satchelref10_Target.mono _ _)
      | (with_reducible exact LeO.refl _)
      | (with_reducible exact LeO.none _)
      | (with_reducible refine LeO.ite ?_ ?_)
      | (with_reducible refine LeO.bind ?_ (fun _ => ?_))
      | exact ih0 _ _ _ _ _ _ _ _ _ _ _ _ _ _ _ _ _ _
      | exact ih1 _ _ _ _ _ _ _ _ _ _ _ _ _ _ _ _ _ _ _
      | exact ih2 _ _ _ _ _ _ _ _ _ _ _ _ _ _ _ _ _ _
      | exact ih3 _ _ _ _ _ _ _ _ _ _ _ _ _
      | exact satchelref09_Leaves.mono _ _ _
      | exact satchelref09_Split.mono _ _
      | exact satchelref10_Target.mono _ _
      | exact LeO.none _
      | refine LeO.ite ?_ ?_
      | refine LeO.bind ?_ (fun _ => ?_)
def satchelref19_Check.T15 : Bool × List (List Nat × List Nat) := (true, [([], []), ([0], [0]), ([1], [1]), ([2], [2]), ([3], [3]), ([3], [3]), ([5, 3], [3, 5]), ([6, 3], [3, 6]), ([4, 7, 3], [3, 4, 7]), ([3], [3]), ([9, 3], [3, 9]), ([8, 10, 3, 3], [3, 8, 10]), ([3, 11], [3, 11])])
def satchelref19_Check.B15 : List Nat := [0, 1, 3, 7, 15, 15, 47, 111, 255, 15, 527, 2047, 4095]
theorem satchelref19_Check.tab15 : rtab .any (opsOf Tryd.f6 15) = satchelref19_Check.T15 := by kernel_rfl
theorem satchelref19_Check.bits15 : waitsOk satchelref19_Check.T15.2 satchelref19_Check.B15 = true := by kernel_rfl
set_option maxHeartbeats 8000000 in
set_option maxRecDepth 100000 in
theorem satchelref19_Check.calls (k : Nat) (a0_0 : ByteArray) (a0_1 : Int) (a0_2 : Int) (a0_3 : Int) (a0_4 : Int) (a0_5 : Int) (a0_6 : Int) (a0_7 : ByteArray) (a0_8 : ByteArray) (a0_9 : ByteArray) (a0_10 : Int) (a0_11 : Int) (A1 : Option Addr) (c1 : Nat) (l1 : List Int) (a2_0 : Int) (a2_1 : Bool) (a2_2 : Int) (a2_3 : Bool) (r : Int) (w : World) (hG : Gv w) (hr1 : Kd.C (Kd.int .u8) w A1 l1.length l1) (hc1 : l1.length ≤ c1) (h : satchelref19_Check.f k a0_0 a0_1 a0_2 a0_3 a0_4 a0_5 a0_6 a0_7 a0_8 a0_9 a0_10 a0_11 l1 a2_0 a2_1 a2_2 a2_3 = some r) :
    Calls Tryd.prog 6 #[.agg #[.string a0_0, .int .i64 a0_1, .int .u32 a0_2, .int .u32 a0_3, .int .u32 a0_4, .int .i64 a0_5, .int .i32 a0_6, .string a0_7, .string a0_8, .string a0_9, .int .i64 a0_10, .int .u8 a0_11], .slice A1 l1.length c1, .agg #[.int .i64 a2_0, .bool a2_1, .int .u32 a2_2, .bool a2_3]] w fun e w' => e = .returned (.int .i64 r) ∧ Below w.heap.size w w' := by
  have hu26 := Tryd.underlying26
  have hu29 := Tryd.underlying29
  have HR1 := Aside0.mk hr1
  have HC1 := Aside0.mk hc1
  clear hr1 hc1
  have HB := Aside0.mk (Below.refl w.heap.size w)
  have HG := Aside0.mk hG
  clear hG
  have H : (if a2_0 < 0 then (satchelref19_Check.j0 k l1 true a0_0 a0_1 a0_2 a0_3 a0_4 a0_5 a0_6 a0_7 a0_8 a0_9 a0_10 a0_11 a2_0 a2_1 a2_2 a2_3) else (satchelref19_Check.j0 k l1 (decide (a2_0 > 2)) a0_0 a0_1 a0_2 a0_3 a0_4 a0_5 a0_6 a0_7 a0_8 a0_9 a0_10 a0_11 a2_0 a2_1 a2_2 a2_3)) = some r := h
  clear h
  have HC4 := Aside0.mk H
  clear H
  go_enter Tryd.func6, Tryd.ntmps6
  go_upto_region 1 with (first | ((with_reducible refine gate_dst (N := 3) rfl ?_); (try (refine gate_guard (by rfl) ?_; dsimp only)); refine box_event ?hg (N := 3) ?hd (cs := #[.string a0_0, .int .i64 a0_1, .int .u32 a0_2, .int .u32 a0_3, .int .u32 a0_4, .int .i64 a0_5, .int .i32 a0_6, .string a0_7, .string a0_8, .string a0_9, .int .i64 a0_10, .int .u8 a0_11]) (t := 26) ?hr ?_; (case hd => rfl); (case hg => rfl); (case hr => first | (go_simp; done) | (go_simp; rfl)); intro gb181 hg w5 hbox hb; have n0_ := Aside0.mk (below_step (by repeat (first | (with_reducible first | exact HB.out | apply below_alloc | apply pw_below_drewN | apply below_drew1) | exact HB.out)) hb); have n1_ := Aside0.mk (hbox); have n2_ := Aside0.mk ((by rw [hg]; exact (below_size (by repeat (first | (with_reducible first | exact HB.out | apply below_alloc | apply pw_below_drewN | apply below_drew1) | exact HB.out))) : w.heap.size ≤ gb181)); have n3_ := Aside0.mk ((by rw [hg]; exact (below_size (by repeat (first | (with_reducible first | exact HB.out | apply below_alloc | apply pw_below_drewN | apply below_drew1) | exact HB.out))) : w.heap.size ≤ gb181)); clear HB; have HB := n0_; have BK181 := n1_; have GW181 := n2_; have GE181 := n3_; clear n0_ n1_ n2_ n3_; clear hb hbox hg) | ((with_reducible refine gate_dst (N := 5) rfl ?_); (try (refine gate_guard (by rfl) ?_; dsimp only)); refine box_event ?hg (N := 5) ?hd (cs := #[.int .i64 a2_0, .bool a2_1, .int .u32 a2_2, .bool a2_3]) (t := 29) ?hr ?_; (case hd => rfl); (case hg => rfl); (case hr => first | (go_simp; done) | (go_simp; rfl)); intro gb182 hg w6 hbox hb; have n0_ := Aside0.mk (blk_below (g := gb181) (o := .cells #[.string a0_0, .int .i64 a0_1, .int .u32 a0_2, .int .u32 a0_3, .int .u32 a0_4, .int .i64 a0_5, .int .i32 a0_6, .string a0_7, .string a0_8, .string a0_9, .int .i64 a0_10, .int .u8 a0_11] 26 (0, 0)) (by (with_reducible repeat (first | refine blk_drewN ?_ _ | refine blk_drew ?_ | refine blk_alloc ?_ _)); exact BK181.out) hb); have n1_ := Aside0.mk (below_step (by repeat (first | (with_reducible first | exact HB.out | apply below_alloc | apply pw_below_drewN | apply below_drew1 | refine below_set ?_ GE181.out) | exact HB.out)) hb); have n2_ := Aside0.mk (hbox); have n3_ := Aside0.mk ((by rw [hg]; exact (below_size (by repeat (first | (with_reducible first | exact HB.out | apply below_alloc | apply pw_below_drewN | apply below_drew1 | refine below_set ?_ GE181.out) | exact HB.out))) : w.heap.size ≤ gb182)); have n4_ := Aside0.mk ((by rw [hg]; exact (below_size (by repeat (first | (with_reducible first | exact HB.out | apply below_alloc | apply pw_below_drewN | apply below_drew1 | refine below_set ?_ GE181.out) | exact HB.out))) : w.heap.size ≤ gb182)); have n5_ := Aside0.mk ((by rw [hg]; exact Nat.ne_of_lt (blk_lt (g := gb181) (o := .cells #[.string a0_0, .int .i64 a0_1, .int .u32 a0_2, .int .u32 a0_3, .int .u32 a0_4, .int .i64 a0_5, .int .i32 a0_6, .string a0_7, .string a0_8, .string a0_9, .int .i64 a0_10, .int .u8 a0_11] 26 (0, 0)) (by (with_reducible repeat (first | refine blk_drewN ?_ _ | refine blk_drew ?_ | refine blk_alloc ?_ _)); exact BK181.out)) : gb181 ≠ gb182)); have n6_ := Aside0.mk ((by rw [hg]; exact Nat.ne_of_gt (blk_lt (g := gb181) (o := .cells #[.string a0_0, .int .i64 a0_1, .int .u32 a0_2, .int .u32 a0_3, .int .u32 a0_4, .int .i64 a0_5, .int .i32 a0_6, .string a0_7, .string a0_8, .string a0_9, .int .i64 a0_10, .int .u8 a0_11] 26 (0, 0)) (by (with_reducible repeat (first | refine blk_drewN ?_ _ | refine blk_drew ?_ | refine blk_alloc ?_ _)); exact BK181.out)) : gb182 ≠ gb181)); clear BK181; clear HB; have BK181 := n0_; have HB := n1_; have BK182 := n2_; have GW182 := n3_; have GE182 := n4_; have NB181_182 := n5_; have NB182_181 := n6_; clear n0_ n1_ n2_ n3_ n4_ n5_ n6_; clear hb hbox hg))
  (try simp only [Act.put, List.setIfInBounds_toArray, List.set_cons_zero, List.set_cons_succ])
  go_cut [16] (fun v16 wc => ∃ (kq : Nat) (x16_3 : Bool), v16 = .bool x16_3 ∧ Aside0 (satchelref19_Check.j0 kq l1 x16_3 a0_0 a0_1 a0_2 a0_3 a0_4 a0_5 a0_6 a0_7 a0_8 a0_9 a0_10 a0_11 a2_0 a2_1 a2_2 a2_3 = some r) ∧ Aside0 (kq ≤ k) ∧ Aside0 (wc.heap[gb181]? = some (.cells #[.string a0_0, .int .i64 a0_1, .int .u32 a0_2, .int .u32 a0_3, .int .u32 a0_4, .int .i64 a0_5, .int .i32 a0_6, .string a0_7, .string a0_8, .string a0_9, .int .i64 a0_10, .int .u8 a0_11] 26 (0, 0))) ∧ Aside0 (wc.heap[gb182]? = some (.cells #[.int .i64 a2_0, .bool a2_1, .int .u32 a2_2, .bool a2_3] 29 (0, 0))) ∧ Aside0 (Below w.heap.size w wc))
  case first =>
    have H := HC4.out
    clear HC4
    by_cases c7 : a2_0 < 0
    · rw [if_pos c7] at H
      have c7b0 : decide (a2_0 < 0) = true := decide_eq_true c7
      clear c7
      (first | rw [c7b0] | rw [c7be] | (simp only [i64_w, i32_w]; rw [c7b0]) | skip)
      have H' := Aside0.mk H
      clear H
      have hnb8 := NB182_181.out
      have hnc8 := NB181_182.out
      have hcz9_0 : w6.cell? ⟨gb182, 0, none⟩ = some (.int .i64 a2_0) := (blk_cell BK182.out 0).trans rfl
      have hcz9_1 : w6.cell? ⟨gb182, 1, none⟩ = some (.bool a2_1) := (blk_cell BK182.out 1).trans rfl
      have hcz9_2 : w6.cell? ⟨gb182, 2, none⟩ = some (.int .u32 a2_2) := (blk_cell BK182.out 2).trans rfl
      have hcz9_3 : w6.cell? ⟨gb182, 3, none⟩ = some (.bool a2_3) := (blk_cell BK182.out 3).trans rfl
      have hfz9_0 := blk_frozen BK182.out 0
      have hfz9_1 := blk_frozen BK182.out 1
      have hfz9_2 := blk_frozen BK182.out 2
      have hfz9_3 := blk_frozen BK182.out 3
      go_wp2
      go_meet
      case rel => exact ⟨_, (true), (by first | rfl | (simp; done) | (simp [*]; done)), H', ⟨by first | omega | exact Nat.le_refl _⟩, ⟨by (with_reducible repeat (first | refine blk_drewN ?_ _ | refine blk_drew ?_ | refine blk_alloc ?_ _)); exact BK181.out⟩, ⟨by (with_reducible repeat (first | refine blk_drewN ?_ _ | refine blk_drew ?_ | refine blk_alloc ?_ _)); exact BK182.out⟩, ⟨by repeat (first | (with_reducible first | exact HB.out | apply below_alloc | apply pw_below_drewN | apply below_drew1 | refine below_set ?_ GE181.out | refine below_set ?_ GE182.out) | exact HB.out)⟩⟩
    · rw [if_neg c7] at H
      have c7b0 : decide (a2_0 < 0) = false := decide_eq_false c7
      clear c7
      (first | rw [c7b0] | rw [c7be] | (simp only [i64_w, i32_w]; rw [c7b0]) | skip)
      have H' := Aside0.mk H
      clear H
      have hnb10 := NB182_181.out
      have hnc10 := NB181_182.out
      have hcz11_0 : w6.cell? ⟨gb182, 0, none⟩ = some (.int .i64 a2_0) := (blk_cell BK182.out 0).trans rfl
      have hcz11_1 : w6.cell? ⟨gb182, 1, none⟩ = some (.bool a2_1) := (blk_cell BK182.out 1).trans rfl
      have hcz11_2 : w6.cell? ⟨gb182, 2, none⟩ = some (.int .u32 a2_2) := (blk_cell BK182.out 2).trans rfl
      have hcz11_3 : w6.cell? ⟨gb182, 3, none⟩ = some (.bool a2_3) := (blk_cell BK182.out 3).trans rfl
      have hfz11_0 := blk_frozen BK182.out 0
      have hfz11_1 := blk_frozen BK182.out 1
      have hfz11_2 := blk_frozen BK182.out 2
      have hfz11_3 := blk_frozen BK182.out 3
      go_wp2
      go_meet
      case rel => exact ⟨_, (decide (a2_0 > 2)), (by first | rfl | (simp; done) | (simp [*]; done)), H', ⟨by first | omega | exact Nat.le_refl _⟩, ⟨by (with_reducible repeat (first | refine blk_drewN ?_ _ | refine blk_drew ?_ | refine blk_alloc ?_ _)); exact BK181.out⟩, ⟨by (with_reducible repeat (first | refine blk_drewN ?_ _ | refine blk_drew ?_ | refine blk_alloc ?_ _)); exact BK182.out⟩, ⟨by repeat (first | (with_reducible first | exact HB.out | apply below_alloc | apply pw_below_drewN | apply below_drew1 | refine below_set ?_ GE181.out | refine below_set ?_ GE182.out) | exact HB.out)⟩⟩
  case rest =>
    clear HC4
    try clear c1
    try clear p2
    try clear c6
    try clear c7
    try clear c7b0
    try clear c8
    try clear c10
    try clear hcz11_0
    try clear hcz11_1
    try clear hcz11_2
    try clear hcz11_3
    try clear hcz9_0
    try clear hcz9_1
    try clear hcz9_2
    try clear hcz9_3
    try clear hfz11_0
    try clear hfz11_1
    try clear hfz11_2
    try clear hfz11_3
    try clear hfz9_0
    try clear hfz9_1
    try clear hfz9_2
    try clear hfz9_3
    obtain ⟨kq, x16_3, rfl, HA, HJ3, BK181, BK182, HB⟩ := hcut
    cases kq with
    | zero => exact absurd HA.out (by simp [satchelref19_Check.j0])
    | succ kj3 =>
      have H := HA.out
      clear HA
      simp only [satchelref19_Check.j0] at H
      by_cases c12 : x16_3 = true
      · subst c12
        have H1 : (some 1) = some r := by rw [if_pos rfl] at H; exact H
        clear H
        have H := H1
        clear H1
        obtain rfl := Option.some.inj H
        go_wp2
        go_ret
        exact ⟨by first | rfl | (simp [errW_none, errW_some] <;> rfl) | (simp [*, errW_none, errW_some] <;> rfl), by repeat (first | (with_reducible first | exact HB.out | apply below_alloc | apply pw_below_drewN | apply below_drew1 | refine below_set ?_ GE181.out | refine below_set ?_ GE182.out) | exact HB.out)⟩
      · replace c12 := Bool.eq_false_iff.mpr c12
        subst c12
        have H1 : ((satchelref09_Split.f kj3 a0_0).bind fun bt183 => (if bt183.2 = 0 then (if a0_1 < 1 then (satchelref19_Check.j1 kj3 l1 bt183.1 true a0_0 a0_1 a0_2 a0_3 a0_4 a0_5 a0_6 a0_7 a0_8 a0_9 a0_10 a0_11 a2_0 a2_1 a2_2 a2_3) else (satchelref19_Check.j1 kj3 l1 bt183.1 (decide (a0_1 > 4)) a0_0 a0_1 a0_2 a0_3 a0_4 a0_5 a0_6 a0_7 a0_8 a0_9 a0_10 a0_11 a2_0 a2_1 a2_2 a2_3)) else (some bt183.2))) = some r := by rw [if_neg (show ¬ (false = true) by decide)] at H; exact H
        clear H
        have H := H1
        clear H1
        replace H := Option.bind_eq_some_iff.mp H
        obtain ⟨⟨t183, t184⟩, A130, H⟩ := H
        replace H : (if t184 = 0 then (if a0_1 < 1 then (satchelref19_Check.j1 kj3 l1 t183 true a0_0 a0_1 a0_2 a0_3 a0_4 a0_5 a0_6 a0_7 a0_8 a0_9 a0_10 a0_11 a2_0 a2_1 a2_2 a2_3) else (satchelref19_Check.j1 kj3 l1 t183 (decide (a0_1 > 4)) a0_0 a0_1 a0_2 a0_3 a0_4 a0_5 a0_6 a0_7 a0_8 a0_9 a0_10 a0_11 a2_0 a2_1 a2_2 a2_3)) else (some t184)) = some r := H
        have A13 := Aside0.mk A130
        clear A130
        by_cases c14 : t184 = 0
        · rw [if_pos c14] at H
          have c14b0 : (t184 == 0) = true := beq_iff_eq.mpr c14
          have c14b1 : (t184 != 0) = false := bne_eq_false_iff_eq.mpr c14
          clear c14
          have HC15 := Aside0.mk H
          clear H
          have hnb16 := NB181_182.out
          have hnc16 := NB182_181.out
          have hcz17_0 : wc.cell? ⟨gb181, 0, none⟩ = some (.string a0_0) := (blk_cell BK181.out 0).trans rfl
          have hcz17_1 : wc.cell? ⟨gb181, 1, none⟩ = some (.int .i64 a0_1) := (blk_cell BK181.out 1).trans rfl
          have hcz17_2 : wc.cell? ⟨gb181, 2, none⟩ = some (.int .u32 a0_2) := (blk_cell BK181.out 2).trans rfl
          have hcz17_3 : wc.cell? ⟨gb181, 3, none⟩ = some (.int .u32 a0_3) := (blk_cell BK181.out 3).trans rfl
          have hcz17_4 : wc.cell? ⟨gb181, 4, none⟩ = some (.int .u32 a0_4) := (blk_cell BK181.out 4).trans rfl
          have hcz17_5 : wc.cell? ⟨gb181, 5, none⟩ = some (.int .i64 a0_5) := (blk_cell BK181.out 5).trans rfl
          have hcz17_6 : wc.cell? ⟨gb181, 6, none⟩ = some (.int .i32 a0_6) := (blk_cell BK181.out 6).trans rfl
          have hcz17_7 : wc.cell? ⟨gb181, 7, none⟩ = some (.string a0_7) := (blk_cell BK181.out 7).trans rfl
          have hcz17_8 : wc.cell? ⟨gb181, 8, none⟩ = some (.string a0_8) := (blk_cell BK181.out 8).trans rfl
          have hcz17_9 : wc.cell? ⟨gb181, 9, none⟩ = some (.string a0_9) := (blk_cell BK181.out 9).trans rfl
          have hcz17_10 : wc.cell? ⟨gb181, 10, none⟩ = some (.int .i64 a0_10) := (blk_cell BK181.out 10).trans rfl
          have hcz17_11 : wc.cell? ⟨gb181, 11, none⟩ = some (.int .u8 a0_11) := (blk_cell BK181.out 11).trans rfl
          have hfz17_0 := blk_frozen BK181.out 0
          have hfz17_1 := blk_frozen BK181.out 1
          have hfz17_2 := blk_frozen BK181.out 2
          have hfz17_3 := blk_frozen BK181.out 3
          have hfz17_4 := blk_frozen BK181.out 4
          have hfz17_5 := blk_frozen BK181.out 5
          have hfz17_6 := blk_frozen BK181.out 6
          have hfz17_7 := blk_frozen BK181.out 7
          have hfz17_8 := blk_frozen BK181.out 8
          have hfz17_9 := blk_frozen BK181.out 9
          have hfz17_10 := blk_frozen BK181.out 10
          have hfz17_11 := blk_frozen BK181.out 11
          go_upto_region 6 with (first | ((with_reducible refine gate_callee (f := 9) rfl ?_); refine goesL_ (some 20) rfl rfl Tryd.func9 (by kernel_rfl) rfl #[.string a0_0] rfl (by (try simp only [List.map_toArray, List.map_cons, List.map_nil]); first | done | rfl | (simp only [List.length_drop, List.length_take]; rfl)) ?_; (with_reducible refine (satchelref09_Split.calls kj3 a0_0 t183 t184 _ ?side1 A13.out).mono ?_); (case side1 => exact Gv_below HG.out (by repeat (first | (with_reducible first | exact HB.out | apply below_alloc | apply pw_below_drewN | apply below_drew1 | refine below_set ?_ GE181.out | refine below_set ?_ GE182.out) | exact HB.out))); rintro e w18 ⟨v185, rfl, ho0, hb⟩; refine ⟨_, rfl, ?_⟩; have n0_ := Aside0.mk (Kd.R_lower ho0 (below_size (by repeat (first | (with_reducible first | exact HB.out | apply below_alloc | apply pw_below_drewN | apply below_drew1 | refine below_set ?_ GE181.out | refine below_set ?_ GE182.out) | exact HB.out)))); have n1_ := Aside0.mk (blk_below (g := gb181) (o := .cells #[.string a0_0, .int .i64 a0_1, .int .u32 a0_2, .int .u32 a0_3, .int .u32 a0_4, .int .i64 a0_5, .int .i32 a0_6, .string a0_7, .string a0_8, .string a0_9, .int .i64 a0_10, .int .u8 a0_11] 26 (0, 0)) (by (with_reducible repeat (first | refine blk_drewN ?_ _ | refine blk_drew ?_ | refine blk_alloc ?_ _)); exact BK181.out) hb); have n2_ := Aside0.mk (blk_below (g := gb182) (o := .cells #[.int .i64 a2_0, .bool a2_1, .int .u32 a2_2, .bool a2_3] 29 (0, 0)) (by (with_reducible repeat (first | refine blk_drewN ?_ _ | refine blk_drew ?_ | refine blk_alloc ?_ _)); exact BK182.out) hb); have n3_ := Aside0.mk (below_step (by repeat (first | (with_reducible first | exact HB.out | apply below_alloc | apply pw_below_drewN | apply below_drew1 | refine below_set ?_ GE181.out | refine below_set ?_ GE182.out) | exact HB.out)) hb); clear BK181; clear BK182; clear HB; have HO186 := n0_; have BK181 := n1_; have BK182 := n2_; have HB := n3_; clear n0_ n1_ n2_ n3_; (try clear hb); (try clear hb2); (try clear hk); (try clear hi); (try clear ho0)))
          (try simp only [Act.put, List.setIfInBounds_toArray, List.set_cons_zero, List.set_cons_succ])
          go_cut [33] (fun v33 wc => ∃ (kq : Nat) (x33_14 : Bool), v33 = .bool x33_14 ∧ Aside0 (satchelref19_Check.j1 kq l1 t183 x33_14 a0_0 a0_1 a0_2 a0_3 a0_4 a0_5 a0_6 a0_7 a0_8 a0_9 a0_10 a0_11 a2_0 a2_1 a2_2 a2_3 = some r) ∧ Aside0 (kq ≤ kj3) ∧ Aside0 (Kd.R Kd.string 9 wc w.heap.size (fun _ => True) v185 t183) ∧ Aside0 (wc.heap[gb181]? = some (.cells #[.string a0_0, .int .i64 a0_1, .int .u32 a0_2, .int .u32 a0_3, .int .u32 a0_4, .int .i64 a0_5, .int .i32 a0_6, .string a0_7, .string a0_8, .string a0_9, .int .i64 a0_10, .int .u8 a0_11] 26 (0, 0))) ∧ Aside0 (wc.heap[gb182]? = some (.cells #[.int .i64 a2_0, .bool a2_1, .int .u32 a2_2, .bool a2_3] 29 (0, 0))) ∧ Aside0 (Below w.heap.size w wc))
          case first =>
            have H := HC15.out
            clear HC15
            by_cases c19 : a0_1 < 1
            · rw [if_pos c19] at H
              have c19b0 : decide (a0_1 < 1) = true := decide_eq_true c19
              clear c19
              (first | rw [c19b0] | rw [c19be] | (simp only [i64_w, i32_w]; rw [c19b0]) | skip)
              have H' := Aside0.mk H
              clear H
              have hnb20 := NB181_182.out
              have hnc20 := NB182_181.out
              have hcz21_0 : w18.cell? ⟨gb181, 0, none⟩ = some (.string a0_0) := (blk_cell BK181.out 0).trans rfl
              have hcz21_1 : w18.cell? ⟨gb181, 1, none⟩ = some (.int .i64 a0_1) := (blk_cell BK181.out 1).trans rfl
              have hcz21_2 : w18.cell? ⟨gb181, 2, none⟩ = some (.int .u32 a0_2) := (blk_cell BK181.out 2).trans rfl
              have hcz21_3 : w18.cell? ⟨gb181, 3, none⟩ = some (.int .u32 a0_3) := (blk_cell BK181.out 3).trans rfl
              have hcz21_4 : w18.cell? ⟨gb181, 4, none⟩ = some (.int .u32 a0_4) := (blk_cell BK181.out 4).trans rfl
              have hcz21_5 : w18.cell? ⟨gb181, 5, none⟩ = some (.int .i64 a0_5) := (blk_cell BK181.out 5).trans rfl
              have hcz21_6 : w18.cell? ⟨gb181, 6, none⟩ = some (.int .i32 a0_6) := (blk_cell BK181.out 6).trans rfl
              have hcz21_7 : w18.cell? ⟨gb181, 7, none⟩ = some (.string a0_7) := (blk_cell BK181.out 7).trans rfl
              have hcz21_8 : w18.cell? ⟨gb181, 8, none⟩ = some (.string a0_8) := (blk_cell BK181.out 8).trans rfl
              have hcz21_9 : w18.cell? ⟨gb181, 9, none⟩ = some (.string a0_9) := (blk_cell BK181.out 9).trans rfl
              have hcz21_10 : w18.cell? ⟨gb181, 10, none⟩ = some (.int .i64 a0_10) := (blk_cell BK181.out 10).trans rfl
              have hcz21_11 : w18.cell? ⟨gb181, 11, none⟩ = some (.int .u8 a0_11) := (blk_cell BK181.out 11).trans rfl
              have hfz21_0 := blk_frozen BK181.out 0
              have hfz21_1 := blk_frozen BK181.out 1
              have hfz21_2 := blk_frozen BK181.out 2
              have hfz21_3 := blk_frozen BK181.out 3
              have hfz21_4 := blk_frozen BK181.out 4
              have hfz21_5 := blk_frozen BK181.out 5
              have hfz21_6 := blk_frozen BK181.out 6
              have hfz21_7 := blk_frozen BK181.out 7
              have hfz21_8 := blk_frozen BK181.out 8
              have hfz21_9 := blk_frozen BK181.out 9
              have hfz21_10 := blk_frozen BK181.out 10
              have hfz21_11 := blk_frozen BK181.out 11
              go_wp2
              go_meet
              case rel => exact ⟨_, (true), (by first | rfl | (simp; done) | (simp [*]; done)), H', ⟨by have := HJ3.out; first | omega | exact Nat.le_refl _⟩, ⟨by (with_reducible repeat (first | apply Kd.R_alloc | apply Kd.R_drewN | apply Kd.R_drew)); exact HO186.out⟩, ⟨by (with_reducible repeat (first | refine blk_drewN ?_ _ | refine blk_drew ?_ | refine blk_alloc ?_ _)); exact BK181.out⟩, ⟨by (with_reducible repeat (first | refine blk_drewN ?_ _ | refine blk_drew ?_ | refine blk_alloc ?_ _)); exact BK182.out⟩, ⟨by repeat (first | (with_reducible first | exact HB.out | apply below_alloc | apply pw_below_drewN | apply below_drew1 | refine below_set ?_ GE181.out | refine below_set ?_ GE182.out) | exact HB.out)⟩⟩
            · rw [if_neg c19] at H
              have c19b0 : decide (a0_1 < 1) = false := decide_eq_false c19
              clear c19
              (first | rw [c19b0] | rw [c19be] | (simp only [i64_w, i32_w]; rw [c19b0]) | skip)
              have H' := Aside0.mk H
              clear H
              have hnb22 := NB181_182.out
              have hnc22 := NB182_181.out
              have hcz23_0 : w18.cell? ⟨gb181, 0, none⟩ = some (.string a0_0) := (blk_cell BK181.out 0).trans rfl
              have hcz23_1 : w18.cell? ⟨gb181, 1, none⟩ = some (.int .i64 a0_1) := (blk_cell BK181.out 1).trans rfl
              have hcz23_2 : w18.cell? ⟨gb181, 2, none⟩ = some (.int .u32 a0_2) := (blk_cell BK181.out 2).trans rfl
              have hcz23_3 : w18.cell? ⟨gb181, 3, none⟩ = some (.int .u32 a0_3) := (blk_cell BK181.out 3).trans rfl
              have hcz23_4 : w18.cell? ⟨gb181, 4, none⟩ = some (.int .u32 a0_4) := (blk_cell BK181.out 4).trans rfl
              have hcz23_5 : w18.cell? ⟨gb181, 5, none⟩ = some (.int .i64 a0_5) := (blk_cell BK181.out 5).trans rfl
              have hcz23_6 : w18.cell? ⟨gb181, 6, none⟩ = some (.int .i32 a0_6) := (blk_cell BK181.out 6).trans rfl
              have hcz23_7 : w18.cell? ⟨gb181, 7, none⟩ = some (.string a0_7) := (blk_cell BK181.out 7).trans rfl
              have hcz23_8 : w18.cell? ⟨gb181, 8, none⟩ = some (.string a0_8) := (blk_cell BK181.out 8).trans rfl
              have hcz23_9 : w18.cell? ⟨gb181, 9, none⟩ = some (.string a0_9) := (blk_cell BK181.out 9).trans rfl
              have hcz23_10 : w18.cell? ⟨gb181, 10, none⟩ = some (.int .i64 a0_10) := (blk_cell BK181.out 10).trans rfl
              have hcz23_11 : w18.cell? ⟨gb181, 11, none⟩ = some (.int .u8 a0_11) := (blk_cell BK181.out 11).trans rfl
              have hfz23_0 := blk_frozen BK181.out 0
              have hfz23_1 := blk_frozen BK181.out 1
              have hfz23_2 := blk_frozen BK181.out 2
              have hfz23_3 := blk_frozen BK181.out 3
              have hfz23_4 := blk_frozen BK181.out 4
              have hfz23_5 := blk_frozen BK181.out 5
              have hfz23_6 := blk_frozen BK181.out 6
              have hfz23_7 := blk_frozen BK181.out 7
              have hfz23_8 := blk_frozen BK181.out 8
              have hfz23_9 := blk_frozen BK181.out 9
              have hfz23_10 := blk_frozen BK181.out 10
              have hfz23_11 := blk_frozen BK181.out 11
              go_wp2
              go_meet
              case rel => exact ⟨_, (decide (a0_1 > 4)), (by first | rfl | (simp; done) | (simp [*]; done)), H', ⟨by have := HJ3.out; first | omega | exact Nat.le_refl _⟩, ⟨by (with_reducible repeat (first | apply Kd.R_alloc | apply Kd.R_drewN | apply Kd.R_drew)); exact HO186.out⟩, ⟨by (with_reducible repeat (first | refine blk_drewN ?_ _ | refine blk_drew ?_ | refine blk_alloc ?_ _)); exact BK181.out⟩, ⟨by (with_reducible repeat (first | refine blk_drewN ?_ _ | refine blk_drew ?_ | refine blk_alloc ?_ _)); exact BK182.out⟩, ⟨by repeat (first | (with_reducible first | exact HB.out | apply below_alloc | apply pw_below_drewN | apply below_drew1 | refine below_set ?_ GE181.out | refine below_set ?_ GE182.out) | exact HB.out)⟩⟩
          case rest =>
            clear HC15
            try clear c1
            try clear c2
            try clear p2
            try clear c6
            try clear c7
            try clear c7b0
            try clear c8
            try clear c9
            try clear c10
            try clear c12
            try clear c14
            try clear c14b0
            try clear c14b1
            try clear c16
            try clear c19
            try clear c19b0
            try clear c20
            try clear c22
            try clear hcz11_0
            try clear hcz11_1
            try clear hcz11_2
            try clear hcz11_3
            try clear hcz17_0
            try clear hcz17_1
            try clear hcz17_10
            try clear hcz17_11
            try clear hcz17_2
            try clear hcz17_3
            try clear hcz17_4
            try clear hcz17_5
            try clear hcz17_6
            try clear hcz17_7
            try clear hcz17_8
            try clear hcz17_9
            try clear hcz21_0
            try clear hcz21_1
            try clear hcz21_10
            try clear hcz21_11
            try clear hcz21_2
            try clear hcz21_3
            try clear hcz21_4
            try clear hcz21_5
            try clear hcz21_6
            try clear hcz21_7
            try clear hcz21_8
            try clear hcz21_9
            try clear hcz23_0
            try clear hcz23_1
            try clear hcz23_10
            try clear hcz23_11
            try clear hcz23_2
            try clear hcz23_3
            try clear hcz23_4
            try clear hcz23_5
            try clear hcz23_6
            try clear hcz23_7
            try clear hcz23_8
            try clear hcz23_9
            try clear hcz9_0
            try clear hcz9_1
            try clear hcz9_2
            try clear hcz9_3
            try clear hfz11_0
            try clear hfz11_1
            try clear hfz11_2
            try clear hfz11_3
            try clear hfz17_0
            try clear hfz17_1
            try clear hfz17_10
            try clear hfz17_11
            try clear hfz17_2
            try clear hfz17_3
            try clear hfz17_4
            try clear hfz17_5
            try clear hfz17_6
            try clear hfz17_7
            try clear hfz17_8
            try clear hfz17_9
            try clear hfz21_0
            try clear hfz21_1
            try clear hfz21_10
            try clear hfz21_11
            try clear hfz21_2
            try clear hfz21_3
            try clear hfz21_4
            try clear hfz21_5
            try clear hfz21_6
            try clear hfz21_7
            try clear hfz21_8
            try clear hfz21_9
            try clear hfz23_0
            try clear hfz23_1
            try clear hfz23_10
            try clear hfz23_11
            try clear hfz23_2
            try clear hfz23_3
            try clear hfz23_4
            try clear hfz23_5
            try clear hfz23_6
            try clear hfz23_7
            try clear hfz23_8
            try clear hfz23_9
            try clear hfz9_0
            try clear hfz9_1
            try clear hfz9_2
            try clear hfz9_3
            try clear p2
            obtain ⟨kq, x33_14, rfl, HA, HJ14, HO_7, BK181, BK182, HB⟩ := hcut
            cases kq with
            | zero => exact absurd HA.out (by simp [satchelref19_Check.j1])
            | succ kj14 =>
              have H := HA.out
              clear HA
              simp only [satchelref19_Check.j1] at H
              by_cases c24 : x33_14 = true
              · subst c24
                have H1 : (some 193) = some r := by rw [if_pos rfl] at H; exact H
                clear H
                have H := H1
                clear H1
                obtain rfl := Option.some.inj H
                go_wp2
                go_ret
                exact ⟨by first | rfl | (simp [errW_none, errW_some] <;> rfl) | (simp [*, errW_none, errW_some] <;> rfl), by repeat (first | (with_reducible first | exact HB.out | apply below_alloc | apply pw_below_drewN | apply below_drew1 | refine below_set ?_ GE181.out | refine below_set ?_ GE182.out) | exact HB.out)⟩
              · replace c24 := Bool.eq_false_iff.mpr c24
                subst c24
                have H1 : ((satchelref19_Meta.f a0_0 a0_1 a0_2 a0_3 a0_4 a0_5 a0_6 a0_7 a0_8 a0_9 a0_10 a0_11 a2_0 a2_1 a2_2 a2_3).bind fun bt187 => ((satchelref10_Meta.f bt187.1 bt187.2.1 bt187.2.2.1 bt187.2.2.2.1 bt187.2.2.2.2).bind fun t192 => (if t192 = true then (if a0_1 = 2 then (satchelref19_Check.j2 kj14 t183 (a0_10 != (l1.length : Int)) a0_0 a0_1 a0_2 a0_3 a0_4 a0_5 a0_6 a0_7 a0_8 a0_9 a0_10 a0_11 a2_0 a2_1 a2_2 a2_3) else (satchelref19_Check.j2 kj14 t183 false a0_0 a0_1 a0_2 a0_3 a0_4 a0_5 a0_6 a0_7 a0_8 a0_9 a0_10 a0_11 a2_0 a2_1 a2_2 a2_3)) else (some 1)))) = some r := by rw [if_neg (show ¬ (false = true) by decide)] at H; exact H
                clear H
                have H := H1
                clear H1
                replace H := Option.bind_eq_some_iff.mp H
                obtain ⟨⟨t187, t188, t189, t190, t191⟩, A250, H⟩ := H
                replace H : ((satchelref10_Meta.f t187 t188 t189 t190 t191).bind fun t192 => (if t192 = true then (if a0_1 = 2 then (satchelref19_Check.j2 kj14 t183 (a0_10 != (l1.length : Int)) a0_0 a0_1 a0_2 a0_3 a0_4 a0_5 a0_6 a0_7 a0_8 a0_9 a0_10 a0_11 a2_0 a2_1 a2_2 a2_3) else (satchelref19_Check.j2 kj14 t183 false a0_0 a0_1 a0_2 a0_3 a0_4 a0_5 a0_6 a0_7 a0_8 a0_9 a0_10 a0_11 a2_0 a2_1 a2_2 a2_3)) else (some 1))) = some r := H
                have A25 := Aside0.mk A250
                clear A250
                replace H := Option.bind_eq_some_iff.mp H
                obtain ⟨t192, A260, H⟩ := H
                replace H : (if t192 = true then (if a0_1 = 2 then (satchelref19_Check.j2 kj14 t183 (a0_10 != (l1.length : Int)) a0_0 a0_1 a0_2 a0_3 a0_4 a0_5 a0_6 a0_7 a0_8 a0_9 a0_10 a0_11 a2_0 a2_1 a2_2 a2_3) else (satchelref19_Check.j2 kj14 t183 false a0_0 a0_1 a0_2 a0_3 a0_4 a0_5 a0_6 a0_7 a0_8 a0_9 a0_10 a0_11 a2_0 a2_1 a2_2 a2_3)) else (some 1)) = some r := H
                have A26 := Aside0.mk A260
                clear A260
                by_cases c27 : t192 = true
                · subst c27
                  have H1 : (if a0_1 = 2 then (satchelref19_Check.j2 kj14 t183 (a0_10 != (l1.length : Int)) a0_0 a0_1 a0_2 a0_3 a0_4 a0_5 a0_6 a0_7 a0_8 a0_9 a0_10 a0_11 a2_0 a2_1 a2_2 a2_3) else (satchelref19_Check.j2 kj14 t183 false a0_0 a0_1 a0_2 a0_3 a0_4 a0_5 a0_6 a0_7 a0_8 a0_9 a0_10 a0_11 a2_0 a2_1 a2_2 a2_3)) = some r := by rw [if_pos rfl] at H; exact H
                  clear H
                  have H := H1
                  clear H1
                  have HC28 := Aside0.mk H
                  clear H
                  have hnb29 := NB181_182.out
                  have hnc29 := NB182_181.out
                  have hcz30_0 : wc.cell? ⟨gb181, 0, none⟩ = some (.string a0_0) := (blk_cell BK181.out 0).trans rfl
                  have hcz30_1 : wc.cell? ⟨gb181, 1, none⟩ = some (.int .i64 a0_1) := (blk_cell BK181.out 1).trans rfl
                  have hcz30_2 : wc.cell? ⟨gb181, 2, none⟩ = some (.int .u32 a0_2) := (blk_cell BK181.out 2).trans rfl
                  have hcz30_3 : wc.cell? ⟨gb181, 3, none⟩ = some (.int .u32 a0_3) := (blk_cell BK181.out 3).trans rfl
                  have hcz30_4 : wc.cell? ⟨gb181, 4, none⟩ = some (.int .u32 a0_4) := (blk_cell BK181.out 4).trans rfl
                  have hcz30_5 : wc.cell? ⟨gb181, 5, none⟩ = some (.int .i64 a0_5) := (blk_cell BK181.out 5).trans rfl
                  have hcz30_6 : wc.cell? ⟨gb181, 6, none⟩ = some (.int .i32 a0_6) := (blk_cell BK181.out 6).trans rfl
                  have hcz30_7 : wc.cell? ⟨gb181, 7, none⟩ = some (.string a0_7) := (blk_cell BK181.out 7).trans rfl
                  have hcz30_8 : wc.cell? ⟨gb181, 8, none⟩ = some (.string a0_8) := (blk_cell BK181.out 8).trans rfl
                  have hcz30_9 : wc.cell? ⟨gb181, 9, none⟩ = some (.string a0_9) := (blk_cell BK181.out 9).trans rfl
                  have hcz30_10 : wc.cell? ⟨gb181, 10, none⟩ = some (.int .i64 a0_10) := (blk_cell BK181.out 10).trans rfl
                  have hcz30_11 : wc.cell? ⟨gb181, 11, none⟩ = some (.int .u8 a0_11) := (blk_cell BK181.out 11).trans rfl
                  have hfz30_0 := blk_frozen BK181.out 0
                  have hfz30_1 := blk_frozen BK181.out 1
                  have hfz30_2 := blk_frozen BK181.out 2
                  have hfz30_3 := blk_frozen BK181.out 3
                  have hfz30_4 := blk_frozen BK181.out 4
                  have hfz30_5 := blk_frozen BK181.out 5
                  have hfz30_6 := blk_frozen BK181.out 6
                  have hfz30_7 := blk_frozen BK181.out 7
                  have hfz30_8 := blk_frozen BK181.out 8
                  have hfz30_9 := blk_frozen BK181.out 9
                  have hfz30_10 := blk_frozen BK181.out 10
                  have hfz30_11 := blk_frozen BK181.out 11
                  have hcz31_0 : wc.cell? ⟨gb182, 0, none⟩ = some (.int .i64 a2_0) := (blk_cell BK182.out 0).trans rfl
                  have hcz31_1 : wc.cell? ⟨gb182, 1, none⟩ = some (.bool a2_1) := (blk_cell BK182.out 1).trans rfl
                  have hcz31_2 : wc.cell? ⟨gb182, 2, none⟩ = some (.int .u32 a2_2) := (blk_cell BK182.out 2).trans rfl
                  have hcz31_3 : wc.cell? ⟨gb182, 3, none⟩ = some (.bool a2_3) := (blk_cell BK182.out 3).trans rfl
                  have hfz31_0 := blk_frozen BK182.out 0
                  have hfz31_1 := blk_frozen BK182.out 1
                  have hfz31_2 := blk_frozen BK182.out 2
                  have hfz31_3 := blk_frozen BK182.out 3
                  go_upto_region 10 with (first | ((with_reducible refine gate_callee (f := 11) rfl ?_); refine goesL_ (some 36) rfl rfl Tryd.func11 (by kernel_rfl) rfl #[.agg #[.string a0_0, .int .i64 a0_1, .int .u32 a0_2, .int .u32 a0_3, .int .u32 a0_4, .int .i64 a0_5, .int .i32 a0_6, .string a0_7, .string a0_8, .string a0_9, .int .i64 a0_10, .int .u8 a0_11], .agg #[.int .i64 a2_0, .bool a2_1, .int .u32 a2_2, .bool a2_3]] rfl (by (try simp only [List.map_toArray, List.map_cons, List.map_nil]); first | done | rfl | (simp only [List.length_drop, List.length_take]; rfl)) ?_; (with_reducible refine (satchelref19_Meta.calls a0_0 a0_1 a0_2 a0_3 a0_4 a0_5 a0_6 a0_7 a0_8 a0_9 a0_10 a0_11 a2_0 a2_1 a2_2 a2_3 t187 t188 t189 t190 t191 _ ?side1 A25.out).mono ?_); (case side1 => exact Gv_below HG.out (by repeat (first | (with_reducible first | exact HB.out | apply below_alloc | apply pw_below_drewN | apply below_drew1 | refine below_set ?_ GE181.out | refine below_set ?_ GE182.out) | exact HB.out))); rintro e w32 ⟨rfl, hb⟩; refine ⟨_, rfl, ?_⟩; have n0_ := Aside0.mk (Kd.R_below (by (with_reducible repeat (first | apply Kd.R_alloc | apply Kd.R_drewN | apply Kd.R_drew)); exact HO_7.out) hb); have n1_ := Aside0.mk (blk_below (g := gb181) (o := .cells #[.string a0_0, .int .i64 a0_1, .int .u32 a0_2, .int .u32 a0_3, .int .u32 a0_4, .int .i64 a0_5, .int .i32 a0_6, .string a0_7, .string a0_8, .string a0_9, .int .i64 a0_10, .int .u8 a0_11] 26 (0, 0)) (by (with_reducible repeat (first | refine blk_drewN ?_ _ | refine blk_drew ?_ | refine blk_alloc ?_ _)); exact BK181.out) hb); have n2_ := Aside0.mk (blk_below (g := gb182) (o := .cells #[.int .i64 a2_0, .bool a2_1, .int .u32 a2_2, .bool a2_3] 29 (0, 0)) (by (with_reducible repeat (first | refine blk_drewN ?_ _ | refine blk_drew ?_ | refine blk_alloc ?_ _)); exact BK182.out) hb); have n3_ := Aside0.mk (below_step (by repeat (first | (with_reducible first | exact HB.out | apply below_alloc | apply pw_below_drewN | apply below_drew1 | refine below_set ?_ GE181.out | refine below_set ?_ GE182.out) | exact HB.out)) hb); clear HO_7; clear BK181; clear BK182; clear HB; have HO_7 := n0_; have BK181 := n1_; have BK182 := n2_; have HB := n3_; clear n0_ n1_ n2_ n3_; (try clear hb); (try clear hb2); (try clear hk); (try clear hi)) | ((with_reducible refine gate_callee (f := 10) rfl ?_); refine goesL_ (some 37) rfl rfl Tryd.func10 (by kernel_rfl) rfl #[.agg #[.int .u32 t187, .int .u32 t188, .int .u32 t189, .int .i64 t190, .int .i32 t191]] rfl (by (try simp only [List.map_toArray, List.map_cons, List.map_nil]); first | done | rfl | (simp only [List.length_drop, List.length_take]; rfl)) ?_; (with_reducible refine (satchelref10_Meta.calls t187 t188 t189 t190 t191 true _ ?side1 A26.out).mono ?_); (case side1 => exact Gv_below HG.out (by repeat (first | (with_reducible first | exact HB.out | apply below_alloc | apply pw_below_drewN | apply below_drew1 | refine below_set ?_ GE181.out | refine below_set ?_ GE182.out) | exact HB.out))); rintro e w33 ⟨rfl, hb⟩; refine ⟨_, rfl, ?_⟩; have n0_ := Aside0.mk (Kd.R_below (by (with_reducible repeat (first | apply Kd.R_alloc | apply Kd.R_drewN | apply Kd.R_drew)); exact HO_7.out) hb); have n1_ := Aside0.mk (blk_below (g := gb181) (o := .cells #[.string a0_0, .int .i64 a0_1, .int .u32 a0_2, .int .u32 a0_3, .int .u32 a0_4, .int .i64 a0_5, .int .i32 a0_6, .string a0_7, .string a0_8, .string a0_9, .int .i64 a0_10, .int .u8 a0_11] 26 (0, 0)) (by (with_reducible repeat (first | refine blk_drewN ?_ _ | refine blk_drew ?_ | refine blk_alloc ?_ _)); exact BK181.out) hb); have n2_ := Aside0.mk (blk_below (g := gb182) (o := .cells #[.int .i64 a2_0, .bool a2_1, .int .u32 a2_2, .bool a2_3] 29 (0, 0)) (by (with_reducible repeat (first | refine blk_drewN ?_ _ | refine blk_drew ?_ | refine blk_alloc ?_ _)); exact BK182.out) hb); have n3_ := Aside0.mk (below_step (by repeat (first | (with_reducible first | exact HB.out | apply below_alloc | apply pw_below_drewN | apply below_drew1 | refine below_set ?_ GE181.out | refine below_set ?_ GE182.out) | exact HB.out)) hb); clear HO_7; clear BK181; clear BK182; clear HB; have HO_7 := n0_; have BK181 := n1_; have BK182 := n2_; have HB := n3_; clear n0_ n1_ n2_ n3_; (try clear hb); (try clear hb2); (try clear hk); (try clear hi)))
                  (try simp only [Act.put, List.setIfInBounds_toArray, List.set_cons_zero, List.set_cons_succ])
                  go_cut [48] (fun v48 wc => ∃ (kq : Nat) (x48_27 : Bool), v48 = .bool x48_27 ∧ Aside0 (satchelref19_Check.j2 kq t183 x48_27 a0_0 a0_1 a0_2 a0_3 a0_4 a0_5 a0_6 a0_7 a0_8 a0_9 a0_10 a0_11 a2_0 a2_1 a2_2 a2_3 = some r) ∧ Aside0 (kq ≤ kj14) ∧ Aside0 (Kd.R Kd.string 9 wc w.heap.size (fun _ => True) v185 t183) ∧ Aside0 (wc.heap[gb181]? = some (.cells #[.string a0_0, .int .i64 a0_1, .int .u32 a0_2, .int .u32 a0_3, .int .u32 a0_4, .int .i64 a0_5, .int .i32 a0_6, .string a0_7, .string a0_8, .string a0_9, .int .i64 a0_10, .int .u8 a0_11] 26 (0, 0))) ∧ Aside0 (wc.heap[gb182]? = some (.cells #[.int .i64 a2_0, .bool a2_1, .int .u32 a2_2, .bool a2_3] 29 (0, 0))) ∧ Aside0 (Below w.heap.size w wc))
                  case first =>
                    have H := HC28.out
                    clear HC28
                    by_cases c34 : a0_1 = 2
                    · rw [if_pos c34] at H
                      have c34b0 : (a0_1 == 2) = true := beq_iff_eq.mpr c34
                      have c34b1 : (a0_1 != 2) = false := bne_eq_false_iff_eq.mpr c34
                      clear c34
                      (first | rw [c34b0] | rw [c34be] | (simp only [i64_w, i32_w]; rw [c34b0]) | skip)
                      have H' := Aside0.mk H
                      clear H
                      have hnb35 := NB181_182.out
                      have hnc35 := NB182_181.out
                      have hcz36_0 : w33.cell? ⟨gb181, 0, none⟩ = some (.string a0_0) := (blk_cell BK181.out 0).trans rfl
                      have hcz36_1 : w33.cell? ⟨gb181, 1, none⟩ = some (.int .i64 a0_1) := (blk_cell BK181.out 1).trans rfl
                      have hcz36_2 : w33.cell? ⟨gb181, 2, none⟩ = some (.int .u32 a0_2) := (blk_cell BK181.out 2).trans rfl
                      have hcz36_3 : w33.cell? ⟨gb181, 3, none⟩ = some (.int .u32 a0_3) := (blk_cell BK181.out 3).trans rfl
                      have hcz36_4 : w33.cell? ⟨gb181, 4, none⟩ = some (.int .u32 a0_4) := (blk_cell BK181.out 4).trans rfl
                      have hcz36_5 : w33.cell? ⟨gb181, 5, none⟩ = some (.int .i64 a0_5) := (blk_cell BK181.out 5).trans rfl
                      have hcz36_6 : w33.cell? ⟨gb181, 6, none⟩ = some (.int .i32 a0_6) := (blk_cell BK181.out 6).trans rfl
                      have hcz36_7 : w33.cell? ⟨gb181, 7, none⟩ = some (.string a0_7) := (blk_cell BK181.out 7).trans rfl
                      have hcz36_8 : w33.cell? ⟨gb181, 8, none⟩ = some (.string a0_8) := (blk_cell BK181.out 8).trans rfl
                      have hcz36_9 : w33.cell? ⟨gb181, 9, none⟩ = some (.string a0_9) := (blk_cell BK181.out 9).trans rfl
                      have hcz36_10 : w33.cell? ⟨gb181, 10, none⟩ = some (.int .i64 a0_10) := (blk_cell BK181.out 10).trans rfl
                      have hcz36_11 : w33.cell? ⟨gb181, 11, none⟩ = some (.int .u8 a0_11) := (blk_cell BK181.out 11).trans rfl
                      have hfz36_0 := blk_frozen BK181.out 0
                      have hfz36_1 := blk_frozen BK181.out 1
                      have hfz36_2 := blk_frozen BK181.out 2
                      have hfz36_3 := blk_frozen BK181.out 3
                      have hfz36_4 := blk_frozen BK181.out 4
                      have hfz36_5 := blk_frozen BK181.out 5
                      have hfz36_6 := blk_frozen BK181.out 6
                      have hfz36_7 := blk_frozen BK181.out 7
                      have hfz36_8 := blk_frozen BK181.out 8
                      have hfz36_9 := blk_frozen BK181.out 9
                      have hfz36_10 := blk_frozen BK181.out 10
                      have hfz36_11 := blk_frozen BK181.out 11
                      go_wp2
                      go_meet
                      case rel => exact ⟨_, ((a0_10 != (l1.length : Int))), (by first | rfl | (simp; done) | (simp [*]; done)), H', ⟨by have := HJ3.out; have := HJ14.out; first | omega | exact Nat.le_refl _⟩, ⟨by (with_reducible repeat (first | apply Kd.R_alloc | apply Kd.R_drewN | apply Kd.R_drew)); exact HO_7.out⟩, ⟨by (with_reducible repeat (first | refine blk_drewN ?_ _ | refine blk_drew ?_ | refine blk_alloc ?_ _)); exact BK181.out⟩, ⟨by (with_reducible repeat (first | refine blk_drewN ?_ _ | refine blk_drew ?_ | refine blk_alloc ?_ _)); exact BK182.out⟩, ⟨by repeat (first | (with_reducible first | exact HB.out | apply below_alloc | apply pw_below_drewN | apply below_drew1 | refine below_set ?_ GE181.out | refine below_set ?_ GE182.out) | exact HB.out)⟩⟩
                    · rw [if_neg c34] at H
                      have c34b0 : (a0_1 == 2) = false := beq_eq_false_iff_ne.mpr c34
                      have c34b1 : (a0_1 != 2) = true := bne_iff_ne.mpr c34
                      (first | rw [c34b0] | rw [c34be] | (simp only [i64_w, i32_w]; rw [c34b0]) | skip)
                      have H' := Aside0.mk H
                      clear H
                      have hnb37 := NB181_182.out
                      have hnc37 := NB182_181.out
                      have hcz38_0 : w33.cell? ⟨gb181, 0, none⟩ = some (.string a0_0) := (blk_cell BK181.out 0).trans rfl
                      have hcz38_1 : w33.cell? ⟨gb181, 1, none⟩ = some (.int .i64 a0_1) := (blk_cell BK181.out 1).trans rfl
                      have hcz38_2 : w33.cell? ⟨gb181, 2, none⟩ = some (.int .u32 a0_2) := (blk_cell BK181.out 2).trans rfl
                      have hcz38_3 : w33.cell? ⟨gb181, 3, none⟩ = some (.int .u32 a0_3) := (blk_cell BK181.out 3).trans rfl
                      have hcz38_4 : w33.cell? ⟨gb181, 4, none⟩ = some (.int .u32 a0_4) := (blk_cell BK181.out 4).trans rfl
                      have hcz38_5 : w33.cell? ⟨gb181, 5, none⟩ = some (.int .i64 a0_5) := (blk_cell BK181.out 5).trans rfl
                      have hcz38_6 : w33.cell? ⟨gb181, 6, none⟩ = some (.int .i32 a0_6) := (blk_cell BK181.out 6).trans rfl
                      have hcz38_7 : w33.cell? ⟨gb181, 7, none⟩ = some (.string a0_7) := (blk_cell BK181.out 7).trans rfl
                      have hcz38_8 : w33.cell? ⟨gb181, 8, none⟩ = some (.string a0_8) := (blk_cell BK181.out 8).trans rfl
                      have hcz38_9 : w33.cell? ⟨gb181, 9, none⟩ = some (.string a0_9) := (blk_cell BK181.out 9).trans rfl
                      have hcz38_10 : w33.cell? ⟨gb181, 10, none⟩ = some (.int .i64 a0_10) := (blk_cell BK181.out 10).trans rfl
                      have hcz38_11 : w33.cell? ⟨gb181, 11, none⟩ = some (.int .u8 a0_11) := (blk_cell BK181.out 11).trans rfl
                      have hfz38_0 := blk_frozen BK181.out 0
                      have hfz38_1 := blk_frozen BK181.out 1
                      have hfz38_2 := blk_frozen BK181.out 2
                      have hfz38_3 := blk_frozen BK181.out 3
                      have hfz38_4 := blk_frozen BK181.out 4
                      have hfz38_5 := blk_frozen BK181.out 5
                      have hfz38_6 := blk_frozen BK181.out 6
                      have hfz38_7 := blk_frozen BK181.out 7
                      have hfz38_8 := blk_frozen BK181.out 8
                      have hfz38_9 := blk_frozen BK181.out 9
                      have hfz38_10 := blk_frozen BK181.out 10
                      have hfz38_11 := blk_frozen BK181.out 11
                      go_wp2
                      go_meet
                      case rel => exact ⟨_, (false), (by first | rfl | (simp; done) | (simp [*]; done)), H', ⟨by have := HJ3.out; have := HJ14.out; first | omega | exact Nat.le_refl _⟩, ⟨by (with_reducible repeat (first | apply Kd.R_alloc | apply Kd.R_drewN | apply Kd.R_drew)); exact HO_7.out⟩, ⟨by (with_reducible repeat (first | refine blk_drewN ?_ _ | refine blk_drew ?_ | refine blk_alloc ?_ _)); exact BK181.out⟩, ⟨by (with_reducible repeat (first | refine blk_drewN ?_ _ | refine blk_drew ?_ | refine blk_alloc ?_ _)); exact BK182.out⟩, ⟨by repeat (first | (with_reducible first | exact HB.out | apply below_alloc | apply pw_below_drewN | apply below_drew1 | refine below_set ?_ GE181.out | refine below_set ?_ GE182.out) | exact HB.out)⟩⟩
                  case rest =>
                    clear HC28
                    try clear c1
                    try clear c2
                    try clear p2
                    try clear c3
                    try clear c6
                    try clear c7
                    try clear c7b0
                    try clear c8
                    try clear c9
                    try clear c10
                    try clear c11
                    try clear c12
                    try clear c14
                    try clear c14b0
                    try clear c14b1
                    try clear c16
                    try clear c19
                    try clear c19b0
                    try clear c20
                    try clear c22
                    try clear c24
                    try clear c27
                    try clear c29
                    try clear c34
                    try clear c34b0
                    try clear c34b1
                    try clear c35
                    try clear c37
                    try clear hcz11_0
                    try clear hcz11_1
                    try clear hcz11_2
                    try clear hcz11_3
                    try clear hcz17_0
                    try clear hcz17_1
                    try clear hcz17_10
                    try clear hcz17_11
                    try clear hcz17_2
                    try clear hcz17_3
                    try clear hcz17_4
                    try clear hcz17_5
                    try clear hcz17_6
                    try clear hcz17_7
                    try clear hcz17_8
                    try clear hcz17_9
                    try clear hcz21_0
                    try clear hcz21_1
                    try clear hcz21_10
                    try clear hcz21_11
                    try clear hcz21_2
                    try clear hcz21_3
                    try clear hcz21_4
                    try clear hcz21_5
                    try clear hcz21_6
                    try clear hcz21_7
                    try clear hcz21_8
                    try clear hcz21_9
                    try clear hcz23_0
                    try clear hcz23_1
                    try clear hcz23_10
                    try clear hcz23_11
                    try clear hcz23_2
                    try clear hcz23_3
                    try clear hcz23_4
                    try clear hcz23_5
                    try clear hcz23_6
                    try clear hcz23_7
                    try clear hcz23_8
                    try clear hcz23_9
                    try clear hcz30_0
                    try clear hcz30_1
                    try clear hcz30_10
                    try clear hcz30_11
                    try clear hcz30_2
                    try clear hcz30_3
                    try clear hcz30_4
                    try clear hcz30_5
                    try clear hcz30_6
                    try clear hcz30_7
                    try clear hcz30_8
                    try clear hcz30_9
                    try clear hcz31_0
                    try clear hcz31_1
                    try clear hcz31_2
                    try clear hcz31_3
                    try clear hcz36_0
                    try clear hcz36_1
                    try clear hcz36_10
                    try clear hcz36_11
                    try clear hcz36_2
                    try clear hcz36_3
                    try clear hcz36_4
                    try clear hcz36_5
                    try clear hcz36_6
                    try clear hcz36_7
                    try clear hcz36_8
                    try clear hcz36_9
                    try clear hcz38_0
                    try clear hcz38_1
                    try clear hcz38_10
                    try clear hcz38_11
                    try clear hcz38_2
                    try clear hcz38_3
                    try clear hcz38_4
                    try clear hcz38_5
                    try clear hcz38_6
                    try clear hcz38_7
                    try clear hcz38_8
                    try clear hcz38_9
                    try clear hcz9_0
                    try clear hcz9_1
                    try clear hcz9_2
                    try clear hcz9_3
                    try clear hfz11_0
                    try clear hfz11_1
                    try clear hfz11_2
                    try clear hfz11_3
                    try clear hfz17_0
                    try clear hfz17_1
                    try clear hfz17_10
                    try clear hfz17_11
                    try clear hfz17_2
                    try clear hfz17_3
                    try clear hfz17_4
                    try clear hfz17_5
                    try clear hfz17_6
                    try clear hfz17_7
                    try clear hfz17_8
                    try clear hfz17_9
                    try clear hfz21_0
                    try clear hfz21_1
                    try clear hfz21_10
                    try clear hfz21_11
                    try clear hfz21_2
                    try clear hfz21_3
                    try clear hfz21_4
                    try clear hfz21_5
                    try clear hfz21_6
                    try clear hfz21_7
                    try clear hfz21_8
                    try clear hfz21_9
                    try clear hfz23_0
                    try clear hfz23_1
                    try clear hfz23_10
                    try clear hfz23_11
                    try clear hfz23_2
                    try clear hfz23_3
                    try clear hfz23_4
                    try clear hfz23_5
                    try clear hfz23_6
                    try clear hfz23_7
                    try clear hfz23_8
                    try clear hfz23_9
                    try clear hfz30_0
                    try clear hfz30_1
                    try clear hfz30_10
                    try clear hfz30_11
                    try clear hfz30_2
                    try clear hfz30_3
                    try clear hfz30_4
                    try clear hfz30_5
                    try clear hfz30_6
                    try clear hfz30_7
                    try clear hfz30_8
                    try clear hfz30_9
                    try clear hfz31_0
                    try clear hfz31_1
                    try clear hfz31_2
                    try clear hfz31_3
                    try clear hfz36_0
                    try clear hfz36_1
                    try clear hfz36_10
                    try clear hfz36_11
                    try clear hfz36_2
                    try clear hfz36_3
                    try clear hfz36_4
                    try clear hfz36_5
                    try clear hfz36_6
                    try clear hfz36_7
                    try clear hfz36_8
                    try clear hfz36_9
                    try clear hfz38_0
                    try clear hfz38_1
                    try clear hfz38_10
                    try clear hfz38_11
                    try clear hfz38_2
                    try clear hfz38_3
                    try clear hfz38_4
                    try clear hfz38_5
                    try clear hfz38_6
                    try clear hfz38_7
                    try clear hfz38_8
                    try clear hfz38_9
                    try clear hfz9_0
                    try clear hfz9_1
                    try clear hfz9_2
                    try clear hfz9_3
                    try clear p2
                    obtain ⟨kq, x48_27, rfl, HA, HJ27, HO_7, BK181, BK182, HB⟩ := hcut
                    cases kq with
                    | zero => exact absurd HA.out (by simp [satchelref19_Check.j2])
                    | succ kj27 =>
                      have H := HA.out
                      clear HA
                      simp only [satchelref19_Check.j2] at H
                      by_cases c39 : x48_27 = true
                      · subst c39
                        have H1 : (some 192) = some r := by rw [if_pos rfl] at H; exact H
                        clear H
                        have H := H1
                        clear H1
                        obtain rfl := Option.some.inj H
                        go_wp2
                        go_ret
                        exact ⟨by first | rfl | (simp [errW_none, errW_some] <;> rfl) | (simp [*, errW_none, errW_some] <;> rfl), by repeat (first | (with_reducible first | exact HB.out | apply below_alloc | apply pw_below_drewN | apply below_drew1 | refine below_set ?_ GE181.out | refine below_set ?_ GE182.out) | exact HB.out)⟩
                      · replace c39 := Bool.eq_false_iff.mpr c39
                        subst c39
                        have H1 : (if a0_1 = 3 then ((satchelref10_Target.f kj27 a0_9).bind fun t193 => (if t193 = true then (if a2_3 = true then (satchelref19_Check.j3 kj27 false a0_0 a0_1 a0_2 a0_3 a0_4 a0_5 a0_6 a0_7 a0_8 a0_9 a0_10 a0_11) else (if 0 ≤ (wrap64 ((t183.length : Int) - 1)) then (if (wrap64 ((t183.length : Int) - 1)) ≤ (t183.length : Int) then ((satchelref09_Leaves.f kj27 (t183.take ((wrap64 ((t183.length : Int) - 1)) : Int).toNat) a0_9).bind fun t198 => (satchelref19_Check.j3 kj27 t198 a0_0 a0_1 a0_2 a0_3 a0_4 a0_5 a0_6 a0_7 a0_8 a0_9 a0_10 a0_11)) else (none)) else (none))) else (some 107))) else (if a0_1 = 4 then ((satchelref09_Split.f kj27 a0_9).bind fun bt203 => (some bt203.2)) else (some 0))) = some r := by rw [if_neg (show ¬ (false = true) by decide)] at H; exact H
                        clear H
                        have H := H1
                        clear H1
                        by_cases c40 : a0_1 = 3
                        · rw [if_pos c40] at H
                          have c40b0 : (a0_1 == 3) = true := beq_iff_eq.mpr c40
                          have c40b1 : (a0_1 != 3) = false := bne_eq_false_iff_eq.mpr c40
                          clear c40
                          replace H := Option.bind_eq_some_iff.mp H
                          obtain ⟨t193, A410, H⟩ := H
                          replace H : (if t193 = true then (if a2_3 = true then (satchelref19_Check.j3 kj27 false a0_0 a0_1 a0_2 a0_3 a0_4 a0_5 a0_6 a0_7 a0_8 a0_9 a0_10 a0_11) else (if 0 ≤ (wrap64 ((t183.length : Int) - 1)) then (if (wrap64 ((t183.length : Int) - 1)) ≤ (t183.length : Int) then ((satchelref09_Leaves.f kj27 (t183.take ((wrap64 ((t183.length : Int) - 1)) : Int).toNat) a0_9).bind fun t198 => (satchelref19_Check.j3 kj27 t198 a0_0 a0_1 a0_2 a0_3 a0_4 a0_5 a0_6 a0_7 a0_8 a0_9 a0_10 a0_11)) else (none)) else (none))) else (some 107)) = some r := H
                          have A41 := Aside0.mk A410
                          clear A410
                          by_cases c42 : t193 = true
                          · subst c42
                            have H1 : (if a2_3 = true then (satchelref19_Check.j3 kj27 false a0_0 a0_1 a0_2 a0_3 a0_4 a0_5 a0_6 a0_7 a0_8 a0_9 a0_10 a0_11) else (if 0 ≤ (wrap64 ((t183.length : Int) - 1)) then (if (wrap64 ((t183.length : Int) - 1)) ≤ (t183.length : Int) then ((satchelref09_Leaves.f kj27 (t183.take ((wrap64 ((t183.length : Int) - 1)) : Int).toNat) a0_9).bind fun t198 => (satchelref19_Check.j3 kj27 t198 a0_0 a0_1 a0_2 a0_3 a0_4 a0_5 a0_6 a0_7 a0_8 a0_9 a0_10 a0_11)) else (none)) else (none))) = some r := by rw [if_pos rfl] at H; exact H
                            clear H
                            have H := H1
                            clear H1
                            have HC43 := Aside0.mk H
                            clear H
                            have hnb44 := NB181_182.out
                            have hnc44 := NB182_181.out
                            have hcz45_0 : wc.cell? ⟨gb181, 0, none⟩ = some (.string a0_0) := (blk_cell BK181.out 0).trans rfl
                            have hcz45_1 : wc.cell? ⟨gb181, 1, none⟩ = some (.int .i64 a0_1) := (blk_cell BK181.out 1).trans rfl
                            have hcz45_2 : wc.cell? ⟨gb181, 2, none⟩ = some (.int .u32 a0_2) := (blk_cell BK181.out 2).trans rfl
                            have hcz45_3 : wc.cell? ⟨gb181, 3, none⟩ = some (.int .u32 a0_3) := (blk_cell BK181.out 3).trans rfl
                            have hcz45_4 : wc.cell? ⟨gb181, 4, none⟩ = some (.int .u32 a0_4) := (blk_cell BK181.out 4).trans rfl
                            have hcz45_5 : wc.cell? ⟨gb181, 5, none⟩ = some (.int .i64 a0_5) := (blk_cell BK181.out 5).trans rfl
                            have hcz45_6 : wc.cell? ⟨gb181, 6, none⟩ = some (.int .i32 a0_6) := (blk_cell BK181.out 6).trans rfl
                            have hcz45_7 : wc.cell? ⟨gb181, 7, none⟩ = some (.string a0_7) := (blk_cell BK181.out 7).trans rfl
                            have hcz45_8 : wc.cell? ⟨gb181, 8, none⟩ = some (.string a0_8) := (blk_cell BK181.out 8).trans rfl
                            have hcz45_9 : wc.cell? ⟨gb181, 9, none⟩ = some (.string a0_9) := (blk_cell BK181.out 9).trans rfl
                            have hcz45_10 : wc.cell? ⟨gb181, 10, none⟩ = some (.int .i64 a0_10) := (blk_cell BK181.out 10).trans rfl
                            have hcz45_11 : wc.cell? ⟨gb181, 11, none⟩ = some (.int .u8 a0_11) := (blk_cell BK181.out 11).trans rfl
                            have hfz45_0 := blk_frozen BK181.out 0
                            have hfz45_1 := blk_frozen BK181.out 1
                            have hfz45_2 := blk_frozen BK181.out 2
                            have hfz45_3 := blk_frozen BK181.out 3
                            have hfz45_4 := blk_frozen BK181.out 4
                            have hfz45_5 := blk_frozen BK181.out 5
                            have hfz45_6 := blk_frozen BK181.out 6
                            have hfz45_7 := blk_frozen BK181.out 7
                            have hfz45_8 := blk_frozen BK181.out 8
                            have hfz45_9 := blk_frozen BK181.out 9
                            have hfz45_10 := blk_frozen BK181.out 10
                            have hfz45_11 := blk_frozen BK181.out 11
                            go_upto_region 15 with (first | ((with_reducible refine gate_callee (f := 12) rfl ?_); refine goesL_ (some 54) rfl rfl Tryd.func12 (by kernel_rfl) rfl #[.string a0_9] rfl (by (try simp only [List.map_toArray, List.map_cons, List.map_nil]); first | done | rfl | (simp only [List.length_drop, List.length_take]; rfl)) ?_; (with_reducible refine (satchelref10_Target.calls kj27 a0_9 true _ ?side1 A41.out).mono ?_); (case side1 => exact Gv_below HG.out (by repeat (first | (with_reducible first | exact HB.out | apply below_alloc | apply pw_below_drewN | apply below_drew1 | refine below_set ?_ GE181.out | refine below_set ?_ GE182.out) | exact HB.out))); rintro e w' ⟨rfl, ⟨nd, rfl⟩⟩; refine ⟨_, rfl, ?_⟩))
                            (try simp only [Act.put, List.setIfInBounds_toArray, List.set_cons_zero, List.set_cons_succ])
                            have n0_ := Aside0.mk (Kd.R_drewN HO_7.out nd)
                            have n1_ := Aside0.mk (blk_drewN BK181.out nd)
                            have n2_ := Aside0.mk (blk_drewN BK182.out nd)
                            have n3_ := Aside0.mk (pw_below_drewN HB.out nd)
                            clear HO_7 BK181 BK182 HB
                            have HO_7 := n0_
                            have BK181 := n1_
                            have BK182 := n2_
                            have HB := n3_
                            clear n0_ n1_ n2_ n3_
                            generalize wc.drewN nd = wc at HO_7 BK181 BK182 HB ⊢
                            go_cut [68] (fun v68 wc => ∃ (kq : Nat) (x68_42 : Bool), v68 = .bool x68_42 ∧ Aside0 (satchelref19_Check.j3 kq x68_42 a0_0 a0_1 a0_2 a0_3 a0_4 a0_5 a0_6 a0_7 a0_8 a0_9 a0_10 a0_11 = some r) ∧ Aside0 (kq ≤ kj27) ∧ Aside0 (wc.heap[gb181]? = some (.cells #[.string a0_0, .int .i64 a0_1, .int .u32 a0_2, .int .u32 a0_3, .int .u32 a0_4, .int .i64 a0_5, .int .i32 a0_6, .string a0_7, .string a0_8, .string a0_9, .int .i64 a0_10, .int .u8 a0_11] 26 (0, 0))) ∧ Aside0 (wc.heap[gb182]? = some (.cells #[.int .i64 a2_0, .bool a2_1, .int .u32 a2_2, .bool a2_3] 29 (0, 0))) ∧ Aside0 (Below w.heap.size w wc))
                            case first =>
                              have H := HC43.out
                              clear HC43
                              by_cases c46 : a2_3 = true
                              · subst c46
                                have H1 : (satchelref19_Check.j3 kj27 false a0_0 a0_1 a0_2 a0_3 a0_4 a0_5 a0_6 a0_7 a0_8 a0_9 a0_10 a0_11) = some r := by rw [if_pos rfl] at H; exact H
                                clear H
                                have H := H1
                                clear H1
                                have H' := Aside0.mk H
                                clear H
                                try go_wp2
                                have n0_ := Aside0.mk (Kd.R_drew HO_7.out)
                                have n1_ := Aside0.mk (blk_drew BK181.out)
                                have n2_ := Aside0.mk (blk_drew BK182.out)
                                have n3_ := Aside0.mk (below_drew1 HB.out)
                                clear HO_7
                                clear BK181
                                clear BK182
                                clear HB
                                have HO_7 := n0_
                                have BK181 := n1_
                                have BK182 := n2_
                                have HB := n3_
                                clear n0_ n1_ n2_ n3_
                                refine start_ (n := 13) (S := fun w' => w'.cell? ⟨gb182, 0, none⟩ = some (.int .i64 a2_0) ∧ w'.cell? ⟨gb182, 1, none⟩ = some (.bool a2_1) ∧ w'.cell? ⟨gb182, 2, none⟩ = some (.int .u32 a2_2) ∧ w'.cell? ⟨gb182, 3, none⟩ = some (.bool true)) (ds := []) #[false, false, false, false, false, false, false, false, false, false, false, false, false] (by kernel_rfl) rfl rfl ⟨(blk_cell BK182.out 0).trans rfl, (blk_cell BK182.out 1).trans rfl, (blk_cell BK182.out 2).trans rfl, (blk_cell BK182.out 3).trans rfl⟩ (fun hHeld => ?_); refine with_tabW satchelref19_Check.tab15 satchelref19_Check.bits15 (fun HT_ HW_ => ?_)
                                generalize wc.drew = w47 at HO_7 BK181 BK182 HB hHeld ⊢
                                refine pure_ (i := 0) (N := some 56) (v := ?_) (a' := ?_) #[true, false, false, false, false, false, false, false, false, false, false, false, false] rfl rfl (any_of HT_.out (by kernel_rfl)) (fun _ _ _ h => h) (Or.inl ⟨by rfl, ?_⟩) ?_ ?_
                                rotate_left
                                · intro w'
                                  go_simp
                                  with_reducible rfl
                                rotate_left
                                · simp only [Act.put, List.setIfInBounds_toArray, List.set_cons_zero, List.set_cons_succ, i64_w, i32_w]
                                  rfl
                                refine take_ (i := 1) (N := some 57) (v := ?_) (a' := ?_) #[true, true, false, false, false, false, false, false, false, false, false, false, false] rfl rfl (take_ofW HT_.out HW_.out (by kernel_rfl)) (fun _ _ _ h => h) (Or.inl ⟨by rfl, ?_⟩) hHeld ?_ ?_
                                rotate_left
                                · rintro w' ⟨s0, s1, s2, s3⟩
                                  go_simp
                                  with_reducible rfl
                                rotate_left
                                · simp only [Act.put, List.setIfInBounds_toArray, List.set_cons_zero, List.set_cons_succ, i64_w, i32_w]
                                  rfl
                                refine pure_ (i := 2) (N := some 58) (v := ?_) (a' := ?_) #[true, true, true, false, false, false, false, false, false, false, false, false, false] rfl rfl (any_of HT_.out (by kernel_rfl)) (fun _ _ _ h => h) (Or.inl ⟨by rfl, ?_⟩) ?_ ?_
                                rotate_left
                                · intro w'
                                  go_simp
                                  with_reducible rfl
                                rotate_left
                                · simp only [Act.put, List.setIfInBounds_toArray, List.set_cons_zero, List.set_cons_succ, i64_w, i32_w]
                                  rfl
                                refine pure_ (i := 3) (N := some 59) (v := ?_) (a' := ?_) #[true, true, true, true, false, false, false, false, false, false, false, false, false] rfl rfl (any_of HT_.out (by kernel_rfl)) (fun _ _ _ h => h) (Or.inl ⟨by rfl, ?_⟩) ?_ ?_
                                rotate_left
                                · intro w'
                                  go_simp
                                  with_reducible rfl
                                rotate_left
                                · simp only [Act.put, List.setIfInBounds_toArray, List.set_cons_zero, List.set_cons_succ, i64_w, i32_w]
                                  rfl
                                refine pure_ (i := 4) (N := some 60) (v := undef) (a' := ?_) #[true, true, true, true, true, false, false, false, false, false, false, false, false] rfl rfl (any_of HT_.out (by kernel_rfl)) (fun _ _ _ h => h) (Or.inr ⟨by rfl, rfl⟩) ?_ ?_
                                rotate_left
                                · simp only [Act.put, List.setIfInBounds_toArray, List.set_cons_zero, List.set_cons_succ, i64_w, i32_w]
                                  rfl
                                refine pure_ (i := 5) (N := some 61) (v := undef) (a' := ?_) #[true, true, true, true, true, true, false, false, false, false, false, false, false] rfl rfl (any_of HT_.out (by kernel_rfl)) (fun _ _ _ h => h) (Or.inr ⟨by rfl, rfl⟩) ?_ ?_
                                rotate_left
                                · simp only [Act.put, List.setIfInBounds_toArray, List.set_cons_zero, List.set_cons_succ, i64_w, i32_w]
                                  rfl
                                refine pure_ (i := 6) (N := some 62) (v := undef) (a' := ?_) #[true, true, true, true, true, true, true, false, false, false, false, false, false] rfl rfl (any_of HT_.out (by kernel_rfl)) (fun _ _ _ h => h) (Or.inr ⟨by rfl, rfl⟩) ?_ ?_
                                rotate_left
                                · simp only [Act.put, List.setIfInBounds_toArray, List.set_cons_zero, List.set_cons_succ, i64_w, i32_w]
                                  rfl
                                refine pure_ (i := 7) (N := some 63) (v := undef) (a' := ?_) #[true, true, true, true, true, true, true, true, false, false, false, false, false] rfl rfl (any_of HT_.out (by kernel_rfl)) (fun _ _ _ h => h) (Or.inr ⟨by rfl, rfl⟩) ?_ ?_
                                rotate_left
                                · simp only [Act.put, List.setIfInBounds_toArray, List.set_cons_zero, List.set_cons_succ, i64_w, i32_w]
                                  rfl
                                refine pure_ (i := 8) (N := some 64) (v := undef) (a' := ?_) #[true, true, true, true, true, true, true, true, true, false, false, false, false] rfl rfl (any_of HT_.out (by kernel_rfl)) (fun _ _ _ h => h) (Or.inr ⟨by rfl, rfl⟩) ?_ ?_
                                rotate_left
                                · simp only [Act.put, List.setIfInBounds_toArray, List.set_cons_zero, List.set_cons_succ, i64_w, i32_w]
                                  rfl
                                refine pure_ (i := 9) (N := some 65) (v := undef) (a' := ?_) #[true, true, true, true, true, true, true, true, true, true, false, false, false] rfl rfl (any_of HT_.out (by kernel_rfl)) (fun _ _ _ h => h) (Or.inr ⟨by rfl, rfl⟩) ?_ ?_
                                rotate_left
                                · simp only [Act.put, List.setIfInBounds_toArray, List.set_cons_zero, List.set_cons_succ, i64_w, i32_w]
                                  rfl
                                refine pure_ (i := 10) (N := some 66) (v := undef) (a' := ?_) #[true, true, true, true, true, true, true, true, true, true, true, false, false] rfl rfl (any_of HT_.out (by kernel_rfl)) (fun _ _ _ h => h) (Or.inr ⟨by rfl, rfl⟩) ?_ ?_
                                rotate_left
                                · simp only [Act.put, List.setIfInBounds_toArray, List.set_cons_zero, List.set_cons_succ, i64_w, i32_w]
                                  rfl
                                refine pure_ (i := 11) (N := some 67) (v := undef) (a' := ?_) #[true, true, true, true, true, true, true, true, true, true, true, true, false] rfl rfl (any_of HT_.out (by kernel_rfl)) (fun _ _ _ h => h) (Or.inr ⟨by rfl, rfl⟩) ?_ ?_
                                rotate_left
                                · simp only [Act.put, List.setIfInBounds_toArray, List.set_cons_zero, List.set_cons_succ, i64_w, i32_w]
                                  rfl
                                refine pure_ (i := 12) (N := some 68) (v := ?_) (a' := ?_) #[true, true, true, true, true, true, true, true, true, true, true, true, true] rfl rfl (any_of HT_.out (by kernel_rfl)) (fun _ _ _ h => h) (Or.inl ⟨by rfl, ?_⟩) ?_ ?_
                                rotate_left
                                · intro w'
                                  go_simp
                                  with_reducible rfl
                                rotate_left
                                · simp only [Act.put, List.setIfInBounds_toArray, List.set_cons_zero, List.set_cons_succ, i64_w, i32_w]
                                  rfl
                                refine done_ (done_of HT_.out (by kernel_rfl)) ?_
                                try go_wp2
                                go_meet
                                case rel => exact ⟨_, (false), (by first | rfl | (simp; done) | (simp [*]; done)), H', ⟨by have := HJ3.out; have := HJ14.out; have := HJ27.out; first | omega | exact Nat.le_refl _⟩, ⟨by (with_reducible repeat (first | refine blk_drewN ?_ _ | refine blk_drew ?_ | refine blk_alloc ?_ _)); exact BK181.out⟩, ⟨by (with_reducible repeat (first | refine blk_drewN ?_ _ | refine blk_drew ?_ | refine blk_alloc ?_ _)); exact BK182.out⟩, ⟨by repeat (first | (with_reducible first | exact HB.out | apply below_alloc | apply pw_below_drewN | apply below_drew1 | refine below_set ?_ GE181.out | refine below_set ?_ GE182.out) | exact HB.out)⟩⟩
                              · replace c46 := Bool.eq_false_iff.mpr c46
                                subst c46
                                have H1 : (if 0 ≤ (wrap64 ((t183.length : Int) - 1)) then (if (wrap64 ((t183.length : Int) - 1)) ≤ (t183.length : Int) then ((satchelref09_Leaves.f kj27 (t183.take ((wrap64 ((t183.length : Int) - 1)) : Int).toNat) a0_9).bind fun t198 => (satchelref19_Check.j3 kj27 t198 a0_0 a0_1 a0_2 a0_3 a0_4 a0_5 a0_6 a0_7 a0_8 a0_9 a0_10 a0_11)) else (none)) else (none)) = some r := by rw [if_neg (show ¬ (false = true) by decide)] at H; exact H
                                clear H
                                have H := H1
                                clear H1
                                obtain ⟨ji48, hji48⟩ : ∃ j_ : Int, (wrap64 ((t183.length : Int) - 1)) = j_ := ⟨_, rfl⟩
                                replace H : (if 0 ≤ (ji48) then (if (ji48) ≤ (t183.length : Int) then ((satchelref09_Leaves.f kj27 (t183.take ((ji48) : Int).toNat) a0_9).bind fun t198 => (satchelref19_Check.j3 kj27 t198 a0_0 a0_1 a0_2 a0_3 a0_4 a0_5 a0_6 a0_7 a0_8 a0_9 a0_10 a0_11)) else (none)) else (none)) = some r := by first | (rw [hji48] at H; exact H) | (simp only [hji48] at H ⊢; exact H)
                                have hji48w : (IntKind.i64.wrap ((t183.length : Int) - 1)) = ji48 := (i64_w _).trans hji48
                                by_cases c49 : 0 ≤ (ji48)
                                · rw [if_pos c49] at H
                                  have c49b0 := eq_true c49
                                  have c49b1 : decide (0 ≤ (ji48)) = true := decide_eq_true c49
                                  clear c49
                                  by_cases c50 : (ji48) ≤ (t183.length : Int)
                                  · rw [if_pos c50] at H
                                    have c50b0 := eq_true c50
                                    have c50b1 : decide ((ji48) ≤ (t183.length : Int)) = true := decide_eq_true c50
                                    clear c50
                                    obtain ⟨y194, hy194⟩ : ∃ y_ : List ByteArray, y_ = (t183.take ((ji48) : Int).toNat) := ⟨_, rfl⟩
                                    replace H : ((satchelref09_Leaves.f kj27 y194 a0_9).bind fun t198 => (satchelref19_Check.j3 kj27 t198 a0_0 a0_1 a0_2 a0_3 a0_4 a0_5 a0_6 a0_7 a0_8 a0_9 a0_10 a0_11)) = some r := by first | (rw [hy194]; with_reducible exact H) | (have H2_ := (Option.bind_some _ _).symm.trans H; rw [hy194]; with_reducible exact H2_) | (have H2_ := (Option.bind_some _ _).symm.trans H; with_reducible exact H2_) | with_reducible exact H | (rw [hy194]; exact H) | exact H
                                    have Ny194 := Aside0.mk hy194
                                    clear hy194
                                    replace H := Option.bind_eq_some_iff.mp H
                                    obtain ⟨t198, A510, H⟩ := H
                                    replace H : (satchelref19_Check.j3 kj27 t198 a0_0 a0_1 a0_2 a0_3 a0_4 a0_5 a0_6 a0_7 a0_8 a0_9 a0_10 a0_11) = some r := H
                                    have A51 := Aside0.mk A510
                                    clear A510
                                    have H' := Aside0.mk H
                                    clear H
                                    try go_wp2
                                    have n0_ := Aside0.mk (Kd.R_drew HO_7.out)
                                    have n1_ := Aside0.mk (blk_drew BK181.out)
                                    have n2_ := Aside0.mk (blk_drew BK182.out)
                                    have n3_ := Aside0.mk (below_drew1 HB.out)
                                    clear HO_7
                                    clear BK181
                                    clear BK182
                                    clear HB
                                    have HO_7 := n0_
                                    have BK181 := n1_
                                    have BK182 := n2_
                                    have HB := n3_
                                    clear n0_ n1_ n2_ n3_
                                    obtain ⟨Ao53, co53, eo53⟩ := Kd.R_slice HO_7.out
                                    (first | subst eo53 | (injection eo53 with f1_ f2_ f3_; have f4_ := f1_.symm; have f5_ := f3_.symm; clear f1_ f2_ f3_; subst f4_; subst f5_))
                                    have q54 : ((ji48) : Int) ≤ ((t183.length : Int) : Int) := of_decide_eq_true (by first | (with_reducible assumption) | assumption)
                                    obtain ⟨i054, hi054, _, hsz54, _⟩ := info_parts info9
                                    have hroom54 : t183.length ≤ co53 := (Kd.R_reads' HO_7.out).2.1
                                    have hC54 : Kd.C Kd.string _ Ao53 t183.length t183 := (Kd.R_reads' HO_7.out).2.2
                                    have hcut54 := cut_to (P := Tryd.prog) 38 9 .i64 Tryd.underlying38 hi054 Ao53 t183.length co53 (ji48) (of_decide_eq_true (by first | (with_reducible assumption) | assumption)) q54 hroom54
                                    have hr54 := Kd.C_take (m := ((ji48) : Int).toNat) hC54 (by omega)
                                    have hy54 : y194.length = ((ji48) : Int).toNat := (by rw [Ny194.out, List.length_take]; omega)
                                    rw [← Ny194.out] at hr54
                                    rw [← hy54] at hcut54
                                    have HR197 := Aside0.mk hr54
                                    have HC197 := Aside0.mk (show y194.length ≤ co53 from by omega)
                                    clear hr54 hC54 hroom54 hi054 hsz54
                                    have KY54 := Aside0.mk hy54
                                    clear hy54
                                    have KL54 := Aside0.mk (show ((ji48) : Int).toNat ≤ t183.length from by omega)
                                    replace q54 := eq_true q54
                                    refine start_ (n := 13) (S := fun w' => w'.cell? ⟨gb182, 0, none⟩ = some (.int .i64 a2_0) ∧ w'.cell? ⟨gb182, 1, none⟩ = some (.bool a2_1) ∧ w'.cell? ⟨gb182, 2, none⟩ = some (.int .u32 a2_2) ∧ w'.cell? ⟨gb182, 3, none⟩ = some (.bool false) ∧ w'.cell? ⟨gb181, 0, none⟩ = some (.string a0_0) ∧ w'.cell? ⟨gb181, 1, none⟩ = some (.int .i64 a0_1) ∧ w'.cell? ⟨gb181, 2, none⟩ = some (.int .u32 a0_2) ∧ w'.cell? ⟨gb181, 3, none⟩ = some (.int .u32 a0_3) ∧ w'.cell? ⟨gb181, 4, none⟩ = some (.int .u32 a0_4) ∧ w'.cell? ⟨gb181, 5, none⟩ = some (.int .i64 a0_5) ∧ w'.cell? ⟨gb181, 6, none⟩ = some (.int .i32 a0_6) ∧ w'.cell? ⟨gb181, 7, none⟩ = some (.string a0_7) ∧ w'.cell? ⟨gb181, 8, none⟩ = some (.string a0_8) ∧ w'.cell? ⟨gb181, 9, none⟩ = some (.string a0_9) ∧ w'.cell? ⟨gb181, 10, none⟩ = some (.int .i64 a0_10) ∧ w'.cell? ⟨gb181, 11, none⟩ = some (.int .u8 a0_11)) (ds := []) #[false, false, false, false, false, false, false, false, false, false, false, false, false] (by kernel_rfl) rfl rfl ⟨(blk_cell BK182.out 0).trans rfl, (blk_cell BK182.out 1).trans rfl, (blk_cell BK182.out 2).trans rfl, (blk_cell BK182.out 3).trans rfl, (blk_cell BK181.out 0).trans rfl, (blk_cell BK181.out 1).trans rfl, (blk_cell BK181.out 2).trans rfl, (blk_cell BK181.out 3).trans rfl, (blk_cell BK181.out 4).trans rfl, (blk_cell BK181.out 5).trans rfl, (blk_cell BK181.out 6).trans rfl, (blk_cell BK181.out 7).trans rfl, (blk_cell BK181.out 8).trans rfl, (blk_cell BK181.out 9).trans rfl, (blk_cell BK181.out 10).trans rfl, (blk_cell BK181.out 11).trans rfl⟩ (fun hHeld => ?_); refine with_tabW satchelref19_Check.tab15 satchelref19_Check.bits15 (fun HT_ HW_ => ?_)
                                    generalize wc.drew = w52 at HO_7 BK181 BK182 HB HR197 hHeld ⊢
                                    refine pure_ (i := 0) (N := some 56) (v := ?_) (a' := ?_) #[true, false, false, false, false, false, false, false, false, false, false, false, false] rfl rfl (any_of HT_.out (by kernel_rfl)) (fun _ _ _ h => h) (Or.inl ⟨by rfl, ?_⟩) ?_ ?_
                                    rotate_left
                                    · intro w'
                                      go_simp
                                      with_reducible rfl
                                    rotate_left
                                    · simp only [Act.put, List.setIfInBounds_toArray, List.set_cons_zero, List.set_cons_succ, i64_w, i32_w]
                                      rfl
                                    refine take_ (i := 1) (N := some 57) (v := ?_) (a' := ?_) #[true, true, false, false, false, false, false, false, false, false, false, false, false] rfl rfl (take_ofW HT_.out HW_.out (by kernel_rfl)) (fun _ _ _ h => h) (Or.inl ⟨by rfl, ?_⟩) hHeld ?_ ?_
                                    rotate_left
                                    · rintro w' ⟨s0, s1, s2, s3, s4, s5, s6, s7, s8, s9, s10, s11, s12, s13, s14, s15⟩
                                      go_simp
                                      with_reducible rfl
                                    rotate_left
                                    · simp only [Act.put, List.setIfInBounds_toArray, List.set_cons_zero, List.set_cons_succ, i64_w, i32_w]
                                      rfl
                                    refine pure_ (i := 2) (N := some 58) (v := ?_) (a' := ?_) #[true, true, true, false, false, false, false, false, false, false, false, false, false] rfl rfl (any_of HT_.out (by kernel_rfl)) (fun _ _ _ h => h) (Or.inl ⟨by rfl, ?_⟩) ?_ ?_
                                    rotate_left
                                    · intro w'
                                      go_simp
                                      with_reducible rfl
                                    rotate_left
                                    · simp only [Act.put, List.setIfInBounds_toArray, List.set_cons_zero, List.set_cons_succ, i64_w, i32_w]
                                      rfl
                                    refine pure_ (i := 3) (N := some 59) (v := ?_) (a' := ?_) #[true, true, true, true, false, false, false, false, false, false, false, false, false] rfl rfl (any_of HT_.out (by kernel_rfl)) (fun _ _ _ h => h) (Or.inl ⟨by rfl, ?_⟩) ?_ ?_
                                    rotate_left
                                    · intro w'
                                      go_simp
                                      with_reducible rfl
                                    rotate_left
                                    · simp only [Act.put, List.setIfInBounds_toArray, List.set_cons_zero, List.set_cons_succ, i64_w, i32_w]
                                      rfl
                                    refine pure_ (i := 4) (N := some 60) (v := ?_) (a' := ?_) #[true, true, true, true, true, false, false, false, false, false, false, false, false] rfl rfl (any_of HT_.out (by kernel_rfl)) (fun _ _ _ h => h) (Or.inl ⟨by rfl, ?_⟩) ?_ ?_
                                    rotate_left
                                    · intro w'
                                      go_simp
                                      with_reducible rfl
                                    rotate_left
                                    · simp only [Act.put, List.setIfInBounds_toArray, List.set_cons_zero, List.set_cons_succ, i64_w, i32_w]
                                      rfl
                                    refine pure_ (i := 5) (N := some 61) (v := ?_) (a' := ?_) #[true, true, true, true, true, true, false, false, false, false, false, false, false] rfl rfl (any_of HT_.out (by kernel_rfl)) (fun _ _ _ h => h) (Or.inl ⟨by rfl, ?_⟩) ?_ ?_
                                    rotate_left
                                    · intro w'
                                      go_simp
                                      with_reducible rfl
                                    rotate_left
                                    · simp only [Act.put, List.setIfInBounds_toArray, List.set_cons_zero, List.set_cons_succ, i64_w, i32_w]
                                      rfl
                                    refine pure_ (i := 6) (N := some 62) (v := ?_) (a' := ?_) #[true, true, true, true, true, true, true, false, false, false, false, false, false] rfl rfl (any_of HT_.out (by kernel_rfl)) (fun _ _ _ h => h) (Or.inl ⟨by rfl, ?_⟩) ?_ ?_
                                    rotate_left
                                    · intro w'
                                      go_simp
                                      with_reducible rfl
                                    rotate_left
                                    · simp only [Act.put, List.setIfInBounds_toArray, List.set_cons_zero, List.set_cons_succ, i64_w, i32_w]
                                      rfl
                                    refine pure_ (i := 7) (N := some 63) (v := ?_) (a' := ?_) #[true, true, true, true, true, true, true, true, false, false, false, false, false] rfl rfl (any_of HT_.out (by kernel_rfl)) (fun _ _ _ h => h) (Or.inl ⟨by rfl, ?_⟩) ?_ ?_
                                    rotate_left
                                    · intro w'
                                      go_simp
                                      with_reducible rfl
                                    rotate_left
                                    · simp only [Act.put, List.setIfInBounds_toArray, List.set_cons_zero, List.set_cons_succ, i64_w, i32_w]
                                      rfl
                                    refine pure_ (i := 8) (N := some 64) (v := ?_) (a' := ?_) #[true, true, true, true, true, true, true, true, true, false, false, false, false] rfl rfl (any_of HT_.out (by kernel_rfl)) (fun _ _ _ h => h) (Or.inl ⟨by rfl, ?_⟩) ?_ ?_
                                    rotate_left
                                    · intro w'
                                      go_simp
                                      with_reducible rfl
                                    rotate_left
                                    · simp only [Act.put, List.setIfInBounds_toArray, List.set_cons_zero, List.set_cons_succ, i64_w, i32_w]
                                      rfl
                                    refine pure_ (i := 9) (N := some 65) (v := ?_) (a' := ?_) #[true, true, true, true, true, true, true, true, true, true, false, false, false] rfl rfl (any_of HT_.out (by kernel_rfl)) (fun _ _ _ h => h) (Or.inl ⟨by rfl, ?_⟩) ?_ ?_
                                    rotate_left
                                    · intro w'
                                      go_simp
                                      with_reducible rfl
                                    rotate_left
                                    · simp only [Act.put, List.setIfInBounds_toArray, List.set_cons_zero, List.set_cons_succ, i64_w, i32_w]
                                      rfl
                                    refine take_ (i := 10) (N := some 66) (v := ?_) (a' := ?_) #[true, true, true, true, true, true, true, true, true, true, true, false, false] rfl rfl (take_ofW HT_.out HW_.out (by kernel_rfl)) (fun _ _ _ h => h) (Or.inl ⟨by rfl, ?_⟩) hHeld ?_ ?_
                                    rotate_left
                                    · rintro w' ⟨s0, s1, s2, s3, s4, s5, s6, s7, s8, s9, s10, s11, s12, s13, s14, s15⟩
                                      go_simp
                                      with_reducible rfl
                                    rotate_left
                                    · simp only [Act.put, List.setIfInBounds_toArray, List.set_cons_zero, List.set_cons_succ, i64_w, i32_w]
                                      rfl
                                    refine one_ (i := 11) (N := some 67) #[true, true, true, true, true, true, true, true, true, true, true, true, false] rfl rfl (one_of HT_.out (by kernel_rfl)) (by decide) (fun K hK => ?_)
                                    refine goes_ Tryd.func13 (by kernel_rfl) rfl #[.slice Ao53 y194.length co53, .string a0_9] (by rfl) rfl rfl (by (try simp only [List.map_toArray, List.map_cons, List.map_nil]); first | done | rfl | (simp only [List.length_drop, List.length_take]; rfl)) ?_
                                    with_reducible refine (satchelref09_Leaves.calls kj27 _ _ y194 a0_9 t198 _ ?side3 ?side1 ?side2 A51.out).mono ?_
                                    (case side1 => repeat (first | exact (by repeat (first | (with_reducible exact HR197.out) | (with_reducible refine Kd.C_alloc ?_ _) | (with_reducible refine Kd.C_drewN ?_ _) | (with_reducible refine Kd.C_drew ?_) | exact HR197.out)) | (with_reducible refine Kd.C_alloc ?_ _) | (with_reducible refine Kd.C_drewN ?_ _) | (with_reducible refine Kd.C_drew ?_)))
                                    (case side2 => exact HC197.out)
                                    (case side3 => exact Gv_below HG.out (by repeat (first | (with_reducible first | exact HB.out | apply below_alloc | apply pw_below_drewN | apply below_drew1 | refine below_set ?_ GE181.out | refine below_set ?_ GE182.out) | exact HB.out)))
                                    rintro e w55 ⟨rfl, hb⟩
                                    refine ⟨_, rfl, ?_⟩
                                    have n0_ := Aside0.mk (Kd.R_below (by (with_reducible repeat (first | apply Kd.R_alloc | apply Kd.R_drewN | apply Kd.R_drew)); exact HO_7.out) hb)
                                    have n1_ := Aside0.mk (blk_below (g := gb181) (o := .cells #[.string a0_0, .int .i64 a0_1, .int .u32 a0_2, .int .u32 a0_3, .int .u32 a0_4, .int .i64 a0_5, .int .i32 a0_6, .string a0_7, .string a0_8, .string a0_9, .int .i64 a0_10, .int .u8 a0_11] 26 (0, 0)) (by (with_reducible repeat (first | refine blk_drewN ?_ _ | refine blk_drew ?_ | refine blk_alloc ?_ _)); exact BK181.out) hb)
                                    have n2_ := Aside0.mk (blk_below (g := gb182) (o := .cells #[.int .i64 a2_0, .bool a2_1, .int .u32 a2_2, .bool false] 29 (0, 0)) (by (with_reducible repeat (first | refine blk_drewN ?_ _ | refine blk_drew ?_ | refine blk_alloc ?_ _)); exact BK182.out) hb)
                                    have n3_ := Aside0.mk (Kd.C_below (by repeat (first | (with_reducible exact HR197.out) | (with_reducible refine Kd.C_alloc ?_ _) | (with_reducible refine Kd.C_drewN ?_ _) | (with_reducible refine Kd.C_drew ?_) | exact HR197.out)) hb)
                                    have n4_ := Aside0.mk (below_step (by repeat (first | (with_reducible first | exact HB.out | apply below_alloc | apply pw_below_drewN | apply below_drew1 | refine below_set ?_ GE181.out | refine below_set ?_ GE182.out) | exact HB.out)) hb)
                                    clear HO_7
                                    clear BK181
                                    clear BK182
                                    clear HR197
                                    clear HB
                                    have HO_7 := n0_
                                    have BK181 := n1_
                                    have BK182 := n2_
                                    have HR197 := n3_
                                    have HB := n4_
                                    clear n0_ n1_ n2_ n3_ n4_
                                    (try clear hb)
                                    (try clear hb2)
                                    (try clear hk)
                                    (try clear hi)
                                    refine hK.out _ _ ⟨(blk_cell BK182.out 0).trans rfl, (blk_cell BK182.out 1).trans rfl, (blk_cell BK182.out 2).trans rfl, (blk_cell BK182.out 3).trans rfl, (blk_cell BK181.out 0).trans rfl, (blk_cell BK181.out 1).trans rfl, (blk_cell BK181.out 2).trans rfl, (blk_cell BK181.out 3).trans rfl, (blk_cell BK181.out 4).trans rfl, (blk_cell BK181.out 5).trans rfl, (blk_cell BK181.out 6).trans rfl, (blk_cell BK181.out 7).trans rfl, (blk_cell BK181.out 8).trans rfl, (blk_cell BK181.out 9).trans rfl, (blk_cell BK181.out 10).trans rfl, (blk_cell BK181.out 11).trans rfl⟩ (fun hHeld => ?_)
                                    clear hK K
                                    refine norm_ (a' := ?_) ?_ ?_
                                    rotate_left
                                    · show Act.put _ (some 67) _ = _
                                      simp only [Act.put, List.setIfInBounds_toArray, List.set_cons_zero, List.set_cons_succ, i64_w, i32_w]
                                      rfl
                                    refine pure_ (i := 12) (N := some 68) (v := ?_) (a' := ?_) #[true, true, true, true, true, true, true, true, true, true, true, true, true] rfl rfl (any_of HT_.out (by kernel_rfl)) (fun _ _ _ h => h) (Or.inl ⟨by rfl, ?_⟩) ?_ ?_
                                    rotate_left
                                    · intro w'
                                      go_simp
                                      with_reducible rfl
                                    rotate_left
                                    · simp only [Act.put, List.setIfInBounds_toArray, List.set_cons_zero, List.set_cons_succ, i64_w, i32_w]
                                      rfl
                                    refine done_ (done_of HT_.out (by kernel_rfl)) ?_
                                    try go_wp2
                                    go_meet
                                    case rel => exact ⟨_, (t198), (by first | rfl | (simp; done) | (simp [*]; done)), H', ⟨by have := HJ3.out; have := HJ14.out; have := HJ27.out; first | omega | exact Nat.le_refl _⟩, ⟨by (with_reducible repeat (first | refine blk_drewN ?_ _ | refine blk_drew ?_ | refine blk_alloc ?_ _)); exact BK181.out⟩, ⟨by (with_reducible repeat (first | refine blk_drewN ?_ _ | refine blk_drew ?_ | refine blk_alloc ?_ _)); exact BK182.out⟩, ⟨by repeat (first | (with_reducible first | exact HB.out | apply below_alloc | apply pw_below_drewN | apply below_drew1 | refine below_set ?_ GE181.out | refine below_set ?_ GE182.out) | exact HB.out)⟩⟩
                                  · rw [if_neg c50] at H
                                    exact absurd H (by simp)
                                · rw [if_neg c49] at H
                                  exact absurd H (by simp)
                            case rest =>
                              clear HC43
                              try clear c1
                              try clear c2
                              try clear p2
                              try clear c3
                              try clear c4
                              try clear c5
                              try clear q5
                              try clear c6
                              try clear p6
                              try clear c7
                              try clear c7b0
                              try clear c8
                              try clear c9
                              try clear c10
                              try clear c11
                              try clear c12
                              try clear c13
                              try clear c14
                              try clear c14b0
                              try clear c14b1
                              try clear c16
                              try clear c19
                              try clear c19b0
                              try clear c20
                              try clear c22
                              try clear c24
                              try clear c27
                              try clear c29
                              try clear c34
                              try clear c34b0
                              try clear c34b1
                              try clear c35
                              try clear c37
                              try clear c39
                              try clear c40
                              try clear c40b0
                              try clear c40b1
                              try clear c42
                              try clear c44
                              try clear c46
                              try clear c49
                              try clear c49b0
                              try clear c49b1
                              try clear c50
                              try clear c50b0
                              try clear c50b1
                              try clear q54
                              try clear hcz11_0
                              try clear hcz11_1
                              try clear hcz11_2
                              try clear hcz11_3
                              try clear hcz17_0
                              try clear hcz17_1
                              try clear hcz17_10
                              try clear hcz17_11
                              try clear hcz17_2
                              try clear hcz17_3
                              try clear hcz17_4
                              try clear hcz17_5
                              try clear hcz17_6
                              try clear hcz17_7
                              try clear hcz17_8
                              try clear hcz17_9
                              try clear hcz21_0
                              try clear hcz21_1
                              try clear hcz21_10
                              try clear hcz21_11
                              try clear hcz21_2
                              try clear hcz21_3
                              try clear hcz21_4
                              try clear hcz21_5
                              try clear hcz21_6
                              try clear hcz21_7
                              try clear hcz21_8
                              try clear hcz21_9
                              try clear hcz23_0
                              try clear hcz23_1
                              try clear hcz23_10
                              try clear hcz23_11
                              try clear hcz23_2
                              try clear hcz23_3
                              try clear hcz23_4
                              try clear hcz23_5
                              try clear hcz23_6
                              try clear hcz23_7
                              try clear hcz23_8
                              try clear hcz23_9
                              try clear hcz30_0
                              try clear hcz30_1
                              try clear hcz30_10
                              try clear hcz30_11
                              try clear hcz30_2
                              try clear hcz30_3
                              try clear hcz30_4
                              try clear hcz30_5
                              try clear hcz30_6
                              try clear hcz30_7
                              try clear hcz30_8
                              try clear hcz30_9
                              try clear hcz31_0
                              try clear hcz31_1
                              try clear hcz31_2
                              try clear hcz31_3
                              try clear hcz36_0
                              try clear hcz36_1
                              try clear hcz36_10
                              try clear hcz36_11
                              try clear hcz36_2
                              try clear hcz36_3
                              try clear hcz36_4
                              try clear hcz36_5
                              try clear hcz36_6
                              try clear hcz36_7
                              try clear hcz36_8
                              try clear hcz36_9
                              try clear hcz38_0
                              try clear hcz38_1
                              try clear hcz38_10
                              try clear hcz38_11
                              try clear hcz38_2
                              try clear hcz38_3
                              try clear hcz38_4
                              try clear hcz38_5
                              try clear hcz38_6
                              try clear hcz38_7
                              try clear hcz38_8
                              try clear hcz38_9
                              try clear hcz45_0
                              try clear hcz45_1
                              try clear hcz45_10
                              try clear hcz45_11
                              try clear hcz45_2
                              try clear hcz45_3
                              try clear hcz45_4
                              try clear hcz45_5
                              try clear hcz45_6
                              try clear hcz45_7
                              try clear hcz45_8
                              try clear hcz45_9
                              try clear hcz9_0
                              try clear hcz9_1
                              try clear hcz9_2
                              try clear hcz9_3
                              try clear hfz11_0
                              try clear hfz11_1
                              try clear hfz11_2
                              try clear hfz11_3
                              try clear hfz17_0
                              try clear hfz17_1
                              try clear hfz17_10
                              try clear hfz17_11
                              try clear hfz17_2
                              try clear hfz17_3
                              try clear hfz17_4
                              try clear hfz17_5
                              try clear hfz17_6
                              try clear hfz17_7
                              try clear hfz17_8
                              try clear hfz17_9
                              try clear hfz21_0
                              try clear hfz21_1
                              try clear hfz21_10
                              try clear hfz21_11
                              try clear hfz21_2
                              try clear hfz21_3
                              try clear hfz21_4
                              try clear hfz21_5
                              try clear hfz21_6
                              try clear hfz21_7
                              try clear hfz21_8
                              try clear hfz21_9
                              try clear hfz23_0
                              try clear hfz23_1
                              try clear hfz23_10
                              try clear hfz23_11
                              try clear hfz23_2
                              try clear hfz23_3
                              try clear hfz23_4
                              try clear hfz23_5
                              try clear hfz23_6
                              try clear hfz23_7
                              try clear hfz23_8
                              try clear hfz23_9
                              try clear hfz30_0
                              try clear hfz30_1
                              try clear hfz30_10
                              try clear hfz30_11
                              try clear hfz30_2
                              try clear hfz30_3
                              try clear hfz30_4
                              try clear hfz30_5
                              try clear hfz30_6
                              try clear hfz30_7
                              try clear hfz30_8
                              try clear hfz30_9
                              try clear hfz31_0
                              try clear hfz31_1
                              try clear hfz31_2
                              try clear hfz31_3
                              try clear hfz36_0
                              try clear hfz36_1
                              try clear hfz36_10
                              try clear hfz36_11
                              try clear hfz36_2
                              try clear hfz36_3
                              try clear hfz36_4
                              try clear hfz36_5
                              try clear hfz36_6
                              try clear hfz36_7
                              try clear hfz36_8
                              try clear hfz36_9
                              try clear hfz38_0
                              try clear hfz38_1
                              try clear hfz38_10
                              try clear hfz38_11
                              try clear hfz38_2
                              try clear hfz38_3
                              try clear hfz38_4
                              try clear hfz38_5
                              try clear hfz38_6
                              try clear hfz38_7
                              try clear hfz38_8
                              try clear hfz38_9
                              try clear hfz45_0
                              try clear hfz45_1
                              try clear hfz45_10
                              try clear hfz45_11
                              try clear hfz45_2
                              try clear hfz45_3
                              try clear hfz45_4
                              try clear hfz45_5
                              try clear hfz45_6
                              try clear hfz45_7
                              try clear hfz45_8
                              try clear hfz45_9
                              try clear hfz9_0
                              try clear hfz9_1
                              try clear hfz9_2
                              try clear hfz9_3
                              try clear p2
                              try clear q54
                              obtain ⟨kq, x68_42, rfl, HA, HJ42, BK181, BK182, HB⟩ := hcut
                              cases kq with
                              | zero => exact absurd HA.out (by simp [satchelref19_Check.j3])
                              | succ kj42 =>
                                have H := HA.out
                                clear HA
                                simp only [satchelref19_Check.j3] at H
                                by_cases c56 : x68_42 = true
                                · subst c56
                                  have H1 : (some 190) = some r := by rw [if_pos rfl] at H; exact H
                                  clear H
                                  have H := H1
                                  clear H1
                                  obtain rfl := Option.some.inj H
                                  go_wp2
                                  go_ret
                                  exact ⟨by first | rfl | (simp [errW_none, errW_some] <;> rfl) | (simp [*, errW_none, errW_some] <;> rfl), by repeat (first | (with_reducible first | exact HB.out | apply below_alloc | apply pw_below_drewN | apply below_drew1 | refine below_set ?_ GE181.out | refine below_set ?_ GE182.out) | exact HB.out)⟩
                                · replace c56 := Bool.eq_false_iff.mpr c56
                                  subst c56
                                  have H1 : (if a0_1 = 4 then ((satchelref09_Split.f kj42 a0_9).bind fun bt199 => (some bt199.2)) else (some 0)) = some r := by rw [if_neg (show ¬ (false = true) by decide)] at H; exact H
                                  clear H
                                  have H := H1
                                  clear H1
                                  by_cases c57 : a0_1 = 4
                                  · rw [if_pos c57] at H
                                    have c57b0 : (a0_1 == 4) = true := beq_iff_eq.mpr c57
                                    have c57b1 : (a0_1 != 4) = false := bne_eq_false_iff_eq.mpr c57
                                    clear c57
                                    replace H := Option.bind_eq_some_iff.mp H
                                    obtain ⟨⟨t199, t200⟩, A580, H⟩ := H
                                    replace H : (some t200) = some r := H
                                    have A58 := Aside0.mk A580
                                    clear A580
                                    obtain rfl := Option.some.inj H
                                    have hnb59 := NB181_182.out
                                    have hnc59 := NB182_181.out
                                    have hcz60_0 : wc.cell? ⟨gb181, 0, none⟩ = some (.string a0_0) := (blk_cell BK181.out 0).trans rfl
                                    have hcz60_1 : wc.cell? ⟨gb181, 1, none⟩ = some (.int .i64 a0_1) := (blk_cell BK181.out 1).trans rfl
                                    have hcz60_2 : wc.cell? ⟨gb181, 2, none⟩ = some (.int .u32 a0_2) := (blk_cell BK181.out 2).trans rfl
                                    have hcz60_3 : wc.cell? ⟨gb181, 3, none⟩ = some (.int .u32 a0_3) := (blk_cell BK181.out 3).trans rfl
                                    have hcz60_4 : wc.cell? ⟨gb181, 4, none⟩ = some (.int .u32 a0_4) := (blk_cell BK181.out 4).trans rfl
                                    have hcz60_5 : wc.cell? ⟨gb181, 5, none⟩ = some (.int .i64 a0_5) := (blk_cell BK181.out 5).trans rfl
                                    have hcz60_6 : wc.cell? ⟨gb181, 6, none⟩ = some (.int .i32 a0_6) := (blk_cell BK181.out 6).trans rfl
                                    have hcz60_7 : wc.cell? ⟨gb181, 7, none⟩ = some (.string a0_7) := (blk_cell BK181.out 7).trans rfl
                                    have hcz60_8 : wc.cell? ⟨gb181, 8, none⟩ = some (.string a0_8) := (blk_cell BK181.out 8).trans rfl
                                    have hcz60_9 : wc.cell? ⟨gb181, 9, none⟩ = some (.string a0_9) := (blk_cell BK181.out 9).trans rfl
                                    have hcz60_10 : wc.cell? ⟨gb181, 10, none⟩ = some (.int .i64 a0_10) := (blk_cell BK181.out 10).trans rfl
                                    have hcz60_11 : wc.cell? ⟨gb181, 11, none⟩ = some (.int .u8 a0_11) := (blk_cell BK181.out 11).trans rfl
                                    have hfz60_0 := blk_frozen BK181.out 0
                                    have hfz60_1 := blk_frozen BK181.out 1
                                    have hfz60_2 := blk_frozen BK181.out 2
                                    have hfz60_3 := blk_frozen BK181.out 3
                                    have hfz60_4 := blk_frozen BK181.out 4
                                    have hfz60_5 := blk_frozen BK181.out 5
                                    have hfz60_6 := blk_frozen BK181.out 6
                                    have hfz60_7 := blk_frozen BK181.out 7
                                    have hfz60_8 := blk_frozen BK181.out 8
                                    have hfz60_9 := blk_frozen BK181.out 9
                                    have hfz60_10 := blk_frozen BK181.out 10
                                    have hfz60_11 := blk_frozen BK181.out 11
                                    go_wp2_with (first | ((with_reducible refine gate_callee (f := 9) rfl ?_); refine goesL_ (some 75) rfl rfl Tryd.func9 (by kernel_rfl) rfl #[.string a0_9] rfl (by (try simp only [List.map_toArray, List.map_cons, List.map_nil]); first | done | rfl | (simp only [List.length_drop, List.length_take]; rfl)) ?_; (with_reducible refine (satchelref09_Split.calls kj42 a0_9 t199 t200 _ ?side1 A58.out).mono ?_); (case side1 => exact Gv_below HG.out (by repeat (first | (with_reducible first | exact HB.out | apply below_alloc | apply pw_below_drewN | apply below_drew1 | refine below_set ?_ GE181.out | refine below_set ?_ GE182.out) | exact HB.out))); rintro e w61 ⟨v201, rfl, ho0, hb⟩; refine ⟨_, rfl, ?_⟩; have n0_ := Aside0.mk (Kd.R_lower ho0 (below_size (by repeat (first | (with_reducible first | exact HB.out | apply below_alloc | apply pw_below_drewN | apply below_drew1 | refine below_set ?_ GE181.out | refine below_set ?_ GE182.out) | exact HB.out)))); have n1_ := Aside0.mk (blk_below (g := gb181) (o := .cells #[.string a0_0, .int .i64 a0_1, .int .u32 a0_2, .int .u32 a0_3, .int .u32 a0_4, .int .i64 a0_5, .int .i32 a0_6, .string a0_7, .string a0_8, .string a0_9, .int .i64 a0_10, .int .u8 a0_11] 26 (0, 0)) (by (with_reducible repeat (first | refine blk_drewN ?_ _ | refine blk_drew ?_ | refine blk_alloc ?_ _)); exact BK181.out) hb); have n2_ := Aside0.mk (blk_below (g := gb182) (o := .cells #[.int .i64 a2_0, .bool a2_1, .int .u32 a2_2, .bool a2_3] 29 (0, 0)) (by (with_reducible repeat (first | refine blk_drewN ?_ _ | refine blk_drew ?_ | refine blk_alloc ?_ _)); exact BK182.out) hb); have n3_ := Aside0.mk (below_step (by repeat (first | (with_reducible first | exact HB.out | apply below_alloc | apply pw_below_drewN | apply below_drew1 | refine below_set ?_ GE181.out | refine below_set ?_ GE182.out) | exact HB.out)) hb); clear BK181; clear BK182; clear HB; have HO202 := n0_; have BK181 := n1_; have BK182 := n2_; have HB := n3_; clear n0_ n1_ n2_ n3_; (try clear hb); (try clear hb2); (try clear hk); (try clear hi); (try clear ho0)))
                                    go_ret
                                    exact ⟨by first | rfl | (simp [errW_none, errW_some] <;> rfl) | (simp [*, errW_none, errW_some] <;> rfl), by repeat (first | (with_reducible first | exact HB.out | apply below_alloc | apply pw_below_drewN | apply below_drew1 | refine below_set ?_ GE181.out | refine below_set ?_ GE182.out) | exact HB.out)⟩
                                  · rw [if_neg c57] at H
                                    have c57b0 : (a0_1 == 4) = false := beq_eq_false_iff_ne.mpr c57
                                    have c57b1 : (a0_1 != 4) = true := bne_iff_ne.mpr c57
                                    obtain rfl := Option.some.inj H
                                    have hnb62 := NB181_182.out
                                    have hnc62 := NB182_181.out
                                    have hcz63_0 : wc.cell? ⟨gb181, 0, none⟩ = some (.string a0_0) := (blk_cell BK181.out 0).trans rfl
                                    have hcz63_1 : wc.cell? ⟨gb181, 1, none⟩ = some (.int .i64 a0_1) := (blk_cell BK181.out 1).trans rfl
                                    have hcz63_2 : wc.cell? ⟨gb181, 2, none⟩ = some (.int .u32 a0_2) := (blk_cell BK181.out 2).trans rfl
                                    have hcz63_3 : wc.cell? ⟨gb181, 3, none⟩ = some (.int .u32 a0_3) := (blk_cell BK181.out 3).trans rfl
                                    have hcz63_4 : wc.cell? ⟨gb181, 4, none⟩ = some (.int .u32 a0_4) := (blk_cell BK181.out 4).trans rfl
                                    have hcz63_5 : wc.cell? ⟨gb181, 5, none⟩ = some (.int .i64 a0_5) := (blk_cell BK181.out 5).trans rfl
                                    have hcz63_6 : wc.cell? ⟨gb181, 6, none⟩ = some (.int .i32 a0_6) := (blk_cell BK181.out 6).trans rfl
                                    have hcz63_7 : wc.cell? ⟨gb181, 7, none⟩ = some (.string a0_7) := (blk_cell BK181.out 7).trans rfl
                                    have hcz63_8 : wc.cell? ⟨gb181, 8, none⟩ = some (.string a0_8) := (blk_cell BK181.out 8).trans rfl
                                    have hcz63_9 : wc.cell? ⟨gb181, 9, none⟩ = some (.string a0_9) := (blk_cell BK181.out 9).trans rfl
                                    have hcz63_10 : wc.cell? ⟨gb181, 10, none⟩ = some (.int .i64 a0_10) := (blk_cell BK181.out 10).trans rfl
                                    have hcz63_11 : wc.cell? ⟨gb181, 11, none⟩ = some (.int .u8 a0_11) := (blk_cell BK181.out 11).trans rfl
                                    have hfz63_0 := blk_frozen BK181.out 0
                                    have hfz63_1 := blk_frozen BK181.out 1
                                    have hfz63_2 := blk_frozen BK181.out 2
                                    have hfz63_3 := blk_frozen BK181.out 3
                                    have hfz63_4 := blk_frozen BK181.out 4
                                    have hfz63_5 := blk_frozen BK181.out 5
                                    have hfz63_6 := blk_frozen BK181.out 6
                                    have hfz63_7 := blk_frozen BK181.out 7
                                    have hfz63_8 := blk_frozen BK181.out 8
                                    have hfz63_9 := blk_frozen BK181.out 9
                                    have hfz63_10 := blk_frozen BK181.out 10
                                    have hfz63_11 := blk_frozen BK181.out 11
                                    go_wp2
                                    go_ret
                                    exact ⟨by first | rfl | (simp [errW_none, errW_some] <;> rfl) | (simp [*, errW_none, errW_some] <;> rfl), by repeat (first | (with_reducible first | exact HB.out | apply below_alloc | apply pw_below_drewN | apply below_drew1 | refine below_set ?_ GE181.out | refine below_set ?_ GE182.out) | exact HB.out)⟩
                          · replace c42 := Bool.eq_false_iff.mpr c42
                            subst c42
                            have H1 : (some 107) = some r := by rw [if_neg (show ¬ (false = true) by decide)] at H; exact H
                            clear H
                            have H := H1
                            clear H1
                            obtain rfl := Option.some.inj H
                            have hnb64 := NB181_182.out
                            have hnc64 := NB182_181.out
                            have hcz65_0 : wc.cell? ⟨gb181, 0, none⟩ = some (.string a0_0) := (blk_cell BK181.out 0).trans rfl
                            have hcz65_1 : wc.cell? ⟨gb181, 1, none⟩ = some (.int .i64 a0_1) := (blk_cell BK181.out 1).trans rfl
                            have hcz65_2 : wc.cell? ⟨gb181, 2, none⟩ = some (.int .u32 a0_2) := (blk_cell BK181.out 2).trans rfl
                            have hcz65_3 : wc.cell? ⟨gb181, 3, none⟩ = some (.int .u32 a0_3) := (blk_cell BK181.out 3).trans rfl
                            have hcz65_4 : wc.cell? ⟨gb181, 4, none⟩ = some (.int .u32 a0_4) := (blk_cell BK181.out 4).trans rfl
                            have hcz65_5 : wc.cell? ⟨gb181, 5, none⟩ = some (.int .i64 a0_5) := (blk_cell BK181.out 5).trans rfl
                            have hcz65_6 : wc.cell? ⟨gb181, 6, none⟩ = some (.int .i32 a0_6) := (blk_cell BK181.out 6).trans rfl
                            have hcz65_7 : wc.cell? ⟨gb181, 7, none⟩ = some (.string a0_7) := (blk_cell BK181.out 7).trans rfl
                            have hcz65_8 : wc.cell? ⟨gb181, 8, none⟩ = some (.string a0_8) := (blk_cell BK181.out 8).trans rfl
                            have hcz65_9 : wc.cell? ⟨gb181, 9, none⟩ = some (.string a0_9) := (blk_cell BK181.out 9).trans rfl
                            have hcz65_10 : wc.cell? ⟨gb181, 10, none⟩ = some (.int .i64 a0_10) := (blk_cell BK181.out 10).trans rfl
                            have hcz65_11 : wc.cell? ⟨gb181, 11, none⟩ = some (.int .u8 a0_11) := (blk_cell BK181.out 11).trans rfl
                            have hfz65_0 := blk_frozen BK181.out 0
                            have hfz65_1 := blk_frozen BK181.out 1
                            have hfz65_2 := blk_frozen BK181.out 2
                            have hfz65_3 := blk_frozen BK181.out 3
                            have hfz65_4 := blk_frozen BK181.out 4
                            have hfz65_5 := blk_frozen BK181.out 5
                            have hfz65_6 := blk_frozen BK181.out 6
                            have hfz65_7 := blk_frozen BK181.out 7
                            have hfz65_8 := blk_frozen BK181.out 8
                            have hfz65_9 := blk_frozen BK181.out 9
                            have hfz65_10 := blk_frozen BK181.out 10
                            have hfz65_11 := blk_frozen BK181.out 11
                            go_wp2_with (first | ((with_reducible refine gate_callee (f := 12) rfl ?_); refine goesL_ (some 54) rfl rfl Tryd.func12 (by kernel_rfl) rfl #[.string a0_9] rfl (by (try simp only [List.map_toArray, List.map_cons, List.map_nil]); first | done | rfl | (simp only [List.length_drop, List.length_take]; rfl)) ?_; (with_reducible refine (satchelref10_Target.calls kj27 a0_9 false _ ?side1 A41.out).mono ?_); (case side1 => exact Gv_below HG.out (by repeat (first | (with_reducible first | exact HB.out | apply below_alloc | apply pw_below_drewN | apply below_drew1 | refine below_set ?_ GE181.out | refine below_set ?_ GE182.out) | exact HB.out))); rintro e w' ⟨rfl, ⟨nd, rfl⟩⟩; refine ⟨_, rfl, ?_⟩))
                            go_ret
                            exact ⟨by first | rfl | (simp [errW_none, errW_some] <;> rfl) | (simp [*, errW_none, errW_some] <;> rfl), by repeat (first | (with_reducible first | exact HB.out | apply below_alloc | apply pw_below_drewN | apply below_drew1 | refine below_set ?_ GE181.out | refine below_set ?_ GE182.out) | exact HB.out)⟩
                        · rw [if_neg c40] at H
                          have c40b0 : (a0_1 == 3) = false := beq_eq_false_iff_ne.mpr c40
                          have c40b1 : (a0_1 != 3) = true := bne_iff_ne.mpr c40
                          by_cases c66 : a0_1 = 4
                          · rw [if_pos c66] at H
                            have c66b0 : (a0_1 == 4) = true := beq_iff_eq.mpr c66
                            have c66b1 : (a0_1 != 4) = false := bne_eq_false_iff_eq.mpr c66
                            clear c66
                            replace H := Option.bind_eq_some_iff.mp H
                            obtain ⟨⟨t203, t204⟩, A670, H⟩ := H
                            replace H : (some t204) = some r := H
                            have A67 := Aside0.mk A670
                            clear A670
                            obtain rfl := Option.some.inj H
                            have hnb68 := NB181_182.out
                            have hnc68 := NB182_181.out
                            have hcz69_0 : wc.cell? ⟨gb181, 0, none⟩ = some (.string a0_0) := (blk_cell BK181.out 0).trans rfl
                            have hcz69_1 : wc.cell? ⟨gb181, 1, none⟩ = some (.int .i64 a0_1) := (blk_cell BK181.out 1).trans rfl
                            have hcz69_2 : wc.cell? ⟨gb181, 2, none⟩ = some (.int .u32 a0_2) := (blk_cell BK181.out 2).trans rfl
                            have hcz69_3 : wc.cell? ⟨gb181, 3, none⟩ = some (.int .u32 a0_3) := (blk_cell BK181.out 3).trans rfl
                            have hcz69_4 : wc.cell? ⟨gb181, 4, none⟩ = some (.int .u32 a0_4) := (blk_cell BK181.out 4).trans rfl
                            have hcz69_5 : wc.cell? ⟨gb181, 5, none⟩ = some (.int .i64 a0_5) := (blk_cell BK181.out 5).trans rfl
                            have hcz69_6 : wc.cell? ⟨gb181, 6, none⟩ = some (.int .i32 a0_6) := (blk_cell BK181.out 6).trans rfl
                            have hcz69_7 : wc.cell? ⟨gb181, 7, none⟩ = some (.string a0_7) := (blk_cell BK181.out 7).trans rfl
                            have hcz69_8 : wc.cell? ⟨gb181, 8, none⟩ = some (.string a0_8) := (blk_cell BK181.out 8).trans rfl
                            have hcz69_9 : wc.cell? ⟨gb181, 9, none⟩ = some (.string a0_9) := (blk_cell BK181.out 9).trans rfl
                            have hcz69_10 : wc.cell? ⟨gb181, 10, none⟩ = some (.int .i64 a0_10) := (blk_cell BK181.out 10).trans rfl
                            have hcz69_11 : wc.cell? ⟨gb181, 11, none⟩ = some (.int .u8 a0_11) := (blk_cell BK181.out 11).trans rfl
                            have hfz69_0 := blk_frozen BK181.out 0
                            have hfz69_1 := blk_frozen BK181.out 1
                            have hfz69_2 := blk_frozen BK181.out 2
                            have hfz69_3 := blk_frozen BK181.out 3
                            have hfz69_4 := blk_frozen BK181.out 4
                            have hfz69_5 := blk_frozen BK181.out 5
                            have hfz69_6 := blk_frozen BK181.out 6
                            have hfz69_7 := blk_frozen BK181.out 7
                            have hfz69_8 := blk_frozen BK181.out 8
                            have hfz69_9 := blk_frozen BK181.out 9
                            have hfz69_10 := blk_frozen BK181.out 10
                            have hfz69_11 := blk_frozen BK181.out 11
                            go_wp2_with (first | ((with_reducible refine gate_callee (f := 9) rfl ?_); refine goesL_ (some 75) rfl rfl Tryd.func9 (by kernel_rfl) rfl #[.string a0_9] rfl (by (try simp only [List.map_toArray, List.map_cons, List.map_nil]); first | done | rfl | (simp only [List.length_drop, List.length_take]; rfl)) ?_; (with_reducible refine (satchelref09_Split.calls kj27 a0_9 t203 t204 _ ?side1 A67.out).mono ?_); (case side1 => exact Gv_below HG.out (by repeat (first | (with_reducible first | exact HB.out | apply below_alloc | apply pw_below_drewN | apply below_drew1 | refine below_set ?_ GE181.out | refine below_set ?_ GE182.out) | exact HB.out))); rintro e w70 ⟨v205, rfl, ho0, hb⟩; refine ⟨_, rfl, ?_⟩; have n0_ := Aside0.mk (Kd.R_elder' (by (with_reducible repeat (first | apply Kd.R_alloc | apply Kd.R_drewN | apply Kd.R_drew)); exact HO_7.out) (Kd.R_base ho0) hb); have n1_ := Aside0.mk (Kd.R_lower (Kd.R_new' ho0 (Kd.R_lt (by (with_reducible repeat (first | apply Kd.R_alloc | apply Kd.R_drewN | apply Kd.R_drew)); exact HO_7.out))) (below_size (by repeat (first | (with_reducible first | exact HB.out | apply below_alloc | apply pw_below_drewN | apply below_drew1 | refine below_set ?_ GE181.out | refine below_set ?_ GE182.out) | exact HB.out)))); have n2_ := Aside0.mk (blk_below (g := gb181) (o := .cells #[.string a0_0, .int .i64 a0_1, .int .u32 a0_2, .int .u32 a0_3, .int .u32 a0_4, .int .i64 a0_5, .int .i32 a0_6, .string a0_7, .string a0_8, .string a0_9, .int .i64 a0_10, .int .u8 a0_11] 26 (0, 0)) (by (with_reducible repeat (first | refine blk_drewN ?_ _ | refine blk_drew ?_ | refine blk_alloc ?_ _)); exact BK181.out) hb); have n3_ := Aside0.mk (blk_below (g := gb182) (o := .cells #[.int .i64 a2_0, .bool a2_1, .int .u32 a2_2, .bool a2_3] 29 (0, 0)) (by (with_reducible repeat (first | refine blk_drewN ?_ _ | refine blk_drew ?_ | refine blk_alloc ?_ _)); exact BK182.out) hb); have n4_ := Aside0.mk (below_step (by repeat (first | (with_reducible first | exact HB.out | apply below_alloc | apply pw_below_drewN | apply below_drew1 | refine below_set ?_ GE181.out | refine below_set ?_ GE182.out) | exact HB.out)) hb); clear HO_7; clear BK181; clear BK182; clear HB; have HO_7 := n0_; have HO206 := n1_; have BK181 := n2_; have BK182 := n3_; have HB := n4_; clear n0_ n1_ n2_ n3_ n4_; (try clear hb); (try clear hb2); (try clear hk); (try clear hi); (try clear ho0)))
                            go_ret
                            exact ⟨by first | rfl | (simp [errW_none, errW_some] <;> rfl) | (simp [*, errW_none, errW_some] <;> rfl), by repeat (first | (with_reducible first | exact HB.out | apply below_alloc | apply pw_below_drewN | apply below_drew1 | refine below_set ?_ GE181.out | refine below_set ?_ GE182.out) | exact HB.out)⟩
                          · rw [if_neg c66] at H
                            have c66b0 : (a0_1 == 4) = false := beq_eq_false_iff_ne.mpr c66
                            have c66b1 : (a0_1 != 4) = true := bne_iff_ne.mpr c66
                            obtain rfl := Option.some.inj H
                            have hnb71 := NB181_182.out
                            have hnc71 := NB182_181.out
                            have hcz72_0 : wc.cell? ⟨gb181, 0, none⟩ = some (.string a0_0) := (blk_cell BK181.out 0).trans rfl
                            have hcz72_1 : wc.cell? ⟨gb181, 1, none⟩ = some (.int .i64 a0_1) := (blk_cell BK181.out 1).trans rfl
                            have hcz72_2 : wc.cell? ⟨gb181, 2, none⟩ = some (.int .u32 a0_2) := (blk_cell BK181.out 2).trans rfl
                            have hcz72_3 : wc.cell? ⟨gb181, 3, none⟩ = some (.int .u32 a0_3) := (blk_cell BK181.out 3).trans rfl
                            have hcz72_4 : wc.cell? ⟨gb181, 4, none⟩ = some (.int .u32 a0_4) := (blk_cell BK181.out 4).trans rfl
                            have hcz72_5 : wc.cell? ⟨gb181, 5, none⟩ = some (.int .i64 a0_5) := (blk_cell BK181.out 5).trans rfl
                            have hcz72_6 : wc.cell? ⟨gb181, 6, none⟩ = some (.int .i32 a0_6) := (blk_cell BK181.out 6).trans rfl
                            have hcz72_7 : wc.cell? ⟨gb181, 7, none⟩ = some (.string a0_7) := (blk_cell BK181.out 7).trans rfl
                            have hcz72_8 : wc.cell? ⟨gb181, 8, none⟩ = some (.string a0_8) := (blk_cell BK181.out 8).trans rfl
                            have hcz72_9 : wc.cell? ⟨gb181, 9, none⟩ = some (.string a0_9) := (blk_cell BK181.out 9).trans rfl
                            have hcz72_10 : wc.cell? ⟨gb181, 10, none⟩ = some (.int .i64 a0_10) := (blk_cell BK181.out 10).trans rfl
                            have hcz72_11 : wc.cell? ⟨gb181, 11, none⟩ = some (.int .u8 a0_11) := (blk_cell BK181.out 11).trans rfl
                            have hfz72_0 := blk_frozen BK181.out 0
                            have hfz72_1 := blk_frozen BK181.out 1
                            have hfz72_2 := blk_frozen BK181.out 2
                            have hfz72_3 := blk_frozen BK181.out 3
                            have hfz72_4 := blk_frozen BK181.out 4
                            have hfz72_5 := blk_frozen BK181.out 5
                            have hfz72_6 := blk_frozen BK181.out 6
                            have hfz72_7 := blk_frozen BK181.out 7
                            have hfz72_8 := blk_frozen BK181.out 8
                            have hfz72_9 := blk_frozen BK181.out 9
                            have hfz72_10 := blk_frozen BK181.out 10
                            have hfz72_11 := blk_frozen BK181.out 11
                            go_wp2
                            go_ret
                            exact ⟨by first | rfl | (simp [errW_none, errW_some] <;> rfl) | (simp [*, errW_none, errW_some] <;> rfl), by repeat (first | (with_reducible first | exact HB.out | apply below_alloc | apply pw_below_drewN | apply below_drew1 | refine below_set ?_ GE181.out | refine below_set ?_ GE182.out) | exact HB.out)⟩
                · replace c27 := Bool.eq_false_iff.mpr c27
                  subst c27
                  have H1 : (some 1) = some r := by rw [if_neg (show ¬ (false = true) by decide)] at H; exact H
                  clear H
                  have H := H1
                  clear H1
                  obtain rfl := Option.some.inj H
                  have hnb73 := NB181_182.out
                  have hnc73 := NB182_181.out
                  have hcz74_0 : wc.cell? ⟨gb181, 0, none⟩ = some (.string a0_0) := (blk_cell BK181.out 0).trans rfl
                  have hcz74_1 : wc.cell? ⟨gb181, 1, none⟩ = some (.int .i64 a0_1) := (blk_cell BK181.out 1).trans rfl
                  have hcz74_2 : wc.cell? ⟨gb181, 2, none⟩ = some (.int .u32 a0_2) := (blk_cell BK181.out 2).trans rfl
                  have hcz74_3 : wc.cell? ⟨gb181, 3, none⟩ = some (.int .u32 a0_3) := (blk_cell BK181.out 3).trans rfl
                  have hcz74_4 : wc.cell? ⟨gb181, 4, none⟩ = some (.int .u32 a0_4) := (blk_cell BK181.out 4).trans rfl
                  have hcz74_5 : wc.cell? ⟨gb181, 5, none⟩ = some (.int .i64 a0_5) := (blk_cell BK181.out 5).trans rfl
                  have hcz74_6 : wc.cell? ⟨gb181, 6, none⟩ = some (.int .i32 a0_6) := (blk_cell BK181.out 6).trans rfl
                  have hcz74_7 : wc.cell? ⟨gb181, 7, none⟩ = some (.string a0_7) := (blk_cell BK181.out 7).trans rfl
                  have hcz74_8 : wc.cell? ⟨gb181, 8, none⟩ = some (.string a0_8) := (blk_cell BK181.out 8).trans rfl
                  have hcz74_9 : wc.cell? ⟨gb181, 9, none⟩ = some (.string a0_9) := (blk_cell BK181.out 9).trans rfl
                  have hcz74_10 : wc.cell? ⟨gb181, 10, none⟩ = some (.int .i64 a0_10) := (blk_cell BK181.out 10).trans rfl
                  have hcz74_11 : wc.cell? ⟨gb181, 11, none⟩ = some (.int .u8 a0_11) := (blk_cell BK181.out 11).trans rfl
                  have hfz74_0 := blk_frozen BK181.out 0
                  have hfz74_1 := blk_frozen BK181.out 1
                  have hfz74_2 := blk_frozen BK181.out 2
                  have hfz74_3 := blk_frozen BK181.out 3
                  have hfz74_4 := blk_frozen BK181.out 4
                  have hfz74_5 := blk_frozen BK181.out 5
                  have hfz74_6 := blk_frozen BK181.out 6
                  have hfz74_7 := blk_frozen BK181.out 7
                  have hfz74_8 := blk_frozen BK181.out 8
                  have hfz74_9 := blk_frozen BK181.out 9
                  have hfz74_10 := blk_frozen BK181.out 10
                  have hfz74_11 := blk_frozen BK181.out 11
                  have hcz75_0 : wc.cell? ⟨gb182, 0, none⟩ = some (.int .i64 a2_0) := (blk_cell BK182.out 0).trans rfl
                  have hcz75_1 : wc.cell? ⟨gb182, 1, none⟩ = some (.bool a2_1) := (blk_cell BK182.out 1).trans rfl
                  have hcz75_2 : wc.cell? ⟨gb182, 2, none⟩ = some (.int .u32 a2_2) := (blk_cell BK182.out 2).trans rfl
                  have hcz75_3 : wc.cell? ⟨gb182, 3, none⟩ = some (.bool a2_3) := (blk_cell BK182.out 3).trans rfl
                  have hfz75_0 := blk_frozen BK182.out 0
                  have hfz75_1 := blk_frozen BK182.out 1
                  have hfz75_2 := blk_frozen BK182.out 2
                  have hfz75_3 := blk_frozen BK182.out 3
                  go_wp2_with (first | ((with_reducible refine gate_callee (f := 11) rfl ?_); refine goesL_ (some 36) rfl rfl Tryd.func11 (by kernel_rfl) rfl #[.agg #[.string a0_0, .int .i64 a0_1, .int .u32 a0_2, .int .u32 a0_3, .int .u32 a0_4, .int .i64 a0_5, .int .i32 a0_6, .string a0_7, .string a0_8, .string a0_9, .int .i64 a0_10, .int .u8 a0_11], .agg #[.int .i64 a2_0, .bool a2_1, .int .u32 a2_2, .bool a2_3]] rfl (by (try simp only [List.map_toArray, List.map_cons, List.map_nil]); first | done | rfl | (simp only [List.length_drop, List.length_take]; rfl)) ?_; (with_reducible refine (satchelref19_Meta.calls a0_0 a0_1 a0_2 a0_3 a0_4 a0_5 a0_6 a0_7 a0_8 a0_9 a0_10 a0_11 a2_0 a2_1 a2_2 a2_3 t187 t188 t189 t190 t191 _ ?side1 A25.out).mono ?_); (case side1 => exact Gv_below HG.out (by repeat (first | (with_reducible first | exact HB.out | apply below_alloc | apply pw_below_drewN | apply below_drew1 | refine below_set ?_ GE181.out | refine below_set ?_ GE182.out) | exact HB.out))); rintro e w76 ⟨rfl, hb⟩; refine ⟨_, rfl, ?_⟩; have n0_ := Aside0.mk (Kd.R_below (by (with_reducible repeat (first | apply Kd.R_alloc | apply Kd.R_drewN | apply Kd.R_drew)); exact HO_7.out) hb); have n1_ := Aside0.mk (blk_below (g := gb181) (o := .cells #[.string a0_0, .int .i64 a0_1, .int .u32 a0_2, .int .u32 a0_3, .int .u32 a0_4, .int .i64 a0_5, .int .i32 a0_6, .string a0_7, .string a0_8, .string a0_9, .int .i64 a0_10, .int .u8 a0_11] 26 (0, 0)) (by (with_reducible repeat (first | refine blk_drewN ?_ _ | refine blk_drew ?_ | refine blk_alloc ?_ _)); exact BK181.out) hb); have n2_ := Aside0.mk (blk_below (g := gb182) (o := .cells #[.int .i64 a2_0, .bool a2_1, .int .u32 a2_2, .bool a2_3] 29 (0, 0)) (by (with_reducible repeat (first | refine blk_drewN ?_ _ | refine blk_drew ?_ | refine blk_alloc ?_ _)); exact BK182.out) hb); have n3_ := Aside0.mk (below_step (by repeat (first | (with_reducible first | exact HB.out | apply below_alloc | apply pw_below_drewN | apply below_drew1 | refine below_set ?_ GE181.out | refine below_set ?_ GE182.out) | exact HB.out)) hb); clear HO_7; clear BK181; clear BK182; clear HB; have HO_7 := n0_; have BK181 := n1_; have BK182 := n2_; have HB := n3_; clear n0_ n1_ n2_ n3_; (try clear hb); (try clear hb2); (try clear hk); (try clear hi)) | ((with_reducible refine gate_callee (f := 10) rfl ?_); refine goesL_ (some 37) rfl rfl Tryd.func10 (by kernel_rfl) rfl #[.agg #[.int .u32 t187, .int .u32 t188, .int .u32 t189, .int .i64 t190, .int .i32 t191]] rfl (by (try simp only [List.map_toArray, List.map_cons, List.map_nil]); first | done | rfl | (simp only [List.length_drop, List.length_take]; rfl)) ?_; (with_reducible refine (satchelref10_Meta.calls t187 t188 t189 t190 t191 false _ ?side1 A26.out).mono ?_); (case side1 => exact Gv_below HG.out (by repeat (first | (with_reducible first | exact HB.out | apply below_alloc | apply pw_below_drewN | apply below_drew1 | refine below_set ?_ GE181.out | refine below_set ?_ GE182.out) | exact HB.out))); rintro e w77 ⟨rfl, hb⟩; refine ⟨_, rfl, ?_⟩; have n0_ := Aside0.mk (Kd.R_below (by (with_reducible repeat (first | apply Kd.R_alloc | apply Kd.R_drewN | apply Kd.R_drew)); exact HO_7.out) hb); have n1_ := Aside0.mk (blk_below (g := gb181) (o := .cells #[.string a0_0, .int .i64 a0_1, .int .u32 a0_2, .int .u32 a0_3, .int .u32 a0_4, .int .i64 a0_5, .int .i32 a0_6, .string a0_7, .string a0_8, .string a0_9, .int .i64 a0_10, .int .u8 a0_11] 26 (0, 0)) (by (with_reducible repeat (first | refine blk_drewN ?_ _ | refine blk_drew ?_ | refine blk_alloc ?_ _)); exact BK181.out) hb); have n2_ := Aside0.mk (blk_below (g := gb182) (o := .cells #[.int .i64 a2_0, .bool a2_1, .int .u32 a2_2, .bool a2_3] 29 (0, 0)) (by (with_reducible repeat (first | refine blk_drewN ?_ _ | refine blk_drew ?_ | refine blk_alloc ?_ _)); exact BK182.out) hb); have n3_ := Aside0.mk (below_step (by repeat (first | (with_reducible first | exact HB.out | apply below_alloc | apply pw_below_drewN | apply below_drew1 | refine below_set ?_ GE181.out | refine below_set ?_ GE182.out) | exact HB.out)) hb); clear HO_7; clear BK181; clear BK182; clear HB; have HO_7 := n0_; have BK181 := n1_; have BK182 := n2_; have HB := n3_; clear n0_ n1_ n2_ n3_; (try clear hb); (try clear hb2); (try clear hk); (try clear hi)))
                  go_ret
                  exact ⟨by first | rfl | (simp [errW_none, errW_some] <;> rfl) | (simp [*, errW_none, errW_some] <;> rfl), by repeat (first | (with_reducible first | exact HB.out | apply below_alloc | apply pw_below_drewN | apply below_drew1 | refine below_set ?_ GE181.out | refine below_set ?_ GE182.out) | exact HB.out)⟩
        · rw [if_neg c14] at H
          have c14b0 : (t184 == 0) = false := beq_eq_false_iff_ne.mpr c14
          have c14b1 : (t184 != 0) = true := bne_iff_ne.mpr c14
          obtain rfl := Option.some.inj H
          have hnb78 := NB181_182.out
          have hnc78 := NB182_181.out
          have hcz79_0 : wc.cell? ⟨gb181, 0, none⟩ = some (.string a0_0) := (blk_cell BK181.out 0).trans rfl
          have hcz79_1 : wc.cell? ⟨gb181, 1, none⟩ = some (.int .i64 a0_1) := (blk_cell BK181.out 1).trans rfl
          have hcz79_2 : wc.cell? ⟨gb181, 2, none⟩ = some (.int .u32 a0_2) := (blk_cell BK181.out 2).trans rfl
          have hcz79_3 : wc.cell? ⟨gb181, 3, none⟩ = some (.int .u32 a0_3) := (blk_cell BK181.out 3).trans rfl
          have hcz79_4 : wc.cell? ⟨gb181, 4, none⟩ = some (.int .u32 a0_4) := (blk_cell BK181.out 4).trans rfl
          have hcz79_5 : wc.cell? ⟨gb181, 5, none⟩ = some (.int .i64 a0_5) := (blk_cell BK181.out 5).trans rfl
          have hcz79_6 : wc.cell? ⟨gb181, 6, none⟩ = some (.int .i32 a0_6) := (blk_cell BK181.out 6).trans rfl
          have hcz79_7 : wc.cell? ⟨gb181, 7, none⟩ = some (.string a0_7) := (blk_cell BK181.out 7).trans rfl
          have hcz79_8 : wc.cell? ⟨gb181, 8, none⟩ = some (.string a0_8) := (blk_cell BK181.out 8).trans rfl
          have hcz79_9 : wc.cell? ⟨gb181, 9, none⟩ = some (.string a0_9) := (blk_cell BK181.out 9).trans rfl
          have hcz79_10 : wc.cell? ⟨gb181, 10, none⟩ = some (.int .i64 a0_10) := (blk_cell BK181.out 10).trans rfl
          have hcz79_11 : wc.cell? ⟨gb181, 11, none⟩ = some (.int .u8 a0_11) := (blk_cell BK181.out 11).trans rfl
          have hfz79_0 := blk_frozen BK181.out 0
          have hfz79_1 := blk_frozen BK181.out 1
          have hfz79_2 := blk_frozen BK181.out 2
          have hfz79_3 := blk_frozen BK181.out 3
          have hfz79_4 := blk_frozen BK181.out 4
          have hfz79_5 := blk_frozen BK181.out 5
          have hfz79_6 := blk_frozen BK181.out 6
          have hfz79_7 := blk_frozen BK181.out 7
          have hfz79_8 := blk_frozen BK181.out 8
          have hfz79_9 := blk_frozen BK181.out 9
          have hfz79_10 := blk_frozen BK181.out 10
          have hfz79_11 := blk_frozen BK181.out 11
          go_wp2_with (first | ((with_reducible refine gate_callee (f := 9) rfl ?_); refine goesL_ (some 20) rfl rfl Tryd.func9 (by kernel_rfl) rfl #[.string a0_0] rfl (by (try simp only [List.map_toArray, List.map_cons, List.map_nil]); first | done | rfl | (simp only [List.length_drop, List.length_take]; rfl)) ?_; (with_reducible refine (satchelref09_Split.calls kj3 a0_0 t183 t184 _ ?side1 A13.out).mono ?_); (case side1 => exact Gv_below HG.out (by repeat (first | (with_reducible first | exact HB.out | apply below_alloc | apply pw_below_drewN | apply below_drew1 | refine below_set ?_ GE181.out | refine below_set ?_ GE182.out) | exact HB.out))); rintro e w80 ⟨v185, rfl, ho0, hb⟩; refine ⟨_, rfl, ?_⟩; have n0_ := Aside0.mk (Kd.R_lower ho0 (below_size (by repeat (first | (with_reducible first | exact HB.out | apply below_alloc | apply pw_below_drewN | apply below_drew1 | refine below_set ?_ GE181.out | refine below_set ?_ GE182.out) | exact HB.out)))); have n1_ := Aside0.mk (blk_below (g := gb181) (o := .cells #[.string a0_0, .int .i64 a0_1, .int .u32 a0_2, .int .u32 a0_3, .int .u32 a0_4, .int .i64 a0_5, .int .i32 a0_6, .string a0_7, .string a0_8, .string a0_9, .int .i64 a0_10, .int .u8 a0_11] 26 (0, 0)) (by (with_reducible repeat (first | refine blk_drewN ?_ _ | refine blk_drew ?_ | refine blk_alloc ?_ _)); exact BK181.out) hb); have n2_ := Aside0.mk (blk_below (g := gb182) (o := .cells #[.int .i64 a2_0, .bool a2_1, .int .u32 a2_2, .bool a2_3] 29 (0, 0)) (by (with_reducible repeat (first | refine blk_drewN ?_ _ | refine blk_drew ?_ | refine blk_alloc ?_ _)); exact BK182.out) hb); have n3_ := Aside0.mk (below_step (by repeat (first | (with_reducible first | exact HB.out | apply below_alloc | apply pw_below_drewN | apply below_drew1 | refine below_set ?_ GE181.out | refine below_set ?_ GE182.out) | exact HB.out)) hb); clear BK181; clear BK182; clear HB; have HO186 := n0_; have BK181 := n1_; have BK182 := n2_; have HB := n3_; clear n0_ n1_ n2_ n3_; (try clear hb); (try clear hb2); (try clear hk); (try clear hi); (try clear ho0)))
          go_ret
          exact ⟨by first | rfl | (simp [errW_none, errW_some] <;> rfl) | (simp [*, errW_none, errW_some] <;> rfl), by repeat (first | (with_reducible first | exact HB.out | apply below_alloc | apply pw_below_drewN | apply below_drew1 | refine below_set ?_ GE181.out | refine below_set ?_ GE182.out) | exact HB.out)⟩

end Go.Proofs.YtbebdhaceifmoaaDoor.PApplyChecks
