-- WRITTEN BY wip/xprint.py, a program of the proving session round the kit's print.py; Lean checks it.
import Derived.Test.YtohgoaiimhhckaaDoorPPaxNumbersx0
import Derived.Test.YtohgoaiimhhckaaDoorPPaxNumbersx4
import Derived.Test.YtohgoaiimhhckaaDoorPPaxNumbersx5
namespace Go.Proofs.YtohgoaiimhhckaaDoor.PPaxNumbers
open Go.Proofs.YtohgoaiimhhckaaDoorX
open Go.RowKit Go.Proofs.YtohgoaiimhhckaaDoorW.PrintWords Go.Proofs.YtohgoaiimhhckaaDoorW.PrintLast Go.Proofs.YtohgoaiimhhckaaDoorW.PrintMore
attribute [local go_sem] max2_int min2_int max_two min_two max_three min_three max_four min_four   -- for this text's walks alone
set_option linter.unusedVariables false
set_option linter.unusedSimpArgs false

/-! ### satchelref14_Time: function 21 -/
mutual
def satchelref14_Time.j0 : Nat → ByteArray → Bool → Option (Int × Int × Int)
  | 0, _, _ => none
  | k + 1, x0, x5 => if x5 = true then (if 1 ≤ (x0.size : Int) then (satchelref14_Time.j1 k (x0.extract 1 x0.size) x5) else (none)) else (satchelref14_Time.j1 k x0 x5)
def satchelref14_Time.j1 : Nat → ByteArray → Bool → Option (Int × Int × Int)
  | 0, _, _ => none
  | k + 1, x0, x5 => satchelref14_Time.l0 k x0 x5 0
def satchelref14_Time.j3 : Nat → ByteArray → Bool → Int → Option (Int × Int × Int)
  | 0, _, _, _ => none
  | k + 1, x0, x5, x6 => if 0 ≤ x6 then (if x6 ≤ (x0.size : Int) then (if (x0.extract (x6 : Int).toNat x0.size).toList = ([] : List UInt8) then (satchelref14_Time.j4 k x5 (x0.extract 0 (x6 : Int).toNat) (x0.extract (x6 : Int).toNat x0.size) false) else (if 0 < ((x0.extract (x6 : Int).toNat x0.size).size : Int) then (satchelref14_Time.j4 k x5 (x0.extract 0 (x6 : Int).toNat) (x0.extract (x6 : Int).toNat x0.size) ((bt (x0.extract (x6 : Int).toNat x0.size) 0) != 46)) else (none))) else (none)) else (none)
def satchelref14_Time.j4 : Nat → Bool → ByteArray → ByteArray → Bool → Option (Int × Int × Int)
  | 0, _, _, _, _ => none
  | k + 1, x5, x7, x8, x50 => if x50 = true then (some (0, 0, 120)) else (satchelref14_Time.l1 k x5 x7 x8 0 1)
def satchelref14_Time.l1 : Nat → Bool → ByteArray → ByteArray → Int → Int → Option (Int × Int × Int)
  | 0, _, _, _, _, _ => none
  | k + 1, x5, x7, x8, x9, x10 => if x10 ≤ 9 then (if x10 < (x8.size : Int) then (if 0 ≤ x10 then ((satchelref14_digit.f (bt x8 x10)).bind fun t124 => (if t124 = true then (satchelref14_Time.l1 k x5 x7 x8 (wrap32 ((wrap32 (10 * x9)) + (((bt x8 x10) - 48) % 256))) (wrap64 (x10 + 1))) else (satchelref14_Time.l1 k x5 x7 x8 (wrap32 ((wrap32 (10 * x9)) + 0)) (wrap64 (x10 + 1))))) else (none)) else (satchelref14_Time.l1 k x5 x7 x8 (wrap32 ((wrap32 (10 * x9)) + 0)) (wrap64 (x10 + 1)))) else (satchelref14_Time.l2 k x5 x7 x8 x9 1)
def satchelref14_Time.l2 : Nat → Bool → ByteArray → ByteArray → Int → Int → Option (Int × Int × Int)
  | 0, _, _, _, _, _ => none
  | k + 1, x5, x7, x8, x9, x12 => if x12 < (x8.size : Int) then (if 0 ≤ x12 then ((satchelref14_digit.f (bt x8 x12)).bind fun t125 => (if t125 = true then (satchelref14_Time.l2 k x5 x7 x8 x9 (wrap64 (x12 + 1))) else (some (0, 0, 120)))) else (none)) else ((satchelref14_Number.f k x7).bind fun bt126 => (if bt126.2 = 0 then (if x5 = true then (satchelref14_Time.j7 k x5 x9 bt126.1 (decide (x9 > 0))) else (satchelref14_Time.j7 k x5 x9 bt126.1 false)) else (some (0, 0, bt126.2))))
def satchelref14_Time.j7 : Nat → Bool → Int → Int → Bool → Option (Int × Int × Int)
  | 0, _, _, _, _ => none
  | k + 1, x5, x9, x13, x93 => if x93 = true then (some (wrap64 ((wrap64 (-x13)) - 1), wrap32 (1000000000 - x9), 0)) else (if x5 = true then (some (wrap64 (-x13), 0, 0)) else (some (x13, x9, 0)))
def satchelref14_Time.l0 : Nat → ByteArray → Bool → Int → Option (Int × Int × Int)
  | 0, _, _, _ => none
  | k + 1, x0, x5, x6 => if x6 < (x0.size : Int) then (if 0 ≤ x6 then ((satchelref14_digit.f (bt x0 x6)).bind fun t123 => (if t123 = true then (satchelref14_Time.l0 k x0 x5 (wrap64 (x6 + 1))) else (satchelref14_Time.j3 k x0 x5 x6))) else (none)) else (satchelref14_Time.j3 k x0 x5 x6)
end
def satchelref14_Time.f (k : Nat) (a0 : ByteArray) : Option (Int × Int × Int) := if (a0.size : Int) > 0 then (if 0 < (a0.size : Int) then (satchelref14_Time.j0 k a0 ((bt a0 0) == 45)) else (none)) else (satchelref14_Time.j0 k a0 false)
theorem satchelref14_Time.mono_l : ∀ k, (∀ y0 y1, LeO (satchelref14_Time.j0 k y0 y1) (satchelref14_Time.j0 (k + 1) y0 y1)) ∧ (∀ y0 y1, LeO (satchelref14_Time.j1 k y0 y1) (satchelref14_Time.j1 (k + 1) y0 y1)) ∧ (∀ y0 y1 y2, LeO (satchelref14_Time.j3 k y0 y1 y2) (satchelref14_Time.j3 (k + 1) y0 y1 y2)) ∧ (∀ y0 y1 y2 y3, LeO (satchelref14_Time.j4 k y0 y1 y2 y3) (satchelref14_Time.j4 (k + 1) y0 y1 y2 y3)) ∧ (∀ y0 y1 y2 y3 y4, LeO (satchelref14_Time.l1 k y0 y1 y2 y3 y4) (satchelref14_Time.l1 (k + 1) y0 y1 y2 y3 y4)) ∧ (∀ y0 y1 y2 y3 y4, LeO (satchelref14_Time.l2 k y0 y1 y2 y3 y4) (satchelref14_Time.l2 (k + 1) y0 y1 y2 y3 y4)) ∧ (∀ y0 y1 y2 y3, LeO (satchelref14_Time.j7 k y0 y1 y2 y3) (satchelref14_Time.j7 (k + 1) y0 y1 y2 y3)) ∧ (∀ y0 y1 y2, LeO (satchelref14_Time.l0 k y0 y1 y2) (satchelref14_Time.l0 (k + 1) y0 y1 y2))
  | 0 => ⟨fun _ _ r h => by simp [satchelref14_Time.j0] at h, fun _ _ r h => by simp [satchelref14_Time.j1] at h, fun _ _ _ r h => by simp [satchelref14_Time.j3] at h, fun _ _ _ _ r h => by simp [satchelref14_Time.j4] at h, fun _ _ _ _ _ r h => by simp [satchelref14_Time.l1] at h, fun _ _ _ _ _ r h => by simp [satchelref14_Time.l2] at h, fun _ _ _ _ r h => by simp [satchelref14_Time.j7] at h, fun _ _ _ r h => by simp [satchelref14_Time.l0] at h⟩
  | k + 1 => by
    obtain ⟨ih0, ih1, ih2, ih3, ih4, ih5, ih6, ih7⟩ := satchelref14_Time.mono_l k
    refine ⟨?_, ?_, ?_, ?_, ?_, ?_, ?_, ?_⟩
    · intro y0 y1
      unfold satchelref14_Time.j0
      repeat' first
      | (with_reducible exact ih0 _ _)
      | (with_reducible exact ih1 _ _)
      | (with_reducible exact ih2 _ _ _)
      | (with_reducible exact ih3 _ _ _ _)
      | (with_reducible exact ih4 _ _ _ _ _)
      | (with_reducible exact ih5 _ _ _ _ _)
      | (with_reducible exact ih6 _ _ _ _)
      | (with_reducible exact ih7 _ _ _)
      | (with_reducible exact satchelref14_Number.mono _ _)
      | (with_reducible exact LeO.refl _)
      | (with_reducible exact LeO.none _)
      | (with_reducible refine LeO.ite ?_ ?_)
      | (with_reducible refine LeO.bind ?_ (fun _ => ?_))
      | exact ih0 _ _
      | exact ih1 _ _
      | exact ih2 _ _ _
      | exact ih3 _ _ _ _
      | exact ih4 _ _ _ _ _
      | exact ih5 _ _ _ _ _
      | exact ih6 _ _ _ _
      | exact ih7 _ _ _
      | exact satchelref14_Number.mono _ _
      | exact LeO.none _
      | refine LeO.ite ?_ ?_
      | refine LeO.bind ?_ (fun _ => ?_)
    · intro y0 y1
      unfold satchelref14_Time.j1
      repeat' first
      | (with_reducible exact ih0 _ _)
      | (with_reducible exact ih1 _ _)
      | (with_reducible exact ih2 _ _ _)
      | (with_reducible exact ih3 _ _ _ _)
      | (with_reducible exact ih4 _ _ _ _ _)
      | (with_reducible exact ih5 _ _ _ _ _)
      | (with_reducible exact ih6 _ _ _ _)
      | (with_reducible exact ih7 _ _ _)
      | (with_reducible exact satchelref14_Number.mono _ _)
      | (with_reducible exact LeO.refl _)
      | (with_reducible exact LeO.none _)
      | (with_reducible refine LeO.ite ?_ ?_)
      | (with_reducible refine LeO.bind ?_ (fun _ => ?_))
      | exact ih0 _ _
      | exact ih1 _ _
      | exact ih2 _ _ _
      | exact ih3 _ _ _ _
      | exact ih4 _ _ _ _ _
      | exact ih5 _ _ _ _ _
      | exact ih6 _ _ _ _
      | exact ih7 _ _ _
      | exact satchelref14_Number.mono _ _
      | exact LeO.none _
      | refine LeO.ite ?_ ?_
      | refine LeO.bind ?_ (fun _ => ?_)
    · intro y0 y1 y2
      unfold satchelref14_Time.j3
      repeat' first
      | (with_reducible exact ih0 _ _)
      | (with_reducible exact ih1 _ _)
      | (with_reducible exact ih2 _ _ _)
      | (with_reducible exact ih3 _ _ _ _)
      | (with_reducible exact ih4 _ _ _ _ _)
      | (with_reducible exact ih5 _ _ _ _ _)
      | (with_reducible exact ih6 _ _ _ _)
      | (with_reducible exact ih7 _ _ _)
      | (with_reducible exact satchelref14_Number.mono _ _)
      | (with_reducible exact LeO.refl _)
      | (with_reducible exact LeO.none _)
      | (with_reducible refine LeO.ite ?_ ?_)
      | (with_reducible refine LeO.bind ?_ (fun _ => ?_))
      | exact ih0 _ _
      | exact ih1 _ _
      | exact ih2 _ _ _
      | exact ih3 _ _ _ _
      | exact ih4 _ _ _ _ _
      | exact ih5 _ _ _ _ _
      | exact ih6 _ _ _ _
      | exact ih7 _ _ _
      | exact satchelref14_Number.mono _ _
      | exact LeO.none _
      | refine LeO.ite ?_ ?_
      | refine LeO.bind ?_ (fun _ => ?_)
    · intro y0 y1 y2 y3
      unfold satchelref14_Time.j4
      repeat' first
      | (with_reducible exact ih0 _ _)
      | (with_reducible exact ih1 _ _)
      | (with_reducible exact ih2 _ _ _)
      | (with_reducible exact ih3 _ _ _ _)
      | (with_reducible exact ih4 _ _ _ _ _)
      | (with_reducible exact ih5 _ _ _ _ _)
      | (with_reducible exact ih6 _ _ _ _)
      | (with_reducible exact ih7 _ _ _)
      | (with_reducible exact satchelref14_Number.mono _ _)
      | (with_reducible exact LeO.refl _)
      | (with_reducible exact LeO.none _)
      | (with_reducible refine LeO.ite ?_ ?_)
      | (with_reducible refine LeO.bind ?_ (fun _ => ?_))
      | exact ih0 _ _
      | exact ih1 _ _
      | exact ih2 _ _ _
      | exact ih3 _ _ _ _
      | exact ih4 _ _ _ _ _
      | exact ih5 _ _ _ _ _
      | exact ih6 _ _ _ _
      | exact ih7 _ _ _
      | exact satchelref14_Number.mono _ _
      | exact LeO.none _
      | refine LeO.ite ?_ ?_
      | refine LeO.bind ?_ (fun _ => ?_)
    · intro y0 y1 y2 y3 y4
      unfold satchelref14_Time.l1
      repeat' first
      | (with_reducible exact ih0 _ _)
      | (with_reducible exact ih1 _ _)
      | (with_reducible exact ih2 _ _ _)
      | (with_reducible exact ih3 _ _ _ _)
      | (with_reducible exact ih4 _ _ _ _ _)
      | (with_reducible exact ih5 _ _ _ _ _)
      | (with_reducible exact ih6 _ _ _ _)
      | (with_reducible exact ih7 _ _ _)
      | (with_reducible exact satchelref14_Number.mono _ _)
      | (with_reducible exact LeO.refl _)
      | (with_reducible exact LeO.none _)
      | (with_reducible refine LeO.ite ?_ ?_)
      | (with_reducible refine LeO.bind ?_ (fun _ => ?_))
      | exact ih0 _ _
      | exact ih1 _ _
      | exact ih2 _ _ _
      | exact ih3 _ _ _ _
      | exact ih4 _ _ _ _ _
      | exact ih5 _ _ _ _ _
      | exact ih6 _ _ _ _
      | exact ih7 _ _ _
      | exact satchelref14_Number.mono _ _
      | exact LeO.none _
      | refine LeO.ite ?_ ?_
      | refine LeO.bind ?_ (fun _ => ?_)
    · intro y0 y1 y2 y3 y4
      unfold satchelref14_Time.l2
      repeat' first
      | (with_reducible exact ih0 _ _)
      | (with_reducible exact ih1 _ _)
      | (with_reducible exact ih2 _ _ _)
      | (with_reducible exact ih3 _ _ _ _)
      | (with_reducible exact ih4 _ _ _ _ _)
      | (with_reducible exact ih5 _ _ _ _ _)
      | (with_reducible exact ih6 _ _ _ _)
      | (with_reducible exact ih7 _ _ _)
      | (with_reducible exact satchelref14_Number.mono _ _)
      | (with_reducible exact LeO.refl _)
      | (with_reducible exact LeO.none _)
      | (with_reducible refine LeO.ite ?_ ?_)
      | (with_reducible refine LeO.bind ?_ (fun _ => ?_))
      | exact ih0 _ _
      | exact ih1 _ _
      | exact ih2 _ _ _
      | exact ih3 _ _ _ _
      | exact ih4 _ _ _ _ _
      | exact ih5 _ _ _ _ _
      | exact ih6 _ _ _ _
      | exact ih7 _ _ _
      | exact satchelref14_Number.mono _ _
      | exact LeO.none _
      | refine LeO.ite ?_ ?_
      | refine LeO.bind ?_ (fun _ => ?_)
    · intro y0 y1 y2 y3
      unfold satchelref14_Time.j7
      repeat' first
      | (with_reducible exact ih0 _ _)
      | (with_reducible exact ih1 _ _)
      | (with_reducible exact ih2 _ _ _)
      | (with_reducible exact ih3 _ _ _ _)
      | (with_reducible exact ih4 _ _ _ _ _)
      | (with_reducible exact ih5 _ _ _ _ _)
      | (with_reducible exact ih6 _ _ _ _)
      | (with_reducible exact ih7 _ _ _)
      | (with_reducible exact satchelref14_Number.mono _ _)
      | (with_reducible exact LeO.refl _)
      | (with_reducible exact LeO.none _)
      | (with_reducible refine LeO.ite ?_ ?_)
      | (with_reducible refine LeO.bind ?_ (fun _ => ?_))
      | exact ih0 _ _
      | exact ih1 _ _
      | exact ih2 _ _ _
      | exact ih3 _ _ _ _
      | exact ih4 _ _ _ _ _
      | exact ih5 _ _ _ _ _
      | exact ih6 _ _ _ _
      | exact ih7 _ _ _
      | exact satchelref14_Number.mono _ _
      | exact LeO.none _
      | refine LeO.ite ?_ ?_
      | refine LeO.bind ?_ (fun _ => ?_)
    · intro y0 y1 y2
      unfold satchelref14_Time.l0
      repeat' first
      | (with_reducible exact ih0 _ _)
      | (with_reducible exact ih1 _ _)
      | (with_reducible exact ih2 _ _ _)
      | (with_reducible exact ih3 _ _ _ _)
      | (with_reducible exact ih4 _ _ _ _ _)
      | (with_reducible exact ih5 _ _ _ _ _)
      | (with_reducible exact ih6 _ _ _ _)
      | (with_reducible exact ih7 _ _ _)
      | (with_reducible exact satchelref14_Number.mono _ _)
      | (with_reducible exact LeO.refl _)
      | (with_reducible exact LeO.none _)
      | (with_reducible refine LeO.ite ?_ ?_)
      | (with_reducible refine LeO.bind ?_ (fun _ => ?_))
      | exact ih0 _ _
      | exact ih1 _ _
      | exact ih2 _ _ _
      | exact ih3 _ _ _ _
      | exact ih4 _ _ _ _ _
      | exact ih5 _ _ _ _ _
      | exact ih6 _ _ _ _
      | exact ih7 _ _ _
      | exact satchelref14_Number.mono _ _
      | exact LeO.none _
      | refine LeO.ite ?_ ?_
      | refine LeO.bind ?_ (fun _ => ?_)
theorem satchelref14_Time.mono : ∀ a0 k, LeO (satchelref14_Time.f k a0) (satchelref14_Time.f (k + 1) a0) := by
  intro a0 k
  obtain ⟨ih0, ih1, ih2, ih3, ih4, ih5, ih6, ih7⟩ := satchelref14_Time.mono_l k
  unfold satchelref14_Time.f
  repeat' first
      | (with_reducible exact ih0 _ _)
      | (with_reducible exact ih1 _ _)
      | (with_reducible exact ih2 _ _ _)
      | (with_reducible exact ih3 _ _ _ _)
      | (with_reducible exact ih4 _ _ _ _ _)
      | (with_reducible exact ih5 _ _ _ _ _)
      | (with_reducible exact ih6 _ _ _ _)
      | (with_reducible exact ih7 _ _ _)
      | (with_reducible exact satchelref14_Number.mono _ _)
      | (with_reducible exact LeO.refl _)
      | (with_reducible exact LeO.none _)
      | (with_reducible refine LeO.ite ?_ ?_)
      | (with_reducible refine LeO.bind ?_ (fun _ => ?_))
      | exact ih0 _ _
      | exact ih1 _ _
      | exact ih2 _ _ _
      | exact ih3 _ _ _ _
      | exact ih4 _ _ _ _ _
      | exact ih5 _ _ _ _ _
      | exact ih6 _ _ _ _
      | exact ih7 _ _ _
      | exact satchelref14_Number.mono _ _
      | exact LeO.none _
      | refine LeO.ite ?_ ?_
      | refine LeO.bind ?_ (fun _ => ?_)
set_option maxHeartbeats 8000000 in
set_option maxRecDepth 100000 in
theorem satchelref14_Time.calls (k : Nat) (a0 : ByteArray) (r1 : Int) (r2 : Int) (r3 : Int) (w : World) (hG : Gv w) (h : satchelref14_Time.f k a0 = some (r1, r2, r3)) :
    Calls Tryd.prog 21 #[.string a0] w fun e w' => e = .returned (.tuple #[.int .i64 r1, .int .i32 r2, .int .i64 r3]) ∧ Drawn0 w w' := by
  have HG := Aside0.mk hG
  clear hG
  have H : (if (a0.size : Int) > 0 then (if 0 < (a0.size : Int) then (satchelref14_Time.j0 k a0 ((bt a0 0) == 45)) else (none)) else (satchelref14_Time.j0 k a0 false)) = some (r1, r2, r3) := h
  clear h
  have HC2 := Aside0.mk H
  clear H
  go_enter Tryd.func21, Tryd.ntmps21
  go_upto_region 1 with (fail)
  repeat (go_quiet (fail); go_upto_region 1 with (fail))
  go_cut [5] (fun v5 wc => ∃ (kq : Nat) (x5_1 : Bool), v5 = .bool x5_1 ∧ Aside0 (satchelref14_Time.j0 kq a0 x5_1 = some (r1, r2, r3)) ∧ Aside0 (kq ≤ k) ∧ Drawn0 w wc)
  case first =>
    have H := HC2.out
    clear HC2
    by_cases c3 : (a0.size : Int) > 0
    · rw [if_pos c3] at H
      have c3b0 : decide (0 < (a0.size : Int)) = true := decide_eq_true c3
      have c3b1 : decide (0 < a0.size) = true := decide_eq_true (by omega)
      clear c3
      (first | rw [c3b0] | (simp only [i64_w, i32_w]; rw [c3b0]) | skip)
      by_cases c4 : 0 < (a0.size : Int)
      · rw [if_pos c4] at H
        have c4b0 : decide (0 < (a0.size : Int)) = true := decide_eq_true c4
        have c4b1 : decide (0 < a0.size) = true := decide_eq_true (by omega)
        clear c4
        have H' := Aside0.mk H
        clear H
        have p5 : 0 ≤ (0 : Int) := (by omega)
        have q5 : 0 < a0.size := (by have : (0 : Int) < (a0.size : Int) := of_decide_eq_true (by first | (with_reducible assumption) | assumption); omega)
        have hx5 : ∀ h : 0 < a0.size, ((a0[0]'h).toNat : Int) = bt a0 0 := bt_at a0 0
        clear p5
        have qi5 : (0 < (a0.size : Int)) = True := eq_true (of_decide_eq_true (by first | (with_reducible assumption) | assumption))
        replace q5 := eq_true q5
        go_wp2
        repeat (go_quiet (fail); try go_wp2)
        go_meet
        case rel => exact ⟨_, (((bt a0 0) == 45)), (by first | rfl | (simp; done) | (simp [*]; done)), H', ⟨by first | omega | exact Nat.le_refl _⟩, by repeat (first | exact Drawn0.refl _ | apply Drawn0.step)⟩
      · rw [if_neg c4] at H
        exact absurd H (by simp)
    · rw [if_neg c3] at H
      have c3b0 : decide (0 < (a0.size : Int)) = false := decide_eq_false c3
      have c3b1 : decide (0 < a0.size) = false := decide_eq_false (by omega)
      clear c3
      (first | rw [c3b0] | (simp only [i64_w, i32_w]; rw [c3b0]) | skip)
      have H' := Aside0.mk H
      clear H
      go_wp2
      repeat (go_quiet (fail); try go_wp2)
      go_meet
      case rel => exact ⟨_, (false), (by first | rfl | (simp; done) | (simp [*]; done)), H', ⟨by first | omega | exact Nat.le_refl _⟩, by repeat (first | exact Drawn0.refl _ | apply Drawn0.step)⟩
  case rest =>
    clear HC2
    try clear c2
    try clear p2
    try clear c3
    try clear c3b0
    try clear c3b1
    try clear c4
    try clear c4b0
    try clear c4b1
    try clear p5
    try clear q5
    try clear hx5
    try clear qi5
    try clear p5
    try clear q5
    obtain ⟨kq, x5_1, rfl, HA, HJ1, ⟨mc1, rfl⟩⟩ := hcut
    cases kq with
    | zero => exact absurd HA.out (by simp [satchelref14_Time.j0])
    | succ kj1 =>
      have H := HA.out
      clear HA
      simp only [satchelref14_Time.j0] at H
      have HC6 := Aside0.mk H
      clear H
      go_upto_if 23 with (fail)
      repeat (go_quiet (fail); go_upto_if 23 with (fail))
      go_cut [0] (fun v0 wc => ∃ (kq : Nat) (x0_5 : ByteArray), v0 = .string x0_5 ∧ Aside0 (satchelref14_Time.j1 kq x0_5 x5_1 = some (r1, r2, r3)) ∧ Aside0 (kq ≤ kj1) ∧ Drawn0 w wc)
      case first =>
        have H := HC6.out
        clear HC6
        by_cases c7 : x5_1 = true
        · subst c7
          have H1 : (if 1 ≤ (a0.size : Int) then (satchelref14_Time.j1 kj1 (a0.extract 1 a0.size) true) else (none)) = some (r1, r2, r3) := by rw [if_pos rfl] at H; exact H
          clear H
          have H := H1
          clear H1
          by_cases c8 : 1 ≤ (a0.size : Int)
          · rw [if_pos c8] at H
            have c8b0 := eq_true c8
            have c8b1 : decide (1 ≤ (a0.size : Int)) = true := decide_eq_true c8
            clear c8
            have H' := Aside0.mk H
            clear H
            go_wp2
            repeat (go_quiet (fail); try go_wp2)
            go_meet
            case rel => exact ⟨_, (a0.extract 1 a0.size), (by first | rfl | (simp; done) | (simp [*]; done)), H', ⟨by have := HJ1.out; first | omega | exact Nat.le_refl _⟩, by repeat (first | exact Drawn0.refl _ | apply Drawn0.step)⟩
          · rw [if_neg c8] at H
            exact absurd H (by simp)
        · replace c7 := Bool.eq_false_iff.mpr c7
          subst c7
          have H1 : (satchelref14_Time.j1 kj1 a0 false) = some (r1, r2, r3) := by rw [if_neg (show ¬ (false = true) by decide)] at H; exact H
          clear H
          have H := H1
          clear H1
          have H' := Aside0.mk H
          clear H
          go_wp2
          repeat (go_quiet (fail); try go_wp2)
          go_meet
          case rel => exact ⟨_, (a0), (by first | rfl | (simp; done) | (simp [*]; done)), H', ⟨by have := HJ1.out; first | omega | exact Nat.le_refl _⟩, by repeat (first | exact Drawn0.refl _ | apply Drawn0.step)⟩
      case rest =>
        clear HC6
        try clear c1
        try clear c2
        try clear p2
        try clear c3
        try clear c3b0
        try clear c3b1
        try clear c4
        try clear c4b0
        try clear c4b1
        try clear p5
        try clear q5
        try clear hx5
        try clear qi5
        try clear c7
        try clear c8
        try clear c8b0
        try clear c8b1
        try clear p2
        try clear p5
        try clear q5
        obtain ⟨kq, x0_5, rfl, HA, HJ5, ⟨mc5, rfl⟩⟩ := hcut
        cases kq with
        | zero => exact absurd HA.out (by simp [satchelref14_Time.j1])
        | succ kj5 =>
          have H := HA.out
          clear HA
          simp only [satchelref14_Time.j1] at H
          have HC9 := Aside0.mk H
          clear H
          go_upto_block 0 with (fail)
          repeat (go_quiet (fail); go_upto_block 0 with (fail))
          go_cut [6] (fun v6 wc => ∃ (kq : Nat) (x6_8 : Int), v6 = .int .i64 x6_8 ∧ Aside0 (satchelref14_Time.j3 kq x0_5 x5_1 x6_8 = some (r1, r2, r3)) ∧ Aside0 (kq ≤ kj5) ∧ Drawn0 w wc)
          case first =>
            have H := HC9.out
            clear HC9
            have H' := Aside0.mk H
            clear H
            go_wp2
            repeat (go_quiet (fail); try go_wp2)
            go_loopg [6] kj5 (fun kq v6 w' => ∃ (x6_3 : Int), v6 = .int .i64 x6_3 ∧ Aside0 (satchelref14_Time.l0 kq x0_5 x5_1 x6_3 = some (r1, r2, r3)) ∧ Aside0 (kq ≤ kj5) ∧ Drawn0 w w')
            case atStart => exact ⟨(0), (by first | rfl | (simp; done) | (simp [*]; done)), H', ⟨Nat.le_refl _⟩, by repeat (first | exact Drawn0.refl _ | apply Drawn0.step)⟩
            case round =>
              clear H'
              try clear c1
              try clear c2
              try clear p2
              try clear c3
              try clear c3b0
              try clear c3b1
              try clear c4
              try clear c4b0
              try clear c4b1
              try clear c5
              try clear p5
              try clear q5
              try clear hx5
              try clear qi5
              try clear c7
              try clear c8
              try clear c8b0
              try clear c8b1
              try clear p2
              try clear p5
              try clear q5
              obtain ⟨x6_3, rfl, HA, HK3, ⟨m3, rfl⟩⟩ := hrel
              cases gk with
              | zero => exact absurd HA.out (by simp [satchelref14_Time.l0])
              | succ k3 =>
                have H := HA.out
                clear HA
                simp only [satchelref14_Time.l0] at H
                by_cases c10 : x6_3 < (x0_5.size : Int)
                · rw [if_pos c10] at H
                  have c10b0 : decide (x6_3 < (x0_5.size : Int)) = true := decide_eq_true c10
                  clear c10
                  (first | rw [c10b0] | (simp only [i64_w, i32_w]; rw [c10b0]) | skip)
                  by_cases c11 : 0 ≤ x6_3
                  · rw [if_pos c11] at H
                    have c11b0 : decide (0 ≤ x6_3) = true := decide_eq_true c11
                    clear c11
                    replace H := Option.bind_eq_some_iff.mp H
                    obtain ⟨t123, A130, H⟩ := H
                    replace H : (if t123 = true then (satchelref14_Time.l0 k3 x0_5 x5_1 (wrap64 (x6_3 + 1))) else (satchelref14_Time.j3 k3 x0_5 x5_1 x6_3)) = some (r1, r2, r3) := H
                    have A13 := Aside0.mk A130
                    clear A130
                    by_cases c14 : t123 = true
                    · subst c14
                      have H1 : (satchelref14_Time.l0 k3 x0_5 x5_1 (wrap64 (x6_3 + 1))) = some (r1, r2, r3) := by rw [if_pos rfl] at H; exact H
                      clear H
                      have H := H1
                      clear H1
                      have H' := Aside0.mk H
                      clear H
                      have p12 : 0 ≤ (x6_3 : Int) := of_decide_eq_true (by first | (with_reducible assumption) | assumption)
                      have q12 : x6_3 < (x0_5.size : Int) := of_decide_eq_true (by first | (with_reducible assumption) | assumption)
                      have hx12 := bt_at x0_5 x6_3
                      replace p12 := eq_true p12
                      replace q12 := eq_true q12
                      go_wp2_with (first | (go_at_call 46; (with_reducible refine (satchelref14_digit.calls (bt x0_5 x6_3) true _ ?side1 A13.out).mono ?_); (case side1 => first | exact HG.out | (repeat (first | exact HG.out | apply Gv_drewN | apply Gv_drew))); rintro e w' ⟨rfl, ⟨nd, rfl⟩⟩; (try first | exact ⟨rfl, _, World.drewN_drewN _ _ _⟩ | exact ⟨rfl, _, Eq.trans (World.drewN_drewN _ _ _) (congrArg (World.drewN _) (Nat.add_assoc _ _ _))⟩)))
                      repeat (go_quiet (first | (go_at_call 46; (with_reducible refine (satchelref14_digit.calls (bt x0_5 x6_3) true _ ?side1 A13.out).mono ?_); (case side1 => first | exact HG.out | (repeat (first | exact HG.out | apply Gv_drewN | apply Gv_drew))); rintro e w' ⟨rfl, ⟨nd, rfl⟩⟩; (try first | exact ⟨rfl, _, World.drewN_drewN _ _ _⟩ | exact ⟨rfl, _, Eq.trans (World.drewN_drewN _ _ _) (congrArg (World.drewN _) (Nat.add_assoc _ _ _))⟩))); try go_wp2_with (first | (go_at_call 46; (with_reducible refine (satchelref14_digit.calls (bt x0_5 x6_3) true _ ?side1 A13.out).mono ?_); (case side1 => first | exact HG.out | (repeat (first | exact HG.out | apply Gv_drewN | apply Gv_drew))); rintro e w' ⟨rfl, ⟨nd, rfl⟩⟩; (try first | exact ⟨rfl, _, World.drewN_drewN _ _ _⟩ | exact ⟨rfl, _, Eq.trans (World.drewN_drewN _ _ _) (congrArg (World.drewN _) (Nat.add_assoc _ _ _))⟩))))
                      go_roundg k3
                      case measure => have := HJ1.out; have := HJ5.out; have := HK3.out; omega
                      case rel => exact ⟨(wrap64 (x6_3 + 1)), (by first | rfl | (simp; done) | (simp [*]; done)), H', ⟨by have := HJ1.out; have := HJ5.out; have := HK3.out; omega⟩, by repeat (first | exact Drawn0.refl _ | apply Drawn0.step)⟩
                    · replace c14 := Bool.eq_false_iff.mpr c14
                      subst c14
                      have H1 : (satchelref14_Time.j3 k3 x0_5 x5_1 x6_3) = some (r1, r2, r3) := by rw [if_neg (show ¬ (false = true) by decide)] at H; exact H
                      clear H
                      have H := H1
                      clear H1
                      have H' := Aside0.mk H
                      clear H
                      have p12 : 0 ≤ (x6_3 : Int) := of_decide_eq_true (by first | (with_reducible assumption) | assumption)
                      have q12 : x6_3 < (x0_5.size : Int) := of_decide_eq_true (by first | (with_reducible assumption) | assumption)
                      have hx12 := bt_at x0_5 x6_3
                      replace p12 := eq_true p12
                      replace q12 := eq_true q12
                      go_wp2_with (first | (go_at_call 46; (with_reducible refine (satchelref14_digit.calls (bt x0_5 x6_3) false _ ?side1 A13.out).mono ?_); (case side1 => first | exact HG.out | (repeat (first | exact HG.out | apply Gv_drewN | apply Gv_drew))); rintro e w' ⟨rfl, ⟨nd, rfl⟩⟩; (try first | exact ⟨rfl, _, World.drewN_drewN _ _ _⟩ | exact ⟨rfl, _, Eq.trans (World.drewN_drewN _ _ _) (congrArg (World.drewN _) (Nat.add_assoc _ _ _))⟩)))
                      repeat (go_quiet (first | (go_at_call 46; (with_reducible refine (satchelref14_digit.calls (bt x0_5 x6_3) false _ ?side1 A13.out).mono ?_); (case side1 => first | exact HG.out | (repeat (first | exact HG.out | apply Gv_drewN | apply Gv_drew))); rintro e w' ⟨rfl, ⟨nd, rfl⟩⟩; (try first | exact ⟨rfl, _, World.drewN_drewN _ _ _⟩ | exact ⟨rfl, _, Eq.trans (World.drewN_drewN _ _ _) (congrArg (World.drewN _) (Nat.add_assoc _ _ _))⟩))); try go_wp2_with (first | (go_at_call 46; (with_reducible refine (satchelref14_digit.calls (bt x0_5 x6_3) false _ ?side1 A13.out).mono ?_); (case side1 => first | exact HG.out | (repeat (first | exact HG.out | apply Gv_drewN | apply Gv_drew))); rintro e w' ⟨rfl, ⟨nd, rfl⟩⟩; (try first | exact ⟨rfl, _, World.drewN_drewN _ _ _⟩ | exact ⟨rfl, _, Eq.trans (World.drewN_drewN _ _ _) (congrArg (World.drewN _) (Nat.add_assoc _ _ _))⟩))))
                      go_meet
                      case rel => exact ⟨_, (x6_3), (by first | rfl | (simp; done) | (simp [*]; done)), H', ⟨by have := HJ1.out; have := HJ5.out; have := HK3.out; first | omega | exact Nat.le_refl _⟩, by repeat (first | exact Drawn0.refl _ | apply Drawn0.step)⟩
                  · rw [if_neg c11] at H
                    exact absurd H (by simp)
                · rw [if_neg c10] at H
                  have c10b0 : decide (x6_3 < (x0_5.size : Int)) = false := decide_eq_false c10
                  clear c10
                  (first | rw [c10b0] | (simp only [i64_w, i32_w]; rw [c10b0]) | skip)
                  have H' := Aside0.mk H
                  clear H
                  go_wp2
                  repeat (go_quiet (fail); try go_wp2)
                  go_meet
                  case rel => exact ⟨_, (x6_3), (by first | rfl | (simp; done) | (simp [*]; done)), H', ⟨by have := HJ1.out; have := HJ5.out; have := HK3.out; first | omega | exact Nat.le_refl _⟩, by repeat (first | exact Drawn0.refl _ | apply Drawn0.step)⟩
          case rest =>
            clear HC9
            try clear c1
            try clear p1
            try clear q1
            try clear hx1
            try clear c2
            try clear p2
            try clear c3
            try clear c3b0
            try clear c3b1
            try clear c4
            try clear c4b0
            try clear c4b1
            try clear c5
            try clear p5
            try clear q5
            try clear hx5
            try clear qi5
            try clear p6
            try clear c7
            try clear c8
            try clear c8b0
            try clear c8b1
            try clear c10
            try clear c10b0
            try clear c11
            try clear c11b0
            try clear p12
            try clear q12
            try clear hx12
            try clear c14
            try clear p12
            try clear p2
            try clear p5
            try clear q12
            try clear q5
            obtain ⟨kq, x6_8, rfl, HA, HJ8, ⟨mc8, rfl⟩⟩ := hcut
            cases kq with
            | zero => exact absurd HA.out (by simp [satchelref14_Time.j3])
            | succ kj8 =>
              have H := HA.out
              clear HA
              simp only [satchelref14_Time.j3] at H
              by_cases c15 : 0 ≤ x6_8
              · rw [if_pos c15] at H
                have c15b0 := eq_true c15
                have c15b1 : decide (0 ≤ x6_8) = true := decide_eq_true c15
                clear c15
                by_cases c16 : x6_8 ≤ (x0_5.size : Int)
                · rw [if_pos c16] at H
                  have c16b0 := eq_true c16
                  have c16b1 : decide (x6_8 ≤ (x0_5.size : Int)) = true := decide_eq_true c16
                  clear c16
                  have c17b0 := eq_true (of_decide_eq_true (by first | (with_reducible assumption) | assumption) : 0 ≤ x6_8)
                  have c18b0 := eq_true (of_decide_eq_true (by first | (with_reducible assumption) | assumption) : x6_8 ≤ (x0_5.size : Int))
                  have HC19 := Aside0.mk H
                  clear H
                  go_upto_region 8 with (fail)
                  repeat (go_quiet (fail); go_upto_region 8 with (fail))
                  go_cut [50] (fun v50 wc => ∃ (kq : Nat) (x50_18 : Bool), v50 = .bool x50_18 ∧ Aside0 (satchelref14_Time.j4 kq x5_1 (x0_5.extract 0 (x6_8 : Int).toNat) (x0_5.extract (x6_8 : Int).toNat x0_5.size) x50_18 = some (r1, r2, r3)) ∧ Aside0 (kq ≤ kj8) ∧ Drawn0 w wc)
                  case first =>
                    have H := HC19.out
                    clear HC19
                    by_cases c20 : (x0_5.extract (x6_8 : Int).toNat x0_5.size).toList = ([] : List UInt8)
                    · rw [if_pos c20] at H
                      have c20b0 : ((x0_5.extract (x6_8 : Int).toNat x0_5.size).toList == ([] : List UInt8)) = true := beq_iff_eq.mpr c20
                      try have c20b0n := c20b0
                      try simp only [ByteArray.size_extract, Nat.min_self] at c20b0n
                      have c20b1 : ((x0_5.extract (x6_8 : Int).toNat x0_5.size).toList != ([] : List UInt8)) = false := bne_eq_false_iff_eq.mpr c20
                      try have c20b1n := c20b1
                      try simp only [ByteArray.size_extract, Nat.min_self] at c20b1n
                      clear c20
                      (first | rw [c20b0] | (simp only [i64_w, i32_w]; rw [c20b0]) | skip)
                      have H' := Aside0.mk H
                      clear H
                      go_wp2
                      repeat (go_quiet (fail); try go_wp2)
                      go_meet
                      case rel => exact ⟨_, (false), (by first | rfl | (simp; done) | (simp [*]; done)), H', ⟨by have := HJ1.out; have := HJ5.out; have := HJ8.out; first | omega | exact Nat.le_refl _⟩, by repeat (first | exact Drawn0.refl _ | apply Drawn0.step)⟩
                    · rw [if_neg c20] at H
                      have c20b0 : ((x0_5.extract (x6_8 : Int).toNat x0_5.size).toList == ([] : List UInt8)) = false := beq_eq_false_iff_ne.mpr c20
                      try have c20b0n := c20b0
                      try simp only [ByteArray.size_extract, Nat.min_self] at c20b0n
                      have c20b1 : ((x0_5.extract (x6_8 : Int).toNat x0_5.size).toList != ([] : List UInt8)) = true := bne_iff_ne.mpr c20
                      try have c20b1n := c20b1
                      try simp only [ByteArray.size_extract, Nat.min_self] at c20b1n
                      (first | rw [c20b0] | (simp only [i64_w, i32_w]; rw [c20b0]) | skip)
                      by_cases c21 : 0 < ((x0_5.extract (x6_8 : Int).toNat x0_5.size).size : Int)
                      · rw [if_pos c21] at H
                        have c21b0 : decide (0 < ((x0_5.extract (x6_8 : Int).toNat x0_5.size).size : Int)) = true := decide_eq_true c21
                        try have c21b0n := c21b0
                        try simp only [ByteArray.size_extract, Nat.min_self] at c21b0n
                        have c21b1 : decide (0 < (x0_5.extract (x6_8 : Int).toNat x0_5.size).size) = true := decide_eq_true (by omega)
                        try have c21b1n := c21b1
                        try simp only [ByteArray.size_extract, Nat.min_self] at c21b1n
                        clear c21
                        have H' := Aside0.mk H
                        clear H
                        have p22 : 0 ≤ (0 : Int) := (by omega)
                        have q22 : 0 < (x0_5.extract (x6_8 : Int).toNat x0_5.size).size := (by have : (0 : Int) < ((x0_5.extract (x6_8 : Int).toNat x0_5.size).size : Int) := of_decide_eq_true (by first | (with_reducible assumption) | assumption); omega)
                        have hx22 : ∀ h : 0 < (x0_5.extract (x6_8 : Int).toNat x0_5.size).size, (((x0_5.extract (x6_8 : Int).toNat x0_5.size)[0]'h).toNat : Int) = bt (x0_5.extract (x6_8 : Int).toNat x0_5.size) 0 := bt_at (x0_5.extract (x6_8 : Int).toNat x0_5.size) 0
                        clear p22
                        have qi22 : (0 < ((x0_5.extract (x6_8 : Int).toNat x0_5.size).size : Int)) = True := eq_true (of_decide_eq_true (by first | (with_reducible assumption) | assumption))
                        try have qi22n := qi22
                        try simp only [ByteArray.size_extract, Nat.min_self] at qi22n
                        replace q22 := eq_true q22
                        try have q22n := q22
                        try simp only [ByteArray.size_extract, Nat.min_self] at q22n
                        go_wp2
                        repeat (go_quiet (fail); try go_wp2)
                        go_meet
                        case rel => exact ⟨_, (((bt (x0_5.extract (x6_8 : Int).toNat x0_5.size) 0) != 46)), (by first | rfl | (simp; done) | (simp [*]; done)), H', ⟨by have := HJ1.out; have := HJ5.out; have := HJ8.out; first | omega | exact Nat.le_refl _⟩, by repeat (first | exact Drawn0.refl _ | apply Drawn0.step)⟩
                      · rw [if_neg c21] at H
                        exact absurd H (by simp)
                  case rest =>
                    clear HC19
                    try clear c1
                    try clear p1
                    try clear q1
                    try clear hx1
                    try clear c2
                    try clear p2
                    try clear q2
                    try clear hx2
                    try clear qi2
                    try clear c3
                    try clear c3b0
                    try clear c3b1
                    try clear c4
                    try clear c4b0
                    try clear c4b1
                    try clear c5
                    try clear p5
                    try clear q5
                    try clear hx5
                    try clear qi5
                    try clear p6
                    try clear c7
                    try clear c8
                    try clear c8b0
                    try clear c8b1
                    try clear c10
                    try clear c10b0
                    try clear c11
                    try clear c11b0
                    try clear p12
                    try clear q12
                    try clear hx12
                    try clear c14
                    try clear c15
                    try clear c15b0
                    try clear c15b1
                    try clear c16
                    try clear c16b0
                    try clear c16b1
                    try clear c17
                    try clear c17b0
                    try clear c18
                    try clear c18b0
                    try clear c20
                    try clear c20b0
                    try clear c20b1
                    try clear c21
                    try clear c21b0
                    try clear c21b1
                    try clear p22
                    try clear q22
                    try clear hx22
                    try clear qi22
                    try clear p1
                    try clear p12
                    try clear p2
                    try clear p22
                    try clear p5
                    try clear p6
                    try clear q1
                    try clear q12
                    try clear q22
                    try clear q5
                    obtain ⟨kq, x50_18, rfl, HA, HJ18, ⟨mc18, rfl⟩⟩ := hcut
                    cases kq with
                    | zero => exact absurd HA.out (by simp [satchelref14_Time.j4])
                    | succ kj18 =>
                      have H := HA.out
                      clear HA
                      simp only [satchelref14_Time.j4] at H
                      by_cases c23 : x50_18 = true
                      · subst c23
                        have H1 : (some (0, 0, 120)) = some (r1, r2, r3) := by rw [if_pos rfl] at H; exact H
                        clear H
                        have H := H1
                        clear H1
                        simp only [Option.some.injEq, Prod.mk.injEq] at H
                        obtain ⟨rfl, rfl, rfl⟩ := H
                        go_wp2
                        repeat (go_quiet (fail); try go_wp2)
                        go_ret3
                        exact ⟨by first | rfl | (simp; done) | (simp [*]; done), by repeat (first | exact Drawn0.refl _ | apply Drawn0.step)⟩
                      · replace c23 := Bool.eq_false_iff.mpr c23
                        subst c23
                        have H1 : (satchelref14_Time.l1 kj18 x5_1 (x0_5.extract 0 (x6_8 : Int).toNat) (x0_5.extract (x6_8 : Int).toNat x0_5.size) 0 1) = some (r1, r2, r3) := by rw [if_neg (show ¬ (false = true) by decide)] at H; exact H
                        clear H
                        have H := H1
                        clear H1
                        have H' := Aside0.mk H
                        clear H
                        go_wp2
                        repeat (go_quiet (fail); try go_wp2)
                        go_loopg [9, 10] kj18 (fun kq v9 v10 w' => ∃ (x9_5 : Int) (x10_5 : Int), v9 = .int .i32 x9_5 ∧ v10 = .int .i64 x10_5 ∧ Aside0 (satchelref14_Time.l1 kq x5_1 (x0_5.extract 0 (x6_8 : Int).toNat) (x0_5.extract (x6_8 : Int).toNat x0_5.size) x9_5 x10_5 = some (r1, r2, r3)) ∧ Aside0 (kq ≤ kj18) ∧ Drawn0 w w')
                        case atStart => exact ⟨(0), (1), (by first | rfl | (simp; done) | (simp [*]; done)), (by first | rfl | (simp; done) | (simp [*]; done)), H', ⟨Nat.le_refl _⟩, by repeat (first | exact Drawn0.refl _ | apply Drawn0.step)⟩
                        case round =>
                          clear H'
                          try clear c1
                          try clear p1
                          try clear q1
                          try clear hx1
                          try clear c2
                          try clear p2
                          try clear q2
                          try clear hx2
                          try clear qi2
                          try clear c3
                          try clear c3b0
                          try clear c3b1
                          try clear c4
                          try clear c4b0
                          try clear c4b1
                          try clear c5
                          try clear p5
                          try clear q5
                          try clear hx5
                          try clear qi5
                          try clear p6
                          try clear c7
                          try clear c8
                          try clear c8b0
                          try clear c8b1
                          try clear c10
                          try clear c10b0
                          try clear c11
                          try clear c11b0
                          try clear p12
                          try clear q12
                          try clear hx12
                          try clear c14
                          try clear c15
                          try clear c15b0
                          try clear c15b1
                          try clear c16
                          try clear c16b0
                          try clear c16b1
                          try clear c17
                          try clear c17b0
                          try clear c18
                          try clear c18b0
                          try clear c20
                          try clear c20b0
                          try clear c20b1
                          try clear c21
                          try clear c21b0
                          try clear c21b1
                          try clear p22
                          try clear q22
                          try clear hx22
                          try clear qi22
                          try clear c23
                          try clear p1
                          try clear p12
                          try clear p2
                          try clear p22
                          try clear p5
                          try clear p6
                          try clear q1
                          try clear q12
                          try clear q2
                          try clear q22
                          try clear q5
                          obtain ⟨x9_5, x10_5, rfl, rfl, HA, HK5, ⟨m5, rfl⟩⟩ := hrel
                          cases gk with
                          | zero => exact absurd HA.out (by simp [satchelref14_Time.l1])
                          | succ k5 =>
                            have H := HA.out
                            clear HA
                            simp only [satchelref14_Time.l1] at H
                            by_cases c24 : x10_5 ≤ 9
                            · rw [if_pos c24] at H
                              have c24b0 : decide (x10_5 ≤ 9) = true := decide_eq_true c24
                              clear c24
                              by_cases c25 : x10_5 < ((x0_5.extract (x6_8 : Int).toNat x0_5.size).size : Int)
                              · rw [if_pos c25] at H
                                have c25b0 : decide (x10_5 < ((x0_5.extract (x6_8 : Int).toNat x0_5.size).size : Int)) = true := decide_eq_true c25
                                try have c25b0n := c25b0
                                try simp only [ByteArray.size_extract, Nat.min_self] at c25b0n
                                clear c25
                                by_cases c26 : 0 ≤ x10_5
                                · rw [if_pos c26] at H
                                  have c26b0 : decide (0 ≤ x10_5) = true := decide_eq_true c26
                                  clear c26
                                  replace H := Option.bind_eq_some_iff.mp H
                                  obtain ⟨t124, A280, H⟩ := H
                                  replace H : (if t124 = true then (satchelref14_Time.l1 k5 x5_1 (x0_5.extract 0 (x6_8 : Int).toNat) (x0_5.extract (x6_8 : Int).toNat x0_5.size) (wrap32 ((wrap32 (10 * x9_5)) + (((bt (x0_5.extract (x6_8 : Int).toNat x0_5.size) x10_5) - 48) % 256))) (wrap64 (x10_5 + 1))) else (satchelref14_Time.l1 k5 x5_1 (x0_5.extract 0 (x6_8 : Int).toNat) (x0_5.extract (x6_8 : Int).toNat x0_5.size) (wrap32 ((wrap32 (10 * x9_5)) + 0)) (wrap64 (x10_5 + 1)))) = some (r1, r2, r3) := H
                                  have A28 := Aside0.mk A280
                                  clear A280
                                  by_cases c29 : t124 = true
                                  · subst c29
                                    have H1 : (satchelref14_Time.l1 k5 x5_1 (x0_5.extract 0 (x6_8 : Int).toNat) (x0_5.extract (x6_8 : Int).toNat x0_5.size) (wrap32 ((wrap32 (10 * x9_5)) + (((bt (x0_5.extract (x6_8 : Int).toNat x0_5.size) x10_5) - 48) % 256))) (wrap64 (x10_5 + 1))) = some (r1, r2, r3) := by rw [if_pos rfl] at H; exact H
                                    clear H
                                    have H := H1
                                    clear H1
                                    have H' := Aside0.mk H
                                    clear H
                                    have p27 : 0 ≤ (x10_5 : Int) := of_decide_eq_true (by first | (with_reducible assumption) | assumption)
                                    have q27 : x10_5 < ((x0_5.extract (x6_8 : Int).toNat x0_5.size).size : Int) := of_decide_eq_true (by first | (with_reducible assumption) | assumption)
                                    have hx27 := bt_at (x0_5.extract (x6_8 : Int).toNat x0_5.size) x10_5
                                    replace p27 := eq_true p27
                                    replace q27 := eq_true q27
                                    try have q27n := q27
                                    try simp only [ByteArray.size_extract, Nat.min_self] at q27n
                                    go_wp2_with (first | (go_at_call 46; (with_reducible refine (satchelref14_digit.calls (bt (x0_5.extract (x6_8 : Int).toNat x0_5.size) x10_5) true _ ?side1 A28.out).mono ?_); (case side1 => first | exact HG.out | (repeat (first | exact HG.out | apply Gv_drewN | apply Gv_drew))); rintro e w' ⟨rfl, ⟨nd, rfl⟩⟩; (try first | exact ⟨rfl, _, World.drewN_drewN _ _ _⟩ | exact ⟨rfl, _, Eq.trans (World.drewN_drewN _ _ _) (congrArg (World.drewN _) (Nat.add_assoc _ _ _))⟩); have p30 : 0 ≤ (x10_5 : Int) := of_decide_eq_true (by first | (with_reducible assumption) | assumption); have q30 : x10_5 < ((x0_5.extract (x6_8 : Int).toNat x0_5.size).size : Int) := of_decide_eq_true (by first | (with_reducible assumption) | assumption); have hx30 := bt_at (x0_5.extract (x6_8 : Int).toNat x0_5.size) x10_5; replace p30 := eq_true p30; replace q30 := eq_true q30))
                                    repeat (go_quiet (first | (go_at_call 46; (with_reducible refine (satchelref14_digit.calls (bt (x0_5.extract (x6_8 : Int).toNat x0_5.size) x10_5) true _ ?side1 A28.out).mono ?_); (case side1 => first | exact HG.out | (repeat (first | exact HG.out | apply Gv_drewN | apply Gv_drew))); rintro e w' ⟨rfl, ⟨nd, rfl⟩⟩; (try first | exact ⟨rfl, _, World.drewN_drewN _ _ _⟩ | exact ⟨rfl, _, Eq.trans (World.drewN_drewN _ _ _) (congrArg (World.drewN _) (Nat.add_assoc _ _ _))⟩); have p30 : 0 ≤ (x10_5 : Int) := of_decide_eq_true (by first | (with_reducible assumption) | assumption); have q30 : x10_5 < ((x0_5.extract (x6_8 : Int).toNat x0_5.size).size : Int) := of_decide_eq_true (by first | (with_reducible assumption) | assumption); have hx30 := bt_at (x0_5.extract (x6_8 : Int).toNat x0_5.size) x10_5; replace p30 := eq_true p30; replace q30 := eq_true q30)); try go_wp2_with (first | (go_at_call 46; (with_reducible refine (satchelref14_digit.calls (bt (x0_5.extract (x6_8 : Int).toNat x0_5.size) x10_5) true _ ?side1 A28.out).mono ?_); (case side1 => first | exact HG.out | (repeat (first | exact HG.out | apply Gv_drewN | apply Gv_drew))); rintro e w' ⟨rfl, ⟨nd, rfl⟩⟩; (try first | exact ⟨rfl, _, World.drewN_drewN _ _ _⟩ | exact ⟨rfl, _, Eq.trans (World.drewN_drewN _ _ _) (congrArg (World.drewN _) (Nat.add_assoc _ _ _))⟩); have p30 : 0 ≤ (x10_5 : Int) := of_decide_eq_true (by first | (with_reducible assumption) | assumption); have q30 : x10_5 < ((x0_5.extract (x6_8 : Int).toNat x0_5.size).size : Int) := of_decide_eq_true (by first | (with_reducible assumption) | assumption); have hx30 := bt_at (x0_5.extract (x6_8 : Int).toNat x0_5.size) x10_5; replace p30 := eq_true p30; replace q30 := eq_true q30)))
                                    go_roundg k5
                                    case measure => have := HJ1.out; have := HJ5.out; have := HJ8.out; have := HJ18.out; have := HK5.out; omega
                                    case rel => exact ⟨(wrap32 ((wrap32 (10 * x9_5)) + (((bt (x0_5.extract (x6_8 : Int).toNat x0_5.size) x10_5) - 48) % 256))), (wrap64 (x10_5 + 1)), (by first | rfl | (simp; done) | (simp [*]; done)), (by first | rfl | (simp; done) | (simp [*]; done)), H', ⟨by have := HJ1.out; have := HJ5.out; have := HJ8.out; have := HJ18.out; have := HK5.out; omega⟩, by repeat (first | exact Drawn0.refl _ | apply Drawn0.step)⟩
                                  · replace c29 := Bool.eq_false_iff.mpr c29
                                    subst c29
                                    have H1 : (satchelref14_Time.l1 k5 x5_1 (x0_5.extract 0 (x6_8 : Int).toNat) (x0_5.extract (x6_8 : Int).toNat x0_5.size) (wrap32 ((wrap32 (10 * x9_5)) + 0)) (wrap64 (x10_5 + 1))) = some (r1, r2, r3) := by rw [if_neg (show ¬ (false = true) by decide)] at H; exact H
                                    clear H
                                    have H := H1
                                    clear H1
                                    have H' := Aside0.mk H
                                    clear H
                                    have p27 : 0 ≤ (x10_5 : Int) := of_decide_eq_true (by first | (with_reducible assumption) | assumption)
                                    have q27 : x10_5 < ((x0_5.extract (x6_8 : Int).toNat x0_5.size).size : Int) := of_decide_eq_true (by first | (with_reducible assumption) | assumption)
                                    have hx27 := bt_at (x0_5.extract (x6_8 : Int).toNat x0_5.size) x10_5
                                    replace p27 := eq_true p27
                                    replace q27 := eq_true q27
                                    try have q27n := q27
                                    try simp only [ByteArray.size_extract, Nat.min_self] at q27n
                                    go_wp2_with (first | (go_at_call 46; (with_reducible refine (satchelref14_digit.calls (bt (x0_5.extract (x6_8 : Int).toNat x0_5.size) x10_5) false _ ?side1 A28.out).mono ?_); (case side1 => first | exact HG.out | (repeat (first | exact HG.out | apply Gv_drewN | apply Gv_drew))); rintro e w' ⟨rfl, ⟨nd, rfl⟩⟩; (try first | exact ⟨rfl, _, World.drewN_drewN _ _ _⟩ | exact ⟨rfl, _, Eq.trans (World.drewN_drewN _ _ _) (congrArg (World.drewN _) (Nat.add_assoc _ _ _))⟩)))
                                    repeat (go_quiet (first | (go_at_call 46; (with_reducible refine (satchelref14_digit.calls (bt (x0_5.extract (x6_8 : Int).toNat x0_5.size) x10_5) false _ ?side1 A28.out).mono ?_); (case side1 => first | exact HG.out | (repeat (first | exact HG.out | apply Gv_drewN | apply Gv_drew))); rintro e w' ⟨rfl, ⟨nd, rfl⟩⟩; (try first | exact ⟨rfl, _, World.drewN_drewN _ _ _⟩ | exact ⟨rfl, _, Eq.trans (World.drewN_drewN _ _ _) (congrArg (World.drewN _) (Nat.add_assoc _ _ _))⟩))); try go_wp2_with (first | (go_at_call 46; (with_reducible refine (satchelref14_digit.calls (bt (x0_5.extract (x6_8 : Int).toNat x0_5.size) x10_5) false _ ?side1 A28.out).mono ?_); (case side1 => first | exact HG.out | (repeat (first | exact HG.out | apply Gv_drewN | apply Gv_drew))); rintro e w' ⟨rfl, ⟨nd, rfl⟩⟩; (try first | exact ⟨rfl, _, World.drewN_drewN _ _ _⟩ | exact ⟨rfl, _, Eq.trans (World.drewN_drewN _ _ _) (congrArg (World.drewN _) (Nat.add_assoc _ _ _))⟩))))
                                    go_roundg k5
                                    case measure => have := HJ1.out; have := HJ5.out; have := HJ8.out; have := HJ18.out; have := HK5.out; omega
                                    case rel => exact ⟨(wrap32 ((wrap32 (10 * x9_5)) + 0)), (wrap64 (x10_5 + 1)), (by first | rfl | (simp; done) | (simp [*]; done)), (by first | rfl | (simp; done) | (simp [*]; done)), H', ⟨by have := HJ1.out; have := HJ5.out; have := HJ8.out; have := HJ18.out; have := HK5.out; omega⟩, by repeat (first | exact Drawn0.refl _ | apply Drawn0.step)⟩
                                · rw [if_neg c26] at H
                                  exact absurd H (by simp)
                              · rw [if_neg c25] at H
                                have c25b0 : decide (x10_5 < ((x0_5.extract (x6_8 : Int).toNat x0_5.size).size : Int)) = false := decide_eq_false c25
                                try have c25b0n := c25b0
                                try simp only [ByteArray.size_extract, Nat.min_self] at c25b0n
                                clear c25
                                have H' := Aside0.mk H
                                clear H
                                go_wp2
                                repeat (go_quiet (fail); try go_wp2)
                                go_roundg k5
                                case measure => have := HJ1.out; have := HJ5.out; have := HJ8.out; have := HJ18.out; have := HK5.out; omega
                                case rel => exact ⟨(wrap32 ((wrap32 (10 * x9_5)) + 0)), (wrap64 (x10_5 + 1)), (by first | rfl | (simp; done) | (simp [*]; done)), (by first | rfl | (simp; done) | (simp [*]; done)), H', ⟨by have := HJ1.out; have := HJ5.out; have := HJ8.out; have := HJ18.out; have := HK5.out; omega⟩, by repeat (first | exact Drawn0.refl _ | apply Drawn0.step)⟩
                            · rw [if_neg c24] at H
                              have c24b0 : decide (x10_5 ≤ 9) = false := decide_eq_false c24
                              clear c24
                              have H' := Aside0.mk H
                              clear H
                              go_wp2
                              repeat (go_quiet (fail); try go_wp2)
                              go_loopg [12] k5 (fun kq v12 w' => ∃ (x12_6 : Int), v12 = .int .i64 x12_6 ∧ Aside0 (satchelref14_Time.l2 kq x5_1 (x0_5.extract 0 (x6_8 : Int).toNat) (x0_5.extract (x6_8 : Int).toNat x0_5.size) x9_5 x12_6 = some (r1, r2, r3)) ∧ Aside0 (kq ≤ k5) ∧ Drawn0 w w')
                              case atStart => exact ⟨(1), (by first | rfl | (simp; done) | (simp [*]; done)), H', ⟨Nat.le_refl _⟩, by repeat (first | exact Drawn0.refl _ | apply Drawn0.step)⟩
                              case round =>
                                clear H'
                                try clear c1
                                try clear p1
                                try clear q1
                                try clear hx1
                                try clear c2
                                try clear p2
                                try clear q2
                                try clear hx2
                                try clear qi2
                                try clear c3
                                try clear c3b0
                                try clear c3b1
                                try clear p3
                                try clear q3
                                try clear hx3
                                try clear c4
                                try clear c4b0
                                try clear c4b1
                                try clear c5
                                try clear p5
                                try clear q5
                                try clear hx5
                                try clear qi5
                                try clear p6
                                try clear c7
                                try clear c8
                                try clear c8b0
                                try clear c8b1
                                try clear c10
                                try clear c10b0
                                try clear c11
                                try clear c11b0
                                try clear p12
                                try clear q12
                                try clear hx12
                                try clear c14
                                try clear c15
                                try clear c15b0
                                try clear c15b1
                                try clear c16
                                try clear c16b0
                                try clear c16b1
                                try clear c17
                                try clear c17b0
                                try clear c18
                                try clear c18b0
                                try clear c20
                                try clear c20b0
                                try clear c20b1
                                try clear c21
                                try clear c21b0
                                try clear c21b1
                                try clear p22
                                try clear q22
                                try clear hx22
                                try clear qi22
                                try clear c23
                                try clear c24
                                try clear c24b0
                                try clear c25
                                try clear c25b0
                                try clear c26
                                try clear c26b0
                                try clear p27
                                try clear q27
                                try clear hx27
                                try clear c29
                                try clear p30
                                try clear q30
                                try clear hx30
                                try clear p1
                                try clear p12
                                try clear p2
                                try clear p22
                                try clear p27
                                try clear p30
                                try clear p5
                                try clear p6
                                try clear q1
                                try clear q12
                                try clear q2
                                try clear q22
                                try clear q27
                                try clear q30
                                try clear q5
                                obtain ⟨x12_6, rfl, HA, HK6, ⟨m6, rfl⟩⟩ := hrel
                                cases gk with
                                | zero => exact absurd HA.out (by simp [satchelref14_Time.l2])
                                | succ k6 =>
                                  have H := HA.out
                                  clear HA
                                  simp only [satchelref14_Time.l2] at H
                                  by_cases c31 : x12_6 < ((x0_5.extract (x6_8 : Int).toNat x0_5.size).size : Int)
                                  · rw [if_pos c31] at H
                                    have c31b0 : decide (x12_6 < ((x0_5.extract (x6_8 : Int).toNat x0_5.size).size : Int)) = true := decide_eq_true c31
                                    try have c31b0n := c31b0
                                    try simp only [ByteArray.size_extract, Nat.min_self] at c31b0n
                                    clear c31
                                    by_cases c32 : 0 ≤ x12_6
                                    · rw [if_pos c32] at H
                                      have c32b0 : decide (0 ≤ x12_6) = true := decide_eq_true c32
                                      clear c32
                                      replace H := Option.bind_eq_some_iff.mp H
                                      obtain ⟨t125, A340, H⟩ := H
                                      replace H : (if t125 = true then (satchelref14_Time.l2 k6 x5_1 (x0_5.extract 0 (x6_8 : Int).toNat) (x0_5.extract (x6_8 : Int).toNat x0_5.size) x9_5 (wrap64 (x12_6 + 1))) else (some (0, 0, 120))) = some (r1, r2, r3) := H
                                      have A34 := Aside0.mk A340
                                      clear A340
                                      by_cases c35 : t125 = true
                                      · subst c35
                                        have H1 : (satchelref14_Time.l2 k6 x5_1 (x0_5.extract 0 (x6_8 : Int).toNat) (x0_5.extract (x6_8 : Int).toNat x0_5.size) x9_5 (wrap64 (x12_6 + 1))) = some (r1, r2, r3) := by rw [if_pos rfl] at H; exact H
                                        clear H
                                        have H := H1
                                        clear H1
                                        have H' := Aside0.mk H
                                        clear H
                                        have p33 : 0 ≤ (x12_6 : Int) := of_decide_eq_true (by first | (with_reducible assumption) | assumption)
                                        have q33 : x12_6 < ((x0_5.extract (x6_8 : Int).toNat x0_5.size).size : Int) := of_decide_eq_true (by first | (with_reducible assumption) | assumption)
                                        have hx33 := bt_at (x0_5.extract (x6_8 : Int).toNat x0_5.size) x12_6
                                        replace p33 := eq_true p33
                                        replace q33 := eq_true q33
                                        try have q33n := q33
                                        try simp only [ByteArray.size_extract, Nat.min_self] at q33n
                                        go_wp2_with (first | (go_at_call 46; (with_reducible refine (satchelref14_digit.calls (bt (x0_5.extract (x6_8 : Int).toNat x0_5.size) x12_6) true _ ?side1 A34.out).mono ?_); (case side1 => first | exact HG.out | (repeat (first | exact HG.out | apply Gv_drewN | apply Gv_drew))); rintro e w' ⟨rfl, ⟨nd, rfl⟩⟩; (try first | exact ⟨rfl, _, World.drewN_drewN _ _ _⟩ | exact ⟨rfl, _, Eq.trans (World.drewN_drewN _ _ _) (congrArg (World.drewN _) (Nat.add_assoc _ _ _))⟩)))
                                        repeat (go_quiet (first | (go_at_call 46; (with_reducible refine (satchelref14_digit.calls (bt (x0_5.extract (x6_8 : Int).toNat x0_5.size) x12_6) true _ ?side1 A34.out).mono ?_); (case side1 => first | exact HG.out | (repeat (first | exact HG.out | apply Gv_drewN | apply Gv_drew))); rintro e w' ⟨rfl, ⟨nd, rfl⟩⟩; (try first | exact ⟨rfl, _, World.drewN_drewN _ _ _⟩ | exact ⟨rfl, _, Eq.trans (World.drewN_drewN _ _ _) (congrArg (World.drewN _) (Nat.add_assoc _ _ _))⟩))); try go_wp2_with (first | (go_at_call 46; (with_reducible refine (satchelref14_digit.calls (bt (x0_5.extract (x6_8 : Int).toNat x0_5.size) x12_6) true _ ?side1 A34.out).mono ?_); (case side1 => first | exact HG.out | (repeat (first | exact HG.out | apply Gv_drewN | apply Gv_drew))); rintro e w' ⟨rfl, ⟨nd, rfl⟩⟩; (try first | exact ⟨rfl, _, World.drewN_drewN _ _ _⟩ | exact ⟨rfl, _, Eq.trans (World.drewN_drewN _ _ _) (congrArg (World.drewN _) (Nat.add_assoc _ _ _))⟩))))
                                        go_roundg k6
                                        case measure => have := HJ1.out; have := HJ5.out; have := HJ8.out; have := HJ18.out; have := HK5.out; have := HK6.out; omega
                                        case rel => exact ⟨(wrap64 (x12_6 + 1)), (by first | rfl | (simp; done) | (simp [*]; done)), H', ⟨by have := HJ1.out; have := HJ5.out; have := HJ8.out; have := HJ18.out; have := HK5.out; have := HK6.out; omega⟩, by repeat (first | exact Drawn0.refl _ | apply Drawn0.step)⟩
                                      · replace c35 := Bool.eq_false_iff.mpr c35
                                        subst c35
                                        have H1 : (some (0, 0, 120)) = some (r1, r2, r3) := by rw [if_neg (show ¬ (false = true) by decide)] at H; exact H
                                        clear H
                                        have H := H1
                                        clear H1
                                        simp only [Option.some.injEq, Prod.mk.injEq] at H
                                        obtain ⟨rfl, rfl, rfl⟩ := H
                                        have p33 : 0 ≤ (x12_6 : Int) := of_decide_eq_true (by first | (with_reducible assumption) | assumption)
                                        have q33 : x12_6 < ((x0_5.extract (x6_8 : Int).toNat x0_5.size).size : Int) := of_decide_eq_true (by first | (with_reducible assumption) | assumption)
                                        have hx33 := bt_at (x0_5.extract (x6_8 : Int).toNat x0_5.size) x12_6
                                        replace p33 := eq_true p33
                                        replace q33 := eq_true q33
                                        try have q33n := q33
                                        try simp only [ByteArray.size_extract, Nat.min_self] at q33n
                                        go_wp2_with (first | (go_at_call 46; (with_reducible refine (satchelref14_digit.calls (bt (x0_5.extract (x6_8 : Int).toNat x0_5.size) x12_6) false _ ?side1 A34.out).mono ?_); (case side1 => first | exact HG.out | (repeat (first | exact HG.out | apply Gv_drewN | apply Gv_drew))); rintro e w' ⟨rfl, ⟨nd, rfl⟩⟩; (try first | exact ⟨rfl, _, World.drewN_drewN _ _ _⟩ | exact ⟨rfl, _, Eq.trans (World.drewN_drewN _ _ _) (congrArg (World.drewN _) (Nat.add_assoc _ _ _))⟩)))
                                        repeat (go_quiet (first | (go_at_call 46; (with_reducible refine (satchelref14_digit.calls (bt (x0_5.extract (x6_8 : Int).toNat x0_5.size) x12_6) false _ ?side1 A34.out).mono ?_); (case side1 => first | exact HG.out | (repeat (first | exact HG.out | apply Gv_drewN | apply Gv_drew))); rintro e w' ⟨rfl, ⟨nd, rfl⟩⟩; (try first | exact ⟨rfl, _, World.drewN_drewN _ _ _⟩ | exact ⟨rfl, _, Eq.trans (World.drewN_drewN _ _ _) (congrArg (World.drewN _) (Nat.add_assoc _ _ _))⟩))); try go_wp2_with (first | (go_at_call 46; (with_reducible refine (satchelref14_digit.calls (bt (x0_5.extract (x6_8 : Int).toNat x0_5.size) x12_6) false _ ?side1 A34.out).mono ?_); (case side1 => first | exact HG.out | (repeat (first | exact HG.out | apply Gv_drewN | apply Gv_drew))); rintro e w' ⟨rfl, ⟨nd, rfl⟩⟩; (try first | exact ⟨rfl, _, World.drewN_drewN _ _ _⟩ | exact ⟨rfl, _, Eq.trans (World.drewN_drewN _ _ _) (congrArg (World.drewN _) (Nat.add_assoc _ _ _))⟩))))
                                        go_ret3
                                        exact ⟨by first | rfl | (simp; done) | (simp [*]; done), by repeat (first | exact Drawn0.refl _ | apply Drawn0.step)⟩
                                    · rw [if_neg c32] at H
                                      exact absurd H (by simp)
                                  · rw [if_neg c31] at H
                                    have c31b0 : decide (x12_6 < ((x0_5.extract (x6_8 : Int).toNat x0_5.size).size : Int)) = false := decide_eq_false c31
                                    try have c31b0n := c31b0
                                    try simp only [ByteArray.size_extract, Nat.min_self] at c31b0n
                                    clear c31
                                    replace H := Option.bind_eq_some_iff.mp H
                                    obtain ⟨⟨t126, t127⟩, A360, H⟩ := H
                                    replace H : (if t127 = 0 then (if x5_1 = true then (satchelref14_Time.j7 k6 x5_1 x9_5 t126 (decide (x9_5 > 0))) else (satchelref14_Time.j7 k6 x5_1 x9_5 t126 false)) else (some (0, 0, t127))) = some (r1, r2, r3) := H
                                    have A36 := Aside0.mk A360
                                    clear A360
                                    by_cases c37 : t127 = 0
                                    · rw [if_pos c37] at H
                                      have c37b0 : (t127 == 0) = true := beq_iff_eq.mpr c37
                                      have c37b1 : (t127 != 0) = false := bne_eq_false_iff_eq.mpr c37
                                      clear c37
                                      have HC38 := Aside0.mk H
                                      clear H
                                      go_upto_region 26 with (first | (go_at_call 19; (with_reducible refine (satchelref14_Number.calls k6 (x0_5.extract 0 (x6_8 : Int).toNat) t126 t127 _ ?side1 A36.out).mono ?_); (case side1 => first | exact HG.out | (repeat (first | exact HG.out | apply Gv_drewN | apply Gv_drew))); rintro e w' ⟨rfl, ⟨nd, rfl⟩⟩; (try first | exact ⟨rfl, _, World.drewN_drewN _ _ _⟩ | exact ⟨rfl, _, Eq.trans (World.drewN_drewN _ _ _) (congrArg (World.drewN _) (Nat.add_assoc _ _ _))⟩)))
                                      repeat (go_quiet (first | (go_at_call 19; (with_reducible refine (satchelref14_Number.calls k6 (x0_5.extract 0 (x6_8 : Int).toNat) t126 t127 _ ?side1 A36.out).mono ?_); (case side1 => first | exact HG.out | (repeat (first | exact HG.out | apply Gv_drewN | apply Gv_drew))); rintro e w' ⟨rfl, ⟨nd, rfl⟩⟩; (try first | exact ⟨rfl, _, World.drewN_drewN _ _ _⟩ | exact ⟨rfl, _, Eq.trans (World.drewN_drewN _ _ _) (congrArg (World.drewN _) (Nat.add_assoc _ _ _))⟩))); go_upto_region 26 with (first | (go_at_call 19; (with_reducible refine (satchelref14_Number.calls k6 (x0_5.extract 0 (x6_8 : Int).toNat) t126 t127 _ ?side1 A36.out).mono ?_); (case side1 => first | exact HG.out | (repeat (first | exact HG.out | apply Gv_drewN | apply Gv_drew))); rintro e w' ⟨rfl, ⟨nd, rfl⟩⟩; (try first | exact ⟨rfl, _, World.drewN_drewN _ _ _⟩ | exact ⟨rfl, _, Eq.trans (World.drewN_drewN _ _ _) (congrArg (World.drewN _) (Nat.add_assoc _ _ _))⟩))))
                                      (try simp only [Act.put, List.setIfInBounds_toArray, List.set_cons_zero, List.set_cons_succ])
                                      go_cut [93] (fun v93 wc => ∃ (kq : Nat) (x93_37 : Bool), v93 = .bool x93_37 ∧ Aside0 (satchelref14_Time.j7 kq x5_1 x9_5 t126 x93_37 = some (r1, r2, r3)) ∧ Aside0 (kq ≤ k6) ∧ Drawn0 w wc)
                                      case first =>
                                        have H := HC38.out
                                        clear HC38
                                        by_cases c39 : x5_1 = true
                                        · subst c39
                                          have H1 : (satchelref14_Time.j7 k6 true x9_5 t126 (decide (x9_5 > 0))) = some (r1, r2, r3) := by rw [if_pos rfl] at H; exact H
                                          clear H
                                          have H := H1
                                          clear H1
                                          have H' := Aside0.mk H
                                          clear H
                                          go_wp2
                                          repeat (go_quiet (fail); try go_wp2)
                                          go_meet
                                          case rel => exact ⟨_, (decide (x9_5 > 0)), (by first | rfl | (simp; done) | (simp [*]; done)), H', ⟨by have := HJ1.out; have := HJ5.out; have := HJ8.out; have := HJ18.out; have := HK5.out; have := HK6.out; first | omega | exact Nat.le_refl _⟩, by repeat (first | exact Drawn0.refl _ | apply Drawn0.step)⟩
                                        · replace c39 := Bool.eq_false_iff.mpr c39
                                          subst c39
                                          have H1 : (satchelref14_Time.j7 k6 false x9_5 t126 false) = some (r1, r2, r3) := by rw [if_neg (show ¬ (false = true) by decide)] at H; exact H
                                          clear H
                                          have H := H1
                                          clear H1
                                          have H' := Aside0.mk H
                                          clear H
                                          go_wp2
                                          repeat (go_quiet (fail); try go_wp2)
                                          go_meet
                                          case rel => exact ⟨_, (false), (by first | rfl | (simp; done) | (simp [*]; done)), H', ⟨by have := HJ1.out; have := HJ5.out; have := HJ8.out; have := HJ18.out; have := HK5.out; have := HK6.out; first | omega | exact Nat.le_refl _⟩, by repeat (first | exact Drawn0.refl _ | apply Drawn0.step)⟩
                                      case rest =>
                                        clear HC38
                                        try clear c1
                                        try clear p1
                                        try clear q1
                                        try clear hx1
                                        try clear c2
                                        try clear p2
                                        try clear q2
                                        try clear hx2
                                        try clear qi2
                                        try clear c3
                                        try clear c3b0
                                        try clear c3b1
                                        try clear p3
                                        try clear q3
                                        try clear hx3
                                        try clear c4
                                        try clear c4b0
                                        try clear c4b1
                                        try clear c5
                                        try clear p5
                                        try clear q5
                                        try clear hx5
                                        try clear qi5
                                        try clear p6
                                        try clear c7
                                        try clear c8
                                        try clear c8b0
                                        try clear c8b1
                                        try clear c10
                                        try clear c10b0
                                        try clear c11
                                        try clear c11b0
                                        try clear p12
                                        try clear q12
                                        try clear hx12
                                        try clear c14
                                        try clear c15
                                        try clear c15b0
                                        try clear c15b1
                                        try clear c16
                                        try clear c16b0
                                        try clear c16b1
                                        try clear c17
                                        try clear c17b0
                                        try clear c18
                                        try clear c18b0
                                        try clear c20
                                        try clear c20b0
                                        try clear c20b1
                                        try clear c21
                                        try clear c21b0
                                        try clear c21b1
                                        try clear p22
                                        try clear q22
                                        try clear hx22
                                        try clear qi22
                                        try clear c23
                                        try clear c24
                                        try clear c24b0
                                        try clear c25
                                        try clear c25b0
                                        try clear c26
                                        try clear c26b0
                                        try clear p27
                                        try clear q27
                                        try clear hx27
                                        try clear c29
                                        try clear p30
                                        try clear q30
                                        try clear hx30
                                        try clear c31
                                        try clear c31b0
                                        try clear c32
                                        try clear c32b0
                                        try clear p32
                                        try clear p33
                                        try clear q33
                                        try clear hx33
                                        try clear c35
                                        try clear c37
                                        try clear c37b0
                                        try clear c37b1
                                        try clear c39
                                        try clear p1
                                        try clear p12
                                        try clear p2
                                        try clear p22
                                        try clear p27
                                        try clear p3
                                        try clear p30
                                        try clear p33
                                        try clear p5
                                        try clear p6
                                        try clear q1
                                        try clear q12
                                        try clear q2
                                        try clear q22
                                        try clear q27
                                        try clear q3
                                        try clear q30
                                        try clear q33
                                        try clear q5
                                        obtain ⟨kq, x93_37, rfl, HA, HJ37, ⟨mc37, rfl⟩⟩ := hcut
                                        cases kq with
                                        | zero => exact absurd HA.out (by simp [satchelref14_Time.j7])
                                        | succ kj37 =>
                                          have H := HA.out
                                          clear HA
                                          simp only [satchelref14_Time.j7] at H
                                          by_cases c40 : x93_37 = true
                                          · subst c40
                                            have H1 : (some (wrap64 ((wrap64 (-t126)) - 1), wrap32 (1000000000 - x9_5), 0)) = some (r1, r2, r3) := by rw [if_pos rfl] at H; exact H
                                            clear H
                                            have H := H1
                                            clear H1
                                            simp only [Option.some.injEq, Prod.mk.injEq] at H
                                            obtain ⟨rfl, rfl, rfl⟩ := H
                                            go_wp2
                                            repeat (go_quiet (fail); try go_wp2)
                                            go_ret3
                                            exact ⟨by first | rfl | (simp; done) | (simp [*]; done), by repeat (first | exact Drawn0.refl _ | apply Drawn0.step)⟩
                                          · replace c40 := Bool.eq_false_iff.mpr c40
                                            subst c40
                                            have H1 : (if x5_1 = true then (some (wrap64 (-t126), 0, 0)) else (some (t126, x9_5, 0))) = some (r1, r2, r3) := by rw [if_neg (show ¬ (false = true) by decide)] at H; exact H
                                            clear H
                                            have H := H1
                                            clear H1
                                            by_cases c41 : x5_1 = true
                                            · subst c41
                                              have H1 : (some (wrap64 (-t126), 0, 0)) = some (r1, r2, r3) := by rw [if_pos rfl] at H; exact H
                                              clear H
                                              have H := H1
                                              clear H1
                                              simp only [Option.some.injEq, Prod.mk.injEq] at H
                                              obtain ⟨rfl, rfl, rfl⟩ := H
                                              go_wp2
                                              repeat (go_quiet (fail); try go_wp2)
                                              go_ret3
                                              exact ⟨by first | rfl | (simp; done) | (simp [*]; done), by repeat (first | exact Drawn0.refl _ | apply Drawn0.step)⟩
                                            · replace c41 := Bool.eq_false_iff.mpr c41
                                              subst c41
                                              have H1 : (some (t126, x9_5, 0)) = some (r1, r2, r3) := by rw [if_neg (show ¬ (false = true) by decide)] at H; exact H
                                              clear H
                                              have H := H1
                                              clear H1
                                              simp only [Option.some.injEq, Prod.mk.injEq] at H
                                              obtain ⟨rfl, rfl, rfl⟩ := H
                                              go_wp2
                                              repeat (go_quiet (fail); try go_wp2)
                                              go_ret3
                                              exact ⟨by first | rfl | (simp; done) | (simp [*]; done), by repeat (first | exact Drawn0.refl _ | apply Drawn0.step)⟩
                                    · rw [if_neg c37] at H
                                      have c37b0 : (t127 == 0) = false := beq_eq_false_iff_ne.mpr c37
                                      have c37b1 : (t127 != 0) = true := bne_iff_ne.mpr c37
                                      simp only [Option.some.injEq, Prod.mk.injEq] at H
                                      obtain ⟨rfl, rfl, rfl⟩ := H
                                      go_wp2_with (first | (go_at_call 19; (with_reducible refine (satchelref14_Number.calls k6 (x0_5.extract 0 (x6_8 : Int).toNat) t126 t127 _ ?side1 A36.out).mono ?_); (case side1 => first | exact HG.out | (repeat (first | exact HG.out | apply Gv_drewN | apply Gv_drew))); rintro e w' ⟨rfl, ⟨nd, rfl⟩⟩; (try first | exact ⟨rfl, _, World.drewN_drewN _ _ _⟩ | exact ⟨rfl, _, Eq.trans (World.drewN_drewN _ _ _) (congrArg (World.drewN _) (Nat.add_assoc _ _ _))⟩)))
                                      repeat (go_quiet (first | (go_at_call 19; (with_reducible refine (satchelref14_Number.calls k6 (x0_5.extract 0 (x6_8 : Int).toNat) t126 t127 _ ?side1 A36.out).mono ?_); (case side1 => first | exact HG.out | (repeat (first | exact HG.out | apply Gv_drewN | apply Gv_drew))); rintro e w' ⟨rfl, ⟨nd, rfl⟩⟩; (try first | exact ⟨rfl, _, World.drewN_drewN _ _ _⟩ | exact ⟨rfl, _, Eq.trans (World.drewN_drewN _ _ _) (congrArg (World.drewN _) (Nat.add_assoc _ _ _))⟩))); try go_wp2_with (first | (go_at_call 19; (with_reducible refine (satchelref14_Number.calls k6 (x0_5.extract 0 (x6_8 : Int).toNat) t126 t127 _ ?side1 A36.out).mono ?_); (case side1 => first | exact HG.out | (repeat (first | exact HG.out | apply Gv_drewN | apply Gv_drew))); rintro e w' ⟨rfl, ⟨nd, rfl⟩⟩; (try first | exact ⟨rfl, _, World.drewN_drewN _ _ _⟩ | exact ⟨rfl, _, Eq.trans (World.drewN_drewN _ _ _) (congrArg (World.drewN _) (Nat.add_assoc _ _ _))⟩))))
                                      go_ret3
                                      exact ⟨by first | rfl | (simp; done) | (simp [*]; done), by repeat (first | exact Drawn0.refl _ | apply Drawn0.step)⟩
                · rw [if_neg c16] at H
                  exact absurd H (by simp)
              · rw [if_neg c15] at H
                exact absurd H (by simp)

end Go.Proofs.YtohgoaiimhhckaaDoor.PPaxNumbers
