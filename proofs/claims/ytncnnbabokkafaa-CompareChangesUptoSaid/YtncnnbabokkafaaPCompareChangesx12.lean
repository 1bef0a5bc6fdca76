-- WRITTEN BY wip/xprint.py, a program of the proving session round the kit's print.py; Lean checks it.
import Derived.Test.YtncnnbabokkafaaPCompareChangesx0
import Derived.Test.YtncnnbabokkafaaPCompareChangesx2
namespace Go.Proofs.Ytncnnbabokkafaa.PCompareChanges
open Go.Proofs.YtncnnbabokkafaaX
open Go.RowKit Go.Proofs.YtncnnbabokkafaaW.PrintWords Go.Proofs.YtncnnbabokkafaaW.PrintLast Go.Proofs.YtncnnbabokkafaaW.PrintMore
attribute [local go_sem] str_leq str_gtr max2_int min2_int max_two min_two max_three min_three max_four min_four   -- for this text's walks alone
set_option linter.unusedVariables false
set_option linter.unusedSimpArgs false

attribute [local go_sem high] eqA33
/-! ### satchellaw24_left: function 8 -/
def satchellaw24_left.l0 : Nat → List (S33) → List (S33) → Int → Option (Bool)
  | 0, _, _, _ => none
  | k + 1, x0, x1, x5 => if x5 < (x1.length : Int) then (if 0 ≤ x5 then (if x5 < (x0.length : Int) then (if (!((((rd_T33 x0 x5).f0).toList) == (((rd_T33 x1 x5).f0).toList)) || (!(((rd_T33 x0 x5).f1) == ((rd_T33 x1 x5).f1)) || ((!(((rd_T33 x0 x5).f2.f0) == ((rd_T33 x1 x5).f2.f0)) || (!(((rd_T33 x0 x5).f2.f1) == ((rd_T33 x1 x5).f2.f1)) || (!(((rd_T33 x0 x5).f2.f2) == ((rd_T33 x1 x5).f2.f2)) || (!(((rd_T33 x0 x5).f2.f3) == ((rd_T33 x1 x5).f2.f3)) || (!(((rd_T33 x0 x5).f2.f4) == ((rd_T33 x1 x5).f2.f4))))))) || (!(((rd_T33 x0 x5).f3) == ((rd_T33 x1 x5).f3)) || (!(((rd_T33 x0 x5).f4) == ((rd_T33 x1 x5).f4)) || (!((((rd_T33 x0 x5).f5).toList) == (((rd_T33 x1 x5).f5).toList)))))))) = true then (some false) else (satchellaw24_left.l0 k x0 x1 (wrap64 (x5 + 1)))) else (none)) else (none)) else (if 0 ≤ (x1.length : Int) then (if (x1.length : Int) < (x0.length : Int) then (some (((rd_T33 x0 (x1.length : Int)).f0).toList == ([98, 101, 104, 105, 110, 100] : List UInt8))) else (none)) else (none))
def satchellaw24_left.f (k : Nat) (l0 : List (S33)) (l1 : List (S33)) : Option (Bool) := satchellaw24_left.l0 k l0 l1 0
theorem satchellaw24_left.mono_l : ∀ k, (∀ y0 y1 y2, LeO (satchellaw24_left.l0 k y0 y1 y2) (satchellaw24_left.l0 (k + 1) y0 y1 y2))
  | 0 => fun _ _ _ r h => by simp [satchellaw24_left.l0] at h
  | k + 1 => by
    have ih0 := satchellaw24_left.mono_l k
    · intro y0 y1 y2
      unfold satchellaw24_left.l0
      repeat' first
      | (with_reducible exact ih0 _ _ _)
      | (with_reducible exact LeO.refl _)
      | (with_reducible exact LeO.none _)
      | (with_reducible refine LeO.ite ?_ ?_)
      | (with_reducible refine LeO.bind ?_ (fun _ => ?_))
      | exact ih0 _ _ _
      | exact LeO.none _
      | refine LeO.ite ?_ ?_
      | refine LeO.bind ?_ (fun _ => ?_)
theorem satchellaw24_left.mono : ∀ a0 a1 k, LeO (satchellaw24_left.f k a0 a1) (satchellaw24_left.f (k + 1) a0 a1) := by
  intro a0 a1 k
  have ih0 := satchellaw24_left.mono_l k
  unfold satchellaw24_left.f
  repeat' first
      | (with_reducible exact ih0 _ _ _)
      | (with_reducible exact LeO.refl _)
      | (with_reducible exact LeO.none _)
      | (with_reducible refine LeO.ite ?_ ?_)
      | (with_reducible refine LeO.bind ?_ (fun _ => ?_))
      | exact ih0 _ _ _
      | exact LeO.none _
      | refine LeO.ite ?_ ?_
      | refine LeO.bind ?_ (fun _ => ?_)
set_option maxHeartbeats 8000000 in
set_option maxRecDepth 100000 in
theorem satchellaw24_left.calls (k : Nat) (A0 : Option Addr) (c0 : Nat) (l0 : List (S33)) (A1 : Option Addr) (c1 : Nat) (l1 : List (S33)) (r : Bool) (w : World) (hr0 : Kd.C k33 w A0 l0.length l0) (hc0 : l0.length ≤ c0) (hr1 : Kd.C k33 w A1 l1.length l1) (hc1 : l1.length ≤ c1) (h : satchellaw24_left.f k l0 l1 = some r) :
    Calls Try.prog 8 #[.slice A0 l0.length c0, .slice A1 l1.length c1] w fun e w' => e = .returned (.bool r) ∧ Drawn0 w w' := by
  have hu33 := Try.underlying33
  have HR0 := Aside0.mk hr0
  have HC0 := Aside0.mk hc0
  clear hr0 hc0
  have HR1 := Aside0.mk hr1
  have HC1 := Aside0.mk hc1
  clear hr1 hc1
  have H : (satchellaw24_left.l0 k l0 l1 0) = some r := h
  clear h
  have H' := Aside0.mk H
  clear H
  go_enter Try.func8, Try.ntmps8
  go_wp2
  repeat (go_quiet (fail); try go_wp2)
  go_loopg [5] k (fun kq v5 w' => ∃ (x5_1 : Int), v5 = .int .i64 x5_1 ∧ Aside0 (satchellaw24_left.l0 kq l0 l1 x5_1 = some r) ∧ Aside0 (kq ≤ k) ∧ Drawn0 w w')
  case atStart => exact ⟨(0), (by first | rfl | (simp; done) | (simp [*]; done) | (simp; unfold wrap64; rfl)), H', ⟨Nat.le_refl _⟩, by repeat (first | exact Drawn0.refl _ | apply Drawn0.step)⟩
  case round =>
    clear H'
    try clear c1
    try clear p2
    obtain ⟨x5_1, rfl, HA, HK1, ⟨m1, rfl⟩⟩ := hrel
    cases gk with
    | zero => exact absurd HA.out (by simp [satchellaw24_left.l0])
    | succ k1 =>
      have H := HA.out
      clear HA
      simp only [satchellaw24_left.l0] at H
      by_cases c3 : x5_1 < (l1.length : Int)
      · rw [if_pos c3] at H
        have c3b0 : decide (x5_1 < (l1.length : Int)) = true := decide_eq_true c3
        clear c3
        by_cases c4 : 0 ≤ x5_1
        · rw [if_pos c4] at H
          have c4b0 : decide (0 ≤ x5_1) = true := decide_eq_true c4
          clear c4
          by_cases c5 : x5_1 < (l0.length : Int)
          · rw [if_pos c5] at H
            have c5b0 : decide (x5_1 < (l0.length : Int)) = true := decide_eq_true c5
            clear c5
            by_cases c6 : (!((((rd_T33 l0 x5_1).f0).toList) == (((rd_T33 l1 x5_1).f0).toList)) || (!(((rd_T33 l0 x5_1).f1) == ((rd_T33 l1 x5_1).f1)) || ((!(((rd_T33 l0 x5_1).f2.f0) == ((rd_T33 l1 x5_1).f2.f0)) || (!(((rd_T33 l0 x5_1).f2.f1) == ((rd_T33 l1 x5_1).f2.f1)) || (!(((rd_T33 l0 x5_1).f2.f2) == ((rd_T33 l1 x5_1).f2.f2)) || (!(((rd_T33 l0 x5_1).f2.f3) == ((rd_T33 l1 x5_1).f2.f3)) || (!(((rd_T33 l0 x5_1).f2.f4) == ((rd_T33 l1 x5_1).f2.f4))))))) || (!(((rd_T33 l0 x5_1).f3) == ((rd_T33 l1 x5_1).f3)) || (!(((rd_T33 l0 x5_1).f4) == ((rd_T33 l1 x5_1).f4)) || (!((((rd_T33 l0 x5_1).f5).toList) == (((rd_T33 l1 x5_1).f5).toList)))))))) = true
            · rw [if_pos c6] at H
              have c6b0 : (!((((rd_T33 l0 x5_1).f0).toList) == (((rd_T33 l1 x5_1).f0).toList)) || (!(((rd_T33 l0 x5_1).f1) == ((rd_T33 l1 x5_1).f1)) || ((!(((rd_T33 l0 x5_1).f2.f0) == ((rd_T33 l1 x5_1).f2.f0)) || (!(((rd_T33 l0 x5_1).f2.f1) == ((rd_T33 l1 x5_1).f2.f1)) || (!(((rd_T33 l0 x5_1).f2.f2) == ((rd_T33 l1 x5_1).f2.f2)) || (!(((rd_T33 l0 x5_1).f2.f3) == ((rd_T33 l1 x5_1).f2.f3)) || (!(((rd_T33 l0 x5_1).f2.f4) == ((rd_T33 l1 x5_1).f2.f4))))))) || (!(((rd_T33 l0 x5_1).f3) == ((rd_T33 l1 x5_1).f3)) || (!(((rd_T33 l0 x5_1).f4) == ((rd_T33 l1 x5_1).f4)) || (!((((rd_T33 l0 x5_1).f5).toList) == (((rd_T33 l1 x5_1).f5).toList)))))))) = true := c6
              clear c6
              obtain rfl := Option.some.inj H
              have p203 : 0 ≤ (x5_1 : Int) := of_decide_eq_true (by first | (with_reducible assumption) | assumption)
              have q203 : x5_1 < (l0.length : Int) := of_decide_eq_true (by first | (with_reducible assumption) | assumption)
              obtain ⟨ad203, e203, hx203_0, hx203_1, hx203_2, hx203_3, hx203_4, hx203_5, hx203_6, hx203_7, hx203_8, hx203_9⟩ := at_T33 HR0.out x5_1 p203 q203
              cases e203
              replace p203 := eq_true p203
              replace q203 := eq_true q203
              have p204 : 0 ≤ (x5_1 : Int) := of_decide_eq_true (by first | (with_reducible assumption) | assumption)
              have q204 : x5_1 < (l1.length : Int) := of_decide_eq_true (by first | (with_reducible assumption) | assumption)
              obtain ⟨ad204, e204, hx204_0, hx204_1, hx204_2, hx204_3, hx204_4, hx204_5, hx204_6, hx204_7, hx204_8, hx204_9⟩ := at_T33 HR1.out x5_1 p204 q204
              cases e204
              replace p204 := eq_true p204
              replace q204 := eq_true q204
              go_wp2
              repeat (go_quiet (fail); try go_wp2)
              go_ret
              exact ⟨by first | rfl | (simp; done) | (simp [*]; done) | (simp; unfold wrap64; rfl), by repeat (first | exact Drawn0.refl _ | apply Drawn0.step)⟩
            · rw [if_neg c6] at H
              have c6b0 : (!((((rd_T33 l0 x5_1).f0).toList) == (((rd_T33 l1 x5_1).f0).toList)) || (!(((rd_T33 l0 x5_1).f1) == ((rd_T33 l1 x5_1).f1)) || ((!(((rd_T33 l0 x5_1).f2.f0) == ((rd_T33 l1 x5_1).f2.f0)) || (!(((rd_T33 l0 x5_1).f2.f1) == ((rd_T33 l1 x5_1).f2.f1)) || (!(((rd_T33 l0 x5_1).f2.f2) == ((rd_T33 l1 x5_1).f2.f2)) || (!(((rd_T33 l0 x5_1).f2.f3) == ((rd_T33 l1 x5_1).f2.f3)) || (!(((rd_T33 l0 x5_1).f2.f4) == ((rd_T33 l1 x5_1).f2.f4))))))) || (!(((rd_T33 l0 x5_1).f3) == ((rd_T33 l1 x5_1).f3)) || (!(((rd_T33 l0 x5_1).f4) == ((rd_T33 l1 x5_1).f4)) || (!((((rd_T33 l0 x5_1).f5).toList) == (((rd_T33 l1 x5_1).f5).toList)))))))) = false := by simpa using c6
              clear c6
              have H' := Aside0.mk H
              clear H
              have p203 : 0 ≤ (x5_1 : Int) := of_decide_eq_true (by first | (with_reducible assumption) | assumption)
              have q203 : x5_1 < (l0.length : Int) := of_decide_eq_true (by first | (with_reducible assumption) | assumption)
              obtain ⟨ad203, e203, hx203_0, hx203_1, hx203_2, hx203_3, hx203_4, hx203_5, hx203_6, hx203_7, hx203_8, hx203_9⟩ := at_T33 HR0.out x5_1 p203 q203
              cases e203
              replace p203 := eq_true p203
              replace q203 := eq_true q203
              have p204 : 0 ≤ (x5_1 : Int) := of_decide_eq_true (by first | (with_reducible assumption) | assumption)
              have q204 : x5_1 < (l1.length : Int) := of_decide_eq_true (by first | (with_reducible assumption) | assumption)
              obtain ⟨ad204, e204, hx204_0, hx204_1, hx204_2, hx204_3, hx204_4, hx204_5, hx204_6, hx204_7, hx204_8, hx204_9⟩ := at_T33 HR1.out x5_1 p204 q204
              cases e204
              replace p204 := eq_true p204
              replace q204 := eq_true q204
              go_wp2
              repeat (go_quiet (fail); try go_wp2)
              go_roundg k1
              case measure => have := HK1.out; omega
              case rel => exact ⟨(wrap64 (x5_1 + 1)), (by first | rfl | (simp; done) | (simp [*]; done) | (simp; unfold wrap64; rfl)), H', ⟨by have := HK1.out; omega⟩, by repeat (first | exact Drawn0.refl _ | apply Drawn0.step)⟩
          · rw [if_neg c5] at H
            exact absurd H (by simp)
        · rw [if_neg c4] at H
          exact absurd H (by simp)
      · rw [if_neg c3] at H
        have c3b0 : decide (x5_1 < (l1.length : Int)) = false := decide_eq_false c3
        clear c3
        by_cases c7 : 0 ≤ (l1.length : Int)
        · rw [if_pos c7] at H
          have c7b0 : decide (0 ≤ (l1.length : Int)) = true := decide_eq_true c7
          have c7b1 : decide (0 ≤ l1.length) = true := decide_eq_true (by omega)
          clear c7
          by_cases c8 : (l1.length : Int) < (l0.length : Int)
          · rw [if_pos c8] at H
            have c8b0 : decide ((l1.length : Int) < (l0.length : Int)) = true := decide_eq_true c8
            have c8b1 : decide (l1.length < l0.length) = true := decide_eq_true (Int.ofNat_lt.mp c8)
            clear c8
            obtain rfl := Option.some.inj H
            have p205 : 0 ≤ ((l1.length : Int) : Int) := of_decide_eq_true (by first | (with_reducible assumption) | assumption)
            have q205 : (l1.length : Int) < (l0.length : Int) := of_decide_eq_true (by first | (with_reducible assumption) | assumption)
            obtain ⟨ad205, e205, hx205_0, hx205_1, hx205_2, hx205_3, hx205_4, hx205_5, hx205_6, hx205_7, hx205_8, hx205_9⟩ := at_T33 HR0.out (l1.length : Int) p205 q205
            cases e205
            (try simp only [Go.IntWalk.toNatUp] at hx205_0)
            (try simp only [Go.IntWalk.toNatUp] at hx205_1)
            (try simp only [Go.IntWalk.toNatUp] at hx205_2)
            (try simp only [Go.IntWalk.toNatUp] at hx205_3)
            (try simp only [Go.IntWalk.toNatUp] at hx205_4)
            (try simp only [Go.IntWalk.toNatUp] at hx205_5)
            (try simp only [Go.IntWalk.toNatUp] at hx205_6)
            (try simp only [Go.IntWalk.toNatUp] at hx205_7)
            (try simp only [Go.IntWalk.toNatUp] at hx205_8)
            (try simp only [Go.IntWalk.toNatUp] at hx205_9)
            replace p205 := eq_true p205
            replace q205 := eq_true q205
            go_wp2
            repeat (go_quiet (fail); try go_wp2)
            go_ret
            exact ⟨by first | rfl | (simp; done) | (simp [*]; done) | (simp; unfold wrap64; rfl), by repeat (first | exact Drawn0.refl _ | apply Drawn0.step)⟩
          · rw [if_neg c8] at H
            exact absurd H (by simp)
        · rw [if_neg c7] at H
          exact absurd H (by simp)

end Go.Proofs.Ytncnnbabokkafaa.PCompareChanges
