-- WRITTEN BY wip/xprint.py, a program of the proving session round the kit's print.py; Lean checks it.
import Derived.Test.YtohgoaiimhhckaaDoorPPaxTimesx0
import Derived.Test.YtohgoaiimhhckaaDoorPPaxTimesx3
import Derived.Test.YtohgoaiimhhckaaDoorPPaxTimesx5
import Derived.Test.YtohgoaiimhhckaaDoorPPaxTimesx6
import Derived.Test.YtohgoaiimhhckaaDoorPPaxTimesx7
import Derived.Test.YtohgoaiimhhckaaDoorPPaxTimesx14
namespace Go.Proofs.YtohgoaiimhhckaaDoor.PPaxTimes
open Go.Proofs.YtohgoaiimhhckaaDoorX
open Go.RowKit Go.Proofs.YtohgoaiimhhckaaDoorW.PrintWords Go.Proofs.YtohgoaiimhhckaaDoorW.PrintLast Go.Proofs.YtohgoaiimhhckaaDoorW.PrintMore
attribute [local go_sem] max2_int min2_int max_two min_two max_three min_three max_four min_four   -- for this text's walks alone
set_option linter.unusedVariables false
set_option linter.unusedSimpArgs false

/-! ### satchellaw14_PaxTimes: function 8 -/
mutual
def satchellaw14_PaxTimes.j0 : Nat → Int → Int → ByteArray → Bool → Option (Bool)
  | 0, _, _, _, _ => none
  | k + 1, x0, x1, x2, x58 => if x58 = true then (some false) else ((pax_PutTime.f k x0 x1).bind fun bt204 => (if x1 ≥ 0 then (satchellaw14_PaxTimes.j1 k x0 x1 x2 bt204.1 bt204.2 ((bt204.2 == 0) != (decide (x1 ≤ 999999999)))) else (satchellaw14_PaxTimes.j1 k x0 x1 x2 bt204.1 bt204.2 ((bt204.2 == 0) != false))))
def satchellaw14_PaxTimes.j1 : Nat → Int → Int → ByteArray → ByteArray → Int → Bool → Option (Bool)
  | 0, _, _, _, _, _, _ => none
  | k + 1, x0, x1, x2, x11, x12, x73 => if x73 = true then (some false) else (if x12 = 0 then (if x0 > (-9223372036854775808) then (satchellaw14_PaxTimes.j2 k x0 x1 x2 x11 true) else (satchellaw14_PaxTimes.j2 k x0 x1 x2 x11 (decide (x1 > 0)))) else (satchellaw14_PaxTimes.j2 k x0 x1 x2 x11 false))
def satchellaw14_PaxTimes.j2 : Nat → Int → Int → ByteArray → ByteArray → Bool → Option (Bool)
  | 0, _, _, _, _, _ => none
  | k + 1, x0, x1, x2, x11, x83 => if x83 = true then ((pax_Time.f k x11).bind fun bt206 => (if bt206.2.2 = 0 then (if bt206.1 = x0 then (if bt206.2.1 = x1 then (satchellaw14_PaxTimes.j3 k x2) else (some false)) else (some false)) else (some false))) else (satchellaw14_PaxTimes.j3 k x2)
def satchellaw14_PaxTimes.j3 : Nat → ByteArray → Option (Bool)
  | 0, _ => none
  | k + 1, x2 => (pax_Time.f k x2).bind fun bt209 => (if bt209.2.2 = 0 then ((pax_PutTime.f k bt209.1 bt209.2.1).bind fun bt212 => ((pax_Time.f k bt212.1).bind fun bt214 => (if bt212.2 = 0 then (if bt214.2.2 = 0 then (if bt214.1 = bt209.1 then (some (bt214.2.1 == bt209.2.1)) else (some false)) else (some false)) else (some false)))) else (if bt209.1 = 0 then (some (bt209.2.1 == 0)) else (some false)))
end
def satchellaw14_PaxTimes.f (k : Nat) (a0 : Int) (a1 : Int) (a2 : ByteArray) : Option (Bool) := (satchellaw14_lives.f k).bind fun t199 => (if t199 = true then ((pax_PutNumber.f a0).bind fun bt200 => ((pax_Number.f k bt200.1).bind fun bt202 => (if a0 ≥ 0 then (if bt200.2 = 0 then (if bt202.2 = 0 then (if bt202.1 = a0 then (if a0 < 0 then (satchellaw14_PaxTimes.j0 k a0 a1 a2 (bt200.2 != 1)) else (satchellaw14_PaxTimes.j0 k a0 a1 a2 false)) else (satchellaw14_PaxTimes.j0 k a0 a1 a2 true)) else (satchellaw14_PaxTimes.j0 k a0 a1 a2 true)) else (satchellaw14_PaxTimes.j0 k a0 a1 a2 true)) else (if a0 < 0 then (satchellaw14_PaxTimes.j0 k a0 a1 a2 (bt200.2 != 1)) else (satchellaw14_PaxTimes.j0 k a0 a1 a2 false))))) else (some false))
theorem satchellaw14_PaxTimes.mono_l : ∀ k, (∀ y0 y1 y2 y3, LeO (satchellaw14_PaxTimes.j0 k y0 y1 y2 y3) (satchellaw14_PaxTimes.j0 (k + 1) y0 y1 y2 y3)) ∧ (∀ y0 y1 y2 y3 y4 y5, LeO (satchellaw14_PaxTimes.j1 k y0 y1 y2 y3 y4 y5) (satchellaw14_PaxTimes.j1 (k + 1) y0 y1 y2 y3 y4 y5)) ∧ (∀ y0 y1 y2 y3 y4, LeO (satchellaw14_PaxTimes.j2 k y0 y1 y2 y3 y4) (satchellaw14_PaxTimes.j2 (k + 1) y0 y1 y2 y3 y4)) ∧ (∀ y0, LeO (satchellaw14_PaxTimes.j3 k y0) (satchellaw14_PaxTimes.j3 (k + 1) y0))
  | 0 => ⟨fun _ _ _ _ r h => by simp [satchellaw14_PaxTimes.j0] at h, fun _ _ _ _ _ _ r h => by simp [satchellaw14_PaxTimes.j1] at h, fun _ _ _ _ _ r h => by simp [satchellaw14_PaxTimes.j2] at h, fun _ r h => by simp [satchellaw14_PaxTimes.j3] at h⟩
  | k + 1 => by
    obtain ⟨ih0, ih1, ih2, ih3⟩ := satchellaw14_PaxTimes.mono_l k
    refine ⟨?_, ?_, ?_, ?_⟩
    · intro y0 y1 y2 y3
      unfold satchellaw14_PaxTimes.j0
      repeat' first
      | (with_reducible exact ih0 _ _ _ _)
      | (with_reducible exact ih1 _ _ _ _ _ _)
      | (with_reducible exact ih2 _ _ _ _ _)
      | (with_reducible exact ih3 _)
      | (with_reducible exact pax_Number.mono _ _)
      | (with_reducible exact pax_PutTime.mono _ _ _)
      | (with_reducible exact pax_Time.mono _ _)
      | (with_reducible exact satchellaw14_lives.mono _)
      | (with_reducible exact LeO.refl _)
      | (with_reducible exact LeO.none _)
      | (with_reducible refine LeO.ite ?_ ?_)
      | (with_reducible refine LeO.bind ?_ (fun _ => ?_))
      | exact ih0 _ _ _ _
      | exact ih1 _ _ _ _ _ _
      | exact ih2 _ _ _ _ _
      | exact ih3 _
      | exact pax_Number.mono _ _
      | exact pax_PutTime.mono _ _ _
      | exact pax_Time.mono _ _
      | exact satchellaw14_lives.mono _
      | exact LeO.none _
      | refine LeO.ite ?_ ?_
      | refine LeO.bind ?_ (fun _ => ?_)
    · intro y0 y1 y2 y3 y4 y5
      unfold satchellaw14_PaxTimes.j1
      repeat' first
      | (with_reducible exact ih0 _ _ _ _)
      | (with_reducible exact ih1 _ _ _ _ _ _)
      | (with_reducible exact ih2 _ _ _ _ _)
      | (with_reducible exact ih3 _)
      | (with_reducible exact pax_Number.mono _ _)
      | (with_reducible exact pax_PutTime.mono _ _ _)
      | (with_reducible exact pax_Time.mono _ _)
      | (with_reducible exact satchellaw14_lives.mono _)
      | (with_reducible exact LeO.refl _)
      | (with_reducible exact LeO.none _)
      | (with_reducible refine LeO.ite ?_ ?_)
      | (with_reducible refine LeO.bind ?_ (fun _ => ?_))
      | exact ih0 _ _ _ _
      | exact ih1 _ _ _ _ _ _
      | exact ih2 _ _ _ _ _
      | exact ih3 _
      | exact pax_Number.mono _ _
      | exact pax_PutTime.mono _ _ _
      | exact pax_Time.mono _ _
      | exact satchellaw14_lives.mono _
      | exact LeO.none _
      | refine LeO.ite ?_ ?_
      | refine LeO.bind ?_ (fun _ => ?_)
    · intro y0 y1 y2 y3 y4
      unfold satchellaw14_PaxTimes.j2
      repeat' first
      | (with_reducible exact ih0 _ _ _ _)
      | (with_reducible exact ih1 _ _ _ _ _ _)
      | (with_reducible exact ih2 _ _ _ _ _)
      | (with_reducible exact ih3 _)
      | (with_reducible exact pax_Number.mono _ _)
      | (with_reducible exact pax_PutTime.mono _ _ _)
      | (with_reducible exact pax_Time.mono _ _)
      | (with_reducible exact satchellaw14_lives.mono _)
      | (with_reducible exact LeO.refl _)
      | (with_reducible exact LeO.none _)
      | (with_reducible refine LeO.ite ?_ ?_)
      | (with_reducible refine LeO.bind ?_ (fun _ => ?_))
      | exact ih0 _ _ _ _
      | exact ih1 _ _ _ _ _ _
      | exact ih2 _ _ _ _ _
      | exact ih3 _
      | exact pax_Number.mono _ _
      | exact pax_PutTime.mono _ _ _
      | exact pax_Time.mono _ _
      | exact satchellaw14_lives.mono _
      | exact LeO.none _
      | refine LeO.ite ?_ ?_
      | refine LeO.bind ?_ (fun _ => ?_)
    · intro y0
      unfold satchellaw14_PaxTimes.j3
      repeat' first
      | (with_reducible exact ih0 _ _ _ _)
      | (with_reducible exact ih1 _ _ _ _ _ _)
      | (with_reducible exact ih2 _ _ _ _ _)
      | (with_reducible exact ih3 _)
      | (with_reducible exact pax_Number.mono _ _)
      | (with_reducible exact pax_PutTime.mono _ _ _)
      | (with_reducible exact pax_Time.mono _ _)
      | (with_reducible exact satchellaw14_lives.mono _)
      | (with_reducible exact LeO.refl _)
      | (with_reducible exact LeO.none _)
      | (with_reducible refine LeO.ite ?_ ?_)
      | (with_reducible refine LeO.bind ?_ (fun _ => ?_))
      | exact ih0 _ _ _ _
      | exact ih1 _ _ _ _ _ _
      | exact ih2 _ _ _ _ _
      | exact ih3 _
      | exact pax_Number.mono _ _
      | exact pax_PutTime.mono _ _ _
      | exact pax_Time.mono _ _
      | exact satchellaw14_lives.mono _
      | exact LeO.none _
      | refine LeO.ite ?_ ?_
      | refine LeO.bind ?_ (fun _ => ?_)
theorem satchellaw14_PaxTimes.mono : ∀ a0 a1 a2 k, LeO (satchellaw14_PaxTimes.f k a0 a1 a2) (satchellaw14_PaxTimes.f (k + 1) a0 a1 a2) := by
  intro a0 a1 a2 k
  obtain ⟨ih0, ih1, ih2, ih3⟩ := satchellaw14_PaxTimes.mono_l k
  unfold satchellaw14_PaxTimes.f
  repeat' first
      | (with_reducible exact ih0 _ _ _ _)
      | (with_reducible exact ih1 _ _ _ _ _ _)
      | (with_reducible exact ih2 _ _ _ _ _)
      | (with_reducible exact ih3 _)
      | (with_reducible exact pax_Number.mono _ _)
      | (with_reducible exact pax_PutTime.mono _ _ _)
      | (with_reducible exact pax_Time.mono _ _)
      | (with_reducible exact satchellaw14_lives.mono _)
      | (with_reducible exact LeO.refl _)
      | (with_reducible exact LeO.none _)
      | (with_reducible refine LeO.ite ?_ ?_)
      | (with_reducible refine LeO.bind ?_ (fun _ => ?_))
      | exact ih0 _ _ _ _
      | exact ih1 _ _ _ _ _ _
      | exact ih2 _ _ _ _ _
      | exact ih3 _
      | exact pax_Number.mono _ _
      | exact pax_PutTime.mono _ _ _
      | exact pax_Time.mono _ _
      | exact satchellaw14_lives.mono _
      | exact LeO.none _
      | refine LeO.ite ?_ ?_
      | refine LeO.bind ?_ (fun _ => ?_)
set_option maxHeartbeats 8000000 in
set_option maxRecDepth 100000 in
theorem satchellaw14_PaxTimes.calls (k : Nat) (a0 : Int) (a1 : Int) (a2 : ByteArray) (r : Bool) (w : World) (hG : Gv w) (h : satchellaw14_PaxTimes.f k a0 a1 a2 = some r) :
    Calls Tryd.prog 8 #[.int .i64 a0, .int .i32 a1, .string a2] w fun e w' => e = .returned (.bool r) ∧ Below w.heap.size w w' := by
  have HB := Aside0.mk (Below.refl w.heap.size w)
  have HG := Aside0.mk hG
  clear hG
  have H : ((satchellaw14_lives.f k).bind fun t199 => (if t199 = true then ((pax_PutNumber.f a0).bind fun bt200 => ((pax_Number.f k bt200.1).bind fun bt202 => (if a0 ≥ 0 then (if bt200.2 = 0 then (if bt202.2 = 0 then (if bt202.1 = a0 then (if a0 < 0 then (satchellaw14_PaxTimes.j0 k a0 a1 a2 (bt200.2 != 1)) else (satchellaw14_PaxTimes.j0 k a0 a1 a2 false)) else (satchellaw14_PaxTimes.j0 k a0 a1 a2 true)) else (satchellaw14_PaxTimes.j0 k a0 a1 a2 true)) else (satchellaw14_PaxTimes.j0 k a0 a1 a2 true)) else (if a0 < 0 then (satchellaw14_PaxTimes.j0 k a0 a1 a2 (bt200.2 != 1)) else (satchellaw14_PaxTimes.j0 k a0 a1 a2 false))))) else (some false))) = some r := h
  clear h
  replace H := Option.bind_eq_some_iff.mp H
  obtain ⟨t199, A40, H⟩ := H
  replace H : (if t199 = true then ((pax_PutNumber.f a0).bind fun bt200 => ((pax_Number.f k bt200.1).bind fun bt202 => (if a0 ≥ 0 then (if bt200.2 = 0 then (if bt202.2 = 0 then (if bt202.1 = a0 then (if a0 < 0 then (satchellaw14_PaxTimes.j0 k a0 a1 a2 (bt200.2 != 1)) else (satchellaw14_PaxTimes.j0 k a0 a1 a2 false)) else (satchellaw14_PaxTimes.j0 k a0 a1 a2 true)) else (satchellaw14_PaxTimes.j0 k a0 a1 a2 true)) else (satchellaw14_PaxTimes.j0 k a0 a1 a2 true)) else (if a0 < 0 then (satchellaw14_PaxTimes.j0 k a0 a1 a2 (bt200.2 != 1)) else (satchellaw14_PaxTimes.j0 k a0 a1 a2 false))))) else (some false)) = some r := H
  have A4 := Aside0.mk A40
  clear A40
  by_cases c5 : t199 = true
  · subst c5
    have H1 : ((pax_PutNumber.f a0).bind fun bt200 => ((pax_Number.f k bt200.1).bind fun bt202 => (if a0 ≥ 0 then (if bt200.2 = 0 then (if bt202.2 = 0 then (if bt202.1 = a0 then (if a0 < 0 then (satchellaw14_PaxTimes.j0 k a0 a1 a2 (bt200.2 != 1)) else (satchellaw14_PaxTimes.j0 k a0 a1 a2 false)) else (satchellaw14_PaxTimes.j0 k a0 a1 a2 true)) else (satchellaw14_PaxTimes.j0 k a0 a1 a2 true)) else (satchellaw14_PaxTimes.j0 k a0 a1 a2 true)) else (if a0 < 0 then (satchellaw14_PaxTimes.j0 k a0 a1 a2 (bt200.2 != 1)) else (satchellaw14_PaxTimes.j0 k a0 a1 a2 false))))) = some r := by rw [if_pos rfl] at H; exact H
    clear H
    have H := H1
    clear H1
    replace H := Option.bind_eq_some_iff.mp H
    obtain ⟨⟨t200, t201⟩, A60, H⟩ := H
    replace H : ((pax_Number.f k t200).bind fun bt202 => (if a0 ≥ 0 then (if t201 = 0 then (if bt202.2 = 0 then (if bt202.1 = a0 then (if a0 < 0 then (satchellaw14_PaxTimes.j0 k a0 a1 a2 (t201 != 1)) else (satchellaw14_PaxTimes.j0 k a0 a1 a2 false)) else (satchellaw14_PaxTimes.j0 k a0 a1 a2 true)) else (satchellaw14_PaxTimes.j0 k a0 a1 a2 true)) else (satchellaw14_PaxTimes.j0 k a0 a1 a2 true)) else (if a0 < 0 then (satchellaw14_PaxTimes.j0 k a0 a1 a2 (t201 != 1)) else (satchellaw14_PaxTimes.j0 k a0 a1 a2 false)))) = some r := H
    have A6 := Aside0.mk A60
    clear A60
    replace H := Option.bind_eq_some_iff.mp H
    obtain ⟨⟨t202, t203⟩, A70, H⟩ := H
    replace H : (if a0 ≥ 0 then (if t201 = 0 then (if t203 = 0 then (if t202 = a0 then (if a0 < 0 then (satchellaw14_PaxTimes.j0 k a0 a1 a2 (t201 != 1)) else (satchellaw14_PaxTimes.j0 k a0 a1 a2 false)) else (satchellaw14_PaxTimes.j0 k a0 a1 a2 true)) else (satchellaw14_PaxTimes.j0 k a0 a1 a2 true)) else (satchellaw14_PaxTimes.j0 k a0 a1 a2 true)) else (if a0 < 0 then (satchellaw14_PaxTimes.j0 k a0 a1 a2 (t201 != 1)) else (satchellaw14_PaxTimes.j0 k a0 a1 a2 false))) = some r := H
    have A7 := Aside0.mk A70
    clear A70
    have HC8 := Aside0.mk H
    clear H
    go_enter Tryd.func8, Tryd.ntmps8
    go_upto_region 5 with (first | ((with_reducible refine gate_callee (f := 35) rfl ?_); refine goesL_ (some 24) rfl rfl Tryd.func35 (by kernel_rfl) rfl #[] rfl (by (try simp only [List.map_toArray, List.map_cons, List.map_nil]); first | done | rfl | (simp only [List.length_drop, List.length_take]; rfl)) ?_; (with_reducible refine (satchellaw14_lives.calls k  true _ ?side1 A4.out).mono ?_); (case side1 => exact Gv_below HG.out (by repeat (first | (with_reducible first | exact HB.out | apply below_alloc | apply pw_below_drewN | apply below_drew1) | exact HB.out))); rintro e w9 ⟨rfl, hb⟩; refine ⟨_, rfl, ?_⟩; have n0_ := Aside0.mk (below_step (by repeat (first | (with_reducible first | exact HB.out | apply below_alloc | apply pw_below_drewN | apply below_drew1) | exact HB.out)) hb); clear HB; have HB := n0_; clear n0_; (try clear hb); (try clear hb2); (try clear hk); (try clear hi)) | ((with_reducible refine gate_callee (f := 22) rfl ?_); refine goesL_ (some 28) rfl rfl Tryd.func22 (by kernel_rfl) rfl #[.int .i64 a0] rfl (by (try simp only [List.map_toArray, List.map_cons, List.map_nil]); first | done | rfl | (simp only [List.length_drop, List.length_take]; rfl)) ?_; (with_reducible refine (pax_PutNumber.calls a0 t200 t201 _ ?side1 A6.out).mono ?_); (case side1 => exact Gv_below HG.out (by repeat (first | (with_reducible first | exact HB.out | apply below_alloc | apply pw_below_drewN | apply below_drew1) | exact HB.out))); rintro e w10 ⟨rfl, hb⟩; refine ⟨_, rfl, ?_⟩; have n0_ := Aside0.mk (below_step (by repeat (first | (with_reducible first | exact HB.out | apply below_alloc | apply pw_below_drewN | apply below_drew1) | exact HB.out)) hb); clear HB; have HB := n0_; clear n0_; (try clear hb); (try clear hb2); (try clear hk); (try clear hi)) | ((with_reducible refine gate_callee (f := 18) rfl ?_); refine goesL_ (some 33) rfl rfl Tryd.func18 (by kernel_rfl) rfl #[.string t200] rfl (by (try simp only [List.map_toArray, List.map_cons, List.map_nil]); first | done | rfl | (simp only [List.length_drop, List.length_take]; rfl)) ?_; (with_reducible refine (pax_Number.calls k t200 t202 t203 _ ?side1 A7.out).mono ?_); (case side1 => exact Gv_below HG.out (by repeat (first | (with_reducible first | exact HB.out | apply below_alloc | apply pw_below_drewN | apply below_drew1) | exact HB.out))); rintro e w11 ⟨rfl, hb⟩; refine ⟨_, rfl, ?_⟩; have n0_ := Aside0.mk (below_step (by repeat (first | (with_reducible first | exact HB.out | apply below_alloc | apply pw_below_drewN | apply below_drew1) | exact HB.out)) hb); clear HB; have HB := n0_; clear n0_; (try clear hb); (try clear hb2); (try clear hk); (try clear hi)))
    (try simp only [Act.put, List.setIfInBounds_toArray, List.set_cons_zero, List.set_cons_succ])
    go_cut [58] (fun v58 wc => ∃ (kq : Nat) (x58_7 : Bool), v58 = .bool x58_7 ∧ Aside0 (satchellaw14_PaxTimes.j0 kq a0 a1 a2 x58_7 = some r) ∧ Aside0 (kq ≤ k) ∧ Aside0 (Below w.heap.size w wc))
    case first =>
      have H := HC8.out
      clear HC8
      by_cases c12 : a0 ≥ 0
      · rw [if_pos c12] at H
        have c12b0 : decide (0 ≤ a0) = true := decide_eq_true c12
        clear c12
        (first | rw [c12b0] | (simp only [i64_w, i32_w]; rw [c12b0]) | skip)
        by_cases c13 : t201 = 0
        · rw [if_pos c13] at H
          have c13b0 : (t201 == 0) = true := beq_iff_eq.mpr c13
          have c13b1 : (t201 != 0) = false := bne_eq_false_iff_eq.mpr c13
          clear c13
          by_cases c14 : t203 = 0
          · rw [if_pos c14] at H
            have c14b0 : (t203 == 0) = true := beq_iff_eq.mpr c14
            have c14b1 : (t203 != 0) = false := bne_eq_false_iff_eq.mpr c14
            clear c14
            by_cases c15 : t202 = a0
            · rw [if_pos c15] at H
              have c15b0 : (t202 == a0) = true := beq_iff_eq.mpr c15
              have c15b1 : (t202 != a0) = false := bne_eq_false_iff_eq.mpr c15
              clear c15
              by_cases c16 : a0 < 0
              · rw [if_pos c16] at H
                have c16b0 : decide (a0 < 0) = true := decide_eq_true c16
                clear c16
                have H' := Aside0.mk H
                clear H
                go_wp2
                go_meet
                case rel => exact ⟨_, ((t201 != 1)), (by first | rfl | (simp; done) | (simp [*]; done)), H', ⟨by first | omega | exact Nat.le_refl _⟩, ⟨by repeat (first | (with_reducible first | exact HB.out | apply below_alloc | apply pw_below_drewN | apply below_drew1) | exact HB.out)⟩⟩
              · rw [if_neg c16] at H
                have c16b0 : decide (a0 < 0) = false := decide_eq_false c16
                clear c16
                have H' := Aside0.mk H
                clear H
                go_wp2
                go_meet
                case rel => exact ⟨_, (false), (by first | rfl | (simp; done) | (simp [*]; done)), H', ⟨by first | omega | exact Nat.le_refl _⟩, ⟨by repeat (first | (with_reducible first | exact HB.out | apply below_alloc | apply pw_below_drewN | apply below_drew1) | exact HB.out)⟩⟩
            · rw [if_neg c15] at H
              have c15b0 : (t202 == a0) = false := beq_eq_false_iff_ne.mpr c15
              have c15b1 : (t202 != a0) = true := bne_iff_ne.mpr c15
              have H' := Aside0.mk H
              clear H
              go_wp2
              go_meet
              case rel => exact ⟨_, (true), (by first | rfl | (simp; done) | (simp [*]; done)), H', ⟨by first | omega | exact Nat.le_refl _⟩, ⟨by repeat (first | (with_reducible first | exact HB.out | apply below_alloc | apply pw_below_drewN | apply below_drew1) | exact HB.out)⟩⟩
          · rw [if_neg c14] at H
            have c14b0 : (t203 == 0) = false := beq_eq_false_iff_ne.mpr c14
            have c14b1 : (t203 != 0) = true := bne_iff_ne.mpr c14
            have H' := Aside0.mk H
            clear H
            go_wp2
            go_meet
            case rel => exact ⟨_, (true), (by first | rfl | (simp; done) | (simp [*]; done)), H', ⟨by first | omega | exact Nat.le_refl _⟩, ⟨by repeat (first | (with_reducible first | exact HB.out | apply below_alloc | apply pw_below_drewN | apply below_drew1) | exact HB.out)⟩⟩
        · rw [if_neg c13] at H
          have c13b0 : (t201 == 0) = false := beq_eq_false_iff_ne.mpr c13
          have c13b1 : (t201 != 0) = true := bne_iff_ne.mpr c13
          have H' := Aside0.mk H
          clear H
          go_wp2
          go_meet
          case rel => exact ⟨_, (true), (by first | rfl | (simp; done) | (simp [*]; done)), H', ⟨by first | omega | exact Nat.le_refl _⟩, ⟨by repeat (first | (with_reducible first | exact HB.out | apply below_alloc | apply pw_below_drewN | apply below_drew1) | exact HB.out)⟩⟩
      · rw [if_neg c12] at H
        have c12b0 : decide (0 ≤ a0) = false := decide_eq_false c12
        clear c12
        (first | rw [c12b0] | (simp only [i64_w, i32_w]; rw [c12b0]) | skip)
        by_cases c17 : a0 < 0
        · rw [if_pos c17] at H
          have c17b0 : decide (a0 < 0) = true := decide_eq_true c17
          clear c17
          have H' := Aside0.mk H
          clear H
          go_wp2
          go_meet
          case rel => exact ⟨_, ((t201 != 1)), (by first | rfl | (simp; done) | (simp [*]; done)), H', ⟨by first | omega | exact Nat.le_refl _⟩, ⟨by repeat (first | (with_reducible first | exact HB.out | apply below_alloc | apply pw_below_drewN | apply below_drew1) | exact HB.out)⟩⟩
        · rw [if_neg c17] at H
          have c17b0 : decide (a0 < 0) = false := decide_eq_false c17
          clear c17
          have H' := Aside0.mk H
          clear H
          go_wp2
          go_meet
          case rel => exact ⟨_, (false), (by first | rfl | (simp; done) | (simp [*]; done)), H', ⟨by first | omega | exact Nat.le_refl _⟩, ⟨by repeat (first | (with_reducible first | exact HB.out | apply below_alloc | apply pw_below_drewN | apply below_drew1) | exact HB.out)⟩⟩
    case rest =>
      clear HC8
      try clear c1
      try clear c2
      try clear p2
      try clear c3
      try clear c5
      try clear c8
      try clear c12
      try clear c12b0
      try clear c13
      try clear c13b0
      try clear c13b1
      try clear c14
      try clear c14b0
      try clear c14b1
      try clear c15
      try clear c15b0
      try clear c15b1
      try clear c16
      try clear c16b0
      try clear c17
      try clear c17b0
      obtain ⟨kq, x58_7, rfl, HA, HJ7, HB⟩ := hcut
      cases kq with
      | zero => exact absurd HA.out (by simp [satchellaw14_PaxTimes.j0])
      | succ kj7 =>
        have H := HA.out
        clear HA
        simp only [satchellaw14_PaxTimes.j0] at H
        by_cases c18 : x58_7 = true
        · subst c18
          have H1 : (some false) = some r := by rw [if_pos rfl] at H; exact H
          clear H
          have H := H1
          clear H1
          obtain rfl := Option.some.inj H
          go_wp2
          go_ret
          exact ⟨by first | rfl | (simp [errW_none, errW_some] <;> rfl) | (simp [*, errW_none, errW_some] <;> rfl), by repeat (first | (with_reducible first | exact HB.out | apply below_alloc | apply pw_below_drewN | apply below_drew1) | exact HB.out)⟩
        · replace c18 := Bool.eq_false_iff.mpr c18
          subst c18
          have H1 : ((pax_PutTime.f kj7 a0 a1).bind fun bt204 => (if a1 ≥ 0 then (satchellaw14_PaxTimes.j1 kj7 a0 a1 a2 bt204.1 bt204.2 ((bt204.2 == 0) != (decide (a1 ≤ 999999999)))) else (satchellaw14_PaxTimes.j1 kj7 a0 a1 a2 bt204.1 bt204.2 ((bt204.2 == 0) != false)))) = some r := by rw [if_neg (show ¬ (false = true) by decide)] at H; exact H
          clear H
          have H := H1
          clear H1
          replace H := Option.bind_eq_some_iff.mp H
          obtain ⟨⟨t204, t205⟩, A190, H⟩ := H
          replace H : (if a1 ≥ 0 then (satchellaw14_PaxTimes.j1 kj7 a0 a1 a2 t204 t205 ((t205 == 0) != (decide (a1 ≤ 999999999)))) else (satchellaw14_PaxTimes.j1 kj7 a0 a1 a2 t204 t205 ((t205 == 0) != false))) = some r := H
          have A19 := Aside0.mk A190
          clear A190
          have HC20 := Aside0.mk H
          clear H
          go_upto_region 8 with (first | ((with_reducible refine gate_callee (f := 24) rfl ?_); refine goesL_ (some 62) rfl rfl Tryd.func24 (by kernel_rfl) rfl #[.int .i64 a0, .int .i32 a1] rfl (by (try simp only [List.map_toArray, List.map_cons, List.map_nil]); first | done | rfl | (simp only [List.length_drop, List.length_take]; rfl)) ?_; (with_reducible refine (pax_PutTime.calls kj7 a0 a1 t204 t205 _ ?side1 A19.out).mono ?_); (case side1 => exact Gv_below HG.out (by repeat (first | (with_reducible first | exact HB.out | apply below_alloc | apply pw_below_drewN | apply below_drew1) | exact HB.out))); rintro e w21 ⟨rfl, hb⟩; refine ⟨_, rfl, ?_⟩; have n0_ := Aside0.mk (below_step (by repeat (first | (with_reducible first | exact HB.out | apply below_alloc | apply pw_below_drewN | apply below_drew1) | exact HB.out)) hb); clear HB; have HB := n0_; clear n0_; (try clear hb); (try clear hb2); (try clear hk); (try clear hi)))
          (try simp only [Act.put, List.setIfInBounds_toArray, List.set_cons_zero, List.set_cons_succ])
          go_cut [73] (fun v73 wc => ∃ (kq : Nat) (x73_19 : Bool), v73 = .bool x73_19 ∧ Aside0 (satchellaw14_PaxTimes.j1 kq a0 a1 a2 t204 t205 x73_19 = some r) ∧ Aside0 (kq ≤ kj7) ∧ Aside0 (Below w.heap.size w wc))
          case first =>
            have H := HC20.out
            clear HC20
            by_cases c22 : a1 ≥ 0
            · rw [if_pos c22] at H
              have c22b0 : decide (0 ≤ a1) = true := decide_eq_true c22
              clear c22
              (first | rw [c22b0] | (simp only [i64_w, i32_w]; rw [c22b0]) | skip)
              have H' := Aside0.mk H
              clear H
              go_wp2
              go_meet
              case rel => exact ⟨_, (((t205 == 0) != (decide (a1 ≤ 999999999)))), (by first | rfl | (simp; done) | (simp [*]; done)), H', ⟨by have := HJ7.out; first | omega | exact Nat.le_refl _⟩, ⟨by repeat (first | (with_reducible first | exact HB.out | apply below_alloc | apply pw_below_drewN | apply below_drew1) | exact HB.out)⟩⟩
            · rw [if_neg c22] at H
              have c22b0 : decide (0 ≤ a1) = false := decide_eq_false c22
              clear c22
              (first | rw [c22b0] | (simp only [i64_w, i32_w]; rw [c22b0]) | skip)
              have H' := Aside0.mk H
              clear H
              go_wp2
              go_meet
              case rel => exact ⟨_, (((t205 == 0) != false)), (by first | rfl | (simp; done) | (simp [*]; done)), H', ⟨by have := HJ7.out; first | omega | exact Nat.le_refl _⟩, ⟨by repeat (first | (with_reducible first | exact HB.out | apply below_alloc | apply pw_below_drewN | apply below_drew1) | exact HB.out)⟩⟩
          case rest =>
            clear HC20
            try clear c1
            try clear c2
            try clear p2
            try clear c3
            try clear c5
            try clear c8
            try clear c12
            try clear c12b0
            try clear c13
            try clear c13b0
            try clear c13b1
            try clear c14
            try clear c14b0
            try clear c14b1
            try clear c15
            try clear c15b0
            try clear c15b1
            try clear c16
            try clear c16b0
            try clear c17
            try clear c17b0
            try clear c18
            try clear c22
            try clear c22b0
            try clear p2
            obtain ⟨kq, x73_19, rfl, HA, HJ19, HB⟩ := hcut
            cases kq with
            | zero => exact absurd HA.out (by simp [satchellaw14_PaxTimes.j1])
            | succ kj19 =>
              have H := HA.out
              clear HA
              simp only [satchellaw14_PaxTimes.j1] at H
              by_cases c23 : x73_19 = true
              · subst c23
                have H1 : (some false) = some r := by rw [if_pos rfl] at H; exact H
                clear H
                have H := H1
                clear H1
                obtain rfl := Option.some.inj H
                go_wp2
                go_ret
                exact ⟨by first | rfl | (simp [errW_none, errW_some] <;> rfl) | (simp [*, errW_none, errW_some] <;> rfl), by repeat (first | (with_reducible first | exact HB.out | apply below_alloc | apply pw_below_drewN | apply below_drew1) | exact HB.out)⟩
              · replace c23 := Bool.eq_false_iff.mpr c23
                subst c23
                have H1 : (if t205 = 0 then (if a0 > (-9223372036854775808) then (satchellaw14_PaxTimes.j2 kj19 a0 a1 a2 t204 true) else (satchellaw14_PaxTimes.j2 kj19 a0 a1 a2 t204 (decide (a1 > 0)))) else (satchellaw14_PaxTimes.j2 kj19 a0 a1 a2 t204 false)) = some r := by rw [if_neg (show ¬ (false = true) by decide)] at H; exact H
                clear H
                have H := H1
                clear H1
                have HC24 := Aside0.mk H
                clear H
                go_upto_region 10 with (fail)
                go_cut [83] (fun v83 wc => ∃ (kq : Nat) (x83_23 : Bool), v83 = .bool x83_23 ∧ Aside0 (satchellaw14_PaxTimes.j2 kq a0 a1 a2 t204 x83_23 = some r) ∧ Aside0 (kq ≤ kj19) ∧ Aside0 (Below w.heap.size w wc))
                case first =>
                  have H := HC24.out
                  clear HC24
                  by_cases c25 : t205 = 0
                  · rw [if_pos c25] at H
                    have c25b0 : (t205 == 0) = true := beq_iff_eq.mpr c25
                    have c25b1 : (t205 != 0) = false := bne_eq_false_iff_eq.mpr c25
                    clear c25
                    (first | rw [c25b0] | (simp only [i64_w, i32_w]; rw [c25b0]) | skip)
                    by_cases c26 : a0 > (-9223372036854775808)
                    · rw [if_pos c26] at H
                      have c26b0 : decide ((-9223372036854775808) < a0) = true := decide_eq_true c26
                      clear c26
                      have H' := Aside0.mk H
                      clear H
                      go_wp2
                      go_meet
                      case rel => exact ⟨_, (true), (by first | rfl | (simp; done) | (simp [*]; done)), H', ⟨by have := HJ7.out; have := HJ19.out; first | omega | exact Nat.le_refl _⟩, ⟨by repeat (first | (with_reducible first | exact HB.out | apply below_alloc | apply pw_below_drewN | apply below_drew1) | exact HB.out)⟩⟩
                    · rw [if_neg c26] at H
                      have c26b0 : decide ((-9223372036854775808) < a0) = false := decide_eq_false c26
                      clear c26
                      have H' := Aside0.mk H
                      clear H
                      go_wp2
                      go_meet
                      case rel => exact ⟨_, (decide (a1 > 0)), (by first | rfl | (simp; done) | (simp [*]; done)), H', ⟨by have := HJ7.out; have := HJ19.out; first | omega | exact Nat.le_refl _⟩, ⟨by repeat (first | (with_reducible first | exact HB.out | apply below_alloc | apply pw_below_drewN | apply below_drew1) | exact HB.out)⟩⟩
                  · rw [if_neg c25] at H
                    have c25b0 : (t205 == 0) = false := beq_eq_false_iff_ne.mpr c25
                    have c25b1 : (t205 != 0) = true := bne_iff_ne.mpr c25
                    (first | rw [c25b0] | (simp only [i64_w, i32_w]; rw [c25b0]) | skip)
                    have H' := Aside0.mk H
                    clear H
                    go_wp2
                    go_meet
                    case rel => exact ⟨_, (false), (by first | rfl | (simp; done) | (simp [*]; done)), H', ⟨by have := HJ7.out; have := HJ19.out; first | omega | exact Nat.le_refl _⟩, ⟨by repeat (first | (with_reducible first | exact HB.out | apply below_alloc | apply pw_below_drewN | apply below_drew1) | exact HB.out)⟩⟩
                case rest =>
                  clear HC24
                  try clear c1
                  try clear c2
                  try clear p2
                  try clear c3
                  try clear c5
                  try clear c8
                  try clear c12
                  try clear c12b0
                  try clear c13
                  try clear c13b0
                  try clear c13b1
                  try clear c14
                  try clear c14b0
                  try clear c14b1
                  try clear c15
                  try clear c15b0
                  try clear c15b1
                  try clear c16
                  try clear c16b0
                  try clear c17
                  try clear c17b0
                  try clear c18
                  try clear c22
                  try clear c22b0
                  try clear c23
                  try clear c24
                  try clear c25
                  try clear c25b0
                  try clear c25b1
                  try clear c26
                  try clear c26b0
                  try clear p2
                  obtain ⟨kq, x83_23, rfl, HA, HJ23, HB⟩ := hcut
                  cases kq with
                  | zero => exact absurd HA.out (by simp [satchellaw14_PaxTimes.j2])
                  | succ kj23 =>
                    have H := HA.out
                    clear HA
                    simp only [satchellaw14_PaxTimes.j2] at H
                    have HC27 := Aside0.mk H
                    clear H
                    go_upto_if 83 with (fail)
                    go_cut [] (fun wc => ∃ (kq : Nat), Aside0 (satchellaw14_PaxTimes.j3 kq a2 = some r) ∧ Aside0 (kq ≤ kj23) ∧ Aside0 (Below w.heap.size w wc))
                    case first =>
                      have H := HC27.out
                      clear HC27
                      by_cases c28 : x83_23 = true
                      · subst c28
                        have H1 : ((pax_Time.f kj23 t204).bind fun bt206 => (if bt206.2.2 = 0 then (if bt206.1 = a0 then (if bt206.2.1 = a1 then (satchellaw14_PaxTimes.j3 kj23 a2) else (some false)) else (some false)) else (some false))) = some r := by rw [if_pos rfl] at H; exact H
                        clear H
                        have H := H1
                        clear H1
                        replace H := Option.bind_eq_some_iff.mp H
                        obtain ⟨⟨t206, t207, t208⟩, A290, H⟩ := H
                        replace H : (if t208 = 0 then (if t206 = a0 then (if t207 = a1 then (satchellaw14_PaxTimes.j3 kj23 a2) else (some false)) else (some false)) else (some false)) = some r := H
                        have A29 := Aside0.mk A290
                        clear A290
                        by_cases c30 : t208 = 0
                        · rw [if_pos c30] at H
                          have c30b0 : (t208 == 0) = true := beq_iff_eq.mpr c30
                          have c30b1 : (t208 != 0) = false := bne_eq_false_iff_eq.mpr c30
                          clear c30
                          (first | rw [c30b0] | (simp only [i64_w, i32_w]; rw [c30b0]) | skip)
                          by_cases c31 : t206 = a0
                          · rw [if_pos c31] at H
                            have c31b0 : (t206 == a0) = true := beq_iff_eq.mpr c31
                            have c31b1 : (t206 != a0) = false := bne_eq_false_iff_eq.mpr c31
                            clear c31
                            by_cases c32 : t207 = a1
                            · rw [if_pos c32] at H
                              have c32b0 : (t207 == a1) = true := beq_iff_eq.mpr c32
                              have c32b1 : (t207 != a1) = false := bne_eq_false_iff_eq.mpr c32
                              clear c32
                              have H' := Aside0.mk H
                              clear H
                              go_wp2_with (first | ((with_reducible refine gate_callee (f := 20) rfl ?_); refine goesL_ (some 86) rfl rfl Tryd.func20 (by kernel_rfl) rfl #[.string t204] rfl (by (try simp only [List.map_toArray, List.map_cons, List.map_nil]); first | done | rfl | (simp only [List.length_drop, List.length_take]; rfl)) ?_; (with_reducible refine (pax_Time.calls kj23 t204 t206 t207 t208 _ ?side1 A29.out).mono ?_); (case side1 => exact Gv_below HG.out (by repeat (first | (with_reducible first | exact HB.out | apply below_alloc | apply pw_below_drewN | apply below_drew1) | exact HB.out))); rintro e w33 ⟨rfl, hb⟩; refine ⟨_, rfl, ?_⟩; have n0_ := Aside0.mk (below_step (by repeat (first | (with_reducible first | exact HB.out | apply below_alloc | apply pw_below_drewN | apply below_drew1) | exact HB.out)) hb); clear HB; have HB := n0_; clear n0_; (try clear hb); (try clear hb2); (try clear hk); (try clear hi)))
                              go_meet
                              case rel => exact ⟨_, H', ⟨by have := HJ7.out; have := HJ19.out; have := HJ23.out; first | omega | exact Nat.le_refl _⟩, ⟨by repeat (first | (with_reducible first | exact HB.out | apply below_alloc | apply pw_below_drewN | apply below_drew1) | exact HB.out)⟩⟩
                            · rw [if_neg c32] at H
                              have c32b0 : (t207 == a1) = false := beq_eq_false_iff_ne.mpr c32
                              have c32b1 : (t207 != a1) = true := bne_iff_ne.mpr c32
                              obtain rfl := Option.some.inj H
                              go_wp2_with (first | ((with_reducible refine gate_callee (f := 20) rfl ?_); refine goesL_ (some 86) rfl rfl Tryd.func20 (by kernel_rfl) rfl #[.string t204] rfl (by (try simp only [List.map_toArray, List.map_cons, List.map_nil]); first | done | rfl | (simp only [List.length_drop, List.length_take]; rfl)) ?_; (with_reducible refine (pax_Time.calls kj23 t204 t206 t207 t208 _ ?side1 A29.out).mono ?_); (case side1 => exact Gv_below HG.out (by repeat (first | (with_reducible first | exact HB.out | apply below_alloc | apply pw_below_drewN | apply below_drew1) | exact HB.out))); rintro e w34 ⟨rfl, hb⟩; refine ⟨_, rfl, ?_⟩; have n0_ := Aside0.mk (below_step (by repeat (first | (with_reducible first | exact HB.out | apply below_alloc | apply pw_below_drewN | apply below_drew1) | exact HB.out)) hb); clear HB; have HB := n0_; clear n0_; (try clear hb); (try clear hb2); (try clear hk); (try clear hi)))
                              go_ret
                              exact ⟨by first | rfl | (simp [errW_none, errW_some] <;> rfl) | (simp [*, errW_none, errW_some] <;> rfl), by repeat (first | (with_reducible first | exact HB.out | apply below_alloc | apply pw_below_drewN | apply below_drew1) | exact HB.out)⟩
                          · rw [if_neg c31] at H
                            have c31b0 : (t206 == a0) = false := beq_eq_false_iff_ne.mpr c31
                            have c31b1 : (t206 != a0) = true := bne_iff_ne.mpr c31
                            obtain rfl := Option.some.inj H
                            go_wp2_with (first | ((with_reducible refine gate_callee (f := 20) rfl ?_); refine goesL_ (some 86) rfl rfl Tryd.func20 (by kernel_rfl) rfl #[.string t204] rfl (by (try simp only [List.map_toArray, List.map_cons, List.map_nil]); first | done | rfl | (simp only [List.length_drop, List.length_take]; rfl)) ?_; (with_reducible refine (pax_Time.calls kj23 t204 t206 t207 t208 _ ?side1 A29.out).mono ?_); (case side1 => exact Gv_below HG.out (by repeat (first | (with_reducible first | exact HB.out | apply below_alloc | apply pw_below_drewN | apply below_drew1) | exact HB.out))); rintro e w35 ⟨rfl, hb⟩; refine ⟨_, rfl, ?_⟩; have n0_ := Aside0.mk (below_step (by repeat (first | (with_reducible first | exact HB.out | apply below_alloc | apply pw_below_drewN | apply below_drew1) | exact HB.out)) hb); clear HB; have HB := n0_; clear n0_; (try clear hb); (try clear hb2); (try clear hk); (try clear hi)))
                            go_ret
                            exact ⟨by first | rfl | (simp [errW_none, errW_some] <;> rfl) | (simp [*, errW_none, errW_some] <;> rfl), by repeat (first | (with_reducible first | exact HB.out | apply below_alloc | apply pw_below_drewN | apply below_drew1) | exact HB.out)⟩
                        · rw [if_neg c30] at H
                          have c30b0 : (t208 == 0) = false := beq_eq_false_iff_ne.mpr c30
                          have c30b1 : (t208 != 0) = true := bne_iff_ne.mpr c30
                          (first | rw [c30b0] | (simp only [i64_w, i32_w]; rw [c30b0]) | skip)
                          obtain rfl := Option.some.inj H
                          go_wp2_with (first | ((with_reducible refine gate_callee (f := 20) rfl ?_); refine goesL_ (some 86) rfl rfl Tryd.func20 (by kernel_rfl) rfl #[.string t204] rfl (by (try simp only [List.map_toArray, List.map_cons, List.map_nil]); first | done | rfl | (simp only [List.length_drop, List.length_take]; rfl)) ?_; (with_reducible refine (pax_Time.calls kj23 t204 t206 t207 t208 _ ?side1 A29.out).mono ?_); (case side1 => exact Gv_below HG.out (by repeat (first | (with_reducible first | exact HB.out | apply below_alloc | apply pw_below_drewN | apply below_drew1) | exact HB.out))); rintro e w36 ⟨rfl, hb⟩; refine ⟨_, rfl, ?_⟩; have n0_ := Aside0.mk (below_step (by repeat (first | (with_reducible first | exact HB.out | apply below_alloc | apply pw_below_drewN | apply below_drew1) | exact HB.out)) hb); clear HB; have HB := n0_; clear n0_; (try clear hb); (try clear hb2); (try clear hk); (try clear hi)))
                          go_ret
                          exact ⟨by first | rfl | (simp [errW_none, errW_some] <;> rfl) | (simp [*, errW_none, errW_some] <;> rfl), by repeat (first | (with_reducible first | exact HB.out | apply below_alloc | apply pw_below_drewN | apply below_drew1) | exact HB.out)⟩
                      · replace c28 := Bool.eq_false_iff.mpr c28
                        subst c28
                        have H1 : (satchellaw14_PaxTimes.j3 kj23 a2) = some r := by rw [if_neg (show ¬ (false = true) by decide)] at H; exact H
                        clear H
                        have H := H1
                        clear H1
                        have H' := Aside0.mk H
                        clear H
                        go_wp2
                        go_meet
                        case rel => exact ⟨_, H', ⟨by have := HJ7.out; have := HJ19.out; have := HJ23.out; first | omega | exact Nat.le_refl _⟩, ⟨by repeat (first | (with_reducible first | exact HB.out | apply below_alloc | apply pw_below_drewN | apply below_drew1) | exact HB.out)⟩⟩
                    case rest =>
                      clear HC27
                      try clear c1
                      try clear c2
                      try clear p2
                      try clear c3
                      try clear c5
                      try clear c8
                      try clear c12
                      try clear c12b0
                      try clear c13
                      try clear c13b0
                      try clear c13b1
                      try clear c14
                      try clear c14b0
                      try clear c14b1
                      try clear c15
                      try clear c15b0
                      try clear c15b1
                      try clear c16
                      try clear c16b0
                      try clear c17
                      try clear c17b0
                      try clear c18
                      try clear c20
                      try clear c22
                      try clear c22b0
                      try clear c23
                      try clear c24
                      try clear c25
                      try clear c25b0
                      try clear c25b1
                      try clear c26
                      try clear c26b0
                      try clear c28
                      try clear c30
                      try clear c30b0
                      try clear c30b1
                      try clear c31
                      try clear c31b0
                      try clear c31b1
                      try clear c32
                      try clear c32b0
                      try clear c32b1
                      try clear c35
                      try clear p2
                      obtain ⟨kq, HA, HJ26, HB⟩ := hcut
                      cases kq with
                      | zero => exact absurd HA.out (by simp [satchellaw14_PaxTimes.j3])
                      | succ kj26 =>
                        have H := HA.out
                        clear HA
                        simp only [satchellaw14_PaxTimes.j3] at H
                        replace H := Option.bind_eq_some_iff.mp H
                        obtain ⟨⟨t209, t210, t211⟩, A370, H⟩ := H
                        replace H : (if t211 = 0 then ((pax_PutTime.f kj26 t209 t210).bind fun bt212 => ((pax_Time.f kj26 bt212.1).bind fun bt214 => (if bt212.2 = 0 then (if bt214.2.2 = 0 then (if bt214.1 = t209 then (some (bt214.2.1 == t210)) else (some false)) else (some false)) else (some false)))) else (if t209 = 0 then (some (t210 == 0)) else (some false))) = some r := H
                        have A37 := Aside0.mk A370
                        clear A370
                        by_cases c38 : t211 = 0
                        · rw [if_pos c38] at H
                          have c38b0 : (t211 == 0) = true := beq_iff_eq.mpr c38
                          have c38b1 : (t211 != 0) = false := bne_eq_false_iff_eq.mpr c38
                          clear c38
                          replace H := Option.bind_eq_some_iff.mp H
                          obtain ⟨⟨t212, t213⟩, A390, H⟩ := H
                          replace H : ((pax_Time.f kj26 t212).bind fun bt214 => (if t213 = 0 then (if bt214.2.2 = 0 then (if bt214.1 = t209 then (some (bt214.2.1 == t210)) else (some false)) else (some false)) else (some false))) = some r := H
                          have A39 := Aside0.mk A390
                          clear A390
                          replace H := Option.bind_eq_some_iff.mp H
                          obtain ⟨⟨t214, t215, t216⟩, A400, H⟩ := H
                          replace H : (if t213 = 0 then (if t216 = 0 then (if t214 = t209 then (some (t215 == t210)) else (some false)) else (some false)) else (some false)) = some r := H
                          have A40 := Aside0.mk A400
                          clear A400
                          by_cases c41 : t213 = 0
                          · rw [if_pos c41] at H
                            have c41b0 : (t213 == 0) = true := beq_iff_eq.mpr c41
                            have c41b1 : (t213 != 0) = false := bne_eq_false_iff_eq.mpr c41
                            clear c41
                            by_cases c42 : t216 = 0
                            · rw [if_pos c42] at H
                              have c42b0 : (t216 == 0) = true := beq_iff_eq.mpr c42
                              have c42b1 : (t216 != 0) = false := bne_eq_false_iff_eq.mpr c42
                              clear c42
                              by_cases c43 : t214 = t209
                              · rw [if_pos c43] at H
                                have c43b0 : (t214 == t209) = true := beq_iff_eq.mpr c43
                                have c43b1 : (t214 != t209) = false := bne_eq_false_iff_eq.mpr c43
                                clear c43
                                obtain rfl := Option.some.inj H
                                go_wp2_with (first | ((with_reducible refine gate_callee (f := 20) rfl ?_); refine goesL_ (some 104) rfl rfl Tryd.func20 (by kernel_rfl) rfl #[.string a2] rfl (by (try simp only [List.map_toArray, List.map_cons, List.map_nil]); first | done | rfl | (simp only [List.length_drop, List.length_take]; rfl)) ?_; (with_reducible refine (pax_Time.calls kj26 a2 t209 t210 t211 _ ?side1 A37.out).mono ?_); (case side1 => exact Gv_below HG.out (by repeat (first | (with_reducible first | exact HB.out | apply below_alloc | apply pw_below_drewN | apply below_drew1) | exact HB.out))); rintro e w44 ⟨rfl, hb⟩; refine ⟨_, rfl, ?_⟩; have n0_ := Aside0.mk (below_step (by repeat (first | (with_reducible first | exact HB.out | apply below_alloc | apply pw_below_drewN | apply below_drew1) | exact HB.out)) hb); clear HB; have HB := n0_; clear n0_; (try clear hb); (try clear hb2); (try clear hk); (try clear hi)) | ((with_reducible refine gate_callee (f := 24) rfl ?_); refine goesL_ (some 119) rfl rfl Tryd.func24 (by kernel_rfl) rfl #[.int .i64 t209, .int .i32 t210] rfl (by (try simp only [List.map_toArray, List.map_cons, List.map_nil]); first | done | rfl | (simp only [List.length_drop, List.length_take]; rfl)) ?_; (with_reducible refine (pax_PutTime.calls kj26 t209 t210 t212 t213 _ ?side1 A39.out).mono ?_); (case side1 => exact Gv_below HG.out (by repeat (first | (with_reducible first | exact HB.out | apply below_alloc | apply pw_below_drewN | apply below_drew1) | exact HB.out))); rintro e w45 ⟨rfl, hb⟩; refine ⟨_, rfl, ?_⟩; have n0_ := Aside0.mk (below_step (by repeat (first | (with_reducible first | exact HB.out | apply below_alloc | apply pw_below_drewN | apply below_drew1) | exact HB.out)) hb); clear HB; have HB := n0_; clear n0_; (try clear hb); (try clear hb2); (try clear hk); (try clear hi)) | ((with_reducible refine gate_callee (f := 20) rfl ?_); refine goesL_ (some 124) rfl rfl Tryd.func20 (by kernel_rfl) rfl #[.string t212] rfl (by (try simp only [List.map_toArray, List.map_cons, List.map_nil]); first | done | rfl | (simp only [List.length_drop, List.length_take]; rfl)) ?_; (with_reducible refine (pax_Time.calls kj26 t212 t214 t215 t216 _ ?side1 A40.out).mono ?_); (case side1 => exact Gv_below HG.out (by repeat (first | (with_reducible first | exact HB.out | apply below_alloc | apply pw_below_drewN | apply below_drew1) | exact HB.out))); rintro e w46 ⟨rfl, hb⟩; refine ⟨_, rfl, ?_⟩; have n0_ := Aside0.mk (below_step (by repeat (first | (with_reducible first | exact HB.out | apply below_alloc | apply pw_below_drewN | apply below_drew1) | exact HB.out)) hb); clear HB; have HB := n0_; clear n0_; (try clear hb); (try clear hb2); (try clear hk); (try clear hi)))
                                go_ret
                                exact ⟨by first | rfl | (simp [errW_none, errW_some] <;> rfl) | (simp [*, errW_none, errW_some] <;> rfl), by repeat (first | (with_reducible first | exact HB.out | apply below_alloc | apply pw_below_drewN | apply below_drew1) | exact HB.out)⟩
                              · rw [if_neg c43] at H
                                have c43b0 : (t214 == t209) = false := beq_eq_false_iff_ne.mpr c43
                                have c43b1 : (t214 != t209) = true := bne_iff_ne.mpr c43
                                obtain rfl := Option.some.inj H
                                go_wp2_with (first | ((with_reducible refine gate_callee (f := 20) rfl ?_); refine goesL_ (some 104) rfl rfl Tryd.func20 (by kernel_rfl) rfl #[.string a2] rfl (by (try simp only [List.map_toArray, List.map_cons, List.map_nil]); first | done | rfl | (simp only [List.length_drop, List.length_take]; rfl)) ?_; (with_reducible refine (pax_Time.calls kj26 a2 t209 t210 t211 _ ?side1 A37.out).mono ?_); (case side1 => exact Gv_below HG.out (by repeat (first | (with_reducible first | exact HB.out | apply below_alloc | apply pw_below_drewN | apply below_drew1) | exact HB.out))); rintro e w47 ⟨rfl, hb⟩; refine ⟨_, rfl, ?_⟩; have n0_ := Aside0.mk (below_step (by repeat (first | (with_reducible first | exact HB.out | apply below_alloc | apply pw_below_drewN | apply below_drew1) | exact HB.out)) hb); clear HB; have HB := n0_; clear n0_; (try clear hb); (try clear hb2); (try clear hk); (try clear hi)) | ((with_reducible refine gate_callee (f := 24) rfl ?_); refine goesL_ (some 119) rfl rfl Tryd.func24 (by kernel_rfl) rfl #[.int .i64 t209, .int .i32 t210] rfl (by (try simp only [List.map_toArray, List.map_cons, List.map_nil]); first | done | rfl | (simp only [List.length_drop, List.length_take]; rfl)) ?_; (with_reducible refine (pax_PutTime.calls kj26 t209 t210 t212 t213 _ ?side1 A39.out).mono ?_); (case side1 => exact Gv_below HG.out (by repeat (first | (with_reducible first | exact HB.out | apply below_alloc | apply pw_below_drewN | apply below_drew1) | exact HB.out))); rintro e w48 ⟨rfl, hb⟩; refine ⟨_, rfl, ?_⟩; have n0_ := Aside0.mk (below_step (by repeat (first | (with_reducible first | exact HB.out | apply below_alloc | apply pw_below_drewN | apply below_drew1) | exact HB.out)) hb); clear HB; have HB := n0_; clear n0_; (try clear hb); (try clear hb2); (try clear hk); (try clear hi)) | ((with_reducible refine gate_callee (f := 20) rfl ?_); refine goesL_ (some 124) rfl rfl Tryd.func20 (by kernel_rfl) rfl #[.string t212] rfl (by (try simp only [List.map_toArray, List.map_cons, List.map_nil]); first | done | rfl | (simp only [List.length_drop, List.length_take]; rfl)) ?_; (with_reducible refine (pax_Time.calls kj26 t212 t214 t215 t216 _ ?side1 A40.out).mono ?_); (case side1 => exact Gv_below HG.out (by repeat (first | (with_reducible first | exact HB.out | apply below_alloc | apply pw_below_drewN | apply below_drew1) | exact HB.out))); rintro e w49 ⟨rfl, hb⟩; refine ⟨_, rfl, ?_⟩; have n0_ := Aside0.mk (below_step (by repeat (first | (with_reducible first | exact HB.out | apply below_alloc | apply pw_below_drewN | apply below_drew1) | exact HB.out)) hb); clear HB; have HB := n0_; clear n0_; (try clear hb); (try clear hb2); (try clear hk); (try clear hi)))
                                go_ret
                                exact ⟨by first | rfl | (simp [errW_none, errW_some] <;> rfl) | (simp [*, errW_none, errW_some] <;> rfl), by repeat (first | (with_reducible first | exact HB.out | apply below_alloc | apply pw_below_drewN | apply below_drew1) | exact HB.out)⟩
                            · rw [if_neg c42] at H
                              have c42b0 : (t216 == 0) = false := beq_eq_false_iff_ne.mpr c42
                              have c42b1 : (t216 != 0) = true := bne_iff_ne.mpr c42
                              obtain rfl := Option.some.inj H
                              go_wp2_with (first | ((with_reducible refine gate_callee (f := 20) rfl ?_); refine goesL_ (some 104) rfl rfl Tryd.func20 (by kernel_rfl) rfl #[.string a2] rfl (by (try simp only [List.map_toArray, List.map_cons, List.map_nil]); first | done | rfl | (simp only [List.length_drop, List.length_take]; rfl)) ?_; (with_reducible refine (pax_Time.calls kj26 a2 t209 t210 t211 _ ?side1 A37.out).mono ?_); (case side1 => exact Gv_below HG.out (by repeat (first | (with_reducible first | exact HB.out | apply below_alloc | apply pw_below_drewN | apply below_drew1) | exact HB.out))); rintro e w50 ⟨rfl, hb⟩; refine ⟨_, rfl, ?_⟩; have n0_ := Aside0.mk (below_step (by repeat (first | (with_reducible first | exact HB.out | apply below_alloc | apply pw_below_drewN | apply below_drew1) | exact HB.out)) hb); clear HB; have HB := n0_; clear n0_; (try clear hb); (try clear hb2); (try clear hk); (try clear hi)) | ((with_reducible refine gate_callee (f := 24) rfl ?_); refine goesL_ (some 119) rfl rfl Tryd.func24 (by kernel_rfl) rfl #[.int .i64 t209, .int .i32 t210] rfl (by (try simp only [List.map_toArray, List.map_cons, List.map_nil]); first | done | rfl | (simp only [List.length_drop, List.length_take]; rfl)) ?_; (with_reducible refine (pax_PutTime.calls kj26 t209 t210 t212 t213 _ ?side1 A39.out).mono ?_); (case side1 => exact Gv_below HG.out (by repeat (first | (with_reducible first | exact HB.out | apply below_alloc | apply pw_below_drewN | apply below_drew1) | exact HB.out))); rintro e w51 ⟨rfl, hb⟩; refine ⟨_, rfl, ?_⟩; have n0_ := Aside0.mk (below_step (by repeat (first | (with_reducible first | exact HB.out | apply below_alloc | apply pw_below_drewN | apply below_drew1) | exact HB.out)) hb); clear HB; have HB := n0_; clear n0_; (try clear hb); (try clear hb2); (try clear hk); (try clear hi)) | ((with_reducible refine gate_callee (f := 20) rfl ?_); refine goesL_ (some 124) rfl rfl Tryd.func20 (by kernel_rfl) rfl #[.string t212] rfl (by (try simp only [List.map_toArray, List.map_cons, List.map_nil]); first | done | rfl | (simp only [List.length_drop, List.length_take]; rfl)) ?_; (with_reducible refine (pax_Time.calls kj26 t212 t214 t215 t216 _ ?side1 A40.out).mono ?_); (case side1 => exact Gv_below HG.out (by repeat (first | (with_reducible first | exact HB.out | apply below_alloc | apply pw_below_drewN | apply below_drew1) | exact HB.out))); rintro e w52 ⟨rfl, hb⟩; refine ⟨_, rfl, ?_⟩; have n0_ := Aside0.mk (below_step (by repeat (first | (with_reducible first | exact HB.out | apply below_alloc | apply pw_below_drewN | apply below_drew1) | exact HB.out)) hb); clear HB; have HB := n0_; clear n0_; (try clear hb); (try clear hb2); (try clear hk); (try clear hi)))
                              go_ret
                              exact ⟨by first | rfl | (simp [errW_none, errW_some] <;> rfl) | (simp [*, errW_none, errW_some] <;> rfl), by repeat (first | (with_reducible first | exact HB.out | apply below_alloc | apply pw_below_drewN | apply below_drew1) | exact HB.out)⟩
                          · rw [if_neg c41] at H
                            have c41b0 : (t213 == 0) = false := beq_eq_false_iff_ne.mpr c41
                            have c41b1 : (t213 != 0) = true := bne_iff_ne.mpr c41
                            obtain rfl := Option.some.inj H
                            go_wp2_with (first | ((with_reducible refine gate_callee (f := 20) rfl ?_); refine goesL_ (some 104) rfl rfl Tryd.func20 (by kernel_rfl) rfl #[.string a2] rfl (by (try simp only [List.map_toArray, List.map_cons, List.map_nil]); first | done | rfl | (simp only [List.length_drop, List.length_take]; rfl)) ?_; (with_reducible refine (pax_Time.calls kj26 a2 t209 t210 t211 _ ?side1 A37.out).mono ?_); (case side1 => exact Gv_below HG.out (by repeat (first | (with_reducible first | exact HB.out | apply below_alloc | apply pw_below_drewN | apply below_drew1) | exact HB.out))); rintro e w53 ⟨rfl, hb⟩; refine ⟨_, rfl, ?_⟩; have n0_ := Aside0.mk (below_step (by repeat (first | (with_reducible first | exact HB.out | apply below_alloc | apply pw_below_drewN | apply below_drew1) | exact HB.out)) hb); clear HB; have HB := n0_; clear n0_; (try clear hb); (try clear hb2); (try clear hk); (try clear hi)) | ((with_reducible refine gate_callee (f := 24) rfl ?_); refine goesL_ (some 119) rfl rfl Tryd.func24 (by kernel_rfl) rfl #[.int .i64 t209, .int .i32 t210] rfl (by (try simp only [List.map_toArray, List.map_cons, List.map_nil]); first | done | rfl | (simp only [List.length_drop, List.length_take]; rfl)) ?_; (with_reducible refine (pax_PutTime.calls kj26 t209 t210 t212 t213 _ ?side1 A39.out).mono ?_); (case side1 => exact Gv_below HG.out (by repeat (first | (with_reducible first | exact HB.out | apply below_alloc | apply pw_below_drewN | apply below_drew1) | exact HB.out))); rintro e w54 ⟨rfl, hb⟩; refine ⟨_, rfl, ?_⟩; have n0_ := Aside0.mk (below_step (by repeat (first | (with_reducible first | exact HB.out | apply below_alloc | apply pw_below_drewN | apply below_drew1) | exact HB.out)) hb); clear HB; have HB := n0_; clear n0_; (try clear hb); (try clear hb2); (try clear hk); (try clear hi)) | ((with_reducible refine gate_callee (f := 20) rfl ?_); refine goesL_ (some 124) rfl rfl Tryd.func20 (by kernel_rfl) rfl #[.string t212] rfl (by (try simp only [List.map_toArray, List.map_cons, List.map_nil]); first | done | rfl | (simp only [List.length_drop, List.length_take]; rfl)) ?_; (with_reducible refine (pax_Time.calls kj26 t212 t214 t215 t216 _ ?side1 A40.out).mono ?_); (case side1 => exact Gv_below HG.out (by repeat (first | (with_reducible first | exact HB.out | apply below_alloc | apply pw_below_drewN | apply below_drew1) | exact HB.out))); rintro e w55 ⟨rfl, hb⟩; refine ⟨_, rfl, ?_⟩; have n0_ := Aside0.mk (below_step (by repeat (first | (with_reducible first | exact HB.out | apply below_alloc | apply pw_below_drewN | apply below_drew1) | exact HB.out)) hb); clear HB; have HB := n0_; clear n0_; (try clear hb); (try clear hb2); (try clear hk); (try clear hi)))
                            go_ret
                            exact ⟨by first | rfl | (simp [errW_none, errW_some] <;> rfl) | (simp [*, errW_none, errW_some] <;> rfl), by repeat (first | (with_reducible first | exact HB.out | apply below_alloc | apply pw_below_drewN | apply below_drew1) | exact HB.out)⟩
                        · rw [if_neg c38] at H
                          have c38b0 : (t211 == 0) = false := beq_eq_false_iff_ne.mpr c38
                          have c38b1 : (t211 != 0) = true := bne_iff_ne.mpr c38
                          by_cases c56 : t209 = 0
                          · rw [if_pos c56] at H
                            have c56b0 : (t209 == 0) = true := beq_iff_eq.mpr c56
                            have c56b1 : (t209 != 0) = false := bne_eq_false_iff_eq.mpr c56
                            clear c56
                            obtain rfl := Option.some.inj H
                            go_wp2_with (first | ((with_reducible refine gate_callee (f := 20) rfl ?_); refine goesL_ (some 104) rfl rfl Tryd.func20 (by kernel_rfl) rfl #[.string a2] rfl (by (try simp only [List.map_toArray, List.map_cons, List.map_nil]); first | done | rfl | (simp only [List.length_drop, List.length_take]; rfl)) ?_; (with_reducible refine (pax_Time.calls kj26 a2 t209 t210 t211 _ ?side1 A37.out).mono ?_); (case side1 => exact Gv_below HG.out (by repeat (first | (with_reducible first | exact HB.out | apply below_alloc | apply pw_below_drewN | apply below_drew1) | exact HB.out))); rintro e w57 ⟨rfl, hb⟩; refine ⟨_, rfl, ?_⟩; have n0_ := Aside0.mk (below_step (by repeat (first | (with_reducible first | exact HB.out | apply below_alloc | apply pw_below_drewN | apply below_drew1) | exact HB.out)) hb); clear HB; have HB := n0_; clear n0_; (try clear hb); (try clear hb2); (try clear hk); (try clear hi)))
                            go_ret
                            exact ⟨by first | rfl | (simp [errW_none, errW_some] <;> rfl) | (simp [*, errW_none, errW_some] <;> rfl), by repeat (first | (with_reducible first | exact HB.out | apply below_alloc | apply pw_below_drewN | apply below_drew1) | exact HB.out)⟩
                          · rw [if_neg c56] at H
                            have c56b0 : (t209 == 0) = false := beq_eq_false_iff_ne.mpr c56
                            have c56b1 : (t209 != 0) = true := bne_iff_ne.mpr c56
                            obtain rfl := Option.some.inj H
                            go_wp2_with (first | ((with_reducible refine gate_callee (f := 20) rfl ?_); refine goesL_ (some 104) rfl rfl Tryd.func20 (by kernel_rfl) rfl #[.string a2] rfl (by (try simp only [List.map_toArray, List.map_cons, List.map_nil]); first | done | rfl | (simp only [List.length_drop, List.length_take]; rfl)) ?_; (with_reducible refine (pax_Time.calls kj26 a2 t209 t210 t211 _ ?side1 A37.out).mono ?_); (case side1 => exact Gv_below HG.out (by repeat (first | (with_reducible first | exact HB.out | apply below_alloc | apply pw_below_drewN | apply below_drew1) | exact HB.out))); rintro e w58 ⟨rfl, hb⟩; refine ⟨_, rfl, ?_⟩; have n0_ := Aside0.mk (below_step (by repeat (first | (with_reducible first | exact HB.out | apply below_alloc | apply pw_below_drewN | apply below_drew1) | exact HB.out)) hb); clear HB; have HB := n0_; clear n0_; (try clear hb); (try clear hb2); (try clear hk); (try clear hi)))
                            go_ret
                            exact ⟨by first | rfl | (simp [errW_none, errW_some] <;> rfl) | (simp [*, errW_none, errW_some] <;> rfl), by repeat (first | (with_reducible first | exact HB.out | apply below_alloc | apply pw_below_drewN | apply below_drew1) | exact HB.out)⟩
  · replace c5 := Bool.eq_false_iff.mpr c5
    subst c5
    have H1 : (some false) = some r := by rw [if_neg (show ¬ (false = true) by decide)] at H; exact H
    clear H
    have H := H1
    clear H1
    obtain rfl := Option.some.inj H
    go_enter Tryd.func8, Tryd.ntmps8
    go_wp2_with (first | ((with_reducible refine gate_callee (f := 35) rfl ?_); refine goesL_ (some 24) rfl rfl Tryd.func35 (by kernel_rfl) rfl #[] rfl (by (try simp only [List.map_toArray, List.map_cons, List.map_nil]); first | done | rfl | (simp only [List.length_drop, List.length_take]; rfl)) ?_; (with_reducible refine (satchellaw14_lives.calls k  false _ ?side1 A4.out).mono ?_); (case side1 => exact Gv_below HG.out (by repeat (first | (with_reducible first | exact HB.out | apply below_alloc | apply pw_below_drewN | apply below_drew1) | exact HB.out))); rintro e w59 ⟨rfl, hb⟩; refine ⟨_, rfl, ?_⟩; have n0_ := Aside0.mk (below_step (by repeat (first | (with_reducible first | exact HB.out | apply below_alloc | apply pw_below_drewN | apply below_drew1) | exact HB.out)) hb); clear HB; have HB := n0_; clear n0_; (try clear hb); (try clear hb2); (try clear hk); (try clear hi)))
    go_ret
    exact ⟨by first | rfl | (simp [errW_none, errW_some] <;> rfl) | (simp [*, errW_none, errW_some] <;> rfl), by repeat (first | (with_reducible first | exact HB.out | apply below_alloc | apply pw_below_drewN | apply below_drew1) | exact HB.out)⟩

/-- THE ONE PURE STATEMENT of satchellaw14_PaxTimes: yours. -/
def satchellaw14_PaxTimes.Pure : Prop := ∀ (a0 : Int) (a1 : Int) (a2 : ByteArray), (Lit.int .i64 a0).wf = true → (Lit.int .i32 a1).wf = true → a2.size ≤ 140737488351232 → ∃ k, satchellaw14_PaxTimes.f k a0 a1 a2 = some true
theorem satchellaw14_PaxTimes.walk (P : satchellaw14_PaxTimes.Pure) (a0 : Int) (a1 : Int) (a2 : ByteArray) (w : World) (hG : Gv w) (w0 : (Lit.int .i64 a0).wf = true) (w1 : (Lit.int .i32 a1).wf = true) (w2 : a2.size ≤ 140737488351232) :
    Calls Tryd.prog 8 #[.int .i64 a0, .int .i32 a1, .string a2] w fun e w' => e = .returned (.bool true) ∧ Below w.heap.size w w' := by
  obtain ⟨k, h⟩ := P a0 a1 a2 w0 w1 w2
  refine (satchellaw14_PaxTimes.calls k a0 a1 a2 true w hG h).mono ?_
  rintro e w' ⟨rfl, hd⟩
  exact ⟨rfl, hd⟩

end Go.Proofs.YtohgoaiimhhckaaDoor.PPaxTimes
