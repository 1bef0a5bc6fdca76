-- WRITTEN BY wip/xprint.py, a program of the proving session round the kit's print.py; Lean checks it.
import Derived.Test.YtohgoaiimhhckaaPPaxParsesx0
import Derived.Test.YtohgoaiimhhckaaPPaxParsesx7
import Derived.Test.YtohgoaiimhhckaaPPaxParsesx12
import Derived.Test.YtohgoaiimhhckaaPPaxParsesx13
import Derived.Test.YtohgoaiimhhckaaPPaxParsesx14
namespace Go.Proofs.Ytohgoaiimhhckaa.PPaxParses
open Go.Proofs.YtohgoaiimhhckaaX
open Go.RowKit Go.Proofs.YtohgoaiimhhckaaW.PrintWords Go.Proofs.YtohgoaiimhhckaaW.PrintLast Go.Proofs.YtohgoaiimhhckaaW.PrintMore
attribute [local go_sem] max2_int min2_int max_two min_two max_three min_three max_four min_four   -- for this text's walks alone
set_option linter.unusedVariables false
set_option linter.unusedSimpArgs false

/-! ### satchellaw14_PaxParses: function 3 -/
mutual
def satchellaw14_PaxParses.j0 : Nat → List Int → List (S30) → List (S30) → List (S30) → Bool → Option (Bool)
  | 0, _, _, _, _, _ => none
  | k + 1, x3, x4, x7, x10, x57 => if x57 = true then (some false) else (satchellaw14_PaxParses.l0 k x3 x4 x7 x10 0)
def satchellaw14_PaxParses.l0 : Nat → List Int → List (S30) → List (S30) → List (S30) → Int → Option (Bool)
  | 0, _, _, _, _, _ => none
  | k + 1, x3, x4, x7, x10, x13 => if x13 < (x3.length : Int) then (if 0 ≤ x13 then (satchellaw14_PaxParses.l0 k (x3.set (x13 : Int).toNat 238) x4 x7 x10 (wrap64 (x13 + 1))) else (none)) else ((satchellaw14_wiped.f k x4 x10).bind fun t198 => (if t198 = true then ((satchellaw14_same.f k x7 x10).bind fun t199 => (some t199)) else (some false)))
end
def satchellaw14_PaxParses.f (k : Nat) (l0 : List Int) : Option (Bool) := (some (([] : List Int) : List Int)).bind fun y165 => (if y165.length + l0.length < 140737488355328 then ((some (y165 ++ l0 : List Int)).bind fun y168 => (if y168.length + 7 < 140737488355328 then ((some (y168 ++ bytesOf (⟨#[57, 32, 120, 61, 121, 10, 33]⟩ : ByteArray) : List Int)).bind fun y171 => (if 0 ≤ (l0.length : Int) then (if (l0.length : Int) ≤ (y171.length : Int) then ((some (y171.take ((l0.length : Int) : Int).toNat : List Int)).bind fun y174 => ((pax_Parse.f k y174).bind fun bt178 => ((pax_Parse.f k y174).bind fun bt187 => ((satchelref14_Parse.f k l0).bind fun bt192 => (if (strOfNums l0).size + 7 ≤ 9223372036854775807 then (if (strOfNums y171).toList = ((strOfNums l0) ++ (⟨#[57, 32, 120, 61, 121, 10, 33]⟩ : ByteArray)).toList then (if bt178.2.1 = bt192.2.1 then (satchellaw14_PaxParses.j0 k y171 bt178.1 bt187.1 bt192.1 (bt178.2.2 != bt192.2.2)) else (satchellaw14_PaxParses.j0 k y171 bt178.1 bt187.1 bt192.1 true)) else (satchellaw14_PaxParses.j0 k y171 bt178.1 bt187.1 bt192.1 true)) else (none)))))) else (none)) else (none))) else (none))) else (none))
theorem satchellaw14_PaxParses.mono_l : ∀ k, (∀ y0 y1 y2 y3 y4, LeO (satchellaw14_PaxParses.j0 k y0 y1 y2 y3 y4) (satchellaw14_PaxParses.j0 (k + 1) y0 y1 y2 y3 y4)) ∧ (∀ y0 y1 y2 y3 y4, LeO (satchellaw14_PaxParses.l0 k y0 y1 y2 y3 y4) (satchellaw14_PaxParses.l0 (k + 1) y0 y1 y2 y3 y4))
  | 0 => ⟨fun _ _ _ _ _ r h => by simp [satchellaw14_PaxParses.j0] at h, fun _ _ _ _ _ r h => by simp [satchellaw14_PaxParses.l0] at h⟩
  | k + 1 => by
    obtain ⟨ih0, ih1⟩ := satchellaw14_PaxParses.mono_l k
    refine ⟨?_, ?_⟩
    · intro y0 y1 y2 y3 y4
      unfold satchellaw14_PaxParses.j0
      repeat' first
      | (with_reducible exact ih0 _ _ _ _ _)
      | (with_reducible exact ih1 _ _ _ _ _)
      | (with_reducible exact pax_Parse.mono _ _)
      | (with_reducible exact satchellaw14_same.mono _ _ _)
      | (with_reducible exact satchellaw14_wiped.mono _ _ _)
      | (with_reducible exact satchelref14_Parse.mono _ _)
      | (with_reducible exact LeO.refl _)
      | (with_reducible exact LeO.none _)
      | (with_reducible refine LeO.ite ?_ ?_)
      | (with_reducible refine LeO.bind ?_ (fun _ => ?_))
      | exact ih0 _ _ _ _ _
      | exact ih1 _ _ _ _ _
      | exact pax_Parse.mono _ _
      | exact satchellaw14_same.mono _ _ _
      | exact satchellaw14_wiped.mono _ _ _
      | exact satchelref14_Parse.mono _ _
      | exact LeO.none _
      | refine LeO.ite ?_ ?_
      | refine LeO.bind ?_ (fun _ => ?_)
    · intro y0 y1 y2 y3 y4
      unfold satchellaw14_PaxParses.l0
      repeat' first
      | (with_reducible exact ih0 _ _ _ _ _)
      | (with_reducible exact ih1 _ _ _ _ _)
      | (with_reducible exact pax_Parse.mono _ _)
      | (with_reducible exact satchellaw14_same.mono _ _ _)
      | (with_reducible exact satchellaw14_wiped.mono _ _ _)
      | (with_reducible exact satchelref14_Parse.mono _ _)
      | (with_reducible exact LeO.refl _)
      | (with_reducible exact LeO.none _)
      | (with_reducible refine LeO.ite ?_ ?_)
      | (with_reducible refine LeO.bind ?_ (fun _ => ?_))
      | exact ih0 _ _ _ _ _
      | exact ih1 _ _ _ _ _
      | exact pax_Parse.mono _ _
      | exact satchellaw14_same.mono _ _ _
      | exact satchellaw14_wiped.mono _ _ _
      | exact satchelref14_Parse.mono _ _
      | exact LeO.none _
      | refine LeO.ite ?_ ?_
      | refine LeO.bind ?_ (fun _ => ?_)
theorem satchellaw14_PaxParses.mono : ∀ a0 k, LeO (satchellaw14_PaxParses.f k a0) (satchellaw14_PaxParses.f (k + 1) a0) := by
  intro a0 k
  obtain ⟨ih0, ih1⟩ := satchellaw14_PaxParses.mono_l k
  unfold satchellaw14_PaxParses.f
  repeat' first
      | (with_reducible exact ih0 _ _ _ _ _)
      | (with_reducible exact ih1 _ _ _ _ _)
      | (with_reducible exact pax_Parse.mono _ _)
      | (with_reducible exact satchellaw14_same.mono _ _ _)
      | (with_reducible exact satchellaw14_wiped.mono _ _ _)
      | (with_reducible exact satchelref14_Parse.mono _ _)
      | (with_reducible exact LeO.refl _)
      | (with_reducible exact LeO.none _)
      | (with_reducible refine LeO.ite ?_ ?_)
      | (with_reducible refine LeO.bind ?_ (fun _ => ?_))
      | exact ih0 _ _ _ _ _
      | exact ih1 _ _ _ _ _
      | exact pax_Parse.mono _ _
      | exact satchellaw14_same.mono _ _ _
      | exact satchellaw14_wiped.mono _ _ _
      | exact satchelref14_Parse.mono _ _
      | exact LeO.none _
      | refine LeO.ite ?_ ?_
      | refine LeO.bind ?_ (fun _ => ?_)
set_option maxHeartbeats 8000000 in
set_option maxRecDepth 100000 in
theorem satchellaw14_PaxParses.calls (k : Nat) (A0 : Option Addr) (c0 : Nat) (l0 : List Int) (r : Bool) (w : World) (hr0 : Kd.C (Kd.int .u8) w A0 l0.length l0) (hc0 : l0.length ≤ c0) (h : satchellaw14_PaxParses.f k l0 = some r) :
    Calls Try.prog 3 #[.slice A0 l0.length c0] w fun e w' => e = .returned (.bool r) ∧ Below w.heap.size w w' := by
  have HR0 := Aside0.mk hr0
  have HC0 := Aside0.mk hc0
  clear hr0 hc0
  have HB := Aside0.mk (Below.refl w.heap.size w)
  have H : ((some (([] : List Int) : List Int)).bind fun y165 => (if y165.length + l0.length < 140737488355328 then ((some (y165 ++ l0 : List Int)).bind fun y168 => (if y168.length + 7 < 140737488355328 then ((some (y168 ++ bytesOf (⟨#[57, 32, 120, 61, 121, 10, 33]⟩ : ByteArray) : List Int)).bind fun y171 => (if 0 ≤ (l0.length : Int) then (if (l0.length : Int) ≤ (y171.length : Int) then ((some (y171.take ((l0.length : Int) : Int).toNat : List Int)).bind fun y174 => ((pax_Parse.f k y174).bind fun bt178 => ((pax_Parse.f k y174).bind fun bt187 => ((satchelref14_Parse.f k l0).bind fun bt192 => (if (strOfNums l0).size + 7 ≤ 9223372036854775807 then (if (strOfNums y171).toList = ((strOfNums l0) ++ (⟨#[57, 32, 120, 61, 121, 10, 33]⟩ : ByteArray)).toList then (if bt178.2.1 = bt192.2.1 then (satchellaw14_PaxParses.j0 k y171 bt178.1 bt187.1 bt192.1 (bt178.2.2 != bt192.2.2)) else (satchellaw14_PaxParses.j0 k y171 bt178.1 bt187.1 bt192.1 true)) else (satchellaw14_PaxParses.j0 k y171 bt178.1 bt187.1 bt192.1 true)) else (none)))))) else (none)) else (none))) else (none))) else (none))) = some r := h
  clear h
  obtain ⟨y165, hy165⟩ : ∃ y_ : List Int, y_ = (([] : List Int)) := ⟨_, rfl⟩
  replace H : (if y165.length + l0.length < 140737488355328 then ((some (y165 ++ l0 : List Int)).bind fun y168 => (if y168.length + 7 < 140737488355328 then ((some (y168 ++ bytesOf (⟨#[57, 32, 120, 61, 121, 10, 33]⟩ : ByteArray) : List Int)).bind fun y171 => (if 0 ≤ (l0.length : Int) then (if (l0.length : Int) ≤ (y171.length : Int) then ((some (y171.take ((l0.length : Int) : Int).toNat : List Int)).bind fun y174 => ((pax_Parse.f k y174).bind fun bt178 => ((pax_Parse.f k y174).bind fun bt187 => ((satchelref14_Parse.f k l0).bind fun bt192 => (if (strOfNums l0).size + 7 ≤ 9223372036854775807 then (if (strOfNums y171).toList = ((strOfNums l0) ++ (⟨#[57, 32, 120, 61, 121, 10, 33]⟩ : ByteArray)).toList then (if bt178.2.1 = bt192.2.1 then (satchellaw14_PaxParses.j0 k y171 bt178.1 bt187.1 bt192.1 (bt178.2.2 != bt192.2.2)) else (satchellaw14_PaxParses.j0 k y171 bt178.1 bt187.1 bt192.1 true)) else (satchellaw14_PaxParses.j0 k y171 bt178.1 bt187.1 bt192.1 true)) else (none)))))) else (none)) else (none))) else (none))) else (none)) = some r := by first | (rw [hy165]; with_reducible exact H) | (have H2_ := (Option.bind_some _ _).symm.trans H; rw [hy165]; with_reducible exact H2_) | (have H2_ := (Option.bind_some _ _).symm.trans H; with_reducible exact H2_) | with_reducible exact H | (rw [hy165]; exact H) | exact H
  have Ny165 := Aside0.mk hy165
  clear hy165
  by_cases c2 : y165.length + l0.length < 140737488355328
  · rw [if_pos c2] at H
    have LMc2 := Aside0.mk c2
    clear c2
    obtain ⟨y168, hy168⟩ : ∃ y_ : List Int, y_ = (y165 ++ l0) := ⟨_, rfl⟩
    replace H : (if y168.length + 7 < 140737488355328 then ((some (y168 ++ bytesOf (⟨#[57, 32, 120, 61, 121, 10, 33]⟩ : ByteArray) : List Int)).bind fun y171 => (if 0 ≤ (l0.length : Int) then (if (l0.length : Int) ≤ (y171.length : Int) then ((some (y171.take ((l0.length : Int) : Int).toNat : List Int)).bind fun y174 => ((pax_Parse.f k y174).bind fun bt178 => ((pax_Parse.f k y174).bind fun bt187 => ((satchelref14_Parse.f k l0).bind fun bt192 => (if (strOfNums l0).size + 7 ≤ 9223372036854775807 then (if (strOfNums y171).toList = ((strOfNums l0) ++ (⟨#[57, 32, 120, 61, 121, 10, 33]⟩ : ByteArray)).toList then (if bt178.2.1 = bt192.2.1 then (satchellaw14_PaxParses.j0 k y171 bt178.1 bt187.1 bt192.1 (bt178.2.2 != bt192.2.2)) else (satchellaw14_PaxParses.j0 k y171 bt178.1 bt187.1 bt192.1 true)) else (satchellaw14_PaxParses.j0 k y171 bt178.1 bt187.1 bt192.1 true)) else (none)))))) else (none)) else (none))) else (none)) = some r := by first | (rw [hy168]; with_reducible exact H) | (have H2_ := (Option.bind_some _ _).symm.trans H; rw [hy168]; with_reducible exact H2_) | (have H2_ := (Option.bind_some _ _).symm.trans H; with_reducible exact H2_) | with_reducible exact H | (rw [hy168]; exact H) | exact H
    have Ny168 := Aside0.mk hy168
    clear hy168
    by_cases c3 : y168.length + 7 < 140737488355328
    · rw [if_pos c3] at H
      have LMc3 := Aside0.mk c3
      clear c3
      obtain ⟨y171, hy171⟩ : ∃ y_ : List Int, y_ = (y168 ++ bytesOf (⟨#[57, 32, 120, 61, 121, 10, 33]⟩ : ByteArray)) := ⟨_, rfl⟩
      replace H : (if 0 ≤ (l0.length : Int) then (if (l0.length : Int) ≤ (y171.length : Int) then ((some (y171.take ((l0.length : Int) : Int).toNat : List Int)).bind fun y174 => ((pax_Parse.f k y174).bind fun bt178 => ((pax_Parse.f k y174).bind fun bt187 => ((satchelref14_Parse.f k l0).bind fun bt192 => (if (strOfNums l0).size + 7 ≤ 9223372036854775807 then (if (strOfNums y171).toList = ((strOfNums l0) ++ (⟨#[57, 32, 120, 61, 121, 10, 33]⟩ : ByteArray)).toList then (if bt178.2.1 = bt192.2.1 then (satchellaw14_PaxParses.j0 k y171 bt178.1 bt187.1 bt192.1 (bt178.2.2 != bt192.2.2)) else (satchellaw14_PaxParses.j0 k y171 bt178.1 bt187.1 bt192.1 true)) else (satchellaw14_PaxParses.j0 k y171 bt178.1 bt187.1 bt192.1 true)) else (none)))))) else (none)) else (none)) = some r := by first | (rw [hy171]; with_reducible exact H) | (have H2_ := (Option.bind_some _ _).symm.trans H; rw [hy171]; with_reducible exact H2_) | (have H2_ := (Option.bind_some _ _).symm.trans H; with_reducible exact H2_) | with_reducible exact H | (rw [hy171]; exact H) | exact H
      have Ny171 := Aside0.mk hy171
      clear hy171
      by_cases c4 : 0 ≤ (l0.length : Int)
      · rw [if_pos c4] at H
        have c4b0 := eq_true c4
        have c4b1 : decide (0 ≤ (l0.length : Int)) = true := decide_eq_true c4
        clear c4
        by_cases c5 : (l0.length : Int) ≤ (y171.length : Int)
        · rw [if_pos c5] at H
          have c5b0 := eq_true c5
          have c5b1 : decide ((l0.length : Int) ≤ (y171.length : Int)) = true := decide_eq_true c5
          clear c5
          obtain ⟨y174, hy174⟩ : ∃ y_ : List Int, y_ = (y171.take ((l0.length : Int) : Int).toNat) := ⟨_, rfl⟩
          replace H : ((pax_Parse.f k y174).bind fun bt178 => ((pax_Parse.f k y174).bind fun bt187 => ((satchelref14_Parse.f k l0).bind fun bt192 => (if (strOfNums l0).size + 7 ≤ 9223372036854775807 then (if (strOfNums y171).toList = ((strOfNums l0) ++ (⟨#[57, 32, 120, 61, 121, 10, 33]⟩ : ByteArray)).toList then (if bt178.2.1 = bt192.2.1 then (satchellaw14_PaxParses.j0 k y171 bt178.1 bt187.1 bt192.1 (bt178.2.2 != bt192.2.2)) else (satchellaw14_PaxParses.j0 k y171 bt178.1 bt187.1 bt192.1 true)) else (satchellaw14_PaxParses.j0 k y171 bt178.1 bt187.1 bt192.1 true)) else (none))))) = some r := by first | (rw [hy174]; with_reducible exact H) | (have H2_ := (Option.bind_some _ _).symm.trans H; rw [hy174]; with_reducible exact H2_) | (have H2_ := (Option.bind_some _ _).symm.trans H; with_reducible exact H2_) | with_reducible exact H | (rw [hy174]; exact H) | exact H
          have Ny174 := Aside0.mk hy174
          clear hy174
          replace H := Option.bind_eq_some_iff.mp H
          obtain ⟨⟨t178, t179, t180⟩, A60, H⟩ := H
          replace H : ((pax_Parse.f k y174).bind fun bt187 => ((satchelref14_Parse.f k l0).bind fun bt192 => (if (strOfNums l0).size + 7 ≤ 9223372036854775807 then (if (strOfNums y171).toList = ((strOfNums l0) ++ (⟨#[57, 32, 120, 61, 121, 10, 33]⟩ : ByteArray)).toList then (if t179 = bt192.2.1 then (satchellaw14_PaxParses.j0 k y171 t178 bt187.1 bt192.1 (t180 != bt192.2.2)) else (satchellaw14_PaxParses.j0 k y171 t178 bt187.1 bt192.1 true)) else (satchellaw14_PaxParses.j0 k y171 t178 bt187.1 bt192.1 true)) else (none)))) = some r := H
          have A6 := Aside0.mk A60
          clear A60
          replace H := Option.bind_eq_some_iff.mp H
          obtain ⟨⟨t187, t188, t189⟩, A70, H⟩ := H
          replace H : ((satchelref14_Parse.f k l0).bind fun bt192 => (if (strOfNums l0).size + 7 ≤ 9223372036854775807 then (if (strOfNums y171).toList = ((strOfNums l0) ++ (⟨#[57, 32, 120, 61, 121, 10, 33]⟩ : ByteArray)).toList then (if t179 = bt192.2.1 then (satchellaw14_PaxParses.j0 k y171 t178 t187 bt192.1 (t180 != bt192.2.2)) else (satchellaw14_PaxParses.j0 k y171 t178 t187 bt192.1 true)) else (satchellaw14_PaxParses.j0 k y171 t178 t187 bt192.1 true)) else (none))) = some r := H
          have A7 := Aside0.mk A70
          clear A70
          replace H := Option.bind_eq_some_iff.mp H
          obtain ⟨⟨t192, t193, t194⟩, A80, H⟩ := H
          replace H : (if (strOfNums l0).size + 7 ≤ 9223372036854775807 then (if (strOfNums y171).toList = ((strOfNums l0) ++ (⟨#[57, 32, 120, 61, 121, 10, 33]⟩ : ByteArray)).toList then (if t179 = t193 then (satchellaw14_PaxParses.j0 k y171 t178 t187 t192 (t180 != t194)) else (satchellaw14_PaxParses.j0 k y171 t178 t187 t192 true)) else (satchellaw14_PaxParses.j0 k y171 t178 t187 t192 true)) else (none)) = some r := H
          have A8 := Aside0.mk A80
          clear A80
          have HC9 := Aside0.mk H
          clear H
          go_enter Try.func3, Try.ntmps3
          go_upto_region 5 with (first | ((with_reducible refine gate_dst (N := 14) rfl ?_); refine Kd.R_lit (Kd.int .u8) _ 5 ?hg (N := 14) ?hd (xs := ([] : List Int)) (inner := []) (ok := fun _ => True) (okp := fun _ => True) ?hr ?hp (fun _ hk => hk) trivial (Below.refl _ _) (Nat.le_refl _) (by simp) ?_; (case hd => rfl); (case hg => rfl); (case hr => first | (go_simp; done) | (go_simp; rfl)); (case hp => exact (Reps.none _ _)); intro v166 w10 ho11 hb hg_ hnew_; clear hg_ hnew_; (first | rw [← Ny165.out] at ho11 | (simp only [Int.reduceToNat] at ho11; rw [← Ny165.out] at ho11)); have n0_ := Aside0.mk (Kd.R_lower ho11 (below_size (by repeat (first | (with_reducible first | exact HB.out | apply below_alloc | apply pw_below_drewN | apply below_drew1) | exact HB.out)))); have n1_ := Aside0.mk (below_step (by repeat (first | (with_reducible first | exact HB.out | apply below_alloc | apply pw_below_drewN | apply below_drew1) | exact HB.out)) hb); clear HB; have HO167 := n0_; have HB := n1_; clear n0_ n1_; clear hb ho11) | ((with_reducible refine gate_builtin (b := .append) (xs := #[.tmp 14, .tmp 15]) rfl ?_); at_builtin; refine Kd.R_append_rows (Kd.int .u8) (w0 := w) w.heap.size rfl (.tmp 14) (.tmp 15) 22 5 (.int .u8 0) 1 rfl Try.underlying22 info5 rfl (by decide) (by omega) v166 y165 l0 _ _ _ (fun _ => True) (fun _ => False) rfl rfl ?aO ?aR (fun _ _ h => h) (fun _ h => h.elim) ?aF ?aB ?aS ?aL ?_; (case aR => repeat (first | exact (Kd.C_below HR0.out HB.out) | (with_reducible refine Kd.C_alloc ?_ _) | (with_reducible refine Kd.C_drewN ?_ _) | (with_reducible refine Kd.C_drew ?_))); (case aB => exact (by repeat (first | (with_reducible first | exact HB.out | apply below_alloc | apply pw_below_drewN | apply below_drew1) | exact HB.out))); (case aF => exact (fun _ _ => trivial)); (case aO => exact (by (with_reducible repeat (first | apply Kd.R_alloc | apply Kd.R_drewN | apply Kd.R_drew)); exact HO167.out)); (case aS => exact (below_size (by repeat (first | (with_reducible first | exact HB.out | apply below_alloc | apply pw_below_drewN | apply below_drew1) | exact HB.out)))); (case aL => have := LMc2.out; omega); intro v169 w12 ho hb hg hat; rw [← Ny168.out] at ho; have n0_ := Aside0.mk (hb); have n1_ := Aside0.mk (ho); clear HB; clear HO167; have HB := n0_; have HO170 := n1_; clear n0_ n1_; clear ho hb hg hat) | (at_builtin; refine print_append_str (w0 := w) w.heap.size rfl (.tmp 16) _ 22 9 5 rfl Try.underlying22 Try.underlying9 info5 v169 y168 (⟨#[57, 32, 120, 61, 121, 10, 33]⟩ : ByteArray) rfl rfl ?aO ?aB ?aS ?aL ?_; (case aB => exact (by repeat (first | (with_reducible first | exact HB.out | apply below_alloc | apply pw_below_drewN | apply below_drew1) | exact HB.out))); (case aO => exact (Kd.own_of_R (by (with_reducible repeat (first | apply Kd.R_alloc | apply Kd.R_drewN | apply Kd.R_drew)); exact HO170.out))); (case aS => exact (below_size (by repeat (first | (with_reducible first | exact HB.out | apply below_alloc | apply pw_below_drewN | apply below_drew1) | exact HB.out)))); (case aL => have hz_ : (⟨#[57, 32, 120, 61, 121, 10, 33]⟩ : ByteArray).size = 7 := rfl; rw [hz_]; have := LMc3.out; omega); intro v172 w13 ho0 hb hg; have ho := Kd.R_of_own (h1 := fun _ => rfl) (ok := fun _ => True) ho0 (fun _ _ => trivial); clear ho0; have hat := True.intro; rw [← Ny171.out] at ho; change Kd.R (Kd.int .u8) 5 w13 w.heap.size (fun _ => True) v172 y171 at ho; have n0_ := Aside0.mk (hb); have n1_ := Aside0.mk (ho); clear HB; clear HO170; have HB := n0_; have HO173 := n1_; clear n0_ n1_; clear ho hb hg hat; obtain ⟨Ao15, co15, eo15⟩ := Kd.R_slice HO173.out; subst eo15; have q14 : ((l0.length : Int) : Int) ≤ ((y171.length : Int) : Int) := of_decide_eq_true (by first | (with_reducible assumption) | assumption); obtain ⟨i014, hi014, _, hsz14, _⟩ := info_parts info5; have hroom14 : y171.length ≤ co15 := (Kd.R_reads' HO173.out).2.1; have hC14 : Kd.C (Kd.int .u8) _ Ao15 y171.length y171 := (Kd.R_reads' HO173.out).2.2; have hcut14 := cut_to (P := Try.prog) 22 5 .i64 Try.underlying22 hi014 Ao15 y171.length co15 (l0.length : Int) (of_decide_eq_true (by first | (with_reducible assumption) | assumption)) q14 hroom14; have hr14 := Kd.C_take (m := ((l0.length : Int) : Int).toNat) hC14 (by omega); have hy14 : y174.length = ((l0.length : Int) : Int).toNat := (by rw [Ny174.out, List.length_take]; omega); rw [← Ny174.out] at hr14; rw [← hy14] at hcut14; have HR177 := Aside0.mk hr14; have HC177 := Aside0.mk (show y174.length ≤ co15 from by omega); clear hr14 hC14 hroom14 hi014 hsz14; have KY14 := Aside0.mk hy14; clear hy14; have KL14 := Aside0.mk (show ((l0.length : Int) : Int).toNat ≤ y171.length from by omega); replace q14 := eq_true q14) | ((with_reducible refine gate_callee (f := 4) rfl ?_); refine goesL_ (some 23) rfl rfl Try.func4 (by kernel_rfl) rfl #[.slice Ao15 y174.length co15] rfl (by (try simp only [List.map_toArray, List.map_cons, List.map_nil]); first | done | rfl | (simp only [List.length_drop, List.length_take]; rfl)) ?_; (with_reducible refine (pax_Parse.calls k _ _ y174 t178 t179 t180 _ ?side1 ?side2 A6.out).mono ?_); (case side1 => repeat (first | exact (by repeat (first | (with_reducible exact HR177.out) | (with_reducible refine Kd.C_alloc ?_ _) | (with_reducible refine Kd.C_drewN ?_ _) | (with_reducible refine Kd.C_drew ?_) | exact HR177.out)) | (with_reducible refine Kd.C_alloc ?_ _) | (with_reducible refine Kd.C_drewN ?_ _) | (with_reducible refine Kd.C_drew ?_))); (case side2 => exact HC177.out); rintro e w16 ⟨v181, rfl, ho0, hb⟩; refine ⟨_, rfl, ?_⟩; have n0_ := Aside0.mk (Kd.R_below (by (with_reducible repeat (first | apply Kd.R_alloc | apply Kd.R_drewN | apply Kd.R_drew)); exact HO173.out) hb); have n1_ := Aside0.mk (Kd.R_lower ho0 (below_size (by repeat (first | (with_reducible first | exact HB.out | apply below_alloc | apply pw_below_drewN | apply below_drew1) | exact HB.out)))); have n2_ := Aside0.mk (Kd.C_below (by repeat (first | (with_reducible exact HR177.out) | (with_reducible refine Kd.C_alloc ?_ _) | (with_reducible refine Kd.C_drewN ?_ _) | (with_reducible refine Kd.C_drew ?_) | exact HR177.out)) hb); have n3_ := Aside0.mk (below_step (by repeat (first | (with_reducible first | exact HB.out | apply below_alloc | apply pw_below_drewN | apply below_drew1) | exact HB.out)) hb); clear HO173; clear HR177; clear HB; have HO173 := n0_; have HO182 := n1_; have HR177 := n2_; have HB := n3_; clear n0_ n1_ n2_ n3_; (try clear hb); (try clear hb2); (try clear hk); (try clear hi); (try clear ho0)) | ((with_reducible refine gate_callee (f := 4) rfl ?_); refine goesL_ (some 32) rfl rfl Try.func4 (by kernel_rfl) rfl #[.slice Ao15 y174.length co15] rfl (by (try simp only [List.map_toArray, List.map_cons, List.map_nil]); first | done | rfl | (simp only [List.length_drop, List.length_take]; rfl)) ?_; (with_reducible refine (pax_Parse.calls k _ _ y174 t187 t188 t189 _ ?side1 ?side2 A7.out).mono ?_); (case side1 => repeat (first | exact (by repeat (first | (with_reducible exact HR177.out) | (with_reducible refine Kd.C_alloc ?_ _) | (with_reducible refine Kd.C_drewN ?_ _) | (with_reducible refine Kd.C_drew ?_) | exact HR177.out)) | (with_reducible refine Kd.C_alloc ?_ _) | (with_reducible refine Kd.C_drewN ?_ _) | (with_reducible refine Kd.C_drew ?_))); (case side2 => exact HC177.out); rintro e w17 ⟨v190, rfl, ho0, hb⟩; refine ⟨_, rfl, ?_⟩; have n0_ := Aside0.mk (Kd.R_below (by (with_reducible repeat (first | apply Kd.R_alloc | apply Kd.R_drewN | apply Kd.R_drew)); exact HO173.out) hb); have n1_ := Aside0.mk (Kd.R_elder' (by (with_reducible repeat (first | apply Kd.R_alloc | apply Kd.R_drewN | apply Kd.R_drew)); exact HO182.out) (Kd.R_base ho0) hb); have n2_ := Aside0.mk (Kd.R_lower (Kd.R_new' ho0 (Kd.R_lt (by (with_reducible repeat (first | apply Kd.R_alloc | apply Kd.R_drewN | apply Kd.R_drew)); exact HO182.out))) (below_size (by repeat (first | (with_reducible first | exact HB.out | apply below_alloc | apply pw_below_drewN | apply below_drew1) | exact HB.out)))); have n3_ := Aside0.mk (Kd.C_below (by repeat (first | (with_reducible exact HR177.out) | (with_reducible refine Kd.C_alloc ?_ _) | (with_reducible refine Kd.C_drewN ?_ _) | (with_reducible refine Kd.C_drew ?_) | exact HR177.out)) hb); have n4_ := Aside0.mk (below_step (by repeat (first | (with_reducible first | exact HB.out | apply below_alloc | apply pw_below_drewN | apply below_drew1) | exact HB.out)) hb); clear HO173; clear HO182; clear HR177; clear HB; have HO173 := n0_; have HO182 := n1_; have HO191 := n2_; have HR177 := n3_; have HB := n4_; clear n0_ n1_ n2_ n3_ n4_; (try clear hb); (try clear hb2); (try clear hk); (try clear hi); (try clear ho0)) | ((with_reducible refine gate_callee (f := 5) rfl ?_); refine goesL_ (some 38) rfl rfl Try.func5 (by kernel_rfl) rfl #[.slice A0 l0.length c0] rfl (by (try simp only [List.map_toArray, List.map_cons, List.map_nil]); first | done | rfl | (simp only [List.length_drop, List.length_take]; rfl)) ?_; (with_reducible refine (satchelref14_Parse.calls k _ _ l0 t192 t193 t194 _ ?side1 ?side2 A8.out).mono ?_); (case side1 => repeat (first | exact (Kd.C_below HR0.out HB.out) | (with_reducible refine Kd.C_alloc ?_ _) | (with_reducible refine Kd.C_drewN ?_ _) | (with_reducible refine Kd.C_drew ?_))); (case side2 => exact HC0.out); rintro e w18 ⟨v195, rfl, ho0, hb⟩; refine ⟨_, rfl, ?_⟩; have n0_ := Aside0.mk (Kd.R_below (by (with_reducible repeat (first | apply Kd.R_alloc | apply Kd.R_drewN | apply Kd.R_drew)); exact HO173.out) hb); have n1_ := Aside0.mk (Kd.R_elder' (by (with_reducible repeat (first | apply Kd.R_alloc | apply Kd.R_drewN | apply Kd.R_drew)); exact HO182.out) (Kd.R_base ho0) hb); have n2_ := Aside0.mk (Kd.R_elder' (by (with_reducible repeat (first | apply Kd.R_alloc | apply Kd.R_drewN | apply Kd.R_drew)); exact HO191.out) (Kd.R_base ho0) hb); have n3_ := Aside0.mk (Kd.R_lower (Kd.R_new' (Kd.R_new' ho0 (Kd.R_lt (by (with_reducible repeat (first | apply Kd.R_alloc | apply Kd.R_drewN | apply Kd.R_drew)); exact HO182.out))) (Kd.R_lt (by (with_reducible repeat (first | apply Kd.R_alloc | apply Kd.R_drewN | apply Kd.R_drew)); exact HO191.out))) (below_size (by repeat (first | (with_reducible first | exact HB.out | apply below_alloc | apply pw_below_drewN | apply below_drew1) | exact HB.out)))); have n4_ := Aside0.mk (Kd.C_below (by repeat (first | (with_reducible exact HR177.out) | (with_reducible refine Kd.C_alloc ?_ _) | (with_reducible refine Kd.C_drewN ?_ _) | (with_reducible refine Kd.C_drew ?_) | exact HR177.out)) hb); have n5_ := Aside0.mk (below_step (by repeat (first | (with_reducible first | exact HB.out | apply below_alloc | apply pw_below_drewN | apply below_drew1) | exact HB.out)) hb); clear HO173; clear HO182; clear HO191; clear HR177; clear HB; have HO173 := n0_; have HO182 := n1_; have HO191 := n2_; have HO196 := n3_; have HR177 := n4_; have HB := n5_; clear n0_ n1_ n2_ n3_ n4_ n5_; (try clear hb); (try clear hb2); (try clear hk); (try clear hi); (try clear ho0)))
          (try simp only [Act.put, List.setIfInBounds_toArray, List.set_cons_zero, List.set_cons_succ])
          go_cut [57] (fun v57 wc => ∃ (kq : Nat) (x57_8 : Bool), v57 = .bool x57_8 ∧ Aside0 (satchellaw14_PaxParses.j0 kq y171 t178 t187 t192 x57_8 = some r) ∧ Aside0 (kq ≤ k) ∧ Aside0 (Kd.R (Kd.int .u8) 5 wc w.heap.size (fun _ => True) (.slice Ao15 y171.length co15) y171) ∧ Aside0 (Kd.R k30 30 wc w.heap.size (fun k_ => some k_ ≠ (v190 : Value).ownBlock ∧ some k_ ≠ (v195 : Value).ownBlock) v181 t178) ∧ Aside0 (Kd.R k30 30 wc w.heap.size (fun k_ => some k_ ≠ (v181 : Value).ownBlock ∧ some k_ ≠ (v195 : Value).ownBlock) v190 t187) ∧ Aside0 (Kd.R k30 30 wc w.heap.size (fun k_ => some k_ ≠ (v181 : Value).ownBlock ∧ some k_ ≠ (v190 : Value).ownBlock) v195 t192) ∧ Aside0 (Kd.C (Kd.int .u8) wc Ao15 y174.length y174) ∧ Aside0 (Below w.heap.size w wc))
          case first =>
            have H := HC9.out
            clear HC9
            by_cases c19 : (strOfNums l0).size + 7 ≤ 9223372036854775807
            · rw [if_pos c19] at H
              have c19b0 := eq_true c19
              have c19b1 : decide ((strOfNums l0).size + 7 ≤ 9223372036854775807) = true := decide_eq_true c19
              try have c19b2 : (9223372036854775807 < (strOfNums l0).size + 7) = False := eq_false (Nat.not_lt.2 c19)
              by_cases c20 : (strOfNums y171).toList = ((strOfNums l0) ++ (⟨#[57, 32, 120, 61, 121, 10, 33]⟩ : ByteArray)).toList
              · rw [if_pos c20] at H
                have c20b0 : ((strOfNums y171).toList == ((strOfNums l0) ++ (⟨#[57, 32, 120, 61, 121, 10, 33]⟩ : ByteArray)).toList) = true := beq_iff_eq.mpr c20
                have c20b1 : ((strOfNums y171).toList != ((strOfNums l0) ++ (⟨#[57, 32, 120, 61, 121, 10, 33]⟩ : ByteArray)).toList) = false := bne_eq_false_iff_eq.mpr c20
                clear c20
                (first | rw [c20b0] | (simp only [i64_w, i32_w]; rw [c20b0]) | skip)
                by_cases c21 : t179 = t193
                · rw [if_pos c21] at H
                  have c21b0 : (t179 == t193) = true := beq_iff_eq.mpr c21
                  have c21b1 : (t179 != t193) = false := bne_eq_false_iff_eq.mpr c21
                  clear c21
                  have H' := Aside0.mk H
                  clear H
                  have hcv22 := own_string (P := Try.prog) Try.underlying22 Try.underlying5 Try.underlying9 (Kd.own_of_R HO173.out)
                  have hcv23 := Kd.C_string (P := Try.prog) (A := A0) (c := c0) Try.underlying22 Try.underlying5 Try.underlying9 (Kd.C_below HR0.out HB.out)
                  go_wp2
                  go_meet
                  case rel => exact ⟨_, ((t180 != t194)), (by first | rfl | (simp; done) | (simp [*]; done)), H', ⟨by first | omega | exact Nat.le_refl _⟩, ⟨by (with_reducible repeat (first | apply Kd.R_alloc | apply Kd.R_drewN | apply Kd.R_drew)); exact HO173.out⟩, ⟨by (with_reducible repeat (first | apply Kd.R_alloc | apply Kd.R_drewN | apply Kd.R_drew)); exact Kd.R_mono HO182.out (fun _ hk => ⟨hk.1.2, hk.2⟩)⟩, ⟨by (with_reducible repeat (first | apply Kd.R_alloc | apply Kd.R_drewN | apply Kd.R_drew)); exact Kd.R_mono HO191.out (fun _ hk => ⟨hk.1.2, hk.2⟩)⟩, ⟨by (with_reducible repeat (first | apply Kd.R_alloc | apply Kd.R_drewN | apply Kd.R_drew)); exact Kd.R_mono HO196.out (fun _ hk => ⟨hk.1.2, hk.2⟩)⟩, ⟨by repeat (first | (with_reducible exact HR177.out) | (with_reducible refine Kd.C_alloc ?_ _) | (with_reducible refine Kd.C_drewN ?_ _) | (with_reducible refine Kd.C_drew ?_) | exact HR177.out)⟩, ⟨by repeat (first | (with_reducible first | exact HB.out | apply below_alloc | apply pw_below_drewN | apply below_drew1) | exact HB.out)⟩⟩
                · rw [if_neg c21] at H
                  have c21b0 : (t179 == t193) = false := beq_eq_false_iff_ne.mpr c21
                  have c21b1 : (t179 != t193) = true := bne_iff_ne.mpr c21
                  have H' := Aside0.mk H
                  clear H
                  have hcv24 := own_string (P := Try.prog) Try.underlying22 Try.underlying5 Try.underlying9 (Kd.own_of_R HO173.out)
                  have hcv25 := Kd.C_string (P := Try.prog) (A := A0) (c := c0) Try.underlying22 Try.underlying5 Try.underlying9 (Kd.C_below HR0.out HB.out)
                  go_wp2
                  go_meet
                  case rel => exact ⟨_, (true), (by first | rfl | (simp; done) | (simp [*]; done)), H', ⟨by first | omega | exact Nat.le_refl _⟩, ⟨by (with_reducible repeat (first | apply Kd.R_alloc | apply Kd.R_drewN | apply Kd.R_drew)); exact HO173.out⟩, ⟨by (with_reducible repeat (first | apply Kd.R_alloc | apply Kd.R_drewN | apply Kd.R_drew)); exact Kd.R_mono HO182.out (fun _ hk => ⟨hk.1.2, hk.2⟩)⟩, ⟨by (with_reducible repeat (first | apply Kd.R_alloc | apply Kd.R_drewN | apply Kd.R_drew)); exact Kd.R_mono HO191.out (fun _ hk => ⟨hk.1.2, hk.2⟩)⟩, ⟨by (with_reducible repeat (first | apply Kd.R_alloc | apply Kd.R_drewN | apply Kd.R_drew)); exact Kd.R_mono HO196.out (fun _ hk => ⟨hk.1.2, hk.2⟩)⟩, ⟨by repeat (first | (with_reducible exact HR177.out) | (with_reducible refine Kd.C_alloc ?_ _) | (with_reducible refine Kd.C_drewN ?_ _) | (with_reducible refine Kd.C_drew ?_) | exact HR177.out)⟩, ⟨by repeat (first | (with_reducible first | exact HB.out | apply below_alloc | apply pw_below_drewN | apply below_drew1) | exact HB.out)⟩⟩
              · rw [if_neg c20] at H
                have c20b0 : ((strOfNums y171).toList == ((strOfNums l0) ++ (⟨#[57, 32, 120, 61, 121, 10, 33]⟩ : ByteArray)).toList) = false := beq_eq_false_iff_ne.mpr c20
                have c20b1 : ((strOfNums y171).toList != ((strOfNums l0) ++ (⟨#[57, 32, 120, 61, 121, 10, 33]⟩ : ByteArray)).toList) = true := bne_iff_ne.mpr c20
                (first | rw [c20b0] | (simp only [i64_w, i32_w]; rw [c20b0]) | skip)
                have H' := Aside0.mk H
                clear H
                have hcv26 := own_string (P := Try.prog) Try.underlying22 Try.underlying5 Try.underlying9 (Kd.own_of_R HO173.out)
                have hcv27 := Kd.C_string (P := Try.prog) (A := A0) (c := c0) Try.underlying22 Try.underlying5 Try.underlying9 (Kd.C_below HR0.out HB.out)
                go_wp2
                go_meet
                case rel => exact ⟨_, (true), (by first | rfl | (simp; done) | (simp [*]; done)), H', ⟨by first | omega | exact Nat.le_refl _⟩, ⟨by (with_reducible repeat (first | apply Kd.R_alloc | apply Kd.R_drewN | apply Kd.R_drew)); exact HO173.out⟩, ⟨by (with_reducible repeat (first | apply Kd.R_alloc | apply Kd.R_drewN | apply Kd.R_drew)); exact Kd.R_mono HO182.out (fun _ hk => ⟨hk.1.2, hk.2⟩)⟩, ⟨by (with_reducible repeat (first | apply Kd.R_alloc | apply Kd.R_drewN | apply Kd.R_drew)); exact Kd.R_mono HO191.out (fun _ hk => ⟨hk.1.2, hk.2⟩)⟩, ⟨by (with_reducible repeat (first | apply Kd.R_alloc | apply Kd.R_drewN | apply Kd.R_drew)); exact Kd.R_mono HO196.out (fun _ hk => ⟨hk.1.2, hk.2⟩)⟩, ⟨by repeat (first | (with_reducible exact HR177.out) | (with_reducible refine Kd.C_alloc ?_ _) | (with_reducible refine Kd.C_drewN ?_ _) | (with_reducible refine Kd.C_drew ?_) | exact HR177.out)⟩, ⟨by repeat (first | (with_reducible first | exact HB.out | apply below_alloc | apply pw_below_drewN | apply below_drew1) | exact HB.out)⟩⟩
            · rw [if_neg c19] at H
              exact absurd H (by simp)
          case rest =>
            clear HC9
            try clear c1
            try clear q1
            try clear c2
            try clear p2
            try clear hcv2
            try clear c3
            try clear c4
            try clear c4b0
            try clear c4b1
            try clear c5
            try clear c5b0
            try clear c5b1
            try clear q14
            try clear c19
            try clear c19b0
            try clear c19b1
            try clear c19b2
            try clear c20
            try clear c20b0
            try clear c20b1
            try clear c21
            try clear c21b0
            try clear c21b1
            try clear hcv22
            try clear hcv23
            try clear hcv24
            try clear hcv25
            try clear hcv26
            try clear hcv27
            try clear q14
            obtain ⟨kq, x57_8, rfl, HA, HJ8, HO_3, HO_4, HO_7, HO_10, HR177, HB⟩ := hcut
            cases kq with
            | zero => exact absurd HA.out (by simp [satchellaw14_PaxParses.j0])
            | succ kj8 =>
              have H := HA.out
              clear HA
              simp only [satchellaw14_PaxParses.j0] at H
              by_cases c28 : x57_8 = true
              · subst c28
                have H1 : (some false) = some r := by rw [if_pos rfl] at H; exact H
                clear H
                have H := H1
                clear H1
                obtain rfl := Option.some.inj H
                go_wp2
                go_ret
                exact ⟨by first | rfl | (simp [errW_none, errW_some] <;> rfl) | (simp [*, errW_none, errW_some] <;> rfl), by repeat (first | (with_reducible first | exact HB.out | apply below_alloc | apply pw_below_drewN | apply below_drew1) | exact HB.out)⟩
              · replace c28 := Bool.eq_false_iff.mpr c28
                subst c28
                have H1 : (satchellaw14_PaxParses.l0 kj8 y171 t178 t187 t192 0) = some r := by rw [if_neg (show ¬ (false = true) by decide)] at H; exact H
                clear H
                have H := H1
                clear H1
                have H' := Aside0.mk H
                clear H
                go_wp2
                go_loopg [13] kj8 (fun kq v13 w' => ∃ (x3_2 : List Int) (x13_2 : Int), v13 = .int .i64 x13_2 ∧ Aside0 (satchellaw14_PaxParses.l0 kq x3_2 t178 t187 t192 x13_2 = some r) ∧ Aside0 (kq ≤ kj8) ∧ Aside0 (Kd.R (Kd.int .u8) 5 w' w.heap.size (fun _ => True) (.slice Ao15 y171.length co15) x3_2) ∧ Aside0 (Kd.R k30 30 w' w.heap.size (fun k_ => some k_ ≠ (v190 : Value).ownBlock ∧ some k_ ≠ (v195 : Value).ownBlock) v181 t178) ∧ Aside0 (Kd.R k30 30 w' w.heap.size (fun k_ => some k_ ≠ (v181 : Value).ownBlock ∧ some k_ ≠ (v195 : Value).ownBlock) v190 t187) ∧ Aside0 (Kd.R k30 30 w' w.heap.size (fun k_ => some k_ ≠ (v181 : Value).ownBlock ∧ some k_ ≠ (v190 : Value).ownBlock) v195 t192) ∧ Aside0 (Below w.heap.size w w'))
                case atStart => exact ⟨(y171), (0), (by first | rfl | (simp; done) | (simp [*]; done)), H', ⟨Nat.le_refl _⟩, ⟨by (with_reducible repeat (first | apply Kd.R_alloc | apply Kd.R_drewN | apply Kd.R_drew)); exact HO_3.out⟩, ⟨by (with_reducible repeat (first | apply Kd.R_alloc | apply Kd.R_drewN | apply Kd.R_drew)); exact HO_4.out⟩, ⟨by (with_reducible repeat (first | apply Kd.R_alloc | apply Kd.R_drewN | apply Kd.R_drew)); exact HO_7.out⟩, ⟨by (with_reducible repeat (first | apply Kd.R_alloc | apply Kd.R_drewN | apply Kd.R_drew)); exact HO_10.out⟩, ⟨by repeat (first | (with_reducible first | exact HB.out | apply below_alloc | apply pw_below_drewN | apply below_drew1) | exact HB.out)⟩⟩
                case round =>
                  clear H'
                  try clear c1
                  try clear q1
                  try clear c2
                  try clear p2
                  try clear hcv2
                  try clear c3
                  try clear c4
                  try clear c4b0
                  try clear c4b1
                  try clear c5
                  try clear c5b0
                  try clear c5b1
                  try clear q14
                  try clear c19
                  try clear c19b0
                  try clear c19b1
                  try clear c19b2
                  try clear c20
                  try clear c20b0
                  try clear c20b1
                  try clear c21
                  try clear c21b0
                  try clear c21b1
                  try clear hcv22
                  try clear hcv23
                  try clear hcv24
                  try clear hcv25
                  try clear hcv26
                  try clear hcv27
                  try clear c28
                  try clear p2
                  try clear q1
                  try clear q14
                  obtain ⟨x3_2, x13_2, rfl, HA, HK2, HO_3, HO_4, HO_7, HO_10, HB⟩ := hrel
                  have hl3_2 := (Kd.R_reads' HO_3.out).1
                  rw [hl3_2] at HO_3
                  (try simp only [hl3_2])
                  (try simp only [hl3_2] at HO_4)
                  (try simp only [hl3_2] at HO_7)
                  (try simp only [hl3_2] at HO_10)
                  cases gk with
                  | zero => exact absurd HA.out (by simp [satchellaw14_PaxParses.l0])
                  | succ k2 =>
                    have H := HA.out
                    clear HA
                    simp only [satchellaw14_PaxParses.l0] at H
                    by_cases c29 : x13_2 < (x3_2.length : Int)
                    · rw [if_pos c29] at H
                      have c29b0 : decide (x13_2 < (x3_2.length : Int)) = true := decide_eq_true c29
                      clear c29
                      by_cases c30 : 0 ≤ x13_2
                      · rw [if_pos c30] at H
                        have c30b0 : decide (0 ≤ x13_2) = true := decide_eq_true c30
                        clear c30
                        obtain ⟨y197, hy197⟩ : ∃ y_ : List Int, y_ = (x3_2.set (x13_2 : Int).toNat 238) := ⟨_, rfl⟩
                        replace H : (satchellaw14_PaxParses.l0 k2 y197 t178 t187 t192 (wrap64 (x13_2 + 1))) = some r := by first | (rw [hy197]; with_reducible exact H) | (have H2_ := (Option.bind_some _ _).symm.trans H; rw [hy197]; with_reducible exact H2_) | (have H2_ := (Option.bind_some _ _).symm.trans H; with_reducible exact H2_) | with_reducible exact H | (rw [hy197]; exact H) | exact H
                        have Ny197 := Aside0.mk hy197
                        clear hy197
                        have H' := Aside0.mk H
                        clear H
                        have p31 : 0 ≤ (x13_2 : Int) := of_decide_eq_true (by first | (with_reducible assumption) | assumption)
                        have q31 : (x13_2 : Int) < ((x3_2.length : Int) : Int) := of_decide_eq_true (by first | (with_reducible assumption) | assumption)
                        obtain ⟨go31, co31, eo31, gb31, gl31, cl31, HG31⟩ := Kd.R_form HO_3.out (by omega)
                        (first | cases eo31 | (injection eo31 with ea_ en_ ec_; (first | subst ea_ | (injection ea_ with ea_; subst ea_)); subst ec_; clear en_))
                        have GB31 := Aside0.mk gb31
                        have GG31 := Aside0.mk HG31
                        clear gb31 gl31 HG31
                        obtain ⟨hx31_0, hf31_0⟩ := Kd.R_celln 0 HO_3.out (x13_2 : Int) p31 q31
                        replace p31 := eq_true p31
                        replace q31 := eq_true q31
                        have HP32 := Kd.R_putg HO_3.out (x13_2 : Int) 238
                        go_wp2_with (first | ((with_reducible refine gate_store (t := 5) (p := 66) rfl ?_); refine store_event (t := 5) (p := 66) (v := ?vo_w33) (w1 := (wr.setCell ⟨go31, (x13_2 : Int).toNat, none⟩ (.int .u8 238))) ?hg ?ho ?hn ?hr ?_; (case ho => rfl); (case hg => rfl); (case hn => rfl); (case hr => first | (go_simp; done) | (go_simp; rfl)); intro w33 hw; have hg : wr.grownBy w33 (some go31) := (by rw [hw]; exact HP32.2); have hp_ : Kd.R (Kd.int .u8) 5 w33 w.heap.size (fun _ => True) (.slice (some ⟨go31, 0, none⟩) x3_2.length co15) y197 := (by rw [hw, Ny197.out]; exact HP32.1); clear HP32; have n0_ := Aside0.mk (hp_); have n1_ := Aside0.mk (Kd.R_over' (v := (.slice (some ⟨go31, 0, none⟩) x3_2.length co15)) (by (with_reducible repeat (first | apply Kd.R_alloc | apply Kd.R_drewN | apply Kd.R_drew)); exact HO_4.out) (Kd.R_typed HO_3.out) (by decide) hg); have n2_ := Aside0.mk (Kd.R_over' (v := (.slice (some ⟨go31, 0, none⟩) x3_2.length co15)) (by (with_reducible repeat (first | apply Kd.R_alloc | apply Kd.R_drewN | apply Kd.R_drew)); exact HO_7.out) (Kd.R_typed HO_3.out) (by decide) hg); have n3_ := Aside0.mk (Kd.R_over' (v := (.slice (some ⟨go31, 0, none⟩) x3_2.length co15)) (by (with_reducible repeat (first | apply Kd.R_alloc | apply Kd.R_drewN | apply Kd.R_drew)); exact HO_10.out) (Kd.R_typed HO_3.out) (by decide) hg); have n4_ := Aside0.mk ((by rw [hw]; exact below_set (HB.out) GB31.out : Below w.heap.size w w33)); clear HO_3; clear HO_4; clear HO_7; clear HO_10; clear HB; have HO_3 := n0_; have HO_4 := n1_; have HO_7 := n2_; have HO_10 := n3_; have HB := n4_; clear n0_ n1_ n2_ n3_ n4_; clear hg hw hp_))
                        (try simp only [← hl3_2])
                        go_roundg k2
                        case measure => have := HJ8.out; have := HK2.out; omega
                        case rel => exact ⟨(y197), (wrap64 (x13_2 + 1)), (by first | rfl | (simp; done) | (simp [*]; done)), H', ⟨by have := HJ8.out; have := HK2.out; omega⟩, ⟨by (try simp only [hl3_2]); (with_reducible repeat (first | apply Kd.R_alloc | apply Kd.R_drewN | apply Kd.R_drew)); exact HO_3.out⟩, ⟨by (try simp only [hl3_2]); (with_reducible repeat (first | apply Kd.R_alloc | apply Kd.R_drewN | apply Kd.R_drew)); exact HO_4.out⟩, ⟨by (try simp only [hl3_2]); (with_reducible repeat (first | apply Kd.R_alloc | apply Kd.R_drewN | apply Kd.R_drew)); exact HO_7.out⟩, ⟨by (try simp only [hl3_2]); (with_reducible repeat (first | apply Kd.R_alloc | apply Kd.R_drewN | apply Kd.R_drew)); exact HO_10.out⟩, ⟨by repeat (first | (with_reducible first | exact HB.out | apply below_alloc | apply pw_below_drewN | apply below_drew1) | exact HB.out)⟩⟩
                      · rw [if_neg c30] at H
                        exact absurd H (by simp)
                    · rw [if_neg c29] at H
                      have c29b0 : decide (x13_2 < (x3_2.length : Int)) = false := decide_eq_false c29
                      clear c29
                      replace H := Option.bind_eq_some_iff.mp H
                      obtain ⟨t198, A340, H⟩ := H
                      replace H : (if t198 = true then ((satchellaw14_same.f k2 t187 t192).bind fun t199 => (some t199)) else (some false)) = some r := H
                      have A34 := Aside0.mk A340
                      clear A340
                      by_cases c35 : t198 = true
                      · subst c35
                        have H1 : ((satchellaw14_same.f k2 t187 t192).bind fun t199 => (some t199)) = some r := by rw [if_pos rfl] at H; exact H
                        clear H
                        have H := H1
                        clear H1
                        replace H := Option.bind_eq_some_iff.mp H
                        obtain ⟨t199, A360, H⟩ := H
                        replace H : (some t199) = some r := H
                        have A36 := Aside0.mk A360
                        clear A360
                        obtain rfl := Option.some.inj H
                        obtain ⟨Ao37, co37, eo37⟩ := Kd.R_slice HO_4.out
                        subst eo37
                        obtain ⟨Ao38, co38, eo38⟩ := Kd.R_slice HO_10.out
                        subst eo38
                        go_wp2_with (first | ((with_reducible refine gate_callee (f := 6) rfl ?_); refine goesL_ (some 69) rfl rfl Try.func6 (by kernel_rfl) rfl #[.slice Ao37 t178.length co37, .slice Ao38 t192.length co38] rfl (by (try simp only [List.map_toArray, List.map_cons, List.map_nil]); first | done | rfl | (simp only [List.length_drop, List.length_take]; rfl)) ?_; (with_reducible refine (satchellaw14_wiped.calls k2 (fun k_ => some k_ = (.slice Ao37 t178.length co37 : Value).ownBlock) (.slice Ao37 t178.length co37) t178 _ _ t192 true w _ ?side1 ?side2 ?side3 ?side4 A34.out).mono ?_); (case side1 => repeat (first | (with_reducible first | exact HB.out | apply below_alloc | apply pw_below_drewN | apply below_drew1) | exact HB.out)); (case side2 => exact Kd.R_tight rfl HO_4.out); (case side3 => exact Kd.C_kept_own (HO_10.out) (fun k_ hk_ hs_ => (hk_.1) hs_)); (case side4 => exact (Kd.R_reads' HO_10.out).2.1); rintro e w39 ⟨rfl, hb, hkp⟩; refine ⟨_, rfl, ?_⟩; have n0_ := Aside0.mk (Kd.R_mono (ok' := fun k_ => True) (Kd.R_keptB ((Kd.R_apart' HO_3.out (Kd.R_typed HO_4.out) (by decide))) hkp (fun k_ hk_ hs_ => (hk_.2) hs_)) (fun k_ hk_ => trivial)); have n1_ := Aside0.mk (Kd.R_mono (ok' := fun k_ => some k_ ≠ (.slice Ao38 t192.length co38 : Value).ownBlock) (Kd.R_keptB (HO_7.out) hkp (fun k_ hk_ hs_ => (hk_.1) hs_)) (fun k_ hk_ => hk_.1.2)); have n2_ := Aside0.mk (Kd.R_mono (ok' := fun k_ => some k_ ≠ (v190 : Value).ownBlock) (Kd.R_keptB (HO_10.out) hkp (fun k_ hk_ hs_ => (hk_.1) hs_)) (fun k_ hk_ => hk_.1.2)); have n3_ := Aside0.mk (hb); clear HO_3; clear HO_7; clear HO_10; clear HB; clear HO_4; have HO_3 := n0_; have HO_7 := n1_; have HO_10 := n2_; have HB := n3_; clear n0_ n1_ n2_ n3_; (try clear hb); (try clear hkp); obtain ⟨Ao40, co40, eo40⟩ := Kd.R_slice HO_7.out; subst eo40) | (go_at_call 7; (with_reducible refine (satchellaw14_same.calls k2 _ _ t187 _ _ t192 t199 _ ?side1 ?side2 ?side3 ?side4 A36.out).mono ?_); (case side1 => repeat (first | exact (Kd.R_reads' HO_7.out).2.2 | (with_reducible refine Kd.C_alloc ?_ _) | (with_reducible refine Kd.C_drewN ?_ _) | (with_reducible refine Kd.C_drew ?_))); (case side2 => exact (Kd.R_reads' HO_7.out).2.1); (case side3 => repeat (first | exact (Kd.R_reads' HO_10.out).2.2 | (with_reducible refine Kd.C_alloc ?_ _) | (with_reducible refine Kd.C_drewN ?_ _) | (with_reducible refine Kd.C_drew ?_))); (case side4 => exact (Kd.R_reads' HO_10.out).2.1); rintro e w' ⟨rfl, ⟨nd, rfl⟩⟩))
                        go_ret
                        exact ⟨by first | rfl | (simp [errW_none, errW_some] <;> rfl) | (simp [*, errW_none, errW_some] <;> rfl), by repeat (first | (with_reducible first | exact HB.out | apply below_alloc | apply pw_below_drewN | apply below_drew1) | exact HB.out)⟩
                      · replace c35 := Bool.eq_false_iff.mpr c35
                        subst c35
                        have H1 : (some false) = some r := by rw [if_neg (show ¬ (false = true) by decide)] at H; exact H
                        clear H
                        have H := H1
                        clear H1
                        obtain rfl := Option.some.inj H
                        obtain ⟨Ao41, co41, eo41⟩ := Kd.R_slice HO_4.out
                        subst eo41
                        obtain ⟨Ao42, co42, eo42⟩ := Kd.R_slice HO_10.out
                        subst eo42
                        go_wp2_with (first | ((with_reducible refine gate_callee (f := 6) rfl ?_); refine goesL_ (some 69) rfl rfl Try.func6 (by kernel_rfl) rfl #[.slice Ao41 t178.length co41, .slice Ao42 t192.length co42] rfl (by (try simp only [List.map_toArray, List.map_cons, List.map_nil]); first | done | rfl | (simp only [List.length_drop, List.length_take]; rfl)) ?_; (with_reducible refine (satchellaw14_wiped.calls k2 (fun k_ => some k_ = (.slice Ao41 t178.length co41 : Value).ownBlock) (.slice Ao41 t178.length co41) t178 _ _ t192 false w _ ?side1 ?side2 ?side3 ?side4 A34.out).mono ?_); (case side1 => repeat (first | (with_reducible first | exact HB.out | apply below_alloc | apply pw_below_drewN | apply below_drew1) | exact HB.out)); (case side2 => exact Kd.R_tight rfl HO_4.out); (case side3 => exact Kd.C_kept_own (HO_10.out) (fun k_ hk_ hs_ => (hk_.1) hs_)); (case side4 => exact (Kd.R_reads' HO_10.out).2.1); rintro e w43 ⟨rfl, hb, hkp⟩; refine ⟨_, rfl, ?_⟩; have n0_ := Aside0.mk (Kd.R_mono (ok' := fun k_ => True) (Kd.R_keptB ((Kd.R_apart' HO_3.out (Kd.R_typed HO_4.out) (by decide))) hkp (fun k_ hk_ hs_ => (hk_.2) hs_)) (fun k_ hk_ => trivial)); have n1_ := Aside0.mk (Kd.R_mono (ok' := fun k_ => some k_ ≠ (.slice Ao42 t192.length co42 : Value).ownBlock) (Kd.R_keptB (HO_7.out) hkp (fun k_ hk_ hs_ => (hk_.1) hs_)) (fun k_ hk_ => hk_.1.2)); have n2_ := Aside0.mk (Kd.R_mono (ok' := fun k_ => some k_ ≠ (v190 : Value).ownBlock) (Kd.R_keptB (HO_10.out) hkp (fun k_ hk_ hs_ => (hk_.1) hs_)) (fun k_ hk_ => hk_.1.2)); have n3_ := Aside0.mk (hb); clear HO_3; clear HO_7; clear HO_10; clear HB; clear HO_4; have HO_3 := n0_; have HO_7 := n1_; have HO_10 := n2_; have HB := n3_; clear n0_ n1_ n2_ n3_; (try clear hb); (try clear hkp)))
                        go_ret
                        exact ⟨by first | rfl | (simp [errW_none, errW_some] <;> rfl) | (simp [*, errW_none, errW_some] <;> rfl), by repeat (first | (with_reducible first | exact HB.out | apply below_alloc | apply pw_below_drewN | apply below_drew1) | exact HB.out)⟩
        · rw [if_neg c5] at H
          exact absurd H (by simp)
      · rw [if_neg c4] at H
        exact absurd H (by simp)
    · rw [if_neg c3] at H
      exact absurd H (by simp)
  · rw [if_neg c2] at H
    exact absurd H (by simp)

/-- THE ONE PURE STATEMENT of satchellaw14_PaxParses: yours. -/
def satchellaw14_PaxParses.Pure : Prop := ∀ (l0 : List Int), l0.length ≤ maxLen → l0.length * 1 ≤ 140737488351232 → (∀ x ∈ l0, (Lit.int .u8 x).wf = true) → ∃ k, satchellaw14_PaxParses.f k l0 = some true
theorem satchellaw14_PaxParses.walk (P : satchellaw14_PaxParses.Pure) (a0 : Option Addr) (len0 cap0 : Nat) (z0 : List Int) (w : World) (w0 : (a0 = none ∧ len0 = 0 ∧ cap0 = 0 ∧ z0 = []) ∨ ∃ x, a0 = some x ∧ len0 ≤ cap0 ∧ cap0 ≤ maxLen ∧ z0.length = cap0 ∧ (∀ i, i < z0.length → w.cell? (x.add i) = some (.int .u8 (z0.getD i 0))) ∧ ∀ n ∈ z0, (Lit.int .u8 n).wf = true) (y0 : len0 * 1 ≤ 140737488351232) :
    Calls Try.prog 3 #[.slice a0 len0 cap0] w fun e w' => e = .returned (.bool true) ∧ Below w.heap.size w w' := by
  obtain ⟨l0, rfl, hr0, hm0, hw0, hc0⟩ := ReadsInt.ofRowC w0
  obtain ⟨k, h⟩ := P l0 hm0 y0 hw0
  refine (satchellaw14_PaxParses.calls k _ _ l0 true w (Kd.C_of_reads (d := (0 : Int)) (h1 := fun _ => rfl) hr0) hc0 h).mono ?_
  rintro e w' ⟨rfl, hd⟩
  exact ⟨rfl, hd⟩

end Go.Proofs.Ytohgoaiimhhckaa.PPaxParses
