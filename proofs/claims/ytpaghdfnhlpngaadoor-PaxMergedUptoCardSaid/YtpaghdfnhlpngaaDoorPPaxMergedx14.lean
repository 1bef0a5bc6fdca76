-- WRITTEN BY wip/xprint.py, a program of the proving session round the kit's print.py; Lean checks it.
import Derived.Test.YtpaghdfnhlpngaaDoorPPaxMergedx0
import Derived.Test.YtpaghdfnhlpngaaDoorPPaxMergedx1
import Derived.Test.YtpaghdfnhlpngaaDoorPPaxMergedx4
import Derived.Test.YtpaghdfnhlpngaaDoorPPaxMergedx8
import Derived.Test.YtpaghdfnhlpngaaDoorPPaxMergedx11
import Derived.Test.YtpaghdfnhlpngaaDoorPPaxMergedx13
namespace Go.Proofs.YtpaghdfnhlpngaaDoor.PPaxMerged
open Go.Proofs.YtpaghdfnhlpngaaDoorX
open Go.RowKit Go.Proofs.YtpaghdfnhlpngaaDoorW.PrintWords Go.Proofs.YtpaghdfnhlpngaaDoorW.PrintLast Go.Proofs.YtpaghdfnhlpngaaDoorW.PrintMore
attribute [local go_sem] str_leq str_gtr max2_int min2_int max_two min_two max_three min_three max_four min_four   -- for this text's walks alone
set_option linter.unusedVariables false
set_option linter.unusedSimpArgs false

attribute [local go_sem high] eqA36
/-! ### satchellaw14_lives: function 15 -/
def satchellaw14_lives.f (k : Nat)  : Option (Bool) := (pax_Print.f k (([(⟨(⟨#[112, 97, 116, 104]⟩ : ByteArray), (⟨#[97]⟩ : ByteArray)⟩ : S36)] : List (S36)))).bind fun bt180 => ((pax_Parse.f k (([53, 32, 97, 61, 10] : List Int))).bind fun bt187 => ((pax_Time.f k (⟨#[45, 49, 46, 53]⟩ : ByteArray)).bind fun bt192 => ((pax_PutTime.f k (-1) 500000000).bind fun bt195 => (if (strOfNums bt180.1).toList = ([57, 32, 112, 97, 116, 104, 61, 97, 10] : List UInt8) then (if bt180.2 = 0 then (if (bt187.1.length : Int) = 1 then (if 0 < (bt187.1.length : Int) then (if ((((rd_T36 bt187.1 0).f0).toList) == ([97] : List UInt8) && ((((rd_T36 bt187.1 0).f1).toList) == ([] : List UInt8))) = true then (if bt187.2.2 = 0 then (if bt192.1 = (-2) then (if bt192.2.1 = 500000000 then (if bt192.2.2 = 0 then (if bt195.1.toList = ([45, 48, 46, 53] : List UInt8) then (some (bt195.2 == 0)) else (none)) else (none)) else (none)) else (none)) else (none)) else (none)) else (none)) else (none)) else (none)) else (none)))))
theorem satchellaw14_lives.mono : ∀ k, LeO (satchellaw14_lives.f k ) (satchellaw14_lives.f (k + 1) ) := by
  intro  k
  unfold satchellaw14_lives.f
  repeat' first
      | (with_reducible exact pax_Parse.mono _ _)
      | (with_reducible exact pax_Print.mono _ _)
      | (with_reducible exact pax_PutTime.mono _ _ _)
      | (with_reducible exact pax_Time.mono _ _)
      | (with_reducible exact LeO.refl _)
      | (with_reducible exact LeO.none _)
      | (with_reducible refine LeO.ite ?_ ?_)
      | (with_reducible refine LeO.bind ?_ (fun _ => ?_))
      | exact pax_Parse.mono _ _
      | exact pax_Print.mono _ _
      | exact pax_PutTime.mono _ _ _
      | exact pax_Time.mono _ _
      | exact LeO.none _
      | refine LeO.ite ?_ ?_
      | refine LeO.bind ?_ (fun _ => ?_)
set_option maxHeartbeats 8000000 in
set_option maxRecDepth 100000 in
theorem satchellaw14_lives.calls (k : Nat)  (r : Bool) (w : World) (hG : Gv w) (h : satchellaw14_lives.f k  = some r) :
    Calls Tryd.prog 15 #[] w fun e w' => e = .returned (.bool r) ∧ Below w.heap.size w w' := by
  have hu36 := Tryd.underlying36
  have HB := Aside0.mk (Below.refl w.heap.size w)
  have HG := Aside0.mk hG
  clear hG
  have H : ((pax_Print.f k (([(⟨(⟨#[112, 97, 116, 104]⟩ : ByteArray), (⟨#[97]⟩ : ByteArray)⟩ : S36)] : List (S36)))).bind fun bt180 => ((pax_Parse.f k (([53, 32, 97, 61, 10] : List Int))).bind fun bt187 => ((pax_Time.f k (⟨#[45, 49, 46, 53]⟩ : ByteArray)).bind fun bt192 => ((pax_PutTime.f k (-1) 500000000).bind fun bt195 => (if (strOfNums bt180.1).toList = ([57, 32, 112, 97, 116, 104, 61, 97, 10] : List UInt8) then (if bt180.2 = 0 then (if (bt187.1.length : Int) = 1 then (if 0 < (bt187.1.length : Int) then (if ((((rd_T36 bt187.1 0).f0).toList) == ([97] : List UInt8) && ((((rd_T36 bt187.1 0).f1).toList) == ([] : List UInt8))) = true then (if bt187.2.2 = 0 then (if bt192.1 = (-2) then (if bt192.2.1 = 500000000 then (if bt192.2.2 = 0 then (if bt195.1.toList = ([45, 48, 46, 53] : List UInt8) then (some (bt195.2 == 0)) else (none)) else (none)) else (none)) else (none)) else (none)) else (none)) else (none)) else (none)) else (none)) else (none)))))) = some r := h
  clear h
  obtain ⟨y177, hy177⟩ : ∃ y_ : List (S36), y_ = (([(⟨(⟨#[112, 97, 116, 104]⟩ : ByteArray), (⟨#[97]⟩ : ByteArray)⟩ : S36)] : List (S36))) := ⟨_, rfl⟩
  replace H : ((pax_Print.f k y177).bind fun bt180 => ((pax_Parse.f k (([53, 32, 97, 61, 10] : List Int))).bind fun bt187 => ((pax_Time.f k (⟨#[45, 49, 46, 53]⟩ : ByteArray)).bind fun bt192 => ((pax_PutTime.f k (-1) 500000000).bind fun bt195 => (if (strOfNums bt180.1).toList = ([57, 32, 112, 97, 116, 104, 61, 97, 10] : List UInt8) then (if bt180.2 = 0 then (if (bt187.1.length : Int) = 1 then (if 0 < (bt187.1.length : Int) then (if ((((rd_T36 bt187.1 0).f0).toList) == ([97] : List UInt8) && ((((rd_T36 bt187.1 0).f1).toList) == ([] : List UInt8))) = true then (if bt187.2.2 = 0 then (if bt192.1 = (-2) then (if bt192.2.1 = 500000000 then (if bt192.2.2 = 0 then (if bt195.1.toList = ([45, 48, 46, 53] : List UInt8) then (some (bt195.2 == 0)) else (none)) else (none)) else (none)) else (none)) else (none)) else (none)) else (none)) else (none)) else (none)) else (none)))))) = some r := by first | (rw [hy177]; with_reducible exact H) | (have H2_ := (Option.bind_some _ _).symm.trans H; rw [hy177]; with_reducible exact H2_) | (have H2_ := (Option.bind_some _ _).symm.trans H; with_reducible exact H2_) | with_reducible exact H | (rw [hy177]; exact H) | exact H
  have Ny177 := Aside0.mk hy177
  clear hy177
  replace H := Option.bind_eq_some_iff.mp H
  obtain ⟨⟨t180, t181⟩, A10, H⟩ := H
  replace H : ((pax_Parse.f k (([53, 32, 97, 61, 10] : List Int))).bind fun bt187 => ((pax_Time.f k (⟨#[45, 49, 46, 53]⟩ : ByteArray)).bind fun bt192 => ((pax_PutTime.f k (-1) 500000000).bind fun bt195 => (if (strOfNums t180).toList = ([57, 32, 112, 97, 116, 104, 61, 97, 10] : List UInt8) then (if t181 = 0 then (if (bt187.1.length : Int) = 1 then (if 0 < (bt187.1.length : Int) then (if ((((rd_T36 bt187.1 0).f0).toList) == ([97] : List UInt8) && ((((rd_T36 bt187.1 0).f1).toList) == ([] : List UInt8))) = true then (if bt187.2.2 = 0 then (if bt192.1 = (-2) then (if bt192.2.1 = 500000000 then (if bt192.2.2 = 0 then (if bt195.1.toList = ([45, 48, 46, 53] : List UInt8) then (some (bt195.2 == 0)) else (none)) else (none)) else (none)) else (none)) else (none)) else (none)) else (none)) else (none)) else (none)) else (none))))) = some r := H
  have A1 := Aside0.mk A10
  clear A10
  obtain ⟨y184, hy184⟩ : ∃ y_ : List Int, y_ = (([53, 32, 97, 61, 10] : List Int)) := ⟨_, rfl⟩
  replace H : ((pax_Parse.f k y184).bind fun bt187 => ((pax_Time.f k (⟨#[45, 49, 46, 53]⟩ : ByteArray)).bind fun bt192 => ((pax_PutTime.f k (-1) 500000000).bind fun bt195 => (if (strOfNums t180).toList = ([57, 32, 112, 97, 116, 104, 61, 97, 10] : List UInt8) then (if t181 = 0 then (if (bt187.1.length : Int) = 1 then (if 0 < (bt187.1.length : Int) then (if ((((rd_T36 bt187.1 0).f0).toList) == ([97] : List UInt8) && ((((rd_T36 bt187.1 0).f1).toList) == ([] : List UInt8))) = true then (if bt187.2.2 = 0 then (if bt192.1 = (-2) then (if bt192.2.1 = 500000000 then (if bt192.2.2 = 0 then (if bt195.1.toList = ([45, 48, 46, 53] : List UInt8) then (some (bt195.2 == 0)) else (none)) else (none)) else (none)) else (none)) else (none)) else (none)) else (none)) else (none)) else (none)) else (none))))) = some r := by first | (rw [hy184]; with_reducible exact H) | (have H2_ := (Option.bind_some _ _).symm.trans H; rw [hy184]; with_reducible exact H2_) | (have H2_ := (Option.bind_some _ _).symm.trans H; with_reducible exact H2_) | with_reducible exact H | (rw [hy184]; exact H) | exact H
  have Ny184 := Aside0.mk hy184
  clear hy184
  replace H := Option.bind_eq_some_iff.mp H
  obtain ⟨⟨t187, t188, t189⟩, A20, H⟩ := H
  replace H : ((pax_Time.f k (⟨#[45, 49, 46, 53]⟩ : ByteArray)).bind fun bt192 => ((pax_PutTime.f k (-1) 500000000).bind fun bt195 => (if (strOfNums t180).toList = ([57, 32, 112, 97, 116, 104, 61, 97, 10] : List UInt8) then (if t181 = 0 then (if (t187.length : Int) = 1 then (if 0 < (t187.length : Int) then (if ((((rd_T36 t187 0).f0).toList) == ([97] : List UInt8) && ((((rd_T36 t187 0).f1).toList) == ([] : List UInt8))) = true then (if t189 = 0 then (if bt192.1 = (-2) then (if bt192.2.1 = 500000000 then (if bt192.2.2 = 0 then (if bt195.1.toList = ([45, 48, 46, 53] : List UInt8) then (some (bt195.2 == 0)) else (none)) else (none)) else (none)) else (none)) else (none)) else (none)) else (none)) else (none)) else (none)) else (none)))) = some r := H
  have A2 := Aside0.mk A20
  clear A20
  replace H := Option.bind_eq_some_iff.mp H
  obtain ⟨⟨t192, t193, t194⟩, A30, H⟩ := H
  replace H : ((pax_PutTime.f k (-1) 500000000).bind fun bt195 => (if (strOfNums t180).toList = ([57, 32, 112, 97, 116, 104, 61, 97, 10] : List UInt8) then (if t181 = 0 then (if (t187.length : Int) = 1 then (if 0 < (t187.length : Int) then (if ((((rd_T36 t187 0).f0).toList) == ([97] : List UInt8) && ((((rd_T36 t187 0).f1).toList) == ([] : List UInt8))) = true then (if t189 = 0 then (if t192 = (-2) then (if t193 = 500000000 then (if t194 = 0 then (if bt195.1.toList = ([45, 48, 46, 53] : List UInt8) then (some (bt195.2 == 0)) else (none)) else (none)) else (none)) else (none)) else (none)) else (none)) else (none)) else (none)) else (none)) else (none))) = some r := H
  have A3 := Aside0.mk A30
  clear A30
  replace H := Option.bind_eq_some_iff.mp H
  obtain ⟨⟨t195, t196⟩, A40, H⟩ := H
  replace H : (if (strOfNums t180).toList = ([57, 32, 112, 97, 116, 104, 61, 97, 10] : List UInt8) then (if t181 = 0 then (if (t187.length : Int) = 1 then (if 0 < (t187.length : Int) then (if ((((rd_T36 t187 0).f0).toList) == ([97] : List UInt8) && ((((rd_T36 t187 0).f1).toList) == ([] : List UInt8))) = true then (if t189 = 0 then (if t192 = (-2) then (if t193 = 500000000 then (if t194 = 0 then (if t195.toList = ([45, 48, 46, 53] : List UInt8) then (some (t196 == 0)) else (none)) else (none)) else (none)) else (none)) else (none)) else (none)) else (none)) else (none)) else (none)) else (none)) = some r := H
  have A4 := Aside0.mk A40
  clear A40
  by_cases c5 : (strOfNums t180).toList = ([57, 32, 112, 97, 116, 104, 61, 97, 10] : List UInt8)
  · rw [if_pos c5] at H
    (try (have c5s := (Bool.and_eq_true _ _).mp c5; have c5l := c5s.1; have c5r := c5s.2; (try have c5e : List.isEmpty _ = true := List.isEmpty_iff.2 (beq_iff_eq.1 c5r)); clear c5s))
    have c5b0 : ((strOfNums t180).toList == ([57, 32, 112, 97, 116, 104, 61, 97, 10] : List UInt8)) = true := beq_iff_eq.mpr c5
    have c5b1 : ((strOfNums t180).toList != ([57, 32, 112, 97, 116, 104, 61, 97, 10] : List UInt8)) = false := bne_eq_false_iff_eq.mpr c5
    clear c5
    by_cases c6 : t181 = 0
    · rw [if_pos c6] at H
      (try (have c6s := (Bool.and_eq_true _ _).mp c6; have c6l := c6s.1; have c6r := c6s.2; (try have c6e : List.isEmpty _ = true := List.isEmpty_iff.2 (beq_iff_eq.1 c6r)); clear c6s))
      have c6b0 : (t181 == 0) = true := beq_iff_eq.mpr c6
      have c6b1 : (t181 != 0) = false := bne_eq_false_iff_eq.mpr c6
      clear c6
      by_cases c7 : (t187.length : Int) = 1
      · rw [if_pos c7] at H
        (try (have c7s := (Bool.and_eq_true _ _).mp c7; have c7l := c7s.1; have c7r := c7s.2; (try have c7e : List.isEmpty _ = true := List.isEmpty_iff.2 (beq_iff_eq.1 c7r)); clear c7s))
        have c7b0 : ((t187.length : Int) == 1) = true := beq_iff_eq.mpr c7
        have c7b1 : ((t187.length : Int) != 1) = false := bne_eq_false_iff_eq.mpr c7
        clear c7
        by_cases c8 : 0 < (t187.length : Int)
        · rw [if_pos c8] at H
          (try (have c8s := (Bool.and_eq_true _ _).mp c8; have c8l := c8s.1; have c8r := c8s.2; (try have c8e : List.isEmpty _ = true := List.isEmpty_iff.2 (beq_iff_eq.1 c8r)); clear c8s))
          have c8b0 : decide (0 < (t187.length : Int)) = true := decide_eq_true c8
          have c8b1 : decide (0 < t187.length) = true := decide_eq_true (by omega)
          clear c8
          by_cases c9 : ((((rd_T36 t187 0).f0).toList) == ([97] : List UInt8) && ((((rd_T36 t187 0).f1).toList) == ([] : List UInt8))) = true
          · rw [if_pos c9] at H
            (try (have c9s := (Bool.and_eq_true _ _).mp c9; have c9l := c9s.1; have c9r := c9s.2; (try have c9e : List.isEmpty _ = true := List.isEmpty_iff.2 (beq_iff_eq.1 c9r)); clear c9s))
            have c9b0 : ((((rd_T36 t187 0).f0).toList) == ([97] : List UInt8) && ((((rd_T36 t187 0).f1).toList) == ([] : List UInt8))) = true := c9
            (try (have c9b1 : decide ((((rd_T36 t187 0).f0).toList) = ([97] : List UInt8) && ((((rd_T36 t187 0).f1).toList) == ([] : List UInt8))) = true := by simpa using c9))
            (try (have c9b2 : ((((rd_T36 t187 0).f0).toList) == ([97] : List UInt8) && ((((rd_T36 t187 0).f1).toList) == ([] : List UInt8))) = true := by simpa using c9))
            clear c9
            by_cases c10 : t189 = 0
            · rw [if_pos c10] at H
              (try (have c10s := (Bool.and_eq_true _ _).mp c10; have c10l := c10s.1; have c10r := c10s.2; (try have c10e : List.isEmpty _ = true := List.isEmpty_iff.2 (beq_iff_eq.1 c10r)); clear c10s))
              have c10b0 : (t189 == 0) = true := beq_iff_eq.mpr c10
              have c10b1 : (t189 != 0) = false := bne_eq_false_iff_eq.mpr c10
              clear c10
              by_cases c11 : t192 = (-2)
              · rw [if_pos c11] at H
                (try (have c11s := (Bool.and_eq_true _ _).mp c11; have c11l := c11s.1; have c11r := c11s.2; (try have c11e : List.isEmpty _ = true := List.isEmpty_iff.2 (beq_iff_eq.1 c11r)); clear c11s))
                have c11b0 : (t192 == (-2)) = true := beq_iff_eq.mpr c11
                have c11b1 : (t192 != (-2)) = false := bne_eq_false_iff_eq.mpr c11
                clear c11
                by_cases c12 : t193 = 500000000
                · rw [if_pos c12] at H
                  (try (have c12s := (Bool.and_eq_true _ _).mp c12; have c12l := c12s.1; have c12r := c12s.2; (try have c12e : List.isEmpty _ = true := List.isEmpty_iff.2 (beq_iff_eq.1 c12r)); clear c12s))
                  have c12b0 : (t193 == 500000000) = true := beq_iff_eq.mpr c12
                  have c12b1 : (t193 != 500000000) = false := bne_eq_false_iff_eq.mpr c12
                  clear c12
                  by_cases c13 : t194 = 0
                  · rw [if_pos c13] at H
                    (try (have c13s := (Bool.and_eq_true _ _).mp c13; have c13l := c13s.1; have c13r := c13s.2; (try have c13e : List.isEmpty _ = true := List.isEmpty_iff.2 (beq_iff_eq.1 c13r)); clear c13s))
                    have c13b0 : (t194 == 0) = true := beq_iff_eq.mpr c13
                    have c13b1 : (t194 != 0) = false := bne_eq_false_iff_eq.mpr c13
                    clear c13
                    by_cases c14 : t195.toList = ([45, 48, 46, 53] : List UInt8)
                    · rw [if_pos c14] at H
                      (try (have c14s := (Bool.and_eq_true _ _).mp c14; have c14l := c14s.1; have c14r := c14s.2; (try have c14e : List.isEmpty _ = true := List.isEmpty_iff.2 (beq_iff_eq.1 c14r)); clear c14s))
                      have c14b0 : (t195.toList == ([45, 48, 46, 53] : List UInt8)) = true := beq_iff_eq.mpr c14
                      have c14b1 : (t195.toList != ([45, 48, 46, 53] : List UInt8)) = false := bne_eq_false_iff_eq.mpr c14
                      clear c14
                      obtain rfl := Option.some.inj H
                      go_enter Tryd.func15, Tryd.ntmps15
                      go_wp2_with (first | ((with_reducible refine gate_dst (N := 13) rfl ?_); (try (refine gate_guard (by rfl) ?_; dsimp only)); refine Kd.R_lit k36 _ 36 ?hg (N := 13) ?hd (xs := ([(⟨(⟨#[112, 97, 116, 104]⟩ : ByteArray), (⟨#[97]⟩ : ByteArray)⟩ : S36)] : List (S36))) (inner := [.string (⟨#[112, 97, 116, 104]⟩ : ByteArray), .string (⟨#[97]⟩ : ByteArray)]) (ok := fun _ => True) (okp := fun _ => True) ?hr ?hp (fun _ hk => hk) trivial (Below.refl _ _) (Nat.le_refl _) (by simp) ?_; (case hd => rfl); (case hg => rfl); (case hr => first | (go_simp; done) | (go_simp; rfl)); (case hp => exact (Reps.c2 (show Kd.M k36 _ _ _ (⟨(⟨#[112, 97, 116, 104]⟩ : ByteArray), (⟨#[97]⟩ : ByteArray)⟩ : S36) [.string (⟨#[112, 97, 116, 104]⟩ : ByteArray), .string (⟨#[97]⟩ : ByteArray)] from (k36_mkM _ _ _ (⟨(⟨#[112, 97, 116, 104]⟩ : ByteArray), (⟨#[97]⟩ : ByteArray)⟩ : S36) )) (Reps.none _ _))); intro v178 w15 ho16 hb hg_ hnew_; clear hg_ hnew_; (first | rw [← Ny177.out] at ho16 | (simp only [Int.reduceToNat] at ho16; rw [← Ny177.out] at ho16)); have n0_ := Aside0.mk (Kd.R_lower ho16 (below_size (by repeat (first | (with_reducible first | exact HB.out | apply below_alloc | apply pw_below_drewN | apply below_drew1) | exact HB.out)))); have n1_ := Aside0.mk (below_step (by repeat (first | (with_reducible first | exact HB.out | apply below_alloc | apply pw_below_drewN | apply below_drew1) | exact HB.out)) hb); clear HB; have HO179 := n0_; have HB := n1_; clear n0_ n1_; clear hb ho16; obtain ⟨Ao17, co17, eo17⟩ := Kd.R_slice HO179.out; subst eo17) | ((with_reducible refine gate_callee (f := 7) rfl ?_); refine goesL_ (some 14) rfl rfl Tryd.func7 (by kernel_rfl) rfl #[.slice Ao17 y177.length co17] rfl (by (try simp only [List.map_toArray, List.map_cons, List.map_nil]); first | done | rfl | (simp only [List.length_drop, List.length_take]; rfl)) ?_; (with_reducible refine (pax_Print.calls k _ _ y177 t180 t181 _ ?side3 ?side1 ?side2 A1.out).mono ?_); (case side1 => repeat (first | exact (Kd.R_reads' HO179.out).2.2 | (with_reducible refine Kd.C_alloc ?_ _) | (with_reducible refine Kd.C_drewN ?_ _) | (with_reducible refine Kd.C_drew ?_))); (case side2 => exact (Kd.R_reads' HO179.out).2.1); (case side3 => exact Gv_below HG.out (by repeat (first | (with_reducible first | exact HB.out | apply below_alloc | apply pw_below_drewN | apply below_drew1) | exact HB.out))); rintro e w18 ⟨v182, rfl, ho0, hb⟩; refine ⟨_, rfl, ?_⟩; have n0_ := Aside0.mk (Kd.R_below (by (with_reducible repeat (first | apply Kd.R_alloc | apply Kd.R_drewN | apply Kd.R_drew)); exact HO179.out) hb); have n1_ := Aside0.mk (Kd.R_lower ho0 (below_size (by repeat (first | (with_reducible first | exact HB.out | apply below_alloc | apply pw_below_drewN | apply below_drew1) | exact HB.out)))); have n2_ := Aside0.mk (below_step (by repeat (first | (with_reducible first | exact HB.out | apply below_alloc | apply pw_below_drewN | apply below_drew1) | exact HB.out)) hb); clear HO179; clear HB; have HO179 := n0_; have HO183 := n1_; have HB := n2_; clear n0_ n1_ n2_; (try clear hb); (try clear hb2); (try clear hk); (try clear hi); (try clear ho0)) | ((with_reducible refine gate_dst (N := 19) rfl ?_); (try (refine gate_guard (by rfl) ?_; dsimp only)); refine Kd.V_mark _ 5 rfl (N' := 19) rfl 24 (.tmp 18) ([53, 32, 97, 61, 10] : List Int) _ rfl _ rfl rfl (by first | rfl | (simp; done)) Tryd.underlying24 Tryd.underlying5 (ok := (fun k_ => some k_ ≠ (.slice Ao17 y177.length co17 : Value).ownBlock ∧ some k_ ≠ (v182 : Value).ownBlock)) (fun k_ hk => ⟨Kd.fresh' (Kd.R_lt (by (with_reducible repeat (first | apply Kd.R_alloc | apply Kd.R_drewN | apply Kd.R_drew)); exact HO179.out)) k_ hk, Kd.fresh' (Kd.R_lt (by (with_reducible repeat (first | apply Kd.R_alloc | apply Kd.R_drewN | apply Kd.R_drew)); exact HO183.out)) k_ hk⟩) (by decide) (Below.refl _ _) (Nat.le_refl _) ?_; intro v185 w19 ho20 hb hg_ hnew_; clear hg_ hnew_; (first | rw [← Ny184.out] at ho20 | (simp only [Int.reduceToNat] at ho20; rw [← Ny184.out] at ho20)); have n0_ := Aside0.mk (Kd.R_below (by (with_reducible repeat (first | apply Kd.R_alloc | apply Kd.R_drewN | apply Kd.R_drew)); exact HO179.out) hb); have n1_ := Aside0.mk (Kd.R_below (by (with_reducible repeat (first | apply Kd.R_alloc | apply Kd.R_drewN | apply Kd.R_drew)); exact HO183.out) hb); have n2_ := Aside0.mk (Kd.V_lower ho20 (below_size (by repeat (first | (with_reducible first | exact HB.out | apply below_alloc | apply pw_below_drewN | apply below_drew1) | exact HB.out)))); have n3_ := Aside0.mk (below_step (by repeat (first | (with_reducible first | exact HB.out | apply below_alloc | apply pw_below_drewN | apply below_drew1) | exact HB.out)) hb); clear HO179; clear HO183; clear HB; have HO179 := n0_; have HO183 := n1_; have HO186 := n2_; have HB := n3_; clear n0_ n1_ n2_ n3_; clear hb ho20; obtain ⟨Ao21, co21, eo21⟩ := Kd.V_slice HO186.out; subst eo21) | ((with_reducible refine gate_callee (f := 32) rfl ?_); refine goesL_ (some 20) rfl rfl Tryd.func32 (by kernel_rfl) rfl #[.slice Ao21 y184.length co21] rfl (by (try simp only [List.map_toArray, List.map_cons, List.map_nil]); first | done | rfl | (simp only [List.length_drop, List.length_take]; rfl)) ?_; (with_reducible refine (pax_Parse.calls k _ _ y184 t187 t188 t189 _ ?side3 ?side1 ?side2 A2.out).mono ?_); (case side1 => repeat (first | exact (Kd.V_reads' HO186.out).2.2 | (with_reducible refine Kd.C_alloc ?_ _) | (with_reducible refine Kd.C_drewN ?_ _) | (with_reducible refine Kd.C_drew ?_))); (case side2 => exact (Kd.V_reads' HO186.out).2.1); (case side3 => exact Gv_below HG.out (by repeat (first | (with_reducible first | exact HB.out | apply below_alloc | apply pw_below_drewN | apply below_drew1) | exact HB.out))); rintro e w22 ⟨v190, rfl, ho0, hb⟩; refine ⟨_, rfl, ?_⟩; have n0_ := Aside0.mk (Kd.R_elder' (by (with_reducible repeat (first | apply Kd.R_alloc | apply Kd.R_drewN | apply Kd.R_drew)); exact HO179.out) (Kd.R_base ho0) hb); have n1_ := Aside0.mk (Kd.R_below (by (with_reducible repeat (first | apply Kd.R_alloc | apply Kd.R_drewN | apply Kd.R_drew)); exact HO183.out) hb); have n2_ := Aside0.mk (Kd.V_elder' (by (with_reducible repeat (first | apply Kd.V_alloc | apply Kd.V_drewN | apply Kd.V_drew)); exact HO186.out) (Kd.R_base ho0) hb); have n3_ := Aside0.mk (Kd.R_lower (Kd.R_new' ho0 (Kd.R_lt (by (with_reducible repeat (first | apply Kd.R_alloc | apply Kd.R_drewN | apply Kd.R_drew)); exact HO179.out))) (below_size (by repeat (first | (with_reducible first | exact HB.out | apply below_alloc | apply pw_below_drewN | apply below_drew1) | exact HB.out)))); have n4_ := Aside0.mk (below_step (by repeat (first | (with_reducible first | exact HB.out | apply below_alloc | apply pw_below_drewN | apply below_drew1) | exact HB.out)) hb); clear HO179; clear HO183; clear HO186; clear HB; have HO179 := n0_; have HO183 := n1_; have HO186 := n2_; have HO191 := n3_; have HB := n4_; clear n0_ n1_ n2_ n3_ n4_; (try clear hb); (try clear hb2); (try clear hk); (try clear hi); (try clear ho0)) | ((with_reducible refine gate_callee (f := 33) rfl ?_); refine goesL_ (some 25) rfl rfl Tryd.func33 (by kernel_rfl) rfl #[.string (⟨#[45, 49, 46, 53]⟩ : ByteArray)] rfl (by (try simp only [List.map_toArray, List.map_cons, List.map_nil]); first | done | rfl | (simp only [List.length_drop, List.length_take]; rfl)) ?_; (with_reducible refine (pax_Time.calls k (⟨#[45, 49, 46, 53]⟩ : ByteArray) t192 t193 t194 _ ?side1 A3.out).mono ?_); (case side1 => exact Gv_below HG.out (by repeat (first | (with_reducible first | exact HB.out | apply below_alloc | apply pw_below_drewN | apply below_drew1) | exact HB.out))); rintro e w23 ⟨rfl, hb⟩; refine ⟨_, rfl, ?_⟩; have n0_ := Aside0.mk (Kd.R_below (by (with_reducible repeat (first | apply Kd.R_alloc | apply Kd.R_drewN | apply Kd.R_drew)); exact HO179.out) hb); have n1_ := Aside0.mk (Kd.R_below (by (with_reducible repeat (first | apply Kd.R_alloc | apply Kd.R_drewN | apply Kd.R_drew)); exact HO183.out) hb); have n2_ := Aside0.mk (Kd.V_below (by (with_reducible repeat (first | apply Kd.V_alloc | apply Kd.V_drewN | apply Kd.V_drew)); exact HO186.out) hb); have n3_ := Aside0.mk (Kd.R_below (by (with_reducible repeat (first | apply Kd.R_alloc | apply Kd.R_drewN | apply Kd.R_drew)); exact HO191.out) hb); have n4_ := Aside0.mk (below_step (by repeat (first | (with_reducible first | exact HB.out | apply below_alloc | apply pw_below_drewN | apply below_drew1) | exact HB.out)) hb); clear HO179; clear HO183; clear HO186; clear HO191; clear HB; have HO179 := n0_; have HO183 := n1_; have HO186 := n2_; have HO191 := n3_; have HB := n4_; clear n0_ n1_ n2_ n3_ n4_; (try clear hb); (try clear hb2); (try clear hk); (try clear hi)) | ((with_reducible refine gate_callee (f := 34) rfl ?_); refine goesL_ (some 30) rfl rfl Tryd.func34 (by kernel_rfl) rfl #[.int .i64 (-1), .int .i32 500000000] rfl (by (try simp only [List.map_toArray, List.map_cons, List.map_nil]); first | done | rfl | (simp only [List.length_drop, List.length_take]; rfl)) ?_; (with_reducible refine (pax_PutTime.calls k (-1) 500000000 t195 t196 _ ?side1 A4.out).mono ?_); (case side1 => exact Gv_below HG.out (by repeat (first | (with_reducible first | exact HB.out | apply below_alloc | apply pw_below_drewN | apply below_drew1) | exact HB.out))); rintro e w24 ⟨rfl, hb⟩; refine ⟨_, rfl, ?_⟩; have n0_ := Aside0.mk (Kd.R_below (by (with_reducible repeat (first | apply Kd.R_alloc | apply Kd.R_drewN | apply Kd.R_drew)); exact HO179.out) hb); have n1_ := Aside0.mk (Kd.R_below (by (with_reducible repeat (first | apply Kd.R_alloc | apply Kd.R_drewN | apply Kd.R_drew)); exact HO183.out) hb); have n2_ := Aside0.mk (Kd.V_below (by (with_reducible repeat (first | apply Kd.V_alloc | apply Kd.V_drewN | apply Kd.V_drew)); exact HO186.out) hb); have n3_ := Aside0.mk (Kd.R_below (by (with_reducible repeat (first | apply Kd.R_alloc | apply Kd.R_drewN | apply Kd.R_drew)); exact HO191.out) hb); have n4_ := Aside0.mk (below_step (by repeat (first | (with_reducible first | exact HB.out | apply below_alloc | apply pw_below_drewN | apply below_drew1) | exact HB.out)) hb); clear HO179; clear HO183; clear HO186; clear HO191; clear HB; have HO179 := n0_; have HO183 := n1_; have HO186 := n2_; have HO191 := n3_; have HB := n4_; clear n0_ n1_ n2_ n3_ n4_; (try clear hb); (try clear hb2); (try clear hk); (try clear hi); have hcv25 := own_string (P := Tryd.prog) Tryd.underlying24 Tryd.underlying5 Tryd.underlying9 (Kd.own_of_R HO183.out); obtain ⟨Ao26, co26, eo26⟩ := Kd.R_slice HO191.out; subst eo26; have p197 : 0 ≤ (0 : Int) := (by omega); have q197 : 0 < (t187.length : Int) := of_decide_eq_true (by first | (with_reducible assumption) | assumption); obtain ⟨ad197, e197, hx197_0, hx197_1⟩ := at_T36 (Kd.R_reads' HO191.out).2.2 0 p197 q197; cases e197; have qi197 : (0 < t187.length) = True := eq_true (by omega); (try rw [show ((0 : Int)).toNat = 0 from rfl] at hx197_0); (try rw [show 0 * 2 = 0 from rfl] at hx197_0); (try rw [Addr.add_zero'] at hx197_0); (try rw [show ((0 : Int)).toNat = 0 from rfl] at hx197_1); (try rw [show 0 * 2 = 0 from rfl] at hx197_1); (try rw [Addr.add_zero'] at hx197_1); replace p197 := eq_true p197; replace q197 := eq_true q197))
                      go_ret
                      exact ⟨by first | rfl | (simp [errW_none, errW_some] <;> rfl) | (simp [*, errW_none, errW_some] <;> rfl), by repeat (first | (with_reducible first | exact HB.out | apply below_alloc | apply pw_below_drewN | apply below_drew1) | exact HB.out)⟩
                    · rw [if_neg c14] at H
                      cases H
                  · rw [if_neg c13] at H
                    cases H
                · rw [if_neg c12] at H
                  cases H
              · rw [if_neg c11] at H
                cases H
            · rw [if_neg c10] at H
              cases H
          · rw [if_neg c9] at H
            cases H
        · rw [if_neg c8] at H
          cases H
      · rw [if_neg c7] at H
        cases H
    · rw [if_neg c6] at H
      cases H
  · rw [if_neg c5] at H
    cases H
end Go.Proofs.YtpaghdfnhlpngaaDoor.PPaxMerged
