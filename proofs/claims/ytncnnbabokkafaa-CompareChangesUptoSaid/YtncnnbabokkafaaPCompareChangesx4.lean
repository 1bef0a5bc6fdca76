-- WRITTEN BY wip/xprint.py, a program of the proving session round the kit's print.py; Lean checks it.
import Derived.Test.YtncnnbabokkafaaPCompareChangesx0
namespace Go.Proofs.Ytncnnbabokkafaa.PCompareChanges
open Go.Proofs.YtncnnbabokkafaaX
open Go.RowKit Go.Proofs.YtncnnbabokkafaaW.PrintWords Go.Proofs.YtncnnbabokkafaaW.PrintLast Go.Proofs.YtncnnbabokkafaaW.PrintMore
attribute [local go_sem] str_leq str_gtr max2_int min2_int max_two min_two max_three min_three max_four min_four   -- for this text's walks alone
set_option linter.unusedVariables false
set_option linter.unusedSimpArgs false

/-! ### satchellaw24_hand: function 4 -/
def satchellaw24_hand.f (l0 : List (S33)) : Option ((List (S33))) := (some (([] : List (S33)) : List (S33))).bind fun y101 => (if y101.length + l0.length < 1599289640401 then ((some (y101 ++ l0 : List (S33))).bind fun y104 => (if y104.length < 1599289640401 then (some (y104 ++ [(⟨(⟨#[98, 101, 104, 105, 110, 100]⟩ : ByteArray), 0, (⟨0, 0, 0, 0, 0⟩ : S30), 0, 0, (⟨#[]⟩ : ByteArray)⟩ : S33)])) else (none))) else (none))
set_option maxHeartbeats 8000000 in
set_option maxRecDepth 100000 in
theorem satchellaw24_hand.calls (A0 : Option Addr) (c0 : Nat) (l0 : List (S33)) (r : List (S33)) (w : World) (hr0 : Kd.C k33 w A0 l0.length l0) (hc0 : l0.length ≤ c0) (h : satchellaw24_hand.f l0 = some r) :
    Calls Try.prog 4 #[.slice A0 l0.length c0] w fun e w' => ∃ v0_ : Value, e = .returned (v0_) ∧ Kd.R k33 33 w' w.heap.size (fun _ => True) v0_ r ∧ Below w.heap.size w w' := by
  have hu33 := Try.underlying33
  have HR0 := Aside0.mk hr0
  have HC0 := Aside0.mk hc0
  clear hr0 hc0
  have HB := Aside0.mk (Below.refl w.heap.size w)
  have H : ((some (([] : List (S33)) : List (S33))).bind fun y101 => (if y101.length + l0.length < 1599289640401 then ((some (y101 ++ l0 : List (S33))).bind fun y104 => (if y104.length < 1599289640401 then (some (y104 ++ [(⟨(⟨#[98, 101, 104, 105, 110, 100]⟩ : ByteArray), 0, (⟨0, 0, 0, 0, 0⟩ : S30), 0, 0, (⟨#[]⟩ : ByteArray)⟩ : S33)])) else (none))) else (none))) = some r := h
  clear h
  obtain ⟨y101, hy101⟩ : ∃ y_ : List (S33), y_ = (([] : List (S33))) := ⟨_, rfl⟩
  replace H : (if y101.length + l0.length < 1599289640401 then ((some (y101 ++ l0 : List (S33))).bind fun y104 => (if y104.length < 1599289640401 then (some (y104 ++ [(⟨(⟨#[98, 101, 104, 105, 110, 100]⟩ : ByteArray), 0, (⟨0, 0, 0, 0, 0⟩ : S30), 0, 0, (⟨#[]⟩ : ByteArray)⟩ : S33)])) else (none))) else (none)) = some r := by first | (rw [hy101]; with_reducible exact H) | (have H2_ := (Option.bind_some _ _).symm.trans H; rw [hy101]; with_reducible exact H2_) | (have H2_ := (Option.bind_some _ _).symm.trans H; with_reducible exact H2_) | with_reducible exact H | (rw [hy101]; exact H) | exact H
  have Ny101 := Aside0.mk hy101
  clear hy101
  by_cases c2 : y101.length + l0.length < 1599289640401
  · rw [if_pos c2] at H
    have LMc2 := Aside0.mk c2
    clear c2
    obtain ⟨y104, hy104⟩ : ∃ y_ : List (S33), y_ = (y101 ++ l0) := ⟨_, rfl⟩
    replace H : (if y104.length < 1599289640401 then (some (y104 ++ [(⟨(⟨#[98, 101, 104, 105, 110, 100]⟩ : ByteArray), 0, (⟨0, 0, 0, 0, 0⟩ : S30), 0, 0, (⟨#[]⟩ : ByteArray)⟩ : S33)])) else (none)) = some r := by first | (rw [hy104]; with_reducible exact H) | (have H2_ := (Option.bind_some _ _).symm.trans H; rw [hy104]; with_reducible exact H2_) | (have H2_ := (Option.bind_some _ _).symm.trans H; with_reducible exact H2_) | with_reducible exact H | (rw [hy104]; exact H) | exact H
    have Ny104 := Aside0.mk hy104
    clear hy104
    by_cases c3 : y104.length < 1599289640401
    · rw [if_pos c3] at H
      have LMc3 := Aside0.mk c3
      clear c3
      obtain ⟨y107, hy107⟩ : ∃ y_ : List (S33), y_ = (y104 ++ [(⟨(⟨#[98, 101, 104, 105, 110, 100]⟩ : ByteArray), 0, (⟨0, 0, 0, 0, 0⟩ : S30), 0, 0, (⟨#[]⟩ : ByteArray)⟩ : S33)]) := ⟨_, rfl⟩
      replace H : (some y107) = some r := by first | (rw [hy107]; with_reducible exact H) | (have H2_ := (Option.bind_some _ _).symm.trans H; rw [hy107]; with_reducible exact H2_) | (have H2_ := (Option.bind_some _ _).symm.trans H; with_reducible exact H2_) | with_reducible exact H | (rw [hy107]; exact H) | exact H
      have Ny107 := Aside0.mk hy107
      clear hy107
      obtain rfl := Option.some.inj H
      go_enter Try.func4, Try.ntmps4
      go_wp2_with (first | ((with_reducible refine gate_dst (N := 3) rfl ?_); refine Kd.R_lit k33 _ 33 ?hg (N := 3) ?hd (xs := ([] : List (S33))) (inner := []) (ok := fun _ => True) (okp := fun _ => True) ?hr ?hp (fun _ hk => hk) trivial (Below.refl _ _) (Nat.le_refl _) (by simp) ?_; (case hd => rfl); (case hg => rfl); (case hr => first | (go_simp; done) | (go_simp; rfl)); (case hp => exact (Reps.none _ _)); intro v102 w4 ho5 hb hg_ hnew_; clear hg_ hnew_; (first | rw [← Ny101.out] at ho5 | (simp only [Int.reduceToNat] at ho5; rw [← Ny101.out] at ho5)); have n0_ := Aside0.mk (Kd.R_lower ho5 (below_size (by repeat (first | (with_reducible first | exact HB.out | apply below_alloc | apply pw_below_drewN | apply below_drew1) | exact HB.out)))); have n1_ := Aside0.mk (below_step (by repeat (first | (with_reducible first | exact HB.out | apply below_alloc | apply pw_below_drewN | apply below_drew1) | exact HB.out)) hb); clear HB; have HO103 := n0_; have HB := n1_; clear n0_ n1_; clear hb ho5) | ((with_reducible refine gate_builtin (b := .append) (xs := #[.tmp 3, .tmp 4]) rfl ?_); at_builtin; refine Kd.R_append_rows k33 (w0 := w) w.heap.size rfl (.tmp 3) (.tmp 4) 22 33 (.agg #[(.string ⟨#[]⟩), (.int .i64 0), (.int .u32 0), (.int .u32 0), (.int .u32 0), (.int .i64 0), (.int .i32 0), (.int .i64 0), (.int .u64 0), (.string ⟨#[]⟩)]) 88 rfl Try.underlying22 info33 rfl (by decide) (by omega) v102 y101 l0 _ _ _ (fun _ => True) (fun _ => False) rfl rfl ?aO ?aR (fun _ _ h => h) (fun _ h => h.elim) ?aF ?aB ?aS ?aL ?_; (case aR => repeat (first | exact (Kd.C_below HR0.out HB.out) | (with_reducible refine Kd.C_alloc ?_ _) | (with_reducible refine Kd.C_drewN ?_ _) | (with_reducible refine Kd.C_drew ?_))); (case aB => exact (by repeat (first | (with_reducible first | exact HB.out | apply below_alloc | apply pw_below_drewN | apply below_drew1) | exact HB.out))); (case aF => exact (fun _ _ => trivial)); (case aO => exact (by (with_reducible repeat (first | apply Kd.R_alloc | apply Kd.R_drewN | apply Kd.R_drew)); exact HO103.out)); (case aS => exact (below_size (by repeat (first | (with_reducible first | exact HB.out | apply below_alloc | apply pw_below_drewN | apply below_drew1) | exact HB.out)))); (case aL => have := LMc2.out; omega); intro v105 w6 ho hb hg hat; rw [← Ny104.out] at ho; have n0_ := Aside0.mk (hb); have n1_ := Aside0.mk (ho); clear HB; clear HO103; have HB := n0_; have HO106 := n1_; clear n0_ n1_; clear ho hb hg hat) | ((with_reducible refine gate_builtin (b := .append) (xs := #[.tmp 5, .tmp 7]) rfl ?_); at_builtin; refine Kd.R_append k33 (w0 := w) w.heap.size rfl (.tmp 5) (.tmp 7) 22 33 (.agg #[(.string ⟨#[]⟩), (.int .i64 0), (.int .u32 0), (.int .u32 0), (.int .u32 0), (.int .i64 0), (.int .i32 0), (.int .i64 0), (.int .u64 0), (.string ⟨#[]⟩)]) 88 rfl Try.underlying22 info33 rfl (by decide) (by omega) v105 y104 (⟨(⟨#[98, 101, 104, 105, 110, 100]⟩ : ByteArray), 0, (⟨0, 0, 0, 0, 0⟩ : S30), 0, 0, (⟨#[]⟩ : ByteArray)⟩ : S33) [.string (⟨#[98, 101, 104, 105, 110, 100]⟩ : ByteArray), .int .i64 0, .int .u32 0, .int .u32 0, .int .u32 0, .int .i64 0, .int .i32 0, .int .i64 0, .int .u64 0, .string (⟨#[]⟩ : ByteArray)] (fun _ => True) (fun _ => False) rfl rfl ?aP (fun _ hk => hk.elim) ?aF ?aO ?aB ?aS ?aL ?_; (case aP => exact k33_mkM _ _ _ (⟨(⟨#[98, 101, 104, 105, 110, 100]⟩ : ByteArray), 0, (⟨0, 0, 0, 0, 0⟩ : S30), 0, 0, (⟨#[]⟩ : ByteArray)⟩ : S33)); (case aB => exact (by repeat (first | (with_reducible first | exact HB.out | apply below_alloc | apply pw_below_drewN | apply below_drew1) | exact HB.out))); (case aF => exact (fun _ _ => trivial)); (case aO => exact (by (with_reducible repeat (first | apply Kd.R_alloc | apply Kd.R_drewN | apply Kd.R_drew)); exact HO106.out)); (case aS => exact (below_size (by repeat (first | (with_reducible first | exact HB.out | apply below_alloc | apply pw_below_drewN | apply below_drew1) | exact HB.out)))); (case aL => have := LMc3.out; omega); intro v108 w7 ho hb hg hat; rw [← Ny107.out] at ho; have n0_ := Aside0.mk (hb); have n1_ := Aside0.mk (ho); clear HB; clear HO106; have HB := n0_; have HO109 := n1_; clear n0_ n1_; clear ho hb hg hat))
      go_ret
      exact ⟨_, by first | rfl | (simp [errW_none, errW_some] <;> rfl) | (simp [*, errW_none, errW_some] <;> rfl), by (with_reducible repeat (first | apply Kd.R_alloc | apply Kd.R_drewN | apply Kd.R_drew)); exact HO109.out, by repeat (first | (with_reducible first | exact HB.out | apply below_alloc | apply pw_below_drewN | apply below_drew1) | exact HB.out)⟩
    · rw [if_neg c3] at H
      exact absurd H (by simp)
  · rw [if_neg c2] at H
    exact absurd H (by simp)

end Go.Proofs.Ytncnnbabokkafaa.PCompareChanges
