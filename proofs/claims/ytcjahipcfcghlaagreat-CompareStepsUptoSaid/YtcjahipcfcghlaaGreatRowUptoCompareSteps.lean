-- WRITTEN BY wip/uprow.py, a program of the proving session; Lean checks it.
/- THE LAW CompareSteps, WHERE ITS ARGUMENTS ARE OF BULK AT MOST 1048576: it returns true, and what was handed in reads as before. -/
import Derived.Test.YtcjahipcfcghlaaGreatRows
import Derived.Test.YtcjahipcfcghlaaGreatStepsLaw
import Derived.Test.YtcjahipcfcghlaaGreatXOpen
import Derived.WalkKit
import Derived.ProofKit
import Derived.OpenShut
import Derived.ShutString
import Derived.ChangeOld
import Derived.Below
import Derived.SizedLaws
import Derived.JoinedCond
namespace Go.Proofs.YtcjahipcfcghlaaGreat.compareStepsUpto
open Go.ChangeShapes Go.WideShapes Go.ChangeAt Go.RowKit Go.Proofs.YtcjahipcfcghlaaGreatX Go.Proofs.YtcjahipcfcghlaaGreatW.PrintWords Go.Proofs.YtcjahipcfcghlaaGreat.PCompareSteps
open Go.ChangeMaps (open_string shut_string)
set_option linter.unusedVariables false
theorem own : ownKnob Tryz.prog.godebug = none := by kernel_rfl
theorem laidOut : laidOutB Tryz.prog = true := by kernel_rfl
def good38 (x : S38) : Prop := ((Lit.int .u32 x.f0).wf = true) ∧ ((Lit.int .u32 x.f1).wf = true) ∧ ((Lit.int .u32 x.f2).wf = true) ∧ ((Lit.int .i64 x.f3).wf = true) ∧ ((Lit.int .i32 x.f4).wf = true)
def wt38 (x : S38) : Nat := (1 + (1 + (1 + (1 + 1)))) + 1
theorem open38 : Opens Tryz.prog 38 k38 good38 wt38 := Opens.struct Tryz.underlying38 (by kernel_rfl) (OpensF.cons (Opens.int Tryz.underlying36 (by kernel_rfl)) rfl (OpensF.cons (Opens.int Tryz.underlying36 (by kernel_rfl)) rfl (OpensF.cons (Opens.int Tryz.underlying36 (by kernel_rfl)) rfl (OpensF.cons (Opens.int Tryz.underlying2 (by kernel_rfl)) rfl (OpensF.one (Opens.int Tryz.underlying21 (by kernel_rfl)) rfl))))) (fun x : S38 => (x.f0, x.f1, x.f2, x.f3, x.f4)) (fun p => ⟨p.1, p.2.1, p.2.2.1, p.2.2.2.1, p.2.2.2.2⟩) (fun _ => rfl)
def good46 (x : S46) : Prop := (x.f0.size ≤ maxLen) ∧ ((Lit.int .i64 x.f1).wf = true) ∧ (good38 x.f2) ∧ ((Lit.int .i64 x.f3).wf = true) ∧ ((Lit.int .u64 x.f4).wf = true) ∧ (x.f5.size ≤ maxLen)
def wt46 (x : S46) : Nat := ((x.f0.size + 1) + (1 + (wt38 x.f2 + (1 + (1 + (x.f5.size + 1)))))) + 1
theorem open46 : Opens Tryz.prog 46 k46 good46 wt46 := Opens.struct Tryz.underlying46 (by kernel_rfl) (OpensF.cons (Opens.string Tryz.underlying9 (by kernel_rfl)) rfl (OpensF.cons (Opens.int Tryz.underlying3 (by kernel_rfl)) rfl (OpensF.cons open38 rfl (OpensF.cons (Opens.int Tryz.underlying2 (by kernel_rfl)) rfl (OpensF.cons (Opens.int Tryz.underlying44 (by kernel_rfl)) rfl (OpensF.one (Opens.string Tryz.underlying9 (by kernel_rfl)) rfl)))))) (fun x : S46 => (x.f0, x.f1, x.f2, x.f3, x.f4, x.f5)) (fun p => ⟨p.1, p.2.1, p.2.2.1, p.2.2.2.1, p.2.2.2.2.1, p.2.2.2.2.2⟩) (fun _ => rfl)
set_option maxRecDepth 100000 in
theorem lifted (os : Os) (started : os.Started) (H : Type) (enc : TypeId × Value → H) (F : Stop.Interp) :
    ReturnsInHanded {} Tryz.checked os 4 .any ((Rows.OpenSpec.upto Rows.compareStepsSpec).pre6 enc Tryz.prog Tryz.f4 Rows.compareStepsUptoRow.domain false) (((Rows.OpenSpec.upto Rows.compareStepsSpec).at F).post enc Tryz.prog Tryz.f4 false true false false) := by
  refine returnsInHanded_of_cond (C := Tryz.checked) (s := Rows.OpenSpec.upto Rows.compareStepsSpec) (k := Rows.uptoSmall) rfl own started (by kernel_rfl) Tryz.func4
    (OpenSpec.witness (enc := enc) (C := Tryz.checked) (s := Rows.OpenSpec.upto Rows.compareStepsSpec) (k := Rows.uptoSmall) rfl false ⟨#[], #[.slice none 0 0, .slice none 0 0, .slice none 0 0], []⟩ 8 (by kernel_rfl) (by kernel_rfl) (by kernel_rfl)
      (x := ([.nil, .nil, .nil], [], [])) (by kernel_rfl) rfl (by kernel_rfl)) ?_
  intro W base args ds gs before hval0 hW hcnd hk _
  have hval : ∀ (j : Nat) t v, Tryz.f4.params[j]? = some t → args[j]? = some v → Value.okWide Tryz.prog W .any base t v := hval0
  have hW' := hW
  obtain ⟨p, q, hA0, hV, rfl, hfz, hnd⟩ := hW
  have hA : DataW.TrodAll enc Tryz.prog W 0 (fun _ => true) true Tryz.f4.params.toList args.toList ds p := hA0
  rw [Tryz.params4] at hA hval
  obtain ⟨v0, vs0, d0, ds0, p0, q0, hargs, rfl, rfl, h0, r0⟩ := trodAll_cons hA
  obtain ⟨v1, vs1, d1, ds1, p1, q1, rfl, rfl, rfl, h1, r1⟩ := trodAll_cons r0
  obtain ⟨v2, vs2, d2, ds2, p2, q2, rfl, rfl, rfl, h2, r2⟩ := trodAll_cons r1
  obtain ⟨rfl, rfl, rfl⟩ := trodAll_nil r2
  obtain rfl : args = #[v0, v1, v2] := by cases args; simp_all
  obtain ⟨rfl, rfl⟩ := trodVars_none hV
  have hbk : Rows.uptoBulkAll ([d0, d1, d2] ++ []) ≤ 1048576 := of_decide_eq_true hk
  simp only [List.append_nil, Rows.uptoBulkAll] at hbk
  obtain ⟨a0, len0, cap0, rfl⟩ := okWide_slice Tryz.underlying22 (hval 0 22 v0 rfl rfl)
  have k0 := h0
  have lt0 : ∀ x ∈ p0, x.block < W.heap.size := by obtain ⟨m, hm⟩ := k0; exact DataW.trod_lt m _ _ _ hm
  obtain ⟨A0, c0, l0, e0, hc0, hr0, g0, b0⟩ := Opens.arg_slice (Opens.slice Tryz.underlying22 (by kernel_rfl) open46) rfl h0
  simp only [Value.slice.injEq] at e0
  obtain ⟨rfl, rfl, rfl⟩ := e0
  obtain ⟨a1, len1, cap1, rfl⟩ := okWide_slice Tryz.underlying22 (hval 1 22 v1 rfl rfl)
  have k1 := h1
  have lt1 : ∀ x ∈ p1, x.block < W.heap.size := by obtain ⟨m, hm⟩ := k1; exact DataW.trod_lt m _ _ _ hm
  obtain ⟨A1, c1, l1, e1, hc1, hr1, g1, b1⟩ := Opens.arg_slice (Opens.slice Tryz.underlying22 (by kernel_rfl) open46) rfl h1
  simp only [Value.slice.injEq] at e1
  obtain ⟨rfl, rfl, rfl⟩ := e1
  obtain ⟨a2, len2, cap2, rfl⟩ := okWide_slice Tryz.underlying22 (hval 2 22 v2 rfl rfl)
  have k2 := h2
  have lt2 : ∀ x ∈ p2, x.block < W.heap.size := by obtain ⟨m, hm⟩ := k2; exact DataW.trod_lt m _ _ _ hm
  obtain ⟨A2, c2, l2, e2, hc2, hr2, g2, b2⟩ := Opens.arg_slice (Opens.slice Tryz.underlying22 (by kernel_rfl) open46) rfl h2
  simp only [Value.slice.injEq] at e2
  obtain ⟨rfl, rfl, rfl⟩ := e2
  clear hA0 hval0
  have n0 := wtAll_len (wt := wt46) (fun x => by simp [wt46]) l0
  have n1 := wtAll_len (wt := wt46) (fun x => by simp [wt46]) l1
  have n2 := wtAll_len (wt := wt46) (fun x => by simp [wt46]) l2
  obtain ⟨k_, h⟩ := StepsLaw.law l0 l1 l2 (by omega) (by omega) (by omega) (fun x hx => (g0 x hx).1) (fun x hx => (g1 x hx).1) (fun x hx => (g2 x hx).1)
  refine (PCompareSteps.satchellaw24_CompareSteps.calls k_ _ _ l0 _ _ l1 _ _ l2 true W hr0 hc0 hr1 hc1 hr2 hc2 h).mono ?_
  rintro e W' ⟨rfl, bel⟩
  exact ⟨_, rfl, _, _, _, [], _, [], hW', trodAll_mk1 (shut_bool Tryz.underlying4 _), (trodAll_cons_mk (Below.trod laidOut (by kernel_rfl) (of_decide_eq_true (by kernel_rfl)) k0 bel lt0) (trodAll_cons_mk (Below.trod laidOut (by kernel_rfl) (of_decide_eq_true (by kernel_rfl)) k1 bel lt1) (trodAll_cons_mk (Below.trod laidOut (by kernel_rfl) (of_decide_eq_true (by kernel_rfl)) k2 bel lt2) trodAll_mk0))), rfl, bel.frame _, fun h => by cases h⟩
theorem over : Rows.compareStepsUptoRow.holds Tryz.pinned (Rows.OpenSpec.upto Rows.compareStepsSpec) :=
  OpenClaim.holds_of_cond 4 Tryz.f4 rfl rfl rfl rfl rfl rfl rfl ⟨rfl, rfl, rfl, rfl, rfl⟩ rfl rfl rfl rfl rfl (by kernel_rfl) Tryz.func4 (by kernel_rfl)
    (of_decide_eq_true (by kernel_rfl)) (by unfold Func.isWrapper; first | (rw [if_pos (by decide +kernel)]; kernel_rfl) | (rw [if_neg (by decide +kernel)]; exact ⟨rfl, rfl⟩))
    (fun os started H enc _ F => lifted os started H enc F)
theorem proved : Rows.CompareStepsUptoSaid := over
#print axioms proved
end Go.Proofs.YtcjahipcfcghlaaGreat.compareStepsUpto
namespace Go.Proofs.YtcjahipcfcghlaaGreat
/-- The row, under a short name, for the claim. -/
theorem compareStepsUpto_holds : Rows.CompareStepsUptoSaid := compareStepsUpto.proved
end Go.Proofs.YtcjahipcfcghlaaGreat
