-- WRITTEN BY wip/uprow.py, a program of the proving session; Lean checks it.
/- THE LAW ApplyChecks, WHERE ITS ARGUMENTS ARE OF BULK AT MOST 1048576: it returns true, and what was handed in reads as before. -/
import Derived.Test.YtbebdhaceifmoaaDoorRows
import Derived.Test.YtbebdhaceifmoaaDoorApplyLaw
import Derived.Test.YtbebdhaceifmoaaDoorXOpen
import Derived.Test.YtbebdhaceifmoaaDoorCards
import Derived.Test.YtbebdhaceifmoaaDoorTie
import Derived.Test.YtbebdhaceifmoaaDoorXLaidS
import Derived.WalkKit
import Derived.ProofKit
import Derived.OpenShut
import Derived.ShutString
import Derived.ChangeOld
import Derived.Below
import Derived.SizedLaws
import Derived.JoinedCond
import Derived.Deep.DeepHandedRow
import Derived.Lib.LaidTab
namespace Go.Proofs.YtbebdhaceifmoaaDoor.applyChecksUpto
open Go.ChangeShapes Go.WideShapes Go.ChangeAt Go.RowKit Go.Proofs.YtbebdhaceifmoaaDoorX Go.Proofs.YtbebdhaceifmoaaDoorW.PrintWords Go.Proofs.YtbebdhaceifmoaaDoor.PApplyChecks
open Go.ChangeMaps (open_string shut_string)
set_option linter.unusedVariables false
theorem own : ownKnob Tryd.prog.godebug = none := by kernel_rfl
theorem laidOut : laidOutB Tryd.prog = true := by kernel_rfl

set_option maxRecDepth 100000 in
theorem contract (H : Type) (enc : TypeId × Value → H) (W : World) (base : Nat) (args : Array Value) (ds gs : List (DataW H)) (before : List MemPlace)
    (hval0 : ∀ (j : Nat) t v, Tryd.f3.params[j]? = some t → args[j]? = some v → Value.okWide Tryd.prog W .any base t v)
    (hW : DataW.Whole enc Tryd.prog Tryd.f3.params.toList Rows.applyChecksSpec.vars false W args.toList ds gs before)
    (hk : Rows.uptoSmall H (ds ++ gs) = true)
    (hL : laidMetH Tryd.prog Rows.applyChecksUptoRow.laid W) (hS : W.ShapedOpen Tryd.prog) :
    Calls Tryd.prog 3 args W fun e W' => ∃ v, e = .returned v ∧ Rows.applyChecksSpec.post enc Tryd.prog Tryd.f3 false true false false W args v W' := by
  have hval : ∀ (j : Nat) t v, Tryd.f3.params[j]? = some t → args[j]? = some v → Value.okWide Tryd.prog W .any base t v := hval0
  have hW' := hW
  obtain ⟨p, q, hA0, hV, rfl, hfz, hnd⟩ := hW
  have hA : DataW.TrodAll enc Tryd.prog W 0 (fun _ => true) true Tryd.f3.params.toList args.toList ds p := hA0
  rw [Tryd.params3] at hA hval
  obtain ⟨v0, vs0, d0, ds0, p0, q0, hargs, rfl, rfl, h0, r0⟩ := trodAll_cons hA
  obtain ⟨rfl, rfl, rfl⟩ := trodAll_nil r0
  obtain rfl : args = #[v0] := by cases args; simp_all
  obtain ⟨rfl, rfl⟩ := trodVars_none hV
  have hbk : Rows.uptoBulkAll ([d0] ++ []) ≤ 1048576 := of_decide_eq_true hk
  simp only [List.append_nil, Rows.uptoBulkAll] at hbk
  obtain ⟨cs0, rfl, _⟩ := okWide_struct Tryd.underlying31 (hval 0 31 v0 rfl rfl)
  have k0 := h0
  have lt0 : ∀ x ∈ p0, x.block < W.heap.size := by obtain ⟨m, hm⟩ := k0; exact DataW.trod_lt m _ _ _ hm
  obtain ⟨fu0, hf0⟩ := h0
  obtain ⟨y0, hy0, hg0, hw0⟩ := ((Opens.struct (P := Tryd.prog) (T := 31) Tryd.underlying31 (by kernel_rfl) (OpensF.cons (Opens.struct (P := Tryd.prog) (T := 26) Tryd.underlying26 (by kernel_rfl) (OpensF.cons (Opens.string (P := Tryd.prog) (T := 9) Tryd.underlying9 (by kernel_rfl)) rfl (OpensF.cons (Opens.int (P := Tryd.prog) (T := 3) Tryd.underlying3 (by kernel_rfl)) rfl (OpensF.cons (Opens.struct (P := Tryd.prog) (T := 24) Tryd.underlying24 (by kernel_rfl) (OpensF.cons (Opens.int (P := Tryd.prog) (T := 22) Tryd.underlying22 (by kernel_rfl)) rfl (OpensF.cons (Opens.int (P := Tryd.prog) (T := 22) Tryd.underlying22 (by kernel_rfl)) rfl (OpensF.cons (Opens.int (P := Tryd.prog) (T := 22) Tryd.underlying22 (by kernel_rfl)) rfl (OpensF.cons (Opens.int (P := Tryd.prog) (T := 2) Tryd.underlying2 (by kernel_rfl)) rfl (OpensF.one (Opens.int (P := Tryd.prog) (T := 21) Tryd.underlying21 (by kernel_rfl)) rfl))))) (fun x => x) (fun x => x) (fun _ => rfl)) rfl (OpensF.cons (Opens.string (P := Tryd.prog) (T := 9) Tryd.underlying9 (by kernel_rfl)) rfl (OpensF.cons (Opens.string (P := Tryd.prog) (T := 9) Tryd.underlying9 (by kernel_rfl)) rfl (OpensF.cons (Opens.string (P := Tryd.prog) (T := 9) Tryd.underlying9 (by kernel_rfl)) rfl (OpensF.cons (Opens.int (P := Tryd.prog) (T := 2) Tryd.underlying2 (by kernel_rfl)) rfl (OpensF.one (Opens.int (P := Tryd.prog) (T := 5) Tryd.underlying5 (by kernel_rfl)) rfl)))))))) (fun x => x) (fun x => x) (fun _ => rfl)) rfl (OpensF.cons (Opens.slice (P := Tryd.prog) (T := 27) Tryd.underlying27 (by kernel_rfl) (Opens.int Tryd.underlying5 (by kernel_rfl))) rfl (OpensF.one (Opens.struct (P := Tryd.prog) (T := 29) Tryd.underlying29 (by kernel_rfl) (OpensF.cons (Opens.int (P := Tryd.prog) (T := 3) Tryd.underlying3 (by kernel_rfl)) rfl (OpensF.cons (Opens.bool (P := Tryd.prog) (T := 4) Tryd.underlying4 (by kernel_rfl)) rfl (OpensF.cons (Opens.int (P := Tryd.prog) (T := 22) Tryd.underlying22 (by kernel_rfl)) rfl (OpensF.one (Opens.bool (P := Tryd.prog) (T := 4) Tryd.underlying4 (by kernel_rfl)) rfl)))) (fun x => x) (fun x => x) (fun _ => rfl)) rfl))) (fun x => x) (fun x => x) (fun _ => rfl))).opens hf0
  obtain ⟨⟨x0_0, x0_1, ⟨x0_2, x0_3, x0_4, x0_5, x0_6⟩, x0_7, x0_8, x0_9, x0_10, x0_11⟩, x0_12, ⟨x0_13, x0_14, x0_15, x0_16⟩⟩ := y0
  dsimp only at hw0
  obtain ⟨_, _, E0, ⟨_, _, rfl, rfl, ⟨_, _, rfl, rfl, ⟨_, _, rfl, ⟨_, _, rfl, rfl, ⟨_, _, rfl, rfl, ⟨_, _, rfl, rfl, ⟨_, _, rfl, rfl, rfl⟩⟩⟩⟩, ⟨_, _, rfl, rfl, ⟨_, _, rfl, rfl, ⟨_, _, rfl, rfl, ⟨_, _, rfl, rfl, rfl⟩⟩⟩⟩⟩⟩⟩, ⟨_, _, rfl, ⟨A0_12, c0_12, rfl, hl0_12, hr0_12⟩, ⟨_, _, rfl, rfl, ⟨_, _, rfl, rfl, ⟨_, _, rfl, rfl, rfl⟩⟩⟩⟩⟩ := hy0
  have ecs0 : cs0 = #[.string x0_0, .int .i64 x0_1, .int .u32 x0_2, .int .u32 x0_3, .int .u32 x0_4, .int .i64 x0_5, .int .i32 x0_6, .string x0_7, .string x0_8, .string x0_9, .int .i64 x0_10, .int .u8 x0_11, .slice A0_12 x0_12.length c0_12, .int .i64 x0_13, .bool x0_14, .int .u32 x0_15, .bool x0_16] := Array.toList_inj.1 E0
  subst ecs0
  clear hA0 hval0
  have hone0 := wt_one x0_12
  have hw1 := hw0
  simp only [hone0] at hw1
  obtain ⟨k_, h⟩ := ApplyLaw.law x0_0 x0_1 x0_2 x0_3 x0_4 x0_5 x0_6 x0_7 x0_8 x0_9 x0_10 x0_11 x0_12 x0_13 x0_14 x0_15 x0_16 (by omega) (by omega) (by omega)
  have hG := gv_shaped hS
  refine (PApplyChecks.satchellaw19_ApplyChecks.calls k_ x0_0 x0_1 x0_2 x0_3 x0_4 x0_5 x0_6 x0_7 x0_8 x0_9 x0_10 x0_11 _ _ x0_12 x0_13 x0_14 x0_15 x0_16 true W hG hr0_12 hl0_12 h).mono ?_
  rintro e W' ⟨rfl, bel⟩
  exact ⟨_, rfl, _, _, _, [], _, [], hW', trodAll_mk1 (shut_bool Tryd.underlying4 _), (trodAll_cons_mk (Below.trod laidOut (by kernel_rfl) (of_decide_eq_true (by kernel_rfl)) k0 bel lt0) trodAll_mk0), rfl, bel.frame _, fun h => by cases h⟩
set_option maxRecDepth 100000 in
theorem laid_met (os : Os) : laidMet Tryd.prog Rows.applyChecksUptoRow.laid ((laidWorld [(2, Rows.laid_unicode_utf8_acceptRanges), (1, Rows.laid_unicode_utf8_first)] os).forCall (fun _ _ => 0) ⟨#[], #[.agg #[.string ByteArray.empty, .int .i64 0, .int .u32 0, .int .u32 0, .int .u32 0, .int .i64 0, .int .i32 0, .string ByteArray.empty, .string ByteArray.empty, .string ByteArray.empty, .int .i64 0, .int .u8 0, .slice none 0 0, .int .i64 0, .bool false, .int .u32 0, .bool false]], []⟩).memory :=
  laidMet_of_run3 8 (by kernel_rfl) (by kernel_rfl) (by kernel_rfl)
set_option maxRecDepth 100000 in
theorem reads (os : Os) {H : Type} (enc : TypeId × Value → H) : ∃ places, DataW.whole enc Tryd.prog ((laidWorld [(2, Rows.laid_unicode_utf8_acceptRanges), (1, Rows.laid_unicode_utf8_first)] os).forCall (fun _ _ => 0) ⟨#[], #[.agg #[.string ByteArray.empty, .int .i64 0, .int .u32 0, .int .u32 0, .int .u32 0, .int .i64 0, .int .i32 0, .string ByteArray.empty, .string ByteArray.empty, .string ByteArray.empty, .int .i64 0, .int .u8 0, .slice none 0 0, .int .i64 0, .bool false, .int .u32 0, .bool false]], []⟩).memory Tryd.f3.params.toList Rows.applyChecksSpec.vars false (#[.agg #[.string ByteArray.empty, .int .i64 0, .int .u32 0, .int .u32 0, .int .u32 0, .int .i64 0, .int .i32 0, .string ByteArray.empty, .string ByteArray.empty, .string ByteArray.empty, .int .i64 0, .int .u8 0, .slice none 0 0, .int .i64 0, .bool false, .int .u32 0, .bool false]] : Array Value).toList 8 = some ([.agg [.agg [.lit (.string []), .lit (.int .i64 0), .agg [.lit (.int .u32 0), .lit (.int .u32 0), .lit (.int .u32 0), .lit (.int .i64 0), .lit (.int .i32 0)], .lit (.string []), .lit (.string []), .lit (.string []), .lit (.int .i64 0), .lit (.int .u8 0)], .nil, .agg [.lit (.int .i64 0), .lit (.bool false), .lit (.int .u32 0), .lit (.bool false)]]], [], places) :=
  ⟨[], by kernel_rfl⟩
set_option maxRecDepth 100000 in
theorem lifted (os : Os) (started : os.Started) (H : Type) (enc : TypeId × Value → H) (F : Stop.Interp) :
    ReturnsInHanded {} Tryd.checked os 3 .any ((Rows.OpenSpec.upto Rows.applyChecksSpec).preRow enc Tryd.prog Tryd.f3 Rows.applyChecksUptoRow.domain false Rows.applyChecksUptoRow.laid) (((Rows.OpenSpec.upto Rows.applyChecksSpec).at F).post enc Tryd.prog Tryd.f3 false true false false) := by
  obtain ⟨places, hx⟩ := reads os enc
  refine returnsInHanded_of_row (C := Tryd.checked) (s := Rows.OpenSpec.upto Rows.applyChecksSpec) own started (by kernel_rfl) Tryd.func3
    (witness_row_at (enc := enc) (C := Tryd.checked) false (laidWorld [(2, Rows.laid_unicode_utf8_acceptRanges), (1, Rows.laid_unicode_utf8_first)] os) #[.agg #[.string ByteArray.empty, .int .i64 0, .int .u32 0, .int .u32 0, .int .u32 0, .int .i64 0, .int .i32 0, .string ByteArray.empty, .string ByteArray.empty, .string ByteArray.empty, .int .i64 0, .int .u8 0, .slice none 0 0, .int .i64 0, .bool false, .int .u32 0, .bool false]] rfl (by kernel_rfl) (by kernel_rfl) (by kernel_rfl)
      (OpenSpec.preRow_of_cond 8 hx (by kernel_rfl) (fun k hk => by cases hk; kernel_rfl) (by kernel_rfl) (laid_met os))) ?_
  intro W base args ds gs before hval hW _ hcond hsz hL hS _
  exact contract H enc W base args ds gs before hval hW (hcond _ rfl) hL hS
theorem said : Rows.ApplyChecksUptoSaid :=
  OpenClaim.holds_of_cond 3 Tryd.f3 rfl rfl rfl rfl rfl rfl rfl ⟨rfl, rfl, rfl, rfl, rfl⟩ rfl rfl rfl rfl rfl (by kernel_rfl) Tryd.func3 (by kernel_rfl)
    (of_decide_eq_true (by kernel_rfl)) (by unfold Func.isWrapper; first | (rw [if_pos (by decide +kernel)]; kernel_rfl) | (rw [if_neg (by decide +kernel)]; exact ⟨rfl, rfl⟩))
    (fun os started H enc _ F => by rw [OpenClaim.pre_eq_preRow]; exact lifted os started H enc F)
theorem plain (f : FuncId) (fn : Func) (hf : Tryd.pinned.checked.prog.funcNamed Rows.applyChecksUptoRow.func = some f) (hfn : Tryd.pinned.checked.prog.funcs[f]? = some fn) :
    false = Tryd.pinned.checked.prog.looks [] ∧ ∀ (j : Nat) t, fn.params[j]? = some t → Tryd.pinned.checked.prog.wantsStandIn t = false := by
  obtain rfl : f = 3 := Option.some.inj ((show Tryd.prog.funcNamed Rows.applyChecksUptoRow.func = some 3 by kernel_rfl).symm.trans hf) |>.symm
  obtain rfl : fn = Tryd.f3 := (Option.some.inj (Tryd.func3.symm.trans hfn)).symm
  refine ⟨by kernel_rfl, fun j t ht => ?_⟩
  have hall : (Tryd.f3.params.toList.all fun t => Tryd.prog.wantsStandIn t == false) = true := by kernel_rfl
  exact beq_iff_eq.mp (List.all_eq_true.1 hall t (Array.mem_toList_iff.2 (Array.mem_of_getElem? ht)))
theorem card : Rows.ApplyChecksUptoCardSaid :=
  Claim7.holds_tied_plain_at .later [] _ _ _ _ said (fun _ h => by cases h) (by kernel_rfl) (fun _ h => by cases h) applyChecksUpto_row_tie rfl ⟨rfl, rfl⟩ (by kernel_rfl) rfl plain (by kernel_rfl)
#print axioms card
end Go.Proofs.YtbebdhaceifmoaaDoor.applyChecksUpto
namespace Go.Proofs.YtbebdhaceifmoaaDoor
/-- The card, under a short name, for the claim. -/
theorem applyChecksUpto_card : Rows.ApplyChecksUptoCardSaid := applyChecksUpto.card
end Go.Proofs.YtbebdhaceifmoaaDoor
