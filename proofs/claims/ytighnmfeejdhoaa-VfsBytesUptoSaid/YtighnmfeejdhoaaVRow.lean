/- VfsBytes, WHERE ITS ARGUMENTS ARE OF BULK AT MOST 1048576: it returns true, and what was handed in reads as before. -/
import Derived.Test.YtighnmfeejdhoaaRows
import Derived.Test.YtighnmfeejdhoaaVLaw1
import Derived.Test.YtighnmfeejdhoaaVLaw2
import Derived.Test.YtighnmfeejdhoaaVLaw3
import Derived.WalkKit
import Derived.ProofKit
import Derived.OpenShut
import Derived.ShutString
import Derived.ChangeOld
import Derived.ChangeSlices
import Derived.Below
import Derived.SizedLaws
import Derived.JoinedCond
namespace Go.Proofs.Ytighnmfeejdhoaa.vfsBytesUpto
open Go.ChangeShapes Go.WideShapes Go.ChangeAt Go.RowKit Go.Proofs.YtighnmfeejdhoaaV
set_option linter.unusedVariables false
theorem own : ownKnob Try.prog.godebug = none := by kernel_rfl
theorem laidOut : laidOutB Try.prog = true := by kernel_rfl
theorem calls (w0 : World) (pd pb : Option Addr) (data b : List Int) (cd cb : Nat) (at_ size : Int) (hd : Came w0 pd data) (hb : Came w0 pb b) (hl : data.length + b.length ≤ 1048576) :
    Calls Try.prog 3 #[.slice pd data.length cd, .int .i64 at_, .slice pb b.length cb, .int .i64 size] w0 fun e w' => e = .returned (.bool true) ∧ Below w0.heap.size w0 w' := by
  by_cases ha : at_ < 0 ∨ at_ > 4194304 ∨ (b.length : Int) > 4194304 - at_
  · exact VfsBytes_arg w0 pd pb data b cd cb at_ size hd hb hl ha
  · have ht : at_ = ((at_.toNat : Nat) : Int) := by omega
    have ha' : ¬ (((at_.toNat : Nat) : Int) < 0 ∨ ((at_.toNat : Nat) : Int) > 4194304 ∨ (b.length : Int) > 4194304 - ((at_.toNat : Nat) : Int)) := by rw [← ht]; exact ha
    by_cases hp : 0 < b.length
    · exact VfsBytes_full w0 pd pb data b cd cb at_ size hd hb hl at_.toNat ht ha' hp
    · exact VfsBytes_empty w0 pd pb data b cd cb at_ size hd hb hl at_.toNat ht ha' hp
theorem bulk_lits {H : Type} (k : IntKind) : ∀ (l : List Int), l.length ≤ Rows.uptoBulkAll (lits k l : List (DataW H))
  | [] => Nat.zero_le _
  | z :: l => by
    have ih := bulk_lits (H := H) k l
    have : (lits k (z :: l) : List (DataW H)) = .lit (.int k z) :: lits k l := rfl
    have h1 : Rows.uptoBulk (.lit (.int k z) : DataW H) = 1 := by simp [Rows.uptoBulk]
    rw [this, Rows.uptoBulkAll, h1, List.length_cons]
    omega
theorem arg_bytes {H : Type} {enc : TypeId × Value → H} {W : World} {v : Value} {d : DataW H} {p : List MemPlace} (hv : v.cells.toList = [v]) (h : DataW.Trod enc Try.prog W 0 (fun _ => true) true 22 v d p) :
    ∃ (A : Option Addr) (c : Nat) (l : List Int), v = .slice A l.length c ∧ Came W A l ∧ l.length ≤ Rows.uptoBulk d := by
  obtain ⟨fuel, hf⟩ := h
  rcases open_ints Try.underlying22 Try.underlying5 (by kernel_rfl) hf with ⟨h1, h2⟩ | ⟨a, len, cap, zs, h1, hb, hlc, hm, hz, h2, hc, hw⟩
  · rw [hv] at h1
    exact ⟨none, 0, [], by simpa using h1, fun h => by simp at h, Nat.zero_le _⟩
  · rw [hv] at h1
    have hz' : zs.length = cap := by simpa using hz
    have hl : (zs.take len).length = len := by simp; omega
    have hd : d = .slice (lits .u8 (zs.take len)) (lits .u8 (zs.drop len)) := congrArg Prod.fst h2
    refine ⟨some a, cap, zs.take len, by rw [hl]; simpa using h1, fun hp => ⟨a, rfl, ?_, fun j z hj => ?_⟩, ?_⟩
    · have hcell := hc 0 (by omega)
      rcases Nat.lt_or_ge a.block W.heap.size with h' | h'
      · exact h'
      · have hb0 : (a.add 0).block = a.block := add_block a 0
        simp [World.cell?, hb0, Array.getElem?_eq_none h'] at hcell
    · have hj' : zs[j]? = some z := by
        rw [List.getElem?_take] at hj
        split at hj
        · exact hj
        · cases hj
      have hlt : j < zs.length := (List.getElem?_eq_some_iff.1 hj').1
      have := hc j hlt
      rw [List.getD_eq_getElem?_getD, hj'] at this
      exact this
    · rw [hd, Rows.uptoBulk]
      have := bulk_lits (H := H) .u8 (zs.take len)
      omega
set_option maxRecDepth 100000 in
theorem lifted (os : Os) (started : os.Started) (H : Type) (enc : TypeId × Value → H) (F : Stop.Interp) :
    ReturnsInHanded {} Try.checked os 3 .any ((Rows.OpenSpec.upto Rows.vfsBytesSpec).pre6 enc Try.prog Try.f3 Rows.vfsBytesUptoRow.domain false) (((Rows.OpenSpec.upto Rows.vfsBytesSpec).at F).post enc Try.prog Try.f3 false true false false) := by
  refine returnsInHanded_of_cond (C := Try.checked) (s := Rows.OpenSpec.upto Rows.vfsBytesSpec) (k := Rows.uptoSmall) rfl own started (by kernel_rfl) Try.func3
    (OpenSpec.witness (enc := enc) (C := Try.checked) (s := Rows.OpenSpec.upto Rows.vfsBytesSpec) (k := Rows.uptoSmall) rfl false ⟨#[], #[.slice none 0 0, .int .i64 0, .slice none 0 0, .int .i64 0], []⟩ 8 (by kernel_rfl) (by kernel_rfl) (by kernel_rfl)
      (x := ([.nil, .lit (.int .i64 0), .nil, .lit (.int .i64 0)], [], [])) (by kernel_rfl) rfl (by kernel_rfl)) ?_
  intro W base args ds gs before hval0 hW hcnd hk _
  have hval : ∀ (j : Nat) t v, Try.f3.params[j]? = some t → args[j]? = some v → Value.okWide Try.prog W .any base t v := hval0
  have hW' := hW
  obtain ⟨p, q, hA0, hV, rfl, hfz, hnd⟩ := hW
  have hA : DataW.TrodAll enc Try.prog W 0 (fun _ => true) true Try.f3.params.toList args.toList ds p := hA0
  rw [Try.params3] at hA hval
  obtain ⟨v0, vs0, d0, ds0, p0, q0, hargs, rfl, rfl, h0, r0⟩ := trodAll_cons hA
  obtain ⟨v1, vs1, d1, ds1, p1, q1, rfl, rfl, rfl, h1, r1⟩ := trodAll_cons r0
  obtain ⟨v2, vs2, d2, ds2, p2, q2, rfl, rfl, rfl, h2, r2⟩ := trodAll_cons r1
  obtain ⟨v3, vs3, d3, ds3, p3, q3, rfl, rfl, rfl, h3, r3⟩ := trodAll_cons r2
  obtain ⟨rfl, rfl, rfl⟩ := trodAll_nil r3
  obtain rfl : args = #[v0, v1, v2, v3] := by cases args; simp_all
  obtain ⟨rfl, rfl⟩ := trodVars_none hV
  have hbk : Rows.uptoBulkAll ([d0, d1, d2, d3] ++ []) ≤ 1048576 := of_decide_eq_true hk
  simp only [List.append_nil, Rows.uptoBulkAll] at hbk
  obtain ⟨a0, len0, cap0, rfl⟩ := okWide_slice Try.underlying22 (hval 0 22 v0 rfl rfl)
  obtain ⟨n1, rfl, rfl, rfl, w1⟩ := open_int Try.underlying3 (hval 1 3 v1 rfl rfl) h1
  obtain ⟨a2, len2, cap2, rfl⟩ := okWide_slice Try.underlying22 (hval 2 22 v2 rfl rfl)
  obtain ⟨n3, rfl, rfl, rfl, w3⟩ := open_int Try.underlying3 (hval 3 3 v3 rfl rfl) h3
  have k0 := h0
  have k2 := h2
  have lt0 : ∀ x ∈ p0, x.block < W.heap.size := by obtain ⟨m, hm⟩ := k0; exact DataW.trod_lt m _ _ _ hm
  have lt2 : ∀ x ∈ p2, x.block < W.heap.size := by obtain ⟨m, hm⟩ := k2; exact DataW.trod_lt m _ _ _ hm
  obtain ⟨A0, c0, l0, e0, g0, b0⟩ := arg_bytes rfl h0
  obtain ⟨A2, c2, l2, e2, g2, b2⟩ := arg_bytes rfl h2
  simp only [Value.slice.injEq] at e0 e2
  obtain ⟨rfl, rfl, rfl⟩ := e0
  obtain ⟨rfl, rfl, rfl⟩ := e2
  clear hA0 hval0
  refine (calls W a0 a2 l0 l2 cap0 cap2 n1 n3 g0 g2 (by omega)).mono ?_
  rintro e W' ⟨rfl, bel⟩
  exact ⟨_, rfl, _, _, _, [], _, [], hW', trodAll_mk1 (shut_bool Try.underlying4 _),
    (trodAll_cons_mk (Below.trod laidOut (by kernel_rfl) (of_decide_eq_true (by kernel_rfl)) k0 bel lt0) (trodAll_cons_mk (shut_int Try.underlying3 w1) (trodAll_cons_mk (Below.trod laidOut (by kernel_rfl) (of_decide_eq_true (by kernel_rfl)) k2 bel lt2) (trodAll_cons_mk (shut_int Try.underlying3 w3) trodAll_mk0)))), rfl, bel.frame _, fun h => by cases h⟩
theorem over : Rows.vfsBytesUptoRow.holds Try.pinned (Rows.OpenSpec.upto Rows.vfsBytesSpec) :=
  OpenClaim.holds_of_cond 3 Try.f3 rfl rfl rfl rfl rfl rfl rfl ⟨rfl, rfl, rfl, rfl, rfl⟩ rfl rfl rfl rfl rfl (by kernel_rfl) Try.func3 (by kernel_rfl)
    (of_decide_eq_true (by kernel_rfl)) (by unfold Func.isWrapper; first | (rw [if_pos (by decide +kernel)]; kernel_rfl) | (rw [if_neg (by decide +kernel)]; exact ⟨rfl, rfl⟩))
    (fun os started H enc _ F => lifted os started H enc F)
theorem proved : Rows.VfsBytesUptoSaid := over
#print axioms proved
end Go.Proofs.Ytighnmfeejdhoaa.vfsBytesUpto
namespace Go.Proofs.Ytighnmfeejdhoaa
/-- The row, under a short name, for the claim. -/
theorem vfsBytesUpto_holds : Rows.VfsBytesUptoSaid := vfsBytesUpto.proved
end Go.Proofs.Ytighnmfeejdhoaa
