-- WRITTEN BY wip/xprint.py, a program of the proving session round the kit's print.py; Lean checks it.
import Derived.Test.YtbebdhaceifmoaaDoorPApplyChecksx0
import Derived.Test.YtbebdhaceifmoaaDoorPApplyChecksx3
namespace Go.Proofs.YtbebdhaceifmoaaDoor.PApplyChecks
open Go.Proofs.YtbebdhaceifmoaaDoorX
open Go.RowKit Go.Proofs.YtbebdhaceifmoaaDoorW.PrintWords Go.Proofs.YtbebdhaceifmoaaDoorW.PrintLast Go.Proofs.YtbebdhaceifmoaaDoorW.PrintMore
attribute [local go_sem] max2_int min2_int max_two min_two max_three min_three max_four min_four   -- for this text's walks alone
set_option linter.unusedVariables false
set_option linter.unusedSimpArgs false

/-! ### path_Split: function 14 -/

set_option maxRecDepth 100000 in
theorem path_Split.pred (w : World) : Go.Proofs.PredAt Tryd.prog 23 #[] Value.string (fun s => decide ((255 : Int) < (s.size : Int))) w := by
  intro W x _
  show Calls Tryd.prog 23 #[.string x] W _
  go_enter Tryd.func23, Tryd.ntmps23
  go_wp2
  go_ret
  exact ⟨by simp, 0, rfl⟩
theorem path_Split.cells {w : World} {base : Nat} {e : TypeId} {ok : Nat → Prop} {v : Value} {l : List ByteArray} (h : Kd.R Kd.string e w base ok v l) (hn : 0 < l.length) :
    ∃ g c, v = .slice (some ⟨g, 0, none⟩) l.length c ∧ l.length ≤ 9223372036854775807 ∧ ∀ j, j < l.length → w.cell? ⟨g, 0 + j, none⟩ = some (Value.string l[j]!) := by
  obtain ⟨h1, h2⟩ := Kd.own_of_R h
  rcases h2 with ⟨_, h0⟩ | ⟨g, cap, cur, hv, _, hh, hnc, hcm, hcs, ht⟩
  · omega
  · refine ⟨g, cap, hv, Nat.le_trans hnc hcm, fun j hj => ?_⟩
    have e1 : cur[j]? = some (Value.string l[j]!) := by
      have e2 : (cur.toList.take (l.length * 1))[j]? = (encs Value.string l)[j]? := by rw [ht]
      rw [List.getElem?_take_of_lt (by omega), Array.getElem?_toList] at e2
      rw [e2]
      simp [encs, hj]
    simp [World.cell?, hh, e1]

def path_Split.g (a0 : ByteArray) (r1 : List ByteArray) (r2 : Bool) : List ByteArray × Int :=
  if (a0.size : Int) > 4096 then ([], 2) else if 0 ≤ Lib.indexByte a0.data.toList 0 then ([], 93) else if (a0.data.toList.head? = some 47) then ([], 91) else if r2 = true then ([], 92)
  else if r1.length = 0 then ([], 90) else if r1.any (fun s => decide ((s.size : Int) > 255)) = true then ([], 94) else if (r1.length : Int) > 256 then ([], 95) else (r1, 0)
def path_Split.f (k : Nat) (a0 : ByteArray) : Option (List ByteArray × Int) := (path_parts.f k a0).map fun x => path_Split.g a0 x.1 x.2
theorem path_Split.mono : ∀ a0 k, LeO (path_Split.f k a0) (path_Split.f (k + 1) a0) := by
  intro a0 k r h
  unfold path_Split.f at h ⊢
  obtain ⟨x, hx, rfl⟩ := Option.map_eq_some_iff.1 h
  rw [path_parts.mono a0 k _ hx]
  rfl
set_option maxHeartbeats 4000000 in
set_option maxRecDepth 100000 in
theorem path_Split.calls (k : Nat) (a0 : ByteArray) (r1 : List ByteArray) (r2 : Int) (w : World) (hG : Gv w) (h : path_Split.f k a0 = some (r1, r2)) :
    Calls Tryd.prog 14 #[.string a0] w fun e w' => ∃ v0_ : Value, e = .returned (.tuple #[v0_, .int .i64 r2]) ∧ Kd.R Kd.string 9 w' w.heap.size (fun _ => True) v0_ r1 ∧ Below w.heap.size w w' := by
  obtain ⟨⟨l, dots⟩, hx, hg⟩ := Option.map_eq_some_iff.1 h
  have HP := path_parts.calls k a0 l dots w hG hx
  clear h hx hG
  have HPH := Aside0.mk HP
  clear HP
  obtain ⟨n0, hn0⟩ : ∃ z, z = a0.data.toList.head? := ⟨_, rfl⟩
  have e47 : Lib.hasPrefix a0.data.toList [47] = decide (n0 = some 47) := by
    rw [hn0]
    cases a0.data.toList with
    | nil => rfl
    | cons x xs => show ((47 : UInt8) == x && true) = _; by_cases hx : x = 47 <;> simp [hx]; exact fun h => hx h.symm
  have HE := Aside0.mk e47
  clear e47
  unfold path_Split.g at hg
  rw [← hn0] at hg
  have HN := Aside0.mk hn0
  clear hn0
  have HI : 0 ≤ Lib.indexByte a0.data.toList 0 ∨ ¬ 0 ≤ Lib.indexByte a0.data.toList 0 := Decidable.em _
  obtain ⟨ix, hix⟩ : ∃ z, z = Lib.indexByte a0.data.toList 0 := ⟨_, rfl⟩
  rw [← hix] at hg
  have HX := Aside0.mk hix
  clear hix HI
  have hgH := Aside0.mk hg
  clear hg
  go_enter Tryd.func14, Tryd.ntmps14
  go_wp2_with fail
  refine HPH.out.mono ?_
  rintro e w1 ⟨v0, rfl, hR, hB⟩
  have HR := Aside0.mk hR
  have HB := Aside0.mk hB
  clear hR hB HPH
  by_cases c1 : (a0.size : Int) > 4096
  · have hg := hgH.out
    rw [if_pos c1] at hg
    obtain ⟨rfl, rfl⟩ := Prod.mk.injEq .. ▸ hg
    have c1b : decide (4096 < (a0.size : Int)) = true := decide_eq_true c1
    have c1c : decide (4096 < a0.size) = true := decide_eq_true (by omega)
    clear c1 hg
    go_wp2_with fail
    go_ret2
    exact ⟨_, rfl, Kd.R_nil _ _ _ _ _, HB.out⟩
  have hg := hgH.out
  rw [if_neg c1] at hg
  have c1b : decide (4096 < (a0.size : Int)) = false := decide_eq_false c1
  have c1c : decide (4096 < a0.size) = false := decide_eq_false (by omega)
  clear hgH c1
  have hgH := Aside0.mk hg
  clear hg
  go_wp2_with fail
  refine (Tryd.strings_IndexByte a0 0 w1).mono ?_
  rintro e w2 ⟨rfl, rfl⟩
  rw [show Lib.indexByte a0.data.toList (0 : Int).toNat.toUInt8 = ix from HX.out.symm]
  by_cases c2 : 0 ≤ ix
  · have hg := hgH.out
    rw [if_pos c2] at hg
    obtain ⟨rfl, rfl⟩ := Prod.mk.injEq .. ▸ hg
    have c2b : decide (0 ≤ ix) = true := decide_eq_true c2
    clear c2 hg
    go_wp2_with fail
    go_ret2
    exact ⟨_, rfl, Kd.R_nil _ _ _ _ _, HB.out⟩
  have hg := hgH.out
  rw [if_neg c2] at hg
  clear hgH
  have hgH := Aside0.mk hg
  clear hg
  have c2b : decide (0 ≤ ix) = false := decide_eq_false c2
  clear c2
  go_wp2_with fail
  refine (Tryd.strings_HasPrefix a0 ⟨#[47]⟩ w2).mono ?_
  rintro e w3 ⟨rfl, rfl⟩
  rw [show Lib.hasPrefix a0.data.toList (⟨#[47]⟩ : ByteArray).data.toList = decide (n0 = some 47) from HE.out]
  by_cases c3 : n0 = some 47
  · have hg := hgH.out
    rw [if_pos c3] at hg
    obtain ⟨rfl, rfl⟩ := Prod.mk.injEq .. ▸ hg
    have c3b : decide (n0 = some 47) = true := decide_eq_true c3
    try rw [c3b]
    clear hg
    go_wp2_with fail
    go_ret2
    exact ⟨_, rfl, Kd.R_nil _ _ _ _ _, HB.out⟩
  have hg := hgH.out
  rw [if_neg c3] at hg
  clear hgH
  have hgH := Aside0.mk hg
  clear hg
  have c3b : decide (n0 = some 47) = false := decide_eq_false c3
  rw [c3b]
  clear c3
  by_cases c4 : dots = true
  · have hg := hgH.out
    rw [if_pos c4] at hg
    obtain ⟨rfl, rfl⟩ := Prod.mk.injEq .. ▸ hg
    subst c4
    clear hg
    go_wp2_with fail
    go_ret2
    exact ⟨_, rfl, Kd.R_nil _ _ _ _ _, HB.out⟩
  have hg := hgH.out
  rw [if_neg c4] at hg
  clear hgH
  have hgH := Aside0.mk hg
  clear hg
  have c4b : dots = false := by simpa using c4
  subst c4b
  by_cases c5 : l.length = 0
  · have hg := hgH.out
    rw [if_pos c5] at hg
    obtain ⟨rfl, rfl⟩ := Prod.mk.injEq .. ▸ hg
    obtain ⟨A5, C5, rfl⟩ := Kd.R_slice HR.out
    have c5b : ((l.length : Int) == 0) = true := by simp [c5]
    have c5c : (l.length == 0) = true := by simp [c5]
    clear c5 hg
    go_wp2_with fail
    go_ret2
    exact ⟨_, rfl, Kd.R_nil _ _ _ _ _, HB.out⟩
  have hg := hgH.out
  rw [if_neg c5] at hg
  clear hgH
  have hgH := Aside0.mk hg
  clear hg
  obtain ⟨g5, C5, rfl, hl5, h5⟩ := path_Split.cells HR.out (by omega)
  have H5 := Aside0.mk h5
  have c5b : ((l.length : Int) == 0) = false := by simp; exact fun h => c5 (by rw [h]; rfl)
  have c5c : (l.length == 0) = false := by simpa using c5
  clear h5
  go_wp2_with fail
  refine (AnyE.slices_ContainsFunc Tryd.laysContains Value.string (fun s => decide ((255 : Int) < (s.size : Int))) 23 #[] (fun args w => by rfl) g5 0 l.length C5 l w3 (path_Split.pred w3) (Nat.le_refl _) (by have := hl5; omega) H5.out).mono ?_
  rintro e w4 ⟨rfl, q, rfl⟩
  obtain ⟨bx, hbx⟩ : ∃ z, z = l.any (fun s => decide ((s.size : Int) > 255)) := ⟨_, rfl⟩
  rw [show (l.take l.length).any (fun s => decide ((255 : Int) < (s.size : Int))) = bx by rw [List.take_length, hbx]]
  by_cases c6 : bx = true
  · have hg := hgH.out
    rw [if_pos (by rw [← hbx]; exact c6)] at hg
    obtain ⟨rfl, rfl⟩ := Prod.mk.injEq .. ▸ hg
    clear hbx
    subst c6
    clear hg
    go_wp2_with fail
    go_ret2
    exact ⟨_, rfl, Kd.R_nil _ _ _ _ _, below_drewN HB.out _⟩
  have hg := hgH.out
  rw [if_neg (by rw [← hbx]; exact c6)] at hg
  clear hgH
  have hgH := Aside0.mk hg
  clear hg
  have c6b : bx = false := by simpa using c6
  clear hbx c6
  subst c6b
  by_cases c7 : (l.length : Int) > 256
  · have hg := hgH.out
    rw [if_pos c7] at hg
    obtain ⟨rfl, rfl⟩ := Prod.mk.injEq .. ▸ hg
    have c7b : decide (256 < (l.length : Int)) = true := decide_eq_true c7
    have c7c : decide (256 < l.length) = true := decide_eq_true (by omega)
    clear c7
    clear hg
    go_wp2_with fail
    go_ret2
    exact ⟨_, rfl, Kd.R_nil _ _ _ _ _, below_drewN HB.out _⟩
  have hg := hgH.out
  rw [if_neg c7] at hg
  clear hgH
  have hgH := Aside0.mk hg
  clear hg
  have c7b : decide (256 < (l.length : Int)) = false := decide_eq_false c7
  have c7c : decide (256 < l.length) = false := decide_eq_false (by omega)
  clear c7
  obtain ⟨rfl, rfl⟩ := Prod.mk.injEq .. ▸ hgH.out
  go_wp2_with fail
  go_ret2
  exact ⟨_, rfl, Kd.R_drewN HR.out _, below_drewN HB.out _⟩




end Go.Proofs.YtbebdhaceifmoaaDoor.PApplyChecks
