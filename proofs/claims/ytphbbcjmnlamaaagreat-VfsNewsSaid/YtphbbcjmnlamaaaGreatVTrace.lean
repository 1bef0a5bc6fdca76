/- vfs: Trace. -/
import Derived.Test.YtphbbcjmnlamaaaGreatVTakes
namespace Go.Proofs.YtphbbcjmnlamaaaGreatV
open Go.RowKit
set_option linter.unusedVariables false
set_option linter.unusedSimpArgs false
section
variable {w : World} {B f : Nat} {own : Nat → Option Int} {Ph : Phys} {S : FSt}
theorem actCells_one (l : List Act8) : ∀ u ∈ l.flatMap actCells, u.oneCell' = true := fun u hu => by
  obtain ⟨a, _, hu⟩ := List.mem_flatMap.1 hu
  simp [actCells] at hu
  rcases hu with rfl | rfl | rfl | rfl | rfl | rfl | rfl | rfl <;> rfl
theorem clone_acts {v : Value} {n : Nat} {xs : List Value} (h : w.ownsRow B 91 8 v n xs) (h1 : ∀ u ∈ xs, u.oneCell' = true) (hn : n ≤ 1000000001) :
    Calls Tryz.prog 34 #[v] w fun e w' => ∃ v', e = .returned v' ∧ w'.ownsRow w.heap.size 91 8 v' n xs ∧ Below w.heap.size w w' := by
  obtain ⟨i0, hi, hz0, hz1, hz2⟩ := info_parts infoAct
  rcases h.2 with ⟨rfl, rfl⟩ | ⟨g, cap, cur, rfl, h3, h4, h5⟩
  · refine (Tryz.slices_Clone_nil_apiAct 0 0 w).mono ?_
    rintro e w' ⟨rfl, rfl⟩
    exact ⟨_, rfl, ⟨h.1, .inl ⟨rfl, rfl⟩⟩, Below.refl _ _⟩
  · refine (Tryz.slices_Clone_apiAct i0 actZero 8 80 hi hz0 hz1 hz2 rfl (by decide) Tryz.sizeOf91 g 0 n cap xs w h.1 (by unfold maxLen; omega) (by omega) (fun j u hu => ?_) h1).mono ?_
    · have := h.cells (g := g) rfl j u hu
      rw [Addr.add_lit] at this
      exact this
    · rintro e w' ⟨v', rfl, r1, _, r2⟩
      exact ⟨v', rfl, r1, r2⟩
theorem Trace_calls (h : FSRep w B f own Ph S) (ht : S.trace.length ≤ 1000000001) :
    Calls Tryz.prog 13 #[.pointer (some ⟨f, 0, none⟩)] w fun e w' => ∃ v', e = .returned v' ∧ w'.ownsRow w.heap.size 91 8 v' S.trace.length (S.trace.flatMap actCells) ∧ Below w.heap.size w w' := by
  have HO := Lib.hid h.trace.own
  have c5 := h.c.2.2.2.2.2
  clear h
  go_enter Tryz.func13, Tryz.ntmps13
  go_wp2_with fail
  refine (clone_acts HO.out (actCells_one _) ht).mono ?_
  rintro e w1 ⟨v', rfl, r1, r2⟩
  have R1 := Lib.hid r1
  have R2 := Lib.hid r2
  clear r1 r2
  go_wp2
  go_ret
  exact ⟨v', rfl, R1.out, R2.out⟩
end
end Go.Proofs.YtphbbcjmnlamaaaGreatV
