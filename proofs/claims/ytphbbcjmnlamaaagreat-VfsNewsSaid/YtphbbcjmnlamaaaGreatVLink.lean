/- vfs: Link. -/
import Derived.Test.YtphbbcjmnlamaaaGreatVNewIno
namespace Go.Proofs.YtphbbcjmnlamaaaGreatV
open Go.RowKit
set_option linter.unusedVariables false
set_option linter.unusedSimpArgs false
section
variable {w : World} {B f : Nat} {own : Nat → Option Int} {Ph : Phys} {S : FSt}
theorem there_pair {a b : Int} (h : thereS S [a, b] = 0) : (∃ i, aget a S.inodes = some i) ∧ ∃ i, aget b S.inodes = some i := by
  simp only [thereS] at h
  cases ha : aget a S.inodes with
  | none => rw [ha] at h; simp at h
  | some i =>
    cases hb : aget b S.inodes with
    | none => rw [ha, hb] at h; simp at h
    | some j => exact ⟨⟨i, rfl⟩, ⟨j, rfl⟩⟩
theorem inoCells_links (i : Ino) (l : Int) (dv ev : Value) : (inoCells i dv ev).setIfInBounds 9 (.int .i64 l) = inoCells { i with links := l } dv ev := rfl
end
end Go.Proofs.YtphbbcjmnlamaaaGreatV
