/- vfs: Resize. -/
import Derived.Test.YtphbbcjmnlamaaaGreatVSized
namespace Go.Proofs.YtphbbcjmnlamaaaGreatV
open Go.RowKit
set_option linter.unusedVariables false
set_option linter.unusedSimpArgs false
section
variable {w : World} {B f : Nat} {own : Nat → Option Int} {Ph : Phys} {S : FSt}
theorem sizedS_fail {node : Int} {i : Ino} {size : Int} (h : (sizedS S node i size).1 ≠ 0) : (sizedS S node i size) = (105, S) := by
  by_cases hno : size - i.data.length > S.bytes - S.used
  · exact sizedS_no hno
  · rw [sizedS_ok hno] at h
    exact absurd rfl h
theorem sizedS_good {node : Int} {i : Ino} {size : Int} (h : (sizedS S node i size).1 = 0) : (sizedS S node i size) = (0, setIno { S with used := S.used + (size - i.data.length) } node { i with data := resized i.data size.toNat }) := by
  by_cases hno : size - i.data.length > S.bytes - S.used
  · rw [sizedS_no hno] at h
    cases h
  · exact sizedS_ok hno
theorem resizeS_none {node size : Int} (hi : aget node S.inodes = none) : resizeS S node size = (100, S) := by unfold resizeS; rw [hi]
theorem resizeS_arg {node size : Int} {i : Ino} (hi : aget node S.inodes = some i) (h : size < 0 ∨ size > 4194304) : resizeS S node size = (1, S) := by unfold resizeS; rw [hi]; simp only [if_pos h]
theorem resizeS_kind {node size : Int} {i : Ino} (hi : aget node S.inodes = some i) (h : ¬ (size < 0 ∨ size > 4194304)) (hk : i.kind ≠ 2) : resizeS S node size = (106, S) := by unfold resizeS; rw [hi]; simp only [if_neg h, if_pos hk]
theorem resizeS_ok {node size : Int} {i : Ino} (hi : aget node S.inodes = some i) (h : ¬ (size < 0 ∨ size > 4194304)) (hk : i.kind = 2) :
    resizeS S node size = if (sizedS S node i size).1 = 0 then (0, doneS (sizedS S node i size).2 ⟨6, 0, noName, node, 0, noName, 0, size⟩) else ((sizedS S node i size).1, S) := by unfold resizeS; rw [hi]; simp only [if_neg h, if_neg (not_not_intro hk)]
end
end Go.Proofs.YtphbbcjmnlamaaaGreatV
