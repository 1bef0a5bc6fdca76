/- vfs: takes, Unlink, Rmdir, Trace. -/
import Derived.Test.YtphbbcjmnlamaaaGreatVLoses
namespace Go.Proofs.YtphbbcjmnlamaaaGreatV
open Go.RowKit
set_option linter.unusedVariables false
set_option linter.unusedSimpArgs false
section
variable {w : World} {B f : Nat} {own : Nat → Option Int} {Ph : Phys} {S : FSt}
/-- What a found entry tells. -/
theorem lookup_found {dir : Int} {name : ByteArray} (h : (lookupS S dir name).2 = 0) : ∃ d n, aget dir S.inodes = some d ∧ d.kind = 1 ∧ aget name d.ents = some n ∧ lookupS S dir name = (n, 0) := by
  by_cases ha : atS S dir name = 0
  · obtain ⟨hd, hn⟩ := at_zero ha
    obtain ⟨d, hd, hk⟩ := dirs_one hd
    cases hg : aget name d.ents with
    | none => rw [lookupS_none ha hd hg] at h; cases h
    | some n => exact ⟨d, n, hd, hk, hg, lookupS_some ha hd hg⟩
  · unfold lookupS at h
    rw [if_neg ha] at h
    exact absurd h ha
def takesB (S : FSt) (op dir : Int) (name : ByteArray) (n : Int) (i : Ino) : Int × FSt := if (decide (i.kind = 1) != decide (op = 8)) = true then (106, S) else if 0 < i.ents.length then (109, S) else (0, doneS (losesS S dir name) ⟨op, dir, name, n, 0, noName, 0, 0⟩)
theorem takesS_found {op dir : Int} {name : ByteArray} {n : Int} {i : Ino} (hl : lookupS S dir name = (n, 0)) (hi : aget n S.inodes = some i) : takesS S op dir name = takesB S op dir name n i := by
  unfold takesS takesB
  rw [hl]
  simp only [if_true]
  rw [hi]
end
end Go.Proofs.YtphbbcjmnlamaaaGreatV
