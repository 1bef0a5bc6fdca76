/- vfs: loses, takes, Unlink, Rmdir. -/
import Derived.Test.YtphbbcjmnlamaaaGreatVReadB
namespace Go.Proofs.YtphbbcjmnlamaaaGreatV
open Go.RowKit
set_option linter.unusedVariables false
set_option linter.unusedSimpArgs false
section
variable {w : World} {B f : Nat} {own : Nat → Option Int} {Ph : Phys} {S : FSt}
theorem losesS_some {dir : Int} {name : ByteArray} {d i : Ino} {n : Int} (hd : aget dir S.inodes = some d) (hg : aget name d.ents = some n) (hi : aget n S.inodes = some i) (hne : dir ≠ n) :
    losesS S dir name = if i.links - 1 = 0 then { S with used := S.used - i.data.length, inodes := adel n (aset n { i with links := i.links - 1 } (aset dir { d with ents := adel name d.ents } S.inodes)) }
      else { S with inodes := aset n { i with links := i.links - 1 } (aset dir { d with ents := adel name d.ents } S.inodes) } := by
  unfold losesS
  rw [hd]
  simp only
  rw [hg]
  simp only
  rw [aget_aset, if_neg hne, hi]
end
end Go.Proofs.YtphbbcjmnlamaaaGreatV
