/- Words of our own: the listed variable uint64pow10 holds what it holds, in every world that is met. -/
import Derived.Test.YtpaghdfnhlpngaaDoorProg
import Derived.Lib.LaidTab
import Derived.WalkSmall
import Derived.Test.YtpaghdfnhlpngaaDoorShelf
import Derived.Sort.OwnSorted
namespace Go.Proofs.YtpaghdfnhlpngaaDoorX
open Go.RowKit
def Gv (w : World) : Prop := Lib.TabIs Tryd.prog w "internal/strconv.uint64pow10" .u64 Lib.pow10Tab
theorem gv_none : Tryd.prog.globalNamed "internal/strconv.uint64pow10" = some 5 := by kernel_rfl
theorem Gv_lt {w : World} (h : Gv w) : 5 < w.heap.size := by
  unfold Gv Lib.TabIs World.var? at h
  rw [gv_none] at h
  simp only [Option.bind_some] at h
  rcases hh : w.heap[5]? with _ | b
  · rw [hh] at h; simp at h
  · exact (Array.getElem?_eq_some_iff.1 hh).1
theorem Gv_belowB {B : Nat} {w W : World} (h : Gv w) (hb : Below B w W) (hB : w.heap.size ≤ B) : Gv W := by
  have h1 := Gv_lt h
  unfold Gv Lib.TabIs at h ⊢
  exact var?_below hb gv_none (Nat.lt_of_lt_of_le h1 hB) h
theorem Gv_below {w W : World} (h : Gv w) (hb : Below w.heap.size w W) : Gv W := Gv_belowB h hb (Nat.le_refl _)
theorem Gv_drewN {w : World} (n : Nat) (h : Gv w) : Gv (w.drewN n) := Gv_belowB h (below_drewN (Below.refl _ _) n) (Nat.le_refl _)
theorem Gv_drew {w : World} (h : Gv w) : Gv w.drew := Gv_belowB h (Below.refl _ _).drew (Nat.le_refl _)
end Go.Proofs.YtpaghdfnhlpngaaDoorX
