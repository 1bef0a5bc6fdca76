/- Words of our own: the variable internal/bytealg.MaxLen holds some number, in every world that is met; what strings.Split and slices.ContainsFunc then say. -/
import Derived.Test.YtbebdhaceifmoaaDoorProg
import Derived.Test.YtbebdhaceifmoaaDoorShelf
import Derived.Below
import Derived.Shelf.Vars
import Derived.WalkSmall
import Derived.Sort.OwnSorted
namespace Go.Proofs.YtbebdhaceifmoaaDoorX
open Go.RowKit
theorem cell_lt {w : World} {a : Addr} {v : Value} (h : w.cell? a = some v) : a.block < w.heap.size := by
  rcases Nat.lt_or_ge a.block w.heap.size with hl | hl
  · exact hl
  · unfold World.cell? at h
    rw [Array.getElem?_eq_none hl] at h
    simp at h
def Gv (w : World) : Prop := ∃ m : Int, w.cell? ⟨0, 0, none⟩ = some (.int .i64 m)
theorem Gv_below {w W : World} (h : Gv w) (hb : Below w.heap.size w W) : Gv W := by
  obtain ⟨m, hm⟩ := h
  exact ⟨m, (hb.cell (cell_lt hm)).trans hm⟩
theorem Gv_drewN {w : World} (n : Nat) (h : Gv w) : Gv (w.drewN n) := Gv_below h (below_drewN (Below.refl _ _) n)
theorem Gv_drew {w : World} (h : Gv w) : Gv w.drew := Gv_below h (Below.refl _ _).drew
theorem gv_shaped {w : World} (h : w.ShapedOpen Tryd.prog) : Gv w :=
  Go.Proofs.cell_of_shapedOpen_int (zero := #[.int .i64 0]) (t := 3) h (of_decide_eq_true (by kernel_rfl)) (by kernel_rfl) rfl (by kernel_rfl) (by kernel_rfl) Tryd.underlying3
end Go.Proofs.YtbebdhaceifmoaaDoorX
