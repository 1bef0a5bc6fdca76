/- Words of our own: a row's listed variables: a world that holds them (for the witness), the rest of a list, uint64pow10's table. -/
import Derived.Test.YtpaghdfnhlpngaaDoorXGvPax
import Derived.Test.YtpaghdfnhlpngaaDoorRows
import Derived.Deep.DeepHandedRow
import Derived.Deep.DeepLaidRun
import Derived.Lib.LaidTab
namespace Go.Proofs.YtpaghdfnhlpngaaDoorX
open Go.RowKit Go.Proofs.YtpaghdfnhlpngaaDoor
theorem laidMet_tail {P : Program} {x : String × DataW Unit} {rest : List (String × DataW Unit)} {w : World} (h : laidMet P (x :: rest) w) : laidMet P rest w := by
  obtain ⟨n, d⟩ := x
  obtain ⟨ps, ⟨g, t, cs, fuel, p, q, _, _, _, _, hl, rfl⟩, hn, hc⟩ := h
  exact ⟨q, hl, (List.nodup_append.1 hn).2.1, fun b off hm => hc b off (List.mem_append_right _ hm)⟩
def flatV : Nat → DataW Unit → List Value
  | _ + 1, .lit (.int k z) => [.int k z]
  | n + 1, .agg l => l.flatMap (flatV n)
  | _, _ => []
def layOne (h : Array Obj) (x : Nat × DataW Unit) : Array Obj := h.modify x.1 fun
  | .cells _ t frozen => .cells (flatV 4 x.2).toArray t frozen
  | o => o
noncomputable def laidWorld (l : List (Nat × DataW Unit)) (os : Os) : World :=
  { World.holding Tryd.prog os ⟨#[], #[], []⟩ with heap := l.foldl layOne (World.holding Tryd.prog os ⟨#[], #[], []⟩).heap }
theorem pow10_is : (Rows.laid_internal_strconv_uint64pow10 : DataW Unit) = Lib.tabData .u64 Lib.pow10Tab := by kernel_rfl
theorem gv_head {rest : List (String × DataW Unit)} {W : World} (h : laidMet Tryd.prog (("internal/strconv.uint64pow10", Rows.laid_internal_strconv_uint64pow10) :: rest) W) : Gv W := by
  rw [pow10_is] at h
  exact Lib.tabIs_of_head gv_none (by kernel_rfl) (t := 158) (e := 90) (n := 20) Tryd.underlying158 Tryd.underlying90 (by kernel_rfl) (by kernel_rfl) h
end Go.Proofs.YtpaghdfnhlpngaaDoorX
