/- Words of our own: a row's listed variables: a world that holds them (for the witness). -/
import Derived.Test.YtbebdhaceifmoaaDoorRows
import Derived.Test.YtbebdhaceifmoaaDoorProg
import Derived.Deep.DeepHandedRow
import Derived.Deep.DeepLaidRun
import Derived.Lib.LaidTab
namespace Go.Proofs.YtbebdhaceifmoaaDoorX
open Go.Proofs.YtbebdhaceifmoaaDoor
def flatV : Nat → DataW Unit → List Value
  | _ + 1, .lit (.int k z) => [.int k z]
  | n + 1, .agg l => l.flatMap (flatV n)
  | _, _ => []
def layOne (h : Array Obj) (x : Nat × DataW Unit) : Array Obj := h.modify x.1 fun
  | .cells _ t frozen => .cells (flatV 4 x.2).toArray t frozen
  | o => o
noncomputable def laidWorld (l : List (Nat × DataW Unit)) (os : Os) : World :=
  { World.holding Tryd.prog os ⟨#[], #[], []⟩ with heap := l.foldl layOne (World.holding Tryd.prog os ⟨#[], #[], []⟩).heap }
end Go.Proofs.YtbebdhaceifmoaaDoorX
