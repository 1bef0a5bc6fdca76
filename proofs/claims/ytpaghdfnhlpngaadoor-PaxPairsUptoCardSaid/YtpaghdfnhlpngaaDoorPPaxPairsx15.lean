-- WRITTEN BY wip/xprint.py, a program of the proving session round the kit's print.py; Lean checks it.
import Derived.Test.YtpaghdfnhlpngaaDoorPPaxPairsx0
namespace Go.Proofs.YtpaghdfnhlpngaaDoor.PPaxPairs
open Go.Proofs.YtpaghdfnhlpngaaDoorX
open Go.RowKit Go.Proofs.YtpaghdfnhlpngaaDoorW.PrintWords Go.Proofs.YtpaghdfnhlpngaaDoorW.PrintLast Go.Proofs.YtpaghdfnhlpngaaDoorW.PrintMore
attribute [local go_sem] str_leq str_gtr max2_int min2_int max_two min_two max_three min_three max_four min_four   -- for this text's walks alone
set_option linter.unusedVariables false
set_option linter.unusedSimpArgs false

/-! ### pax_Find: function 12 -/

theorem pax_Find.lt {w : World} {a : Addr} {v : Value} (h : w.cell? a = some v) : a.block < w.heap.size := by
  rcases Nat.lt_or_ge a.block w.heap.size with hl | hl
  · exact hl
  · unfold World.cell? at h
    rw [Array.getElem?_eq_none hl] at h
    simp at h
theorem pax_Find.pairs {w : World} {A : Option Addr} {l : List S36} (h : Kd.C k36 w A l.length l) : PairsAt w A (l.map fun x => (x.f0, x.f1)) := fun j hj => by
  have hj' : j < l.length := by simpa using hj
  obtain ⟨ad, e, h0, h1⟩ := at_T36 h (j : Int) (by omega) (by omega)
  have hx : rd_T36 l (j : Int) = l[j] := by simp [rd_T36, hj']
  rw [hx, Int.toNat_natCast] at h0 h1
  refine ⟨ad, e, ?_, ?_, pax_Find.lt h0⟩
  · rw [h0]; simp
  · rw [h1]; simp
def pax_Find.f (l0 : List S36) (a1 : ByteArray) : Option (ByteArray × Bool) := if l0.length ≤ 4611686018427387904 then some (findS (l0.map fun x => (x.f0, x.f1)) a1) else none
theorem pax_Find.calls (A0 : Option Addr) (c0 : Nat) (l0 : List S36) (a1 : ByteArray) (r1 : ByteArray) (r2 : Bool) (w : World) (hG : Gv w) (hr0 : Kd.C k36 w A0 l0.length l0) (hc0 : l0.length ≤ c0) (h : pax_Find.f l0 a1 = some (r1, r2)) :
    Calls Tryd.prog 12 #[.slice A0 l0.length c0, .string a1] w fun e w' => e = .returned (.tuple #[.string r1, .bool r2]) ∧ Below w.heap.size w w' := by
  unfold pax_Find.f at h
  split at h
  · rename_i hl
    have h' := Option.some.inj h
    have hf := find_in Fence.wide 3 trivial trivial trivial rfl (by omega) A0 c0 (l0.map fun x => (x.f0, x.f1)) (by simpa using hl) a1 w (pax_Find.pairs hr0)
    rw [List.length_map, h'] at hf
    exact callsIn_wide.1 hf
  · cases h


end Go.Proofs.YtpaghdfnhlpngaaDoor.PPaxPairs
