-- WRITTEN BY wip/xprint.py, a program of the proving session round the kit's print.py; Lean checks it.
import Derived.Test.YtpaghdfnhlpngaaDoorPPaxMergedx0
namespace Go.Proofs.YtpaghdfnhlpngaaDoor.PPaxMerged
open Go.Proofs.YtpaghdfnhlpngaaDoorX
open Go.RowKit Go.Proofs.YtpaghdfnhlpngaaDoorW.PrintWords Go.Proofs.YtpaghdfnhlpngaaDoorW.PrintLast Go.Proofs.YtpaghdfnhlpngaaDoorW.PrintMore
attribute [local go_sem] str_leq str_gtr max2_int min2_int max_two min_two max_three min_three max_four min_four   -- for this text's walks alone
set_option linter.unusedVariables false
set_option linter.unusedSimpArgs false

/-! ### pax_Find: function 12 -/

theorem pax_Find.lt {w : World} {a : Addr} {v : Value} (h : w.cell? a = some v) : a.block < w.heap.size := by
  rcases Nat.lt_or_ge a.block w.heap.size with hl | hl
  · exact hl
  · unfold World.cell? at h
    rw [Array.getElem?_eq_none hl] at h
    simp at h
theorem pax_Find.pairs {w : World} {A : Option Addr} {l : List S36} (h : Kd.C k36 w A l.length l) : PairsAt w A (l.map fun x => (x.f0, x.f1)) := fun j hj => by
  have hj' : j < l.length := by simpa using hj
  obtain ⟨ad, e, h0, h1⟩ := at_T36 h (j : Int) (by omega) (by omega)
  have hx : rd_T36 l (j : Int) = l[j] := by simp [rd_T36, hj']
  rw [hx, Int.toNat_natCast] at h0 h1
  refine ⟨ad, e, ?_, ?_, pax_Find.lt h0⟩
  · rw [h0]; simp
  · rw [h1]; simp
def pax_Find.f (l0 : List S36) (a1 : ByteArray) : Option (ByteArray × Bool) := if l0.length ≤ 4611686018427387904 then some (findS (l0.map fun x => (x.f0, x.f1)) a1) else none
theorem pax_Find.calls (A0 : Option Addr) (c0 : Nat) (l0 : List S36) (a1 : ByteArray) (r1 : ByteArray) (r2 : Bool) (w : World) (hG : Gv w) (hr0 : Kd.C k36 w A0 l0.length l0) (hc0 : l0.length ≤ c0) (h : pax_Find.f l0 a1 = some (r1, r2)) :
    Calls Tryd.prog 12 #[.slice A0 l0.length c0, .string a1] w fun e w' => e = .returned (.tuple #[.string r1, .bool r2]) ∧ Below w.heap.size w w' := by
  unfold pax_Find.f at h
  split at h
  · rename_i hl
    have h' := Option.some.inj h
    have hf := find_in Fence.wide 3 trivial trivial trivial rfl (by omega) A0 c0 (l0.map fun x => (x.f0, x.f1)) (by simpa using hl) a1 w (pax_Find.pairs hr0)
    rw [List.length_map, h'] at hf
    exact callsIn_wide.1 hf
  · cases h


/-! ### strings_ContainsAny: function 21 -/

def strings_ContainsAny.f (a0 : ByteArray) (a1 : ByteArray) : Option (Bool) := if a0.size < 4294967281 then (if a1.size = 2 ∧ a1.data.toList.all (fun b => decide (b.toNat < 128)) = true then some (Lib.containsAny a0.data.toList a1.data.toList) else none) else none
theorem strings_ContainsAny.calls (a0 : ByteArray) (a1 : ByteArray) (r : Bool) (w : World) (hG : Gv w) (h : strings_ContainsAny.f a0 a1 = some r) :
    Calls Tryd.prog 21 #[.string a0, .string a1] w fun e w' => e = .returned (.bool r) ∧ Below w.heap.size w w' := by
  unfold strings_ContainsAny.f at h
  split at h
  · rename_i h1
    split at h
    · rename_i h2
      obtain rfl := Option.some.inj h
      exact ContainsAny_two a0 a1 w h2.1 h1 (fun b hb => by have := List.all_eq_true.1 h2.2 b hb; simpa using this)
    · cases h
  · cases h


/-! ### strings_IndexByte: function 22 -/

def strings_IndexByte.f (a0 : ByteArray) (a1 : Int) : Option (Int) := some (Lib.indexByte a0.data.toList a1.toNat.toUInt8)
theorem strings_IndexByte.calls (a0 : ByteArray) (a1 : Int) (r : Int) (w : World) (hG : Gv w) (h : strings_IndexByte.f a0 a1 = some r) :
    Calls Tryd.prog 22 #[.string a0, .int .u8 a1] w fun e w' => e = .returned (.int .i64 r) ∧ Drawn0 w w' := by
  obtain rfl := Option.some.inj h
  exact (Tryd.strings_IndexByte a0 a1 w).mono fun e w' ⟨p, q⟩ => ⟨p, q ▸ Drawn0.refl _⟩


/-! ### strconv_Itoa: function 23 -/

def strconv_Itoa.f (a0 : Int) : Option (ByteArray) := if -9223372036854775808 ≤ a0 ∧ a0 ≤ 9223372036854775807 then some ⟨(Lib.itoa a0).toArray⟩ else none
theorem strconv_Itoa.calls (a0 : Int) (r : ByteArray) (w : World) (hG : Gv w) (h : strconv_Itoa.f a0 = some r) :
    Calls Tryd.prog 23 #[.int .i64 a0] w fun e w' => e = .returned (.string r) ∧ Below w.heap.size w w' := by
  unfold strconv_Itoa.f at h
  split at h
  · rename_i h1
    obtain rfl := Option.some.inj h
    exact (Tryd.strconv_Itoa a0 h1.1 h1.2 w hG).mono fun e w' ⟨p, k, os, q⟩ => ⟨p, q ▸ below_grow_drewN k os⟩
  · cases h


end Go.Proofs.YtpaghdfnhlpngaaDoor.PPaxMerged
