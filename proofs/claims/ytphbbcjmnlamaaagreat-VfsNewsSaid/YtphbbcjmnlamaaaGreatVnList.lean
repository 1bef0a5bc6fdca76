/- VfsNews: a directory's entries, told; where there are none. -/
import Derived.Test.YtphbbcjmnlamaaaGreatVnKeys
namespace Go.Proofs.YtphbbcjmnlamaaaGreatV
open Go.RowKit
set_option linter.unusedVariables false
set_option linter.unusedSimpArgs false
section
variable {w : World}
set_option maxHeartbeats 1000000 in
theorem list_calls {ib eb : Nat} (hc : w.cell? ⟨ib, 4 + 4, none⟩ = some (.map (some eb))) (hm : MapAt keyStr (Value.int .i64) w eb []) :
    Calls Tryz.prog 32 #[.pointer (some ⟨ib, 0, none⟩)] w fun e w' => e = .returned (.slice none 0 0) ∧ Below w.heap.size w w' := by
  have hc' : w.cell? ⟨ib, 8, none⟩ = some (.map (some eb)) := hc
  obtain ⟨D0, hown, hperm, hsize⟩ := own_of_map (H := Unit) hm (by simp [akeys]) (by unfold maxLen; simp) (by simp)
  have HOWN := Lib.hid hown
  have HPERM := Lib.hid hperm
  have HSIZE := Lib.hid hsize
  clear hown hperm hsize hm hc
  go_enter Tryz.func32, Tryz.ntmps32
  go_wp2_with fail
  refine (callsIn_wide.1 (Tryz.maps_Keys_47 _ _)).mono ?_
  rintro e3 w3 ⟨rfl, rfl⟩
  go_wp2_with fail
  refine (callsIn_wide.1 (Tryz.slices_Sorted_keys_46_47 eb _ D0 _ w HOWN.out (by rw [HSIZE.out]; unfold maxLen; simp) (by rw [HSIZE.out]; simp))).mono ?_
  rintro e4 w4 ⟨v, ss, rfl, hS, hrow, hnil, hb⟩
  have hss : ss = [] := by have := (hS.trans HPERM.out).length_eq; simpa using this
  subst hss
  obtain rfl := hnil.2 rfl
  have HB := Lib.hid hb
  clear hS hrow hnil hb
  go_wp2
  refine wp_loop_rounds 1 ?_
  rw [rounds_succ]
  go_wp2
  go_ret
  exact ⟨rfl, (alloc_below w _).trans (HB.out.mono (by simp))⟩
end
end Go.Proofs.YtphbbcjmnlamaaaGreatV
