/- vfs: Read. -/
import Derived.Test.YtphbbcjmnlamaaaGreatVWrite
import Derived.StillTailTactics
namespace Go.Proofs.YtphbbcjmnlamaaaGreatV
open Go.RowKit
set_option linter.unusedVariables false
set_option linter.unusedSimpArgs false
section
variable {w : World} {B f : Nat} {own : Nat → Option Int} {Ph : Phys} {S : FSt}
theorem clone_mid {n : Nat} {xs : List Value} {g cap : Nat} (h : w.ownsRow B 5 1 (.slice (some ⟨g, 0, none⟩) n cap) n xs) (h1 : ∀ u ∈ xs, u.oneCell' = true) (off k : Nat) (hk : off + k ≤ n) (hn : n ≤ 4194304) (c' : Nat) :
    Calls Tryz.prog 31 #[.slice (some ⟨g, off, none⟩) k c'] w fun e w' => ∃ v', e = .returned v' ∧ w'.ownsRow w.heap.size 5 1 v' k ((xs.drop off).take k) ∧ Below w.heap.size w w' := by
  obtain ⟨i0, hi, hz0, hz1, hz2⟩ := info_parts infoByte
  have hlen : ((xs.drop off).take k).length = k * 1 := by have := h.1; simp; omega
  refine (Tryz.slices_Clone_uint8 i0 (.int .u8 0) 1 1 hi hz0 hz1 hz2 rfl (by decide) Tryz.sizeOf5 g off k c' ((xs.drop off).take k) w hlen (by unfold maxLen; omega) (by omega) (fun j u hu => ?_) (fun u hu => h1 u (List.mem_of_mem_drop (List.mem_of_mem_take hu)))).mono ?_
  · have hu' : xs[off + j]? = some u := by
      rw [List.getElem?_take] at hu
      split at hu
      · rw [List.getElem?_drop] at hu
        exact hu
      · cases hu
    have := h.cells (g := g) rfl (off + j) u hu'
    rw [Addr.add_lit] at this
    simpa using this
  · rintro e w' ⟨v', rfl, r1, _, r2⟩
    exact ⟨v', rfl, r1, r2⟩
def ReadPost (w : World) (r : List Int × Int) (e : Ending) (w' : World) : Prop := ∃ v, e = .returned (.tuple #[v, .int .i64 r.2]) ∧ w'.ownsRow w.heap.size 5 1 v r.1.length (byteCells r.1) ∧ Below w.heap.size w w'
theorem readPost_nil (w : World) (n : Int) (w' : World) (h : Below w.heap.size w w') : ReadPost w ([], n) (.returned (.tuple #[.slice none 0 0, .int .i64 n])) w' := ⟨_, rfl, ⟨rfl, .inl ⟨rfl, rfl⟩⟩, h⟩
theorem Read_nil (h : FSRep w B f own Ph S) (node at_ n : Int) (hi : aget node S.inodes = none) : Calls Tryz.prog 23 #[.pointer (some ⟨f, 0, none⟩), .int .i64 node, .int .i64 at_, .int .i64 n] w (ReadPost w (readS S node at_ n)) := by
  have hr : readS S node at_ n = ([], 100) := by unfold readS; rw [hi]
  rw [hr]
  have c4 := h.c.2.2.2.2.1
  have hl := look_none h hi
  clear h hi hr
  go_enter Tryz.func23, Tryz.ntmps23
  go_wp2
  go_ret2
  exact readPost_nil _ _ _ (Below.refl _ _)
theorem Read_arg (h : FSRep w B f own Ph S) (node at_ n : Int) (i : Ino) (hi : aget node S.inodes = some i) (ha : at_ < 0 ∨ n < 0) : Calls Tryz.prog 23 #[.pointer (some ⟨f, 0, none⟩), .int .i64 node, .int .i64 at_, .int .i64 n] w (ReadPost w (readS S node at_ n)) := by
  have hr : readS S node at_ n = ([], 1) := by unfold readS; rw [hi]; simp only [if_pos ha]
  rw [hr]
  have c4 := h.c.2.2.2.2.1
  have hl := look_some h hi
  clear h hi hr
  by_cases h0 : at_ < 0
  · have hd : decide (at_ < 0) = true := decide_eq_true h0
    clear ha
    go_enter Tryz.func23, Tryz.ntmps23
    go_wp2
    go_ret2
    exact readPost_nil _ _ _ (Below.refl _ _)
  · have hd : decide (at_ < 0) = false := decide_eq_false h0
    have hd2 : n < 0 := ha.resolve_left h0
    clear ha
    go_enter Tryz.func23, Tryz.ntmps23
    go_wp2
    go_ret2
    exact readPost_nil _ _ _ (Below.refl _ _)
theorem Read_kind (h : FSRep w B f own Ph S) (node at_ n : Int) (i : Ino) (hi : aget node S.inodes = some i) (ha : ¬ (at_ < 0 ∨ n < 0)) (hk : i.kind ≠ 2) : Calls Tryz.prog 23 #[.pointer (some ⟨f, 0, none⟩), .int .i64 node, .int .i64 at_, .int .i64 n] w (ReadPost w (readS S node at_ n)) := by
  have hr : readS S node at_ n = ([], 106) := by unfold readS; rw [hi]; simp only [if_neg ha, if_pos hk]
  rw [hr]
  have c4 := h.c.2.2.2.2.1
  have hl := look_some h hi
  have k0 := (h.inos node i hi).c.1
  have hk' : (i.kind != 2) = true := bne_iff_ne.2 hk
  have hd : decide (at_ < 0) = false := decide_eq_false (by omega)
  have hd2 : ¬ n < 0 := by omega
  clear h hi hr ha
  go_enter Tryz.func23, Tryz.ntmps23
  go_wp2
  go_ret2
  exact readPost_nil _ _ _ (Below.refl _ _)
theorem Read_past (h : FSRep w B f own Ph S) (node at_ n : Int) (i : Ino) (hi : aget node S.inodes = some i) (ha : ¬ (at_ < 0 ∨ n < 0)) (hk : i.kind = 2) (hp : at_ ≥ i.data.length) : Calls Tryz.prog 23 #[.pointer (some ⟨f, 0, none⟩), .int .i64 node, .int .i64 at_, .int .i64 n] w (ReadPost w (readS S node at_ n)) := by
  have hr : readS S node at_ n = ([], 0) := by unfold readS; rw [hi]; simp only [if_neg ha, if_neg (not_not_intro hk), if_pos hp]
  rw [hr]
  have hI := h.inos node i hi
  have c4 := h.c.2.2.2.2.1
  have hl := look_some h hi
  have k0 := hI.c.1
  rw [hk] at k0
  obtain ⟨da, dc, hdv, _, _⟩ := row_slice hI.data
  have k6 := hI.c.2.2.2.2.2.2.1
  rw [hdv] at k6
  have hd : decide (at_ < 0) = false := decide_eq_false (by omega)
  have hd2 : ¬ n < 0 := by omega
  have hd3 : (i.data.length : Int) ≤ at_ := hp
  clear h hI hi hr ha hdv
  go_enter Tryz.func23, Tryz.ntmps23
  go_wp2
  go_ret2
  exact readPost_nil _ _ _ (Below.refl _ _)
set_option maxRecDepth 100000 in
theorem Read_some (h : FSRep w B f own Ph S) (I : Inv S) (node : Int) (k m : Nat) (i : Ino) (hi : aget node S.inodes = some i) (hk : i.kind = 2) (hp : k < i.data.length) : Calls Tryz.prog 23 #[.pointer (some ⟨f, 0, none⟩), .int .i64 node, .int .i64 k, .int .i64 m] w (ReadPost w (readS S node k m)) := by
  have hr : readS S node k m = ((i.data.drop k).take (min m (i.data.length - k)), 0) := by
    unfold readS
    rw [hi]
    simp only [if_neg (show ¬ ((k : Int) < 0 ∨ (m : Int) < 0) by omega), if_neg (not_not_intro hk), if_neg (show ¬ ((k : Int) ≥ i.data.length) by omega)]
    congr 2
    omega
  rw [hr]
  have HI := Lib.hid (I.ino node i hi).1
  have hI := h.inos node i hi
  have c4 := h.c.2.2.2.2.1
  have hl := look_some h hi
  have k0 := hI.c.1
  rw [hk] at k0
  obtain ⟨g, cap, cur, e1, e2, e3, e4, e5⟩ := copy_facts h hi (by omega)
  have hrow := hI.data.own
  rw [e1] at hrow
  have HRow := Lib.hid hrow
  have k6 := hI.c.2.2.2.2.2.2.1
  rw [e1] at k6
  have hd : decide ((k : Int) < 0) = false := decide_eq_false (by omega)
  have hd2 : ¬ (m : Int) < 0 := by omega
  have hd3 : ¬ (i.data.length : Int) ≤ (k : Int) := by omega
  have hz1 : (k : Int) ≤ (i.data.length : Int) := by omega
  have hz2 : (i.data.length : Int) ≤ (cap : Int) := by omega
  have hz3 : k < cap := by omega
  have hw1 : IntKind.i64.wrap ((i.data.length : Int) - (k : Int)) = (i.data.length : Int) - (k : Int) := wrap_small (by omega) (by have := HI.out; omega)
  have hw2 : min (m : Int) ((i.data.length : Int) - (k : Int)) = ((min m (i.data.length - k) : Nat) : Int) := by omega
  have hz4 : ((min m (i.data.length - k) : Nat) : Int) ≤ ((i.data.length - k : Nat) : Int) := by omega
  have hz5 : ((min m (i.data.length - k) : Nat) : Int) ≤ ((cap - k : Nat) : Int) := by omega
  have Hz := Lib.hid (show k + min m (i.data.length - k) ≤ i.data.length by omega)
  generalize min m (i.data.length - k) = q at *
  clear h hI hi hr I e1 e2 e5 hrow
  go_enter Tryz.func23, Tryz.ntmps23
  go_wp2_with fail
  go_still_tail 16, (by kernel_rfl)
  change wpList _ _ _ _ _ w.drew
  go_wp2_with fail
  all_goals
    refine (clone_mid (w := w.drew) (B := B) HRow.out (byteCells_one _) k q Hz.out HI.out _).mono ?_
    rintro e w1 ⟨v, rfl, hown, hbl⟩
    obtain ⟨va, vc, rfl⟩ := owns_slice hown
    have HO := Lib.hid hown
    have HBl := Lib.hid hbl
    clear hown hbl
    go_wp2
    go_ret2
    refine ⟨_, rfl, ?_, ⟨HBl.out.os, HBl.out.tape, HBl.out.output, HBl.out.size, HBl.out.block⟩⟩
    have hl1 : ((i.data.drop k).take q).length = q := by have := Hz.out; simp; omega
    show World.ownsRow _ _ _ 1 _ ((i.data.drop k).take q).length (byteCells ((i.data.drop k).take q))
    rw [hl1]
    have := HO.out
    rw [show (List.take q (List.drop k (byteCells i.data))) = byteCells ((i.data.drop k).take q) by unfold byteCells; rw [List.map_take, List.map_drop]] at this
    exact this
theorem Read_calls (h : FSRep w B f own Ph S) (I : Inv S) (node at_ n : Int) : Calls Tryz.prog 23 #[.pointer (some ⟨f, 0, none⟩), .int .i64 node, .int .i64 at_, .int .i64 n] w (ReadPost w (readS S node at_ n)) := by
  cases hi : aget node S.inodes with
  | none => exact Read_nil h node at_ n hi
  | some i =>
    by_cases ha : at_ < 0 ∨ n < 0
    · exact Read_arg h node at_ n i hi ha
    · by_cases hk : i.kind = 2
      · by_cases hp : at_ ≥ i.data.length
        · exact Read_past h node at_ n i hi ha hk hp
        · obtain ⟨k, rfl⟩ : ∃ k : Nat, at_ = k := ⟨at_.toNat, by omega⟩
          obtain ⟨m, rfl⟩ : ∃ m : Nat, n = m := ⟨n.toNat, by omega⟩
          exact Read_some h I node k m i hi hk (by omega)
      · exact Read_kind h node at_ n i hi ha hk
end
end Go.Proofs.YtphbbcjmnlamaaaGreatV
