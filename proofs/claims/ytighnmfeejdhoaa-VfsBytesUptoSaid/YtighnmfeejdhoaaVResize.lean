/- vfs: Resize. -/
import Derived.Test.YtighnmfeejdhoaaVSized
namespace Go.Proofs.YtighnmfeejdhoaaV
open Go.RowKit
set_option linter.unusedVariables false
set_option linter.unusedSimpArgs false
section
variable {w : World} {B f : Nat} {own : Nat → Option Int} {Ph : Phys} {S : FSt}
theorem sizedS_fail {node : Int} {i : Ino} {size : Int} (h : (sizedS S node i size).1 ≠ 0) : (sizedS S node i size) = (105, S) := by
  by_cases hno : size - i.data.length > S.bytes - S.used
  · exact sizedS_no hno
  · rw [sizedS_ok hno] at h
    exact absurd rfl h
theorem sizedS_good {node : Int} {i : Ino} {size : Int} (h : (sizedS S node i size).1 = 0) : (sizedS S node i size) = (0, setIno { S with used := S.used + (size - i.data.length) } node { i with data := resized i.data size.toNat }) := by
  by_cases hno : size - i.data.length > S.bytes - S.used
  · rw [sizedS_no hno] at h
    cases h
  · exact sizedS_ok hno
theorem resizeS_none {node size : Int} (hi : aget node S.inodes = none) : resizeS S node size = (100, S) := by unfold resizeS; rw [hi]
theorem resizeS_arg {node size : Int} {i : Ino} (hi : aget node S.inodes = some i) (h : size < 0 ∨ size > 4194304) : resizeS S node size = (1, S) := by unfold resizeS; rw [hi]; simp only [if_pos h]
theorem resizeS_kind {node size : Int} {i : Ino} (hi : aget node S.inodes = some i) (h : ¬ (size < 0 ∨ size > 4194304)) (hk : i.kind ≠ 2) : resizeS S node size = (106, S) := by unfold resizeS; rw [hi]; simp only [if_neg h, if_pos hk]
theorem resizeS_ok {node size : Int} {i : Ino} (hi : aget node S.inodes = some i) (h : ¬ (size < 0 ∨ size > 4194304)) (hk : i.kind = 2) :
    resizeS S node size = if (sizedS S node i size).1 = 0 then (0, doneS (sizedS S node i size).2 ⟨6, 0, noName, node, 0, noName, 0, size⟩) else ((sizedS S node i size).1, S) := by unfold resizeS; rw [hi]; simp only [if_neg h, if_neg (not_not_intro hk)]
theorem Resize_none (h : FSRep w B f own Ph S) (node size : Int) (hi : aget node S.inodes = none) :
    Calls Try.prog 8 #[.pointer (some ⟨f, 0, none⟩), .int .i64 node, .int .i64 size] w fun e w' => e = .returned (.int .i64 (resizeS S node size).1) ∧ Upd w B f own (resizeS S node size).2 w' := by
  rw [resizeS_none hi]
  have HR := Lib.hid h
  have c4 := h.c.2.2.2.2.1
  have hl := look_none h hi
  clear h hi
  go_enter Try.func8, Try.ntmps8
  go_wp2
  go_ret
  exact ⟨rfl, Upd.same HR.out⟩
theorem Resize_arg (h : FSRep w B f own Ph S) (node size : Int) (i : Ino) (hi : aget node S.inodes = some i) (ha : size < 0 ∨ size > 4194304) :
    Calls Try.prog 8 #[.pointer (some ⟨f, 0, none⟩), .int .i64 node, .int .i64 size] w fun e w' => e = .returned (.int .i64 (resizeS S node size).1) ∧ Upd w B f own (resizeS S node size).2 w' := by
  rw [resizeS_arg hi ha]
  have HR := Lib.hid h
  have c4 := h.c.2.2.2.2.1
  have hl := look_some h hi
  clear h hi
  by_cases h0 : size < 0
  · have hd : decide (size < 0) = true := decide_eq_true h0
    clear ha
    go_enter Try.func8, Try.ntmps8
    go_wp2
    go_ret
    exact ⟨rfl, Upd.same HR.out⟩
  · have hd : decide (size < 0) = false := decide_eq_false h0
    have hd2 : 4194304 < size := ha.resolve_left h0
    clear ha
    go_enter Try.func8, Try.ntmps8
    go_wp2
    go_ret
    exact ⟨rfl, Upd.same HR.out⟩
theorem Resize_kind (h : FSRep w B f own Ph S) (node size : Int) (i : Ino) (hi : aget node S.inodes = some i) (ha : ¬ (size < 0 ∨ size > 4194304)) (hk : i.kind ≠ 2) :
    Calls Try.prog 8 #[.pointer (some ⟨f, 0, none⟩), .int .i64 node, .int .i64 size] w fun e w' => e = .returned (.int .i64 (resizeS S node size).1) ∧ Upd w B f own (resizeS S node size).2 w' := by
  rw [resizeS_kind hi ha hk]
  have HR := Lib.hid h
  have c4 := h.c.2.2.2.2.1
  have hl := look_some h hi
  have k0 := (h.inos node i hi).c.1
  have hd : decide (size < 0) = false := decide_eq_false (by omega)
  have hd2 : ¬ (4194304 < size) := by omega
  have hk' : (i.kind != 2) = true := bne_iff_ne.2 hk
  clear h hi ha
  go_enter Try.func8, Try.ntmps8
  go_wp2
  go_ret
  exact ⟨rfl, Upd.same HR.out⟩
theorem Resize_ok (h : FSRep w B f own Ph S) (hB : B ≤ w.heap.size) (I : Inv S) (node size : Int) (i : Ino) (hi : aget node S.inodes = some i) (ha : ¬ (size < 0 ∨ size > 4194304)) (hk : i.kind = 2) :
    Calls Try.prog 8 #[.pointer (some ⟨f, 0, none⟩), .int .i64 node, .int .i64 size] w fun e w' => e = .returned (.int .i64 (resizeS S node size).1) ∧ Upd w B f own (resizeS S node size).2 w' := by
  rw [resizeS_ok hi ha hk]
  have HR := Lib.hid h
  have Hi := Lib.hid hi
  have HI := Lib.hid I
  have HB := Lib.hid hB
  have c4 := h.c.2.2.2.2.1
  have hl := look_some h hi
  have k0 := (h.inos node i hi).c.1
  rw [hk] at k0
  have hd : decide (size < 0) = false := decide_eq_false (by omega)
  have hd2 : ¬ (4194304 < size) := by omega
  have H0 := Lib.hid (show 0 ≤ size by omega)
  have H1 := Lib.hid (show size ≤ 4194304 by omega)
  clear h hi ha hB I
  by_cases hs : (sizedS S node i size).1 = 0
  · rw [if_pos hs]
    have hf := sizedS_good hs
    have Hs := Lib.hid hf
    clear hs hf
    go_enter Try.func8, Try.ntmps8
    go_wp2_with fail
    refine (sized_calls HR.out HB.out HI.out node i Hi.out size H0.out H1.out).mono ?_
    rintro e w1 ⟨rfl, own1, Ph1, r1, r2, r3⟩
    have HF := Lib.hid r2
    have H1' := Lib.hid r1
    clear r1 r2 r3 c4 hl k0
    rw [Hs.out]
    go_wp2_with fail
    refine (done_calls (B := B) H1'.out (Nat.le_trans HB.out HF.out.size) (by rw [Hs.out]; have := HI.out.trace; show S.trace.length ≤ _; omega) ⟨6, 0, noName, node, 0, noName, 0, size⟩).mono ?_
    rintro e w7 ⟨rfl, hu⟩
    have HU := Lib.hid (Upd.after HF.out hu)
    clear hu
    go_wp2
    go_ret
    exact ⟨rfl, HU.out⟩
  · rw [if_neg hs]
    have hf := sizedS_fail hs
    have Hs := Lib.hid hf
    rw [hf]
    clear hs hf
    go_enter Try.func8, Try.ntmps8
    go_wp2_with fail
    refine (sized_calls HR.out HB.out HI.out node i Hi.out size H0.out H1.out).mono ?_
    rintro e w1 ⟨rfl, own1, Ph1, r1, r2, r3⟩
    rw [Hs.out] at r1 ⊢
    have HU : Hid (Upd w B f own S w1) := Lib.hid ⟨own1, Ph1, r1, r2⟩
    clear r1 r2 r3
    go_wp2
    go_ret
    exact ⟨rfl, HU.out⟩
theorem Resize_calls (h : FSRep w B f own Ph S) (hB : B ≤ w.heap.size) (I : Inv S) (node size : Int) :
    Calls Try.prog 8 #[.pointer (some ⟨f, 0, none⟩), .int .i64 node, .int .i64 size] w fun e w' => e = .returned (.int .i64 (resizeS S node size).1) ∧ Upd w B f own (resizeS S node size).2 w' := by
  cases hi : aget node S.inodes with
  | none => exact Resize_none h node size hi
  | some i =>
    by_cases ha : size < 0 ∨ size > 4194304
    · exact Resize_arg h node size i hi ha
    · by_cases hk : i.kind = 2
      · exact Resize_ok h hB I node size i hi ha hk
      · exact Resize_kind h node size i hi ha hk
end
end Go.Proofs.YtighnmfeejdhoaaV
