/- vfs: takes, Unlink, Rmdir, Trace. -/
import Derived.Test.YtighnmfeejdhoaaVLoses
namespace Go.Proofs.YtighnmfeejdhoaaV
open Go.RowKit
set_option linter.unusedVariables false
set_option linter.unusedSimpArgs false
section
variable {w : World} {B f : Nat} {own : Nat → Option Int} {Ph : Phys} {S : FSt}
/-- What a found entry tells. -/
theorem lookup_found {dir : Int} {name : ByteArray} (h : (lookupS S dir name).2 = 0) : ∃ d n, aget dir S.inodes = some d ∧ d.kind = 1 ∧ aget name d.ents = some n ∧ lookupS S dir name = (n, 0) := by
  by_cases ha : atS S dir name = 0
  · obtain ⟨hd, hn⟩ := at_zero ha
    obtain ⟨d, hd, hk⟩ := dirs_one hd
    cases hg : aget name d.ents with
    | none => rw [lookupS_none ha hd hg] at h; cases h
    | some n => exact ⟨d, n, hd, hk, hg, lookupS_some ha hd hg⟩
  · unfold lookupS at h
    rw [if_neg ha] at h
    exact absurd h ha
def takesB (S : FSt) (op dir : Int) (name : ByteArray) (n : Int) (i : Ino) : Int × FSt := if (decide (i.kind = 1) != decide (op = 8)) = true then (106, S) else if 0 < i.ents.length then (109, S) else (0, doneS (losesS S dir name) ⟨op, dir, name, n, 0, noName, 0, 0⟩)
theorem takesS_found {op dir : Int} {name : ByteArray} {n : Int} {i : Ino} (hl : lookupS S dir name = (n, 0)) (hi : aget n S.inodes = some i) : takesS S op dir name = takesB S op dir name n i := by
  unfold takesS takesB
  rw [hl]
  simp only [if_true]
  rw [hi]
theorem takes_kind (h : FSRep w B f own Ph S) (op dir : Int) (name : ByteArray) (i : Ino) (n : Int) (Hl : lookupS S dir name = (n, 0)) (Hi : aget n S.inodes = some i) (x y : Bool) (hx : (i.kind == 1) = x) (hy : (op == 8) = y) (hxy : (x = true ∧ y = false) ∨ (x = false ∧ y = true)) :
    Calls Try.prog 23 #[.pointer (some ⟨f, 0, none⟩), .int .i64 op, .int .i64 dir, .string name] w fun e w' => e = .returned (.int .i64 106) ∧ Upd w B f own S w' := by
  have HR := Lib.hid h
  have HI := Lib.hid Hi
  have HL := Lib.hid Hl
  clear h Hl Hi
  rcases hxy with ⟨rfl, rfl⟩ | ⟨rfl, rfl⟩
  all_goals
    go_enter Try.func23, Try.ntmps23
    go_wp2_with fail
    refine (Lookup_calls HR.out dir name).mono ?_
    rintro e w1 ⟨rfl, hw⟩
    rw [HL.out]
    have HW := Lib.hid hw
    have h1 := HR.out.of_below hw
    have c4 := h1.c.2.2.2.2.1
    have hlk := look_some h1 HI.out
    have k0 := (h1.inos n i HI.out).c.1
    clear hw h1
    go_wp2
    go_ret
    exact ⟨rfl, Upd.below HR.out HW.out⟩
theorem takes_full (h : FSRep w B f own Ph S) (op dir : Int) (name : ByteArray) (i : Ino) (n : Int) (Hl : lookupS S dir name = (n, 0)) (Hi : aget n S.inodes = some i) (x : Bool) (hx : (i.kind == 1) = x) (hy : (op == 8) = x) (he : 0 < i.ents.length) :
    Calls Try.prog 23 #[.pointer (some ⟨f, 0, none⟩), .int .i64 op, .int .i64 dir, .string name] w fun e w' => e = .returned (.int .i64 109) ∧ Upd w B f own S w' := by
  have HR := Lib.hid h
  have HI := Lib.hid Hi
  have HL := Lib.hid Hl
  have he' : (0 : Int) < (i.ents.length : Int) := by omega
  clear h Hl Hi he
  cases x
  all_goals
    go_enter Try.func23, Try.ntmps23
    go_wp2_with fail
    refine (Lookup_calls HR.out dir name).mono ?_
    rintro e w1 ⟨rfl, hw⟩
    rw [HL.out]
    have HW := Lib.hid hw
    have h1 := HR.out.of_below hw
    have c4 := h1.c.2.2.2.2.1
    have hlk := look_some h1 HI.out
    have hI1 := h1.inos n i HI.out
    have k0 := hI1.c.1
    have k8 := hI1.c.2.2.2.2.2.2.2.2.1
    have hlen := len_ents hI1
    clear hw h1 hI1
    go_wp2
    go_ret
    exact ⟨rfl, Upd.below HR.out HW.out⟩
theorem takes_go (h : FSRep w B f own Ph S) (hB : B ≤ w.heap.size) (I : Inv S) (op dir : Int) (name : ByteArray) (d i : Ino) (n : Int) (hl : lookupS S dir name = (n, 0)) (hd : aget dir S.inodes = some d) (hk : d.kind = 1) (hg : aget name d.ents = some n) (hi : aget n S.inodes = some i)
    (x : Bool) (hx : (i.kind == 1) = x) (hy : (op == 8) = x) (he : ¬ 0 < i.ents.length) :
    Calls Try.prog 23 #[.pointer (some ⟨f, 0, none⟩), .int .i64 op, .int .i64 dir, .string name] w fun e w' => e = .returned (.int .i64 0) ∧ Upd w B f own (doneS (losesS S dir name) ⟨op, dir, name, n, 0, noName, 0, 0⟩) w' := by
  have HR := Lib.hid h
  have HB := Lib.hid hB
  have HI := Lib.hid I
  have Hd := Lib.hid hd
  have Hk := Lib.hid hk
  have Hg := Lib.hid hg
  have Hi := Lib.hid hi
  have Hl := Lib.hid hl
  have he' : ¬ (0 : Int) < (i.ents.length : Int) := by omega
  have Hne := Lib.hid (show dir ≠ n by
    intro e
    have h1 := hi
    rw [← e, hd] at h1
    cases h1
    have h2 := aget_mem hg
    rw [List.eq_nil_of_length_eq_zero (by omega : d.ents.length = 0)] at h2
    cases h2)
  have Htr : Hid ((losesS S dir name).trace = S.trace) := by
    refine Lib.hid ?_
    rw [losesS_some hd hg hi Hne.out]
    split <;> rfl
  clear h hB I hd hk hg hi hl he
  cases x
  all_goals
    go_enter Try.func23, Try.ntmps23
    go_wp2_with fail
    refine (Lookup_calls HR.out dir name).mono ?_
    rintro e w1 ⟨rfl, hw⟩
    rw [Hl.out]
    have HW := Lib.hid hw
    have h1 := HR.out.of_below hw
    have c4 := h1.c.2.2.2.2.1
    have hlk := look_some h1 Hi.out
    have hI1 := h1.inos n i Hi.out
    have k0 := hI1.c.1
    have k8 := hI1.c.2.2.2.2.2.2.2.2.1
    have hlen := len_ents hI1
    clear hw h1 hI1
    go_wp2_with fail
    refine (loses_calls (HR.out.of_below HW.out) HI.out dir name d i n Hd.out Hk.out Hg.out Hi.out Hne.out).mono ?_
    rintro e w2 ⟨rfl, own2, Ph2, r1, r2⟩
    have R1 := Lib.hid r1
    have R2 := Lib.hid r2
    clear r1 r2 c4 hlk k0 k8 hlen
    go_wp2_with fail
    refine (done_calls (B := B) R1.out (Nat.le_trans HB.out (Nat.le_trans HW.out.size R2.out.size)) (by rw [Htr.out]; have := HI.out.trace; omega) ⟨op, dir, name, n, 0, noName, 0, 0⟩).mono ?_
    rintro e w7 ⟨rfl, hu⟩
    have HU := Lib.hid (Upd.after (Frame.of_below HW.out) (Upd.after R2.out hu))
    clear hu
    go_wp2
    go_ret
    exact ⟨rfl, HU.out⟩
theorem takes_none (h : FSRep w B f own Ph S) (op dir : Int) (name : ByteArray) (hl : (lookupS S dir name).2 ≠ 0) :
    Calls Try.prog 23 #[.pointer (some ⟨f, 0, none⟩), .int .i64 op, .int .i64 dir, .string name] w fun e w' => e = .returned (.int .i64 (lookupS S dir name).2) ∧ Upd w B f own S w' := by
  have HR := Lib.hid h
  clear h
  generalize hq : lookupS S dir name = q at *
  have HQ := Lib.hid hq
  have hb : (q.2 != 0) = true := bne_iff_ne.2 hl
  clear hq hl
  go_enter Try.func23, Try.ntmps23
  go_wp2_with fail
  refine (Lookup_calls HR.out dir name).mono ?_
  rintro e w1 ⟨rfl, hw⟩
  rw [HQ.out]
  have HW := Lib.hid hw
  clear hw
  go_wp2
  go_ret
  exact ⟨rfl, Upd.below HR.out HW.out⟩
theorem takes_calls (h : FSRep w B f own Ph S) (hB : B ≤ w.heap.size) (I : Inv S) (op dir : Int) (name : ByteArray) :
    Calls Try.prog 23 #[.pointer (some ⟨f, 0, none⟩), .int .i64 op, .int .i64 dir, .string name] w fun e w' => e = .returned (.int .i64 (takesS S op dir name).1) ∧ Upd w B f own (takesS S op dir name).2 w' := by
  by_cases hl : (lookupS S dir name).2 = 0
  · obtain ⟨d, n, hd, hk, hg, hlk⟩ := lookup_found hl
    obtain ⟨i, hi⟩ := I.ents dir d hd _ (aget_mem hg)
    have hi' : aget n S.inodes = some i := hi
    rw [takesS_found hlk hi']
    unfold takesB
    by_cases hx : (decide (i.kind = 1) != decide (op = 8)) = true
    · rw [if_pos hx]
      refine takes_kind h op dir name i n hlk hi' _ _ rfl rfl ?_
      by_cases a : i.kind = 1 <;> by_cases b : op = 8 <;> simp [a, b] at hx ⊢
    · rw [if_neg hx]
      have hy : (op == 8) = (i.kind == 1) := by
        have hx' : decide (i.kind = 1) = decide (op = 8) := by simpa [bne] using hx
        exact hx'.symm
      by_cases he : 0 < i.ents.length
      · rw [if_pos he]
        exact takes_full h op dir name i n hlk hi' _ rfl hy he
      · rw [if_neg he]
        exact takes_go h hB I op dir name d i n hlk hd hk hg hi' _ rfl hy he
  · have hr : takesS S op dir name = ((lookupS S dir name).2, S) := by unfold takesS; rw [if_neg hl]
    rw [hr]
    exact takes_none h op dir name hl
theorem Unlink_calls (h : FSRep w B f own Ph S) (hB : B ≤ w.heap.size) (I : Inv S) (dir : Int) (name : ByteArray) :
    Calls Try.prog 13 #[.pointer (some ⟨f, 0, none⟩), .int .i64 dir, .string name] w fun e w' => e = .returned (.int .i64 (takesS S 7 dir name).1) ∧ Upd w B f own (takesS S 7 dir name).2 w' := by
  have HR := Lib.hid h
  have HB := Lib.hid hB
  have HI := Lib.hid I
  clear h hB I
  go_enter Try.func13, Try.ntmps13
  go_wp2_with fail
  refine (takes_calls HR.out HB.out HI.out 7 dir name).mono ?_
  rintro e w1 ⟨rfl, hu⟩
  have HU := Lib.hid hu
  clear hu
  go_wp2
  go_ret
  exact ⟨rfl, HU.out⟩
theorem Rmdir_calls (h : FSRep w B f own Ph S) (hB : B ≤ w.heap.size) (I : Inv S) (dir : Int) (name : ByteArray) :
    Calls Try.prog 14 #[.pointer (some ⟨f, 0, none⟩), .int .i64 dir, .string name] w fun e w' => e = .returned (.int .i64 (takesS S 8 dir name).1) ∧ Upd w B f own (takesS S 8 dir name).2 w' := by
  have HR := Lib.hid h
  have HB := Lib.hid hB
  have HI := Lib.hid I
  clear h hB I
  go_enter Try.func14, Try.ntmps14
  go_wp2_with fail
  refine (takes_calls HR.out HB.out HI.out 8 dir name).mono ?_
  rintro e w1 ⟨rfl, hu⟩
  have HU := Lib.hid hu
  clear hu
  go_wp2
  go_ret
  exact ⟨rfl, HU.out⟩
end
end Go.Proofs.YtighnmfeejdhoaaV
