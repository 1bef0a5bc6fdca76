/- vfs: Link. -/
import Derived.Test.YtighnmfeejdhoaaVNewIno
namespace Go.Proofs.YtighnmfeejdhoaaV
open Go.RowKit
set_option linter.unusedVariables false
set_option linter.unusedSimpArgs false
section
variable {w : World} {B f : Nat} {own : Nat → Option Int} {Ph : Phys} {S : FSt}
theorem there_pair {a b : Int} (h : thereS S [a, b] = 0) : (∃ i, aget a S.inodes = some i) ∧ ∃ i, aget b S.inodes = some i := by
  simp only [thereS] at h
  cases ha : aget a S.inodes with
  | none => rw [ha] at h; simp at h
  | some i =>
    cases hb : aget b S.inodes with
    | none => rw [ha, hb] at h; simp at h
    | some j => exact ⟨⟨i, rfl⟩, ⟨j, rfl⟩⟩
theorem inoCells_links (i : Ino) (l : Int) (dv ev : Value) : (inoCells i dv ev).setIfInBounds 9 (.int .i64 l) = inoCells { i with links := l } dv ev := rfl
set_option maxHeartbeats 1000000 in
theorem Link_calls (h : FSRep w B f own Ph S) (hB : B ≤ w.heap.size) (I : Inv S) (dir : Int) (name : ByteArray) (node : Int) :
    Calls Try.prog 12 #[.pointer (some ⟨f, 0, none⟩), .int .i64 dir, .string name, .int .i64 node] w fun e w' => e = .returned (.int .i64 (linkS S dir name node).1) ∧ Upd w B f own (linkS S dir name node).2 w' := by
  have HR := Lib.hid h
  have HB := Lib.hid hB
  have HI := Lib.hid I
  clear h hB I
  by_cases ht : thereS S [dir, node] = 0
  · have HT := Lib.hid ht
    by_cases ha : atS S dir name = 0
    · obtain ⟨hd, hn⟩ := at_zero ha
      obtain ⟨d, hd, hk⟩ := dirs_one hd
      obtain ⟨_, i, hi⟩ := there_pair ht
      have HA := Lib.hid ha
      have Hd := Lib.hid hd
      have Hk := Lib.hid hk
      have Hi := Lib.hid hi
      cases hg : aget name d.ents with
      | some m =>
        have hr : linkS S dir name node = (104, S) := by unfold linkS; rw [if_pos ht, if_pos ha, entsS_some hd, hg]; rfl
        have Hg := Lib.hid hg
        rw [hr]
        clear ht ha hd hk hn hi hg hr
        go_enter Try.func12, Try.ntmps12
        go_wp2_with fail
        refine (there_two HR.out _ _ _ _ rfl).mono ?_
        rintro e w1 ⟨rfl, rfl⟩
        rw [HT.out]
        go_wp2_with fail
        refine (at_calls (HR.out.of_below (alloc_below _ _)) _ _).mono ?_
        rintro e w1 ⟨rfl, hw⟩
        rw [HA.out]
        have HW := Lib.hid (below_next (alloc_below _ _) hw)
        clear hw
        go_wp2_with fail
        refine (has_calls (HR.out.of_below HW.out) dir name d Hd.out Hk.out).mono ?_
        rintro e w2 ⟨rfl, rfl⟩
        rw [Hg.out]
        go_wp2
        go_ret
        exact ⟨rfl, Upd.below HR.out HW.out⟩
      | none =>
        have Hg := Lib.hid hg
        by_cases hik : i.kind = 1
        · have hr : linkS S dir name node = (106, S) := by unfold linkS; rw [if_pos ht, if_pos ha, entsS_some hd, hg, hi]; simp only [Option.isSome_none, Bool.false_eq_true, if_false, if_pos hik]
          have Hik := Lib.hid hik
          rw [hr]
          clear ht ha hd hk hn hi hg hr hik
          go_enter Try.func12, Try.ntmps12
          go_wp2_with fail
          refine (there_two HR.out _ _ _ _ rfl).mono ?_
          rintro e w1 ⟨rfl, rfl⟩
          rw [HT.out]
          go_wp2_with fail
          refine (at_calls (HR.out.of_below (alloc_below _ _)) _ _).mono ?_
          rintro e w1 ⟨rfl, hw⟩
          rw [HA.out]
          have HW := Lib.hid (below_next (alloc_below _ _) hw)
          clear hw
          go_wp2_with fail
          refine (has_calls (HR.out.of_below HW.out) dir name d Hd.out Hk.out).mono ?_
          rintro e w2 ⟨rfl, rfl⟩
          rw [Hg.out]
          have h1 := HR.out.of_below HW.out
          have c4 := h1.c.2.2.2.2.1
          have hl := look_some h1 Hi.out
          have k0 := (h1.inos node i Hi.out).c.1
          rw [Hik.out] at k0
          clear h1
          go_wp2
          go_ret
          exact ⟨rfl, Upd.below HR.out HW.out⟩
        · have hr : linkS S dir name node = (0, doneS (setIno (linkEnt S dir name node) node { i with links := i.links + 1 }) ⟨4, dir, name, node, 0, noName, 0, 0⟩) := by
            unfold linkS; rw [if_pos ht, if_pos ha, entsS_some hd, hg, hi]; simp only [Option.isSome_none, Bool.false_eq_true, if_false, if_neg hik]
          have hle : linkEnt S dir name node = setIno S dir { d with ents := aset name node d.ents } := by unfold linkEnt; rw [hd]
          have hne : dir ≠ node := fun e => by subst e; rw [hd] at hi; cases hi; exact hik hk
          have hkb : (i.kind == 1) = false := beq_eq_false_iff_ne.2 hik
          have hkd : decide (i.kind = 1) = false := decide_eq_false hik
          have hwr : IntKind.i64.wrap (i.links + 1) = i.links + 1 := wrap_small (by have := (HI.out.ino _ _ hi).2.1; omega) (by have := (HI.out.ino _ _ hi).2.2.1; omega)
          rw [hr, hle]
          clear ht ha hd hk hn hi hg hr hle
          go_enter Try.func12, Try.ntmps12
          go_wp2_with fail
          refine (there_two HR.out _ _ _ _ rfl).mono ?_
          rintro e w1 ⟨rfl, rfl⟩
          rw [HT.out]
          go_wp2_with fail
          refine (at_calls (HR.out.of_below (alloc_below _ _)) _ _).mono ?_
          rintro e w1 ⟨rfl, hw⟩
          rw [HA.out]
          have HW := Lib.hid (below_next (alloc_below _ _) hw)
          clear hw
          go_wp2_with fail
          refine (has_calls (HR.out.of_below HW.out) dir name d Hd.out Hk.out).mono ?_
          rintro e w2 ⟨rfl, rfl⟩
          rw [Hg.out]
          have h1 := HR.out.of_below HW.out
          have c4 := h1.c.2.2.2.2.1
          have hl := look_some h1 Hi.out
          have hl2 := look_some h1 Hd.out
          have hI1 := h1.inos node i Hi.out
          have k0 := hI1.c.1
          have hD1 := h1.inos dir d Hd.out
          obtain ⟨eb, he, hoe, hMe⟩ := hD1.dir Hk.out
          have k8 := hD1.c.2.2.2.2.2.2.2.2.1
          rw [he] at k8
          obtain ⟨w3, hput, hM3, hT3⟩ := put_ent hMe name node
          have h3 := h1.ents_set Hd.out Hk.out he _ hT3 hM3
          have hi3 : aget node (setIno S dir { d with ents := aset name node d.ents }).inodes = some i := by
            show aget node (aset _ _ _) = _
            rw [aget_aset, if_neg hne]
            exact Hi.out
          have hI3 := h3.inos node i hi3
          have k9 := hI3.c.2.2.2.2.2.2.2.2.2.1
          have g9 := hI3.fz 9
          have h4 := h3.cell_set (i' := { i with links := i.links + 1 }) hi3 rfl rfl rfl (Nat.le_of_eq (Turned.setCell _ (Ph.ib node) 9 (.int .i64 (i.links + 1))).size.symm) (fun b _ hb => (Turned.setCell _ (Ph.ib node) 9 (.int .i64 (i.links + 1))).block b hb) (heap_setCell_at hI3.cells 9 _)
          have H4 := Lib.hid h4
          have HT3 := Lib.hid hT3
          have HI3 := Lib.hid hI3
          have Ho := Lib.hid hoe
          clear h1 hI1 hD1 he hMe hM3 hT3 h3 hI3 h4 hi3
          have e9 : (Phys.at Ph dir (Ph.dv dir) (Ph.ev dir)).ib node = Ph.ib node := rfl
          rw [e9] at k9 g9
          go_wp2_with fail
          refine (done_calls (B := B) H4.out (by have := HB.out; have := HW.out.size; have := HT3.out.size; have := (Turned.setCell w3 (Ph.ib node) 9 (.int .i64 (i.links + 1))).size; omega) (by have := HI.out.trace; show S.trace.length ≤ _; omega) ⟨4, dir, name, node, 0, noName, 0, 0⟩).mono ?_
          rintro e w7 ⟨rfl, hu⟩
          have HU := Lib.hid (Upd.after (Frame.of_below HW.out) (Upd.after (Frame.of_turned HT3.out (by rw [Ho.out]; simp)) (Upd.after (Frame.of_turned (Turned.setCell w3 (Ph.ib node) 9 (.int .i64 (i.links + 1))) (by have := HI3.out.ok; rw [e9] at this; rw [this]; simp)) hu)))
          clear hu hput c4 hl hl2 k0 k8 k9 g9
          go_wp2
          go_ret
          exact ⟨rfl, HU.out⟩
    · have hr : linkS S dir name node = (atS S dir name, S) := by unfold linkS; rw [if_pos ht, if_neg ha]
      have hb : (atS S dir name != 0) = true := bne_iff_ne.2 ha
      rw [hr]
      clear ht ha hr
      go_enter Try.func12, Try.ntmps12
      go_wp2_with fail
      refine (there_two HR.out _ _ _ _ rfl).mono ?_
      rintro e w1 ⟨rfl, rfl⟩
      rw [HT.out]
      go_wp2_with fail
      refine (at_calls (HR.out.of_below (alloc_below _ _)) _ _).mono ?_
      rintro e w1 ⟨rfl, hw⟩
      have HW := Lib.hid (below_next (alloc_below _ _) hw)
      clear hw
      go_wp2
      go_ret
      exact ⟨rfl, Upd.below HR.out HW.out⟩
  · have hr : linkS S dir name node = (thereS S [dir, node], S) := by unfold linkS; rw [if_neg ht]
    have hb : (thereS S [dir, node] != 0) = true := bne_iff_ne.2 ht
    rw [hr]
    clear ht hr
    go_enter Try.func12, Try.ntmps12
    go_wp2_with fail
    refine (there_two HR.out _ _ _ _ rfl).mono ?_
    rintro e w1 ⟨rfl, rfl⟩
    go_wp2
    go_ret
    exact ⟨rfl, Upd.below HR.out (alloc_below _ _)⟩
end
end Go.Proofs.YtighnmfeejdhoaaV
