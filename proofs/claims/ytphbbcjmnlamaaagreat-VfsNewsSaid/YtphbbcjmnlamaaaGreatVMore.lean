/- vfs: Up, Readlink, Free, Symlink. -/
import Derived.Test.YtphbbcjmnlamaaaGreatVLink
namespace Go.Proofs.YtphbbcjmnlamaaaGreatV
open Go.RowKit
set_option linter.unusedVariables false
set_option linter.unusedSimpArgs false
section
variable {w : World} {B f : Nat} {own : Nat → Option Int} {Ph : Phys} {S : FSt}
theorem Up_calls (h : FSRep w B f own Ph S) (dir : Int) :
    Calls Tryz.prog 16 #[.pointer (some ⟨f, 0, none⟩), .int .i64 dir] w fun e w' => e = .returned (.tuple #[.int .i64 (upS S dir).1, .int .i64 (upS S dir).2]) ∧ Below w.heap.size w w' := by
  have HR := Lib.hid h
  clear h
  by_cases hd : dirsS S [dir] = 0
  · obtain ⟨d, hg, hk⟩ := dirs_one hd
    have hr : upS S dir = (d.up, 0) := by unfold upS; rw [if_pos hd, hg]
    rw [hr]
    have HD := Lib.hid hd
    have Hg := Lib.hid hg
    clear hd hg hk hr
    go_enter Tryz.func16, Tryz.ntmps16
    go_wp2_with fail
    refine (dirs_one' HR.out _ _ _ rfl).mono ?_
    rintro e w1 ⟨rfl, rfl⟩
    rw [HD.out]
    have h1 := HR.out.of_below (alloc_below w (.cells #[.int .i64 dir] 3))
    have c4 := h1.c.2.2.2.2.1
    have hl := look_some h1 Hg.out
    have k := (h1.inos dir d Hg.out).c.2.2.2.2.2.2.2.2.2.2
    clear h1
    go_wp2
    go_ret2
    exact ⟨rfl, alloc_below _ _⟩
  · have hr : upS S dir = (0, dirsS S [dir]) := by unfold upS; rw [if_neg hd]
    have hb : (dirsS S [dir] != 0) = true := bne_iff_ne.2 hd
    rw [hr]
    clear hd hr
    go_enter Tryz.func16, Tryz.ntmps16
    go_wp2_with fail
    refine (dirs_one' HR.out _ _ _ rfl).mono ?_
    rintro e w1 ⟨rfl, rfl⟩
    go_wp2
    go_ret2
    exact ⟨rfl, alloc_below _ _⟩
theorem Free_calls (h : FSRep w B f own Ph S) (I : Inv S) :
    Calls Tryz.prog 27 #[.pointer (some ⟨f, 0, none⟩)] w fun e w' => e = .returned (.tuple #[.int .i64 (S.nodes - S.inodes.length), .int .i64 (S.bytes - S.used)]) ∧ Below w.heap.size w w' := by
  have c0 := h.c.1
  have c1 := h.c.2.1
  have c3 := h.c.2.2.2.1
  have c4 := h.c.2.2.2.2.1
  have hlen := fun nq => (h.drewN nq).map.len Tryz.underlying71
  simp only [List.length_map] at hlen
  have i1 := I.nodes
  have i2 := I.bytes
  have i3 := I.used
  have i4 := I.count
  have hw1 : IntKind.i64.wrap (S.nodes - (S.inodes.length : Int)) = S.nodes - S.inodes.length := wrap_small (by omega) (by omega)
  have hw2 : IntKind.i64.wrap (S.bytes - S.used) = S.bytes - S.used := wrap_small (by omega) (by omega)
  clear h I i1 i2 i3 i4
  go_enter Tryz.func27, Tryz.ntmps27
  go_wp2_with fail
  go_quiet (fail)
  go_wp2
  go_ret2
  exact ⟨rfl, below_drewN _ _ _⟩
def forgetS (S : FSt) : FSt := { S with trace := [] }
end
end Go.Proofs.YtphbbcjmnlamaaaGreatV
