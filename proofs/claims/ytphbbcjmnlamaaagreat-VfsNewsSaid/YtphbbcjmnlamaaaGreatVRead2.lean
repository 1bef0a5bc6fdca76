/- vfs: calls that only read, second part. -/
import Derived.Test.YtphbbcjmnlamaaaGreatVRead
namespace Go.Proofs.YtphbbcjmnlamaaaGreatV
open Go.RowKit
set_option linter.unusedVariables false
set_option linter.unusedSimpArgs false
section
variable {w : World} {B f : Nat} {own : Nat → Option Int} {Ph : Phys} {S : FSt}
theorem below_two (w : World) (o1 o2 : Obj) : Below w.heap.size w ((w.alloc o1).alloc o2) := ((Below.refl _ _).alloc (Nat.le_refl _) _).alloc (by simp) _
theorem FSRep.c (h : FSRep w B f own Ph S) : w.cell? ⟨f, 0, none⟩ = some (.int .i64 S.nodes) ∧ w.cell? ⟨f, 1, none⟩ = some (.int .i64 S.bytes) ∧ w.cell? ⟨f, 2, none⟩ = some (.int .i64 S.next) ∧ w.cell? ⟨f, 3, none⟩ = some (.int .i64 S.used)
    ∧ w.cell? ⟨f, 4, none⟩ = some (.map (some Ph.mb)) ∧ w.cell? ⟨f, 5, none⟩ = some Ph.tv := by
  refine ⟨?_, ?_, ?_, ?_, ?_, ?_⟩ <;> (rw [cell_of h.top]; rfl)
theorem FSRep.fz (h : FSRep w B f own Ph S) (j : Nat) : w.frozen? ⟨f, j, none⟩ = false := frozen_of h.top j
theorem InoAt.c {n : Int} {ib : Nat} {dv ev : Value} {i : Ino} (h : InoAt w B own n ib dv ev i) : w.cell? ⟨ib, 0, none⟩ = some (.int .i64 i.kind) ∧ w.cell? ⟨ib, 1, none⟩ = some (.int .u32 i.mt.mode) ∧ w.cell? ⟨ib, 2, none⟩ = some (.int .u32 i.mt.uid) ∧ w.cell? ⟨ib, 3, none⟩ = some (.int .u32 i.mt.gid)
    ∧ w.cell? ⟨ib, 4, none⟩ = some (.int .i64 i.mt.time) ∧ w.cell? ⟨ib, 5, none⟩ = some (.int .i32 i.mt.nano) ∧ w.cell? ⟨ib, 6, none⟩ = some dv ∧ w.cell? ⟨ib, 7, none⟩ = some (.string i.target) ∧ w.cell? ⟨ib, 8, none⟩ = some ev ∧ w.cell? ⟨ib, 9, none⟩ = some (.int .i64 i.links) ∧ w.cell? ⟨ib, 10, none⟩ = some (.int .i64 i.up) := by
  refine ⟨?_, ?_, ?_, ?_, ?_, ?_, ?_, ?_, ?_, ?_, ?_⟩ <;> (rw [cell_of h.cells]; rfl)
theorem InoAt.fz {n : Int} {ib : Nat} {dv ev : Value} {i : Ino} (h : InoAt w B own n ib dv ev i) (j : Nat) : w.frozen? ⟨ib, j, none⟩ = false := frozen_of h.cells j
theorem InoAt.dir {n : Int} {ib : Nat} {dv ev : Value} {i : Ino} (h : InoAt w B own n ib dv ev i) (hk : i.kind = 1) : ∃ eb, ev = .map (some eb) ∧ own eb = some n ∧ MapAt keyStr (Value.int .i64) w eb i.ents := by
  rcases h.ents with ⟨_, eb, h1, h2, h3⟩ | ⟨h1, _⟩
  · exact ⟨eb, h1, h2, h3⟩
  · exact absurd hk h1
theorem look_ent {eb : Nat} {ents : List (ByteArray × Int)} (h : MapAt keyStr (Value.int .i64) w eb ents) (name : ByteArray) : (Instr.lookup 75 (.map (some eb)) (.string name) true).run Tryz.prog w = .ok (.tuple #[((aget name ents).map (Value.int .i64)).getD (.int .i64 0), .bool (aget name ents).isSome]) w :=
  h.look Tryz.underlying75 Tryz.underlying9 (zeroInt w) name true
theorem look_ent1 {eb : Nat} {ents : List (ByteArray × Int)} (h : MapAt keyStr (Value.int .i64) w eb ents) (name : ByteArray) : (Instr.lookup 75 (.map (some eb)) (.string name) false).run Tryz.prog w = .ok (((aget name ents).map (Value.int .i64)).getD (.int .i64 0)) w :=
  h.look Tryz.underlying75 Tryz.underlying9 (zeroInt w) name false
theorem look_ent_some {eb : Nat} {ents : List (ByteArray × Int)} (h : MapAt keyStr (Value.int .i64) w eb ents) {name : ByteArray} {n : Int} (hg : aget name ents = some n) :
    (Instr.lookup 75 (.map (some eb)) (.string name) true).run Tryz.prog w = .ok (.tuple #[.int .i64 n, .bool true]) w ∧ (Instr.lookup 75 (.map (some eb)) (.string name) false).run Tryz.prog w = .ok (.int .i64 n) w := by
  have h1 := look_ent h name
  have h2 := look_ent1 h name
  rw [hg] at h1 h2
  exact ⟨h1, h2⟩
theorem look_ent_none {eb : Nat} {ents : List (ByteArray × Int)} (h : MapAt keyStr (Value.int .i64) w eb ents) {name : ByteArray} (hg : aget name ents = none) :
    (Instr.lookup 75 (.map (some eb)) (.string name) true).run Tryz.prog w = .ok (.tuple #[.int .i64 0, .bool false]) w := by
  have h1 := look_ent h name
  rw [hg] at h1
  exact h1
theorem look_some (h : FSRep w B f own Ph S) {n : Int} {i : Ino} (hi : aget n S.inodes = some i) : (Instr.lookup 71 (.map (some Ph.mb)) (.int .i64 n) false).run Tryz.prog w = .ok (.pointer (some ⟨Ph.ib n, 0, none⟩)) w := by
  have := look1 h n
  rw [hi] at this
  exact this
theorem look_none (h : FSRep w B f own Ph S) {n : Int} (hi : aget n S.inodes = none) : (Instr.lookup 71 (.map (some Ph.mb)) (.int .i64 n) false).run Tryz.prog w = .ok (.pointer none) w := by
  have := look1 h n
  rw [hi] at this
  exact this
theorem lookupS_some {dir : Int} {name : ByteArray} {d : Ino} {n : Int} (ha : atS S dir name = 0) (hd : aget dir S.inodes = some d) (hg : aget name d.ents = some n) : lookupS S dir name = (n, 0) := by
  unfold lookupS entsS
  rw [if_pos ha, hd]
  simp only
  rw [hg]
theorem lookupS_none {dir : Int} {name : ByteArray} {d : Ino} (ha : atS S dir name = 0) (hd : aget dir S.inodes = some d) (hg : aget name d.ents = none) : lookupS S dir name = (0, 103) := by
  unfold lookupS entsS
  rw [if_pos ha, hd]
  simp only
  rw [hg]
theorem dirs_one {dir : Int} (h : dirsS S [dir] = 0) : ∃ d, aget dir S.inodes = some d ∧ d.kind = 1 := by
  unfold dirsS at h
  split at h
  · cases ha : aget dir S.inodes with
    | none => simp [dirsOnly, ha] at h
    | some d =>
      simp only [dirsOnly, ha] at h
      split at h
      · rename_i hk
        exact ⟨d, rfl, hk⟩
      · cases h
  · rename_i hn; exact absurd h hn
theorem at_zero {dir : Int} {name : ByteArray} (h : atS S dir name = 0) : dirsS S [dir] = 0 ∧ isNameS name = true := by
  unfold atS at h
  split at h
  · rename_i hd
    split at h
    · rename_i hn; exact ⟨hd, hn⟩
    · cases h
  · rename_i hd; exact absurd h hd
theorem there_one (h : FSRep w B f own Ph S) (t : TypeId) (n : Int) (sb : Nat) (hs : sb = w.heap.size) :
    Calls Tryz.prog 40 #[.pointer (some ⟨f, 0, none⟩), .slice (some ⟨sb, 0, none⟩) 1 1] (w.alloc (.cells #[.int .i64 n] t)) fun e w' => e = .returned (.int .i64 (thereS S [n])) ∧ w' = (w.alloc (.cells #[.int .i64 n] t)) := by
  subst hs
  exact there_calls (h.of_below (alloc_below _ _)) w.heap.size [n] (one_cell _ _ _) (by simp)
theorem there_two (h : FSRep w B f own Ph S) (t : TypeId) (n m : Int) (sb : Nat) (hs : sb = w.heap.size) :
    Calls Tryz.prog 40 #[.pointer (some ⟨f, 0, none⟩), .slice (some ⟨sb, 0, none⟩) 2 2] (w.alloc (.cells #[.int .i64 n, .int .i64 m] t)) fun e w' => e = .returned (.int .i64 (thereS S [n, m])) ∧ w' = (w.alloc (.cells #[.int .i64 n, .int .i64 m] t)) := by
  subst hs
  exact there_calls (h.of_below (alloc_below _ _)) w.heap.size [n, m] (two_cells _ _ _ _) (by simp)
theorem dirs_one' (h : FSRep w B f own Ph S) (t : TypeId) (n : Int) (sb : Nat) (hs : sb = w.heap.size) :
    Calls Tryz.prog 38 #[.pointer (some ⟨f, 0, none⟩), .slice (some ⟨sb, 0, none⟩) 1 1] (w.alloc (.cells #[.int .i64 n] t)) fun e w' => e = .returned (.int .i64 (dirsS S [n])) ∧ w' = (w.alloc (.cells #[.int .i64 n] t)) := by
  subst hs
  exact dirs_calls (h.of_below (alloc_below _ _)) w.heap.size [n] (one_cell _ _ _) (by simp)
theorem dirs_two' (h : FSRep w B f own Ph S) (t : TypeId) (n m : Int) (sb : Nat) (hs : sb = w.heap.size) :
    Calls Tryz.prog 38 #[.pointer (some ⟨f, 0, none⟩), .slice (some ⟨sb, 0, none⟩) 2 2] (w.alloc (.cells #[.int .i64 n, .int .i64 m] t)) fun e w' => e = .returned (.int .i64 (dirsS S [n, m])) ∧ w' = (w.alloc (.cells #[.int .i64 n, .int .i64 m] t)) := by
  subst hs
  exact dirs_calls (h.of_below (alloc_below _ _)) w.heap.size [n, m] (two_cells _ _ _ _) (by simp)
end
end Go.Proofs.YtphbbcjmnlamaaaGreatV
