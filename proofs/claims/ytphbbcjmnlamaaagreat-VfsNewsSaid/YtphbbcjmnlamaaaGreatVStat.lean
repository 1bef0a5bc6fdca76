/- vfs: Stat. -/
import Derived.Test.YtphbbcjmnlamaaaGreatVRead2
import Derived.StillTailTactics
import Derived.BigRegion
import Derived.ProofKit
namespace Go.Proofs.YtphbbcjmnlamaaaGreatV
open Go.RowKit
set_option linter.unusedVariables false
set_option linter.unusedSimpArgs false
section
variable {w : World} {B f : Nat} {own : Nat → Option Int} {Ph : Phys} {S : FSt}
theorem row_slice {e : TypeId} {size n : Nat} {ok : Nat → Prop} {v : Value} {xs : List Value} (h : RowAt w B e size ok v n xs) : ∃ a c, v = .slice a n c ∧ n ≤ c ∧ c ≤ 9223372036854775807 := by
  rcases h.own.2 with ⟨rfl, rfl⟩ | ⟨g, cap, cur, rfl, _, _, h1, h2, _⟩
  · exact ⟨none, 0, rfl, Nat.le_refl _, by omega⟩
  · exact ⟨_, cap, rfl, h1, by have : maxLen = 9223372036854775807 := rfl; omega⟩
theorem cell_two (w : World) (b j : Nat) (hb : b < w.heap.size) (o1 o2 : Obj) : ((w.alloc o1).alloc o2).cell? ⟨b, j, none⟩ = w.cell? ⟨b, j, none⟩ := (below_two w o1 o2).cell (p := ⟨b, j, none⟩) hb
def statV (s : StatS) : Value := .agg #[.int .i64 s.node, .int .i64 s.kind, .int .u32 s.mt.mode, .int .u32 s.mt.uid, .int .u32 s.mt.gid, .int .i64 s.mt.time, .int .i32 s.mt.nano, .int .i64 s.links, .int .i64 s.size]
/-- 'len' of a directory's entries, or of no map. -/
theorem len_ents {n : Int} {ib : Nat} {dv ev : Value} {i : Ino} (h : InoAt w B own n ib dv ev i) (ty : TypeId) : (Builtin.len_ #[75] ty #[ev]).run Tryz.prog w = .ok (.int .i64 i.ents.length) w := by
  rcases h.ents with ⟨_, eb, rfl, _, h3⟩ | ⟨_, rfl, h2⟩
  · exact h3.len Tryz.underlying75 ty
  · rw [h2]
    simp [Builtin.len_, run_underlying Tryz.underlying75, goInt]
set_option maxHeartbeats 1000000 in
set_option maxRecDepth 100000 in
theorem Stat_some (h : FSRep w B f own Ph S) (I : Inv S) (node : Int) (i : Ino) (hi : aget node S.inodes = some i) :
    Calls Tryz.prog 21 #[.pointer (some ⟨f, 0, none⟩), .int .i64 node] w fun e w' => e = .returned (.tuple #[statV (statS S node).1, .int .i64 (statS S node).2]) ∧ Below w.heap.size w w' := by
  have hr : statS S node = (⟨node, i.kind, i.mt, i.links, i.data.length + i.ents.length + i.target.size⟩, 0) := by unfold statS; rw [hi]
  have ht : thereS S [node] = 0 := by simp [thereS, hi]
  have HD := Lib.hid hr
  have HT := Lib.hid ht
  have HR := Lib.hid h
  have Hi := Lib.hid hi
  obtain ⟨b1, b2, b3, b4, b5, _⟩ := I.ino node i hi
  clear h hr ht hi I
  go_enter Tryz.func21, Tryz.ntmps21
  go_wp2_with fail
  refine (there_one (HR.out.of_below (alloc_below _ _)) _ _ _ (by simp)).mono ?_
  rintro e w1 ⟨rfl, hw⟩
  rw [HT.out, hw]
  clear hw w1
  have hI := HR.out.inos node i Hi.out
  have hbl := Lib.hid (HR.out.below _ _ hI.ok).2
  obtain ⟨da, dc, hdv, _, _⟩ := row_slice hI.data
  have fr := fun (b j : Nat) (hb : b < w.heap.size) (o1 o2 : Obj) => cell_two w b j hb o1 o2
  have c4 := fun o1 o2 => (fr f 4 HR.out.f_lt o1 o2).trans HR.out.c.2.2.2.2.1
  have hlook := fun o1 o2 => look_some (HR.out.of_below (below_two w o1 o2)) Hi.out
  obtain ⟨k0, k1, k2, k3, k4, k5, k6, k7, k8, k9, k10⟩ := hI.c
  rw [hdv] at k6
  have g0 := fun o1 o2 => (fr _ 0 hbl.out o1 o2).trans k0
  have g1 := fun o1 o2 => (fr _ 1 hbl.out o1 o2).trans k1
  have g2 := fun o1 o2 => (fr _ 2 hbl.out o1 o2).trans k2
  have g3 := fun o1 o2 => (fr _ 3 hbl.out o1 o2).trans k3
  have g4 := fun o1 o2 => (fr _ 4 hbl.out o1 o2).trans k4
  have g5 := fun o1 o2 => (fr _ 5 hbl.out o1 o2).trans k5
  have g6 := fun o1 o2 => (fr _ 6 hbl.out o1 o2).trans k6
  have g7 := fun o1 o2 => (fr _ 7 hbl.out o1 o2).trans k7
  have g8 := fun o1 o2 => (fr _ 8 hbl.out o1 o2).trans k8
  have g9 := fun o1 o2 => (fr _ 9 hbl.out o1 o2).trans k9
  have hlen := fun o1 o2 => len_ents ((HR.out.of_below (below_two w o1 o2).drew).inos node i Hi.out)
  clear hI hdv fr k0 k1 k2 k3 k4 k5 k6 k7 k8 k9 k10
  go_wp2
  go_region
  go_wp2
  refine bodyPost_ret (v := .tuple #[statV ⟨node, i.kind, i.mt, i.links, i.data.length + i.ents.length + i.target.size⟩, .int .i64 0]) (by simp [results, Tryz.results21, go_sem, statV]) rfl ⟨by rw [HD.out], ?_⟩
  exact (below_two w _ _).drew
theorem Stat_calls (h : FSRep w B f own Ph S) (I : Inv S) (node : Int) :
    Calls Tryz.prog 21 #[.pointer (some ⟨f, 0, none⟩), .int .i64 node] w fun e w' => e = .returned (.tuple #[statV (statS S node).1, .int .i64 (statS S node).2]) ∧ Below w.heap.size w w' := by
  cases hi : aget node S.inodes with
  | some i => exact Stat_some h I node i hi
  | none =>
    have hr : statS S node = (⟨0, 0, zeroMt, 0, 0⟩, 100) := by unfold statS; rw [hi]
    have ht : thereS S [node] = 100 := by simp [thereS, hi]
    have HD := Lib.hid hr
    have HT := Lib.hid ht
    have HR := Lib.hid h
    clear h hr ht hi I
    go_enter Tryz.func21, Tryz.ntmps21
    go_wp2_with fail
    refine (there_one (HR.out.of_below (alloc_below _ _)) _ _ _ (by simp)).mono ?_
    rintro e w1 ⟨rfl, hw⟩
    rw [HT.out, hw]
    clear hw w1
    go_wp2
    refine bodyPost_ret (v := .tuple #[statV ⟨0, 0, zeroMt, 0, 0⟩, .int .i64 100]) (by simp [results, Tryz.results21, go_sem, statV, zeroMt]) rfl ⟨by rw [HD.out], ?_⟩
    exact below_two w _ _
end
end Go.Proofs.YtphbbcjmnlamaaaGreatV
