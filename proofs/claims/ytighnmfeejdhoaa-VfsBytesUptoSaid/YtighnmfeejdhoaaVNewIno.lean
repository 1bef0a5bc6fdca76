/- vfs: Mkdir and Create. -/
import Derived.Test.YtighnmfeejdhoaaVMakes
namespace Go.Proofs.YtighnmfeejdhoaaV
open Go.RowKit
set_option linter.unusedVariables false
set_option linter.unusedSimpArgs false
section
variable {w : World} {B f : Nat} {own : Nat → Option Int} {Ph : Phys} {S : FSt}
def metaV (m : Mt) : Value := .agg #[.int .u32 m.mode, .int .u32 m.uid, .int .u32 m.gid, .int .i64 m.time, .int .i32 m.nano]
def grab (own : Nat → Option Int) (s k : Nat) (n : Int) : Nat → Option Int := fun b => if s ≤ b ∧ b < s + k then some n else own b
theorem Inv.fresh (I : Inv S) : aget S.next S.inodes = none ∧ 0 < S.next := by
  refine ⟨?_, by have := I.next; omega⟩
  cases h : aget S.next S.inodes with
  | none => rfl
  | some i => have := (I.ino _ _ h).2.2.2.2.2; omega
theorem FSRep.grab (h : FSRep w B f own Ph S) (hB : B ≤ w.heap.size) {w' : World} (hb : Below w.heap.size w w') (k : Nat) (hs : w.heap.size + k ≤ w'.heap.size) (n : Int) : FSRep w' B f (grab own w.heap.size k n) Ph S ∧ Frame w w' own (grab own w.heap.size k n) := by
  refine ⟨h.adopt hb.size hb.block (fun b m ho => ?_) (fun b m ho => ?_), ⟨hb.os, hb.tape, hb.output, hb.size, fun b hlt ho => ⟨hb.block b hlt, ?_⟩⟩⟩
  · have := h.lt ho
    unfold Go.Proofs.YtighnmfeejdhoaaV.grab
    rw [if_neg (by omega)]
    exact ho
  · unfold Go.Proofs.YtighnmfeejdhoaaV.grab at ho
    split at ho
    · omega
    · exact ⟨(h.below b m ho).1, Nat.lt_of_lt_of_le (h.lt ho) hb.size⟩
  · unfold Go.Proofs.YtighnmfeejdhoaaV.grab
    rw [if_neg (by omega)]
    exact ho
theorem new_dir (h : FSRep w B f own Ph S) (hB : B ≤ w.heap.size) (n : Int) (i : Ino) (hk : i.kind = 1) (hd : i.data = []) (he : i.ents = []) (w' : World)
    (hw : w' = (w.alloc (.map #[] 0)).alloc (.cells (inoCells i (.slice none 0 0) (.map (some w.heap.size))) 52 (0, 0))) :
    FSRep w' B f (grab own w.heap.size 2 n) Ph S ∧ Frame w w' own (grab own w.heap.size 2 n) ∧ InoAt w' B (grab own w.heap.size 2 n) n (w.heap.size + 1) (.slice none 0 0) (.map (some w.heap.size)) i := by
  subst hw
  have hg := h.grab hB (below_two w (.map #[] 0) (.cells (inoCells i (.slice none 0 0) (.map (some w.heap.size))) 52 (0, 0))) 2 (by simp) n
  refine ⟨hg.1, hg.2, ⟨heap_two w _ _, by unfold grab; rw [if_pos (by omega)], ⟨?_, fun k hk' => by simp [Value.ownBlock] at hk'⟩, .inl ⟨hk, w.heap.size, rfl, if_pos (by omega), ?_⟩⟩⟩
  · rw [hd]; exact ⟨rfl, .inl ⟨rfl, rfl⟩⟩
  · rw [he]
    exact (MapAt.made w).of_block (Below.heap_alloc _ _ _ (by simp))
theorem new_file (h : FSRep w B f own Ph S) (hB : B ≤ w.heap.size) (n : Int) (i : Ino) (hk : i.kind ≠ 1) (hd : i.data = []) (he : i.ents = []) (w' : World)
    (hw : w' = w.alloc (.cells (inoCells i (.slice none 0 0) (.map none)) 52 (0, 0))) :
    FSRep w' B f (grab own w.heap.size 1 n) Ph S ∧ Frame w w' own (grab own w.heap.size 1 n) ∧ InoAt w' B (grab own w.heap.size 1 n) n w.heap.size (.slice none 0 0) (.map none) i := by
  subst hw
  have hg := h.grab hB (alloc_below w (.cells (inoCells i (.slice none 0 0) (.map none)) 52 (0, 0))) 1 (by simp) n
  refine ⟨hg.1, hg.2, ⟨(MapKept.heap_alloc w _).1, by unfold grab; rw [if_pos (by omega)], ⟨?_, fun k hk' => by simp [Value.ownBlock] at hk'⟩, .inr ⟨hk, rfl, he⟩⟩⟩
  rw [hd]; exact ⟨rfl, .inl ⟨rfl, rfl⟩⟩
set_option maxHeartbeats 1000000 in
theorem Mkdir_calls (h : FSRep w B f own Ph S) (hB : B ≤ w.heap.size) (I : Inv S) (dir : Int) (name : ByteArray) (m : Mt) :
    Calls Try.prog 11 #[.pointer (some ⟨f, 0, none⟩), .int .i64 dir, .string name, metaV m] w fun e w' => e = .returned (.tuple #[.int .i64 (mkdirS S dir name m).1, .int .i64 (mkdirS S dir name m).2.1]) ∧ Upd w B f own (mkdirS S dir name m).2.2 w' := by
  have HR := Lib.hid h
  have HB := Lib.hid hB
  have HI := Lib.hid I
  unfold metaV
  clear h hB I
  by_cases ha : atS S dir name = 0
  · obtain ⟨hd, hn⟩ := at_zero ha
    obtain ⟨d, hd, hk⟩ := dirs_one hd
    have HA := Lib.hid ha
    have Hd := Lib.hid hd
    have Hk := Lib.hid hk
    have hr : mkdirS S dir name m = makesS S 1 dir name ⟨1, m, [], noName, [], 0, 0⟩ := by unfold mkdirS; rw [if_pos ha]
    rw [hr]
    clear ha hd hk hn hr
    go_enter Try.func11, Try.ntmps11
    go_wp2_with fail
    refine (at_calls (HR.out.of_below (alloc_below _ _)) _ _).mono ?_
    rintro e w1 ⟨rfl, hw⟩
    rw [HA.out]
    have cb : ∀ j, w1.cell? ⟨w.heap.size, j, none⟩ = _ := fun j => hw.cell (p := ⟨w.heap.size, j, none⟩) (by simp)
    have HW := Lib.hid (below_next (alloc_below _ _) hw)
    clear hw
    have b0 := cb 0
    have b1 := cb 1
    have b2 := cb 2
    have b3 := cb 3
    have b4 := cb 4
    clear cb
    have hmk : (Instr.makeMap 50 none).run Try.prog w1 = .ok (.map (some w1.heap.size)) (w1.alloc (.map #[] 0)) := rfl
    go_wp2_with fail
    clear b0 b1 b2 b3 b4 hmk
    obtain ⟨n1, n2, n3⟩ := new_dir (HR.out.of_below HW.out) (Nat.le_trans HB.out HW.out.size) S.next ⟨1, m, [], noName, [], 0, 0⟩ rfl rfl rfl _ rfl
    refine (makes_calls (B := B) n1 (Nat.le_trans HB.out (Nat.le_trans HW.out.size n2.size)) (by have := HI.out.trace; omega) 1 dir name HI.out.fresh.1 HI.out.fresh.2 n3 Hd.out Hk.out).mono ?_
    rintro e w2 ⟨rfl, hu⟩
    have HU := Lib.hid (Upd.after (Frame.of_below HW.out) (Upd.after n2 hu))
    clear hu n1 n2 n3
    generalize hq : makesS S 1 dir name ⟨1, m, [], noName, [], 0, 0⟩ = q at *
    go_wp2
    go_ret2
    subst hq
    exact ⟨rfl, HU.out⟩
  · have hr : mkdirS S dir name m = (0, atS S dir name, S) := by unfold mkdirS; rw [if_neg ha]
    have hb : (atS S dir name != 0) = true := bne_iff_ne.2 ha
    rw [hr]
    clear hr ha
    go_enter Try.func11, Try.ntmps11
    go_wp2_with fail
    refine (at_calls (HR.out.of_below (alloc_below _ _)) _ _).mono ?_
    rintro e w1 ⟨rfl, hw⟩
    have HW := Lib.hid (below_next (alloc_below _ _) hw)
    clear hw
    go_wp2
    go_ret2
    exact ⟨rfl, Upd.below HR.out HW.out⟩
set_option maxHeartbeats 1000000 in
theorem Create_calls (h : FSRep w B f own Ph S) (hB : B ≤ w.heap.size) (I : Inv S) (dir : Int) (name : ByteArray) (m : Mt) :
    Calls Try.prog 6 #[.pointer (some ⟨f, 0, none⟩), .int .i64 dir, .string name, metaV m] w fun e w' => e = .returned (.tuple #[.int .i64 (createS S dir name m).1, .int .i64 (createS S dir name m).2.1]) ∧ Upd w B f own (createS S dir name m).2.2 w' := by
  have HR := Lib.hid h
  have HB := Lib.hid hB
  have HI := Lib.hid I
  unfold metaV
  clear h hB I
  by_cases ha : atS S dir name = 0
  · obtain ⟨hd, hn⟩ := at_zero ha
    obtain ⟨d, hd, hk⟩ := dirs_one hd
    have HA := Lib.hid ha
    have Hd := Lib.hid hd
    have Hk := Lib.hid hk
    have hr : createS S dir name m = makesS S 2 dir name ⟨2, m, [], noName, [], 0, 0⟩ := by unfold createS; rw [if_pos ha]
    rw [hr]
    clear ha hd hk hn hr
    go_enter Try.func6, Try.ntmps6
    go_wp2_with fail
    refine (at_calls (HR.out.of_below (alloc_below _ _)) _ _).mono ?_
    rintro e w1 ⟨rfl, hw⟩
    rw [HA.out]
    have cb : ∀ j, w1.cell? ⟨w.heap.size, j, none⟩ = _ := fun j => hw.cell (p := ⟨w.heap.size, j, none⟩) (by simp)
    have HW := Lib.hid (below_next (alloc_below _ _) hw)
    clear hw
    have b0 := cb 0
    have b1 := cb 1
    have b2 := cb 2
    have b3 := cb 3
    have b4 := cb 4
    clear cb
    go_wp2_with fail
    clear b0 b1 b2 b3 b4
    obtain ⟨n1, n2, n3⟩ := new_file (HR.out.of_below HW.out) (Nat.le_trans HB.out HW.out.size) S.next ⟨2, m, [], noName, [], 0, 0⟩ (show (2 : Int) ≠ 1 by decide) rfl rfl _ rfl
    refine (makes_calls (B := B) n1 (Nat.le_trans HB.out (Nat.le_trans HW.out.size n2.size)) (by have := HI.out.trace; omega) 2 dir name HI.out.fresh.1 HI.out.fresh.2 n3 Hd.out Hk.out).mono ?_
    rintro e w2 ⟨rfl, hu⟩
    have HU := Lib.hid (Upd.after (Frame.of_below HW.out) (Upd.after n2 hu))
    clear hu n1 n2 n3
    generalize hq : makesS S 2 dir name ⟨2, m, [], noName, [], 0, 0⟩ = q at *
    go_wp2
    go_ret2
    subst hq
    exact ⟨rfl, HU.out⟩
  · have hr : createS S dir name m = (0, atS S dir name, S) := by unfold createS; rw [if_neg ha]
    have hb : (atS S dir name != 0) = true := bne_iff_ne.2 ha
    rw [hr]
    clear hr ha
    go_enter Try.func6, Try.ntmps6
    go_wp2_with fail
    refine (at_calls (HR.out.of_below (alloc_below _ _)) _ _).mono ?_
    rintro e w1 ⟨rfl, hw⟩
    have HW := Lib.hid (below_next (alloc_below _ _) hw)
    clear hw
    go_wp2
    go_ret2
    exact ⟨rfl, Upd.below HR.out HW.out⟩
end
end Go.Proofs.YtighnmfeejdhoaaV
