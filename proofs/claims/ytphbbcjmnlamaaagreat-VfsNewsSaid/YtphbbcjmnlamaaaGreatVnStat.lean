/- VfsNews: Stat, with the world that it leaves written out. -/
import Derived.Test.YtphbbcjmnlamaaaGreatVnAsks
namespace Go.Proofs.YtphbbcjmnlamaaaGreatV
open Go.RowKit
set_option linter.unusedVariables false
set_option linter.unusedSimpArgs false
section
variable {w : World} {B f : Nat} {own : Nat → Option Int} {Ph : Phys} {nodes bytes : Int}
set_option maxHeartbeats 4000000 in
set_option maxRecDepth 100000 in
theorem Stat_lit (h : FSRep w B f own Ph (stNew nodes bytes)) (I : Inv (stNew nodes bytes)) :
    Calls Tryz.prog 21 #[.pointer (some ⟨f, 0, none⟩), .int .i64 1] w fun e w' => e = .returned (.tuple #[.agg #[.int .i64 1, .int .i64 1, .int .u32 0, .int .u32 0, .int .u32 0, .int .i64 0, .int .i32 0, .int .i64 1, .int .i64 0], .int .i64 0]) ∧ w' = ((w.alloc (.cells #[.int .i64 1, .int .i64 1, .int .u32 0, .int .u32 0, .int .u32 0, .int .i64 0, .int .i32 0, .int .i64 1, .int .i64 0] 62)).alloc (.cells #[.int .i64 1] 3)).drew := by
  have hi : aget 1 (stNew nodes bytes).inodes = some root0 := rfl
  have ht : thereS (stNew nodes bytes) [1] = 0 := by rfl
  have HT := Lib.hid ht
  have HR := Lib.hid h
  have Hi := Lib.hid hi
  obtain ⟨b1, b2, b3, b4, b5, _⟩ := I.ino 1 root0 hi
  clear h ht hi I
  go_enter Tryz.func21, Tryz.ntmps21
  go_wp2_with fail
  refine (there_one (HR.out.of_below (alloc_below _ _)) _ _ _ (by simp)).mono ?_
  rintro e w1 ⟨rfl, hw⟩
  rw [HT.out, hw]
  clear hw w1
  have hI := HR.out.inos 1 root0 Hi.out
  have hbl := Lib.hid (HR.out.below _ _ hI.ok).2
  obtain ⟨da, dc, hdv, _, _⟩ := row_slice hI.data
  have fr := fun (b j : Nat) (hb : b < w.heap.size) (o1 o2 : Obj) => cell_two w b j hb o1 o2
  have c4 := fun o1 o2 => (fr f 4 HR.out.f_lt o1 o2).trans HR.out.c.2.2.2.2.1
  have hlook := fun o1 o2 => look_some (HR.out.of_below (below_two w o1 o2)) Hi.out
  obtain ⟨k0, k1, k2, k3, k4, k5, k6, k7, k8, k9, k10⟩ := hI.c
  rw [hdv] at k6
  have g0 := fun o1 o2 => (fr _ 0 hbl.out o1 o2).trans k0
  have g1 := fun o1 o2 => (fr _ 1 hbl.out o1 o2).trans k1
  have g2 := fun o1 o2 => (fr _ 2 hbl.out o1 o2).trans k2
  have g3 := fun o1 o2 => (fr _ 3 hbl.out o1 o2).trans k3
  have g4 := fun o1 o2 => (fr _ 4 hbl.out o1 o2).trans k4
  have g5 := fun o1 o2 => (fr _ 5 hbl.out o1 o2).trans k5
  have g6 := fun o1 o2 => (fr _ 6 hbl.out o1 o2).trans k6
  have g7 := fun o1 o2 => (fr _ 7 hbl.out o1 o2).trans k7
  have g8 := fun o1 o2 => (fr _ 8 hbl.out o1 o2).trans k8
  have g9 := fun o1 o2 => (fr _ 9 hbl.out o1 o2).trans k9
  have hlen := fun o1 o2 => len_ents ((HR.out.of_below (below_two w o1 o2).drew).inos 1 root0 Hi.out)
  clear hI hdv fr k0 k1 k2 k3 k4 k5 k6 k7 k8 k9 k10
  go_wp2
  go_region
  go_wp2
  refine bodyPost_ret (v := .tuple #[.agg #[.int .i64 1, .int .i64 1, .int .u32 0, .int .u32 0, .int .u32 0, .int .i64 0, .int .i32 0, .int .i64 1, .int .i64 0], .int .i64 0]) ?_ rfl ⟨rfl, ?_⟩
  · simp [results, Tryz.results21, go_sem]
    exact ⟨rfl, rfl, rfl, rfl, rfl, rfl, rfl, rfl⟩
  · rfl
end
section
variable {w : World} {b pb s d lb : Nat} {nodes bytes : Int}
set_option maxHeartbeats 1000000 in
theorem RStat_lit (h : RefAt w d lb nodes bytes) : Calls Tryz.prog 22 #[.pointer (some ⟨d, 0, none⟩), .int .i64 1] w fun e w' => e = .returned (.tuple #[.agg #[.int .i64 1, .int .i64 1, .int .u32 0, .int .u32 0, .int .u32 0, .int .i64 0, .int .i32 0, .int .i64 1, .int .i64 0], .int .i64 0]) ∧ w' = (w.alloc (.cells #[.int .i64 1, .int .i64 1, .int .u32 0, .int .u32 0, .int .u32 0, .int .i64 0, .int .i32 0, .int .i64 1, .int .i64 0] 62)).drew := by
  have hall : ∀ o, RS (w.alloc o).drew d lb nodes bytes := fun o => ((h.of_below (alloc_below w o)).drew).rs
  have h2 := h.of_below (alloc_below w (.cells #[.int .i64 0, .int .i64 0, .int .u32 0, .int .u32 0, .int .u32 0, .int .i64 0, .int .i32 0, .int .i64 0, .int .i64 0] 62 (0, 0)))
  obtain ⟨_, c3, k1, k2, k3, k4, k5, k6, k7, k8, k9⟩ := h2.rs
  have HP := Lib.hid (RAt_calls h2)
  have HL : ∀ w, RefAt w d lb nodes bytes → Aside (Calls Tryz.prog 41 #[.slice (some ⟨lb, 0, none⟩) 1 1, .int .i64 1] w fun e w' => e = .returned (.int .i64 1) ∧ w' = w) := fun w h => links_calls h
  clear h
  go_enter Tryz.func22, Tryz.ntmps22
  go_wp2_with fail
  refine HP.out.mono ?_
  rintro e w' ⟨rfl, rfl⟩
  go_wp2_with fail
  go_region_held3 (fun w' => RefAt w' d lb nodes bytes ∧ w'.cell? ⟨d, 3, none⟩ = some (.slice (some ⟨lb, 0, none⟩) 1 1) ∧ w'.cell? ⟨lb, 1, none⟩ = some (.int .i64 1) ∧ w'.cell? ⟨lb, 2, none⟩ = some (.int .u32 0) ∧ w'.cell? ⟨lb, 3, none⟩ = some (.int .u32 0) ∧ w'.cell? ⟨lb, 4, none⟩ = some (.int .u32 0) ∧ w'.cell? ⟨lb, 5, none⟩ = some (.int .i64 0) ∧ w'.cell? ⟨lb, 6, none⟩ = some (.int .i32 0)
      ∧ w'.cell? ⟨lb, 7, none⟩ = some (.slice none 0 0) ∧ w'.cell? ⟨lb, 8, none⟩ = some (.string ⟨#[]⟩) ∧ w'.cell? ⟨lb, 9, none⟩ = some (.slice none 0 0))
    (first | exact hall _ | go_keep)
    (first | (go_at_call 41; refine Calls.mono (HL _ ?_).out ?_; (go_split_ands; first | assumption | exact ⟨h2.top, h2.node⟩); rintro e w1 ⟨rfl, rfl⟩))
  go_wp2
  refine bodyPost_ret (v := .tuple #[.agg #[.int .i64 1, .int .i64 1, .int .u32 0, .int .u32 0, .int .u32 0, .int .i64 0, .int .i32 0, .int .i64 1, .int .i64 0], .int .i64 0]) (by simp [results, Tryz.results22, go_sem, show IntKind.i64.wrap 0 = 0 from rfl]) rfl ⟨rfl, rfl⟩
set_option maxRecDepth 100000 in
set_option maxHeartbeats 2000000 in
theorem asks_stat (h : PairAt w pb s d lb nodes bytes) (hn : 1 ≤ nodes ∧ nodes ≤ 4096) (hb : 0 ≤ bytes ∧ bytes ≤ 4194304) : Calls Tryz.prog 6 #[.pointer (some ⟨pb, 0, none⟩), .agg (opCells 14 0 1)] w fun e w' => e = .returned (.bool true) ∧ Below w.heap.size w w' := by
  have HA := Lib.hid (AskAt.made (kind := 14) (dir := 0) (node := 1) h)
  have HI := Lib.hid (inv_new hn hb)
  have HZ := Lib.hid (alloc_below w (.cells (opCells 14 0 1) 39))
  have hSt : ∀ W, PairAt W pb s d lb nodes bytes → Aside (Calls Tryz.prog 21 #[.pointer (some ⟨s, 0, none⟩), .int .i64 1] W fun e w' => e = .returned (.tuple #[.agg #[.int .i64 1, .int .i64 1, .int .u32 0, .int .u32 0, .int .u32 0, .int .i64 0, .int .i32 0, .int .i64 1, .int .i64 0], .int .i64 0]) ∧ w' = ((W.alloc (.cells #[.int .i64 1, .int .i64 1, .int .u32 0, .int .u32 0, .int .u32 0, .int .i64 0, .int .i32 0, .int .i64 1, .int .i64 0] 62)).alloc (.cells #[.int .i64 1] 3)).drew) := fun W hW => Stat_lit hW.fs HI.out
  have hRt : ∀ W, PairAt W pb s d lb nodes bytes → Aside (Calls Tryz.prog 22 #[.pointer (some ⟨d, 0, none⟩), .int .i64 1] W fun e w' => e = .returned (.tuple #[.agg #[.int .i64 1, .int .i64 1, .int .u32 0, .int .u32 0, .int .u32 0, .int .i64 0, .int .i32 0, .int .i64 1, .int .i64 0], .int .i64 0]) ∧ w' = (W.alloc (.cells #[.int .i64 1, .int .i64 1, .int .u32 0, .int .u32 0, .int .u32 0, .int .i64 0, .int .i32 0, .int .i64 1, .int .i64 0] 62)).drew) := fun W hW => RStat_lit hW.rf
  clear h hn hb
  unfold opCells at *
  go_enter Tryz.func6, Tryz.ntmps6
  go_wp2_with fail
  generalize w.alloc (.cells #[.int .i64 14, .bool false, .int .i64 0, .string ⟨#[]⟩, .int .i64 1, .int .i64 0, .string ⟨#[]⟩, .string ⟨#[]⟩, .int .u32 0, .int .u32 0, .int .u32 0, .int .i64 0, .int .i32 0, .int .i64 0, .int .i64 0, .slice none 0 0, .int .i64 0, .int .i64 0, .int .i64 0, .slice none 0 0] 39) = Wa at HA HZ ⊢
  go_region_held3 (fun W => W.cell? ⟨pb, 0, none⟩ = some (.pointer (some ⟨s, 0, none⟩)) ∧ W.cell? ⟨pb, 1, none⟩ = some (.pointer (some ⟨d, 0, none⟩)) ∧ W.cell? ⟨w.heap.size, 2, none⟩ = some (.int .i64 0) ∧ W.cell? ⟨w.heap.size, 4, none⟩ = some (.int .i64 1))
    ((refine ask_s (HA.out.of_below ?_); repeat (first | with_reducible exact Below.refl _ _ | with_reducible refine Below.drew ?_ | with_reducible refine below_alloc2 ?_ _)))
    (first
      | (go_at_call 21; refine Calls.mono (hSt _ ?_).out ?_; (refine (HA.out.of_below ?_).pair; repeat (first | with_reducible exact Below.refl _ _ | with_reducible refine Below.drew ?_ | with_reducible refine below_alloc2 ?_ _)); rintro e w1 ⟨rfl, rfl⟩))
  all_goals
    go_wp2_with fail
    go_region_held3 (fun W => W.cell? ⟨pb, 0, none⟩ = some (.pointer (some ⟨s, 0, none⟩)) ∧ W.cell? ⟨pb, 1, none⟩ = some (.pointer (some ⟨d, 0, none⟩)) ∧ W.cell? ⟨w.heap.size, 2, none⟩ = some (.int .i64 0) ∧ W.cell? ⟨w.heap.size, 4, none⟩ = some (.int .i64 1))
      ((refine ask_s (HA.out.of_below ?_); repeat (first | with_reducible exact Below.refl _ _ | with_reducible refine Below.drew ?_ | with_reducible refine below_alloc2 ?_ _)))
      (first
        | (go_at_call 22; refine Calls.mono (hRt _ ?_).out ?_; (refine (HA.out.of_below ?_).pair; repeat (first | with_reducible exact Below.refl _ _ | with_reducible refine Below.drew ?_ | with_reducible refine below_alloc2 ?_ _)); rintro e w1 ⟨rfl, rfl⟩))
  all_goals
    go_wp2
    go_ret
    refine ⟨rfl, HZ.out.trans ((?_ : Below Wa.heap.size Wa _).mono HZ.out.size)⟩
    repeat (first | with_reducible exact Below.refl _ _ | with_reducible refine Below.drew ?_ | with_reducible refine below_alloc2 ?_ _)
end
end Go.Proofs.YtphbbcjmnlamaaaGreatV
