/- VfsNews: List, Trace and Image of an empty file system. -/
import Derived.Test.YtphbbcjmnlamaaaGreatVnList
import Derived.Deep.AppendLies
import Derived.Deep.Onto
namespace Go.Proofs.YtphbbcjmnlamaaaGreatV
open Go.RowKit
set_option linter.unusedVariables false
set_option linter.unusedSimpArgs false
section
variable {w : World} {s : Nat} {nodes bytes : Int}
abbrev FsAt (w : World) (s : Nat) (nodes bytes : Int) : Prop := FSRep w s s (ownNew s) (phNew s) (stNew nodes bytes)
theorem FsAt.ino (h : FsAt w s nodes bytes) : InoAt w s (ownNew s) 1 (s + 3) (.slice none 0 0) (.map (some (s + 2))) root0 := h.inos 1 root0 rfl
theorem FsAt.ents (h : FsAt w s nodes bytes) : MapAt keyStr (Value.int .i64) w (s + 2) [] := by
  obtain ⟨eb, he, _, hm⟩ := (FsAt.ino h).dir rfl
  cases he
  exact hm
theorem FsAt.map (h : FsAt w s nodes bytes) : MapAt keyInt encPtr w (s + 1) [(1, s + 3)] := FSRep.map h
theorem FsAt.lt (h : FsAt w s nodes bytes) : s + 3 < w.heap.size := by
  have := (h.below (s + 3) 1 (FsAt.ino h).ok).2
  exact this
theorem FsAt.c (h : FsAt w s nodes bytes) : w.cell? ⟨s, 0, none⟩ = some (.int .i64 nodes) ∧ w.cell? ⟨s, 1, none⟩ = some (.int .i64 bytes) ∧ w.cell? ⟨s, 2, none⟩ = some (.int .i64 2) ∧ w.cell? ⟨s, 3, none⟩ = some (.int .i64 0) ∧ w.cell? ⟨s, 4, none⟩ = some (.map (some (s + 1))) ∧ w.cell? ⟨s, 5, none⟩ = some (.slice none 0 0) := FSRep.c h
theorem FsAt.k (h : FsAt w s nodes bytes) : w.cell? ⟨s + 3, 0, none⟩ = some (.int .i64 1) ∧ w.cell? ⟨s + 3, 1, none⟩ = some (.int .u32 0) ∧ w.cell? ⟨s + 3, 2, none⟩ = some (.int .u32 0) ∧ w.cell? ⟨s + 3, 3, none⟩ = some (.int .u32 0)
    ∧ w.cell? ⟨s + 3, 4, none⟩ = some (.int .i64 0) ∧ w.cell? ⟨s + 3, 5, none⟩ = some (.int .i32 0) ∧ w.cell? ⟨s + 3, 6, none⟩ = some (.slice none 0 0) ∧ w.cell? ⟨s + 3, 7, none⟩ = some (.string ⟨#[]⟩) ∧ w.cell? ⟨s + 3, 8, none⟩ = some (.map (some (s + 2))) := by
  obtain ⟨k0, k1, k2, k3, k4, k5, k6, k7, k8, _⟩ := (FsAt.ino h).c
  exact ⟨k0, k1, k2, k3, k4, k5, k6, k7, k8⟩
theorem FsAt.look (h : FsAt w s nodes bytes) : (Instr.lookup 71 (.map (some (s + 1))) (.int .i64 1) false).run Tryz.prog w = .ok (.pointer (some ⟨s + 3, 0, none⟩)) w := look1 h 1
theorem FsAt.of_below {w' : World} (h : FsAt w s nodes bytes) (hb : Below w.heap.size w w') : FsAt w' s nodes bytes := FSRep.of_below h hb
theorem VList_calls (h : FsAt w s nodes bytes) : Calls Tryz.prog 18 #[.pointer (some ⟨s, 0, none⟩), .int .i64 1] w fun e w' => e = .returned (.tuple #[.slice none 0 0, .int .i64 0]) ∧ Below w.heap.size w w' := by
  have HR := Lib.hid h
  have hd : dirsS (stNew nodes bytes) [1] = 0 := rfl
  have HD := Lib.hid hd
  clear h hd
  go_enter Tryz.func18, Tryz.ntmps18
  go_wp2_with fail
  refine (dirs_one' HR.out _ _ _ rfl).mono ?_
  rintro e w1 ⟨rfl, rfl⟩
  rw [HD.out]
  have h1 := FsAt.of_below HR.out (alloc_below w (.cells #[.int .i64 1] 3))
  have c4 := (FsAt.c h1).2.2.2.2.1
  have hl := FsAt.look h1
  have HL := Lib.hid (list_calls (FsAt.k h1).2.2.2.2.2.2.2.2 (FsAt.ents h1))
  clear h1
  go_wp2_with fail
  refine HL.out.mono ?_
  rintro e w2 ⟨rfl, hb⟩
  have HB := Lib.hid hb
  clear hb
  go_wp2
  go_ret2
  exact ⟨rfl, (alloc_below w _).trans (HB.out.mono (by simp))⟩
theorem VTrace_calls (h : FsAt w s nodes bytes) : Calls Tryz.prog 13 #[.pointer (some ⟨s, 0, none⟩)] w fun e w' => e = .returned (.slice none 0 0) ∧ w' = w := by
  have c5 := (FsAt.c h).2.2.2.2.2
  clear h
  go_enter Tryz.func13, Tryz.ntmps13
  go_wp2_with fail
  refine (Tryz.slices_Clone_nil_apiAct 0 0 w).mono ?_
  rintro e w1 ⟨rfl, rfl⟩
  go_wp2
  go_ret
  exact ⟨rfl, rfl⟩
theorem infoNode : (Tryz.prog.info? 79).map (fun i => (i.zero, i.size, i.bytes)) = some (some (.agg #[.int .i64 0, .int .i64 0, .int .u32 0, .int .u32 0, .int .u32 0, .int .i64 0, .int .i32 0, .slice none 0 0, .string ⟨#[]⟩, .slice none 0 0]), 10, 112) := by kernel_rfl
theorem below_alloc2 {w W : World} (h : Below w.heap.size w W) (o : Obj) : Below w.heap.size w (W.alloc o) := h.alloc h.size o
theorem below_grown2 {w W W' : World} (h : Below w.heap.size w W) (hg : W.grownBy W' none) : Below w.heap.size w W' := h.grown hg h.size (fun k e => by cases e)
theorem own_set4 {w : World} {base : Nat} {e : TypeId} {size : Nat} {v : Value} {n : Nat} {xs : List Value} (h : w.ownsRow base e size v n xs) {b : Nat} (hb : b < base) (v0 v1 v2 v3 : Value) :
    ((((w.setCell ⟨b, 0, none⟩ v0).setCell ⟨b, 1, none⟩ v1).setCell ⟨b, 2, none⟩ v2).setCell ⟨b, 3, none⟩ v3).ownsRow base e size v n xs :=
  ownsRow_setCell_below (a := ⟨b, 3, none⟩) (ownsRow_setCell_below (a := ⟨b, 2, none⟩) (ownsRow_setCell_below (a := ⟨b, 1, none⟩) (ownsRow_setCell_below (a := ⟨b, 0, none⟩) h hb v0) hb v1) hb v2) hb v3
theorem below_set4 {a w : World} {B : Nat} (h : Below B a w) {b : Nat} (hb : B ≤ b) (v0 v1 v2 v3 : Value) :
    Below B a ((((w.setCell ⟨b, 0, none⟩ v0).setCell ⟨b, 1, none⟩ v1).setCell ⟨b, 2, none⟩ v2).setCell ⟨b, 3, none⟩ v3) :=
  (((h.setCell (p := ⟨b, 0, none⟩) hb v0).setCell (p := ⟨b, 1, none⟩) hb v1).setCell (p := ⟨b, 2, none⟩) hb v2).setCell (p := ⟨b, 3, none⟩) hb v3
/-- What Image's statement reads. -/
abbrev ImS (w : World) (s : Nat) (W : World) : Prop := Below w.heap.size w W ∧ W.cell? ⟨s + 3, 0, none⟩ = some (.int .i64 1) ∧ W.cell? ⟨s + 3, 1, none⟩ = some (.int .u32 0) ∧ W.cell? ⟨s + 3, 2, none⟩ = some (.int .u32 0) ∧ W.cell? ⟨s + 3, 3, none⟩ = some (.int .u32 0)
    ∧ W.cell? ⟨s + 3, 4, none⟩ = some (.int .i64 0) ∧ W.cell? ⟨s + 3, 5, none⟩ = some (.int .i32 0) ∧ W.cell? ⟨s + 3, 6, none⟩ = some (.slice none 0 0) ∧ W.cell? ⟨s + 3, 7, none⟩ = some (.string ⟨#[]⟩)
theorem ims {W : World} (h : FsAt w s nodes bytes) (hb : Below w.heap.size w W) : ImS w s W := by
  obtain ⟨k0, k1, k2, k3, k4, k5, k6, k7, k8⟩ := FsAt.k (FsAt.of_below h hb)
  exact ⟨hb, k0, k1, k2, k3, k4, k5, k6, k7⟩
theorem list_held {W : World} (h : FsAt w s nodes bytes) (hb : Below w.heap.size w W) : Calls Tryz.prog 32 #[.pointer (some ⟨s + 3, 0, none⟩)] W fun e w' => e = .returned (.slice none 0 0) ∧ Below w.heap.size w w' ∧ Below W.heap.size W w' := by
  have h1 := FsAt.of_below h hb
  refine (list_calls (FsAt.k h1).2.2.2.2.2.2.2.2 (FsAt.ents h1)).mono ?_
  rintro e w' ⟨rfl, h2⟩
  exact ⟨rfl, hb.trans (h2.mono hb.size), h2⟩
set_option maxRecDepth 100000 in
set_option maxHeartbeats 8000000 in
theorem Image_calls (h : FsAt w s nodes bytes) : Calls Tryz.prog 9 #[.pointer (some ⟨s, 0, none⟩)] w fun e w' => ∃ g c, e = .returned (.agg #[.int .i64 nodes, .int .i64 bytes, .int .i64 2, .slice (some ⟨g, 0, none⟩) 1 c]) ∧ w'.ownsRow w.heap.size 79 10 (.slice (some ⟨g, 0, none⟩) 1 c) 1 (nodeCells 1).toList ∧ Below w.heap.size w w' := by
  have HR := Lib.hid h
  have hc := fun o => FsAt.c (FsAt.of_below h (alloc_below w o))
  have hd := fun o1 o2 => FsAt.c (FsAt.of_below h (below_two w o1 o2))
  clear h
  go_enter Tryz.func9, Tryz.ntmps9
  go_wp2_with fail
  have c0 := fun o => (hc o).1
  have c1 := fun o => (hc o).2.1
  have c2 := fun o => (hc o).2.2.1
  have d0 := fun o1 o2 => (hd o1 o2).1
  have d1 := fun o1 o2 => (hd o1 o2).2.1
  have d2 := fun o1 o2 => (hd o1 o2).2.2.1
  go_region
  clear c0 c1 c2 d0 d1 d2 hc hd
  have hF1 : FsAt ((w.alloc (.cells #[.int .i64 0, .int .i64 0, .int .i64 0, .slice none 0 0] 37)).alloc (.cells #[.int .i64 nodes, .int .i64 bytes, .int .i64 2, .slice none 0 0] 37)).drew s nodes bytes := FsAt.of_below HR.out (below_two w _ _).drew
  have hB1 : Below w.heap.size w ((w.alloc (.cells #[.int .i64 0, .int .i64 0, .int .i64 0, .slice none 0 0] 37)).alloc (.cells #[.int .i64 nodes, .int .i64 bytes, .int .i64 2, .slice none 0 0] 37)).drew := (below_two w _ _).drew
  have hX : ((w.alloc (.cells #[.int .i64 0, .int .i64 0, .int .i64 0, .slice none 0 0] 37)).alloc (.cells #[.int .i64 nodes, .int .i64 bytes, .int .i64 2, .slice none 0 0] 37)).drew.heap[w.heap.size + 1]? = some (.cells #[.int .i64 nodes, .int .i64 bytes, .int .i64 2, .slice none 0 0] 37 (0, 0)) := heap_two w _ _
  have hY : ((w.alloc (.cells #[.int .i64 0, .int .i64 0, .int .i64 0, .slice none 0 0] 37)).alloc (.cells #[.int .i64 nodes, .int .i64 bytes, .int .i64 2, .slice none 0 0] 37)).drew.heap[w.heap.size]? = some (.cells #[.int .i64 0, .int .i64 0, .int .i64 0, .slice none 0 0] 37 (0, 0)) := (Below.heap_alloc _ _ _ (by simp)).trans (Go.heap_alloc_new _ _)
  have hs1 : ((w.alloc (.cells #[.int .i64 0, .int .i64 0, .int .i64 0, .slice none 0 0] 37)).alloc (.cells #[.int .i64 nodes, .int .i64 bytes, .int .i64 2, .slice none 0 0] 37)).drew.heap.size = w.heap.size + 2 := by simp
  generalize ((w.alloc (.cells #[.int .i64 0, .int .i64 0, .int .i64 0, .slice none 0 0] 37)).alloc (.cells #[.int .i64 nodes, .int .i64 bytes, .int .i64 2, .slice none 0 0] 37)).drew = W1 at hF1 hB1 hX hY hs1 ⊢
  have c4 := (FsAt.c hF1).2.2.2.2.1
  obtain ⟨D0, hown, hperm, hsize⟩ := own_of_mapI (H := Unit) (FsAt.map hF1) (by simp [akeys]) (by unfold maxLen; simp) (by simp; rfl)
  have HF1 := Lib.hid hF1
  have HB1 := Lib.hid hB1
  have HX := Lib.hid hX
  have HY := Lib.hid hY
  have HS1 := Lib.hid hs1
  have HOWN := Lib.hid hown
  have HPERM := Lib.hid hperm
  have HSIZE := Lib.hid hsize
  clear hF1 hB1 hX hY hs1 hown hperm hsize
  go_wp2_with fail
  refine (callsIn_wide.1 (Tryz.maps_Keys_30 _ _)).mono ?_
  rintro e3 w3 ⟨rfl, rfl⟩
  go_wp2_with fail
  refine (callsIn_wide.1 (Tryz.slices_Sorted_keys_29_30 (s + 1) _ D0 _ W1 HOWN.out (by rw [HSIZE.out]; unfold maxLen; simp) (by rw [HSIZE.out]; simp))).mono ?_
  rintro e4 w4 ⟨v, ss, rfl, hS, hrow, hnil, hb⟩
  have hss : ss = [1] := by simpa using hS.trans HPERM.out
  subst hss
  obtain ⟨rb, rc, rfl, hrb⟩ : ∃ rb rc, v = .slice (some ⟨rb, 0, none⟩) 1 rc ∧ w4.cell? ⟨rb, 0, none⟩ = some (.int .i64 1) := by
    rcases hrow.2 with ⟨_, e⟩ | ⟨g, cap, cur, e, _⟩
    · cases e
    · refine ⟨g, cap, e, ?_⟩
      have := hrow.cells (by rw [e]; rfl) 0 (.int .i64 1) (by simp [encZ])
      rwa [Addr.add_lit] at this
  have hsz : w.heap.size + 2 = W1.heap.size := HS1.out.symm
  have hW4 : Below W1.heap.size W1 w4 := (alloc_below W1 _).trans (hb.mono (by simp))
  have HF4 := Lib.hid (FsAt.of_below HF1.out hW4)
  have HB4 := Lib.hid (HB1.out.trans (hW4.mono (by omega)))
  have hX4 : w4.heap[w.heap.size + 1]? = _ := (hW4.block _ (by omega)).trans HX.out
  have hY4 : w4.heap[w.heap.size]? = _ := (hW4.block _ (by omega)).trans HY.out
  have HX4 := Lib.hid hX4
  have HY4 := Lib.hid hY4
  have HS4 := Lib.hid (show w.heap.size + 2 ≤ w4.heap.size by have := hW4.size; omega)
  have c4' := (FsAt.c HF4.out).2.2.2.2.1
  have hl := FsAt.look HF4.out
  clear hS hrow hnil hb hW4 hX4 hY4 HX HY HS1 HOWN HPERM HSIZE c4 hsz HF1 HB1
  generalize W1.heap.size = z1
  clear W1
  go_wp2_with fail
  refine wp_loop_rounds 2 ?_
  rw [rounds_succ]
  go_wp2_with fail
  obtain ⟨i0, hi, hz0, hz1, hz2⟩ := info_parts infoNode
  have b33 : w4.drew.cell? ⟨w.heap.size + 1, 3, none⟩ = some (.slice none 0 0) := cell_of HX4.out 3
  refine wp_region_held_drew (S := (fun W => Below w.heap.size w W ∧ W.cell? ⟨s + 3, 0, none⟩ = some (.int .i64 1) ∧ W.cell? ⟨s + 3, 1, none⟩ = some (.int .u32 0) ∧ W.cell? ⟨s + 3, 2, none⟩ = some (.int .u32 0) ∧ W.cell? ⟨s + 3, 3, none⟩ = some (.int .u32 0)
    ∧ W.cell? ⟨s + 3, 4, none⟩ = some (.int .i64 0) ∧ W.cell? ⟨s + 3, 5, none⟩ = some (.int .i32 0) ∧ W.cell? ⟨s + 3, 6, none⟩ = some (.slice none 0 0) ∧ W.cell? ⟨s + 3, 7, none⟩ = some (.string ⟨#[]⟩))) (by kernel_rfl) ?_ (fun hHeld => ?_)
  · ((try dsimp only); (first | exact ims HR.out HB4.out.drew | assumption | exact ims HR.out hb2 | exact ims HR.out (below_alloc2 hb2 _) | exact ims HR.out (below_grown2 (below_alloc2 hb2 _) hgrow) | exact ims HR.out ((below_grown2 (below_alloc2 hb2 _) hgrow).setCell (by simp) _)))
  refine wpAnyH_take (i := 0) (oi := ?oi1) (v := ?v1) ?hi1 (by kernel_rfl) (by kernel_rfl) (by kernel_rfl) ?hQ1 (Or.inl ⟨?hw1, ?hy1⟩) (by assumption) ?rest1
  case hi1 => (simp only [List.getElem?_toArray, List.getElem?_cons_succ, List.getElem?_cons_zero]; rfl)
  case hQ1 => exact fun _ _ _ h => h
  case hw1 => rfl
  case hy1 => (intro wq hSw; (try dsimp only at hSw); go_simp; all_goals with_reducible rfl)
  try simp only [Act.put, List.setIfInBounds_toArray, List.set_cons_zero, List.set_cons_succ]
  refine wpAnyH_take (i := 2) (oi := ?oi2) (v := ?v2) ?hi2 (by kernel_rfl) (by kernel_rfl) (by kernel_rfl) ?hQ2 (Or.inl ⟨?hw2, ?hy2⟩) (by assumption) ?rest2
  case hi2 => (simp only [List.getElem?_toArray, List.getElem?_cons_succ, List.getElem?_cons_zero]; rfl)
  case hQ2 => exact fun _ _ _ h => h
  case hw2 => rfl
  case hy2 => (intro wq hSw; (try dsimp only at hSw); go_simp; all_goals with_reducible rfl)
  try simp only [Act.put, List.setIfInBounds_toArray, List.set_cons_zero, List.set_cons_succ]
  refine wpAnyH_take (i := 3) (oi := ?oi3) (v := ?v3) ?hi3 (by kernel_rfl) (by kernel_rfl) (by kernel_rfl) ?hQ3 (Or.inl ⟨?hw3, ?hy3⟩) (by assumption) ?rest3
  case hi3 => (simp only [List.getElem?_toArray, List.getElem?_cons_succ, List.getElem?_cons_zero]; rfl)
  case hQ3 => exact fun _ _ _ h => h
  case hw3 => rfl
  case hy3 => (intro wq hSw; (try dsimp only at hSw); go_simp; all_goals with_reducible rfl)
  try simp only [Act.put, List.setIfInBounds_toArray, List.set_cons_zero, List.set_cons_succ]
  refine wpAnyH_take (i := 4) (oi := ?oi4) (v := ?v4) ?hi4 (by kernel_rfl) (by kernel_rfl) (by kernel_rfl) ?hQ4 (Or.inl ⟨?hw4, ?hy4⟩) (by assumption) ?rest4
  case hi4 => (simp only [List.getElem?_toArray, List.getElem?_cons_succ, List.getElem?_cons_zero]; rfl)
  case hQ4 => exact fun _ _ _ h => h
  case hw4 => rfl
  case hy4 => (intro wq hSw; (try dsimp only at hSw); go_simp; all_goals with_reducible rfl)
  try simp only [Act.put, List.setIfInBounds_toArray, List.set_cons_zero, List.set_cons_succ]
  refine wpAnyH_take (i := 5) (oi := ?oi5) (v := ?v5) ?hi5 (by kernel_rfl) (by kernel_rfl) (by kernel_rfl) ?hQ5 (Or.inl ⟨?hw5, ?hy5⟩) (by assumption) ?rest5
  case hi5 => (simp only [List.getElem?_toArray, List.getElem?_cons_succ, List.getElem?_cons_zero]; rfl)
  case hQ5 => exact fun _ _ _ h => h
  case hw5 => rfl
  case hy5 => (intro wq hSw; (try dsimp only at hSw); go_simp; all_goals with_reducible rfl)
  try simp only [Act.put, List.setIfInBounds_toArray, List.set_cons_zero, List.set_cons_succ]
  refine wpAnyH_take (i := 6) (oi := ?oi6) (v := ?v6) ?hi6 (by kernel_rfl) (by kernel_rfl) (by kernel_rfl) ?hQ6 (Or.inl ⟨?hw6, ?hy6⟩) (by assumption) ?rest6
  case hi6 => (simp only [List.getElem?_toArray, List.getElem?_cons_succ, List.getElem?_cons_zero]; rfl)
  case hQ6 => exact fun _ _ _ h => h
  case hw6 => rfl
  case hy6 => (intro wq hSw; (try dsimp only at hSw); go_simp; all_goals with_reducible rfl)
  try simp only [Act.put, List.setIfInBounds_toArray, List.set_cons_zero, List.set_cons_succ]
  refine wpAnyH_take (i := 7) (oi := ?oi7) (v := ?v7) ?hi7 (by kernel_rfl) (by kernel_rfl) (by kernel_rfl) ?hQ7 (Or.inl ⟨?hw7, ?hy7⟩) (by assumption) ?rest7
  case hi7 => (simp only [List.getElem?_toArray, List.getElem?_cons_succ, List.getElem?_cons_zero]; rfl)
  case hQ7 => exact fun _ _ _ h => h
  case hw7 => rfl
  case hy7 => (intro wq hSw; (try dsimp only at hSw); go_simp; all_goals with_reducible rfl)
  try simp only [Act.put, List.setIfInBounds_toArray, List.set_cons_zero, List.set_cons_succ]
  refine wpAnyH_take (i := 8) (oi := ?oi8) (v := ?v8) ?hi8 (by kernel_rfl) (by kernel_rfl) (by kernel_rfl) ?hQ8 (Or.inl ⟨?hw8, ?hy8⟩) (by assumption) ?rest8
  case hi8 => (simp only [List.getElem?_toArray, List.getElem?_cons_succ, List.getElem?_cons_zero]; rfl)
  case hQ8 => exact fun _ _ _ h => h
  case hw8 => rfl
  case hy8 => (intro wq hSw; (try dsimp only at hSw); go_simp; all_goals with_reducible rfl)
  try simp only [Act.put, List.setIfInBounds_toArray, List.set_cons_zero, List.set_cons_succ]
  refine wpAnyH_take (i := 9) (oi := ?oi9) (v := ?v9) ?hi9 (by kernel_rfl) (by kernel_rfl) (by kernel_rfl) ?hQ9 (Or.inl ⟨?hw9, ?hy9⟩) (by assumption) ?rest9
  case hi9 => (simp only [List.getElem?_toArray, List.getElem?_cons_succ, List.getElem?_cons_zero]; rfl)
  case hQ9 => exact fun _ _ _ h => h
  case hw9 => rfl
  case hy9 => (intro wq hSw; (try dsimp only at hSw); go_simp; all_goals with_reducible rfl)
  try simp only [Act.put, List.setIfInBounds_toArray, List.set_cons_zero, List.set_cons_succ]
  refine wpAnyH_take (i := 10) (oi := ?oi10) (v := ?v10) ?hi10 (by kernel_rfl) (by kernel_rfl) (by kernel_rfl) ?hQ10 (Or.inl ⟨?hw10, ?hy10⟩) (by assumption) ?rest10
  case hi10 => (simp only [List.getElem?_toArray, List.getElem?_cons_succ, List.getElem?_cons_zero]; rfl)
  case hQ10 => exact fun _ _ _ h => h
  case hw10 => rfl
  case hy10 => (intro wq hSw; (try dsimp only at hSw); go_simp; all_goals with_reducible rfl)
  try simp only [Act.put, List.setIfInBounds_toArray, List.set_cons_zero, List.set_cons_succ]
  refine wpAnyH_take (i := 11) (oi := ?oi11) (v := ?v11) ?hi11 (by kernel_rfl) (by kernel_rfl) (by kernel_rfl) ?hQ11 (Or.inl ⟨?hw11, ?hy11⟩) (by assumption) ?rest11
  case hi11 => (simp only [List.getElem?_toArray, List.getElem?_cons_succ, List.getElem?_cons_zero]; rfl)
  case hQ11 => exact fun _ _ _ h => h
  case hw11 => rfl
  case hy11 => (intro wq hSw; (try dsimp only at hSw); go_simp; all_goals with_reducible rfl)
  try simp only [Act.put, List.setIfInBounds_toArray, List.set_cons_zero, List.set_cons_succ]
  refine wpAnyH_take (i := 12) (oi := ?oi12) (v := ?v12) ?hi12 (by kernel_rfl) (by kernel_rfl) (by kernel_rfl) ?hQ12 (Or.inl ⟨?hw12, ?hy12⟩) (by assumption) ?rest12
  case hi12 => (simp only [List.getElem?_toArray, List.getElem?_cons_succ, List.getElem?_cons_zero]; rfl)
  case hQ12 => exact fun _ _ _ h => h
  case hw12 => rfl
  case hy12 => (intro wq hSw; (try dsimp only at hSw); go_simp; all_goals with_reducible rfl)
  try simp only [Act.put, List.setIfInBounds_toArray, List.set_cons_zero, List.set_cons_succ]
  refine wpAnyH_take (i := 13) (oi := ?oi13) (v := ?v13) ?hi13 (by kernel_rfl) (by kernel_rfl) (by kernel_rfl) ?hQ13 (Or.inl ⟨?hw13, ?hy13⟩) (by assumption) ?rest13
  case hi13 => (simp only [List.getElem?_toArray, List.getElem?_cons_succ, List.getElem?_cons_zero]; rfl)
  case hQ13 => exact fun _ _ _ h => h
  case hw13 => rfl
  case hy13 => (intro wq hSw; (try dsimp only at hSw); go_simp; all_goals with_reducible rfl)
  try simp only [Act.put, List.setIfInBounds_toArray, List.set_cons_zero, List.set_cons_succ]
  refine wpAnyH_take (i := 14) (oi := ?oi14) (v := ?v14) ?hi14 (by kernel_rfl) (by kernel_rfl) (by kernel_rfl) ?hQ14 (Or.inl ⟨?hw14, ?hy14⟩) (by assumption) ?rest14
  case hi14 => (simp only [List.getElem?_toArray, List.getElem?_cons_succ, List.getElem?_cons_zero]; rfl)
  case hQ14 => exact fun _ _ _ h => h
  case hw14 => rfl
  case hy14 => (intro wq hSw; (try dsimp only at hSw); go_simp; all_goals with_reducible rfl)
  try simp only [Act.put, List.setIfInBounds_toArray, List.set_cons_zero, List.set_cons_succ]
  refine wpAnyH_take (i := 16) (oi := ?oi15) (v := ?v15) ?hi15 (by kernel_rfl) (by kernel_rfl) (by kernel_rfl) ?hQ15 (Or.inl ⟨?hw15, ?hy15⟩) (by assumption) ?rest15
  case hi15 => (simp only [List.getElem?_toArray, List.getElem?_cons_succ, List.getElem?_cons_zero]; rfl)
  case hQ15 => exact fun _ _ _ h => h
  case hw15 => rfl
  case hy15 => (intro wq hSw; (try dsimp only at hSw); go_simp; all_goals with_reducible rfl)
  try simp only [Act.put, List.setIfInBounds_toArray, List.set_cons_zero, List.set_cons_succ]
  refine wpAnyH_take (i := 17) (oi := ?oi16) (v := ?v16) ?hi16 (by kernel_rfl) (by kernel_rfl) (by kernel_rfl) ?hQ16 (Or.inl ⟨?hw16, ?hy16⟩) (by assumption) ?rest16
  case hi16 => (simp only [List.getElem?_toArray, List.getElem?_cons_succ, List.getElem?_cons_zero]; rfl)
  case hQ16 => exact fun _ _ _ h => h
  case hw16 => rfl
  case hy16 => (intro wq hSw; (try dsimp only at hSw); go_simp; all_goals with_reducible rfl)
  try simp only [Act.put, List.setIfInBounds_toArray, List.set_cons_zero, List.set_cons_succ]
  refine wpAnyH_take (i := 18) (oi := ?oi17) (v := ?v17) ?hi17 (by kernel_rfl) (by kernel_rfl) (by kernel_rfl) ?hQ17 (Or.inl ⟨?hw17, ?hy17⟩) (by assumption) ?rest17
  case hi17 => (simp only [List.getElem?_toArray, List.getElem?_cons_succ, List.getElem?_cons_zero]; rfl)
  case hQ17 => exact fun _ _ _ h => h
  case hw17 => rfl
  case hy17 => (intro wq hSw; (try dsimp only at hSw); go_simp; all_goals with_reducible rfl)
  try simp only [Act.put, List.setIfInBounds_toArray, List.set_cons_zero, List.set_cons_succ]
  refine wpAnyH_take (i := 19) (oi := ?oi18) (v := ?v18) ?hi18 (by kernel_rfl) (by kernel_rfl) (by kernel_rfl) ?hQ18 (Or.inl ⟨?hw18, ?hy18⟩) (by assumption) ?rest18
  case hi18 => (simp only [List.getElem?_toArray, List.getElem?_cons_succ, List.getElem?_cons_zero]; rfl)
  case hQ18 => exact fun _ _ _ h => h
  case hw18 => rfl
  case hy18 => (intro wq hSw; (try dsimp only at hSw); go_simp; all_goals with_reducible rfl)
  try simp only [Act.put, List.setIfInBounds_toArray, List.set_cons_zero, List.set_cons_succ]
  refine wpAnyH_take (i := 20) (oi := ?oi19) (v := ?v19) ?hi19 (by kernel_rfl) (by kernel_rfl) (by kernel_rfl) ?hQ19 (Or.inl ⟨?hw19, ?hy19⟩) (by assumption) ?rest19
  case hi19 => (simp only [List.getElem?_toArray, List.getElem?_cons_succ, List.getElem?_cons_zero]; rfl)
  case hQ19 => exact fun _ _ _ h => h
  case hw19 => rfl
  case hy19 => (intro wq hSw; (try dsimp only at hSw); go_simp; all_goals with_reducible rfl)
  try simp only [Act.put, List.setIfInBounds_toArray, List.set_cons_zero, List.set_cons_succ]
  refine wpAnyH_ready (rs := [1, 15]) (by kernel_rfl) (by simp) ?_
  refine AllReadyH.cons (o := ?o20) ?ho20 (fun K hK => ?step20) ?more20
  case ho20 => (simp only [List.getElem?_toArray, List.getElem?_cons_succ, List.getElem?_cons_zero]; rfl)
  case step20 =>
    go_simp
    refine hK.out _ _ ?hS20 (fun hHeld => ?go20)
    case hS20 => ((try dsimp only); (first | exact ims HR.out HB4.out.drew | assumption | exact ims HR.out hb2 | exact ims HR.out (below_alloc2 hb2 _) | exact ims HR.out (below_grown2 (below_alloc2 hb2 _) hgrow) | exact ims HR.out ((below_grown2 (below_alloc2 hb2 _) hgrow).setCell (by simp) _)))
    case go20 =>
      clear hK K
      try simp only [Act.put, List.setIfInBounds_toArray, List.set_cons_zero, List.set_cons_succ]
      refine wpAnyH_ready (rs := [15]) (by kernel_rfl) (by simp) ?_
      refine AllReadyH.cons (o := ?o21) ?ho21 (fun K hK => ?step21) ?more21
      case ho21 => (simp only [List.getElem?_toArray, List.getElem?_cons_succ, List.getElem?_cons_zero]; rfl)
      case step21 =>
        (go_simp; (go_at_call 31; refine (Tryz.slices_Clone_nil_uint8 0 0 _).mono ?_; rintro e w1 ⟨rfl, rfl⟩))
        try (go_wp2_with fail)
        refine hK.out _ _ ?hS21 (fun hHeld => ?go21)
        case hS21 => ((try dsimp only); (first | exact ims HR.out HB4.out.drew | assumption | exact ims HR.out hb2 | exact ims HR.out (below_alloc2 hb2 _) | exact ims HR.out (below_grown2 (below_alloc2 hb2 _) hgrow) | exact ims HR.out ((below_grown2 (below_alloc2 hb2 _) hgrow).setCell (by simp) _)))
        case go21 =>
          clear hK K
          try simp only [Act.put, List.setIfInBounds_toArray, List.set_cons_zero, List.set_cons_succ]
          refine wpAnyH_ready (rs := [21]) (by kernel_rfl) (by simp) ?_
          refine AllReadyH.cons (o := ?o22) ?ho22 (fun K hK => ?step22) ?more22
          case ho22 => (simp only [List.getElem?_toArray, List.getElem?_cons_succ, List.getElem?_cons_zero]; rfl)
          case step22 =>
            (go_simp; (go_at_call 32; refine (list_held (W := w4.drew) HR.out HB4.out.drew).mono ?_; rintro e w5 ⟨rfl, hb2, hk5⟩; have hX5 : w5.heap[w.heap.size + 1]? = _ := (hk5.block _ (by have := HS4.out; show _ < w4.heap.size; omega)).trans HX4.out; have hY5 : w5.heap[w.heap.size]? = _ := (hk5.block _ (by have := HS4.out; show _ < w4.heap.size; omega)).trans HY4.out; have b53 : w5.cell? ⟨w.heap.size + 1, 3, none⟩ = some (.slice none 0 0) := cell_of hX5 3; have b5a : ∀ o, (w5.alloc o).cell? ⟨w.heap.size + 1, 3, none⟩ = some (.slice none 0 0) := fun o => cell_of ((Below.heap_alloc w5 o _ (Array.getElem?_eq_some_iff.1 hX5).1).trans hX5) 3))
            try (go_wp2_with fail)
            refine hK.out _ _ ?hS22 (fun hHeld => ?go22)
            case hS22 => ((try dsimp only); (first | exact ims HR.out HB4.out.drew | assumption | exact ims HR.out hb2 | exact ims HR.out (below_alloc2 hb2 _) | exact ims HR.out (below_grown2 (below_alloc2 hb2 _) hgrow) | exact ims HR.out ((below_grown2 (below_alloc2 hb2 _) hgrow).setCell (by simp) _)))
            case go22 =>
              clear hK K
              try simp only [Act.put, List.setIfInBounds_toArray, List.set_cons_zero, List.set_cons_succ]
              refine wpAnyH_take (i := 22) (oi := ?oi23) (v := ?v23) ?hi23 (by kernel_rfl) (by kernel_rfl) (by kernel_rfl) ?hQ23 (Or.inl ⟨?hw23, ?hy23⟩) (by assumption) ?rest23
              case hi23 => (simp only [List.getElem?_toArray, List.getElem?_cons_succ, List.getElem?_cons_zero]; rfl)
              case hQ23 => exact fun _ _ _ h => h
              case hw23 => rfl
              case hy23 => (intro wq hSw; (try dsimp only at hSw); go_simp; all_goals with_reducible rfl)
              try simp only [Act.put, List.setIfInBounds_toArray, List.set_cons_zero, List.set_cons_succ]
              refine wpAnyH_ready (rs := [23]) (by kernel_rfl) (by simp) ?_
              refine AllReadyH.cons (o := ?o24) ?ho24 (fun K hK => ?step24) ?more24
              case ho24 => (simp only [List.getElem?_toArray, List.getElem?_cons_succ, List.getElem?_cons_zero]; rfl)
              case step24 =>
                go_simp
                refine hK.out _ _ ?hS24 (fun hHeld => ?go24)
                case hS24 => ((try dsimp only); (first | exact ims HR.out HB4.out.drew | assumption | exact ims HR.out hb2 | exact ims HR.out (below_alloc2 hb2 _) | exact ims HR.out (below_grown2 (below_alloc2 hb2 _) hgrow) | exact ims HR.out ((below_grown2 (below_alloc2 hb2 _) hgrow).setCell (by simp) _)))
                case go24 =>
                  clear hK K
                  try simp only [Act.put, List.setIfInBounds_toArray, List.set_cons_zero, List.set_cons_succ]
                  refine wpAnyH_ready (rs := [24]) (by kernel_rfl) (by simp) ?_
                  refine AllReadyH.cons (o := ?o25) ?ho25 (fun K hK => ?step25) ?more25
                  case ho25 => (simp only [List.getElem?_toArray, List.getElem?_cons_succ, List.getElem?_cons_zero]; rfl)
                  case step25 =>
                    (refine step_append_lies _ (by rfl) _ _ _ (by rfl) (w.heap.size + 2) 79 i0 _ 10 112 Tryz.underlying35 hi hz0 hz1 hz2 rfl (by omega) (.slice none 0 0) 0 [] (by rfl) ⟨rfl, .inl ⟨rfl, rfl⟩⟩ ⟨w5.heap.size, 0, none⟩ 1 1 (nodeCells 1).toList (by rfl) (by rfl) (World.news_of_block (cs := nodeCells 1) (t := 79) (fr := (0, 0)) (heap_alloc_new w5 _)) (by simp [nodeCells, Value.oneCell']) (by omega) (by unfold maxLen; omega) (by omega) (by have := hk5.size; have := HS4.out; have h9 : w4.drew.heap.size = w4.heap.size := rfl; simp; omega) (w5.heap.size + 1) (by simp) ?_; intro g cap w2 hown2 hgrow hat hlt; have hX2 : w2.heap[w.heap.size + 1]? = _ := (hgrow.block _ (by have := (Array.getElem?_eq_some_iff.1 hX5).1; simp; omega) (by simp [Value.ownBlock])).trans ((Below.heap_alloc w5 _ _ (Array.getElem?_eq_some_iff.1 hX5).1).trans hX5); have hY2 : w2.heap[w.heap.size]? = _ := (hgrow.block _ (by have := (Array.getElem?_eq_some_iff.1 hY5).1; simp; omega) (by simp [Value.ownBlock])).trans ((Below.heap_alloc w5 _ _ (Array.getElem?_eq_some_iff.1 hY5).1).trans hY5); have hB2 := below_grown2 (below_alloc2 hb2 _) hgrow; have b23 : w2.cell? ⟨w.heap.size + 1, 3, none⟩ = some (.slice none 0 0) := cell_of hX2 3; have f23 : w2.frozen? ⟨w.heap.size + 1, 3, none⟩ = false := frozen_of hX2 3)
                    refine hK.out _ _ ?hS25 (fun hHeld => ?go25)
                    case hS25 => ((try dsimp only); (first | exact ims HR.out HB4.out.drew | assumption | exact ims HR.out hb2 | exact ims HR.out (below_alloc2 hb2 _) | exact ims HR.out (below_grown2 (below_alloc2 hb2 _) hgrow) | exact ims HR.out ((below_grown2 (below_alloc2 hb2 _) hgrow).setCell (by simp) _)))
                    case go25 =>
                      clear hK K
                      try simp only [Act.put, List.setIfInBounds_toArray, List.set_cons_zero, List.set_cons_succ]
                      refine wpAnyH_take (i := 25) (oi := ?oi26) (v := ?v26) ?hi26 (by kernel_rfl) (by kernel_rfl) (by kernel_rfl) ?hQ26 (Or.inl ⟨?hw26, ?hy26⟩) (by assumption) ?rest26
                      case hi26 => (simp only [List.getElem?_toArray, List.getElem?_cons_succ, List.getElem?_cons_zero]; rfl)
                      case hQ26 => exact fun _ _ _ h => h
                      case hw26 => rfl
                      case hy26 => (intro wq hSw; (try dsimp only at hSw); go_simp; all_goals with_reducible rfl)
                      try simp only [Act.put, List.setIfInBounds_toArray, List.set_cons_zero, List.set_cons_succ]
                      refine wpAnyH_ready (rs := [26]) (by kernel_rfl) (by simp) ?_
                      refine AllReadyH.cons (o := ?o27) ?ho27 (fun K hK => ?step27) ?more27
                      case ho27 => (simp only [List.getElem?_toArray, List.getElem?_cons_succ, List.getElem?_cons_zero]; rfl)
                      case step27 =>
                        go_simp
                        refine hK.out _ _ ?hS27 (fun hHeld => ?go27)
                        case hS27 => ((try dsimp only); (first | exact ims HR.out HB4.out.drew | assumption | exact ims HR.out hb2 | exact ims HR.out (below_alloc2 hb2 _) | exact ims HR.out (below_grown2 (below_alloc2 hb2 _) hgrow) | exact ims HR.out ((below_grown2 (below_alloc2 hb2 _) hgrow).setCell (by simp) _)))
                        case go27 =>
                          clear hK K
                          try simp only [Act.put, List.setIfInBounds_toArray, List.set_cons_zero, List.set_cons_succ]
                          refine wpAnyH_done (by kernel_rfl) ?_ _
                          have hX6 : (w2.setCell ⟨w.heap.size + 1, 3, none⟩ (.slice (some ⟨g, 0, none⟩) 1 cap)).heap[w.heap.size + 1]? = some (.cells #[.int .i64 nodes, .int .i64 bytes, .int .i64 2, .slice (some ⟨g, 0, none⟩) 1 cap] 37 (0, 0)) := (heap_setCell_at hX2 3 (.slice (some ⟨g, 0, none⟩) 1 cap)).trans rfl
                          have hY6 : (w2.setCell ⟨w.heap.size + 1, 3, none⟩ (.slice (some ⟨g, 0, none⟩) 1 cap)).heap[w.heap.size]? = _ := (Below.heap_setCell _ _ _ _ (by simp)).trans hY2
                          have hB6 := hB2.setCell (p := ⟨w.heap.size + 1, 3, none⟩) (by simp) (.slice (some ⟨g, 0, none⟩) 1 cap)
                          have hO6 := ownsRow_setCell_below hown2 (a := ⟨w.heap.size + 1, 3, none⟩) (by simp) (.slice (some ⟨g, 0, none⟩) 1 cap)
                          clear b33 b23 f23 hX2 hY2 hB2 hown2 hgrow hat hlt hX5 hY5 b53 b5a hb2 hk5 hi hz0 hz1 hz2 HX4 HY4 HS4 HB4 HF4 HR c4' hl hrb
                          generalize w2.setCell ⟨w.heap.size + 1, 3, none⟩ (.slice (some ⟨g, 0, none⟩) 1 cap) = w6 at hX6 hY6 hB6 hO6 ⊢
                          have x0 := cell_of hX6 0
                          have x1 := cell_of hX6 1
                          have x2 := cell_of hX6 2
                          have x3 := cell_of hX6 3
                          have y0 := cell_of hY6 0
                          have y1 := cell_of hY6 1
                          have y2 := cell_of hY6 2
                          have y3 := cell_of hY6 3
                          have fy := frozen_of hY6
                          simp only [List.getElem?_toArray, List.getElem?_cons_zero, List.getElem?_cons_succ] at x0 x1 x2 x3 y0 y1 y2 y3
                          have HX6 := Lib.hid hX6
                          have HY6 := Lib.hid hY6
                          have HB6 := Lib.hid hB6
                          have HO6 := Lib.hid hO6
                          clear hX6 hY6 hB6 hO6
                          go_wp2_with fail
                          rw [rounds_succ]
                          go_wp2
                          refine bodyPost_ret (v := .agg #[.int .i64 nodes, .int .i64 bytes, .int .i64 2, .slice (some ⟨g, 0, none⟩) 1 cap]) ?_ rfl ⟨g, cap, rfl, ?_, ?_⟩
                          · simp [results, Tryz.results9, go_sem, x0, x1, x2, x3, y0, y1, y2, y3]
                          · exact (own_set4 HO6.out (by omega) _ _ _ _).mono (by omega)
                          · exact below_set4 HB6.out (Nat.le_refl _) _ _ _ _
                      exact AllReadyH.nil
                  exact AllReadyH.nil
              exact AllReadyH.nil
          exact AllReadyH.nil
      exact AllReadyH.nil
  refine AllReadyH.cons (o := ?o28) ?ho28 (fun K hK => ?step28) ?more28
  case ho28 => (simp only [List.getElem?_toArray, List.getElem?_cons_succ, List.getElem?_cons_zero]; rfl)
  case step28 =>
    (go_simp; (go_at_call 31; refine (Tryz.slices_Clone_nil_uint8 0 0 _).mono ?_; rintro e w1 ⟨rfl, rfl⟩))
    try (go_wp2_with fail)
    refine hK.out _ _ ?hS28 (fun hHeld => ?go28)
    case hS28 => ((try dsimp only); (first | exact ims HR.out HB4.out.drew | assumption | exact ims HR.out hb2 | exact ims HR.out (below_alloc2 hb2 _) | exact ims HR.out (below_grown2 (below_alloc2 hb2 _) hgrow) | exact ims HR.out ((below_grown2 (below_alloc2 hb2 _) hgrow).setCell (by simp) _)))
    case go28 =>
      clear hK K
      try simp only [Act.put, List.setIfInBounds_toArray, List.set_cons_zero, List.set_cons_succ]
      refine wpAnyH_ready (rs := [1, 21]) (by kernel_rfl) (by simp) ?_
      refine AllReadyH.cons (o := ?o29) ?ho29 (fun K hK => ?step29) ?more29
      case ho29 => (simp only [List.getElem?_toArray, List.getElem?_cons_succ, List.getElem?_cons_zero]; rfl)
      case step29 =>
        go_simp
        refine hK.out _ _ ?hS29 (fun hHeld => ?go29)
        case hS29 => ((try dsimp only); (first | exact ims HR.out HB4.out.drew | assumption | exact ims HR.out hb2 | exact ims HR.out (below_alloc2 hb2 _) | exact ims HR.out (below_grown2 (below_alloc2 hb2 _) hgrow) | exact ims HR.out ((below_grown2 (below_alloc2 hb2 _) hgrow).setCell (by simp) _)))
        case go29 =>
          clear hK K
          try simp only [Act.put, List.setIfInBounds_toArray, List.set_cons_zero, List.set_cons_succ]
          refine wpAnyH_ready (rs := [21]) (by kernel_rfl) (by simp) ?_
          refine AllReadyH.cons (o := ?o30) ?ho30 (fun K hK => ?step30) ?more30
          case ho30 => (simp only [List.getElem?_toArray, List.getElem?_cons_succ, List.getElem?_cons_zero]; rfl)
          case step30 =>
            (go_simp; (go_at_call 32; refine (list_held (W := w4.drew) HR.out HB4.out.drew).mono ?_; rintro e w5 ⟨rfl, hb2, hk5⟩; have hX5 : w5.heap[w.heap.size + 1]? = _ := (hk5.block _ (by have := HS4.out; show _ < w4.heap.size; omega)).trans HX4.out; have hY5 : w5.heap[w.heap.size]? = _ := (hk5.block _ (by have := HS4.out; show _ < w4.heap.size; omega)).trans HY4.out; have b53 : w5.cell? ⟨w.heap.size + 1, 3, none⟩ = some (.slice none 0 0) := cell_of hX5 3; have b5a : ∀ o, (w5.alloc o).cell? ⟨w.heap.size + 1, 3, none⟩ = some (.slice none 0 0) := fun o => cell_of ((Below.heap_alloc w5 o _ (Array.getElem?_eq_some_iff.1 hX5).1).trans hX5) 3))
            try (go_wp2_with fail)
            refine hK.out _ _ ?hS30 (fun hHeld => ?go30)
            case hS30 => ((try dsimp only); (first | exact ims HR.out HB4.out.drew | assumption | exact ims HR.out hb2 | exact ims HR.out (below_alloc2 hb2 _) | exact ims HR.out (below_grown2 (below_alloc2 hb2 _) hgrow) | exact ims HR.out ((below_grown2 (below_alloc2 hb2 _) hgrow).setCell (by simp) _)))
            case go30 =>
              clear hK K
              try simp only [Act.put, List.setIfInBounds_toArray, List.set_cons_zero, List.set_cons_succ]
              refine wpAnyH_take (i := 22) (oi := ?oi31) (v := ?v31) ?hi31 (by kernel_rfl) (by kernel_rfl) (by kernel_rfl) ?hQ31 (Or.inl ⟨?hw31, ?hy31⟩) (by assumption) ?rest31
              case hi31 => (simp only [List.getElem?_toArray, List.getElem?_cons_succ, List.getElem?_cons_zero]; rfl)
              case hQ31 => exact fun _ _ _ h => h
              case hw31 => rfl
              case hy31 => (intro wq hSw; (try dsimp only at hSw); go_simp; all_goals with_reducible rfl)
              try simp only [Act.put, List.setIfInBounds_toArray, List.set_cons_zero, List.set_cons_succ]
              refine wpAnyH_ready (rs := [23]) (by kernel_rfl) (by simp) ?_
              refine AllReadyH.cons (o := ?o32) ?ho32 (fun K hK => ?step32) ?more32
              case ho32 => (simp only [List.getElem?_toArray, List.getElem?_cons_succ, List.getElem?_cons_zero]; rfl)
              case step32 =>
                go_simp
                refine hK.out _ _ ?hS32 (fun hHeld => ?go32)
                case hS32 => ((try dsimp only); (first | exact ims HR.out HB4.out.drew | assumption | exact ims HR.out hb2 | exact ims HR.out (below_alloc2 hb2 _) | exact ims HR.out (below_grown2 (below_alloc2 hb2 _) hgrow) | exact ims HR.out ((below_grown2 (below_alloc2 hb2 _) hgrow).setCell (by simp) _)))
                case go32 =>
                  clear hK K
                  try simp only [Act.put, List.setIfInBounds_toArray, List.set_cons_zero, List.set_cons_succ]
                  refine wpAnyH_ready (rs := [24]) (by kernel_rfl) (by simp) ?_
                  refine AllReadyH.cons (o := ?o33) ?ho33 (fun K hK => ?step33) ?more33
                  case ho33 => (simp only [List.getElem?_toArray, List.getElem?_cons_succ, List.getElem?_cons_zero]; rfl)
                  case step33 =>
                    (refine step_append_lies _ (by rfl) _ _ _ (by rfl) (w.heap.size + 2) 79 i0 _ 10 112 Tryz.underlying35 hi hz0 hz1 hz2 rfl (by omega) (.slice none 0 0) 0 [] (by rfl) ⟨rfl, .inl ⟨rfl, rfl⟩⟩ ⟨w5.heap.size, 0, none⟩ 1 1 (nodeCells 1).toList (by rfl) (by rfl) (World.news_of_block (cs := nodeCells 1) (t := 79) (fr := (0, 0)) (heap_alloc_new w5 _)) (by simp [nodeCells, Value.oneCell']) (by omega) (by unfold maxLen; omega) (by omega) (by have := hk5.size; have := HS4.out; have h9 : w4.drew.heap.size = w4.heap.size := rfl; simp; omega) (w5.heap.size + 1) (by simp) ?_; intro g cap w2 hown2 hgrow hat hlt; have hX2 : w2.heap[w.heap.size + 1]? = _ := (hgrow.block _ (by have := (Array.getElem?_eq_some_iff.1 hX5).1; simp; omega) (by simp [Value.ownBlock])).trans ((Below.heap_alloc w5 _ _ (Array.getElem?_eq_some_iff.1 hX5).1).trans hX5); have hY2 : w2.heap[w.heap.size]? = _ := (hgrow.block _ (by have := (Array.getElem?_eq_some_iff.1 hY5).1; simp; omega) (by simp [Value.ownBlock])).trans ((Below.heap_alloc w5 _ _ (Array.getElem?_eq_some_iff.1 hY5).1).trans hY5); have hB2 := below_grown2 (below_alloc2 hb2 _) hgrow; have b23 : w2.cell? ⟨w.heap.size + 1, 3, none⟩ = some (.slice none 0 0) := cell_of hX2 3; have f23 : w2.frozen? ⟨w.heap.size + 1, 3, none⟩ = false := frozen_of hX2 3)
                    refine hK.out _ _ ?hS33 (fun hHeld => ?go33)
                    case hS33 => ((try dsimp only); (first | exact ims HR.out HB4.out.drew | assumption | exact ims HR.out hb2 | exact ims HR.out (below_alloc2 hb2 _) | exact ims HR.out (below_grown2 (below_alloc2 hb2 _) hgrow) | exact ims HR.out ((below_grown2 (below_alloc2 hb2 _) hgrow).setCell (by simp) _)))
                    case go33 =>
                      clear hK K
                      try simp only [Act.put, List.setIfInBounds_toArray, List.set_cons_zero, List.set_cons_succ]
                      refine wpAnyH_take (i := 25) (oi := ?oi34) (v := ?v34) ?hi34 (by kernel_rfl) (by kernel_rfl) (by kernel_rfl) ?hQ34 (Or.inl ⟨?hw34, ?hy34⟩) (by assumption) ?rest34
                      case hi34 => (simp only [List.getElem?_toArray, List.getElem?_cons_succ, List.getElem?_cons_zero]; rfl)
                      case hQ34 => exact fun _ _ _ h => h
                      case hw34 => rfl
                      case hy34 => (intro wq hSw; (try dsimp only at hSw); go_simp; all_goals with_reducible rfl)
                      try simp only [Act.put, List.setIfInBounds_toArray, List.set_cons_zero, List.set_cons_succ]
                      refine wpAnyH_ready (rs := [26]) (by kernel_rfl) (by simp) ?_
                      refine AllReadyH.cons (o := ?o35) ?ho35 (fun K hK => ?step35) ?more35
                      case ho35 => (simp only [List.getElem?_toArray, List.getElem?_cons_succ, List.getElem?_cons_zero]; rfl)
                      case step35 =>
                        go_simp
                        refine hK.out _ _ ?hS35 (fun hHeld => ?go35)
                        case hS35 => ((try dsimp only); (first | exact ims HR.out HB4.out.drew | assumption | exact ims HR.out hb2 | exact ims HR.out (below_alloc2 hb2 _) | exact ims HR.out (below_grown2 (below_alloc2 hb2 _) hgrow) | exact ims HR.out ((below_grown2 (below_alloc2 hb2 _) hgrow).setCell (by simp) _)))
                        case go35 =>
                          clear hK K
                          try simp only [Act.put, List.setIfInBounds_toArray, List.set_cons_zero, List.set_cons_succ]
                          refine wpAnyH_done (by kernel_rfl) ?_ _
                          have hX6 : (w2.setCell ⟨w.heap.size + 1, 3, none⟩ (.slice (some ⟨g, 0, none⟩) 1 cap)).heap[w.heap.size + 1]? = some (.cells #[.int .i64 nodes, .int .i64 bytes, .int .i64 2, .slice (some ⟨g, 0, none⟩) 1 cap] 37 (0, 0)) := (heap_setCell_at hX2 3 (.slice (some ⟨g, 0, none⟩) 1 cap)).trans rfl
                          have hY6 : (w2.setCell ⟨w.heap.size + 1, 3, none⟩ (.slice (some ⟨g, 0, none⟩) 1 cap)).heap[w.heap.size]? = _ := (Below.heap_setCell _ _ _ _ (by simp)).trans hY2
                          have hB6 := hB2.setCell (p := ⟨w.heap.size + 1, 3, none⟩) (by simp) (.slice (some ⟨g, 0, none⟩) 1 cap)
                          have hO6 := ownsRow_setCell_below hown2 (a := ⟨w.heap.size + 1, 3, none⟩) (by simp) (.slice (some ⟨g, 0, none⟩) 1 cap)
                          clear b33 b23 f23 hX2 hY2 hB2 hown2 hgrow hat hlt hX5 hY5 b53 b5a hb2 hk5 hi hz0 hz1 hz2 HX4 HY4 HS4 HB4 HF4 HR c4' hl hrb
                          generalize w2.setCell ⟨w.heap.size + 1, 3, none⟩ (.slice (some ⟨g, 0, none⟩) 1 cap) = w6 at hX6 hY6 hB6 hO6 ⊢
                          have x0 := cell_of hX6 0
                          have x1 := cell_of hX6 1
                          have x2 := cell_of hX6 2
                          have x3 := cell_of hX6 3
                          have y0 := cell_of hY6 0
                          have y1 := cell_of hY6 1
                          have y2 := cell_of hY6 2
                          have y3 := cell_of hY6 3
                          have fy := frozen_of hY6
                          simp only [List.getElem?_toArray, List.getElem?_cons_zero, List.getElem?_cons_succ] at x0 x1 x2 x3 y0 y1 y2 y3
                          have HX6 := Lib.hid hX6
                          have HY6 := Lib.hid hY6
                          have HB6 := Lib.hid hB6
                          have HO6 := Lib.hid hO6
                          clear hX6 hY6 hB6 hO6
                          go_wp2_with fail
                          rw [rounds_succ]
                          go_wp2
                          refine bodyPost_ret (v := .agg #[.int .i64 nodes, .int .i64 bytes, .int .i64 2, .slice (some ⟨g, 0, none⟩) 1 cap]) ?_ rfl ⟨g, cap, rfl, ?_, ?_⟩
                          · simp [results, Tryz.results9, go_sem, x0, x1, x2, x3, y0, y1, y2, y3]
                          · exact (own_set4 HO6.out (by omega) _ _ _ _).mono (by omega)
                          · exact below_set4 HB6.out (Nat.le_refl _) _ _ _ _
                      exact AllReadyH.nil
                  exact AllReadyH.nil
              exact AllReadyH.nil
          exact AllReadyH.nil
      refine AllReadyH.cons (o := ?o36) ?ho36 (fun K hK => ?step36) ?more36
      case ho36 => (simp only [List.getElem?_toArray, List.getElem?_cons_succ, List.getElem?_cons_zero]; rfl)
      case step36 =>
        (go_simp; (go_at_call 32; refine (list_held (W := w4.drew) HR.out HB4.out.drew).mono ?_; rintro e w5 ⟨rfl, hb2, hk5⟩; have hX5 : w5.heap[w.heap.size + 1]? = _ := (hk5.block _ (by have := HS4.out; show _ < w4.heap.size; omega)).trans HX4.out; have hY5 : w5.heap[w.heap.size]? = _ := (hk5.block _ (by have := HS4.out; show _ < w4.heap.size; omega)).trans HY4.out; have b53 : w5.cell? ⟨w.heap.size + 1, 3, none⟩ = some (.slice none 0 0) := cell_of hX5 3; have b5a : ∀ o, (w5.alloc o).cell? ⟨w.heap.size + 1, 3, none⟩ = some (.slice none 0 0) := fun o => cell_of ((Below.heap_alloc w5 o _ (Array.getElem?_eq_some_iff.1 hX5).1).trans hX5) 3))
        try (go_wp2_with fail)
        refine hK.out _ _ ?hS36 (fun hHeld => ?go36)
        case hS36 => ((try dsimp only); (first | exact ims HR.out HB4.out.drew | assumption | exact ims HR.out hb2 | exact ims HR.out (below_alloc2 hb2 _) | exact ims HR.out (below_grown2 (below_alloc2 hb2 _) hgrow) | exact ims HR.out ((below_grown2 (below_alloc2 hb2 _) hgrow).setCell (by simp) _)))
        case go36 =>
          clear hK K
          try simp only [Act.put, List.setIfInBounds_toArray, List.set_cons_zero, List.set_cons_succ]
          refine wpAnyH_take (i := 22) (oi := ?oi37) (v := ?v37) ?hi37 (by kernel_rfl) (by kernel_rfl) (by kernel_rfl) ?hQ37 (Or.inl ⟨?hw37, ?hy37⟩) (by assumption) ?rest37
          case hi37 => (simp only [List.getElem?_toArray, List.getElem?_cons_succ, List.getElem?_cons_zero]; rfl)
          case hQ37 => exact fun _ _ _ h => h
          case hw37 => rfl
          case hy37 => (intro wq hSw; (try dsimp only at hSw); go_simp; all_goals with_reducible rfl)
          try simp only [Act.put, List.setIfInBounds_toArray, List.set_cons_zero, List.set_cons_succ]
          refine wpAnyH_ready (rs := [1, 23]) (by kernel_rfl) (by simp) ?_
          refine AllReadyH.cons (o := ?o38) ?ho38 (fun K hK => ?step38) ?more38
          case ho38 => (simp only [List.getElem?_toArray, List.getElem?_cons_succ, List.getElem?_cons_zero]; rfl)
          case step38 =>
            go_simp
            refine hK.out _ _ ?hS38 (fun hHeld => ?go38)
            case hS38 => ((try dsimp only); (first | exact ims HR.out HB4.out.drew | assumption | exact ims HR.out hb2 | exact ims HR.out (below_alloc2 hb2 _) | exact ims HR.out (below_grown2 (below_alloc2 hb2 _) hgrow) | exact ims HR.out ((below_grown2 (below_alloc2 hb2 _) hgrow).setCell (by simp) _)))
            case go38 =>
              clear hK K
              try simp only [Act.put, List.setIfInBounds_toArray, List.set_cons_zero, List.set_cons_succ]
              refine wpAnyH_ready (rs := [23]) (by kernel_rfl) (by simp) ?_
              refine AllReadyH.cons (o := ?o39) ?ho39 (fun K hK => ?step39) ?more39
              case ho39 => (simp only [List.getElem?_toArray, List.getElem?_cons_succ, List.getElem?_cons_zero]; rfl)
              case step39 =>
                go_simp
                refine hK.out _ _ ?hS39 (fun hHeld => ?go39)
                case hS39 => ((try dsimp only); (first | exact ims HR.out HB4.out.drew | assumption | exact ims HR.out hb2 | exact ims HR.out (below_alloc2 hb2 _) | exact ims HR.out (below_grown2 (below_alloc2 hb2 _) hgrow) | exact ims HR.out ((below_grown2 (below_alloc2 hb2 _) hgrow).setCell (by simp) _)))
                case go39 =>
                  clear hK K
                  try simp only [Act.put, List.setIfInBounds_toArray, List.set_cons_zero, List.set_cons_succ]
                  refine wpAnyH_ready (rs := [24]) (by kernel_rfl) (by simp) ?_
                  refine AllReadyH.cons (o := ?o40) ?ho40 (fun K hK => ?step40) ?more40
                  case ho40 => (simp only [List.getElem?_toArray, List.getElem?_cons_succ, List.getElem?_cons_zero]; rfl)
                  case step40 =>
                    (refine step_append_lies _ (by rfl) _ _ _ (by rfl) (w.heap.size + 2) 79 i0 _ 10 112 Tryz.underlying35 hi hz0 hz1 hz2 rfl (by omega) (.slice none 0 0) 0 [] (by rfl) ⟨rfl, .inl ⟨rfl, rfl⟩⟩ ⟨w5.heap.size, 0, none⟩ 1 1 (nodeCells 1).toList (by rfl) (by rfl) (World.news_of_block (cs := nodeCells 1) (t := 79) (fr := (0, 0)) (heap_alloc_new w5 _)) (by simp [nodeCells, Value.oneCell']) (by omega) (by unfold maxLen; omega) (by omega) (by have := hk5.size; have := HS4.out; have h9 : w4.drew.heap.size = w4.heap.size := rfl; simp; omega) (w5.heap.size + 1) (by simp) ?_; intro g cap w2 hown2 hgrow hat hlt; have hX2 : w2.heap[w.heap.size + 1]? = _ := (hgrow.block _ (by have := (Array.getElem?_eq_some_iff.1 hX5).1; simp; omega) (by simp [Value.ownBlock])).trans ((Below.heap_alloc w5 _ _ (Array.getElem?_eq_some_iff.1 hX5).1).trans hX5); have hY2 : w2.heap[w.heap.size]? = _ := (hgrow.block _ (by have := (Array.getElem?_eq_some_iff.1 hY5).1; simp; omega) (by simp [Value.ownBlock])).trans ((Below.heap_alloc w5 _ _ (Array.getElem?_eq_some_iff.1 hY5).1).trans hY5); have hB2 := below_grown2 (below_alloc2 hb2 _) hgrow; have b23 : w2.cell? ⟨w.heap.size + 1, 3, none⟩ = some (.slice none 0 0) := cell_of hX2 3; have f23 : w2.frozen? ⟨w.heap.size + 1, 3, none⟩ = false := frozen_of hX2 3)
                    refine hK.out _ _ ?hS40 (fun hHeld => ?go40)
                    case hS40 => ((try dsimp only); (first | exact ims HR.out HB4.out.drew | assumption | exact ims HR.out hb2 | exact ims HR.out (below_alloc2 hb2 _) | exact ims HR.out (below_grown2 (below_alloc2 hb2 _) hgrow) | exact ims HR.out ((below_grown2 (below_alloc2 hb2 _) hgrow).setCell (by simp) _)))
                    case go40 =>
                      clear hK K
                      try simp only [Act.put, List.setIfInBounds_toArray, List.set_cons_zero, List.set_cons_succ]
                      refine wpAnyH_take (i := 25) (oi := ?oi41) (v := ?v41) ?hi41 (by kernel_rfl) (by kernel_rfl) (by kernel_rfl) ?hQ41 (Or.inl ⟨?hw41, ?hy41⟩) (by assumption) ?rest41
                      case hi41 => (simp only [List.getElem?_toArray, List.getElem?_cons_succ, List.getElem?_cons_zero]; rfl)
                      case hQ41 => exact fun _ _ _ h => h
                      case hw41 => rfl
                      case hy41 => (intro wq hSw; (try dsimp only at hSw); go_simp; all_goals with_reducible rfl)
                      try simp only [Act.put, List.setIfInBounds_toArray, List.set_cons_zero, List.set_cons_succ]
                      refine wpAnyH_ready (rs := [26]) (by kernel_rfl) (by simp) ?_
                      refine AllReadyH.cons (o := ?o42) ?ho42 (fun K hK => ?step42) ?more42
                      case ho42 => (simp only [List.getElem?_toArray, List.getElem?_cons_succ, List.getElem?_cons_zero]; rfl)
                      case step42 =>
                        go_simp
                        refine hK.out _ _ ?hS42 (fun hHeld => ?go42)
                        case hS42 => ((try dsimp only); (first | exact ims HR.out HB4.out.drew | assumption | exact ims HR.out hb2 | exact ims HR.out (below_alloc2 hb2 _) | exact ims HR.out (below_grown2 (below_alloc2 hb2 _) hgrow) | exact ims HR.out ((below_grown2 (below_alloc2 hb2 _) hgrow).setCell (by simp) _)))
                        case go42 =>
                          clear hK K
                          try simp only [Act.put, List.setIfInBounds_toArray, List.set_cons_zero, List.set_cons_succ]
                          refine wpAnyH_done (by kernel_rfl) ?_ _
                          have hX6 : (w2.setCell ⟨w.heap.size + 1, 3, none⟩ (.slice (some ⟨g, 0, none⟩) 1 cap)).heap[w.heap.size + 1]? = some (.cells #[.int .i64 nodes, .int .i64 bytes, .int .i64 2, .slice (some ⟨g, 0, none⟩) 1 cap] 37 (0, 0)) := (heap_setCell_at hX2 3 (.slice (some ⟨g, 0, none⟩) 1 cap)).trans rfl
                          have hY6 : (w2.setCell ⟨w.heap.size + 1, 3, none⟩ (.slice (some ⟨g, 0, none⟩) 1 cap)).heap[w.heap.size]? = _ := (Below.heap_setCell _ _ _ _ (by simp)).trans hY2
                          have hB6 := hB2.setCell (p := ⟨w.heap.size + 1, 3, none⟩) (by simp) (.slice (some ⟨g, 0, none⟩) 1 cap)
                          have hO6 := ownsRow_setCell_below hown2 (a := ⟨w.heap.size + 1, 3, none⟩) (by simp) (.slice (some ⟨g, 0, none⟩) 1 cap)
                          clear b33 b23 f23 hX2 hY2 hB2 hown2 hgrow hat hlt hX5 hY5 b53 b5a hb2 hk5 hi hz0 hz1 hz2 HX4 HY4 HS4 HB4 HF4 HR c4' hl hrb
                          generalize w2.setCell ⟨w.heap.size + 1, 3, none⟩ (.slice (some ⟨g, 0, none⟩) 1 cap) = w6 at hX6 hY6 hB6 hO6 ⊢
                          have x0 := cell_of hX6 0
                          have x1 := cell_of hX6 1
                          have x2 := cell_of hX6 2
                          have x3 := cell_of hX6 3
                          have y0 := cell_of hY6 0
                          have y1 := cell_of hY6 1
                          have y2 := cell_of hY6 2
                          have y3 := cell_of hY6 3
                          have fy := frozen_of hY6
                          simp only [List.getElem?_toArray, List.getElem?_cons_zero, List.getElem?_cons_succ] at x0 x1 x2 x3 y0 y1 y2 y3
                          have HX6 := Lib.hid hX6
                          have HY6 := Lib.hid hY6
                          have HB6 := Lib.hid hB6
                          have HO6 := Lib.hid hO6
                          clear hX6 hY6 hB6 hO6
                          go_wp2_with fail
                          rw [rounds_succ]
                          go_wp2
                          refine bodyPost_ret (v := .agg #[.int .i64 nodes, .int .i64 bytes, .int .i64 2, .slice (some ⟨g, 0, none⟩) 1 cap]) ?_ rfl ⟨g, cap, rfl, ?_, ?_⟩
                          · simp [results, Tryz.results9, go_sem, x0, x1, x2, x3, y0, y1, y2, y3]
                          · exact (own_set4 HO6.out (by omega) _ _ _ _).mono (by omega)
                          · exact below_set4 HB6.out (Nat.le_refl _) _ _ _ _
                      exact AllReadyH.nil
                  exact AllReadyH.nil
              exact AllReadyH.nil
          refine AllReadyH.cons (o := ?o43) ?ho43 (fun K hK => ?step43) ?more43
          case ho43 => (simp only [List.getElem?_toArray, List.getElem?_cons_succ, List.getElem?_cons_zero]; rfl)
          case step43 =>
            go_simp
            refine hK.out _ _ ?hS43 (fun hHeld => ?go43)
            case hS43 => ((try dsimp only); (first | exact ims HR.out HB4.out.drew | assumption | exact ims HR.out hb2 | exact ims HR.out (below_alloc2 hb2 _) | exact ims HR.out (below_grown2 (below_alloc2 hb2 _) hgrow) | exact ims HR.out ((below_grown2 (below_alloc2 hb2 _) hgrow).setCell (by simp) _)))
            case go43 =>
              clear hK K
              try simp only [Act.put, List.setIfInBounds_toArray, List.set_cons_zero, List.set_cons_succ]
              refine wpAnyH_ready (rs := [1]) (by kernel_rfl) (by simp) ?_
              refine AllReadyH.cons (o := ?o44) ?ho44 (fun K hK => ?step44) ?more44
              case ho44 => (simp only [List.getElem?_toArray, List.getElem?_cons_succ, List.getElem?_cons_zero]; rfl)
              case step44 =>
                go_simp
                refine hK.out _ _ ?hS44 (fun hHeld => ?go44)
                case hS44 => ((try dsimp only); (first | exact ims HR.out HB4.out.drew | assumption | exact ims HR.out hb2 | exact ims HR.out (below_alloc2 hb2 _) | exact ims HR.out (below_grown2 (below_alloc2 hb2 _) hgrow) | exact ims HR.out ((below_grown2 (below_alloc2 hb2 _) hgrow).setCell (by simp) _)))
                case go44 =>
                  clear hK K
                  try simp only [Act.put, List.setIfInBounds_toArray, List.set_cons_zero, List.set_cons_succ]
                  refine wpAnyH_ready (rs := [24]) (by kernel_rfl) (by simp) ?_
                  refine AllReadyH.cons (o := ?o45) ?ho45 (fun K hK => ?step45) ?more45
                  case ho45 => (simp only [List.getElem?_toArray, List.getElem?_cons_succ, List.getElem?_cons_zero]; rfl)
                  case step45 =>
                    (refine step_append_lies _ (by rfl) _ _ _ (by rfl) (w.heap.size + 2) 79 i0 _ 10 112 Tryz.underlying35 hi hz0 hz1 hz2 rfl (by omega) (.slice none 0 0) 0 [] (by rfl) ⟨rfl, .inl ⟨rfl, rfl⟩⟩ ⟨w5.heap.size, 0, none⟩ 1 1 (nodeCells 1).toList (by rfl) (by rfl) (World.news_of_block (cs := nodeCells 1) (t := 79) (fr := (0, 0)) (heap_alloc_new w5 _)) (by simp [nodeCells, Value.oneCell']) (by omega) (by unfold maxLen; omega) (by omega) (by have := hk5.size; have := HS4.out; have h9 : w4.drew.heap.size = w4.heap.size := rfl; simp; omega) (w5.heap.size + 1) (by simp) ?_; intro g cap w2 hown2 hgrow hat hlt; have hX2 : w2.heap[w.heap.size + 1]? = _ := (hgrow.block _ (by have := (Array.getElem?_eq_some_iff.1 hX5).1; simp; omega) (by simp [Value.ownBlock])).trans ((Below.heap_alloc w5 _ _ (Array.getElem?_eq_some_iff.1 hX5).1).trans hX5); have hY2 : w2.heap[w.heap.size]? = _ := (hgrow.block _ (by have := (Array.getElem?_eq_some_iff.1 hY5).1; simp; omega) (by simp [Value.ownBlock])).trans ((Below.heap_alloc w5 _ _ (Array.getElem?_eq_some_iff.1 hY5).1).trans hY5); have hB2 := below_grown2 (below_alloc2 hb2 _) hgrow; have b23 : w2.cell? ⟨w.heap.size + 1, 3, none⟩ = some (.slice none 0 0) := cell_of hX2 3; have f23 : w2.frozen? ⟨w.heap.size + 1, 3, none⟩ = false := frozen_of hX2 3)
                    refine hK.out _ _ ?hS45 (fun hHeld => ?go45)
                    case hS45 => ((try dsimp only); (first | exact ims HR.out HB4.out.drew | assumption | exact ims HR.out hb2 | exact ims HR.out (below_alloc2 hb2 _) | exact ims HR.out (below_grown2 (below_alloc2 hb2 _) hgrow) | exact ims HR.out ((below_grown2 (below_alloc2 hb2 _) hgrow).setCell (by simp) _)))
                    case go45 =>
                      clear hK K
                      try simp only [Act.put, List.setIfInBounds_toArray, List.set_cons_zero, List.set_cons_succ]
                      refine wpAnyH_take (i := 25) (oi := ?oi46) (v := ?v46) ?hi46 (by kernel_rfl) (by kernel_rfl) (by kernel_rfl) ?hQ46 (Or.inl ⟨?hw46, ?hy46⟩) (by assumption) ?rest46
                      case hi46 => (simp only [List.getElem?_toArray, List.getElem?_cons_succ, List.getElem?_cons_zero]; rfl)
                      case hQ46 => exact fun _ _ _ h => h
                      case hw46 => rfl
                      case hy46 => (intro wq hSw; (try dsimp only at hSw); go_simp; all_goals with_reducible rfl)
                      try simp only [Act.put, List.setIfInBounds_toArray, List.set_cons_zero, List.set_cons_succ]
                      refine wpAnyH_ready (rs := [26]) (by kernel_rfl) (by simp) ?_
                      refine AllReadyH.cons (o := ?o47) ?ho47 (fun K hK => ?step47) ?more47
                      case ho47 => (simp only [List.getElem?_toArray, List.getElem?_cons_succ, List.getElem?_cons_zero]; rfl)
                      case step47 =>
                        go_simp
                        refine hK.out _ _ ?hS47 (fun hHeld => ?go47)
                        case hS47 => ((try dsimp only); (first | exact ims HR.out HB4.out.drew | assumption | exact ims HR.out hb2 | exact ims HR.out (below_alloc2 hb2 _) | exact ims HR.out (below_grown2 (below_alloc2 hb2 _) hgrow) | exact ims HR.out ((below_grown2 (below_alloc2 hb2 _) hgrow).setCell (by simp) _)))
                        case go47 =>
                          clear hK K
                          try simp only [Act.put, List.setIfInBounds_toArray, List.set_cons_zero, List.set_cons_succ]
                          refine wpAnyH_done (by kernel_rfl) ?_ _
                          have hX6 : (w2.setCell ⟨w.heap.size + 1, 3, none⟩ (.slice (some ⟨g, 0, none⟩) 1 cap)).heap[w.heap.size + 1]? = some (.cells #[.int .i64 nodes, .int .i64 bytes, .int .i64 2, .slice (some ⟨g, 0, none⟩) 1 cap] 37 (0, 0)) := (heap_setCell_at hX2 3 (.slice (some ⟨g, 0, none⟩) 1 cap)).trans rfl
                          have hY6 : (w2.setCell ⟨w.heap.size + 1, 3, none⟩ (.slice (some ⟨g, 0, none⟩) 1 cap)).heap[w.heap.size]? = _ := (Below.heap_setCell _ _ _ _ (by simp)).trans hY2
                          have hB6 := hB2.setCell (p := ⟨w.heap.size + 1, 3, none⟩) (by simp) (.slice (some ⟨g, 0, none⟩) 1 cap)
                          have hO6 := ownsRow_setCell_below hown2 (a := ⟨w.heap.size + 1, 3, none⟩) (by simp) (.slice (some ⟨g, 0, none⟩) 1 cap)
                          clear b33 b23 f23 hX2 hY2 hB2 hown2 hgrow hat hlt hX5 hY5 b53 b5a hb2 hk5 hi hz0 hz1 hz2 HX4 HY4 HS4 HB4 HF4 HR c4' hl hrb
                          generalize w2.setCell ⟨w.heap.size + 1, 3, none⟩ (.slice (some ⟨g, 0, none⟩) 1 cap) = w6 at hX6 hY6 hB6 hO6 ⊢
                          have x0 := cell_of hX6 0
                          have x1 := cell_of hX6 1
                          have x2 := cell_of hX6 2
                          have x3 := cell_of hX6 3
                          have y0 := cell_of hY6 0
                          have y1 := cell_of hY6 1
                          have y2 := cell_of hY6 2
                          have y3 := cell_of hY6 3
                          have fy := frozen_of hY6
                          simp only [List.getElem?_toArray, List.getElem?_cons_zero, List.getElem?_cons_succ] at x0 x1 x2 x3 y0 y1 y2 y3
                          have HX6 := Lib.hid hX6
                          have HY6 := Lib.hid hY6
                          have HB6 := Lib.hid hB6
                          have HO6 := Lib.hid hO6
                          clear hX6 hY6 hB6 hO6
                          go_wp2_with fail
                          rw [rounds_succ]
                          go_wp2
                          refine bodyPost_ret (v := .agg #[.int .i64 nodes, .int .i64 bytes, .int .i64 2, .slice (some ⟨g, 0, none⟩) 1 cap]) ?_ rfl ⟨g, cap, rfl, ?_, ?_⟩
                          · simp [results, Tryz.results9, go_sem, x0, x1, x2, x3, y0, y1, y2, y3]
                          · exact (own_set4 HO6.out (by omega) _ _ _ _).mono (by omega)
                          · exact below_set4 HB6.out (Nat.le_refl _) _ _ _ _
                      exact AllReadyH.nil
                  exact AllReadyH.nil
              exact AllReadyH.nil
          exact AllReadyH.nil
      exact AllReadyH.nil
  exact AllReadyH.nil
end
end Go.Proofs.YtphbbcjmnlamaaaGreatV
