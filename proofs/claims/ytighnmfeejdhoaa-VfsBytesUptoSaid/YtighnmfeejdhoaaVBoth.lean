/- vfs: a file system and a row of bytes beside it. -/
import Derived.Test.YtighnmfeejdhoaaVLives
namespace Go.Proofs.YtighnmfeejdhoaaV
open Go.RowKit
set_option linter.unusedVariables false
set_option linter.unusedSimpArgs false
section
variable {W w : World} {B f : Nat} {own : Nat → Option Int} {Ph : Phys} {S : FSt} {v : Value} {l : List Int}
structure Both (W w : World) (B f : Nat) (own : Nat → Option Int) (Ph : Phys) (S : FSt) (v : Value) (l : List Int) : Prop where
  hB : B = W.heap.size
  rep : FSRep w B f own Ph S
  row : w.ownsRow B 5 1 v l.length (byteCells l)
  out : ∀ g, v.ownBlock = some g → own g = none
  below : Below B W w
theorem Both.size (h : Both W w B f own Ph S v l) : B ≤ w.heap.size := by rw [h.hB]; exact h.below.size
theorem Both.upd (h : Both W w B f own Ph S v l) {w' : World} {own' : Nat → Option Int} {Ph' : Phys} {S' : FSt} (hr : FSRep w' B f own' Ph' S') (hf : Frame w w' own own') : Both W w' B f own' Ph' S' v l := by
  refine ⟨h.hB, hr, own_move h.row fun k hk => (hf.block k (h.row.lt k hk).2 (h.out k hk)).1, fun g hg => (hf.block g (h.row.lt g hg).2 (h.out g hg)).2, ⟨hf.os.trans h.below.os, hf.tape.trans h.below.tape, hf.output.trans h.below.output, Nat.le_trans h.below.size hf.size, fun k hk => ?_⟩⟩
  have hn : own k = none := by
    cases ho : own k with
    | none => rfl
    | some m => have := (h.rep.below k m ho).1; omega
  exact (hf.block k (Nat.lt_of_lt_of_le hk h.size) hn).1.trans (h.below.block k hk)
theorem Both.grow (h : Both W w B f own Ph S v l) {w' : World} {v' : Value} {l' : List Int} (hg : w.grownBy w' v.ownBlock) (hr : w'.ownsRow B 5 1 v' l'.length (byteCells l')) (hat : ∀ g, v'.ownBlock = some g → v.ownBlock = some g ∨ w.heap.size ≤ g) : Both W w' B f own Ph S v' l' := by
  refine ⟨h.hB, h.rep.move hg.size fun b n ho => hg.block b (h.rep.lt ho) fun e => ?_, hr, fun g hg' => ?_, ⟨hg.os.trans h.below.os, hg.tape.trans h.below.tape, hg.output.trans h.below.output, Nat.le_trans h.below.size hg.size, fun k hk => (hg.block k (Nat.lt_of_lt_of_le hk h.size) fun e => ?_).trans (h.below.block k hk)⟩⟩
  · have := h.out b e.symm
    rw [ho] at this
    cases this
  · rcases hat g hg' with e | e
    · exact h.out g e
    · exact h.rep.none_ge e
  · have := owns_ge h.row e.symm
    omega
theorem Both.step (h : Both W w B f own Ph S v l) {w' : World} (hb : Below w.heap.size w w') : Both W w' B f own Ph S v l :=
  h.grow (Below.grownBy' hb _) (owns_below h.row hb) fun g hg => .inl hg
theorem Both.first (hB : B = W.heap.size) (hr : FSRep w B f own Ph S) (hb : Below B W w) {w' : World} (hw : Below w.heap.size w w') (ho : w'.ownsRow w.heap.size 5 1 v l.length (byteCells l)) : Both W w' B f own Ph S v l := by
  have hs : B ≤ w.heap.size := by rw [hB]; exact hb.size
  exact ⟨hB, hr.of_below hw, owns_base ho hs, fun g hg => hr.none_ge (owns_ge ho hg), hb.trans (hw.mono hs)⟩
/-- 'append(v, z)'. -/
theorem Both.push (h : Both W w B f own Ph S v l) (z : Int) (hl : l.length ≤ 100000000) : ∃ v' w', (Builtin.append_ #[22, 22] 22 #[v, .slice (some ⟨w.heap.size, 0, none⟩) 1 1]).run Try.prog (w.alloc (.cells #[.int .u8 z] 5)) = .ok v' w' ∧ Both W w' B f own Ph S v' (l ++ [z]) := by
  obtain ⟨i0, hi, hz0, hz1, hz2⟩ := info_parts infoByte
  have hb := alloc_below w (.cells #[.int .u8 z] 5)
  have h1 := h.step hb
  obtain ⟨v', w', hrun, hown, hgrow, _, hat⟩ := run_append_own_at (P := Try.prog) (w.alloc (.cells #[.int .u8 z] 5)) B 22 22 5 i0 (.int .u8 0) 1 1 Try.underlying22 hi hz0 hz1 hz2 rfl (by decide) v l.length (byteCells l) h1.row ⟨w.heap.size, 0, none⟩ 1 1 (byteCells [z]) rfl
    (World.news_of_block (cs := #[.int .u8 z]) (MapKept.heap_alloc w _).1) (byteCells_one _) (by unfold maxLen; omega) (by omega) h1.size
  refine ⟨v', w', hrun, h1.grow hgrow ?_ fun g hg => ?_⟩
  · rw [List.length_append, byteCells_app]
    exact hown
  · rcases hat with e | e
    · exact .inl (e ▸ hg)
    · rw [e] at hg
      exact .inr (Nat.le_of_eq (Option.some.inj hg))
/-- 'v[j] = z'. -/
theorem Both.put (h : Both W w B f own Ph S v l) {g cap : Nat} (hv : v = .slice (some ⟨g, 0, none⟩) l.length cap) (j : Nat) (z : Int) (hj : j < l.length) : Both W (w.setCell ⟨g, j, none⟩ (.int .u8 z)) B f own Ph S v (l.set j z) := by
  have hT := Turned.setCell w g j (.int .u8 z)
  have hvb : v.ownBlock = some g := by rw [hv]; rfl
  refine h.grow ⟨hT.os, hT.tape, hT.output, Nat.le_of_eq hT.size.symm, fun k _ hk => hT.block k fun e => hk (by rw [hvb, e])⟩ ?_ fun g' hg => .inl hg
  rcases h.row with ⟨h1, h2⟩
  rw [hv] at h2 ⊢
  rcases h2 with ⟨h2, _⟩ | ⟨g', cap', cur, h2, h3, h4, h5, h6, h7, h8⟩
  · cases h2
  · simp only [Value.slice.injEq, Option.some.injEq, Addr.mk.injEq] at h2
    obtain ⟨⟨rfl, _, _⟩, _, rfl⟩ := h2
    refine ⟨by simp [byteCells], .inr ⟨g, cap, cur.setIfInBounds j (.int .u8 z), by rw [List.length_set], h3, heap_setCell_at h4 j _, by rw [List.length_set]; exact h5, h6, by simpa using h7, ?_⟩⟩
    rw [List.length_set, Array.toList_setIfInBounds]
    rw [List.take_set, h8]
    unfold byteCells
    rw [List.map_set]
/-- Bytes that came in. -/
def Came (w : World) (p : Option Addr) (l : List Int) : Prop := 0 < l.length → ∃ ad, p = some ad ∧ ad.block < w.heap.size ∧ ∀ j z, l[j]? = some z → w.cell? (ad.add j) = some (.int .u8 z)
theorem Came.below {p : Option Addr} (h : Came w p l) {w' : World} (hb : Below w.heap.size w w') : Came w' p l := fun hl => by
  obtain ⟨ad, h1, h2, h3⟩ := h hl
  exact ⟨ad, h1, Nat.lt_of_lt_of_le h2 hb.size, fun j z hj => (World.cell?_of_block (w := w) (by rw [add_block]; exact hb.block _ h2)).trans (h3 j z hj)⟩
/-- 'append([]byte{}, data...)'. -/
theorem lay_copy (w : World) {p : Option Addr} (h : Came w p l) (c : Nat) (hl : l.length ≤ 100000000) : ∃ v' w', (Builtin.append_ #[22, 22] 22 #[.slice (some ⟨w.heap.size, 0, none⟩) 0 0, .slice p l.length c]).run Try.prog (w.alloc (.cells #[] 5)) = .ok v' w'
    ∧ w'.ownsRow w.heap.size 5 1 v' l.length (byteCells l) ∧ Below w.heap.size w w' := by
  obtain ⟨i0, hi, hz0, hz1, hz2⟩ := info_parts infoByte
  have hb := alloc_below w (.cells #[] 5)
  have h0 : (w.alloc (.cells #[] 5)).ownsRow w.heap.size 5 1 (.slice (some ⟨w.heap.size, 0, none⟩) 0 0) 0 [] := ⟨rfl, .inr ⟨w.heap.size, 0, #[], rfl, Nat.le_refl _, (MapKept.heap_alloc w _).1, Nat.le_refl _, Nat.zero_le _, rfl, rfl⟩⟩
  by_cases hz : l.length = 0
  · obtain rfl := List.eq_nil_of_length_eq_zero hz
    refine ⟨.slice (some ⟨w.heap.size, 0, none⟩) 0 0, w.alloc (.cells #[] 5), ?_, h0, hb⟩
    cases p <;> simp [Builtin.append_, run_underlying Try.underlying22, sizeOf, typeInfo, hi, Builtin.lenOf, Builtin.firstCells, loadCells, loadCellsFrom, storeCells]
  · obtain ⟨ad, rfl, h2, h3⟩ := h (by omega)
    have h3' : ∀ j u, (byteCells l)[j]? = some u → (w.alloc (.cells #[] 5)).cell? (ad.add j) = some u := fun j u hu => by
      unfold byteCells at hu
      rw [List.getElem?_map] at hu
      cases hz : l[j]? with
      | none => rw [hz] at hu; cases hu
      | some z =>
        rw [hz] at hu
        cases hu
        exact (World.cell?_of_block (w := w) (by rw [add_block]; exact hb.block _ h2)).trans (h3 j z hz)
    obtain ⟨v', w', hrun, hown, hgrow, _, hat⟩ := run_append_own_at (P := Try.prog) (w.alloc (.cells #[] 5)) w.heap.size 22 22 5 i0 (.int .u8 0) 1 1 Try.underlying22 hi hz0 hz1 hz2 rfl (by decide) _ 0 [] h0 ad l.length c (byteCells l) (by rw [byteCells_len]; simp)
      h3' (byteCells_one _) (by unfold maxLen; omega) (by omega) hb.size
    rw [Nat.zero_add, List.nil_append] at hown
    exact ⟨v', w', hrun, hown, hb.grown hgrow hb.size (fun k hk => by simp [Value.ownBlock] at hk; omega)⟩
theorem Both.src (h : Both W w B f own Ph S v l) {p : Option Addr} {n c : Nat} (hv : v = .slice p n c) : Src w own p l := fun hl => by
  rcases h.row.2 with ⟨_, h1⟩ | ⟨g, cap, cur, h1, _⟩
  · omega
  · rw [hv] at h1
    simp only [Value.slice.injEq] at h1
    obtain ⟨rfl, _, _⟩ := h1
    refine ⟨_, rfl, (h.row.lt g (by rw [hv]; rfl)).2, h.out g (by rw [hv]; rfl), fun j z hj => ?_⟩
    have hr := h.row
    rw [hv] at hr
    have := hr.cells (g := g) rfl j (.int .u8 z) (by unfold byteCells; rw [List.getElem?_map, hj]; rfl)
    exact this
end
end Go.Proofs.YtighnmfeejdhoaaV
