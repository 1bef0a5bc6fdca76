/- vfs: Write. -/
import Derived.Test.YtphbbcjmnlamaaaGreatVResize
import Derived.Laws.CopyOwn
namespace Go.Proofs.YtphbbcjmnlamaaaGreatV
open Go.RowKit
set_option linter.unusedVariables false
set_option linter.unusedSimpArgs false
section
variable {w : World} {B f : Nat} {own : Nat → Option Int} {Ph : Phys} {S : FSt}
/-- Bytes that lie outside the file system. -/
def Src (w : World) (own : Nat → Option Int) (p : Option Addr) (l : List Int) : Prop := 0 < l.length → ∃ ad, p = some ad ∧ ad.block < w.heap.size ∧ own ad.block = none ∧ ∀ j z, l[j]? = some z → w.cell? (ad.add j) = some (.int .u8 z)
theorem add_block (ad : Addr) (j : Nat) : (ad.add j).block = ad.block := by unfold Addr.add; split <;> rfl
theorem Src.move {w w' : World} {own own' : Nat → Option Int} {p : Option Addr} {l : List Int} (h : Src w own p l) (hf : Frame w w' own own') : Src w' own' p l := fun hl => by
  obtain ⟨ad, h1, h2, h3, h4⟩ := h hl
  obtain ⟨e1, e2⟩ := hf.block _ h2 h3
  exact ⟨ad, h1, Nat.lt_of_lt_of_le h2 hf.size, e2, fun j z hj => (World.cell?_of_block (w := w) (by rw [add_block]; exact e1)).trans (h4 j z hj)⟩
/-- A file's bytes in the row they have. -/
theorem FSRep.row_set (h : FSRep w B f own Ph S) {n : Int} {i : Ino} (hi : aget n S.inodes = some i) {g cap : Nat} {cur cs : List Value} (hv : Ph.dv n = .slice (some ⟨g, 0, none⟩) i.data.length cap) (hg : w.heap[g]? = some (.cells cur.toArray 5 (0, 0))) (hl : cs.length = cur.length) (d : List Int)
    (hd : d.length = i.data.length) (ht : cs.take i.data.length = byteCells d) : FSRep (w.setRow g cs.toArray) B f own (Ph.at n (Ph.dv n) (Ph.ev n)) (setIno S n { i with data := d }) ∧ Frame w (w.setRow g cs.toArray) own own := by
  have hI := h.inos n i hi
  have hog : own g = some n := hI.data.ok g (by rw [hv]; rfl)
  have hT : ∀ b, b ≠ g → (w.setRow g cs.toArray).heap[b]? = w.heap[b]? := fun b hb => setRow_other w g b _ hb
  have hsz : (w.setRow g cs.toArray).heap.size = w.heap.size := by simp [World.setRow]
  have hgi : Ph.ib n ≠ g := fun e => by
    rw [← e, hI.cells] at hg
    simp at hg
  have hrow := hI.data.own
  rw [hv] at hrow
  refine ⟨h.ino_set hi (Nat.le_of_eq hsz.symm) (fun b m ho hm => ⟨hT b (fun e => by rw [e, hog] at ho; exact hm (Option.some.inj ho).symm), ho⟩) (fun b m ho => ⟨(h.below b m ho).1, by rw [hsz]; exact (h.below b m ho).2⟩) ⟨(hT _ hgi).trans hI.cells, hI.ok, ⟨?_, hI.data.ok⟩, ?_⟩, ⟨rfl, rfl, rfl, Nat.le_of_eq hsz.symm, fun b _ ho => ⟨hT b (fun e => by rw [e, hog] at ho; cases ho), ho⟩⟩⟩
  · show World.ownsRow _ B _ 1 (Ph.dv n) d.length (byteCells d)
    rw [hv]
    rcases hrow.2 with ⟨h1, _⟩ | ⟨g', cap', cur', h1, h2, h3, h4, h5, h6, h7⟩
    · cases h1
    · simp only [Value.slice.injEq, Option.some.injEq, Addr.mk.injEq] at h1
      obtain ⟨⟨rfl, _, _⟩, _, rfl⟩ := h1
      rw [hg] at h3
      simp only [Option.some.injEq, Obj.cells.injEq] at h3
      obtain ⟨rfl, _, _⟩ := h3
      refine ⟨by rw [byteCells_len]; simp, .inr ⟨g, cap, cs.toArray, by rw [hd], h2, setRow_heap w g _ _ _ _ hg, by rw [hd]; exact h4, h5, ?_, ?_⟩⟩
      · simp only [List.size_toArray] at h6 ⊢
        rw [hl, h6]
      · rw [hd]
        simpa using ht
  · rcases hI.ents with ⟨h1, eb, h2, h3, h4⟩ | h1
    · refine .inl ⟨h1, eb, h2, h3, h4.of_block (hT eb fun e => ?_)⟩
      obtain ⟨es, clock, hm, _⟩ := h4
      rw [e, hg] at hm
      cases hm
    · exact .inr h1
theorem splice_take {cur cs : List Value} {a n : Nat} (h : a + cs.length ≤ n) (hc : a ≤ cur.length) : (cur.take a ++ (cs ++ cur.drop (a + cs.length))).take n = (cur.take n).take a ++ (cs ++ (cur.take n).drop (a + cs.length)) := by
  rw [List.take_take, List.drop_take]
  have h1 : min a n = a := by omega
  have h2 : (cur.take a).length = a := by rw [List.length_take]; omega
  rw [h1, List.take_append, h2, List.take_append, List.take_of_length_le (by omega : (cur.take a).length ≤ n), List.take_of_length_le (by omega : cs.length ≤ n - a)]
  congr 3
  omega
theorem byteCells_splice (d b : List Int) (a : Nat) : (byteCells d).take a ++ (byteCells b ++ (byteCells d).drop (a + (byteCells b).length)) = byteCells (overlay d a b) := by
  unfold overlay byteCells
  simp [List.map_append, List.map_take, List.map_drop]
theorem overlay_len {d b : List Int} {a : Nat} (h : a + b.length ≤ d.length) : (overlay d a b).length = d.length := by unfold overlay; simp; omega
theorem resized_len (d : List Int) (k : Nat) : (resized d k).length = k := by unfold resized; simp; omega
theorem writeS_none {node at_ : Int} {b : List Int} (hi : aget node S.inodes = none) : writeS S node at_ b = (100, S) := by unfold writeS; rw [hi]
theorem writeS_arg {node at_ : Int} {b : List Int} {i : Ino} (hi : aget node S.inodes = some i) (h : at_ < 0 ∨ at_ > 4194304 ∨ (b.length : Int) > 4194304 - at_) : writeS S node at_ b = (1, S) := by unfold writeS; rw [hi]; simp only [if_pos h]
theorem writeS_kind {node at_ : Int} {b : List Int} {i : Ino} (hi : aget node S.inodes = some i) (h : ¬ (at_ < 0 ∨ at_ > 4194304 ∨ (b.length : Int) > 4194304 - at_)) (hk : i.kind ≠ 2) : writeS S node at_ b = (106, S) := by unfold writeS; rw [hi]; simp only [if_neg h, if_pos hk]
theorem writeS_ok {node at_ : Int} {b : List Int} {i : Ino} (hi : aget node S.inodes = some i) (h : ¬ (at_ < 0 ∨ at_ > 4194304 ∨ (b.length : Int) > 4194304 - at_)) (hk : i.kind = 2) :
    writeS S node at_ b = if 0 < b.length ∧ at_ + b.length > i.data.length then
        (if (sizedS S node i (at_ + b.length)).1 = 0 then (0, doneS (dataSet (sizedS S node i (at_ + b.length)).2 node fun d => overlay d at_.toNat b) ⟨5, 0, noName, node, 0, noName, at_, b.length⟩)
         else ((sizedS S node i (at_ + b.length)).1, S))
      else (0, doneS (if 0 < b.length then dataSet S node fun d => overlay d at_.toNat b else S) ⟨5, 0, noName, node, 0, noName, at_, b.length⟩) := by unfold writeS; rw [hi]; simp only [if_neg h, if_neg (not_not_intro hk)]
theorem copy_facts (h : FSRep w B f own Ph S) {n : Int} {i : Ino} (hi : aget n S.inodes = some i) (hp : 0 < i.data.length) : ∃ (g cap : Nat) (cur : List Value), Ph.dv n = .slice (some ⟨g, 0, none⟩) i.data.length cap ∧ w.heap[g]? = some (.cells cur.toArray 5 (0, 0)) ∧ i.data.length ≤ cap ∧ cur.length = cap ∧ cur.take i.data.length = byteCells i.data := by
  rcases (h.inos n i hi).data.own.2 with ⟨_, h1⟩ | ⟨g', cap', cur', h1, h2, h3, h4, h5, h6, h7⟩
  · omega
  · exact ⟨g', cap', cur'.toList, h1, h3, h4, by simpa using h6, by simpa using h7⟩
theorem byteSize : (Tryz.prog.info? 5).map (·.size) = some 1 := by kernel_rfl
theorem copy_step (h : FSRep w B f own Ph S) {n : Int} {i : Ino} (hi : aget n S.inodes = some i) {p : Option Addr} {b : List Int} (hs : Src w own p b) (hp : 0 < b.length) {k : Nat} (hin : k + b.length ≤ i.data.length) (c : Nat) :
    ∃ (g cap : Nat) (w' : World), Ph.dv n = .slice (some ⟨g, 0, none⟩) i.data.length cap ∧ i.data.length ≤ cap ∧ (Builtin.copy_ #[34, 34] 3 #[.slice (some ⟨g, k, none⟩) (i.data.length - k) (cap - k), .slice p b.length c]).run Tryz.prog w = .ok (.int .i64 b.length) w'
      ∧ FSRep w' B f own (Ph.at n (Ph.dv n) (Ph.ev n)) (setIno S n { i with data := overlay i.data k b }) ∧ Frame w w' own own := by
  obtain ⟨g, cap, cur, e1, e2, e3, e4, e5⟩ := copy_facts h hi (by omega)
  obtain ⟨ad, rfl, s1, s2, s3⟩ := hs hp
  have S3 : ∀ j v, (byteCells b)[j]? = some v → w.cell? (ad.add j) = some v := fun j v hj => by
    unfold byteCells at hj
    rw [List.getElem?_map] at hj
    cases hz : b[j]? with
    | none => rw [hz] at hj; cases hj
    | some z =>
      rw [hz] at hj
      cases hj
      exact s3 j z hz
  have hbl := byteCells_len b
  have hcp := run_copy_row (P := Tryz.prog) w 34 34 3 5 g k (i.data.length - k) (cap - k) ad b.length c cur.toArray 5 (byteCells b) Tryz.underlying34 byteSize e2 (by rw [hbl]; show _ = min _ _; omega) S3 (by simp only [List.size_toArray]; rw [hbl]; omega) (byteCells_one _)
  rw [hbl, List.append_assoc] at hcp
  have hr := h.row_set hi (cs := cur.take k ++ (byteCells b ++ cur.drop (k + b.length))) e1 e2 (by simp [hbl]; omega) (overlay i.data k b) (overlay_len hin) (by
    rw [← hbl, splice_take (by rw [hbl]; exact hin) (by omega), e5, byteCells_splice])
  exact ⟨g, cap, _, e1, e3, hcp, hr.1, hr.2⟩
theorem dataSet_some {n : Int} {i : Ino} (hi : aget n S.inodes = some i) (g : List Int → List Int) : dataSet S n g = setIno S n { i with data := g i.data } := by unfold dataSet; rw [hi]
theorem aget_setIno (S : FSt) (n : Int) (i : Ino) : aget n (setIno S n i).inodes = some i := by
  show aget n (aset n i S.inodes) = _
  rw [aget_aset, if_pos rfl]
theorem aget_setIno_ne (S : FSt) {n m : Int} (i : Ino) (h : n ≠ m) : aget m (setIno S n i).inodes = aget m S.inodes := by
  show aget m (aset n i S.inodes) = _
  rw [aget_aset, if_neg h]
end
end Go.Proofs.YtphbbcjmnlamaaaGreatV
