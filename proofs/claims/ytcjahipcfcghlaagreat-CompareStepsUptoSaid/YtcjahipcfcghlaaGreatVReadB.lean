/- vfs, pack, compare: contracts of the functions (texts VWrite, VReadB, MERGED). -/
import Derived.Test.YtcjahipcfcghlaaGreatVResize
import Derived.Laws.CopyOwn
import Derived.StillTailTactics
/- vfs: Write. -/
namespace Go.Proofs.YtcjahipcfcghlaaGreatV
open Go.RowKit
set_option linter.unusedVariables false
set_option linter.unusedSimpArgs false
section
variable {w : World} {B f : Nat} {own : Nat → Option Int} {Ph : Phys} {S : FSt}
/-- Bytes that lie outside the file system. -/
def Src (w : World) (own : Nat → Option Int) (p : Option Addr) (l : List Int) : Prop := 0 < l.length → ∃ ad, p = some ad ∧ ad.block < w.heap.size ∧ own ad.block = none ∧ ∀ j z, l[j]? = some z → w.cell? (ad.add j) = some (.int .u8 z)
theorem add_block (ad : Addr) (j : Nat) : (ad.add j).block = ad.block := by unfold Addr.add; split <;> rfl
theorem Src.move {w w' : World} {own own' : Nat → Option Int} {p : Option Addr} {l : List Int} (h : Src w own p l) (hf : Frame w w' own own') : Src w' own' p l := fun hl => by
  obtain ⟨ad, h1, h2, h3, h4⟩ := h hl
  obtain ⟨e1, e2⟩ := hf.block _ h2 h3
  exact ⟨ad, h1, Nat.lt_of_lt_of_le h2 hf.size, e2, fun j z hj => (World.cell?_of_block (w := w) (by rw [add_block]; exact e1)).trans (h4 j z hj)⟩
/-- A file's bytes in the row they have. -/
theorem FSRep.row_set (h : FSRep w B f own Ph S) {n : Int} {i : Ino} (hi : aget n S.inodes = some i) {g cap : Nat} {cur cs : List Value} (hv : Ph.dv n = .slice (some ⟨g, 0, none⟩) i.data.length cap) (hg : w.heap[g]? = some (.cells cur.toArray 5 (0, 0))) (hl : cs.length = cur.length) (d : List Int)
    (hd : d.length = i.data.length) (ht : cs.take i.data.length = byteCells d) : FSRep (w.setRow g cs.toArray) B f own (Ph.at n (Ph.dv n) (Ph.ev n)) (setIno S n { i with data := d }) ∧ Frame w (w.setRow g cs.toArray) own own := by
  have hI := h.inos n i hi
  have hog : own g = some n := hI.data.ok g (by rw [hv]; rfl)
  have hT : ∀ b, b ≠ g → (w.setRow g cs.toArray).heap[b]? = w.heap[b]? := fun b hb => setRow_other w g b _ hb
  have hsz : (w.setRow g cs.toArray).heap.size = w.heap.size := by simp [World.setRow]
  have hgi : Ph.ib n ≠ g := fun e => by
    rw [← e, hI.cells] at hg
    simp at hg
  have hrow := hI.data.own
  rw [hv] at hrow
  refine ⟨h.ino_set hi (Nat.le_of_eq hsz.symm) (fun b m ho hm => ⟨hT b (fun e => by rw [e, hog] at ho; exact hm (Option.some.inj ho).symm), ho⟩) (fun b m ho => ⟨(h.below b m ho).1, by rw [hsz]; exact (h.below b m ho).2⟩) ⟨(hT _ hgi).trans hI.cells, hI.ok, ⟨?_, hI.data.ok⟩, ?_⟩, ⟨rfl, rfl, rfl, Nat.le_of_eq hsz.symm, fun b _ ho => ⟨hT b (fun e => by rw [e, hog] at ho; cases ho), ho⟩⟩⟩
  · show World.ownsRow _ B _ 1 (Ph.dv n) d.length (byteCells d)
    rw [hv]
    rcases hrow.2 with ⟨h1, _⟩ | ⟨g', cap', cur', h1, h2, h3, h4, h5, h6, h7⟩
    · cases h1
    · simp only [Value.slice.injEq, Option.some.injEq, Addr.mk.injEq] at h1
      obtain ⟨⟨rfl, _, _⟩, _, rfl⟩ := h1
      rw [hg] at h3
      simp only [Option.some.injEq, Obj.cells.injEq] at h3
      obtain ⟨rfl, _, _⟩ := h3
      refine ⟨by rw [byteCells_len]; simp, .inr ⟨g, cap, cs.toArray, by rw [hd], h2, setRow_heap w g _ _ _ _ hg, by rw [hd]; exact h4, h5, ?_, ?_⟩⟩
      · simp only [List.size_toArray] at h6 ⊢
        rw [hl, h6]
      · rw [hd]
        simpa using ht
  · rcases hI.ents with ⟨h1, eb, h2, h3, h4⟩ | h1
    · refine .inl ⟨h1, eb, h2, h3, h4.of_block (hT eb fun e => ?_)⟩
      obtain ⟨es, clock, hm, _⟩ := h4
      rw [e, hg] at hm
      cases hm
    · exact .inr h1
theorem splice_take {cur cs : List Value} {a n : Nat} (h : a + cs.length ≤ n) (hc : a ≤ cur.length) : (cur.take a ++ (cs ++ cur.drop (a + cs.length))).take n = (cur.take n).take a ++ (cs ++ (cur.take n).drop (a + cs.length)) := by
  rw [List.take_take, List.drop_take]
  have h1 : min a n = a := by omega
  have h2 : (cur.take a).length = a := by rw [List.length_take]; omega
  rw [h1, List.take_append, h2, List.take_append, List.take_of_length_le (by omega : (cur.take a).length ≤ n), List.take_of_length_le (by omega : cs.length ≤ n - a)]
  congr 3
  omega
theorem byteCells_splice (d b : List Int) (a : Nat) : (byteCells d).take a ++ (byteCells b ++ (byteCells d).drop (a + (byteCells b).length)) = byteCells (overlay d a b) := by
  unfold overlay byteCells
  simp [List.map_append, List.map_take, List.map_drop]
theorem overlay_len {d b : List Int} {a : Nat} (h : a + b.length ≤ d.length) : (overlay d a b).length = d.length := by unfold overlay; simp; omega
theorem resized_len (d : List Int) (k : Nat) : (resized d k).length = k := by unfold resized; simp; omega
theorem writeS_none {node at_ : Int} {b : List Int} (hi : aget node S.inodes = none) : writeS S node at_ b = (100, S) := by unfold writeS; rw [hi]
theorem writeS_arg {node at_ : Int} {b : List Int} {i : Ino} (hi : aget node S.inodes = some i) (h : at_ < 0 ∨ at_ > 4194304 ∨ (b.length : Int) > 4194304 - at_) : writeS S node at_ b = (1, S) := by unfold writeS; rw [hi]; simp only [if_pos h]
theorem writeS_kind {node at_ : Int} {b : List Int} {i : Ino} (hi : aget node S.inodes = some i) (h : ¬ (at_ < 0 ∨ at_ > 4194304 ∨ (b.length : Int) > 4194304 - at_)) (hk : i.kind ≠ 2) : writeS S node at_ b = (106, S) := by unfold writeS; rw [hi]; simp only [if_neg h, if_pos hk]
theorem writeS_ok {node at_ : Int} {b : List Int} {i : Ino} (hi : aget node S.inodes = some i) (h : ¬ (at_ < 0 ∨ at_ > 4194304 ∨ (b.length : Int) > 4194304 - at_)) (hk : i.kind = 2) :
    writeS S node at_ b = if 0 < b.length ∧ at_ + b.length > i.data.length then
        (if (sizedS S node i (at_ + b.length)).1 = 0 then (0, doneS (dataSet (sizedS S node i (at_ + b.length)).2 node fun d => overlay d at_.toNat b) ⟨5, 0, noName, node, 0, noName, at_, b.length⟩)
         else ((sizedS S node i (at_ + b.length)).1, S))
      else (0, doneS (if 0 < b.length then dataSet S node fun d => overlay d at_.toNat b else S) ⟨5, 0, noName, node, 0, noName, at_, b.length⟩) := by unfold writeS; rw [hi]; simp only [if_neg h, if_neg (not_not_intro hk)]
theorem Write_none (h : FSRep w B f own Ph S) (node at_ : Int) (p : Option Addr) (b : List Int) (c : Nat) (hi : aget node S.inodes = none) :
    Calls Tryz.prog 9 #[.pointer (some ⟨f, 0, none⟩), .int .i64 node, .int .i64 at_, .slice p b.length c] w fun e w' => e = .returned (.int .i64 (writeS S node at_ b).1) ∧ Upd w B f own (writeS S node at_ b).2 w' := by
  rw [writeS_none hi]
  have HR := Lib.hid h
  have c4 := h.c.2.2.2.2.1
  have hl := look_none h hi
  clear h hi
  go_enter Tryz.func9, Tryz.ntmps9
  go_wp2
  go_ret
  exact ⟨rfl, Upd.same HR.out⟩
theorem Write_arg (h : FSRep w B f own Ph S) (node at_ : Int) (p : Option Addr) (b : List Int) (c : Nat) (i : Ino) (hi : aget node S.inodes = some i) (ha : at_ < 0 ∨ at_ > 4194304 ∨ (b.length : Int) > 4194304 - at_) :
    Calls Tryz.prog 9 #[.pointer (some ⟨f, 0, none⟩), .int .i64 node, .int .i64 at_, .slice p b.length c] w fun e w' => e = .returned (.int .i64 (writeS S node at_ b).1) ∧ Upd w B f own (writeS S node at_ b).2 w' := by
  rw [writeS_arg hi ha]
  have HR := Lib.hid h
  have c4 := h.c.2.2.2.2.1
  have hl := look_some h hi
  clear h hi
  by_cases h0 : at_ < 0
  · have hd : decide (at_ < 0) = true := decide_eq_true h0
    clear ha
    go_enter Tryz.func9, Tryz.ntmps9
    go_wp2
    go_ret
    exact ⟨rfl, Upd.same HR.out⟩
  · have hd : decide (at_ < 0) = false := decide_eq_false h0
    by_cases h1 : 4194304 < at_
    · have hd2 : decide (4194304 < at_) = true := decide_eq_true h1
      clear ha
      go_enter Tryz.func9, Tryz.ntmps9
      go_wp2
      go_ret
      exact ⟨rfl, Upd.same HR.out⟩
    · have hd2 : decide (4194304 < at_) = false := decide_eq_false h1
      have hw : IntKind.i64.wrap (4194304 - at_) = 4194304 - at_ := wrap_small (by omega) (by omega)
      have hd3 : 4194304 - at_ < (b.length : Int) := by omega
      clear ha
      go_enter Tryz.func9, Tryz.ntmps9
      go_wp2
      go_ret
      exact ⟨rfl, Upd.same HR.out⟩
theorem Write_kind (h : FSRep w B f own Ph S) (node at_ : Int) (p : Option Addr) (b : List Int) (c : Nat) (i : Ino) (hi : aget node S.inodes = some i) (ha : ¬ (at_ < 0 ∨ at_ > 4194304 ∨ (b.length : Int) > 4194304 - at_)) (hk : i.kind ≠ 2) :
    Calls Tryz.prog 9 #[.pointer (some ⟨f, 0, none⟩), .int .i64 node, .int .i64 at_, .slice p b.length c] w fun e w' => e = .returned (.int .i64 (writeS S node at_ b).1) ∧ Upd w B f own (writeS S node at_ b).2 w' := by
  rw [writeS_kind hi ha hk]
  have HR := Lib.hid h
  have c4 := h.c.2.2.2.2.1
  have hl := look_some h hi
  have k0 := (h.inos node i hi).c.1
  have hk' : (i.kind != 2) = true := bne_iff_ne.2 hk
  have hd : decide (at_ < 0) = false := decide_eq_false (by omega)
  have hd2 : decide (4194304 < at_) = false := decide_eq_false (by omega)
  have hw : IntKind.i64.wrap (4194304 - at_) = 4194304 - at_ := wrap_small (by omega) (by omega)
  have hd3 : ¬ (4194304 - at_ < (b.length : Int)) := by omega
  clear h hi ha
  go_enter Tryz.func9, Tryz.ntmps9
  go_wp2
  go_ret
  exact ⟨rfl, Upd.same HR.out⟩
theorem copy_facts (h : FSRep w B f own Ph S) {n : Int} {i : Ino} (hi : aget n S.inodes = some i) (hp : 0 < i.data.length) : ∃ (g cap : Nat) (cur : List Value), Ph.dv n = .slice (some ⟨g, 0, none⟩) i.data.length cap ∧ w.heap[g]? = some (.cells cur.toArray 5 (0, 0)) ∧ i.data.length ≤ cap ∧ cur.length = cap ∧ cur.take i.data.length = byteCells i.data := by
  rcases (h.inos n i hi).data.own.2 with ⟨_, h1⟩ | ⟨g', cap', cur', h1, h2, h3, h4, h5, h6, h7⟩
  · omega
  · exact ⟨g', cap', cur'.toList, h1, h3, h4, by simpa using h6, by simpa using h7⟩
theorem byteSize : (Tryz.prog.info? 5).map (·.size) = some 1 := by kernel_rfl
theorem copy_step (h : FSRep w B f own Ph S) {n : Int} {i : Ino} (hi : aget n S.inodes = some i) {p : Option Addr} {b : List Int} (hs : Src w own p b) (hp : 0 < b.length) {k : Nat} (hin : k + b.length ≤ i.data.length) (c : Nat) :
    ∃ (g cap : Nat) (w' : World), Ph.dv n = .slice (some ⟨g, 0, none⟩) i.data.length cap ∧ i.data.length ≤ cap ∧ (Builtin.copy_ #[40, 40] 3 #[.slice (some ⟨g, k, none⟩) (i.data.length - k) (cap - k), .slice p b.length c]).run Tryz.prog w = .ok (.int .i64 b.length) w'
      ∧ FSRep w' B f own (Ph.at n (Ph.dv n) (Ph.ev n)) (setIno S n { i with data := overlay i.data k b }) ∧ Frame w w' own own := by
  obtain ⟨g, cap, cur, e1, e2, e3, e4, e5⟩ := copy_facts h hi (by omega)
  obtain ⟨ad, rfl, s1, s2, s3⟩ := hs hp
  have S3 : ∀ j v, (byteCells b)[j]? = some v → w.cell? (ad.add j) = some v := fun j v hj => by
    unfold byteCells at hj
    rw [List.getElem?_map] at hj
    cases hz : b[j]? with
    | none => rw [hz] at hj; cases hj
    | some z =>
      rw [hz] at hj
      cases hj
      exact s3 j z hz
  have hbl := byteCells_len b
  have hcp := run_copy_row (P := Tryz.prog) w 40 40 3 5 g k (i.data.length - k) (cap - k) ad b.length c cur.toArray 5 (byteCells b) Tryz.underlying40 byteSize e2 (by rw [hbl]; show _ = min _ _; omega) S3 (by simp only [List.size_toArray]; rw [hbl]; omega) (byteCells_one _)
  rw [hbl, List.append_assoc] at hcp
  have hr := h.row_set hi (cs := cur.take k ++ (byteCells b ++ cur.drop (k + b.length))) e1 e2 (by simp [hbl]; omega) (overlay i.data k b) (overlay_len hin) (by
    rw [← hbl, splice_take (by rw [hbl]; exact hin) (by omega), e5, byteCells_splice])
  exact ⟨g, cap, _, e1, e3, hcp, hr.1, hr.2⟩
theorem Write_in (h : FSRep w B f own Ph S) (hB : B ≤ w.heap.size) (I : Inv S) (node : Int) (k : Nat) (p : Option Addr) (b : List Int) (c : Nat) (hs : Src w own p b) (i : Ino) (hi : aget node S.inodes = some i) (ha : ¬ ((k : Int) < 0 ∨ (k : Int) > 4194304 ∨ (b.length : Int) > 4194304 - (k : Int))) (hk : i.kind = 2) (hp : 0 < b.length) (hin : k + b.length ≤ i.data.length) :
    Calls Tryz.prog 9 #[.pointer (some ⟨f, 0, none⟩), .int .i64 node, .int .i64 k, .slice p b.length c] w fun e w' => e = .returned (.int .i64 (writeS S node k b).1) ∧ Upd w B f own (writeS S node k b).2 w' := by
  have hws : writeS S node k b = (0, doneS (setIno S node { i with data := overlay i.data k b }) ⟨5, 0, noName, node, 0, noName, k, b.length⟩) := by
    rw [writeS_ok hi ha hk, if_neg (by omega), if_pos hp]
    unfold dataSet
    rw [hi]
    rfl
  rw [hws]
  have HR := Lib.hid h
  have HI := Lib.hid I
  have HB := Lib.hid hB
  have hI := h.inos node i hi
  have c4 := h.c.2.2.2.2.1
  have hl := look_some h hi
  have k0 := hI.c.1
  rw [hk] at k0
  obtain ⟨g, cap, w2, e1, e3, hcp, r1, r2⟩ := copy_step h hi hs hp hin c
  have k6 := hI.c.2.2.2.2.2.2.1
  rw [e1] at k6
  have R1 := Lib.hid r1
  have R2 := Lib.hid r2
  have hd : decide ((k : Int) < 0) = false := decide_eq_false (by omega)
  have hd2 : decide (4194304 < (k : Int)) = false := decide_eq_false (by omega)
  have hw : IntKind.i64.wrap (4194304 - (k : Int)) = 4194304 - (k : Int) := wrap_small (by omega) (by omega)
  have hd3 : ¬ (4194304 - (k : Int) < (b.length : Int)) := by omega
  have hw2 : IntKind.i64.wrap ((k : Int) + (b.length : Int)) = (k : Int) + (b.length : Int) := wrap_small (by omega) (by omega)
  have hd4 : decide ((0 : Int) < (b.length : Int)) = true := decide_eq_true (by omega)
  have hd5 : decide ((i.data.length : Int) < (k : Int) + (b.length : Int)) = false := decide_eq_false (by omega)
  have hd6 : (0 : Int) < (b.length : Int) := by omega
  have hz1 : (k : Int) ≤ (i.data.length : Int) := by omega
  have hz2 : (i.data.length : Int) ≤ (cap : Int) := by omega
  have hz3 : k < cap := by omega
  clear h hI hi e1 hB I ha hs r1 r2 hin
  go_enter Tryz.func9, Tryz.ntmps9
  go_wp2_with fail
  refine (done_calls (B := B) R1.out (Nat.le_trans HB.out R2.out.size) (by have := HI.out.trace; show S.trace.length ≤ _; omega) ⟨5, 0, noName, node, 0, noName, k, b.length⟩).mono ?_
  rintro e w7 ⟨rfl, hu⟩
  have HU := Lib.hid (Upd.after R2.out hu)
  clear hu
  go_wp2
  go_ret
  exact ⟨rfl, HU.out⟩
theorem Write_empty (h : FSRep w B f own Ph S) (hB : B ≤ w.heap.size) (I : Inv S) (node : Int) (k : Nat) (p : Option Addr) (b : List Int) (c : Nat) (i : Ino) (hi : aget node S.inodes = some i) (ha : ¬ ((k : Int) < 0 ∨ (k : Int) > 4194304 ∨ (b.length : Int) > 4194304 - (k : Int))) (hk : i.kind = 2) (hp : b.length = 0) :
    Calls Tryz.prog 9 #[.pointer (some ⟨f, 0, none⟩), .int .i64 node, .int .i64 k, .slice p b.length c] w fun e w' => e = .returned (.int .i64 (writeS S node k b).1) ∧ Upd w B f own (writeS S node k b).2 w' := by
  have hws : writeS S node k b = (0, doneS S ⟨5, 0, noName, node, 0, noName, k, b.length⟩) := by
    rw [writeS_ok hi ha hk, if_neg (by omega), if_neg (by omega)]
  rw [hws]
  have HR := Lib.hid h
  have HI := Lib.hid I
  have HB := Lib.hid hB
  have hI := h.inos node i hi
  have c4 := h.c.2.2.2.2.1
  have hl := look_some h hi
  have k0 := hI.c.1
  rw [hk] at k0
  rw [hp]
  have hd : decide ((k : Int) < 0) = false := decide_eq_false (by omega)
  have hd2 : decide (4194304 < (k : Int)) = false := decide_eq_false (by omega)
  have hw : IntKind.i64.wrap (4194304 - (k : Int)) = 4194304 - (k : Int) := wrap_small (by omega) (by omega)
  have hd3 : ¬ (4194304 - (k : Int) < 0) := by omega
  have hw2 : IntKind.i64.wrap (k : Int) = (k : Int) := wrap_small (by omega) (by omega)
  clear h hI hi hB I ha
  go_enter Tryz.func9, Tryz.ntmps9
  go_wp2_with fail
  refine (done_calls (B := B) HR.out HB.out (by have := HI.out.trace; show S.trace.length ≤ _; omega) ⟨5, 0, noName, node, 0, noName, k, 0⟩).mono ?_
  rintro e w7 ⟨rfl, hu⟩
  have HU := Lib.hid hu
  clear hu
  go_wp2
  go_ret
  exact ⟨rfl, HU.out⟩
theorem dataSet_some {n : Int} {i : Ino} (hi : aget n S.inodes = some i) (g : List Int → List Int) : dataSet S n g = setIno S n { i with data := g i.data } := by unfold dataSet; rw [hi]
theorem aget_setIno (S : FSt) (n : Int) (i : Ino) : aget n (setIno S n i).inodes = some i := by
  show aget n (aset n i S.inodes) = _
  rw [aget_aset, if_pos rfl]
theorem aget_setIno_ne (S : FSt) {n m : Int} (i : Ino) (h : n ≠ m) : aget m (setIno S n i).inodes = aget m S.inodes := by
  show aget m (aset n i S.inodes) = _
  rw [aget_aset, if_neg h]
theorem Write_grow (h : FSRep w B f own Ph S) (hB : B ≤ w.heap.size) (I : Inv S) (node : Int) (k : Nat) (p : Option Addr) (b : List Int) (c : Nat) (hs : Src w own p b) (i : Ino) (hi : aget node S.inodes = some i) (ha : ¬ ((k : Int) < 0 ∨ (k : Int) > 4194304 ∨ (b.length : Int) > 4194304 - (k : Int))) (hk : i.kind = 2) (hp : 0 < b.length) (hin : i.data.length < k + b.length) :
    Calls Tryz.prog 9 #[.pointer (some ⟨f, 0, none⟩), .int .i64 node, .int .i64 k, .slice p b.length c] w fun e w' => e = .returned (.int .i64 (writeS S node k b).1) ∧ Upd w B f own (writeS S node k b).2 w' := by
  rw [writeS_ok hi ha hk, if_pos (by omega)]
  have HR := Lib.hid h
  have HI := Lib.hid I
  have HB := Lib.hid hB
  have Hi := Lib.hid hi
  have hI := h.inos node i hi
  have c4 := h.c.2.2.2.2.1
  have hl := look_some h hi
  have k0 := hI.c.1
  rw [hk] at k0
  obtain ⟨da, dc, hdv, hdc, hdm⟩ := row_slice hI.data
  have k6 := hI.c.2.2.2.2.2.2.1
  rw [hdv] at k6
  have hd : decide ((k : Int) < 0) = false := decide_eq_false (by omega)
  have hd2 : decide (4194304 < (k : Int)) = false := decide_eq_false (by omega)
  have hw : IntKind.i64.wrap (4194304 - (k : Int)) = 4194304 - (k : Int) := wrap_small (by omega) (by omega)
  have hd3 : ¬ (4194304 - (k : Int) < (b.length : Int)) := by omega
  have hw2 : IntKind.i64.wrap ((k : Int) + (b.length : Int)) = (k : Int) + (b.length : Int) := wrap_small (by omega) (by omega)
  have hd4 : decide ((0 : Int) < (b.length : Int)) = true := decide_eq_true (by omega)
  have hd5 : (i.data.length : Int) < (k : Int) + (b.length : Int) := by omega
  have hd6 : (0 : Int) < (b.length : Int) := by omega
  have Ha := Lib.hid ha
  have Hin := Lib.hid hin
  have Hs := Lib.hid hs
  clear h hI hi hdv hdc hdm hB I ha hs hin
  by_cases hz : (sizedS S node i ((k : Int) + (b.length : Int))).1 = 0
  · rw [if_pos hz]
    have hrw : dataSet (sizedS S node i ((k : Int) + (b.length : Int))).2 node (fun d => overlay d (k : Int).toNat b) = setIno (setIno { S with used := S.used + ((k : Int) + (b.length : Int) - (i.data.length : Int)) } node { i with data := resized i.data ((k : Int) + (b.length : Int)).toNat }) node { i with data := overlay (resized i.data ((k : Int) + (b.length : Int)).toNat) k b } := by rw [sizedS_good hz]; exact dataSet_some (aget_setIno _ _ _) _
    rw [hrw]
    have Hz := Lib.hid (sizedS_good hz)
    clear hz hrw
    go_enter Tryz.func9, Tryz.ntmps9
    go_wp2_with fail
    refine (sized_calls HR.out HB.out HI.out node i Hi.out ((k : Int) + (b.length : Int)) (by omega) (by have := Ha.out; omega)).mono ?_
    rintro e w1 ⟨rfl, own1, Ph1, r1, r2, r3⟩
    rw [Hz.out] at r1 ⊢
    have htn : ((k : Int) + (b.length : Int)).toNat = k + b.length := by omega
    have hi1 := aget_setIno { S with used := S.used + ((k : Int) + (b.length : Int) - (i.data.length : Int)) } node { i with data := resized i.data ((k : Int) + (b.length : Int)).toNat }
    have hlen1 : (resized i.data ((k : Int) + (b.length : Int)).toNat).length = k + b.length := by rw [resized_len, htn]
    obtain ⟨g, cap, w2, e1, e3, hcp, q1, q2⟩ := copy_step (k := k) r1 hi1 (Hs.out.move r2) hp (by show _ ≤ (resized i.data ((k : Int) + (b.length : Int)).toNat).length; rw [hlen1]; exact Nat.le_refl _) c
    have k61 := (r1.inos node _ hi1).c.2.2.2.2.2.2.1
    rw [e1, r3] at k61
    rw [hlen1] at k61 hcp e3
    rw [Nat.add_sub_cancel_left] at hcp
    have HF := Lib.hid r2
    have Q1 := Lib.hid q1
    have Q2 := Lib.hid q2
    have hz1 : (k : Int) ≤ ((k + b.length : Nat) : Int) := by omega
    have hz2 : ((k + b.length : Nat) : Int) ≤ (cap : Int) := by omega
    have hz3 : k < cap := by omega
    clear r1 r2 r3 q1 q2 e1 c4 hl k0 k6 hi1 hlen1 htn
    go_wp2_with fail
    refine (done_calls (B := B) Q1.out (Nat.le_trans HB.out (Nat.le_trans HF.out.size Q2.out.size)) (by have := HI.out.trace; show S.trace.length ≤ _; omega) ⟨5, 0, noName, node, 0, noName, k, b.length⟩).mono ?_
    rintro e w7 ⟨rfl, hu⟩
    have HU := Lib.hid (Upd.after HF.out (Upd.after Q2.out hu))
    clear hu
    go_wp2
    go_ret
    exact ⟨rfl, HU.out⟩
  · rw [if_neg hz]
    have hf := sizedS_fail hz
    have Hz := Lib.hid hf
    rw [hf]
    clear hz hf
    go_enter Tryz.func9, Tryz.ntmps9
    go_wp2_with fail
    refine (sized_calls HR.out HB.out HI.out node i Hi.out ((k : Int) + (b.length : Int)) (by omega) (by have := Ha.out; omega)).mono ?_
    rintro e w1 ⟨rfl, own1, Ph1, r1, r2, r3⟩
    rw [Hz.out] at r1 ⊢
    have HU : Hid (Upd w B f own S w1) := Lib.hid ⟨own1, Ph1, r1, r2⟩
    clear r1 r2 r3
    go_wp2
    go_ret
    exact ⟨rfl, HU.out⟩
theorem Write_calls (h : FSRep w B f own Ph S) (hB : B ≤ w.heap.size) (I : Inv S) (node at_ : Int) (p : Option Addr) (b : List Int) (c : Nat) (hs : Src w own p b) :
    Calls Tryz.prog 9 #[.pointer (some ⟨f, 0, none⟩), .int .i64 node, .int .i64 at_, .slice p b.length c] w fun e w' => e = .returned (.int .i64 (writeS S node at_ b).1) ∧ Upd w B f own (writeS S node at_ b).2 w' := by
  cases hi : aget node S.inodes with
  | none => exact Write_none h node at_ p b c hi
  | some i =>
    by_cases ha : at_ < 0 ∨ at_ > 4194304 ∨ (b.length : Int) > 4194304 - at_
    · exact Write_arg h node at_ p b c i hi ha
    · by_cases hk : i.kind = 2
      · obtain ⟨k, rfl⟩ : ∃ k : Nat, at_ = k := ⟨at_.toNat, by omega⟩
        by_cases hp : b.length = 0
        · exact Write_empty h hB I node k p b c i hi ha hk hp
        · by_cases hin : k + b.length ≤ i.data.length
          · exact Write_in h hB I node k p b c hs i hi ha hk (by omega) hin
          · exact Write_grow h hB I node k p b c hs i hi ha hk (by omega) (by omega)
      · exact Write_kind h node at_ p b c i hi ha hk
end
end Go.Proofs.YtcjahipcfcghlaaGreatV

/- vfs: Read. -/
namespace Go.Proofs.YtcjahipcfcghlaaGreatV
open Go.RowKit
set_option linter.unusedVariables false
set_option linter.unusedSimpArgs false
section
variable {w : World} {B f : Nat} {own : Nat → Option Int} {Ph : Phys} {S : FSt}
theorem clone_mid {n : Nat} {xs : List Value} {g cap : Nat} (h : w.ownsRow B 5 1 (.slice (some ⟨g, 0, none⟩) n cap) n xs) (h1 : ∀ u ∈ xs, u.oneCell' = true) (off k : Nat) (hk : off + k ≤ n) (hn : n ≤ 4194304) (c' : Nat) :
    Calls Tryz.prog 38 #[.slice (some ⟨g, off, none⟩) k c'] w fun e w' => ∃ v', e = .returned v' ∧ w'.ownsRow w.heap.size 5 1 v' k ((xs.drop off).take k) ∧ Below w.heap.size w w' := by
  obtain ⟨i0, hi, hz0, hz1, hz2⟩ := info_parts infoByte
  have hlen : ((xs.drop off).take k).length = k * 1 := by have := h.1; simp; omega
  refine (Tryz.slices_Clone_uint8 i0 (.int .u8 0) 1 1 hi hz0 hz1 hz2 rfl (by decide) Tryz.sizeOf5 g off k c' ((xs.drop off).take k) w hlen (by unfold maxLen; omega) (by omega) (fun j u hu => ?_) (fun u hu => h1 u (List.mem_of_mem_drop (List.mem_of_mem_take hu)))).mono ?_
  · have hu' : xs[off + j]? = some u := by
      rw [List.getElem?_take] at hu
      split at hu
      · rw [List.getElem?_drop] at hu
        exact hu
      · cases hu
    have := h.cells (g := g) rfl (off + j) u hu'
    rw [Addr.add_lit] at this
    simpa using this
  · rintro e w' ⟨v', rfl, r1, _, r2⟩
    exact ⟨v', rfl, r1, r2⟩
def ReadPost (w : World) (r : List Int × Int) (e : Ending) (w' : World) : Prop := ∃ v, e = .returned (.tuple #[v, .int .i64 r.2]) ∧ w'.ownsRow w.heap.size 5 1 v r.1.length (byteCells r.1) ∧ Below w.heap.size w w'
theorem readPost_nil (w : World) (n : Int) (w' : World) (h : Below w.heap.size w w') : ReadPost w ([], n) (.returned (.tuple #[.slice none 0 0, .int .i64 n])) w' := ⟨_, rfl, ⟨rfl, .inl ⟨rfl, rfl⟩⟩, h⟩
theorem Read_nil (h : FSRep w B f own Ph S) (node at_ n : Int) (hi : aget node S.inodes = none) : Calls Tryz.prog 82 #[.pointer (some ⟨f, 0, none⟩), .int .i64 node, .int .i64 at_, .int .i64 n] w (ReadPost w (readS S node at_ n)) := by
  have hr : readS S node at_ n = ([], 100) := by unfold readS; rw [hi]
  rw [hr]
  have c4 := h.c.2.2.2.2.1
  have hl := look_none h hi
  clear h hi hr
  go_enter Tryz.func82, Tryz.ntmps82
  go_wp2
  go_ret2
  exact readPost_nil _ _ _ (Below.refl _ _)
theorem Read_arg (h : FSRep w B f own Ph S) (node at_ n : Int) (i : Ino) (hi : aget node S.inodes = some i) (ha : at_ < 0 ∨ n < 0) : Calls Tryz.prog 82 #[.pointer (some ⟨f, 0, none⟩), .int .i64 node, .int .i64 at_, .int .i64 n] w (ReadPost w (readS S node at_ n)) := by
  have hr : readS S node at_ n = ([], 1) := by unfold readS; rw [hi]; simp only [if_pos ha]
  rw [hr]
  have c4 := h.c.2.2.2.2.1
  have hl := look_some h hi
  clear h hi hr
  by_cases h0 : at_ < 0
  · have hd : decide (at_ < 0) = true := decide_eq_true h0
    clear ha
    go_enter Tryz.func82, Tryz.ntmps82
    go_wp2
    go_ret2
    exact readPost_nil _ _ _ (Below.refl _ _)
  · have hd : decide (at_ < 0) = false := decide_eq_false h0
    have hd2 : n < 0 := ha.resolve_left h0
    clear ha
    go_enter Tryz.func82, Tryz.ntmps82
    go_wp2
    go_ret2
    exact readPost_nil _ _ _ (Below.refl _ _)
theorem Read_kind (h : FSRep w B f own Ph S) (node at_ n : Int) (i : Ino) (hi : aget node S.inodes = some i) (ha : ¬ (at_ < 0 ∨ n < 0)) (hk : i.kind ≠ 2) : Calls Tryz.prog 82 #[.pointer (some ⟨f, 0, none⟩), .int .i64 node, .int .i64 at_, .int .i64 n] w (ReadPost w (readS S node at_ n)) := by
  have hr : readS S node at_ n = ([], 106) := by unfold readS; rw [hi]; simp only [if_neg ha, if_pos hk]
  rw [hr]
  have c4 := h.c.2.2.2.2.1
  have hl := look_some h hi
  have k0 := (h.inos node i hi).c.1
  have hk' : (i.kind != 2) = true := bne_iff_ne.2 hk
  have hd : decide (at_ < 0) = false := decide_eq_false (by omega)
  have hd2 : ¬ n < 0 := by omega
  clear h hi hr ha
  go_enter Tryz.func82, Tryz.ntmps82
  go_wp2
  go_ret2
  exact readPost_nil _ _ _ (Below.refl _ _)
theorem Read_past (h : FSRep w B f own Ph S) (node at_ n : Int) (i : Ino) (hi : aget node S.inodes = some i) (ha : ¬ (at_ < 0 ∨ n < 0)) (hk : i.kind = 2) (hp : at_ ≥ i.data.length) : Calls Tryz.prog 82 #[.pointer (some ⟨f, 0, none⟩), .int .i64 node, .int .i64 at_, .int .i64 n] w (ReadPost w (readS S node at_ n)) := by
  have hr : readS S node at_ n = ([], 0) := by unfold readS; rw [hi]; simp only [if_neg ha, if_neg (not_not_intro hk), if_pos hp]
  rw [hr]
  have hI := h.inos node i hi
  have c4 := h.c.2.2.2.2.1
  have hl := look_some h hi
  have k0 := hI.c.1
  rw [hk] at k0
  obtain ⟨da, dc, hdv, _, _⟩ := row_slice hI.data
  have k6 := hI.c.2.2.2.2.2.2.1
  rw [hdv] at k6
  have hd : decide (at_ < 0) = false := decide_eq_false (by omega)
  have hd2 : ¬ n < 0 := by omega
  have hd3 : (i.data.length : Int) ≤ at_ := hp
  clear h hI hi hr ha hdv
  go_enter Tryz.func82, Tryz.ntmps82
  go_wp2
  go_ret2
  exact readPost_nil _ _ _ (Below.refl _ _)
set_option maxRecDepth 100000 in
theorem Read_some (h : FSRep w B f own Ph S) (I : Inv S) (node : Int) (k m : Nat) (i : Ino) (hi : aget node S.inodes = some i) (hk : i.kind = 2) (hp : k < i.data.length) : Calls Tryz.prog 82 #[.pointer (some ⟨f, 0, none⟩), .int .i64 node, .int .i64 k, .int .i64 m] w (ReadPost w (readS S node k m)) := by
  have hr : readS S node k m = ((i.data.drop k).take (min m (i.data.length - k)), 0) := by
    unfold readS
    rw [hi]
    simp only [if_neg (show ¬ ((k : Int) < 0 ∨ (m : Int) < 0) by omega), if_neg (not_not_intro hk), if_neg (show ¬ ((k : Int) ≥ i.data.length) by omega)]
    congr 2
    omega
  rw [hr]
  have HI := Lib.hid (I.ino node i hi).1
  have hI := h.inos node i hi
  have c4 := h.c.2.2.2.2.1
  have hl := look_some h hi
  have k0 := hI.c.1
  rw [hk] at k0
  obtain ⟨g, cap, cur, e1, e2, e3, e4, e5⟩ := copy_facts h hi (by omega)
  have hrow := hI.data.own
  rw [e1] at hrow
  have HRow := Lib.hid hrow
  have k6 := hI.c.2.2.2.2.2.2.1
  rw [e1] at k6
  have hd : decide ((k : Int) < 0) = false := decide_eq_false (by omega)
  have hd2 : ¬ (m : Int) < 0 := by omega
  have hd3 : ¬ (i.data.length : Int) ≤ (k : Int) := by omega
  have hz1 : (k : Int) ≤ (i.data.length : Int) := by omega
  have hz2 : (i.data.length : Int) ≤ (cap : Int) := by omega
  have hz3 : k < cap := by omega
  have hw1 : IntKind.i64.wrap ((i.data.length : Int) - (k : Int)) = (i.data.length : Int) - (k : Int) := wrap_small (by omega) (by have := HI.out; omega)
  have hw2 : min (m : Int) ((i.data.length : Int) - (k : Int)) = ((min m (i.data.length - k) : Nat) : Int) := by omega
  have hz4 : ((min m (i.data.length - k) : Nat) : Int) ≤ ((i.data.length - k : Nat) : Int) := by omega
  have hz5 : ((min m (i.data.length - k) : Nat) : Int) ≤ ((cap - k : Nat) : Int) := by omega
  have Hz := Lib.hid (show k + min m (i.data.length - k) ≤ i.data.length by omega)
  generalize min m (i.data.length - k) = q at *
  clear h hI hi hr I e1 e2 e5 hrow
  go_enter Tryz.func82, Tryz.ntmps82
  go_wp2_with fail
  go_still_tail 16, (by kernel_rfl)
  change wpList _ _ _ _ _ w.drew
  go_wp2_with fail
  all_goals
    refine (clone_mid (w := w.drew) (B := B) HRow.out (byteCells_one _) k q Hz.out HI.out _).mono ?_
    rintro e w1 ⟨v, rfl, hown, hbl⟩
    obtain ⟨va, vc, rfl⟩ := owns_slice hown
    have HO := Lib.hid hown
    have HBl := Lib.hid hbl
    clear hown hbl
    go_wp2
    go_ret2
    refine ⟨_, rfl, ?_, ⟨HBl.out.os, HBl.out.tape, HBl.out.output, HBl.out.size, HBl.out.block⟩⟩
    have hl1 : ((i.data.drop k).take q).length = q := by have := Hz.out; simp; omega
    show World.ownsRow _ _ _ 1 _ ((i.data.drop k).take q).length (byteCells ((i.data.drop k).take q))
    rw [hl1]
    have := HO.out
    rw [show (List.take q (List.drop k (byteCells i.data))) = byteCells ((i.data.drop k).take q) by unfold byteCells; rw [List.map_take, List.map_drop]] at this
    exact this
theorem Read_calls (h : FSRep w B f own Ph S) (I : Inv S) (node at_ n : Int) : Calls Tryz.prog 82 #[.pointer (some ⟨f, 0, none⟩), .int .i64 node, .int .i64 at_, .int .i64 n] w (ReadPost w (readS S node at_ n)) := by
  cases hi : aget node S.inodes with
  | none => exact Read_nil h node at_ n hi
  | some i =>
    by_cases ha : at_ < 0 ∨ n < 0
    · exact Read_arg h node at_ n i hi ha
    · by_cases hk : i.kind = 2
      · by_cases hp : at_ ≥ i.data.length
        · exact Read_past h node at_ n i hi ha hk hp
        · obtain ⟨k, rfl⟩ : ∃ k : Nat, at_ = k := ⟨at_.toNat, by omega⟩
          obtain ⟨m, rfl⟩ : ∃ m : Nat, n = m := ⟨n.toNat, by omega⟩
          exact Read_some h I node k m i hi hk (by omega)
      · exact Read_kind h node at_ n i hi ha hk
end
end Go.Proofs.YtcjahipcfcghlaaGreatV
