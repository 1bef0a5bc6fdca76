/- vfs: Mkdir and Create. -/
import Derived.Test.YtphbbcjmnlamaaaGreatVMakes
namespace Go.Proofs.YtphbbcjmnlamaaaGreatV
open Go.RowKit
set_option linter.unusedVariables false
set_option linter.unusedSimpArgs false
section
variable {w : World} {B f : Nat} {own : Nat → Option Int} {Ph : Phys} {S : FSt}
def metaV (m : Mt) : Value := .agg #[.int .u32 m.mode, .int .u32 m.uid, .int .u32 m.gid, .int .i64 m.time, .int .i32 m.nano]
def grab (own : Nat → Option Int) (s k : Nat) (n : Int) : Nat → Option Int := fun b => if s ≤ b ∧ b < s + k then some n else own b
theorem Inv.fresh (I : Inv S) : aget S.next S.inodes = none ∧ 0 < S.next := by
  refine ⟨?_, by have := I.next; omega⟩
  cases h : aget S.next S.inodes with
  | none => rfl
  | some i => have := (I.ino _ _ h).2.2.2.2.2; omega
theorem FSRep.grab (h : FSRep w B f own Ph S) (hB : B ≤ w.heap.size) {w' : World} (hb : Below w.heap.size w w') (k : Nat) (hs : w.heap.size + k ≤ w'.heap.size) (n : Int) : FSRep w' B f (grab own w.heap.size k n) Ph S ∧ Frame w w' own (grab own w.heap.size k n) := by
  refine ⟨h.adopt hb.size hb.block (fun b m ho => ?_) (fun b m ho => ?_), ⟨hb.os, hb.tape, hb.output, hb.size, fun b hlt ho => ⟨hb.block b hlt, ?_⟩⟩⟩
  · have := h.lt ho
    unfold Go.Proofs.YtphbbcjmnlamaaaGreatV.grab
    rw [if_neg (by omega)]
    exact ho
  · unfold Go.Proofs.YtphbbcjmnlamaaaGreatV.grab at ho
    split at ho
    · omega
    · exact ⟨(h.below b m ho).1, Nat.lt_of_lt_of_le (h.lt ho) hb.size⟩
  · unfold Go.Proofs.YtphbbcjmnlamaaaGreatV.grab
    rw [if_neg (by omega)]
    exact ho
theorem new_dir (h : FSRep w B f own Ph S) (hB : B ≤ w.heap.size) (n : Int) (i : Ino) (hk : i.kind = 1) (hd : i.data = []) (he : i.ents = []) (w' : World)
    (hw : w' = (w.alloc (.map #[] 0)).alloc (.cells (inoCells i (.slice none 0 0) (.map (some w.heap.size))) 77 (0, 0))) :
    FSRep w' B f (grab own w.heap.size 2 n) Ph S ∧ Frame w w' own (grab own w.heap.size 2 n) ∧ InoAt w' B (grab own w.heap.size 2 n) n (w.heap.size + 1) (.slice none 0 0) (.map (some w.heap.size)) i := by
  subst hw
  have hg := h.grab hB (below_two w (.map #[] 0) (.cells (inoCells i (.slice none 0 0) (.map (some w.heap.size))) 77 (0, 0))) 2 (by simp) n
  refine ⟨hg.1, hg.2, ⟨heap_two w _ _, by unfold grab; rw [if_pos (by omega)], ⟨?_, fun k hk' => by simp [Value.ownBlock] at hk'⟩, .inl ⟨hk, w.heap.size, rfl, if_pos (by omega), ?_⟩⟩⟩
  · rw [hd]; exact ⟨rfl, .inl ⟨rfl, rfl⟩⟩
  · rw [he]
    exact (MapAt.made w).of_block (Below.heap_alloc _ _ _ (by simp))
theorem new_file (h : FSRep w B f own Ph S) (hB : B ≤ w.heap.size) (n : Int) (i : Ino) (hk : i.kind ≠ 1) (hd : i.data = []) (he : i.ents = []) (w' : World)
    (hw : w' = w.alloc (.cells (inoCells i (.slice none 0 0) (.map none)) 77 (0, 0))) :
    FSRep w' B f (grab own w.heap.size 1 n) Ph S ∧ Frame w w' own (grab own w.heap.size 1 n) ∧ InoAt w' B (grab own w.heap.size 1 n) n w.heap.size (.slice none 0 0) (.map none) i := by
  subst hw
  have hg := h.grab hB (alloc_below w (.cells (inoCells i (.slice none 0 0) (.map none)) 77 (0, 0))) 1 (by simp) n
  refine ⟨hg.1, hg.2, ⟨(MapKept.heap_alloc w _).1, by unfold grab; rw [if_pos (by omega)], ⟨?_, fun k hk' => by simp [Value.ownBlock] at hk'⟩, .inr ⟨hk, rfl, he⟩⟩⟩
  rw [hd]; exact ⟨rfl, .inl ⟨rfl, rfl⟩⟩
end
end Go.Proofs.YtphbbcjmnlamaaaGreatV
