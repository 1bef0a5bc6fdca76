/- vfs: the trace. -/
import Derived.Test.YtphbbcjmnlamaaaGreatVRead2
import Derived.Deep.AppendLies
import Derived.Deep.RegionLaw
import Derived.Laws.OwnMore
namespace Go.Proofs.YtphbbcjmnlamaaaGreatV
open Go.RowKit
set_option linter.unusedVariables false
set_option linter.unusedSimpArgs false
/-- What a call makes of a file system. -/
def Upd (w : World) (B f : Nat) (own : Nat → Option Int) (S' : FSt) (w' : World) : Prop := ∃ own' Ph', FSRep w' B f own' Ph' S' ∧ Frame w w' own own'
theorem Upd.same {w : World} {B f : Nat} {own : Nat → Option Int} {Ph : Phys} {S : FSt} (h : FSRep w B f own Ph S) : Upd w B f own S w := ⟨own, Ph, h, Frame.refl _ _⟩
theorem Upd.below {w w' : World} {B f : Nat} {own : Nat → Option Int} {Ph : Phys} {S : FSt} (h : FSRep w B f own Ph S) (hb : Below w.heap.size w w') : Upd w B f own S w' := ⟨own, Ph, h.of_below hb, Frame.of_below hb⟩
theorem Upd.after {w w1 w' : World} {B f : Nat} {own own1 : Nat → Option Int} {S' : FSt} (hf : Frame w w1 own own1) (h : Upd w1 B f own1 S' w') : Upd w B f own S' w' := by
  obtain ⟨o, p, h1, h2⟩ := h
  exact ⟨o, p, h1, hf.trans h2⟩
theorem Upd.then_below {w w1 w' : World} {B f : Nat} {own : Nat → Option Int} {S' : FSt} (h : Upd w B f own S' w1) (hb : Below w1.heap.size w1 w') : Upd w B f own S' w' := by
  obtain ⟨o, p, h1, h2⟩ := h
  exact ⟨o, p, h1.of_below hb, h2.trans (Frame.of_below hb)⟩
section
variable {w : World} {B f : Nat} {own : Nat → Option Int} {Ph : Phys} {S : FSt}
theorem actCells_len (a : Act8) : (actCells a).length = 8 := rfl
theorem rep_trace (h : FSRep w B f own Ph S) (a : Act8) {w3 : World} {v : Value} {g : Nat} (hs : w.heap.size ≤ w3.heap.size) (hf : w3.heap[f]? = some (.cells (topCells S { Ph with tv := v }) 73 (0, 0)))
    (hrest : ∀ b n, own b = some n → b ≠ f → Ph.tv.ownBlock ≠ some b → w3.heap[b]? = w.heap[b]?) (hrow : w3.ownsRow B 91 8 v (S.trace.length + 1) (S.trace.flatMap actCells ++ actCells a)) (hg : v.ownBlock = some g)
    (hgo : own g = some (-1) ∨ w.heap.size ≤ g) : FSRep w3 B f (fun b => if b = g then some (-1) else own b) { Ph with tv := v } (doneS S a) := by
  have hglt := hrow.lt g hg
  have hpos : ∀ n, n ∈ akeys S.inodes → n ≠ -1 := fun n hn => by have := h.pos n hn; omega
  have hneg : ∀ b n, own b = some n → n ≠ -1 → b ≠ g := fun b n hb hn e => by
    subst e
    rcases hgo with hg' | hg'
    · rw [hb] at hg'; exact hn (Option.some.inj hg')
    · have := (h.below b n hb).2; omega
  have hkeep : ∀ b n, own b = some n → n ≠ -1 → w3.heap[b]? = w.heap[b]? := fun b n hb hn => hrest b n hb (fun e => by subst e; rw [h.okf] at hb; exact hn (Option.some.inj hb).symm) (fun e => by have := h.trace.ok b e; rw [hb] at this; exact hn (Option.some.inj this))
  have hmbf : Ph.mb ≠ f := fun e => by
    obtain ⟨es, clock, hm, _⟩ := h.map
    rw [e, h.top] at hm
    cases hm
  have hmbt : Ph.tv.ownBlock ≠ some Ph.mb := fun e => by
    obtain ⟨es, clock, hm, _⟩ := h.map
    rcases h.trace.own.2 with ⟨h1, _⟩ | ⟨g', cap, cur, h1, _, h2, _⟩
    · rw [h1] at e; simp [Value.ownBlock] at e
    · rw [h1] at e
      simp [Value.ownBlock] at e
      rw [e, hm] at h2
      cases h2
  refine ⟨fun b n hb => ?_, hf, ?_, ?_, h.map.of_block (hrest _ _ h.okm hmbf hmbt), ⟨?_, fun k hk => ?_⟩, fun n i hi => ?_, h.nodup, h.pos⟩
  · by_cases e : b = g
    · subst e; exact hglt
    · simp only [if_neg e] at hb
      exact ⟨(h.below b n hb).1, Nat.lt_of_lt_of_le (h.below b n hb).2 hs⟩
  · split
    · rfl
    · exact h.okf
  · split
    · rfl
    · exact h.okm
  · have : (doneS S a).trace = S.trace ++ [a] := rfl
    rw [this, List.length_append, List.flatMap_append]
    simpa using hrow
  · have : k = g := by have := hg.symm.trans hk; exact (Option.some.inj this).symm
    rw [if_pos this]
  · have hn := hpos n (by
      have := aget_mem hi
      exact List.mem_map.2 ⟨_, this, rfl⟩)
    refine (h.inos n i hi).move fun k hk => ⟨hkeep k n hk hn, ?_⟩
    rw [if_neg (hneg k n hk hn)]
    exact hk
def actZero : Value := .agg #[.int .i64 0, .int .i64 0, .string ⟨#[]⟩, .int .i64 0, .int .i64 0, .string ⟨#[]⟩, .int .i64 0, .int .i64 0]
theorem infoAct : (Tryz.prog.info? 91).map (fun i => (i.zero, i.size, i.bytes)) = some (some actZero, 8, 80) := by kernel_rfl
def actV (a : Act8) : Value := .agg #[.int .i64 a.op, .int .i64 a.dir, .string a.name, .int .i64 a.node, .int .i64 a.to, .string a.other, .int .i64 a.at_, .int .i64 a.n]
theorem heap_two (w : World) (o1 o2 : Obj) : ((w.alloc o1).alloc o2).heap[w.heap.size + 1]? = some o2 := by
  have := (MapKept.heap_alloc (w.alloc o1) o2).1
  simpa using this
theorem FSRep.f_ne (h : FSRep w B f own Ph S) : some f ≠ Ph.tv.ownBlock := fun e => by
  rcases h.trace.own.2 with ⟨h1, _⟩ | ⟨g', cap, cur, h1, _, h2, _⟩
  · rw [h1] at e; simp [Value.ownBlock] at e
  · rw [h1] at e
    simp [Value.ownBlock] at e
    rw [← e, h.top] at h2
    simp at h2
/-- Behind the append and the store into the file system's own struct. -/
theorem done_end (h : FSRep w B f own Ph S) (a : Act8) {W w2 : World} {g cap : Nat} (hW : Below w.heap.size w W) (hown : w2.ownsRow B 91 8 (.slice (some ⟨g, 0, none⟩) (S.trace.length + 1) cap) (S.trace.length + 1) (S.trace.flatMap actCells ++ actCells a))
    (hgrow : W.grownBy w2 Ph.tv.ownBlock) (hat : Ph.tv.ownBlock = some g ∨ w.heap.size ≤ g) : Upd w B f own (doneS S a) (w2.setCell ⟨f, 5, none⟩ (.slice (some ⟨g, 0, none⟩) (S.trace.length + 1) cap)) := by
  have hf2 : w2.heap[f]? = some (.cells (topCells S Ph) 73 (0, 0)) := by
    rw [hgrow.block f (Nat.lt_of_lt_of_le h.f_lt hW.size) h.f_ne, hW.block f h.f_lt]; exact h.top
  have hgf : g ≠ f := fun e => by
    subst e
    rcases hat with e | e
    · exact h.f_ne e.symm
    · have := h.f_lt; omega
  have hsz : (w2.setCell ⟨f, 5, none⟩ (.slice (some ⟨g, 0, none⟩) (S.trace.length + 1) cap)).heap.size = w2.heap.size := by simp [World.setCell]
  have hle : w.heap.size ≤ w2.heap.size := Nat.le_trans hW.size hgrow.size
  refine ⟨fun b => if b = g then some (-1) else own b, { Ph with tv := .slice (some ⟨g, 0, none⟩) (S.trace.length + 1) cap }, rep_trace h a (g := g) (by rw [hsz]; exact hle) ?_ (fun b n hb hbf hbt => ?_) ?_ rfl ?_, ⟨hgrow.os.trans hW.os, hgrow.tape.trans hW.tape, hgrow.output.trans hW.output, by rw [hsz]; exact hle, fun b hb ho => ?_⟩⟩
  · simp only [World.setCell, Array.getElem?_modify, if_pos, hf2, Option.map_some]
    rfl
  · rw [Below.heap_setCell _ _ _ _ (by simpa using hbf), hgrow.block b (Nat.lt_of_lt_of_le (h.below b n hb).2 hW.size) (fun e => hbt e.symm), hW.block b (h.below b n hb).2]
  · exact own_move hown fun k hk => by
      have : k = g := by simpa [Value.ownBlock] using hk.symm
      rw [Below.heap_setCell _ _ _ _ (by subst this; simpa using hgf)]
  · rcases hat with e | e
    · exact .inl (h.trace.ok g e)
    · exact .inr e
  · have hbf : b ≠ f := fun e => by subst e; rw [h.okf] at ho; cases ho
    have hbt : Ph.tv.ownBlock ≠ some b := fun e => by have := h.trace.ok b e; rw [ho] at this; cases this
    refine ⟨by rw [Below.heap_setCell _ _ _ _ (by simpa using hbf), hgrow.block b (Nat.lt_of_lt_of_le hb hW.size) (fun e => hbt e.symm), hW.block b hb], ?_⟩
    rw [if_neg (fun e => by
      subst e
      rcases hat with e | e
      · exact hbt e
      · omega)]
    exact ho
end
end Go.Proofs.YtphbbcjmnlamaaaGreatV
