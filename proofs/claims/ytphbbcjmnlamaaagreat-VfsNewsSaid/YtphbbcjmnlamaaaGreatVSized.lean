/- vfs: sized. -/
import Derived.Test.YtphbbcjmnlamaaaGreatVLink
import Derived.Test.YtphbbcjmnlamaaaGreatVStat
import Derived.Test.YtphbbcjmnlamaaaGreatVZeros
import Derived.Test.YtphbbcjmnlamaaaGreatClone
namespace Go.Proofs.YtphbbcjmnlamaaaGreatV
open Go.RowKit
set_option linter.unusedVariables false
set_option linter.unusedSimpArgs false
section
variable {w : World} {B f : Nat} {own : Nat → Option Int} {Ph : Phys} {S : FSt}
theorem infoByte : (Tryz.prog.info? 5).map (fun i => (i.zero, i.size, i.bytes)) = some (some (.int .u8 0), 1, 1) := by kernel_rfl
/-- What a call makes of a file system; the inodes stay where they are. -/
def UpdI (w : World) (B f : Nat) (own : Nat → Option Int) (ib : Int → Nat) (S' : FSt) (w' : World) : Prop := ∃ own' Ph', FSRep w' B f own' Ph' S' ∧ Frame w w' own own' ∧ Ph'.ib = ib
def newOwn (own : Nat → Option Int) (v : Value) (n : Int) : Nat → Option Int := fun b => if v.ownBlock = some b then some n else own b
theorem owns_ge {w : World} {base : Nat} {e : TypeId} {size n : Nat} {v : Value} {xs : List Value} (h : w.ownsRow base e size v n xs) {g : Nat} (hg : v.ownBlock = some g) : base ≤ g := by
  rcases h.2 with ⟨rfl, _⟩ | ⟨g', cap, cur, rfl, h1, _⟩
  · simp [Value.ownBlock] at hg
  · simp [Value.ownBlock] at hg
    omega
/-- A file's bytes: another row. -/
theorem FSRep.data_end (h : FSRep w B f own Ph S) {n : Int} {i : Ino} (hi : aget n S.inodes = some i) {w2 : World} {v : Value} (d : List Int) (hown : w2.ownsRow B 5 1 v d.length (byteCells d))
    (hgrow : w.grownBy w2 (Ph.dv n).ownBlock) (hat : ∀ g, v.ownBlock = some g → (Ph.dv n).ownBlock = some g ∨ w.heap.size ≤ g) :
    FSRep (w2.setCell ⟨Ph.ib n, 6, none⟩ v) B f (newOwn own v n) (Ph.at n v (Ph.ev n)) (setIno S n { i with data := d }) ∧ Frame w (w2.setCell ⟨Ph.ib n, 6, none⟩ v) own (newOwn own v n) := by
  have hI := h.inos n i hi
  have hT := Turned.setCell w2 (Ph.ib n) 6 v
  have hib2 : w2.heap[Ph.ib n]? = some (.cells (inoCells i (Ph.dv n) (Ph.ev n)) 77 (0, 0)) := (hgrow.block _ (h.lt hI.ok) (fun e => hI.data_ne e.symm)).trans hI.cells
  have hsz : w.heap.size ≤ (w2.setCell ⟨Ph.ib n, 6, none⟩ v).heap.size := by rw [hT.size]; exact hgrow.size
  have hblk : ∀ b, b < w.heap.size → b ≠ Ph.ib n → (Ph.dv n).ownBlock ≠ some b → (w2.setCell ⟨Ph.ib n, 6, none⟩ v).heap[b]? = w.heap[b]? := fun b h1 h2 h3 => (hT.block b h2).trans (hgrow.block b h1 (fun e => h3 e.symm))
  have hvib : v.ownBlock ≠ some (Ph.ib n) := fun e => by
    rcases hat _ e with e' | e'
    · exact hI.data_ne e'
    · have := h.lt hI.ok; omega
  have hkeep : ∀ b m, own b = some m → m ≠ n → (w2.setCell ⟨Ph.ib n, 6, none⟩ v).heap[b]? = w.heap[b]? ∧ newOwn own v n b = some m := fun b m ho hm => by
    have h3 : (Ph.dv n).ownBlock ≠ some b := fun e => by have := hI.data.ok b e; rw [ho] at this; exact hm (Option.some.inj this)
    refine ⟨hblk b (h.lt ho) (fun e => by rw [e, hI.ok] at ho; exact hm (Option.some.inj ho).symm) h3, ?_⟩
    unfold newOwn
    rw [if_neg (fun e => by
      rcases hat _ e with e' | e'
      · exact h3 e'
      · have := h.lt ho; omega)]
    exact ho
  have hsame : ∀ b, own b = some n → newOwn own v n b = some n := fun b hb => by unfold newOwn; split <;> first | rfl | exact hb
  refine ⟨h.ino_set hi hsz hkeep (fun b m ho => ?_) ⟨(heap_setCell_at hib2 6 v).trans rfl, hsame _ hI.ok, ⟨own_move hown fun k hk => hT.block k fun e => hvib (by rw [hk, e]), fun k hk => if_pos hk⟩, ?_⟩, ⟨hgrow.os, hgrow.tape, hgrow.output, hsz, fun b hb ho => ⟨hblk b hb (fun e => by rw [e, hI.ok] at ho; cases ho) (fun e => by have := hI.data.ok b e; rw [ho] at this; cases this), ?_⟩⟩⟩
  · unfold newOwn at ho
    split at ho
    · rename_i hv
      exact ⟨owns_ge hown hv, by rw [hT.size]; exact (hown.lt b hv).2⟩
    · exact ⟨(h.below b m ho).1, Nat.lt_of_lt_of_le (h.below b m ho).2 hsz⟩
  · rcases hI.ents with ⟨h1, eb, h2, h3, h4⟩ | h1
    · refine .inl ⟨h1, eb, h2, hsame eb h3, h4.of_block (hblk eb (h.lt h3) (fun e => ?_) fun e => ?_)⟩
      · obtain ⟨es, clock, hm, _⟩ := h4
        rw [e, hI.cells] at hm
        cases hm
      · obtain ⟨es, clock, hm, _⟩ := h4
        rcases hI.data.own.2 with ⟨h1, _⟩ | ⟨g', cap, cur, h1, _, h2, _⟩
        · rw [h1] at e; simp [Value.ownBlock] at e
        · rw [h1] at e
          simp [Value.ownBlock] at e
          rw [e, hm] at h2
          cases h2
    · exact .inr h1
  · unfold newOwn
    rw [if_neg (fun e => by
      rcases hat _ e with e' | e'
      · have := hI.data.ok b e'; rw [ho] at this; cases this
      · omega)]
    exact ho
theorem byteCells_take (l : List Int) (k : Nat) : byteCells (l.take k) = (byteCells l).take k := List.map_take
theorem clone_bytes {v : Value} {n : Nat} {xs : List Value} (h : w.ownsRow B 5 1 v n xs) (h1 : ∀ u ∈ xs, u.oneCell' = true) (a : Option Addr) (c k : Nat) (hv : v = .slice a n c) (hk : k ≤ n) (hn : n ≤ 4194304) (c' : Nat) :
    Calls Tryz.prog 31 #[.slice a k c'] w fun e w' => ∃ v', e = .returned v' ∧ w'.ownsRow w.heap.size 5 1 v' k (xs.take k) ∧ Below w.heap.size w w' := by
  subst hv
  obtain ⟨i0, hi, hz0, hz1, hz2⟩ := info_parts infoByte
  rcases h.2 with ⟨h2, h3⟩ | ⟨g, cap, cur, h2, h3, h4, h5⟩
  · simp only [Value.slice.injEq] at h2
    obtain ⟨rfl, _, rfl⟩ := h2
    have : k = 0 := by omega
    subst this
    refine (Tryz.slices_Clone_nil_uint8 0 c' w).mono ?_
    rintro e w' ⟨rfl, rfl⟩
    exact ⟨_, rfl, ⟨by simp, .inl ⟨rfl, rfl⟩⟩, Below.refl _ _⟩
  · simp only [Value.slice.injEq] at h2
    obtain ⟨rfl, _, rfl⟩ := h2
    have hlen : (xs.take k).length = k * 1 := by have := h.1; simp; omega
    refine (Tryz.slices_Clone_uint8 i0 (.int .u8 0) 1 1 hi hz0 hz1 hz2 rfl (by decide) Tryz.sizeOf5 g 0 k c' (xs.take k) w hlen (by unfold maxLen; omega) (by omega) (fun j u hu => ?_) (fun u hu => h1 u (List.mem_of_mem_take hu))).mono ?_
    · have hu' : xs[j]? = some u := by
        rw [List.getElem?_take] at hu
        split at hu
        · exact hu
        · cases hu
      have := h.cells (g := g) rfl j u hu'
      rw [Addr.add_lit] at this
      exact this
    · rintro e w' ⟨v', rfl, r1, _, r2⟩
      exact ⟨v', rfl, r1, r2⟩
theorem owns_base {w : World} {base base' : Nat} {e : TypeId} {size n : Nat} {v : Value} {xs : List Value} (h : w.ownsRow base e size v n xs) (hb : base' ≤ base) : w.ownsRow base' e size v n xs := by
  obtain ⟨h1, h2⟩ := h
  refine ⟨h1, ?_⟩
  rcases h2 with h2 | ⟨g, cap, cur, r1, r2, r3⟩
  · exact .inl h2
  · exact .inr ⟨g, cap, cur, r1, Nat.le_trans hb r2, r3⟩
theorem Below.grownBy' {w w' : World} (h : Below w.heap.size w w') (row : Option Nat) : w.grownBy w' row := ⟨h.os, h.tape, h.output, h.size, fun k hk _ => h.block k hk⟩
theorem owns_slice {w : World} {base : Nat} {e : TypeId} {size n : Nat} {v : Value} {xs : List Value} (h : w.ownsRow base e size v n xs) : ∃ a c, v = .slice a n c := by
  rcases h.2 with ⟨rfl, rfl⟩ | ⟨g, cap, cur, rfl, _⟩
  · exact ⟨none, 0, rfl⟩
  · exact ⟨_, cap, rfl⟩
theorem byteCells_len (l : List Int) : (byteCells l).length = l.length := List.length_map _
theorem byteCells_app (l m : List Int) : byteCells (l ++ m) = byteCells l ++ byteCells m := List.map_append
theorem byteCells_zeros (k : Nat) : byteCells (List.replicate k 0) = List.replicate k (.int .u8 0) := List.map_replicate
/-- The last step of 'sized'. -/
theorem sized_end (h : FSRep w B f own Ph S) (us : Int) {n : Int} {i : Ino} (hi : aget n S.inodes = some i) {w2 w3 : World} (hw2 : Below w.heap.size w w2) {v : Value} (d : List Int) (hown : w3.ownsRow B 5 1 v d.length (byteCells d))
    (hgrow : (w2.setCell ⟨f, 3, none⟩ (.int .i64 us)).grownBy w3 (Ph.dv n).ownBlock) (hat : ∀ g, v.ownBlock = some g → (Ph.dv n).ownBlock = some g ∨ w2.heap.size ≤ g) : UpdI w B f own Ph.ib (setIno { S with used := us } n { i with data := d }) (w3.setCell ⟨Ph.ib n, 6, none⟩ v) := by
  have h2 := (h.of_below hw2).used_set us
  have hsz := (Turned.setCell w2 f 3 (.int .i64 us)).size
  obtain ⟨e1, e2⟩ := h2.data_end hi d hown hgrow (fun g hg => by rw [hsz]; exact hat g hg)
  exact ⟨_, _, e1, (Frame.of_below hw2).trans ((Frame.of_turned (Turned.setCell w2 f 3 (.int .i64 us)) (by rw [h.okf]; simp)).trans e2), rfl⟩
theorem byteCells_one (l : List Int) : ∀ u ∈ byteCells l, u.oneCell' = true := fun u hu => by
  obtain ⟨z, _, rfl⟩ := List.mem_map.1 hu
  rfl
theorem resized_le {d : List Int} {k : Nat} (h : k ≤ d.length) : resized d k = d.take k := by
  unfold resized
  rw [Nat.sub_eq_zero_of_le h]
  simp
theorem resized_ge {d : List Int} {k : Nat} (h : d.length ≤ k) : resized d k = d ++ List.replicate (k - d.length) 0 := by
  unfold resized
  rw [List.take_of_length_le h]
theorem sizedS_no {node : Int} {i : Ino} {size : Int} (h : size - i.data.length > S.bytes - S.used) : sizedS S node i size = (105, S) := by unfold sizedS; rw [if_pos h]
theorem sizedS_ok {node : Int} {i : Ino} {size : Int} (h : ¬ (size - i.data.length > S.bytes - S.used)) : sizedS S node i size = (0, setIno { S with used := S.used + (size - i.data.length) } node { i with data := resized i.data size.toNat }) := by unfold sizedS; rw [if_neg h]
end
end Go.Proofs.YtphbbcjmnlamaaaGreatV
