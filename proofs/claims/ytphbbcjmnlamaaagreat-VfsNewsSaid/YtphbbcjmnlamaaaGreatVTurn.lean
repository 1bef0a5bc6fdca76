/- vfs: how a file system's state turns. -/
import Derived.Test.YtphbbcjmnlamaaaGreatVDone
namespace Go.Proofs.YtphbbcjmnlamaaaGreatV
open Go.RowKit
set_option linter.unusedVariables false
set_option linter.unusedSimpArgs false
theorem adopt_map {κ ν μ : Type} [DecidableEq κ] (g : κ → μ) (l : List (κ × ν)) : l.map (fun p => (p.1, g p.1)) = (akeys l).map fun k => (k, g k) := by
  unfold akeys
  rw [List.map_map]
  rfl
theorem aget_mem_keys {κ ν : Type} [DecidableEq κ] {k : κ} {v : ν} {l : List (κ × ν)} (h : aget k l = some v) : k ∈ akeys l := List.mem_map.2 ⟨_, aget_mem h, rfl⟩
/-- A map's rows of a state where one number's value is put anew, or for the first time. -/
theorem rows_aset {κ ν μ : Type} [DecidableEq κ] (k : κ) (v : ν) (g : κ → μ) : ∀ (l : List (κ × ν)), (aset k v l).map (fun p => (p.1, g p.1)) = aset k (g k) (l.map fun p => (p.1, g p.1))
  | [] => rfl
  | p :: l => by
    have ih := rows_aset k v g l
    simp only [aset, List.map_cons]
    by_cases hp : p.1 = k
    · rw [if_pos hp, if_pos hp]; rfl
    · rw [if_neg hp, if_neg hp, List.map_cons, ih]
theorem aset_same {κ ν : Type} [DecidableEq κ] {k : κ} {v : ν} : ∀ {l : List (κ × ν)}, aget k l = some v → aset k v l = l
  | [], h => by simp [aget] at h
  | p :: l, h => by
    simp only [aget, aset] at h ⊢
    split at h
    · rename_i hp
      rw [if_pos hp]
      obtain ⟨a, b⟩ := p
      cases h
      cases hp
      rfl
    · rename_i hp
      rw [if_neg hp, aset_same h]
theorem rows_adel {κ ν μ : Type} [DecidableEq κ] (k : κ) (g : κ → μ) : ∀ (l : List (κ × ν)), (adel k l).map (fun p => (p.1, g p.1)) = adel k (l.map fun p => (p.1, g p.1))
  | [] => rfl
  | p :: l => by
    have ih := rows_adel k g l
    simp only [adel, List.map_cons]
    by_cases hp : p.1 = k
    · rw [if_pos hp, if_pos hp]
    · rw [if_neg hp, if_neg hp, List.map_cons, ih]
section
variable {w : World} {B f : Nat} {own : Nat → Option Int} {Ph : Phys} {S : FSt}
theorem FSRep.lt (h : FSRep w B f own Ph S) {b : Nat} {m : Int} (ho : own b = some m) : b < w.heap.size := (h.below b m ho).2
theorem FSRep.mb_ne (h : FSRep w B f own Ph S) : Ph.mb ≠ f := fun e => by
  obtain ⟨es, clock, hm, _⟩ := h.map
  rw [e, h.top] at hm
  cases hm
theorem FSRep.ino_neg (h : FSRep w B f own Ph S) {n : Int} {i : Ino} (hi : aget n S.inodes = some i) : n ≠ -1 := fun e => by
  have := h.pos n (aget_mem_keys hi)
  omega
theorem FSRep.ino_ne (h : FSRep w B f own Ph S) {n : Int} {i : Ino} (hi : aget n S.inodes = some i) {k : Nat} (hk : own k = some n) : k ≠ f := fun e => by
  rw [e, h.okf] at hk
  exact h.ino_neg hi (Option.some.inj hk).symm
theorem FSRep.tv_ne (h : FSRep w B f own Ph S) {k : Nat} (hk : Ph.tv.ownBlock = some k) : k ≠ f := fun e => h.f_ne (by rw [hk, e])
theorem FSRep.tv_mb (h : FSRep w B f own Ph S) {k : Nat} (hk : Ph.tv.ownBlock = some k) : k ≠ Ph.mb := fun e => by
  obtain ⟨es, clock, hm, _⟩ := h.map
  rcases h.trace.own.2 with ⟨h1, _⟩ | ⟨g', cap, cur, h1, _, h2, _⟩
  · rw [h1] at hk; simp [Value.ownBlock] at hk
  · rw [h1] at hk
    simp [Value.ownBlock] at hk
    rw [hk, e, hm] at h2
    cases h2
/-- The numbers of the file system's own struct. -/
theorem FSRep.top_set (h : FSRep w B f own Ph S) (nx us : Int) {w' : World} (hs : w.heap.size ≤ w'.heap.size) (hb : ∀ b, b < w.heap.size → b ≠ f → w'.heap[b]? = w.heap[b]?)
    (hf : w'.heap[f]? = some (.cells (topCells { S with next := nx, used := us } Ph) 73 (0, 0))) : FSRep w' B f own Ph { S with next := nx, used := us } := by
  refine ⟨fun b n ho => ⟨(h.below b n ho).1, Nat.lt_of_lt_of_le (h.below b n ho).2 hs⟩, hf, h.okf, h.okm, h.map.of_block (hb _ (h.lt h.okm) h.mb_ne), ⟨own_move h.trace.own fun k hk => hb k (h.lt (h.trace.ok k hk)) (h.tv_ne hk), h.trace.ok⟩,
    fun n i hi => (h.inos n i hi).move fun k hk => ⟨hb k (h.lt hk) (h.ino_ne hi hk), hk⟩, h.nodup, h.pos⟩
def Phys.at (Ph : Phys) (n : Int) (dv ev : Value) : Phys := { Ph with dv := fun m => if m = n then dv else Ph.dv m, ev := fun m => if m = n then ev else Ph.ev m }
/-- One inode has turned. -/
theorem FSRep.ino_set (h : FSRep w B f own Ph S) {n : Int} {i i' : Ino} (hi : aget n S.inodes = some i) {own' : Nat → Option Int} {dv ev : Value} {w' : World} (hs : w.heap.size ≤ w'.heap.size)
    (hkeep : ∀ b m, own b = some m → m ≠ n → w'.heap[b]? = w.heap[b]? ∧ own' b = some m) (hbelow : ∀ b m, own' b = some m → B ≤ b ∧ b < w'.heap.size)
    (hI : InoAt w' B own' n (Ph.ib n) dv ev i') : FSRep w' B f own' (Ph.at n dv ev) (setIno S n i') := by
  have hn := (h.ino_neg hi).symm
  refine ⟨hbelow, (hkeep f _ h.okf hn).1.trans h.top, (hkeep f _ h.okf hn).2, (hkeep _ _ h.okm hn).2, ?_, h.trace.move fun k hk => hkeep k _ hk hn, fun m j hj => ?_, aset_nodup h.nodup, fun m hm => ?_⟩
  · have hr := h.map.of_block (hkeep _ _ h.okm hn).1
    show MapAt keyInt encPtr w' Ph.mb ((aset n i' S.inodes).map fun p => (p.1, Ph.ib p.1))
    rw [rows_aset, aset_same (by rw [aget_map, hi]; rfl)]
    exact hr
  · have hj' : (if n = m then some i' else aget m S.inodes) = some j := (aget_aset n m i' S.inodes).symm.trans hj
    by_cases e : n = m
    · subst e
      rw [if_pos rfl] at hj'
      cases hj'
      simpa [Phys.at] using hI
    · rw [if_neg e] at hj'
      have : InoAt w' B own' m (Ph.ib m) (Ph.dv m) (Ph.ev m) j := (h.inos m j hj').move fun k hk => hkeep k m hk (fun e' => e e'.symm)
      simpa [Phys.at, if_neg (fun e' : m = n => e e'.symm)] using this
  · have hm' := hm
    rw [show akeys (setIno S n i').inodes = _ from akeys_aset n i' S.inodes, if_pos (aget_mem_keys hi)] at hm'
    exact h.pos m hm'
/-- A number in an inode's struct. -/
theorem FSRep.cell_set (h : FSRep w B f own Ph S) {n : Int} {i i' : Ino} (hi : aget n S.inodes = some i) (hk : i'.kind = i.kind) (hd : i'.data = i.data) (he : i'.ents = i.ents) {w' : World} (hs : w.heap.size ≤ w'.heap.size)
    (hb : ∀ b, b < w.heap.size → b ≠ Ph.ib n → w'.heap[b]? = w.heap[b]?) (hc : w'.heap[Ph.ib n]? = some (.cells (inoCells i' (Ph.dv n) (Ph.ev n)) 77 (0, 0))) : FSRep w' B f own (Ph.at n (Ph.dv n) (Ph.ev n)) (setIno S n i') := by
  have hI := h.inos n i hi
  refine h.ino_set hi hs (fun b m ho hm => ⟨hb b (h.lt ho) (fun e => hm ?_), ho⟩) (fun b m ho => ⟨(h.below b m ho).1, Nat.lt_of_lt_of_le (h.below b m ho).2 hs⟩) ⟨hc, hI.ok, ?_, ?_⟩
  · rw [e, hI.ok] at ho
    exact (Option.some.inj ho).symm
  · rw [hd]
    refine ⟨own_move hI.data.own fun k hk => hb k (h.lt (hI.data.ok k hk)) fun e => ?_, hI.data.ok⟩
    rcases hI.data.own.2 with ⟨h1, _⟩ | ⟨g', cap, cur, h1, _, h2, _⟩
    · rw [h1] at hk; simp [Value.ownBlock] at hk
    · rw [h1] at hk
      simp [Value.ownBlock] at hk
      rw [hk, e, hI.cells] at h2
      simp at h2
  · rcases hI.ents with ⟨h1, eb, h2, h3, h4⟩ | ⟨h1, h2, h3⟩
    · refine .inl ⟨hk.trans h1, eb, h2, h3, ?_⟩
      rw [he]
      refine h4.of_block (hb eb (h.lt h3) fun e => ?_)
      obtain ⟨es, clock, hm, _⟩ := h4
      rw [e, hI.cells] at hm
      cases hm
    · exact .inr ⟨fun e => h1 (hk.symm.trans e), h2, he.trans h3⟩
/-- A directory's entries. -/
theorem FSRep.ents_set (h : FSRep w B f own Ph S) {n : Int} {i : Ino} (hi : aget n S.inodes = some i) (hk : i.kind = 1) {eb : Nat} (he : Ph.ev n = .map (some eb)) (m' : List (ByteArray × Int)) {w' : World} (ht : Turned w w' eb)
    (hm : MapAt keyStr (Value.int .i64) w' eb m') : FSRep w' B f own (Ph.at n (Ph.dv n) (Ph.ev n)) (setIno S n { i with ents := m' }) := by
  have hI := h.inos n i hi
  obtain ⟨eb', he', ho', hM⟩ := hI.dir hk
  have : eb' = eb := by
    rw [he] at he'
    simpa using he'.symm
  subst this
  refine h.ino_set hi (Nat.le_of_eq ht.size.symm) (fun b m ho hmn => ⟨ht.block b (fun e => hmn ?_), ho⟩) (fun b m ho => ⟨(h.below b m ho).1, by rw [ht.size]; exact (h.below b m ho).2⟩) ⟨(ht.block _ fun e => ?_).trans hI.cells, hI.ok, ?_, .inl ⟨hk, eb', he, ho', hm⟩⟩
  · rw [e, ho'] at ho
    exact (Option.some.inj ho).symm
  · obtain ⟨es, clock, hm', _⟩ := hM
    rw [← e, hI.cells] at hm'
    cases hm'
  · refine ⟨own_move hI.data.own fun k hk' => ht.block k fun e => ?_, hI.data.ok⟩
    obtain ⟨es, clock, hm', _⟩ := hM
    rcases hI.data.own.2 with ⟨h1, _⟩ | ⟨g', cap, cur, h1, _, h2, _⟩
    · rw [h1] at hk'; simp [Value.ownBlock] at hk'
    · rw [h1] at hk'
      simp [Value.ownBlock] at hk'
      rw [hk', e, hm'] at h2
      cases h2
def Phys.new (Ph : Phys) (n : Int) (ib : Nat) (dv ev : Value) : Phys := { Ph with ib := fun m => if m = n then ib else Ph.ib m, dv := fun m => if m = n then dv else Ph.dv m, ev := fun m => if m = n then ev else Ph.ev m }
/-- A new inode. -/
theorem FSRep.ino_new (h : FSRep w B f own Ph S) {n : Int} {i : Ino} (hn : aget n S.inodes = none) (hp : 0 < n) {ib : Nat} {dv ev : Value} (hI : InoAt w B own n ib dv ev i) {w' : World} (ht : Turned w w' Ph.mb)
    (hm : MapAt keyInt encPtr w' Ph.mb (aset n ib (S.inodes.map fun p => (p.1, Ph.ib p.1)))) : FSRep w' B f own (Ph.new n ib dv ev) (setIno S n i) := by
  have hne : ∀ k, k ∈ akeys S.inodes → k ≠ n := fun k hk e => by subst e; exact (aget_none_iff.1 hn) hk
  have hkeep : ∀ b m, own b = some m → m ≠ -1 → w'.heap[b]? = w.heap[b]? ∧ own b = some m := fun b m ho hm => ⟨ht.block b fun e => by rw [e, h.okm] at ho; exact hm (Option.some.inj ho).symm, ho⟩
  refine ⟨fun b m ho => ⟨(h.below b m ho).1, by rw [ht.size]; exact (h.below b m ho).2⟩, (ht.block f (Ne.symm h.mb_ne)).trans h.top, h.okf, h.okm, ?_, ⟨own_move h.trace.own fun k hk => ht.block k (h.tv_mb hk), h.trace.ok⟩, fun m j hj => ?_, aset_nodup h.nodup, fun m hm => ?_⟩
  · show MapAt keyInt encPtr w' Ph.mb ((aset n i S.inodes).map fun p => (p.1, if p.1 = n then ib else Ph.ib p.1))
    rw [rows_aset n i (fun k => if k = n then ib else Ph.ib k) S.inodes, if_pos rfl]
    have : (S.inodes.map fun p => (p.1, if p.1 = n then ib else Ph.ib p.1)) = S.inodes.map fun p => (p.1, Ph.ib p.1) := List.map_congr_left fun p hp => by
      show (p.1, if p.1 = n then ib else Ph.ib p.1) = _
      rw [if_neg (hne p.1 (List.mem_map.2 ⟨p, hp, rfl⟩))]
    rw [this]
    exact hm
  · have hj' : (if n = m then some i else aget m S.inodes) = some j := (aget_aset n m i S.inodes).symm.trans hj
    by_cases e : n = m
    · subst e
      rw [if_pos rfl] at hj'
      cases hj'
      have : InoAt w' B own n ib dv ev i := hI.move fun k hk => hkeep k n hk (by omega)
      simpa [Phys.new] using this
    · rw [if_neg e] at hj'
      have : InoAt w' B own m (Ph.ib m) (Ph.dv m) (Ph.ev m) j := (h.inos m j hj').move fun k hk => hkeep k m hk (h.ino_neg hj')
      simpa [Phys.new, if_neg (fun e' : m = n => e e'.symm)] using this
  · have hm' : m ∈ akeys (aset n i S.inodes) := hm
    rw [akeys_aset, if_neg (aget_none_iff.1 hn), List.mem_append] at hm'
    rcases hm' with h1 | h1
    · exact h.pos m h1
    · rw [List.mem_singleton.1 h1]; exact hp
/-- An inode goes. -/
theorem FSRep.ino_drop (h : FSRep w B f own Ph S) (n : Int) {w' : World} (ht : Turned w w' Ph.mb) (hm : MapAt keyInt encPtr w' Ph.mb (adel n (S.inodes.map fun p => (p.1, Ph.ib p.1)))) : FSRep w' B f own Ph { S with inodes := adel n S.inodes } := by
  have hkeep : ∀ b m, own b = some m → m ≠ -1 → w'.heap[b]? = w.heap[b]? ∧ own b = some m := fun b m ho hm => ⟨ht.block b fun e => by rw [e, h.okm] at ho; exact hm (Option.some.inj ho).symm, ho⟩
  refine ⟨fun b m ho => ⟨(h.below b m ho).1, by rw [ht.size]; exact (h.below b m ho).2⟩, (ht.block f (Ne.symm h.mb_ne)).trans h.top, h.okf, h.okm, ?_, ⟨own_move h.trace.own fun k hk => ht.block k (h.tv_mb hk), h.trace.ok⟩, fun m j hj => ?_, adel_nodup h.nodup, fun m hm => ?_⟩
  · show MapAt keyInt encPtr w' Ph.mb ((adel n S.inodes).map fun p => (p.1, Ph.ib p.1))
    rw [rows_adel]
    exact hm
  · have hj' : (if n = m then none else aget m S.inodes) = some j := (aget_adel m h.nodup).symm.trans hj
    by_cases e : n = m
    · rw [if_pos e] at hj'; cases hj'
    · rw [if_neg e] at hj'
      exact (h.inos m j hj').move fun k hk => hkeep k m hk (h.ino_neg hj')
  · obtain ⟨p, hp, rfl⟩ := List.mem_map.1 hm
    exact h.pos _ (List.mem_map.2 ⟨p, (adel_sub n S.inodes).subset hp, rfl⟩)
/-- New blocks are taken in for a number. -/
theorem FSRep.adopt (h : FSRep w B f own Ph S) {own' : Nat → Option Int} {w' : World} (hs : w.heap.size ≤ w'.heap.size) (hb : ∀ b, b < w.heap.size → w'.heap[b]? = w.heap[b]?) (ho : ∀ b m, own b = some m → own' b = some m) (hl : ∀ b m, own' b = some m → B ≤ b ∧ b < w'.heap.size) : FSRep w' B f own' Ph S := by
  have hm : ∀ b m, own b = some m → w'.heap[b]? = w.heap[b]? ∧ own' b = some m := fun b m hb' => ⟨hb b (h.lt hb'), ho b m hb'⟩
  exact ⟨hl, (hm f _ h.okf).1.trans h.top, ho _ _ h.okf, ho _ _ h.okm, h.map.of_block (hm _ _ h.okm).1, h.trace.move fun k hk => hm k _ hk, fun n i hi => (h.inos n i hi).move fun k hk => hm k _ hk, h.nodup, h.pos⟩
theorem Frame.of_turned {w w' : World} {own : Nat → Option Int} {b : Nat} (h : Turned w w' b) (hb : own b ≠ none) : Frame w w' own own :=
  ⟨h.os, h.tape, h.output, Nat.le_of_eq h.size.symm, fun k _ hk => ⟨h.block k fun e => by rw [e] at hk; exact hb hk, hk⟩⟩
theorem Turned.setCell (w : World) (b j : Nat) (v : Value) : Turned w (w.setCell ⟨b, j, none⟩ v) b :=
  ⟨rfl, rfl, rfl, by simp [World.setCell], fun i hi => Below.heap_setCell _ _ _ _ (by simpa using hi)⟩
theorem heap_setCell_at {w : World} {b : Nat} {c : Array Value} {t : TypeId} {fr : Nat × Nat} (h : w.heap[b]? = some (.cells c t fr)) (j : Nat) (v : Value) : (w.setCell ⟨b, j, none⟩ v).heap[b]? = some (.cells (c.setIfInBounds j v) t fr) := by
  simp only [World.setCell, Array.getElem?_modify, if_pos, h, Option.map_some]
  rfl
end
end Go.Proofs.YtphbbcjmnlamaaaGreatV
