/- How a file system lies in memory. -/
import Derived.Test.YtphbbcjmnlamaaaGreatVSpec
import Derived.Below
import Derived.Maps.AppendAt
import Derived.Deep.QuietTactic
namespace Go.Proofs.YtphbbcjmnlamaaaGreatV
open Go.RowKit
set_option linter.unusedVariables false
set_option linter.unusedSimpArgs false

def encPtr (b : Nat) : Value := .pointer (some ⟨b, 0, none⟩)
def inoCells (i : Ino) (dv ev : Value) : Array Value :=
  #[.int .i64 i.kind, .int .u32 i.mt.mode, .int .u32 i.mt.uid, .int .u32 i.mt.gid, .int .i64 i.mt.time, .int .i32 i.mt.nano, dv, .string i.target, ev, .int .i64 i.links, .int .i64 i.up]
def actCells (a : Act8) : List Value := [.int .i64 a.op, .int .i64 a.dir, .string a.name, .int .i64 a.node, .int .i64 a.to, .string a.other, .int .i64 a.at_, .int .i64 a.n]
def byteCells (l : List Int) : List Value := l.map (Value.int .u8)
structure Phys where
  mb : Nat
  tv : Value
  ib : Int → Nat
  dv : Int → Value
  ev : Int → Value
structure RowAt (w : World) (B : Nat) (e : TypeId) (size : Nat) (ok : Nat → Prop) (v : Value) (n : Nat) (xs : List Value) : Prop where
  own : w.ownsRow B e size v n xs
  ok : ∀ k, v.ownBlock = some k → ok k
theorem own_move {w w1 : World} {base : Nat} {e : TypeId} {size n : Nat} {v : Value} {xs : List Value} (h : w.ownsRow base e size v n xs) (hm : ∀ k, v.ownBlock = some k → w1.heap[k]? = w.heap[k]?) : w1.ownsRow base e size v n xs := by
  obtain ⟨h1, h2⟩ := h
  refine ⟨h1, ?_⟩
  rcases h2 with h2 | ⟨g, cap, cur, rfl, hg, hh, r⟩
  · exact .inl h2
  · exact .inr ⟨g, cap, cur, rfl, hg, (hm g (by simp [Value.ownBlock])).trans hh, r⟩
theorem RowAt.move {w w' : World} {B : Nat} {e : TypeId} {size n : Nat} {ok ok' : Nat → Prop} {v : Value} {xs : List Value} (h : RowAt w B e size ok v n xs) (hm : ∀ k, ok k → w'.heap[k]? = w.heap[k]? ∧ ok' k) : RowAt w' B e size ok' v n xs :=
  ⟨own_move h.own fun k hk => (hm k (h.ok k hk)).1, fun k hk => (hm k (h.ok k hk)).2⟩
def EntAt (w : World) (ok : Nat → Prop) (ev : Value) (i : Ino) : Prop :=
  (i.kind = 1 ∧ ∃ eb, ev = .map (some eb) ∧ ok eb ∧ MapAt keyStr (Value.int .i64) w eb i.ents) ∨ (i.kind ≠ 1 ∧ ev = .map none ∧ i.ents = [])
theorem EntAt.move {w w' : World} {ok ok' : Nat → Prop} {ev : Value} {i : Ino} (h : EntAt w ok ev i) (hm : ∀ k, ok k → w'.heap[k]? = w.heap[k]? ∧ ok' k) : EntAt w' ok' ev i := by
  rcases h with ⟨h1, eb, h2, h3, h4⟩ | h
  · exact .inl ⟨h1, eb, h2, (hm eb h3).2, h4.of_block (hm eb h3).1⟩
  · exact .inr h
structure InoAt (w : World) (B : Nat) (own : Nat → Option Int) (n : Int) (ib : Nat) (dv ev : Value) (i : Ino) : Prop where
  cells : w.heap[ib]? = some (.cells (inoCells i dv ev) 77 (0, 0))
  ok : own ib = some n
  data : RowAt w B 5 1 (fun k => own k = some n) dv i.data.length (byteCells i.data)
  ents : EntAt w (fun k => own k = some n) ev i
theorem InoAt.move {w w' : World} {B : Nat} {own own' : Nat → Option Int} {n : Int} {ib : Nat} {dv ev : Value} {i : Ino} (h : InoAt w B own n ib dv ev i) (hm : ∀ k, own k = some n → w'.heap[k]? = w.heap[k]? ∧ own' k = some n) : InoAt w' B own' n ib dv ev i :=
  ⟨(hm ib h.ok).1.trans h.cells, (hm ib h.ok).2, h.data.move hm, h.ents.move hm⟩
def topCells (S : FSt) (Ph : Phys) : Array Value := #[.int .i64 S.nodes, .int .i64 S.bytes, .int .i64 S.next, .int .i64 S.used, .map (some Ph.mb), Ph.tv]
structure FSRep (w : World) (B f : Nat) (own : Nat → Option Int) (Ph : Phys) (S : FSt) : Prop where
  below : ∀ b n, own b = some n → B ≤ b ∧ b < w.heap.size
  top : w.heap[f]? = some (.cells (topCells S Ph) 73 (0, 0))
  okf : own f = some (-1)
  okm : own Ph.mb = some (-1)
  map : MapAt keyInt encPtr w Ph.mb (S.inodes.map fun p => (p.1, Ph.ib p.1))
  trace : RowAt w B 91 8 (fun k => own k = some (-1)) Ph.tv S.trace.length (S.trace.flatMap actCells)
  inos : ∀ n i, aget n S.inodes = some i → InoAt w B own n (Ph.ib n) (Ph.dv n) (Ph.ev n) i
  nodup : (akeys S.inodes).Nodup
  pos : ∀ n, n ∈ akeys S.inodes → 0 < n
/-- What the calls ask of a state's numbers. -/
structure Inv (S : FSt) : Prop where
  nodes : 1 ≤ S.nodes ∧ S.nodes ≤ 4096
  bytes : 0 ≤ S.bytes ∧ S.bytes ≤ 4194304
  next : 2 ≤ S.next ∧ S.next ≤ 1099511627776
  used : 0 ≤ S.used ∧ S.used ≤ S.bytes
  count : (S.inodes.length : Int) ≤ S.nodes
  trace : S.trace.length ≤ 1000000000
  ino : ∀ n i, aget n S.inodes = some i → i.data.length ≤ 4194304 ∧ 0 ≤ i.links ∧ i.links ≤ 1000000000000 ∧ i.target.size ≤ 4096 ∧ i.ents.length ≤ 1000000000000 ∧ n < S.next
  ents : ∀ n i, aget n S.inodes = some i → ∀ e ∈ i.ents, ∃ j, aget e.2 S.inodes = some j
theorem cell_of {w : World} {b : Nat} {c : Array Value} {t : TypeId} {fr : Nat × Nat} (h : w.heap[b]? = some (.cells c t fr)) (j : Nat) : w.cell? ⟨b, j, none⟩ = c[j]? := by
  simp [World.cell?, h]
theorem frozen_of {w : World} {b : Nat} {c : Array Value} {t : TypeId} (h : w.heap[b]? = some (.cells c t (0, 0))) (j : Nat) : w.frozen? ⟨b, j, none⟩ = false := by
  simp [World.frozen?, h]
theorem aget_map {κ ν μ : Type} [DecidableEq κ] (k : κ) (g : κ → μ) : ∀ (l : List (κ × ν)), aget k (l.map fun p => (p.1, g p.1)) = (aget k l).map fun _ => g k
  | [] => rfl
  | p :: l => by
    simp only [List.map_cons, aget]
    by_cases h : p.1 = k
    · rw [if_pos h, if_pos h, h]; rfl
    · rw [if_neg h, if_neg h]; exact aget_map k g l
/-- Nothing else has turned. -/
structure Frame (w w' : World) (own own' : Nat → Option Int) : Prop where
  os : w'.os = w.os
  tape : w'.tape = w.tape
  output : w'.output = w.output
  size : w.heap.size ≤ w'.heap.size
  block : ∀ b, b < w.heap.size → own b = none → w'.heap[b]? = w.heap[b]? ∧ own' b = none
theorem Frame.refl (w : World) (own : Nat → Option Int) : Frame w w own own := ⟨rfl, rfl, rfl, Nat.le_refl _, fun _ _ h => ⟨rfl, h⟩⟩
theorem Frame.trans {a b c : World} {o p q : Nat → Option Int} (h : Frame a b o p) (k : Frame b c p q) : Frame a c o q :=
  ⟨k.os.trans h.os, k.tape.trans h.tape, k.output.trans h.output, Nat.le_trans h.size k.size, fun i hi ho => by
    obtain ⟨h1, h2⟩ := h.block i hi ho
    obtain ⟨h3, h4⟩ := k.block i (Nat.lt_of_lt_of_le hi h.size) h2
    exact ⟨h3.trans h1, h4⟩⟩
theorem Frame.of_below {w w' : World} {own : Nat → Option Int} (h : Below w.heap.size w w') : Frame w w' own own := ⟨h.os, h.tape, h.output, h.size, fun b hb ho => ⟨h.block b hb, ho⟩⟩
theorem FSRep.move {w w' : World} {B f : Nat} {own : Nat → Option Int} {Ph : Phys} {S : FSt} (h : FSRep w B f own Ph S) (hs : w.heap.size ≤ w'.heap.size) (hm : ∀ b n, own b = some n → w'.heap[b]? = w.heap[b]?) : FSRep w' B f own Ph S :=
  ⟨fun b n hb => ⟨(h.below b n hb).1, Nat.lt_of_lt_of_le (h.below b n hb).2 hs⟩, (hm f _ h.okf).trans h.top, h.okf, h.okm, h.map.of_block (hm _ _ h.okm), h.trace.move fun k hk => ⟨hm k _ hk, hk⟩,
    fun n i hi => (h.inos n i hi).move fun k hk => ⟨hm k _ hk, hk⟩, h.nodup, h.pos⟩
theorem FSRep.of_below {w w' : World} {B f : Nat} {own : Nat → Option Int} {Ph : Phys} {S : FSt} (h : FSRep w B f own Ph S) (hb : Below w.heap.size w w') : FSRep w' B f own Ph S :=
  h.move hb.size fun b n ho => hb.block b (h.below b n ho).2
theorem FSRep.drewN {w : World} {B f : Nat} {own : Nat → Option Int} {Ph : Phys} {S : FSt} (h : FSRep w B f own Ph S) (k : Nat) : FSRep (w.drewN k) B f own Ph S :=
  h.move (Nat.le_refl _) fun b n ho => rfl
section
variable {w : World} {B f : Nat} {own : Nat → Option Int} {Ph : Phys} {S : FSt}
theorem FSRep.f_lt (h : FSRep w B f own Ph S) : f < w.heap.size := (h.below f _ h.okf).2
theorem FSRep.look_run {P : Program} {t kt et : TypeId} (h : FSRep w B f own Ph S) (ht : P.underlying t = some (.map kt et)) (hk : P.underlying kt = some (.int .i64)) (hz : ∀ w, (zeroValue et).run P w = .ok (.pointer none) w) (n : Int) :
    (Instr.lookup t (.map (some Ph.mb)) (.int .i64 n) false).run P w = .ok (match aget n S.inodes with | some _ => .pointer (some ⟨Ph.ib n, 0, none⟩) | none => .pointer none) w := by
  have := h.map.look ht hk (hz w) n false
  rw [aget_map] at this
  refine this.trans ?_
  cases aget n S.inodes <;> rfl
end
end Go.Proofs.YtphbbcjmnlamaaaGreatV
