/- vfs: makes. -/
import Derived.Test.YtphbbcjmnlamaaaGreatVTurn
import Derived.BigQuiet
import Derived.ProofKit
namespace Go.Proofs.YtphbbcjmnlamaaaGreatV
open Go.RowKit
set_option linter.unusedVariables false
set_option linter.unusedSimpArgs false
section
variable {w : World} {B f : Nat} {own : Nat → Option Int} {Ph : Phys} {S : FSt}
theorem entsS_some {dir : Int} {d : Ino} (hd : aget dir S.inodes = some d) : entsS S dir = d.ents := by unfold entsS; rw [hd]
/-- 'f.next++'. -/
theorem FSRep.next_set (h : FSRep w B f own Ph S) (nx : Int) : FSRep (w.setCell ⟨f, 2, none⟩ (.int .i64 nx)) B f own Ph { S with next := nx } :=
  h.top_set nx S.used (Nat.le_of_eq (Turned.setCell w f 2 _).size.symm) (fun b _ hb => (Turned.setCell w f 2 _).block b hb) ((heap_setCell_at h.top 2 _).trans rfl)
/-- 'f.used = ..'. -/
theorem FSRep.used_set (h : FSRep w B f own Ph S) (us : Int) : FSRep (w.setCell ⟨f, 3, none⟩ (.int .i64 us)) B f own Ph { S with used := us } :=
  h.top_set S.next us (Nat.le_of_eq (Turned.setCell w f 3 _).size.symm) (fun b _ hb => (Turned.setCell w f 3 _).block b hb) ((heap_setCell_at h.top 3 _).trans rfl)
/-- A new inode's links and parent. -/
theorem InoAt.fresh_set {n : Int} {ib : Nat} {dv ev : Value} {i : Ino} (hI : InoAt w B own n ib dv ev i) (hdv : dv.ownBlock ≠ some ib) (links up : Int) :
    InoAt ((w.setCell ⟨ib, 9, none⟩ (.int .i64 links)).setCell ⟨ib, 10, none⟩ (.int .i64 up)) B own n ib dv ev { i with links := links, up := up } := by
  have hT := fun b (hb : b ≠ ib) => ((Turned.setCell (w.setCell ⟨ib, 9, none⟩ (.int .i64 links)) ib 10 (.int .i64 up)).block b hb).trans ((Turned.setCell w ib 9 (.int .i64 links)).block b hb)
  refine ⟨(heap_setCell_at (heap_setCell_at hI.cells 9 _) 10 _).trans rfl, hI.ok, ⟨own_move hI.data.own fun k hk => hT k fun e => hdv (by rw [hk, e]), hI.data.ok⟩, ?_⟩
  rcases hI.ents with ⟨h1, eb, h2, h3, h4⟩ | h
  · refine .inl ⟨h1, eb, h2, h3, h4.of_block (hT eb fun e => ?_)⟩
    obtain ⟨es, clock, hm, _⟩ := h4
    rw [e, hI.cells] at hm
    cases hm
  · exact .inr h
theorem InoAt.data_ne {n : Int} {ib : Nat} {dv ev : Value} {i : Ino} (hI : InoAt w B own n ib dv ev i) : dv.ownBlock ≠ some ib := fun hk => by
  rcases hI.data.own.2 with ⟨h1, _⟩ | ⟨g', cap, cur, h1, _, h2, _⟩
  · rw [h1] at hk; simp [Value.ownBlock] at hk
  · rw [h1] at hk
    simp [Value.ownBlock] at hk
    rw [hk, hI.cells] at h2
    simp at h2
theorem FSRep.far (h : FSRep w B f own Ph S) {n : Int} (hn : aget n S.inodes = none) (hp : n ≠ -1) {w' : World} {b : Nat} (hb : own b = some n) (ht : Turned w w' b) : FSRep w' B f own Ph S := by
  have hk : ∀ k m, own k = some m → m ≠ n → w'.heap[k]? = w.heap[k]? := fun k m ho hm => ht.block k fun e => by rw [e, hb] at ho; exact hm (Option.some.inj ho).symm
  exact ⟨fun b m ho => ⟨(h.below b m ho).1, by rw [ht.size]; exact (h.below b m ho).2⟩, (hk f _ h.okf hp.symm).trans h.top, h.okf, h.okm, h.map.of_block (hk _ _ h.okm hp.symm), ⟨own_move h.trace.own fun k hk' => hk k _ (h.trace.ok k hk') hp.symm, h.trace.ok⟩,
    fun m j hj => (h.inos m j hj).move fun k hk' => ⟨hk k m hk' (fun e => by subst e; rw [hn] at hj; cases hj), hk'⟩, h.nodup, h.pos⟩
/-- What lies behind the stores into the two structs. -/
theorem makes_fields (h : FSRep w B f own Ph S) {i : Ino} {ib : Nat} {dv ev : Value} (hn : aget S.next S.inodes = none) (hp : 0 < S.next) (hI : InoAt w B own S.next ib dv ev i) (dir : Int) (w2 : World)
    (hw : w2 = ((w.setCell ⟨f, 2, none⟩ (.int .i64 (S.next + 1))).setCell ⟨ib, 9, none⟩ (.int .i64 1)).setCell ⟨ib, 10, none⟩ (.int .i64 dir)) :
    FSRep w2 B f own Ph { S with next := S.next + 1 } ∧ InoAt w2 B own S.next ib dv ev { i with links := 1, up := dir } ∧ Frame w w2 own own := by
  have hif : ib ≠ f := fun e => by
    have := hI.ok
    rw [e, h.okf] at this
    have := Option.some.inj this
    omega
  have h1 := h.next_set (S.next + 1)
  have hI1 : InoAt (w.setCell ⟨f, 2, none⟩ (.int .i64 (S.next + 1))) B own S.next ib dv ev i := hI.move fun k hk => ⟨(Turned.setCell w f 2 _).block k fun e => by
    rw [e, h.okf] at hk
    have := Option.some.inj hk
    omega, hk⟩
  have hn1 : aget S.next ({ S with next := S.next + 1 } : FSt).inodes = none := hn
  have h2 := h1.far hn1 (by omega) hI.ok (Turned.setCell _ ib 9 (.int .i64 1))
  have h3 := h2.far hn1 (by omega) hI.ok (Turned.setCell _ ib 10 (.int .i64 dir))
  subst hw
  refine ⟨h3, hI1.fresh_set hI1.data_ne 1 dir, ((Frame.of_turned (Turned.setCell w f 2 _) (by rw [h.okf]; simp)).trans (Frame.of_turned (Turned.setCell _ ib 9 _) (by rw [hI.ok]; simp))).trans (Frame.of_turned (Turned.setCell _ ib 10 _) (by rw [hI.ok]; simp))⟩
theorem below_drewN (b : Nat) (w : World) : ∀ k, Below b w (w.drewN k)
  | 0 => Below.refl _ _
  | k + 1 => (below_drewN b w k).trans (Below.refl _ _).drew
theorem wrap_small {z : Int} (h0 : -9223372036854775808 ≤ z) (h1 : z ≤ 9223372036854775807) : IntKind.i64.wrap z = z := by
  unfold IntKind.wrap
  simp [IntKind.signed, IntKind.bits]
  omega
theorem put_ino {mb : Nat} {m : List (Int × Nat)} (h : MapAt keyInt encPtr w mb m) (n : Int) (ib : Nat) : ∃ w', (Instr.mapUpdate 71 (.map (some mb)) (.int .i64 n) (.pointer (some ⟨ib, 0, none⟩))).run Tryz.prog w = .ok () w' ∧ MapAt keyInt encPtr w' mb (aset n ib m) ∧ Turned w w' mb :=
  h.put (kt := 3) (et := 74) Tryz.underlying71 Tryz.underlying3 n ib
theorem put_ent {eb : Nat} {m : List (ByteArray × Int)} (h : MapAt keyStr (Value.int .i64) w eb m) (s : ByteArray) (n : Int) : ∃ w', (Instr.mapUpdate 75 (.map (some eb)) (.string s) (.int .i64 n)).run Tryz.prog w = .ok () w' ∧ MapAt keyStr (Value.int .i64) w' eb (aset s n m) ∧ Turned w w' eb :=
  h.put (kt := 9) (et := 3) Tryz.underlying75 Tryz.underlying9 s n
theorem drop_ino {mb : Nat} {m : List (Int × Nat)} (h : MapAt keyInt encPtr w mb m) (n : Int) (ty : TypeId) : ∃ w', (Builtin.delete_ #[71, 3] ty #[.map (some mb), .int .i64 n]).run Tryz.prog w = .ok (.tuple #[]) w' ∧ MapAt keyInt encPtr w' mb (adel n m) ∧ Turned w w' mb :=
  h.drop (kt := 3) (et := 74) Tryz.underlying71 Tryz.underlying3 n
theorem drop_ent {eb : Nat} {m : List (ByteArray × Int)} (h : MapAt keyStr (Value.int .i64) w eb m) (s : ByteArray) (ty : TypeId) : ∃ w', (Builtin.delete_ #[75, 9] ty #[.map (some eb), .string s]).run Tryz.prog w = .ok (.tuple #[]) w' ∧ MapAt keyStr (Value.int .i64) w' eb (adel s m) ∧ Turned w w' eb :=
  h.drop (kt := 9) (et := 3) Tryz.underlying75 Tryz.underlying9 s
def okMakes (S : FSt) (op dir : Int) (name : ByteArray) (i : Ino) : FSt := doneS (linkEnt (setIno { S with next := S.next + 1 } S.next { i with links := 1, up := dir }) dir name S.next) ⟨op, dir, name, S.next, 0, noName, 0, 0⟩
theorem makesS_ok {op dir : Int} {name : ByteArray} {i : Ino} (h1 : isMetaS i.mt = true) (h2 : aget name (entsS S dir) = none) (h3 : (S.inodes.length : Int) < S.nodes) (h4 : S.next < 1099511627776) : makesS S op dir name i = (S.next, 0, okMakes S op dir name i) := by
  unfold makesS okMakes
  rw [if_pos h1, h2, if_neg (by simp), if_neg (by omega)]
theorem makesS_room {op dir : Int} {name : ByteArray} {i : Ino} (h1 : isMetaS i.mt = true) (h2 : aget name (entsS S dir) = none) (h3 : S.nodes ≤ (S.inodes.length : Int) ∨ 1099511627776 ≤ S.next) : makesS S op dir name i = (0, 105, S) := by
  unfold makesS
  rw [if_pos h1, h2, if_neg (by simp), if_pos (by omega)]
theorem makesS_there {op dir : Int} {name : ByteArray} {i : Ino} (h1 : isMetaS i.mt = true) {n : Int} (h2 : aget name (entsS S dir) = some n) : makesS S op dir name i = (0, 104, S) := by
  unfold makesS
  rw [if_pos h1, h2, if_pos (by simp)]
theorem makesS_arg {op dir : Int} {name : ByteArray} {i : Ino} (h1 : isMetaS i.mt ≠ true) : makesS S op dir name i = (0, 1, S) := by
  unfold makesS
  rw [if_neg h1]
end
end Go.Proofs.YtphbbcjmnlamaaaGreatV
