/- vfs, pack, compare: contracts of the functions (texts VMakes, VNewIno, VLink, MERGED). -/
import Derived.Test.YtcjahipcfcghlaaGreatVTurn
import Derived.BigQuiet
import Derived.ProofKit
/- vfs: makes. -/
namespace Go.Proofs.YtcjahipcfcghlaaGreatV
open Go.RowKit
set_option linter.unusedVariables false
set_option linter.unusedSimpArgs false
section
variable {w : World} {B f : Nat} {own : Nat → Option Int} {Ph : Phys} {S : FSt}
theorem entsS_some {dir : Int} {d : Ino} (hd : aget dir S.inodes = some d) : entsS S dir = d.ents := by unfold entsS; rw [hd]
/-- 'f.next++'. -/
theorem FSRep.next_set (h : FSRep w B f own Ph S) (nx : Int) : FSRep (w.setCell ⟨f, 2, none⟩ (.int .i64 nx)) B f own Ph { S with next := nx } :=
  h.top_set nx S.used (Nat.le_of_eq (Turned.setCell w f 2 _).size.symm) (fun b _ hb => (Turned.setCell w f 2 _).block b hb) ((heap_setCell_at h.top 2 _).trans rfl)
/-- 'f.used = ..'. -/
theorem FSRep.used_set (h : FSRep w B f own Ph S) (us : Int) : FSRep (w.setCell ⟨f, 3, none⟩ (.int .i64 us)) B f own Ph { S with used := us } :=
  h.top_set S.next us (Nat.le_of_eq (Turned.setCell w f 3 _).size.symm) (fun b _ hb => (Turned.setCell w f 3 _).block b hb) ((heap_setCell_at h.top 3 _).trans rfl)
/-- A new inode's links and parent. -/
theorem InoAt.fresh_set {n : Int} {ib : Nat} {dv ev : Value} {i : Ino} (hI : InoAt w B own n ib dv ev i) (hdv : dv.ownBlock ≠ some ib) (links up : Int) :
    InoAt ((w.setCell ⟨ib, 9, none⟩ (.int .i64 links)).setCell ⟨ib, 10, none⟩ (.int .i64 up)) B own n ib dv ev { i with links := links, up := up } := by
  have hT := fun b (hb : b ≠ ib) => ((Turned.setCell (w.setCell ⟨ib, 9, none⟩ (.int .i64 links)) ib 10 (.int .i64 up)).block b hb).trans ((Turned.setCell w ib 9 (.int .i64 links)).block b hb)
  refine ⟨(heap_setCell_at (heap_setCell_at hI.cells 9 _) 10 _).trans rfl, hI.ok, ⟨own_move hI.data.own fun k hk => hT k fun e => hdv (by rw [hk, e]), hI.data.ok⟩, ?_⟩
  rcases hI.ents with ⟨h1, eb, h2, h3, h4⟩ | h
  · refine .inl ⟨h1, eb, h2, h3, h4.of_block (hT eb fun e => ?_)⟩
    obtain ⟨es, clock, hm, _⟩ := h4
    rw [e, hI.cells] at hm
    cases hm
  · exact .inr h
theorem InoAt.data_ne {n : Int} {ib : Nat} {dv ev : Value} {i : Ino} (hI : InoAt w B own n ib dv ev i) : dv.ownBlock ≠ some ib := fun hk => by
  rcases hI.data.own.2 with ⟨h1, _⟩ | ⟨g', cap, cur, h1, _, h2, _⟩
  · rw [h1] at hk; simp [Value.ownBlock] at hk
  · rw [h1] at hk
    simp [Value.ownBlock] at hk
    rw [hk, hI.cells] at h2
    simp at h2
theorem FSRep.far (h : FSRep w B f own Ph S) {n : Int} (hn : aget n S.inodes = none) (hp : n ≠ -1) {w' : World} {b : Nat} (hb : own b = some n) (ht : Turned w w' b) : FSRep w' B f own Ph S := by
  have hk : ∀ k m, own k = some m → m ≠ n → w'.heap[k]? = w.heap[k]? := fun k m ho hm => ht.block k fun e => by rw [e, hb] at ho; exact hm (Option.some.inj ho).symm
  exact ⟨fun b m ho => ⟨(h.below b m ho).1, by rw [ht.size]; exact (h.below b m ho).2⟩, (hk f _ h.okf hp.symm).trans h.top, h.okf, h.okm, h.map.of_block (hk _ _ h.okm hp.symm), ⟨own_move h.trace.own fun k hk' => hk k _ (h.trace.ok k hk') hp.symm, h.trace.ok⟩,
    fun m j hj => (h.inos m j hj).move fun k hk' => ⟨hk k m hk' (fun e => by subst e; rw [hn] at hj; cases hj), hk'⟩, h.nodup, h.pos⟩
/-- What lies behind the stores into the two structs. -/
theorem makes_fields (h : FSRep w B f own Ph S) {i : Ino} {ib : Nat} {dv ev : Value} (hn : aget S.next S.inodes = none) (hp : 0 < S.next) (hI : InoAt w B own S.next ib dv ev i) (dir : Int) (w2 : World)
    (hw : w2 = ((w.setCell ⟨f, 2, none⟩ (.int .i64 (S.next + 1))).setCell ⟨ib, 9, none⟩ (.int .i64 1)).setCell ⟨ib, 10, none⟩ (.int .i64 dir)) :
    FSRep w2 B f own Ph { S with next := S.next + 1 } ∧ InoAt w2 B own S.next ib dv ev { i with links := 1, up := dir } ∧ Frame w w2 own own := by
  have hif : ib ≠ f := fun e => by
    have := hI.ok
    rw [e, h.okf] at this
    have := Option.some.inj this
    omega
  have h1 := h.next_set (S.next + 1)
  have hI1 : InoAt (w.setCell ⟨f, 2, none⟩ (.int .i64 (S.next + 1))) B own S.next ib dv ev i := hI.move fun k hk => ⟨(Turned.setCell w f 2 _).block k fun e => by
    rw [e, h.okf] at hk
    have := Option.some.inj hk
    omega, hk⟩
  have hn1 : aget S.next ({ S with next := S.next + 1 } : FSt).inodes = none := hn
  have h2 := h1.far hn1 (by omega) hI.ok (Turned.setCell _ ib 9 (.int .i64 1))
  have h3 := h2.far hn1 (by omega) hI.ok (Turned.setCell _ ib 10 (.int .i64 dir))
  subst hw
  refine ⟨h3, hI1.fresh_set hI1.data_ne 1 dir, ((Frame.of_turned (Turned.setCell w f 2 _) (by rw [h.okf]; simp)).trans (Frame.of_turned (Turned.setCell _ ib 9 _) (by rw [hI.ok]; simp))).trans (Frame.of_turned (Turned.setCell _ ib 10 _) (by rw [hI.ok]; simp))⟩
theorem below_drewN (b : Nat) (w : World) : ∀ k, Below b w (w.drewN k)
  | 0 => Below.refl _ _
  | k + 1 => (below_drewN b w k).trans (Below.refl _ _).drew
theorem wrap_small {z : Int} (h0 : -9223372036854775808 ≤ z) (h1 : z ≤ 9223372036854775807) : IntKind.i64.wrap z = z := by
  unfold IntKind.wrap
  simp [IntKind.signed, IntKind.bits]
  omega
theorem put_ino {mb : Nat} {m : List (Int × Nat)} (h : MapAt keyInt encPtr w mb m) (n : Int) (ib : Nat) : ∃ w', (Instr.mapUpdate 65 (.map (some mb)) (.int .i64 n) (.pointer (some ⟨ib, 0, none⟩))).run Tryz.prog w = .ok () w' ∧ MapAt keyInt encPtr w' mb (aset n ib m) ∧ Turned w w' mb :=
  h.put (kt := 3) (et := 69) Tryz.underlying65 Tryz.underlying3 n ib
theorem put_ent {eb : Nat} {m : List (ByteArray × Int)} (h : MapAt keyStr (Value.int .i64) w eb m) (s : ByteArray) (n : Int) : ∃ w', (Instr.mapUpdate 58 (.map (some eb)) (.string s) (.int .i64 n)).run Tryz.prog w = .ok () w' ∧ MapAt keyStr (Value.int .i64) w' eb (aset s n m) ∧ Turned w w' eb :=
  h.put (kt := 9) (et := 3) Tryz.underlying58 Tryz.underlying9 s n
theorem drop_ino {mb : Nat} {m : List (Int × Nat)} (h : MapAt keyInt encPtr w mb m) (n : Int) (ty : TypeId) : ∃ w', (Builtin.delete_ #[65, 3] ty #[.map (some mb), .int .i64 n]).run Tryz.prog w = .ok (.tuple #[]) w' ∧ MapAt keyInt encPtr w' mb (adel n m) ∧ Turned w w' mb :=
  h.drop (kt := 3) (et := 69) Tryz.underlying65 Tryz.underlying3 n
theorem drop_ent {eb : Nat} {m : List (ByteArray × Int)} (h : MapAt keyStr (Value.int .i64) w eb m) (s : ByteArray) (ty : TypeId) : ∃ w', (Builtin.delete_ #[58, 9] ty #[.map (some eb), .string s]).run Tryz.prog w = .ok (.tuple #[]) w' ∧ MapAt keyStr (Value.int .i64) w' eb (adel s m) ∧ Turned w w' eb :=
  h.drop (kt := 9) (et := 3) Tryz.underlying58 Tryz.underlying9 s
def okMakes (S : FSt) (op dir : Int) (name : ByteArray) (i : Ino) : FSt := doneS (linkEnt (setIno { S with next := S.next + 1 } S.next { i with links := 1, up := dir }) dir name S.next) ⟨op, dir, name, S.next, 0, noName, 0, 0⟩
theorem makesS_ok {op dir : Int} {name : ByteArray} {i : Ino} (h1 : isMetaS i.mt = true) (h2 : aget name (entsS S dir) = none) (h3 : (S.inodes.length : Int) < S.nodes) (h4 : S.next < 1099511627776) : makesS S op dir name i = (S.next, 0, okMakes S op dir name i) := by
  unfold makesS okMakes
  rw [if_pos h1, h2, if_neg (by simp), if_neg (by omega)]
theorem makesS_room {op dir : Int} {name : ByteArray} {i : Ino} (h1 : isMetaS i.mt = true) (h2 : aget name (entsS S dir) = none) (h3 : S.nodes ≤ (S.inodes.length : Int) ∨ 1099511627776 ≤ S.next) : makesS S op dir name i = (0, 105, S) := by
  unfold makesS
  rw [if_pos h1, h2, if_neg (by simp), if_pos (by omega)]
theorem makesS_there {op dir : Int} {name : ByteArray} {i : Ino} (h1 : isMetaS i.mt = true) {n : Int} (h2 : aget name (entsS S dir) = some n) : makesS S op dir name i = (0, 104, S) := by
  unfold makesS
  rw [if_pos h1, h2, if_pos (by simp)]
theorem makesS_arg {op dir : Int} {name : ByteArray} {i : Ino} (h1 : isMetaS i.mt ≠ true) : makesS S op dir name i = (0, 1, S) := by
  unfold makesS
  rw [if_neg h1]
theorem makes_arg (h : FSRep w B f own Ph S) (op dir : Int) (name : ByteArray) {n : Int} {i : Ino} {ib : Nat} {dv ev : Value} (hI : InoAt w B own n ib dv ev i) (hm : isMetaS i.mt ≠ true) :
    Calls Tryz.prog 19 #[.pointer (some ⟨f, 0, none⟩), .int .i64 op, .int .i64 dir, .string name, .pointer (some ⟨ib, 0, none⟩)] w fun e w' => e = .returned (.tuple #[.int .i64 (makesS S op dir name i).1, .int .i64 (makesS S op dir name i).2.1]) ∧ Upd w B f own (makesS S op dir name i).2.2 w' := by
  rw [makesS_arg hm]
  have HR := Lib.hid h
  have hm0 : isMetaS i.mt = false := by simpa using hm
  obtain ⟨k0, k1, k2, k3, k4, k5, _⟩ := hI.c
  clear h hI
  go_enter Tryz.func19, Tryz.ntmps19
  go_wp2_with fail
  refine (isMeta_calls i.mt _).mono ?_
  rintro e w1 ⟨rfl, hw⟩
  rw [hm0]
  have HW := Lib.hid hw
  clear hw
  go_wp2
  go_ret2
  exact ⟨rfl, Upd.below HR.out HW.out⟩
theorem makes_there (h : FSRep w B f own Ph S) (op dir : Int) (name : ByteArray) {n : Int} {i : Ino} {ib : Nat} {dv ev : Value} (hI : InoAt w B own n ib dv ev i) (hm : isMetaS i.mt = true) {d : Ino} (hd : aget dir S.inodes = some d) (hk : d.kind = 1) {m : Int} (hg : aget name d.ents = some m) :
    Calls Tryz.prog 19 #[.pointer (some ⟨f, 0, none⟩), .int .i64 op, .int .i64 dir, .string name, .pointer (some ⟨ib, 0, none⟩)] w fun e w' => e = .returned (.tuple #[.int .i64 (makesS S op dir name i).1, .int .i64 (makesS S op dir name i).2.1]) ∧ Upd w B f own (makesS S op dir name i).2.2 w' := by
  rw [makesS_there hm (n := m) (by rw [entsS_some hd, hg])]
  have HR := Lib.hid h
  have Hd := Lib.hid hd
  have Hk := Lib.hid hk
  have Hg := Lib.hid hg
  obtain ⟨k0, k1, k2, k3, k4, k5, _⟩ := hI.c
  clear h hI hd hk hg
  go_enter Tryz.func19, Tryz.ntmps19
  go_wp2_with fail
  refine (isMeta_calls i.mt _).mono ?_
  rintro e w1 ⟨rfl, hw⟩
  rw [hm]
  have HW := Lib.hid hw
  clear hw
  go_wp2_with fail
  refine (has_calls (HR.out.of_below HW.out) dir name d Hd.out Hk.out).mono ?_
  rintro e w2 ⟨rfl, rfl⟩
  rw [Hg.out]
  go_wp2
  go_ret2
  exact ⟨rfl, Upd.below HR.out HW.out⟩
theorem makes_room (h : FSRep w B f own Ph S) (op dir : Int) (name : ByteArray) {n : Int} {i : Ino} {ib : Nat} {dv ev : Value} (hI : InoAt w B own n ib dv ev i) (hm : isMetaS i.mt = true) {d : Ino} (hd : aget dir S.inodes = some d) (hk : d.kind = 1) (hg : aget name d.ents = none)
    (hr : S.nodes ≤ (S.inodes.length : Int) ∨ 1099511627776 ≤ S.next) :
    Calls Tryz.prog 19 #[.pointer (some ⟨f, 0, none⟩), .int .i64 op, .int .i64 dir, .string name, .pointer (some ⟨ib, 0, none⟩)] w fun e w' => e = .returned (.tuple #[.int .i64 (makesS S op dir name i).1, .int .i64 (makesS S op dir name i).2.1]) ∧ Upd w B f own (makesS S op dir name i).2.2 w' := by
  rw [makesS_room hm (by rw [entsS_some hd, hg]) hr]
  have HR := Lib.hid h
  have Hd := Lib.hid hd
  have Hk := Lib.hid hk
  have Hg := Lib.hid hg
  have Hr := Lib.hid hr
  obtain ⟨k0, k1, k2, k3, k4, k5, _⟩ := hI.c
  clear h hI hd hk hg hr
  go_enter Tryz.func19, Tryz.ntmps19
  go_wp2_with fail
  refine (isMeta_calls i.mt _).mono ?_
  rintro e w1 ⟨rfl, hw⟩
  rw [hm]
  have HW := Lib.hid hw
  clear hw
  go_wp2_with fail
  refine (has_calls (HR.out.of_below HW.out) dir name d Hd.out Hk.out).mono ?_
  rintro e w2 ⟨rfl, rfl⟩
  rw [Hg.out]
  have h1 := HR.out.of_below HW.out
  have c0 := h1.c.1
  have c2 := h1.c.2.2.1
  have c4 := h1.c.2.2.2.2.1
  have hlen := fun nq => (h1.drewN nq).map.len Tryz.underlying65
  simp only [List.length_map] at hlen
  clear h1
  by_cases hq : S.nodes ≤ (S.inodes.length : Int)
  · have hq' : decide (S.nodes ≤ (S.inodes.length : Int)) = true := decide_eq_true hq
    go_wp2_with fail
    go_quiet (fail)
    go_wp2
    go_ret2
    exact ⟨rfl, Upd.below HR.out (HW.out.trans (below_drewN _ _ _))⟩
  · have hq' : decide (S.nodes ≤ (S.inodes.length : Int)) = false := decide_eq_false hq
    have hq2 : 1099511627776 ≤ S.next := Hr.out.resolve_left hq
    go_wp2_with fail
    go_quiet (fail)
    go_wp2
    go_ret2
    exact ⟨rfl, Upd.below HR.out (HW.out.trans (below_drewN _ _ _))⟩
set_option maxHeartbeats 1000000 in
theorem makes_ok (h : FSRep w B f own Ph S) (hB : B ≤ w.heap.size) (ht : S.trace.length ≤ 1000000001) (op dir : Int) (name : ByteArray) {i : Ino} {ib : Nat} {dv ev : Value} (hn : aget S.next S.inodes = none) (hp : 0 < S.next) (hI : InoAt w B own S.next ib dv ev i) (hm : isMetaS i.mt = true) {d : Ino} (hd : aget dir S.inodes = some d) (hk : d.kind = 1) (hg : aget name d.ents = none)
    (hr1 : (S.inodes.length : Int) < S.nodes) (hr2 : S.next < 1099511627776) :
    Calls Tryz.prog 19 #[.pointer (some ⟨f, 0, none⟩), .int .i64 op, .int .i64 dir, .string name, .pointer (some ⟨ib, 0, none⟩)] w fun e w' => e = .returned (.tuple #[.int .i64 (makesS S op dir name i).1, .int .i64 (makesS S op dir name i).2.1]) ∧ Upd w B f own (makesS S op dir name i).2.2 w' := by
  rw [makesS_ok hm (by rw [entsS_some hd, hg]) hr1 hr2]
  have HR := Lib.hid h
  have HI := Lib.hid hI
  have Hd := Lib.hid hd
  have Hk := Lib.hid hk
  have Hg := Lib.hid hg
  have Hn := Lib.hid hn
  have Ht := Lib.hid ht
  have HB := Lib.hid hB
  obtain ⟨k0, k1, k2, k3, k4, k5, _⟩ := hI.c
  have hfi : f ≠ ib := fun e => by
    have := hI.ok
    rw [← e, h.okf] at this
    have := Option.some.inj this
    omega
  have hif := hfi.symm
  have hnd : dir ≠ S.next := fun e => by rw [e, hn] at hd; cases hd
  clear h hI hd hk hg hn ht hB
  go_enter Tryz.func19, Tryz.ntmps19
  go_wp2_with fail
  refine (isMeta_calls i.mt _).mono ?_
  rintro e w1 ⟨rfl, hw⟩
  rw [hm]
  have HW := Lib.hid hw
  clear hw k0 k1 k2 k3 k4 k5
  go_wp2_with fail
  refine (has_calls (HR.out.of_below HW.out) dir name d Hd.out Hk.out).mono ?_
  rintro e w2 ⟨rfl, rfl⟩
  rw [Hg.out]
  have h1 := HR.out.of_below HW.out
  have c0 := h1.c.1
  have c2 := h1.c.2.2.1
  have c4 := h1.c.2.2.2.2.1
  have hlen := fun nq => (h1.drewN nq).map.len Tryz.underlying65
  simp only [List.length_map] at hlen
  clear h1
  have hq1 : decide (S.nodes ≤ (S.inodes.length : Int)) = false := decide_eq_false (by omega)
  have hq2 : decide (1099511627776 ≤ S.next) = false := decide_eq_false (by omega)
  go_wp2_with fail
  go_quiet (fail)
  clear c0 c2 c4 hlen
  have hw2 := HW.out.trans (below_drewN _ _ nq)
  have HW2 := Lib.hid hw2
  clear hw2
  generalize w2.drewN nq = w3 at *
  have h3 := HR.out.of_below HW2.out
  have hI3 : InoAt w3 B own S.next ib dv ev i := HI.out.move fun k hk => ⟨HW2.out.block k (HR.out.lt hk), hk⟩
  obtain ⟨h4, hI4, hF4⟩ := makes_fields h3 Hn.out hp hI3 dir _ rfl
  obtain ⟨w5, hput5, hM5, hT5⟩ := put_ino h4.map S.next ib
  have h5 := h4.ino_new Hn.out hp hI4 hT5 hM5
  have hd5 : aget dir (setIno { S with next := S.next + 1 } S.next { i with links := 1, up := dir }).inodes = some d := by
    show aget dir (aset _ _ _) = _
    rw [aget_aset, if_neg (fun e => hnd e.symm)]
    exact Hd.out
  have hI5 := h5.inos dir d hd5
  obtain ⟨eb, he, hoe, hMe⟩ := hI5.dir Hk.out
  obtain ⟨w6, hput6, hM6, hT6⟩ := put_ent hMe name S.next
  have h6 := h5.ents_set hd5 Hk.out he _ hT6 hM6
  have c3 := h3.c.2.2.1
  have f3 := h3.fz 2
  have k39 := hI3.c.2.2.2.2.2.2.2.2.2.1
  have g39 := hI3.fz 9
  have k310 := hI3.c.2.2.2.2.2.2.2.2.2.2
  have g310 := hI3.fz 10
  have c4 := h4.c.2.2.2.2.1
  have c5 := h5.c.2.2.2.2.1
  have hl5 := look_some h5 hd5
  have k58 := hI5.c.2.2.2.2.2.2.2.2.1
  rw [he] at k58
  have hwr : IntKind.i64.wrap (S.next + 1) = S.next + 1 := wrap_small (by omega) (by omega)
  have H6 := Lib.hid h6
  have HF4 := Lib.hid hF4
  have HT5 := Lib.hid hT5
  have HT6 := Lib.hid hT6
  have Hd5 := Lib.hid hd5
  have hoe' := hoe
  clear h3 hI3 h4 hI4 hF4 hM5 hT5 h5 hd5 hI5 hoe hMe hM6 hT6 h6
  go_wp2_with fail
  refine (done_calls (B := B) H6.out (by have := HB.out; have := HF4.out.size; have := HW2.out.size; have := HT5.out.size; have := HT6.out.size; omega) Ht.out ⟨op, dir, name, S.next, 0, noName, 0, 0⟩).mono ?_
  rintro e w7 ⟨rfl, hu⟩
  have HU := Lib.hid hu
  clear hu hput5 hput6 c3 f3 k39 g39 k310 g310 c4 c5 hl5 k58
  go_wp2
  go_ret2
  refine ⟨rfl, Upd.after (Frame.of_below HW2.out) (Upd.after HF4.out (Upd.after (Frame.of_turned HT5.out (by have := HR.out.okm; rw [this]; simp)) (Upd.after (Frame.of_turned HT6.out (by rw [hoe']; simp)) ?_)))⟩
  unfold okMakes linkEnt
  rw [Hd5.out]
  exact HU.out
theorem makes_calls (h : FSRep w B f own Ph S) (hB : B ≤ w.heap.size) (ht : S.trace.length ≤ 1000000001) (op dir : Int) (name : ByteArray) {i : Ino} {ib : Nat} {dv ev : Value} (hn : aget S.next S.inodes = none) (hp : 0 < S.next) (hI : InoAt w B own S.next ib dv ev i) {d : Ino} (hd : aget dir S.inodes = some d) (hk : d.kind = 1) :
    Calls Tryz.prog 19 #[.pointer (some ⟨f, 0, none⟩), .int .i64 op, .int .i64 dir, .string name, .pointer (some ⟨ib, 0, none⟩)] w fun e w' => e = .returned (.tuple #[.int .i64 (makesS S op dir name i).1, .int .i64 (makesS S op dir name i).2.1]) ∧ Upd w B f own (makesS S op dir name i).2.2 w' := by
  by_cases hm : isMetaS i.mt = true
  · cases hg : aget name d.ents with
    | some m => exact makes_there h op dir name hI hm hd hk hg
    | none =>
      by_cases hr : S.nodes ≤ (S.inodes.length : Int) ∨ 1099511627776 ≤ S.next
      · exact makes_room h op dir name hI hm hd hk hg hr
      · exact makes_ok h hB ht op dir name hn hp hI hm hd hk hg (by omega) (by omega)
  · exact makes_arg h op dir name hI hm
end
end Go.Proofs.YtcjahipcfcghlaaGreatV

/- vfs: Mkdir and Create. -/
namespace Go.Proofs.YtcjahipcfcghlaaGreatV
open Go.RowKit
set_option linter.unusedVariables false
set_option linter.unusedSimpArgs false
section
variable {w : World} {B f : Nat} {own : Nat → Option Int} {Ph : Phys} {S : FSt}
def metaV (m : Mt) : Value := .agg #[.int .u32 m.mode, .int .u32 m.uid, .int .u32 m.gid, .int .i64 m.time, .int .i32 m.nano]
def grab (own : Nat → Option Int) (s k : Nat) (n : Int) : Nat → Option Int := fun b => if s ≤ b ∧ b < s + k then some n else own b
theorem Inv.fresh (I : Inv S) : aget S.next S.inodes = none ∧ 0 < S.next := by
  refine ⟨?_, by have := I.next; omega⟩
  cases h : aget S.next S.inodes with
  | none => rfl
  | some i => have := (I.ino _ _ h).2.2.2.2.2; omega
theorem FSRep.grab (h : FSRep w B f own Ph S) (hB : B ≤ w.heap.size) {w' : World} (hb : Below w.heap.size w w') (k : Nat) (hs : w.heap.size + k ≤ w'.heap.size) (n : Int) : FSRep w' B f (grab own w.heap.size k n) Ph S ∧ Frame w w' own (grab own w.heap.size k n) := by
  refine ⟨h.adopt hb.size hb.block (fun b m ho => ?_) (fun b m ho => ?_), ⟨hb.os, hb.tape, hb.output, hb.size, fun b hlt ho => ⟨hb.block b hlt, ?_⟩⟩⟩
  · have := h.lt ho
    unfold Go.Proofs.YtcjahipcfcghlaaGreatV.grab
    rw [if_neg (by omega)]
    exact ho
  · unfold Go.Proofs.YtcjahipcfcghlaaGreatV.grab at ho
    split at ho
    · omega
    · exact ⟨(h.below b m ho).1, Nat.lt_of_lt_of_le (h.lt ho) hb.size⟩
  · unfold Go.Proofs.YtcjahipcfcghlaaGreatV.grab
    rw [if_neg (by omega)]
    exact ho
theorem new_dir (h : FSRep w B f own Ph S) (hB : B ≤ w.heap.size) (n : Int) (i : Ino) (hk : i.kind = 1) (hd : i.data = []) (he : i.ents = []) (w' : World)
    (hw : w' = (w.alloc (.map #[] 0)).alloc (.cells (inoCells i (.slice none 0 0) (.map (some w.heap.size))) 71 (0, 0))) :
    FSRep w' B f (grab own w.heap.size 2 n) Ph S ∧ Frame w w' own (grab own w.heap.size 2 n) ∧ InoAt w' B (grab own w.heap.size 2 n) n (w.heap.size + 1) (.slice none 0 0) (.map (some w.heap.size)) i := by
  subst hw
  have hg := h.grab hB (below_two w (.map #[] 0) (.cells (inoCells i (.slice none 0 0) (.map (some w.heap.size))) 71 (0, 0))) 2 (by simp) n
  refine ⟨hg.1, hg.2, ⟨heap_two w _ _, by unfold grab; rw [if_pos (by omega)], ⟨?_, fun k hk' => by simp [Value.ownBlock] at hk'⟩, .inl ⟨hk, w.heap.size, rfl, if_pos (by omega), ?_⟩⟩⟩
  · rw [hd]; exact ⟨rfl, .inl ⟨rfl, rfl⟩⟩
  · rw [he]
    exact (MapAt.made w).of_block (Below.heap_alloc _ _ _ (by simp))
theorem new_file (h : FSRep w B f own Ph S) (hB : B ≤ w.heap.size) (n : Int) (i : Ino) (hk : i.kind ≠ 1) (hd : i.data = []) (he : i.ents = []) (w' : World)
    (hw : w' = w.alloc (.cells (inoCells i (.slice none 0 0) (.map none)) 71 (0, 0))) :
    FSRep w' B f (grab own w.heap.size 1 n) Ph S ∧ Frame w w' own (grab own w.heap.size 1 n) ∧ InoAt w' B (grab own w.heap.size 1 n) n w.heap.size (.slice none 0 0) (.map none) i := by
  subst hw
  have hg := h.grab hB (alloc_below w (.cells (inoCells i (.slice none 0 0) (.map none)) 71 (0, 0))) 1 (by simp) n
  refine ⟨hg.1, hg.2, ⟨(MapKept.heap_alloc w _).1, by unfold grab; rw [if_pos (by omega)], ⟨?_, fun k hk' => by simp [Value.ownBlock] at hk'⟩, .inr ⟨hk, rfl, he⟩⟩⟩
  rw [hd]; exact ⟨rfl, .inl ⟨rfl, rfl⟩⟩
set_option maxHeartbeats 1000000 in
theorem Create_calls (h : FSRep w B f own Ph S) (hB : B ≤ w.heap.size) (I : Inv S) (dir : Int) (name : ByteArray) (m : Mt) :
    Calls Tryz.prog 8 #[.pointer (some ⟨f, 0, none⟩), .int .i64 dir, .string name, metaV m] w fun e w' => e = .returned (.tuple #[.int .i64 (createS S dir name m).1, .int .i64 (createS S dir name m).2.1]) ∧ Upd w B f own (createS S dir name m).2.2 w' := by
  have HR := Lib.hid h
  have HB := Lib.hid hB
  have HI := Lib.hid I
  unfold metaV
  clear h hB I
  by_cases ha : atS S dir name = 0
  · obtain ⟨hd, hn⟩ := at_zero ha
    obtain ⟨d, hd, hk⟩ := dirs_one hd
    have HA := Lib.hid ha
    have Hd := Lib.hid hd
    have Hk := Lib.hid hk
    have hr : createS S dir name m = makesS S 2 dir name ⟨2, m, [], noName, [], 0, 0⟩ := by unfold createS; rw [if_pos ha]
    rw [hr]
    clear ha hd hk hn hr
    go_enter Tryz.func8, Tryz.ntmps8
    go_wp2_with fail
    refine (at_calls (HR.out.of_below (alloc_below _ _)) _ _).mono ?_
    rintro e w1 ⟨rfl, hw⟩
    rw [HA.out]
    have cb : ∀ j, w1.cell? ⟨w.heap.size, j, none⟩ = _ := fun j => hw.cell (p := ⟨w.heap.size, j, none⟩) (by simp)
    have HW := Lib.hid (below_next (alloc_below _ _) hw)
    clear hw
    have b0 := cb 0
    have b1 := cb 1
    have b2 := cb 2
    have b3 := cb 3
    have b4 := cb 4
    clear cb
    go_wp2_with fail
    clear b0 b1 b2 b3 b4
    obtain ⟨n1, n2, n3⟩ := new_file (HR.out.of_below HW.out) (Nat.le_trans HB.out HW.out.size) S.next ⟨2, m, [], noName, [], 0, 0⟩ (show (2 : Int) ≠ 1 by decide) rfl rfl _ rfl
    refine (makes_calls (B := B) n1 (Nat.le_trans HB.out (Nat.le_trans HW.out.size n2.size)) (by have := HI.out.trace; omega) 2 dir name HI.out.fresh.1 HI.out.fresh.2 n3 Hd.out Hk.out).mono ?_
    rintro e w2 ⟨rfl, hu⟩
    have HU := Lib.hid (Upd.after (Frame.of_below HW.out) (Upd.after n2 hu))
    clear hu n1 n2 n3
    generalize hq : makesS S 2 dir name ⟨2, m, [], noName, [], 0, 0⟩ = q at *
    go_wp2
    go_ret2
    subst hq
    exact ⟨rfl, HU.out⟩
  · have hr : createS S dir name m = (0, atS S dir name, S) := by unfold createS; rw [if_neg ha]
    have hb : (atS S dir name != 0) = true := bne_iff_ne.2 ha
    rw [hr]
    clear hr ha
    go_enter Tryz.func8, Tryz.ntmps8
    go_wp2_with fail
    refine (at_calls (HR.out.of_below (alloc_below _ _)) _ _).mono ?_
    rintro e w1 ⟨rfl, hw⟩
    have HW := Lib.hid (below_next (alloc_below _ _) hw)
    clear hw
    go_wp2
    go_ret2
    exact ⟨rfl, Upd.below HR.out HW.out⟩
end
end Go.Proofs.YtcjahipcfcghlaaGreatV

/- vfs: Link. -/
namespace Go.Proofs.YtcjahipcfcghlaaGreatV
open Go.RowKit
set_option linter.unusedVariables false
set_option linter.unusedSimpArgs false
section
variable {w : World} {B f : Nat} {own : Nat → Option Int} {Ph : Phys} {S : FSt}
theorem there_pair {a b : Int} (h : thereS S [a, b] = 0) : (∃ i, aget a S.inodes = some i) ∧ ∃ i, aget b S.inodes = some i := by
  simp only [thereS] at h
  cases ha : aget a S.inodes with
  | none => rw [ha] at h; simp at h
  | some i =>
    cases hb : aget b S.inodes with
    | none => rw [ha, hb] at h; simp at h
    | some j => exact ⟨⟨i, rfl⟩, ⟨j, rfl⟩⟩
theorem inoCells_links (i : Ino) (l : Int) (dv ev : Value) : (inoCells i dv ev).setIfInBounds 9 (.int .i64 l) = inoCells { i with links := l } dv ev := rfl
set_option maxHeartbeats 1000000 in
theorem Link_calls (h : FSRep w B f own Ph S) (hB : B ≤ w.heap.size) (I : Inv S) (dir : Int) (name : ByteArray) (node : Int) :
    Calls Tryz.prog 10 #[.pointer (some ⟨f, 0, none⟩), .int .i64 dir, .string name, .int .i64 node] w fun e w' => e = .returned (.int .i64 (linkS S dir name node).1) ∧ Upd w B f own (linkS S dir name node).2 w' := by
  have HR := Lib.hid h
  have HB := Lib.hid hB
  have HI := Lib.hid I
  clear h hB I
  by_cases ht : thereS S [dir, node] = 0
  · have HT := Lib.hid ht
    by_cases ha : atS S dir name = 0
    · obtain ⟨hd, hn⟩ := at_zero ha
      obtain ⟨d, hd, hk⟩ := dirs_one hd
      obtain ⟨_, i, hi⟩ := there_pair ht
      have HA := Lib.hid ha
      have Hd := Lib.hid hd
      have Hk := Lib.hid hk
      have Hi := Lib.hid hi
      cases hg : aget name d.ents with
      | some m =>
        have hr : linkS S dir name node = (104, S) := by unfold linkS; rw [if_pos ht, if_pos ha, entsS_some hd, hg]; rfl
        have Hg := Lib.hid hg
        rw [hr]
        clear ht ha hd hk hn hi hg hr
        go_enter Tryz.func10, Tryz.ntmps10
        go_wp2_with fail
        refine (there_two HR.out _ _ _ _ rfl).mono ?_
        rintro e w1 ⟨rfl, rfl⟩
        rw [HT.out]
        go_wp2_with fail
        refine (at_calls (HR.out.of_below (alloc_below _ _)) _ _).mono ?_
        rintro e w1 ⟨rfl, hw⟩
        rw [HA.out]
        have HW := Lib.hid (below_next (alloc_below _ _) hw)
        clear hw
        go_wp2_with fail
        refine (has_calls (HR.out.of_below HW.out) dir name d Hd.out Hk.out).mono ?_
        rintro e w2 ⟨rfl, rfl⟩
        rw [Hg.out]
        go_wp2
        go_ret
        exact ⟨rfl, Upd.below HR.out HW.out⟩
      | none =>
        have Hg := Lib.hid hg
        by_cases hik : i.kind = 1
        · have hr : linkS S dir name node = (106, S) := by unfold linkS; rw [if_pos ht, if_pos ha, entsS_some hd, hg, hi]; simp only [Option.isSome_none, Bool.false_eq_true, if_false, if_pos hik]
          have Hik := Lib.hid hik
          rw [hr]
          clear ht ha hd hk hn hi hg hr hik
          go_enter Tryz.func10, Tryz.ntmps10
          go_wp2_with fail
          refine (there_two HR.out _ _ _ _ rfl).mono ?_
          rintro e w1 ⟨rfl, rfl⟩
          rw [HT.out]
          go_wp2_with fail
          refine (at_calls (HR.out.of_below (alloc_below _ _)) _ _).mono ?_
          rintro e w1 ⟨rfl, hw⟩
          rw [HA.out]
          have HW := Lib.hid (below_next (alloc_below _ _) hw)
          clear hw
          go_wp2_with fail
          refine (has_calls (HR.out.of_below HW.out) dir name d Hd.out Hk.out).mono ?_
          rintro e w2 ⟨rfl, rfl⟩
          rw [Hg.out]
          have h1 := HR.out.of_below HW.out
          have c4 := h1.c.2.2.2.2.1
          have hl := look_some h1 Hi.out
          have k0 := (h1.inos node i Hi.out).c.1
          rw [Hik.out] at k0
          clear h1
          go_wp2
          go_ret
          exact ⟨rfl, Upd.below HR.out HW.out⟩
        · have hr : linkS S dir name node = (0, doneS (setIno (linkEnt S dir name node) node { i with links := i.links + 1 }) ⟨4, dir, name, node, 0, noName, 0, 0⟩) := by
            unfold linkS; rw [if_pos ht, if_pos ha, entsS_some hd, hg, hi]; simp only [Option.isSome_none, Bool.false_eq_true, if_false, if_neg hik]
          have hle : linkEnt S dir name node = setIno S dir { d with ents := aset name node d.ents } := by unfold linkEnt; rw [hd]
          have hne : dir ≠ node := fun e => by subst e; rw [hd] at hi; cases hi; exact hik hk
          have hkb : (i.kind == 1) = false := beq_eq_false_iff_ne.2 hik
          have hkd : decide (i.kind = 1) = false := decide_eq_false hik
          have hwr : IntKind.i64.wrap (i.links + 1) = i.links + 1 := wrap_small (by have := (HI.out.ino _ _ hi).2.1; omega) (by have := (HI.out.ino _ _ hi).2.2.1; omega)
          rw [hr, hle]
          clear ht ha hd hk hn hi hg hr hle
          go_enter Tryz.func10, Tryz.ntmps10
          go_wp2_with fail
          refine (there_two HR.out _ _ _ _ rfl).mono ?_
          rintro e w1 ⟨rfl, rfl⟩
          rw [HT.out]
          go_wp2_with fail
          refine (at_calls (HR.out.of_below (alloc_below _ _)) _ _).mono ?_
          rintro e w1 ⟨rfl, hw⟩
          rw [HA.out]
          have HW := Lib.hid (below_next (alloc_below _ _) hw)
          clear hw
          go_wp2_with fail
          refine (has_calls (HR.out.of_below HW.out) dir name d Hd.out Hk.out).mono ?_
          rintro e w2 ⟨rfl, rfl⟩
          rw [Hg.out]
          have h1 := HR.out.of_below HW.out
          have c4 := h1.c.2.2.2.2.1
          have hl := look_some h1 Hi.out
          have hl2 := look_some h1 Hd.out
          have hI1 := h1.inos node i Hi.out
          have k0 := hI1.c.1
          have hD1 := h1.inos dir d Hd.out
          obtain ⟨eb, he, hoe, hMe⟩ := hD1.dir Hk.out
          have k8 := hD1.c.2.2.2.2.2.2.2.2.1
          rw [he] at k8
          obtain ⟨w3, hput, hM3, hT3⟩ := put_ent hMe name node
          have h3 := h1.ents_set Hd.out Hk.out he _ hT3 hM3
          have hi3 : aget node (setIno S dir { d with ents := aset name node d.ents }).inodes = some i := by
            show aget node (aset _ _ _) = _
            rw [aget_aset, if_neg hne]
            exact Hi.out
          have hI3 := h3.inos node i hi3
          have k9 := hI3.c.2.2.2.2.2.2.2.2.2.1
          have g9 := hI3.fz 9
          have h4 := h3.cell_set (i' := { i with links := i.links + 1 }) hi3 rfl rfl rfl (Nat.le_of_eq (Turned.setCell _ (Ph.ib node) 9 (.int .i64 (i.links + 1))).size.symm) (fun b _ hb => (Turned.setCell _ (Ph.ib node) 9 (.int .i64 (i.links + 1))).block b hb) (heap_setCell_at hI3.cells 9 _)
          have H4 := Lib.hid h4
          have HT3 := Lib.hid hT3
          have HI3 := Lib.hid hI3
          have Ho := Lib.hid hoe
          clear h1 hI1 hD1 he hMe hM3 hT3 h3 hI3 h4 hi3
          have e9 : (Phys.at Ph dir (Ph.dv dir) (Ph.ev dir)).ib node = Ph.ib node := rfl
          rw [e9] at k9 g9
          go_wp2_with fail
          refine (done_calls (B := B) H4.out (by have := HB.out; have := HW.out.size; have := HT3.out.size; have := (Turned.setCell w3 (Ph.ib node) 9 (.int .i64 (i.links + 1))).size; omega) (by have := HI.out.trace; show S.trace.length ≤ _; omega) ⟨4, dir, name, node, 0, noName, 0, 0⟩).mono ?_
          rintro e w7 ⟨rfl, hu⟩
          have HU := Lib.hid (Upd.after (Frame.of_below HW.out) (Upd.after (Frame.of_turned HT3.out (by rw [Ho.out]; simp)) (Upd.after (Frame.of_turned (Turned.setCell w3 (Ph.ib node) 9 (.int .i64 (i.links + 1))) (by have := HI3.out.ok; rw [e9] at this; rw [this]; simp)) hu)))
          clear hu hput c4 hl hl2 k0 k8 k9 g9
          go_wp2
          go_ret
          exact ⟨rfl, HU.out⟩
    · have hr : linkS S dir name node = (atS S dir name, S) := by unfold linkS; rw [if_pos ht, if_neg ha]
      have hb : (atS S dir name != 0) = true := bne_iff_ne.2 ha
      rw [hr]
      clear ht ha hr
      go_enter Tryz.func10, Tryz.ntmps10
      go_wp2_with fail
      refine (there_two HR.out _ _ _ _ rfl).mono ?_
      rintro e w1 ⟨rfl, rfl⟩
      rw [HT.out]
      go_wp2_with fail
      refine (at_calls (HR.out.of_below (alloc_below _ _)) _ _).mono ?_
      rintro e w1 ⟨rfl, hw⟩
      have HW := Lib.hid (below_next (alloc_below _ _) hw)
      clear hw
      go_wp2
      go_ret
      exact ⟨rfl, Upd.below HR.out HW.out⟩
  · have hr : linkS S dir name node = (thereS S [dir, node], S) := by unfold linkS; rw [if_neg ht]
    have hb : (thereS S [dir, node] != 0) = true := bne_iff_ne.2 ht
    rw [hr]
    clear ht hr
    go_enter Tryz.func10, Tryz.ntmps10
    go_wp2_with fail
    refine (there_two HR.out _ _ _ _ rfl).mono ?_
    rintro e w1 ⟨rfl, rfl⟩
    go_wp2
    go_ret
    exact ⟨rfl, Upd.below HR.out (alloc_below _ _)⟩
end
end Go.Proofs.YtcjahipcfcghlaaGreatV
