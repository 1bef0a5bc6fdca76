/- vfs, pack, compare: contracts of the functions (texts VLoses, VTakes, VTrace, VNew, MERGED). -/
import Derived.Test.YtcjahipcfcghlaaGreatVReadB
/- vfs: loses, takes, Unlink, Rmdir. -/
namespace Go.Proofs.YtcjahipcfcghlaaGreatV
open Go.RowKit
set_option linter.unusedVariables false
set_option linter.unusedSimpArgs false
section
variable {w : World} {B f : Nat} {own : Nat → Option Int} {Ph : Phys} {S : FSt}
theorem losesS_some {dir : Int} {name : ByteArray} {d i : Ino} {n : Int} (hd : aget dir S.inodes = some d) (hg : aget name d.ents = some n) (hi : aget n S.inodes = some i) (hne : dir ≠ n) :
    losesS S dir name = if i.links - 1 = 0 then { S with used := S.used - i.data.length, inodes := adel n (aset n { i with links := i.links - 1 } (aset dir { d with ents := adel name d.ents } S.inodes)) }
      else { S with inodes := aset n { i with links := i.links - 1 } (aset dir { d with ents := adel name d.ents } S.inodes) } := by
  unfold losesS
  rw [hd]
  simp only
  rw [hg]
  simp only
  rw [aget_aset, if_neg hne, hi]
set_option maxHeartbeats 1000000 in
set_option maxRecDepth 100000 in
theorem loses_calls (h : FSRep w B f own Ph S) (I : Inv S) (dir : Int) (name : ByteArray) (d i : Ino) (n : Int) (hd : aget dir S.inodes = some d) (hk : d.kind = 1) (hg : aget name d.ents = some n) (hi : aget n S.inodes = some i) (hne : dir ≠ n) :
    Calls Tryz.prog 44 #[.pointer (some ⟨f, 0, none⟩), .int .i64 dir, .string name] w fun e w' => e = .returned (.tuple #[]) ∧ Upd w B f own (losesS S dir name) w' := by
  rw [losesS_some hd hg hi hne]
  have c4 := h.c.2.2.2.2.1
  have hl := look_some h hd
  have hD := h.inos dir d hd
  obtain ⟨eb, he, hoe, hMe⟩ := hD.dir hk
  have k8 := hD.c.2.2.2.2.2.2.2.2.1
  rw [he] at k8
  have hle := (look_ent_some hMe hg).2
  obtain ⟨w1, hdrop, hM1, hT1⟩ := drop_ent hMe name 0
  have h1 := h.ents_set hd hk he _ hT1 hM1
  have hi1 : aget n (setIno S dir { d with ents := adel name d.ents }).inodes = some i := by
    show aget n (aset _ _ _) = _
    rw [aget_aset, if_neg hne]
    exact hi
  have c41 : _ = some (Value.map (some Ph.mb)) := h1.c.2.2.2.2.1
  have hl1 : (Instr.lookup 65 (.map (some Ph.mb)) (.int .i64 n) false).run Tryz.prog w1 = .ok (.pointer (some ⟨Ph.ib n, 0, none⟩)) w1 := look_some h1 hi1
  have hI1 := h1.inos n i hi1
  have k91 := hI1.c.2.2.2.2.2.2.2.2.2.1
  have g91 := hI1.fz 9
  have hif : Ph.ib n ≠ f := h1.ino_ne hi1 hI1.ok
  have e9 : (Phys.at Ph dir (Ph.dv dir) (Ph.ev dir)).ib n = Ph.ib n := rfl
  have h2 := h1.cell_set (i' := { i with links := i.links - 1 }) hi1 rfl rfl rfl (Nat.le_of_eq (Turned.setCell _ (Ph.ib n) 9 (.int .i64 (i.links - 1))).size.symm) (fun b _ hb => (Turned.setCell _ (Ph.ib n) 9 (.int .i64 (i.links - 1))).block b hb) (heap_setCell_at hI1.cells 9 _)
  have hi2 := aget_setIno (setIno S dir { d with ents := adel name d.ents }) n { i with links := i.links - 1 }
  have hI2 := h2.inos n _ hi2
  have hF2 : Frame w (w1.setCell ⟨Ph.ib n, 9, none⟩ (.int .i64 (i.links - 1))) own own := (Frame.of_turned hT1 (by rw [hoe]; simp)).trans (Frame.of_turned (Turned.setCell w1 (Ph.ib n) 9 _) (by have := hI1.ok; rw [e9] at this; rw [this]; simp))
  have hb := I.ino n i hi
  have hus := I.used
  have hby := I.bytes
  have hw1 : IntKind.i64.wrap (i.links - 1) = i.links - 1 := wrap_small (by omega) (by omega)
  have hw2 : IntKind.i64.wrap (S.used - (i.data.length : Int)) = S.used - (i.data.length : Int) := wrap_small (by omega) (by omega)
  have k92 := hI2.c.2.2.2.2.2.2.2.2.2.1
  have k62 := hI2.c.2.2.2.2.2.2.1
  obtain ⟨da, dc, hdv, _, _⟩ := row_slice hI2.data
  rw [hdv] at k62
  have c32 : _ = some (Value.int .i64 S.used) := h2.c.2.2.2.1
  have f32 := h2.fz 3
  have H2 := Lib.hid h2
  have HF2 := Lib.hid hF2
  have hibe : (Phys.at (Phys.at Ph dir (Ph.dv dir) (Ph.ev dir)) n ((Phys.at Ph dir (Ph.dv dir) (Ph.ev dir)).dv n) ((Phys.at Ph dir (Ph.dv dir) (Ph.ev dir)).ev n)).ib n = Ph.ib n := rfl
  rw [hibe] at k92 k62
  rw [e9] at k91 g91
  have hlen0 : i.data.length = ({ i with links := i.links - 1 } : Ino).data.length := rfl
  rw [← hlen0] at k62
  clear hk h hD he hoe hMe hd hg hi I hM1 hT1 h1 hi1 hI1 h2 hi2 hI2 hF2 hdv hb hus hby e9 hibe hlen0
  generalize hL : i.links - 1 = L at *
  have hw1' : IntKind.i64.wrap (i.links - 1) = L := by rw [hL]; exact hw1
  clear hL hw1
  by_cases hz : L = 0
  · rw [if_pos hz]
    subst hz
    go_enter Tryz.func44, Tryz.ntmps44
    go_wp2_with fail
    generalize hq : w1.setCell ⟨Ph.ib n, 9, none⟩ (.int .i64 0) = w2 at *
    have h4 := (H2.out.used_set (S.used - (i.data.length : Int))).drewN 1
    obtain ⟨w4, hdrop4, hM4, hT4⟩ := drop_ino (mb := Ph.mb) h4.map n 0
    have c42 : _ = some (Value.map (some Ph.mb)) := H2.out.c.2.2.2.2.1
    have H6 := Lib.hid (h4.ino_drop n hT4 hM4)
    have HT4 := Lib.hid hT4
    have HT3 := Lib.hid (Turned.setCell w2 f 3 (.int .i64 (S.used - (i.data.length : Int))))
    have Hof := Lib.hid (show own f ≠ none by rw [H2.out.okf]; simp)
    have Hom := Lib.hid (show own Ph.mb ≠ none by have := H2.out.okm; rw [show (Phys.at (Phys.at Ph dir (Ph.dv dir) (Ph.ev dir)) n ((Phys.at Ph dir (Ph.dv dir) (Ph.ev dir)).dv n) ((Phys.at Ph dir (Ph.dv dir) (Ph.ev dir)).ev n)).mb = Ph.mb from rfl] at this; rw [this]; simp)
    have ed : (w2.setCell ⟨f, 3, none⟩ (.int .i64 (S.used - (i.data.length : Int)))).drewN 1 = (w2.setCell ⟨f, 3, none⟩ (.int .i64 (S.used - (i.data.length : Int)))).drew := rfl
    rw [ed] at hdrop4
    clear h4 hM4 hT4 ed
    go_region
    go_wp2
    go_end0
    exact ⟨rfl, Upd.after HF2.out (Upd.after (Frame.of_turned HT3.out Hof.out) (Upd.after (Frame.of_below (below_drewN _ _ 1)) (Upd.after (Frame.of_turned HT4.out Hom.out) ⟨_, _, H6.out, Frame.refl _ _⟩)))⟩
  · rw [if_neg hz]
    go_enter Tryz.func44, Tryz.ntmps44
    go_wp2_with fail
    go_end0
    exact ⟨rfl, _, _, H2.out, HF2.out⟩
end
end Go.Proofs.YtcjahipcfcghlaaGreatV

/- vfs: takes, Unlink, Rmdir, Trace. -/
namespace Go.Proofs.YtcjahipcfcghlaaGreatV
open Go.RowKit
set_option linter.unusedVariables false
set_option linter.unusedSimpArgs false
section
variable {w : World} {B f : Nat} {own : Nat → Option Int} {Ph : Phys} {S : FSt}
/-- What a found entry tells. -/
theorem lookup_found {dir : Int} {name : ByteArray} (h : (lookupS S dir name).2 = 0) : ∃ d n, aget dir S.inodes = some d ∧ d.kind = 1 ∧ aget name d.ents = some n ∧ lookupS S dir name = (n, 0) := by
  by_cases ha : atS S dir name = 0
  · obtain ⟨hd, hn⟩ := at_zero ha
    obtain ⟨d, hd, hk⟩ := dirs_one hd
    cases hg : aget name d.ents with
    | none => rw [lookupS_none ha hd hg] at h; cases h
    | some n => exact ⟨d, n, hd, hk, hg, lookupS_some ha hd hg⟩
  · unfold lookupS at h
    rw [if_neg ha] at h
    exact absurd h ha
def takesB (S : FSt) (op dir : Int) (name : ByteArray) (n : Int) (i : Ino) : Int × FSt := if (decide (i.kind = 1) != decide (op = 8)) = true then (106, S) else if 0 < i.ents.length then (109, S) else (0, doneS (losesS S dir name) ⟨op, dir, name, n, 0, noName, 0, 0⟩)
theorem takesS_found {op dir : Int} {name : ByteArray} {n : Int} {i : Ino} (hl : lookupS S dir name = (n, 0)) (hi : aget n S.inodes = some i) : takesS S op dir name = takesB S op dir name n i := by
  unfold takesS takesB
  rw [hl]
  simp only [if_true]
  rw [hi]
set_option maxRecDepth 100000 in
theorem takes_kind (h : FSRep w B f own Ph S) (op dir : Int) (name : ByteArray) (i : Ino) (n : Int) (Hl : lookupS S dir name = (n, 0)) (Hi : aget n S.inodes = some i) (x y : Bool) (hx : (i.kind == 1) = x) (hy : (op == 8) = y) (hxy : (x = true ∧ y = false) ∨ (x = false ∧ y = true)) :
    Calls Tryz.prog 26 #[.pointer (some ⟨f, 0, none⟩), .int .i64 op, .int .i64 dir, .string name] w fun e w' => e = .returned (.int .i64 106) ∧ Upd w B f own S w' := by
  have HR := Lib.hid h
  have HI := Lib.hid Hi
  have HL := Lib.hid Hl
  clear h Hl Hi
  rcases hxy with ⟨rfl, rfl⟩ | ⟨rfl, rfl⟩
  all_goals
    go_enter Tryz.func26, Tryz.ntmps26
    go_wp2_with fail
    refine (Lookup_calls HR.out dir name).mono ?_
    rintro e w1 ⟨rfl, hw⟩
    rw [HL.out]
    have HW := Lib.hid hw
    have h1 := HR.out.of_below hw
    have c4 := h1.c.2.2.2.2.1
    have hlk := look_some h1 HI.out
    have k0 := (h1.inos n i HI.out).c.1
    clear hw h1
    go_wp2
    go_ret
    exact ⟨rfl, Upd.below HR.out HW.out⟩
set_option maxRecDepth 100000 in
theorem takes_full (h : FSRep w B f own Ph S) (op dir : Int) (name : ByteArray) (i : Ino) (n : Int) (Hl : lookupS S dir name = (n, 0)) (Hi : aget n S.inodes = some i) (x : Bool) (hx : (i.kind == 1) = x) (hy : (op == 8) = x) (he : 0 < i.ents.length) :
    Calls Tryz.prog 26 #[.pointer (some ⟨f, 0, none⟩), .int .i64 op, .int .i64 dir, .string name] w fun e w' => e = .returned (.int .i64 109) ∧ Upd w B f own S w' := by
  have HR := Lib.hid h
  have HI := Lib.hid Hi
  have HL := Lib.hid Hl
  have he' : (0 : Int) < (i.ents.length : Int) := by omega
  clear h Hl Hi he
  cases x
  all_goals
    go_enter Tryz.func26, Tryz.ntmps26
    go_wp2_with fail
    refine (Lookup_calls HR.out dir name).mono ?_
    rintro e w1 ⟨rfl, hw⟩
    rw [HL.out]
    have HW := Lib.hid hw
    have h1 := HR.out.of_below hw
    have c4 := h1.c.2.2.2.2.1
    have hlk := look_some h1 HI.out
    have hI1 := h1.inos n i HI.out
    have k0 := hI1.c.1
    have k8 := hI1.c.2.2.2.2.2.2.2.2.1
    have hlen := len_ents hI1
    clear hw h1 hI1
    go_wp2
    go_ret
    exact ⟨rfl, Upd.below HR.out HW.out⟩
set_option maxRecDepth 100000 in
theorem takes_go (h : FSRep w B f own Ph S) (hB : B ≤ w.heap.size) (I : Inv S) (op dir : Int) (name : ByteArray) (d i : Ino) (n : Int) (hl : lookupS S dir name = (n, 0)) (hd : aget dir S.inodes = some d) (hk : d.kind = 1) (hg : aget name d.ents = some n) (hi : aget n S.inodes = some i)
    (x : Bool) (hx : (i.kind == 1) = x) (hy : (op == 8) = x) (he : ¬ 0 < i.ents.length) :
    Calls Tryz.prog 26 #[.pointer (some ⟨f, 0, none⟩), .int .i64 op, .int .i64 dir, .string name] w fun e w' => e = .returned (.int .i64 0) ∧ Upd w B f own (doneS (losesS S dir name) ⟨op, dir, name, n, 0, noName, 0, 0⟩) w' := by
  have HR := Lib.hid h
  have HB := Lib.hid hB
  have HI := Lib.hid I
  have Hd := Lib.hid hd
  have Hk := Lib.hid hk
  have Hg := Lib.hid hg
  have Hi := Lib.hid hi
  have Hl := Lib.hid hl
  have he' : ¬ (0 : Int) < (i.ents.length : Int) := by omega
  have Hne := Lib.hid (show dir ≠ n by
    intro e
    have h1 := hi
    rw [← e, hd] at h1
    cases h1
    have h2 := aget_mem hg
    rw [List.eq_nil_of_length_eq_zero (by omega : d.ents.length = 0)] at h2
    cases h2)
  have Htr : Hid ((losesS S dir name).trace = S.trace) := by
    refine Lib.hid ?_
    rw [losesS_some hd hg hi Hne.out]
    split <;> rfl
  clear h hB I hd hk hg hi hl he
  cases x
  all_goals
    go_enter Tryz.func26, Tryz.ntmps26
    go_wp2_with fail
    refine (Lookup_calls HR.out dir name).mono ?_
    rintro e w1 ⟨rfl, hw⟩
    rw [Hl.out]
    have HW := Lib.hid hw
    have h1 := HR.out.of_below hw
    have c4 := h1.c.2.2.2.2.1
    have hlk := look_some h1 Hi.out
    have hI1 := h1.inos n i Hi.out
    have k0 := hI1.c.1
    have k8 := hI1.c.2.2.2.2.2.2.2.2.1
    have hlen := len_ents hI1
    clear hw h1 hI1
    go_wp2_with fail
    refine (loses_calls (HR.out.of_below HW.out) HI.out dir name d i n Hd.out Hk.out Hg.out Hi.out Hne.out).mono ?_
    rintro e w2 ⟨rfl, own2, Ph2, r1, r2⟩
    have R1 := Lib.hid r1
    have R2 := Lib.hid r2
    clear r1 r2 c4 hlk k0 k8 hlen
    go_wp2_with fail
    refine (done_calls (B := B) R1.out (Nat.le_trans HB.out (Nat.le_trans HW.out.size R2.out.size)) (by rw [Htr.out]; have := HI.out.trace; omega) ⟨op, dir, name, n, 0, noName, 0, 0⟩).mono ?_
    rintro e w7 ⟨rfl, hu⟩
    have HU := Lib.hid (Upd.after (Frame.of_below HW.out) (Upd.after R2.out hu))
    clear hu
    go_wp2
    go_ret
    exact ⟨rfl, HU.out⟩
theorem takes_none (h : FSRep w B f own Ph S) (op dir : Int) (name : ByteArray) (hl : (lookupS S dir name).2 ≠ 0) :
    Calls Tryz.prog 26 #[.pointer (some ⟨f, 0, none⟩), .int .i64 op, .int .i64 dir, .string name] w fun e w' => e = .returned (.int .i64 (lookupS S dir name).2) ∧ Upd w B f own S w' := by
  have HR := Lib.hid h
  clear h
  generalize hq : lookupS S dir name = q at *
  have HQ := Lib.hid hq
  have hb : (q.2 != 0) = true := bne_iff_ne.2 hl
  clear hq hl
  go_enter Tryz.func26, Tryz.ntmps26
  go_wp2_with fail
  refine (Lookup_calls HR.out dir name).mono ?_
  rintro e w1 ⟨rfl, hw⟩
  rw [HQ.out]
  have HW := Lib.hid hw
  clear hw
  go_wp2
  go_ret
  exact ⟨rfl, Upd.below HR.out HW.out⟩
theorem takes_calls (h : FSRep w B f own Ph S) (hB : B ≤ w.heap.size) (I : Inv S) (op dir : Int) (name : ByteArray) :
    Calls Tryz.prog 26 #[.pointer (some ⟨f, 0, none⟩), .int .i64 op, .int .i64 dir, .string name] w fun e w' => e = .returned (.int .i64 (takesS S op dir name).1) ∧ Upd w B f own (takesS S op dir name).2 w' := by
  by_cases hl : (lookupS S dir name).2 = 0
  · obtain ⟨d, n, hd, hk, hg, hlk⟩ := lookup_found hl
    obtain ⟨i, hi⟩ := I.ents dir d hd _ (aget_mem hg)
    have hi' : aget n S.inodes = some i := hi
    rw [takesS_found hlk hi']
    unfold takesB
    by_cases hx : (decide (i.kind = 1) != decide (op = 8)) = true
    · rw [if_pos hx]
      refine takes_kind h op dir name i n hlk hi' _ _ rfl rfl ?_
      by_cases a : i.kind = 1 <;> by_cases b : op = 8 <;> simp [a, b] at hx ⊢
    · rw [if_neg hx]
      have hy : (op == 8) = (i.kind == 1) := by
        have hx' : decide (i.kind = 1) = decide (op = 8) := by simpa [bne] using hx
        exact hx'.symm
      by_cases he : 0 < i.ents.length
      · rw [if_pos he]
        exact takes_full h op dir name i n hlk hi' _ rfl hy he
      · rw [if_neg he]
        exact takes_go h hB I op dir name d i n hlk hd hk hg hi' _ rfl hy he
  · have hr : takesS S op dir name = ((lookupS S dir name).2, S) := by unfold takesS; rw [if_neg hl]
    rw [hr]
    exact takes_none h op dir name hl
theorem Unlink_calls (h : FSRep w B f own Ph S) (hB : B ≤ w.heap.size) (I : Inv S) (dir : Int) (name : ByteArray) :
    Calls Tryz.prog 12 #[.pointer (some ⟨f, 0, none⟩), .int .i64 dir, .string name] w fun e w' => e = .returned (.int .i64 (takesS S 7 dir name).1) ∧ Upd w B f own (takesS S 7 dir name).2 w' := by
  have HR := Lib.hid h
  have HB := Lib.hid hB
  have HI := Lib.hid I
  clear h hB I
  go_enter Tryz.func12, Tryz.ntmps12
  go_wp2_with fail
  refine (takes_calls HR.out HB.out HI.out 7 dir name).mono ?_
  rintro e w1 ⟨rfl, hu⟩
  have HU := Lib.hid hu
  clear hu
  go_wp2
  go_ret
  exact ⟨rfl, HU.out⟩
end
end Go.Proofs.YtcjahipcfcghlaaGreatV

/- vfs: Trace. -/
namespace Go.Proofs.YtcjahipcfcghlaaGreatV
open Go.RowKit
set_option linter.unusedVariables false
set_option linter.unusedSimpArgs false
section
variable {w : World} {B f : Nat} {own : Nat → Option Int} {Ph : Phys} {S : FSt}
theorem actCells_one (l : List Act8) : ∀ u ∈ l.flatMap actCells, u.oneCell' = true := fun u hu => by
  obtain ⟨a, _, hu⟩ := List.mem_flatMap.1 hu
  simp [actCells] at hu
  rcases hu with rfl | rfl | rfl | rfl | rfl | rfl | rfl | rfl <;> rfl
end
end Go.Proofs.YtcjahipcfcghlaaGreatV

/- vfs: New. -/
namespace Go.Proofs.YtcjahipcfcghlaaGreatV
open Go.RowKit
set_option linter.unusedVariables false
set_option linter.unusedSimpArgs false
def ownNew (s : Nat) : Nat → Option Int := fun b => if b = s ∨ b = s + 1 then some (-1) else if b = s + 2 ∨ b = s + 3 then some 1 else none
def phNew (s : Nat) : Phys := ⟨s + 1, .slice none 0 0, fun _ => s + 3, fun _ => .slice none 0 0, fun _ => .map (some (s + 2))⟩
def root0 : Ino := ⟨1, zeroMt, [], noName, [], 1, 1⟩
def topOf (nodes bytes : Int) (m : Value) : Array Value := #[.int .i64 nodes, .int .i64 bytes, .int .i64 2, .int .i64 0, m, .slice none 0 0]
def stNew (nodes bytes : Int) : FSt := ⟨nodes, bytes, 2, 0, [(1, root0)], []⟩
def worldNew (w : World) (nodes bytes : Int) : World := (((w.alloc (.cells (topOf nodes bytes (.map none)) 68 (0, 0))).alloc (.map #[] 0)).alloc (.map #[] 0)).alloc (.cells (inoCells root0 (.slice none 0 0) (.map (some (w.heap.size + 2)))) 71 (0, 0))
theorem heap_alloc_at (w : World) (o : Obj) (b : Nat) (hb : b = w.heap.size) : (w.alloc o).heap[b]? = some o := by subst hb; exact (MapKept.heap_alloc w o).1
theorem worldNew_heap (w : World) (nodes bytes : Int) : (worldNew w nodes bytes).heap.size = w.heap.size + 4 ∧ (worldNew w nodes bytes).heap[w.heap.size]? = some (.cells (topOf nodes bytes (.map none)) 68 (0, 0)) ∧ (worldNew w nodes bytes).heap[w.heap.size + 1]? = some (.map #[] 0)
    ∧ (worldNew w nodes bytes).heap[w.heap.size + 2]? = some (.map #[] 0) ∧ (worldNew w nodes bytes).heap[w.heap.size + 3]? = some (.cells (inoCells root0 (.slice none 0 0) (.map (some (w.heap.size + 2)))) 71 (0, 0)) := by
  unfold worldNew
  refine ⟨by simp, ?_, ?_, ?_, ?_⟩
  · rw [Below.heap_alloc _ _ _ (by simp; omega), Below.heap_alloc _ _ _ (by simp; omega), Below.heap_alloc _ _ _ (by simp)]
    exact heap_alloc_at _ _ _ rfl
  · rw [Below.heap_alloc _ _ _ (by simp), Below.heap_alloc _ _ _ (by simp)]
    exact heap_alloc_at _ _ _ (by simp)
  · rw [Below.heap_alloc _ _ _ (by simp)]
    exact heap_alloc_at _ _ _ (by simp)
  · exact heap_alloc_at _ _ _ (by simp)
theorem worldNew_below (w : World) (nodes bytes : Int) : Below w.heap.size w (worldNew w nodes bytes) := by
  unfold worldNew
  exact ((((Below.refl _ _).alloc (Nat.le_refl _) _).alloc (by simp) _).alloc (by simp; omega) _).alloc (by simp; omega) _
theorem new_rep (w : World) (nodes bytes : Int) {w5 : World} (hM : MapAt keyInt encPtr w5 (w.heap.size + 1) (aset 1 (w.heap.size + 3) ([] : List (Int × Nat)))) (hT : Turned (worldNew w nodes bytes) w5 (w.heap.size + 1)) :
    FSRep (w5.setCell ⟨w.heap.size, 4, none⟩ (.map (some (w.heap.size + 1)))) w.heap.size w.heap.size (ownNew w.heap.size) (phNew w.heap.size) (stNew nodes bytes) ∧ Frame w (w5.setCell ⟨w.heap.size, 4, none⟩ (.map (some (w.heap.size + 1)))) (fun _ => none) (ownNew w.heap.size) := by
  obtain ⟨h0, h1, h2, h3, h4⟩ := worldNew_heap w nodes bytes
  have hT2 := Turned.setCell w5 w.heap.size 4 (.map (some (w.heap.size + 1)))
  have hsz : (w5.setCell ⟨w.heap.size, 4, none⟩ (.map (some (w.heap.size + 1)))).heap.size = w.heap.size + 4 := by rw [hT2.size, hT.size, h0]
  have hB := worldNew_below w nodes bytes
  have hblk : ∀ b, b ≠ w.heap.size → b ≠ w.heap.size + 1 → (w5.setCell ⟨w.heap.size, 4, none⟩ (.map (some (w.heap.size + 1)))).heap[b]? = (worldNew w nodes bytes).heap[b]? := fun b e1 e2 => (hT2.block b e1).trans (hT.block b e2)
  have o2 : ownNew w.heap.size (w.heap.size + 2) = some 1 := by unfold ownNew; rw [if_neg (by omega), if_pos (by omega)]
  have o3 : ownNew w.heap.size (w.heap.size + 3) = some 1 := by unfold ownNew; rw [if_neg (by omega), if_pos (by omega)]
  refine ⟨⟨fun b n ho => ?_, ?_, if_pos (.inl rfl), if_pos (.inr rfl), ?_, ⟨⟨rfl, .inl ⟨rfl, rfl⟩⟩, fun k hk => by simp [phNew, Value.ownBlock] at hk⟩, fun n i hi => ?_, ?_, fun n hn => ?_⟩, ⟨?_, ?_, ?_, ?_, fun b hb _ => ⟨?_, ?_⟩⟩⟩
  · rw [hsz]
    unfold ownNew at ho
    split at ho
    · rename_i e; omega
    · split at ho
      · rename_i e; omega
      · cases ho
  · exact (heap_setCell_at ((hT.block _ (by omega)).trans h1) 4 _).trans rfl
  · show MapAt keyInt encPtr _ (w.heap.size + 1) [(1, w.heap.size + 3)]
    exact MapAt.of_block hM (hT2.block _ (by omega))
  · have hin : n = 1 ∧ i = root0 := by
      simp only [stNew, aget] at hi
      split at hi
      · rename_i e; cases hi; exact ⟨e.symm, rfl⟩
      · cases hi
    obtain ⟨rfl, rfl⟩ := hin
    refine ⟨(hblk (w.heap.size + 3) (by omega) (by omega)).trans h4, o3, ⟨⟨rfl, .inl ⟨rfl, rfl⟩⟩, fun k hk => by simp [phNew, Value.ownBlock] at hk⟩, .inl ⟨rfl, w.heap.size + 2, rfl, o2, #[], 0, (hblk (w.heap.size + 2) (by omega) (by omega)).trans h3, rfl, by simp, by simp⟩⟩
  · simp [stNew, akeys]
  · simp [stNew, akeys] at hn
    omega
  · exact hT2.os.trans (hT.os.trans hB.os)
  · exact hT2.tape.trans (hT.tape.trans hB.tape)
  · exact hT2.output.trans (hT.output.trans hB.output)
  · rw [hsz]; omega
  · exact (hblk _ (by omega) (by omega)).trans (hB.block _ hb)
  · unfold ownNew
    rw [if_neg (by omega), if_neg (by omega)]
set_option maxHeartbeats 1000000 in
theorem New_calls (w : World) (nodes bytes : Int) (hn : 1 ≤ nodes ∧ nodes ≤ 4096) (hb : 0 ≤ bytes ∧ bytes ≤ 4194304) :
    Calls Tryz.prog 7 #[.int .i64 nodes, .int .i64 bytes] w fun e w' => e = .returned (.tuple #[.pointer (some ⟨w.heap.size, 0, none⟩), .int .i64 0]) ∧ FSRep w' w.heap.size w.heap.size (ownNew w.heap.size) (phNew w.heap.size) (stNew nodes bytes) ∧ Frame w w' (fun _ => none) (ownNew w.heap.size) := by
  obtain ⟨h0, h1, h2, h3, h4⟩ := worldNew_heap w nodes bytes
  have hM0 : MapAt keyInt encPtr (worldNew w nodes bytes) (w.heap.size + 1) ([] : List (Int × Nat)) := ⟨#[], 0, h2, rfl, by simp, by simp⟩
  obtain ⟨w5, hput, hM, hT⟩ := put_ino hM0 1 (w.heap.size + 3)
  have HR := Lib.hid (new_rep w nodes bytes hM hT)
  have b4 : w5.heap[w.heap.size]? = _ := (hT.block _ (by omega)).trans h1
  have c4 : w5.cell? ⟨w.heap.size, 4, none⟩ = some (.map none) := (cell_of b4 4).trans rfl
  have f4 : w5.frozen? ⟨w.heap.size, 4, none⟩ = false := frozen_of b4 4
  have d1 : decide (nodes < 1) = false := decide_eq_false (by omega)
  have d2 : decide (4096 < nodes) = false := decide_eq_false (by omega)
  have d3 : decide (bytes < 0) = false := decide_eq_false (by omega)
  have d4 : decide (4194304 < bytes) = false := decide_eq_false (by omega)
  unfold worldNew topOf inoCells root0 zeroMt noName at hput
  have mk : ∀ (t : TypeId) (w : World), (Instr.makeMap t none).run Tryz.prog w = .ok (.map (some w.heap.size)) (w.alloc (.map #[] 0)) := fun _ _ => rfl
  clear hM hT hM0 h0 h1 h2 h3 h4 b4
  go_enter Tryz.func7, Tryz.ntmps7
  go_wp2_with fail
  go_ret2
  exact ⟨rfl, HR.out.1, HR.out.2⟩
end Go.Proofs.YtcjahipcfcghlaaGreatV
