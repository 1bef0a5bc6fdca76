/- vfs, pack, compare: contracts of the functions (texts VRead, VRead2, MERGED). -/
import Derived.Test.YtcjahipcfcghlaaGreatVRep
import Derived.Test.YtcjahipcfcghlaaGreatProg
import Derived.Test.YtcjahipcfcghlaaGreatXAny
import Derived.BigQuiet
import Derived.Deep.LoopGhost
import Derived.WideLaws
import Derived.LaidEqlPtr
import Derived.Lib.Hide
import Derived.KernelRfl
/- vfs: calls that only read. -/
namespace Go.Proofs.YtcjahipcfcghlaaGreatV
open Go.RowKit
set_option linter.unusedVariables false
set_option linter.unusedSimpArgs false

theorem zeroPtr (w : World) : (zeroValue 69).run Tryz.prog w = .ok (.pointer none) w := by kernel_rfl
theorem zeroInt (w : World) : (zeroValue 3).run Tryz.prog w = .ok (.int .i64 0) w := by kernel_rfl
theorem YtcjahipcfcghlaaGreatX_ContainsAny (s : ByteArray) (w : World) (hs : s.size < 4294967281) :
    Calls Tryz.prog 51 #[.string s, .string ⟨#[47, 0]⟩] w fun e w' => e = .returned (.bool (Lib.containsAny s.data.toList [47, 0])) ∧ Below w.heap.size w w' :=
  Go.Proofs.YtcjahipcfcghlaaGreatX.ContainsAny_two s ⟨#[47, 0]⟩ w rfl hs (by decide)
section
variable {w : World} {B f : Nat} {own : Nat → Option Int} {Ph : Phys} {S : FSt}
theorem look1 (h : FSRep w B f own Ph S) (n : Int) : (Instr.lookup 65 (.map (some Ph.mb)) (.int .i64 n) false).run Tryz.prog w = .ok (match aget n S.inodes with | some _ => .pointer (some ⟨Ph.ib n, 0, none⟩) | none => .pointer none) w :=
  h.look_run Tryz.underlying65 Tryz.underlying3 zeroPtr n
theorem thereS_take {ns : List Int} {k : Nat} {n : Int} (hk : ns[k]? = some n) (h : thereS S (ns.take k) = 0) : thereS S (ns.take (k + 1)) = (if (aget n S.inodes).isSome then 0 else 100) ∧ ((aget n S.inodes).isSome = false → thereS S ns = 100) := by
  induction ns generalizing k with
  | nil => simp at hk
  | cons a l ih =>
    cases k with
    | zero =>
      simp at hk
      subst hk
      simp only [List.take_succ_cons, List.take_zero, thereS]
      exact ⟨trivial, fun e => by rw [e]; rfl⟩
    | succ k =>
      simp only [List.take_succ_cons, thereS] at h ⊢
      split at h
      · rename_i ha
        rw [if_pos ha, if_pos ha]
        exact ih (by simpa using hk) h
      · cases h
theorem there_calls (h : FSRep w B f own Ph S) (sb : Nat) (ns : List Int) (hc : ∀ i n, ns[i]? = some n → w.cell? ⟨sb, i, none⟩ = some (.int .i64 n)) (hl : ns.length ≤ 1000) :
    Calls Tryz.prog 22 #[.pointer (some ⟨f, 0, none⟩), .slice (some ⟨sb, 0, none⟩) ns.length ns.length] w fun e w' => e = .returned (.int .i64 (thereS S ns)) ∧ w' = w := by
  have c4 : w.cell? ⟨f, 4, none⟩ = some (.map (some Ph.mb)) := by rw [cell_of h.top]; rfl
  have HC := Lib.hid hc
  have HR := Lib.hid h
  clear hc h
  go_enter Tryz.func22, Tryz.ntmps22
  go_wp2
  go_loop [9] (fun i => ∃ k : Nat, k ≤ ns.length ∧ i = .int .i64 k ∧ thereS S (ns.take k) = 0) (fun i => ns.length - (intOf i).toNat)
  case atStart => exact ⟨0, Nat.zero_le _, rfl, rfl⟩
  case round =>
    obtain ⟨k, hk, rfl, ht⟩ := hrel
    have HT := Lib.hid ht
    clear ht
    by_cases hlt : k < ns.length
    · obtain ⟨n, hn⟩ : ∃ n, ns[k]? = some n := ⟨_, List.getElem?_eq_getElem hlt⟩
      have hcell := HC.out k n hn
      have hlook := look1 HR.out n
      have HS := Lib.hid (thereS_take hn HT.out)
      clear hn
      cases ha : aget n S.inodes with
      | none =>
        rw [ha] at hlook
        have HN := Lib.hid ((HS.out).2 (by simp [ha]))
        clear ha
        go_wp2
        go_ret
        exact ⟨by first | (rw [HN.out]; done) | (rw [HN.out]; rfl), rfl⟩
      | some i =>
        rw [ha] at hlook
        have HN := Lib.hid (show thereS S (ns.take (k + 1)) = 0 from HS.out.1.trans (by simp [ha]))
        clear ha
        go_wp2
        go_round
        case rel => exact ⟨k + 1, by omega, by go_num, HN.out⟩
        case measure => simp [intOf]; omega
    · have hT : thereS S ns = 0 := by have := HT.out; rwa [List.take_of_length_le (by omega)] at this
      have HT2 := Lib.hid hT
      clear hT
      go_wp2
      go_ret
      exact ⟨by first | (rw [HT2.out]; done) | (rw [HT2.out]; rfl), rfl⟩
theorem dirsOnly_take {ns : List Int} {k : Nat} {n : Int} {i : Ino} (hk : ns[k]? = some n) (ha : aget n S.inodes = some i) (h : dirsOnly S (ns.take k) = 0) : (i.kind = 1 → dirsOnly S (ns.take (k + 1)) = 0) ∧ (i.kind ≠ 1 → dirsOnly S ns = 101) := by
  induction ns generalizing k with
  | nil => simp at hk
  | cons a l ih =>
    cases k with
    | zero =>
      simp at hk
      subst hk
      simp only [List.take_succ_cons, List.take_zero, dirsOnly, ha]
      exact ⟨fun e => by rw [if_pos e], fun e => by rw [if_neg e]⟩
    | succ k =>
      simp only [List.take_succ_cons, dirsOnly] at h ⊢
      cases hb : aget a S.inodes with
      | none => rw [hb] at h; cases h
      | some j =>
        rw [hb] at h
        simp only at h ⊢
        split at h
        · rename_i hj
          rw [if_pos hj, if_pos hj]
          exact ih (by simpa using hk) h
        · cases h
theorem thereS_mem {ns : List Int} (h : thereS S ns = 0) {k : Nat} {n : Int} (hk : ns[k]? = some n) : ∃ i, aget n S.inodes = some i := by
  induction ns generalizing k with
  | nil => simp at hk
  | cons a l ih =>
    simp only [thereS] at h
    split at h
    · rename_i ha
      cases k with
      | zero =>
        simp at hk
        subst hk
        exact Option.isSome_iff_exists.1 ha
      | succ k => exact ih h (by simpa using hk)
    · cases h
theorem dirs_calls (h : FSRep w B f own Ph S) (sb : Nat) (ns : List Int) (hc : ∀ i n, ns[i]? = some n → w.cell? ⟨sb, i, none⟩ = some (.int .i64 n)) (hl : ns.length ≤ 1000) :
    Calls Tryz.prog 35 #[.pointer (some ⟨f, 0, none⟩), .slice (some ⟨sb, 0, none⟩) ns.length ns.length] w fun e w' => e = .returned (.int .i64 (dirsS S ns)) ∧ w' = w := by
  have c4 : w.cell? ⟨f, 4, none⟩ = some (.map (some Ph.mb)) := by rw [cell_of h.top]; rfl
  have hthere := there_calls h sb ns hc hl
  have HC := Lib.hid hc
  have HR := Lib.hid h
  have HTh := Lib.hid hthere
  clear hc h hthere
  by_cases ht0 : thereS S ns = 0
  · have hd : dirsS S ns = dirsOnly S ns := by unfold dirsS; rw [if_pos ht0]
    have HD := Lib.hid hd
    have HT0 := Lib.hid ht0
    rw [ht0] at HTh
    clear hd ht0
    go_enter Tryz.func35, Tryz.ntmps35
    go_wp2_with (go_at_call 22; refine HTh.out.mono ?_; rintro e w' ⟨rfl, hw⟩; rw [hw])
    go_loop [16] (fun i => ∃ k : Nat, k ≤ ns.length ∧ i = .int .i64 k ∧ dirsOnly S (ns.take k) = 0) (fun i => ns.length - (intOf i).toNat)
    case atStart => exact ⟨0, Nat.zero_le _, rfl, rfl⟩
    case round =>
      obtain ⟨k, hk, rfl, ht⟩ := hrel
      have HT := Lib.hid ht
      clear ht
      by_cases hlt : k < ns.length
      · obtain ⟨n, hn⟩ : ∃ n, ns[k]? = some n := ⟨_, List.getElem?_eq_getElem hlt⟩
        have hcell := HC.out k n hn
        have hlook := look1 HR.out n
        obtain ⟨i, hi⟩ := thereS_mem HT0.out hn
        have HS := Lib.hid (dirsOnly_take hn hi HT.out)
        have hk0 : w.cell? ⟨Ph.ib n, 0, none⟩ = some (.int .i64 i.kind) := by rw [cell_of (HR.out.inos n i hi).cells]; rfl
        rw [hi] at hlook
        clear hn hi
        by_cases hkd : i.kind = 1
        · have HN := Lib.hid (HS.out.1 hkd)
          have hb : (i.kind != 1) = false := bne_eq_false_iff_eq.2 hkd
          clear hkd
          go_wp2
          go_round
          case rel => exact ⟨k + 1, by omega, by go_num, HN.out⟩
          case measure => simp [intOf]; omega
        · have HN := Lib.hid (HD.out.trans (HS.out.2 hkd))
          have hb : (i.kind != 1) = true := bne_iff_ne.2 hkd
          clear hkd
          go_wp2
          go_ret
          exact ⟨by first | (rw [HN.out]; done) | (rw [HN.out]; rfl), rfl⟩
      · have hT : dirsS S ns = 0 := by have := HT.out; rw [List.take_of_length_le (by omega)] at this; exact HD.out.trans this
        have HT2 := Lib.hid hT
        clear hT
        go_wp2
        go_ret
        exact ⟨by first | (rw [HT2.out]; done) | (rw [HT2.out]; rfl), rfl⟩
  · have hd : dirsS S ns = thereS S ns := by unfold dirsS; rw [if_neg ht0]
    have hb : (thereS S ns != 0) = true := bne_iff_ne.2 ht0
    have HD := Lib.hid hd
    clear hd ht0
    go_enter Tryz.func35, Tryz.ntmps35
    go_wp2_with (go_at_call 22; refine HTh.out.mono ?_; rintro e w' ⟨rfl, hw⟩; rw [hw])
    go_ret
    exact ⟨by first | (rw [HD.out]; done) | (rw [HD.out]; rfl), rfl⟩
theorem string_ne (s : ByteArray) (l : List UInt8) : ((⟨l.toArray⟩ : ByteArray) = s) ↔ s.data.toList = l := by
  constructor
  · rintro rfl; rfl
  · rintro rfl; exact Lib.mk_data s
theorem isMeta_calls (m : Mt) (w : World) :
    Calls Tryz.prog 37 #[.agg #[.int .u32 m.mode, .int .u32 m.uid, .int .u32 m.gid, .int .i64 m.time, .int .i32 m.nano]] w fun e w' => e = .returned (.bool (isMetaS m)) ∧ Below w.heap.size w w' := by
  by_cases h1 : m.mode ≤ 4095
  · by_cases h2 : 0 ≤ m.nano
    · have hr : isMetaS m = decide (m.nano ≤ 999999999) := by unfold isMetaS; rw [decide_eq_true h1, decide_eq_true h2]; rfl
      have HD := Lib.hid hr
      clear hr
      go_enter Tryz.func37, Tryz.ntmps37
      go_wp2
      go_ret
      exact ⟨by first | (rw [HD.out]; done) | (rw [HD.out]; rfl), (Below.refl _ _).alloc (Nat.le_refl _) _⟩
    · have hr : isMetaS m = false := by unfold isMetaS; rw [decide_eq_false h2]; simp
      have hb : decide (0 ≤ m.nano) = false := decide_eq_false h2
      have HD := Lib.hid hr
      clear hr
      go_enter Tryz.func37, Tryz.ntmps37
      go_wp2
      go_ret
      exact ⟨by first | (rw [HD.out]; done) | (rw [HD.out]; rfl), (Below.refl _ _).alloc (Nat.le_refl _) _⟩
  · have hr : isMetaS m = false := by unfold isMetaS; rw [decide_eq_false h1]; simp
    have hb : decide (m.mode ≤ 4095) = false := decide_eq_false h1
    have HD := Lib.hid hr
    clear hr
    go_enter Tryz.func37, Tryz.ntmps37
    go_wp2
    go_ret
    exact ⟨by first | (rw [HD.out]; done) | (rw [HD.out]; rfl), (Below.refl _ _).alloc (Nat.le_refl _) _⟩
theorem size_pos_data {s : ByteArray} (h : 1 ≤ s.size) : s.toList.isEmpty = false := by
  rw [Lib.toList_data]
  cases hs : s.data.toList with
  | nil => have := Lib.size_eq s; rw [hs, List.length_nil] at this; omega
  | cons _ _ => rfl
theorem isName_calls (s : ByteArray) (w : World) : Calls Tryz.prog 36 #[.string s] w fun e w' => e = .returned (.bool (isNameS s)) ∧ Below w.heap.size w w' := by
  have e1 : (s.toList = ([46] : List UInt8)) ↔ s.data.toList = [46] := by rw [Lib.toList_data]
  have e2 : (s.toList = ([46, 46] : List UInt8)) ↔ s.data.toList = [46, 46] := by rw [Lib.toList_data]
  by_cases h1 : 1 ≤ s.size
  · by_cases h2 : s.size ≤ 255
    · by_cases h3 : s.data.toList = [46]
      · have hr : isNameS s = false := by unfold isNameS; rw [decide_eq_true h3]; simp
        have HD := Lib.hid hr
        have hb : (s.toList = ([46] : List UInt8)) = True := eq_true (e1.2 h3)
        have hq : (s.toList == ([46] : List UInt8)) = true := beq_iff_eq.2 (e1.2 h3)
        clear hr e1 e2 h3
        go_enter Tryz.func36, Tryz.ntmps36
        go_wp2
        go_ret
        exact ⟨by first | (rw [HD.out]; done) | (rw [HD.out]; rfl), Below.refl _ _⟩
      · have hb : (s.toList = ([46] : List UInt8)) = False := eq_false (fun h => h3 (e1.1 h))
        have hq : (s.toList == ([46] : List UInt8)) = false := beq_eq_false_iff_ne.2 (fun h => h3 (e1.1 h))
        by_cases h4 : s.data.toList = [46, 46]
        · have hr : isNameS s = false := by unfold isNameS; rw [decide_eq_true h4]; simp
          have HD := Lib.hid hr
          have hb2 : (s.toList = ([46, 46] : List UInt8)) = True := eq_true (e2.2 h4)
          have hq2 : (s.toList == ([46, 46] : List UInt8)) = true := beq_iff_eq.2 (e2.2 h4)
          clear hr e1 e2 h3 h4
          go_enter Tryz.func36, Tryz.ntmps36
          go_wp2
          go_ret
          exact ⟨by first | (rw [HD.out]; done) | (rw [HD.out]; rfl), Below.refl _ _⟩
        · have hb2 : (s.toList = ([46, 46] : List UInt8)) = False := eq_false (fun h => h4 (e2.1 h))
          have hq2 : (s.toList == ([46, 46] : List UInt8)) = false := beq_eq_false_iff_ne.2 (fun h => h4 (e2.1 h))
          have hr : isNameS s = !(Lib.containsAny s.data.toList [47, 0]) := by unfold isNameS; rw [decide_eq_false h3, decide_eq_false h4, decide_eq_true h1, decide_eq_true h2]; rfl
          have HD := Lib.hid hr
          have HC := Lib.hid (YtcjahipcfcghlaaGreatX_ContainsAny s w (by omega))
          clear hr e1 e2 h3 h4
          go_enter Tryz.func36, Tryz.ntmps36
          go_wp2_with (go_at_call 51; refine HC.out.mono ?_; rintro e w' ⟨rfl, hw⟩; have HW := Lib.hid hw; clear hw)
          go_ret
          exact ⟨by first | (rw [HD.out]; done) | (rw [HD.out]; rfl), HW.out⟩
    · have hr : isNameS s = false := by unfold isNameS; rw [decide_eq_false h2]; simp
      have HD := Lib.hid hr
      have hb : decide ((s.size : Int) ≤ 255) = false := decide_eq_false (by omega)
      clear hr e1 e2
      go_enter Tryz.func36, Tryz.ntmps36
      go_wp2
      go_ret
      exact ⟨by first | (rw [HD.out]; done) | (rw [HD.out]; rfl), Below.refl _ _⟩
  · have hr : isNameS s = false := by unfold isNameS; rw [decide_eq_false h1]; simp
    have HD := Lib.hid hr
    have hb : decide (1 ≤ (s.size : Int)) = false := decide_eq_false (by omega)
    clear hr e1 e2
    go_enter Tryz.func36, Tryz.ntmps36
    go_wp2
    go_ret
    exact ⟨by first | (rw [HD.out]; done) | (rw [HD.out]; rfl), Below.refl _ _⟩
theorem one_cell (w : World) (t : TypeId) (d : Int) : ∀ i n, [d][i]? = some n → (w.alloc (.cells #[.int .i64 d] t)).cell? ⟨w.heap.size, i, none⟩ = some (.int .i64 n) := by
  intro i n hi
  cases i with
  | zero => simp at hi; subst hi; rw [cell_of (MapKept.heap_alloc w _).1]; rfl
  | succ i => simp at hi
theorem two_cells (w : World) (t : TypeId) (d e : Int) : ∀ i n, [d, e][i]? = some n → (w.alloc (.cells #[.int .i64 d, .int .i64 e] t)).cell? ⟨w.heap.size, i, none⟩ = some (.int .i64 n) := by
  intro i n hi
  match i with
  | 0 => simp at hi; subst hi; rw [cell_of (MapKept.heap_alloc w _).1]; rfl
  | 1 => simp at hi; subst hi; rw [cell_of (MapKept.heap_alloc w _).1]; rfl
  | i + 2 => simp at hi
theorem alloc_below (w : World) (o : Obj) : Below w.heap.size w (w.alloc o) := (Below.refl _ _).alloc (Nat.le_refl _) o
theorem below_next {w w1 w2 : World} (h : Below w.heap.size w w1) (k : Below w1.heap.size w1 w2) : Below w.heap.size w w2 := h.trans (k.mono h.size)
theorem at_calls (h : FSRep w B f own Ph S) (dir : Int) (name : ByteArray) :
    Calls Tryz.prog 18 #[.pointer (some ⟨f, 0, none⟩), .int .i64 dir, .string name] w fun e w' => e = .returned (.int .i64 (atS S dir name)) ∧ Below w.heap.size w w' := by
  have HR := Lib.hid h
  clear h
  by_cases hd : dirsS S [dir] = 0
  · have hr : atS S dir name = if isNameS name = true then 0 else 102 := by unfold atS; rw [if_pos hd]
    have HD := Lib.hid hr
    have HZ := Lib.hid hd
    clear hr hd
    cases hn : isNameS name with
    | true =>
      have HN := Lib.hid hn
      clear hn
      go_enter Tryz.func18, Tryz.ntmps18
      go_wp2_with fail
      refine (dirs_calls (HR.out.of_below (alloc_below _ _)) w.heap.size [dir] (one_cell _ _ _) (by simp)).mono ?_
      rintro e w1 ⟨rfl, hw⟩
      rw [hw, HZ.out]
      clear hw
      go_wp2_with fail
      refine (isName_calls _ _).mono ?_
      rintro e w2 ⟨rfl, hw⟩
      rw [HN.out]
      have HW := Lib.hid hw
      clear hw
      go_wp2
      go_ret
      exact ⟨by rw [HD.out, HN.out]; rfl, below_next (alloc_below _ _) HW.out⟩
    | false =>
      have HN := Lib.hid hn
      clear hn
      go_enter Tryz.func18, Tryz.ntmps18
      go_wp2_with fail
      refine (dirs_calls (HR.out.of_below (alloc_below _ _)) w.heap.size [dir] (one_cell _ _ _) (by simp)).mono ?_
      rintro e w1 ⟨rfl, hw⟩
      rw [hw, HZ.out]
      clear hw
      go_wp2_with fail
      refine (isName_calls _ _).mono ?_
      rintro e w2 ⟨rfl, hw⟩
      rw [HN.out]
      have HW := Lib.hid hw
      clear hw
      go_wp2
      go_ret
      exact ⟨by rw [HD.out, HN.out]; rfl, below_next (alloc_below _ _) HW.out⟩
  · have hr : atS S dir name = dirsS S [dir] := by unfold atS; rw [if_neg hd]
    have HD := Lib.hid hr
    have hb : (dirsS S [dir] != 0) = true := bne_iff_ne.2 hd
    clear hr hd
    go_enter Tryz.func18, Tryz.ntmps18
    go_wp2_with fail
    refine (dirs_calls (HR.out.of_below (alloc_below _ _)) w.heap.size [dir] (one_cell _ _ _) (by simp)).mono ?_
    rintro e w1 ⟨rfl, hw⟩
    rw [hw]
    clear hw
    go_wp2
    go_ret
    exact ⟨by first | (rw [HD.out]; done) | (rw [HD.out]; rfl), alloc_below _ _⟩
end
end Go.Proofs.YtcjahipcfcghlaaGreatV

/- vfs: calls that only read, second part. -/
namespace Go.Proofs.YtcjahipcfcghlaaGreatV
open Go.RowKit
set_option linter.unusedVariables false
set_option linter.unusedSimpArgs false
section
variable {w : World} {B f : Nat} {own : Nat → Option Int} {Ph : Phys} {S : FSt}
theorem below_two (w : World) (o1 o2 : Obj) : Below w.heap.size w ((w.alloc o1).alloc o2) := ((Below.refl _ _).alloc (Nat.le_refl _) _).alloc (by simp) _
theorem FSRep.c (h : FSRep w B f own Ph S) : w.cell? ⟨f, 0, none⟩ = some (.int .i64 S.nodes) ∧ w.cell? ⟨f, 1, none⟩ = some (.int .i64 S.bytes) ∧ w.cell? ⟨f, 2, none⟩ = some (.int .i64 S.next) ∧ w.cell? ⟨f, 3, none⟩ = some (.int .i64 S.used)
    ∧ w.cell? ⟨f, 4, none⟩ = some (.map (some Ph.mb)) ∧ w.cell? ⟨f, 5, none⟩ = some Ph.tv := by
  refine ⟨?_, ?_, ?_, ?_, ?_, ?_⟩ <;> (rw [cell_of h.top]; rfl)
theorem FSRep.fz (h : FSRep w B f own Ph S) (j : Nat) : w.frozen? ⟨f, j, none⟩ = false := frozen_of h.top j
theorem InoAt.c {n : Int} {ib : Nat} {dv ev : Value} {i : Ino} (h : InoAt w B own n ib dv ev i) : w.cell? ⟨ib, 0, none⟩ = some (.int .i64 i.kind) ∧ w.cell? ⟨ib, 1, none⟩ = some (.int .u32 i.mt.mode) ∧ w.cell? ⟨ib, 2, none⟩ = some (.int .u32 i.mt.uid) ∧ w.cell? ⟨ib, 3, none⟩ = some (.int .u32 i.mt.gid)
    ∧ w.cell? ⟨ib, 4, none⟩ = some (.int .i64 i.mt.time) ∧ w.cell? ⟨ib, 5, none⟩ = some (.int .i32 i.mt.nano) ∧ w.cell? ⟨ib, 6, none⟩ = some dv ∧ w.cell? ⟨ib, 7, none⟩ = some (.string i.target) ∧ w.cell? ⟨ib, 8, none⟩ = some ev ∧ w.cell? ⟨ib, 9, none⟩ = some (.int .i64 i.links) ∧ w.cell? ⟨ib, 10, none⟩ = some (.int .i64 i.up) := by
  refine ⟨?_, ?_, ?_, ?_, ?_, ?_, ?_, ?_, ?_, ?_, ?_⟩ <;> (rw [cell_of h.cells]; rfl)
theorem InoAt.fz {n : Int} {ib : Nat} {dv ev : Value} {i : Ino} (h : InoAt w B own n ib dv ev i) (j : Nat) : w.frozen? ⟨ib, j, none⟩ = false := frozen_of h.cells j
theorem InoAt.dir {n : Int} {ib : Nat} {dv ev : Value} {i : Ino} (h : InoAt w B own n ib dv ev i) (hk : i.kind = 1) : ∃ eb, ev = .map (some eb) ∧ own eb = some n ∧ MapAt keyStr (Value.int .i64) w eb i.ents := by
  rcases h.ents with ⟨_, eb, h1, h2, h3⟩ | ⟨h1, _⟩
  · exact ⟨eb, h1, h2, h3⟩
  · exact absurd hk h1
theorem look_ent {eb : Nat} {ents : List (ByteArray × Int)} (h : MapAt keyStr (Value.int .i64) w eb ents) (name : ByteArray) : (Instr.lookup 58 (.map (some eb)) (.string name) true).run Tryz.prog w = .ok (.tuple #[((aget name ents).map (Value.int .i64)).getD (.int .i64 0), .bool (aget name ents).isSome]) w :=
  h.look Tryz.underlying58 Tryz.underlying9 (zeroInt w) name true
theorem look_ent1 {eb : Nat} {ents : List (ByteArray × Int)} (h : MapAt keyStr (Value.int .i64) w eb ents) (name : ByteArray) : (Instr.lookup 58 (.map (some eb)) (.string name) false).run Tryz.prog w = .ok (((aget name ents).map (Value.int .i64)).getD (.int .i64 0)) w :=
  h.look Tryz.underlying58 Tryz.underlying9 (zeroInt w) name false
theorem look_ent_some {eb : Nat} {ents : List (ByteArray × Int)} (h : MapAt keyStr (Value.int .i64) w eb ents) {name : ByteArray} {n : Int} (hg : aget name ents = some n) :
    (Instr.lookup 58 (.map (some eb)) (.string name) true).run Tryz.prog w = .ok (.tuple #[.int .i64 n, .bool true]) w ∧ (Instr.lookup 58 (.map (some eb)) (.string name) false).run Tryz.prog w = .ok (.int .i64 n) w := by
  have h1 := look_ent h name
  have h2 := look_ent1 h name
  rw [hg] at h1 h2
  exact ⟨h1, h2⟩
theorem look_ent_none {eb : Nat} {ents : List (ByteArray × Int)} (h : MapAt keyStr (Value.int .i64) w eb ents) {name : ByteArray} (hg : aget name ents = none) :
    (Instr.lookup 58 (.map (some eb)) (.string name) true).run Tryz.prog w = .ok (.tuple #[.int .i64 0, .bool false]) w := by
  have h1 := look_ent h name
  rw [hg] at h1
  exact h1
theorem look_some (h : FSRep w B f own Ph S) {n : Int} {i : Ino} (hi : aget n S.inodes = some i) : (Instr.lookup 65 (.map (some Ph.mb)) (.int .i64 n) false).run Tryz.prog w = .ok (.pointer (some ⟨Ph.ib n, 0, none⟩)) w := by
  have := look1 h n
  rw [hi] at this
  exact this
theorem look_none (h : FSRep w B f own Ph S) {n : Int} (hi : aget n S.inodes = none) : (Instr.lookup 65 (.map (some Ph.mb)) (.int .i64 n) false).run Tryz.prog w = .ok (.pointer none) w := by
  have := look1 h n
  rw [hi] at this
  exact this
theorem lookupS_some {dir : Int} {name : ByteArray} {d : Ino} {n : Int} (ha : atS S dir name = 0) (hd : aget dir S.inodes = some d) (hg : aget name d.ents = some n) : lookupS S dir name = (n, 0) := by
  unfold lookupS entsS
  rw [if_pos ha, hd]
  simp only
  rw [hg]
theorem lookupS_none {dir : Int} {name : ByteArray} {d : Ino} (ha : atS S dir name = 0) (hd : aget dir S.inodes = some d) (hg : aget name d.ents = none) : lookupS S dir name = (0, 103) := by
  unfold lookupS entsS
  rw [if_pos ha, hd]
  simp only
  rw [hg]
theorem dirs_one {dir : Int} (h : dirsS S [dir] = 0) : ∃ d, aget dir S.inodes = some d ∧ d.kind = 1 := by
  unfold dirsS at h
  split at h
  · cases ha : aget dir S.inodes with
    | none => simp [dirsOnly, ha] at h
    | some d =>
      simp only [dirsOnly, ha] at h
      split at h
      · rename_i hk
        exact ⟨d, rfl, hk⟩
      · cases h
  · rename_i hn; exact absurd h hn
theorem at_zero {dir : Int} {name : ByteArray} (h : atS S dir name = 0) : dirsS S [dir] = 0 ∧ isNameS name = true := by
  unfold atS at h
  split at h
  · rename_i hd
    split at h
    · rename_i hn; exact ⟨hd, hn⟩
    · cases h
  · rename_i hd; exact absurd h hd
theorem there_one (h : FSRep w B f own Ph S) (t : TypeId) (n : Int) (sb : Nat) (hs : sb = w.heap.size) :
    Calls Tryz.prog 22 #[.pointer (some ⟨f, 0, none⟩), .slice (some ⟨sb, 0, none⟩) 1 1] (w.alloc (.cells #[.int .i64 n] t)) fun e w' => e = .returned (.int .i64 (thereS S [n])) ∧ w' = (w.alloc (.cells #[.int .i64 n] t)) := by
  subst hs
  exact there_calls (h.of_below (alloc_below _ _)) w.heap.size [n] (one_cell _ _ _) (by simp)
theorem there_two (h : FSRep w B f own Ph S) (t : TypeId) (n m : Int) (sb : Nat) (hs : sb = w.heap.size) :
    Calls Tryz.prog 22 #[.pointer (some ⟨f, 0, none⟩), .slice (some ⟨sb, 0, none⟩) 2 2] (w.alloc (.cells #[.int .i64 n, .int .i64 m] t)) fun e w' => e = .returned (.int .i64 (thereS S [n, m])) ∧ w' = (w.alloc (.cells #[.int .i64 n, .int .i64 m] t)) := by
  subst hs
  exact there_calls (h.of_below (alloc_below _ _)) w.heap.size [n, m] (two_cells _ _ _ _) (by simp)
theorem dirs_one' (h : FSRep w B f own Ph S) (t : TypeId) (n : Int) (sb : Nat) (hs : sb = w.heap.size) :
    Calls Tryz.prog 35 #[.pointer (some ⟨f, 0, none⟩), .slice (some ⟨sb, 0, none⟩) 1 1] (w.alloc (.cells #[.int .i64 n] t)) fun e w' => e = .returned (.int .i64 (dirsS S [n])) ∧ w' = (w.alloc (.cells #[.int .i64 n] t)) := by
  subst hs
  exact dirs_calls (h.of_below (alloc_below _ _)) w.heap.size [n] (one_cell _ _ _) (by simp)
theorem dirs_two' (h : FSRep w B f own Ph S) (t : TypeId) (n m : Int) (sb : Nat) (hs : sb = w.heap.size) :
    Calls Tryz.prog 35 #[.pointer (some ⟨f, 0, none⟩), .slice (some ⟨sb, 0, none⟩) 2 2] (w.alloc (.cells #[.int .i64 n, .int .i64 m] t)) fun e w' => e = .returned (.int .i64 (dirsS S [n, m])) ∧ w' = (w.alloc (.cells #[.int .i64 n, .int .i64 m] t)) := by
  subst hs
  exact dirs_calls (h.of_below (alloc_below _ _)) w.heap.size [n, m] (two_cells _ _ _ _) (by simp)
theorem has_calls (h : FSRep w B f own Ph S) (dir : Int) (name : ByteArray) (d : Ino) (hd : aget dir S.inodes = some d) (hk : d.kind = 1) :
    Calls Tryz.prog 23 #[.pointer (some ⟨f, 0, none⟩), .int .i64 dir, .string name] w fun e w' => e = .returned (.bool (aget name d.ents).isSome) ∧ w' = w := by
  have c4 := h.c.2.2.2.2.1
  have hlook := look1 h dir
  rw [hd] at hlook
  have hI := h.inos dir d hd
  obtain ⟨eb, he, _, hM⟩ := hI.dir hk
  have c8 := hI.c.2.2.2.2.2.2.2.2.1
  rw [he] at c8
  have hl2 := look_ent hM name
  clear h hI hM he hd hk
  generalize ((aget name d.ents).map (Value.int .i64)).getD (.int .i64 0) = v at *
  go_enter Tryz.func23, Tryz.ntmps23
  go_wp2
  go_ret
  exact ⟨rfl, rfl⟩
theorem Lookup_calls (h : FSRep w B f own Ph S) (dir : Int) (name : ByteArray) :
    Calls Tryz.prog 43 #[.pointer (some ⟨f, 0, none⟩), .int .i64 dir, .string name] w fun e w' => e = .returned (.tuple #[.int .i64 (lookupS S dir name).1, .int .i64 (lookupS S dir name).2]) ∧ Below w.heap.size w w' := by
  have HR := Lib.hid h
  clear h
  by_cases ha : atS S dir name = 0
  · obtain ⟨hd, hn⟩ := at_zero ha
    obtain ⟨d, hd, hk⟩ := dirs_one hd
    have HA := Lib.hid ha
    have Hd := Lib.hid hd
    have Hk := Lib.hid hk
    clear ha hd hk hn
    cases hg : aget name d.ents with
    | none =>
      have HD := Lib.hid (lookupS_none HA.out Hd.out hg)
      have HG := Lib.hid hg
      clear hg
      go_enter Tryz.func43, Tryz.ntmps43
      go_wp2_with fail
      refine (at_calls HR.out _ _).mono ?_
      rintro e w1 ⟨rfl, hw⟩
      rw [HA.out]
      have h1 := HR.out.of_below hw
      have HW := Lib.hid hw
      have c4 := h1.c.2.2.2.2.1
      have hlook := look_some h1 Hd.out
      have hI := h1.inos dir d Hd.out
      obtain ⟨eb, he, _, hM⟩ := hI.dir Hk.out
      have c8 := hI.c.2.2.2.2.2.2.2.2.1
      rw [he] at c8
      have hl2 := look_ent_none hM HG.out
      clear h1 hI hM he hw
      go_wp2
      go_ret2
      exact ⟨by first | (rw [HD.out]; done) | (rw [HD.out]; rfl), HW.out⟩
    | some n =>
      have HD := Lib.hid (lookupS_some HA.out Hd.out hg)
      have HG := Lib.hid hg
      clear hg
      go_enter Tryz.func43, Tryz.ntmps43
      go_wp2_with fail
      refine (at_calls HR.out _ _).mono ?_
      rintro e w1 ⟨rfl, hw⟩
      rw [HA.out]
      have h1 := HR.out.of_below hw
      have HW := Lib.hid hw
      have c4 := h1.c.2.2.2.2.1
      have hlook := look_some h1 Hd.out
      have hI := h1.inos dir d Hd.out
      obtain ⟨eb, he, _, hM⟩ := hI.dir Hk.out
      have c8 := hI.c.2.2.2.2.2.2.2.2.1
      rw [he] at c8
      have hl2 := (look_ent_some hM HG.out).1
      clear h1 hI hM he hw
      go_wp2
      go_ret2
      exact ⟨by first | (rw [HD.out]; done) | (rw [HD.out]; rfl), HW.out⟩
  · have hr : lookupS S dir name = (0, atS S dir name) := by unfold lookupS; rw [if_neg ha]
    have HD := Lib.hid hr
    have hb : (atS S dir name != 0) = true := bne_iff_ne.2 ha
    clear hr ha
    go_enter Tryz.func43, Tryz.ntmps43
    go_wp2_with fail
    refine (at_calls HR.out _ _).mono ?_
    rintro e w1 ⟨rfl, hw⟩
    have HW := Lib.hid hw
    clear hw
    go_wp2
    go_ret2
    exact ⟨by first | (rw [HD.out]; done) | (rw [HD.out]; rfl), HW.out⟩
end
end Go.Proofs.YtcjahipcfcghlaaGreatV
