/- vfs: calls that only read. -/
import Derived.Test.YtphbbcjmnlamaaaGreatVRep
import Derived.Test.YtphbbcjmnlamaaaGreatProg
import Derived.BigQuiet
import Derived.Deep.LoopGhost
import Derived.WideLaws
import Derived.LaidEqlPtr
import Derived.Lib.Hide
import Derived.KernelRfl
namespace Go.Proofs.YtphbbcjmnlamaaaGreatV
open Go.RowKit
set_option linter.unusedVariables false
set_option linter.unusedSimpArgs false

theorem zeroPtr (w : World) : (zeroValue 74).run Tryz.prog w = .ok (.pointer none) w := by kernel_rfl
theorem zeroInt (w : World) : (zeroValue 3).run Tryz.prog w = .ok (.int .i64 0) w := by kernel_rfl
section
variable {w : World} {B f : Nat} {own : Nat → Option Int} {Ph : Phys} {S : FSt}
theorem look1 (h : FSRep w B f own Ph S) (n : Int) : (Instr.lookup 71 (.map (some Ph.mb)) (.int .i64 n) false).run Tryz.prog w = .ok (match aget n S.inodes with | some _ => .pointer (some ⟨Ph.ib n, 0, none⟩) | none => .pointer none) w :=
  h.look_run Tryz.underlying71 Tryz.underlying3 zeroPtr n
theorem thereS_take {ns : List Int} {k : Nat} {n : Int} (hk : ns[k]? = some n) (h : thereS S (ns.take k) = 0) : thereS S (ns.take (k + 1)) = (if (aget n S.inodes).isSome then 0 else 100) ∧ ((aget n S.inodes).isSome = false → thereS S ns = 100) := by
  induction ns generalizing k with
  | nil => simp at hk
  | cons a l ih =>
    cases k with
    | zero =>
      simp at hk
      subst hk
      simp only [List.take_succ_cons, List.take_zero, thereS]
      exact ⟨trivial, fun e => by rw [e]; rfl⟩
    | succ k =>
      simp only [List.take_succ_cons, thereS] at h ⊢
      split at h
      · rename_i ha
        rw [if_pos ha, if_pos ha]
        exact ih (by simpa using hk) h
      · cases h
theorem there_calls (h : FSRep w B f own Ph S) (sb : Nat) (ns : List Int) (hc : ∀ i n, ns[i]? = some n → w.cell? ⟨sb, i, none⟩ = some (.int .i64 n)) (hl : ns.length ≤ 1000) :
    Calls Tryz.prog 40 #[.pointer (some ⟨f, 0, none⟩), .slice (some ⟨sb, 0, none⟩) ns.length ns.length] w fun e w' => e = .returned (.int .i64 (thereS S ns)) ∧ w' = w := by
  have c4 : w.cell? ⟨f, 4, none⟩ = some (.map (some Ph.mb)) := by rw [cell_of h.top]; rfl
  have HC := Lib.hid hc
  have HR := Lib.hid h
  clear hc h
  go_enter Tryz.func40, Tryz.ntmps40
  go_wp2
  go_loop [9] (fun i => ∃ k : Nat, k ≤ ns.length ∧ i = .int .i64 k ∧ thereS S (ns.take k) = 0) (fun i => ns.length - (intOf i).toNat)
  case atStart => exact ⟨0, Nat.zero_le _, rfl, rfl⟩
  case round =>
    obtain ⟨k, hk, rfl, ht⟩ := hrel
    have HT := Lib.hid ht
    clear ht
    by_cases hlt : k < ns.length
    · obtain ⟨n, hn⟩ : ∃ n, ns[k]? = some n := ⟨_, List.getElem?_eq_getElem hlt⟩
      have hcell := HC.out k n hn
      have hlook := look1 HR.out n
      have HS := Lib.hid (thereS_take hn HT.out)
      clear hn
      cases ha : aget n S.inodes with
      | none =>
        rw [ha] at hlook
        have HN := Lib.hid ((HS.out).2 (by simp [ha]))
        clear ha
        go_wp2
        go_ret
        exact ⟨by first | (rw [HN.out]; done) | (rw [HN.out]; rfl), rfl⟩
      | some i =>
        rw [ha] at hlook
        have HN := Lib.hid (show thereS S (ns.take (k + 1)) = 0 from HS.out.1.trans (by simp [ha]))
        clear ha
        go_wp2
        go_round
        case rel => exact ⟨k + 1, by omega, by go_num, HN.out⟩
        case measure => simp [intOf]; omega
    · have hT : thereS S ns = 0 := by have := HT.out; rwa [List.take_of_length_le (by omega)] at this
      have HT2 := Lib.hid hT
      clear hT
      go_wp2
      go_ret
      exact ⟨by first | (rw [HT2.out]; done) | (rw [HT2.out]; rfl), rfl⟩
theorem dirsOnly_take {ns : List Int} {k : Nat} {n : Int} {i : Ino} (hk : ns[k]? = some n) (ha : aget n S.inodes = some i) (h : dirsOnly S (ns.take k) = 0) : (i.kind = 1 → dirsOnly S (ns.take (k + 1)) = 0) ∧ (i.kind ≠ 1 → dirsOnly S ns = 101) := by
  induction ns generalizing k with
  | nil => simp at hk
  | cons a l ih =>
    cases k with
    | zero =>
      simp at hk
      subst hk
      simp only [List.take_succ_cons, List.take_zero, dirsOnly, ha]
      exact ⟨fun e => by rw [if_pos e], fun e => by rw [if_neg e]⟩
    | succ k =>
      simp only [List.take_succ_cons, dirsOnly] at h ⊢
      cases hb : aget a S.inodes with
      | none => rw [hb] at h; cases h
      | some j =>
        rw [hb] at h
        simp only at h ⊢
        split at h
        · rename_i hj
          rw [if_pos hj, if_pos hj]
          exact ih (by simpa using hk) h
        · cases h
theorem thereS_mem {ns : List Int} (h : thereS S ns = 0) {k : Nat} {n : Int} (hk : ns[k]? = some n) : ∃ i, aget n S.inodes = some i := by
  induction ns generalizing k with
  | nil => simp at hk
  | cons a l ih =>
    simp only [thereS] at h
    split at h
    · rename_i ha
      cases k with
      | zero =>
        simp at hk
        subst hk
        exact Option.isSome_iff_exists.1 ha
      | succ k => exact ih h (by simpa using hk)
    · cases h
theorem dirs_calls (h : FSRep w B f own Ph S) (sb : Nat) (ns : List Int) (hc : ∀ i n, ns[i]? = some n → w.cell? ⟨sb, i, none⟩ = some (.int .i64 n)) (hl : ns.length ≤ 1000) :
    Calls Tryz.prog 38 #[.pointer (some ⟨f, 0, none⟩), .slice (some ⟨sb, 0, none⟩) ns.length ns.length] w fun e w' => e = .returned (.int .i64 (dirsS S ns)) ∧ w' = w := by
  have c4 : w.cell? ⟨f, 4, none⟩ = some (.map (some Ph.mb)) := by rw [cell_of h.top]; rfl
  have hthere := there_calls h sb ns hc hl
  have HC := Lib.hid hc
  have HR := Lib.hid h
  have HTh := Lib.hid hthere
  clear hc h hthere
  by_cases ht0 : thereS S ns = 0
  · have hd : dirsS S ns = dirsOnly S ns := by unfold dirsS; rw [if_pos ht0]
    have HD := Lib.hid hd
    have HT0 := Lib.hid ht0
    rw [ht0] at HTh
    clear hd ht0
    go_enter Tryz.func38, Tryz.ntmps38
    go_wp2_with (go_at_call 40; refine HTh.out.mono ?_; rintro e w' ⟨rfl, hw⟩; rw [hw])
    go_loop [16] (fun i => ∃ k : Nat, k ≤ ns.length ∧ i = .int .i64 k ∧ dirsOnly S (ns.take k) = 0) (fun i => ns.length - (intOf i).toNat)
    case atStart => exact ⟨0, Nat.zero_le _, rfl, rfl⟩
    case round =>
      obtain ⟨k, hk, rfl, ht⟩ := hrel
      have HT := Lib.hid ht
      clear ht
      by_cases hlt : k < ns.length
      · obtain ⟨n, hn⟩ : ∃ n, ns[k]? = some n := ⟨_, List.getElem?_eq_getElem hlt⟩
        have hcell := HC.out k n hn
        have hlook := look1 HR.out n
        obtain ⟨i, hi⟩ := thereS_mem HT0.out hn
        have HS := Lib.hid (dirsOnly_take hn hi HT.out)
        have hk0 : w.cell? ⟨Ph.ib n, 0, none⟩ = some (.int .i64 i.kind) := by rw [cell_of (HR.out.inos n i hi).cells]; rfl
        rw [hi] at hlook
        clear hn hi
        by_cases hkd : i.kind = 1
        · have HN := Lib.hid (HS.out.1 hkd)
          have hb : (i.kind != 1) = false := bne_eq_false_iff_eq.2 hkd
          clear hkd
          go_wp2
          go_round
          case rel => exact ⟨k + 1, by omega, by go_num, HN.out⟩
          case measure => simp [intOf]; omega
        · have HN := Lib.hid (HD.out.trans (HS.out.2 hkd))
          have hb : (i.kind != 1) = true := bne_iff_ne.2 hkd
          clear hkd
          go_wp2
          go_ret
          exact ⟨by first | (rw [HN.out]; done) | (rw [HN.out]; rfl), rfl⟩
      · have hT : dirsS S ns = 0 := by have := HT.out; rw [List.take_of_length_le (by omega)] at this; exact HD.out.trans this
        have HT2 := Lib.hid hT
        clear hT
        go_wp2
        go_ret
        exact ⟨by first | (rw [HT2.out]; done) | (rw [HT2.out]; rfl), rfl⟩
  · have hd : dirsS S ns = thereS S ns := by unfold dirsS; rw [if_neg ht0]
    have hb : (thereS S ns != 0) = true := bne_iff_ne.2 ht0
    have HD := Lib.hid hd
    clear hd ht0
    go_enter Tryz.func38, Tryz.ntmps38
    go_wp2_with (go_at_call 40; refine HTh.out.mono ?_; rintro e w' ⟨rfl, hw⟩; rw [hw])
    go_ret
    exact ⟨by first | (rw [HD.out]; done) | (rw [HD.out]; rfl), rfl⟩
theorem string_ne (s : ByteArray) (l : List UInt8) : ((⟨l.toArray⟩ : ByteArray) = s) ↔ s.data.toList = l := by
  constructor
  · rintro rfl; rfl
  · rintro rfl; exact Lib.mk_data s
theorem size_pos_data {s : ByteArray} (h : 1 ≤ s.size) : s.toList.isEmpty = false := by
  rw [Lib.toList_data]
  cases hs : s.data.toList with
  | nil => have := Lib.size_eq s; rw [hs, List.length_nil] at this; omega
  | cons _ _ => rfl
theorem one_cell (w : World) (t : TypeId) (d : Int) : ∀ i n, [d][i]? = some n → (w.alloc (.cells #[.int .i64 d] t)).cell? ⟨w.heap.size, i, none⟩ = some (.int .i64 n) := by
  intro i n hi
  cases i with
  | zero => simp at hi; subst hi; rw [cell_of (MapKept.heap_alloc w _).1]; rfl
  | succ i => simp at hi
theorem two_cells (w : World) (t : TypeId) (d e : Int) : ∀ i n, [d, e][i]? = some n → (w.alloc (.cells #[.int .i64 d, .int .i64 e] t)).cell? ⟨w.heap.size, i, none⟩ = some (.int .i64 n) := by
  intro i n hi
  match i with
  | 0 => simp at hi; subst hi; rw [cell_of (MapKept.heap_alloc w _).1]; rfl
  | 1 => simp at hi; subst hi; rw [cell_of (MapKept.heap_alloc w _).1]; rfl
  | i + 2 => simp at hi
theorem alloc_below (w : World) (o : Obj) : Below w.heap.size w (w.alloc o) := (Below.refl _ _).alloc (Nat.le_refl _) o
theorem below_next {w w1 w2 : World} (h : Below w.heap.size w w1) (k : Below w1.heap.size w1 w2) : Below w.heap.size w w2 := h.trans (k.mono h.size)
end
end Go.Proofs.YtphbbcjmnlamaaaGreatV
