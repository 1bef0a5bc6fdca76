/- vfs: lives. -/
import Derived.Test.YtighnmfeejdhoaaVNew
import Derived.Test.YtighnmfeejdhoaaVStat
import Derived.Laws.BytesString
import Derived.Lib.SlBytesConst
namespace Go.Proofs.YtighnmfeejdhoaaV
open Go.RowKit
set_option linter.unusedVariables false
set_option linter.unusedSimpArgs false
def invB (S : FSt) : Bool := decide (1 ≤ S.nodes ∧ S.nodes ≤ 4096) && decide (0 ≤ S.bytes ∧ S.bytes ≤ 4194304) && decide (2 ≤ S.next ∧ S.next ≤ 1099511627776) && decide (0 ≤ S.used ∧ S.used ≤ S.bytes) && decide ((S.inodes.length : Int) ≤ S.nodes) && decide (S.trace.length ≤ 1000000000)
  && S.inodes.all (fun p => decide (p.2.data.length ≤ 4194304) && decide (0 ≤ p.2.links) && decide (p.2.links ≤ 1000000000000) && decide (p.2.target.size ≤ 4096) && decide (p.2.ents.length ≤ 1000000000000) && decide (p.1 < S.next))
  && S.inodes.all (fun p => p.2.ents.all (fun e => (aget e.2 S.inodes).isSome))
theorem inv_of {S : FSt} (h : invB S = true) : Inv S := by
  unfold invB at h
  simp only [Bool.and_eq_true, decide_eq_true_eq] at h
  obtain ⟨⟨⟨⟨⟨⟨⟨h1, h2⟩, h3⟩, h4⟩, h5⟩, h6⟩, h7⟩, h8⟩ := h
  refine ⟨h1, h2, h3, h4, h5, h6, fun n i hi => ?_, fun n i hi e he => ?_⟩
  · have := List.all_eq_true.1 h7 _ (aget_mem hi)
    simp only [Bool.and_eq_true, decide_eq_true_eq] at this
    exact ⟨this.1.1.1.1.1, this.1.1.1.1.2, this.1.1.1.2, this.1.1.2, this.1.2, this.2⟩
  · have := List.all_eq_true.1 (List.all_eq_true.1 h8 _ (aget_mem hi)) e he
    exact Option.isSome_iff_exists.1 this
def mo : Mt := ⟨493, 0, 0, 0, 0⟩
def L0 : FSt := stNew 3 10
def L1 : FSt := (mkdirS L0 1 ⟨#[97]⟩ mo).2.2
def L2 : FSt := (createS L1 2 ⟨#[102]⟩ zeroMt).2.2
def L3 : FSt := (createS L2 2 ⟨#[103]⟩ zeroMt).2.2
def L4 : FSt := (writeS L3 3 2 [120, 121]).2
def L5 : FSt := (linkS L4 1 ⟨#[104]⟩ 3).2
def L6 : FSt := (takesS L5 7 2 ⟨#[102]⟩).2
def L7 : FSt := (takesS L6 8 1 ⟨#[97]⟩).2
def L8 : FSt := (createS L7 1 ⟨#[110]⟩ zeroMt).2.2
theorem m0 : (mkdirS L0 1 ⟨#[97]⟩ mo).1 = 2 ∧ (mkdirS L0 1 ⟨#[97]⟩ mo).2.1 = 0 := by decide
theorem m1 : (createS L1 2 ⟨#[102]⟩ zeroMt).1 = 3 := by decide
theorem m2 : (createS L2 2 ⟨#[103]⟩ zeroMt).2.1 = 105 := by decide
theorem m3 : (writeS L3 3 2 [120, 121]).1 = 0 := by decide
theorem m4 : (linkS L4 1 ⟨#[104]⟩ 3).1 = 0 := by decide
theorem m5 : (readS L5 3 0 9) = ([0, 0, 120, 121], 0) := by decide
theorem m6 : (statS L5 3).1.links = 2 := by decide
theorem m6v : statV (statS L5 3).1 = .agg #[.int .i64 3, .int .i64 2, .int .u32 0, .int .u32 0, .int .u32 0, .int .i64 0, .int .i32 0, .int .i64 2, .int .i64 4] ∧ (statS L5 3).2 = 0 := ⟨rfl, rfl⟩
theorem m7 : (takesS L5 7 2 ⟨#[102]⟩).1 = 0 := by decide
theorem m8 : (takesS L6 8 1 ⟨#[97]⟩).1 = 0 := by decide
theorem m9 : (createS L7 1 ⟨#[110]⟩ zeroMt).1 = 4 ∧ (createS L7 1 ⟨#[110]⟩ zeroMt).2.1 = 0 := by decide
theorem m10 : L8.trace.length = 7 := by decide
theorem i0 : Inv L0 := inv_of (by decide)
theorem i1 : Inv L1 := inv_of (by decide)
theorem i2 : Inv L2 := inv_of (by decide)
theorem i3 : Inv L3 := inv_of (by decide)
theorem i4 : Inv L4 := inv_of (by decide)
theorem i5 : Inv L5 := inv_of (by decide)
theorem i6 : Inv L6 := inv_of (by decide)
theorem i7 : Inv L7 := inv_of (by decide)
theorem i8 : Inv L8 := inv_of (by decide)
section
variable {w : World} {B f : Nat} {own : Nat → Option Int} {Ph : Phys} {S : FSt}
theorem FSRep.none_ge (h : FSRep w B f own Ph S) {b : Nat} (hb : w.heap.size ≤ b) : own b = none := by
  cases ho : own b with
  | none => rfl
  | some m => have := h.lt ho; omega
theorem src_alloc (h : FSRep w B f own Ph S) (l : List Int) (t : TypeId) (fr : Nat × Nat) (sb : Nat) (hs : sb = w.heap.size) : Src (w.alloc (.cells (byteCells l).toArray t fr)) own (some ⟨sb, 0, none⟩) l := fun _ => by
  subst hs
  refine ⟨_, rfl, by simp, h.none_ge (Nat.le_refl _), fun j z hj => ?_⟩
  have hh := (MapKept.heap_alloc w (.cells (byteCells l).toArray t fr)).1
  rw [Addr.add_lit]
  have hc := cell_of hh (0 + j)
  refine hc.trans ?_
  unfold byteCells
  simp [hj]
def strOf (l : List Int) : ByteArray := l.foldl (fun r n => r.push (UInt8.ofNat n.toNat)) ByteArray.empty
theorem conv_row {v : Value} {l : List Int} {n : Nat} (h : w.ownsRow B 5 1 v n (byteCells l)) : (convert 22 9 v).run Try.prog w = .ok (.string (strOf l)) w := by
  have hl : l.length = n := by have := h.1; rw [byteCells_len] at this; omega
  rcases h.2 with ⟨rfl, rfl⟩ | ⟨g, cap, cur, rfl, _⟩
  · rw [run_convert_bytes_string w _ _ 5 none 0 0 Try.underlying22 Try.underlying5 Try.underlying9]
    rw [List.eq_nil_of_length_eq_zero hl]
    rfl
  · rw [run_convert_bytes_string w _ _ 5 _ n cap Try.underlying22 Try.underlying5 Try.underlying9]
    refine run_bytesToString w _ n cap l ?_
    have := run_loadCells_list (P := Try.prog) w ⟨g, 0, none⟩ (byteCells l) (h.cells (g := g) rfl)
    rw [byteCells_len, hl] at this
    exact this
theorem owns_below {v : Value} {e : TypeId} {size n : Nat} {xs : List Value} (h : w.ownsRow B e size v n xs) {w' : World} (hb : Below w.heap.size w w') : w'.ownsRow B e size v n xs := own_move h fun k hk => hb.block k (h.lt k hk).2
theorem lives_calls (w : World) : Calls Try.prog 4 #[] w fun e w' => e = .returned (.bool true) ∧ Below w.heap.size w w' := by
  go_enter Try.func4, Try.ntmps4
  go_wp2_with fail
  refine (New_calls w 3 10 (by decide) (by decide)).mono ?_
  rintro e w1 ⟨rfl, r1, r2⟩
  have H1 := Lib.hid r1
  have F1 := Lib.hid r2
  clear r1 r2
  go_wp2_with fail
  refine (Mkdir_calls (B := w.heap.size) (S := L0) H1.out F1.out.size i0 1 ⟨#[97]⟩ mo).mono ?_
  rintro e w2 ⟨rfl, own2, Ph2, r1, r2⟩
  rw [m0.1, m0.2]
  have H2 := Lib.hid r1
  have F2 := Lib.hid (F1.out.trans r2)
  clear r1 r2 H1 F1
  go_wp2_with fail
  refine (Create_calls (B := w.heap.size) (S := L1) H2.out F2.out.size i1 2 ⟨#[102]⟩ zeroMt).mono ?_
  rintro e w3 ⟨rfl, own3, Ph3, r1, r2⟩
  rw [m1]
  have H3 := Lib.hid r1
  have F3 := Lib.hid (F2.out.trans r2)
  clear r1 r2 H2 F2
  go_wp2_with fail
  refine (Create_calls (B := w.heap.size) (S := L2) H3.out F3.out.size i2 2 ⟨#[103]⟩ zeroMt).mono ?_
  rintro e w4 ⟨rfl, own4, Ph4, r1, r2⟩
  rw [m2]
  have H4 := Lib.hid r1
  have F4 := Lib.hid (F3.out.trans r2)
  clear r1 r2 H3 F3
  have hcv := Lib.run_convert_bytes_const (P := Try.prog) w4 22 5 #[.int .u8 120, .int .u8 121] 2 2 Try.underlying22 Try.underlying5
  go_wp2_with fail
  refine (Write_calls (B := w.heap.size) (S := L3) (H4.out.of_below (alloc_below _ _)) (Nat.le_trans F4.out.size (alloc_below _ _).size) i3 3 2 _ [120, 121] _ (src_alloc H4.out [120, 121] _ _ _ rfl)).mono ?_
  rintro e w5 ⟨rfl, own5, Ph5, r1, r2⟩
  rw [m3]
  have H5 := Lib.hid r1
  have F5 := Lib.hid ((F4.out.trans (Frame.of_below (alloc_below _ _))).trans r2)
  clear r1 r2 H4 F4
  go_wp2_with fail
  refine (Link_calls (B := w.heap.size) (S := L4) H5.out F5.out.size i4 1 ⟨#[104]⟩ 3).mono ?_
  rintro e w6 ⟨rfl, own6, Ph6, r1, r2⟩
  rw [m4]
  have H6 := Lib.hid r1
  have F6 := Lib.hid (F5.out.trans r2)
  clear r1 r2 H5 F5
  go_wp2_with fail
  refine (Read_calls (B := w.heap.size) (S := L5) H6.out i5 3 0 9).mono ?_
  rintro e w7 ⟨v, rfl, r1, r2⟩
  rw [m5] at r1 ⊢
  have H7 := Lib.hid (H6.out.of_below r2)
  have F7 := Lib.hid (F6.out.trans (Frame.of_below r2))
  obtain ⟨va, vc, rfl⟩ := owns_slice r1
  have R1 := Lib.hid r1
  clear r1 r2 H6 F6 hcv
  go_wp2_with fail
  refine (Stat_calls (B := w.heap.size) (S := L5) H7.out i5 3).mono ?_
  rintro e w8 ⟨rfl, r2⟩
  rw [m6v.1, m6v.2]
  have H8 := Lib.hid (H7.out.of_below r2)
  have F8 := Lib.hid (F7.out.trans (Frame.of_below r2))
  have R2 := Lib.hid r2
  clear r2 H7 F7
  have hcv : ∀ o, (convert 22 9 (.slice va 4 vc)).run Try.prog (w8.alloc o) = .ok (.string (strOf [0, 0, 120, 121])) (w8.alloc o) := fun o => conv_row (owns_below (owns_below R1.out R2.out) (alloc_below _ o))
  rw [show strOf [0, 0, 120, 121] = ⟨#[0, 0, 120, 121]⟩ from rfl] at hcv
  go_wp2_with fail
  refine (Unlink_calls (B := w.heap.size) (S := L5) (H8.out.of_below (alloc_below _ _)) (Nat.le_trans F8.out.size (alloc_below _ _).size) i5 2 ⟨#[102]⟩).mono ?_
  rintro e w9 ⟨rfl, own9, Ph9, r1, r2⟩
  rw [m7]
  have H9 := Lib.hid r1
  have F9 := Lib.hid ((F8.out.trans (Frame.of_below (alloc_below _ _))).trans r2)
  clear r1 r2 H8 F8 hcv
  go_wp2_with fail
  refine (Rmdir_calls (B := w.heap.size) (S := L6) H9.out F9.out.size i6 1 ⟨#[97]⟩).mono ?_
  rintro e w10 ⟨rfl, own10, Ph10, r1, r2⟩
  rw [m8]
  have H10 := Lib.hid r1
  have F10 := Lib.hid (F9.out.trans r2)
  clear r1 r2 H9 F9
  go_wp2_with fail
  refine (Create_calls (B := w.heap.size) (S := L7) H10.out F10.out.size i7 1 ⟨#[110]⟩ zeroMt).mono ?_
  rintro e w11 ⟨rfl, own11, Ph11, r1, r2⟩
  rw [m9.1, m9.2]
  have H11 := Lib.hid r1
  have F11 := Lib.hid (F10.out.trans r2)
  clear r1 r2 H10 F10
  go_wp2_with fail
  refine (Trace_calls (B := w.heap.size) (S := L8) H11.out (by rw [m10]; omega)).mono ?_
  rintro e w12 ⟨v, rfl, r1, r2⟩
  rw [m10] at r1
  obtain ⟨ta, tc, rfl⟩ := owns_slice r1
  have F12 := Lib.hid (F11.out.trans (Frame.of_below r2))
  clear r1 r2 H11 F11
  go_wp2
  go_ret
  exact ⟨rfl, ⟨F12.out.os, F12.out.tape, F12.out.output, F12.out.size, fun b hb => (F12.out.block b hb rfl).1⟩⟩
end
end Go.Proofs.YtighnmfeejdhoaaV
