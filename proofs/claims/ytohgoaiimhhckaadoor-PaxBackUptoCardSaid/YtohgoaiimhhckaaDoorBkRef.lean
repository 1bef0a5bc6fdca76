/- The printed satchelref14.record and the two Parses answer what PaxSpec says. -/
import Derived.Test.YtohgoaiimhhckaaDoorBkParse

namespace Go.Proofs.YtohgoaiimhhckaaDoor.PaxBridge
open Go.RowKit Go.Proofs.YtohgoaiimhhckaaDoor.PPaxBack Go.Proofs.YtohgoaiimhhckaaDoorW.PrintWords Go.Proofs.YtohgoaiimhhckaaDoorW.PrintLast Go.Proofs.YtohgoaiimhhckaaDoor.PaxSpec

theorem bt_strOf {B : List Int} (hb : Bytes8 B) (q : Nat) (h : q < B.length) : bt (strOfNums B) (q : Int) = rd B (q : Int) := by
  have hs : q < (strOfNums B).size := by rw [strOfNums_size]; exact h
  have hr := rd_range hb q h
  have e1 : rd B (q : Int) = B[q] := by simp [rd, List.getD_eq_getElem?_getD, h]
  unfold bt
  rw [Int.toNat_natCast, dif_pos hs, e1]
  rw [e1] at hr
  have e2 : (strOfNums B)[q]'hs = UInt8.ofNat (B[q]).toNat := by
    show (strOfNums B).data[q] = _
    simp [strOfNums]
  rw [e2, UInt8.toNat_ofNat']
  omega
theorem strOf_take (B : List Int) (o : Nat) : (strOfNums B).extract 0 o = strOfNums (B.take o) := by
  apply ByteArray.ext
  rw [ByteArray.data_extract]
  apply Array.ext'
  simp [strOfNums, List.map_take]
theorem strOf_drop (B : List Int) (o : Nat) : (strOfNums B).extract o (strOfNums B).size = strOfNums (B.drop o) := by
  apply ByteArray.ext
  rw [ByteArray.data_extract]
  apply Array.ext'
  rw [strOfNums_size]
  simp only [strOfNums, Array.toList_extract, List.extract]
  rw [List.map_drop]
  rw [List.take_of_length_le (by simp)]

/-- Pairs, as the machine holds them. -/
def mkP (x : List Int × List Int) : S59 := ⟨strOfNums x.1, strOfNums x.2⟩
def encP (acc : List S59) : PR → List S59 × Int × Int
  | .fault a w => ([], (a : Int), w)
  | .ok l => (acc ++ l.map mkP, 0, 0)

theorem bytes_drop {l : List Int} (hb : Bytes8 l) (p : Nat) : Bytes8 (l.drop p) := fun x hx => hb x (List.mem_of_mem_drop hx)

theorem parse_l0 (l : List Int) (hl : l.length ≤ 4398046511104) (hb : Bytes8 l) (d : Nat) : ∀ (k p : Nat) (acc : List S59), p ≤ l.length → l.length ≤ p + d → acc.length ≤ p → d + 1 + 2 * l.length + 1 ≤ k →
    pax_Parse.l0 k l acc p = some (encP acc (parseS (d + 1) (l.drop p) p)) := by
  induction d with
  | zero =>
    intro k p acc hp hd ha hk
    obtain ⟨k, rfl⟩ : ∃ m, k = m + 1 := ⟨k - 1, by omega⟩
    have hd : l.drop p = [] := List.drop_eq_nil_of_le (by omega)
    simp only [pax_Parse.l0]
    rw [if_neg (by omega), hd]
    simp [parseS, encP]
  | succ d ih =>
    intro k p acc hp hd ha hk
    obtain ⟨k, rfl⟩ : ∃ m, k = m + 1 := ⟨k - 1, by omega⟩
    simp only [pax_Parse.l0]
    by_cases hlt : p < l.length
    · rw [if_pos (by omega), record_f l hl hb p k hp (by omega)]
      simp only [Option.bind_some]
      have hne : l.drop p ≠ [] := by
        intro h
        have := congrArg List.length h
        rw [List.length_drop] at this
        simp at this
        omega
      unfold parseS
      cases hlp : l.drop p with
      | nil => exact absurd hlp hne
      | cons x r =>
        simp only
        rw [← hlp]
        cases hR : recS (l.drop p) with
        | fault a w =>
          have hw := (recS_fault hR).2
          exact (if_neg hw).trans rfl
        | ok kk v n =>
          obtain ⟨h5, hn⟩ := recS_ok hR
          rw [List.length_drop] at hn
          have e1 : wrap64 ((p : Int) + (n : Int)) = ((p + n : Nat) : Int) := (w64 (by omega) (by omega)).trans (by omega)
          refine (if_pos rfl).trans ?_
          refine (if_pos (show acc.length < 4398046511104 by clear e1; omega)).trans ?_
          show pax_Parse.l0 k l (acc ++ [(⟨strOfNums kk, strOfNums v⟩ : S59)]) (wrap64 ((p : Int) + (n : Int))) = _
          rw [e1]
          clear e1
          have := ih k (p + n) (acc ++ [(⟨strOfNums kk, strOfNums v⟩ : S59)]) (by omega) (by omega) (by simp; omega) (by omega)
          rw [this]
          simp only [List.drop_drop]
          cases hq : parseS (d + 1) (l.drop (p + n)) (p + n) with
          | fault a w => rfl
          | ok ll => simp [encP, mkP]
    · have hd : l.drop p = [] := List.drop_eq_nil_of_le (by omega)
      rw [if_neg (by omega), hd]
      simp [parseS, encP]
theorem parse_f (l : List Int) (hl : l.length ≤ 4398046511104) (hb : Bytes8 l) (k : Nat) (hk : 3 * l.length + 3 ≤ k) :
    pax_Parse.f k l = some (encP [] (parseS (l.length + 1) l 0)) := by
  unfold pax_Parse.f
  have := parse_l0 l hl hb l.length k 0 [] (by omega) (by omega) (by simp) (by omega)
  rw [List.drop_zero] at this
  exact this

end Go.Proofs.YtohgoaiimhhckaaDoor.PaxBridge
