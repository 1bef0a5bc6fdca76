/- The printed satchelref14.record and the two Parses answer what PaxSpec says. -/
import Derived.Test.YtohgoaiimhhckaaPaxParseBridge
import Derived.Test.YtohgoaiimhhckaaPPaxParsesx7
import Derived.Test.YtohgoaiimhhckaaPPaxParsesx12
namespace Go.Proofs.Ytohgoaiimhhckaa.PaxBridge
open Go.RowKit Go.Proofs.Ytohgoaiimhhckaa.PPaxParses Go.Proofs.YtohgoaiimhhckaaW.PrintWords Go.Proofs.YtohgoaiimhhckaaW.PrintLast Go.Proofs.Ytohgoaiimhhckaa.PaxSpec

theorem bt_strOf {B : List Int} (hb : Bytes8 B) (q : Nat) (h : q < B.length) : bt (strOfNums B) (q : Int) = rd B (q : Int) := by
  have hs : q < (strOfNums B).size := by rw [strOfNums_size]; exact h
  have hr := rd_range hb q h
  have e1 : rd B (q : Int) = B[q] := by simp [rd, List.getD_eq_getElem?_getD, h]
  unfold bt
  rw [Int.toNat_natCast, dif_pos hs, e1]
  rw [e1] at hr
  have e2 : (strOfNums B)[q]'hs = UInt8.ofNat (B[q]).toNat := by
    show (strOfNums B).data[q] = _
    simp [strOfNums]
  rw [e2, UInt8.toNat_ofNat']
  omega
theorem strOf_take (B : List Int) (o : Nat) : (strOfNums B).extract 0 o = strOfNums (B.take o) := by
  apply ByteArray.ext
  rw [ByteArray.data_extract]
  apply Array.ext'
  simp [strOfNums, List.map_take]
theorem strOf_drop (B : List Int) (o : Nat) : (strOfNums B).extract o (strOfNums B).size = strOfNums (B.drop o) := by
  apply ByteArray.ext
  rw [ByteArray.data_extract]
  apply Array.ext'
  rw [strOfNums_size]
  simp only [strOfNums, Array.toList_extract, List.extract]
  rw [List.map_drop]
  rw [List.take_of_length_le (by simp)]

theorem equals_l0 (B : List Int) (hl : B.length ≤ 4398046511104) (hb : Bytes8 B) (d : Nat) : ∀ (k q : Nat), q + d = B.length → d + 1 ≤ k →
    satchelref14_equals.l0 k (strOfNums B) q = some (if idxI (B.drop q) 61 = -1 then -1 else (q : Int) + idxI (B.drop q) 61) := by
  induction d with
  | zero =>
    intro k q hq hk
    obtain ⟨k, rfl⟩ : ∃ m, k = m + 1 := ⟨k - 1, by omega⟩
    have hd : B.drop q = [] := List.drop_eq_nil_of_le (by omega)
    simp only [satchelref14_equals.l0, strOfNums_size]
    rw [if_neg (by omega), hd, idxI_nil, if_pos rfl]
  | succ d ih =>
    intro k q hq hk
    obtain ⟨k, rfl⟩ : ∃ m, k = m + 1 := ⟨k - 1, by omega⟩
    have hlt : q < B.length := by omega
    have hbt := bt_strOf hb q hlt
    have e3 : wrap64 ((q : Int) + 1) = ((q + 1 : Nat) : Int) := (w64 (by omega) (by omega)).trans (by omega)
    rw [drop_cons B q hlt, idxI_cons]
    simp only [satchelref14_equals.l0, strOfNums_size, hbt, e3]
    clear e3
    rw [if_pos (by omega), if_pos (by omega)]
    by_cases c : rd B (q : Int) = 61
    · rw [if_pos c, if_pos c, if_neg (by omega)]
      simp
    · rw [if_neg c, if_neg c, ih k (q + 1) (by omega) (by omega)]
      have hg := idxI_ge (B.drop (q + 1)) 61
      by_cases c2 : idxI (B.drop (q + 1)) 61 = -1
      · rw [if_pos c2, if_pos c2, if_pos rfl]
      · rw [if_neg c2, if_neg c2, if_neg (by omega)]
        congr 1
        omega
theorem equals_f (B : List Int) (hl : B.length ≤ 4398046511104) (hb : Bytes8 B) (k : Nat) (hk : B.length + 1 ≤ k) : satchelref14_equals.f k (strOfNums B) = some (idxI B 61) := by
  unfold satchelref14_equals.f
  have := equals_l0 B hl hb B.length k 0 (by omega) hk
  rw [show ((0 : Nat) : Int) = 0 from rfl] at this
  rw [this, List.drop_zero]
  by_cases c : idxI B 61 = -1
  · rw [if_pos c, c]
  · rw [if_neg c]; simp
theorem zero_l0 (B : List Int) (hl : B.length ≤ 4398046511104) (hb : Bytes8 B) (d : Nat) : ∀ (k q : Nat), q + d = B.length → d + 1 ≤ k →
    satchelref14_zero.l0 k (strOfNums B) q = some (decide (0 ∈ B.drop q)) := by
  induction d with
  | zero =>
    intro k q hq hk
    obtain ⟨k, rfl⟩ : ∃ m, k = m + 1 := ⟨k - 1, by omega⟩
    have hd : B.drop q = [] := List.drop_eq_nil_of_le (by omega)
    simp only [satchelref14_zero.l0, strOfNums_size]
    rw [if_neg (by omega), hd]
    simp
  | succ d ih =>
    intro k q hq hk
    obtain ⟨k, rfl⟩ : ∃ m, k = m + 1 := ⟨k - 1, by omega⟩
    have hlt : q < B.length := by omega
    have hbt := bt_strOf hb q hlt
    have e3 : wrap64 ((q : Int) + 1) = ((q + 1 : Nat) : Int) := (w64 (by omega) (by omega)).trans (by omega)
    rw [drop_cons B q hlt]
    simp only [satchelref14_zero.l0, strOfNums_size, hbt, e3]
    clear e3
    rw [if_pos (by omega), if_pos (by omega)]
    by_cases c : rd B (q : Int) = 0
    · rw [if_pos c, c]; simp
    · rw [if_neg c, ih k (q + 1) (by omega) (by omega)]
      have : (0 ∈ rd B (q : Int) :: B.drop (q + 1)) ↔ 0 ∈ B.drop (q + 1) := by
        rw [List.mem_cons]
        exact ⟨fun h => h.resolve_left (fun h2 => c h2.symm), .inr⟩
      simp only [this]
theorem zero_rf (B : List Int) (hl : B.length ≤ 4398046511104) (hb : Bytes8 B) (k : Nat) (hk : B.length + 1 ≤ k) : satchelref14_zero.f k (strOfNums B) = some (decide (0 ∈ B)) := by
  unfold satchelref14_zero.f
  have := zero_l0 B hl hb B.length k 0 (by omega) hk
  rw [List.drop_zero] at this
  exact this

def encRR : RR → ByteArray × ByteArray × Int × Int
  | .fault a w => (⟨#[]⟩, ⟨#[]⟩, (a : Int), w)
  | .ok k v n => (strOfNums k, strOfNums v, (n : Int), 0)

/-- What is behind the length in the reference, once the record ends as one. -/
def tailRF (k : Nat) (B : List Int) (at_ m : Int) : Option (ByteArray × ByteArray × Int × Int) :=
  (satchelref14_equals.f k (strOfNums B)).bind fun t155 => (if t155 < 1 then (some ((⟨#[]⟩ : ByteArray), (⟨#[]⟩ : ByteArray), at_, 141)) else ((satchelref14_zero.f k (strOfNums B)).bind fun t156 => (if t156 = true then (some ((⟨#[]⟩ : ByteArray), (⟨#[]⟩ : ByteArray), at_, 141)) else (if 0 ≤ t155 then (if t155 ≤ ((strOfNums B).size : Int) then (if 0 ≤ (wrap64 (t155 + 1)) then (if (wrap64 (t155 + 1)) ≤ ((strOfNums B).size : Int) then (some ((strOfNums B).extract 0 (t155 : Int).toNat, (strOfNums B).extract ((wrap64 (t155 + 1)) : Int).toNat (strOfNums B).size, m, 0)) else (none)) else (none)) else (none)) else (none)))))
theorem tail_rf (B : List Int) (hl : B.length ≤ 4398046511104) (hbB : Bytes8 B) (at_ m : Int) (k : Nat) (hk : B.length + 1 ≤ k) : tailRF k B at_ m = some (match B.idxOf? 61 with
      | none => (⟨#[]⟩, ⟨#[]⟩, at_, 141)
      | some 0 => (⟨#[]⟩, ⟨#[]⟩, at_, 141)
      | some (j + 1) => if 0 ∈ B then (⟨#[]⟩, ⟨#[]⟩, at_, 141) else (strOfNums (B.take (j + 1)), strOfNums (B.drop (j + 2)), m, 0)) := by
  unfold tailRF
  rw [equals_f B hl hbB k hk, zero_rf B hl hbB k hk]
  simp only [Option.bind_some]
  cases hx : B.idxOf? 61 with
  | none => rw [idxI_none hx, if_pos (by omega)]
  | some o =>
    have ho := (idxOf?_some hx).1
    rw [idxI_some hx]
    cases o with
    | zero => rw [if_pos (by omega)]
    | succ o =>
      rw [if_neg (by omega)]
      by_cases c4 : 0 ∈ B
      · simp only [c4, decide_true, if_true]
      · have e1 : wrap64 (((o + 1 : Nat) : Int) + 1) = ((o + 2 : Nat) : Int) := (w64 (by omega) (by omega)).trans (by omega)
        simp only [c4, decide_false, if_false, e1, Int.toNat_natCast, strOf_take, strOf_drop]
        clear e1
        rw [strOfNums_size, if_neg (by decide), if_pos (by omega), if_pos (by omega), if_pos (by omega), if_pos (by omega)]

set_option maxRecDepth 100000 in
theorem rec_tail (b : List Int) (hl : b.length ≤ 4398046511104) (hb : Bytes8 b) (k j : Nat) (m : Int) (hk : b.length + 1 ≤ k) (hj0 : 0 < j) (hj7 : j ≤ 7) (hm0 : 0 ≤ m) (hm7 : m < 10000000) :
    satchelref14_record.j1 (k + 1) b m j true = some (encRR (recOf b (.ok m j))) := by
  simp only [satchelref14_record.j1, if_true]
  unfold recOf
  have e1 : wrap64 (wrap64 ((j : Int) + 1) + 3) = (j : Int) + 4 := (w_add_l (by omega) (by omega) (by omega) (by omega)).trans (by omega)
  simp only [e1]
  clear e1
  by_cases c1 : m < (j : Int) + 4
  · rw [if_pos c1, if_pos c1]; rfl
  rw [if_neg c1, if_neg c1]
  by_cases c2 : (b.length : Int) < m
  · rw [if_pos c2, if_pos c2]; rfl
  rw [if_neg (by omega), if_neg c2]
  obtain ⟨mm, rfl⟩ : ∃ mm : Nat, m = ((mm + 1 : Nat) : Int) := ⟨(m - 1).toNat, by omega⟩
  have e3 : wrap64 (((mm + 1 : Nat) : Int) - 1) = (mm : Int) := (w64 (by omega) (by omega)).trans (by omega)
  have e4 : wrap64 ((j : Int) + 1) = ((j + 1 : Nat) : Int) := by
    clear e3
    exact (w64 (by omega) (by omega)).trans (by omega)
  have e5 : (((mm + 1 : Nat) : Int) - 1).toNat = mm := by clear e3 e4; omega
  have e6 : rd b (mm : Int) = b.getD mm 0 := by unfold rd; rw [Int.toNat_natCast]
  simp only [e3, e4, e5, e6]
  clear e3 e4
  rw [if_pos (by omega), if_pos (by omega)]
  by_cases c3 : b.getD mm 0 = 10
  · rw [if_pos c3, if_neg (not_not_intro c3)]
    rw [if_pos (by omega), if_pos (by omega), if_pos (by omega)]
    have e7 : ((b.take ((mm : Nat) : Int).toNat).drop (((j + 1 : Nat) : Int)).toNat) = bodyS b ((mm + 1 : Nat) : Int) j := by
      unfold bodyS
      rw [e5, Int.toNat_natCast, Int.toNat_natCast]
    rw [e7]
    have hbB : Bytes8 (bodyS b ((mm + 1 : Nat) : Int) j) := fun x hx => by
      unfold bodyS at hx
      exact hb x (List.mem_of_mem_take (List.mem_of_mem_drop hx))
    have hlB : (bodyS b ((mm + 1 : Nat) : Int) j).length ≤ b.length := by
      unfold bodyS
      rw [List.length_drop, List.length_take]
      omega
    generalize bodyS b ((mm + 1 : Nat) : Int) j = B at *
    refine (tail_rf B (by omega) hbB _ _ k (by omega)).trans ?_
    clear hl hb hk e5 e6 e7 c1 c2 c3
    cases B.idxOf? 61 with
    | none => rfl
    | some o =>
      cases o with
      | zero => rfl
      | succ o =>
        simp only
        by_cases c4 : 0 ∈ B
        · rw [if_pos c4, if_pos c4]; rfl
        · rw [if_neg c4, if_neg c4]; rfl
  · rw [if_neg c3, if_pos c3]
    rfl

theorem digit_f (c : Int) : satchelref14_digit.f c = some (decide (48 ≤ c ∧ c ≤ 57)) := by
  unfold satchelref14_digit.f
  by_cases h : c ≥ 48
  · rw [if_pos h]
    congr 1
    by_cases h2 : c ≤ 57
    · rw [decide_eq_true h2, decide_eq_true ⟨by omega, h2⟩]
    · rw [decide_eq_false h2, decide_eq_false (fun h => h2 h.2)]
  · rw [if_neg h, decide_eq_false (fun h2 => h h2.1)]
theorem record_l0 (l : List Int) (hl : l.length ≤ 4398046511104) (hb : Bytes8 l) (d : Nat) : ∀ (k i : Nat) (n : Int), i + d = l.length → 2 * d + l.length + 3 ≤ k → i ≤ 7 → 0 ≤ n → n < 10 ^ i →
    satchelref14_record.l0 k l n i = some (encRR (recOf l (lenS (l.drop i) n i))) := by
  induction d with
  | zero =>
    intro k q n hq hk hi h0 h1
    obtain ⟨k, rfl⟩ : ∃ m, k = m + 1 := ⟨k - 1, by omega⟩
    have hd : l.drop q = [] := List.drop_eq_nil_of_le (by omega)
    simp only [satchelref14_record.l0]
    rw [if_pos (by omega), hd]
    rfl
  | succ d ih =>
    intro k i n hq hk hi h0 h1
    obtain ⟨k, rfl⟩ : ∃ m, k = m + 2 := ⟨k - 2, by omega⟩
    have hlt : i < l.length := by omega
    have hr := rd_range hb i hlt
    have hn := pow7 h1 hi
    rw [drop_cons l i hlt]
    simp only [satchelref14_record.l0]
    rw [if_neg (by omega), if_pos (by omega), if_pos (by omega)]
    unfold lenS
    have hrec : ∀ c : Int, 48 ≤ c → c ≤ 57 → i ≠ 7 → satchelref14_record.l0 k l (wrap64 (wrap64 (10 * n) + (c - 48) % 256)) (wrap64 ((i : Int) + 1)) = some (encRR (recOf l (lenS (l.drop (i + 1)) (10 * n + (c - 48)) (i + 1)))) := by
      intro c hc0 hc1 h7
      have e1 : wrap64 (wrap64 (10 * n) + (c - 48) % 256) = 10 * n + (c - 48) := (w_add_l (by omega) (by omega) (by omega) (by omega)).trans (by omega)
      have e2 : wrap64 ((i : Int) + 1) = ((i + 1 : Nat) : Int) := by
        clear e1
        exact (w64 (by omega) (by omega)).trans (by omega)
      simp only [e1, e2]
      clear e1 e2
      have hp : (10 : Int) ^ (i + 1) = 10 ^ i * 10 := Int.pow_succ ..
      have h5 : 10 * n + (c - 48) < (10 : Int) ^ (i + 1) := by
        rw [hp]; clear hp
        generalize (10 : Int) ^ i = P at h1
        omega
      clear hp h1
      have b4 : 0 ≤ 10 * n + (c - 48) := by clear h5; omega
      exact ih k (i + 1) _ (by clear h5; omega) (by clear h5; omega) (by clear h5; omega) b4 h5
    clear h1
    have hbad : ∀ x18 : Bool, x18 = false → ¬ (rd l (i : Int) = 32 ∧ 0 < i) → satchelref14_record.j1 (k + 1) l n i x18 = some (encRR (recOf l (if rd l (i : Int) = 32 ∧ 0 < i then LR.ok n i else if rd l (i : Int) < 48 ∨ 57 < rd l (i : Int) ∨ (i = 0 ∧ rd l (i : Int) = 48) ∨ i = 7 then LR.bad else lenS (l.drop (i + 1)) (10 * n + (rd l (i : Int) - 48)) (i + 1)))) := by
      intro x18 hx hno
      subst hx
      rw [if_neg hno]
      simp only [satchelref14_record.j1, digit_f, Option.bind_some]
      rw [if_neg (by decide), if_pos (by omega), if_pos (by omega)]
      by_cases c1 : rd l (i : Int) < 48
      · have hd : decide (48 ≤ rd l (i : Int) ∧ rd l (i : Int) ≤ 57) = false := decide_eq_false (by omega)
        rw [hd, if_neg (by decide), if_pos (.inl c1)]; rfl
      by_cases c2 : 57 < rd l (i : Int)
      · have hd : decide (48 ≤ rd l (i : Int) ∧ rd l (i : Int) ≤ 57) = false := decide_eq_false (by omega)
        rw [hd, if_neg (by decide), if_pos (.inr (.inl c2))]; rfl
      have hd : decide (48 ≤ rd l (i : Int) ∧ rd l (i : Int) ≤ 57) = true := decide_eq_true (by omega)
      rw [hd, if_pos rfl]
      clear hd
      by_cases c3 : i = 0
      · rw [if_pos (by omega)]
        by_cases c4 : rd l (i : Int) = 48
        · rw [if_pos c4, if_pos (.inr (.inr (.inl ⟨c3, c4⟩)))]; rfl
        rw [if_neg c4, if_neg (by omega), hrec _ (by omega) (by omega) (by omega), if_neg (by omega)]
      · rw [if_neg (by omega)]
        by_cases c5 : i = 7
        · rw [if_pos (by omega), if_pos (.inr (.inr (.inr c5)))]; rfl
        rw [if_neg (by omega), hrec _ (by omega) (by omega) (by omega), if_neg (by omega)]
    by_cases c : rd l (i : Int) = 32
    · rw [if_pos c]
      by_cases c0 : 0 < i
      · rw [if_pos ⟨c, c0⟩]
        have : decide ((i : Int) > 0) = true := decide_eq_true (by omega)
        rw [this]
        exact rec_tail l hl hb k i n (by omega) c0 hi h0 hn
      · have : decide ((i : Int) > 0) = false := decide_eq_false (by omega)
        rw [this]
        exact hbad false rfl (fun h => c0 h.2)
    · rw [if_neg c]
      exact hbad false rfl (fun h => c h.1)
theorem record_rf (l : List Int) (hl : l.length ≤ 4398046511104) (hb : Bytes8 l) (k : Nat) (hk : 3 * l.length + 3 ≤ k) :
    satchelref14_record.f k l = some (encRR (recS l)) := by
  unfold satchelref14_record.f recS
  have := record_l0 l hl hb l.length k 0 0 (by omega) (by omega) (by omega) (by omega) (by decide)
  rw [List.drop_zero] at this
  exact this

/-- Pairs, as the machine holds them. -/
def mkP (x : List Int × List Int) : S30 := ⟨strOfNums x.1, strOfNums x.2⟩
def encP (acc : List S30) : PR → List S30 × Int × Int
  | .fault a w => ([], (a : Int), w)
  | .ok l => (acc ++ l.map mkP, 0, 0)

theorem bytes_drop {l : List Int} (hb : Bytes8 l) (p : Nat) : Bytes8 (l.drop p) := fun x hx => hb x (List.mem_of_mem_drop hx)

theorem parse_l0 (l : List Int) (hl : l.length ≤ 4398046511104) (hb : Bytes8 l) (d : Nat) : ∀ (k p : Nat) (acc : List S30), p ≤ l.length → l.length ≤ p + d → acc.length ≤ p → d + 1 + 2 * l.length + 1 ≤ k →
    pax_Parse.l0 k l acc p = some (encP acc (parseS (d + 1) (l.drop p) p)) := by
  induction d with
  | zero =>
    intro k p acc hp hd ha hk
    obtain ⟨k, rfl⟩ : ∃ m, k = m + 1 := ⟨k - 1, by omega⟩
    have hd : l.drop p = [] := List.drop_eq_nil_of_le (by omega)
    simp only [pax_Parse.l0]
    rw [if_neg (by omega), hd]
    simp [parseS, encP]
  | succ d ih =>
    intro k p acc hp hd ha hk
    obtain ⟨k, rfl⟩ : ∃ m, k = m + 1 := ⟨k - 1, by omega⟩
    simp only [pax_Parse.l0]
    by_cases hlt : p < l.length
    · rw [if_pos (by omega), record_f l hl hb p k hp (by omega)]
      simp only [Option.bind_some]
      have hne : l.drop p ≠ [] := by
        intro h
        have := congrArg List.length h
        rw [List.length_drop] at this
        simp at this
        omega
      unfold parseS
      cases hlp : l.drop p with
      | nil => exact absurd hlp hne
      | cons x r =>
        simp only
        rw [← hlp]
        cases hR : recS (l.drop p) with
        | fault a w =>
          have hw := (recS_fault hR).2
          exact (if_neg hw).trans rfl
        | ok kk v n =>
          obtain ⟨h5, hn⟩ := recS_ok hR
          rw [List.length_drop] at hn
          have e1 : wrap64 ((p : Int) + (n : Int)) = ((p + n : Nat) : Int) := (w64 (by omega) (by omega)).trans (by omega)
          refine (if_pos rfl).trans ?_
          refine (if_pos (show acc.length < 4398046511104 by clear e1; omega)).trans ?_
          show pax_Parse.l0 k l (acc ++ [(⟨strOfNums kk, strOfNums v⟩ : S30)]) (wrap64 ((p : Int) + (n : Int))) = _
          rw [e1]
          clear e1
          have := ih k (p + n) (acc ++ [(⟨strOfNums kk, strOfNums v⟩ : S30)]) (by omega) (by omega) (by simp; omega) (by omega)
          rw [this]
          simp only [List.drop_drop]
          cases hq : parseS (d + 1) (l.drop (p + n)) (p + n) with
          | fault a w => rfl
          | ok ll => simp [encP, mkP]
    · have hd : l.drop p = [] := List.drop_eq_nil_of_le (by omega)
      rw [if_neg (by omega), hd]
      simp [parseS, encP]
theorem parse_f (l : List Int) (hl : l.length ≤ 4398046511104) (hb : Bytes8 l) (k : Nat) (hk : 3 * l.length + 3 ≤ k) :
    pax_Parse.f k l = some (encP [] (parseS (l.length + 1) l 0)) := by
  unfold pax_Parse.f
  have := parse_l0 l hl hb l.length k 0 [] (by omega) (by omega) (by simp) (by omega)
  rw [List.drop_zero] at this
  exact this

theorem refparse_l0 (l : List Int) (hl : l.length ≤ 4398046511104) (hb : Bytes8 l) (d : Nat) : ∀ (k p : Nat) (acc : List S30), p ≤ l.length → l.length ≤ p + d → acc.length ≤ p → d + 1 + 3 * l.length + 3 ≤ k →
    satchelref14_Parse.l0 k l acc p = some (encP acc (parseS (d + 1) (l.drop p) p)) := by
  induction d with
  | zero =>
    intro k p acc hp hd ha hk
    obtain ⟨k, rfl⟩ : ∃ m, k = m + 1 := ⟨k - 1, by omega⟩
    have hd : l.drop p = [] := List.drop_eq_nil_of_le (by omega)
    simp only [satchelref14_Parse.l0]
    rw [if_neg (by omega), hd]
    simp [parseS, encP]
  | succ d ih =>
    intro k p acc hp hd ha hk
    obtain ⟨k, rfl⟩ : ∃ m, k = m + 1 := ⟨k - 1, by omega⟩
    simp only [satchelref14_Parse.l0]
    by_cases hlt : p < l.length
    · have hk2 : 3 * (l.drop p).length + 3 ≤ k := by rw [List.length_drop]; omega
      rw [if_pos (by omega), if_pos (by omega), if_pos (by omega), Int.toNat_natCast, record_rf (l.drop p) (by rw [List.length_drop]; omega) (bytes_drop hb p) k hk2]
      simp only [Option.bind_some]
      have hne : l.drop p ≠ [] := by
        intro h
        have := congrArg List.length h
        rw [List.length_drop] at this
        simp at this
        omega
      unfold parseS
      cases hlp : l.drop p with
      | nil => exact absurd hlp hne
      | cons x r =>
        simp only
        rw [← hlp]
        cases hR : recS (l.drop p) with
        | fault a w =>
          obtain ⟨ha2, hw⟩ := recS_fault hR
          rw [List.length_drop] at ha2
          have e1 : wrap64 ((p : Int) + (a : Int)) = ((p + a : Nat) : Int) := (w64 (by omega) (by omega)).trans (by omega)
          refine (if_neg hw).trans ?_
          show some (([] : List S30), wrap64 ((p : Int) + (a : Int)), w) = _
          rw [e1]
          rfl
        | ok kk v n =>
          obtain ⟨h5, hn⟩ := recS_ok hR
          rw [List.length_drop] at hn
          have e1 : wrap64 ((p : Int) + (n : Int)) = ((p + n : Nat) : Int) := (w64 (by omega) (by omega)).trans (by omega)
          refine (if_pos rfl).trans ?_
          refine (if_pos (show acc.length < 4398046511104 by clear e1; omega)).trans ?_
          show satchelref14_Parse.l0 k l (acc ++ [(⟨strOfNums kk, strOfNums v⟩ : S30)]) (wrap64 ((p : Int) + (n : Int))) = _
          rw [e1]
          clear e1
          have := ih k (p + n) (acc ++ [(⟨strOfNums kk, strOfNums v⟩ : S30)]) (by omega) (by omega) (by simp; omega) (by omega)
          rw [this]
          simp only [List.drop_drop]
          cases hq : parseS (d + 1) (l.drop (p + n)) (p + n) with
          | fault a w => rfl
          | ok ll => simp [encP, mkP]
    · have hd : l.drop p = [] := List.drop_eq_nil_of_le (by omega)
      rw [if_neg (by omega), hd]
      simp [parseS, encP]
theorem refparse_f (l : List Int) (hl : l.length ≤ 4398046511104) (hb : Bytes8 l) (k : Nat) (hk : 4 * l.length + 4 ≤ k) :
    satchelref14_Parse.f k l = some (encP [] (parseS (l.length + 1) l 0)) := by
  unfold satchelref14_Parse.f
  have := refparse_l0 l hl hb l.length k 0 [] (by omega) (by omega) (by simp) (by omega)
  rw [List.drop_zero] at this
  exact this
end Go.Proofs.Ytohgoaiimhhckaa.PaxBridge
