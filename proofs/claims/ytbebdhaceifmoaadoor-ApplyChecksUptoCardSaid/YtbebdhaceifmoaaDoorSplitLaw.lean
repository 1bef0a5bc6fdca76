/- Names: what the program's path package and the reference's compute is the same: Split, Leaves. -/
import Derived.Test.YtbebdhaceifmoaaDoorSplitEv
namespace Go.Proofs.YtbebdhaceifmoaaDoor.ApplyLaw
open Go.RowKit Go.Proofs.YtbebdhaceifmoaaDoor.PApplyChecks Go.Proofs.YtbebdhaceifmoaaDoorW.PrintWords Go.Proofs.YtbebdhaceifmoaaDoorW.PrintLast
set_option linter.unusedVariables false
theorem inj_data : ∀ {a b : List ByteArray}, a.map (·.data.toList) = b.map (·.data.toList) → a = b
  | [], [], _ => rfl
  | [], _ :: _, h => by simp at h
  | _ :: _, [], h => by simp at h
  | x :: xs, y :: ys, h => by
    simp only [List.map_cons, List.cons.injEq] at h
    rw [inj_data h.2]
    congr 1
    obtain ⟨⟨a⟩⟩ := x
    obtain ⟨⟨b⟩⟩ := y
    have : a = b := h.1
    rw [this]
theorem rest_pcs (s : ByteArray) : rest s s.size 0 0 = pcs s := by
  refine inj_data ?_
  rw [rest_data s s.size 0 0 (by omega) (Nat.le_refl _), pcs_data]
  simp only [Nat.sub_self, List.take_zero, List.drop_zero]
  exact glue_nil (cut_ne _ _)
theorem bt_byte {s : ByteArray} {i : Nat} (h : i < s.size) : bt s (i : Int) = (s.data.toList[i]'(by rw [← Lib.size_eq]; exact h)).toNat := by
  unfold bt
  rw [dif_pos (by simpa using h)]
  simp
  rfl
theorem byte_eq {b c : UInt8} : ((b.toNat : Int) = (c.toNat : Int)) ↔ b = c := by
  constructor
  · intro h
    exact UInt8.toNat_inj.1 (by omega)
  · intro h
    rw [h]
theorem bt_47 {s : ByteArray} {i : Nat} (h : i < s.size) : (bt s (i : Int) = 47) ↔ s.data.toList[i]? = some 47 := by
  rw [bt_byte h, List.getElem?_eq_getElem (by rw [← Lib.size_eq]; exact h), Option.some.injEq]
  exact byte_eq (c := 47)
theorem bt_0 {s : ByteArray} {i : Nat} (h : i < s.size) : (bt s (i : Int) = 0) ↔ s.data.toList[i]? = some 0 := by
  rw [bt_byte h, List.getElem?_eq_getElem (by rw [← Lib.size_eq]; exact h), Option.some.injEq]
  exact byte_eq (c := 0)
theorem pieces_l0 (s : ByteArray) (hs : s.size ≤ 4398046511104) : ∀ (n k : Nat) (acc : List ByteArray) (f i : Nat), i + n = s.size → f ≤ i → n + 2 ≤ k → acc.length ≤ i → satchelref09_Pieces.l0 k s acc (f : Int) (i : Int) = some (acc ++ rest s n f i)
  | 0, k, acc, f, i, hi, hf, hk, ha => by
    obtain ⟨k, rfl⟩ : ∃ m, k = m + 2 := ⟨k - 2, by omega⟩
    simp only [satchelref09_Pieces.l0]
    rw [if_pos (by omega), if_pos (by omega), if_pos (by omega), if_pos (by omega), if_pos (by omega), w_succ (by omega), if_neg (by omega)]
    simp [rest]
  | n + 1, k, acc, f, i, hi, hf, hk, ha => by
    obtain ⟨k, rfl⟩ : ∃ m, k = m + 1 := ⟨k - 1, by omega⟩
    rw [satchelref09_Pieces.l0]
    rw [if_pos (by omega), if_neg (by omega), if_pos (by omega), if_pos (by omega), w_succ (by omega)]
    unfold rest
    by_cases h : s.data.toList[i]? = some 47
    · rw [if_pos ((bt_47 (by omega)).2 h), if_pos (by omega), if_pos (by omega), if_pos (by omega), if_pos h, pieces_l0 s hs n k _ (i + 1) (i + 1) (by omega) (by omega) (by omega) (by simp; omega)]
      simp
    · rw [if_neg (fun e => h ((bt_47 (by omega)).1 e)), if_neg h]
      exact pieces_l0 s hs n k acc f (i + 1) (by omega) (by omega) (by omega) (by omega)
theorem pieces_ev (s : ByteArray) (hs : s.size ≤ 4398046511104) : Ev (fun k => satchelref09_Pieces.f k s) (· = pcs s) :=
  Ev.at (s.size + 2) fun k hk => by
    have h := pieces_l0 s hs s.size k [] 0 0 (by omega) (by omega) (by omega) (by simp)
    rw [rest_pcs] at h
    exact h
theorem split_f (s : ByteArray) (hs : s.size ≤ 4398046511104) (hs2 : s.size < 4294967281) : strings_Split.f s ⟨#[47]⟩ = some (pcs s) := by
  unfold strings_Split.f
  rw [if_pos hs2, if_pos (by decide)]
  rfl
/-! ### zero bytes -/
theorem has_l0 (s : ByteArray) (hs : s.size ≤ 4398046511104) : ∀ (n k i : Nat), i + n = s.size → n + 1 ≤ k → satchelref09_has.l0 k s 0 (i : Int) = some ((s.data.toList.drop i).contains 0)
  | 0, k, i, hi, hk => by
    obtain ⟨k, rfl⟩ : ∃ m, k = m + 1 := ⟨k - 1, by omega⟩
    rw [satchelref09_has.l0, if_neg (by omega), List.drop_eq_nil_of_le (by rw [← Lib.size_eq]; omega)]
    rfl
  | n + 1, k, i, hi, hk => by
    obtain ⟨k, rfl⟩ : ∃ m, k = m + 1 := ⟨k - 1, by omega⟩
    have hlt : i < s.data.toList.length := by rw [← Lib.size_eq]; omega
    rw [satchelref09_has.l0, if_pos (by omega), if_pos (by omega), w_succ (by omega), List.drop_eq_getElem_cons hlt]
    by_cases h : s.data.toList[i]? = some 0
    · rw [if_pos ((bt_0 (by omega)).2 h)]
      rw [List.getElem?_eq_getElem hlt, Option.some.injEq] at h
      simp [h]
    · rw [if_neg (fun e => h ((bt_0 (by omega)).1 e)), has_l0 s hs n k (i + 1) (by omega) (by omega)]
      rw [List.getElem?_eq_getElem hlt, Option.some.injEq] at h
      generalize s.data.toList[i] = x at h ⊢
      rw [List.contains_cons, show ((0 : UInt8) == x) = false by simpa using fun e => h e.symm, Bool.false_or]
def zeroB (s : ByteArray) : Bool := s.data.toList.contains 0
theorem has_ev (s : ByteArray) (hs : s.size ≤ 4398046511104) : Ev (fun k => satchelref09_has.f k s 0) (· = zeroB s) :=
  Ev.at (s.size + 1) fun k hk => by
    have h := has_l0 s hs s.size k 0 (by omega) (by omega)
    rw [List.drop_zero] at h
    exact h
theorem index_zero (s : ByteArray) : (0 ≤ Lib.indexByte s.data.toList 0) ↔ zeroB s = true := by
  unfold zeroB
  constructor
  · intro h
    obtain ⟨o, ho⟩ := Int.eq_ofNat_of_zero_le h
    have h1 := (Lib.indexByte_some ho).1
    simpa using List.mem_of_getElem? h1
  · intro h
    rcases Int.lt_or_le (Lib.indexByte s.data.toList 0) 0 with h1 | h1
    · have h2 := Lib.indexByte_ge s.data.toList 0
      have h3 := Lib.indexByte_none (show Lib.indexByte s.data.toList 0 = -1 by omega)
      have h4 : (0 : UInt8) ∈ s.data.toList := by simpa using h
      obtain ⟨k, hk⟩ := List.mem_iff_getElem?.1 h4
      exact absurd hk (h3 k)
    · exact h1
/-! ### parts -/
def dd (p : ByteArray) : Bool := p.toList == ([46, 46] : List UInt8)
def blank (p : ByteArray) : Bool := p.toList == ([] : List UInt8) || p.toList == ([46] : List UInt8)
def keep (p : ByteArray) : Bool := !blank p && !dd p
def big (p : ByteArray) : Bool := decide ((p.size : Int) > 255)
theorem blank_dd {p : ByteArray} (h : blank p = true) : dd p = false := by
  unfold blank at h
  unfold dd
  simp only [Bool.or_eq_true, beq_iff_eq] at h
  rcases h with h | h <;> rw [h] <;> decide
theorem rd_at {t : List ByteArray} {i : Nat} (h : i < t.length) : rdOf ByteArray.empty t (i : Int) = t[i] := by simp [rdOf, h]
theorem parts_l0 (t : List ByteArray) (ht : t.length ≤ 4398046511104) : ∀ (n k i : Nat) (acc : List ByteArray) (b : Bool), i + n = t.length → 2 * n + 1 ≤ k → acc.length ≤ i →
    path_parts.l0 k acc b t (t.length : Int) (i : Int) = some (acc ++ (t.drop i).filter keep, b || (t.drop i).any dd)
  | 0, k, i, acc, b, hi, hk, ha => by
    obtain ⟨k, rfl⟩ : ∃ m, k = m + 1 := ⟨k - 1, by omega⟩
    rw [path_parts.l0, if_neg (by omega), List.drop_eq_nil_of_le (by omega)]
    simp
  | n + 1, k, i, acc, b, hi, hk, ha => by
    obtain ⟨k, rfl⟩ : ∃ m, k = m + 2 := ⟨k - 2, by omega⟩
    have hlt : i < t.length := by omega
    have hq : ∀ x : Bool, x = blank t[i] → path_parts.j1 (k + 1) acc b t[i] t (t.length : Int) (i : Int) t[i] x = some (acc ++ (t.drop i).filter keep, b || (t.drop i).any dd) := by
      intro x hx
      rw [path_parts.j1, w_succ (by omega), List.drop_eq_getElem_cons hlt]
      by_cases h1 : blank t[i] = true
      · rw [if_pos (by rw [hx, h1]), parts_l0 t ht n k (i + 1) acc b (by omega) (by omega) (by omega)]
        generalize List.drop (i + 1) t = r
        simp [List.filter_cons, keep, h1, blank_dd h1]
      · rw [Bool.not_eq_true] at h1
        rw [if_neg (by rw [hx, h1]; decide)]
        by_cases h2 : (t[i]).toList = ([46, 46] : List UInt8)
        · have h3 : dd t[i] = true := by unfold dd; rw [h2]; decide
          rw [if_pos h2, parts_l0 t ht n k (i + 1) acc true (by omega) (by omega) (by omega)]
          generalize List.drop (i + 1) t = r
          simp [List.filter_cons, keep, h3]
        · have h3 : dd t[i] = false := by unfold dd; simpa using h2
          rw [if_neg h2, if_pos (by omega), parts_l0 t ht n k (i + 1) _ b (by omega) (by omega) (by simp; omega)]
          generalize List.drop (i + 1) t = r
          simp [List.filter_cons, keep, h1, h3]
    rw [path_parts.l0, if_pos (by omega), if_pos (by omega), if_pos (by omega), rd_at hlt]
    by_cases h0 : (t[i]).toList = ([] : List UInt8)
    · rw [if_pos h0]
      exact hq _ (by unfold blank; rw [h0]; decide)
    · rw [if_neg h0]
      exact hq _ (by unfold blank; rw [show ((t[i]).toList == ([] : List UInt8)) = false by simpa using h0]; simp)
def splitS (s : ByteArray) : List ByteArray × Int := path_Split.g s ((pcs s).filter keep) ((pcs s).any dd)
theorem path_split_ev (s : ByteArray) (hs : s.size ≤ 1048576) : Ev (fun k => path_Split.f k s) (· = splitS s) :=
  Ev.at (2 * (pcs s).length + 1) fun k hk => by
    have hl := pcs_length s
    unfold path_Split.f path_parts.f
    rw [split_f s (by omega) (by omega)]
    show ((path_parts.l0 k ([] : List ByteArray) false (pcs s) ((pcs s).length : Int) ((0 : Nat) : Int))).map _ = _
    rw [parts_l0 (pcs s) (by omega) (pcs s).length k 0 [] false (by omega) (by omega) (by simp)]
    simp [splitS]
/-! ### the reference's Split -/
def fin : List ByteArray → List ByteArray → Bool → List ByteArray × Int
  | [], acc, long => if acc.length = 0 then ([], 90) else if long = true then ([], 94) else if (acc.length : Int) > 256 then ([], 95) else (acc, 0)
  | p :: t, acc, long => if dd p = true then ([], 92) else if blank p = true then fin t acc long else fin t (acc ++ [p]) (long || big p)
theorem fin_cons (p : ByteArray) (t acc : List ByteArray) (long : Bool) : fin (p :: t) acc long = if dd p = true then ([], 92) else if blank p = true then fin t acc long else fin t (acc ++ [p]) (long || big p) := rfl
theorem fin_eq : ∀ (t acc : List ByteArray) (long : Bool), fin t acc long = if t.any dd = true then ([], 92) else fin [] (acc ++ t.filter keep) (long || (t.filter keep).any big)
  | [], acc, long => by simp
  | p :: t, acc, long => by
    rw [fin_cons]
    by_cases h : dd p = true
    · simp [h]
    · rw [if_neg h]
      rw [Bool.not_eq_true] at h
      by_cases h1 : blank p = true
      · rw [if_pos h1, fin_eq t acc long]
        simp [List.filter_cons, keep, h, h1]
      · rw [if_neg h1, fin_eq t _ _]
        rw [Bool.not_eq_true] at h1
        simp [List.filter_cons, keep, h, h1, Bool.or_assoc]
theorem refsplit_l0 (t : List ByteArray) (ht : t.length ≤ 4398046511104) : ∀ (n k i : Nat) (acc : List ByteArray) (b : Bool), i + n = t.length → n + 1 ≤ k → acc.length ≤ i →
    satchelref09_Split.l0 k t acc b (i : Int) = some (fin (t.drop i) acc b)
  | 0, k, i, acc, b, hi, hk, ha => by
    obtain ⟨k, rfl⟩ : ∃ m, k = m + 1 := ⟨k - 1, by omega⟩
    rw [satchelref09_Split.l0, if_neg (by omega), List.drop_eq_nil_of_le (by omega), fin]
    by_cases h1 : acc.length = 0
    · rw [if_pos (by omega), if_pos h1]
    · rw [if_neg (by omega), if_neg h1]
      split
      · rfl
      · split <;> rfl
  | n + 1, k, i, acc, b, hi, hk, ha => by
    obtain ⟨k, rfl⟩ : ∃ m, k = m + 1 := ⟨k - 1, by omega⟩
    have hlt : i < t.length := by omega
    rw [satchelref09_Split.l0, if_pos (by omega), if_pos (by omega), rd_at hlt, w_succ (by omega), List.drop_eq_getElem_cons hlt, fin]
    by_cases h2 : (t[i]).toList = ([46, 46] : List UInt8)
    · have h3 : dd t[i] = true := by unfold dd; rw [h2]; decide
      rw [if_pos h2, if_pos h3]
    · have h3 : ¬ dd t[i] = true := by unfold dd; simpa using h2
      rw [if_neg h2, if_neg h3]
      by_cases h0 : (t[i]).toList = ([] : List UInt8)
      · have hb : blank t[i] = true := by unfold blank; rw [h0]; decide
        rw [if_pos h0, if_pos hb]
        exact refsplit_l0 t ht n k (i + 1) acc b (by omega) (by omega) (by omega)
      · rw [if_neg h0]
        by_cases h1 : (t[i]).toList = ([46] : List UInt8)
        · have hb : blank t[i] = true := by unfold blank; rw [h1]; decide
          rw [if_pos h1, if_pos hb]
          exact refsplit_l0 t ht n k (i + 1) acc b (by omega) (by omega) (by omega)
        · have hb : ¬ blank t[i] = true := by unfold blank; simp [h0, h1]
          rw [if_neg h1, if_neg hb, if_pos (by omega)]
          show (if b = true then _ else _) = _
          by_cases hbb : b = true
          · rw [if_pos hbb, refsplit_l0 t ht n k (i + 1) _ true (by omega) (by omega) (by simp; omega), hbb]
            rfl
          · rw [Bool.not_eq_true] at hbb
            rw [if_neg (by rw [hbb]; decide), refsplit_l0 t ht n k (i + 1) _ _ (by omega) (by omega) (by simp; omega), hbb]
            rfl
theorem ref_split_ev (s : ByteArray) (hs : s.size ≤ 1048576) : Ev (fun k => satchelref09_Split.f k s) (· = splitS s) := by
  have hl := pcs_length s
  unfold satchelref09_Split.f
  refine Ev.ite (fun h => Ev.const ?_) (fun h => ?_)
  · unfold splitS path_Split.g
    rw [if_pos h]
  have e1 : splitS s = if 0 ≤ Lib.indexByte s.data.toList 0 then ([], 93) else if s.data.toList.head? = some 47 then ([], 91) else fin (pcs s) [] false := by
    unfold splitS path_Split.g
    rw [if_neg h, fin_eq]
    simp only [List.nil_append, Bool.false_or, fin]
    rfl
  rw [e1]
  refine Ev.bind (has_ev s (by omega)) (Ev.ite (fun h1 => Ev.const ?_) (fun h1 => ?_))
  · rw [if_pos ((index_zero s).2 h1)]
  rw [if_neg (fun h2 => h1 ((index_zero s).1 h2))]
  have hj : ∀ b : Bool, (b = true ↔ s.data.toList.head? = some 47) → Ev (fun k => satchelref09_Split.j0 k s b) (· = if s.data.toList.head? = some 47 then ([], 91) else fin (pcs s) [] false) := by
    intro b hb
    refine Ev.succ ?_
    simp only [satchelref09_Split.j0]
    refine Ev.ite (fun h2 => Ev.const ?_) (fun h2 => ?_)
    · rw [if_pos (hb.1 h2)]
    · rw [if_neg (fun h3 => h2 (hb.2 h3))]
      refine Ev.bind (pieces_ev s (by omega)) (Ev.at ((pcs s).length + 1) fun k hk => ?_)
      exact refsplit_l0 (pcs s) (by omega) (pcs s).length k 0 [] false (by omega) (by omega) (by simp)
  refine Ev.ite (fun h2 => ?_) (fun h2 => hj false ?_)
  · refine Ev.ite (fun h3 => hj _ ?_) (fun h3 => absurd h2 h3)
    have e2 := bt_47 (s := s) (i := 0) (by omega)
    rw [beq_iff_eq]
    rw [List.head?_eq_getElem?]
    exact e2
  · have h4 : s.data.toList = [] := List.length_eq_zero_iff.1 (by rw [← Lib.size_eq]; omega)
    rw [h4]
    simp
/-! ### Leaves -/
def leavesS : List ByteArray → Int → Bool
  | [], _ => false
  | p :: r, d => if dd p = true then (if d = 0 then true else leavesS r (d - 1)) else if blank p = true then leavesS r d else leavesS r (d + 1)
def leaves (n : Nat) (s : ByteArray) : Bool := if s.data.toList.head? = some 47 then true else leavesS (pcs s) n
theorem hasprefix_f (s : ByteArray) : strings_HasPrefix.f s ⟨#[47]⟩ = some (decide (s.data.toList.head? = some 47)) := by
  unfold strings_HasPrefix.f stringslite_HasPrefix.f
  have e1 : ((⟨#[47]⟩ : ByteArray).size : Int) = 1 := rfl
  rw [e1]
  by_cases h : (s.size : Int) ≥ 1
  · rw [if_pos h, if_pos (by omega), if_pos (by omega)]
    have e2 : (s.extract 0 ((1 : Int) : Int).toNat).toList = s.data.toList.take 1 := by rw [Lib.toList_data, Lib.extract_data]; rfl
    have e3 : (⟨#[47]⟩ : ByteArray).toList = [47] := by rw [Lib.toList_data]
    rw [e2, e3]
    cases s.data.toList with
    | nil => rfl
    | cons x xs => simp only [Option.bind_some, List.take_succ_cons, List.take_zero, List.head?_cons, Option.some.injEq]; by_cases hx : x = 47 <;> simp [hx]
  · rw [if_neg h]
    have h4 : s.data.toList = [] := List.length_eq_zero_iff.1 (by rw [← Lib.size_eq]; omega)
    rw [h4]
    rfl
theorem leaves_l0 (t : List ByteArray) (ht : t.length ≤ 4398046511104) : ∀ (n k i : Nat) (d : Int), i + n = t.length → 2 * n + 1 ≤ k → 0 ≤ d → d ≤ 4398046511104 + i →
    path_Leaves.l0 k d t (t.length : Int) (i : Int) = some (leavesS (t.drop i) d)
  | 0, k, i, d, hi, hk, h0, hd => by
    obtain ⟨k, rfl⟩ : ∃ m, k = m + 1 := ⟨k - 1, by omega⟩
    rw [path_Leaves.l0, if_neg (by omega), List.drop_eq_nil_of_le (by omega), leavesS]
  | n + 1, k, i, d, hi, hk, h0, hd => by
    obtain ⟨k, rfl⟩ : ∃ m, k = m + 2 := ⟨k - 2, by omega⟩
    have hlt : i < t.length := by omega
    have hq : ∀ x : Bool, x = blank t[i] → path_Leaves.j1 (k + 1) d t (t.length : Int) (i : Int) t[i] x = some (leavesS (t.drop i) d) := by
      intro x hx
      rw [path_Leaves.j1, w_succ (by omega), List.drop_eq_getElem_cons hlt, leavesS]
      by_cases h1 : blank t[i] = true
      · rw [if_pos (by rw [hx, h1]), if_neg (by rw [blank_dd h1]; decide), if_pos h1]
        exact leaves_l0 t ht n k (i + 1) d (by omega) (by omega) h0 (by omega)
      · rw [if_neg (by rw [hx]; exact h1), if_neg h1]
        by_cases h2 : (t[i]).toList = ([46, 46] : List UInt8)
        · have h3 : dd t[i] = true := by unfold dd; rw [h2]; decide
          rw [if_pos h2, if_pos h3]
          split
          · rfl
          · rw [w64 (by omega) (by omega)]
            exact leaves_l0 t ht n k (i + 1) (d - 1) (by omega) (by omega) (by omega) (by omega)
        · have h3 : ¬ dd t[i] = true := by unfold dd; simpa using h2
          rw [if_neg h2, if_neg h3, w64 (n := d + 1) (by omega) (by omega)]
          exact leaves_l0 t ht n k (i + 1) (d + 1) (by omega) (by omega) (by omega) (by omega)
    rw [path_Leaves.l0, if_pos (by omega), if_pos (by omega), if_pos (by omega), rd_at hlt]
    by_cases h0 : (t[i]).toList = ([] : List UInt8)
    · rw [if_pos h0]
      exact hq _ (by unfold blank; rw [h0]; decide)
    · rw [if_neg h0]
      exact hq _ (by unfold blank; rw [show ((t[i]).toList == ([] : List UInt8)) = false by simpa using h0]; simp)
theorem leaves_ev (l : List ByteArray) (s : ByteArray) (hl : l.length ≤ 4398046511104) (hs : s.size ≤ 1048576) : Ev (fun k => path_Leaves.f k l s) (· = leaves l.length s) := by
  have hp := pcs_length s
  unfold path_Leaves.f
  rw [hasprefix_f, split_f s (by omega) (by omega)]
  simp only [Option.bind_some]
  refine Ev.ite (fun h => Ev.const ?_) (fun h => Ev.at (2 * (pcs s).length + 1) fun k hk => ?_)
  · unfold leaves
    rw [if_pos (by simpa using h)]
  · unfold leaves
    rw [if_neg (by simpa using h)]
    exact leaves_l0 (pcs s) (by omega) (pcs s).length k 0 _ (by omega) (by omega) (by omega) (by omega)
theorem refleaves_l0 (t : List ByteArray) (ht : t.length ≤ 4398046511104) : ∀ (n k i : Nat) (d : Int), i + n = t.length → n + 1 ≤ k → 0 ≤ d → d ≤ 4398046511104 + i →
    satchelref09_Leaves.l0 k t d (i : Int) = some (leavesS (t.drop i) d)
  | 0, k, i, d, hi, hk, h0, hd => by
    obtain ⟨k, rfl⟩ : ∃ m, k = m + 1 := ⟨k - 1, by omega⟩
    rw [satchelref09_Leaves.l0, if_neg (by omega), List.drop_eq_nil_of_le (by omega), leavesS]
  | n + 1, k, i, d, hi, hk, h0, hd => by
    obtain ⟨k, rfl⟩ : ∃ m, k = m + 1 := ⟨k - 1, by omega⟩
    have hlt : i < t.length := by omega
    rw [satchelref09_Leaves.l0, if_pos (by omega), if_pos (by omega), rd_at hlt, w_succ (by omega), List.drop_eq_getElem_cons hlt, leavesS]
    by_cases h2 : (t[i]).toList = ([46, 46] : List UInt8)
    · have h3 : dd t[i] = true := by unfold dd; rw [h2]; decide
      rw [if_pos h2, if_pos h3]
      split
      · rfl
      · rw [w64 (by omega) (by omega)]
        exact refleaves_l0 t ht n k (i + 1) (d - 1) (by omega) (by omega) (by omega) (by omega)
    · have h3 : ¬ dd t[i] = true := by unfold dd; simpa using h2
      rw [if_neg h2, if_neg h3]
      by_cases h0 : (t[i]).toList = ([] : List UInt8)
      · have hb : blank t[i] = true := by unfold blank; rw [h0]; decide
        rw [if_pos h0, if_pos hb]
        exact refleaves_l0 t ht n k (i + 1) d (by omega) (by omega) (by omega) (by omega)
      · rw [if_neg h0]
        by_cases h1 : (t[i]).toList = ([46] : List UInt8)
        · have hb : blank t[i] = true := by unfold blank; rw [h1]; decide
          rw [if_pos h1, if_pos hb]
          exact refleaves_l0 t ht n k (i + 1) d (by omega) (by omega) (by omega) (by omega)
        · have hb : ¬ blank t[i] = true := by unfold blank; simp [h0, h1]
          rw [if_neg h1, if_neg hb, w64 (n := d + 1) (by omega) (by omega)]
          exact refleaves_l0 t ht n k (i + 1) (d + 1) (by omega) (by omega) (by omega) (by omega)
theorem ref_leaves_ev (l : List ByteArray) (s : ByteArray) (hl : l.length ≤ 4398046511104) (hs : s.size ≤ 1048576) : Ev (fun k => satchelref09_Leaves.f k l s) (· = leaves l.length s) := by
  have hp := pcs_length s
  have hj : ∀ b : Bool, (b = true ↔ s.data.toList.head? = some 47) → Ev (fun k => satchelref09_Leaves.j0 k l s b) (· = leaves l.length s) := by
    intro b hb
    refine Ev.succ ?_
    simp only [satchelref09_Leaves.j0]
    unfold leaves
    refine Ev.ite (fun h2 => Ev.const ?_) (fun h2 => ?_)
    · rw [if_pos (hb.1 h2)]
    · rw [if_neg (fun h3 => h2 (hb.2 h3))]
      refine Ev.bind (pieces_ev s (by omega)) (Ev.at ((pcs s).length + 1) fun k hk => ?_)
      exact refleaves_l0 (pcs s) (by omega) (pcs s).length k 0 _ (by omega) (by omega) (by omega) (by omega)
  unfold satchelref09_Leaves.f
  refine Ev.ite (fun h2 => ?_) (fun h2 => hj false ?_)
  · refine Ev.ite (fun h3 => hj _ ?_) (fun h3 => absurd h2 h3)
    have e2 := bt_47 (s := s) (i := 0) (by omega)
    rw [beq_iff_eq, List.head?_eq_getElem?]
    exact e2
  · have h4 : s.data.toList = [] := List.length_eq_zero_iff.1 (by rw [← Lib.size_eq]; omega)
    rw [h4]
    simp
end Go.Proofs.YtbebdhaceifmoaaDoor.ApplyLaw
