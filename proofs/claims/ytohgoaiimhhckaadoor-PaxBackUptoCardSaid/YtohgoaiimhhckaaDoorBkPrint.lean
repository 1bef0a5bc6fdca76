/- The printed pax.Print answers what PaxSpec says of records' texts. -/
import Derived.Test.YtohgoaiimhhckaaDoorPaxDigits
import Derived.Test.YtohgoaiimhhckaaDoorPPaxBackx16
namespace Go.Proofs.YtohgoaiimhhckaaDoor.PaxBridge
open Go.RowKit Go.Proofs.YtohgoaiimhhckaaDoor.PPaxBack Go.Proofs.YtohgoaiimhhckaaDoorW.PrintWords Go.Proofs.YtohgoaiimhhckaaDoorW.PrintLast Go.Proofs.YtohgoaiimhhckaaDoor.PaxSpec
set_option linter.unusedVariables false

theorem pb_w64 {x : Int} (h0 : -4611686018427387904 ≤ x) (h1 : x ≤ 4611686018427387904) : wrap64 x = x := by unfold wrap64; omega
theorem bytesOf_app (a b : ByteArray) : bytesOf (a ++ b) = bytesOf a ++ bytesOf b := by
  unfold bytesOf
  rw [ByteArray.data_append, Array.toList_append, List.map_append]
theorem bytesOf_nil_iff (a : ByteArray) : bytesOf a = [] ↔ a.data.toList = [] := by simp [bytesOf]
theorem mem_bytesOf (a : ByteArray) (c : UInt8) : (c.toNat : Int) ∈ bytesOf a ↔ c ∈ a.data.toList := by
  unfold bytesOf
  constructor
  · intro h
    obtain ⟨b, hb, he⟩ := List.mem_map.1 h
    have : b = c := UInt8.toNat_inj.1 (by omega)
    exact this ▸ hb
  · intro h
    exact List.mem_map.2 ⟨c, h, rfl⟩
theorem bytesOf_len (a : ByteArray) : (bytesOf a).length = a.size := bytesOf_length a
def okB (x : S59) : Bool := decide (x.f0.data.toList ≠ []) && (!(Lib.containsAny x.f0.data.toList [61, 0])) && decide (Lib.indexByte x.f1.data.toList 0 < 0)
theorem contains_two (l : List UInt8) : Lib.containsAny l [61, 0] = true ↔ (61 ∈ l ∨ 0 ∈ l) := by
  unfold Lib.containsAny
  rw [decide_eq_true_eq]
  induction l with
  | nil => simp [Lib.indexAny]
  | cons b l ih =>
    unfold Lib.indexAny
    by_cases hb : ([61, 0] : List UInt8).contains b = true
    · rw [if_pos hb]
      simp only [List.contains_cons, List.contains_nil, Bool.or_false, Bool.or_eq_true, beq_iff_eq] at hb
      simp only [Int.le_refl, true_iff, List.mem_cons]
      rcases hb with rfl | rfl <;> simp
    · rw [if_neg hb]
      simp only [List.contains_cons, List.contains_nil, Bool.or_false, Bool.or_eq_true, beq_iff_eq, not_or] at hb
      have hm : (61 ∈ b :: l ∨ 0 ∈ b :: l) ↔ (61 ∈ l ∨ 0 ∈ l) := by
        simp only [List.mem_cons]
        constructor
        · rintro ((h | h) | (h | h))
          · exact absurd h.symm hb.1
          · exact .inl h
          · exact absurd h.symm hb.2
          · exact .inr h
        · rintro (h | h)
          · exact .inl (.inr h)
          · exact .inr (.inr h)
      rw [hm, ← ih]
      have hge := Lib.indexAny_ge [61, 0] l
      by_cases h1 : (Lib.indexAny l [61, 0] == -1) = true
      · rw [if_pos h1, beq_iff_eq.1 h1]
      · rw [if_neg h1]
        have : Lib.indexAny l [61, 0] ≠ -1 := fun e => h1 (beq_iff_eq.2 e)
        omega
theorem index_zero (l : List UInt8) : Lib.indexByte l 0 < 0 ↔ 0 ∉ l := by
  have hge := Lib.indexByte_ge l 0
  constructor
  · intro h hm
    obtain ⟨i, hi, he⟩ := List.mem_iff_getElem.1 hm
    exact Lib.indexByte_none (show Lib.indexByte l 0 = -1 by omega) i (by rw [List.getElem?_eq_getElem hi, he])
  · intro h
    refine Classical.byContradiction fun hn => ?_
    obtain ⟨o, ho⟩ := Int.eq_ofNat_of_zero_le (show 0 ≤ Lib.indexByte l 0 by omega)
    exact h (List.mem_of_getElem? (Lib.indexByte_some ho).1)
theorem okB_iff (x : S59) : okB x = true ↔ keyS (bytesOf x.f0) (bytesOf x.f1) := by
  unfold okB keyS
  rw [Bool.and_eq_true, Bool.and_eq_true, decide_eq_true_eq, decide_eq_true_eq, index_zero]
  have h1 := mem_bytesOf x.f0 61
  have h2 := mem_bytesOf x.f0 0
  have h3 := mem_bytesOf x.f1 0
  have e61 : ((61 : UInt8).toNat : Int) = 61 := rfl
  have e0 : ((0 : UInt8).toNat : Int) = 0 := rfl
  rw [e61] at h1
  rw [e0] at h2 h3
  rw [h1, h2, h3, ne_eq, ne_eq, bytesOf_nil_iff]
  have hc := contains_two x.f0.data.toList
  cases hb : Lib.containsAny x.f0.data.toList [61, 0] with
  | true =>
    rw [hb] at hc
    have := hc.1 rfl
    constructor
    · rintro ⟨⟨_, h⟩, _⟩; cases h
    · rintro ⟨_, a, b, _⟩; exact absurd this (fun h => h.elim a b)
  | false =>
    rw [hb] at hc
    have : ¬ (61 ∈ x.f0.data.toList ∨ 0 ∈ x.f0.data.toList) := fun h => by have := hc.2 h; cases this
    constructor
    · rintro ⟨⟨a, _⟩, b⟩; exact ⟨a, fun h => this (.inl h), fun h => this (.inr h), b⟩
    · rintro ⟨a, _, _, b⟩; exact ⟨⟨a, rfl⟩, b⟩
def restS (x : S59) : Nat := x.f0.size + x.f1.size + 3
def recP (x : S59) : List Int := recT (restS x + dP (restS x)) (bytesOf x.f0) (bytesOf x.f1)
def printS (l : List S59) : List Int × Int := if l.all okB = true then (l.flatMap recP, 0) else ([], 141)
theorem itoa_f (n : Nat) (hn : n ≤ 9000000000000000000) : strconv_Itoa.f (n : Int) = some ⟨(Lib.decDigits n).toArray⟩ := by
  unfold strconv_Itoa.f
  rw [if_pos ⟨by omega, by omega⟩, Lib.itoa_nonneg]
theorem itoa_size (n : Nat) : (⟨(Lib.decDigits n).toArray⟩ : ByteArray).size = numD n := Lib.size_eq _
theorem bytesOf_itoa (n : Nat) : bytesOf (⟨(Lib.decDigits n).toArray⟩ : ByteArray) = decI n := rfl
theorem l2_run (x : S59) (hr : restS x < 9000000) (acc : List Int) (hacc : acc.length < 1000000000000) (L : List S59) (n : Int) (q : Nat) (hq : q < 1000000000000) (m : Nat) : ∀ (d k : Nat), 1 ≤ d → d + m = dP (restS x) →
    pax_Print.l2 (k + m + 1) acc (restS x) ((restS x + d : Nat) : Int) L n q x.f0 x.f1 = pax_Print.l1 k (acc ++ recP x) L n ((q + 1 : Nat) : Int) := by
  obtain ⟨g1, g2, g3, g4⟩ := dP_ok (restS x) hr
  induction m with
  | zero =>
    intro d k h1 hd
    obtain rfl : d = dP (restS x) := by omega
    have e1 := itoa_f (restS x + dP (restS x)) (by omega)
    have e3 : wrap64 ((q : Int) + 1) = ((q + 1 : Nat) : Int) := (pb_w64 (by omega) (by omega)).trans (by omega)
    have e2 : wrap64 (((restS x + dP (restS x) : Nat) : Int) - (restS x : Int)) = (dP (restS x) : Int) := by
      clear e3
      exact (pb_w64 (by omega) (by omega)).trans (by omega)
    have hs := itoa_size (restS x + dP (restS x))
    rw [g1] at hs
    have hrs : restS x = x.f0.size + x.f1.size + 3 := rfl
    rw [Nat.add_zero, pax_Print.l2, e1]
    simp only [Option.bind_some]
    rw [e2, e3, hs]
    clear e1 e2 e3
    rw [if_pos rfl, if_neg (by omega)]
    have s1 : (⟨#[32]⟩ : ByteArray).size = 1 := rfl
    have s2 : (⟨#[61]⟩ : ByteArray).size = 1 := rfl
    have s3 : (⟨#[10]⟩ : ByteArray).size = 1 := rfl
    simp only [ByteArray.size_append, hs, s1, s2, s3]
    rw [if_pos (by omega), if_pos (by omega), if_pos (by omega), if_pos (by omega), if_pos (by omega), if_pos (by omega)]
    have hrec : bytesOf (((((⟨(Lib.decDigits (restS x + dP (restS x))).toArray⟩ ++ (⟨#[32]⟩ : ByteArray)) ++ x.f0) ++ (⟨#[61]⟩ : ByteArray)) ++ x.f1) ++ (⟨#[10]⟩ : ByteArray)) = recP x := by
      have b1 : bytesOf (⟨#[32]⟩ : ByteArray) = [32] := rfl
      have b2 : bytesOf (⟨#[61]⟩ : ByteArray) = [61] := rfl
      have b3 : bytesOf (⟨#[10]⟩ : ByteArray) = [10] := rfl
      rw [bytesOf_app, bytesOf_app, bytesOf_app, bytesOf_app, bytesOf_app, b1, b2, b3, bytesOf_itoa]
      simp [recP, recT]
    rw [hrec]
  | succ m ih =>
    intro d k h1 hd
    have e1 := itoa_f (restS x + d) (by omega)
    have e3 : wrap64 (((restS x + d : Nat) : Int) + 1) = ((restS x + (d + 1) : Nat) : Int) := (pb_w64 (by omega) (by omega)).trans (by omega)
    have e2 : wrap64 (((restS x + d : Nat) : Int) - (restS x : Int)) = (d : Int) := by
      clear e3
      exact (pb_w64 (by omega) (by omega)).trans (by omega)
    have hs := itoa_size (restS x + d)
    have hne : numD (restS x + d) ≠ d := fun e => by have := (g4 d h1 (by omega) e).1; omega
    rw [show k + (m + 1) + 1 = (k + m + 1) + 1 from by omega, pax_Print.l2, e1]
    simp only [Option.bind_some]
    rw [e2, hs, e3]
    clear e1 e2 e3
    rw [if_neg (by omega), if_pos (by omega)]
    exact ih (d + 1) k (by omega) (by omega)
def totS : List S59 → Nat
  | [] => 0
  | x :: l => restS x + 8 + totS l
theorem recP_len (x : S59) (hr : restS x < 9000000) : (recP x).length = restS x + dP (restS x) ∧ dP (restS x) ≤ 7 := by
  obtain ⟨g1, g2, g3, g4⟩ := dP_ok (restS x) hr
  unfold recP
  rw [recT_len, g1, bytesOf_len, bytesOf_len]
  have : restS x = x.f0.size + x.f1.size + 3 := rfl
  exact ⟨by omega, g3⟩
theorem rd_drop (l : List S59) (q : Nat) (h : q < l.length) : l.drop q = rd_T59 l (q : Int) :: l.drop (q + 1) := by
  rw [List.drop_eq_getElem_cons h]
  simp [rd_T59, List.getD_eq_getElem?_getD, h]
theorem l1_run (l : List S59) (hl : l.length < 100000000000) (hb : totS l < 9000000) (r : Nat) : ∀ (k q : Nat) (acc : List Int), q + r = l.length → 9 * r + 1 ≤ k → acc.length + totS (l.drop q) < 100000000000 → totS (l.drop q) < 9000000 →
    pax_Print.l1 k acc l (l.length : Int) q = some (acc ++ (l.drop q).flatMap recP, 0) := by
  induction r with
  | zero =>
    intro k q acc hq hk ha hb
    obtain ⟨k, rfl⟩ : ∃ m, k = m + 1 := ⟨k - 1, by omega⟩
    rw [pax_Print.l1, if_neg (by omega), List.drop_eq_nil_of_le (by omega)]
    simp
  | succ r ih =>
    intro k q acc hq hk ha hb
    obtain ⟨k, rfl⟩ : ∃ m, k = m + 1 := ⟨k - 1, by omega⟩
    have hlt : q < l.length := by omega
    have hd := rd_drop l q hlt
    rw [hd] at ha hb ⊢
    generalize hx : rd_T59 l (q : Int) = x at *
    simp only [totS] at ha hb
    have hr : restS x < 9000000 := by omega
    have hrl := recP_len x hr
    obtain ⟨g1, g2, g3, g4⟩ := dP_ok (restS x) hr
    have hrs : restS x = x.f0.size + x.f1.size + 3 := rfl
    rw [pax_Print.l1, if_pos (by omega), if_pos (by omega), if_pos (by omega)]
    have e1 : wrap64 ((x.f0.size : Int) + (x.f1.size : Int)) = ((x.f0.size + x.f1.size : Nat) : Int) := (pb_w64 (by omega) (by omega)).trans (by omega)
    have e2 : wrap64 (((x.f0.size + x.f1.size : Nat) : Int) + 3) = (restS x : Int) := by
      clear e1
      exact (pb_w64 (by omega) (by omega)).trans (by omega)
    have e3 : wrap64 ((restS x : Int) + 1) = ((restS x + 1 : Nat) : Int) := by
      clear e1 e2
      exact (pb_w64 (by omega) (by omega)).trans (by omega)
    simp only [hx, e1, e2, e3]
    clear e1 e2 e3
    have hk2 : k = (k - dP (restS x)) + (dP (restS x) - 1) + 1 := by omega
    rw [hk2, l2_run x hr acc (by omega) l l.length q (by omega) (dP (restS x) - 1) 1 (k - dP (restS x)) (by omega) (by omega)]
    rw [ih (k - dP (restS x)) (q + 1) (acc ++ recP x) (by omega) (by omega) (by rw [List.length_append]; omega) (by omega)]
    simp
theorem l0_run (l : List S59) (hl : l.length < 100000000000) (hb : totS l < 9000000) (r : Nat) : ∀ (k q : Nat), q + r = l.length → 10 * l.length + r + 2 ≤ k → totS (l.drop q) < 9000000 → (l.take q).all okB = true →
    pax_Print.l0 k l l (l.length : Int) q = some (printS l) := by
  induction r with
  | zero =>
    intro k q hq hk hb' hp
    obtain ⟨k, rfl⟩ : ∃ m, k = m + 1 := ⟨k - 1, by omega⟩
    have := l1_run l hl hb l.length k 0 [] (by omega) (by omega) (by simp; omega) (by simpa using hb)
    rw [List.take_of_length_le (by omega)] at hp
    rw [pax_Print.l0, if_neg (by omega)]
    simp only [List.nil_append, List.drop_zero] at this
    unfold printS
    rw [if_pos hp]
    exact this
  | succ r ih =>
    intro k q hq hk hb' hp
    obtain ⟨k, rfl⟩ : ∃ m, k = m + 1 := ⟨k - 1, by omega⟩
    have hlt : q < l.length := by omega
    have hd := rd_drop l q hlt
    have ht : l.take (q + 1) = l.take q ++ [rd_T59 l (q : Int)] := by
      rw [List.take_succ_eq_append_getElem hlt]
      simp [rd_T59, List.getD_eq_getElem?_getD, hlt]
    have hmem : rd_T59 l (q : Int) ∈ l := by
      have : rd_T59 l (q : Int) ∈ l.drop q := by rw [hd]; simp
      exact List.mem_of_mem_drop this
    rw [hd] at hb'
    generalize hx : rd_T59 l (q : Int) = x at *
    simp only [totS] at hb'
    have hrs : restS x = x.f0.size + x.f1.size + 3 := rfl
    have hbad : okB x = false → printS l = ([], 141) := fun h => by
      unfold printS
      rw [if_neg]
      intro h2
      have := List.all_eq_true.1 h2 x hmem
      rw [h] at this
      cases this
    rw [pax_Print.l0, if_pos (by omega), if_pos (by omega), if_pos (by omega)]
    have e3 : wrap64 ((q : Int) + 1) = ((q + 1 : Nat) : Int) := (pb_w64 (by omega) (by omega)).trans (by omega)
    simp only [hx, e3]
    clear e3
    have hC : strings_ContainsAny.f x.f0 (⟨#[61, 0]⟩ : ByteArray) = some (Lib.containsAny x.f0.data.toList [61, 0]) := by
      unfold strings_ContainsAny.f
      rw [if_pos (by omega), if_pos ⟨rfl, rfl⟩]
    have hI : strings_IndexByte.f x.f1 0 = some (Lib.indexByte x.f1.data.toList 0) := rfl
    by_cases c0 : x.f0.toList = ([] : List UInt8)
    · rw [if_pos c0]
      rw [hbad (by unfold okB; rw [Lib.toList_data] at c0; simp [c0])]
    · rw [if_neg c0, hC]
      rw [Lib.toList_data] at c0
      simp only [Option.bind_some]
      cases c1 : Lib.containsAny x.f0.data.toList [61, 0] with
      | true =>
        rw [if_pos rfl, hbad (by unfold okB; simp [c1])]
      | false =>
        rw [if_neg (by decide), hI]
        simp only [Option.bind_some]
        by_cases c2 : Lib.indexByte x.f1.data.toList 0 ≥ 0
        · rw [if_pos c2, hbad (by unfold okB; simp; intro _ _; omega)]
        · rw [if_neg c2]
          refine ih k (q + 1) (by omega) (by omega) (by omega) ?_
          have hok : okB x = true := by
            unfold okB
            rw [c1, decide_eq_true c0, decide_eq_true (show Lib.indexByte x.f1.data.toList 0 < 0 by omega)]
            rfl
          rw [ht, List.all_append, hp]
          simp [hok]
theorem print_f (l : List S59) (hl : l.length < 100000000000) (hb : totS l < 9000000) (k : Nat) (hk : 11 * l.length + 2 ≤ k) : pax_Print.f k l = some (printS l) := by
  unfold pax_Print.f
  exact l0_run l hl hb l.length k 0 (by omega) (by omega) (by simpa using hb) (by simp)
end Go.Proofs.YtohgoaiimhhckaaDoor.PaxBridge
