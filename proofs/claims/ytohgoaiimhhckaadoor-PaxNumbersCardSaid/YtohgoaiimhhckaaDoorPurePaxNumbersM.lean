import Derived.Test.YtohgoaiimhhckaaDoorPPaxNumbersx23
import Derived.Lib.IndexLaws
/- Numbers of pax: what pax.Number and the document's Number compute is one function of the text's bytes. -/
namespace Go.Proofs.YtohgoaiimhhckaaDoor.NumBridge
open Go.RowKit Go.Proofs.YtohgoaiimhhckaaDoor.PPaxNumbers Go.Proofs.YtohgoaiimhhckaaDoorW.PrintWords Go.Proofs.YtohgoaiimhhckaaDoorW.PrintLast Go.Proofs.YtohgoaiimhhckaaDoorW.PrintMore
set_option linter.unusedVariables false

theorem w63 {x : Int} (h0 : -9223372036854775808 ≤ x) (h1 : x ≤ 9223372036854775807) : wrap64 x = x := by unfold wrap64; omega
theorem bt_at (a : ByteArray) (q : Nat) (h : q < a.data.toList.length) : bt a (q : Int) = ((a.data.toList[q]'h).toNat : Int) := by
  unfold bt
  have h' : q < a.size := by rw [Lib.size_eq]; exact h
  rw [dif_pos (show (q : Int).toNat < a.size by simpa using h')]
  rfl
theorem drop_at {L : List UInt8} {q : Nat} (h : q < L.length) : L.drop q = L[q] :: L.drop (q + 1) := List.drop_eq_getElem_cons h

theorem dropW_nil {p : UInt8 → Bool} : ∀ {l : List UInt8}, l.dropWhile p = [] ↔ ∀ x ∈ l, p x = true
  | [] => by simp
  | y :: l => by
    rw [List.dropWhile_cons]
    by_cases h : p y = true
    · rw [if_pos h, dropW_nil]
      simp [h]
    · rw [if_neg h]
      simp [h]
def isD (c : UInt8) : Bool := decide (48 ≤ (c.toNat : Int) ∧ (c.toNat : Int) ≤ 57)
def dv (c : UInt8) : Int := ((c.toNat : Int) - 48) % 256
theorem dv_of {c : UInt8} (h : isD c = true) : 0 ≤ dv c ∧ dv c ≤ 9 := by
  unfold isD at h
  unfold dv
  have := of_decide_eq_true h
  omega
def numS : Int → List UInt8 → Int × Int
  | n, [] => (n, 0)
  | n, c :: r => if n > (9223372036854775807 - dv c) / 10 then (0, 121) else numS (10 * n + dv c) r
def NumS (s : List UInt8) : Int × Int := if s = [] then (0, 120) else if s.all isD = true then numS 0 s else (0, 120)

theorem digit_f (c : Int) : satchelref14_digit.f c = some (decide (48 ≤ c ∧ c ≤ 57)) := by
  unfold satchelref14_digit.f
  by_cases h : c ≥ 48
  · rw [if_pos h]
    by_cases h2 : c ≤ 57
    · rw [decide_eq_true h2, decide_eq_true ⟨h, h2⟩]
    · rw [decide_eq_false h2, decide_eq_false (fun x => h2 x.2)]
  · rw [if_neg h, decide_eq_false (fun x => h x.1)]

theorem step_num {n d : Int} (hn : 0 ≤ n) (hd0 : 0 ≤ d) (hd9 : d ≤ 9) (hle : ¬ n > (9223372036854775807 - d) / 10) : 0 ≤ 10 * n + d ∧ 10 * n + d ≤ 9223372036854775807 ∧ wrap64 (wrap64 (10 * n) + d) = 10 * n + d := by
  have h1 : n ≤ (9223372036854775807 - d) / 10 := by omega
  have h2 : 10 * n + d ≤ 9223372036854775807 := by omega
  have e : wrap64 (10 * n) = 10 * n := w63 (by omega) (by omega)
  rw [e]
  exact ⟨by omega, h2, w63 (by omega) h2⟩

theorem pax_l0 (L : List UInt8) (hl : L.length ≤ 140737488351232) (d : Nat) : ∀ (k q : Nat) (n : Int), q + d = L.length → d + 1 ≤ k → 0 ≤ n → (L.drop q).all isD = true →
    pax_Number.l0 k n (L.map fun b => (b.toNat : Int)) (L.length : Int) (q : Int) = some (numS n (L.drop q)) := by
  induction d with
  | zero =>
    intro k q n hq hk hn hD
    obtain ⟨k, rfl⟩ : ∃ j, k = j + 1 := ⟨k - 1, by omega⟩
    unfold pax_Number.l0
    rw [if_neg (by omega), List.drop_of_length_le (by omega)]
    rfl
  | succ d ih =>
    intro k q n hq hk hn hD
    obtain ⟨k, rfl⟩ : ∃ j, k = j + 1 := ⟨k - 1, by omega⟩
    have hlt : q < L.length := by omega
    rw [drop_at hlt] at hD ⊢
    simp only [List.all_cons, Bool.and_eq_true] at hD
    obtain ⟨hd0, hd9⟩ := dv_of hD.1
    have er : ((rd (L.map fun b => (b.toNat : Int)) (q : Int)) - 48) % 256 = dv L[q] := by
      unfold rd dv
      simp [List.getD, hlt]
    have ew : wrap64 ((q : Int) + 1) = ((q + 1 : Nat) : Int) := by rw [w63 (by omega) (by omega)]; omega
    unfold pax_Number.l0
    rw [if_pos (by omega), if_pos (by omega), if_pos (by simp; omega), er, ew]
    unfold numS
    by_cases hb : n > (9223372036854775807 - dv L[q]) / 10
    · rw [if_pos hb, if_pos hb]
    · obtain ⟨s0, s1, s2⟩ := step_num hn hd0 hd9 hb
      rw [if_neg hb, if_neg hb, s2]
      exact ih k (q + 1) _ (by omega) (by omega) s0 hD.2

theorem digits_f (a : ByteArray) (ha : a.size ≤ 140737488351232) : pax_digits.f a = some (a.data.toList.all isD) := by
  unfold pax_digits.f strings_Trim.f
  rw [if_pos (by omega), if_pos (by decide), if_pos (by decide)]
  simp only [Option.bind_some, Option.some.injEq]
  have hc : ∀ c : UInt8, (([48, 49, 50, 51, 52, 53, 54, 55, 56, 57] : List UInt8).contains c) = isD c := by
    intro c
    have : ∀ n : Fin 256, (([48, 49, 50, 51, 52, 53, 54, 55, 56, 57] : List UInt8).contains (UInt8.ofNat n.val)) = isD (UInt8.ofNat n.val) := by decide +kernel
    simpa using this ⟨c.toNat, c.toNat_lt⟩
  generalize a.data.toList = L
  show ((⟨(Lib.trimS L [48, 49, 50, 51, 52, 53, 54, 55, 56, 57]).toArray⟩ : ByteArray).toList == ([] : List UInt8)) = L.all isD
  rw [Lib.toList_data]
  show (Lib.trimS L [48, 49, 50, 51, 52, 53, 54, 55, 56, 57] == ([] : List UInt8)) = L.all isD
  unfold Lib.trimS Lib.trimLeftS Lib.trimRightS
  simp only [hc]
  by_cases hA : L.all isD = true
  · rw [hA]
    have e1 : L.reverse.dropWhile (fun c => isD c) = [] := by
      rw [dropW_nil]
      intro x hx
      exact List.all_eq_true.1 hA x (List.mem_reverse.1 hx)
    rw [e1]
    rfl
  · have hf : L.all isD = false := by simpa using hA
    rw [hf]
    rw [beq_eq_false_iff_ne]
    intro h0
    apply hA
    rw [dropW_nil] at h0
    have h1 : ∀ x ∈ L.reverse.dropWhile (fun c => isD c), isD x = true := fun x hx => h0 x (List.mem_reverse.2 hx)
    have h2 : L.reverse.dropWhile (fun c => isD c) = [] := by
      cases hh : L.reverse.dropWhile (fun c => isD c) with
      | nil => rfl
      | cons x r =>
        have := List.head?_dropWhile_not (fun c => isD c) L.reverse
        rw [hh] at this
        simp only [List.head?_cons] at this
        have h3 := h1 x (by rw [hh]; exact List.mem_cons_self)
        simp_all
    rw [dropW_nil] at h2
    exact List.all_eq_true.2 fun x hx => h2 x (List.mem_reverse.2 hx)

theorem size_nil {a : ByteArray} : (a.toList = ([] : List UInt8)) ↔ a.data.toList = [] := by rw [Lib.toList_data]

theorem pax_Number_f (a : ByteArray) (ha : a.size ≤ 140737488351232) (k : Nat) (hk : a.size + 3 ≤ k) : pax_Number.f k a = some (NumS a.data.toList) := by
  obtain ⟨k, rfl⟩ : ∃ j, k = j + 1 := ⟨k - 1, by omega⟩
  unfold pax_Number.f NumS
  by_cases h0 : a.toList = ([] : List UInt8)
  · rw [if_pos h0, if_pos (size_nil.1 h0)]
    rw [pax_Number.j0, if_pos rfl]
  · rw [if_neg h0, if_neg (fun x => h0 (size_nil.2 x)), digits_f a ha]
    simp only [Option.bind_some]
    rw [pax_Number.j0]
    cases hD : a.data.toList.all isD with
    | false => rfl
    | true =>
      rw [if_neg (by simp), if_pos rfl, if_pos (by omega)]
      simp only [Option.bind_some]
      have := pax_l0 a.data.toList (by rw [← Lib.size_eq]; exact ha) a.data.toList.length k 0 0 (by omega) (by rw [← Lib.size_eq]; omega) (by omega) (by simpa using hD)
      unfold bytesOf
      rw [List.length_map]
      simpa using this

theorem ref_l1 (a : ByteArray) (ha : a.size ≤ 140737488351232) (hD : a.data.toList.all isD = true) (d : Nat) : ∀ (k q : Nat) (n : Int), q + d = a.data.toList.length → d + 1 ≤ k → 0 ≤ n →
    satchelref14_Number.l1 k a n (q : Int) = some (numS n (a.data.toList.drop q)) := by
  have hsz := Lib.size_eq a
  induction d with
  | zero =>
    intro k q n hq hk hn
    obtain ⟨k, rfl⟩ : ∃ j, k = j + 1 := ⟨k - 1, by omega⟩
    unfold satchelref14_Number.l1
    rw [if_neg (by omega), List.drop_of_length_le (by omega)]
    rfl
  | succ d ih =>
    intro k q n hq hk hn
    obtain ⟨k, rfl⟩ : ∃ j, k = j + 1 := ⟨k - 1, by omega⟩
    have hlt : q < a.data.toList.length := by omega
    have hd := List.all_eq_true.1 hD _ (List.getElem_mem hlt)
    rw [drop_at hlt]
    obtain ⟨hd0, hd9⟩ := dv_of hd
    have er : ((bt a (q : Int)) - 48) % 256 = dv (a.data.toList[q]) := by rw [bt_at a q hlt]; rfl
    have ew : wrap64 ((q : Int) + 1) = ((q + 1 : Nat) : Int) := by rw [w63 (by omega) (by omega)]; omega
    unfold satchelref14_Number.l1
    rw [if_pos (by omega), if_pos (by omega), er, ew]
    unfold numS
    by_cases hb : n > (9223372036854775807 - dv (a.data.toList[q])) / 10
    · rw [if_pos hb, if_pos hb]
    · obtain ⟨s0, s1, s2⟩ := step_num hn hd0 hd9 hb
      rw [if_neg hb, if_neg hb, s2]
      exact ih k (q + 1) _ (by omega) (by omega) s0

theorem ref_l0 (a : ByteArray) (ha : a.size ≤ 140737488351232) (d : Nat) : ∀ (k q : Nat), q + d = a.data.toList.length → d + a.size + 3 ≤ k → (a.data.toList.take q).all isD = true →
    satchelref14_Number.l0 k a (q : Int) = some (NumS a.data.toList) := by
  have hsz := Lib.size_eq a
  induction d with
  | zero =>
    intro k q hq hk hD
    obtain ⟨k, rfl⟩ : ∃ j, k = j + 1 := ⟨k - 1, by omega⟩
    rw [List.take_of_length_le (by omega)] at hD
    unfold satchelref14_Number.l0 NumS
    rw [if_neg (by omega)]
    by_cases h0 : a.toList = ([] : List UInt8)
    · rw [if_pos h0, if_pos (size_nil.1 h0)]
    · rw [if_neg h0, if_neg (fun x => h0 (size_nil.2 x)), if_pos hD]
      have := ref_l1 a ha hD a.data.toList.length k 0 0 (by omega) (by omega) (by omega)
      simpa using this
  | succ d ih =>
    intro k q hq hk hD
    obtain ⟨k, rfl⟩ : ∃ j, k = j + 1 := ⟨k - 1, by omega⟩
    have hlt : q < a.data.toList.length := by omega
    have ew : wrap64 ((q : Int) + 1) = ((q + 1 : Nat) : Int) := by rw [w63 (by omega) (by omega)]; omega
    have hne : a.data.toList ≠ [] := by intro h; rw [h] at hlt; simp at hlt
    unfold satchelref14_Number.l0
    rw [if_pos (by omega), if_pos (by omega), digit_f, bt_at a q hlt, ew]
    simp only [Option.bind_some]
    by_cases hd : isD (a.data.toList[q]) = true
    · rw [if_pos (by exact hd)]
      refine ih k (q + 1) (by omega) (by omega) ?_
      rw [List.take_succ_eq_append_getElem hlt, List.all_append, hD]
      simp only [List.all_cons, List.all_nil, Bool.and_true, Bool.true_and]
      exact hd
    · rw [if_neg (by exact hd)]
      unfold NumS
      rw [if_neg hne, if_neg]
      intro hA
      exact hd (List.all_eq_true.1 hA _ (List.getElem_mem hlt))

theorem ref_Number_f (a : ByteArray) (ha : a.size ≤ 140737488351232) (k : Nat) (hk : 2 * a.size + 3 ≤ k) : satchelref14_Number.f k a = some (NumS a.data.toList) := by
  have := ref_l0 a ha a.data.toList.length k 0 (by omega) (by rw [← Lib.size_eq]; omega) (by simp)
  unfold satchelref14_Number.f
  simpa using this
end Go.Proofs.YtohgoaiimhhckaaDoor.NumBridge

/- Times of pax: what pax.Time and the document's Time compute is one function of the text's bytes. -/
namespace Go.Proofs.YtohgoaiimhhckaaDoor.TimeBridge
open Go.RowKit Go.Proofs.YtohgoaiimhhckaaDoor.PPaxNumbers Go.Proofs.YtohgoaiimhhckaaDoorW.PrintWords Go.Proofs.YtohgoaiimhhckaaDoorW.PrintLast Go.Proofs.YtohgoaiimhhckaaDoorW.PrintMore Go.Proofs.YtohgoaiimhhckaaDoor.NumBridge
set_option linter.unusedVariables false

def mk (l : List UInt8) : ByteArray := ⟨l.toArray⟩
theorem mk_of (a : ByteArray) : a = mk a.data.toList := (Lib.mk_data a).symm
theorem mk_l (l : List UInt8) : (mk l).data.toList = l := rfl
theorem mk_toList (l : List UInt8) : (mk l).toList = l := Lib.toList_data _
theorem mk_size (l : List UInt8) : (mk l).size = l.length := Lib.size_eq _
theorem mk_inj {a b : ByteArray} (h : a.data.toList = b.data.toList) : a = b := by rw [mk_of a, mk_of b, h]
theorem mk_extract (l : List UInt8) (i j : Nat) : (mk l).extract i j = mk ((l.take j).drop i) := by
  apply mk_inj
  rw [mk_l, ByteArray.data_extract, Array.toList_extract]
  show List.extract l i j = _
  simp [List.extract, List.drop_take]
theorem mk_cut (l : List UInt8) (i : Nat) : (mk l).extract i (mk l).size = mk (l.drop i) := by rw [mk_extract, mk_size, List.take_length]
theorem mk_cut' (l : List UInt8) (i : Nat) : (mk l).extract i l.length = mk (l.drop i) := by rw [mk_extract, List.take_length]
theorem mk_pre (l : List UInt8) (j : Nat) : (mk l).extract 0 j = mk (l.take j) := by rw [mk_extract, List.drop_zero]
theorem bt_mk (l : List UInt8) (q : Nat) (h : q < l.length) : bt (mk l) (q : Int) = (l[q].toNat : Int) := bt_at (mk l) q h

def neg (l : List UInt8) : Bool := l.head? == some 45
def restL (l : List UInt8) : List UInt8 := if neg l = true then l.drop 1 else l
theorem prefix_f (l : List UInt8) : strings_CutPrefix.f (mk l) ⟨#[45]⟩ = some (mk (restL l), neg l) := by
  unfold strings_CutPrefix.f stringslite_CutPrefix.f stringslite_HasPrefix.f
  have e1 : ((⟨#[45]⟩ : ByteArray).size : Int) = 1 := rfl
  have e2 : (⟨#[45]⟩ : ByteArray).toList = [45] := Lib.toList_data _
  rw [e1, e2, mk_size]
  cases l with
  | nil => rfl
  | cons c r =>
    rw [if_pos (by simp; omega), if_pos (by omega), if_pos (by simp; omega)]
    simp only [Option.bind_some]
    rw [show ((1 : Int).toNat) = 1 from rfl, mk_pre, mk_toList]
    have e3 : ((List.take 1 (c :: r)) == ([45] : List UInt8)) = neg (c :: r) := by
      unfold neg
      simp
    rw [e3]
    unfold restL
    cases h : neg (c :: r) with
    | false => simp
    | true =>
      rw [if_pos rfl, if_pos (by omega), if_pos (by simp; omega)]
      simp only [Option.bind_some, if_true]
      rw [mk_cut']

def wholeL (l : List UInt8) : List UInt8 := l.takeWhile (· != 46)
def partL (l : List UInt8) : List UInt8 := (l.dropWhile (· != 46)).drop 1
theorem idx_split : ∀ (l : List UInt8), (Lib.indexByte l 46 = -1 ∧ wholeL l = l ∧ partL l = []) ∨ ∃ o : Nat, o < l.length ∧ Lib.indexByte l 46 = o ∧ wholeL l = l.take o ∧ partL l = l.drop (o + 1)
  | [] => .inl ⟨rfl, rfl, rfl⟩
  | c :: r => by
    unfold Lib.indexByte
    by_cases h : c = 46
    · subst h
      exact .inr ⟨0, by simp, by simp, rfl, rfl⟩
    · have hb : (c == 46) = false := by simpa using h
      have e1 : wholeL (c :: r) = c :: wholeL r := by unfold wholeL; simp [h]
      have e2 : partL (c :: r) = partL r := by unfold partL; simp [h]
      rw [e1, e2]
      rcases idx_split r with ⟨a1, a2, a3⟩ | ⟨o, a0, a1, a2, a3⟩
      · left
        rw [a1, a2, a3]
        simp [h]
      · right
        refine ⟨o + 1, by simpa using a0, ?_, ?_, ?_⟩
        · rw [a1]; simp [h]
        · rw [a2]; rfl
        · rw [a3]; rfl
theorem cut_f (l : List UInt8) (hl : l.length ≤ 140737488351232) : ∃ b, strings_Cut.f (mk l) ⟨#[46]⟩ = some (mk (wholeL l), mk (partL l), b) := by
  unfold strings_Cut.f stringslite_Cut.f stringslite_Index.f
  have e1 : ((⟨#[46]⟩ : ByteArray).size : Int) = 1 := rfl
  rw [e1, mk_size]
  show ∃ b, ((Option.bind (some (Lib.indexByte (mk l).data.toList 46)) _).bind _) = _
  rw [mk_l]
  simp only [Option.bind_some]
  rcases idx_split l with ⟨a1, a2, a3⟩ | ⟨o, a0, a1, a2, a3⟩
  · rw [a1, a2, a3, if_neg (by decide)]
    exact ⟨false, rfl⟩
  · have ew : wrap64 ((o : Int) + 1) = ((o + 1 : Nat) : Int) := by rw [w63 (by omega) (by omega)]; omega
    rw [a1, a2, a3, ew, if_pos (by omega), if_pos (by omega), if_pos (by omega), if_pos (by omega), if_pos (by omega)]
    simp only [Option.bind_some, Int.toNat_natCast, mk_pre, mk_cut']
    exact ⟨true, rfl⟩

def nanoS : Nat → Int → List UInt8 → Int
  | 0, v, _ => v
  | j + 1, v, [] => nanoS j (10 * v) []
  | j + 1, v, c :: r => nanoS j (10 * v + dv c) r
def outS (b : Bool) (n v : Int) : Int × Int × Int := if b = true then (if v > 0 then (-n - 1, 1000000000 - v, 0) else (-n, 0, 0)) else (n, v, 0)
def TimeS (l : List UInt8) : Int × Int × Int :=
  if (partL (restL l)).all isD = true then (if (NumS (wholeL (restL l))).2 = 0 then outS (neg l) (NumS (wholeL (restL l))).1 (nanoS 9 0 (partL (restL l))) else (0, 0, (NumS (wholeL (restL l))).2)) else (0, 0, 120)

/-- The nanoseconds as they grow: below 10^i, i digits read. -/
theorem grow_nano {i : Nat} {v d : Int} (hi : i < 9) (hv0 : 0 ≤ v) (hv : v < 10 ^ i) (hd0 : 0 ≤ d) (hd9 : d ≤ 9) : 0 ≤ 10 * v + d ∧ 10 * v + d < 10 ^ (i + 1) ∧ 10 * v + d < 1000000000 := by
  have h1 : 10 * v + d < 10 ^ (i + 1) := by
    have e : (10 : Int) ^ (i + 1) = 10 * 10 ^ i := by rw [Int.pow_succ, Int.mul_comm]
    rw [e]
    generalize (10 : Int) ^ i = p at hv
    omega
  have h2 : (10 : Int) ^ (i + 1) ≤ 10 ^ 9 := by
    have : ∀ j : Fin 9, (10 : Int) ^ (j.val + 1) ≤ 10 ^ 9 := by decide
    exact this ⟨i, hi⟩
  have h3 : (10 : Int) ^ 9 = 1000000000 := by decide
  exact ⟨by omega, h1, by omega⟩
theorem nano_bound : ∀ (j i : Nat) (v : Int) (l : List UInt8), i + j = 9 → 0 ≤ v → v < 10 ^ i → l.all isD = true → 0 ≤ nanoS j v l ∧ nanoS j v l < 1000000000
  | 0, i, v, l, hi, h0, h1, hD => by
    have : i = 9 := by omega
    subst this
    unfold nanoS
    exact ⟨h0, by simpa using h1⟩
  | j + 1, i, v, [], hi, h0, h1, hD => by
    obtain ⟨g0, g1, g2⟩ := grow_nano (d := 0) (by omega) h0 h1 (by omega) (by omega)
    unfold nanoS
    rw [Int.add_zero] at g0 g1
    exact nano_bound j (i + 1) _ [] (by omega) g0 g1 rfl
  | j + 1, i, v, c :: r, hi, h0, h1, hD => by
    simp only [List.all_cons, Bool.and_eq_true] at hD
    obtain ⟨d0, d9⟩ := dv_of hD.1
    obtain ⟨g0, g1, g2⟩ := grow_nano (by omega) h0 h1 d0 d9
    unfold nanoS
    exact nano_bound j (i + 1) _ r (by omega) g0 g1 hD.2

theorem w32 {x : Int} (h0 : -2147483648 ≤ x) (h1 : x ≤ 2147483647) : wrap32 x = x := by unfold wrap32; omega

theorem time_end (k : Nat) (b : Bool) (n v : Int) (hn0 : 0 ≤ n) (hn1 : n ≤ 9223372036854775807) (hv0 : 0 ≤ v) (hv1 : v < 1000000000) :
    (if b = true then pax_Time.j1 (k + 1) b n v (decide (v > 0)) else pax_Time.j1 (k + 1) b n v false) = some (outS b n v) := by
  have e1 : wrap64 (-n) = -n := w63 (by omega) (by omega)
  have e2 : wrap64 (-n - 1) = -n - 1 := w63 (by omega) (by omega)
  have e3 : wrap64 (1000000000 - v) = 1000000000 - v := w63 (by omega) (by omega)
  have e4 : wrap32 (1000000000 - v) = 1000000000 - v := w32 (by omega) (by omega)
  have e5 : wrap32 v = v := w32 (by omega) (by omega)
  simp only [pax_Time.j1, e1, e2, e3, e4, e5]
  unfold outS
  cases b with
  | false => simp
  | true =>
    by_cases hv : v > 0
    · simp [hv]
    · simp [hv]

theorem pax_time_l0 (P : List UInt8) (hP : P.all isD = true) (hl : P.length ≤ 140737488351232) (b : Bool) (n : Int) (hn0 : 0 ≤ n) (hn1 : n ≤ 9223372036854775807) (d : Nat) : ∀ (k q : Nat) (v : Int), q + d = 9 → d + 2 ≤ k → 0 ≤ v → v < 10 ^ q →
    pax_Time.l0 k b (mk P) n v (q : Int) = some (outS b n (nanoS d v (P.drop q))) := by
  induction d with
  | zero =>
    intro k q v hq hk hv0 hv1
    obtain ⟨k, rfl⟩ : ∃ j, k = j + 2 := ⟨k - 2, by omega⟩
    have : q = 9 := by omega
    subst this
    rw [pax_Time.l0, if_neg (by omega)]
    exact time_end k b n v hn0 hn1 hv0 (by simpa using hv1)
  | succ d ih =>
    intro k q v hq hk hv0 hv1
    obtain ⟨k, rfl⟩ : ∃ j, k = j + 1 := ⟨k - 1, by omega⟩
    have ew : wrap64 ((q : Int) + 1) = ((q + 1 : Nat) : Int) := by rw [w63 (by omega) (by omega)]; omega
    rw [pax_Time.l0, if_pos (by omega), mk_size, ew]
    by_cases h : q < P.length
    · have hd := List.all_eq_true.1 hP _ (List.getElem_mem h)
      obtain ⟨d0, d9⟩ := dv_of hd
      obtain ⟨g0, g1, g2⟩ := grow_nano (by omega) hv0 hv1 d0 d9
      have e0 : v * 10 = 10 * v := Int.mul_comm _ _
      have e1 : wrap64 (10 * v) = 10 * v := w63 (by omega) (by omega)
      have e2 : wrap64 (10 * v + dv P[q]) = 10 * v + dv P[q] := w63 (by omega) (by omega)
      have er : ((bt (mk P) (q : Int)) - 48) % 256 = dv P[q] := by rw [bt_mk P q h]; rfl
      rw [if_pos (by omega), if_pos (by omega), er, e0, e1, e2, drop_at h]
      exact ih k (q + 1) _ (by omega) (by omega) g0 g1
    · obtain ⟨g0, g1, g2⟩ := grow_nano (d := 0) (by omega) hv0 hv1 (by omega) (by omega)
      have e0 : v * 10 = 10 * v := Int.mul_comm _ _
      have e1 : wrap64 (10 * v) = 10 * v := w63 (by omega) (by omega)
      rw [if_neg (by omega), e0, e1, List.drop_of_length_le (by omega)]
      rw [Int.add_zero] at g0 g1
      have := ih k (q + 1) (10 * v) (by omega) (by omega) g0 g1
      rw [List.drop_of_length_le (by omega)] at this
      exact this

theorem num_bound : ∀ (l : List UInt8) (n : Int), 0 ≤ n → n ≤ 9223372036854775807 → l.all isD = true → 0 ≤ (numS n l).1 ∧ (numS n l).1 ≤ 9223372036854775807
  | [], n, h0, h1, _ => ⟨h0, h1⟩
  | c :: r, n, h0, h1, hD => by
    simp only [List.all_cons, Bool.and_eq_true] at hD
    obtain ⟨d0, d9⟩ := dv_of hD.1
    unfold numS
    by_cases hb : n > (9223372036854775807 - dv c) / 10
    · rw [if_pos hb]; simp
    · obtain ⟨s0, s1, _⟩ := step_num h0 d0 d9 hb
      rw [if_neg hb]
      exact num_bound r _ s0 s1 hD.2
theorem Num_bound (l : List UInt8) : 0 ≤ (NumS l).1 ∧ (NumS l).1 ≤ 9223372036854775807 := by
  unfold NumS
  by_cases h : l = []
  · rw [if_pos h]; simp
  · rw [if_neg h]
    by_cases hD : l.all isD = true
    · rw [if_pos hD]
      exact num_bound l 0 (by omega) (by omega) hD
    · rw [if_neg hD]; simp
theorem rest_le (l : List UInt8) : (restL l).length ≤ l.length := by
  unfold restL
  split <;> simp
theorem whole_le (l : List UInt8) : (wholeL l).length ≤ l.length := (List.takeWhile_prefix _).length_le
theorem part_le (l : List UInt8) : (partL l).length ≤ l.length := by
  unfold partL
  rw [List.length_drop]
  have := (List.dropWhile_suffix (· != 46) (l := l)).length_le
  omega

theorem pax_Time_f (l : List UInt8) (hl : l.length ≤ 140737488351232) (k : Nat) (hk : l.length + 12 ≤ k) : pax_Time.f k (mk l) = some (TimeS l) := by
  have h1 := rest_le l
  have h2 := whole_le (restL l)
  have h3 := part_le (restL l)
  obtain ⟨b, hc⟩ := cut_f (restL l) (by omega)
  unfold pax_Time.f TimeS
  rw [prefix_f]
  simp only [Option.bind_some]
  rw [hc]
  simp only [Option.bind_some]
  rw [digits_f _ (by rw [mk_size]; omega)]
  simp only [Option.bind_some, mk_l]
  by_cases hD : (partL (restL l)).all isD = true
  · rw [if_pos hD, if_pos hD, pax_Number_f _ (by rw [mk_size]; omega) k (by rw [mk_size]; omega)]
    simp only [Option.bind_some, mk_l]
    by_cases he : (NumS (wholeL (restL l))).2 = 0
    · rw [if_pos he, if_pos he]
      obtain ⟨b0, b1⟩ := Num_bound (wholeL (restL l))
      have := pax_time_l0 (partL (restL l)) hD (by omega) (neg l) _ b0 b1 9 k 0 0 (by omega) (by omega) (by omega) (by decide)
      simpa using this
    · rw [if_neg he, if_neg he]
  · rw [if_neg hD, if_neg hD]
end Go.Proofs.YtohgoaiimhhckaaDoor.TimeBridge

/- The document's Time of pax: the same function of the text's bytes as pax.Time's. -/
namespace Go.Proofs.YtohgoaiimhhckaaDoor.TimeRef
open Go.RowKit Go.Proofs.YtohgoaiimhhckaaDoor.PPaxNumbers Go.Proofs.YtohgoaiimhhckaaDoorW.PrintWords Go.Proofs.YtohgoaiimhhckaaDoorW.PrintLast Go.Proofs.YtohgoaiimhhckaaDoorW.PrintMore Go.Proofs.YtohgoaiimhhckaaDoor.NumBridge Go.Proofs.YtohgoaiimhhckaaDoor.TimeBridge
set_option linter.unusedVariables false

def dz (c : UInt8) : Int := if isD c = true then dv c else 0
theorem dz_of (c : UInt8) : 0 ≤ dz c ∧ dz c ≤ 9 := by
  unfold dz
  split
  · rename_i h; exact dv_of h
  · omega
def nanoR : Nat → Int → List UInt8 → Int
  | 0, v, _ => v
  | j + 1, v, [] => nanoR j (10 * v) []
  | j + 1, v, c :: r => nanoR j (10 * v + dz c) r
theorem nanoR_eq : ∀ (j : Nat) (v : Int) (l : List UInt8), l.all isD = true → nanoR j v l = nanoS j v l
  | 0, v, l, _ => by simp [nanoR, nanoS]
  | j + 1, v, [], _ => by simp only [nanoR, nanoS]; exact nanoR_eq j _ [] rfl
  | j + 1, v, c :: r, h => by
    simp only [List.all_cons, Bool.and_eq_true] at h
    simp only [nanoR, nanoS]
    unfold dz
    rw [if_pos h.1]
    exact nanoR_eq j _ r h.2

def endS (b : Bool) (W : List UInt8) (v : Int) : Int × Int × Int := if (NumS W).2 = 0 then outS b (NumS W).1 v else (0, 0, (NumS W).2)
theorem ref_end (k : Nat) (b : Bool) (n v : Int) (hn0 : 0 ≤ n) (hn1 : n ≤ 9223372036854775807) (hv0 : 0 ≤ v) (hv1 : v < 1000000000) :
    (if b = true then satchelref14_Time.j7 (k + 1) b v n (decide (v > 0)) else satchelref14_Time.j7 (k + 1) b v n false) = some (outS b n v) := by
  have e1 : wrap64 (-n) = -n := w63 (by omega) (by omega)
  have e2 : wrap64 (-n - 1) = -n - 1 := w63 (by omega) (by omega)
  have e4 : wrap32 (1000000000 - v) = 1000000000 - v := w32 (by omega) (by omega)
  simp only [satchelref14_Time.j7, e1, e2, e4]
  unfold outS
  cases b with
  | false => simp
  | true =>
    by_cases hv : v > 0
    · simp [hv]
    · simp [hv]

theorem ref_l2 (W R : List UInt8) (hW : W.length ≤ 140737488351232) (hR : R.length ≤ 140737488351232) (b : Bool) (v : Int) (hv0 : 0 ≤ v) (hv1 : v < 1000000000) (d : Nat) : ∀ (k q : Nat), 1 ≤ q → R.length ≤ q + d → d + 2 * W.length + 6 ≤ k →
    satchelref14_Time.l2 k b (mk W) (mk R) v (q : Int) = some (if (R.drop q).all isD = true then endS b W v else (0, 0, 120)) := by
  induction d with
  | zero =>
    intro k q h1 hq hk
    obtain ⟨k, rfl⟩ : ∃ j, k = j + 2 := ⟨k - 2, by omega⟩
    rw [satchelref14_Time.l2, if_neg (by rw [mk_size]; omega), List.drop_of_length_le (by omega), ref_Number_f _ (by rw [mk_size]; omega) _ (by rw [mk_size]; omega)]
    simp only [Option.bind_some, mk_l, List.all_nil, if_true]
    unfold endS
    by_cases he : (NumS W).2 = 0
    · obtain ⟨b0, b1⟩ := Num_bound W
      rw [if_pos he, if_pos he]
      exact ref_end k b _ v b0 b1 hv0 hv1
    · rw [if_neg he, if_neg he]
  | succ d ih =>
    intro k q h1 hq hk
    by_cases hlt : q < R.length
    · obtain ⟨k, rfl⟩ : ∃ j, k = j + 1 := ⟨k - 1, by omega⟩
      have ew : wrap64 ((q : Int) + 1) = ((q + 1 : Nat) : Int) := by rw [w63 (by omega) (by omega)]; omega
      rw [satchelref14_Time.l2, if_pos (by rw [mk_size]; omega), if_pos (by omega), digit_f, bt_mk R q hlt, ew]
      simp only [Option.bind_some]
      by_cases hd : isD (R[q]) = true
      · have hall : (R.drop q).all isD = (R.drop (q + 1)).all isD := by rw [drop_at hlt, List.all_cons, hd, Bool.true_and]
        rw [if_pos (by exact hd), hall]
        exact ih k (q + 1) (by omega) (by omega) (by omega)
      · have hd' : isD (R[q]) = false := by simpa using hd
        have hall : (R.drop q).all isD = false := by rw [drop_at hlt, List.all_cons, hd', Bool.false_and]
        rw [if_neg (by exact hd), hall]
        rfl
    · exact ih k q h1 (by omega) (by omega)

theorem ref_l1 (W R : List UInt8) (hW : W.length ≤ 140737488351232) (hR : R.length ≤ 140737488351232) (b : Bool) (d : Nat) : ∀ (k q : Nat) (v : Int), q + d = 10 → 1 ≤ q → d + R.length + 2 * W.length + 8 ≤ k → 0 ≤ v → v < 10 ^ (q - 1) →
    satchelref14_Time.l1 k b (mk W) (mk R) v (q : Int) = some (if (R.drop 1).all isD = true then endS b W (nanoR d v (R.drop q)) else (0, 0, 120)) := by
  induction d with
  | zero =>
    intro k q v hq h1 hk hv0 hv1
    obtain ⟨k, rfl⟩ : ∃ j, k = j + 1 := ⟨k - 1, by omega⟩
    have : q = 10 := by omega
    subst this
    rw [satchelref14_Time.l1, if_neg (by omega)]
    have h10 : v < 1000000000 := by simpa using hv1
    exact ref_l2 W R hW hR b v hv0 h10 R.length k 1 (by omega) (by omega) (by omega)
  | succ d ih =>
    intro k q v hq h1 hk hv0 hv1
    obtain ⟨k, rfl⟩ : ∃ j, k = j + 1 := ⟨k - 1, by omega⟩
    have ew : wrap64 ((q : Int) + 1) = ((q + 1 : Nat) : Int) := by rw [w63 (by omega) (by omega)]; omega
    have eq1 : q - 1 + 1 = q := by omega
    have z := grow_nano (d := 0) (i := q - 1) (by omega) hv0 hv1 (by omega) (by omega)
    rw [eq1, Int.add_zero] at z
    obtain ⟨z0, z1, z2⟩ := z
    have e1 : wrap32 (10 * v) = 10 * v := w32 (by omega) (by omega)
    have e1' : wrap32 (10 * v + 0) = 10 * v := by rw [Int.add_zero]; exact e1
    rw [satchelref14_Time.l1, if_pos (by omega), mk_size, ew, e1, e1']
    by_cases h : q < R.length
    · obtain ⟨d0, d9⟩ := dz_of (R[q])
      have y := grow_nano (i := q - 1) (by omega) hv0 hv1 d0 d9
      rw [eq1] at y
      obtain ⟨g0, g1, g2⟩ := y
      rw [if_pos (by omega), if_pos (by omega), digit_f, bt_mk R q h, drop_at h]
      simp only [Option.bind_some]
      have key := ih k (q + 1) (10 * v + dz (R[q])) (by omega) (by omega) (by omega) g0 (by rw [Nat.add_sub_cancel]; exact g1)
      by_cases hd : isD (R[q]) = true
      · have ed : dz (R[q]) = dv (R[q]) := by unfold dz; rw [if_pos hd]
        rw [if_pos (by exact hd)]
        rw [ed] at key g0 g2
        have e2 : wrap32 (10 * v + dv (R[q])) = 10 * v + dv (R[q]) := w32 (by omega) (by omega)
        have er : ((R[q].toNat : Int) - 48) % 256 = dv (R[q]) := rfl
        rw [er, e2]
        show _ = some (if _ then endS b W (nanoR d (10 * v + dz (R[q])) (R.drop (q + 1))) else _)
        rw [ed]
        exact key
      · have ed : dz (R[q]) = 0 := by unfold dz; rw [if_neg hd]
        rw [if_neg (by exact hd)]
        show _ = some (if _ then endS b W (nanoR d (10 * v + dz (R[q])) (R.drop (q + 1))) else _)
        rw [ed, Int.add_zero]
        rw [ed, Int.add_zero] at key
        exact key
    · have hdq : R.drop q = [] := List.drop_of_length_le (by omega)
      have hdq1 : R.drop (q + 1) = [] := List.drop_of_length_le (by omega)
      rw [if_neg (by omega), hdq]
      have key := ih k (q + 1) (10 * v) (by omega) (by omega) (by omega) z0 (by rw [Nat.add_sub_cancel]; exact z1)
      rw [hdq1] at key
      exact key

/-- What the document says, of what stands behind the sign. -/
def refS (b : Bool) (W R : List UInt8) : Int × Int × Int :=
  if R = [] ∨ R.head? = some 46 then (if (R.drop 1).all isD = true then endS b W (nanoR 9 0 (R.drop 1)) else (0, 0, 120)) else (0, 0, 120)

theorem ref_j3 (M : List UInt8) (hM : M.length ≤ 140737488351232) (b : Bool) (k q : Nat) (hq : q ≤ M.length) (hk : 3 * M.length + 30 ≤ k) :
    satchelref14_Time.j3 k (mk M) b (q : Int) = some (refS b (M.take q) (M.drop q)) := by
  obtain ⟨k, rfl⟩ : ∃ j, k = j + 2 := ⟨k - 2, by omega⟩
  have hl1 : (M.take q).length ≤ M.length := by simp; omega
  have hl2 : (M.drop q).length ≤ M.length := by simp
  have key := ref_l1 (M.take q) (M.drop q) (by omega) (by omega) b 9 k 1 0 (by omega) (by omega) (by omega) (by omega) (by decide)
  rw [satchelref14_Time.j3, if_pos (by omega), mk_size, if_pos (by omega), Int.toNat_natCast, mk_cut', mk_pre, mk_toList, mk_size]
  unfold refS
  cases hR : M.drop q with
  | nil =>
    rw [hR] at key
    rw [if_pos rfl, satchelref14_Time.j4, if_neg (by simp), if_pos (.inl rfl)]
    exact key
  | cons c r =>
    rw [hR] at key
    rw [if_neg (by simp), if_pos (by first | (simp; done) | (simp; omega)), satchelref14_Time.j4]
    have e0 : bt (mk (c :: r)) 0 = (c.toNat : Int) := bt_mk (c :: r) 0 (by simp)
    rw [e0]
    by_cases hc : c = 46
    · subst hc
      rw [if_neg (by simp), if_pos (.inr rfl)]
      exact key
    · have hne : ¬ ((c.toNat : Int) = 46) := by
        intro h
        apply hc
        have : c.toNat = (46 : UInt8).toNat := by simpa using (by omega : c.toNat = 46)
        exact UInt8.toNat_inj.1 this
      rw [if_pos (by simpa using hne), if_neg (by simp [hc])]

theorem ref_l0 (M : List UInt8) (hM : M.length ≤ 140737488351232) (b : Bool) (d : Nat) : ∀ (k q : Nat), q + d = M.length → d + 3 * M.length + 31 ≤ k →
    satchelref14_Time.l0 k (mk M) b (q : Int) = some (refS b (M.take q ++ (M.drop q).takeWhile isD) ((M.drop q).dropWhile isD)) := by
  induction d with
  | zero =>
    intro k q hq hk
    obtain ⟨k, rfl⟩ : ∃ j, k = j + 1 := ⟨k - 1, by omega⟩
    rw [satchelref14_Time.l0, if_neg (by rw [mk_size]; omega), ref_j3 M hM b k q (by omega) (by omega), List.drop_of_length_le (by omega)]
    simp
  | succ d ih =>
    intro k q hq hk
    obtain ⟨k, rfl⟩ : ∃ j, k = j + 1 := ⟨k - 1, by omega⟩
    have hlt : q < M.length := by omega
    have ew : wrap64 ((q : Int) + 1) = ((q + 1 : Nat) : Int) := by rw [w63 (by omega) (by omega)]; omega
    rw [satchelref14_Time.l0, if_pos (by rw [mk_size]; omega), if_pos (by omega), digit_f, bt_mk M q hlt, ew]
    simp only [Option.bind_some]
    by_cases hd : isD (M[q]) = true
    · rw [if_pos (by exact hd), ih k (q + 1) (by omega) (by omega), drop_at hlt, List.takeWhile_cons, List.dropWhile_cons, if_pos hd, if_pos hd, List.take_succ_eq_append_getElem hlt, List.append_assoc]
      rfl
    · rw [if_neg (by exact hd), ref_j3 M hM b k q (by omega) (by omega), drop_at hlt, List.takeWhile_cons, List.dropWhile_cons, if_neg hd, if_neg hd]
      simp

theorem ref_Time_f (l : List UInt8) (hl : l.length ≤ 140737488351232) (k : Nat) (hk : 4 * l.length + 40 ≤ k) :
    satchelref14_Time.f k (mk l) = some (refS (neg l) ((restL l).takeWhile isD) ((restL l).dropWhile isD)) := by
  obtain ⟨k, rfl⟩ : ∃ j, k = j + 2 := ⟨k - 2, by omega⟩
  have h1 := rest_le l
  have key := ref_l0 (restL l) (by omega) (neg l) (restL l).length k 0 (by omega) (by omega)
  simp only [List.take_zero, List.nil_append, List.drop_zero] at key
  unfold satchelref14_Time.f
  rw [mk_size]
  cases l with
  | nil =>
    rw [if_neg (by simp), satchelref14_Time.j0, if_neg (by simp), satchelref14_Time.j1]
    exact key
  | cons c r =>
    rw [if_pos (by first | (simp; done) | (simp; omega)), if_pos (by first | (simp; done) | (simp; omega)), satchelref14_Time.j0]
    have e0 : bt (mk (c :: r)) 0 = (c.toNat : Int) := bt_mk (c :: r) 0 (by simp)
    have e1 : (((c.toNat : Int)) == 45) = neg (c :: r) := by
      unfold neg
      by_cases hc : c = 45
      · subst hc; rfl
      · have hne : ¬ ((c.toNat : Int) = 45) := by
          intro h
          apply hc
          have : c.toNat = (45 : UInt8).toNat := by simpa using (by omega : c.toNat = 45)
          exact UInt8.toNat_inj.1 this
        rw [beq_eq_false_iff_ne.2 hne]
        symm
        rw [beq_eq_false_iff_ne]
        simp [hc]
    rw [e0, e1]
    unfold restL at key ⊢
    cases hn : neg (c :: r) with
    | true =>
      rw [hn] at key
      rw [if_pos rfl, if_pos (by rw [mk_size]; first | (simp; done) | (simp; omega)), mk_cut, satchelref14_Time.j1]
      exact key
    | false =>
      rw [hn] at key
      rw [if_neg (by simp), satchelref14_Time.j1]
      exact key

theorem takeWhile_all (p : UInt8 → Bool) : ∀ (l : List UInt8), (l.takeWhile p).all p = true
  | [] => rfl
  | c :: r => by
    rw [List.takeWhile_cons]
    by_cases h : p c = true
    · rw [if_pos h, List.all_cons, h, Bool.true_and]; exact takeWhile_all p r
    · rw [if_neg h]; rfl
/-- the digits ahead, and what is behind them: where there is no point among them -/
theorem split_pt : ∀ (M : List UInt8), (M.dropWhile isD = [] → wholeL M = M ∧ partL M = [] ∧ M.takeWhile isD = M) ∧
    (∀ r, M.dropWhile isD = 46 :: r → wholeL M = M.takeWhile isD ∧ partL M = r) ∧
    (∀ c r, M.dropWhile isD = c :: r → c ≠ 46 → (wholeL M).all isD = false)
  | [] => ⟨fun _ => ⟨rfl, rfl, rfl⟩, fun r h => (by cases h), fun c r h => (by cases h)⟩
  | x :: M => by
    obtain ⟨a1, a2, a3⟩ := split_pt M
    by_cases hx : isD x = true
    · have hne : x ≠ 46 := by intro h; subst h; revert hx; decide
      have e1 : wholeL (x :: M) = x :: wholeL M := by unfold wholeL; simp [hne]
      have e2 : partL (x :: M) = partL M := by unfold partL; simp [hne]
      rw [e1, e2, List.dropWhile_cons, List.takeWhile_cons, if_pos hx, if_pos hx]
      refine ⟨fun h => ?_, fun r h => ?_, fun c r h hc => ?_⟩
      · obtain ⟨b1, b2, b3⟩ := a1 h
        exact ⟨by rw [b1], b2, by rw [b3]⟩
      · obtain ⟨b1, b2⟩ := a2 r h
        exact ⟨by rw [b1], b2⟩
      · rw [List.all_cons, a3 c r h hc, Bool.and_false]
    · rw [List.dropWhile_cons, List.takeWhile_cons, if_neg hx, if_neg hx]
      refine ⟨fun h => (by cases h), fun r h => ?_, fun c r h hc => ?_⟩
      · cases h
        exact ⟨rfl, rfl⟩
      · cases h
        have e1 : wholeL (x :: M) = x :: wholeL M := by unfold wholeL; simp [hc]
        have hf : isD x = false := by simpa using hx
        rw [e1, List.all_cons, hf, Bool.false_and]

theorem refS_eq (l : List UInt8) : refS (neg l) ((restL l).takeWhile isD) ((restL l).dropWhile isD) = TimeS l := by
  unfold TimeS
  generalize restL l = M
  generalize neg l = b
  obtain ⟨a1, a2, a3⟩ := split_pt M
  unfold refS
  cases hR : M.dropWhile isD with
  | nil =>
    obtain ⟨b1, b2, b3⟩ := a1 hR
    rw [if_pos (.inl rfl), b1, b2, b3]
    simp only [List.drop_nil, List.all_nil, if_true]
    rw [nanoR_eq 9 0 [] rfl]
    rfl
  | cons c r =>
    by_cases hc : c = 46
    · subst hc
      obtain ⟨b1, b2⟩ := a2 r hR
      rw [if_pos (.inr rfl), b1, b2, List.drop_one, List.tail_cons]
      by_cases hD : r.all isD = true
      · rw [if_pos hD, if_pos hD, nanoR_eq 9 0 r hD]
        rfl
      · rw [if_neg hD, if_neg hD]
    · have hW := a3 c r hR hc
      rw [if_neg (by simp [hc])]
      have hN : NumS (wholeL M) = (0, 120) := by
        unfold NumS
        by_cases h0 : wholeL M = []
        · rw [if_pos h0]
        · rw [if_neg h0, hW]; rfl
      rw [hN]
      split
      · rfl
      · rfl

theorem Time_same (a : ByteArray) (ha : a.size ≤ 140737488351232) (k : Nat) (hk : 4 * a.size + 40 ≤ k) :
    pax_Time.f k a = some (TimeS a.data.toList) ∧ satchelref14_Time.f k a = some (TimeS a.data.toList) := by
  have hs := Lib.size_eq a
  rw [mk_of a, mk_l]
  refine ⟨pax_Time_f _ (by omega) k (by omega), ?_⟩
  rw [ref_Time_f _ (by omega) k (by omega), refS_eq]
end Go.Proofs.YtohgoaiimhhckaaDoor.TimeRef

/- What pax.PutNumber, pax.PutTime and the document's compute is the same text. -/
namespace Go.Proofs.YtohgoaiimhhckaaDoor.PutBridge
open Go.RowKit Go.Proofs.YtohgoaiimhhckaaDoor.PPaxNumbers Go.Proofs.YtohgoaiimhhckaaDoorW.PrintWords Go.Proofs.YtohgoaiimhhckaaDoorW.PrintLast Go.Proofs.YtohgoaiimhhckaaDoorW.PrintMore Go.Proofs.YtohgoaiimhhckaaDoor.NumBridge Go.Proofs.YtohgoaiimhhckaaDoor.TimeBridge
set_option linter.unusedVariables false

theorem mk_app (x y : List UInt8) : mk x ++ mk y = mk (x ++ y) := by
  apply mk_inj
  rw [mk_l, ByteArray.data_append, Array.toList_append]
  rfl
theorem decDigits_le (u : Nat) : (Lib.decDigits u).length ≤ u + 1 := by
  induction u using Nat.strongRecOn with
  | _ u ih =>
    rw [Lib.decDigits]
    split
    · simp
    · rw [List.length_append]
      have := ih (u / 10) (by omega)
      simp
      omega
theorem dig_one (n : Nat) (h : n < 10) (k : Nat) : satchelref14_Decimal.f (k + 1) (n : Int) = some (mk (Lib.decDigits n)) := by
  rw [satchelref14_Decimal.f, if_pos (by omega), Lib.decDigits_one h]
  have e : wrap64 (48 + (n : Int)) % 256 = 48 + (n : Int) := by rw [w63 (by omega) (by omega)]; omega
  rw [e]
  have : ∀ i : Fin 10, strOfNums [(48 : Int) + (i.val : Int)] = mk [UInt8.ofNat (48 + i.val)] := by decide
  exact congrArg some (this ⟨n, h⟩)
theorem Decimal_f (d : Nat) : ∀ (k n : Nat), n < 10 ^ d → d + 1 ≤ k → n ≤ 9223372036854775807 → satchelref14_Decimal.f k (n : Int) = some (mk (Lib.decDigits n)) ∧ (Lib.decDigits n).length ≤ d + 1 := by
  induction d with
  | zero =>
    intro k n hn hk hm
    obtain ⟨k, rfl⟩ : ∃ j, k = j + 1 := ⟨k - 1, by omega⟩
    have h0 : n = 0 := by simpa using hn
    subst h0
    exact ⟨dig_one 0 (by omega) k, by rw [Lib.decDigits_one (by omega)]; simp⟩
  | succ d ih =>
    intro k n hn hk hm
    obtain ⟨k, rfl⟩ : ∃ j, k = j + 2 := ⟨k - 2, by omega⟩
    by_cases h : n < 10
    · exact ⟨dig_one n h (k + 1), by rw [Lib.decDigits_one h]; simp⟩
    · have hq : n / 10 < 10 ^ d := by
        rw [Nat.pow_succ] at hn
        omega
      obtain ⟨i1, i2⟩ := ih (k + 1) (n / 10) hq (by omega) (by omega)
      have e1 : wrap64 (Int.tdiv (n : Int) 10) = ((n / 10 : Nat) : Int) := by
        rw [Int.tdiv_eq_ediv_of_nonneg (by omega), w63 (by omega) (by omega)]
        omega
      have e2 : Int.tmod (n : Int) 10 = ((n % 10 : Nat) : Int) := by
        rw [Int.tmod_eq_emod_of_nonneg (by omega)]
        omega
      have e3 : Lib.decDigits n = Lib.decDigits (n / 10) ++ Lib.decDigits (n % 10) := by
        have ed := Lib.decDigits_one (show n % 10 < 10 by omega)
        rw [Lib.decDigits, dif_neg h, ed]
      rw [satchelref14_Decimal.f, if_neg (by omega), e1, e2, i1, dig_one (n % 10) (by omega) k]
      simp only [Option.bind_some]
      have hl : (Lib.decDigits (n % 10)).length = 1 := by rw [Lib.decDigits_one (by omega)]; rfl
      have hle := decDigits_le (n / 10)
      rw [if_pos (by rw [mk_size, mk_size]; omega), mk_app, ← e3]
      refine ⟨rfl, ?_⟩
      rw [e3, List.length_append, hl]
      omega
theorem Decimal (k n : Nat) (hk : 20 ≤ k) (hn : n ≤ 9223372036854775807) : satchelref14_Decimal.f k (n : Int) = some (mk (Lib.decDigits n)) :=
  (Decimal_f 19 k n (by have : (10 : Nat) ^ 19 = 10000000000000000000 := by decide
                        omega) hk hn).1

/-- What PutNumber answers. -/
def putS (n : Int) : ByteArray × Int := if n < 0 then (⟨#[]⟩, 1) else (mk (Lib.decDigits n.toNat), 0)
theorem PutNumber_same (n : Int) (h0 : -9223372036854775808 ≤ n) (h1 : n ≤ 9223372036854775807) (k : Nat) (hk : 20 ≤ k) :
    pax_PutNumber.f n = some (putS n) ∧ satchelref14_PutNumber.f k n = some (putS n) := by
  unfold pax_PutNumber.f satchelref14_PutNumber.f putS
  by_cases h : n < 0
  · rw [if_pos h, if_pos h, if_pos h]
    exact ⟨rfl, rfl⟩
  · rw [if_neg h, if_neg h, if_neg h]
    obtain ⟨u, rfl⟩ := Int.eq_ofNat_of_zero_le (show 0 ≤ n by omega)
    rw [Decimal k u hk (by omega)]
    unfold strconv_FormatInt.f
    rw [if_pos rfl, if_pos ⟨by omega, by omega⟩, Lib.itoa_nonneg]
    exact ⟨rfl, rfl⟩

theorem dig_pos (u : Nat) : Lib.decDigits u ≠ [] := by
  rw [Lib.decDigits]
  split
  · simp
  · simp
theorem dig_step {u : Nat} (h : ¬ u < 10) : Lib.decDigits u = Lib.decDigits (u / 10) ++ Lib.decDigits (u % 10) := by
  have ed := Lib.decDigits_one (show u % 10 < 10 by omega)
  rw [Lib.decDigits, dif_neg h, ed]
theorem tm_abs (n : Int) : (n < 0 → Int.tmod n 10 = -((n.natAbs % 10 : Nat) : Int) ∧ Int.tdiv n 10 = -((n.natAbs / 10 : Nat) : Int)) ∧ (0 ≤ n → Int.tmod n 10 = ((n.natAbs % 10 : Nat) : Int) ∧ Int.tdiv n 10 = ((n.natAbs / 10 : Nat) : Int)) := by
  constructor
  · intro h
    obtain ⟨u, rfl⟩ : ∃ u : Nat, n = -(u : Int) := ⟨n.natAbs, by omega⟩
    rw [Int.neg_tmod, Int.neg_tdiv, Int.tmod_eq_emod_of_nonneg (by omega), Int.tdiv_eq_ediv_of_nonneg (by omega)]
    omega
  · intro h
    obtain ⟨u, rfl⟩ : ∃ u : Nat, n = (u : Int) := ⟨n.natAbs, by omega⟩
    rw [Int.tmod_eq_emod_of_nonneg (by omega), Int.tdiv_eq_ediv_of_nonneg (by omega)]
    omega
/-- One round: a digit stands ahead of the others. -/
theorem dig_round (x1 : Int) (x6 acc : List UInt8) (n : Int) (h0 : -9223372036854775808 ≤ n) (h1 : n ≤ 9223372036854775807) (hc : n ≠ 0 ∨ acc = []) (ha : acc.length ≤ 100) (k : Nat) (hk : 20 ≤ k) :
    satchelref14_PutTime.l0 (k + 2) x1 (mk x6) (mk acc) n = satchelref14_PutTime.l0 k x1 (mk x6) (mk (Lib.decDigits (n.natAbs % 10) ++ acc)) (Int.tdiv n 10) := by
  have e0 : satchelref14_PutTime.l0 (k + 2) x1 (mk x6) (mk acc) n = satchelref14_PutTime.j3 (k + 1) x1 (mk x6) (mk acc) n true := by
    rw [satchelref14_PutTime.l0]
    by_cases hn : n = 0
    · have hacc : acc = [] := by rcases hc with h | h; exact absurd hn h; exact h
      rw [if_pos hn, hacc, mk_toList]
      rfl
    · rw [if_neg hn]
  have hd : (Lib.decDigits (n.natAbs % 10)).length = 1 := by rw [Lib.decDigits_one (by omega)]; rfl
  obtain ⟨t1, t2⟩ := tm_abs n
  rw [e0, satchelref14_PutTime.j3, if_pos rfl]
  by_cases hn : n < 0
  · obtain ⟨m1, m2⟩ := t1 hn
    have ew : wrap64 (Int.tdiv n 10) = Int.tdiv n 10 := by rw [m2]; exact w63 (by omega) (by omega)
    rw [ew]
    by_cases hz : Int.tmod n 10 < 0
    · have e2 : wrap64 (-(Int.tmod n 10)) = ((n.natAbs % 10 : Nat) : Int) := by rw [m1, Int.neg_neg]; exact w63 (by omega) (by omega)
      rw [if_pos hz, e2, Decimal k _ hk (by omega)]
      simp only [Option.bind_some]
      rw [if_pos (by rw [mk_size, mk_size]; omega), mk_app]
    · have e2 : Int.tmod n 10 = ((n.natAbs % 10 : Nat) : Int) := by omega
      rw [if_neg hz, e2, Decimal k _ hk (by omega)]
      simp only [Option.bind_some]
      rw [if_pos (by rw [mk_size, mk_size]; omega), mk_app]
  · obtain ⟨m1, m2⟩ := t2 (by omega)
    have ew : wrap64 (Int.tdiv n 10) = Int.tdiv n 10 := by rw [m2]; exact w63 (by omega) (by omega)
    rw [ew, if_neg (by omega), m1, Decimal k _ hk (by omega)]
    simp only [Option.bind_some]
    rw [if_pos (by rw [mk_size, mk_size]; omega), mk_app]

theorem digits_loop (x1 : Int) (x6 D : List UInt8) (K : Nat) (hK : 20 ≤ K) (res : ByteArray × Int) (hfin : ∀ k, K ≤ k → satchelref14_PutTime.j3 k x1 (mk x6) (mk D) 0 false = some res) (d : Nat) :
    ∀ (k : Nat) (n : Int) (acc : List UInt8), n.natAbs < 10 ^ (d + 1) → -9223372036854775808 ≤ n → n ≤ 9223372036854775807 → (n ≠ 0 ∨ acc = []) → Lib.decDigits n.natAbs ++ acc = D → acc.length + d ≤ 90 → K + 2 * d + 3 ≤ k →
      satchelref14_PutTime.l0 k x1 (mk x6) (mk acc) n = some res := by
  have last : ∀ (k : Nat) (n : Int) (acc : List UInt8), n.natAbs < 10 → -9223372036854775808 ≤ n → n ≤ 9223372036854775807 → (n ≠ 0 ∨ acc = []) → Lib.decDigits n.natAbs ++ acc = D → acc.length ≤ 90 → K + 3 ≤ k → satchelref14_PutTime.l0 k x1 (mk x6) (mk acc) n = some res := by
    intro k n acc hlt h0 h1 hc hD ha hk
    obtain ⟨k, rfl⟩ : ∃ j, k = j + 3 := ⟨k - 3, by omega⟩
    have e1 : n.natAbs % 10 = n.natAbs := by omega
    have e2 : Int.tdiv n 10 = 0 := by
      obtain ⟨t1, t2⟩ := tm_abs n
      by_cases hn : n < 0
      · have := (t1 hn).2; omega
      · have := (t2 (by omega)).2; omega
    have hne : D ≠ [] := by rw [← hD]; intro h; exact dig_pos _ (List.append_eq_nil_iff.1 h).1
    have hb : (D == ([] : List UInt8)) = false := by rw [beq_eq_false_iff_ne]; exact hne
    rw [dig_round x1 x6 acc n h0 h1 hc (by omega) (k + 1) (by omega), e1, e2, hD, satchelref14_PutTime.l0, if_pos rfl, mk_toList, hb]
    exact hfin k (by omega)
  induction d with
  | zero =>
    intro k n acc hlt h0 h1 hc hD ha hk
    exact last k n acc (by simpa using hlt) h0 h1 hc hD (by omega) (by omega)
  | succ d ih =>
    intro k n acc hlt h0 h1 hc hD ha hk
    by_cases h10 : n.natAbs < 10
    · exact last k n acc h10 h0 h1 hc hD (by omega) (by omega)
    · obtain ⟨k, rfl⟩ : ∃ j, k = j + 2 := ⟨k - 2, by omega⟩
      have hd : (Lib.decDigits (n.natAbs % 10)).length = 1 := by rw [Lib.decDigits_one (by omega)]; rfl
      have eabs : (Int.tdiv n 10).natAbs = n.natAbs / 10 := by
        obtain ⟨t1, t2⟩ := tm_abs n
        by_cases hn : n < 0
        · have := (t1 hn).2; omega
        · have := (t2 (by omega)).2; omega
      rw [dig_round x1 x6 acc n h0 h1 hc (by omega) k (by omega)]
      refine ih k (Int.tdiv n 10) _ ?_ (by omega) (by omega) (.inl (by omega)) ?_ (by rw [List.length_append]; omega) (by omega)
      · rw [eabs]
        rw [Nat.pow_succ] at hlt
        omega
      · rw [eabs, ← List.append_assoc, ← dig_step h10]
        exact hD

/-- The zeros at the end go. -/
theorem strip_loop (x6 : List UInt8) (h6 : x6.length ≤ 1000) : ∀ (L : List UInt8) (k : Nat), L.dropWhile (· == 48) ≠ [] → L.length ≤ 1000 → L.length + 1 ≤ k →
    satchelref14_PutTime.l1 k (mk x6) (mk L.reverse) = some (mk (x6 ++ [46] ++ (L.dropWhile (· == 48)).reverse), 0)
  | [], k, h, _, _ => absurd rfl h
  | c :: r, k, h, hl, hk => by
    obtain ⟨k, rfl⟩ : ∃ j, k = j + 1 := ⟨k - 1, by omega⟩
    simp only [List.length_cons] at hl hk
    have es : ((mk (c :: r).reverse).size : Int) = ((r.length + 1 : Nat) : Int) := by rw [mk_size]; simp
    have ew : wrap64 (((r.length + 1 : Nat) : Int) - 1) = (r.length : Int) := by rw [w63 (by omega) (by omega)]; omega
    have eb : bt (mk (c :: r).reverse) (r.length : Int) = (c.toNat : Int) := by
      rw [bt_mk _ r.length (by simp)]
      simp
    rw [satchelref14_PutTime.l1, es, ew, if_pos (by omega), if_pos (by omega), eb]
    by_cases hc : c = 48
    · subst hc
      have e2 : ((48 : UInt8) :: r).dropWhile (· == 48) = r.dropWhile (· == 48) := by simp
      rw [if_pos (show ((UInt8.toNat 48 : Nat) : Int) = 48 from rfl), if_pos (by omega), Int.toNat_natCast, mk_pre]
      rw [e2] at h ⊢
      have e3 : ((48 : UInt8) :: r).reverse.take r.length = r.reverse := by simp
      rw [e3]
      exact strip_loop x6 h6 r k h (by omega) (by omega)
    · have hne : ¬ ((c.toNat : Int) = 48) := by
        intro h
        apply hc
        have : c.toNat = (48 : UInt8).toNat := by simpa using (by omega : c.toNat = 48)
        exact UInt8.toNat_inj.1 this
      have e2 : (c :: r).dropWhile (· == 48) = c :: r := by simp [hc]
      have em : (⟨#[46]⟩ : ByteArray) = mk [46] := rfl
      rw [if_neg hne, mk_size, if_pos (by omega), em, mk_app, mk_size, mk_size, if_pos (by simp; omega), mk_app, e2]

theorem zeros_dvd : ∀ (m u : Nat), 10 ^ m ≤ u → u < 10 ^ (m + 1) → (∀ c ∈ (Lib.decDigits u).drop 1, c = 48) → 10 ^ m ∣ u
  | 0, u, _, _, _ => by simp
  | m + 1, u, h0, h1, hz => by
    have hp : 1 ≤ 10 ^ m := Nat.one_le_pow _ _ (by omega)
    have e1 : 10 ^ (m + 1) = 10 * 10 ^ m := by rw [Nat.pow_succ, Nat.mul_comm]
    have e2 : 10 ^ (m + 1 + 1) = 10 * 10 ^ (m + 1) := by rw [Nat.pow_succ 10 (m + 1), Nat.mul_comm]
    have h10 : ¬ u < 10 := by rw [e1] at h0; omega
    have ed := dig_step h10
    have hne := dig_pos (u / 10)
    have edr : (Lib.decDigits u).drop 1 = (Lib.decDigits (u / 10)).drop 1 ++ Lib.decDigits (u % 10) := by
      rw [ed]
      cases hx : Lib.decDigits (u / 10) with
      | nil => exact absurd hx hne
      | cons a b => rfl
    have hq := zeros_dvd m (u / 10) (by rw [e1] at h0; omega) (by rw [e2, e1] at h1; rw [e1]; omega) (fun c hc => hz c (by rw [edr]; exact List.mem_append_left _ hc))
    have hl : u % 10 = 0 := by
      have := hz (UInt8.ofNat (48 + u % 10)) (by rw [edr, Lib.decDigits_one (show u % 10 < 10 by omega)]; simp)
      have h3 := congrArg UInt8.toNat this
      have h4 : (UInt8.ofNat (48 + u % 10)).toNat = 48 + u % 10 := by
        rw [UInt8.toNat_ofNat']
        omega
      rw [h4] at h3
      have : (48 : UInt8).toNat = 48 := rfl
      omega
    obtain ⟨q, hq⟩ := hq
    refine ⟨q, ?_⟩
    rw [e1, Nat.mul_assoc, ← hq]
    omega

theorem len_le : ∀ (d u : Nat), u < 10 ^ d → (Lib.decDigits u).length ≤ d + 1
  | 0, u, h => by
    have h0 : u = 0 := by simpa using h
    subst h0
    rw [Lib.decDigits_one (by omega)]; simp
  | d + 1, u, h => by
    by_cases h10 : u < 10
    · rw [Lib.decDigits_one h10]; simp
    · have ih := len_le d (u / 10) (by rw [Nat.pow_succ] at h; omega)
      rw [dig_step h10, List.length_append, Lib.decDigits_one (show u % 10 < 10 by omega)]
      simp
      omega
theorem len20 {u : Nat} (h : u ≤ 9223372036854775808) : (Lib.decDigits u).length ≤ 20 :=
  len_le 19 u (by have : (10 : Nat) ^ 19 = 10000000000000000000 := by decide
                  omega)

/-- What stands behind the whole part. -/
def tailD (part : Int) : List UInt8 := (Lib.decDigits (1000000000 + part).toNat).drop 1
def outT (base : List UInt8) (part : Int) : ByteArray × Int := if part = 0 then (mk base, 0) else (mk (base ++ [46] ++ Lib.trimRightB (tailD part) 48), 0)
theorem tail_dig {part : Int} (h0 : 0 < part) (h1 : part < 1000000000) : (tailD part).reverse.dropWhile (· == 48) ≠ [] ∧ (tailD part).length ≤ 20 := by
  unfold tailD
  have e9 : (10 : Nat) ^ 9 = 1000000000 := by decide
  have e10 : (10 : Nat) ^ (9 + 1) = 10000000000 := by decide
  constructor
  · intro h
    rw [dropW_nil] at h
    have hz : ∀ c ∈ (Lib.decDigits (1000000000 + part).toNat).drop 1, c = 48 := fun c hc => by simpa using h c (List.mem_reverse.2 hc)
    have hd := zeros_dvd 9 (1000000000 + part).toNat (by omega) (by omega) hz
    obtain ⟨q, hq⟩ := hd
    omega
  · rw [List.length_drop]
    have := len20 (u := (1000000000 + part).toNat) (by omega)
    omega

theorem pax_j1 (sg : List UInt8) (hs : sg.length ≤ 1) (u : Nat) (hu : u ≤ 9223372036854775808) (part : Int) (h0 : 0 ≤ part) (h1 : part < 1000000000) (k : Nat) :
    pax_PutTime.j1 (k + 1) (mk sg) (u : Int) part = some (outT (sg ++ Lib.decDigits u) part) := by
  have hl := len20 hu
  have eF : strconv_FormatUint.f (u : Int) 10 = some (mk (Lib.decDigits u)) := by
    unfold strconv_FormatUint.f
    rw [if_pos rfl, if_pos ⟨by omega, by omega⟩, Lib.itoa_nonneg]
    rfl
  rw [pax_PutTime.j1, eF]
  simp only [Option.bind_some]
  rw [if_pos (by rw [mk_size, mk_size]; omega), mk_app]
  unfold outT
  by_cases hp : part = 0
  · rw [if_pos hp, if_pos hp]
  · have ew : wrap64 (1000000000 + part) = (((1000000000 + part).toNat : Nat) : Int) := by rw [w63 (by omega) (by omega)]; omega
    have eI : strconv_Itoa.f (((1000000000 + part).toNat : Nat) : Int) = some (mk (Lib.decDigits (1000000000 + part).toNat)) := by
      unfold strconv_Itoa.f
      rw [if_pos ⟨by omega, by omega⟩, Lib.itoa_nonneg]
      rfl
    obtain ⟨t1, t2⟩ := tail_dig (part := part) (by omega) h1
    have hne := dig_pos (1000000000 + part).toNat
    have hpos : 1 ≤ (Lib.decDigits (1000000000 + part).toNat).length := by
      cases hx : Lib.decDigits (1000000000 + part).toNat with
      | nil => exact absurd hx hne
      | cons a b => simp
    have em : (⟨#[46]⟩ : ByteArray) = mk [46] := rfl
    have eT : strings_TrimRight.f (mk (tailD part)) ⟨#[48]⟩ = some (mk (Lib.trimRightB (tailD part) 48)) := by
      unfold strings_TrimRight.f
      rw [if_pos (by rw [mk_size]; omega)]
      rfl
    have hT : (Lib.trimRightB (tailD part) 48).length ≤ 20 := by
      unfold Lib.trimRightB
      rw [List.length_reverse]
      have := (List.dropWhile_suffix (· == 48) (l := (tailD part).reverse)).length_le
      rw [List.length_reverse] at this
      omega
    rw [if_neg hp, if_neg hp, ew, eI]
    simp only [Option.bind_some]
    rw [if_pos (by rw [mk_size]; omega), if_pos (by rw [mk_size, List.length_append]; omega), mk_cut]
    show (Option.bind (strings_TrimRight.f (mk (tailD part)) ⟨#[48]⟩) _) = _
    rw [eT]
    simp only [Option.bind_some]
    rw [em, mk_app, mk_app, if_pos (by rw [mk_size, mk_size]; simp; omega)]

theorem ref_fin (x6 D : List UInt8) (h6 : x6.length ≤ 1) (hD : D.length ≤ 20) (part : Int) (h0 : 0 ≤ part) (h1 : part < 1000000000) (k : Nat) (hk : 30 ≤ k) :
    satchelref14_PutTime.j3 k part (mk x6) (mk D) 0 false = some (outT (x6 ++ D) part) := by
  obtain ⟨k, rfl⟩ : ∃ j, k = j + 1 := ⟨k - 1, by omega⟩
  rw [satchelref14_PutTime.j3, if_neg (by simp), if_pos (by rw [mk_size, mk_size]; omega), mk_app]
  unfold outT
  by_cases hp : part = 0
  · rw [if_pos hp, if_pos hp]
  · have ew0 : wrap64 part = part := w63 (by omega) (by omega)
    have ew : wrap64 (1000000000 + part) = (((1000000000 + part).toNat : Nat) : Int) := by rw [w63 (by omega) (by omega)]; omega
    obtain ⟨t1, t2⟩ := tail_dig (part := part) (by omega) h1
    have hne := dig_pos (1000000000 + part).toNat
    have hpos : 1 ≤ (Lib.decDigits (1000000000 + part).toNat).length := by
      cases hx : Lib.decDigits (1000000000 + part).toNat with
      | nil => exact absurd hx hne
      | cons a b => simp
    rw [if_neg hp, if_neg hp, ew0, ew, Decimal k _ (by omega) (by omega)]
    simp only [Option.bind_some]
    rw [if_pos (by rw [mk_size]; omega), mk_cut]
    have key := strip_loop (x6 ++ D) (by rw [List.length_append]; omega) (tailD part).reverse k t1 (by rw [List.length_reverse]; omega) (by rw [List.length_reverse]; omega)
    rw [List.reverse_reverse] at key
    exact key

def putT (s n : Int) : ByteArray × Int :=
  if n < 0 ∨ n ≥ 1000000000 then (mk [], 1)
  else if s < 0 then (if n > 0 then outT ([45] ++ Lib.decDigits (s.natAbs - 1)) (1000000000 - n) else outT ([45] ++ Lib.decDigits s.natAbs) n)
  else outT ([] ++ Lib.decDigits s.natAbs) n

theorem pax_PutTime_f (s n : Int) (s0 : -9223372036854775808 ≤ s) (s1 : s ≤ 9223372036854775807) (n0 : -2147483648 ≤ n) (n1 : n ≤ 2147483647) (k : Nat) (hk : 2 ≤ k) :
    pax_PutTime.f k s n = some (putT s n) := by
  obtain ⟨k, rfl⟩ : ∃ j, k = j + 2 := ⟨k - 2, by omega⟩
  unfold pax_PutTime.f putT
  by_cases h1 : n < 0
  · rw [if_pos h1, if_pos (.inl h1), pax_PutTime.j0, if_pos rfl]
    rfl
  by_cases h2 : n ≥ 1000000000
  · rw [if_neg h1, if_pos (.inr h2), pax_PutTime.j0, decide_eq_true h2, if_pos rfl]
    rfl
  · have ew : wrap64 n = n := w63 (by omega) (by omega)
    have ew2 : wrap64 (1000000000 - n) = 1000000000 - n := w63 (by omega) (by omega)
    have em : (⟨#[45]⟩ : ByteArray) = mk [45] := rfl
    have em0 : (⟨#[]⟩ : ByteArray) = mk [] := rfl
    rw [if_neg h1, if_neg (by omega), pax_PutTime.j0, decide_eq_false h2, if_neg (by simp), ew, ew2, em, em0]
    by_cases hs : s < 0
    · have e1 : IntKind.u64.wrap (-(IntKind.u64.wrap s)) = ((s.natAbs : Nat) : Int) := by rw [IntKind.wrap_u64, IntKind.wrap_u64]; omega
      rw [if_pos hs, if_pos hs, e1]
      by_cases hp : n > 0
      · have e2 : IntKind.u64.wrap (((s.natAbs : Nat) : Int) - 1) = ((s.natAbs - 1 : Nat) : Int) := by rw [IntKind.wrap_u64]; omega
        rw [if_pos hp, if_pos hp, e2]
        exact pax_j1 [45] (by simp) _ (by omega) _ (by omega) (by omega) k
      · rw [if_neg hp, if_neg hp]
        exact pax_j1 [45] (by simp) _ (by omega) _ (by omega) (by omega) k
    · have e1 : IntKind.u64.wrap s = ((s.natAbs : Nat) : Int) := by rw [IntKind.wrap_u64]; omega
      rw [if_neg hs, if_neg hs, e1]
      exact pax_j1 [] (by simp) _ (by omega) _ (by omega) (by omega) k

theorem ref_j1 (s part : Int) (x6 : List UInt8) (s0 : -9223372036854775808 ≤ s) (s1 : s ≤ 9223372036854775807) (h6 : x6.length ≤ 1) (h0 : 0 ≤ part) (h1 : part < 1000000000) (k : Nat) (hk : 80 ≤ k) :
    satchelref14_PutTime.j1 k s part (mk x6) = some (outT (x6 ++ Lib.decDigits s.natAbs) part) := by
  obtain ⟨k, rfl⟩ : ∃ j, k = j + 1 := ⟨k - 1, by omega⟩
  have e19 : (10 : Nat) ^ (18 + 1) = 10000000000000000000 := by decide
  have hl := len20 (u := s.natAbs) (by omega)
  rw [satchelref14_PutTime.j1]
  exact digits_loop part x6 (Lib.decDigits s.natAbs) 30 (by omega) _ (fun k hk => ref_fin x6 _ h6 hl part h0 h1 k hk) 18 k s [] (by omega) s0 s1 (.inr rfl) (by simp) (by simp) (by omega)

theorem ref_PutTime_f (s n : Int) (s0 : -9223372036854775808 ≤ s) (s1 : s ≤ 9223372036854775807) (n0 : -2147483648 ≤ n) (n1 : n ≤ 2147483647) (k : Nat) (hk : 90 ≤ k) :
    satchelref14_PutTime.f k s n = some (putT s n) := by
  obtain ⟨k, rfl⟩ : ∃ j, k = j + 1 := ⟨k - 1, by omega⟩
  unfold satchelref14_PutTime.f putT
  by_cases h1 : n < 0
  · rw [if_pos h1, if_pos (.inl h1), satchelref14_PutTime.j0, if_pos rfl]
    rfl
  by_cases h2 : n ≥ 1000000000
  · rw [if_neg h1, if_pos (.inr h2), satchelref14_PutTime.j0, decide_eq_true (by omega : n > 999999999), if_pos rfl]
    rfl
  · have em : (⟨#[45]⟩ : ByteArray) = mk [45] := rfl
    have em0 : (⟨#[]⟩ : ByteArray) = mk [] := rfl
    rw [if_neg h1, if_neg (by omega), satchelref14_PutTime.j0, decide_eq_false (by omega : ¬ n > 999999999), if_neg (by simp), em, em0]
    by_cases hs : s < 0
    · rw [if_pos hs, if_pos hs]
      by_cases hp : n > 0
      · have e1 : wrap64 (s + 1) = s + 1 := w63 (by omega) (by omega)
        have e2 : wrap32 (1000000000 - n) = 1000000000 - n := w32 (by omega) (by omega)
        have e3 : (s + 1).natAbs = s.natAbs - 1 := by omega
        rw [if_pos hp, if_pos hp, e1, e2, ← e3]
        exact ref_j1 _ _ [45] (by omega) (by omega) (by simp) (by omega) (by omega) k (by omega)
      · rw [if_neg hp, if_neg hp]
        exact ref_j1 _ _ [45] (by omega) (by omega) (by simp) (by omega) (by omega) k (by omega)
    · rw [if_neg hs, if_neg hs]
      exact ref_j1 _ _ [] (by omega) (by omega) (by simp) (by omega) (by omega) k (by omega)
end Go.Proofs.YtohgoaiimhhckaaDoor.PutBridge

/- The pure law of PaxNumbers. -/
namespace Go.Proofs.YtohgoaiimhhckaaDoor.Pure
open Go.RowKit Go.Proofs.YtohgoaiimhhckaaDoor.PPaxNumbers Go.Proofs.YtohgoaiimhhckaaDoorW.PrintWords Go.Proofs.YtohgoaiimhhckaaDoorW.PrintLast Go.Proofs.YtohgoaiimhhckaaDoor.NumBridge Go.Proofs.YtohgoaiimhhckaaDoor.TimeBridge Go.Proofs.YtohgoaiimhhckaaDoor.TimeRef Go.Proofs.YtohgoaiimhhckaaDoor.PutBridge

theorem PaxNumbers : satchellaw14_PaxNumbers.Pure := by
  intro a0 a1 a2 h0 h1 h2
  have b1 : -9223372036854775808 ≤ a1 ∧ a1 ≤ 9223372036854775807 := by
    unfold Lit.wf at h1
    rw [Bool.and_eq_true, decide_eq_true_eq, decide_eq_true_eq] at h1
    exact h1
  have b2 : -2147483648 ≤ a2 ∧ a2 ≤ 2147483647 := by
    unfold Lit.wf at h2
    rw [Bool.and_eq_true, decide_eq_true_eq, decide_eq_true_eq] at h2
    exact h2
  refine ⟨4 * a0.size + 100, ?_⟩
  obtain ⟨t1, t2⟩ := Time_same a0 h0 (4 * a0.size + 100) (by omega)
  obtain ⟨p1, p2⟩ := PutNumber_same a1 b1.1 b1.2 (4 * a0.size + 100) (by omega)
  unfold satchellaw14_PaxNumbers.f
  rw [pax_Number_f a0 h0 _ (by omega), ref_Number_f a0 h0 _ (by omega), t1, t2, p1, p2, pax_PutTime_f a1 a2 b1.1 b1.2 b2.1 b2.2 _ (by omega), ref_PutTime_f a1 a2 b1.1 b1.2 b2.1 b2.2 _ (by omega)]
  simp
end Go.Proofs.YtohgoaiimhhckaaDoor.Pure
