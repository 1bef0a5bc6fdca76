/- Times of pax: what pax.Time and the document's Time compute is one function of the text's bytes. -/
import Derived.Test.YtohgoaiimhhckaaDoorTmNum
import Derived.Lib.IndexLaws
namespace Go.Proofs.YtohgoaiimhhckaaDoor.TimeBridge
open Go.RowKit Go.Proofs.YtohgoaiimhhckaaDoor.PPaxTimes Go.Proofs.YtohgoaiimhhckaaDoorW.PrintWords Go.Proofs.YtohgoaiimhhckaaDoorW.PrintLast Go.Proofs.YtohgoaiimhhckaaDoorW.PrintMore Go.Proofs.YtohgoaiimhhckaaDoor.NumBridge
set_option linter.unusedVariables false

def mk (l : List UInt8) : ByteArray := ⟨l.toArray⟩
theorem mk_of (a : ByteArray) : a = mk a.data.toList := (Lib.mk_data a).symm
theorem mk_l (l : List UInt8) : (mk l).data.toList = l := rfl
theorem mk_toList (l : List UInt8) : (mk l).toList = l := Lib.toList_data _
theorem mk_size (l : List UInt8) : (mk l).size = l.length := Lib.size_eq _
theorem mk_inj {a b : ByteArray} (h : a.data.toList = b.data.toList) : a = b := by rw [mk_of a, mk_of b, h]
theorem mk_extract (l : List UInt8) (i j : Nat) : (mk l).extract i j = mk ((l.take j).drop i) := by
  apply mk_inj
  rw [mk_l, ByteArray.data_extract, Array.toList_extract]
  show List.extract l i j = _
  simp [List.extract, List.drop_take]
theorem mk_cut (l : List UInt8) (i : Nat) : (mk l).extract i (mk l).size = mk (l.drop i) := by rw [mk_extract, mk_size, List.take_length]
theorem mk_cut' (l : List UInt8) (i : Nat) : (mk l).extract i l.length = mk (l.drop i) := by rw [mk_extract, List.take_length]
theorem mk_pre (l : List UInt8) (j : Nat) : (mk l).extract 0 j = mk (l.take j) := by rw [mk_extract, List.drop_zero]
theorem bt_mk (l : List UInt8) (q : Nat) (h : q < l.length) : bt (mk l) (q : Int) = (l[q].toNat : Int) := bt_at (mk l) q h

def neg (l : List UInt8) : Bool := l.head? == some 45
def restL (l : List UInt8) : List UInt8 := if neg l = true then l.drop 1 else l
theorem prefix_f (l : List UInt8) : strings_CutPrefix.f (mk l) ⟨#[45]⟩ = some (mk (restL l), neg l) := by
  unfold strings_CutPrefix.f stringslite_CutPrefix.f stringslite_HasPrefix.f
  have e1 : ((⟨#[45]⟩ : ByteArray).size : Int) = 1 := rfl
  have e2 : (⟨#[45]⟩ : ByteArray).toList = [45] := Lib.toList_data _
  rw [e1, e2, mk_size]
  cases l with
  | nil => rfl
  | cons c r =>
    rw [if_pos (by simp; omega), if_pos (by omega), if_pos (by simp; omega)]
    simp only [Option.bind_some]
    rw [show ((1 : Int).toNat) = 1 from rfl, mk_pre, mk_toList]
    have e3 : ((List.take 1 (c :: r)) == ([45] : List UInt8)) = neg (c :: r) := by
      unfold neg
      simp
    rw [e3]
    unfold restL
    cases h : neg (c :: r) with
    | false => simp
    | true =>
      rw [if_pos rfl, if_pos (by omega), if_pos (by simp; omega)]
      simp only [Option.bind_some, if_true]
      rw [mk_cut']

def wholeL (l : List UInt8) : List UInt8 := l.takeWhile (· != 46)
def partL (l : List UInt8) : List UInt8 := (l.dropWhile (· != 46)).drop 1
theorem idx_split : ∀ (l : List UInt8), (Lib.indexByte l 46 = -1 ∧ wholeL l = l ∧ partL l = []) ∨ ∃ o : Nat, o < l.length ∧ Lib.indexByte l 46 = o ∧ wholeL l = l.take o ∧ partL l = l.drop (o + 1)
  | [] => .inl ⟨rfl, rfl, rfl⟩
  | c :: r => by
    unfold Lib.indexByte
    by_cases h : c = 46
    · subst h
      exact .inr ⟨0, by simp, by simp, rfl, rfl⟩
    · have hb : (c == 46) = false := by simpa using h
      have e1 : wholeL (c :: r) = c :: wholeL r := by unfold wholeL; simp [h]
      have e2 : partL (c :: r) = partL r := by unfold partL; simp [h]
      rw [e1, e2]
      rcases idx_split r with ⟨a1, a2, a3⟩ | ⟨o, a0, a1, a2, a3⟩
      · left
        rw [a1, a2, a3]
        simp [h]
      · right
        refine ⟨o + 1, by simpa using a0, ?_, ?_, ?_⟩
        · rw [a1]; simp [h]
        · rw [a2]; rfl
        · rw [a3]; rfl
theorem cut_f (l : List UInt8) (hl : l.length ≤ 140737488351232) : ∃ b, strings_Cut.f (mk l) ⟨#[46]⟩ = some (mk (wholeL l), mk (partL l), b) := by
  unfold strings_Cut.f stringslite_Cut.f stringslite_Index.f
  have e1 : ((⟨#[46]⟩ : ByteArray).size : Int) = 1 := rfl
  rw [e1, mk_size]
  show ∃ b, ((Option.bind (some (Lib.indexByte (mk l).data.toList 46)) _).bind _) = _
  rw [mk_l]
  simp only [Option.bind_some]
  rcases idx_split l with ⟨a1, a2, a3⟩ | ⟨o, a0, a1, a2, a3⟩
  · rw [a1, a2, a3, if_neg (by decide)]
    exact ⟨false, rfl⟩
  · have ew : wrap64 ((o : Int) + 1) = ((o + 1 : Nat) : Int) := by rw [w63 (by omega) (by omega)]; omega
    rw [a1, a2, a3, ew, if_pos (by omega), if_pos (by omega), if_pos (by omega), if_pos (by omega), if_pos (by omega)]
    simp only [Option.bind_some, Int.toNat_natCast, mk_pre, mk_cut']
    exact ⟨true, rfl⟩

def nanoS : Nat → Int → List UInt8 → Int
  | 0, v, _ => v
  | j + 1, v, [] => nanoS j (10 * v) []
  | j + 1, v, c :: r => nanoS j (10 * v + dv c) r
def outS (b : Bool) (n v : Int) : Int × Int × Int := if b = true then (if v > 0 then (-n - 1, 1000000000 - v, 0) else (-n, 0, 0)) else (n, v, 0)
def TimeS (l : List UInt8) : Int × Int × Int :=
  if (partL (restL l)).all isD = true then (if (NumS (wholeL (restL l))).2 = 0 then outS (neg l) (NumS (wholeL (restL l))).1 (nanoS 9 0 (partL (restL l))) else (0, 0, (NumS (wholeL (restL l))).2)) else (0, 0, 120)

/-- The nanoseconds as they grow: below 10^i, i digits read. -/
theorem grow_nano {i : Nat} {v d : Int} (hi : i < 9) (hv0 : 0 ≤ v) (hv : v < 10 ^ i) (hd0 : 0 ≤ d) (hd9 : d ≤ 9) : 0 ≤ 10 * v + d ∧ 10 * v + d < 10 ^ (i + 1) ∧ 10 * v + d < 1000000000 := by
  have h1 : 10 * v + d < 10 ^ (i + 1) := by
    have e : (10 : Int) ^ (i + 1) = 10 * 10 ^ i := by rw [Int.pow_succ, Int.mul_comm]
    rw [e]
    generalize (10 : Int) ^ i = p at hv
    omega
  have h2 : (10 : Int) ^ (i + 1) ≤ 10 ^ 9 := by
    have : ∀ j : Fin 9, (10 : Int) ^ (j.val + 1) ≤ 10 ^ 9 := by decide
    exact this ⟨i, hi⟩
  have h3 : (10 : Int) ^ 9 = 1000000000 := by decide
  exact ⟨by omega, h1, by omega⟩
theorem nano_bound : ∀ (j i : Nat) (v : Int) (l : List UInt8), i + j = 9 → 0 ≤ v → v < 10 ^ i → l.all isD = true → 0 ≤ nanoS j v l ∧ nanoS j v l < 1000000000
  | 0, i, v, l, hi, h0, h1, hD => by
    have : i = 9 := by omega
    subst this
    unfold nanoS
    exact ⟨h0, by simpa using h1⟩
  | j + 1, i, v, [], hi, h0, h1, hD => by
    obtain ⟨g0, g1, g2⟩ := grow_nano (d := 0) (by omega) h0 h1 (by omega) (by omega)
    unfold nanoS
    rw [Int.add_zero] at g0 g1
    exact nano_bound j (i + 1) _ [] (by omega) g0 g1 rfl
  | j + 1, i, v, c :: r, hi, h0, h1, hD => by
    simp only [List.all_cons, Bool.and_eq_true] at hD
    obtain ⟨d0, d9⟩ := dv_of hD.1
    obtain ⟨g0, g1, g2⟩ := grow_nano (by omega) h0 h1 d0 d9
    unfold nanoS
    exact nano_bound j (i + 1) _ r (by omega) g0 g1 hD.2

theorem w32 {x : Int} (h0 : -2147483648 ≤ x) (h1 : x ≤ 2147483647) : wrap32 x = x := by unfold wrap32; omega

theorem time_end (k : Nat) (b : Bool) (n v : Int) (hn0 : 0 ≤ n) (hn1 : n ≤ 9223372036854775807) (hv0 : 0 ≤ v) (hv1 : v < 1000000000) :
    (if b = true then pax_Time.j1 (k + 1) b n v (decide (v > 0)) else pax_Time.j1 (k + 1) b n v false) = some (outS b n v) := by
  have e1 : wrap64 (-n) = -n := w63 (by omega) (by omega)
  have e2 : wrap64 (-n - 1) = -n - 1 := w63 (by omega) (by omega)
  have e3 : wrap64 (1000000000 - v) = 1000000000 - v := w63 (by omega) (by omega)
  have e4 : wrap32 (1000000000 - v) = 1000000000 - v := w32 (by omega) (by omega)
  have e5 : wrap32 v = v := w32 (by omega) (by omega)
  simp only [pax_Time.j1, e1, e2, e3, e4, e5]
  unfold outS
  cases b with
  | false => simp
  | true =>
    by_cases hv : v > 0
    · simp [hv]
    · simp [hv]

theorem pax_time_l0 (P : List UInt8) (hP : P.all isD = true) (hl : P.length ≤ 140737488351232) (b : Bool) (n : Int) (hn0 : 0 ≤ n) (hn1 : n ≤ 9223372036854775807) (d : Nat) : ∀ (k q : Nat) (v : Int), q + d = 9 → d + 2 ≤ k → 0 ≤ v → v < 10 ^ q →
    pax_Time.l0 k b (mk P) n v (q : Int) = some (outS b n (nanoS d v (P.drop q))) := by
  induction d with
  | zero =>
    intro k q v hq hk hv0 hv1
    obtain ⟨k, rfl⟩ : ∃ j, k = j + 2 := ⟨k - 2, by omega⟩
    have : q = 9 := by omega
    subst this
    rw [pax_Time.l0, if_neg (by omega)]
    exact time_end k b n v hn0 hn1 hv0 (by simpa using hv1)
  | succ d ih =>
    intro k q v hq hk hv0 hv1
    obtain ⟨k, rfl⟩ : ∃ j, k = j + 1 := ⟨k - 1, by omega⟩
    have ew : wrap64 ((q : Int) + 1) = ((q + 1 : Nat) : Int) := by rw [w63 (by omega) (by omega)]; omega
    rw [pax_Time.l0, if_pos (by omega), mk_size, ew]
    by_cases h : q < P.length
    · have hd := List.all_eq_true.1 hP _ (List.getElem_mem h)
      obtain ⟨d0, d9⟩ := dv_of hd
      obtain ⟨g0, g1, g2⟩ := grow_nano (by omega) hv0 hv1 d0 d9
      have e0 : v * 10 = 10 * v := Int.mul_comm _ _
      have e1 : wrap64 (10 * v) = 10 * v := w63 (by omega) (by omega)
      have e2 : wrap64 (10 * v + dv P[q]) = 10 * v + dv P[q] := w63 (by omega) (by omega)
      have er : ((bt (mk P) (q : Int)) - 48) % 256 = dv P[q] := by rw [bt_mk P q h]; rfl
      rw [if_pos (by omega), if_pos (by omega), er, e0, e1, e2, drop_at h]
      exact ih k (q + 1) _ (by omega) (by omega) g0 g1
    · obtain ⟨g0, g1, g2⟩ := grow_nano (d := 0) (by omega) hv0 hv1 (by omega) (by omega)
      have e0 : v * 10 = 10 * v := Int.mul_comm _ _
      have e1 : wrap64 (10 * v) = 10 * v := w63 (by omega) (by omega)
      rw [if_neg (by omega), e0, e1, List.drop_of_length_le (by omega)]
      rw [Int.add_zero] at g0 g1
      have := ih k (q + 1) (10 * v) (by omega) (by omega) g0 g1
      rw [List.drop_of_length_le (by omega)] at this
      exact this

theorem num_bound : ∀ (l : List UInt8) (n : Int), 0 ≤ n → n ≤ 9223372036854775807 → l.all isD = true → 0 ≤ (numS n l).1 ∧ (numS n l).1 ≤ 9223372036854775807
  | [], n, h0, h1, _ => ⟨h0, h1⟩
  | c :: r, n, h0, h1, hD => by
    simp only [List.all_cons, Bool.and_eq_true] at hD
    obtain ⟨d0, d9⟩ := dv_of hD.1
    unfold numS
    by_cases hb : n > (9223372036854775807 - dv c) / 10
    · rw [if_pos hb]; simp
    · obtain ⟨s0, s1, _⟩ := step_num h0 d0 d9 hb
      rw [if_neg hb]
      exact num_bound r _ s0 s1 hD.2
theorem Num_bound (l : List UInt8) : 0 ≤ (NumS l).1 ∧ (NumS l).1 ≤ 9223372036854775807 := by
  unfold NumS
  by_cases h : l = []
  · rw [if_pos h]; simp
  · rw [if_neg h]
    by_cases hD : l.all isD = true
    · rw [if_pos hD]
      exact num_bound l 0 (by omega) (by omega) hD
    · rw [if_neg hD]; simp
theorem rest_le (l : List UInt8) : (restL l).length ≤ l.length := by
  unfold restL
  split <;> simp
theorem whole_le (l : List UInt8) : (wholeL l).length ≤ l.length := (List.takeWhile_prefix _).length_le
theorem part_le (l : List UInt8) : (partL l).length ≤ l.length := by
  unfold partL
  rw [List.length_drop]
  have := (List.dropWhile_suffix (· != 46) (l := l)).length_le
  omega

theorem pax_Time_f (l : List UInt8) (hl : l.length ≤ 140737488351232) (k : Nat) (hk : l.length + 12 ≤ k) : pax_Time.f k (mk l) = some (TimeS l) := by
  have h1 := rest_le l
  have h2 := whole_le (restL l)
  have h3 := part_le (restL l)
  obtain ⟨b, hc⟩ := cut_f (restL l) (by omega)
  unfold pax_Time.f TimeS
  rw [prefix_f]
  simp only [Option.bind_some]
  rw [hc]
  simp only [Option.bind_some]
  rw [digits_f _ (by rw [mk_size]; omega)]
  simp only [Option.bind_some, mk_l]
  by_cases hD : (partL (restL l)).all isD = true
  · rw [if_pos hD, if_pos hD, pax_Number_f _ (by rw [mk_size]; omega) k (by rw [mk_size]; omega)]
    simp only [Option.bind_some, mk_l]
    by_cases he : (NumS (wholeL (restL l))).2 = 0
    · rw [if_pos he, if_pos he]
      obtain ⟨b0, b1⟩ := Num_bound (wholeL (restL l))
      have := pax_time_l0 (partL (restL l)) hD (by omega) (neg l) _ b0 b1 9 k 0 0 (by omega) (by omega) (by omega) (by decide)
      simpa using this
    · rw [if_neg he, if_neg he]
  · rw [if_neg hD, if_neg hD]
end Go.Proofs.YtohgoaiimhhckaaDoor.TimeBridge
