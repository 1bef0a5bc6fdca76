/- Numbers of pax: what pax.Number and the document's Number compute is one function of the text's bytes. -/
import Derived.Test.YtohgoaiimhhckaaDoorPPaxTimesx15
namespace Go.Proofs.YtohgoaiimhhckaaDoor.NumBridge
open Go.RowKit Go.Proofs.YtohgoaiimhhckaaDoor.PPaxTimes Go.Proofs.YtohgoaiimhhckaaDoorW.PrintWords Go.Proofs.YtohgoaiimhhckaaDoorW.PrintLast Go.Proofs.YtohgoaiimhhckaaDoorW.PrintMore
set_option linter.unusedVariables false

theorem w63 {x : Int} (h0 : -9223372036854775808 ≤ x) (h1 : x ≤ 9223372036854775807) : wrap64 x = x := by unfold wrap64; omega
theorem bt_at (a : ByteArray) (q : Nat) (h : q < a.data.toList.length) : bt a (q : Int) = ((a.data.toList[q]'h).toNat : Int) := by
  unfold bt
  have h' : q < a.size := by rw [Lib.size_eq]; exact h
  rw [dif_pos (show (q : Int).toNat < a.size by simpa using h')]
  rfl
theorem drop_at {L : List UInt8} {q : Nat} (h : q < L.length) : L.drop q = L[q] :: L.drop (q + 1) := List.drop_eq_getElem_cons h

theorem dropW_nil {p : UInt8 → Bool} : ∀ {l : List UInt8}, l.dropWhile p = [] ↔ ∀ x ∈ l, p x = true
  | [] => by simp
  | y :: l => by
    rw [List.dropWhile_cons]
    by_cases h : p y = true
    · rw [if_pos h, dropW_nil]
      simp [h]
    · rw [if_neg h]
      simp [h]
def isD (c : UInt8) : Bool := decide (48 ≤ (c.toNat : Int) ∧ (c.toNat : Int) ≤ 57)
def dv (c : UInt8) : Int := ((c.toNat : Int) - 48) % 256
theorem dv_of {c : UInt8} (h : isD c = true) : 0 ≤ dv c ∧ dv c ≤ 9 := by
  unfold isD at h
  unfold dv
  have := of_decide_eq_true h
  omega
def numS : Int → List UInt8 → Int × Int
  | n, [] => (n, 0)
  | n, c :: r => if n > (9223372036854775807 - dv c) / 10 then (0, 121) else numS (10 * n + dv c) r
def NumS (s : List UInt8) : Int × Int := if s = [] then (0, 120) else if s.all isD = true then numS 0 s else (0, 120)

theorem step_num {n d : Int} (hn : 0 ≤ n) (hd0 : 0 ≤ d) (hd9 : d ≤ 9) (hle : ¬ n > (9223372036854775807 - d) / 10) : 0 ≤ 10 * n + d ∧ 10 * n + d ≤ 9223372036854775807 ∧ wrap64 (wrap64 (10 * n) + d) = 10 * n + d := by
  have h1 : n ≤ (9223372036854775807 - d) / 10 := by omega
  have h2 : 10 * n + d ≤ 9223372036854775807 := by omega
  have e : wrap64 (10 * n) = 10 * n := w63 (by omega) (by omega)
  rw [e]
  exact ⟨by omega, h2, w63 (by omega) h2⟩

theorem pax_l0 (L : List UInt8) (hl : L.length ≤ 140737488351232) (d : Nat) : ∀ (k q : Nat) (n : Int), q + d = L.length → d + 1 ≤ k → 0 ≤ n → (L.drop q).all isD = true →
    pax_Number.l0 k n (L.map fun b => (b.toNat : Int)) (L.length : Int) (q : Int) = some (numS n (L.drop q)) := by
  induction d with
  | zero =>
    intro k q n hq hk hn hD
    obtain ⟨k, rfl⟩ : ∃ j, k = j + 1 := ⟨k - 1, by omega⟩
    unfold pax_Number.l0
    rw [if_neg (by omega), List.drop_of_length_le (by omega)]
    rfl
  | succ d ih =>
    intro k q n hq hk hn hD
    obtain ⟨k, rfl⟩ : ∃ j, k = j + 1 := ⟨k - 1, by omega⟩
    have hlt : q < L.length := by omega
    rw [drop_at hlt] at hD ⊢
    simp only [List.all_cons, Bool.and_eq_true] at hD
    obtain ⟨hd0, hd9⟩ := dv_of hD.1
    have er : ((rd (L.map fun b => (b.toNat : Int)) (q : Int)) - 48) % 256 = dv L[q] := by
      unfold rd dv
      simp [List.getD, hlt]
    have ew : wrap64 ((q : Int) + 1) = ((q + 1 : Nat) : Int) := by rw [w63 (by omega) (by omega)]; omega
    unfold pax_Number.l0
    rw [if_pos (by omega), if_pos (by omega), if_pos (by simp; omega), er, ew]
    unfold numS
    by_cases hb : n > (9223372036854775807 - dv L[q]) / 10
    · rw [if_pos hb, if_pos hb]
    · obtain ⟨s0, s1, s2⟩ := step_num hn hd0 hd9 hb
      rw [if_neg hb, if_neg hb, s2]
      exact ih k (q + 1) _ (by omega) (by omega) s0 hD.2

theorem digits_f (a : ByteArray) (ha : a.size ≤ 140737488351232) : pax_digits.f a = some (a.data.toList.all isD) := by
  unfold pax_digits.f strings_Trim.f
  rw [if_pos (by omega), if_pos (by decide), if_pos (by decide)]
  simp only [Option.bind_some, Option.some.injEq]
  have hc : ∀ c : UInt8, (([48, 49, 50, 51, 52, 53, 54, 55, 56, 57] : List UInt8).contains c) = isD c := by
    intro c
    have : ∀ n : Fin 256, (([48, 49, 50, 51, 52, 53, 54, 55, 56, 57] : List UInt8).contains (UInt8.ofNat n.val)) = isD (UInt8.ofNat n.val) := by decide +kernel
    simpa using this ⟨c.toNat, c.toNat_lt⟩
  generalize a.data.toList = L
  show ((⟨(Lib.trimS L [48, 49, 50, 51, 52, 53, 54, 55, 56, 57]).toArray⟩ : ByteArray).toList == ([] : List UInt8)) = L.all isD
  rw [Lib.toList_data]
  show (Lib.trimS L [48, 49, 50, 51, 52, 53, 54, 55, 56, 57] == ([] : List UInt8)) = L.all isD
  unfold Lib.trimS Lib.trimLeftS Lib.trimRightS
  simp only [hc]
  by_cases hA : L.all isD = true
  · rw [hA]
    have e1 : L.reverse.dropWhile (fun c => isD c) = [] := by
      rw [dropW_nil]
      intro x hx
      exact List.all_eq_true.1 hA x (List.mem_reverse.1 hx)
    rw [e1]
    rfl
  · have hf : L.all isD = false := by simpa using hA
    rw [hf]
    rw [beq_eq_false_iff_ne]
    intro h0
    apply hA
    rw [dropW_nil] at h0
    have h1 : ∀ x ∈ L.reverse.dropWhile (fun c => isD c), isD x = true := fun x hx => h0 x (List.mem_reverse.2 hx)
    have h2 : L.reverse.dropWhile (fun c => isD c) = [] := by
      cases hh : L.reverse.dropWhile (fun c => isD c) with
      | nil => rfl
      | cons x r =>
        have := List.head?_dropWhile_not (fun c => isD c) L.reverse
        rw [hh] at this
        simp only [List.head?_cons] at this
        have h3 := h1 x (by rw [hh]; exact List.mem_cons_self)
        simp_all
    rw [dropW_nil] at h2
    exact List.all_eq_true.2 fun x hx => h2 x (List.mem_reverse.2 hx)

theorem size_nil {a : ByteArray} : (a.toList = ([] : List UInt8)) ↔ a.data.toList = [] := by rw [Lib.toList_data]

theorem pax_Number_f (a : ByteArray) (ha : a.size ≤ 140737488351232) (k : Nat) (hk : a.size + 3 ≤ k) : pax_Number.f k a = some (NumS a.data.toList) := by
  obtain ⟨k, rfl⟩ : ∃ j, k = j + 1 := ⟨k - 1, by omega⟩
  unfold pax_Number.f NumS
  by_cases h0 : a.toList = ([] : List UInt8)
  · rw [if_pos h0, if_pos (size_nil.1 h0)]
    rw [pax_Number.j0, if_pos rfl]
  · rw [if_neg h0, if_neg (fun x => h0 (size_nil.2 x)), digits_f a ha]
    simp only [Option.bind_some]
    rw [pax_Number.j0]
    cases hD : a.data.toList.all isD with
    | false => rfl
    | true =>
      rw [if_neg (by simp), if_pos rfl, if_pos (by omega)]
      simp only [Option.bind_some]
      have := pax_l0 a.data.toList (by rw [← Lib.size_eq]; exact ha) a.data.toList.length k 0 0 (by omega) (by rw [← Lib.size_eq]; omega) (by omega) (by simpa using hD)
      unfold bytesOf
      rw [List.length_map]
      simpa using this

end Go.Proofs.YtohgoaiimhhckaaDoor.NumBridge
