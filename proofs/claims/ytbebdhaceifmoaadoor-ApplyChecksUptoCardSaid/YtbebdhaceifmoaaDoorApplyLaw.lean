/- The law ApplyChecks: Check of any entry, bytes and policy is the document's. -/
import Derived.Test.YtbebdhaceifmoaaDoorSplitLaw
namespace Go.Proofs.YtbebdhaceifmoaaDoor.ApplyLaw
open Go.RowKit Go.Proofs.YtbebdhaceifmoaaDoor.PApplyChecks Go.Proofs.YtbebdhaceifmoaaDoorW.PrintWords Go.Proofs.YtbebdhaceifmoaaDoorW.PrintLast
set_option linter.unusedVariables false
theorem target_l0 (s : ByteArray) (hs : s.size ≤ 4398046511104) : ∀ (n k i : Nat), i + n = s.size → n + 1 ≤ k → satchelref10_Target.l0 k s (i : Int) = some (!(s.data.toList.drop i).contains 0 && (decide (1 ≤ s.size) && decide (s.size ≤ 4096)))
  | 0, k, i, hi, hk => by
    obtain ⟨k, rfl⟩ : ∃ m, k = m + 1 := ⟨k - 1, by omega⟩
    rw [satchelref10_Target.l0, if_neg (by omega), List.drop_eq_nil_of_le (by rw [← Lib.size_eq]; omega)]
    by_cases h : (s.size : Int) ≥ 1
    · rw [if_pos h, show decide (1 ≤ s.size) = true from decide_eq_true (by omega)]
      by_cases h2 : s.size ≤ 4096
      · rw [show decide ((s.size : Int) ≤ 4096) = true from decide_eq_true (by omega), show decide (s.size ≤ 4096) = true from decide_eq_true h2]; rfl
      · rw [show decide ((s.size : Int) ≤ 4096) = false from decide_eq_false (by omega), show decide (s.size ≤ 4096) = false from decide_eq_false h2]; rfl
    · rw [if_neg h, show decide (1 ≤ s.size) = false from decide_eq_false (by omega)]; rfl
  | n + 1, k, i, hi, hk => by
    obtain ⟨k, rfl⟩ : ∃ m, k = m + 1 := ⟨k - 1, by omega⟩
    have hlt : i < s.data.toList.length := by rw [← Lib.size_eq]; omega
    rw [satchelref10_Target.l0, if_pos (by omega), if_pos (by omega), w_succ (by omega), List.drop_eq_getElem_cons hlt]
    by_cases h : s.data.toList[i]? = some 0
    · rw [if_pos ((bt_0 (by omega)).2 h)]
      rw [List.getElem?_eq_getElem hlt, Option.some.injEq] at h
      rw [h]
      simp
    · rw [if_neg (fun e => h ((bt_0 (by omega)).1 e)), target_l0 s hs n k (i + 1) (by omega) (by omega)]
      rw [List.getElem?_eq_getElem hlt, Option.some.injEq] at h
      generalize s.data.toList[i] = x at h ⊢
      rw [List.contains_cons, show ((0 : UInt8) == x) = false by simpa using fun e => h e.symm, Bool.false_or]
def badT (s : ByteArray) : Bool := decide (s.size = 0) || (decide (4096 < s.size) || zeroB s)
theorem target_ev (s : ByteArray) (hs : s.size ≤ 1048576) : Ev (fun k => satchelref10_Target.f k s) (· = !badT s) :=
  Ev.at (s.size + 1) fun k hk => by
    have h := target_l0 s (by omega) s.size k 0 (by omega) (by omega)
    rw [List.drop_zero] at h
    show satchelref10_Target.l0 k s ((0 : Nat) : Int) = _
    rw [h]
    unfold badT zeroB
    congr 1
    generalize s.data.toList.contains 0 = z
    by_cases h1 : s.size = 0
    · simp [h1]
    · by_cases h2 : 4096 < s.size
      · simp [h1, h2, show ¬ s.size ≤ 4096 by omega]
      · simp [h1, h2, show s.size ≤ 4096 by omega, show 1 ≤ s.size by omega]
theorem splitS_ok {s : ByteArray} (h : (splitS s).2 = 0) : 1 ≤ (splitS s).1.length ∧ (splitS s).1.length ≤ 256 := by
  unfold splitS path_Split.g at h ⊢
  split at h; · simp at h
  split at h; · simp at h
  split at h; · simp at h
  split at h; · simp at h
  split at h; · simp at h
  split at h; · simp at h
  split at h; · simp at h
  rename_i h1 h2 h3 h4 h5 h6 h7
  rw [if_neg h1, if_neg h2, if_neg h3, if_neg h4, if_neg h5, if_neg h6, if_neg h7]
  refine ⟨show 1 ≤ (List.filter keep (pcs s)).length by omega, ?_⟩
  show (List.filter keep (pcs s)).length ≤ 256
  omega
def codeS (p3 : Bool) (n : Nat) (link : ByteArray) : Int := if badT link = true then 107 else if p3 = true then 0 else if leaves (n - 1) link = true then 190 else 0
def codeA (n : Nat) (a1 m nano : Int) (link : ByteArray) (size : Int) (len : Nat) (p3 : Bool) : Int :=
  if 4095 < m ∨ nano < 0 ∨ 999999999 < nano then 1 else if a1 = 2 then (if size = (len : Int) then 0 else 192) else if a1 = 3 then codeS p3 n link else if a1 = 4 then (splitS link).2 else 0
def codeB (name : ByteArray) (a1 m nano : Int) (link : ByteArray) (size : Int) (len : Nat) (p3 : Bool) : Int :=
  if (splitS name).2 = 0 then (if a1 < 1 ∨ a1 > 4 then 193 else codeA (splitS name).1.length a1 m nano link size len p3) else (splitS name).2
def codeC (there : Int) (name : ByteArray) (a1 m nano : Int) (link : ByteArray) (size : Int) (len : Nat) (p3 : Bool) : Int :=
  if there < 0 ∨ there > 2 then 1 else codeB name a1 m nano link size len p3
section
variable (a0 : ByteArray) (a1 a2 a3 a4 a5 a6 : Int) (a7 a8 a9 : ByteArray) (a10 a11 : Int) (l1 : List Int) (p0 : Int) (p1 : Bool) (p2 : Int) (p3 : Bool)
theorem wrong_j2 (n0 : a9.size ≤ 1048576) (x8 : List ByteArray) (h8 : 1 ≤ x8.length) (h9 : x8.length ≤ 256) (b : Bool) (hb : b = badT a9) :
    Ev (fun k => apply_wrong.j2 k x8 b a0 a1 a2 a3 a4 a5 a6 a7 a8 a9 a10 a11 p0 p1 p2 p3) (fun v => v.2 = codeS p3 x8.length a9) := by
  refine Ev.succ ?_
  simp only [apply_wrong.j2, codeS, ← hb]
  refine Ev.ite (fun h => Ev.const (by rw [if_pos h])) (fun h => ?_)
  simp only [if_neg h]
  refine Ev.ite (fun h => Ev.const (by rw [if_pos h])) (fun h => ?_)
  simp only [if_neg h]
  have e1 : wrap64 ((x8.length : Int) - 1) = ((x8.length - 1 : Nat) : Int) := (w64 (by omega) (by omega)).trans (by omega)
  rw [e1]
  refine Ev.ite (fun _ => ?_) (fun h => absurd (by omega) h)
  refine Ev.ite (fun _ => ?_) (fun h => absurd (by omega) h)
  have el : (x8.take ((x8.length - 1 : Nat) : Int).toNat).length = x8.length - 1 := by rw [List.length_take]; omega
  have hv := leaves_ev (x8.take ((x8.length - 1 : Nat) : Int).toNat) a9 (by omega) n0
  rw [el] at hv
  refine Ev.bind hv (Ev.ite (fun h => Ev.const (by rw [if_pos h])) (fun h => Ev.const (by rw [if_neg h])))
theorem wrong_j1 (n0 : a9.size ≤ 1048576) (x8 : List ByteArray) (h8 : 1 ≤ x8.length) (h9 : x8.length ≤ 256) (b : Bool) (m b1 b2 b3 nano : Int) :
    Ev (fun k => apply_wrong.j1 k l1 x8 b a0 a1 a2 a3 a4 a5 a6 a7 a8 a9 a10 a11 p0 p1 p2 p3 m b1 b2 b3 nano) (fun v => v.2 = if b = true then 193 else codeA x8.length a1 m nano a9 a10 l1.length p3) := by
  refine Ev.succ ?_
  simp only [apply_wrong.j1]
  refine Ev.ite (fun h => Ev.const (by rw [if_pos h])) (fun h => ?_)
  simp only [if_neg h, codeA]
  refine Ev.ite (fun h => Ev.const (by rw [if_pos (.inl h)])) (fun h1 => ?_)
  refine Ev.ite (fun h => Ev.const (by rw [if_pos (.inr (.inl h))])) (fun h2 => ?_)
  refine Ev.ite (fun h => Ev.const (by rw [if_pos (.inr (.inr h))])) (fun h3 => ?_)
  have hm : ¬ (4095 < m ∨ nano < 0 ∨ 999999999 < nano) := by omega
  simp only [if_neg hm]
  refine Ev.ite (fun h => ?_) (fun h => ?_)
  · simp only [if_pos h]
    exact Ev.ite (fun h => Ev.const (by rw [if_pos h])) (fun h => Ev.const (by rw [if_neg h]))
  simp only [if_neg h]
  refine Ev.ite (fun h => ?_) (fun h => ?_)
  · simp only [if_pos h]
    have et : a9.toList = [] ↔ a9.size = 0 := by rw [Lib.toList_data, Lib.size_eq, List.length_eq_zero_iff]
    refine Ev.ite (fun h => wrong_j2 a0 a1 a2 a3 a4 a5 a6 a7 a8 a9 a10 a11 p0 p1 p2 p3 n0 x8 h8 h9 true (by unfold badT; rw [decide_eq_true (et.1 h)]; rfl)) (fun h => ?_)
    have hz : decide (a9.size = 0) = false := decide_eq_false (fun e => h (et.2 e))
    refine Ev.ite (fun h => wrong_j2 a0 a1 a2 a3 a4 a5 a6 a7 a8 a9 a10 a11 p0 p1 p2 p3 n0 x8 h8 h9 true (by unfold badT; rw [hz, decide_eq_true (show 4096 < a9.size by omega)]; rfl)) (fun h => ?_)
    have hz2 : decide (4096 < a9.size) = false := decide_eq_false (by omega)
    unfold strings_IndexByte.f
    simp only [Option.bind_some]
    refine wrong_j2 a0 a1 a2 a3 a4 a5 a6 a7 a8 a9 a10 a11 p0 p1 p2 p3 n0 x8 h8 h9 _ ?_
    unfold badT
    rw [hz, hz2, Bool.false_or, Bool.false_or]
    have hi := index_zero a9
    cases hzz : zeroB a9 with
    | true => exact decide_eq_true (hi.2 hzz)
    | false => exact decide_eq_false (fun e => by rw [hi.1 e] at hzz; cases hzz)
  simp only [if_neg h]
  refine Ev.ite (fun h => ?_) (fun h => Ev.const (by rw [if_neg h]))
  simp only [if_pos h]
  exact Ev.bind (path_split_ev a9 n0) (Ev.ite (fun h => Ev.const h.symm) (fun h => Ev.const rfl))
theorem wrong_j0 (n0 : a9.size ≤ 1048576) (n1 : a0.size ≤ 1048576) (b : Bool) :
    Ev (fun k => apply_wrong.j0 k l1 b a0 a1 a2 a3 a4 a5 a6 a7 a8 a9 a10 a11 p0 p1 p2 p3) (fun v => v.2 = if b = true then 1 else codeB a0 a1 (Go.bits .andNot .u32 a2 p2) a6 a9 a10 l1.length p3) := by
  refine Ev.succ ?_
  simp only [apply_wrong.j0]
  refine Ev.ite (fun h => Ev.const (by rw [if_pos h])) (fun h => ?_)
  simp only [if_neg h, codeB]
  refine Ev.bind (path_split_ev a0 n1) ?_
  unfold apply_ours.f
  simp only [Option.bind_some]
  refine Ev.ite (fun h => ?_) (fun h => Ev.const (by rw [if_neg h]))
  simp only [if_pos h]
  obtain ⟨h8, h9⟩ := splitS_ok h
  refine Ev.ite (fun h => ?_) (fun h => ?_)
  · refine (wrong_j1 a0 a1 a2 a3 a4 a5 a6 a7 a8 a9 a10 a11 l1 p0 p1 p2 p3 n0 _ h8 h9 true _ _ _ _ _).imp (fun v hv => ?_)
    rw [hv, if_pos rfl, if_pos (.inl h)]
  · refine (wrong_j1 a0 a1 a2 a3 a4 a5 a6 a7 a8 a9 a10 a11 l1 p0 p1 p2 p3 n0 _ h8 h9 _ _ _ _ _ _).imp (fun v hv => ?_)
    rw [hv]
    by_cases h4 : a1 > 4
    · rw [if_pos (decide_eq_true h4), if_pos (.inr h4)]
    · rw [if_neg (by rw [decide_eq_false h4]; decide), if_neg (by omega)]
theorem check_ev (n0 : a9.size ≤ 1048576) (n1 : a0.size ≤ 1048576) :
    Ev (fun k => apply_Check.f k a0 a1 a2 a3 a4 a5 a6 a7 a8 a9 a10 a11 l1 p0 p1 p2 p3) (· = codeC p0 a0 a1 (Go.bits .andNot .u32 a2 p2) a6 a9 a10 l1.length p3) := by
  have hw : Ev (fun k => apply_wrong.f k a0 a1 a2 a3 a4 a5 a6 a7 a8 a9 a10 a11 l1 p0 p1 p2 p3) (fun v => v.2 = codeC p0 a0 a1 (Go.bits .andNot .u32 a2 p2) a6 a9 a10 l1.length p3) := by
    unfold apply_wrong.f codeC
    refine Ev.ite (fun h => ?_) (fun h => ?_)
    · refine (wrong_j0 a0 a1 a2 a3 a4 a5 a6 a7 a8 a9 a10 a11 l1 p0 p1 p2 p3 n0 n1 true).imp (fun v hv => ?_)
      rw [hv, if_pos rfl, if_pos (.inl h)]
    · refine (wrong_j0 a0 a1 a2 a3 a4 a5 a6 a7 a8 a9 a10 a11 l1 p0 p1 p2 p3 n0 n1 _).imp (fun v hv => ?_)
      rw [hv]
      by_cases h4 : p0 > 2
      · rw [if_pos (decide_eq_true h4), if_pos (.inr h4)]
      · rw [if_neg (by rw [decide_eq_false h4]; decide), if_neg (by omega)]
  exact Ev.bindP hw ⟨0, fun k _ v hv => ⟨v.2, rfl, hv⟩⟩
/-! ### the reference -/
theorem ref_j3 (b : Bool) (h3 : a1 = 3) : Ev (fun k => satchelref19_Check.j3 k b a0 a1 a2 a3 a4 a5 a6 a7 a8 a9 a10 a11) (· = if b = true then 190 else 0) := by
  refine Ev.succ ?_
  simp only [satchelref19_Check.j3]
  refine Ev.ite (fun h => Ev.const (by rw [if_pos h])) (fun h => ?_)
  simp only [if_neg h]
  exact Ev.ite (fun h => absurd h (by omega)) (fun h => Ev.const rfl)
theorem ref_j2 (n0 : a9.size ≤ 1048576) (x7 : List ByteArray) (h8 : 1 ≤ x7.length) (h9 : x7.length ≤ 256) (b : Bool) (hb : b = true → a1 = 2) :
    Ev (fun k => satchelref19_Check.j2 k x7 b a0 a1 a2 a3 a4 a5 a6 a7 a8 a9 a10 a11 p0 p1 p2 p3) (· = if b = true then 192 else if a1 = 3 then codeS p3 x7.length a9 else if a1 = 4 then (splitS a9).2 else 0) := by
  refine Ev.succ ?_
  simp only [satchelref19_Check.j2]
  refine Ev.ite (fun h => Ev.const (by rw [if_pos h])) (fun h => ?_)
  simp only [if_neg h]
  refine Ev.ite (fun h3 => ?_) (fun h3 => ?_)
  · simp only [if_pos h3, codeS]
    refine Ev.bind (target_ev a9 n0) ?_
    refine Ev.ite (fun ht => ?_) (fun ht => Ev.const ?_)
    · have hb : ¬ badT a9 = true := by simpa using ht
      simp only [if_neg hb]
      refine Ev.ite (fun hp => ?_) (fun hp => ?_)
      · simp only [if_pos hp]
        exact (ref_j3 a0 a1 a2 a3 a4 a5 a6 a7 a8 a9 a10 a11 false h3)
      · simp only [if_neg hp]
        have e1 : wrap64 ((x7.length : Int) - 1) = ((x7.length - 1 : Nat) : Int) := (w64 (by omega) (by omega)).trans (by omega)
        rw [e1]
        refine Ev.ite (fun _ => ?_) (fun h => absurd (by omega) h)
        refine Ev.ite (fun _ => ?_) (fun h => absurd (by omega) h)
        have el : (x7.take ((x7.length - 1 : Nat) : Int).toNat).length = x7.length - 1 := by rw [List.length_take]; omega
        have hv := ref_leaves_ev (x7.take ((x7.length - 1 : Nat) : Int).toNat) a9 (by omega) n0
        rw [el] at hv
        exact Ev.bind hv (ref_j3 a0 a1 a2 a3 a4 a5 a6 a7 a8 a9 a10 a11 _ h3)
    · have hb : badT a9 = true := by simpa using ht
      rw [if_pos hb]
  · simp only [if_neg h3]
    refine Ev.ite (fun h4 => ?_) (fun h4 => Ev.const (by rw [if_neg h4]))
    simp only [if_pos h4]
    exact Ev.bind (ref_split_ev a9 n0) (Ev.const rfl)
theorem ref_j1 (n0 : a9.size ≤ 1048576) (x7 : List ByteArray) (h8 : 1 ≤ x7.length) (h9 : x7.length ≤ 256) (b : Bool) :
    Ev (fun k => satchelref19_Check.j1 k l1 x7 b a0 a1 a2 a3 a4 a5 a6 a7 a8 a9 a10 a11 p0 p1 p2 p3) (· = if b = true then 193 else codeA x7.length a1 (Go.bits .andNot .u32 a2 p2) a6 a9 a10 l1.length p3) := by
  refine Ev.succ ?_
  simp only [satchelref19_Check.j1]
  refine Ev.ite (fun h => Ev.const (by rw [if_pos h])) (fun h => ?_)
  simp only [if_neg h, codeA]
  unfold satchelref19_Meta.f satchelref10_Meta.f
  simp only [Option.bind_some]
  generalize Go.bits .andNot .u32 a2 p2 = m
  have hmeta : (if m ≤ 4095 then (if a6 ≥ 0 then some (decide (a6 ≤ 999999999)) else some false) else some false) = some (!decide (4095 < m ∨ a6 < 0 ∨ 999999999 < a6)) := by
    by_cases h1 : m ≤ 4095
    · rw [if_pos h1]
      by_cases h2 : a6 ≥ 0
      · rw [if_pos h2]
        by_cases h3 : a6 ≤ 999999999
        · rw [decide_eq_true h3, decide_eq_false (by omega)]; rfl
        · rw [decide_eq_false h3, decide_eq_true (by omega)]; rfl
      · rw [if_neg h2, decide_eq_true (by omega)]; rfl
    · rw [if_neg h1, decide_eq_true (by omega)]; rfl
  rw [hmeta]
  simp only [Option.bind_some]
  refine Ev.ite (fun h => ?_) (fun h => Ev.const ?_)
  · have hm : ¬ (4095 < m ∨ a6 < 0 ∨ 999999999 < a6) := by simpa using h
    simp only [if_neg hm]
    refine Ev.ite (fun h2 => ?_) (fun h2 => ?_)
    · refine (ref_j2 a0 a1 a2 a3 a4 a5 a6 a7 a8 a9 a10 a11 p0 p1 p2 p3 n0 x7 h8 h9 (a10 != (l1.length : Int)) (fun _ => h2)).imp (fun v hv => ?_)
      rw [hv, if_pos h2]
      by_cases he : a10 = (l1.length : Int)
      · rw [if_neg (by simp [he]), if_neg (by omega), if_neg (by omega), if_pos he]
      · rw [if_pos (by simpa using he), if_neg he]
    · refine (ref_j2 a0 a1 a2 a3 a4 a5 a6 a7 a8 a9 a10 a11 p0 p1 p2 p3 n0 x7 h8 h9 false (fun h => by cases h)).imp (fun v hv => ?_)
      rw [hv, if_neg (by decide), if_neg h2]
  · have hm : (4095 < m ∨ a6 < 0 ∨ 999999999 < a6) := by
      rw [Bool.not_eq_true, Bool.not_eq_false', decide_eq_true_eq] at h
      exact h
    rw [if_pos hm]
theorem ref_j0 (n0 : a9.size ≤ 1048576) (n1 : a0.size ≤ 1048576) (b : Bool) :
    Ev (fun k => satchelref19_Check.j0 k l1 b a0 a1 a2 a3 a4 a5 a6 a7 a8 a9 a10 a11 p0 p1 p2 p3) (· = if b = true then 1 else codeB a0 a1 (Go.bits .andNot .u32 a2 p2) a6 a9 a10 l1.length p3) := by
  refine Ev.succ ?_
  simp only [satchelref19_Check.j0]
  refine Ev.ite (fun h => Ev.const (by rw [if_pos h])) (fun h => ?_)
  simp only [if_neg h, codeB]
  refine Ev.bind (ref_split_ev a0 n1) ?_
  refine Ev.ite (fun h => ?_) (fun h => Ev.const (by rw [if_neg h]))
  simp only [if_pos h]
  obtain ⟨h8, h9⟩ := splitS_ok h
  refine Ev.ite (fun h => ?_) (fun h => ?_)
  · refine (ref_j1 a0 a1 a2 a3 a4 a5 a6 a7 a8 a9 a10 a11 l1 p0 p1 p2 p3 n0 _ h8 h9 true).imp (fun v hv => ?_)
    rw [hv, if_pos rfl, if_pos (.inl h)]
  · refine (ref_j1 a0 a1 a2 a3 a4 a5 a6 a7 a8 a9 a10 a11 l1 p0 p1 p2 p3 n0 _ h8 h9 _).imp (fun v hv => ?_)
    rw [hv]
    by_cases h4 : a1 > 4
    · rw [if_pos (decide_eq_true h4), if_pos (.inr h4)]
    · rw [if_neg (by rw [decide_eq_false h4]; decide), if_neg (by omega)]
theorem ref_ev (n0 : a9.size ≤ 1048576) (n1 : a0.size ≤ 1048576) :
    Ev (fun k => satchelref19_Check.f k a0 a1 a2 a3 a4 a5 a6 a7 a8 a9 a10 a11 l1 p0 p1 p2 p3) (· = codeC p0 a0 a1 (Go.bits .andNot .u32 a2 p2) a6 a9 a10 l1.length p3) := by
  unfold satchelref19_Check.f codeC
  refine Ev.ite (fun h => ?_) (fun h => ?_)
  · refine (ref_j0 a0 a1 a2 a3 a4 a5 a6 a7 a8 a9 a10 a11 l1 p0 p1 p2 p3 n0 n1 true).imp (fun v hv => ?_)
    rw [hv, if_pos rfl, if_pos (.inl h)]
  · refine (ref_j0 a0 a1 a2 a3 a4 a5 a6 a7 a8 a9 a10 a11 l1 p0 p1 p2 p3 n0 n1 _).imp (fun v hv => ?_)
    rw [hv]
    by_cases h4 : p0 > 2
    · rw [if_pos (decide_eq_true h4), if_pos (.inr h4)]
    · rw [if_neg (by rw [decide_eq_false h4]; decide), if_neg (by omega)]
end
/-! ### what was lent -/
theorem kept_l0 (l : List Int) (hl : l.length ≤ 1099511627776) : ∀ (n k i : Nat), i + n = l.length + 32 → n + 1 ≤ k → satchellaw19_kept.l0 k (l ++ satchellaw19_lent.marks 32) l (i : Int) = some true
  | 0, k, i, hi, hk => by
    obtain ⟨k, rfl⟩ : ∃ m, k = m + 1 := ⟨k - 1, by omega⟩
    have e : (l ++ satchellaw19_lent.marks 32).length = l.length + 32 := by simp [satchellaw19_lent.marks]
    rw [satchellaw19_kept.l0, e, if_neg (by omega)]
  | n + 1, k, i, hi, hk => by
    obtain ⟨k, rfl⟩ : ∃ m, k = m + 1 := ⟨k - 1, by omega⟩
    have e : (l ++ satchellaw19_lent.marks 32).length = l.length + 32 := by simp [satchellaw19_lent.marks]
    rw [satchellaw19_kept.l0, e, if_pos (by omega), w_succ (by omega)]
    by_cases h : i < l.length
    · have er : rd (l ++ satchellaw19_lent.marks 32) (i : Int) = rd l (i : Int) := by simp only [rd, Int.toNat_natCast, List.getD_eq_getElem?_getD]; rw [List.getElem?_append_left h]
      rw [if_pos (by omega), if_pos (by omega), if_pos er, if_neg (by omega)]
      exact kept_l0 l hl n k (i + 1) (by omega) (by omega)
    · obtain ⟨j, rfl⟩ : ∃ j, i = l.length + j := ⟨i - l.length, by omega⟩
      have er : rd (l ++ satchellaw19_lent.marks 32) ((l.length + j : Nat) : Int) = 171 + (j : Int) := by
        have hj : j < 32 := by omega
        simp only [rd, Int.toNat_natCast, List.getD_eq_getElem?_getD]
        rw [List.getElem?_append_right (by omega), show l.length + j - l.length = j by omega]
        simp [satchellaw19_lent.marks, hj]
      have ew : wrap64 (171 + ((l.length + j : Nat) : Int)) = 171 + ((l.length + j : Nat) : Int) := w64 (by omega) (by omega)
      have ew2 : wrap64 (171 + ((l.length + j : Nat) : Int) - (l.length : Int)) = 171 + (j : Int) := (w64 (by omega) (by omega)).trans (by omega)
      rw [if_neg (by omega), if_pos (by omega), if_pos (by omega), er, ew, ew2]
      clear ew ew2 er
      rw [if_pos (by omega)]
      exact kept_l0 l hl n k (l.length + j + 1) (by omega) (by omega)
theorem kept_ev (l : List Int) (hl : l.length ≤ 1099511627776) : Ev (fun k => satchellaw19_kept.f k (l ++ satchellaw19_lent.marks 32) l) (· = true) :=
  Ev.at (l.length + 33) fun k hk => kept_l0 l hl (l.length + 32) k 0 (by omega) (by omega)
theorem dots_code : codeC 0 ⟨#[46, 46]⟩ 1 (Go.bits .andNot .u32 0 0) 0 ⟨#[]⟩ 0 0 false = 92 := by decide +kernel
theorem law (a0 : ByteArray) (a1 a2 a3 a4 a5 a6 : Int) (a7 a8 a9 : ByteArray) (a10 a11 : Int) (l : List Int) (p0 : Int) (p1 : Bool) (p2 : Int) (p3 : Bool)
    (n0 : a0.size ≤ 1048576) (n9 : a9.size ≤ 1048576) (nl : l.length ≤ 1048576) : ∃ k, satchellaw19_ApplyChecks.f k a0 a1 a2 a3 a4 a5 a6 a7 a8 a9 a10 a11 l p0 p1 p2 p3 = some true := by
  have h : Ev (fun k => satchellaw19_ApplyChecks.f k a0 a1 a2 a3 a4 a5 a6 a7 a8 a9 a10 a11 l p0 p1 p2 p3) (· = true) := by
    unfold satchellaw19_ApplyChecks.f satchellaw19_lent.f
    rw [if_pos (by omega)]
    simp only [Option.bind_some]
    refine Ev.bind (check_ev a0 a1 a2 a3 a4 a5 a6 a7 a8 a9 a10 a11 l p0 p1 p2 p3 n9 n0) ?_
    refine Ev.bind (ref_ev a0 a1 a2 a3 a4 a5 a6 a7 a8 a9 a10 a11 l p0 p1 p2 p3 n9 n0) ?_
    refine Ev.ite (fun _ => ?_) (fun h => absurd rfl h)
    refine Ev.bind (kept_ev l (by omega)) ?_
    refine Ev.ite (fun _ => ?_) (fun h => absurd rfl h)
    refine Ev.bind (check_ev (⟨#[46, 46]⟩ : ByteArray) 1 0 0 0 0 0 (⟨#[]⟩ : ByteArray) (⟨#[]⟩ : ByteArray) (⟨#[]⟩ : ByteArray) 0 0 ([] : List Int) 0 false 0 false (by decide) (by decide)) (Ev.const ?_)
    rw [show (([] : List Int).length) = 0 from rfl, dots_code]
    rfl
  obtain ⟨K, hK⟩ := h
  obtain ⟨v, e, rfl⟩ := hK K (Nat.le_refl _)
  exact ⟨K, e⟩
end Go.Proofs.YtbebdhaceifmoaaDoor.ApplyLaw
