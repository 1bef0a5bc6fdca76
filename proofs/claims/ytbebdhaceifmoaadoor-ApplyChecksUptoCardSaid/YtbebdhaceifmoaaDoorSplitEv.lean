/- What is computed with enough fuel; the pieces between slashes: the program's (strings.Split) and the reference's are the same. -/
import Derived.Test.YtbebdhaceifmoaaDoorPApplyChecksx21
import Derived.Lib.SplitLaws
import Derived.Lib.IndexLaws
import Derived.Lib.IndexBytes
namespace Go.Proofs.YtbebdhaceifmoaaDoor.ApplyLaw
open Go.RowKit Go.Proofs.YtbebdhaceifmoaaDoor.PApplyChecks Go.Proofs.YtbebdhaceifmoaaDoorW.PrintWords Go.Proofs.YtbebdhaceifmoaaDoorW.PrintLast
set_option linter.unusedVariables false
section
variable {α β : Type}
/-- With enough fuel a value of which P is so. -/
def Ev (g : Nat → Option α) (P : α → Prop) : Prop := ∃ K, ∀ k, K ≤ k → ∃ v, g k = some v ∧ P v
theorem Ev.const {v : α} {P : α → Prop} (h : P v) : Ev (fun _ => some v) P := ⟨0, fun _ _ => ⟨v, rfl, h⟩⟩
theorem Ev.bind {f : Nat → Option α} {g : Nat → α → Option β} {Q : β → Prop} {a : α} (hf : Ev f (· = a)) (hg : Ev (fun k => g k a) Q) : Ev (fun k => (f k).bind (g k)) Q := by
  obtain ⟨K1, h1⟩ := hf
  obtain ⟨K2, h2⟩ := hg
  refine ⟨max K1 K2, fun k hk => ?_⟩
  obtain ⟨v, e, rfl⟩ := h1 k (by omega)
  show ∃ u, (f k).bind (g k) = some u ∧ Q u
  rw [e]
  exact h2 k (by omega)
theorem Ev.bindP {f : Nat → Option α} {g : Nat → α → Option β} {P : α → Prop} {Q : β → Prop} (hf : Ev f P) (hg : ∃ K, ∀ k, K ≤ k → ∀ v, P v → ∃ r, g k v = some r ∧ Q r) : Ev (fun k => (f k).bind (g k)) Q := by
  obtain ⟨K1, h1⟩ := hf
  obtain ⟨K2, h2⟩ := hg
  refine ⟨max K1 K2, fun k hk => ?_⟩
  obtain ⟨v, e, hp⟩ := h1 k (by omega)
  show ∃ u, (f k).bind (g k) = some u ∧ Q u
  rw [e]
  exact h2 k (by omega) v hp
theorem Ev.succ {g : Nat → Option α} {P : α → Prop} (h : Ev (fun k => g (k + 1)) P) : Ev g P := by
  obtain ⟨K, h⟩ := h
  refine ⟨K + 1, fun k hk => ?_⟩
  obtain ⟨m, rfl⟩ : ∃ m, k = m + 1 := ⟨k - 1, by omega⟩
  exact h m (by omega)
theorem Ev.ite {c : Prop} [Decidable c] {f g : Nat → Option α} {P : α → Prop} (h1 : c → Ev f P) (h2 : ¬ c → Ev g P) : Ev (fun k => if c then f k else g k) P := by
  by_cases h : c
  · simpa [h] using h1 h
  · simpa [h] using h2 h
theorem Ev.imp {f : Nat → Option α} {P Q : α → Prop} (h : Ev f P) (hi : ∀ v, P v → Q v) : Ev f Q := by
  obtain ⟨K, h⟩ := h
  exact ⟨K, fun k hk => by obtain ⟨v, e, hp⟩ := h k hk; exact ⟨v, e, hi v hp⟩⟩
theorem Ev.at {f : Nat → Option α} {v : α} (K : Nat) (h : ∀ k, K ≤ k → f k = some v) : Ev f (· = v) := ⟨K, fun k hk => ⟨v, h k hk, rfl⟩⟩
end
theorem w64 {n : Int} (h0 : -9223372036854775808 ≤ n) (h1 : n ≤ 9223372036854775807) : wrap64 n = n := by unfold wrap64; omega
theorem w_succ {i : Nat} (h : i ≤ 4611686018427387904) : wrap64 ((i : Int) + 1) = ((i + 1 : Nat) : Int) := (w64 (by omega) (by omega)).trans (by omega)

/-! ### pieces -/
def cutL (c : UInt8) : List UInt8 → List (List UInt8)
  | [] => [[]]
  | x :: xs => if x = c then [] :: cutL c xs else match cutL c xs with
    | [] => [[x]]
    | h :: t => (x :: h) :: t
def glue (p : List UInt8) : List (List UInt8) → List (List UInt8)
  | [] => [p]
  | h :: t => (p ++ h) :: t
theorem split_cut (c : UInt8) : ∀ L : List UInt8, Lib.splitK [c] 0 (Lib.count L [c]) L = cutL c L
  | [] => by rw [Lib.count_miss (by simp [Lib.index])]; rfl
  | b :: l => by
    have ih := split_cut c l
    by_cases h : b = c
    · subst h
      have hix : Lib.index (b :: l) [b] = 0 := by rw [Lib.index]; simp [List.isPrefixOf]
      rw [Lib.count_cons_eq, Nat.add_comm, Lib.splitK, if_neg (by rw [hix]; decide), hix]
      simp only [cutL, if_pos]
      rw [← ih]
      rfl
    · have hp : ([c] : List UInt8).isPrefixOf (b :: l) = false := by simp [List.isPrefixOf, Ne.symm h]
      have hix : Lib.index (b :: l) [c] = if Lib.index l [c] == -1 then -1 else Lib.index l [c] + 1 := by rw [Lib.index, hp]; simp
      rw [Lib.count_cons_ne b c l h]
      simp only [cutL, if_neg h]
      by_cases hm : Lib.index l [c] = -1
      · rw [Lib.count_miss hm] at ih ⊢
        rw [← ih]
        rfl
      · have hge := Lib.index_ge l [c]
        obtain ⟨j, hj⟩ : ∃ j : Nat, Lib.index l [c] = j := ⟨(Lib.index l [c]).toNat, by omega⟩
        rw [Lib.count_hit (by simp) hj, Nat.add_comm] at ih ⊢
        rw [Lib.splitK, if_neg (by rw [hj]; simp), hj] at ih
        have hb : (Lib.index l [c] == -1) = false := by simpa using hm
        have hix2 : Lib.index (b :: l) [c] = ((j + 1 : Nat) : Int) := by rw [hix, hb, hj]; simp
        rw [Lib.splitK, if_neg (by rw [hix2]; simp; try omega), hix2, ← ih]
        simp
def pcs (s : ByteArray) : List ByteArray := Lib.splitB ⟨#[47]⟩ 0 (Lib.countB s ⟨#[47]⟩) s
theorem pcs_data (s : ByteArray) : (pcs s).map (·.data.toList) = cutL 47 s.data.toList := by
  rw [pcs, Lib.splitB_data]
  exact split_cut 47 _
theorem cut_length (c : UInt8) : ∀ L : List UInt8, (cutL c L).length ≤ L.length + 1
  | [] => by simp [cutL]
  | x :: xs => by
    have ih := cut_length c xs
    unfold cutL
    split
    · simp; omega
    · split
      · simp
      · rename_i h t he
        rw [he] at ih
        simp at ih ⊢
        omega
theorem pcs_length (s : ByteArray) : (pcs s).length ≤ s.size + 1 := by
  have h := congrArg List.length (pcs_data s)
  have := cut_length 47 s.data.toList
  rw [List.length_map] at h
  rw [Lib.size_eq]
  omega
theorem cutL_cons (c x : UInt8) (xs : List UInt8) : cutL c (x :: xs) = if x = c then [] :: cutL c xs else match cutL c xs with
    | [] => [[x]]
    | h :: t => (x :: h) :: t := rfl
theorem cut_ne (c : UInt8) : ∀ L : List UInt8, cutL c L ≠ []
  | [] => by simp [cutL]
  | x :: xs => by
    rw [cutL_cons]
    generalize cutL c xs = Y
    split
    · simp
    · cases Y <;> simp
theorem glue_nil {X : List (List UInt8)} (h : X ≠ []) : glue [] X = X := by
  cases X with
  | nil => exact absurd rfl h
  | cons a b => rfl
theorem glue_cut (p : List UInt8) (x : UInt8) (xs : List UInt8) (c : UInt8) : glue p (cutL c (x :: xs)) = if x = c then p :: cutL c xs else glue (p ++ [x]) (cutL c xs) := by
  rw [cutL_cons]
  generalize cutL c xs = Y
  split
  · simp [glue]
  · cases Y <;> simp [glue]
def rest (s : ByteArray) : Nat → Nat → Nat → List ByteArray
  | 0, f, i => [s.extract f i]
  | n + 1, f, i => if s.data.toList[i]? = some 47 then s.extract f i :: rest s n (i + 1) (i + 1) else rest s n f (i + 1)
theorem rest_data (s : ByteArray) : ∀ (n f i : Nat), i + n = s.size → f ≤ i → (rest s n f i).map (·.data.toList) = glue ((s.data.toList.drop f).take (i - f)) (cutL 47 (s.data.toList.drop i))
  | 0, f, i, hi, hf => by
    have : s.data.toList.drop i = [] := List.drop_eq_nil_of_le (by rw [← Lib.size_eq]; omega)
    rw [this]
    simp [rest, cutL, glue, Lib.extract_data]
  | n + 1, f, i, hi, hf => by
    have hlt : i < s.data.toList.length := by rw [← Lib.size_eq]; omega
    rw [List.drop_eq_getElem_cons hlt, glue_cut]
    unfold rest
    rw [List.getElem?_eq_getElem hlt]
    by_cases h : s.data.toList[i] = 47
    · rw [if_pos (by rw [h]), if_pos h, List.map_cons, rest_data s n (i + 1) (i + 1) (by omega) (Nat.le_refl _), Lib.extract_data]
      simp only [Nat.sub_self, List.take_zero]
      rw [glue_nil (cut_ne _ _)]
    · rw [if_neg (by simpa using h), if_neg h, rest_data s n f (i + 1) (by omega) (by omega)]
      congr 1
      rw [show i + 1 - f = (i - f) + 1 by omega, List.take_add_one]
      congr 1
      rw [List.getElem?_drop, show f + (i - f) = i by omega, List.getElem?_eq_getElem hlt]
      rfl
end Go.Proofs.YtbebdhaceifmoaaDoor.ApplyLaw
