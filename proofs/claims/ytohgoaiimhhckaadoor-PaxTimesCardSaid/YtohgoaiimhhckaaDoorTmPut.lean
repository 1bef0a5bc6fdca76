/- What pax.PutNumber, pax.PutTime and the document's compute is the same text. -/
import Derived.Test.YtohgoaiimhhckaaDoorTmTime
namespace Go.Proofs.YtohgoaiimhhckaaDoor.PutBridge
open Go.RowKit Go.Proofs.YtohgoaiimhhckaaDoor.PPaxTimes Go.Proofs.YtohgoaiimhhckaaDoorW.PrintWords Go.Proofs.YtohgoaiimhhckaaDoorW.PrintLast Go.Proofs.YtohgoaiimhhckaaDoorW.PrintMore Go.Proofs.YtohgoaiimhhckaaDoor.NumBridge Go.Proofs.YtohgoaiimhhckaaDoor.TimeBridge
set_option linter.unusedVariables false

theorem mk_app (x y : List UInt8) : mk x ++ mk y = mk (x ++ y) := by
  apply mk_inj
  rw [mk_l, ByteArray.data_append, Array.toList_append]
  rfl
theorem decDigits_le (u : Nat) : (Lib.decDigits u).length ≤ u + 1 := by
  induction u using Nat.strongRecOn with
  | _ u ih =>
    rw [Lib.decDigits]
    split
    · simp
    · rw [List.length_append]
      have := ih (u / 10) (by omega)
      simp
      omega
/-- What PutNumber answers. -/
def putS (n : Int) : ByteArray × Int := if n < 0 then (⟨#[]⟩, 1) else (mk (Lib.decDigits n.toNat), 0)
theorem pax_PutNumber_f (n : Int) (h0 : -9223372036854775808 ≤ n) (h1 : n ≤ 9223372036854775807) : pax_PutNumber.f n = some (putS n) := by
  unfold pax_PutNumber.f putS
  by_cases h : n < 0
  · rw [if_pos h, if_pos h]
  · rw [if_neg h, if_neg h]
    obtain ⟨u, rfl⟩ := Int.eq_ofNat_of_zero_le (show 0 ≤ n by omega)
    unfold strconv_FormatInt.f
    rw [if_pos rfl, if_pos ⟨by omega, by omega⟩, Lib.itoa_nonneg]
    rfl
theorem dig_pos (u : Nat) : Lib.decDigits u ≠ [] := by
  rw [Lib.decDigits]
  split
  · simp
  · simp
theorem dig_step {u : Nat} (h : ¬ u < 10) : Lib.decDigits u = Lib.decDigits (u / 10) ++ Lib.decDigits (u % 10) := by
  have ed := Lib.decDigits_one (show u % 10 < 10 by omega)
  rw [Lib.decDigits, dif_neg h, ed]
theorem tm_abs (n : Int) : (n < 0 → Int.tmod n 10 = -((n.natAbs % 10 : Nat) : Int) ∧ Int.tdiv n 10 = -((n.natAbs / 10 : Nat) : Int)) ∧ (0 ≤ n → Int.tmod n 10 = ((n.natAbs % 10 : Nat) : Int) ∧ Int.tdiv n 10 = ((n.natAbs / 10 : Nat) : Int)) := by
  constructor
  · intro h
    obtain ⟨u, rfl⟩ : ∃ u : Nat, n = -(u : Int) := ⟨n.natAbs, by omega⟩
    rw [Int.neg_tmod, Int.neg_tdiv, Int.tmod_eq_emod_of_nonneg (by omega), Int.tdiv_eq_ediv_of_nonneg (by omega)]
    omega
  · intro h
    obtain ⟨u, rfl⟩ : ∃ u : Nat, n = (u : Int) := ⟨n.natAbs, by omega⟩
    rw [Int.tmod_eq_emod_of_nonneg (by omega), Int.tdiv_eq_ediv_of_nonneg (by omega)]
    omega
theorem zeros_dvd : ∀ (m u : Nat), 10 ^ m ≤ u → u < 10 ^ (m + 1) → (∀ c ∈ (Lib.decDigits u).drop 1, c = 48) → 10 ^ m ∣ u
  | 0, u, _, _, _ => by simp
  | m + 1, u, h0, h1, hz => by
    have hp : 1 ≤ 10 ^ m := Nat.one_le_pow _ _ (by omega)
    have e1 : 10 ^ (m + 1) = 10 * 10 ^ m := by rw [Nat.pow_succ, Nat.mul_comm]
    have e2 : 10 ^ (m + 1 + 1) = 10 * 10 ^ (m + 1) := by rw [Nat.pow_succ 10 (m + 1), Nat.mul_comm]
    have h10 : ¬ u < 10 := by rw [e1] at h0; omega
    have ed := dig_step h10
    have hne := dig_pos (u / 10)
    have edr : (Lib.decDigits u).drop 1 = (Lib.decDigits (u / 10)).drop 1 ++ Lib.decDigits (u % 10) := by
      rw [ed]
      cases hx : Lib.decDigits (u / 10) with
      | nil => exact absurd hx hne
      | cons a b => rfl
    have hq := zeros_dvd m (u / 10) (by rw [e1] at h0; omega) (by rw [e2, e1] at h1; rw [e1]; omega) (fun c hc => hz c (by rw [edr]; exact List.mem_append_left _ hc))
    have hl : u % 10 = 0 := by
      have := hz (UInt8.ofNat (48 + u % 10)) (by rw [edr, Lib.decDigits_one (show u % 10 < 10 by omega)]; simp)
      have h3 := congrArg UInt8.toNat this
      have h4 : (UInt8.ofNat (48 + u % 10)).toNat = 48 + u % 10 := by
        rw [UInt8.toNat_ofNat']
        omega
      rw [h4] at h3
      have : (48 : UInt8).toNat = 48 := rfl
      omega
    obtain ⟨q, hq⟩ := hq
    refine ⟨q, ?_⟩
    rw [e1, Nat.mul_assoc, ← hq]
    omega

theorem len_le : ∀ (d u : Nat), u < 10 ^ d → (Lib.decDigits u).length ≤ d + 1
  | 0, u, h => by
    have h0 : u = 0 := by simpa using h
    subst h0
    rw [Lib.decDigits_one (by omega)]; simp
  | d + 1, u, h => by
    by_cases h10 : u < 10
    · rw [Lib.decDigits_one h10]; simp
    · have ih := len_le d (u / 10) (by rw [Nat.pow_succ] at h; omega)
      rw [dig_step h10, List.length_append, Lib.decDigits_one (show u % 10 < 10 by omega)]
      simp
      omega
theorem len20 {u : Nat} (h : u ≤ 9223372036854775808) : (Lib.decDigits u).length ≤ 20 :=
  len_le 19 u (by have : (10 : Nat) ^ 19 = 10000000000000000000 := by decide
                  omega)

/-- What stands behind the whole part. -/
def tailD (part : Int) : List UInt8 := (Lib.decDigits (1000000000 + part).toNat).drop 1
def outT (base : List UInt8) (part : Int) : ByteArray × Int := if part = 0 then (mk base, 0) else (mk (base ++ [46] ++ Lib.trimRightB (tailD part) 48), 0)
theorem tail_dig {part : Int} (h0 : 0 < part) (h1 : part < 1000000000) : (tailD part).reverse.dropWhile (· == 48) ≠ [] ∧ (tailD part).length ≤ 20 := by
  unfold tailD
  have e9 : (10 : Nat) ^ 9 = 1000000000 := by decide
  have e10 : (10 : Nat) ^ (9 + 1) = 10000000000 := by decide
  constructor
  · intro h
    rw [dropW_nil] at h
    have hz : ∀ c ∈ (Lib.decDigits (1000000000 + part).toNat).drop 1, c = 48 := fun c hc => by simpa using h c (List.mem_reverse.2 hc)
    have hd := zeros_dvd 9 (1000000000 + part).toNat (by omega) (by omega) hz
    obtain ⟨q, hq⟩ := hd
    omega
  · rw [List.length_drop]
    have := len20 (u := (1000000000 + part).toNat) (by omega)
    omega

theorem pax_j1 (sg : List UInt8) (hs : sg.length ≤ 1) (u : Nat) (hu : u ≤ 9223372036854775808) (part : Int) (h0 : 0 ≤ part) (h1 : part < 1000000000) (k : Nat) :
    pax_PutTime.j1 (k + 1) (mk sg) (u : Int) part = some (outT (sg ++ Lib.decDigits u) part) := by
  have hl := len20 hu
  have eF : strconv_FormatUint.f (u : Int) 10 = some (mk (Lib.decDigits u)) := by
    unfold strconv_FormatUint.f
    rw [if_pos rfl, if_pos ⟨by omega, by omega⟩, Lib.itoa_nonneg]
    rfl
  rw [pax_PutTime.j1, eF]
  simp only [Option.bind_some]
  rw [if_pos (by rw [mk_size, mk_size]; omega), mk_app]
  unfold outT
  by_cases hp : part = 0
  · rw [if_pos hp, if_pos hp]
  · have ew : wrap64 (1000000000 + part) = (((1000000000 + part).toNat : Nat) : Int) := by rw [w63 (by omega) (by omega)]; omega
    have eI : strconv_Itoa.f (((1000000000 + part).toNat : Nat) : Int) = some (mk (Lib.decDigits (1000000000 + part).toNat)) := by
      unfold strconv_Itoa.f
      rw [if_pos ⟨by omega, by omega⟩, Lib.itoa_nonneg]
      rfl
    obtain ⟨t1, t2⟩ := tail_dig (part := part) (by omega) h1
    have hne := dig_pos (1000000000 + part).toNat
    have hpos : 1 ≤ (Lib.decDigits (1000000000 + part).toNat).length := by
      cases hx : Lib.decDigits (1000000000 + part).toNat with
      | nil => exact absurd hx hne
      | cons a b => simp
    have em : (⟨#[46]⟩ : ByteArray) = mk [46] := rfl
    have eT : strings_TrimRight.f (mk (tailD part)) ⟨#[48]⟩ = some (mk (Lib.trimRightB (tailD part) 48)) := by
      unfold strings_TrimRight.f
      rw [if_pos (by rw [mk_size]; omega)]
      rfl
    have hT : (Lib.trimRightB (tailD part) 48).length ≤ 20 := by
      unfold Lib.trimRightB
      rw [List.length_reverse]
      have := (List.dropWhile_suffix (· == 48) (l := (tailD part).reverse)).length_le
      rw [List.length_reverse] at this
      omega
    rw [if_neg hp, if_neg hp, ew, eI]
    simp only [Option.bind_some]
    rw [if_pos (by rw [mk_size]; omega), if_pos (by rw [mk_size, List.length_append]; omega), mk_cut]
    show (Option.bind (strings_TrimRight.f (mk (tailD part)) ⟨#[48]⟩) _) = _
    rw [eT]
    simp only [Option.bind_some]
    rw [em, mk_app, mk_app, if_pos (by rw [mk_size, mk_size]; simp; omega)]

def putT (s n : Int) : ByteArray × Int :=
  if n < 0 ∨ n ≥ 1000000000 then (mk [], 1)
  else if s < 0 then (if n > 0 then outT ([45] ++ Lib.decDigits (s.natAbs - 1)) (1000000000 - n) else outT ([45] ++ Lib.decDigits s.natAbs) n)
  else outT ([] ++ Lib.decDigits s.natAbs) n

theorem pax_PutTime_f (s n : Int) (s0 : -9223372036854775808 ≤ s) (s1 : s ≤ 9223372036854775807) (n0 : -2147483648 ≤ n) (n1 : n ≤ 2147483647) (k : Nat) (hk : 2 ≤ k) :
    pax_PutTime.f k s n = some (putT s n) := by
  obtain ⟨k, rfl⟩ : ∃ j, k = j + 2 := ⟨k - 2, by omega⟩
  unfold pax_PutTime.f putT
  by_cases h1 : n < 0
  · rw [if_pos h1, if_pos (.inl h1), pax_PutTime.j0, if_pos rfl]
    rfl
  by_cases h2 : n ≥ 1000000000
  · rw [if_neg h1, if_pos (.inr h2), pax_PutTime.j0, decide_eq_true h2, if_pos rfl]
    rfl
  · have ew : wrap64 n = n := w63 (by omega) (by omega)
    have ew2 : wrap64 (1000000000 - n) = 1000000000 - n := w63 (by omega) (by omega)
    have em : (⟨#[45]⟩ : ByteArray) = mk [45] := rfl
    have em0 : (⟨#[]⟩ : ByteArray) = mk [] := rfl
    rw [if_neg h1, if_neg (by omega), pax_PutTime.j0, decide_eq_false h2, if_neg (by simp), ew, ew2, em, em0]
    by_cases hs : s < 0
    · have e1 : IntKind.u64.wrap (-(IntKind.u64.wrap s)) = ((s.natAbs : Nat) : Int) := by rw [IntKind.wrap_u64, IntKind.wrap_u64]; omega
      rw [if_pos hs, if_pos hs, e1]
      by_cases hp : n > 0
      · have e2 : IntKind.u64.wrap (((s.natAbs : Nat) : Int) - 1) = ((s.natAbs - 1 : Nat) : Int) := by rw [IntKind.wrap_u64]; omega
        rw [if_pos hp, if_pos hp, e2]
        exact pax_j1 [45] (by simp) _ (by omega) _ (by omega) (by omega) k
      · rw [if_neg hp, if_neg hp]
        exact pax_j1 [45] (by simp) _ (by omega) _ (by omega) (by omega) k
    · have e1 : IntKind.u64.wrap s = ((s.natAbs : Nat) : Int) := by rw [IntKind.wrap_u64]; omega
      rw [if_neg hs, if_neg hs, e1]
      exact pax_j1 [] (by simp) _ (by omega) _ (by omega) (by omega) k

end Go.Proofs.YtohgoaiimhhckaaDoor.PutBridge
