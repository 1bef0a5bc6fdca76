/- Numbers and times of pax come back: what is put is read back (plain lists of bytes). -/
import Derived.Test.YtohgoaiimhhckaaDoorTmPut
namespace Go.Proofs.YtohgoaiimhhckaaDoor.TimesBack
open Go.RowKit Go.Proofs.YtohgoaiimhhckaaDoor.PPaxTimes Go.Proofs.YtohgoaiimhhckaaDoorW.PrintWords Go.Proofs.YtohgoaiimhhckaaDoorW.PrintLast Go.Proofs.YtohgoaiimhhckaaDoorW.PrintMore Go.Proofs.YtohgoaiimhhckaaDoor.NumBridge Go.Proofs.YtohgoaiimhhckaaDoor.TimeBridge Go.Proofs.YtohgoaiimhhckaaDoor.PutBridge
set_option linter.unusedVariables false

theorem dig_one_isD {u : Nat} (h : u < 10) : isD (UInt8.ofNat (48 + u)) = true ∧ dv (UInt8.ofNat (48 + u)) = u := by
  have : ∀ n : Fin 10, isD (UInt8.ofNat (48 + n.val)) = true ∧ dv (UInt8.ofNat (48 + n.val)) = n.val := by decide
  exact this ⟨u, h⟩
theorem dig_all (u : Nat) : (Lib.decDigits u).all isD = true := by
  induction u using Nat.strongRecOn with
  | _ u ih =>
    by_cases h : u < 10
    · rw [Lib.decDigits_one h, List.all_cons, (dig_one_isD h).1]; rfl
    · rw [dig_step h, List.all_append, ih _ (by omega), ih _ (by omega)]; rfl
def valD : List UInt8 → Int → Int
  | [], v => v
  | c :: r, v => valD r (10 * v + dv c)
theorem valD_append : ∀ (x y : List UInt8) (v : Int), valD (x ++ y) v = valD y (valD x v)
  | [], y, v => rfl
  | c :: x, y, v => valD_append x y _
theorem valD_dec (u : Nat) : valD (Lib.decDigits u) 0 = u := by
  induction u using Nat.strongRecOn with
  | _ u ih =>
    by_cases h : u < 10
    · rw [Lib.decDigits_one h]
      simp only [valD, (dig_one_isD h).2]
      omega
    · rw [dig_step h, valD_append, ih _ (by omega), Lib.decDigits_one (show u % 10 < 10 by omega)]
      simp only [valD, (dig_one_isD (show u % 10 < 10 by omega)).2]
      omega
theorem valD_ge : ∀ (l : List UInt8) (v : Int), l.all isD = true → 0 ≤ v → v ≤ valD l v
  | [], v, _, _ => Int.le_refl _
  | c :: r, v, h, h0 => by
    simp only [List.all_cons, Bool.and_eq_true] at h
    have hd := dv_of h.1
    have := valD_ge r (10 * v + dv c) h.2 (by omega)
    simp only [valD]
    omega
theorem numS_valD : ∀ (l : List UInt8) (v : Int), l.all isD = true → 0 ≤ v → valD l v ≤ 9223372036854775807 → numS v l = (valD l v, 0)
  | [], v, _, _, _ => rfl
  | c :: r, v, h, h0, h1 => by
    simp only [List.all_cons, Bool.and_eq_true] at h
    have hd := dv_of h.1
    have hg := valD_ge r (10 * v + dv c) h.2 (by omega)
    simp only [valD] at h1 ⊢
    unfold numS
    rw [if_neg (by omega)]
    exact numS_valD r _ h.2 (by omega) h1
theorem NumS_dec (u : Nat) (h : u ≤ 9223372036854775807) : NumS (Lib.decDigits u) = ((u : Int), 0) := by
  unfold NumS
  rw [if_neg (dig_pos u), if_pos (dig_all u), numS_valD _ 0 (dig_all u) (by omega) (by rw [valD_dec]; omega), valD_dec]
theorem nanoS_zeros : ∀ (j : Nat) (v : Int) (m : Nat), nanoS j v (List.replicate m 48) = nanoS j v []
  | 0, v, m => by simp [nanoS]
  | j + 1, v, 0 => rfl
  | j + 1, v, m + 1 => by
    rw [List.replicate_succ]
    simp only [nanoS]
    have : dv 48 = 0 := by decide
    rw [this, Int.add_zero]
    exact nanoS_zeros j _ m
theorem nanoS_pad : ∀ (j : Nat) (v : Int) (T : List UInt8) (m : Nat), nanoS j v (T ++ List.replicate m 48) = nanoS j v T
  | 0, v, T, m => by simp [nanoS]
  | j + 1, v, [], m => nanoS_zeros _ _ _
  | j + 1, v, c :: T, m => by
    simp only [List.cons_append, nanoS]
    exact nanoS_pad j _ T m
theorem nanoS_len : ∀ (j : Nat) (v : Int) (l : List UInt8), l.length = j → nanoS j v l = valD l v
  | 0, v, [], _ => rfl
  | j + 1, v, c :: r, h => by
    simp only [nanoS, valD]
    exact nanoS_len j _ r (by simpa using h)
theorem dig_len : ∀ (d u : Nat), 10 ^ d ≤ u → u < 10 ^ (d + 1) → (Lib.decDigits u).length = d + 1
  | 0, u, h0, h1 => by rw [Lib.decDigits_one (by simpa using h1)]; rfl
  | d + 1, u, h0, h1 => by
    have e1 : 10 ^ (d + 1) = 10 ^ d * 10 := Nat.pow_succ ..
    have e2 : 10 ^ (d + 1 + 1) = 10 ^ (d + 1) * 10 := Nat.pow_succ ..
    have hp : 1 ≤ 10 ^ d := Nat.one_le_pow _ _ (by omega)
    generalize hA : 10 ^ (d + 1) = A at *
    generalize hB : 10 ^ d = B at *
    rw [dig_step (by omega), List.length_append, Lib.decDigits_one (show u % 10 < 10 by omega)]
    have := dig_len d (u / 10) (by rw [hB]; omega) (by rw [hA]; omega)
    rw [this]; rfl
theorem valD_lin : ∀ (l : List UInt8) (v : Int), valD l v = v * 10 ^ l.length + valD l 0
  | [], v => by simp [valD]
  | c :: r, v => by
    simp only [valD]
    rw [valD_lin r (10 * v + dv c), valD_lin r (10 * 0 + dv c), List.length_cons, Int.pow_succ, Int.add_mul, Int.add_mul]
    have : 10 * v * 10 ^ r.length = v * (10 ^ r.length * 10) := by rw [Int.mul_comm 10 v, Int.mul_assoc, Int.mul_comm 10]
    rw [this]
    simp
    omega
theorem valD_lt : ∀ (l : List UInt8), l.all isD = true → 0 ≤ valD l 0 ∧ valD l 0 < 10 ^ l.length
  | [], _ => by simp [valD]
  | c :: r, h => by
    simp only [List.all_cons, Bool.and_eq_true] at h
    obtain ⟨a, b⟩ := valD_lt r h.2
    have hd := dv_of h.1
    simp only [valD]
    rw [valD_lin, List.length_cons, Int.pow_succ]
    have h9 : (10 * 0 + dv c) * 10 ^ r.length ≤ 9 * 10 ^ r.length := Int.mul_le_mul_of_nonneg_right (by omega) (Int.le_of_lt (Int.pow_pos (by decide)))
    have h0 : 0 ≤ (10 * 0 + dv c) * 10 ^ r.length := Int.mul_nonneg (by omega) (Int.le_of_lt (Int.pow_pos (by decide)))
    generalize (10 * 0 + dv c) * 10 ^ r.length = X at *
    generalize (10 : Int) ^ r.length = Y at *
    omega
theorem trim_pad (X : List UInt8) : ∃ m, X = Lib.trimRightB X 48 ++ List.replicate m 48 := by
  refine ⟨(X.reverse.takeWhile (· == 48)).length, ?_⟩
  unfold Lib.trimRightB
  have h1 : X.reverse.takeWhile (· == 48) = List.replicate (X.reverse.takeWhile (· == 48)).length 48 := by
    rw [List.eq_replicate_iff]
    refine ⟨rfl, fun b hb => ?_⟩
    have := List.all_eq_true.1 (List.all_takeWhile (p := (· == (48 : UInt8))) (l := X.reverse)) b hb
    simpa using this
  have h2 : X.reverse = X.reverse.takeWhile (· == 48) ++ X.reverse.dropWhile (· == 48) := (List.takeWhile_append_dropWhile).symm
  have h3 := congrArg List.reverse h2
  rw [List.reverse_reverse, List.reverse_append] at h3
  have h4 : (X.reverse.takeWhile (· == 48)).reverse = List.replicate (X.reverse.takeWhile (· == 48)).length 48 := by
    rw [h1, List.reverse_replicate]; simp
  rw [h4] at h3
  exact h3
theorem tail_val {part : Int} (h0 : 0 ≤ part) (h1 : part < 1000000000) :
    nanoS 9 0 (Lib.trimRightB (tailD part) 48) = part ∧ (Lib.trimRightB (tailD part) 48).all isD = true ∧ (tailD part).length = 9 := by
  have hlen : (Lib.decDigits (1000000000 + part).toNat).length = 9 + 1 := by
    have p9 : (10 : Nat) ^ 9 = 1000000000 := by decide
    have p10 : (10 : Nat) ^ (9 + 1) = 10000000000 := by decide
    refine dig_len 9 _ ?_ ?_
    · rw [p9]; omega
    · rw [p10]; omega
  have hv := valD_dec (1000000000 + part).toNat
  have ha := dig_all (1000000000 + part).toNat
  unfold tailD
  generalize Lib.decDigits (1000000000 + part).toNat = L at *
  cases L with
  | nil => simp at hlen
  | cons c X =>
    simp only [List.drop_succ_cons, List.drop_zero]
    simp only [List.all_cons, Bool.and_eq_true] at ha
    have hX : X.length = 9 := by simpa using hlen
    have hd := dv_of ha.1
    have hlt := valD_lt X ha.2
    simp only [valD] at hv
    rw [valD_lin, hX] at hv
    rw [hX] at hlt
    have e9 : (10 : Int) ^ 9 = 1000000000 := by decide
    rw [e9] at hv hlt
    obtain ⟨m, hm⟩ := trim_pad X
    have hval : valD X 0 = part := by omega
    have hT : (Lib.trimRightB X 48).all isD = true := by
      have := ha.2
      rw [hm, List.all_append, Bool.and_eq_true] at this
      exact this.1
    refine ⟨?_, hT, hX⟩
    rw [← nanoS_pad 9 0 _ m, ← hm, nanoS_len 9 0 X hX, hval]
theorem isD_ne {c : UInt8} (h : isD c = true) : (c == 45) = false ∧ (c != 46) = true := by
  constructor
  · rw [beq_eq_false_iff_ne]; rintro rfl; exact absurd h (by decide)
  · rw [bne_iff_ne]; rintro rfl; exact absurd h (by decide)
theorem whole_app : ∀ (D Y : List UInt8), D.all isD = true → wholeL (D ++ 46 :: Y) = D ∧ partL (D ++ 46 :: Y) = Y ∧ wholeL D = D ∧ partL D = []
  | [], Y, _ => by simp [wholeL, partL]
  | c :: D, Y, h => by
    simp only [List.all_cons, Bool.and_eq_true] at h
    obtain ⟨a, b, e, f⟩ := whole_app D Y h.2
    unfold wholeL partL at *
    simp only [List.cons_append, List.takeWhile_cons, List.dropWhile_cons, (isD_ne h.1).2, if_true, a, b, e, f, and_self]
theorem neg_dec (u : Nat) (Y : List UInt8) : neg (Lib.decDigits u ++ Y) = false := by
  have ha := dig_all u
  have hp := dig_pos u
  generalize Lib.decDigits u = L at *
  cases L with
  | nil => exact absurd rfl hp
  | cons c X =>
    simp only [List.all_cons, Bool.and_eq_true] at ha
    have := (isD_ne ha.1).1
    unfold neg
    simp only [List.cons_append, List.head?_cons]
    rw [beq_eq_false_iff_ne] at this ⊢
    intro h
    exact this (Option.some.inj h)
theorem rest_sg (b : Bool) (u : Nat) (Y : List UInt8) : neg ((if b = true then [45] else []) ++ (Lib.decDigits u ++ Y)) = b ∧ restL ((if b = true then [45] else []) ++ (Lib.decDigits u ++ Y)) = Lib.decDigits u ++ Y := by
  cases b with
  | true => exact ⟨rfl, rfl⟩
  | false =>
    have := neg_dec u Y
    refine ⟨this, ?_⟩
    show restL (Lib.decDigits u ++ Y) = _
    unfold restL
    rw [this]
    rfl
theorem time_of (b : Bool) (u : Nat) (hu : u ≤ 9223372036854775807) (part : Int) (h0 : 0 ≤ part) (h1 : part < 1000000000) :
    TimeS (outT ((if b = true then [45] else []) ++ Lib.decDigits u) part).1.data.toList = outS b u part ∧ (outT ((if b = true then [45] else []) ++ Lib.decDigits u) part).2 = 0
      ∧ (outT ((if b = true then [45] else []) ++ Lib.decDigits u) part).1.data.toList.length ≤ 60 := by
  have hsg : (if b = true then [(45 : UInt8)] else []).length ≤ 1 := by cases b <;> simp
  have hl := len20 (show u ≤ 9223372036854775808 by omega)
  obtain ⟨t1, t2, t3⟩ := tail_val h0 h1
  obtain ⟨w1, w2, w3, w4⟩ := whole_app (Lib.decDigits u) (Lib.trimRightB (tailD part) 48) (dig_all u)
  unfold outT
  by_cases hp : part = 0
  · rw [if_pos hp]
    simp only [mk_l]
    obtain ⟨r1, r2⟩ := rest_sg b u []
    rw [List.append_nil] at r1 r2
    refine ⟨?_, trivial, by rw [List.length_append]; omega⟩
    unfold TimeS
    rw [r1, r2, w3, w4, NumS_dec u hu, hp]
    rfl
  · rw [if_neg hp]
    simp only [mk_l]
    have hq : (Lib.trimRightB (tailD part) 48).length ≤ 9 := by
      obtain ⟨m, hm⟩ := trim_pad (tailD part)
      have := congrArg List.length hm
      rw [List.length_append] at this
      omega
    have e : (if b = true then [(45 : UInt8)] else []) ++ Lib.decDigits u ++ [46] ++ Lib.trimRightB (tailD part) 48 = (if b = true then [45] else []) ++ (Lib.decDigits u ++ 46 :: Lib.trimRightB (tailD part) 48) := by simp
    rw [e]
    obtain ⟨r1, r2⟩ := rest_sg b u (46 :: Lib.trimRightB (tailD part) 48)
    refine ⟨?_, trivial, by rw [List.length_append, List.length_append, List.length_cons]; omega⟩
    unfold TimeS
    rw [r1, r2, w1, w2, NumS_dec u hu, t1, if_pos t2, if_pos rfl]
/-- What is put is read back. -/
theorem time_put (s n : Int) (s0 : -9223372036854775808 ≤ s) (s1 : s ≤ 9223372036854775807) (n0 : 0 ≤ n) (n1 : n < 1000000000) (hx : ¬ (s = -9223372036854775808 ∧ n = 0)) :
    TimeS (putT s n).1.data.toList = (s, n, 0) := by
  unfold putT
  rw [if_neg (by omega)]
  by_cases hs : s < 0
  · rw [if_pos hs]
    by_cases hn : n > 0
    · rw [if_pos hn]
      have := (time_of true (s.natAbs - 1) (by omega) (1000000000 - n) (by omega) (by omega)).1
      refine this.trans ?_
      unfold outS
      rw [if_pos rfl, if_pos (by omega)]
      exact Prod.ext (by simp; omega) (Prod.ext (by simp; omega) rfl)
    · rw [if_neg hn]
      have := (time_of true s.natAbs (by omega) n (by omega) (by omega)).1
      refine this.trans ?_
      unfold outS
      rw [if_pos rfl, if_neg hn]
      exact Prod.ext (by simp; omega) (Prod.ext (by simp; omega) rfl)
  · rw [if_neg hs]
    have := (time_of false s.natAbs (by omega) n n0 n1).1
    refine this.trans ?_
    unfold outS
    rw [if_neg (by decide)]
    exact Prod.ext (by simp; omega) rfl
theorem put_ok (s n : Int) (s0 : -9223372036854775808 ≤ s) (s1 : s ≤ 9223372036854775807) : ((putT s n).2 = 0 ↔ (0 ≤ n ∧ n < 1000000000)) ∧ (putT s n).1.data.toList.length ≤ 60 := by
  unfold putT
  by_cases h : n < 0 ∨ n ≥ 1000000000
  · rw [if_pos h]
    refine ⟨⟨fun e => absurd e (by decide), fun e => by omega⟩, ?_⟩
    rw [mk_l]; simp
  · rw [if_neg h]
    have len : ∀ (b : Bool) (u : Nat), u ≤ 9223372036854775808 → ∀ part : Int, 0 ≤ part → part < 1000000000 → (outT ((if b = true then [45] else []) ++ Lib.decDigits u) part).2 = 0 ∧ (outT ((if b = true then [45] else []) ++ Lib.decDigits u) part).1.data.toList.length ≤ 60 := by
      intro b u hu part h0 h1
      have hsg : (if b = true then [(45 : UInt8)] else []).length ≤ 1 := by cases b <;> simp
      have hl := len20 hu
      obtain ⟨t1, t2, t3⟩ := tail_val h0 h1
      have hq : (Lib.trimRightB (tailD part) 48).length ≤ 9 := by
        obtain ⟨m, hm⟩ := trim_pad (tailD part)
        have := congrArg List.length hm
        rw [List.length_append] at this
        omega
      unfold outT
      by_cases hp : part = 0
      · rw [if_pos hp]
        exact ⟨rfl, by rw [mk_l, List.length_append]; omega⟩
      · rw [if_neg hp]
        exact ⟨rfl, by rw [mk_l, List.length_append, List.length_append, List.length_append]; simp only [List.length_cons, List.length_nil]; omega⟩
    by_cases hs : s < 0
    · rw [if_pos hs]
      by_cases hn : n > 0
      · rw [if_pos hn]
        obtain ⟨a, b⟩ := len true (s.natAbs - 1) (by omega) (1000000000 - n) (by omega) (by omega)
        exact ⟨⟨fun _ => by omega, fun _ => a⟩, b⟩
      · rw [if_neg hn]
        obtain ⟨a, b⟩ := len true s.natAbs (by omega) n (by omega) (by omega)
        exact ⟨⟨fun _ => by omega, fun _ => a⟩, b⟩
    · rw [if_neg hs]
      obtain ⟨a, b⟩ := len false s.natAbs (by omega) n (by omega) (by omega)
      exact ⟨⟨fun _ => by omega, fun _ => a⟩, b⟩
/-- What a time that is read can be. -/
theorem time_range (l : List UInt8) : ((TimeS l).2.2 ≠ 0 → (TimeS l).1 = 0 ∧ (TimeS l).2.1 = 0) ∧
    ((TimeS l).2.2 = 0 → -9223372036854775808 ≤ (TimeS l).1 ∧ (TimeS l).1 ≤ 9223372036854775807 ∧ 0 ≤ (TimeS l).2.1 ∧ (TimeS l).2.1 < 1000000000 ∧ ¬ ((TimeS l).1 = -9223372036854775808 ∧ (TimeS l).2.1 = 0)) := by
  have hb := Num_bound (wholeL (restL l))
  unfold TimeS
  by_cases h1 : (partL (restL l)).all isD = true
  · rw [if_pos h1]
    have hn := nano_bound 9 0 0 (partL (restL l)) rfl (by omega) (by decide) h1
    by_cases h2 : (NumS (wholeL (restL l))).2 = 0
    · rw [if_pos h2]
      generalize (NumS (wholeL (restL l))).1 = u at *
      generalize nanoS 9 0 (partL (restL l)) = v at *
      unfold outS
      split
      · split
        · exact ⟨fun h => absurd rfl h, fun _ => by simp only; omega⟩
        · exact ⟨fun h => absurd rfl h, fun _ => by simp only; omega⟩
      · exact ⟨fun h => absurd rfl h, fun _ => by simp only; omega⟩
    · rw [if_neg h2]
      exact ⟨fun _ => ⟨rfl, rfl⟩, fun h => absurd h h2⟩
  · rw [if_neg h1]
    exact ⟨fun _ => ⟨rfl, rfl⟩, fun h => absurd h (by decide)⟩
end Go.Proofs.YtohgoaiimhhckaaDoor.TimesBack
