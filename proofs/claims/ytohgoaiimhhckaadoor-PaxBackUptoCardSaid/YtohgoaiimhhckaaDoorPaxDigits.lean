/- A record's text: its length in decimals, the key, the value: plain lists. -/
import Derived.Test.YtohgoaiimhhckaaDoorPaxAppend
import Derived.Lib.ItoaNum
namespace Go.Proofs.YtohgoaiimhhckaaDoor.PaxSpec
set_option linter.unusedVariables false

def numD (n : Nat) : Nat := (Lib.decDigits n).length
def decI (n : Nat) : List Int := (Lib.decDigits n).map fun b => (b.toNat : Int)
theorem decI_len (n : Nat) : (decI n).length = numD n := by simp [decI, numD]
theorem dig_step' {u : Nat} (h : ¬ u < 10) : Lib.decDigits u = Lib.decDigits (u / 10) ++ Lib.decDigits (u % 10) := by
  have ed := Lib.decDigits_one (show u % 10 < 10 by omega)
  rw [Lib.decDigits, dif_neg h, ed]
theorem decI_one {n : Nat} (h : n < 10) : decI n = [48 + (n : Int)] := by
  unfold decI
  rw [Lib.decDigits_one h]
  have : ∀ m : Fin 10, ([UInt8.ofNat (48 + m.val)].map fun b => (b.toNat : Int)) = [48 + (m.val : Int)] := by decide
  exact this ⟨n, h⟩
theorem decI_step {n : Nat} (h : ¬ n < 10) : decI n = decI (n / 10) ++ [48 + ((n % 10 : Nat) : Int)] := by
  rw [← decI_one (show n % 10 < 10 by omega)]
  unfold decI
  rw [← List.map_append, ← dig_step' h]
theorem head_app {a b : List Int} (h : a ≠ []) : (a ++ b).head? = a.head? := by
  cases a with
  | nil => exact absurd rfl h
  | cons x a => rfl
theorem numD_one {n : Nat} (h : n < 10) : numD n = 1 := by rw [← decI_len, decI_one h]; rfl
theorem numD_step {n : Nat} (h : ¬ n < 10) : numD n = numD (n / 10) + 1 := by rw [← decI_len, decI_step h, List.length_append, decI_len]; rfl
theorem decI_ne (n : Nat) : decI n ≠ [] := by
  by_cases h : n < 10
  · rw [decI_one h]; simp
  · rw [decI_step h]; simp
theorem numD_pos (n : Nat) : 1 ≤ numD n := by
  rw [← decI_len]
  exact List.length_pos_iff.2 (decI_ne n)
theorem decI_dig (n : Nat) : ∀ c ∈ decI n, 48 ≤ c ∧ c ≤ 57 := by
  induction n using Nat.strongRecOn with
  | _ n ih =>
    by_cases h : n < 10
    · rw [decI_one h]
      intro c hc
      rw [List.mem_singleton] at hc
      omega
    · rw [decI_step h]
      intro c hc
      rcases List.mem_append.1 hc with hc | hc
      · exact ih _ (by omega) c hc
      · rw [List.mem_singleton] at hc
        omega
theorem decI_head (n : Nat) (hn : 0 < n) : (decI n).head? ≠ some 48 := by
  induction n using Nat.strongRecOn with
  | _ n ih =>
    by_cases h : n < 10
    · rw [decI_one h]
      simp
      omega
    · rw [decI_step h, head_app (decI_ne _)]
      exact ih _ (by omega) (by omega)
def valI : List Int → Int → Int
  | [], m => m
  | c :: r, m => valI r (10 * m + (c - 48))
theorem valI_append : ∀ (x y : List Int) (m : Int), valI (x ++ y) m = valI y (valI x m)
  | [], y, m => rfl
  | c :: x, y, m => valI_append x y _
theorem valI_dec (n : Nat) : valI (decI n) 0 = n := by
  induction n using Nat.strongRecOn with
  | _ n ih =>
    by_cases h : n < 10
    · rw [decI_one h]
      simp only [valI]
      omega
    · rw [decI_step h, valI_append, ih _ (by omega)]
      simp only [valI]
      omega
theorem valI_ge : ∀ (D : List Int) (m : Int), (∀ c ∈ D, 48 ≤ c ∧ c ≤ 57) → 0 ≤ m → m ≤ valI D m
  | [], m, _, _ => Int.le_refl _
  | c :: D, m, h, h0 => by
    have hc := h c (by simp)
    have := valI_ge D (10 * m + (c - 48)) (fun x hx => h x (by simp [hx])) (by omega)
    simp only [valI]
    omega
/-- Digits without a zero ahead are the decimals of what they say. -/
theorem dec_of_val : ∀ (k : Nat) (D : List Int), D.length = k + 1 → (∀ c ∈ D, 48 ≤ c ∧ c ≤ 57) → D.head? ≠ some 48 → 0 < valI D 0 ∧ decI (valI D 0).toNat = D
  | 0, D, hl, hd, hh => by
    match D, hl with
    | [c], _ =>
      have hc := hd c (by simp)
      have : c ≠ 48 := fun e => hh (by rw [e]; rfl)
      simp only [valI]
      refine ⟨by omega, ?_⟩
      rw [decI_one (by omega)]
      simp
      omega
  | k + 1, D, hl, hd, hh => by
    have hne : D ≠ [] := by intro e; rw [e] at hl; simp at hl
    have hD : D = D.dropLast ++ [D.getLast hne] := (List.dropLast_concat_getLast hne).symm
    generalize D.getLast hne = c at hD
    generalize D.dropLast = E at hD
    subst hD
    have hEl : E.length = k + 1 := by simpa using hl
    have hc := hd c (by simp)
    have hEd : ∀ x ∈ E, 48 ≤ x ∧ x ≤ 57 := fun x hx => hd x (by simp [hx])
    have hEne : E ≠ [] := by intro e; rw [e] at hEl; simp at hEl
    obtain ⟨h0, h1⟩ := dec_of_val k E hEl hEd (by rwa [head_app hEne] at hh)
    rw [valI_append]
    simp only [valI]
    refine ⟨by omega, ?_⟩
    have e1 : (10 * valI E 0 + (c - 48)).toNat / 10 = (valI E 0).toNat := by omega
    have e2 : ((10 * valI E 0 + (c - 48)).toNat % 10 : Nat) = (c - 48).toNat := by omega
    rw [decI_step (by omega), e1, e2, h1]
    congr 2
    omega

theorem lenS_run : ∀ (D t : List Int) (m : Int) (i : Nat), (∀ c ∈ D, 48 ≤ c ∧ c ≤ 57) → i + D.length ≤ 7 → 0 < i + D.length → (i = 0 → D.head? ≠ some 48) → lenS (D ++ 32 :: t) m i = .ok (valI D m) (i + D.length)
  | [], t, m, i, _, _, h0, _ => by
    rw [List.nil_append]
    unfold lenS
    rw [if_pos ⟨rfl, by simpa using h0⟩]
    rfl
  | c :: D, t, m, i, hd, h7, _, hh => by
    have hc := hd c (by simp)
    rw [List.cons_append]
    unfold lenS
    rw [if_neg (by omega), if_neg (by
      rintro (h | h | ⟨h, h'⟩ | h)
      · omega
      · omega
      · exact hh h (by rw [h']; rfl)
      · simp only [List.length_cons] at h7; omega)]
    rw [lenS_run D t _ (i + 1) (fun x hx => hd x (by simp [hx])) (by simp only [List.length_cons] at h7; omega) (by omega) (fun h => by omega)]
    simp only [valI, List.length_cons]
    congr 1
    omega
theorem lenS_inv : ∀ (b : List Int) (m : Int) (i : Nat) (n : Int) (j : Nat), lenS b m i = .ok n j → ∃ D t, b = D ++ 32 :: t ∧ (∀ c ∈ D, 48 ≤ c ∧ c ≤ 57) ∧ j = i + D.length ∧ n = valI D m ∧ 0 < j ∧ (i = 0 → D.head? ≠ some 48)
  | [], m, i, n, j, h => by simp [lenS] at h
  | c :: r, m, i, n, j, h => by
    unfold lenS at h
    split at h
    · rename_i hc
      simp only [LR.ok.injEq] at h
      obtain ⟨rfl, rfl⟩ := h
      exact ⟨[], r, by rw [hc.1]; rfl, fun x hx => by simp at hx, rfl, rfl, hc.2, fun h => by simp⟩
    · split at h
      · cases h
      · rename_i hd
        obtain ⟨D, t, h1, h2, h3, h4, h5, _⟩ := lenS_inv r _ (i + 1) n j h
        refine ⟨c :: D, t, by rw [h1]; rfl, fun x hx => ?_, by simp only [List.length_cons]; omega, h4, h5, fun h0 => ?_⟩
        · rcases List.mem_cons.1 hx with rfl | hx
          · exact ⟨Int.not_lt.1 fun e => hd (.inl e), Int.not_lt.1 fun e => hd (.inr (.inl e))⟩
          · exact h2 x hx
        · intro e
          exact hd (.inr (.inr (.inl ⟨h0, by simpa using e⟩)))

/-- A record's text. -/
def recT (n : Nat) (key val : List Int) : List Int := decI n ++ 32 :: (key ++ 61 :: (val ++ [10]))
def keyS (key val : List Int) : Prop := key ≠ [] ∧ 61 ∉ key ∧ 0 ∉ key ∧ 0 ∉ val
theorem recT_len (n : Nat) (key val : List Int) : (recT n key val).length = numD n + key.length + val.length + 3 := by
  unfold recT
  simp only [List.length_append, List.length_cons, List.length_nil, decI_len]
  omega
theorem idx_mid : ∀ (key val : List Int), 61 ∉ key → (key ++ 61 :: val).idxOf? 61 = some key.length
  | [], val, _ => by rw [List.nil_append, List.idxOf?_cons]; rfl
  | c :: key, val, h => by
    rw [List.cons_append, List.idxOf?_cons]
    have hc : (c == 61) = false := beq_eq_false_iff_ne.2 fun e => h (by simp [e])
    rw [hc, idx_mid key val (fun e => h (by simp [e]))]
    simp
theorem recS_rec {n : Nat} {key val : List Int} (hk : keyS key val) (hn : n = numD n + key.length + val.length + 3) (h7 : numD n ≤ 7) : recS (recT n key val) = .ok key val n := by
  obtain ⟨k1, k2, k3, k4⟩ := hk
  have hkl := List.length_pos_iff.2 k1
  have hp := numD_pos n
  have hl := recT_len n key val
  unfold recS
  have h1 : lenS (recT n key val) 0 0 = .ok (n : Int) (numD n) := by
    have := lenS_run (decI n) (key ++ 61 :: (val ++ [10])) 0 0 (decI_dig n) (by rw [decI_len]; omega) (by rw [decI_len]; omega) (fun _ => decI_head n (by omega))
    rw [valI_dec, decI_len] at this
    unfold recT
    rw [this]
    congr 1
    omega
  rw [h1]
  unfold recOf
  simp only
  have hlen : (recT n key val).length = n := by omega
  rw [if_neg (by omega), if_neg (by omega)]
  have e1 : recT n key val = (decI n ++ 32 :: (key ++ 61 :: val)) ++ [10] := by simp [recT]
  have e2 : ((n : Int) - 1).toNat = (decI n ++ 32 :: (key ++ 61 :: val)).length := by
    simp only [List.length_append, List.length_cons, decI_len]
    omega
  have e3 : (recT n key val).getD ((n : Int) - 1).toNat 0 = 10 := by
    rw [e1, e2, List.getD_eq_getElem?_getD, List.getElem?_append_right (Nat.le_refl _)]
    simp
  rw [if_neg (by rw [e3]; simp)]
  have e4 : bodyS (recT n key val) n (numD n) = key ++ 61 :: val := by
    unfold bodyS
    rw [e1, e2, List.take_left]
    have : decI n ++ 32 :: (key ++ 61 :: val) = (decI n ++ [32]) ++ (key ++ 61 :: val) := by simp
    rw [this]
    have hx : numD n + 1 = (decI n ++ [32]).length := by simp [decI_len]
    rw [hx, List.drop_left]
  rw [e4, idx_mid key val k2]
  cases hq : key.length with
  | zero => omega
  | succ j =>
    simp only
    have h0 : ¬ (0 : Int) ∈ key ++ 61 :: val := by
      simp only [List.mem_append, List.mem_cons]
      rintro (h | h | h)
      · exact k3 h
      · omega
      · exact k4 h
    rw [if_neg h0]
    have t1 : (key ++ 61 :: val).take (j + 1) = key := by rw [← hq, List.take_left]
    have t2 : (key ++ 61 :: val).drop (j + 2) = val := by
      have : key ++ 61 :: val = (key ++ [61]) ++ val := by simp
      rw [this, show j + 2 = (key ++ [61]).length from by simp [hq], List.drop_left]
    rw [t1, t2]
    simp
theorem recS_inv {b key val : List Int} {n : Nat} (h : recS b = .ok key val n) : keyS key val ∧ n = numD n + key.length + val.length + 3 ∧ numD n ≤ 7 ∧ b.take n = recT n key val := by
  have hn := recS_ok h
  unfold recS at h
  cases hl : lenS b 0 0 with
  | short => rw [hl] at h; cases h
  | bad => rw [hl] at h; cases h
  | ok m i =>
    rw [hl] at h
    obtain ⟨_, hi7, hi0, hm0, _, _⟩ := lenS_ok b 0 0 (by omega) (by simp) (by omega) m i hl
    obtain ⟨D, t, hb, hD, hj, hm, _, hh⟩ := lenS_inv b 0 0 m i hl
    have hDl : D.length = i := by omega
    obtain ⟨dv, dd⟩ := dec_of_val (D.length - 1) D (by omega) hD (hh rfl)
    rw [← hm] at dv dd
    unfold recOf at h
    simp only at h
    by_cases c1 : m < i + 4
    · rw [if_pos c1] at h; cases h
    · rw [if_neg c1] at h
      by_cases c2 : (b.length : Int) < m
      · rw [if_pos c2] at h; cases h
      · rw [if_neg c2] at h
        by_cases c3 : b.getD (m - 1).toNat 0 ≠ 10
        · rw [if_pos c3] at h; cases h
        · rw [if_neg c3] at h
          have c3' : b.getD (m - 1).toNat 0 = 10 := Classical.not_not.1 c3
          generalize hB : bodyS b m i = B at h
          cases hq : B.idxOf? 61 with
          | none => rw [hq] at h; cases h
          | some j =>
            rw [hq] at h
            cases j with
            | zero => cases h
            | succ j =>
              simp only at h
              split at h
              · cases h
              · rename_i h0
                simp only [RR.ok.injEq] at h
                obtain ⟨rfl, rfl, rfl⟩ := h
                obtain ⟨q1, q2, q3⟩ := idxOf?_some hq
                have hBs : B = B.take (j + 1) ++ 61 :: B.drop (j + 2) := by
                  have e := (List.take_append_drop (j + 1) B).symm
                  have : B.drop (j + 1) = 61 :: B.drop (j + 2) := by
                    rw [List.drop_eq_getElem_cons q1]
                    rw [List.getElem?_eq_getElem q1] at q2
                    rw [Option.some.inj q2]
                  rw [this] at e
                  exact e
                have hmi : (m - 1).toNat < b.length := by omega
                have hBl : B.length = (m - 1).toNat - (i + 1) := by
                  rw [← hB]
                  unfold bodyS
                  rw [List.length_drop, List.length_take]
                  omega
                have hkl : (B.take (j + 1)).length = j + 1 := by rw [List.length_take]; omega
                have hvl : (B.drop (j + 2)).length = B.length - (j + 2) := List.length_drop
                have hnum : numD m.toNat = i := by rw [← decI_len, dd, hDl]
                refine ⟨⟨?_, ?_, ?_, ?_⟩, ?_, by omega, ?_⟩
                · intro e; rw [e] at hkl; simp at hkl
                · intro hm'
                  obtain ⟨x, hx, hx2⟩ := List.mem_iff_getElem.1 hm'
                  rw [hkl] at hx
                  refine q3 x hx ?_
                  rw [List.getElem_take] at hx2
                  rw [List.getElem?_eq_getElem (by omega), hx2]
                · intro hm'; exact h0 (List.mem_of_mem_take hm')
                · intro hm'; exact h0 (List.mem_of_mem_drop hm')
                · rw [hnum, hkl, hvl]; omega
                · have e1 : b.take m.toNat = b.take (m - 1).toNat ++ [10] := by
                    rw [show m.toNat = (m - 1).toNat + 1 from by omega, List.take_succ_eq_append_getElem hmi]
                    rw [List.getD_eq_getElem?_getD, List.getElem?_eq_getElem hmi] at c3'
                    rw [show b[(m - 1).toNat] = 10 from c3']
                  have e2 : b.take (m - 1).toNat = (D ++ [32]) ++ B := by
                    have e3 := (List.take_append_drop (i + 1) (b.take (m - 1).toNat)).symm
                    have e4 : (b.take (m - 1).toNat).drop (i + 1) = B := hB
                    rw [e4, List.take_take, Nat.min_eq_left (by omega)] at e3
                    rw [e3, hb]
                    have : D ++ 32 :: t = (D ++ [32]) ++ t := by simp
                    rw [this, show i + 1 = (D ++ [32]).length from by simp [hDl], List.take_left]
                  rw [e1, e2]
                  unfold recT
                  rw [dd]
                  conv => lhs; rw [hBs]
                  simp
/-- The least number of digits that fits. -/
def srch (rest : Nat) : Nat → Nat → Nat
  | 0, d => d
  | f + 1, d => if numD (rest + d) = d then d else srch rest f (d + 1)
def dP (rest : Nat) : Nat := srch rest 7 1
theorem srch_spec (rest : Nat) : ∀ (f d e : Nat), d ≤ e → e ≤ d + f → numD (rest + e) = e → numD (rest + srch rest f d) = srch rest f d ∧ d ≤ srch rest f d ∧ srch rest f d ≤ e
  | 0, d, e, h1, h2, h => by
    obtain rfl : d = e := by omega
    exact ⟨h, Nat.le_refl _, Nat.le_refl _⟩
  | f + 1, d, e, h1, h2, h => by
    unfold srch
    by_cases hd : numD (rest + d) = d
    · rw [if_pos hd]; exact ⟨hd, Nat.le_refl _, h1⟩
    · rw [if_neg hd]
      have hne : d ≠ e := by rintro rfl; exact hd h
      obtain ⟨a, b, c⟩ := srch_spec rest f (d + 1) e (by omega) (by omega) h
      exact ⟨a, by omega, c⟩
theorem numD_mono : ∀ (a b : Nat), a ≤ b → numD a ≤ numD b := by
  intro a
  induction a using Nat.strongRecOn with
  | _ a ih =>
    intro b hab
    by_cases ha : a < 10
    · rw [numD_one ha]; exact numD_pos b
    · rw [numD_step ha, numD_step (show ¬ b < 10 by omega)]
      have := ih (a / 10) (by omega) (b / 10) (by omega)
      omega
theorem numD_near : ∀ (a k : Nat), k ≤ 9 → numD (a + k) ≤ numD a + 1 := by
  intro a
  induction a using Nat.strongRecOn with
  | _ a ih =>
    intro k hk
    by_cases ha : a < 10
    · by_cases hb : a + k < 10
      · rw [numD_one ha, numD_one hb]; omega
      · rw [numD_one ha, numD_step hb, numD_one (by omega)]; omega
    · rw [numD_step ha, numD_step (show ¬ a + k < 10 by omega)]
      by_cases hc : (a + k) / 10 = a / 10
      · rw [hc]; omega
      · have := ih (a / 10) (by omega) 1 (by omega)
        rw [show (a + k) / 10 = a / 10 + 1 from by omega]
        omega
theorem numD_small {n : Nat} (h : n < 10000000) : numD n ≤ 7 := by
  by_cases h1 : n < 10
  · rw [numD_one h1]; omega
  · rw [numD_step h1]
    by_cases h2 : n / 10 < 10
    · rw [numD_one h2]; omega
    · rw [numD_step h2]
      by_cases h3 : n / 10 / 10 < 10
      · rw [numD_one h3]; omega
      · rw [numD_step h3]
        by_cases h4 : n / 10 / 10 / 10 < 10
        · rw [numD_one h4]; omega
        · rw [numD_step h4]
          by_cases h5 : n / 10 / 10 / 10 / 10 < 10
          · rw [numD_one h5]; omega
          · rw [numD_step h5]
            by_cases h6 : n / 10 / 10 / 10 / 10 / 10 < 10
            · rw [numD_one h6]; omega
            · rw [numD_step h6, numD_one (by omega)]; omega
/-- Some number of digits fits, where the text is not too long. -/
theorem dP_ok (rest : Nat) (h : rest < 9000000) : numD (rest + dP rest) = dP rest ∧ 1 ≤ dP rest ∧ dP rest ≤ 7 ∧ ∀ e, 1 ≤ e → e ≤ 8 → numD (rest + e) = e → dP rest ≤ e ∧ e ≤ dP rest + 1 := by
  have hex : ∃ e, 1 ≤ e ∧ e ≤ 7 ∧ numD (rest + e) = e := by
    have step : ∀ d, 1 ≤ d → d ≤ numD (rest + d) → d ≤ 7 → ∃ e, 1 ≤ e ∧ e ≤ 7 ∧ numD (rest + e) = e := by
      intro d
      induction h7 : 7 - d generalizing d with
      | zero =>
        intro h1 h2 h3
        obtain rfl : d = 7 := by omega
        have := numD_small (show rest + 7 < 10000000 by omega)
        exact ⟨7, by omega, by omega, by omega⟩
      | succ k ih =>
        intro h1 h2 h3
        by_cases he : numD (rest + d) = d
        · exact ⟨d, h1, h3, he⟩
        · have := numD_mono (rest + d) (rest + (d + 1)) (by omega)
          exact ih (d + 1) (by omega) (by omega) (by omega) (by omega)
    exact step 1 (by omega) (numD_pos _) (by omega)
  obtain ⟨e, e1, e7, he⟩ := hex
  obtain ⟨a, b, c⟩ := srch_spec rest 7 1 e e1 (by omega) he
  refine ⟨a, b, by show srch rest 7 1 ≤ 7; omega, fun e' h1 h8 he' => ?_⟩
  have ⟨a', b', c'⟩ := srch_spec rest 7 1 e' h1 (by omega) he'
  refine ⟨c', ?_⟩
  have hn := numD_near (rest + dP rest) (e' - dP rest) (by omega)
  have : rest + dP rest + (e' - dP rest) = rest + e' := by
    have : dP rest ≤ e' := c'
    omega
  rw [this, he'] at hn
  have ha : numD (rest + dP rest) = dP rest := a
  omega
end Go.Proofs.YtohgoaiimhhckaaDoor.PaxSpec
