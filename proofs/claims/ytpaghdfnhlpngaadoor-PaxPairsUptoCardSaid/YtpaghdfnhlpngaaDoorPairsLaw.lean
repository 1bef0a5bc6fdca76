import Derived.Below
import Derived.WalkKit
import Derived.Lib.Bytes
import Derived.Lib.IndexLaws
import Derived.Lib.ItoaNum
import Derived.Test.YtpaghdfnhlpngaaDoorPPaxPairsx
import Derived.Test.YtpaghdfnhlpngaaDoorXFind
import Derived.Lib.SplitLaws
import Derived.Lib.IndexBytes
import Derived.Test.YtpaghdfnhlpngaaDoorXOpen
/- What pax's records say, in plain Lean: no program in sight. -/
namespace Go.Proofs.YtpaghdfnhlpngaaDoor.PaxSpec

/-- A record's length: read from its front (n so far, i digits so far). -/
inductive LR where
  | short
  | bad
  | ok (n : Int) (i : Nat)

def lenS : List Int → Int → Nat → LR
  | [], _, _ => .short
  | c :: r, n, i => if c = 32 ∧ 0 < i then .ok n i else if c < 48 ∨ 57 < c ∨ (i = 0 ∧ c = 48) ∨ i = 7 then .bad else lenS r (10 * n + (c - 48)) (i + 1)

/-- A record at the front: where it can't be and why; or its key, its value, how many bytes it has. -/
inductive RR where
  | fault (at_ : Nat) (why : Int)
  | ok (key val : List Int) (n : Nat)

def bodyS (b : List Int) (n : Int) (i : Nat) : List Int := (b.take (n - 1).toNat).drop (i + 1)

def recOf (b : List Int) : LR → RR
  | .short => .fault b.length 4
  | .bad => .fault 0 140
  | .ok n i =>
    if n < i + 4 then .fault 0 140
    else if (b.length : Int) < n then .fault b.length 4
    else if b.getD (n - 1).toNat 0 ≠ 10 then .fault (n - 1).toNat 142
    else match (bodyS b n i).idxOf? 61 with
      | none => .fault (i + 1) 141
      | some 0 => .fault (i + 1) 141
      | some (j + 1) => if 0 ∈ bodyS b n i then .fault (i + 1) 141 else .ok ((bodyS b n i).take (j + 1)) ((bodyS b n i).drop (j + 2)) n.toNat
def recS (b : List Int) : RR := recOf b (lenS b 0 0)

/-- How the digits stand: fewer than 8, the number below 10^i. -/
theorem lenS_ok : ∀ (b : List Int) (n : Int) (i : Nat), 0 ≤ n → n < 10 ^ i → i ≤ 7 → ∀ m j, lenS b n i = .ok m j → i ≤ j ∧ j ≤ 7 ∧ 0 < j ∧ 0 ≤ m ∧ m < 10 ^ j ∧ j - i < b.length := by
  intro b
  induction b with
  | nil => intro n i _ _ _ m j h; simp [lenS] at h
  | cons c r ih =>
    intro n i h0 h1 hi m j h
    unfold lenS at h
    split at h
    · rename_i hc
      simp only [LR.ok.injEq] at h
      obtain ⟨rfl, rfl⟩ := h
      exact ⟨Nat.le_refl _, hi, hc.2, h0, h1, by simp⟩
    · rename_i hc
      split at h
      · cases h
      · rename_i hd
        have hd' : ¬ c < 48 ∧ ¬ 57 < c ∧ ¬ (i = 0 ∧ c = 48) ∧ ¬ i = 7 := by
          refine ⟨fun h => hd (.inl h), fun h => hd (.inr (.inl h)), fun h => hd (.inr (.inr (.inl h))), fun h => hd (.inr (.inr (.inr h)))⟩
        obtain ⟨d1, d2, d3, d4⟩ := hd'
        have hp : (10 : Int) ^ (i + 1) = 10 ^ i * 10 := Int.pow_succ ..
        obtain ⟨a1, a2, a3, a4, a5, a6⟩ := ih (10 * n + (c - 48)) (i + 1) (by omega) (by omega) (by omega) m j h
        exact ⟨by omega, a2, a3, a4, a5, by simp; omega⟩

/-- All records, one behind the other: with an error the place and the reason. -/
inductive PR where
  | fault (at_ : Nat) (why : Int)
  | ok (l : List (List Int × List Int))

def parseS : Nat → List Int → Nat → PR
  | 0, _, _ => .ok []
  | f + 1, b, p =>
    match b with
    | [] => .ok []
    | _ :: _ =>
      match recS b with
      | .fault a w => .fault (p + a) w
      | .ok k v n => match parseS f (b.drop n) (p + n) with
        | .fault a w => .fault a w
        | .ok l => .ok ((k, v) :: l)

theorem recS_ok {b : List Int} {k v : List Int} {n : Nat} (h : recS b = .ok k v n) : 5 ≤ n ∧ n ≤ b.length := by
  unfold recS recOf at h
  split at h
  · cases h
  · cases h
  · rename_i m i hl
    obtain ⟨_, hi7, hi0, hm0, _, _⟩ := lenS_ok b 0 0 (by omega) (by simp) (by omega) m i hl
    split at h
    · cases h
    · split at h
      · cases h
      · split at h
        · cases h
        · split at h
          · cases h
          · cases h
          · split at h
            · cases h
            · simp only [RR.ok.injEq] at h
              obtain ⟨_, _, rfl⟩ := h
              omega
theorem recS_fault {b : List Int} {a : Nat} {w : Int} (h : recS b = .fault a w) : a ≤ b.length ∧ w ≠ 0 := by
  unfold recS recOf at h
  split at h
  · simp only [RR.fault.injEq] at h; obtain ⟨rfl, rfl⟩ := h; exact ⟨Nat.le_refl _, by omega⟩
  · simp only [RR.fault.injEq] at h; obtain ⟨rfl, rfl⟩ := h; exact ⟨Nat.zero_le _, by omega⟩
  · rename_i m i hl
    obtain ⟨_, hi7, hi0, hm0, _, hlt⟩ := lenS_ok b 0 0 (by omega) (by simp) (by omega) m i hl
    split at h
    · simp only [RR.fault.injEq] at h; obtain ⟨rfl, rfl⟩ := h; exact ⟨Nat.zero_le _, by omega⟩
    · split at h
      · simp only [RR.fault.injEq] at h; obtain ⟨rfl, rfl⟩ := h; exact ⟨Nat.le_refl _, by omega⟩
      · split at h
        · simp only [RR.fault.injEq] at h; obtain ⟨rfl, rfl⟩ := h; exact ⟨by omega, by omega⟩
        · split at h
          · simp only [RR.fault.injEq] at h; obtain ⟨rfl, rfl⟩ := h; exact ⟨by omega, by omega⟩
          · simp only [RR.fault.injEq] at h; obtain ⟨rfl, rfl⟩ := h; exact ⟨by omega, by omega⟩
          · split at h
            · simp only [RR.fault.injEq] at h; obtain ⟨rfl, rfl⟩ := h; exact ⟨by omega, by omega⟩
            · cases h
/-- Where a byte first stands; -1: nowhere. -/
def idxI (l : List Int) (c : Int) : Int := match l.idxOf? c with | none => -1 | some j => (j : Int)
theorem idxI_none {l : List Int} {c : Int} (h : l.idxOf? c = none) : idxI l c = -1 := by unfold idxI; rw [h]
theorem idxI_some {l : List Int} {c : Int} {j : Nat} (h : l.idxOf? c = some j) : idxI l c = (j : Int) := by unfold idxI; rw [h]
theorem idxOf?_some : ∀ {l : List Int} {c : Int} {j : Nat}, l.idxOf? c = some j → j < l.length ∧ l[j]? = some c ∧ ∀ i, i < j → l[i]? ≠ some c
  | [], _, _, h => by cases h
  | x :: l, c, j, h => by
    rw [List.idxOf?_cons] at h
    by_cases hx : x = c
    · subst hx
      simp only [beq_self_eq_true, if_true, Option.some.injEq] at h
      subst h
      exact ⟨by simp, by simp, fun i hi => by omega⟩
    · have h4 : (x == c) = false := by simpa using hx
      rw [h4] at h
      cases h2 : l.idxOf? c with
      | none => rw [h2] at h; cases h
      | some i =>
        rw [h2] at h
        simp at h
        subst h
        obtain ⟨a1, a2, a3⟩ := idxOf?_some h2
        refine ⟨by simp; omega, by simpa using a2, fun k hk => ?_⟩
        cases k with
        | zero => simpa using hx
        | succ k => simpa using a3 k (by omega)
theorem idxI_nil (c : Int) : idxI [] c = -1 := rfl
theorem idxI_cons (x : Int) (l : List Int) (c : Int) : idxI (x :: l) c = if x = c then 0 else if idxI l c = -1 then -1 else idxI l c + 1 := by
  unfold idxI
  rw [List.idxOf?_cons]
  by_cases h : x = c
  · have : (x == c) = true := by simpa using h
    rw [this, if_pos h]; rfl
  · have h4 : (x == c) = false := by simpa using h
    rw [h4, if_neg h]
    cases l.idxOf? c with
    | none => rfl
    | some j =>
      have : ¬ (j : Int) = -1 := by omega
      simp only [this, if_false]
      rfl
theorem idxI_ge (l : List Int) (c : Int) : -1 ≤ idxI l c ∧ idxI l c < l.length := by
  cases h : l.idxOf? c with
  | none => rw [idxI_none h]; omega
  | some j => have := (idxOf?_some h).1; rw [idxI_some h]; omega
theorem idxI_mem {l : List Int} {c : Int} : 0 ≤ idxI l c ↔ c ∈ l := by
  cases h : l.idxOf? c with
  | none =>
    rw [idxI_none h]
    rw [List.idxOf?_eq_none_iff] at h
    simp [h]
  | some j =>
    rw [idxI_some h]
    have := (idxOf?_some h).2.1
    have h2 : c ∈ l := List.mem_of_getElem? this
    simp [h2]
/-- 'indexByte' of the shelf is where a byte first stands. -/
theorem indexByte_eq : ∀ (l : List Int) (c : Int), (∀ x ∈ l, 0 ≤ x ∧ x < 256) → 0 ≤ c → c < 256 →
    Lib.indexByte (Lib.bytesOf l) c.toNat.toUInt8 = idxI l c := by
  intro l
  induction l with
  | nil => intro c _ _ _; rfl
  | cons x l ih =>
    intro c hl h0 h1
    have hx := hl x (by simp)
    have ihc := ih c (fun y hy => hl y (by simp [hy])) h0 h1
    unfold idxI at ihc ⊢
    have hb : Lib.bytesOf (x :: l) = UInt8.ofNat x.toNat :: Lib.bytesOf l := rfl
    have he : (UInt8.ofNat x.toNat = c.toNat.toUInt8) ↔ x = c := by
      constructor
      · intro h
        have h2 := congrArg UInt8.toNat h
        have e1 : (UInt8.ofNat x.toNat).toNat = x.toNat := by
          rw [UInt8.toNat_ofNat']; omega
        have e2 : c.toNat.toUInt8.toNat = c.toNat := by
          rw [Nat.toUInt8_eq, UInt8.toNat_ofNat']; omega
        rw [e1, e2] at h2
        omega
      · rintro rfl; rfl
    rw [hb, List.idxOf?_cons]
    unfold Lib.indexByte
    by_cases hxc : x = c
    · have h3 : (UInt8.ofNat x.toNat == c.toNat.toUInt8) = true := by rw [beq_iff_eq]; exact he.2 hxc
      rw [if_pos h3]
      simp [hxc]
    · have h3 : ¬ (UInt8.ofNat x.toNat == c.toNat.toUInt8) = true := by rw [beq_iff_eq]; exact fun h => hxc (he.1 h)
      have h4 : (x == c) = false := by simpa using hxc
      rw [if_neg h3, ihc, h4]
      cases l.idxOf? c with
      | none => rfl
      | some j =>
        have : ¬ ((j : Int) == -1) = true := by rw [beq_iff_eq]; omega
        simp only [this]
        rfl
end Go.Proofs.YtpaghdfnhlpngaaDoor.PaxSpec

/- Records one behind the other: plain lists. -/
namespace Go.Proofs.YtpaghdfnhlpngaaDoor.PaxSpec
set_option linter.unusedVariables false

theorem lenS_app : ∀ (a b : List Int) (n : Int) (i : Nat) (m : Int) (j : Nat), lenS a n i = .ok m j → lenS (a ++ b) n i = .ok m j
  | [], b, n, i, m, j, h => by simp [lenS] at h
  | c :: r, b, n, i, m, j, h => by
    rw [List.cons_append]
    unfold lenS at h ⊢
    split at h
    · rename_i hc
      rw [if_pos hc]; exact h
    · rename_i hc
      rw [if_neg hc]
      split at h
      · cases h
      · rename_i hd
        rw [if_neg hd]
        exact lenS_app r b _ _ m j h
theorem recS_app {a b : List Int} {k v : List Int} {n : Nat} (h : recS a = .ok k v n) : recS (a ++ b) = .ok k v n := by
  have hn := recS_ok h
  unfold recS at h ⊢
  cases hl : lenS a 0 0 with
  | short => rw [hl] at h; cases h
  | bad => rw [hl] at h; cases h
  | ok m i =>
    rw [hl] at h
    rw [lenS_app a b 0 0 m i hl]
    unfold recOf at h ⊢
    simp only at h ⊢
    by_cases c1 : m < i + 4
    · rw [if_pos c1] at h; cases h
    · rw [if_neg c1] at h ⊢
      by_cases c2 : (a.length : Int) < m
      · rw [if_pos c2] at h; cases h
      · rw [if_neg c2] at h
        rw [if_neg (by rw [List.length_append]; omega)]
        have hm : (m - 1).toNat < a.length := by omega
        have e1 : (a ++ b).getD (m - 1).toNat 0 = a.getD (m - 1).toNat 0 := by
          rw [List.getD_eq_getElem?_getD, List.getD_eq_getElem?_getD, List.getElem?_append_left hm]
        have e2 : bodyS (a ++ b) m i = bodyS a m i := by
          unfold bodyS
          rw [List.take_append_of_le_length (by omega)]
        rw [e1, e2]
        exact h
def shiftP (q : Nat) : PR → PR
  | .fault a w => .fault (q + a) w
  | .ok l => .ok l
theorem parseS_shift : ∀ (f : Nat) (b : List Int) (q p : Nat), parseS f b (q + p) = shiftP q (parseS f b p)
  | 0, b, q, p => rfl
  | f + 1, [], q, p => rfl
  | f + 1, x :: b, q, p => by
    unfold parseS
    simp only
    cases hR : recS (x :: b) with
    | fault a w => simp [shiftP, Nat.add_assoc]
    | ok k v n =>
      simp only
      rw [show q + p + n = q + (p + n) from by omega, parseS_shift f _ q (p + n)]
      cases parseS f ((x :: b).drop n) (p + n) with
      | fault a w => rfl
      | ok l => rfl
theorem parseS_fuel : ∀ (f g : Nat) (b : List Int) (p : Nat), b.length < f → b.length < g → parseS f b p = parseS g b p
  | 0, g, b, p, h, _ => by omega
  | f + 1, 0, b, p, _, h => by omega
  | f + 1, g + 1, [], p, _, _ => rfl
  | f + 1, g + 1, x :: b, p, hf, hg => by
    unfold parseS
    simp only
    cases hR : recS (x :: b) with
    | fault a w => rfl
    | ok k v n =>
      have hn := recS_ok hR
      have hd : ((x :: b).drop n).length < (x :: b).length := by rw [List.length_drop]; simp only [List.length_cons] at *; omega
      simp only
      rw [parseS_fuel f g _ _ (by simp only [List.length_cons] at *; omega) (by simp only [List.length_cons] at *; omega)]
theorem parseS_cons (f : Nat) (x : Int) (b : List Int) (p : Nat) : parseS (f + 1) (x :: b) p = match recS (x :: b) with
      | .fault a w => .fault (p + a) w
      | .ok k v n => match parseS f ((x :: b).drop n) (p + n) with
        | .fault a w => .fault a w
        | .ok l => .ok ((k, v) :: l) := rfl
def joinP (l : List (List Int × List Int)) : PR → PR
  | .fault a w => .fault a w
  | .ok m => .ok (l ++ m)
theorem parseS_app : ∀ (f : Nat) (a : List Int) (p : Nat) (la : List (List Int × List Int)), parseS f a p = .ok la → a.length < f → ∀ (b : List Int) (g h : Nat), a.length + b.length < g → b.length < h →
    parseS g (a ++ b) p = joinP la (parseS h b (p + a.length))
  | 0, a, p, la, _, hf => by omega
  | f + 1, [], p, la, hp, hf => by
    intro b g h hg hh
    simp [parseS] at hp
    subst hp
    rw [List.nil_append, List.length_nil, Nat.add_zero, parseS_fuel g h b p (by simpa using hg) hh]
    cases parseS h b p <;> rfl
  | f + 1, x :: a, p, la, hp, hf => by
    intro b g h hg hh
    obtain ⟨g, rfl⟩ : ∃ j, g = j + 1 := ⟨g - 1, by omega⟩
    rw [parseS_cons] at hp
    rw [List.cons_append, parseS_cons, ← List.cons_append]
    cases hR : recS (x :: a) with
    | fault y w => rw [hR] at hp; cases hp
    | ok k v n =>
      rw [hR] at hp
      rw [recS_app hR]
      have hn := recS_ok hR
      simp only at hp ⊢
      cases hq : parseS f ((x :: a).drop n) (p + n) with
      | fault y w => rw [hq] at hp; cases hp
      | ok ll =>
        rw [hq] at hp
        simp only [PR.ok.injEq] at hp
        subst hp
        have hdl : ((x :: a).drop n).length = (x :: a).length - n := List.length_drop
        rw [List.drop_append_of_le_length (by omega)]
        rw [parseS_app f _ (p + n) ll hq (by simp only [List.length_cons] at *; omega) b g h (by simp only [List.length_cons] at *; omega) hh]
        rw [show p + n + ((x :: a).drop n).length = p + (x :: a).length from by rw [hdl]; omega]
        cases parseS h b (p + (x :: a).length) with
        | fault y w => rfl
        | ok m => rfl
end Go.Proofs.YtpaghdfnhlpngaaDoor.PaxSpec

/- A record's text: its length in decimals, the key, the value: plain lists. -/
namespace Go.Proofs.YtpaghdfnhlpngaaDoor.PaxSpec
set_option linter.unusedVariables false

def numD (n : Nat) : Nat := (Lib.decDigits n).length
def decI (n : Nat) : List Int := (Lib.decDigits n).map fun b => (b.toNat : Int)
theorem decI_len (n : Nat) : (decI n).length = numD n := by simp [decI, numD]
theorem dig_step' {u : Nat} (h : ¬ u < 10) : Lib.decDigits u = Lib.decDigits (u / 10) ++ Lib.decDigits (u % 10) := by
  have ed := Lib.decDigits_one (show u % 10 < 10 by omega)
  rw [Lib.decDigits, dif_neg h, ed]
theorem decI_one {n : Nat} (h : n < 10) : decI n = [48 + (n : Int)] := by
  unfold decI
  rw [Lib.decDigits_one h]
  have : ∀ m : Fin 10, ([UInt8.ofNat (48 + m.val)].map fun b => (b.toNat : Int)) = [48 + (m.val : Int)] := by decide
  exact this ⟨n, h⟩
theorem decI_step {n : Nat} (h : ¬ n < 10) : decI n = decI (n / 10) ++ [48 + ((n % 10 : Nat) : Int)] := by
  rw [← decI_one (show n % 10 < 10 by omega)]
  unfold decI
  rw [← List.map_append, ← dig_step' h]
theorem head_app {a b : List Int} (h : a ≠ []) : (a ++ b).head? = a.head? := by
  cases a with
  | nil => exact absurd rfl h
  | cons x a => rfl
theorem numD_one {n : Nat} (h : n < 10) : numD n = 1 := by rw [← decI_len, decI_one h]; rfl
theorem numD_step {n : Nat} (h : ¬ n < 10) : numD n = numD (n / 10) + 1 := by rw [← decI_len, decI_step h, List.length_append, decI_len]; rfl
theorem decI_ne (n : Nat) : decI n ≠ [] := by
  by_cases h : n < 10
  · rw [decI_one h]; simp
  · rw [decI_step h]; simp
theorem numD_pos (n : Nat) : 1 ≤ numD n := by
  rw [← decI_len]
  exact List.length_pos_iff.2 (decI_ne n)
theorem decI_dig (n : Nat) : ∀ c ∈ decI n, 48 ≤ c ∧ c ≤ 57 := by
  induction n using Nat.strongRecOn with
  | _ n ih =>
    by_cases h : n < 10
    · rw [decI_one h]
      intro c hc
      rw [List.mem_singleton] at hc
      omega
    · rw [decI_step h]
      intro c hc
      rcases List.mem_append.1 hc with hc | hc
      · exact ih _ (by omega) c hc
      · rw [List.mem_singleton] at hc
        omega
theorem decI_head (n : Nat) (hn : 0 < n) : (decI n).head? ≠ some 48 := by
  induction n using Nat.strongRecOn with
  | _ n ih =>
    by_cases h : n < 10
    · rw [decI_one h]
      simp
      omega
    · rw [decI_step h, head_app (decI_ne _)]
      exact ih _ (by omega) (by omega)
def valI : List Int → Int → Int
  | [], m => m
  | c :: r, m => valI r (10 * m + (c - 48))
theorem valI_append : ∀ (x y : List Int) (m : Int), valI (x ++ y) m = valI y (valI x m)
  | [], y, m => rfl
  | c :: x, y, m => valI_append x y _
theorem valI_dec (n : Nat) : valI (decI n) 0 = n := by
  induction n using Nat.strongRecOn with
  | _ n ih =>
    by_cases h : n < 10
    · rw [decI_one h]
      simp only [valI]
      omega
    · rw [decI_step h, valI_append, ih _ (by omega)]
      simp only [valI]
      omega
theorem valI_ge : ∀ (D : List Int) (m : Int), (∀ c ∈ D, 48 ≤ c ∧ c ≤ 57) → 0 ≤ m → m ≤ valI D m
  | [], m, _, _ => Int.le_refl _
  | c :: D, m, h, h0 => by
    have hc := h c (by simp)
    have := valI_ge D (10 * m + (c - 48)) (fun x hx => h x (by simp [hx])) (by omega)
    simp only [valI]
    omega
/-- Digits without a zero ahead are the decimals of what they say. -/
theorem dec_of_val : ∀ (k : Nat) (D : List Int), D.length = k + 1 → (∀ c ∈ D, 48 ≤ c ∧ c ≤ 57) → D.head? ≠ some 48 → 0 < valI D 0 ∧ decI (valI D 0).toNat = D
  | 0, D, hl, hd, hh => by
    match D, hl with
    | [c], _ =>
      have hc := hd c (by simp)
      have : c ≠ 48 := fun e => hh (by rw [e]; rfl)
      simp only [valI]
      refine ⟨by omega, ?_⟩
      rw [decI_one (by omega)]
      simp
      omega
  | k + 1, D, hl, hd, hh => by
    have hne : D ≠ [] := by intro e; rw [e] at hl; simp at hl
    have hD : D = D.dropLast ++ [D.getLast hne] := (List.dropLast_concat_getLast hne).symm
    generalize D.getLast hne = c at hD
    generalize D.dropLast = E at hD
    subst hD
    have hEl : E.length = k + 1 := by simpa using hl
    have hc := hd c (by simp)
    have hEd : ∀ x ∈ E, 48 ≤ x ∧ x ≤ 57 := fun x hx => hd x (by simp [hx])
    have hEne : E ≠ [] := by intro e; rw [e] at hEl; simp at hEl
    obtain ⟨h0, h1⟩ := dec_of_val k E hEl hEd (by rwa [head_app hEne] at hh)
    rw [valI_append]
    simp only [valI]
    refine ⟨by omega, ?_⟩
    have e1 : (10 * valI E 0 + (c - 48)).toNat / 10 = (valI E 0).toNat := by omega
    have e2 : ((10 * valI E 0 + (c - 48)).toNat % 10 : Nat) = (c - 48).toNat := by omega
    rw [decI_step (by omega), e1, e2, h1]
    congr 2
    omega

theorem lenS_run : ∀ (D t : List Int) (m : Int) (i : Nat), (∀ c ∈ D, 48 ≤ c ∧ c ≤ 57) → i + D.length ≤ 7 → 0 < i + D.length → (i = 0 → D.head? ≠ some 48) → lenS (D ++ 32 :: t) m i = .ok (valI D m) (i + D.length)
  | [], t, m, i, _, _, h0, _ => by
    rw [List.nil_append]
    unfold lenS
    rw [if_pos ⟨rfl, by simpa using h0⟩]
    rfl
  | c :: D, t, m, i, hd, h7, _, hh => by
    have hc := hd c (by simp)
    rw [List.cons_append]
    unfold lenS
    rw [if_neg (by omega), if_neg (by
      rintro (h | h | ⟨h, h'⟩ | h)
      · omega
      · omega
      · exact hh h (by rw [h']; rfl)
      · simp only [List.length_cons] at h7; omega)]
    rw [lenS_run D t _ (i + 1) (fun x hx => hd x (by simp [hx])) (by simp only [List.length_cons] at h7; omega) (by omega) (fun h => by omega)]
    simp only [valI, List.length_cons]
    congr 1
    omega
theorem lenS_inv : ∀ (b : List Int) (m : Int) (i : Nat) (n : Int) (j : Nat), lenS b m i = .ok n j → ∃ D t, b = D ++ 32 :: t ∧ (∀ c ∈ D, 48 ≤ c ∧ c ≤ 57) ∧ j = i + D.length ∧ n = valI D m ∧ 0 < j ∧ (i = 0 → D.head? ≠ some 48)
  | [], m, i, n, j, h => by simp [lenS] at h
  | c :: r, m, i, n, j, h => by
    unfold lenS at h
    split at h
    · rename_i hc
      simp only [LR.ok.injEq] at h
      obtain ⟨rfl, rfl⟩ := h
      exact ⟨[], r, by rw [hc.1]; rfl, fun x hx => by simp at hx, rfl, rfl, hc.2, fun h => by simp⟩
    · split at h
      · cases h
      · rename_i hd
        obtain ⟨D, t, h1, h2, h3, h4, h5, _⟩ := lenS_inv r _ (i + 1) n j h
        refine ⟨c :: D, t, by rw [h1]; rfl, fun x hx => ?_, by simp only [List.length_cons]; omega, h4, h5, fun h0 => ?_⟩
        · rcases List.mem_cons.1 hx with rfl | hx
          · exact ⟨Int.not_lt.1 fun e => hd (.inl e), Int.not_lt.1 fun e => hd (.inr (.inl e))⟩
          · exact h2 x hx
        · intro e
          exact hd (.inr (.inr (.inl ⟨h0, by simpa using e⟩)))

/-- A record's text. -/
def recT (n : Nat) (key val : List Int) : List Int := decI n ++ 32 :: (key ++ 61 :: (val ++ [10]))
def keyS (key val : List Int) : Prop := key ≠ [] ∧ 61 ∉ key ∧ 0 ∉ key ∧ 0 ∉ val
theorem recT_len (n : Nat) (key val : List Int) : (recT n key val).length = numD n + key.length + val.length + 3 := by
  unfold recT
  simp only [List.length_append, List.length_cons, List.length_nil, decI_len]
  omega
theorem idx_mid : ∀ (key val : List Int), 61 ∉ key → (key ++ 61 :: val).idxOf? 61 = some key.length
  | [], val, _ => by rw [List.nil_append, List.idxOf?_cons]; rfl
  | c :: key, val, h => by
    rw [List.cons_append, List.idxOf?_cons]
    have hc : (c == 61) = false := beq_eq_false_iff_ne.2 fun e => h (by simp [e])
    rw [hc, idx_mid key val (fun e => h (by simp [e]))]
    simp
theorem recS_rec {n : Nat} {key val : List Int} (hk : keyS key val) (hn : n = numD n + key.length + val.length + 3) (h7 : numD n ≤ 7) : recS (recT n key val) = .ok key val n := by
  obtain ⟨k1, k2, k3, k4⟩ := hk
  have hkl := List.length_pos_iff.2 k1
  have hp := numD_pos n
  have hl := recT_len n key val
  unfold recS
  have h1 : lenS (recT n key val) 0 0 = .ok (n : Int) (numD n) := by
    have := lenS_run (decI n) (key ++ 61 :: (val ++ [10])) 0 0 (decI_dig n) (by rw [decI_len]; omega) (by rw [decI_len]; omega) (fun _ => decI_head n (by omega))
    rw [valI_dec, decI_len] at this
    unfold recT
    rw [this]
    congr 1
    omega
  rw [h1]
  unfold recOf
  simp only
  have hlen : (recT n key val).length = n := by omega
  rw [if_neg (by omega), if_neg (by omega)]
  have e1 : recT n key val = (decI n ++ 32 :: (key ++ 61 :: val)) ++ [10] := by simp [recT]
  have e2 : ((n : Int) - 1).toNat = (decI n ++ 32 :: (key ++ 61 :: val)).length := by
    simp only [List.length_append, List.length_cons, decI_len]
    omega
  have e3 : (recT n key val).getD ((n : Int) - 1).toNat 0 = 10 := by
    rw [e1, e2, List.getD_eq_getElem?_getD, List.getElem?_append_right (Nat.le_refl _)]
    simp
  rw [if_neg (by rw [e3]; simp)]
  have e4 : bodyS (recT n key val) n (numD n) = key ++ 61 :: val := by
    unfold bodyS
    rw [e1, e2, List.take_left]
    have : decI n ++ 32 :: (key ++ 61 :: val) = (decI n ++ [32]) ++ (key ++ 61 :: val) := by simp
    rw [this]
    have hx : numD n + 1 = (decI n ++ [32]).length := by simp [decI_len]
    rw [hx, List.drop_left]
  rw [e4, idx_mid key val k2]
  cases hq : key.length with
  | zero => omega
  | succ j =>
    simp only
    have h0 : ¬ (0 : Int) ∈ key ++ 61 :: val := by
      simp only [List.mem_append, List.mem_cons]
      rintro (h | h | h)
      · exact k3 h
      · omega
      · exact k4 h
    rw [if_neg h0]
    have t1 : (key ++ 61 :: val).take (j + 1) = key := by rw [← hq, List.take_left]
    have t2 : (key ++ 61 :: val).drop (j + 2) = val := by
      have : key ++ 61 :: val = (key ++ [61]) ++ val := by simp
      rw [this, show j + 2 = (key ++ [61]).length from by simp [hq], List.drop_left]
    rw [t1, t2]
    simp
theorem recS_inv {b key val : List Int} {n : Nat} (h : recS b = .ok key val n) : keyS key val ∧ n = numD n + key.length + val.length + 3 ∧ numD n ≤ 7 ∧ b.take n = recT n key val := by
  have hn := recS_ok h
  unfold recS at h
  cases hl : lenS b 0 0 with
  | short => rw [hl] at h; cases h
  | bad => rw [hl] at h; cases h
  | ok m i =>
    rw [hl] at h
    obtain ⟨_, hi7, hi0, hm0, _, _⟩ := lenS_ok b 0 0 (by omega) (by simp) (by omega) m i hl
    obtain ⟨D, t, hb, hD, hj, hm, _, hh⟩ := lenS_inv b 0 0 m i hl
    have hDl : D.length = i := by omega
    obtain ⟨dv, dd⟩ := dec_of_val (D.length - 1) D (by omega) hD (hh rfl)
    rw [← hm] at dv dd
    unfold recOf at h
    simp only at h
    by_cases c1 : m < i + 4
    · rw [if_pos c1] at h; cases h
    · rw [if_neg c1] at h
      by_cases c2 : (b.length : Int) < m
      · rw [if_pos c2] at h; cases h
      · rw [if_neg c2] at h
        by_cases c3 : b.getD (m - 1).toNat 0 ≠ 10
        · rw [if_pos c3] at h; cases h
        · rw [if_neg c3] at h
          have c3' : b.getD (m - 1).toNat 0 = 10 := Classical.not_not.1 c3
          generalize hB : bodyS b m i = B at h
          cases hq : B.idxOf? 61 with
          | none => rw [hq] at h; cases h
          | some j =>
            rw [hq] at h
            cases j with
            | zero => cases h
            | succ j =>
              simp only at h
              split at h
              · cases h
              · rename_i h0
                simp only [RR.ok.injEq] at h
                obtain ⟨rfl, rfl, rfl⟩ := h
                obtain ⟨q1, q2, q3⟩ := idxOf?_some hq
                have hBs : B = B.take (j + 1) ++ 61 :: B.drop (j + 2) := by
                  have e := (List.take_append_drop (j + 1) B).symm
                  have : B.drop (j + 1) = 61 :: B.drop (j + 2) := by
                    rw [List.drop_eq_getElem_cons q1]
                    rw [List.getElem?_eq_getElem q1] at q2
                    rw [Option.some.inj q2]
                  rw [this] at e
                  exact e
                have hmi : (m - 1).toNat < b.length := by omega
                have hBl : B.length = (m - 1).toNat - (i + 1) := by
                  rw [← hB]
                  unfold bodyS
                  rw [List.length_drop, List.length_take]
                  omega
                have hkl : (B.take (j + 1)).length = j + 1 := by rw [List.length_take]; omega
                have hvl : (B.drop (j + 2)).length = B.length - (j + 2) := List.length_drop
                have hnum : numD m.toNat = i := by rw [← decI_len, dd, hDl]
                refine ⟨⟨?_, ?_, ?_, ?_⟩, ?_, by omega, ?_⟩
                · intro e; rw [e] at hkl; simp at hkl
                · intro hm'
                  obtain ⟨x, hx, hx2⟩ := List.mem_iff_getElem.1 hm'
                  rw [hkl] at hx
                  refine q3 x hx ?_
                  rw [List.getElem_take] at hx2
                  rw [List.getElem?_eq_getElem (by omega), hx2]
                · intro hm'; exact h0 (List.mem_of_mem_take hm')
                · intro hm'; exact h0 (List.mem_of_mem_drop hm')
                · rw [hnum, hkl, hvl]; omega
                · have e1 : b.take m.toNat = b.take (m - 1).toNat ++ [10] := by
                    rw [show m.toNat = (m - 1).toNat + 1 from by omega, List.take_succ_eq_append_getElem hmi]
                    rw [List.getD_eq_getElem?_getD, List.getElem?_eq_getElem hmi] at c3'
                    rw [show b[(m - 1).toNat] = 10 from c3']
                  have e2 : b.take (m - 1).toNat = (D ++ [32]) ++ B := by
                    have e3 := (List.take_append_drop (i + 1) (b.take (m - 1).toNat)).symm
                    have e4 : (b.take (m - 1).toNat).drop (i + 1) = B := hB
                    rw [e4, List.take_take, Nat.min_eq_left (by omega)] at e3
                    rw [e3, hb]
                    have : D ++ 32 :: t = (D ++ [32]) ++ t := by simp
                    rw [this, show i + 1 = (D ++ [32]).length from by simp [hDl], List.take_left]
                  rw [e1, e2]
                  unfold recT
                  rw [dd]
                  conv => lhs; rw [hBs]
                  simp
/-- The least number of digits that fits. -/
def srch (rest : Nat) : Nat → Nat → Nat
  | 0, d => d
  | f + 1, d => if numD (rest + d) = d then d else srch rest f (d + 1)
def dP (rest : Nat) : Nat := srch rest 7 1
theorem srch_spec (rest : Nat) : ∀ (f d e : Nat), d ≤ e → e ≤ d + f → numD (rest + e) = e → numD (rest + srch rest f d) = srch rest f d ∧ d ≤ srch rest f d ∧ srch rest f d ≤ e
  | 0, d, e, h1, h2, h => by
    obtain rfl : d = e := by omega
    exact ⟨h, Nat.le_refl _, Nat.le_refl _⟩
  | f + 1, d, e, h1, h2, h => by
    unfold srch
    by_cases hd : numD (rest + d) = d
    · rw [if_pos hd]; exact ⟨hd, Nat.le_refl _, h1⟩
    · rw [if_neg hd]
      have hne : d ≠ e := by rintro rfl; exact hd h
      obtain ⟨a, b, c⟩ := srch_spec rest f (d + 1) e (by omega) (by omega) h
      exact ⟨a, by omega, c⟩
theorem numD_mono : ∀ (a b : Nat), a ≤ b → numD a ≤ numD b := by
  intro a
  induction a using Nat.strongRecOn with
  | _ a ih =>
    intro b hab
    by_cases ha : a < 10
    · rw [numD_one ha]; exact numD_pos b
    · rw [numD_step ha, numD_step (show ¬ b < 10 by omega)]
      have := ih (a / 10) (by omega) (b / 10) (by omega)
      omega
theorem numD_near : ∀ (a k : Nat), k ≤ 9 → numD (a + k) ≤ numD a + 1 := by
  intro a
  induction a using Nat.strongRecOn with
  | _ a ih =>
    intro k hk
    by_cases ha : a < 10
    · by_cases hb : a + k < 10
      · rw [numD_one ha, numD_one hb]; omega
      · rw [numD_one ha, numD_step hb, numD_one (by omega)]; omega
    · rw [numD_step ha, numD_step (show ¬ a + k < 10 by omega)]
      by_cases hc : (a + k) / 10 = a / 10
      · rw [hc]; omega
      · have := ih (a / 10) (by omega) 1 (by omega)
        rw [show (a + k) / 10 = a / 10 + 1 from by omega]
        omega
theorem numD_small {n : Nat} (h : n < 10000000) : numD n ≤ 7 := by
  by_cases h1 : n < 10
  · rw [numD_one h1]; omega
  · rw [numD_step h1]
    by_cases h2 : n / 10 < 10
    · rw [numD_one h2]; omega
    · rw [numD_step h2]
      by_cases h3 : n / 10 / 10 < 10
      · rw [numD_one h3]; omega
      · rw [numD_step h3]
        by_cases h4 : n / 10 / 10 / 10 < 10
        · rw [numD_one h4]; omega
        · rw [numD_step h4]
          by_cases h5 : n / 10 / 10 / 10 / 10 < 10
          · rw [numD_one h5]; omega
          · rw [numD_step h5]
            by_cases h6 : n / 10 / 10 / 10 / 10 / 10 < 10
            · rw [numD_one h6]; omega
            · rw [numD_step h6, numD_one (by omega)]; omega
/-- Some number of digits fits, where the text is not too long. -/
theorem dP_ok (rest : Nat) (h : rest < 9000000) : numD (rest + dP rest) = dP rest ∧ 1 ≤ dP rest ∧ dP rest ≤ 7 ∧ ∀ e, 1 ≤ e → e ≤ 8 → numD (rest + e) = e → dP rest ≤ e ∧ e ≤ dP rest + 1 := by
  have hex : ∃ e, 1 ≤ e ∧ e ≤ 7 ∧ numD (rest + e) = e := by
    have step : ∀ d, 1 ≤ d → d ≤ numD (rest + d) → d ≤ 7 → ∃ e, 1 ≤ e ∧ e ≤ 7 ∧ numD (rest + e) = e := by
      intro d
      induction h7 : 7 - d generalizing d with
      | zero =>
        intro h1 h2 h3
        obtain rfl : d = 7 := by omega
        have := numD_small (show rest + 7 < 10000000 by omega)
        exact ⟨7, by omega, by omega, by omega⟩
      | succ k ih =>
        intro h1 h2 h3
        by_cases he : numD (rest + d) = d
        · exact ⟨d, h1, h3, he⟩
        · have := numD_mono (rest + d) (rest + (d + 1)) (by omega)
          exact ih (d + 1) (by omega) (by omega) (by omega) (by omega)
    exact step 1 (by omega) (numD_pos _) (by omega)
  obtain ⟨e, e1, e7, he⟩ := hex
  obtain ⟨a, b, c⟩ := srch_spec rest 7 1 e e1 (by omega) he
  refine ⟨a, b, by show srch rest 7 1 ≤ 7; omega, fun e' h1 h8 he' => ?_⟩
  have ⟨a', b', c'⟩ := srch_spec rest 7 1 e' h1 (by omega) he'
  refine ⟨c', ?_⟩
  have hn := numD_near (rest + dP rest) (e' - dP rest) (by omega)
  have : rest + dP rest + (e' - dP rest) = rest + e' := by
    have : dP rest ≤ e' := c'
    omega
  rw [this, he'] at hn
  have ha : numD (rest + dP rest) = dP rest := a
  omega
end Go.Proofs.YtpaghdfnhlpngaaDoor.PaxSpec

/- The printed pax.Print answers what PaxSpec says of records' texts. -/
namespace Go.Proofs.YtpaghdfnhlpngaaDoor.PairsLaw
open Go.RowKit Go.Proofs.YtpaghdfnhlpngaaDoor.PPaxPairs Go.Proofs.YtpaghdfnhlpngaaDoorW.PrintWords Go.Proofs.YtpaghdfnhlpngaaDoorW.PrintLast Go.Proofs.YtpaghdfnhlpngaaDoor.PaxSpec
set_option linter.unusedVariables false

theorem pb_w64 {x : Int} (h0 : -4611686018427387904 ≤ x) (h1 : x ≤ 4611686018427387904) : wrap64 x = x := by unfold wrap64; omega
theorem bytesOf_app (a b : ByteArray) : bytesOf (a ++ b) = bytesOf a ++ bytesOf b := by
  unfold bytesOf
  rw [ByteArray.data_append, Array.toList_append, List.map_append]
theorem bytesOf_nil_iff (a : ByteArray) : bytesOf a = [] ↔ a.data.toList = [] := by simp [bytesOf]
theorem mem_bytesOf (a : ByteArray) (c : UInt8) : (c.toNat : Int) ∈ bytesOf a ↔ c ∈ a.data.toList := by
  unfold bytesOf
  constructor
  · intro h
    obtain ⟨b, hb, he⟩ := List.mem_map.1 h
    have : b = c := UInt8.toNat_inj.1 (by omega)
    exact this ▸ hb
  · intro h
    exact List.mem_map.2 ⟨c, h, rfl⟩
theorem bytesOf_len (a : ByteArray) : (bytesOf a).length = a.size := bytesOf_length a
def okB (x : S36) : Bool := decide (x.f0.data.toList ≠ []) && (!(Lib.containsAny x.f0.data.toList [61, 0])) && decide (Lib.indexByte x.f1.data.toList 0 < 0)
theorem contains_two (l : List UInt8) : Lib.containsAny l [61, 0] = true ↔ (61 ∈ l ∨ 0 ∈ l) := by
  unfold Lib.containsAny
  rw [decide_eq_true_eq]
  induction l with
  | nil => simp [Lib.indexAny]
  | cons b l ih =>
    unfold Lib.indexAny
    by_cases hb : ([61, 0] : List UInt8).contains b = true
    · rw [if_pos hb]
      simp only [List.contains_cons, List.contains_nil, Bool.or_false, Bool.or_eq_true, beq_iff_eq] at hb
      simp only [Int.le_refl, true_iff, List.mem_cons]
      rcases hb with rfl | rfl <;> simp
    · rw [if_neg hb]
      simp only [List.contains_cons, List.contains_nil, Bool.or_false, Bool.or_eq_true, beq_iff_eq, not_or] at hb
      have hm : (61 ∈ b :: l ∨ 0 ∈ b :: l) ↔ (61 ∈ l ∨ 0 ∈ l) := by
        simp only [List.mem_cons]
        constructor
        · rintro ((h | h) | (h | h))
          · exact absurd h.symm hb.1
          · exact .inl h
          · exact absurd h.symm hb.2
          · exact .inr h
        · rintro (h | h)
          · exact .inl (.inr h)
          · exact .inr (.inr h)
      rw [hm, ← ih]
      have hge := Lib.indexAny_ge [61, 0] l
      by_cases h1 : (Lib.indexAny l [61, 0] == -1) = true
      · rw [if_pos h1, beq_iff_eq.1 h1]
      · rw [if_neg h1]
        have : Lib.indexAny l [61, 0] ≠ -1 := fun e => h1 (beq_iff_eq.2 e)
        omega
theorem index_zero (l : List UInt8) : Lib.indexByte l 0 < 0 ↔ 0 ∉ l := by
  have hge := Lib.indexByte_ge l 0
  constructor
  · intro h hm
    obtain ⟨i, hi, he⟩ := List.mem_iff_getElem.1 hm
    exact Lib.indexByte_none (show Lib.indexByte l 0 = -1 by omega) i (by rw [List.getElem?_eq_getElem hi, he])
  · intro h
    refine Classical.byContradiction fun hn => ?_
    obtain ⟨o, ho⟩ := Int.eq_ofNat_of_zero_le (show 0 ≤ Lib.indexByte l 0 by omega)
    exact h (List.mem_of_getElem? (Lib.indexByte_some ho).1)
theorem okB_iff (x : S36) : okB x = true ↔ keyS (bytesOf x.f0) (bytesOf x.f1) := by
  unfold okB keyS
  rw [Bool.and_eq_true, Bool.and_eq_true, decide_eq_true_eq, decide_eq_true_eq, index_zero]
  have h1 := mem_bytesOf x.f0 61
  have h2 := mem_bytesOf x.f0 0
  have h3 := mem_bytesOf x.f1 0
  have e61 : ((61 : UInt8).toNat : Int) = 61 := rfl
  have e0 : ((0 : UInt8).toNat : Int) = 0 := rfl
  rw [e61] at h1
  rw [e0] at h2 h3
  rw [h1, h2, h3, ne_eq, ne_eq, bytesOf_nil_iff]
  have hc := contains_two x.f0.data.toList
  cases hb : Lib.containsAny x.f0.data.toList [61, 0] with
  | true =>
    rw [hb] at hc
    have := hc.1 rfl
    constructor
    · rintro ⟨⟨_, h⟩, _⟩; cases h
    · rintro ⟨_, a, b, _⟩; exact absurd this (fun h => h.elim a b)
  | false =>
    rw [hb] at hc
    have : ¬ (61 ∈ x.f0.data.toList ∨ 0 ∈ x.f0.data.toList) := fun h => by have := hc.2 h; cases this
    constructor
    · rintro ⟨⟨a, _⟩, b⟩; exact ⟨a, fun h => this (.inl h), fun h => this (.inr h), b⟩
    · rintro ⟨a, _, _, b⟩; exact ⟨⟨a, rfl⟩, b⟩
def restS (x : S36) : Nat := x.f0.size + x.f1.size + 3
def recP (x : S36) : List Int := recT (restS x + dP (restS x)) (bytesOf x.f0) (bytesOf x.f1)
def printS (l : List S36) : List Int × Int := if l.all okB = true then (l.flatMap recP, 0) else ([], 141)
theorem itoa_f (n : Nat) (hn : n ≤ 9000000000000000000) : strconv_Itoa.f (n : Int) = some ⟨(Lib.decDigits n).toArray⟩ := by
  unfold strconv_Itoa.f
  rw [if_pos ⟨by omega, by omega⟩, Lib.itoa_nonneg]
theorem itoa_size (n : Nat) : (⟨(Lib.decDigits n).toArray⟩ : ByteArray).size = numD n := Lib.size_eq _
theorem bytesOf_itoa (n : Nat) : bytesOf (⟨(Lib.decDigits n).toArray⟩ : ByteArray) = decI n := rfl
theorem l2_run (x : S36) (hr : restS x < 9000000) (acc : List Int) (hacc : acc.length < 1000000000000) (L : List S36) (n : Int) (q : Nat) (hq : q < 1000000000000) (m : Nat) : ∀ (d k : Nat), 1 ≤ d → d + m = dP (restS x) →
    pax_Print.l2 (k + m + 1) acc (restS x) ((restS x + d : Nat) : Int) L n q x.f0 x.f1 = pax_Print.l1 k (acc ++ recP x) L n ((q + 1 : Nat) : Int) := by
  obtain ⟨g1, g2, g3, g4⟩ := dP_ok (restS x) hr
  induction m with
  | zero =>
    intro d k h1 hd
    obtain rfl : d = dP (restS x) := by omega
    have e1 := itoa_f (restS x + dP (restS x)) (by omega)
    have e3 : wrap64 ((q : Int) + 1) = ((q + 1 : Nat) : Int) := (pb_w64 (by omega) (by omega)).trans (by omega)
    have e2 : wrap64 (((restS x + dP (restS x) : Nat) : Int) - (restS x : Int)) = (dP (restS x) : Int) := by
      clear e3
      exact (pb_w64 (by omega) (by omega)).trans (by omega)
    have hs := itoa_size (restS x + dP (restS x))
    rw [g1] at hs
    have hrs : restS x = x.f0.size + x.f1.size + 3 := rfl
    rw [Nat.add_zero, pax_Print.l2, e1]
    simp only [Option.bind_some]
    rw [e2, e3, hs]
    clear e1 e2 e3
    rw [if_pos rfl, if_neg (by omega)]
    have s1 : (⟨#[32]⟩ : ByteArray).size = 1 := rfl
    have s2 : (⟨#[61]⟩ : ByteArray).size = 1 := rfl
    have s3 : (⟨#[10]⟩ : ByteArray).size = 1 := rfl
    simp only [ByteArray.size_append, hs, s1, s2, s3]
    rw [if_pos (by omega), if_pos (by omega), if_pos (by omega), if_pos (by omega), if_pos (by omega), if_pos (by omega)]
    have hrec : bytesOf (((((⟨(Lib.decDigits (restS x + dP (restS x))).toArray⟩ ++ (⟨#[32]⟩ : ByteArray)) ++ x.f0) ++ (⟨#[61]⟩ : ByteArray)) ++ x.f1) ++ (⟨#[10]⟩ : ByteArray)) = recP x := by
      have b1 : bytesOf (⟨#[32]⟩ : ByteArray) = [32] := rfl
      have b2 : bytesOf (⟨#[61]⟩ : ByteArray) = [61] := rfl
      have b3 : bytesOf (⟨#[10]⟩ : ByteArray) = [10] := rfl
      rw [bytesOf_app, bytesOf_app, bytesOf_app, bytesOf_app, bytesOf_app, b1, b2, b3, bytesOf_itoa]
      simp [recP, recT]
    rw [hrec]
  | succ m ih =>
    intro d k h1 hd
    have e1 := itoa_f (restS x + d) (by omega)
    have e3 : wrap64 (((restS x + d : Nat) : Int) + 1) = ((restS x + (d + 1) : Nat) : Int) := (pb_w64 (by omega) (by omega)).trans (by omega)
    have e2 : wrap64 (((restS x + d : Nat) : Int) - (restS x : Int)) = (d : Int) := by
      clear e3
      exact (pb_w64 (by omega) (by omega)).trans (by omega)
    have hs := itoa_size (restS x + d)
    have hne : numD (restS x + d) ≠ d := fun e => by have := (g4 d h1 (by omega) e).1; omega
    rw [show k + (m + 1) + 1 = (k + m + 1) + 1 from by omega, pax_Print.l2, e1]
    simp only [Option.bind_some]
    rw [e2, hs, e3]
    clear e1 e2 e3
    rw [if_neg (by omega), if_pos (by omega)]
    exact ih (d + 1) k (by omega) (by omega)
def totS : List S36 → Nat
  | [] => 0
  | x :: l => restS x + 8 + totS l
theorem recP_len (x : S36) (hr : restS x < 9000000) : (recP x).length = restS x + dP (restS x) ∧ dP (restS x) ≤ 7 := by
  obtain ⟨g1, g2, g3, g4⟩ := dP_ok (restS x) hr
  unfold recP
  rw [recT_len, g1, bytesOf_len, bytesOf_len]
  have : restS x = x.f0.size + x.f1.size + 3 := rfl
  exact ⟨by omega, g3⟩
theorem rd_drop (l : List S36) (q : Nat) (h : q < l.length) : l.drop q = rd_T36 l (q : Int) :: l.drop (q + 1) := by
  rw [List.drop_eq_getElem_cons h]
  simp [rd_T36, List.getD_eq_getElem?_getD, h]
theorem l1_run (l : List S36) (hl : l.length < 100000000000) (hb : totS l < 9000000) (r : Nat) : ∀ (k q : Nat) (acc : List Int), q + r = l.length → 9 * r + 1 ≤ k → acc.length + totS (l.drop q) < 100000000000 → totS (l.drop q) < 9000000 →
    pax_Print.l1 k acc l (l.length : Int) q = some (acc ++ (l.drop q).flatMap recP, 0) := by
  induction r with
  | zero =>
    intro k q acc hq hk ha hb
    obtain ⟨k, rfl⟩ : ∃ m, k = m + 1 := ⟨k - 1, by omega⟩
    rw [pax_Print.l1, if_neg (by omega), List.drop_eq_nil_of_le (by omega)]
    simp
  | succ r ih =>
    intro k q acc hq hk ha hb
    obtain ⟨k, rfl⟩ : ∃ m, k = m + 1 := ⟨k - 1, by omega⟩
    have hlt : q < l.length := by omega
    have hd := rd_drop l q hlt
    rw [hd] at ha hb ⊢
    generalize hx : rd_T36 l (q : Int) = x at *
    simp only [totS] at ha hb
    have hr : restS x < 9000000 := by omega
    have hrl := recP_len x hr
    obtain ⟨g1, g2, g3, g4⟩ := dP_ok (restS x) hr
    have hrs : restS x = x.f0.size + x.f1.size + 3 := rfl
    rw [pax_Print.l1, if_pos (by omega), if_pos (by omega), if_pos (by omega)]
    have e1 : wrap64 ((x.f0.size : Int) + (x.f1.size : Int)) = ((x.f0.size + x.f1.size : Nat) : Int) := (pb_w64 (by omega) (by omega)).trans (by omega)
    have e2 : wrap64 (((x.f0.size + x.f1.size : Nat) : Int) + 3) = (restS x : Int) := by
      clear e1
      exact (pb_w64 (by omega) (by omega)).trans (by omega)
    have e3 : wrap64 ((restS x : Int) + 1) = ((restS x + 1 : Nat) : Int) := by
      clear e1 e2
      exact (pb_w64 (by omega) (by omega)).trans (by omega)
    simp only [hx, e1, e2, e3]
    clear e1 e2 e3
    have hk2 : k = (k - dP (restS x)) + (dP (restS x) - 1) + 1 := by omega
    rw [hk2, l2_run x hr acc (by omega) l l.length q (by omega) (dP (restS x) - 1) 1 (k - dP (restS x)) (by omega) (by omega)]
    rw [ih (k - dP (restS x)) (q + 1) (acc ++ recP x) (by omega) (by omega) (by rw [List.length_append]; omega) (by omega)]
    simp
theorem l0_run (l : List S36) (hl : l.length < 100000000000) (hb : totS l < 9000000) (r : Nat) : ∀ (k q : Nat), q + r = l.length → 10 * l.length + r + 2 ≤ k → totS (l.drop q) < 9000000 → (l.take q).all okB = true →
    pax_Print.l0 k l l (l.length : Int) q = some (printS l) := by
  induction r with
  | zero =>
    intro k q hq hk hb' hp
    obtain ⟨k, rfl⟩ : ∃ m, k = m + 1 := ⟨k - 1, by omega⟩
    have := l1_run l hl hb l.length k 0 [] (by omega) (by omega) (by simp; omega) (by simpa using hb)
    rw [List.take_of_length_le (by omega)] at hp
    rw [pax_Print.l0, if_neg (by omega)]
    simp only [List.nil_append, List.drop_zero] at this
    unfold printS
    rw [if_pos hp]
    exact this
  | succ r ih =>
    intro k q hq hk hb' hp
    obtain ⟨k, rfl⟩ : ∃ m, k = m + 1 := ⟨k - 1, by omega⟩
    have hlt : q < l.length := by omega
    have hd := rd_drop l q hlt
    have ht : l.take (q + 1) = l.take q ++ [rd_T36 l (q : Int)] := by
      rw [List.take_succ_eq_append_getElem hlt]
      simp [rd_T36, List.getD_eq_getElem?_getD, hlt]
    have hmem : rd_T36 l (q : Int) ∈ l := by
      have : rd_T36 l (q : Int) ∈ l.drop q := by rw [hd]; simp
      exact List.mem_of_mem_drop this
    rw [hd] at hb'
    generalize hx : rd_T36 l (q : Int) = x at *
    simp only [totS] at hb'
    have hrs : restS x = x.f0.size + x.f1.size + 3 := rfl
    have hbad : okB x = false → printS l = ([], 141) := fun h => by
      unfold printS
      rw [if_neg]
      intro h2
      have := List.all_eq_true.1 h2 x hmem
      rw [h] at this
      cases this
    rw [pax_Print.l0, if_pos (by omega), if_pos (by omega), if_pos (by omega)]
    have e3 : wrap64 ((q : Int) + 1) = ((q + 1 : Nat) : Int) := (pb_w64 (by omega) (by omega)).trans (by omega)
    simp only [hx, e3]
    clear e3
    have hC : strings_ContainsAny.f x.f0 (⟨#[61, 0]⟩ : ByteArray) = some (Lib.containsAny x.f0.data.toList [61, 0]) := by
      unfold strings_ContainsAny.f
      rw [if_pos (by omega), if_pos ⟨rfl, rfl⟩]
    have hI : strings_IndexByte.f x.f1 0 = some (Lib.indexByte x.f1.data.toList 0) := rfl
    by_cases c0 : x.f0.toList = ([] : List UInt8)
    · rw [if_pos c0]
      rw [hbad (by unfold okB; rw [Lib.toList_data] at c0; simp [c0])]
    · rw [if_neg c0, hC]
      rw [Lib.toList_data] at c0
      simp only [Option.bind_some]
      cases c1 : Lib.containsAny x.f0.data.toList [61, 0] with
      | true =>
        rw [if_pos rfl, hbad (by unfold okB; simp [c1])]
      | false =>
        rw [if_neg (by decide), hI]
        simp only [Option.bind_some]
        by_cases c2 : Lib.indexByte x.f1.data.toList 0 ≥ 0
        · rw [if_pos c2, hbad (by unfold okB; simp; intro _ _; omega)]
        · rw [if_neg c2]
          refine ih k (q + 1) (by omega) (by omega) (by omega) ?_
          have hok : okB x = true := by
            unfold okB
            rw [c1, decide_eq_true c0, decide_eq_true (show Lib.indexByte x.f1.data.toList 0 < 0 by omega)]
            rfl
          rw [ht, List.all_append, hp]
          simp [hok]
theorem print_f (l : List S36) (hl : l.length < 100000000000) (hb : totS l < 9000000) (k : Nat) (hk : 11 * l.length + 2 ≤ k) : pax_Print.f k l = some (printS l) := by
  unfold pax_Print.f
  exact l0_run l hl hb l.length k 0 (by omega) (by omega) (by simpa using hb) (by simp)
end Go.Proofs.YtpaghdfnhlpngaaDoor.PairsLaw

/- Merging: what is found in what was merged; it does not matter which is merged first. -/
namespace Go.Proofs.YtpaghdfnhlpngaaDoor.PairsLaw
open Go.RowKit Go.Proofs.YtpaghdfnhlpngaaDoor.PPaxPairs Go.Proofs.YtpaghdfnhlpngaaDoorX Go.Proofs.YtpaghdfnhlpngaaDoorV Go.Proofs.YtpaghdfnhlpngaaDoorW.PrintWords Go.Proofs.YtpaghdfnhlpngaaDoorW.PrintLast
set_option linter.unusedVariables false
set_option linter.unusedSimpArgs false
def lk (l : List S36) (k : ByteArray) : Option ByteArray := aget k (mapOf l)
def ne' (v : ByteArray) : Bool := v.toList != ([] : List UInt8)
theorem lk_fold (k : ByteArray) : ∀ (l : List S36) (m : List (ByteArray × ByteArray)), aget k (l.foldl (fun m x => aset x.f0 x.f1 m) m) = (aget k (l.foldl (fun m x => aset x.f0 x.f1 m) [])).or (aget k m)
  | [], m => rfl
  | x :: l, m => by
    simp only [List.foldl_cons]
    rw [lk_fold k l (aset x.f0 x.f1 m), lk_fold k l (aset x.f0 x.f1 []), aget_aset, aget_aset, Option.or_assoc]
    by_cases h : x.f0 = k
    · simp [h]
    · simp [h, aget]
theorem lk_app (l l' : List S36) (k : ByteArray) : lk (l ++ l') k = (lk l' k).or (lk l k) := by
  unfold lk mapOf
  rw [List.foldl_append, lk_fold]
theorem lk_one (x : S36) (k : ByteArray) : lk [x] k = if x.f0 = k then some x.f1 else none := by
  unfold lk mapOf
  simp [aset, aget]
theorem hit_iff {key : ByteArray} {p : ByteArray × ByteArray} : hit key p = true ↔ p.1 = key := by
  unfold hit
  rw [beq_iff_eq]
  exact ⟨data_inj, fun h => by rw [h]⟩
theorem lk_find (key : ByteArray) : ∀ l : List S36, ((l.map fun x => (x.f0, x.f1)).reverse.find? (hit key)).map (·.2) = lk l key
  | [] => rfl
  | x :: l => by
    rw [show x :: l = [x] ++ l from rfl, lk_app, ← lk_find key l, lk_one, List.map_append, List.reverse_append, List.find?_append]
    cases h : (l.map fun x => (x.f0, x.f1)).reverse.find? (hit key) with
    | some p => simp
    | none =>
      by_cases h2 : x.f0 = key
      · subst h2
        have : hit x.f0 (x.f0, x.f1) = true := hit_iff.2 rfl
        simp [this]
      · have : hit key (x.f0, x.f1) = false := by rw [← Bool.not_eq_true, hit_iff]; exact h2
        simp [this, h2]
theorem findS_lk (l : List S36) (key : ByteArray) : findS (l.map fun x => (x.f0, x.f1)) key = match lk l key with
    | some v => (v, true)
    | none => (⟨#[]⟩, false) := by
  rw [← lk_find]
  unfold findS
  cases (l.map fun x => (x.f0, x.f1)).reverse.find? (hit key) <;> rfl
theorem lk_mem {l : List S36} {k v : ByteArray} (h : lk l k = some v) : (⟨k, v⟩ : S36) ∈ l := by
  rw [← lk_find] at h
  obtain ⟨p, hp, rfl⟩ := Option.map_eq_some_iff.1 h
  have h1 := List.mem_of_find?_eq_some hp
  have h2 := hit_iff.1 (List.find?_some hp)
  rw [List.mem_reverse, List.mem_map] at h1
  obtain ⟨x, hx, rfl⟩ := h1
  have : (⟨k, x.f1⟩ : S36) = x := by rw [← h2]
  show (⟨k, x.f1⟩ : S36) ∈ l
  rw [this]
  exact hx
theorem lk_map {l : List S36} {k v : ByteArray} : (k, v) ∈ mapOf l ↔ lk l k = some v := ⟨fun h => aget_of_mem (mapOf_nodup l [] (by simp [akeys])) h, fun h => aget_mem h⟩
theorem rise_keys {d : List S36} (h : d.Pairwise (fun x y => x.f0.toList < y.f0.toList)) : (d.map (·.f0)).Nodup := by
  rw [List.nodup_iff_pairwise_ne, List.pairwise_map]
  exact h.imp (fun hab e => by rw [e] at hab; exact List.lt_irrefl _ hab)
theorem lk_of_mem {d : List S36} (hn : (d.map (·.f0)).Nodup) {k v : ByteArray} (h : (⟨k, v⟩ : S36) ∈ d) : lk d k = some v := by
  cases hl : lk d k with
  | none =>
    rw [← lk_find, Option.map_eq_none_iff, List.find?_eq_none] at hl
    exact absurd (hit_iff.2 rfl) (hl (k, v) (by rw [List.mem_reverse, List.mem_map]; exact ⟨_, h, rfl⟩))
  | some u =>
    have := nodup_inj (·.f0) hn (lk_mem hl) h rfl
    injection this with _ e
    rw [e]
theorem lk_merge (l : List S36) (k : ByteArray) : lk (mergeS l) k = (lk l k).filter ne' := by
  have hM := mergeS_is l
  have hn := rise_keys hM.rise
  have hiff : ∀ v, lk (mergeS l) k = some v ↔ lk l k = some v ∧ ne' v = true := fun v => by
    constructor
    · intro h
      have := (hM.mem _).1 (lk_mem h)
      exact ⟨lk_map.1 this.1, this.2⟩
    · intro ⟨h1, h2⟩
      exact lk_of_mem hn ((hM.mem ⟨k, v⟩).2 ⟨lk_map.2 h1, h2⟩)
  apply Option.ext
  intro v
  rw [hiff, Option.filter_eq_some_iff]
theorem merge_eq {x y : List S36} (h : ∀ k, (lk x k).filter ne' = (lk y k).filter ne') : mergeS x = mergeS y := by
  refine rise_unique (mergeS_is x).rise (mergeS_is y).rise (fun p => ?_)
  have hh : ∀ z, p ∈ mergeS z ↔ lk (mergeS z) p.f0 = some p.f1 := fun z => ⟨fun hm => lk_of_mem (rise_keys (mergeS_is z).rise) hm, fun hm => lk_mem hm⟩
  rw [hh, hh, lk_merge, lk_merge, h]
def fullS (l : List S36) : Bool := l.all neS
theorem lk_full {l : List S36} (h : fullS l = true) {k v : ByteArray} (hv : lk l k = some v) : ne' v = true := List.all_eq_true.1 h _ (lk_mem hv)
theorem merge_assoc (a b c : List S36) (hb : fullS b = true) (hc : fullS c = true) : mergeS (a ++ mergeS (b ++ c)) = mergeS (mergeS (a ++ b) ++ c) := by
  refine merge_eq (fun k => ?_)
  rw [lk_app, lk_app, lk_merge, lk_merge, lk_app, lk_app]
  have h1 := @lk_full b hb k
  have h2 := @lk_full c hc k
  cases hcv : lk c k with
  | some v => simp [Option.filter, h2 hcv]
  | none =>
    cases hbv : lk b k with
    | some v => simp [Option.filter, h1 hbv]
    | none =>
      cases hav : lk a k with
      | none => rfl
      | some v => cases hn : ne' v <;> simp [Option.filter, hn]
theorem merge_full (l : List S36) : fullS (mergeS l) = true := List.all_eq_true.2 (fun p hp => ((mergeS_is l).mem p).1 hp |>.2)
theorem merge_len (l : List S36) : (mergeS l).length ≤ l.length := by
  unfold mergeS
  rw [List.length_mergeSort]
  refine Nat.le_trans (List.length_filter_le _ _) ?_
  rw [List.length_map]
  simpa [mapOf] using mapOf_len l []
end Go.Proofs.YtpaghdfnhlpngaaDoor.PairsLaw

/- What is computed with enough fuel; the pieces between slashes: the program's (strings.Split) and the reference's are the same. -/
namespace Go.Proofs.YtpaghdfnhlpngaaDoor.PairsLaw
open Go.RowKit Go.Proofs.YtpaghdfnhlpngaaDoor.PPaxPairs Go.Proofs.YtpaghdfnhlpngaaDoorW.PrintWords Go.Proofs.YtpaghdfnhlpngaaDoorW.PrintLast
set_option linter.unusedVariables false
set_option linter.unusedSimpArgs false
section
variable {α β : Type}
/-- With enough fuel a value of which P is so. -/
def Ev (g : Nat → Option α) (P : α → Prop) : Prop := ∃ K, ∀ k, K ≤ k → ∃ v, g k = some v ∧ P v
theorem Ev.const {v : α} {P : α → Prop} (h : P v) : Ev (fun _ => some v) P := ⟨0, fun _ _ => ⟨v, rfl, h⟩⟩
theorem Ev.bind {f : Nat → Option α} {g : Nat → α → Option β} {Q : β → Prop} {a : α} (hf : Ev f (· = a)) (hg : Ev (fun k => g k a) Q) : Ev (fun k => (f k).bind (g k)) Q := by
  obtain ⟨K1, h1⟩ := hf
  obtain ⟨K2, h2⟩ := hg
  refine ⟨max K1 K2, fun k hk => ?_⟩
  obtain ⟨v, e, rfl⟩ := h1 k (by omega)
  show ∃ u, (f k).bind (g k) = some u ∧ Q u
  rw [e]
  exact h2 k (by omega)
theorem Ev.bindP {f : Nat → Option α} {g : Nat → α → Option β} {P : α → Prop} {Q : β → Prop} (hf : Ev f P) (hg : ∃ K, ∀ k, K ≤ k → ∀ v, P v → ∃ r, g k v = some r ∧ Q r) : Ev (fun k => (f k).bind (g k)) Q := by
  obtain ⟨K1, h1⟩ := hf
  obtain ⟨K2, h2⟩ := hg
  refine ⟨max K1 K2, fun k hk => ?_⟩
  obtain ⟨v, e, hp⟩ := h1 k (by omega)
  show ∃ u, (f k).bind (g k) = some u ∧ Q u
  rw [e]
  exact h2 k (by omega) v hp
theorem Ev.succ {g : Nat → Option α} {P : α → Prop} (h : Ev (fun k => g (k + 1)) P) : Ev g P := by
  obtain ⟨K, h⟩ := h
  refine ⟨K + 1, fun k hk => ?_⟩
  obtain ⟨m, rfl⟩ : ∃ m, k = m + 1 := ⟨k - 1, by omega⟩
  exact h m (by omega)
theorem Ev.ite {c : Prop} [Decidable c] {f g : Nat → Option α} {P : α → Prop} (h1 : c → Ev f P) (h2 : ¬ c → Ev g P) : Ev (fun k => if c then f k else g k) P := by
  by_cases h : c
  · simpa [h] using h1 h
  · simpa [h] using h2 h
theorem Ev.imp {f : Nat → Option α} {P Q : α → Prop} (h : Ev f P) (hi : ∀ v, P v → Q v) : Ev f Q := by
  obtain ⟨K, h⟩ := h
  exact ⟨K, fun k hk => by obtain ⟨v, e, hp⟩ := h k hk; exact ⟨v, e, hi v hp⟩⟩
theorem Ev.at {f : Nat → Option α} {v : α} (K : Nat) (h : ∀ k, K ≤ k → f k = some v) : Ev f (· = v) := ⟨K, fun k hk => ⟨v, h k hk, rfl⟩⟩
end
theorem w64 {n : Int} (h0 : -9223372036854775808 ≤ n) (h1 : n ≤ 9223372036854775807) : wrap64 n = n := by unfold wrap64; omega
theorem w_succ {i : Nat} (h : i ≤ 4611686018427387904) : wrap64 ((i : Int) + 1) = ((i + 1 : Nat) : Int) := (w64 (by omega) (by omega)).trans (by omega)

/-! ### pieces -/
def cutL (c : UInt8) : List UInt8 → List (List UInt8)
  | [] => [[]]
  | x :: xs => if x = c then [] :: cutL c xs else match cutL c xs with
    | [] => [[x]]
    | h :: t => (x :: h) :: t
def glue (p : List UInt8) : List (List UInt8) → List (List UInt8)
  | [] => [p]
  | h :: t => (p ++ h) :: t
theorem split_cut (c : UInt8) : ∀ L : List UInt8, Lib.splitK [c] 0 (Lib.count L [c]) L = cutL c L
  | [] => by rw [Lib.count_miss (by simp [Lib.index])]; rfl
  | b :: l => by
    have ih := split_cut c l
    by_cases h : b = c
    · subst h
      have hix : Lib.index (b :: l) [b] = 0 := by rw [Lib.index]; simp [List.isPrefixOf]
      rw [Lib.count_cons_eq, Nat.add_comm, Lib.splitK, if_neg (by rw [hix]; decide), hix]
      simp only [cutL, if_pos]
      rw [← ih]
      rfl
    · have hp : ([c] : List UInt8).isPrefixOf (b :: l) = false := by simp [List.isPrefixOf, Ne.symm h]
      have hix : Lib.index (b :: l) [c] = if Lib.index l [c] == -1 then -1 else Lib.index l [c] + 1 := by rw [Lib.index, hp]; simp
      rw [Lib.count_cons_ne b c l h]
      simp only [cutL, if_neg h]
      by_cases hm : Lib.index l [c] = -1
      · rw [Lib.count_miss hm] at ih ⊢
        rw [← ih]
        rfl
      · have hge := Lib.index_ge l [c]
        obtain ⟨j, hj⟩ : ∃ j : Nat, Lib.index l [c] = j := ⟨(Lib.index l [c]).toNat, by omega⟩
        rw [Lib.count_hit (by simp) hj, Nat.add_comm] at ih ⊢
        rw [Lib.splitK, if_neg (by rw [hj]; simp), hj] at ih
        have hb : (Lib.index l [c] == -1) = false := by simpa using hm
        have hix2 : Lib.index (b :: l) [c] = ((j + 1 : Nat) : Int) := by rw [hix, hb, hj]; simp
        rw [Lib.splitK, if_neg (by rw [hix2]; simp; try omega), hix2, ← ih]
        simp
def pcs (s : ByteArray) : List ByteArray := Lib.splitB ⟨#[47]⟩ 0 (Lib.countB s ⟨#[47]⟩) s
theorem pcs_data (s : ByteArray) : (pcs s).map (·.data.toList) = cutL 47 s.data.toList := by
  rw [pcs, Lib.splitB_data]
  exact split_cut 47 _
theorem cut_length (c : UInt8) : ∀ L : List UInt8, (cutL c L).length ≤ L.length + 1
  | [] => by simp [cutL]
  | x :: xs => by
    have ih := cut_length c xs
    unfold cutL
    split
    · simp; omega
    · split
      · simp
      · rename_i h t he
        rw [he] at ih
        simp at ih ⊢
        omega
theorem pcs_length (s : ByteArray) : (pcs s).length ≤ s.size + 1 := by
  have h := congrArg List.length (pcs_data s)
  have := cut_length 47 s.data.toList
  rw [List.length_map] at h
  rw [Lib.size_eq]
  omega
theorem cutL_cons (c x : UInt8) (xs : List UInt8) : cutL c (x :: xs) = if x = c then [] :: cutL c xs else match cutL c xs with
    | [] => [[x]]
    | h :: t => (x :: h) :: t := rfl
theorem cut_ne (c : UInt8) : ∀ L : List UInt8, cutL c L ≠ []
  | [] => by simp [cutL]
  | x :: xs => by
    rw [cutL_cons]
    generalize cutL c xs = Y
    split
    · simp
    · cases Y <;> simp
theorem glue_nil {X : List (List UInt8)} (h : X ≠ []) : glue [] X = X := by
  cases X with
  | nil => exact absurd rfl h
  | cons a b => rfl
theorem glue_cut (p : List UInt8) (x : UInt8) (xs : List UInt8) (c : UInt8) : glue p (cutL c (x :: xs)) = if x = c then p :: cutL c xs else glue (p ++ [x]) (cutL c xs) := by
  rw [cutL_cons]
  generalize cutL c xs = Y
  split
  · simp [glue]
  · cases Y <;> simp [glue]
def rest (s : ByteArray) : Nat → Nat → Nat → List ByteArray
  | 0, f, i => [s.extract f i]
  | n + 1, f, i => if s.data.toList[i]? = some 47 then s.extract f i :: rest s n (i + 1) (i + 1) else rest s n f (i + 1)
theorem rest_data (s : ByteArray) : ∀ (n f i : Nat), i + n = s.size → f ≤ i → (rest s n f i).map (·.data.toList) = glue ((s.data.toList.drop f).take (i - f)) (cutL 47 (s.data.toList.drop i))
  | 0, f, i, hi, hf => by
    have : s.data.toList.drop i = [] := List.drop_eq_nil_of_le (by rw [← Lib.size_eq]; omega)
    rw [this]
    simp [rest, cutL, glue, Lib.extract_data]
  | n + 1, f, i, hi, hf => by
    have hlt : i < s.data.toList.length := by rw [← Lib.size_eq]; omega
    rw [List.drop_eq_getElem_cons hlt, glue_cut]
    unfold rest
    rw [List.getElem?_eq_getElem hlt]
    by_cases h : s.data.toList[i] = 47
    · rw [if_pos (by rw [h]), if_pos h, List.map_cons, rest_data s n (i + 1) (i + 1) (by omega) (Nat.le_refl _), Lib.extract_data]
      simp only [Nat.sub_self, List.take_zero]
      rw [glue_nil (cut_ne _ _)]
    · rw [if_neg (by simpa using h), if_neg h, rest_data s n f (i + 1) (by omega) (by omega)]
      congr 1
      rw [show i + 1 - f = (i - f) + 1 by omega, List.take_add_one]
      congr 1
      rw [List.getElem?_drop, show f + (i - f) = i by omega, List.getElem?_eq_getElem hlt]
      rfl
end Go.Proofs.YtpaghdfnhlpngaaDoor.PairsLaw

/- The law PaxPairs: what Print, Merge, Find and the document's compute is the same. -/
namespace Go.Proofs.YtpaghdfnhlpngaaDoor.PairsLaw
open Go.RowKit Go.Proofs.YtpaghdfnhlpngaaDoor.PPaxPairs Go.Proofs.YtpaghdfnhlpngaaDoorX Go.Proofs.YtpaghdfnhlpngaaDoorV Go.Proofs.YtpaghdfnhlpngaaDoorW.PrintWords Go.Proofs.YtpaghdfnhlpngaaDoorW.PrintLast Go.Proofs.YtpaghdfnhlpngaaDoor.PaxSpec
set_option linter.unusedVariables false
set_option linter.unusedSimpArgs false

theorem rd_mem {l : List S36} {i : Nat} (h : i < l.length) : rd_T36 l (i : Int) = l[i] := by simp [rd_T36, h]
theorem bt_byte {s : ByteArray} {i : Nat} (h : i < s.size) : bt s (i : Int) = (s.data.toList[i]'(by rw [← Lib.size_eq]; exact h)).toNat := by
  unfold bt
  rw [dif_pos (by simpa using h)]
  simp
  rfl
theorem byte_eq {b c : UInt8} : ((b.toNat : Int) = (c.toNat : Int)) ↔ b = c := by
  constructor
  · intro h
    exact UInt8.toNat_inj.1 (by omega)
  · intro h
    rw [h]
theorem bt_61 {s : ByteArray} {i : Nat} (h : i < s.size) : (bt s (i : Int) = 61) ↔ s.data.toList[i]'(by rw [← Lib.size_eq]; exact h) = 61 := by
  rw [bt_byte h]
  exact byte_eq (c := 61)
theorem bt_0 {s : ByteArray} {i : Nat} (h : i < s.size) : (bt s (i : Int) = 0) ↔ s.data.toList[i]'(by rw [← Lib.size_eq]; exact h) = 0 := by
  rw [bt_byte h]
  exact byte_eq (c := 0)
def posS (c : UInt8) : List UInt8 → Nat → Int
  | [], _ => -1
  | x :: xs, i => if x = c then (i : Int) else posS c xs (i + 1)
theorem posS_iff (c : UInt8) : ∀ (L : List UInt8) (i : Nat), posS c L i ≥ 0 ↔ c ∈ L
  | [], i => by simp [posS]
  | x :: xs, i => by
    unfold posS
    by_cases h : x = c
    · rw [if_pos h, h]
      simp
    · rw [if_neg h, posS_iff c xs (i + 1)]
      simp [Ne.symm h]
theorem equals_l0 (s : ByteArray) (hs : s.size ≤ 4398046511104) : ∀ (n k i : Nat), i + n = s.size → n + 1 ≤ k → satchelref14_equals.l0 k s (i : Int) = some (posS 61 (s.data.toList.drop i) i)
  | 0, k, i, hi, hk => by
    obtain ⟨k, rfl⟩ : ∃ m, k = m + 1 := ⟨k - 1, by omega⟩
    rw [satchelref14_equals.l0, if_neg (by omega), List.drop_eq_nil_of_le (by rw [← Lib.size_eq]; omega)]
    rfl
  | n + 1, k, i, hi, hk => by
    obtain ⟨k, rfl⟩ : ∃ m, k = m + 1 := ⟨k - 1, by omega⟩
    have hlt : i < s.data.toList.length := by rw [← Lib.size_eq]; omega
    rw [satchelref14_equals.l0, if_pos (by omega), if_pos (by omega), w_succ (by omega), List.drop_eq_getElem_cons hlt, posS]
    by_cases h : s.data.toList[i] = 61
    · rw [if_pos ((bt_61 (by omega)).2 h), if_pos h]
    · rw [if_neg (fun e => h ((bt_61 (by omega)).1 e)), if_neg h]
      exact equals_l0 s hs n k (i + 1) (by omega) (by omega)
theorem equals_ev (s : ByteArray) (hs : s.size ≤ 4398046511104) : Ev (fun k => satchelref14_equals.f k s) (· = posS 61 s.data.toList 0) := Ev.at (s.size + 1) fun k hk => equals_l0 s hs s.size k 0 (by omega) (by omega)
theorem zero_l0 (s : ByteArray) (hs : s.size ≤ 4398046511104) : ∀ (n k i : Nat), i + n = s.size → n + 1 ≤ k → satchelref14_zero.l0 k s (i : Int) = some (decide (0 ∈ s.data.toList.drop i))
  | 0, k, i, hi, hk => by
    obtain ⟨k, rfl⟩ : ∃ m, k = m + 1 := ⟨k - 1, by omega⟩
    rw [satchelref14_zero.l0, if_neg (by omega), List.drop_eq_nil_of_le (by rw [← Lib.size_eq]; omega)]
    rfl
  | n + 1, k, i, hi, hk => by
    obtain ⟨k, rfl⟩ : ∃ m, k = m + 1 := ⟨k - 1, by omega⟩
    have hlt : i < s.data.toList.length := by rw [← Lib.size_eq]; omega
    rw [satchelref14_zero.l0, if_pos (by omega), if_pos (by omega), w_succ (by omega), List.drop_eq_getElem_cons hlt]
    by_cases h : s.data.toList[i] = 0
    · rw [if_pos ((bt_0 (by omega)).2 h), h]
      simp
    · rw [if_neg (fun e => h ((bt_0 (by omega)).1 e)), zero_l0 s hs n k (i + 1) (by omega) (by omega)]
      have h' : ¬ (0 : UInt8) = s.data.toList[i] := fun e => h e.symm
      simp only [List.mem_cons, h', false_or]
theorem zero_ev (s : ByteArray) (hs : s.size ≤ 4398046511104) : Ev (fun k => satchelref14_zero.f k s) (· = decide (0 ∈ s.data.toList)) := Ev.at (s.size + 1) fun k hk => zero_l0 s hs s.size k 0 (by omega) (by omega)

/-! ### decimals -/
abbrev mkB (l : List UInt8) : ByteArray := ⟨l.toArray⟩
theorem mkB_size (l : List UInt8) : (mkB l).size = l.length := Lib.size_eq _
theorem mkB_app (x y : List UInt8) : mkB x ++ mkB y = mkB (x ++ y) := by
  apply data_inj
  rw [Lib.toList_data, Lib.toList_data, ByteArray.data_append, Array.toList_append]
theorem dig_one (n : Nat) (h : n < 10) (k : Nat) : satchelref14_Decimal.f (k + 1) (n : Int) = some (mkB (Lib.decDigits n)) := by
  rw [satchelref14_Decimal.f, if_pos (by omega), Lib.decDigits_one h]
  have e : wrap64 (48 + (n : Int)) % 256 = 48 + (n : Int) := by rw [w64 (by omega) (by omega)]; omega
  rw [e]
  have : ∀ i : Fin 10, strOfNums [(48 : Int) + (i.val : Int)] = mkB [UInt8.ofNat (48 + i.val)] := by decide
  exact congrArg some (this ⟨n, h⟩)
theorem dec_le (u : Nat) : (Lib.decDigits u).length ≤ u + 1 := by
  have := numD_near
  induction u using Nat.strongRecOn with
  | _ u ih =>
    rw [Lib.decDigits]
    split
    · simp
    · rw [List.length_append]
      have := ih (u / 10) (by omega)
      simp
      omega
theorem dec_ev (n : Nat) : n ≤ 4611686018427387904 → Ev (fun k => satchelref14_Decimal.f k (n : Int)) (· = mkB (Lib.decDigits n)) := by
  induction n using Nat.strongRecOn with
  | _ n ih =>
    intro hm
    by_cases h : n < 10
    · exact Ev.succ (Ev.at 0 fun k _ => dig_one n h k)
    · refine Ev.succ ?_
      have e1 : wrap64 (Int.tdiv (n : Int) 10) = ((n / 10 : Nat) : Int) := by
        rw [Int.tdiv_eq_ediv_of_nonneg (by omega), w64 (by omega) (by omega)]
        omega
      have e2 : Int.tmod (n : Int) 10 = ((n % 10 : Nat) : Int) := by
        rw [Int.tmod_eq_emod_of_nonneg (by omega)]
        omega
      have e3 : Lib.decDigits n = Lib.decDigits (n / 10) ++ Lib.decDigits (n % 10) := dig_step' h
      simp only [satchelref14_Decimal.f, e1, e2]
      refine Ev.ite (fun hh => absurd hh (by omega)) (fun _ => ?_)
      refine Ev.bind (ih (n / 10) (by omega) (by omega)) (Ev.bind (ih (n % 10) (by omega) (by omega)) ?_)
      have hl := dec_le (n / 10)
      have hl2 := dec_le (n % 10)
      refine Ev.ite (fun _ => ?_) (fun hh => absurd (by rw [mkB_size, mkB_size]; omega) hh)
      rw [mkB_app, ← e3]
      exact Ev.const rfl

/-! ### Print -/
theorem p2_ev (x : S36) (hr : restS x < 9000000) (l : List S36) (q : Nat) (hq : q < l.length) (hl : l.length ≤ 4398046511104) (hx : l[q] = x) (acc : List Int) (hacc : acc.length < 1000000000000) (R : List Int × Int)
    (hR : Ev (fun k => satchelref14_Print.l1 k l (acc ++ recP x) ((q + 1 : Nat) : Int)) (· = R)) : ∀ (m d : Nat), 1 ≤ d → d + m = dP (restS x) →
    Ev (fun k => satchelref14_Print.l2 k l acc (q : Int) (restS x : Int) (d : Int)) (· = R)
  | 0, d, h1, hd => by
    obtain ⟨g1, g2, g3, g4⟩ := dP_ok (restS x) hr
    obtain rfl : d = dP (restS x) := by omega
    have e1 : wrap64 ((restS x : Int) + (dP (restS x) : Int)) = ((restS x + dP (restS x) : Nat) : Int) := (w64 (by omega) (by omega)).trans (by omega)
    have hs := itoa_size (restS x + dP (restS x))
    rw [g1] at hs
    have hrs : restS x = x.f0.size + x.f1.size + 3 := rfl
    refine Ev.succ ?_
    simp only [satchelref14_Print.l2, e1, Option.bind_some]
    refine Ev.ite (fun _ => ?_) (fun hh => absurd (by omega) hh)
    refine Ev.bind (dec_ev _ (by omega)) ?_
    refine Ev.ite (fun _ => ?_) (fun hh => absurd (by show ((mkB _).size : Int) = _; rw [hs]) hh)
    refine Ev.ite (fun hh => absurd hh (by omega)) (fun _ => ?_)
    refine Ev.bind (dec_ev _ (by omega)) ?_
    have hrec : bytesOf (mkB (Lib.decDigits (restS x + dP (restS x)))) = decI (restS x + dP (restS x)) := rfl
    have hz : (bytesOf x.f0).length = x.f0.size := bytesOf_len _
    have hz1 : (bytesOf x.f1).length = x.f1.size := bytesOf_len _
    have hz2 : (decI (restS x + dP (restS x))).length = dP (restS x) := (decI_len _).trans g1
    have hfin : (acc ++ bytesOf (mkB (Lib.decDigits (restS x + dP (restS x)))) ++ [32] ++ bytesOf x.f0 ++ [61] ++ bytesOf x.f1 ++ [10]) = acc ++ recP x := by
      rw [hrec]
      simp [recP, recT]
    rw [rd_mem hq, hx, w_succ (by omega), hfin]
    simp only [List.length_append, List.length_singleton, hrec, hz, hz1, hz2]
    refine Ev.ite (fun _ => ?_) (fun hh => absurd (by rw [hs]; omega) hh)
    refine Ev.ite (fun _ => ?_) (fun hh => absurd (by omega) hh)
    refine Ev.ite (fun _ => ?_) (fun hh => absurd (by omega) hh)
    refine Ev.ite (fun _ => ?_) (fun hh => absurd (by omega) hh)
    refine Ev.ite (fun _ => ?_) (fun hh => absurd (by omega) hh)
    refine Ev.ite (fun _ => ?_) (fun hh => absurd (by omega) hh)
    refine Ev.ite (fun _ => ?_) (fun hh => absurd (by omega) hh)
    refine Ev.ite (fun _ => ?_) (fun hh => absurd (by omega) hh)
    exact hR
  | m + 1, d, h1, hd => by
    obtain ⟨g1, g2, g3, g4⟩ := dP_ok (restS x) hr
    have e1 : wrap64 ((restS x : Int) + (d : Int)) = ((restS x + d : Nat) : Int) := (w64 (by omega) (by omega)).trans (by omega)
    have hs := itoa_size (restS x + d)
    have hne : numD (restS x + d) ≠ d := fun e => by have := (g4 d h1 (by omega) e).1; omega
    refine Ev.succ ?_
    simp only [satchelref14_Print.l2, e1, Option.bind_some]
    refine Ev.ite (fun _ => ?_) (fun hh => absurd (by omega) hh)
    refine Ev.bind (dec_ev _ (by omega)) ?_
    refine Ev.ite (fun hh => absurd (show ((mkB (Lib.decDigits (restS x + d))).size : Int) = _ from hh) (by rw [hs]; omega)) (fun _ => ?_)
    rw [w_succ (by omega)]
    exact p2_ev x hr l q hq hl hx acc hacc R hR m (d + 1) (by omega) (by omega)
theorem p1_ev (l : List S36) (hl : l.length < 100000000000) : ∀ (r q : Nat) (acc : List Int), q + r = l.length → acc.length + totS (l.drop q) < 100000000000 → totS (l.drop q) < 9000000 →
    Ev (fun k => satchelref14_Print.l1 k l acc (q : Int)) (· = (acc ++ (l.drop q).flatMap recP, 0))
  | 0, q, acc, hq, ha, hb => by
    refine Ev.succ ?_
    simp only [satchelref14_Print.l1]
    refine Ev.ite (fun hh => absurd hh (by omega)) (fun _ => Ev.const ?_)
    rw [List.drop_eq_nil_of_le (by omega)]
    simp
  | r + 1, q, acc, hq, ha, hb => by
    have hlt : q < l.length := by omega
    have hd := List.drop_eq_getElem_cons hlt
    rw [hd] at ha hb ⊢
    obtain ⟨x, hx⟩ : ∃ x, l[q] = x := ⟨_, rfl⟩
    rw [hx] at ha hb ⊢
    simp only [totS] at ha hb
    have hr : restS x < 9000000 := by omega
    have hrl := recP_len x hr
    obtain ⟨g1, g2, g3, g4⟩ := dP_ok (restS x) hr
    have hrs : restS x = x.f0.size + x.f1.size + 3 := rfl
    have e1 : wrap64 (3 + (x.f0.size : Int)) = ((3 + x.f0.size : Nat) : Int) := (w64 (by omega) (by omega)).trans (by omega)
    have e2 : wrap64 (((3 + x.f0.size : Nat) : Int) + (x.f1.size : Int)) = (restS x : Int) := by
      clear e1
      exact (w64 (by omega) (by omega)).trans (by omega)
    refine Ev.succ ?_
    simp only [satchelref14_Print.l1, rd_mem hlt, hx, e1, e2]
    clear e1 e2
    refine Ev.ite (fun _ => ?_) (fun hh => absurd (by omega) hh)
    refine Ev.ite (fun _ => ?_) (fun hh => absurd (by omega) hh)
    refine p2_ev x hr l q hlt (by omega) hx acc (by omega) _ ?_ (dP (restS x) - 1) 1 (by omega) (by omega)
    have := p1_ev l hl r (q + 1) (acc ++ recP x) (by omega) (by rw [List.length_append]; omega) (by omega)
    simpa using this
theorem p0_ev (l : List S36) (hl : l.length < 100000000000) (hb : totS l < 9000000) : ∀ (r q : Nat), q + r = l.length → (l.take q).all okB = true → totS (l.drop q) < 9000000 →
    Ev (fun k => satchelref14_Print.l0 k l (q : Int)) (· = printS l)
  | 0, q, hq, hp, hb' => by
    refine Ev.succ ?_
    simp only [satchelref14_Print.l0]
    refine Ev.ite (fun hh => absurd hh (by omega)) (fun _ => ?_)
    rw [List.take_of_length_le (by omega)] at hp
    have := p1_ev l hl l.length 0 [] (by omega) (by simp; omega) (by simpa using hb)
    simp only [List.nil_append, List.drop_zero] at this
    unfold printS
    rw [if_pos hp]
    exact this
  | r + 1, q, hq, hp, hb' => by
    have hlt : q < l.length := by omega
    have hd := List.drop_eq_getElem_cons hlt
    have ht : l.take (q + 1) = l.take q ++ [l[q]] := List.take_succ_eq_append_getElem hlt
    obtain ⟨x, hx⟩ : ∃ x, l[q] = x := ⟨_, rfl⟩
    rw [hd] at hb'
    rw [hx] at ht hb'
    simp only [totS] at hb'
    have hrs : restS x = x.f0.size + x.f1.size + 3 := rfl
    have hbad : okB x = false → printS l = ([], 141) := fun h => by
      unfold printS
      rw [if_neg]
      intro h2
      have := List.all_eq_true.1 h2 x (hx ▸ List.getElem_mem hlt)
      rw [h] at this
      cases this
    have hok := okB_iff x
    have m1 := mem_bytesOf x.f0 61
    have m2 := mem_bytesOf x.f0 0
    have m3 := mem_bytesOf x.f1 0
    have e61 : ((61 : UInt8).toNat : Int) = 61 := rfl
    have e0 : ((0 : UInt8).toNat : Int) = 0 := rfl
    rw [e61] at m1
    rw [e0] at m2 m3
    unfold keyS at hok
    rw [m1, m2, m3, ne_eq, bytesOf_nil_iff] at hok
    refine Ev.succ ?_
    simp only [satchelref14_Print.l0, rd_mem hlt, hx]
    refine Ev.ite (fun _ => ?_) (fun hh => absurd (by omega) hh)
    refine Ev.ite (fun _ => ?_) (fun hh => absurd (by omega) hh)
    have off : ∀ (h : ¬ okB x = true), ([], 141) = printS l := fun h => (hbad (by simpa using h)).symm
    refine Ev.ite (fun c0 => ?_) (fun c0 => ?_)
    · rw [Lib.toList_data] at c0
      exact Ev.const (off (fun h => (hok.1 h).1 c0))
    rw [Lib.toList_data] at c0
    refine Ev.bind (equals_ev x.f0 (by omega)) (Ev.ite (fun c1 => ?_) (fun c1 => ?_))
    · rw [posS_iff] at c1
      exact Ev.const (off (fun h => (hok.1 h).2.1 c1))
    rw [posS_iff] at c1
    refine Ev.bind (zero_ev x.f0 (by omega)) (Ev.ite (fun c2 => ?_) (fun c2 => ?_))
    · exact Ev.const (off (fun h => (hok.1 h).2.2.1 (of_decide_eq_true c2)))
    refine Ev.bind (zero_ev x.f1 (by omega)) (Ev.ite (fun c3 => ?_) (fun c3 => ?_))
    · exact Ev.const (off (fun h => (hok.1 h).2.2.2 (of_decide_eq_true c3)))
    have hk : okB x = true := hok.2 ⟨c0, c1, fun h => c2 (decide_eq_true h), fun h => c3 (decide_eq_true h)⟩
    rw [w_succ (by omega)]
    refine p0_ev l hl hb r (q + 1) (by omega) ?_ (by omega)
    rw [ht, List.all_append, hp]
    simp [hk]
theorem printref_ev (l : List S36) (hl : l.length < 100000000000) (hb : totS l < 9000000) : Ev (fun k => satchelref14_Print.f k l) (· = printS l) := p0_ev l hl hb l.length 0 (by omega) (by simp) (by simpa using hb)
theorem print_ev (l : List S36) (hl : l.length < 100000000000) (hb : totS l < 9000000) : Ev (fun k => pax_Print.f k l) (· = printS l) := Ev.at (11 * l.length + 2) fun k hk => print_f l hl hb k hk
theorem flat_len (l : List S36) (hb : totS l < 9000000) : (l.flatMap recP).length ≤ totS l := by
  induction l with
  | nil => simp
  | cons x l ih =>
    simp only [totS] at hb
    have hr := recP_len x (by omega)
    have := ih (by omega)
    simp only [totS, List.flatMap_cons, List.length_append]
    omega
theorem printS_len (l : List S36) (hb : totS l < 9000000) : (printS l).1.length ≤ 9000000 := by
  unfold printS
  split
  · have := flat_len l hb
    show (l.flatMap recP).length ≤ _
    omega
  · simp
end Go.Proofs.YtpaghdfnhlpngaaDoor.PairsLaw

/- The law PaxPairs: every Print, Merge and Find of any pairs, as new memory; they stay. -/
namespace Go.Proofs.YtpaghdfnhlpngaaDoor.PairsLaw
open Go.RowKit Go.Proofs.YtpaghdfnhlpngaaDoor.PPaxPairs Go.Proofs.YtpaghdfnhlpngaaDoorX Go.Proofs.YtpaghdfnhlpngaaDoorV Go.Proofs.YtpaghdfnhlpngaaDoorW.PrintWords Go.Proofs.YtpaghdfnhlpngaaDoorW.PrintLast Go.Proofs.YtpaghdfnhlpngaaDoor.PaxSpec
set_option linter.unusedVariables false
set_option linter.unusedSimpArgs false
set_option linter.unusedSectionVars false

/-! ### Merge, by definition -/
def insL (x : S36) : List S36 → List S36
  | [] => [x]
  | y :: r => if y.f0.toList < x.f0.toList then y :: insL x r else x :: y :: r
def lastB (x : S36) (r : List S36) : Bool := r.all fun y => y.f0.toList != x.f0.toList
def goS : List S36 → List S36 → List S36
  | out, [] => out
  | out, x :: r => if (lastB x r && neS x) = true then goS (insL x out) r else goS out r
theorem insL_mem {x p : S36} : ∀ {o : List S36}, p ∈ insL x o ↔ p = x ∨ p ∈ o
  | [] => by simp [insL]
  | y :: r => by
    unfold insL
    split
    · simp only [List.mem_cons, insL_mem (o := r)]
      constructor
      · rintro (h | h | h)
        · exact .inr (.inl h)
        · exact .inl h
        · exact .inr (.inr h)
      · rintro (h | h | h)
        · exact .inr (.inl h)
        · exact .inl h
        · exact .inr (.inr h)
    · simp only [List.mem_cons]
theorem insL_len (x : S36) : ∀ o : List S36, (insL x o).length = o.length + 1
  | [] => rfl
  | y :: r => by
    unfold insL
    split
    · simp [insL_len x r]
    · simp
abbrev RiseP (d : List S36) : Prop := d.Pairwise (fun x y => x.f0.toList < y.f0.toList)
theorem insL_rise {x : S36} : ∀ {o : List S36}, RiseP o → (∀ y ∈ o, y.f0.toList ≠ x.f0.toList) → RiseP (insL x o)
  | [], _, _ => by simp [insL, RiseP]
  | y :: r, h, hn => by
    unfold RiseP at h
    rw [List.pairwise_cons] at h
    unfold insL
    split
    · rename_i hlt
      unfold RiseP
      rw [List.pairwise_cons]
      refine ⟨fun z hz => ?_, insL_rise h.2 (fun z hz => hn z (List.mem_cons_of_mem _ hz))⟩
      rcases insL_mem.1 hz with rfl | hz
      · exact hlt
      · exact h.1 z hz
    · rename_i hlt
      have hxy : x.f0.toList < y.f0.toList := by
        refine Decidable.byContradiction fun hc => hn y (by simp) ?_
        exact List.le_antisymm (List.not_lt.1 hc) (List.not_lt.1 hlt)
      unfold RiseP
      rw [List.pairwise_cons, List.pairwise_cons]
      refine ⟨fun z hz => ?_, h⟩
      rcases List.mem_cons.1 hz with rfl | hz
      · exact hxy
      · exact List.lt_trans hxy (h.1 z hz)
theorem lk_cons (x : S36) (l : List S36) (k : ByteArray) : lk (x :: l) k = (lk l k).or (if x.f0 = k then some x.f1 else none) := by
  rw [show x :: l = [x] ++ l from rfl, lk_app, lk_one]
theorem lk_none {l : List S36} {k : ByteArray} : lk l k = none ↔ ∀ y ∈ l, y.f0 ≠ k := by
  induction l with
  | nil => simp [lk, mapOf, aget]
  | cons x l ih =>
    rw [lk_cons, Option.or_eq_none_iff, ih]
    constructor
    · rintro ⟨h1, h2⟩ y hy
      rcases List.mem_cons.1 hy with rfl | hy
      · intro e
        rw [if_pos e] at h2
        cases h2
      · exact h1 y hy
    · intro h
      exact ⟨fun y hy => h y (List.mem_cons_of_mem _ hy), if_neg (h x (by simp))⟩
theorem lastB_iff {x : S36} {r : List S36} : lastB x r = true ↔ lk r x.f0 = none := by
  rw [lk_none]
  unfold lastB
  rw [List.all_eq_true]
  constructor
  · intro h y hy e
    have := h y hy
    rw [e] at this
    simp at this
  · intro h y hy
    simpa using fun e => h y hy (data_inj e)
theorem goS_is : ∀ (r o : List S36), RiseP o → (∀ y ∈ o, lk r y.f0 = none) → RiseP (goS o r) ∧ ∀ p : S36, p ∈ goS o r ↔ p ∈ o ∨ (lk r p.f0 = some p.f1 ∧ neS p = true)
  | [], o, h, hn => ⟨h, fun p => by simp [goS, lk, mapOf, aget]⟩
  | x :: r, o, h, hn => by
    have hn1 : ∀ y ∈ o, lk r y.f0 = none ∧ x.f0 ≠ y.f0 := fun y hy => by
      have := hn y hy
      rw [lk_cons, Option.or_eq_none_iff] at this
      refine ⟨this.1, fun e => ?_⟩
      rw [if_pos e] at this
      cases this.2
    unfold goS
    by_cases hc : (lastB x r && neS x) = true
    · rw [if_pos hc]
      rw [Bool.and_eq_true] at hc
      have hl := lastB_iff.1 hc.1
      obtain ⟨h1, h2⟩ := goS_is r (insL x o) (insL_rise h (fun y hy e => (hn1 y hy).2 (data_inj e).symm)) (fun y hy => by
        rcases insL_mem.1 hy with rfl | hy
        · exact hl
        · exact (hn1 y hy).1)
      refine ⟨h1, fun p => ?_⟩
      rw [h2, insL_mem, lk_cons]
      constructor
      · rintro ((rfl | h) | ⟨h, hne⟩)
        · refine .inr ⟨?_, hc.2⟩
          rw [hl, if_pos rfl]
          rfl
        · exact .inl h
        · refine .inr ⟨?_, hne⟩
          rw [h]
          rfl
      · rintro (h | ⟨h, hne⟩)
        · exact .inl (.inr h)
        · by_cases e : x.f0 = p.f0
          · rw [← e, hl, if_pos rfl] at h
            have e2 : x.f1 = p.f1 := by simpa using h
            refine .inl (.inl ?_)
            cases x
            cases p
            simp only at e e2
            rw [e, e2]
          · rw [if_neg e, Option.or_none] at h
            exact .inr ⟨h, hne⟩
    · rw [if_neg hc]
      obtain ⟨h1, h2⟩ := goS_is r o h (fun y hy => (hn1 y hy).1)
      refine ⟨h1, fun p => ?_⟩
      rw [h2, lk_cons]
      constructor
      · rintro (h | ⟨h, hne⟩)
        · exact .inl h
        · refine .inr ⟨?_, hne⟩
          rw [h]
          rfl
      · rintro (h | ⟨h, hne⟩)
        · exact .inl h
        · refine .inr ⟨?_, hne⟩
          by_cases e : x.f0 = p.f0
          · rw [if_pos e] at h
            cases hk : lk r p.f0 with
            | some v =>
              rw [hk] at h
              simpa using h
            | none =>
              rw [hk] at h
              have e2 : x.f1 = p.f1 := by simpa using h
              refine absurd ?_ hc
              rw [Bool.and_eq_true]
              refine ⟨lastB_iff.2 (by rw [e]; exact hk), ?_⟩
              unfold neS at hne ⊢
              rw [e2]
              exact hne
          · rw [if_neg e, Option.or_none] at h
            exact h
theorem goS_merge (l : List S36) : goS [] l = mergeS l := by
  obtain ⟨h1, h2⟩ := goS_is l [] List.Pairwise.nil (fun y hy => by simp at hy)
  refine Merged.unique (l := l) ⟨h1, fun p => ?_⟩ (mergeS_is l)
  rw [h2, lk_map]
  simp
theorem m2_ev (L : List S36) (hL : L.length ≤ 4194304) (out : List S36) (q : Nat) (hq : q < L.length) (ho : out.length ≤ q) (R : List S36)
    (hR : Ev (fun k => satchelref14_Merge.l0 k L (insL L[q] out) ((q + 1 : Nat) : Int)) (· = R)) : ∀ (n j : Nat), j + n = out.length → out.take j ++ insL L[q] (out.drop j) = insL L[q] out →
    Ev (fun k => satchelref14_Merge.l2 k L out (q : Int) (j : Int)) (· = R)
  | 0, j, hj, he => by
    refine Ev.succ ?_
    simp only [satchelref14_Merge.l2, rd_mem hq, Option.bind_some]
    refine Ev.ite (fun hh => absurd hh (by omega)) (fun _ => ?_)
    have hz : (List.take (j : Int).toNat out).length = j := by simp; omega
    have hf : ([] ++ List.take (j : Int).toNat out ++ [({ f0 := L[q].f0, f1 := L[q].f1 } : S36)]) ++ List.drop (j : Int).toNat out = insL L[q] out := by
      rw [← he, Int.toNat_natCast, List.drop_eq_nil_of_le (by omega)]
      simp [insL]
    have hd : (List.drop (j : Int).toNat out).length = 0 := by simp; omega
    rw [hf, w_succ (by omega)]
    simp only [List.length_append, List.length_nil, List.length_singleton, hz, hd]
    refine Ev.ite (fun _ => ?_) (fun hh => absurd (by omega) hh)
    refine Ev.ite (fun _ => ?_) (fun hh => absurd (by omega) hh)
    refine Ev.ite (fun _ => ?_) (fun hh => absurd (by omega) hh)
    refine Ev.ite (fun _ => ?_) (fun hh => absurd (by omega) hh)
    refine Ev.ite (fun _ => ?_) (fun hh => absurd (by omega) hh)
    refine Ev.ite (fun _ => ?_) (fun hh => absurd (by omega) hh)
    refine Ev.ite (fun _ => ?_) (fun hh => absurd (by omega) hh)
    exact hR
  | n + 1, j, hj, he => by
    have hlt : j < out.length := by omega
    refine Ev.succ ?_
    simp only [satchelref14_Merge.l2, rd_mem hq, rd_mem hlt, Option.bind_some]
    refine Ev.ite (fun _ => ?_) (fun hh => absurd (by omega) hh)
    refine Ev.ite (fun _ => ?_) (fun hh => absurd (by omega) hh)
    refine Ev.ite (fun _ => ?_) (fun hh => absurd (by omega) hh)
    refine Ev.ite (fun _ => ?_) (fun hh => absurd (by omega) hh)
    have hd := List.drop_eq_getElem_cons hlt
    refine Ev.ite (fun hc => ?_) (fun hc => ?_)
    · rw [bytesLess_eq, decide_eq_true_eq] at hc
      rw [w_succ (by omega)]
      refine m2_ev L hL out q hq ho R hR n (j + 1) (by omega) ?_
      rw [← he, hd, insL, if_pos hc, List.take_succ_eq_append_getElem hlt, List.append_assoc]
      rfl
    · rw [bytesLess_eq, decide_eq_true_eq] at hc
      have hf : ([] ++ List.take (j : Int).toNat out ++ [({ f0 := L[q].f0, f1 := L[q].f1 } : S36)]) ++ List.drop (j : Int).toNat out = insL L[q] out := by
        rw [← he, Int.toNat_natCast, hd, insL, if_neg hc]
        simp
      have hz : (List.take (j : Int).toNat out).length = j := by simp; omega
      have hd2 : (List.drop (j : Int).toNat out).length = out.length - j := by simp
      rw [hf, w_succ (by omega)]
      simp only [List.length_append, List.length_nil, List.length_singleton, hz, hd2]
      refine Ev.ite (fun _ => ?_) (fun hh => absurd (by omega) hh)
      refine Ev.ite (fun _ => ?_) (fun hh => absurd (by omega) hh)
      refine Ev.ite (fun _ => ?_) (fun hh => absurd (by omega) hh)
      refine Ev.ite (fun _ => ?_) (fun hh => absurd (by omega) hh)
      exact hR
theorem j2_ev (L : List S36) (hL : L.length ≤ 4194304) (out : List S36) (q : Nat) (hq : q < L.length) (ho : out.length ≤ q) (R : List S36) (b : Bool)
    (hR : Ev (fun k => satchelref14_Merge.l0 k L (if b = true then out else insL L[q] out) ((q + 1 : Nat) : Int)) (· = R)) : Ev (fun k => satchelref14_Merge.j2 k L out (q : Int) b) (· = R) := by
  refine Ev.succ ?_
  simp only [satchelref14_Merge.j2]
  refine Ev.ite (fun hb => ?_) (fun hb => ?_)
  · rw [if_pos hb] at hR
    rw [w_succ (by omega)]
    exact hR
  · rw [if_neg hb] at hR
    exact m2_ev L hL out q hq ho R hR out.length 0 (by omega) (by simp)
theorem m1_ev (L : List S36) (hL : L.length ≤ 4194304) (out : List S36) (q : Nat) (hq : q < L.length) (ho : out.length ≤ q) (R : List S36) : ∀ (n j : Nat) (b : Bool), j + n = L.length →
    Ev (fun k => satchelref14_Merge.l0 k L (if (b && lastB L[q] (L.drop j) && neS L[q]) = true then insL L[q] out else out) ((q + 1 : Nat) : Int)) (· = R) →
    Ev (fun k => satchelref14_Merge.l1 k L out (q : Int) b (j : Int)) (· = R)
  | 0, j, b, hj, hR => by
    rw [List.drop_eq_nil_of_le (by omega)] at hR
    refine Ev.succ ?_
    simp only [satchelref14_Merge.l1, rd_mem hq]
    refine Ev.ite (fun hh => absurd hh (by omega)) (fun _ => ?_)
    refine Ev.ite (fun hb => ?_) (fun hb => ?_)
    · subst hb
      refine Ev.ite (fun _ => ?_) (fun hh => absurd (by omega) hh)
      refine Ev.ite (fun _ => ?_) (fun hh => absurd (by omega) hh)
      refine j2_ev L hL out q hq ho R _ ?_
      have e : (true && lastB L[q] [] && neS L[q]) = neS L[q] := rfl
      rw [e] at hR
      unfold neS at hR
      cases hc : (L[q].f1.toList == ([] : List UInt8)) with
      | true =>
        have : (L[q].f1.toList != ([] : List UInt8)) = false := by rw [bne, hc]; rfl
        rw [this] at hR
        simpa using hR
      | false =>
        have : (L[q].f1.toList != ([] : List UInt8)) = true := by rw [bne, hc]; rfl
        rw [this] at hR
        simpa using hR
    · rw [Bool.not_eq_true] at hb
      subst hb
      refine j2_ev L hL out q hq ho R true ?_
      simpa using hR
  | n + 1, j, b, hj, hR => by
    have hlt : j < L.length := by omega
    rw [List.drop_eq_getElem_cons hlt] at hR
    refine Ev.succ ?_
    simp only [satchelref14_Merge.l1, rd_mem hq, rd_mem hlt]
    refine Ev.ite (fun _ => ?_) (fun hh => absurd (by omega) hh)
    refine Ev.ite (fun hb => ?_) (fun hb => ?_)
    · subst hb
      refine Ev.ite (fun _ => ?_) (fun hh => absurd (by omega) hh)
      refine Ev.ite (fun _ => ?_) (fun hh => absurd (by omega) hh)
      refine Ev.ite (fun _ => ?_) (fun hh => absurd (by omega) hh)
      rw [w_succ (by omega)]
      refine m1_ev L hL out q hq ho R n (j + 1) _ (by omega) ?_
      have e : (true && lastB L[q] (L[j] :: L.drop (j + 1)) && neS L[q]) = ((L[j].f0.toList != L[q].f0.toList) && lastB L[q] (L.drop (j + 1)) && neS L[q]) := by
        unfold lastB
        rw [List.all_cons, Bool.true_and]
      rw [e] at hR
      exact hR
    · rw [Bool.not_eq_true] at hb
      subst hb
      rw [w_succ (by omega)]
      exact m1_ev L hL out q hq ho R n (j + 1) false (by omega) (by simpa using hR)
theorem m0_ev (L : List S36) (hL : L.length ≤ 4194304) : ∀ (n q : Nat) (out : List S36), q + n = L.length → out.length ≤ q → Ev (fun k => satchelref14_Merge.l0 k L out (q : Int)) (· = goS out (L.drop q))
  | 0, q, out, hq, ho => by
    refine Ev.succ ?_
    simp only [satchelref14_Merge.l0]
    refine Ev.ite (fun hh => absurd hh (by omega)) (fun _ => Ev.const ?_)
    rw [List.drop_eq_nil_of_le (by omega)]
    rfl
  | n + 1, q, out, hq, ho => by
    have hlt : q < L.length := by omega
    refine Ev.succ ?_
    simp only [satchelref14_Merge.l0]
    refine Ev.ite (fun _ => ?_) (fun hh => absurd (by omega) hh)
    rw [w_succ (by omega), List.drop_eq_getElem_cons hlt, goS]
    refine m1_ev L hL out q hlt ho _ n (q + 1) true (by omega) ?_
    rw [Bool.true_and]
    by_cases hc : (lastB L[q] (L.drop (q + 1)) && neS L[q]) = true
    · rw [if_pos hc, if_pos hc]
      exact m0_ev L hL n (q + 1) _ (by omega) (by rw [insL_len]; omega)
    · rw [if_neg hc, if_neg hc]
      exact m0_ev L hL n (q + 1) _ (by omega) (by omega)
theorem mergeref_ev (a b : List S36) (ha : a.length ≤ 1048576) (hb : b.length ≤ 1048576) : Ev (fun k => satchelref14_Merge.f k a b) (· = mergeS (a ++ b)) := by
  unfold satchelref14_Merge.f
  simp only [Option.bind_some, List.nil_append, List.length_nil]
  refine Ev.ite (fun _ => ?_) (fun hh => absurd (by omega) hh)
  refine Ev.ite (fun _ => ?_) (fun hh => absurd (by omega) hh)
  have := m0_ev (a ++ b) (by rw [List.length_append]; omega) (a ++ b).length 0 [] (by omega) (by simp)
  rw [List.drop_zero, goS_merge] at this
  exact this

/-! ### Find, by definition -/
theorem f0_ev (l : List S36) (hl : l.length ≤ 1048576) (key : ByteArray) : ∀ n : Nat, n ≤ l.length → Ev (fun k => satchelref14_Find.l0 k l key ((n : Int) - 1)) (· = findS ((l.take n).map fun x => (x.f0, x.f1)) key)
  | 0, hn => by
    refine Ev.succ ?_
    simp only [satchelref14_Find.l0]
    refine Ev.ite (fun hh => absurd hh (by omega)) (fun _ => Ev.const ?_)
    simp [findS]
  | n + 1, hn => by
    have hlt : n < l.length := by omega
    have e : ((n + 1 : Nat) : Int) - 1 = (n : Int) := by omega
    have e2 : wrap64 ((n : Int) - 1) = (n : Int) - 1 := w64 (by omega) (by omega)
    rw [e]
    refine Ev.succ ?_
    simp only [satchelref14_Find.l0, rd_mem hlt, e2]
    refine Ev.ite (fun _ => ?_) (fun hh => absurd (by omega) hh)
    refine Ev.ite (fun _ => ?_) (fun hh => absurd (by omega) hh)
    refine Ev.ite (fun _ => ?_) (fun hh => absurd (by omega) hh)
    have hs : ∀ v, findS ((l.take (n + 1)).map fun x => (x.f0, x.f1)) key = (if l[n].f0.toList = key.toList then (l[n].f1, true) else v) ↔ (l[n].f0.toList = key.toList ∨ findS ((l.take n).map fun x => (x.f0, x.f1)) key = v) := fun v => by
      rw [List.take_succ_eq_append_getElem hlt, List.map_append, findS, List.reverse_append, List.map_singleton, List.reverse_singleton, List.singleton_append, List.find?_cons]
      by_cases hk : l[n].f0.toList = key.toList
      · have : hit key (l[n].f0, l[n].f1) = true := by unfold hit; simpa using hk
        rw [this]
        simp [hk]
      · have : hit key (l[n].f0, l[n].f1) = false := by unfold hit; simpa using hk
        rw [this, if_neg hk]
        simp only [hk, false_or]
        rfl
    refine Ev.ite (fun hk => Ev.const ?_) (fun hk => ?_)
    · have := (hs (⟨#[]⟩, false)).2 (.inl hk)
      rw [if_pos hk] at this
      exact this.symm
    · have := (hs _).2 (.inr rfl)
      rw [if_neg hk] at this
      rw [this]
      exact f0_ev l hl key n (by omega)
theorem findref_ev (l : List S36) (hl : l.length ≤ 1048576) (key : ByteArray) : Ev (fun k => satchelref14_Find.f k l key) (· = findS (l.map fun x => (x.f0, x.f1)) key) := by
  unfold satchelref14_Find.f
  have e2 : wrap64 ((l.length : Int) - 1) = (l.length : Int) - 1 := w64 (by omega) (by omega)
  rw [e2]
  have := f0_ev l hl key l.length (Nat.le_refl _)
  rw [List.take_length] at this
  exact this

/-! ### the law -/
theorem same_l0 (l : List S36) (hl : l.length ≤ 4398046511104) : ∀ (n k i : Nat), i + n = l.length → n + 1 ≤ k → satchellaw14_same.l0 k l l (i : Int) = some true
  | 0, k, i, hi, hk => by
    obtain ⟨k, rfl⟩ : ∃ m, k = m + 1 := ⟨k - 1, by omega⟩
    rw [satchellaw14_same.l0, if_neg (by omega)]
  | n + 1, k, i, hi, hk => by
    obtain ⟨k, rfl⟩ : ∃ m, k = m + 1 := ⟨k - 1, by omega⟩
    rw [satchellaw14_same.l0, if_pos (by omega), if_pos (by omega), if_pos (by omega), if_neg (by simp), w_succ (by omega)]
    exact same_l0 l hl n k (i + 1) (by omega) (by omega)
theorem same_ev (l : List S36) (hl : l.length ≤ 4398046511104) : Ev (fun k => satchellaw14_same.f k l l) (· = true) := Ev.at (l.length + 1) fun k hk => by
  unfold satchellaw14_same.f
  rw [if_pos rfl]
  exact same_l0 l hl l.length k 0 (by omega) (by omega)
theorem wiped_l0 (len : Nat) (hl : len ≤ 4194304) : ∀ (n i : Nat) (x : List S36), i + n = len → x.length = len → Ev (fun k => satchellaw14_wiped.l0 k x true (i : Int)) (· = true)
  | 0, i, x, hi, hx => by
    refine Ev.succ ?_
    simp only [satchellaw14_wiped.l0]
    refine Ev.ite (fun hh => absurd hh (by omega)) (fun _ => Ev.ite (fun _ => Ev.const rfl) (fun hh => absurd (by omega) hh))
  | n + 1, i, x, hi, hx => by
    refine Ev.succ ?_
    simp only [satchellaw14_wiped.l0]
    refine Ev.ite (fun _ => ?_) (fun hh => absurd (by omega) hh)
    refine Ev.ite (fun _ => ?_) (fun hh => absurd (by omega) hh)
    rw [w_succ (by omega)]
    exact wiped_l0 len hl n (i + 1) _ (by omega) (by rw [List.length_set]; exact hx)
theorem wiped_ev (l : List S36) (hl : l.length ≤ 4194304) : Ev (fun k => satchellaw14_wiped.f k l l) (· = true) := by
  unfold satchellaw14_wiped.f
  exact Ev.bind (same_ev l (by omega)) (wiped_l0 l.length hl l.length 0 l (by omega) rfl)
abbrev behind : S36 := ⟨(⟨#[98, 101, 104, 105, 110, 100]⟩ : ByteArray), (⟨#[]⟩ : ByteArray)⟩
theorem hand_f (l : List S36) (hl : l.length ≤ 1048576) : satchellaw14_hand.f l = some (l ++ [behind]) := by
  unfold satchellaw14_hand.f
  simp only [Option.bind_some, List.nil_append, List.length_nil]
  rw [if_pos (by omega), if_pos (by omega)]
theorem left_ev (l : List S36) (hl : l.length ≤ 1048576) : Ev (fun k => satchellaw14_left.f k (l ++ [behind]) l) (· = true) := by
  unfold satchellaw14_left.f
  have e : (l ++ [behind]).take ((l.length : Int) : Int).toNat = l := by simp
  have e2 : (l ++ [behind]).length = l.length + 1 := by simp
  have e3 : rd_T36 (l ++ [behind]) (l.length : Int) = behind := by
    rw [rd_mem (by omega)]
    simp
  rw [e, e2, e3]
  refine Ev.ite (fun _ => ?_) (fun hh => absurd (by omega) hh)
  refine Ev.ite (fun _ => ?_) (fun hh => absurd (by omega) hh)
  refine Ev.bind (same_ev l (by omega)) ?_
  refine Ev.ite (fun _ => ?_) (fun hh => absurd rfl hh)
  refine Ev.ite (fun _ => ?_) (fun hh => absurd (by omega) hh)
  refine Ev.const ?_
  rw [Lib.toList_data]
  rfl
section
variable (a b : List S36) (key : ByteArray) (ha : a.length ≤ 1048576) (hb : b.length ≤ 1048576) (ta : totS a < 9000000)
include ha hb ta
theorem end_ev : Ev (fun k => satchellaw14_PaxPairs.l0 k a b key (a ++ [behind]) (b ++ [behind]) 2) (· = true) := by
  refine Ev.succ ?_
  simp only [satchellaw14_PaxPairs.l0]
  have e : (a ++ [behind]).take ((a.length : Int) : Int).toNat = a := by simp
  have e2 : (a ++ [behind]).length = a.length + 1 := by simp
  have ef : pax_Find.f a key = some (findS (a.map fun x => (x.f0, x.f1)) key) := by
    unfold pax_Find.f
    rw [if_pos (by omega)]
  rw [e, e2, ef]
  simp only [Option.bind_some]
  refine Ev.ite (fun hh => absurd hh (by omega)) (fun _ => ?_)
  refine Ev.ite (fun _ => ?_) (fun hh => absurd (by omega) hh)
  refine Ev.ite (fun _ => ?_) (fun hh => absurd (by omega) hh)
  refine Ev.bind (findref_ev a ha key) ?_
  refine Ev.ite (fun _ => ?_) (fun hh => absurd rfl hh)
  refine Ev.ite (fun _ => ?_) (fun hh => absurd (by simp) hh)
  refine Ev.bind (left_ev a ha) ?_
  refine Ev.ite (fun _ => ?_) (fun hh => absurd rfl hh)
  exact Ev.bind (left_ev b hb) (Ev.const rfl)
theorem over_ev (x9 : Int) (hnext : Ev (fun k => satchellaw14_PaxPairs.l0 k a b key (a ++ [behind]) (b ++ [behind]) (wrap64 (x9 + 1))) (· = true)) (len : Nat) (hl : len ≤ 9000000) : ∀ (n i : Nat) (x : List Int), i + n = len → x.length = len →
    Ev (fun k => satchellaw14_PaxPairs.l1 k a b key (a ++ [behind]) (b ++ [behind]) x9 x (i : Int)) (· = true)
  | 0, i, x, hi, hx => by
    refine Ev.succ ?_
    simp only [satchellaw14_PaxPairs.l1]
    have e : (a ++ [behind]).take ((a.length : Int) : Int).toNat = a := by simp
    have e2 : (a ++ [behind]).length = a.length + 1 := by simp
    have e3 : (b ++ [behind]).take ((b.length : Int) : Int).toNat = b := by simp
    have e4 : (b ++ [behind]).length = b.length + 1 := by simp
    have em : pax_Merge.f a b = some (mergeS (a ++ b)) := by
      unfold pax_Merge.f
      rw [if_pos (by omega)]
    rw [e, e2, e3, e4, em]
    simp only [Option.bind_some]
    have hml := merge_len (a ++ b)
    rw [List.length_append] at hml
    refine Ev.ite (fun hh => absurd hh (by omega)) (fun _ => ?_)
    refine Ev.ite (fun _ => ?_) (fun hh => absurd (by omega) hh)
    refine Ev.ite (fun _ => ?_) (fun hh => absurd (by omega) hh)
    refine Ev.ite (fun _ => ?_) (fun hh => absurd (by omega) hh)
    refine Ev.ite (fun _ => ?_) (fun hh => absurd (by omega) hh)
    refine Ev.ite (fun _ => ?_) (fun hh => absurd (by omega) hh)
    refine Ev.bind (mergeref_ev a b ha hb) (Ev.bind (wiped_ev _ (by omega)) ?_)
    exact Ev.ite (fun _ => hnext) (fun hh => absurd rfl hh)
  | n + 1, i, x, hi, hx => by
    refine Ev.succ ?_
    simp only [satchellaw14_PaxPairs.l1]
    refine Ev.ite (fun _ => ?_) (fun hh => absurd (by omega) hh)
    refine Ev.ite (fun _ => ?_) (fun hh => absurd (by omega) hh)
    rw [w_succ (by omega)]
    exact over_ev x9 hnext len hl n (i + 1) _ (by omega) (by rw [List.length_set]; exact hx)
theorem round_ev (x9 : Int) (h9 : x9 < 2) (hnext : Ev (fun k => satchellaw14_PaxPairs.l0 k a b key (a ++ [behind]) (b ++ [behind]) (wrap64 (x9 + 1))) (· = true)) :
    Ev (fun k => satchellaw14_PaxPairs.l0 k a b key (a ++ [behind]) (b ++ [behind]) x9) (· = true) := by
  refine Ev.succ ?_
  simp only [satchellaw14_PaxPairs.l0]
  have e : (a ++ [behind]).take ((a.length : Int) : Int).toNat = a := by simp
  have e2 : (a ++ [behind]).length = a.length + 1 := by simp
  rw [e, e2]
  refine Ev.ite (fun _ => ?_) (fun hh => absurd h9 hh)
  refine Ev.ite (fun _ => ?_) (fun hh => absurd (by omega) hh)
  refine Ev.ite (fun _ => ?_) (fun hh => absurd (by omega) hh)
  refine Ev.bind (print_ev a (by omega) ta) (Ev.bind (printref_ev a (by omega) ta) ?_)
  refine Ev.ite (fun _ => ?_) (fun hh => absurd rfl hh)
  rw [bne_self_eq_false]
  refine Ev.succ ?_
  simp only [satchellaw14_PaxPairs.j1]
  refine Ev.ite (fun hh => absurd hh (by decide)) (fun _ => ?_)
  exact over_ev a b key ha hb ta x9 hnext (printS a).1.length (printS_len a ta) (printS a).1.length 0 _ (by omega) rfl
theorem law : ∃ k, satchellaw14_PaxPairs.f k a b key = some true := by
  have h : Ev (fun k => satchellaw14_PaxPairs.f k a b key) (· = true) := by
    unfold satchellaw14_PaxPairs.f
    rw [hand_f a ha, hand_f b hb]
    simp only [Option.bind_some]
    refine round_ev a b key ha hb ta 0 (by decide) ?_
    have e1 : wrap64 (0 + 1) = 1 := w64 (by decide) (by decide)
    have e2 : wrap64 (1 + 1) = 2 := w64 (by decide) (by decide)
    rw [e1]
    refine round_ev a b key ha hb ta 1 (by decide) ?_
    rw [e2]
    exact end_ev a b key ha hb ta
  obtain ⟨K, hK⟩ := h
  obtain ⟨v, e, rfl⟩ := hK K (Nat.le_refl _)
  exact ⟨K, e⟩
end
theorem wt_pairs (wt : S36 → Nat) (hw : ∀ x, wt x = ((x.f0.size + 1) + (x.f1.size + 1)) + 1) (l : List S36) : totS l ≤ 4 * wtAll wt l ∧ l.length ≤ wtAll wt l := by
  induction l with
  | nil => simp [totS, wtAll]
  | cons x l ih =>
    have h := hw x
    have hr : restS x = x.f0.size + x.f1.size + 3 := rfl
    simp only [wtAll, totS, List.length_cons]
    omega
end Go.Proofs.YtpaghdfnhlpngaaDoor.PairsLaw
