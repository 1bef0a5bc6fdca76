/- What pax's records say, in plain Lean: no program in sight. -/
import Derived.Below
import Derived.WalkKit
import Derived.Lib.Bytes
import Derived.Lib.IndexLaws
namespace Go.Proofs.YtohgoaiimhhckaaDoor.PaxSpec

/-- A record's length: read from its front (n so far, i digits so far). -/
inductive LR where
  | short
  | bad
  | ok (n : Int) (i : Nat)

def lenS : List Int → Int → Nat → LR
  | [], _, _ => .short
  | c :: r, n, i => if c = 32 ∧ 0 < i then .ok n i else if c < 48 ∨ 57 < c ∨ (i = 0 ∧ c = 48) ∨ i = 7 then .bad else lenS r (10 * n + (c - 48)) (i + 1)

/-- A record at the front: where it can't be and why; or its key, its value, how many bytes it has. -/
inductive RR where
  | fault (at_ : Nat) (why : Int)
  | ok (key val : List Int) (n : Nat)

def bodyS (b : List Int) (n : Int) (i : Nat) : List Int := (b.take (n - 1).toNat).drop (i + 1)

def recOf (b : List Int) : LR → RR
  | .short => .fault b.length 4
  | .bad => .fault 0 140
  | .ok n i =>
    if n < i + 4 then .fault 0 140
    else if (b.length : Int) < n then .fault b.length 4
    else if b.getD (n - 1).toNat 0 ≠ 10 then .fault (n - 1).toNat 142
    else match (bodyS b n i).idxOf? 61 with
      | none => .fault (i + 1) 141
      | some 0 => .fault (i + 1) 141
      | some (j + 1) => if 0 ∈ bodyS b n i then .fault (i + 1) 141 else .ok ((bodyS b n i).take (j + 1)) ((bodyS b n i).drop (j + 2)) n.toNat
def recS (b : List Int) : RR := recOf b (lenS b 0 0)

/-- How the digits stand: fewer than 8, the number below 10^i. -/
theorem lenS_ok : ∀ (b : List Int) (n : Int) (i : Nat), 0 ≤ n → n < 10 ^ i → i ≤ 7 → ∀ m j, lenS b n i = .ok m j → i ≤ j ∧ j ≤ 7 ∧ 0 < j ∧ 0 ≤ m ∧ m < 10 ^ j ∧ j - i < b.length := by
  intro b
  induction b with
  | nil => intro n i _ _ _ m j h; simp [lenS] at h
  | cons c r ih =>
    intro n i h0 h1 hi m j h
    unfold lenS at h
    split at h
    · rename_i hc
      simp only [LR.ok.injEq] at h
      obtain ⟨rfl, rfl⟩ := h
      exact ⟨Nat.le_refl _, hi, hc.2, h0, h1, by simp⟩
    · rename_i hc
      split at h
      · cases h
      · rename_i hd
        have hd' : ¬ c < 48 ∧ ¬ 57 < c ∧ ¬ (i = 0 ∧ c = 48) ∧ ¬ i = 7 := by
          refine ⟨fun h => hd (.inl h), fun h => hd (.inr (.inl h)), fun h => hd (.inr (.inr (.inl h))), fun h => hd (.inr (.inr (.inr h)))⟩
        obtain ⟨d1, d2, d3, d4⟩ := hd'
        have hp : (10 : Int) ^ (i + 1) = 10 ^ i * 10 := Int.pow_succ ..
        obtain ⟨a1, a2, a3, a4, a5, a6⟩ := ih (10 * n + (c - 48)) (i + 1) (by omega) (by omega) (by omega) m j h
        exact ⟨by omega, a2, a3, a4, a5, by simp; omega⟩

/-- All records, one behind the other: with an error the place and the reason. -/
inductive PR where
  | fault (at_ : Nat) (why : Int)
  | ok (l : List (List Int × List Int))

def parseS : Nat → List Int → Nat → PR
  | 0, _, _ => .ok []
  | f + 1, b, p =>
    match b with
    | [] => .ok []
    | _ :: _ =>
      match recS b with
      | .fault a w => .fault (p + a) w
      | .ok k v n => match parseS f (b.drop n) (p + n) with
        | .fault a w => .fault a w
        | .ok l => .ok ((k, v) :: l)

theorem recS_ok {b : List Int} {k v : List Int} {n : Nat} (h : recS b = .ok k v n) : 5 ≤ n ∧ n ≤ b.length := by
  unfold recS recOf at h
  split at h
  · cases h
  · cases h
  · rename_i m i hl
    obtain ⟨_, hi7, hi0, hm0, _, _⟩ := lenS_ok b 0 0 (by omega) (by simp) (by omega) m i hl
    split at h
    · cases h
    · split at h
      · cases h
      · split at h
        · cases h
        · split at h
          · cases h
          · cases h
          · split at h
            · cases h
            · simp only [RR.ok.injEq] at h
              obtain ⟨_, _, rfl⟩ := h
              omega
theorem recS_fault {b : List Int} {a : Nat} {w : Int} (h : recS b = .fault a w) : a ≤ b.length ∧ w ≠ 0 := by
  unfold recS recOf at h
  split at h
  · simp only [RR.fault.injEq] at h; obtain ⟨rfl, rfl⟩ := h; exact ⟨Nat.le_refl _, by omega⟩
  · simp only [RR.fault.injEq] at h; obtain ⟨rfl, rfl⟩ := h; exact ⟨Nat.zero_le _, by omega⟩
  · rename_i m i hl
    obtain ⟨_, hi7, hi0, hm0, _, hlt⟩ := lenS_ok b 0 0 (by omega) (by simp) (by omega) m i hl
    split at h
    · simp only [RR.fault.injEq] at h; obtain ⟨rfl, rfl⟩ := h; exact ⟨Nat.zero_le _, by omega⟩
    · split at h
      · simp only [RR.fault.injEq] at h; obtain ⟨rfl, rfl⟩ := h; exact ⟨Nat.le_refl _, by omega⟩
      · split at h
        · simp only [RR.fault.injEq] at h; obtain ⟨rfl, rfl⟩ := h; exact ⟨by omega, by omega⟩
        · split at h
          · simp only [RR.fault.injEq] at h; obtain ⟨rfl, rfl⟩ := h; exact ⟨by omega, by omega⟩
          · simp only [RR.fault.injEq] at h; obtain ⟨rfl, rfl⟩ := h; exact ⟨by omega, by omega⟩
          · split at h
            · simp only [RR.fault.injEq] at h; obtain ⟨rfl, rfl⟩ := h; exact ⟨by omega, by omega⟩
            · cases h
/-- Where a byte first stands; -1: nowhere. -/
def idxI (l : List Int) (c : Int) : Int := match l.idxOf? c with | none => -1 | some j => (j : Int)
theorem idxI_none {l : List Int} {c : Int} (h : l.idxOf? c = none) : idxI l c = -1 := by unfold idxI; rw [h]
theorem idxI_some {l : List Int} {c : Int} {j : Nat} (h : l.idxOf? c = some j) : idxI l c = (j : Int) := by unfold idxI; rw [h]
theorem idxOf?_some : ∀ {l : List Int} {c : Int} {j : Nat}, l.idxOf? c = some j → j < l.length ∧ l[j]? = some c ∧ ∀ i, i < j → l[i]? ≠ some c
  | [], _, _, h => by cases h
  | x :: l, c, j, h => by
    rw [List.idxOf?_cons] at h
    by_cases hx : x = c
    · subst hx
      simp only [beq_self_eq_true, if_true, Option.some.injEq] at h
      subst h
      exact ⟨by simp, by simp, fun i hi => by omega⟩
    · have h4 : (x == c) = false := by simpa using hx
      rw [h4] at h
      cases h2 : l.idxOf? c with
      | none => rw [h2] at h; cases h
      | some i =>
        rw [h2] at h
        simp at h
        subst h
        obtain ⟨a1, a2, a3⟩ := idxOf?_some h2
        refine ⟨by simp; omega, by simpa using a2, fun k hk => ?_⟩
        cases k with
        | zero => simpa using hx
        | succ k => simpa using a3 k (by omega)
theorem idxI_nil (c : Int) : idxI [] c = -1 := rfl
theorem idxI_cons (x : Int) (l : List Int) (c : Int) : idxI (x :: l) c = if x = c then 0 else if idxI l c = -1 then -1 else idxI l c + 1 := by
  unfold idxI
  rw [List.idxOf?_cons]
  by_cases h : x = c
  · have : (x == c) = true := by simpa using h
    rw [this, if_pos h]; rfl
  · have h4 : (x == c) = false := by simpa using h
    rw [h4, if_neg h]
    cases l.idxOf? c with
    | none => rfl
    | some j =>
      have : ¬ (j : Int) = -1 := by omega
      simp only [this, if_false]
      rfl
theorem idxI_ge (l : List Int) (c : Int) : -1 ≤ idxI l c ∧ idxI l c < l.length := by
  cases h : l.idxOf? c with
  | none => rw [idxI_none h]; omega
  | some j => have := (idxOf?_some h).1; rw [idxI_some h]; omega
theorem idxI_mem {l : List Int} {c : Int} : 0 ≤ idxI l c ↔ c ∈ l := by
  cases h : l.idxOf? c with
  | none =>
    rw [idxI_none h]
    rw [List.idxOf?_eq_none_iff] at h
    simp [h]
  | some j =>
    rw [idxI_some h]
    have := (idxOf?_some h).2.1
    have h2 : c ∈ l := List.mem_of_getElem? this
    simp [h2]
/-- 'indexByte' of the shelf is where a byte first stands. -/
theorem indexByte_eq : ∀ (l : List Int) (c : Int), (∀ x ∈ l, 0 ≤ x ∧ x < 256) → 0 ≤ c → c < 256 →
    Lib.indexByte (Lib.bytesOf l) c.toNat.toUInt8 = idxI l c := by
  intro l
  induction l with
  | nil => intro c _ _ _; rfl
  | cons x l ih =>
    intro c hl h0 h1
    have hx := hl x (by simp)
    have ihc := ih c (fun y hy => hl y (by simp [hy])) h0 h1
    unfold idxI at ihc ⊢
    have hb : Lib.bytesOf (x :: l) = UInt8.ofNat x.toNat :: Lib.bytesOf l := rfl
    have he : (UInt8.ofNat x.toNat = c.toNat.toUInt8) ↔ x = c := by
      constructor
      · intro h
        have h2 := congrArg UInt8.toNat h
        have e1 : (UInt8.ofNat x.toNat).toNat = x.toNat := by
          rw [UInt8.toNat_ofNat']; omega
        have e2 : c.toNat.toUInt8.toNat = c.toNat := by
          rw [Nat.toUInt8_eq, UInt8.toNat_ofNat']; omega
        rw [e1, e2] at h2
        omega
      · rintro rfl; rfl
    rw [hb, List.idxOf?_cons]
    unfold Lib.indexByte
    by_cases hxc : x = c
    · have h3 : (UInt8.ofNat x.toNat == c.toNat.toUInt8) = true := by rw [beq_iff_eq]; exact he.2 hxc
      rw [if_pos h3]
      simp [hxc]
    · have h3 : ¬ (UInt8.ofNat x.toNat == c.toNat.toUInt8) = true := by rw [beq_iff_eq]; exact fun h => hxc (he.1 h)
      have h4 : (x == c) = false := by simpa using hxc
      rw [if_neg h3, ihc, h4]
      cases l.idxOf? c with
      | none => rfl
      | some j =>
        have : ¬ ((j : Int) == -1) = true := by rw [beq_iff_eq]; omega
        simp only [this]
        rfl
end Go.Proofs.YtohgoaiimhhckaaDoor.PaxSpec
