/- The printed pax.Parse and satchelref14.Parse answer what PaxSpec says. -/
import Derived.Test.YtohgoaiimhhckaaDoorPaxSpec
import Derived.Test.YtohgoaiimhhckaaDoorPPaxBackx16
namespace Go.Proofs.YtohgoaiimhhckaaDoor.PaxBridge
open Go.RowKit Go.Proofs.YtohgoaiimhhckaaDoor.PPaxBack Go.Proofs.YtohgoaiimhhckaaDoorW.PrintWords Go.Proofs.YtohgoaiimhhckaaDoorW.PrintLast Go.Proofs.YtohgoaiimhhckaaDoor.PaxSpec

abbrev Bytes8 (l : List Int) : Prop := ∀ x ∈ l, 0 ≤ x ∧ x < 256

theorem drop_cons (l : List Int) (q : Nat) (h : q < l.length) : l.drop q = rd l (q : Int) :: l.drop (q + 1) := by
  rw [List.drop_eq_getElem_cons h]
  simp [rd, List.getD_eq_getElem?_getD, h]
theorem rd_range {l : List Int} (hb : Bytes8 l) (q : Nat) (h : q < l.length) : 0 ≤ rd l (q : Int) ∧ rd l (q : Int) < 256 := by
  have : rd l (q : Int) = l[q] := by simp [rd, List.getD_eq_getElem?_getD, h]
  rw [this]
  exact hb _ (List.getElem_mem h)
theorem w64 {x : Int} (h0 : -4611686018427387904 ≤ x) (h1 : x ≤ 4611686018427387904) : wrap64 x = x := by unfold wrap64; omega

theorem w_add_r {a b : Int} (h0 : -4611686018427387904 ≤ b) (h1 : b ≤ 4611686018427387904) (h2 : -4611686018427387904 ≤ a + b) (h3 : a + b ≤ 4611686018427387904) : wrap64 (a + wrap64 b) = a + b := by
  have e := w64 h0 h1
  simp only [e]
  exact w64 h2 h3
theorem w_add_l {a b : Int} (h0 : -4611686018427387904 ≤ a) (h1 : a ≤ 4611686018427387904) (h2 : -4611686018427387904 ≤ a + b) (h3 : a + b ≤ 4611686018427387904) : wrap64 (wrap64 a + b) = a + b := by
  have e := w64 h0 h1
  simp only [e]
  exact w64 h2 h3
theorem w_sub_l {a b : Int} (h0 : -4611686018427387904 ≤ a) (h1 : a ≤ 4611686018427387904) (h2 : -4611686018427387904 ≤ a - b) (h3 : a - b ≤ 4611686018427387904) : wrap64 (wrap64 a - b) = a - b := by
  have e := w64 h0 h1
  simp only [e]
  exact w64 h2 h3

def encL (len : Nat) (p : Int) : LR → Int × Int × Int × Int
  | .short => (0, 0, len, 4)
  | .bad => (0, 0, p, 140)
  | .ok m j => (m, j, 0, 0)

theorem pow7 {n : Int} {i : Nat} (h : n < 10 ^ i) (hi : i ≤ 7) : n < 10000000 := by
  have h2 : (10 : Int) ^ i ≤ 10 ^ 7 := by
    have := Nat.pow_le_pow_right (n := 10) (by omega) hi
    exact_mod_cast this
  have h3 : (10 : Int) ^ 7 = 10000000 := by decide
  omega

theorem length_l0 (l : List Int) (hl : l.length ≤ 4398046511104) (hb : Bytes8 l) (p : Int) (d : Nat) : ∀ (k q i : Nat) (n : Int), q + d = l.length → 2 * d + 1 ≤ k → i ≤ 7 → 0 ≤ n → n < 10 ^ i →
    pax_length.l0 k l p n i q = some (encL l.length p (lenS (l.drop q) n i)) := by
  induction d with
  | zero =>
    intro k q i n hq hk hi h0 h1
    obtain ⟨k, rfl⟩ : ∃ m, k = m + 1 := ⟨k - 1, by omega⟩
    have hd : l.drop q = [] := List.drop_eq_nil_of_le (by omega)
    simp only [pax_length.l0]
    rw [if_pos (by omega), hd]
    have : (q : Int) = (l.length : Int) := by omega
    simp [lenS, encL, this]
  | succ d ih =>
    intro k q i n hq hk hi h0 h1
    obtain ⟨k, rfl⟩ : ∃ m, k = m + 2 := ⟨k - 2, by omega⟩
    have hlt : q < l.length := by omega
    have hr := rd_range hb q hlt
    have hn := pow7 h1 hi
    rw [drop_cons l q hlt]
    simp only [pax_length.l0]
    rw [if_neg (by omega), if_pos (by omega), if_pos (by omega)]
    unfold lenS
    have hrec : ∀ c : Int, 48 ≤ c → c ≤ 57 → i ≠ 7 → pax_length.l0 k l p (wrap64 (wrap64 (10 * n) + (c - 48) % 256)) (wrap64 ((i : Int) + 1)) (wrap64 ((q : Int) + 1)) = some (encL l.length p (lenS (l.drop (q + 1)) (10 * n + (c - 48)) (i + 1))) := by
      intro c hc0 hc1 h7
      have e1 : wrap64 (wrap64 (10 * n) + (c - 48) % 256) = 10 * n + (c - 48) := (w_add_l (by omega) (by omega) (by omega) (by omega)).trans (by omega)
      have e2 : wrap64 ((i : Int) + 1) = ((i + 1 : Nat) : Int) := (w64 (by omega) (by omega)).trans (by omega)
      have e3 : wrap64 ((q : Int) + 1) = ((q + 1 : Nat) : Int) := (w64 (by omega) (by omega)).trans (by omega)
      simp only [e1, e2, e3]
      have hp : (10 : Int) ^ (i + 1) = 10 ^ i * 10 := Int.pow_succ ..
      have h5 : 10 * n + (c - 48) < (10 : Int) ^ (i + 1) := by
        rw [hp]; clear hp
        generalize (10 : Int) ^ i = P at h1
        omega
      clear hp e1 e2 e3 h1 hl hr hb
      have b4 : 0 ≤ 10 * n + (c - 48) := by omega
      exact ih k (q + 1) (i + 1) _ (by omega) (by omega) (by omega) b4 h5
    have hbad : ∀ x18 : Bool, x18 = false → ¬ (rd l (q : Int) = 32 ∧ 0 < i) → pax_length.j1 (k + 1) l p n i q x18 = some (encL l.length p (if rd l (q : Int) = 32 ∧ 0 < i then LR.ok n i else if rd l (q : Int) < 48 ∨ 57 < rd l (q : Int) ∨ (i = 0 ∧ rd l (q : Int) = 48) ∨ i = 7 then LR.bad else lenS (l.drop (q + 1)) (10 * n + (rd l (q : Int) - 48)) (i + 1))) := by
      intro x18 hx hno
      subst hx
      rw [if_neg hno]
      simp only [pax_length.j1]
      rw [if_neg (by decide), if_pos (by omega), if_pos (by omega)]
      by_cases c1 : rd l (q : Int) < 48
      · rw [if_pos c1, if_pos (.inl c1)]; rfl
      rw [if_neg c1]
      by_cases c2 : rd l (q : Int) > 57
      · rw [if_pos c2, if_pos (.inr (.inl c2))]; rfl
      rw [if_neg c2]
      by_cases c3 : i = 0
      · rw [if_pos (by omega)]
        by_cases c4 : rd l (q : Int) = 48
        · rw [if_pos c4, if_pos (.inr (.inr (.inl ⟨c3, c4⟩)))]; rfl
        rw [if_neg c4, if_neg (by omega), hrec _ (by omega) (by omega) (by omega), if_neg (by omega)]
      · rw [if_neg (by omega)]
        by_cases c5 : i = 7
        · rw [if_pos (by omega), if_pos (.inr (.inr (.inr c5)))]; rfl
        rw [if_neg (by omega), hrec _ (by omega) (by omega) (by omega), if_neg (by omega)]
    by_cases c : rd l (q : Int) = 32
    · rw [if_pos c]
      by_cases c0 : 0 < i
      · rw [if_pos ⟨c, c0⟩]
        have : decide ((i : Int) > 0) = true := decide_eq_true (by omega)
        rw [this]
        simp only [pax_length.j1]
        rfl
      · have : decide ((i : Int) > 0) = false := decide_eq_false (by omega)
        rw [this]
        exact hbad false rfl (fun h => c0 h.2)
    · rw [if_neg c]
      exact hbad false rfl (fun h => c h.1)

theorem length_f (l : List Int) (hl : l.length ≤ 4398046511104) (hb : Bytes8 l) (p k : Nat) (hp : p ≤ l.length) (hk : 2 * l.length + 1 ≤ k) :
    pax_length.f k l p = some (encL l.length p (lenS (l.drop p) 0 0)) := by
  unfold pax_length.f
  exact length_l0 l hl hb p (l.length - p) k p 0 0 (by omega) (by omega) (by omega) (by omega) (by decide)

def encR (p : Nat) : RR → ByteArray × ByteArray × Int × Int × Int
  | .fault a w => (⟨#[]⟩, ⟨#[]⟩, 0, ((p + a : Nat) : Int), w)
  | .ok k v n => (strOfNums k, strOfNums v, n, 0, 0)

theorem cut_f (B : List Int) (hbB : Bytes8 B) : bytes_Cut.f B [61] = some (if 0 ≤ idxI B 61 then (B.take (idxI B 61).toNat, B.drop (idxI B 61 + 1).toNat, true) else (B, [], false)) := by
  have hI := indexByte_eq B 61 hbB (by omega) (by omega)
  have h61 : rd [61] 0 = 61 := rfl
  unfold bytes_Cut.f
  rw [if_pos (show ([61] : List Int).length = 1 from rfl)]
  simp only [h61, hI]
  split <;> rfl
theorem zero_f (B : List Int) (hbB : Bytes8 B) : bytes_IndexByte.f B 0 = some (idxI B 0) := by
  unfold bytes_IndexByte.f
  rw [indexByte_eq B 0 hbB (by omega) (by omega)]
/-- What is behind the length, once the record ends as one. -/
def tailF (B : List Int) (at_ m : Int) : Option (ByteArray × ByteArray × Int × Int × Int) :=
  (bytes_Cut.f B [61]).bind fun bt => (if bt.2.2 = true then (if (bt.1.length : Int) = 0 then (some ((⟨#[]⟩ : ByteArray), (⟨#[]⟩ : ByteArray), 0, at_, 141)) else ((bytes_IndexByte.f B 0).bind fun t => (if t ≥ 0 then (some ((⟨#[]⟩ : ByteArray), (⟨#[]⟩ : ByteArray), 0, at_, 141)) else (some (strOfNums bt.1, strOfNums bt.2.1, m, 0, 0))))) else (some ((⟨#[]⟩ : ByteArray), (⟨#[]⟩ : ByteArray), 0, at_, 141)))
theorem tail_f (B : List Int) (hbB : Bytes8 B) (at_ m : Int) : tailF B at_ m = some (match B.idxOf? 61 with
      | none => (⟨#[]⟩, ⟨#[]⟩, 0, at_, 141)
      | some 0 => (⟨#[]⟩, ⟨#[]⟩, 0, at_, 141)
      | some (j + 1) => if 0 ∈ B then (⟨#[]⟩, ⟨#[]⟩, 0, at_, 141) else (strOfNums (B.take (j + 1)), strOfNums (B.drop (j + 2)), m, 0, 0)) := by
  unfold tailF
  rw [cut_f B hbB, zero_f B hbB]
  simp only [Option.bind_some]
  cases hx : B.idxOf? 61 with
  | none =>
    have hc : (if 0 ≤ idxI B 61 then (B.take (idxI B 61).toNat, B.drop (idxI B 61 + 1).toNat, true) else (B, [], false)) = (B, [], false) := by
      rw [idxI_none hx]; exact if_neg (by omega)
    rw [hc]
    rfl
  | some o =>
    have ho := (idxOf?_some hx).1
    have hc : (if 0 ≤ idxI B 61 then (B.take (idxI B 61).toNat, B.drop (idxI B 61 + 1).toNat, true) else (B, [], false)) = (B.take o, B.drop (o + 1), true) := by
      rw [idxI_some hx]
      have e2 : ((o : Int) + 1).toNat = o + 1 := by omega
      rw [if_pos (by omega), e2, Int.toNat_natCast]
    rw [hc]
    simp only
    rw [if_pos trivial]
    cases o with
    | zero => rw [if_pos (by simp)]
    | succ o =>
      rw [if_neg (by rw [List.length_take]; omega)]
      by_cases c4 : 0 ∈ B
      · have := idxI_mem.2 c4
        simp only [c4, if_true]
        rw [if_pos this]
      · have : ¬ idxI B 0 ≥ 0 := fun h => c4 (idxI_mem.1 h)
        simp only [c4, if_false]
        rw [if_neg this]
set_option maxRecDepth 100000 in
theorem record_f (l : List Int) (hl : l.length ≤ 4398046511104) (hb : Bytes8 l) (p k : Nat) (hp : p ≤ l.length) (hk : 2 * l.length + 1 ≤ k) :
    pax_record.f k l p = some (encR p (recS (l.drop p))) := by
  unfold pax_record.f
  rw [length_f l hl hb p k hp hk]
  simp only [Option.bind_some]
  unfold recS recOf
  have hok := lenS_ok (l.drop p) 0 0 (by omega) (by decide) (by omega)
  cases hL : lenS (l.drop p) 0 0 with
  | short =>
    refine (if_neg (show ¬ (4 : Int) = 0 by decide)).trans ?_
    simp only [encL, encR]
    have : ((p + (l.drop p).length : Nat) : Int) = (l.length : Int) := by rw [List.length_drop]; omega
    rw [this]
  | bad =>
    refine (if_neg (show ¬ (140 : Int) = 0 by decide)).trans ?_
    simp [encL, encR]
  | ok m j =>
    obtain ⟨_, hj7, hj0, hm0, hm1, hjl⟩ := hok m j hL
    have hm7 := pow7 hm1 hj7
    clear hm1 hok
    rw [List.length_drop] at hjl
    refine (if_pos rfl).trans ?_
    simp only [encL]
    have e1 : wrap64 (wrap64 ((j : Int) + 1) + 3) = (j : Int) + 4 := (w_add_l (by omega) (by omega) (by omega) (by omega)).trans (by omega)
    have e2 : wrap64 ((l.length : Int) - (p : Int)) = (((l.drop p).length : Nat) : Int) := by
      clear e1
      exact (w64 (by omega) (by omega)).trans (by rw [List.length_drop]; omega)
    simp only [e1, e2]
    clear e1 e2
    by_cases c1 : m < (j : Int) + 4
    · rw [if_pos c1, if_pos c1]
      simp [encR]
    rw [if_neg c1, if_neg c1]
    by_cases c2 : ((l.drop p).length : Int) < m
    · rw [if_pos c2, if_pos c2]
      have : ((p + (l.drop p).length : Nat) : Int) = (l.length : Int) := by rw [List.length_drop]; omega
      simp only [encR, this]
    rw [if_neg (by omega), if_neg c2]
    rw [List.length_drop] at c2
    obtain ⟨mm, rfl⟩ : ∃ mm : Nat, m = ((mm + 1 : Nat) : Int) := ⟨(m - 1).toNat, by omega⟩
    have e3 : wrap64 (wrap64 ((p : Int) + ((mm + 1 : Nat) : Int)) - 1) = ((p + mm : Nat) : Int) := by
      exact (w_sub_l (by omega) (by omega) (by omega) (by omega)).trans (by omega)
    have e4 : wrap64 ((p : Int) + wrap64 ((j : Int) + 1)) = ((p + (j + 1) : Nat) : Int) := by
      clear e3
      exact (w_add_r (by omega) (by omega) (by omega) (by omega)).trans (by omega)
    simp only [e3, e4]
    clear e3 e4
    rw [if_pos (by omega), if_pos (by omega)]
    have e5 : (((mm + 1 : Nat) : Int) - 1).toNat = mm := by omega
    have e6 : rd l ((p + mm : Nat) : Int) = (l.drop p).getD mm 0 := by
      unfold rd
      rw [Int.toNat_natCast, List.getD_eq_getElem?_getD, List.getD_eq_getElem?_getD, List.getElem?_drop]
    simp only [e5, e6]
    by_cases c3 : (l.drop p).getD mm 0 = 10
    · rw [if_pos c3, if_neg (not_not_intro c3)]
      rw [if_pos (by omega), if_pos (by omega), if_pos (by omega)]
      have e7 : ((l.take (((p + mm : Nat) : Int)).toNat).drop (((p + (j + 1) : Nat) : Int)).toNat) = bodyS (l.drop p) ((mm + 1 : Nat) : Int) j := by
        unfold bodyS
        rw [e5, Int.toNat_natCast, Int.toNat_natCast, List.drop_take, List.drop_take, List.drop_drop]
        congr 1
        omega
      rw [e7]
      have hbB : Bytes8 (bodyS (l.drop p) ((mm + 1 : Nat) : Int) j) := fun x hx => by
        unfold bodyS at hx
        exact hb x (List.mem_of_mem_drop (List.mem_of_mem_take (List.mem_of_mem_drop hx)))
      generalize bodyS (l.drop p) ((mm + 1 : Nat) : Int) j = B at *
      refine (tail_f B hbB _ _).trans ?_
      clear hL hl hb hk e5 e6 e7 c1 c2 c3
      cases B.idxOf? 61 with
      | none => rfl
      | some o =>
        cases o with
        | zero => rfl
        | succ o =>
          simp only
          by_cases c4 : 0 ∈ B
          · rw [if_pos c4, if_pos c4]; rfl
          · rw [if_neg c4, if_neg c4]; rfl
    · rw [if_neg c3, if_pos c3]
      rfl
end Go.Proofs.YtohgoaiimhhckaaDoor.PaxBridge
