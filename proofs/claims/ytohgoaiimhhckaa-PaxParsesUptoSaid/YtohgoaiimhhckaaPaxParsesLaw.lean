/- The law PaxParses: the two Parses answer the same. -/
import Derived.Test.YtohgoaiimhhckaaPaxRefBridge
import Derived.Test.YtohgoaiimhhckaaPPaxParsesx15
namespace Go.Proofs.Ytohgoaiimhhckaa.PaxBridge
open Go.RowKit Go.Proofs.Ytohgoaiimhhckaa.PPaxParses Go.Proofs.YtohgoaiimhhckaaW.PrintWords Go.Proofs.YtohgoaiimhhckaaW.PrintLast Go.Proofs.Ytohgoaiimhhckaa.PaxSpec

theorem same_l0 (l : List S30) (hl : l.length ≤ 4398046511104) (d : Nat) : ∀ (k q : Nat), q + d = l.length → d + 1 ≤ k → satchellaw14_same.l0 k l l q = some true := by
  induction d with
  | zero =>
    intro k q hq hk
    obtain ⟨k, rfl⟩ : ∃ m, k = m + 1 := ⟨k - 1, by omega⟩
    simp only [satchellaw14_same.l0]
    rw [if_neg (by omega)]
  | succ d ih =>
    intro k q hq hk
    obtain ⟨k, rfl⟩ : ∃ m, k = m + 1 := ⟨k - 1, by omega⟩
    have e3 : wrap64 ((q : Int) + 1) = ((q + 1 : Nat) : Int) := (w64 (by omega) (by omega)).trans (by omega)
    simp only [satchellaw14_same.l0, e3]
    clear e3
    rw [if_pos (by omega), if_pos (by omega), if_pos (by omega), if_neg (by simp)]
    exact ih k (q + 1) (by omega) (by omega)
theorem same_f (l : List S30) (hl : l.length ≤ 4398046511104) (k : Nat) (hk : l.length + 1 ≤ k) : satchellaw14_same.f k l l = some true := by
  unfold satchellaw14_same.f
  rw [if_pos rfl]
  exact same_l0 l hl l.length k 0 (by omega) hk
theorem wiped_l0 (d : Nat) : ∀ (l : List S30) (k q : Nat) (b : Bool), l.length < 4398046511104 → q + d = l.length → d + 1 ≤ k → satchellaw14_wiped.l0 k l b q = some b := by
  induction d with
  | zero =>
    intro l k q b hl hq hk
    obtain ⟨k, rfl⟩ : ∃ m, k = m + 1 := ⟨k - 1, by omega⟩
    simp only [satchellaw14_wiped.l0]
    rw [if_neg (by omega), if_pos hl]
  | succ d ih =>
    intro l k q b hl hq hk
    obtain ⟨k, rfl⟩ : ∃ m, k = m + 1 := ⟨k - 1, by omega⟩
    have e3 : wrap64 ((q : Int) + 1) = ((q + 1 : Nat) : Int) := (w64 (by omega) (by omega)).trans (by omega)
    simp only [satchellaw14_wiped.l0, e3]
    clear e3
    rw [if_pos (by omega), if_pos (by omega)]
    exact ih _ k (q + 1) b (by rw [List.length_set]; exact hl) (by rw [List.length_set]; omega) (by omega)
theorem wiped_f (l : List S30) (hl : l.length < 4398046511104) (k : Nat) (hk : l.length + 1 ≤ k) : satchellaw14_wiped.f k l l = some true := by
  unfold satchellaw14_wiped.f
  rw [same_f l (by omega) k hk]
  simp only [Option.bind_some]
  exact wiped_l0 l.length l k 0 true hl (by omega) hk
theorem law_l0 (d : Nat) : ∀ (x3 : List Int) (l : List S30) (k q : Nat), x3.length ≤ 4398046511104 → l.length < 4398046511104 → q + d = x3.length → d + l.length + 2 ≤ k → satchellaw14_PaxParses.l0 k x3 l l l q = some true := by
  induction d with
  | zero =>
    intro x3 l k q hx hl hq hk
    obtain ⟨k, rfl⟩ : ∃ m, k = m + 1 := ⟨k - 1, by omega⟩
    simp only [satchellaw14_PaxParses.l0]
    rw [if_neg (by omega), wiped_f l hl k (by omega)]
    simp only [Option.bind_some, if_true]
    rw [same_f l (by omega) k (by omega)]
    rfl
  | succ d ih =>
    intro x3 l k q hx hl hq hk
    obtain ⟨k, rfl⟩ : ∃ m, k = m + 1 := ⟨k - 1, by omega⟩
    have e3 : wrap64 ((q : Int) + 1) = ((q + 1 : Nat) : Int) := (w64 (by omega) (by omega)).trans (by omega)
    simp only [satchellaw14_PaxParses.l0, e3]
    clear e3
    rw [if_pos (by omega), if_pos (by omega)]
    exact ih _ l k (q + 1) (by rw [List.length_set]; exact hx) hl (by rw [List.length_set]; omega) (by omega)

theorem parseS_len : ∀ (f : Nat) (b : List Int) (p : Nat) (l : List (List Int × List Int)), parseS f b p = .ok l → l.length ≤ b.length
  | 0, b, p, l, h => by simp [parseS] at h; subst h; simp
  | f + 1, [], p, l, h => by simp [parseS] at h; subst h; simp
  | f + 1, x :: b, p, l, h => by
    unfold parseS at h
    simp only at h
    cases hR : recS (x :: b) with
    | fault a w => rw [hR] at h; cases h
    | ok k v n =>
      rw [hR] at h
      simp only at h
      obtain ⟨h5, hn⟩ := recS_ok hR
      cases hq : parseS f ((x :: b).drop n) (p + n) with
      | fault a w => rw [hq] at h; cases h
      | ok ll =>
        rw [hq] at h
        simp only [PR.ok.injEq] at h
        subst h
        have := parseS_len f _ _ ll hq
        rw [List.length_drop] at this
        simp only [List.length_cons] at this hn ⊢
        omega

theorem strOf_bytes (s : ByteArray) : strOfNums (bytesOf s) = s := by
  apply ByteArray.ext
  apply Array.ext'
  simp [strOfNums, bytesOf, List.map_map, Function.comp_def]
theorem strOf_append (a b : List Int) : strOfNums (a ++ b) = strOfNums a ++ strOfNums b := by
  apply ByteArray.ext
  rw [ByteArray.data_append]
  apply Array.ext'
  simp [strOfNums]

set_option maxRecDepth 100000 in
theorem law_f (l : List Int) (hl : l.length ≤ 1048576) (hb : Bytes8 l) : satchellaw14_PaxParses.f (6 * l.length + 20) l = some true := by
  have hmark : (bytesOf (⟨#[57, 32, 120, 61, 121, 10, 33]⟩ : ByteArray)).length = 7 := by rw [bytesOf_length]; rfl
  have hP := parse_f l (by omega) hb (6 * l.length + 20) (by omega)
  have hR := refparse_f l (by omega) hb (6 * l.length + 20) (by omega)
  have hstr : (strOfNums (([] ++ l) ++ bytesOf (⟨#[57, 32, 120, 61, 121, 10, 33]⟩ : ByteArray))).toList = ((strOfNums l) ++ (⟨#[57, 32, 120, 61, 121, 10, 33]⟩ : ByteArray)).toList := by
    rw [List.nil_append, strOf_append, strOf_bytes]
  have htake : (([] ++ l) ++ bytesOf (⟨#[57, 32, 120, 61, 121, 10, 33]⟩ : ByteArray)).take ((l.length : Int)).toNat = l := by
    rw [List.nil_append, Int.toNat_natCast, List.take_left]
  have hlen : (([] ++ l) ++ bytesOf (⟨#[57, 32, 120, 61, 121, 10, 33]⟩ : ByteArray)).length = l.length + 7 := by
    rw [List.nil_append, List.length_append, hmark]
  unfold satchellaw14_PaxParses.f
  simp only [Option.bind_some]
  rw [if_pos (by simp; omega)]
  rw [if_pos (by simp; omega), if_pos (by omega)]
  rw [if_pos (by rw [hlen]; omega), htake, hP, hR]
  simp only [Option.bind_some]
  rw [if_pos (by rw [strOfNums_size]; omega), if_pos hstr, if_pos trivial]
  have hne : (((encP [] (parseS (l.length + 1) l 0)).2.2 != (encP [] (parseS (l.length + 1) l 0)).2.2)) = false := by simp
  rw [hne]
  have hlist : (encP [] (parseS (l.length + 1) l 0)).1.length ≤ l.length := by
    cases hq : parseS (l.length + 1) l 0 with
    | fault a w => simp [encP]
    | ok ll =>
      have := parseS_len _ _ _ _ hq
      simp [encP]
      exact this
  generalize (encP [] (parseS (l.length + 1) l 0)).1 = L at hlist ⊢
  obtain ⟨K, hK⟩ : ∃ K, K + 1 = 6 * l.length + 20 := ⟨6 * l.length + 19, by omega⟩
  rw [← hK]
  simp only [satchellaw14_PaxParses.j0]
  rw [if_neg (by decide)]
  exact law_l0 (l.length + 7) _ L K 0 (by rw [hlen]; omega) (by omega) (by rw [hlen]; omega) (by omega)
end Go.Proofs.Ytohgoaiimhhckaa.PaxBridge
