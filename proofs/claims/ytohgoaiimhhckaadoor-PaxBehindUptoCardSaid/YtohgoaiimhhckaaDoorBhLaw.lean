/- The law PaxBehind: records one behind the other. -/
import Derived.Test.YtohgoaiimhhckaaDoorBhRef
import Derived.Test.YtohgoaiimhhckaaDoorPaxAppend
import Derived.Test.YtohgoaiimhhckaaDoorXOpen
namespace Go.Proofs.YtohgoaiimhhckaaDoor.PaxBridge
open Go.RowKit Go.Proofs.YtohgoaiimhhckaaDoor.PPaxBehind Go.Proofs.YtohgoaiimhhckaaDoorW.PrintWords Go.Proofs.YtohgoaiimhhckaaDoorW.PrintLast Go.Proofs.YtohgoaiimhhckaaDoor.PaxSpec
set_option linter.unusedVariables false

theorem lives_at : satchellaw14_lives.f 60 = some true := by decide +kernel
theorem lives_f (k : Nat) (hk : 60 ≤ k) : satchellaw14_lives.f k = some true := by
  obtain ⟨d, rfl⟩ := Nat.exists_eq_add_of_le hk
  induction d with
  | zero => exact lives_at
  | succ d ih => exact satchellaw14_lives.mono _ _ (ih (by omega))
theorem same_l0 (l : List S59) (hl : l.length ≤ 4398046511104) (d : Nat) : ∀ (k q : Nat), q + d = l.length → d + 1 ≤ k → satchellaw14_same.l0 k l l q = some true := by
  induction d with
  | zero =>
    intro k q hq hk
    obtain ⟨k, rfl⟩ : ∃ m, k = m + 1 := ⟨k - 1, by omega⟩
    simp only [satchellaw14_same.l0]
    rw [if_neg (by omega)]
  | succ d ih =>
    intro k q hq hk
    obtain ⟨k, rfl⟩ : ∃ m, k = m + 1 := ⟨k - 1, by omega⟩
    have e3 : wrap64 ((q : Int) + 1) = ((q + 1 : Nat) : Int) := (w64 (by omega) (by omega)).trans (by omega)
    simp only [satchellaw14_same.l0, e3]
    clear e3
    rw [if_pos (by omega), if_pos (by omega), if_pos (by omega), if_neg (by simp)]
    exact ih k (q + 1) (by omega) (by omega)
theorem same_f (l : List S59) (hl : l.length ≤ 4398046511104) (k : Nat) (hk : l.length + 1 ≤ k) : satchellaw14_same.f k l l = some true := by
  unfold satchellaw14_same.f
  rw [if_pos rfl]
  exact same_l0 l hl l.length k 0 (by omega) hk
theorem parseS_len : ∀ (f : Nat) (b : List Int) (p : Nat) (l : List (List Int × List Int)), parseS f b p = .ok l → l.length ≤ b.length
  | 0, b, p, l, h => by simp [parseS] at h; subst h; simp
  | f + 1, [], p, l, h => by simp [parseS] at h; subst h; simp
  | f + 1, x :: b, p, l, h => by
    rw [parseS_cons] at h
    cases hR : recS (x :: b) with
    | fault a w => rw [hR] at h; cases h
    | ok k v n =>
      rw [hR] at h
      simp only at h
      obtain ⟨h5, hn⟩ := recS_ok hR
      cases hq : parseS f ((x :: b).drop n) (p + n) with
      | fault a w => rw [hq] at h; cases h
      | ok ll =>
        rw [hq] at h
        simp only [PR.ok.injEq] at h
        subst h
        have := parseS_len f _ _ ll hq
        rw [List.length_drop] at this
        simp only [List.length_cons] at this hn ⊢
        omega
theorem parseS_fault : ∀ (f : Nat) (b : List Int) (p a : Nat) (w : Int), parseS f b p = .fault a w → w ≠ 0 ∧ p ≤ a ∧ a ≤ p + b.length
  | 0, b, p, a, w, h => by simp [parseS] at h
  | f + 1, [], p, a, w, h => by simp [parseS] at h
  | f + 1, x :: b, p, a, w, h => by
    rw [parseS_cons] at h
    cases hR : recS (x :: b) with
    | fault a' w' =>
      rw [hR] at h
      simp only [PR.fault.injEq] at h
      obtain ⟨rfl, rfl⟩ := h
      have := recS_fault hR
      exact ⟨this.2, by omega, by omega⟩
    | ok k v n =>
      rw [hR] at h
      simp only at h
      obtain ⟨h5, hn⟩ := recS_ok hR
      cases hq : parseS f ((x :: b).drop n) (p + n) with
      | fault a' w' =>
        rw [hq] at h
        simp only [PR.fault.injEq] at h
        obtain ⟨rfl, rfl⟩ := h
        have := parseS_fault f _ _ _ _ hq
        rw [List.length_drop] at this
        omega
      | ok ll => rw [hq] at h; cases h

set_option maxRecDepth 100000 in
theorem law_f (l0 l1 : List Int) (hl : l0.length + l1.length ≤ 1048576) (h0 : Bytes8 l0) (h1 : Bytes8 l1) : satchellaw14_PaxBehind.f (6 * (l0.length + l1.length) + 100) l0 l1 = some true := by
  generalize hK : 6 * (l0.length + l1.length) + 100 = K
  have hP0 := parse_f l0 (by omega) h0 K (by omega)
  have hP1 := parse_f l1 (by omega) h1 K (by omega)
  have hP2 := parse_f (l0 ++ l1) (by rw [List.length_append]; omega) (fun x hx => (List.mem_append.1 hx).elim (h0 x) (h1 x)) K (by rw [List.length_append]; omega)
  have hE : ∀ (x : List (List Int × List Int)), (x.map mkP).length = x.length := fun x => List.length_map _
  generalize hE0 : encP [] (parseS (l0.length + 1) l0 0) = e0 at hP0
  generalize hE1 : encP [] (parseS (l1.length + 1) l1 0) = e1 at hP1
  generalize hE2 : encP [] (parseS ((l0 ++ l1).length + 1) (l0 ++ l1) 0) = e2 at hP2
  obtain ⟨A0, B0, C0⟩ := e0
  obtain ⟨A1, B1, C1⟩ := e1
  obtain ⟨A2, B2, C2⟩ := e2
  unfold satchellaw14_PaxBehind.f
  rw [lives_f K (by omega)]
  simp only [Option.bind_some, if_true, List.nil_append, List.length_nil, Nat.zero_add]
  rw [if_pos (by omega), hP0]
  simp only [Option.bind_some]
  rw [if_pos (by omega), hP1]
  simp only [Option.bind_some]
  rw [if_pos (by omega), if_pos (by omega), hP2]
  simp only [Option.bind_some]
  clear hP0 hP1 hP2
  cases hA : parseS (l0.length + 1) l0 0 with
  | fault a w =>
    have := parseS_fault _ _ _ _ _ hA
    rw [hA] at hE0
    simp only [encP, Prod.mk.injEq] at hE0
    obtain ⟨rfl, rfl, rfl⟩ := hE0
    rw [if_neg this.1]
    rfl
  | ok la =>
    have hla := parseS_len _ _ _ _ hA
    have happ := parseS_app _ l0 0 la hA (by omega) l1 ((l0 ++ l1).length + 1) (l1.length + 1) (by rw [List.length_append]; omega) (by omega)
    rw [show 0 + l0.length = l0.length + 0 from by omega, parseS_shift] at happ
    rw [hA] at hE0
    simp only [encP, Prod.mk.injEq, List.nil_append] at hE0
    obtain ⟨rfl, rfl, rfl⟩ := hE0
    rw [if_pos rfl]
    cases hB : parseS (l1.length + 1) l1 0 with
    | fault a w =>
      have hf := parseS_fault _ _ _ _ _ hB
      rw [hB] at happ hE1
      rw [happ] at hE2
      simp only [encP, shiftP, joinP, Prod.mk.injEq] at hE1 hE2
      obtain ⟨rfl, rfl, rfl⟩ := hE1
      obtain ⟨rfl, rfl, rfl⟩ := hE2
      have e : wrap64 ((a : Int) + (l0.length : Int)) = ((l0.length + a : Nat) : Int) := (w64 (by omega) (by omega)).trans (by omega)
      rw [e, if_neg hf.1, if_pos rfl, if_pos rfl]
      rfl
    | ok lb =>
      have hlb := parseS_len _ _ _ _ hB
      rw [hB] at happ hE1
      rw [happ] at hE2
      simp only [encP, shiftP, joinP, Prod.mk.injEq, List.nil_append] at hE1 hE2
      obtain ⟨rfl, rfl, rfl⟩ := hE1
      obtain ⟨rfl, rfl, rfl⟩ := hE2
      rw [if_pos rfl, if_pos rfl, if_pos rfl, hE, hE, if_pos (by omega), if_pos (by omega), ← List.map_append]
      rw [same_f _ (by rw [List.length_map, List.length_append]; omega) K (by rw [List.length_map, List.length_append]; omega)]
      rfl
theorem wt_one (l : List Int) : Go.Proofs.YtohgoaiimhhckaaDoorX.wtAll (fun x_ => 1) l = l.length := by
  induction l with
  | nil => rfl
  | cons x l ih => simp only [Go.Proofs.YtohgoaiimhhckaaDoorX.wtAll, ih, List.length_cons]; omega
theorem bytes_good {l : List Int} (g : ∀ x_ ∈ l, (Lit.int .u8 x_).wf = true) : Bytes8 l := fun x hx => by
  have := g x hx
  simp [Lit.wf, IntKind.min, IntKind.max, IntKind.signed, IntKind.bits] at this
  omega
theorem law_up (l0 l1 : List Int) (g0 : ∀ x_ ∈ l0, (Lit.int .u8 x_).wf = true) (g1 : ∀ x_ ∈ l1, (Lit.int .u8 x_).wf = true) (hb : (Go.Proofs.YtohgoaiimhhckaaDoorX.wtAll (fun x_ => 1) l0 + 1) + (Go.Proofs.YtohgoaiimhhckaaDoorX.wtAll (fun x_ => 1) l1 + 1) ≤ 1048576) :
    ∃ k, satchellaw14_PaxBehind.f k l0 l1 = some true := by
  rw [wt_one, wt_one] at hb
  exact ⟨_, law_f l0 l1 (by omega) (bytes_good g0) (bytes_good g1)⟩
end Go.Proofs.YtohgoaiimhhckaaDoor.PaxBridge
