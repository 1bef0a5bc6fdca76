import Derived.Test.YtcjahipcfcghlaaGreatPCompareStepsx
import Derived.Lib.SplitLaws
import Derived.Lib.IndexLaws
import Derived.Lib.IndexBytes
/- What is computed with enough fuel;  -/
namespace Go.Proofs.YtcjahipcfcghlaaGreat.StepsLaw
open Go.RowKit Go.Proofs.YtcjahipcfcghlaaGreatW.PrintWords Go.Proofs.YtcjahipcfcghlaaGreatW.PrintLast
set_option linter.unusedVariables false
set_option linter.unusedSimpArgs false
section
variable {α β : Type}
/-- With enough fuel a value of which P is so. -/
def Ev (g : Nat → Option α) (P : α → Prop) : Prop := ∃ K, ∀ k, K ≤ k → ∃ v, g k = some v ∧ P v
theorem Ev.const {v : α} {P : α → Prop} (h : P v) : Ev (fun _ => some v) P := ⟨0, fun _ _ => ⟨v, rfl, h⟩⟩
theorem Ev.bind {f : Nat → Option α} {g : Nat → α → Option β} {Q : β → Prop} {a : α} (hf : Ev f (· = a)) (hg : Ev (fun k => g k a) Q) : Ev (fun k => (f k).bind (g k)) Q := by
  obtain ⟨K1, h1⟩ := hf
  obtain ⟨K2, h2⟩ := hg
  refine ⟨max K1 K2, fun k hk => ?_⟩
  obtain ⟨v, e, rfl⟩ := h1 k (by omega)
  show ∃ u, (f k).bind (g k) = some u ∧ Q u
  rw [e]
  exact h2 k (by omega)
theorem Ev.bindP {f : Nat → Option α} {g : Nat → α → Option β} {P : α → Prop} {Q : β → Prop} (hf : Ev f P) (hg : ∃ K, ∀ k, K ≤ k → ∀ v, P v → ∃ r, g k v = some r ∧ Q r) : Ev (fun k => (f k).bind (g k)) Q := by
  obtain ⟨K1, h1⟩ := hf
  obtain ⟨K2, h2⟩ := hg
  refine ⟨max K1 K2, fun k hk => ?_⟩
  obtain ⟨v, e, hp⟩ := h1 k (by omega)
  show ∃ u, (f k).bind (g k) = some u ∧ Q u
  rw [e]
  exact h2 k (by omega) v hp
theorem Ev.succ {g : Nat → Option α} {P : α → Prop} (h : Ev (fun k => g (k + 1)) P) : Ev g P := by
  obtain ⟨K, h⟩ := h
  refine ⟨K + 1, fun k hk => ?_⟩
  obtain ⟨m, rfl⟩ : ∃ m, k = m + 1 := ⟨k - 1, by omega⟩
  exact h m (by omega)
theorem Ev.ite {c : Prop} [Decidable c] {f g : Nat → Option α} {P : α → Prop} (h1 : c → Ev f P) (h2 : ¬ c → Ev g P) : Ev (fun k => if c then f k else g k) P := by
  by_cases h : c
  · simpa [h] using h1 h
  · simpa [h] using h2 h
theorem Ev.imp {f : Nat → Option α} {P Q : α → Prop} (h : Ev f P) (hi : ∀ v, P v → Q v) : Ev f Q := by
  obtain ⟨K, h⟩ := h
  exact ⟨K, fun k hk => by obtain ⟨v, e, hp⟩ := h k hk; exact ⟨v, e, hi v hp⟩⟩
theorem Ev.at {f : Nat → Option α} {v : α} (K : Nat) (h : ∀ k, K ≤ k → f k = some v) : Ev f (· = v) := ⟨K, fun k hk => ⟨v, h k hk, rfl⟩⟩
end
theorem w64 {n : Int} (h0 : -9223372036854775808 ≤ n) (h1 : n ≤ 9223372036854775807) : wrap64 n = n := by unfold wrap64; omega
theorem w_succ {i : Nat} (h : i ≤ 4611686018427387904) : wrap64 ((i : Int) + 1) = ((i + 1 : Nat) : Int) := (w64 (by omega) (by omega)).trans (by omega)

end Go.Proofs.YtcjahipcfcghlaaGreat.StepsLaw

/- What compare.Changes tells, turned about and in two steps: plain facts. -/
namespace Go.Proofs.YtcjahipcfcghlaaGreat.StepsLaw
open Go.RowKit Go.Proofs.YtcjahipcfcghlaaGreat.PCompareSteps Go.Proofs.YtcjahipcfcghlaaGreatX Go.Proofs.YtcjahipcfcghlaaGreatV Go.Proofs.YtcjahipcfcghlaaGreatW.PrintWords Go.Proofs.YtcjahipcfcghlaaGreatW.PrintLast
set_option linter.unusedVariables false
set_option linter.unusedSimpArgs false
theorem otherS_comm (a b : S46) : otherS b a = otherS a b := by
  have c1 : (b.f1 = a.f1) = (a.f1 = b.f1) := propext ⟨Eq.symm, Eq.symm⟩
  have c3 : (b.f3 = a.f3) = (a.f3 = b.f3) := propext ⟨Eq.symm, Eq.symm⟩
  have c4 : (b.f4 = a.f4) = (a.f4 = b.f4) := propext ⟨Eq.symm, Eq.symm⟩
  have c5 : (b.f5 = a.f5) = (a.f5 = b.f5) := propext ⟨Eq.symm, Eq.symm⟩
  have d0 : (b.f2.f0 = a.f2.f0) = (a.f2.f0 = b.f2.f0) := propext ⟨Eq.symm, Eq.symm⟩
  have d1 : (b.f2.f1 = a.f2.f1) = (a.f2.f1 = b.f2.f1) := propext ⟨Eq.symm, Eq.symm⟩
  have d2 : (b.f2.f2 = a.f2.f2) = (a.f2.f2 = b.f2.f2) := propext ⟨Eq.symm, Eq.symm⟩
  have d3 : (b.f2.f3 = a.f2.f3) = (a.f2.f3 = b.f2.f3) := propext ⟨Eq.symm, Eq.symm⟩
  have d4 : (b.f2.f4 = a.f2.f4) = (a.f2.f4 = b.f2.f4) := propext ⟨Eq.symm, Eq.symm⟩
  rw [otherS_eq b a, otherS_eq a b]
  simp only [c1, c3, c4, c5, d0, d1, d2, d3, d4]
theorem otherS_vals (a b : S46) : otherS a b = 0 ∨ (3 < otherS a b ∧ otherS a b < 64) := by
  rw [otherS_eq]
  repeat' split
  all_goals omega
/-- Two marks that differ in nothing. -/
theorem otherS_zero {a b : S46} : otherS a b = 0 ↔ a.f1 = b.f1 ∧ (a.f3 = b.f3 ∧ a.f4 = b.f4) ∧ (a.f2.f0 = b.f2.f0 ∧ a.f2.f1 = b.f2.f1 ∧ a.f2.f2 = b.f2.f2 ∧ a.f2.f3 = b.f2.f3 ∧ a.f2.f4 = b.f2.f4) ∧ a.f5 = b.f5 := by
  rw [otherS_eq]
  by_cases h1 : a.f1 = b.f1
  · rw [if_pos h1]
    by_cases h2 : a.f3 = b.f3 ∧ a.f4 = b.f4
    · rw [if_pos h2]
      by_cases h3 : a.f2.f0 = b.f2.f0 ∧ a.f2.f1 = b.f2.f1 ∧ a.f2.f2 = b.f2.f2 ∧ a.f2.f3 = b.f2.f3 ∧ a.f2.f4 = b.f2.f4
      · rw [if_pos h3]
        by_cases h4 : a.f5 = b.f5
        · rw [if_pos h4]
          exact ⟨fun _ => ⟨h1, h2, h3, h4⟩, fun _ => by omega⟩
        · rw [if_neg h4]
          exact ⟨fun h => by omega, fun h => absurd h.2.2.2 h4⟩
      · rw [if_neg h3]
        exact ⟨fun h => by split at h <;> omega, fun h => absurd h.2.2.1 h3⟩
    · rw [if_neg h2]
      exact ⟨fun h => by (repeat' split at h) <;> omega, fun h => absurd h.2.1 h2⟩
  · rw [if_neg h1]
    exact ⟨fun h => by omega, fun h => absurd h.1 h1⟩
theorem otherS_trans {a b c : S46} (h : otherS a b = 0) (k : otherS b c = 0) : otherS a c = 0 := by
  rw [otherS_zero] at h k ⊢
  obtain ⟨h1, ⟨h2, h3⟩, ⟨h4, h5, h6, h7, h8⟩, h9⟩ := h
  obtain ⟨k1, ⟨k2, k3⟩, ⟨k4, k5, k6, k7, k8⟩, k9⟩ := k
  exact ⟨h1.trans k1, ⟨h2.trans k2, h3.trans k3⟩, ⟨h4.trans k4, h5.trans k5, h6.trans k6, h7.trans k7, h8.trans k8⟩, h9.trans k9⟩
def turn (v : Int) : Int := if v = 1 ∨ v = 2 then 3 - v else v
theorem whatO_turn (was now : MM) (k : ByteArray) : whatO now was k = (whatO was now k).map turn := by
  unfold whatO
  cases aget k was with
  | none => cases aget k now <;> simp [turn]
  | some a =>
    cases aget k now with
    | none => simp [turn]
    | some b =>
      simp only [otherS_comm a b]
      split
      · rfl
      · rename_i h
        rcases otherS_vals a b with e | e
        · exact absurd e h
        · simp only [Option.map_some, turn]
          rw [if_neg (by omega)]
def turnD (x : S27) : S27 := ⟨x.f0, turn x.f1⟩
theorem chg_turn {l0 l1 : List S46} {d : List S27} (h : Chg l0 l1 d) : Chg l1 l0 (d.map turnD) where
  rise := by
    rw [List.pairwise_map]
    exact h.rise
  mem := fun p => by
    rw [whatO_turn (mapOfM l0) (mapOfM l1) p.f0, List.mem_map]
    constructor
    · rintro ⟨x, hx, rfl⟩
      show (whatO (mapOfM l0) (mapOfM l1) x.f0).map turn = some (turn x.f1)
      rw [(h.mem x).1 hx]
      rfl
    · intro hp
      obtain ⟨u, hu, e⟩ := Option.map_eq_some_iff.1 hp
      exact ⟨⟨p.f0, u⟩, (h.mem ⟨p.f0, u⟩).2 hu, by unfold turnD; rw [e]⟩
theorem chg_vals {l0 l1 : List S46} {d : List S27} (h : Chg l0 l1 d) : ∀ x ∈ d, 0 < x.f1 ∧ x.f1 < 64 := by
  intro x hx
  have hw := (h.mem x).1 hx
  unfold whatO at hw
  cases h0 : aget x.f0 (mapOfM l0) with
  | none =>
    cases h1 : aget x.f0 (mapOfM l1) with
    | none => rw [h0, h1] at hw; cases hw
    | some b => rw [h0, h1] at hw; have := Option.some.inj hw; omega
  | some a =>
    cases h1 : aget x.f0 (mapOfM l1) with
    | none => rw [h0, h1] at hw; have := Option.some.inj hw; omega
    | some b =>
      rw [h0, h1] at hw
      simp only at hw
      split at hw
      · cases hw
      · have := Option.some.inj hw
        rcases otherS_vals a b with e | e <;> omega
/-- A name of which neither step tells: none is told of both together. -/
theorem whatO_steps (a b c : MM) (k : ByteArray) (h0 : whatO a b k = none) (h1 : whatO b c k = none) : whatO a c k = none := by
  unfold whatO at h0 h1 ⊢
  cases ha : aget k a with
  | none =>
    cases hb : aget k b with
    | none =>
      cases hc : aget k c with
      | none => rfl
      | some z => rw [hb, hc] at h1; cases h1
    | some y => rw [ha, hb] at h0; cases h0
  | some x =>
    cases hb : aget k b with
    | none => rw [ha, hb] at h0; cases h0
    | some y =>
      cases hc : aget k c with
      | none => rw [hb, hc] at h1; cases h1
      | some z =>
        rw [ha, hb] at h0
        rw [hb, hc] at h1
        simp only at h0 h1 ⊢
        have e0 : otherS x y = 0 := by
          by_cases e : otherS x y = 0
          · exact e
          · rw [if_neg e] at h0; cases h0
        have e1 : otherS y z = 0 := by
          by_cases e : otherS y z = 0
          · exact e
          · rw [if_neg e] at h1; cases h1
        rw [if_pos (otherS_trans e0 e1)]
theorem changes_len (a b : List S46) : (changesS a b).length ≤ a.length + b.length := by
  have h1 : (allS a b).length ≤ (akeys (mapOfM (a ++ b))).length := by unfold allS; exact List.length_filterMap_le _ _
  have h2 := mapOfM_len (a ++ b)
  rw [List.length_append] at h2
  unfold changesS
  rw [List.length_map, List.length_mergeSort, List.length_map]
  unfold akeys at h1
  rw [List.length_map] at h1
  omega
theorem changes_f {a b : List S46} (ha : a.length ≤ 1048576) (hb : b.length ≤ 1048576) (hza : ∀ x ∈ a, x.f0.size ≤ maxLen) (hzb : ∀ x ∈ b, x.f0.size ≤ maxLen) : compare_Changes.f a b = some (changesS a b) := by
  unfold compare_Changes.f
  rw [if_pos ⟨by omega, List.all_eq_true.2 (fun x hx => decide_eq_true (by
    rcases List.mem_append.1 hx with hx | hx
    · exact hza x hx
    · exact hzb x hx))⟩]
theorem rd_mem5 {l : List S27} {i : Nat} (h : i < l.length) : rd_T27 l (i : Int) = l[i] := by simp [rd_T27, h]
end Go.Proofs.YtcjahipcfcghlaaGreat.StepsLaw

/- The law CompareSteps: a name of which neither of two steps tells anything is the same at the end. -/
namespace Go.Proofs.YtcjahipcfcghlaaGreat.StepsLaw
open Go.RowKit Go.Proofs.YtcjahipcfcghlaaGreat.PCompareSteps Go.Proofs.YtcjahipcfcghlaaGreatX Go.Proofs.YtcjahipcfcghlaaGreatV Go.Proofs.YtcjahipcfcghlaaGreatW.PrintWords Go.Proofs.YtcjahipcfcghlaaGreatW.PrintLast
set_option linter.unusedVariables false
set_option linter.unusedSimpArgs false
section
variable (x y z : List S27) (hx : x.length ≤ 4194304) (hy : y.length ≤ 4194304) (hz : z.length ≤ 4194304) (i : Nat) (hi : i < z.length)
include hy hz hi in
theorem l2_ev (hnext : Ev (fun k => satchellaw24_CompareSteps.l0 k x y z ((i + 1 : Nat) : Int)) (· = true)) :
    ∀ (m n : Nat) (b : Bool), n + m = y.length → (b = true ∨ ∃ j, n ≤ j ∧ ∃ h : j < y.length, y[j].f0 = z[i].f0) → Ev (fun k => satchellaw24_CompareSteps.l2 k x y z (i : Int) b (n : Int)) (· = true)
  | 0, n, b, e, hb => by
    have hbt : b = true := by
      rcases hb with h | ⟨j, h1, h2, _⟩
      · exact h
      · omega
    have hs : wrap64 ((i : Int) + 1) = ((i + 1 : Nat) : Int) := w_succ (by omega)
    refine Ev.succ ?_
    simp only [satchellaw24_CompareSteps.l2, hs]
    refine Ev.ite (fun hh => absurd hh (by omega)) (fun _ => ?_)
    exact Ev.ite (fun _ => hnext) (fun hh => absurd hbt hh)
  | m + 1, n, b, e, hb => by
    have hn : n < y.length := by omega
    have hs : wrap64 ((n : Int) + 1) = ((n + 1 : Nat) : Int) := w_succ (by omega)
    refine Ev.succ ?_
    simp only [satchellaw24_CompareSteps.l2, hs, rd_mem5 hn, rd_mem5 hi]
    refine Ev.ite (fun _ => ?_) (fun hh => absurd (by omega) hh)
    refine Ev.ite (fun hbt => ?_) (fun hbf => ?_)
    · exact l2_ev hnext m (n + 1) true (by omega) (.inl rfl)
    · refine Ev.ite (fun _ => ?_) (fun hh => absurd (by omega) hh)
      refine Ev.ite (fun _ => ?_) (fun hh => absurd (by omega) hh)
      refine Ev.ite (fun _ => ?_) (fun hh => absurd (by omega) hh)
      refine l2_ev hnext m (n + 1) _ (by omega) ?_
      rcases hb with h | ⟨j, h1, h2, h3⟩
      · exact absurd h hbf
      · by_cases hj : j = n
        · subst hj
          left
          rw [h3]
          exact beq_self_eq_true _
        · exact .inr ⟨j, by omega, h2, h3⟩
include hx hy hz hi in
theorem l1_ev (hnext : Ev (fun k => satchellaw24_CompareSteps.l0 k x y z ((i + 1 : Nat) : Int)) (· = true)) :
    ∀ (m n : Nat) (b : Bool), n + m = x.length → (b = true ∨ (∃ j, n ≤ j ∧ ∃ h : j < x.length, x[j].f0 = z[i].f0) ∨ ∃ j, 0 ≤ j ∧ ∃ h : j < y.length, y[j].f0 = z[i].f0) → Ev (fun k => satchellaw24_CompareSteps.l1 k x y z (i : Int) b (n : Int)) (· = true)
  | 0, n, b, e, hb => by
    refine Ev.succ ?_
    simp only [satchellaw24_CompareSteps.l1]
    refine Ev.ite (fun hh => absurd hh (by omega)) (fun _ => ?_)
    refine l2_ev x y z hy hz i hi hnext y.length 0 b (by omega) ?_
    rcases hb with h | ⟨j, h1, h2, _⟩ | h
    · exact .inl h
    · omega
    · exact .inr h
  | m + 1, n, b, e, hb => by
    have hn : n < x.length := by omega
    have hs : wrap64 ((n : Int) + 1) = ((n + 1 : Nat) : Int) := w_succ (by omega)
    refine Ev.succ ?_
    simp only [satchellaw24_CompareSteps.l1, hs, rd_mem5 hn, rd_mem5 hi]
    refine Ev.ite (fun _ => ?_) (fun hh => absurd (by omega) hh)
    refine Ev.ite (fun hbt => ?_) (fun hbf => ?_)
    · exact l1_ev hnext m (n + 1) true (by omega) (.inl rfl)
    · refine Ev.ite (fun _ => ?_) (fun hh => absurd (by omega) hh)
      refine Ev.ite (fun _ => ?_) (fun hh => absurd (by omega) hh)
      refine Ev.ite (fun _ => ?_) (fun hh => absurd (by omega) hh)
      refine l1_ev hnext m (n + 1) _ (by omega) ?_
      rcases hb with h | ⟨j, h1, h2, h3⟩ | h
      · exact absurd h hbf
      · by_cases hj : j = n
        · subst hj
          left
          rw [h3]
          exact beq_self_eq_true _
        · exact .inr (.inl ⟨j, by omega, h2, h3⟩)
      · exact .inr (.inr h)
end
theorem l0_ev (x y z : List S27) (hx : x.length ≤ 4194304) (hy : y.length ≤ 4194304) (hz : z.length ≤ 4194304)
    (hc : ∀ p ∈ z, (∃ q ∈ x, q.f0 = p.f0) ∨ ∃ q ∈ y, q.f0 = p.f0) :
    ∀ (m n : Nat), n + m = z.length → Ev (fun k => satchellaw24_CompareSteps.l0 k x y z (n : Int)) (· = true)
  | 0, n, e => by
    refine Ev.succ ?_
    simp only [satchellaw24_CompareSteps.l0]
    exact Ev.ite (fun hh => absurd hh (by omega)) (fun _ => Ev.const rfl)
  | m + 1, n, e => by
    have hn : n < z.length := by omega
    have hnext := l0_ev x y z hx hy hz hc m (n + 1) (by omega)
    refine Ev.succ ?_
    simp only [satchellaw24_CompareSteps.l0]
    refine Ev.ite (fun _ => ?_) (fun hh => absurd (by omega) hh)
    refine l1_ev x y z hx hy hz n hn hnext x.length 0 false (by omega) (.inr ?_)
    rcases hc z[n] (List.getElem_mem hn) with ⟨q, hq, e1⟩ | ⟨q, hq, e1⟩
    · obtain ⟨j, hj, rfl⟩ := List.getElem_of_mem hq
      exact .inl ⟨j, by omega, hj, e1⟩
    · obtain ⟨j, hj, rfl⟩ := List.getElem_of_mem hq
      exact .inr ⟨j, by omega, hj, e1⟩
theorem law (a b c : List S46) (ha : a.length ≤ 1048576) (hb : b.length ≤ 1048576) (hc : c.length ≤ 1048576) (hza : ∀ x ∈ a, x.f0.size ≤ maxLen) (hzb : ∀ x ∈ b, x.f0.size ≤ maxLen) (hzc : ∀ x ∈ c, x.f0.size ≤ maxLen) : ∃ k, satchellaw24_CompareSteps.f k a b c = some true := by
  have h1 := changesS_is a b
  have h2 := changesS_is b c
  have h3 := changesS_is a c
  have n1 := changes_len a b
  have n2 := changes_len b c
  have n3 := changes_len a c
  have hcov : ∀ p ∈ changesS a c, (∃ q ∈ changesS a b, q.f0 = p.f0) ∨ ∃ q ∈ changesS b c, q.f0 = p.f0 := by
    intro p hp
    cases e1 : whatO (mapOfM a) (mapOfM b) p.f0 with
    | some u => exact .inl ⟨⟨p.f0, u⟩, (h1.mem ⟨p.f0, u⟩).2 e1, rfl⟩
    | none =>
      cases e2 : whatO (mapOfM b) (mapOfM c) p.f0 with
      | some u => exact .inr ⟨⟨p.f0, u⟩, (h2.mem ⟨p.f0, u⟩).2 e2, rfl⟩
      | none =>
        have := (h3.mem p).1 hp
        rw [whatO_steps _ _ _ _ e1 e2] at this
        cases this
  have h : Ev (fun k => satchellaw24_CompareSteps.f k a b c) (· = true) := by
    unfold satchellaw24_CompareSteps.f satchellaw24_lives.f
    rw [changes_f ha hb hza hzb, changes_f hb hc hzb hzc, changes_f ha hc hza hzc]
    simp only [Option.bind_some]
    refine Ev.ite (fun _ => ?_) (fun hh => absurd trivial hh)
    exact l0_ev _ _ _ (by omega) (by omega) (by omega) hcov (changesS a c).length 0 (by omega)
  obtain ⟨K, hK⟩ := h
  obtain ⟨v, e, rfl⟩ := hK K (Nat.le_refl _)
  exact ⟨K, e⟩
end Go.Proofs.YtcjahipcfcghlaaGreat.StepsLaw
