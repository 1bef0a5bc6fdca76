import Derived.Test.YtcjahipcfcghlaaGreatPCompareTurnedx
import Derived.Lib.SplitLaws
import Derived.Lib.IndexLaws
import Derived.Lib.IndexBytes
/- What is computed with enough fuel;  -/
namespace Go.Proofs.YtcjahipcfcghlaaGreat.TurnedLaw
open Go.RowKit Go.Proofs.YtcjahipcfcghlaaGreatW.PrintWords Go.Proofs.YtcjahipcfcghlaaGreatW.PrintLast
set_option linter.unusedVariables false
set_option linter.unusedSimpArgs false
section
variable {α β : Type}
/-- With enough fuel a value of which P is so. -/
def Ev (g : Nat → Option α) (P : α → Prop) : Prop := ∃ K, ∀ k, K ≤ k → ∃ v, g k = some v ∧ P v
theorem Ev.const {v : α} {P : α → Prop} (h : P v) : Ev (fun _ => some v) P := ⟨0, fun _ _ => ⟨v, rfl, h⟩⟩
theorem Ev.bind {f : Nat → Option α} {g : Nat → α → Option β} {Q : β → Prop} {a : α} (hf : Ev f (· = a)) (hg : Ev (fun k => g k a) Q) : Ev (fun k => (f k).bind (g k)) Q := by
  obtain ⟨K1, h1⟩ := hf
  obtain ⟨K2, h2⟩ := hg
  refine ⟨max K1 K2, fun k hk => ?_⟩
  obtain ⟨v, e, rfl⟩ := h1 k (by omega)
  show ∃ u, (f k).bind (g k) = some u ∧ Q u
  rw [e]
  exact h2 k (by omega)
theorem Ev.bindP {f : Nat → Option α} {g : Nat → α → Option β} {P : α → Prop} {Q : β → Prop} (hf : Ev f P) (hg : ∃ K, ∀ k, K ≤ k → ∀ v, P v → ∃ r, g k v = some r ∧ Q r) : Ev (fun k => (f k).bind (g k)) Q := by
  obtain ⟨K1, h1⟩ := hf
  obtain ⟨K2, h2⟩ := hg
  refine ⟨max K1 K2, fun k hk => ?_⟩
  obtain ⟨v, e, hp⟩ := h1 k (by omega)
  show ∃ u, (f k).bind (g k) = some u ∧ Q u
  rw [e]
  exact h2 k (by omega) v hp
theorem Ev.succ {g : Nat → Option α} {P : α → Prop} (h : Ev (fun k => g (k + 1)) P) : Ev g P := by
  obtain ⟨K, h⟩ := h
  refine ⟨K + 1, fun k hk => ?_⟩
  obtain ⟨m, rfl⟩ : ∃ m, k = m + 1 := ⟨k - 1, by omega⟩
  exact h m (by omega)
theorem Ev.ite {c : Prop} [Decidable c] {f g : Nat → Option α} {P : α → Prop} (h1 : c → Ev f P) (h2 : ¬ c → Ev g P) : Ev (fun k => if c then f k else g k) P := by
  by_cases h : c
  · simpa [h] using h1 h
  · simpa [h] using h2 h
theorem Ev.imp {f : Nat → Option α} {P Q : α → Prop} (h : Ev f P) (hi : ∀ v, P v → Q v) : Ev f Q := by
  obtain ⟨K, h⟩ := h
  exact ⟨K, fun k hk => by obtain ⟨v, e, hp⟩ := h k hk; exact ⟨v, e, hi v hp⟩⟩
theorem Ev.at {f : Nat → Option α} {v : α} (K : Nat) (h : ∀ k, K ≤ k → f k = some v) : Ev f (· = v) := ⟨K, fun k hk => ⟨v, h k hk, rfl⟩⟩
end
theorem w64 {n : Int} (h0 : -9223372036854775808 ≤ n) (h1 : n ≤ 9223372036854775807) : wrap64 n = n := by unfold wrap64; omega
theorem w_succ {i : Nat} (h : i ≤ 4611686018427387904) : wrap64 ((i : Int) + 1) = ((i + 1 : Nat) : Int) := (w64 (by omega) (by omega)).trans (by omega)

end Go.Proofs.YtcjahipcfcghlaaGreat.TurnedLaw

/- What compare.Changes tells, turned about and in two steps: plain facts. -/
namespace Go.Proofs.YtcjahipcfcghlaaGreat.TurnedLaw
open Go.RowKit Go.Proofs.YtcjahipcfcghlaaGreat.PCompareTurned Go.Proofs.YtcjahipcfcghlaaGreatX Go.Proofs.YtcjahipcfcghlaaGreatV Go.Proofs.YtcjahipcfcghlaaGreatW.PrintWords Go.Proofs.YtcjahipcfcghlaaGreatW.PrintLast
set_option linter.unusedVariables false
set_option linter.unusedSimpArgs false
theorem otherS_comm (a b : S46) : otherS b a = otherS a b := by
  have c1 : (b.f1 = a.f1) = (a.f1 = b.f1) := propext ⟨Eq.symm, Eq.symm⟩
  have c3 : (b.f3 = a.f3) = (a.f3 = b.f3) := propext ⟨Eq.symm, Eq.symm⟩
  have c4 : (b.f4 = a.f4) = (a.f4 = b.f4) := propext ⟨Eq.symm, Eq.symm⟩
  have c5 : (b.f5 = a.f5) = (a.f5 = b.f5) := propext ⟨Eq.symm, Eq.symm⟩
  have d0 : (b.f2.f0 = a.f2.f0) = (a.f2.f0 = b.f2.f0) := propext ⟨Eq.symm, Eq.symm⟩
  have d1 : (b.f2.f1 = a.f2.f1) = (a.f2.f1 = b.f2.f1) := propext ⟨Eq.symm, Eq.symm⟩
  have d2 : (b.f2.f2 = a.f2.f2) = (a.f2.f2 = b.f2.f2) := propext ⟨Eq.symm, Eq.symm⟩
  have d3 : (b.f2.f3 = a.f2.f3) = (a.f2.f3 = b.f2.f3) := propext ⟨Eq.symm, Eq.symm⟩
  have d4 : (b.f2.f4 = a.f2.f4) = (a.f2.f4 = b.f2.f4) := propext ⟨Eq.symm, Eq.symm⟩
  rw [otherS_eq b a, otherS_eq a b]
  simp only [c1, c3, c4, c5, d0, d1, d2, d3, d4]
theorem otherS_vals (a b : S46) : otherS a b = 0 ∨ (3 < otherS a b ∧ otherS a b < 64) := by
  rw [otherS_eq]
  repeat' split
  all_goals omega
/-- Two marks that differ in nothing. -/
theorem otherS_zero {a b : S46} : otherS a b = 0 ↔ a.f1 = b.f1 ∧ (a.f3 = b.f3 ∧ a.f4 = b.f4) ∧ (a.f2.f0 = b.f2.f0 ∧ a.f2.f1 = b.f2.f1 ∧ a.f2.f2 = b.f2.f2 ∧ a.f2.f3 = b.f2.f3 ∧ a.f2.f4 = b.f2.f4) ∧ a.f5 = b.f5 := by
  rw [otherS_eq]
  by_cases h1 : a.f1 = b.f1
  · rw [if_pos h1]
    by_cases h2 : a.f3 = b.f3 ∧ a.f4 = b.f4
    · rw [if_pos h2]
      by_cases h3 : a.f2.f0 = b.f2.f0 ∧ a.f2.f1 = b.f2.f1 ∧ a.f2.f2 = b.f2.f2 ∧ a.f2.f3 = b.f2.f3 ∧ a.f2.f4 = b.f2.f4
      · rw [if_pos h3]
        by_cases h4 : a.f5 = b.f5
        · rw [if_pos h4]
          exact ⟨fun _ => ⟨h1, h2, h3, h4⟩, fun _ => by omega⟩
        · rw [if_neg h4]
          exact ⟨fun h => by omega, fun h => absurd h.2.2.2 h4⟩
      · rw [if_neg h3]
        exact ⟨fun h => by split at h <;> omega, fun h => absurd h.2.2.1 h3⟩
    · rw [if_neg h2]
      exact ⟨fun h => by (repeat' split at h) <;> omega, fun h => absurd h.2.1 h2⟩
  · rw [if_neg h1]
    exact ⟨fun h => by omega, fun h => absurd h.1 h1⟩
theorem otherS_trans {a b c : S46} (h : otherS a b = 0) (k : otherS b c = 0) : otherS a c = 0 := by
  rw [otherS_zero] at h k ⊢
  obtain ⟨h1, ⟨h2, h3⟩, ⟨h4, h5, h6, h7, h8⟩, h9⟩ := h
  obtain ⟨k1, ⟨k2, k3⟩, ⟨k4, k5, k6, k7, k8⟩, k9⟩ := k
  exact ⟨h1.trans k1, ⟨h2.trans k2, h3.trans k3⟩, ⟨h4.trans k4, h5.trans k5, h6.trans k6, h7.trans k7, h8.trans k8⟩, h9.trans k9⟩
def turn (v : Int) : Int := if v = 1 ∨ v = 2 then 3 - v else v
theorem whatO_turn (was now : MM) (k : ByteArray) : whatO now was k = (whatO was now k).map turn := by
  unfold whatO
  cases aget k was with
  | none => cases aget k now <;> simp [turn]
  | some a =>
    cases aget k now with
    | none => simp [turn]
    | some b =>
      simp only [otherS_comm a b]
      split
      · rfl
      · rename_i h
        rcases otherS_vals a b with e | e
        · exact absurd e h
        · simp only [Option.map_some, turn]
          rw [if_neg (by omega)]
def turnD (x : S27) : S27 := ⟨x.f0, turn x.f1⟩
theorem chg_turn {l0 l1 : List S46} {d : List S27} (h : Chg l0 l1 d) : Chg l1 l0 (d.map turnD) where
  rise := by
    rw [List.pairwise_map]
    exact h.rise
  mem := fun p => by
    rw [whatO_turn (mapOfM l0) (mapOfM l1) p.f0, List.mem_map]
    constructor
    · rintro ⟨x, hx, rfl⟩
      show (whatO (mapOfM l0) (mapOfM l1) x.f0).map turn = some (turn x.f1)
      rw [(h.mem x).1 hx]
      rfl
    · intro hp
      obtain ⟨u, hu, e⟩ := Option.map_eq_some_iff.1 hp
      exact ⟨⟨p.f0, u⟩, (h.mem ⟨p.f0, u⟩).2 hu, by unfold turnD; rw [e]⟩
theorem chg_vals {l0 l1 : List S46} {d : List S27} (h : Chg l0 l1 d) : ∀ x ∈ d, 0 < x.f1 ∧ x.f1 < 64 := by
  intro x hx
  have hw := (h.mem x).1 hx
  unfold whatO at hw
  cases h0 : aget x.f0 (mapOfM l0) with
  | none =>
    cases h1 : aget x.f0 (mapOfM l1) with
    | none => rw [h0, h1] at hw; cases hw
    | some b => rw [h0, h1] at hw; have := Option.some.inj hw; omega
  | some a =>
    cases h1 : aget x.f0 (mapOfM l1) with
    | none => rw [h0, h1] at hw; have := Option.some.inj hw; omega
    | some b =>
      rw [h0, h1] at hw
      simp only at hw
      split at hw
      · cases hw
      · have := Option.some.inj hw
        rcases otherS_vals a b with e | e <;> omega
/-- A name of which neither step tells: none is told of both together. -/
theorem whatO_steps (a b c : MM) (k : ByteArray) (h0 : whatO a b k = none) (h1 : whatO b c k = none) : whatO a c k = none := by
  unfold whatO at h0 h1 ⊢
  cases ha : aget k a with
  | none =>
    cases hb : aget k b with
    | none =>
      cases hc : aget k c with
      | none => rfl
      | some z => rw [hb, hc] at h1; cases h1
    | some y => rw [ha, hb] at h0; cases h0
  | some x =>
    cases hb : aget k b with
    | none => rw [ha, hb] at h0; cases h0
    | some y =>
      cases hc : aget k c with
      | none => rw [hb, hc] at h1; cases h1
      | some z =>
        rw [ha, hb] at h0
        rw [hb, hc] at h1
        simp only at h0 h1 ⊢
        have e0 : otherS x y = 0 := by
          by_cases e : otherS x y = 0
          · exact e
          · rw [if_neg e] at h0; cases h0
        have e1 : otherS y z = 0 := by
          by_cases e : otherS y z = 0
          · exact e
          · rw [if_neg e] at h1; cases h1
        rw [if_pos (otherS_trans e0 e1)]
theorem changes_len (a b : List S46) : (changesS a b).length ≤ a.length + b.length := by
  have h1 : (allS a b).length ≤ (akeys (mapOfM (a ++ b))).length := by unfold allS; exact List.length_filterMap_le _ _
  have h2 := mapOfM_len (a ++ b)
  rw [List.length_append] at h2
  unfold changesS
  rw [List.length_map, List.length_mergeSort, List.length_map]
  unfold akeys at h1
  rw [List.length_map] at h1
  omega
theorem changes_f {a b : List S46} (ha : a.length ≤ 1048576) (hb : b.length ≤ 1048576) (hza : ∀ x ∈ a, x.f0.size ≤ maxLen) (hzb : ∀ x ∈ b, x.f0.size ≤ maxLen) : compare_Changes.f a b = some (changesS a b) := by
  unfold compare_Changes.f
  rw [if_pos ⟨by omega, List.all_eq_true.2 (fun x hx => decide_eq_true (by
    rcases List.mem_append.1 hx with hx | hx
    · exact hza x hx
    · exact hzb x hx))⟩]
theorem rd_mem5 {l : List S27} {i : Nat} (h : i < l.length) : rd_T27 l (i : Int) = l[i] := by simp [rd_T27, h]
end Go.Proofs.YtcjahipcfcghlaaGreat.TurnedLaw

/- The law CompareTurned: each name is told once, the names rise; turned about the same is told, with Added for Gone. -/
namespace Go.Proofs.YtcjahipcfcghlaaGreat.TurnedLaw
open Go.RowKit Go.Proofs.YtcjahipcfcghlaaGreat.PCompareTurned Go.Proofs.YtcjahipcfcghlaaGreatX Go.Proofs.YtcjahipcfcghlaaGreatV Go.Proofs.YtcjahipcfcghlaaGreatW.PrintWords Go.Proofs.YtcjahipcfcghlaaGreatW.PrintLast
set_option linter.unusedVariables false
set_option linter.unusedSimpArgs false
theorem j1_ev (d d2 : List S27) (hl : d.length ≤ 4194304) (hl2 : d2.length = d.length) (n : Nat) (hn : n < d.length) (v w : Int) (b : Bool) (ht : b = true → wrap64 (3 - v) = w) (hf : b = false → v = w)
    (e0 : (d2[n]'(by omega)).f0 = d[n].f0) (e1 : (d2[n]'(by omega)).f1 = w) (h0 : 0 < w) (h64 : w < 64) (hr : ∀ h : 0 < n, (d[n - 1]'(by omega)).f0.toList < d[n].f0.toList)
    (hnext : Ev (fun k => satchellaw24_CompareTurned.l0 k d d2 ((n + 1 : Nat) : Int)) (· = true)) : Ev (fun k => satchellaw24_CompareTurned.j1 k d d2 (n : Int) v b) (· = true) := by
  have hs : wrap64 ((n : Int) + 1) = ((n + 1 : Nat) : Int) := w_succ (by omega)
  have hrd : rd_T27 d (n : Int) = d[n] := rd_mem5 hn
  have hrd2 : rd_T27 d2 (n : Int) = d2[n]'(by omega) := rd_mem5 (by omega)
  have hlast : 0 < n → wrap64 ((n : Int) - 1) = ((n - 1 : Nat) : Int) := fun h => (w64 (by omega) (by omega)).trans (by omega)
  have hrd3 : 0 < n → Op.bytesLess ((rd_T27 d ((n - 1 : Nat) : Int)).f0.toList) d[n].f0.toList = true := fun h => by
    rw [rd_mem5 (by omega : n - 1 < d.length), bytesLess_eq]
    exact decide_eq_true (hr h)
  have tail : Ev (fun k => if w ≤ 0 then some false else if w ≥ 64 then some false else satchellaw24_CompareTurned.l0 k d d2 ((n + 1 : Nat) : Int)) (· = true) :=
    Ev.ite (fun hh => absurd hh (by omega)) (fun _ => Ev.ite (fun hh => absurd hh (by omega)) (fun _ => hnext))
  refine Ev.succ ?_
  simp only [satchellaw24_CompareTurned.j1, hs, hrd, hrd2]
  refine Ev.ite (fun hb => ?_) (fun hb => ?_)
  · rw [ht hb]
    refine Ev.ite (fun _ => ?_) (fun hh => absurd (by omega) hh)
    refine Ev.ite (fun _ => ?_) (fun hh => absurd (by omega) hh)
    refine Ev.ite (fun _ => ?_) (fun hh => absurd (by omega) hh)
    refine Ev.ite (fun _ => ?_) (fun hh => absurd (by rw [e0]) hh)
    refine Ev.ite (fun _ => ?_) (fun hh => absurd e1 hh)
    refine Ev.ite (fun hp => ?_) (fun _ => tail)
    rw [hlast (by omega)]
    refine Ev.ite (fun _ => ?_) (fun hh => absurd (by omega) hh)
    refine Ev.ite (fun _ => ?_) (fun hh => absurd (by omega) hh)
    exact Ev.ite (fun _ => tail) (fun hh => absurd (hrd3 (by omega)) hh)
  · have hv : v = w := hf (by simpa using hb)
    rw [hv]
    refine Ev.ite (fun _ => ?_) (fun hh => absurd (by omega) hh)
    refine Ev.ite (fun _ => ?_) (fun hh => absurd (by omega) hh)
    refine Ev.ite (fun _ => ?_) (fun hh => absurd (by omega) hh)
    refine Ev.ite (fun _ => ?_) (fun hh => absurd (by rw [e0]) hh)
    refine Ev.ite (fun _ => ?_) (fun hh => absurd e1 hh)
    refine Ev.ite (fun hp => ?_) (fun _ => tail)
    rw [hlast (by omega)]
    refine Ev.ite (fun _ => ?_) (fun hh => absurd (by omega) hh)
    refine Ev.ite (fun _ => ?_) (fun hh => absurd (by omega) hh)
    exact Ev.ite (fun _ => tail) (fun hh => absurd (hrd3 (by omega)) hh)
theorem l0_ev (d : List S27) (hl : d.length ≤ 4194304) (hp : d.Pairwise (fun x y => x.f0.toList < y.f0.toList)) (hv : ∀ x ∈ d, 0 < x.f1 ∧ x.f1 < 64) :
    ∀ (m n : Nat), n + m = d.length → Ev (fun k => satchellaw24_CompareTurned.l0 k d (d.map turnD) (n : Int)) (· = true)
  | 0, n, e => by
    refine Ev.succ ?_
    simp only [satchellaw24_CompareTurned.l0]
    exact Ev.ite (fun hh => absurd hh (by omega)) (fun _ => Ev.const rfl)
  | m + 1, n, e => by
    have hn : n < d.length := by omega
    have hv1 := hv d[n] (List.getElem_mem hn)
    have hnext := l0_ev d hl hp hv m (n + 1) (by omega)
    have hrise : ∀ h : 0 < n, (d[n - 1]'(by omega)).f0.toList < d[n].f0.toList := fun h => (List.pairwise_iff_getElem.1 hp) (n - 1) n (by omega) hn (by omega)
    have ht : ∀ b : Bool, (b = true → d[n].f1 = 1 ∨ d[n].f1 = 2) → (b = false → ¬ (d[n].f1 = 1 ∨ d[n].f1 = 2)) → Ev (fun k => satchellaw24_CompareTurned.j1 k d (d.map turnD) (n : Int) d[n].f1 b) (· = true) := fun b h1 h2 => by
      refine j1_ev d (d.map turnD) hl (by simp) n hn d[n].f1 (turn d[n].f1) b (fun hb => ?_) (fun hb => ?_) (by simp [turnD]) (by simp [turnD]) ?_ ?_ hrise hnext
      · have := h1 hb
        unfold turn
        rw [if_pos this]
        exact w64 (by omega) (by omega)
      · unfold turn
        rw [if_neg (h2 hb)]
      · unfold turn
        split <;> omega
      · unfold turn
        split <;> omega
    refine Ev.succ ?_
    simp only [satchellaw24_CompareTurned.l0, rd_mem5 hn]
    refine Ev.ite (fun _ => ?_) (fun hh => absurd (by omega) hh)
    refine Ev.ite (fun _ => ?_) (fun hh => absurd (by omega) hh)
    refine Ev.ite (fun h1 => ht true (fun _ => .inl h1) (fun hb => by cases hb)) (fun h1 => ht _ (fun hb => .inr (by simpa using hb)) (fun hb => ?_))
    simp at hb
    omega
theorem law (a b : List S46) (ha : a.length ≤ 1048576) (hb : b.length ≤ 1048576) (hza : ∀ x ∈ a, x.f0.size ≤ maxLen) (hzb : ∀ x ∈ b, x.f0.size ≤ maxLen) : ∃ k, satchellaw24_CompareTurned.f k a b = some true := by
  have hc := changesS_is a b
  have e2 : changesS b a = (changesS a b).map turnD := (changesS_is b a).unique (chg_turn hc)
  have hlen := changes_len a b
  have h : Ev (fun k => satchellaw24_CompareTurned.f k a b) (· = true) := by
    unfold satchellaw24_CompareTurned.f satchellaw24_lives.f
    rw [changes_f ha hb hza hzb, changes_f hb ha hzb hza, e2]
    simp only [Option.bind_some]
    refine Ev.ite (fun _ => ?_) (fun hh => absurd trivial hh)
    refine Ev.ite (fun _ => ?_) (fun hh => absurd (by simp) hh)
    exact l0_ev _ (by omega) hc.rise (chg_vals hc) (changesS a b).length 0 (by omega)
  obtain ⟨K, hK⟩ := h
  obtain ⟨v, e, rfl⟩ := hK K (Nat.le_refl _)
  exact ⟨K, e⟩
end Go.Proofs.YtcjahipcfcghlaaGreat.TurnedLaw
