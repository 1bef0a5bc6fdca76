/- The pure law of PaxTimes. -/
import Derived.Test.YtohgoaiimhhckaaDoorTmBack
namespace Go.Proofs.YtohgoaiimhhckaaDoor.Pure
open Go.RowKit Go.Proofs.YtohgoaiimhhckaaDoor.PPaxTimes Go.Proofs.YtohgoaiimhhckaaDoorW.PrintWords Go.Proofs.YtohgoaiimhhckaaDoorW.PrintLast Go.Proofs.YtohgoaiimhhckaaDoorW.PrintMore Go.Proofs.YtohgoaiimhhckaaDoor.NumBridge Go.Proofs.YtohgoaiimhhckaaDoor.TimeBridge Go.Proofs.YtohgoaiimhhckaaDoor.PutBridge Go.Proofs.YtohgoaiimhhckaaDoor.TimesBack
set_option linter.unusedVariables false

theorem lives_at : satchellaw14_lives.f 60 = some true := by decide +kernel
theorem lives_f (k : Nat) (hk : 60 ≤ k) : satchellaw14_lives.f k = some true := by
  obtain ⟨d, rfl⟩ := Nat.exists_eq_add_of_le hk
  induction d with
  | zero => exact lives_at
  | succ d ih => exact satchellaw14_lives.mono _ _ (ih (by omega))

theorem j3_f (l : List UInt8) (hl : l.length ≤ 140737488351232) (k : Nat) (hk : l.length + 100 ≤ k) : satchellaw14_PaxTimes.j3 k (mk l) = some true := by
  obtain ⟨k, rfl⟩ : ∃ j, k = j + 1 := ⟨k - 1, by omega⟩
  obtain ⟨r0, r1⟩ := time_range l
  rw [satchellaw14_PaxTimes.j3, pax_Time_f l hl k (by omega)]
  simp only [Option.bind_some]
  generalize TimeS l = t at *
  obtain ⟨x, y, h⟩ := t
  simp only at *
  by_cases hh : h = 0
  · obtain ⟨a1, a2, a3, a4, a5⟩ := r1 hh
    have e1 := pax_PutTime_f x y a1 a2 (by omega) (by omega) k (by omega)
    obtain ⟨p1, p2⟩ := put_ok x y a1 a2
    have e2 := pax_Time_f (putT x y).1.data.toList (by omega) k (by omega)
    rw [← mk_of, time_put x y a1 a2 a3 a4 a5] at e2
    rw [if_pos hh, e1]
    simp only [Option.bind_some]
    rw [e2]
    simp only [Option.bind_some]
    rw [if_pos (p1.2 ⟨a3, a4⟩)]
    simp
  · obtain ⟨a1, a2⟩ := r0 hh
    rw [if_neg hh, if_pos a1, a2]
    simp
theorem PaxTimes : satchellaw14_PaxTimes.Pure := by
  intro a0 a1 a2 h0 h1 h2
  have b0 : -9223372036854775808 ≤ a0 ∧ a0 ≤ 9223372036854775807 := by
    unfold Lit.wf at h0
    rw [Bool.and_eq_true, decide_eq_true_eq, decide_eq_true_eq] at h0
    exact h0
  have b1 : -2147483648 ≤ a1 ∧ a1 ≤ 2147483647 := by
    unfold Lit.wf at h1
    rw [Bool.and_eq_true, decide_eq_true_eq, decide_eq_true_eq] at h1
    exact h1
  clear h0 h1
  have hsz : a2.data.toList.length ≤ 140737488351232 := by rw [← Lib.size_eq]; exact h2
  refine ⟨a2.data.toList.length + 200, ?_⟩
  generalize hK : a2.data.toList.length + 200 = K
  have J3 : ∀ k, a2.data.toList.length + 100 ≤ k → satchellaw14_PaxTimes.j3 k a2 = some true := fun k hk => by
    have := j3_f a2.data.toList hsz k hk
    rwa [← mk_of] at this
  obtain ⟨p1, p2⟩ := put_ok a0 a1 b0.1 b0.2
  have J2 : ∀ k (b : Bool), a2.data.toList.length + 110 ≤ k → (b = true → (0 ≤ a1 ∧ a1 < 1000000000 ∧ ¬ (a0 = -9223372036854775808 ∧ a1 = 0))) → satchellaw14_PaxTimes.j2 k a0 a1 a2 (putT a0 a1).1 b = some true := by
    intro k b hk hb
    obtain ⟨k, rfl⟩ : ∃ j, k = j + 1 := ⟨k - 1, by omega⟩
    rw [satchellaw14_PaxTimes.j2]
    cases b with
    | false => rw [if_neg (by decide)]; exact J3 k (by omega)
    | true =>
      obtain ⟨c1, c2, c3⟩ := hb rfl
      have e2 := pax_Time_f (putT a0 a1).1.data.toList (by omega) k (by omega)
      rw [← mk_of, time_put a0 a1 b0.1 b0.2 c1 c2 c3] at e2
      rw [if_pos rfl, e2]
      simp only [Option.bind_some, if_true]
      exact J3 k (by omega)
  have J1 : ∀ k, a2.data.toList.length + 120 ≤ k → satchellaw14_PaxTimes.j1 k a0 a1 a2 (putT a0 a1).1 (putT a0 a1).2 false = some true := by
    intro k hk
    obtain ⟨k, rfl⟩ : ∃ j, k = j + 1 := ⟨k - 1, by omega⟩
    rw [satchellaw14_PaxTimes.j1, if_neg (by decide)]
    by_cases hp : (putT a0 a1).2 = 0
    · have hv := p1.1 hp
      rw [if_pos hp]
      by_cases hm : a0 > -9223372036854775808
      · rw [if_pos hm]
        exact J2 k true (by omega) (fun _ => ⟨hv.1, hv.2, fun h => by omega⟩)
      · rw [if_neg hm]
        exact J2 k _ (by omega) (fun h => ⟨hv.1, hv.2, fun e => by have := of_decide_eq_true h; omega⟩)
    · rw [if_neg hp]
      exact J2 k false (by omega) (fun h => by cases h)
  have J0 : ∀ k, a2.data.toList.length + 130 ≤ k → satchellaw14_PaxTimes.j0 k a0 a1 a2 false = some true := by
    intro k hk
    obtain ⟨k, rfl⟩ : ∃ j, k = j + 1 := ⟨k - 1, by omega⟩
    rw [satchellaw14_PaxTimes.j0, if_neg (by decide), pax_PutTime_f a0 a1 b0.1 b0.2 b1.1 b1.2 k (by omega)]
    simp only [Option.bind_some]
    by_cases hn : a1 ≥ 0
    · rw [if_pos hn]
      have : (((putT a0 a1).2 == 0) != decide (a1 ≤ 999999999)) = false := by
        rw [bne_eq_false_iff_eq]
        by_cases hv : a1 < 1000000000
        · rw [beq_iff_eq.2 (p1.2 ⟨hn, hv⟩), decide_eq_true (by omega)]
        · rw [beq_eq_false_iff_ne.2 (fun e => hv (p1.1 e).2), decide_eq_false (by omega)]
      rw [this]
      exact J1 k (by omega)
    · rw [if_neg hn]
      have : (((putT a0 a1).2 == 0) != false) = false := by
        rw [bne_eq_false_iff_eq]
        exact beq_eq_false_iff_ne.2 (fun e => hn (p1.1 e).1)
      rw [this]
      exact J1 k (by omega)
  have hput := pax_PutNumber_f a0 b0.1 b0.2
  unfold satchellaw14_PaxTimes.f
  rw [lives_f K (by omega), hput]
  simp only [Option.bind_some, if_true]
  by_cases hn : a0 ≥ 0
  · have e1 : putS a0 = (mk (Lib.decDigits a0.toNat), 0) := by unfold putS; rw [if_neg (by omega)]
    have hl := len20 (show a0.toNat ≤ 9223372036854775808 by omega)
    have e2 := pax_Number_f (mk (Lib.decDigits a0.toNat)) (by rw [mk_size]; omega) K (by rw [mk_size]; omega)
    rw [mk_l, NumS_dec _ (by omega)] at e2
    rw [e1]
    simp only
    rw [e2]
    simp only [Option.bind_some]
    rw [if_pos hn, if_pos trivial, if_pos trivial, if_pos (by omega), if_neg (by omega)]
    exact J0 K (by omega)
  · have e1 : putS a0 = (⟨#[]⟩, 1) := by unfold putS; rw [if_pos (by omega)]
    have e2 := pax_Number_f (⟨#[]⟩ : ByteArray) (by show 0 ≤ _; omega) K (by show 0 + 3 ≤ _; omega)
    rw [e1]
    simp only
    rw [e2]
    simp only [Option.bind_some]
    rw [if_neg hn, if_pos (by omega)]
    exact J0 K (by omega)
end Go.Proofs.YtohgoaiimhhckaaDoor.Pure
