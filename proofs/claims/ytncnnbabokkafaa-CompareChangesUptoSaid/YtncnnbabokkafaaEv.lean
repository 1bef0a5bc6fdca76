/- What is computed with enough fuel;  -/
import Derived.Test.YtncnnbabokkafaaPCompareChangesx
import Derived.Lib.SplitLaws
import Derived.Lib.IndexLaws
import Derived.Lib.IndexBytes
namespace Go.Proofs.Ytncnnbabokkafaa.ChangesLaw
open Go.RowKit Go.Proofs.YtncnnbabokkafaaW.PrintWords Go.Proofs.YtncnnbabokkafaaW.PrintLast
set_option linter.unusedVariables false
set_option linter.unusedSimpArgs false
section
variable {α β : Type}
/-- With enough fuel a value of which P is so. -/
def Ev (g : Nat → Option α) (P : α → Prop) : Prop := ∃ K, ∀ k, K ≤ k → ∃ v, g k = some v ∧ P v
theorem Ev.const {v : α} {P : α → Prop} (h : P v) : Ev (fun _ => some v) P := ⟨0, fun _ _ => ⟨v, rfl, h⟩⟩
theorem Ev.bind {f : Nat → Option α} {g : Nat → α → Option β} {Q : β → Prop} {a : α} (hf : Ev f (· = a)) (hg : Ev (fun k => g k a) Q) : Ev (fun k => (f k).bind (g k)) Q := by
  obtain ⟨K1, h1⟩ := hf
  obtain ⟨K2, h2⟩ := hg
  refine ⟨max K1 K2, fun k hk => ?_⟩
  obtain ⟨v, e, rfl⟩ := h1 k (by omega)
  show ∃ u, (f k).bind (g k) = some u ∧ Q u
  rw [e]
  exact h2 k (by omega)
theorem Ev.bindP {f : Nat → Option α} {g : Nat → α → Option β} {P : α → Prop} {Q : β → Prop} (hf : Ev f P) (hg : ∃ K, ∀ k, K ≤ k → ∀ v, P v → ∃ r, g k v = some r ∧ Q r) : Ev (fun k => (f k).bind (g k)) Q := by
  obtain ⟨K1, h1⟩ := hf
  obtain ⟨K2, h2⟩ := hg
  refine ⟨max K1 K2, fun k hk => ?_⟩
  obtain ⟨v, e, hp⟩ := h1 k (by omega)
  show ∃ u, (f k).bind (g k) = some u ∧ Q u
  rw [e]
  exact h2 k (by omega) v hp
theorem Ev.succ {g : Nat → Option α} {P : α → Prop} (h : Ev (fun k => g (k + 1)) P) : Ev g P := by
  obtain ⟨K, h⟩ := h
  refine ⟨K + 1, fun k hk => ?_⟩
  obtain ⟨m, rfl⟩ : ∃ m, k = m + 1 := ⟨k - 1, by omega⟩
  exact h m (by omega)
theorem Ev.ite {c : Prop} [Decidable c] {f g : Nat → Option α} {P : α → Prop} (h1 : c → Ev f P) (h2 : ¬ c → Ev g P) : Ev (fun k => if c then f k else g k) P := by
  by_cases h : c
  · simpa [h] using h1 h
  · simpa [h] using h2 h
theorem Ev.imp {f : Nat → Option α} {P Q : α → Prop} (h : Ev f P) (hi : ∀ v, P v → Q v) : Ev f Q := by
  obtain ⟨K, h⟩ := h
  exact ⟨K, fun k hk => by obtain ⟨v, e, hp⟩ := h k hk; exact ⟨v, e, hi v hp⟩⟩
theorem Ev.at {f : Nat → Option α} {v : α} (K : Nat) (h : ∀ k, K ≤ k → f k = some v) : Ev f (· = v) := ⟨K, fun k hk => ⟨v, h k hk, rfl⟩⟩
end
theorem w64 {n : Int} (h0 : -9223372036854775808 ≤ n) (h1 : n ≤ 9223372036854775807) : wrap64 n = n := by unfold wrap64; omega
theorem w_succ {i : Nat} (h : i ≤ 4611686018427387904) : wrap64 ((i : Int) + 1) = ((i + 1 : Nat) : Int) := (w64 (by omega) (by omega)).trans (by omega)

end Go.Proofs.Ytncnnbabokkafaa.ChangesLaw
