/- Records one behind the other: plain lists. -/
import Derived.Test.YtohgoaiimhhckaaDoorPaxSpec
namespace Go.Proofs.YtohgoaiimhhckaaDoor.PaxSpec
set_option linter.unusedVariables false

theorem lenS_app : ∀ (a b : List Int) (n : Int) (i : Nat) (m : Int) (j : Nat), lenS a n i = .ok m j → lenS (a ++ b) n i = .ok m j
  | [], b, n, i, m, j, h => by simp [lenS] at h
  | c :: r, b, n, i, m, j, h => by
    rw [List.cons_append]
    unfold lenS at h ⊢
    split at h
    · rename_i hc
      rw [if_pos hc]; exact h
    · rename_i hc
      rw [if_neg hc]
      split at h
      · cases h
      · rename_i hd
        rw [if_neg hd]
        exact lenS_app r b _ _ m j h
theorem recS_app {a b : List Int} {k v : List Int} {n : Nat} (h : recS a = .ok k v n) : recS (a ++ b) = .ok k v n := by
  have hn := recS_ok h
  unfold recS at h ⊢
  cases hl : lenS a 0 0 with
  | short => rw [hl] at h; cases h
  | bad => rw [hl] at h; cases h
  | ok m i =>
    rw [hl] at h
    rw [lenS_app a b 0 0 m i hl]
    unfold recOf at h ⊢
    simp only at h ⊢
    by_cases c1 : m < i + 4
    · rw [if_pos c1] at h; cases h
    · rw [if_neg c1] at h ⊢
      by_cases c2 : (a.length : Int) < m
      · rw [if_pos c2] at h; cases h
      · rw [if_neg c2] at h
        rw [if_neg (by rw [List.length_append]; omega)]
        have hm : (m - 1).toNat < a.length := by omega
        have e1 : (a ++ b).getD (m - 1).toNat 0 = a.getD (m - 1).toNat 0 := by
          rw [List.getD_eq_getElem?_getD, List.getD_eq_getElem?_getD, List.getElem?_append_left hm]
        have e2 : bodyS (a ++ b) m i = bodyS a m i := by
          unfold bodyS
          rw [List.take_append_of_le_length (by omega)]
        rw [e1, e2]
        exact h
def shiftP (q : Nat) : PR → PR
  | .fault a w => .fault (q + a) w
  | .ok l => .ok l
theorem parseS_shift : ∀ (f : Nat) (b : List Int) (q p : Nat), parseS f b (q + p) = shiftP q (parseS f b p)
  | 0, b, q, p => rfl
  | f + 1, [], q, p => rfl
  | f + 1, x :: b, q, p => by
    unfold parseS
    simp only
    cases hR : recS (x :: b) with
    | fault a w => simp [shiftP, Nat.add_assoc]
    | ok k v n =>
      simp only
      rw [show q + p + n = q + (p + n) from by omega, parseS_shift f _ q (p + n)]
      cases parseS f ((x :: b).drop n) (p + n) with
      | fault a w => rfl
      | ok l => rfl
theorem parseS_fuel : ∀ (f g : Nat) (b : List Int) (p : Nat), b.length < f → b.length < g → parseS f b p = parseS g b p
  | 0, g, b, p, h, _ => by omega
  | f + 1, 0, b, p, _, h => by omega
  | f + 1, g + 1, [], p, _, _ => rfl
  | f + 1, g + 1, x :: b, p, hf, hg => by
    unfold parseS
    simp only
    cases hR : recS (x :: b) with
    | fault a w => rfl
    | ok k v n =>
      have hn := recS_ok hR
      have hd : ((x :: b).drop n).length < (x :: b).length := by rw [List.length_drop]; simp only [List.length_cons] at *; omega
      simp only
      rw [parseS_fuel f g _ _ (by simp only [List.length_cons] at *; omega) (by simp only [List.length_cons] at *; omega)]
theorem parseS_cons (f : Nat) (x : Int) (b : List Int) (p : Nat) : parseS (f + 1) (x :: b) p = match recS (x :: b) with
      | .fault a w => .fault (p + a) w
      | .ok k v n => match parseS f ((x :: b).drop n) (p + n) with
        | .fault a w => .fault a w
        | .ok l => .ok ((k, v) :: l) := rfl
def joinP (l : List (List Int × List Int)) : PR → PR
  | .fault a w => .fault a w
  | .ok m => .ok (l ++ m)
theorem parseS_app : ∀ (f : Nat) (a : List Int) (p : Nat) (la : List (List Int × List Int)), parseS f a p = .ok la → a.length < f → ∀ (b : List Int) (g h : Nat), a.length + b.length < g → b.length < h →
    parseS g (a ++ b) p = joinP la (parseS h b (p + a.length))
  | 0, a, p, la, _, hf => by omega
  | f + 1, [], p, la, hp, hf => by
    intro b g h hg hh
    simp [parseS] at hp
    subst hp
    rw [List.nil_append, List.length_nil, Nat.add_zero, parseS_fuel g h b p (by simpa using hg) hh]
    cases parseS h b p <;> rfl
  | f + 1, x :: a, p, la, hp, hf => by
    intro b g h hg hh
    obtain ⟨g, rfl⟩ : ∃ j, g = j + 1 := ⟨g - 1, by omega⟩
    rw [parseS_cons] at hp
    rw [List.cons_append, parseS_cons, ← List.cons_append]
    cases hR : recS (x :: a) with
    | fault y w => rw [hR] at hp; cases hp
    | ok k v n =>
      rw [hR] at hp
      rw [recS_app hR]
      have hn := recS_ok hR
      simp only at hp ⊢
      cases hq : parseS f ((x :: a).drop n) (p + n) with
      | fault y w => rw [hq] at hp; cases hp
      | ok ll =>
        rw [hq] at hp
        simp only [PR.ok.injEq] at hp
        subst hp
        have hdl : ((x :: a).drop n).length = (x :: a).length - n := List.length_drop
        rw [List.drop_append_of_le_length (by omega)]
        rw [parseS_app f _ (p + n) ll hq (by simp only [List.length_cons] at *; omega) b g h (by simp only [List.length_cons] at *; omega) hh]
        rw [show p + n + ((x :: a).drop n).length = p + (x :: a).length from by rw [hdl]; omega]
        cases parseS h b (p + (x :: a).length) with
        | fault y w => rfl
        | ok m => rfl
end Go.Proofs.YtohgoaiimhhckaaDoor.PaxSpec
