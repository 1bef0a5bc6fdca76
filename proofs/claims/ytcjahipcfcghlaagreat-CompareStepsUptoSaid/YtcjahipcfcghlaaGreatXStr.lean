/- Words of our own: '<=' and '>' of strings as the print says them. -/
import Derived.Test.YtcjahipcfcghlaaGreatProg
import Derived.Laws.Strings
import Derived.Sort.Walk0
namespace Go.Proofs.YtcjahipcfcghlaaGreatX
theorem str_leq (t : TypeId) (a b : ByteArray) : binOp .leq t (.string a) (.string b) = pure (.bool (!Op.bytesLess b.toList a.toList)) := by
  have h : (Op.bytesLess a.toList b.toList || a.toList == b.toList) = !Op.bytesLess b.toList a.toList := by
    rw [bytesLess_eq, bytesLess_eq]
    generalize a.toList = x
    generalize b.toList = y
    by_cases h1 : x < y
    · rw [decide_eq_true h1, decide_eq_false (fun h2 => List.lt_irrefl _ (List.lt_trans h1 h2))]; rfl
    · by_cases h2 : y < x
      · have h3 : (x == y) = false := by
          apply beq_eq_false_iff_ne.2
          rintro rfl
          exact List.lt_irrefl _ h2
        rw [decide_eq_false h1, decide_eq_true h2, h3]; rfl
      · have h3 : x = y := List.le_antisymm (List.not_lt.1 h2) (List.not_lt.1 h1)
        subst h3
        rw [decide_eq_false h1]
        simp
  rw [← h]
  simp [binOp, Op.stringOp]
theorem str_gtr (t : TypeId) (a b : ByteArray) : binOp .gtr t (.string a) (.string b) = pure (.bool (Op.bytesLess b.toList a.toList)) := by
  have h : (!(Op.bytesLess a.toList b.toList || a.toList == b.toList)) = Op.bytesLess b.toList a.toList := by
    rw [bytesLess_eq, bytesLess_eq]
    generalize a.toList = x
    generalize b.toList = y
    by_cases h1 : x < y
    · rw [decide_eq_true h1, decide_eq_false (fun h2 => List.lt_irrefl _ (List.lt_trans h1 h2))]; rfl
    · by_cases h2 : y < x
      · have h3 : (x == y) = false := by
          apply beq_eq_false_iff_ne.2
          rintro rfl
          exact List.lt_irrefl _ h2
        rw [decide_eq_false h1, decide_eq_true h2, h3]; rfl
      · have h3 : x = y := List.le_antisymm (List.not_lt.1 h2) (List.not_lt.1 h1)
        subst h3
        rw [decide_eq_false h1]
        simp
  rw [← h]
  simp [binOp, Op.stringOp]
end Go.Proofs.YtcjahipcfcghlaaGreatX
