-- WRITTEN BY wip/xprint.py, a program of the proving session round the kit's print.py; Lean checks it.
import Derived.Test.YtncnnbabokkafaaPCompareChangesx0
namespace Go.Proofs.Ytncnnbabokkafaa.PCompareChanges
open Go.Proofs.YtncnnbabokkafaaX
open Go.RowKit Go.Proofs.YtncnnbabokkafaaW.PrintWords Go.Proofs.YtncnnbabokkafaaW.PrintLast Go.Proofs.YtncnnbabokkafaaW.PrintMore
attribute [local go_sem] str_leq str_gtr max2_int min2_int max_two min_two max_three min_three max_four min_four   -- for this text's walks alone
set_option linter.unusedVariables false
set_option linter.unusedSimpArgs false

theorem eqA35 (d : Nat) (w : World) (x0 y0 : ByteArray) (x1 y1 : Int) :
    (Op.equalIn (d + 2) 35 (.agg #[.string x0, .int .i64 x1]) (.agg #[.string y0, .int .i64 y1])).run Try.prog w = .ok (x0.toList == y0.toList && (x1 == y1)) w := by
  refine eqA_of Try.underlying35 (by kernel_rfl) ?_
  refine eqf_cons (by rfl) (by go_simp; rfl) (by go_simp; rfl) (by go_simp) ?_
  exact eqf_last (by rfl) (by go_simp; rfl) (by go_simp; rfl) (by go_simp)
end Go.Proofs.Ytncnnbabokkafaa.PCompareChanges
