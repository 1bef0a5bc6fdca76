-- WRITTEN BY wip/xprint.py, a program of the proving session round the kit's print.py; Lean checks it.
import Derived.Test.YtcjahipcfcghlaaGreatPCompareStepsx0
import Derived.Test.YtcjahipcfcghlaaGreatPCompareStepsx1
import Derived.Test.YtcjahipcfcghlaaGreatPCompareStepsx2
import Derived.Test.YtcjahipcfcghlaaGreatPCompareStepsx3
import Derived.Test.YtcjahipcfcghlaaGreatPCompareStepsx4
import Derived.Test.YtcjahipcfcghlaaGreatPCompareStepsx5
namespace Go.Proofs.YtcjahipcfcghlaaGreat.PCompareSteps
open Go.Proofs.YtcjahipcfcghlaaGreatX
open Go.RowKit Go.Proofs.YtcjahipcfcghlaaGreatW.PrintWords Go.Proofs.YtcjahipcfcghlaaGreatW.PrintLast Go.Proofs.YtcjahipcfcghlaaGreatW.PrintMore
attribute [local go_sem] str_leq str_gtr max2_int min2_int max_two min_two max_three min_three max_four min_four   -- for this text's walks alone
set_option linter.unusedVariables false
set_option linter.unusedSimpArgs false

end Go.Proofs.YtcjahipcfcghlaaGreat.PCompareSteps
