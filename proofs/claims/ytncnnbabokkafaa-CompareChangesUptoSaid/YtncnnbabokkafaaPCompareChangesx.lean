-- WRITTEN BY wip/xprint.py, a program of the proving session round the kit's print.py; Lean checks it.
import Derived.Test.YtncnnbabokkafaaPCompareChangesx0
import Derived.Test.YtncnnbabokkafaaPCompareChangesx1
import Derived.Test.YtncnnbabokkafaaPCompareChangesx2
import Derived.Test.YtncnnbabokkafaaPCompareChangesx3
import Derived.Test.YtncnnbabokkafaaPCompareChangesx4
import Derived.Test.YtncnnbabokkafaaPCompareChangesx5
import Derived.Test.YtncnnbabokkafaaPCompareChangesx6
import Derived.Test.YtncnnbabokkafaaPCompareChangesx7
import Derived.Test.YtncnnbabokkafaaPCompareChangesx8
import Derived.Test.YtncnnbabokkafaaPCompareChangesx9
import Derived.Test.YtncnnbabokkafaaPCompareChangesx10
import Derived.Test.YtncnnbabokkafaaPCompareChangesx11
import Derived.Test.YtncnnbabokkafaaPCompareChangesx12
import Derived.Test.YtncnnbabokkafaaPCompareChangesx13
namespace Go.Proofs.Ytncnnbabokkafaa.PCompareChanges
open Go.Proofs.YtncnnbabokkafaaX
open Go.RowKit Go.Proofs.YtncnnbabokkafaaW.PrintWords Go.Proofs.YtncnnbabokkafaaW.PrintLast Go.Proofs.YtncnnbabokkafaaW.PrintMore
attribute [local go_sem] str_leq str_gtr max2_int min2_int max_two min_two max_three min_three max_four min_four   -- for this text's walks alone
set_option linter.unusedVariables false
set_option linter.unusedSimpArgs false

end Go.Proofs.Ytncnnbabokkafaa.PCompareChanges
