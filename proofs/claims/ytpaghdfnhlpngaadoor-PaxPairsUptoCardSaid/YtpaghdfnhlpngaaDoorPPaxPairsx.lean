-- WRITTEN BY wip/xprint.py, a program of the proving session round the kit's print.py; Lean checks it.
import Derived.Test.YtpaghdfnhlpngaaDoorPPaxPairsx0
import Derived.Test.YtpaghdfnhlpngaaDoorPPaxPairsx1
import Derived.Test.YtpaghdfnhlpngaaDoorPPaxPairsx2
import Derived.Test.YtpaghdfnhlpngaaDoorPPaxPairsx3
import Derived.Test.YtpaghdfnhlpngaaDoorPPaxPairsx4
import Derived.Test.YtpaghdfnhlpngaaDoorPPaxPairsx5
import Derived.Test.YtpaghdfnhlpngaaDoorPPaxPairsx6
import Derived.Test.YtpaghdfnhlpngaaDoorPPaxPairsx7
import Derived.Test.YtpaghdfnhlpngaaDoorPPaxPairsx8
import Derived.Test.YtpaghdfnhlpngaaDoorPPaxPairsx9
import Derived.Test.YtpaghdfnhlpngaaDoorPPaxPairsx10
import Derived.Test.YtpaghdfnhlpngaaDoorPPaxPairsx11
import Derived.Test.YtpaghdfnhlpngaaDoorPPaxPairsx12
import Derived.Test.YtpaghdfnhlpngaaDoorPPaxPairsx13
import Derived.Test.YtpaghdfnhlpngaaDoorPPaxPairsx14
import Derived.Test.YtpaghdfnhlpngaaDoorPPaxPairsx15
import Derived.Test.YtpaghdfnhlpngaaDoorPPaxPairsx16
import Derived.Test.YtpaghdfnhlpngaaDoorPPaxPairsx17
import Derived.Test.YtpaghdfnhlpngaaDoorPPaxPairsx18
namespace Go.Proofs.YtpaghdfnhlpngaaDoor.PPaxPairs
open Go.Proofs.YtpaghdfnhlpngaaDoorX
open Go.RowKit Go.Proofs.YtpaghdfnhlpngaaDoorW.PrintWords Go.Proofs.YtpaghdfnhlpngaaDoorW.PrintLast Go.Proofs.YtpaghdfnhlpngaaDoorW.PrintMore
attribute [local go_sem] str_leq str_gtr max2_int min2_int max_two min_two max_three min_three max_four min_four   -- for this text's walks alone
set_option linter.unusedVariables false
set_option linter.unusedSimpArgs false

end Go.Proofs.YtpaghdfnhlpngaaDoor.PPaxPairs
