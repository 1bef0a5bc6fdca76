-- WRITTEN BY wip/xprint.py, a program of the proving session round the kit's print.py; Lean checks it.
import Derived.Test.YtpaghdfnhlpngaaDoorPPaxMergedx0
import Derived.Test.YtpaghdfnhlpngaaDoorPPaxMergedx1
import Derived.Test.YtpaghdfnhlpngaaDoorPPaxMergedx2
import Derived.Test.YtpaghdfnhlpngaaDoorPPaxMergedx3
import Derived.Test.YtpaghdfnhlpngaaDoorPPaxMergedx4
import Derived.Test.YtpaghdfnhlpngaaDoorPPaxMergedx5
import Derived.Test.YtpaghdfnhlpngaaDoorPPaxMergedx6
import Derived.Test.YtpaghdfnhlpngaaDoorPPaxMergedx7
import Derived.Test.YtpaghdfnhlpngaaDoorPPaxMergedx8
import Derived.Test.YtpaghdfnhlpngaaDoorPPaxMergedx9
import Derived.Test.YtpaghdfnhlpngaaDoorPPaxMergedx10
import Derived.Test.YtpaghdfnhlpngaaDoorPPaxMergedx11
import Derived.Test.YtpaghdfnhlpngaaDoorPPaxMergedx12
import Derived.Test.YtpaghdfnhlpngaaDoorPPaxMergedx13
import Derived.Test.YtpaghdfnhlpngaaDoorPPaxMergedx14
import Derived.Test.YtpaghdfnhlpngaaDoorPPaxMergedx15
import Derived.Test.YtpaghdfnhlpngaaDoorPPaxMergedx16
import Derived.Test.YtpaghdfnhlpngaaDoorPPaxMergedx17
namespace Go.Proofs.YtpaghdfnhlpngaaDoor.PPaxMerged
open Go.Proofs.YtpaghdfnhlpngaaDoorX
open Go.RowKit Go.Proofs.YtpaghdfnhlpngaaDoorW.PrintWords Go.Proofs.YtpaghdfnhlpngaaDoorW.PrintLast Go.Proofs.YtpaghdfnhlpngaaDoorW.PrintMore
attribute [local go_sem] str_leq str_gtr max2_int min2_int max_two min_two max_three min_three max_four min_four   -- for this text's walks alone
set_option linter.unusedVariables false
set_option linter.unusedSimpArgs false

end Go.Proofs.YtpaghdfnhlpngaaDoor.PPaxMerged
