-- written by a program of this session's (wip/tools), over the kit's print
import Derived.Test.YtclidnndehbhjaaDoorPAx0
import Derived.Test.YtclidnndehbhjaaDoorPAx1
import Derived.Test.YtclidnndehbhjaaDoorPAx2
import Derived.Test.YtclidnndehbhjaaDoorPAx3
import Derived.Test.YtclidnndehbhjaaDoorPAx4
import Derived.Test.YtclidnndehbhjaaDoorPAx5
import Derived.Test.YtclidnndehbhjaaDoorPAx6
import Derived.Test.YtclidnndehbhjaaDoorPAx7
import Derived.Test.YtclidnndehbhjaaDoorPAx8
namespace Go.Proofs.YtclidnndehbhjaaDoor.PA
open Go.RowKit Go.Proofs.YtclidnndehbhjaaDoorW.PrintWords Go.Proofs.YtclidnndehbhjaaDoorW.PrintLast Go.Proofs.YtclidnndehbhjaaDoorW.PrintMore
attribute [local go_sem] max2_int min2_int max_two min_two max_three min_three max_four min_four   -- for this text's walks alone
set_option linter.unusedVariables false
set_option linter.unusedSimpArgs false

end Go.Proofs.YtclidnndehbhjaaDoor.PA
