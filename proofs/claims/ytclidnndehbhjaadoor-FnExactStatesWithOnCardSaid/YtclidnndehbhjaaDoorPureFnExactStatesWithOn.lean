/- For all arguments the law FnExactStatesWithOn answers true: the pure statement is proved in the text that is imported here. -/
import Derived.Test.YtclidnndehbhjaaDoorPureStatesB
namespace Go.Proofs.YtclidnndehbhjaaDoor.Pure
end Go.Proofs.YtclidnndehbhjaaDoor.Pure
