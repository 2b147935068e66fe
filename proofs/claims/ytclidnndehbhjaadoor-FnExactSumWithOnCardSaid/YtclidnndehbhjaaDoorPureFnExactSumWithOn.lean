/- For all arguments the law FnExactSumWithOn answers true: the pure statement is proved in the text that is imported here. -/
import Derived.Test.YtclidnndehbhjaaDoorPureWithB
namespace Go.Proofs.YtclidnndehbhjaaDoor.Pure
end Go.Proofs.YtclidnndehbhjaaDoor.Pure
