/- For all arguments the law FnExactChanceAfter answers true: the pure statement is proved in the text that is imported here. -/
import Derived.Test.YtclidnndehbhjaaDoorPureWalks
namespace Go.Proofs.YtclidnndehbhjaaDoor.Pure
end Go.Proofs.YtclidnndehbhjaaDoor.Pure
