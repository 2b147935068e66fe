/- For all arguments the law FnExactMeanFrom answers true: the pure statement is proved in the text that is imported here. -/
import Derived.Test.YtclidnndehbhjaaDoorPureMean
namespace Go.Proofs.YtclidnndehbhjaaDoor.Pure
end Go.Proofs.YtclidnndehbhjaaDoor.Pure
