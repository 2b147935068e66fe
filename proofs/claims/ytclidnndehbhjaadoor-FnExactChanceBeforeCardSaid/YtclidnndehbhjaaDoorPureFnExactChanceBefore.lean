/- For all arguments the law FnExactChanceBefore answers true: the pure statement is proved in the text that is imported here. -/
import Derived.Test.YtclidnndehbhjaaDoorPureBefore
namespace Go.Proofs.YtclidnndehbhjaaDoor.Pure
end Go.Proofs.YtclidnndehbhjaaDoor.Pure
