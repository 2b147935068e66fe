/- For all arguments the law FnExactCountReachedBy answers true: the pure statement is proved in the text that is imported here. -/
import Derived.Test.YtbgkcbppkhakhaaDoorPureCountReachedByK
namespace Go.Proofs.YtbgkcbppkhakhaaDoor.Pure
end Go.Proofs.YtbgkcbppkhakhaaDoor.Pure
