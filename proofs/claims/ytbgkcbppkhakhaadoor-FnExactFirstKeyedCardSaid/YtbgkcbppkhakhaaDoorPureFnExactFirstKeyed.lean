/- For all arguments the law FnExactFirstKeyed answers true: the pure statement is proved in the text that is imported here. -/
import Derived.Test.YtbgkcbppkhakhaaDoorPureFirstKeyedK
namespace Go.Proofs.YtbgkcbppkhakhaaDoor.Pure
end Go.Proofs.YtbgkcbppkhakhaaDoor.Pure
