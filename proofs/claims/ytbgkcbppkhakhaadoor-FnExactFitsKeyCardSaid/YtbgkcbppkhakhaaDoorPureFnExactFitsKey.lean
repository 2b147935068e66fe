/- For all arguments the law FnExactFitsKey answers true: the pure statement is proved in the text that is imported here. -/
import Derived.Test.YtbgkcbppkhakhaaDoorPureFitsKeyK
namespace Go.Proofs.YtbgkcbppkhakhaaDoor.Pure
end Go.Proofs.YtbgkcbppkhakhaaDoor.Pure
