/- For all arguments the law FnExactMoveKeyed answers true: the pure statement is proved in the text that is imported here. -/
import Derived.Test.YtbgkcbppkhakhaaDoorPureMoveKeyedK
namespace Go.Proofs.YtbgkcbppkhakhaaDoor.Pure
end Go.Proofs.YtbgkcbppkhakhaaDoor.Pure
