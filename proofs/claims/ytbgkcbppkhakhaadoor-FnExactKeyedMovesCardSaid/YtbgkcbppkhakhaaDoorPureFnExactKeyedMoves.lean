/- For all arguments the law FnExactKeyedMoves answers true: the pure statement is proved in the text that is imported here. -/
import Derived.Test.YtbgkcbppkhakhaaDoorPureKeyedMovesK
namespace Go.Proofs.YtbgkcbppkhakhaaDoor.Pure
end Go.Proofs.YtbgkcbppkhakhaaDoor.Pure
