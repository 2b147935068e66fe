/- For all arguments the law FnExactTurnKeys answers true: the pure statement is proved in the text that is imported here. -/
import Derived.Test.YthjkjlfobgegpaaDoorPureTurnKeysK
namespace Go.Proofs.YthjkjlfobgegpaaDoor.Pure
end Go.Proofs.YthjkjlfobgegpaaDoor.Pure
