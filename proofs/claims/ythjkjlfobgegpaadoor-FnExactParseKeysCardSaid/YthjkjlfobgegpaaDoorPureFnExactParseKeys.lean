/- For all arguments the law FnExactParseKeys answers true: the pure statement is proved in the text that is imported here. -/
import Derived.Test.YthjkjlfobgegpaaDoorPureParseKeysK
namespace Go.Proofs.YthjkjlfobgegpaaDoor.Pure
end Go.Proofs.YthjkjlfobgegpaaDoor.Pure
