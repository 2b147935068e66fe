/- For all arguments the law FnPairsMove answers true: the pure statement is proved in the text that is imported here. -/
import Derived.Test.YtppbohghongfmaaDoorPureMoveN
namespace Go.Proofs.YtppbohghongfmaaDoor.Pure
end Go.Proofs.YtppbohghongfmaaDoor.Pure
