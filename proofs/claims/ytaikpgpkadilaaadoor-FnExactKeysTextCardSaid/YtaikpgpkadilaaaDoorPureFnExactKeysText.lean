/- For all arguments the law FnExactKeysText answers true: the pure statement is proved in the text that is imported here. -/
import Derived.Test.YtaikpgpkadilaaaDoorPureKeysTextK
namespace Go.Proofs.YtaikpgpkadilaaaDoor.Pure
end Go.Proofs.YtaikpgpkadilaaaDoor.Pure
