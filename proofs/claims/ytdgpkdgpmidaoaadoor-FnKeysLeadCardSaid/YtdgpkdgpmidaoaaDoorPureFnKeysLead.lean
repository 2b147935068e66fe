/- For all arguments the law FnKeysLead answers true: the pure statement is proved in the text that is imported here. -/
import Derived.Test.YtdgpkdgpmidaoaaDoorPureLeadK
namespace Go.Proofs.YtdgpkdgpmidaoaaDoor.Pure
end Go.Proofs.YtdgpkdgpmidaoaaDoor.Pure
