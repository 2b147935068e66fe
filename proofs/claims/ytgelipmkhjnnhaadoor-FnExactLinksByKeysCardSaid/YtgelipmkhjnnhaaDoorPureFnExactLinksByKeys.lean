/- For all arguments the law FnExactLinksByKeys answers true: the pure statement is proved in the text that is imported here. -/
import Derived.Test.YtgelipmkhjnnhaaDoorPureLinksByKeysK
namespace Go.Proofs.YtgelipmkhjnnhaaDoor.Pure
end Go.Proofs.YtgelipmkhjnnhaaDoor.Pure
