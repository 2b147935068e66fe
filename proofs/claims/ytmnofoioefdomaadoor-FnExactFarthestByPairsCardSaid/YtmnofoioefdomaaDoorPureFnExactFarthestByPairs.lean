/- For all arguments the law FnExactFarthestByPairs answers true: the pure statement is proved in the text that is imported here. -/
import Derived.Test.YtmnofoioefdomaaDoorPureFarG
namespace Go.Proofs.YtmnofoioefdomaaDoor.Pure
end Go.Proofs.YtmnofoioefdomaaDoor.Pure
