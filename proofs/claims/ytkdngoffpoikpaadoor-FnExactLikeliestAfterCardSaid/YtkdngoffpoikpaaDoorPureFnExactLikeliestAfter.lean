/- For all arguments the law FnExactLikeliestAfter answers true: the pure statement is proved in the text that is imported here. -/
import Derived.Test.YtkdngoffpoikpaaDoorPureLikL
namespace Go.Proofs.YtkdngoffpoikpaaDoor.Pure
end Go.Proofs.YtkdngoffpoikpaaDoor.Pure
