/- For all arguments the law FnExactCountSlideWays answers true: the pure statement is proved in the text that is imported here. -/
import Derived.Test.YtejkogiiocbmfaaPureCountSlideWaysC
namespace Go.Proofs.Ytejkogiiocbmfaa.Pure
end Go.Proofs.Ytejkogiiocbmfaa.Pure
