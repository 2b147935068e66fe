/- For all arguments the law FnExactFarthestSlid answers true: the pure statement is proved in the text that is imported here. -/
import Derived.Test.YtejkogiiocbmfaaPureFarthestSlidC
namespace Go.Proofs.Ytejkogiiocbmfaa.Pure
end Go.Proofs.Ytejkogiiocbmfaa.Pure
