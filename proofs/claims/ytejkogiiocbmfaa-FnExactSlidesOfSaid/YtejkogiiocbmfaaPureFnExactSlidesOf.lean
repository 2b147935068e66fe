/- For all arguments the law FnExactSlidesOf answers true: the pure statement is proved in the text that is imported here. -/
import Derived.Test.YtejkogiiocbmfaaPureSlides
namespace Go.Proofs.Ytejkogiiocbmfaa.Pure
end Go.Proofs.Ytejkogiiocbmfaa.Pure
