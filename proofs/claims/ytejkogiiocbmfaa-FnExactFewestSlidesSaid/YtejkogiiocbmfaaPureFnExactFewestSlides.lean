/- For all arguments the law FnExactFewestSlides answers true: the pure statement is proved in the text that is imported here. -/
import Derived.Test.YtejkogiiocbmfaaPureFewestSlidesC
namespace Go.Proofs.Ytejkogiiocbmfaa.Pure
end Go.Proofs.Ytejkogiiocbmfaa.Pure
