/- For all arguments the law FnExactSlideBolt answers true: the pure statement is proved in the text that is imported here. -/
import Derived.Test.YtejkogiiocbmfaaPureSlide
namespace Go.Proofs.Ytejkogiiocbmfaa.Pure
end Go.Proofs.Ytejkogiiocbmfaa.Pure
