/- For all arguments the law FnExactRingBox answers true: the pure statement is proved in the text that is imported here. -/
import Derived.Test.YtapkmmbeopbpjaaPureBoxR
namespace Go.Proofs.Ytapkmmbeopbpjaa.Pure
end Go.Proofs.Ytapkmmbeopbpjaa.Pure
