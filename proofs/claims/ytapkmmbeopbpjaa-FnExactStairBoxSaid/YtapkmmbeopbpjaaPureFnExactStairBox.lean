/- For all arguments the law FnExactStairBox answers true: the pure statement is proved in the text that is imported here. -/
import Derived.Test.YtapkmmbeopbpjaaPureBoxS
namespace Go.Proofs.Ytapkmmbeopbpjaa.Pure
end Go.Proofs.Ytapkmmbeopbpjaa.Pure
