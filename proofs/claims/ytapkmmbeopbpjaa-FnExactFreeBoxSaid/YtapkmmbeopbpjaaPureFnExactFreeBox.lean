/- For all arguments the law FnExactFreeBox answers true: the pure statement is proved in the text that is imported here. -/
import Derived.Test.YtapkmmbeopbpjaaPureBoxF
namespace Go.Proofs.Ytapkmmbeopbpjaa.Pure
end Go.Proofs.Ytapkmmbeopbpjaa.Pure
