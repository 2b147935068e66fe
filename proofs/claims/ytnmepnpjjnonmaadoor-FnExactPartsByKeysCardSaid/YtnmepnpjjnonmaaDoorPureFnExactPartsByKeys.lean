/- For all arguments the law FnExactPartsByKeys answers true: the pure statement is proved in the text that is imported here. -/
import Derived.Test.YtnmepnpjjnonmaaDoorPurePartsByKeysK
namespace Go.Proofs.YtnmepnpjjnonmaaDoor.Pure
end Go.Proofs.YtnmepnpjjnonmaaDoor.Pure
