/- For all arguments the law FnExactIsLineOfStates answers true: the pure statement is proved in the text that is imported here. -/
import Derived.Test.YtnmepnpjjnonmaaDoorPureIsLineOfStatesK
namespace Go.Proofs.YtnmepnpjjnonmaaDoor.Pure
end Go.Proofs.YtnmepnpjjnonmaaDoor.Pure
