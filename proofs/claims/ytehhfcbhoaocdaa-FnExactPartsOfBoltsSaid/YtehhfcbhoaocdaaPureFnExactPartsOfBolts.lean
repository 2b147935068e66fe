/- For all arguments the law FnExactPartsOfBolts answers true: the pure statement is proved in the text that is imported here. -/
import Derived.Test.YtehhfcbhoaocdaaPurePartsBP
namespace Go.Proofs.Ytehhfcbhoaocdaa.Pure
end Go.Proofs.Ytehhfcbhoaocdaa.Pure
