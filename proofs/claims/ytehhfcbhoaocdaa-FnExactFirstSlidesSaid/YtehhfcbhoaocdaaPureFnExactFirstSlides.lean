/- For all arguments the law FnExactFirstSlides answers true: the pure statement is proved in the text that is imported here. -/
import Derived.Test.YtehhfcbhoaocdaaPureFirstSlidesF
namespace Go.Proofs.Ytehhfcbhoaocdaa.Pure
end Go.Proofs.Ytehhfcbhoaocdaa.Pure
