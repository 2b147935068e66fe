/- For all arguments the law FnExactCountWithOn answers true: the pure statement is proved in the text that is imported here. -/
import Derived.Test.YtclidnndehbhjaaLemCountFnExactCountWithOn
namespace Go.Proofs.Ytclidnndehbhjaa.Pure
end Go.Proofs.Ytclidnndehbhjaa.Pure
