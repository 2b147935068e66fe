/- For all arguments the law FnExactLongestByKeys answers true: the pure statement is proved in the text that is imported here. -/
import Derived.Test.YtjlemddnkpejmaaDoorPureLongestByKeysK
namespace Go.Proofs.YtjlemddnkpejmaaDoor.Pure
end Go.Proofs.YtjlemddnkpejmaaDoor.Pure
