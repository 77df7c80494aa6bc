/- strings.Builder: copyCheck, WriteByte, WriteString, Len, String. -/
import Derived.Test.YtcojbjakopkfbaaGreatCall
import Derived.Test.YtcojbjakopkfbaaGreatEngM
import Derived.Shelf.Strings.Builder1
namespace Go.Proofs.YtcojbjakopkfbaaGreat
open Go.Shelf Go.RowKit
set_option linter.unusedSimpArgs false
set_option linter.unusedVariables false
end Go.Proofs.YtcojbjakopkfbaaGreat
namespace Go.Proofs.YtcojbjakopkfbaaGreat
open Go.RowKit
set_option linter.unusedSimpArgs false
set_option linter.unusedVariables false
end Go.Proofs.YtcojbjakopkfbaaGreat
namespace Go.Proofs.YtcojbjakopkfbaaGreat
open Go.Shelf Go.RowKit
set_option linter.unusedSimpArgs false
set_option linter.unusedVariables false
end Go.Proofs.YtcojbjakopkfbaaGreat
