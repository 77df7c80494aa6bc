/- strings.Builder: copyCheck, WriteByte, WriteString, Len, String. -/
import Derived.Test.YtncnfmpclgkogaaGreatCall
import Derived.Test.YtncnfmpclgkogaaGreatEngM
import Derived.Shelf.Strings.Builder1
namespace Go.Proofs.YtncnfmpclgkogaaGreat
open Go.Shelf Go.RowKit
set_option linter.unusedSimpArgs false
set_option linter.unusedVariables false
end Go.Proofs.YtncnfmpclgkogaaGreat
namespace Go.Proofs.YtncnfmpclgkogaaGreat
open Go.RowKit
set_option linter.unusedSimpArgs false
set_option linter.unusedVariables false
end Go.Proofs.YtncnfmpclgkogaaGreat
namespace Go.Proofs.YtncnfmpclgkogaaGreat
open Go.Shelf Go.RowKit
set_option linter.unusedSimpArgs false
set_option linter.unusedVariables false
end Go.Proofs.YtncnfmpclgkogaaGreat
