/- strings.Builder: copyCheck, WriteByte, WriteString, Len, String. -/
import Derived.Test.YtncnfmpclgkogaaCall
import Derived.Test.YtncnfmpclgkogaaEngM
import Derived.Shelf.Strings.Builder1
namespace Go.Proofs.Ytncnfmpclgkogaa
open Go.Shelf Go.RowKit
set_option linter.unusedSimpArgs false
set_option linter.unusedVariables false
end Go.Proofs.Ytncnfmpclgkogaa
namespace Go.Proofs.Ytncnfmpclgkogaa
open Go.RowKit
set_option linter.unusedSimpArgs false
set_option linter.unusedVariables false
end Go.Proofs.Ytncnfmpclgkogaa
namespace Go.Proofs.Ytncnfmpclgkogaa
open Go.Shelf Go.RowKit
set_option linter.unusedSimpArgs false
set_option linter.unusedVariables false
end Go.Proofs.Ytncnfmpclgkogaa
