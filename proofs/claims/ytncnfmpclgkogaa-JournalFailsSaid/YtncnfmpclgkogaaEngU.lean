/- A generator of conditions for a walk, part 16: a loop whose ways out are joined: what stands behind it is walked once. No program in sight. -/
import Derived.Test.YtncnfmpclgkogaaEngL
namespace Go.Proofs.Ytncnfmpclgkogaa
open Go.RowKit
set_option linter.unusedSimpArgs false
set_option linter.unusedVariables false
/-- Out of a loop. -/
inductive Gone {α : Type} (np n1 : Nat) (I : α → TM) (J : α → HP) (E : α → Prop) (t : TM) (h : HP) : Prop
  | go (x : α) (hE : E x) (L : IdMap) (s : Sub np (I x) (J x) n1 t h L) : Gone np n1 I J E t h
  | no (hx : False) : Gone np n1 I J E t h
end Go.Proofs.Ytncnfmpclgkogaa
