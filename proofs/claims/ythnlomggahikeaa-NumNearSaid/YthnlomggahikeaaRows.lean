/-
  No cell of these rows narrows 'for every input' (looked for: loops, veiled, ifaces, maps, wideKeys, modest, calm, conditions, laid).
  DERIVED. THE GIVEN ROWS OF THIS SEAT. 10 by the template 'for every input the law returns true; each argument reads behind the call as it read before'; 0 by the template 'total and deterministic' (their statements: YthnlomggahikeaaTotals.lean).
  GIVEN WITH THE SEED: the statements are not yours to turn. If you find one false, say at which input.
  Laid BY PROGRAM, IN A SANDBOX (cutbox-rows.mjs): the forced cells as the released guide's own fill.sh prints them over the translation 5370143bdea97189… (all of the seat's roots in one cut). By AI agents, Wed Nov 11 2026. No macro, syntax, notation, axiom, sorry.
-/
import Derived.Test.YthnlomggahikeaaChecked
import GoSem.Claim
import GoSem.ClaimJoined
import GoSem.ClaimMapViews
import Derived.JoinedTies
import Derived.KernelRfl
namespace Go.Proofs.Ythnlomggahikeaa
/- THE CELL 'sum', in the pinned program and in every row, IS THE sha256 OF THE DUMP (.gsa) THAT YthnlomggahikeaaProg.lean LOADS. Nothing in Lean hashes anything: it is a label: what it is worth is what the hold of that sum in a sandbox is worth. -/
noncomputable def Try.pinned : Pinned := { name := "ythnlomggahikeaa", sum := "5370143bdea9718931d40706f8d7d0b69db422778a471ddc602444e1c10a7e90", checked := Try.checked }
namespace Rows
def none {H : Type} : Left H := { results := [], args := [] }

/-- 'cahierlaw02.MixSums': WHATEVER THE INPUT: true; the input reads as it did. -/
def mixSumsSpec : ChangeSpec := { name := "mixSums", fn := fun _ => fun
  | [d1, d2] => { results := [.lit (.bool true)], args := [d1, d2] }
  | _ => none }
def mixSumsRow : OpenClaim := { program := "ythnlomggahikeaa", sum := "5370143bdea9718931d40706f8d7d0b69db422778a471ddc602444e1c10a7e90", func := "cahier/cahierlaw02.MixSums", spec := "mixSums", unfollowed := true, recurses := true, apart := false }
def MixSumsSaid : Prop := mixSumsRow.holds Try.pinned (OpenSpec.ofChange mixSumsSpec)

/-- ITS FALSE NEIGHBOUR: 'it returns false'. Refute it at one input. -/
def mixSumsWrong : ChangeSpec := { name := "mixSums", fn := fun _ => fun
  | [d1, d2] => { results := [.lit (.bool false)], args := [d1, d2] }
  | _ => none }
def MixSumsWrongFalsely : Prop := mixSumsRow.holds Try.pinned (OpenSpec.ofChange mixSumsWrong)

/-- 'cahierlaw02.MixGoes': WHATEVER THE INPUT: true; the input reads as it did. -/
def mixGoesSpec : ChangeSpec := { name := "mixGoes", fn := fun _ => fun
  | [d1, d2, d3] => { results := [.lit (.bool true)], args := [d1, d2, d3] }
  | _ => none }
def mixGoesRow : OpenClaim := { program := "ythnlomggahikeaa", sum := "5370143bdea9718931d40706f8d7d0b69db422778a471ddc602444e1c10a7e90", func := "cahier/cahierlaw02.MixGoes", spec := "mixGoes", unfollowed := true, recurses := true, apart := false }
def MixGoesSaid : Prop := mixGoesRow.holds Try.pinned (OpenSpec.ofChange mixGoesSpec)

/-- ITS FALSE NEIGHBOUR: 'it returns false'. Refute it at one input. -/
def mixGoesWrong : ChangeSpec := { name := "mixGoes", fn := fun _ => fun
  | [d1, d2, d3] => { results := [.lit (.bool false)], args := [d1, d2, d3] }
  | _ => none }
def MixGoesWrongFalsely : Prop := mixGoesRow.holds Try.pinned (OpenSpec.ofChange mixGoesWrong)

/-- 'cahierlaw02.MixTells': WHATEVER THE INPUT: true; the input reads as it did. -/
def mixTellsSpec : ChangeSpec := { name := "mixTells", fn := fun _ => fun
  | [d1, d2, d3] => { results := [.lit (.bool true)], args := [d1, d2, d3] }
  | _ => none }
def mixTellsRow : OpenClaim := { program := "ythnlomggahikeaa", sum := "5370143bdea9718931d40706f8d7d0b69db422778a471ddc602444e1c10a7e90", func := "cahier/cahierlaw02.MixTells", spec := "mixTells", unfollowed := true, recurses := true, apart := false }
def MixTellsSaid : Prop := mixTellsRow.holds Try.pinned (OpenSpec.ofChange mixTellsSpec)

/-- ITS FALSE NEIGHBOUR: 'it returns false'. Refute it at one input. -/
def mixTellsWrong : ChangeSpec := { name := "mixTells", fn := fun _ => fun
  | [d1, d2, d3] => { results := [.lit (.bool false)], args := [d1, d2, d3] }
  | _ => none }
def MixTellsWrongFalsely : Prop := mixTellsRow.holds Try.pinned (OpenSpec.ofChange mixTellsWrong)

/-- 'cahierlaw02.MixNoughts': WHATEVER THE INPUT: true; the input reads as it did. -/
def mixNoughtsSpec : ChangeSpec := { name := "mixNoughts", fn := fun _ => fun
  | [d1, d2] => { results := [.lit (.bool true)], args := [d1, d2] }
  | _ => none }
def mixNoughtsRow : OpenClaim := { program := "ythnlomggahikeaa", sum := "5370143bdea9718931d40706f8d7d0b69db422778a471ddc602444e1c10a7e90", func := "cahier/cahierlaw02.MixNoughts", spec := "mixNoughts", unfollowed := true, recurses := true, apart := false }
def MixNoughtsSaid : Prop := mixNoughtsRow.holds Try.pinned (OpenSpec.ofChange mixNoughtsSpec)

/-- ITS FALSE NEIGHBOUR: 'it returns false'. Refute it at one input. -/
def mixNoughtsWrong : ChangeSpec := { name := "mixNoughts", fn := fun _ => fun
  | [d1, d2] => { results := [.lit (.bool false)], args := [d1, d2] }
  | _ => none }
def MixNoughtsWrongFalsely : Prop := mixNoughtsRow.holds Try.pinned (OpenSpec.ofChange mixNoughtsWrong)

/-- 'cahierlaw01.NumWrites': WHATEVER THE INPUT: true; the input reads as it did. -/
def numWritesSpec : ChangeSpec := { name := "numWrites", fn := fun _ => fun
  | [d1, d2] => { results := [.lit (.bool true)], args := [d1, d2] }
  | _ => none }
def numWritesRow : OpenClaim := { program := "ythnlomggahikeaa", sum := "5370143bdea9718931d40706f8d7d0b69db422778a471ddc602444e1c10a7e90", func := "cahier/cahierlaw01.NumWrites", spec := "numWrites", apart := false }
def NumWritesSaid : Prop := numWritesRow.holds Try.pinned (OpenSpec.ofChange numWritesSpec)

/-- ITS FALSE NEIGHBOUR: 'it returns false'. Refute it at one input. -/
def numWritesWrong : ChangeSpec := { name := "numWrites", fn := fun _ => fun
  | [d1, d2] => { results := [.lit (.bool false)], args := [d1, d2] }
  | _ => none }
def NumWritesWrongFalsely : Prop := numWritesRow.holds Try.pinned (OpenSpec.ofChange numWritesWrong)

/-- 'cahierlaw01.NumReads': WHATEVER THE INPUT: true; the input reads as it did. -/
def numReadsSpec : ChangeSpec := { name := "numReads", fn := fun _ => fun
  | [d] => { results := [.lit (.bool true)], args := [d] }
  | _ => none }
def numReadsRow : OpenClaim := { program := "ythnlomggahikeaa", sum := "5370143bdea9718931d40706f8d7d0b69db422778a471ddc602444e1c10a7e90", func := "cahier/cahierlaw01.NumReads", spec := "numReads", apart := false }
def NumReadsSaid : Prop := numReadsRow.holds Try.pinned (OpenSpec.ofChange numReadsSpec)

/-- ITS FALSE NEIGHBOUR: 'it returns false'. Refute it at one input. -/
def numReadsWrong : ChangeSpec := { name := "numReads", fn := fun _ => fun
  | [d] => { results := [.lit (.bool false)], args := [d] }
  | _ => none }
def NumReadsWrongFalsely : Prop := numReadsRow.holds Try.pinned (OpenSpec.ofChange numReadsWrong)

/-- 'cahierlaw01.NumBack': WHATEVER THE INPUT: true; the input reads as it did. -/
def numBackSpec : ChangeSpec := { name := "numBack", fn := fun _ => fun
  | [d1, d2] => { results := [.lit (.bool true)], args := [d1, d2] }
  | _ => none }
def numBackRow : OpenClaim := { program := "ythnlomggahikeaa", sum := "5370143bdea9718931d40706f8d7d0b69db422778a471ddc602444e1c10a7e90", func := "cahier/cahierlaw01.NumBack", spec := "numBack", apart := false }
def NumBackSaid : Prop := numBackRow.holds Try.pinned (OpenSpec.ofChange numBackSpec)

/-- ITS FALSE NEIGHBOUR: 'it returns false'. Refute it at one input. -/
def numBackWrong : ChangeSpec := { name := "numBack", fn := fun _ => fun
  | [d1, d2] => { results := [.lit (.bool false)], args := [d1, d2] }
  | _ => none }
def NumBackWrongFalsely : Prop := numBackRow.holds Try.pinned (OpenSpec.ofChange numBackWrong)

/-- 'cahierlaw01.NumOrder': WHATEVER THE INPUT: true; the input reads as it did. -/
def numOrderSpec : ChangeSpec := { name := "numOrder", fn := fun _ => fun
  | [d1, d2] => { results := [.lit (.bool true)], args := [d1, d2] }
  | _ => none }
def numOrderRow : OpenClaim := { program := "ythnlomggahikeaa", sum := "5370143bdea9718931d40706f8d7d0b69db422778a471ddc602444e1c10a7e90", func := "cahier/cahierlaw01.NumOrder", spec := "numOrder", apart := false }
def NumOrderSaid : Prop := numOrderRow.holds Try.pinned (OpenSpec.ofChange numOrderSpec)

/-- ITS FALSE NEIGHBOUR: 'it returns false'. Refute it at one input. -/
def numOrderWrong : ChangeSpec := { name := "numOrder", fn := fun _ => fun
  | [d1, d2] => { results := [.lit (.bool false)], args := [d1, d2] }
  | _ => none }
def NumOrderWrongFalsely : Prop := numOrderRow.holds Try.pinned (OpenSpec.ofChange numOrderWrong)

/-- 'cahierlaw01.NumCut': WHATEVER THE INPUT: true; the input reads as it did. -/
def numCutSpec : ChangeSpec := { name := "numCut", fn := fun _ => fun
  | [d1, d2] => { results := [.lit (.bool true)], args := [d1, d2] }
  | _ => none }
def numCutRow : OpenClaim := { program := "ythnlomggahikeaa", sum := "5370143bdea9718931d40706f8d7d0b69db422778a471ddc602444e1c10a7e90", func := "cahier/cahierlaw01.NumCut", spec := "numCut", apart := false }
def NumCutSaid : Prop := numCutRow.holds Try.pinned (OpenSpec.ofChange numCutSpec)

/-- ITS FALSE NEIGHBOUR: 'it returns false'. Refute it at one input. -/
def numCutWrong : ChangeSpec := { name := "numCut", fn := fun _ => fun
  | [d1, d2] => { results := [.lit (.bool false)], args := [d1, d2] }
  | _ => none }
def NumCutWrongFalsely : Prop := numCutRow.holds Try.pinned (OpenSpec.ofChange numCutWrong)

/-- 'cahierlaw01.NumNear': WHATEVER THE INPUT: true; the input reads as it did. -/
def numNearSpec : ChangeSpec := { name := "numNear", fn := fun _ => fun
  | [d1, d2] => { results := [.lit (.bool true)], args := [d1, d2] }
  | _ => none }
def numNearRow : OpenClaim := { program := "ythnlomggahikeaa", sum := "5370143bdea9718931d40706f8d7d0b69db422778a471ddc602444e1c10a7e90", func := "cahier/cahierlaw01.NumNear", spec := "numNear", apart := false }
def NumNearSaid : Prop := numNearRow.holds Try.pinned (OpenSpec.ofChange numNearSpec)

/-- ITS FALSE NEIGHBOUR: 'it returns false'. Refute it at one input. -/
def numNearWrong : ChangeSpec := { name := "numNear", fn := fun _ => fun
  | [d1, d2] => { results := [.lit (.bool false)], args := [d1, d2] }
  | _ => none }
def NumNearWrongFalsely : Prop := numNearRow.holds Try.pinned (OpenSpec.ofChange numNearWrong)

/- THE SECOND FORM. 'bulk': how many values and letters a reading holds, each counted each time it is reached (what is shared counts as often as it is met; a slice's spare places count too). A statement '..UptoSaid' is the law's where the arguments, and the package variables that the reading takes, are together of bulk at most 1048576: NARROWER than '..Said'. Prove '..Said' where nothing that the law and all that it calls make is longer than what came in: it says more and counts as full. Else prove '..UptoSaid'. A law counts once. -/
mutual
def uptoBulk {H : Type} : DataW H → Nat
  | .lit (.string bytes) => bytes.length + 1
  | .lit _ => 1
  | .nil => 1
  | .ptr d => uptoBulk d + 1
  | .slice elems spare => uptoBulkAll elems + uptoBulkAll spare + 1
  | .agg parts => uptoBulkAll parts + 1
  | .iface _ d => uptoBulk d + 1
  | .map entries => uptoBulkEntries entries + 1
  | .held _ => 1
def uptoBulkAll {H : Type} : List (DataW H) → Nat
  | [] => 0
  | d :: r => uptoBulk d + uptoBulkAll r
def uptoBulkEntries {H : Type} : List (Lit × DataW H) → Nat
  | [] => 0
  | x :: r => uptoBulkEntry x + uptoBulkEntries r
def uptoBulkEntry {H : Type} : Lit × DataW H → Nat
  | (.string bytes, d) => bytes.length + uptoBulk d + 1
  | (_, d) => uptoBulk d + 1
 end
def uptoSmall : (H : Type) → List (DataW H) → Bool := fun _ ds => decide (uptoBulkAll ds ≤ 1048576)
def OpenSpec.upto (s : _root_.Go.ChangeSpec) : _root_.Go.OpenSpec := { _root_.Go.OpenSpec.ofChange s with cond := some uptoSmall }

/-- 'cahierlaw02.MixSums', WHERE WHAT IT READS IS OF BULK AT MOST 1048576: true; the input reads as it did. -/
def mixSumsUptoRow : OpenClaim := { program := "ythnlomggahikeaa", sum := "5370143bdea9718931d40706f8d7d0b69db422778a471ddc602444e1c10a7e90", func := "cahier/cahierlaw02.MixSums", spec := "mixSums", unfollowed := true, recurses := true, apart := false, narrowed := true }
def MixSumsUptoSaid : Prop := mixSumsUptoRow.holds Try.pinned (OpenSpec.upto mixSumsSpec)

/-- 'cahierlaw02.MixGoes', WHERE WHAT IT READS IS OF BULK AT MOST 1048576: true; the input reads as it did. -/
def mixGoesUptoRow : OpenClaim := { program := "ythnlomggahikeaa", sum := "5370143bdea9718931d40706f8d7d0b69db422778a471ddc602444e1c10a7e90", func := "cahier/cahierlaw02.MixGoes", spec := "mixGoes", unfollowed := true, recurses := true, apart := false, narrowed := true }
def MixGoesUptoSaid : Prop := mixGoesUptoRow.holds Try.pinned (OpenSpec.upto mixGoesSpec)

/-- 'cahierlaw02.MixTells', WHERE WHAT IT READS IS OF BULK AT MOST 1048576: true; the input reads as it did. -/
def mixTellsUptoRow : OpenClaim := { program := "ythnlomggahikeaa", sum := "5370143bdea9718931d40706f8d7d0b69db422778a471ddc602444e1c10a7e90", func := "cahier/cahierlaw02.MixTells", spec := "mixTells", unfollowed := true, recurses := true, apart := false, narrowed := true }
def MixTellsUptoSaid : Prop := mixTellsUptoRow.holds Try.pinned (OpenSpec.upto mixTellsSpec)

/-- 'cahierlaw02.MixNoughts', WHERE WHAT IT READS IS OF BULK AT MOST 1048576: true; the input reads as it did. -/
def mixNoughtsUptoRow : OpenClaim := { program := "ythnlomggahikeaa", sum := "5370143bdea9718931d40706f8d7d0b69db422778a471ddc602444e1c10a7e90", func := "cahier/cahierlaw02.MixNoughts", spec := "mixNoughts", unfollowed := true, recurses := true, apart := false, narrowed := true }
def MixNoughtsUptoSaid : Prop := mixNoughtsUptoRow.holds Try.pinned (OpenSpec.upto mixNoughtsSpec)

/-- 'cahierlaw01.NumWrites', WHERE WHAT IT READS IS OF BULK AT MOST 1048576: true; the input reads as it did. -/
def numWritesUptoRow : OpenClaim := { program := "ythnlomggahikeaa", sum := "5370143bdea9718931d40706f8d7d0b69db422778a471ddc602444e1c10a7e90", func := "cahier/cahierlaw01.NumWrites", spec := "numWrites", apart := false, narrowed := true }
def NumWritesUptoSaid : Prop := numWritesUptoRow.holds Try.pinned (OpenSpec.upto numWritesSpec)

/-- 'cahierlaw01.NumReads', WHERE WHAT IT READS IS OF BULK AT MOST 1048576: true; the input reads as it did. -/
def numReadsUptoRow : OpenClaim := { program := "ythnlomggahikeaa", sum := "5370143bdea9718931d40706f8d7d0b69db422778a471ddc602444e1c10a7e90", func := "cahier/cahierlaw01.NumReads", spec := "numReads", apart := false, narrowed := true }
def NumReadsUptoSaid : Prop := numReadsUptoRow.holds Try.pinned (OpenSpec.upto numReadsSpec)

/-- 'cahierlaw01.NumBack', WHERE WHAT IT READS IS OF BULK AT MOST 1048576: true; the input reads as it did. -/
def numBackUptoRow : OpenClaim := { program := "ythnlomggahikeaa", sum := "5370143bdea9718931d40706f8d7d0b69db422778a471ddc602444e1c10a7e90", func := "cahier/cahierlaw01.NumBack", spec := "numBack", apart := false, narrowed := true }
def NumBackUptoSaid : Prop := numBackUptoRow.holds Try.pinned (OpenSpec.upto numBackSpec)

/-- 'cahierlaw01.NumOrder', WHERE WHAT IT READS IS OF BULK AT MOST 1048576: true; the input reads as it did. -/
def numOrderUptoRow : OpenClaim := { program := "ythnlomggahikeaa", sum := "5370143bdea9718931d40706f8d7d0b69db422778a471ddc602444e1c10a7e90", func := "cahier/cahierlaw01.NumOrder", spec := "numOrder", apart := false, narrowed := true }
def NumOrderUptoSaid : Prop := numOrderUptoRow.holds Try.pinned (OpenSpec.upto numOrderSpec)

/-- 'cahierlaw01.NumCut', WHERE WHAT IT READS IS OF BULK AT MOST 1048576: true; the input reads as it did. -/
def numCutUptoRow : OpenClaim := { program := "ythnlomggahikeaa", sum := "5370143bdea9718931d40706f8d7d0b69db422778a471ddc602444e1c10a7e90", func := "cahier/cahierlaw01.NumCut", spec := "numCut", apart := false, narrowed := true }
def NumCutUptoSaid : Prop := numCutUptoRow.holds Try.pinned (OpenSpec.upto numCutSpec)

/-- 'cahierlaw01.NumNear', WHERE WHAT IT READS IS OF BULK AT MOST 1048576: true; the input reads as it did. -/
def numNearUptoRow : OpenClaim := { program := "ythnlomggahikeaa", sum := "5370143bdea9718931d40706f8d7d0b69db422778a471ddc602444e1c10a7e90", func := "cahier/cahierlaw01.NumNear", spec := "numNear", apart := false, narrowed := true }
def NumNearUptoSaid : Prop := numNearUptoRow.holds Try.pinned (OpenSpec.upto numNearSpec)

end Rows
end Go.Proofs.Ythnlomggahikeaa
