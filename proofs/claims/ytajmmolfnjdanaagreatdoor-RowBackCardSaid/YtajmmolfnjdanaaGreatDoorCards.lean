/-
  DERIVED. GIVEN WITH THE SEED: THE CARDS: each row of YtajmmolfnjdanaaGreatDoorRows.lean that lists a variable, with what it lists TIED to the program's text (the seventh form; the later family's looks); each row that meets fmt, with fmt's text TOLD by the authors' own Lean function (tested against real Go, not proved from fmt's source: count such statements apart). THE CARD IS WHAT COUNTS. Prove the row's statement (the work); the ties are given (YtajmmolfnjdanaaGreatDoorTie.lean); close each card by the builder's one call (the guide's Derived/Test/ToyasCard.lean, 'card_holds'). Laid BY PROGRAM, IN A SANDBOX (cutbox-door.mjs). By AI agents, Wed Nov 11 2026. No macro, syntax, notation, axiom, sorry.
-/
import Derived.Test.YtajmmolfnjdanaaGreatDoorRows
import GoSem.ClaimSeven
namespace Go.Proofs.YtajmmolfnjdanaaGreatDoor
namespace Rows

/-- THE TIED CARD OF 'cahierlaw07.RowWrites'. -/
def rowWritesCard : Claim7 := { stood := { row := rowWritesRow, standIns := [], harness := (true, "96ad25f851b15a5de087e08acd7e35bd0df376faae3439217d4f394cb67a8be2"), looks := true }, kinds := [], alts := [], laidByText := true, laidKinds := [.data, .data, .data, .data, .sentinel, .sentinel, .pinned], laidTests := true, laidLooks := .later }
def RowWritesCardSaid : Prop := Claim7.holds Tryz.pinned (.plain (OpenSpec.ofChange rowWritesSpec)) rowWritesCard

/-- THE TIED CARD OF 'cahierlaw07.RowReads'. -/
def rowReadsCard : Claim7 := { stood := { row := rowReadsRow, standIns := [], harness := (true, "96ad25f851b15a5de087e08acd7e35bd0df376faae3439217d4f394cb67a8be2"), looks := true }, kinds := [], alts := [], laidByText := true, laidKinds := [.data, .data, .data, .data, .sentinel, .sentinel, .pinned], laidTests := true, laidLooks := .later }
def RowReadsCardSaid : Prop := Claim7.holds Tryz.pinned (.plain (OpenSpec.ofChange rowReadsSpec)) rowReadsCard

/-- THE TIED CARD OF 'cahierlaw07.RowBack'. -/
def rowBackCard : Claim7 := { stood := { row := rowBackRow, standIns := [], harness := (true, "96ad25f851b15a5de087e08acd7e35bd0df376faae3439217d4f394cb67a8be2"), looks := true }, kinds := [], alts := [], laidByText := true, laidKinds := [.data, .data, .data, .data, .sentinel, .sentinel, .pinned], laidTests := true, laidLooks := .later }
def RowBackCardSaid : Prop := Claim7.holds Tryz.pinned (.plain (OpenSpec.ofChange rowBackSpec)) rowBackCard

/-- THE TIED CARD OF 'cahierlaw07.RowKeys'. -/
def rowKeysCard : Claim7 := { stood := { row := rowKeysRow, standIns := [], harness := (true, "96ad25f851b15a5de087e08acd7e35bd0df376faae3439217d4f394cb67a8be2"), looks := true }, kinds := [], alts := [], laidByText := true, laidKinds := [.data, .data, .data, .data, .sentinel, .sentinel, .pinned], laidTests := true, laidLooks := .later }
def RowKeysCardSaid : Prop := Claim7.holds Tryz.pinned (.plain (OpenSpec.ofChange rowKeysSpec)) rowKeysCard

/-- THE TIED CARD OF 'cahierlaw07.RowOrder'. -/
def rowOrderCard : Claim7 := { stood := { row := rowOrderRow, standIns := [], harness := (true, "96ad25f851b15a5de087e08acd7e35bd0df376faae3439217d4f394cb67a8be2"), looks := true }, kinds := [], alts := [], laidByText := true, laidKinds := [.data, .data, .data, .data, .sentinel, .sentinel, .pinned], laidTests := true, laidLooks := .later }
def RowOrderCardSaid : Prop := Claim7.holds Tryz.pinned (.plain (OpenSpec.ofChange rowOrderSpec)) rowOrderCard

/-- THE SECOND FORM's CARD OF 'cahierlaw07.RowWrites'. -/
def rowWritesUptoCard : Claim7 := { stood := { row := rowWritesUptoRow, standIns := [], harness := (true, "96ad25f851b15a5de087e08acd7e35bd0df376faae3439217d4f394cb67a8be2"), looks := true }, kinds := [], alts := [], laidByText := true, laidKinds := [.data, .data, .data, .data, .sentinel, .sentinel, .pinned], laidTests := true, laidLooks := .later }
def RowWritesUptoCardSaid : Prop := Claim7.holds Tryz.pinned (.plain (OpenSpec.upto rowWritesSpec)) rowWritesUptoCard

/-- THE SECOND FORM's CARD OF 'cahierlaw07.RowReads'. -/
def rowReadsUptoCard : Claim7 := { stood := { row := rowReadsUptoRow, standIns := [], harness := (true, "96ad25f851b15a5de087e08acd7e35bd0df376faae3439217d4f394cb67a8be2"), looks := true }, kinds := [], alts := [], laidByText := true, laidKinds := [.data, .data, .data, .data, .sentinel, .sentinel, .pinned], laidTests := true, laidLooks := .later }
def RowReadsUptoCardSaid : Prop := Claim7.holds Tryz.pinned (.plain (OpenSpec.upto rowReadsSpec)) rowReadsUptoCard

/-- THE SECOND FORM's CARD OF 'cahierlaw07.RowBack'. -/
def rowBackUptoCard : Claim7 := { stood := { row := rowBackUptoRow, standIns := [], harness := (true, "96ad25f851b15a5de087e08acd7e35bd0df376faae3439217d4f394cb67a8be2"), looks := true }, kinds := [], alts := [], laidByText := true, laidKinds := [.data, .data, .data, .data, .sentinel, .sentinel, .pinned], laidTests := true, laidLooks := .later }
def RowBackUptoCardSaid : Prop := Claim7.holds Tryz.pinned (.plain (OpenSpec.upto rowBackSpec)) rowBackUptoCard

/-- THE SECOND FORM's CARD OF 'cahierlaw07.RowKeys'. -/
def rowKeysUptoCard : Claim7 := { stood := { row := rowKeysUptoRow, standIns := [], harness := (true, "96ad25f851b15a5de087e08acd7e35bd0df376faae3439217d4f394cb67a8be2"), looks := true }, kinds := [], alts := [], laidByText := true, laidKinds := [.data, .data, .data, .data, .sentinel, .sentinel, .pinned], laidTests := true, laidLooks := .later }
def RowKeysUptoCardSaid : Prop := Claim7.holds Tryz.pinned (.plain (OpenSpec.upto rowKeysSpec)) rowKeysUptoCard

/-- THE SECOND FORM's CARD OF 'cahierlaw07.RowOrder'. -/
def rowOrderUptoCard : Claim7 := { stood := { row := rowOrderUptoRow, standIns := [], harness := (true, "96ad25f851b15a5de087e08acd7e35bd0df376faae3439217d4f394cb67a8be2"), looks := true }, kinds := [], alts := [], laidByText := true, laidKinds := [.data, .data, .data, .data, .sentinel, .sentinel, .pinned], laidTests := true, laidLooks := .later }
def RowOrderUptoCardSaid : Prop := Claim7.holds Tryz.pinned (.plain (OpenSpec.upto rowOrderSpec)) rowOrderUptoCard
end Rows
end Go.Proofs.YtajmmolfnjdanaaGreatDoor
