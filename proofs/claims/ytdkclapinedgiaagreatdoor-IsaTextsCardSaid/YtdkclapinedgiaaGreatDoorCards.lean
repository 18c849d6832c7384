/-
  DERIVED. GIVEN WITH THE SEED: THE CARDS: each row of YtdkclapinedgiaaGreatDoorRows.lean that lists a variable, with what it lists TIED to the program's text (the seventh form; the later family's looks); each row that meets fmt, with fmt's text TOLD by the authors' own Lean function (tested against real Go, not proved from fmt's source: count such statements apart). THE CARD IS WHAT COUNTS. Prove the row's statement (the work); the ties are given (YtdkclapinedgiaaGreatDoorTie.lean); close each card by the builder's one call (the guide's Derived/Test/ToyasCard.lean, 'card_holds'). Laid BY PROGRAM, IN A SANDBOX (cutbox-door.mjs). By AI agents, Wed Nov 11 2026. No macro, syntax, notation, axiom, sorry.
-/
import Derived.Test.YtdkclapinedgiaaGreatDoorRows
import GoSem.ClaimSeven
namespace Go.Proofs.YtdkclapinedgiaaGreatDoor
namespace Rows

/-- THE TIED CARD OF 'candlinglaw01.IsaTexts'. -/
def isaTextsCard : Claim7 := { stood := { row := isaTextsRow, standIns := [], harness := (true, "41999ce62345cf588df3a84d3ba8c095ce5495a58f3e4196366dbd78aad225c1"), looks := true }, kinds := [], alts := [], laidByText := true, laidKinds := [.data, .data, .data, .data, .sentinel, .sentinel, .listed, .data, .pinned], laidTests := true, laidLooks := .later }
def IsaTextsCardSaid : Prop := Claim7.holds Tryz.pinned (.plain (OpenSpec.ofChange isaTextsSpec)) isaTextsCard

/-- THE TIED CARD OF 'candlinglaw01.IsaUses'. -/
def isaUsesCard : Claim7 := { stood := { row := isaUsesRow, standIns := [], harness := (true, "41999ce62345cf588df3a84d3ba8c095ce5495a58f3e4196366dbd78aad225c1"), looks := true }, kinds := [], alts := [], laidByText := true, laidKinds := [.data, .data, .data, .data, .sentinel, .sentinel, .listed, .data, .pinned], laidTests := true, laidLooks := .later }
def IsaUsesCardSaid : Prop := Claim7.holds Tryz.pinned (.plain (OpenSpec.ofChange isaUsesSpec)) isaUsesCard

/-- THE TIED CARD OF 'candlinglaw01.IsaRanks'. -/
def isaRanksCard : Claim7 := { stood := { row := isaRanksRow, standIns := [], harness := (true, "41999ce62345cf588df3a84d3ba8c095ce5495a58f3e4196366dbd78aad225c1"), looks := true }, kinds := [], alts := [], laidByText := true, laidKinds := [.data, .data, .data, .data, .sentinel, .sentinel, .listed, .data, .pinned], laidTests := true, laidLooks := .later }
def IsaRanksCardSaid : Prop := Claim7.holds Tryz.pinned (.plain (OpenSpec.ofChange isaRanksSpec)) isaRanksCard

/-- THE TIED CARD OF 'candlinglaw01.IsaRead'. -/
def isaReadCard : Claim7 := { stood := { row := isaReadRow, standIns := [], harness := (true, "41999ce62345cf588df3a84d3ba8c095ce5495a58f3e4196366dbd78aad225c1"), looks := true }, kinds := [], alts := [], laidByText := true, laidKinds := [.data, .data, .data, .data, .sentinel, .sentinel, .listed, .data, .pinned], laidTests := true, laidLooks := .later }
def IsaReadCardSaid : Prop := Claim7.holds Tryz.pinned (.plain (OpenSpec.ofChange isaReadSpec)) isaReadCard

/-- THE TIED CARD OF 'candlinglaw01.IsaSizes'. -/
def isaSizesCard : Claim7 := { stood := { row := isaSizesRow, standIns := [], harness := (true, "41999ce62345cf588df3a84d3ba8c095ce5495a58f3e4196366dbd78aad225c1"), looks := true }, kinds := [], alts := [], laidByText := true, laidKinds := [.data, .data, .data, .data, .sentinel, .sentinel, .listed, .data, .pinned], laidTests := true, laidLooks := .later }
def IsaSizesCardSaid : Prop := Claim7.holds Tryz.pinned (.plain (OpenSpec.ofChange isaSizesSpec)) isaSizesCard

/-- THE TIED CARD OF 'candlinglaw01.IsaCodes'. -/
def isaCodesCard : Claim7 := { stood := { row := isaCodesRow, standIns := [], harness := (true, "41999ce62345cf588df3a84d3ba8c095ce5495a58f3e4196366dbd78aad225c1"), looks := true }, kinds := [], alts := [], laidByText := true, laidKinds := [.data, .data, .data, .data, .sentinel, .sentinel, .listed, .data, .pinned], laidTests := true, laidLooks := .later }
def IsaCodesCardSaid : Prop := Claim7.holds Tryz.pinned (.plain (OpenSpec.ofChange isaCodesSpec)) isaCodesCard

/-- THE TIED CARD OF 'candlinglaw01.IsaTables'. -/
def isaTablesCard : Claim7 := { stood := { row := isaTablesRow, standIns := [], harness := (true, "41999ce62345cf588df3a84d3ba8c095ce5495a58f3e4196366dbd78aad225c1"), looks := true }, kinds := [], alts := [], laidByText := true, laidKinds := [.data, .data, .data, .data, .sentinel, .sentinel, .listed, .data, .pinned], laidTests := true, laidLooks := .later }
def IsaTablesCardSaid : Prop := Claim7.holds Tryz.pinned (.plain (OpenSpec.ofChange isaTablesSpec)) isaTablesCard

/-- THE TIED CARD OF 'candlinglaw01.IsaFields'. -/
def isaFieldsCard : Claim7 := { stood := { row := isaFieldsRow, standIns := [], harness := (true, "41999ce62345cf588df3a84d3ba8c095ce5495a58f3e4196366dbd78aad225c1"), looks := true }, kinds := [], alts := [], laidByText := true, laidKinds := [.data, .data, .data, .data, .sentinel, .sentinel, .listed, .data, .pinned], laidTests := true, laidLooks := .later }
def IsaFieldsCardSaid : Prop := Claim7.holds Tryz.pinned (.plain (OpenSpec.ofChange isaFieldsSpec)) isaFieldsCard

/-- THE TIED CARD OF 'candlinglaw01.IsaNames'. -/
def isaNamesCard : Claim7 := { stood := { row := isaNamesRow, standIns := [], harness := (true, "41999ce62345cf588df3a84d3ba8c095ce5495a58f3e4196366dbd78aad225c1"), looks := true }, kinds := [], alts := [], laidByText := true, laidKinds := [.data, .data, .data, .data, .sentinel, .sentinel, .listed, .data, .pinned], laidTests := true, laidLooks := .later }
def IsaNamesCardSaid : Prop := Claim7.holds Tryz.pinned (.plain (OpenSpec.ofChange isaNamesSpec)) isaNamesCard

/-- THE TIED CARD OF 'candlinglaw01.IsaPrefix'. -/
def isaPrefixCard : Claim7 := { stood := { row := isaPrefixRow, standIns := [], harness := (true, "41999ce62345cf588df3a84d3ba8c095ce5495a58f3e4196366dbd78aad225c1"), looks := true }, kinds := [], alts := [], laidByText := true, laidKinds := [.data, .data, .data, .data, .sentinel, .sentinel, .listed, .data, .pinned], laidTests := true, laidLooks := .later }
def IsaPrefixCardSaid : Prop := Claim7.holds Tryz.pinned (.plain (OpenSpec.ofChange isaPrefixSpec)) isaPrefixCard

/-- THE TIED CARD OF 'candlinglaw01.IsaLists'. -/
def isaListsCard : Claim7 := { stood := { row := isaListsRow, standIns := [], harness := (true, "41999ce62345cf588df3a84d3ba8c095ce5495a58f3e4196366dbd78aad225c1"), looks := true }, kinds := [], alts := [], laidByText := true, laidKinds := [.data, .data, .data, .data, .sentinel, .sentinel, .listed, .data, .pinned], laidTests := true, laidLooks := .later }
def IsaListsCardSaid : Prop := Claim7.holds Tryz.pinned (.plain (OpenSpec.ofChange isaListsSpec)) isaListsCard

/-- THE TIED CARD OF 'candlinglaw01.IsaOrder'. -/
def isaOrderCard : Claim7 := { stood := { row := isaOrderRow, standIns := [], harness := (true, "41999ce62345cf588df3a84d3ba8c095ce5495a58f3e4196366dbd78aad225c1"), looks := true }, kinds := [], alts := [], laidByText := true, laidKinds := [.data, .data, .data, .data, .sentinel, .sentinel, .listed, .data, .pinned], laidTests := true, laidLooks := .later }
def IsaOrderCardSaid : Prop := Claim7.holds Tryz.pinned (.plain (OpenSpec.ofChange isaOrderSpec)) isaOrderCard

/-- THE SECOND FORM's CARD OF 'candlinglaw01.IsaTexts'. -/
def isaTextsUptoCard : Claim7 := { stood := { row := isaTextsUptoRow, standIns := [], harness := (true, "41999ce62345cf588df3a84d3ba8c095ce5495a58f3e4196366dbd78aad225c1"), looks := true }, kinds := [], alts := [], laidByText := true, laidKinds := [.data, .data, .data, .data, .sentinel, .sentinel, .listed, .data, .pinned], laidTests := true, laidLooks := .later }
def IsaTextsUptoCardSaid : Prop := Claim7.holds Tryz.pinned (.plain (OpenSpec.upto isaTextsSpec)) isaTextsUptoCard

/-- THE SECOND FORM's CARD OF 'candlinglaw01.IsaUses'. -/
def isaUsesUptoCard : Claim7 := { stood := { row := isaUsesUptoRow, standIns := [], harness := (true, "41999ce62345cf588df3a84d3ba8c095ce5495a58f3e4196366dbd78aad225c1"), looks := true }, kinds := [], alts := [], laidByText := true, laidKinds := [.data, .data, .data, .data, .sentinel, .sentinel, .listed, .data, .pinned], laidTests := true, laidLooks := .later }
def IsaUsesUptoCardSaid : Prop := Claim7.holds Tryz.pinned (.plain (OpenSpec.upto isaUsesSpec)) isaUsesUptoCard

/-- THE SECOND FORM's CARD OF 'candlinglaw01.IsaRanks'. -/
def isaRanksUptoCard : Claim7 := { stood := { row := isaRanksUptoRow, standIns := [], harness := (true, "41999ce62345cf588df3a84d3ba8c095ce5495a58f3e4196366dbd78aad225c1"), looks := true }, kinds := [], alts := [], laidByText := true, laidKinds := [.data, .data, .data, .data, .sentinel, .sentinel, .listed, .data, .pinned], laidTests := true, laidLooks := .later }
def IsaRanksUptoCardSaid : Prop := Claim7.holds Tryz.pinned (.plain (OpenSpec.upto isaRanksSpec)) isaRanksUptoCard

/-- THE SECOND FORM's CARD OF 'candlinglaw01.IsaRead'. -/
def isaReadUptoCard : Claim7 := { stood := { row := isaReadUptoRow, standIns := [], harness := (true, "41999ce62345cf588df3a84d3ba8c095ce5495a58f3e4196366dbd78aad225c1"), looks := true }, kinds := [], alts := [], laidByText := true, laidKinds := [.data, .data, .data, .data, .sentinel, .sentinel, .listed, .data, .pinned], laidTests := true, laidLooks := .later }
def IsaReadUptoCardSaid : Prop := Claim7.holds Tryz.pinned (.plain (OpenSpec.upto isaReadSpec)) isaReadUptoCard

/-- THE SECOND FORM's CARD OF 'candlinglaw01.IsaSizes'. -/
def isaSizesUptoCard : Claim7 := { stood := { row := isaSizesUptoRow, standIns := [], harness := (true, "41999ce62345cf588df3a84d3ba8c095ce5495a58f3e4196366dbd78aad225c1"), looks := true }, kinds := [], alts := [], laidByText := true, laidKinds := [.data, .data, .data, .data, .sentinel, .sentinel, .listed, .data, .pinned], laidTests := true, laidLooks := .later }
def IsaSizesUptoCardSaid : Prop := Claim7.holds Tryz.pinned (.plain (OpenSpec.upto isaSizesSpec)) isaSizesUptoCard

/-- THE SECOND FORM's CARD OF 'candlinglaw01.IsaCodes'. -/
def isaCodesUptoCard : Claim7 := { stood := { row := isaCodesUptoRow, standIns := [], harness := (true, "41999ce62345cf588df3a84d3ba8c095ce5495a58f3e4196366dbd78aad225c1"), looks := true }, kinds := [], alts := [], laidByText := true, laidKinds := [.data, .data, .data, .data, .sentinel, .sentinel, .listed, .data, .pinned], laidTests := true, laidLooks := .later }
def IsaCodesUptoCardSaid : Prop := Claim7.holds Tryz.pinned (.plain (OpenSpec.upto isaCodesSpec)) isaCodesUptoCard

/-- THE SECOND FORM's CARD OF 'candlinglaw01.IsaTables'. -/
def isaTablesUptoCard : Claim7 := { stood := { row := isaTablesUptoRow, standIns := [], harness := (true, "41999ce62345cf588df3a84d3ba8c095ce5495a58f3e4196366dbd78aad225c1"), looks := true }, kinds := [], alts := [], laidByText := true, laidKinds := [.data, .data, .data, .data, .sentinel, .sentinel, .listed, .data, .pinned], laidTests := true, laidLooks := .later }
def IsaTablesUptoCardSaid : Prop := Claim7.holds Tryz.pinned (.plain (OpenSpec.upto isaTablesSpec)) isaTablesUptoCard

/-- THE SECOND FORM's CARD OF 'candlinglaw01.IsaFields'. -/
def isaFieldsUptoCard : Claim7 := { stood := { row := isaFieldsUptoRow, standIns := [], harness := (true, "41999ce62345cf588df3a84d3ba8c095ce5495a58f3e4196366dbd78aad225c1"), looks := true }, kinds := [], alts := [], laidByText := true, laidKinds := [.data, .data, .data, .data, .sentinel, .sentinel, .listed, .data, .pinned], laidTests := true, laidLooks := .later }
def IsaFieldsUptoCardSaid : Prop := Claim7.holds Tryz.pinned (.plain (OpenSpec.upto isaFieldsSpec)) isaFieldsUptoCard

/-- THE SECOND FORM's CARD OF 'candlinglaw01.IsaNames'. -/
def isaNamesUptoCard : Claim7 := { stood := { row := isaNamesUptoRow, standIns := [], harness := (true, "41999ce62345cf588df3a84d3ba8c095ce5495a58f3e4196366dbd78aad225c1"), looks := true }, kinds := [], alts := [], laidByText := true, laidKinds := [.data, .data, .data, .data, .sentinel, .sentinel, .listed, .data, .pinned], laidTests := true, laidLooks := .later }
def IsaNamesUptoCardSaid : Prop := Claim7.holds Tryz.pinned (.plain (OpenSpec.upto isaNamesSpec)) isaNamesUptoCard

/-- THE SECOND FORM's CARD OF 'candlinglaw01.IsaPrefix'. -/
def isaPrefixUptoCard : Claim7 := { stood := { row := isaPrefixUptoRow, standIns := [], harness := (true, "41999ce62345cf588df3a84d3ba8c095ce5495a58f3e4196366dbd78aad225c1"), looks := true }, kinds := [], alts := [], laidByText := true, laidKinds := [.data, .data, .data, .data, .sentinel, .sentinel, .listed, .data, .pinned], laidTests := true, laidLooks := .later }
def IsaPrefixUptoCardSaid : Prop := Claim7.holds Tryz.pinned (.plain (OpenSpec.upto isaPrefixSpec)) isaPrefixUptoCard

/-- THE SECOND FORM's CARD OF 'candlinglaw01.IsaLists'. -/
def isaListsUptoCard : Claim7 := { stood := { row := isaListsUptoRow, standIns := [], harness := (true, "41999ce62345cf588df3a84d3ba8c095ce5495a58f3e4196366dbd78aad225c1"), looks := true }, kinds := [], alts := [], laidByText := true, laidKinds := [.data, .data, .data, .data, .sentinel, .sentinel, .listed, .data, .pinned], laidTests := true, laidLooks := .later }
def IsaListsUptoCardSaid : Prop := Claim7.holds Tryz.pinned (.plain (OpenSpec.upto isaListsSpec)) isaListsUptoCard

/-- THE SECOND FORM's CARD OF 'candlinglaw01.IsaOrder'. -/
def isaOrderUptoCard : Claim7 := { stood := { row := isaOrderUptoRow, standIns := [], harness := (true, "41999ce62345cf588df3a84d3ba8c095ce5495a58f3e4196366dbd78aad225c1"), looks := true }, kinds := [], alts := [], laidByText := true, laidKinds := [.data, .data, .data, .data, .sentinel, .sentinel, .listed, .data, .pinned], laidTests := true, laidLooks := .later }
def IsaOrderUptoCardSaid : Prop := Claim7.holds Tryz.pinned (.plain (OpenSpec.upto isaOrderSpec)) isaOrderUptoCard
end Rows
end Go.Proofs.YtdkclapinedgiaaGreatDoor
