/-
  DERIVED. GIVEN WITH THE SEED: THE CARDS: each row of YtiigojkfojnedaaGreatDoorRows.lean that lists a variable, with what it lists TIED to the program's text (the seventh form; the later family's looks); each row that meets fmt, with fmt's text TOLD by the authors' own Lean function (tested against real Go, not proved from fmt's source: count such statements apart). THE CARD IS WHAT COUNTS. Prove the row's statement (the work); the ties are given (YtiigojkfojnedaaGreatDoorTie.lean); close each card by the builder's one call (the guide's Derived/Test/ToyasCard.lean, 'card_holds'). Laid BY PROGRAM, IN A SANDBOX (cutbox-door.mjs). By AI agents, Wed Nov 11 2026. No macro, syntax, notation, axiom, sorry.
-/
import Derived.Test.YtiigojkfojnedaaGreatDoorRows
import GoSem.ClaimSeven
namespace Go.Proofs.YtiigojkfojnedaaGreatDoor
namespace Rows

/-- THE TIED CARD OF 'spoondriftlaw20.LangPrints'. -/
def langPrintsCard : Claim7 := { stood := { row := langPrintsRow, standIns := [], harness := (true, "fd8623b6c98a97f7bff546c0a072d3be35203e3e70e8f6090f755cb59d3c8153"), looks := true }, kinds := [], alts := [], laidByText := true, laidKinds := [.data, .data, .data, .sentinel, .sentinel, .widerDeep, .widerDeep], laidTests := true, laidLooks := .later }
def LangPrintsCardSaid : Prop := Claim7.holds Tryz.pinned (.plain (OpenSpec.ofChange langPrintsSpec)) langPrintsCard

/-- THE TIED CARD OF 'spoondriftlaw20.LangValues'. -/
def langValuesCard : Claim7 := { stood := { row := langValuesRow, standIns := [], harness := (true, "fd8623b6c98a97f7bff546c0a072d3be35203e3e70e8f6090f755cb59d3c8153"), looks := true }, kinds := [], alts := [], laidByText := true, laidKinds := [.data, .data, .data, .sentinel, .sentinel, .widerDeep, .widerDeep], laidTests := true, laidLooks := .later }
def LangValuesCardSaid : Prop := Claim7.holds Tryz.pinned (.plain (OpenSpec.ofChange langValuesSpec)) langValuesCard

/-- THE TIED CARD OF 'spoondriftlaw20.LangBegun'. -/
def langBegunCard : Claim7 := { stood := { row := langBegunRow, standIns := [], harness := (true, "fd8623b6c98a97f7bff546c0a072d3be35203e3e70e8f6090f755cb59d3c8153"), looks := true }, kinds := [], alts := [], laidByText := true, laidKinds := [.data, .data, .data, .sentinel, .sentinel, .widerDeep, .widerDeep], laidTests := true, laidLooks := .later }
def LangBegunCardSaid : Prop := Claim7.holds Tryz.pinned (.plain (OpenSpec.ofChange langBegunSpec)) langBegunCard

/-- THE TIED CARD OF 'spoondriftlaw20.LangScoped'. -/
def langScopedCard : Claim7 := { stood := { row := langScopedRow, standIns := [], harness := (true, "fd8623b6c98a97f7bff546c0a072d3be35203e3e70e8f6090f755cb59d3c8153"), looks := true }, kinds := [], alts := [], laidByText := true, laidKinds := [.data, .data, .data, .sentinel, .sentinel, .widerDeep, .widerDeep], laidTests := true, laidLooks := .later }
def LangScopedCardSaid : Prop := Claim7.holds Tryz.pinned (.plain (OpenSpec.ofChange langScopedSpec)) langScopedCard

/-- THE TIED CARD OF 'spoondriftlaw20.LangTexts'. -/
def langTextsCard : Claim7 := { stood := { row := langTextsRow, standIns := [], harness := (true, "fd8623b6c98a97f7bff546c0a072d3be35203e3e70e8f6090f755cb59d3c8153"), looks := true }, kinds := [], alts := [], laidByText := true, laidKinds := [.data, .data, .data, .sentinel, .sentinel, .widerDeep, .widerDeep], laidTests := true, laidLooks := .later }
def LangTextsCardSaid : Prop := Claim7.holds Tryz.pinned (.plain (OpenSpec.ofChange langTextsSpec)) langTextsCard

/-- THE TIED CARD OF 'spoondriftlaw20.LangChanges'. -/
def langChangesCard : Claim7 := { stood := { row := langChangesRow, standIns := [], harness := (true, "fd8623b6c98a97f7bff546c0a072d3be35203e3e70e8f6090f755cb59d3c8153"), looks := true }, kinds := [], alts := [], laidByText := true, laidKinds := [.data, .data, .data, .sentinel, .sentinel, .widerDeep, .widerDeep], laidTests := true, laidLooks := .later }
def LangChangesCardSaid : Prop := Claim7.holds Tryz.pinned (.plain (OpenSpec.ofChange langChangesSpec)) langChangesCard

/-- THE TIED CARD OF 'spoondriftlaw20.LangOrdered'. -/
def langOrderedCard : Claim7 := { stood := { row := langOrderedRow, standIns := [], harness := (true, "fd8623b6c98a97f7bff546c0a072d3be35203e3e70e8f6090f755cb59d3c8153"), looks := true }, kinds := [], alts := [], laidByText := true, laidKinds := [.data, .data, .data, .sentinel, .sentinel, .widerDeep, .widerDeep], laidTests := true, laidLooks := .later }
def LangOrderedCardSaid : Prop := Claim7.holds Tryz.pinned (.plain (OpenSpec.ofChange langOrderedSpec)) langOrderedCard

/-- THE TIED CARD OF 'spoondriftlaw20.LangWalked'. -/
def langWalkedCard : Claim7 := { stood := { row := langWalkedRow, standIns := [], harness := (true, "fd8623b6c98a97f7bff546c0a072d3be35203e3e70e8f6090f755cb59d3c8153"), looks := true }, kinds := [], alts := [], laidByText := true, laidKinds := [.data, .data, .data, .sentinel, .sentinel, .widerDeep, .widerDeep], laidTests := true, laidLooks := .later }
def LangWalkedCardSaid : Prop := Claim7.holds Tryz.pinned (.plain (OpenSpec.ofChange langWalkedSpec)) langWalkedCard

/-- THE TIED CARD OF 'spoondriftlaw20.LangLaid'. -/
def langLaidCard : Claim7 := { stood := { row := langLaidRow, standIns := [], harness := (true, "fd8623b6c98a97f7bff546c0a072d3be35203e3e70e8f6090f755cb59d3c8153"), looks := true }, kinds := [], alts := [], laidByText := true, laidKinds := [.data, .data, .data, .sentinel, .sentinel, .widerDeep, .widerDeep], laidTests := true, laidLooks := .later }
def LangLaidCardSaid : Prop := Claim7.holds Tryz.pinned (.plain (OpenSpec.ofChange langLaidSpec)) langLaidCard

/-- THE TIED CARD OF 'spoondriftlaw20.LangTold'. -/
def langToldCard : Claim7 := { stood := { row := langToldRow, standIns := [], harness := (true, "fd8623b6c98a97f7bff546c0a072d3be35203e3e70e8f6090f755cb59d3c8153"), looks := true }, kinds := [], alts := [], laidByText := true, laidKinds := [.data, .data, .data, .sentinel, .sentinel, .widerDeep, .widerDeep], laidTests := true, laidLooks := .later }
def LangToldCardSaid : Prop := Claim7.holds Tryz.pinned (.plain (OpenSpec.ofChange langToldSpec)) langToldCard

/-- THE TIED CARD OF 'spoondriftlaw20.LangChecks'. -/
def langChecksCard : Claim7 := { stood := { row := langChecksRow, standIns := [], harness := (true, "fd8623b6c98a97f7bff546c0a072d3be35203e3e70e8f6090f755cb59d3c8153"), looks := true }, kinds := [], alts := [], laidByText := true, laidKinds := [.data, .data, .data, .sentinel, .sentinel, .widerDeep, .widerDeep], laidTests := true, laidLooks := .later }
def LangChecksCardSaid : Prop := Claim7.holds Tryz.pinned (.plain (OpenSpec.ofChange langChecksSpec)) langChecksCard

/-- THE TIED CARD OF 'spoondriftlaw20.LangPut'. -/
def langPutCard : Claim7 := { stood := { row := langPutRow, standIns := [], harness := (true, "fd8623b6c98a97f7bff546c0a072d3be35203e3e70e8f6090f755cb59d3c8153"), looks := true }, kinds := [], alts := [], laidByText := true, laidKinds := [.data, .data, .data, .sentinel, .sentinel, .widerDeep, .widerDeep], laidTests := true, laidLooks := .later }
def LangPutCardSaid : Prop := Claim7.holds Tryz.pinned (.plain (OpenSpec.ofChange langPutSpec)) langPutCard

/-- THE TIED CARD OF 'spoondriftlaw20.LangValued'. -/
def langValuedCard : Claim7 := { stood := { row := langValuedRow, standIns := [], harness := (true, "fd8623b6c98a97f7bff546c0a072d3be35203e3e70e8f6090f755cb59d3c8153"), looks := true }, kinds := [], alts := [], laidByText := true, laidKinds := [.data, .data, .data, .sentinel, .sentinel, .widerDeep, .widerDeep], laidTests := true, laidLooks := .later }
def LangValuedCardSaid : Prop := Claim7.holds Tryz.pinned (.plain (OpenSpec.ofChange langValuedSpec)) langValuedCard

/-- THE TIED CARD OF 'spoondriftlaw20.LangSmall'. -/
def langSmallCard : Claim7 := { stood := { row := langSmallRow, standIns := [], harness := (true, "fd8623b6c98a97f7bff546c0a072d3be35203e3e70e8f6090f755cb59d3c8153"), looks := true }, kinds := [], alts := [], laidByText := true, laidKinds := [.data, .data, .data, .data, .sentinel, .sentinel, .widerDeep, .widerDeep, .pinned], laidTests := true, laidLooks := .later }
def LangSmallCardSaid : Prop := Claim7.holds Tryz.pinned (.plain (OpenSpec.ofChange langSmallSpec)) langSmallCard

/-- THE SECOND FORM's CARD OF 'spoondriftlaw20.LangPrints'. -/
def langPrintsUptoCard : Claim7 := { stood := { row := langPrintsUptoRow, standIns := [], harness := (true, "fd8623b6c98a97f7bff546c0a072d3be35203e3e70e8f6090f755cb59d3c8153"), looks := true }, kinds := [], alts := [], laidByText := true, laidKinds := [.data, .data, .data, .sentinel, .sentinel, .widerDeep, .widerDeep], laidTests := true, laidLooks := .later }
def LangPrintsUptoCardSaid : Prop := Claim7.holds Tryz.pinned (.plain (OpenSpec.upto langPrintsSpec)) langPrintsUptoCard

/-- THE SECOND FORM's CARD OF 'spoondriftlaw20.LangValues'. -/
def langValuesUptoCard : Claim7 := { stood := { row := langValuesUptoRow, standIns := [], harness := (true, "fd8623b6c98a97f7bff546c0a072d3be35203e3e70e8f6090f755cb59d3c8153"), looks := true }, kinds := [], alts := [], laidByText := true, laidKinds := [.data, .data, .data, .sentinel, .sentinel, .widerDeep, .widerDeep], laidTests := true, laidLooks := .later }
def LangValuesUptoCardSaid : Prop := Claim7.holds Tryz.pinned (.plain (OpenSpec.upto langValuesSpec)) langValuesUptoCard

/-- THE SECOND FORM's CARD OF 'spoondriftlaw20.LangBegun'. -/
def langBegunUptoCard : Claim7 := { stood := { row := langBegunUptoRow, standIns := [], harness := (true, "fd8623b6c98a97f7bff546c0a072d3be35203e3e70e8f6090f755cb59d3c8153"), looks := true }, kinds := [], alts := [], laidByText := true, laidKinds := [.data, .data, .data, .sentinel, .sentinel, .widerDeep, .widerDeep], laidTests := true, laidLooks := .later }
def LangBegunUptoCardSaid : Prop := Claim7.holds Tryz.pinned (.plain (OpenSpec.upto langBegunSpec)) langBegunUptoCard

/-- THE SECOND FORM's CARD OF 'spoondriftlaw20.LangScoped'. -/
def langScopedUptoCard : Claim7 := { stood := { row := langScopedUptoRow, standIns := [], harness := (true, "fd8623b6c98a97f7bff546c0a072d3be35203e3e70e8f6090f755cb59d3c8153"), looks := true }, kinds := [], alts := [], laidByText := true, laidKinds := [.data, .data, .data, .sentinel, .sentinel, .widerDeep, .widerDeep], laidTests := true, laidLooks := .later }
def LangScopedUptoCardSaid : Prop := Claim7.holds Tryz.pinned (.plain (OpenSpec.upto langScopedSpec)) langScopedUptoCard

/-- THE SECOND FORM's CARD OF 'spoondriftlaw20.LangTexts'. -/
def langTextsUptoCard : Claim7 := { stood := { row := langTextsUptoRow, standIns := [], harness := (true, "fd8623b6c98a97f7bff546c0a072d3be35203e3e70e8f6090f755cb59d3c8153"), looks := true }, kinds := [], alts := [], laidByText := true, laidKinds := [.data, .data, .data, .sentinel, .sentinel, .widerDeep, .widerDeep], laidTests := true, laidLooks := .later }
def LangTextsUptoCardSaid : Prop := Claim7.holds Tryz.pinned (.plain (OpenSpec.upto langTextsSpec)) langTextsUptoCard

/-- THE SECOND FORM's CARD OF 'spoondriftlaw20.LangChanges'. -/
def langChangesUptoCard : Claim7 := { stood := { row := langChangesUptoRow, standIns := [], harness := (true, "fd8623b6c98a97f7bff546c0a072d3be35203e3e70e8f6090f755cb59d3c8153"), looks := true }, kinds := [], alts := [], laidByText := true, laidKinds := [.data, .data, .data, .sentinel, .sentinel, .widerDeep, .widerDeep], laidTests := true, laidLooks := .later }
def LangChangesUptoCardSaid : Prop := Claim7.holds Tryz.pinned (.plain (OpenSpec.upto langChangesSpec)) langChangesUptoCard

/-- THE SECOND FORM's CARD OF 'spoondriftlaw20.LangOrdered'. -/
def langOrderedUptoCard : Claim7 := { stood := { row := langOrderedUptoRow, standIns := [], harness := (true, "fd8623b6c98a97f7bff546c0a072d3be35203e3e70e8f6090f755cb59d3c8153"), looks := true }, kinds := [], alts := [], laidByText := true, laidKinds := [.data, .data, .data, .sentinel, .sentinel, .widerDeep, .widerDeep], laidTests := true, laidLooks := .later }
def LangOrderedUptoCardSaid : Prop := Claim7.holds Tryz.pinned (.plain (OpenSpec.upto langOrderedSpec)) langOrderedUptoCard

/-- THE SECOND FORM's CARD OF 'spoondriftlaw20.LangWalked'. -/
def langWalkedUptoCard : Claim7 := { stood := { row := langWalkedUptoRow, standIns := [], harness := (true, "fd8623b6c98a97f7bff546c0a072d3be35203e3e70e8f6090f755cb59d3c8153"), looks := true }, kinds := [], alts := [], laidByText := true, laidKinds := [.data, .data, .data, .sentinel, .sentinel, .widerDeep, .widerDeep], laidTests := true, laidLooks := .later }
def LangWalkedUptoCardSaid : Prop := Claim7.holds Tryz.pinned (.plain (OpenSpec.upto langWalkedSpec)) langWalkedUptoCard

/-- THE SECOND FORM's CARD OF 'spoondriftlaw20.LangLaid'. -/
def langLaidUptoCard : Claim7 := { stood := { row := langLaidUptoRow, standIns := [], harness := (true, "fd8623b6c98a97f7bff546c0a072d3be35203e3e70e8f6090f755cb59d3c8153"), looks := true }, kinds := [], alts := [], laidByText := true, laidKinds := [.data, .data, .data, .sentinel, .sentinel, .widerDeep, .widerDeep], laidTests := true, laidLooks := .later }
def LangLaidUptoCardSaid : Prop := Claim7.holds Tryz.pinned (.plain (OpenSpec.upto langLaidSpec)) langLaidUptoCard

/-- THE SECOND FORM's CARD OF 'spoondriftlaw20.LangTold'. -/
def langToldUptoCard : Claim7 := { stood := { row := langToldUptoRow, standIns := [], harness := (true, "fd8623b6c98a97f7bff546c0a072d3be35203e3e70e8f6090f755cb59d3c8153"), looks := true }, kinds := [], alts := [], laidByText := true, laidKinds := [.data, .data, .data, .sentinel, .sentinel, .widerDeep, .widerDeep], laidTests := true, laidLooks := .later }
def LangToldUptoCardSaid : Prop := Claim7.holds Tryz.pinned (.plain (OpenSpec.upto langToldSpec)) langToldUptoCard

/-- THE SECOND FORM's CARD OF 'spoondriftlaw20.LangChecks'. -/
def langChecksUptoCard : Claim7 := { stood := { row := langChecksUptoRow, standIns := [], harness := (true, "fd8623b6c98a97f7bff546c0a072d3be35203e3e70e8f6090f755cb59d3c8153"), looks := true }, kinds := [], alts := [], laidByText := true, laidKinds := [.data, .data, .data, .sentinel, .sentinel, .widerDeep, .widerDeep], laidTests := true, laidLooks := .later }
def LangChecksUptoCardSaid : Prop := Claim7.holds Tryz.pinned (.plain (OpenSpec.upto langChecksSpec)) langChecksUptoCard

/-- THE SECOND FORM's CARD OF 'spoondriftlaw20.LangPut'. -/
def langPutUptoCard : Claim7 := { stood := { row := langPutUptoRow, standIns := [], harness := (true, "fd8623b6c98a97f7bff546c0a072d3be35203e3e70e8f6090f755cb59d3c8153"), looks := true }, kinds := [], alts := [], laidByText := true, laidKinds := [.data, .data, .data, .sentinel, .sentinel, .widerDeep, .widerDeep], laidTests := true, laidLooks := .later }
def LangPutUptoCardSaid : Prop := Claim7.holds Tryz.pinned (.plain (OpenSpec.upto langPutSpec)) langPutUptoCard

/-- THE SECOND FORM's CARD OF 'spoondriftlaw20.LangValued'. -/
def langValuedUptoCard : Claim7 := { stood := { row := langValuedUptoRow, standIns := [], harness := (true, "fd8623b6c98a97f7bff546c0a072d3be35203e3e70e8f6090f755cb59d3c8153"), looks := true }, kinds := [], alts := [], laidByText := true, laidKinds := [.data, .data, .data, .sentinel, .sentinel, .widerDeep, .widerDeep], laidTests := true, laidLooks := .later }
def LangValuedUptoCardSaid : Prop := Claim7.holds Tryz.pinned (.plain (OpenSpec.upto langValuedSpec)) langValuedUptoCard

/-- THE SECOND FORM's CARD OF 'spoondriftlaw20.LangSmall'. -/
def langSmallUptoCard : Claim7 := { stood := { row := langSmallUptoRow, standIns := [], harness := (true, "fd8623b6c98a97f7bff546c0a072d3be35203e3e70e8f6090f755cb59d3c8153"), looks := true }, kinds := [], alts := [], laidByText := true, laidKinds := [.data, .data, .data, .data, .sentinel, .sentinel, .widerDeep, .widerDeep, .pinned], laidTests := true, laidLooks := .later }
def LangSmallUptoCardSaid : Prop := Claim7.holds Tryz.pinned (.plain (OpenSpec.upto langSmallSpec)) langSmallUptoCard
end Rows
end Go.Proofs.YtiigojkfojnedaaGreatDoor
