/-
  DERIVED. GIVEN WITH THE SEED: THE CARDS: each row of YtldnjnnhfeobdaaGreatDoorRows.lean that lists a variable, with what it lists TIED to the program's text (the seventh form; the later family's looks); each row that meets fmt, with fmt's text TOLD by the authors' own Lean function (tested against real Go, not proved from fmt's source: count such statements apart). THE CARD IS WHAT COUNTS. Prove the row's statement (the work); the ties are given (YtldnjnnhfeobdaaGreatDoorTie.lean); close each card by the builder's one call (the guide's Derived/Test/ToyasCard.lean, 'card_holds'). Laid BY PROGRAM, IN A SANDBOX (cutbox-door.mjs). By AI agents, Wed Nov 11 2026. No macro, syntax, notation, axiom, sorry.
-/
import Derived.Test.YtldnjnnhfeobdaaGreatDoorRows
import GoSem.ClaimSeven
namespace Go.Proofs.YtldnjnnhfeobdaaGreatDoor
namespace Rows

/-- THE TIED CARD OF 'trestlelaw03.TypesApart'. -/
def typesApartCard : Claim7 := { stood := { row := typesApartRow, standIns := [], harness := (true, "4938f9d038d94b10078dcbe27f8589a5cf48486519552005d4b71d5f66d8b93a"), looks := true }, kinds := [], alts := [], laidByText := true, laidKinds := [.data, .data, .data], laidTests := true, laidLooks := .later }
def TypesApartCardSaid : Prop := Claim7.holds Tryz.pinned (.plain (OpenSpec.ofChange typesApartSpec)) typesApartCard

/-- THE TIED CARD OF 'trestlelaw03.TypesTold'. -/
def typesToldCard : Claim7 := { stood := { row := typesToldRow, standIns := [], harness := (true, "4938f9d038d94b10078dcbe27f8589a5cf48486519552005d4b71d5f66d8b93a"), looks := true }, kinds := [], alts := [], laidByText := true, laidKinds := [.data, .data, .data], laidTests := true, laidLooks := .later }
def TypesToldCardSaid : Prop := Claim7.holds Tryz.pinned (.plain (OpenSpec.ofChange typesToldSpec)) typesToldCard

/-- THE TIED CARD OF 'trestlelaw03.TypesOrder'. -/
def typesOrderCard : Claim7 := { stood := { row := typesOrderRow, standIns := [], harness := (true, "4938f9d038d94b10078dcbe27f8589a5cf48486519552005d4b71d5f66d8b93a"), looks := true }, kinds := [], alts := [], laidByText := true, laidKinds := [.data, .data, .data], laidTests := true, laidLooks := .later }
def TypesOrderCardSaid : Prop := Claim7.holds Tryz.pinned (.plain (OpenSpec.ofChange typesOrderSpec)) typesOrderCard

/-- THE TIED CARD OF 'trestlelaw03.TypesChecks'. -/
def typesChecksCard : Claim7 := { stood := { row := typesChecksRow, standIns := [], harness := (true, "4938f9d038d94b10078dcbe27f8589a5cf48486519552005d4b71d5f66d8b93a"), looks := true }, kinds := [], alts := [], laidByText := true, laidKinds := [.data, .data, .data], laidTests := true, laidLooks := .later }
def TypesChecksCardSaid : Prop := Claim7.holds Tryz.pinned (.plain (OpenSpec.ofChange typesChecksSpec)) typesChecksCard

/-- THE TIED CARD OF 'trestlelaw03.TypesLeast'. -/
def typesLeastCard : Claim7 := { stood := { row := typesLeastRow, standIns := [], harness := (true, "4938f9d038d94b10078dcbe27f8589a5cf48486519552005d4b71d5f66d8b93a"), looks := true }, kinds := [], alts := [], laidByText := true, laidKinds := [.data, .data, .data], laidTests := true, laidLooks := .later }
def TypesLeastCardSaid : Prop := Claim7.holds Tryz.pinned (.plain (OpenSpec.ofChange typesLeastSpec)) typesLeastCard

/-- THE TIED CARD OF 'trestlelaw03.TypesMerge'. -/
def typesMergeCard : Claim7 := { stood := { row := typesMergeRow, standIns := [], harness := (true, "4938f9d038d94b10078dcbe27f8589a5cf48486519552005d4b71d5f66d8b93a"), looks := true }, kinds := [], alts := [], laidByText := true, laidKinds := [.data, .data, .data], laidTests := true, laidLooks := .later }
def TypesMergeCardSaid : Prop := Claim7.holds Tryz.pinned (.plain (OpenSpec.ofChange typesMergeSpec)) typesMergeCard

/-- THE TIED CARD OF 'trestlelaw03.TypesEqual'. -/
def typesEqualCard : Claim7 := { stood := { row := typesEqualRow, standIns := [], harness := (true, "4938f9d038d94b10078dcbe27f8589a5cf48486519552005d4b71d5f66d8b93a"), looks := true }, kinds := [], alts := [], laidByText := true, laidKinds := [.data, .data, .data], laidTests := true, laidLooks := .later }
def TypesEqualCardSaid : Prop := Claim7.holds Tryz.pinned (.plain (OpenSpec.ofChange typesEqualSpec)) typesEqualCard

/-- THE TIED CARD OF 'trestlelaw03.TypesSame'. -/
def typesSameCard : Claim7 := { stood := { row := typesSameRow, standIns := [], harness := (true, "4938f9d038d94b10078dcbe27f8589a5cf48486519552005d4b71d5f66d8b93a"), looks := true }, kinds := [], alts := [], laidByText := true, laidKinds := [.data, .data, .data], laidTests := true, laidLooks := .later }
def TypesSameCardSaid : Prop := Claim7.holds Tryz.pinned (.plain (OpenSpec.ofChange typesSameSpec)) typesSameCard

/-- THE TIED CARD OF 'trestlelaw03.TypesJoin'. -/
def typesJoinCard : Claim7 := { stood := { row := typesJoinRow, standIns := [], harness := (true, "4938f9d038d94b10078dcbe27f8589a5cf48486519552005d4b71d5f66d8b93a"), looks := true }, kinds := [], alts := [], laidByText := true, laidKinds := [.data, .data, .data], laidTests := true, laidLooks := .later }
def TypesJoinCardSaid : Prop := Claim7.holds Tryz.pinned (.plain (OpenSpec.ofChange typesJoinSpec)) typesJoinCard

/-- THE TIED CARD OF 'trestlelaw03.TypesTexts'. -/
def typesTextsCard : Claim7 := { stood := { row := typesTextsRow, standIns := [], harness := (true, "4938f9d038d94b10078dcbe27f8589a5cf48486519552005d4b71d5f66d8b93a"), looks := true }, kinds := [], alts := [], laidByText := true, laidKinds := [.data, .data, .data, .data, .sentinel, .sentinel, .pinned], laidTests := true, laidLooks := .later }
def TypesTextsCardSaid : Prop := Claim7.holds Tryz.pinned (.plain (OpenSpec.ofChange typesTextsSpec)) typesTextsCard

/-- THE SECOND FORM's CARD OF 'trestlelaw03.TypesApart'. -/
def typesApartUptoCard : Claim7 := { stood := { row := typesApartUptoRow, standIns := [], harness := (true, "4938f9d038d94b10078dcbe27f8589a5cf48486519552005d4b71d5f66d8b93a"), looks := true }, kinds := [], alts := [], laidByText := true, laidKinds := [.data, .data, .data], laidTests := true, laidLooks := .later }
def TypesApartUptoCardSaid : Prop := Claim7.holds Tryz.pinned (.plain (OpenSpec.upto typesApartSpec)) typesApartUptoCard

/-- THE SECOND FORM's CARD OF 'trestlelaw03.TypesTold'. -/
def typesToldUptoCard : Claim7 := { stood := { row := typesToldUptoRow, standIns := [], harness := (true, "4938f9d038d94b10078dcbe27f8589a5cf48486519552005d4b71d5f66d8b93a"), looks := true }, kinds := [], alts := [], laidByText := true, laidKinds := [.data, .data, .data], laidTests := true, laidLooks := .later }
def TypesToldUptoCardSaid : Prop := Claim7.holds Tryz.pinned (.plain (OpenSpec.upto typesToldSpec)) typesToldUptoCard

/-- THE SECOND FORM's CARD OF 'trestlelaw03.TypesOrder'. -/
def typesOrderUptoCard : Claim7 := { stood := { row := typesOrderUptoRow, standIns := [], harness := (true, "4938f9d038d94b10078dcbe27f8589a5cf48486519552005d4b71d5f66d8b93a"), looks := true }, kinds := [], alts := [], laidByText := true, laidKinds := [.data, .data, .data], laidTests := true, laidLooks := .later }
def TypesOrderUptoCardSaid : Prop := Claim7.holds Tryz.pinned (.plain (OpenSpec.upto typesOrderSpec)) typesOrderUptoCard

/-- THE SECOND FORM's CARD OF 'trestlelaw03.TypesChecks'. -/
def typesChecksUptoCard : Claim7 := { stood := { row := typesChecksUptoRow, standIns := [], harness := (true, "4938f9d038d94b10078dcbe27f8589a5cf48486519552005d4b71d5f66d8b93a"), looks := true }, kinds := [], alts := [], laidByText := true, laidKinds := [.data, .data, .data], laidTests := true, laidLooks := .later }
def TypesChecksUptoCardSaid : Prop := Claim7.holds Tryz.pinned (.plain (OpenSpec.upto typesChecksSpec)) typesChecksUptoCard

/-- THE SECOND FORM's CARD OF 'trestlelaw03.TypesLeast'. -/
def typesLeastUptoCard : Claim7 := { stood := { row := typesLeastUptoRow, standIns := [], harness := (true, "4938f9d038d94b10078dcbe27f8589a5cf48486519552005d4b71d5f66d8b93a"), looks := true }, kinds := [], alts := [], laidByText := true, laidKinds := [.data, .data, .data], laidTests := true, laidLooks := .later }
def TypesLeastUptoCardSaid : Prop := Claim7.holds Tryz.pinned (.plain (OpenSpec.upto typesLeastSpec)) typesLeastUptoCard

/-- THE SECOND FORM's CARD OF 'trestlelaw03.TypesMerge'. -/
def typesMergeUptoCard : Claim7 := { stood := { row := typesMergeUptoRow, standIns := [], harness := (true, "4938f9d038d94b10078dcbe27f8589a5cf48486519552005d4b71d5f66d8b93a"), looks := true }, kinds := [], alts := [], laidByText := true, laidKinds := [.data, .data, .data], laidTests := true, laidLooks := .later }
def TypesMergeUptoCardSaid : Prop := Claim7.holds Tryz.pinned (.plain (OpenSpec.upto typesMergeSpec)) typesMergeUptoCard

/-- THE SECOND FORM's CARD OF 'trestlelaw03.TypesEqual'. -/
def typesEqualUptoCard : Claim7 := { stood := { row := typesEqualUptoRow, standIns := [], harness := (true, "4938f9d038d94b10078dcbe27f8589a5cf48486519552005d4b71d5f66d8b93a"), looks := true }, kinds := [], alts := [], laidByText := true, laidKinds := [.data, .data, .data], laidTests := true, laidLooks := .later }
def TypesEqualUptoCardSaid : Prop := Claim7.holds Tryz.pinned (.plain (OpenSpec.upto typesEqualSpec)) typesEqualUptoCard

/-- THE SECOND FORM's CARD OF 'trestlelaw03.TypesSame'. -/
def typesSameUptoCard : Claim7 := { stood := { row := typesSameUptoRow, standIns := [], harness := (true, "4938f9d038d94b10078dcbe27f8589a5cf48486519552005d4b71d5f66d8b93a"), looks := true }, kinds := [], alts := [], laidByText := true, laidKinds := [.data, .data, .data], laidTests := true, laidLooks := .later }
def TypesSameUptoCardSaid : Prop := Claim7.holds Tryz.pinned (.plain (OpenSpec.upto typesSameSpec)) typesSameUptoCard

/-- THE SECOND FORM's CARD OF 'trestlelaw03.TypesJoin'. -/
def typesJoinUptoCard : Claim7 := { stood := { row := typesJoinUptoRow, standIns := [], harness := (true, "4938f9d038d94b10078dcbe27f8589a5cf48486519552005d4b71d5f66d8b93a"), looks := true }, kinds := [], alts := [], laidByText := true, laidKinds := [.data, .data, .data], laidTests := true, laidLooks := .later }
def TypesJoinUptoCardSaid : Prop := Claim7.holds Tryz.pinned (.plain (OpenSpec.upto typesJoinSpec)) typesJoinUptoCard

/-- THE SECOND FORM's CARD OF 'trestlelaw03.TypesTexts'. -/
def typesTextsUptoCard : Claim7 := { stood := { row := typesTextsUptoRow, standIns := [], harness := (true, "4938f9d038d94b10078dcbe27f8589a5cf48486519552005d4b71d5f66d8b93a"), looks := true }, kinds := [], alts := [], laidByText := true, laidKinds := [.data, .data, .data, .data, .sentinel, .sentinel, .pinned], laidTests := true, laidLooks := .later }
def TypesTextsUptoCardSaid : Prop := Claim7.holds Tryz.pinned (.plain (OpenSpec.upto typesTextsSpec)) typesTextsUptoCard
end Rows
end Go.Proofs.YtldnjnnhfeobdaaGreatDoor
