/-
  DERIVED. GIVEN WITH THE SEED: THE CARDS: each row of YtcnhklcbibpjpaaGreatDoorRows.lean that lists a variable, with what it lists TIED to the program's text (the seventh form; the later family's looks); each row that meets fmt, with fmt's text TOLD by the authors' own Lean function (tested against real Go, not proved from fmt's source: count such statements apart). THE CARD IS WHAT COUNTS. Prove the row's statement (the work); the ties are given (YtcnhklcbibpjpaaGreatDoorTie.lean); close each card by the builder's one call (the guide's Derived/Test/ToyasCard.lean, 'card_holds'). Laid BY PROGRAM, IN A SANDBOX (cutbox-door.mjs). By AI agents, Wed Nov 11 2026. No macro, syntax, notation, axiom, sorry.
-/
import Derived.Test.YtcnhklcbibpjpaaGreatDoorRows
import GoSem.ClaimSeven
namespace Go.Proofs.YtcnhklcbibpjpaaGreatDoor
namespace Rows

/-- THE TIED CARD OF 'idiomlaw19.TokenLexes'. -/
def tokenLexesCard : Claim7 := { stood := { row := tokenLexesRow, standIns := [], harness := (true, "6bedf0c704608d61b47925c03b0f249c2cce89e9b893dea5ef4062774db2331b"), looks := true }, kinds := [], alts := [], laidByText := true, laidKinds := [.data, .data, .data, .data, .sentinel, .sentinel, .pinned], laidTests := true, laidLooks := .later }
def TokenLexesCardSaid : Prop := Claim7.holds Tryz.pinned (.plain (OpenSpec.ofChange tokenLexesSpec)) tokenLexesCard

/-- THE TIED CARD OF 'idiomlaw19.TokenRises'. -/
def tokenRisesCard : Claim7 := { stood := { row := tokenRisesRow, standIns := [], harness := (true, "6bedf0c704608d61b47925c03b0f249c2cce89e9b893dea5ef4062774db2331b"), looks := true }, kinds := [], alts := [], laidByText := true, laidKinds := [.data, .data, .data, .data, .sentinel, .sentinel, .pinned], laidTests := true, laidLooks := .later }
def TokenRisesCardSaid : Prop := Claim7.holds Tryz.pinned (.plain (OpenSpec.ofChange tokenRisesSpec)) tokenRisesCard

/-- THE TIED CARD OF 'idiomlaw19.TokenOwn'. -/
def tokenOwnCard : Claim7 := { stood := { row := tokenOwnRow, standIns := [], harness := (true, "6bedf0c704608d61b47925c03b0f249c2cce89e9b893dea5ef4062774db2331b"), looks := true }, kinds := [], alts := [], laidByText := true, laidKinds := [.data, .data, .data, .data, .sentinel, .sentinel, .pinned], laidTests := true, laidLooks := .later }
def TokenOwnCardSaid : Prop := Claim7.holds Tryz.pinned (.plain (OpenSpec.ofChange tokenOwnSpec)) tokenOwnCard

/-- THE TIED CARD OF 'idiomlaw19.TokenAutos'. -/
def tokenAutosCard : Claim7 := { stood := { row := tokenAutosRow, standIns := [], harness := (true, "6bedf0c704608d61b47925c03b0f249c2cce89e9b893dea5ef4062774db2331b"), looks := true }, kinds := [], alts := [], laidByText := true, laidKinds := [.data, .data, .data, .data, .sentinel, .sentinel, .pinned], laidTests := true, laidLooks := .later }
def TokenAutosCardSaid : Prop := Claim7.holds Tryz.pinned (.plain (OpenSpec.ofChange tokenAutosSpec)) tokenAutosCard

/-- THE TIED CARD OF 'idiomlaw19.TokenSays'. -/
def tokenSaysCard : Claim7 := { stood := { row := tokenSaysRow, standIns := [], harness := (true, "6bedf0c704608d61b47925c03b0f249c2cce89e9b893dea5ef4062774db2331b"), looks := true }, kinds := [], alts := [], laidByText := true, laidKinds := [.data, .data, .data, .data, .sentinel, .sentinel, .pinned], laidTests := true, laidLooks := .later }
def TokenSaysCardSaid : Prop := Claim7.holds Tryz.pinned (.plain (OpenSpec.ofChange tokenSaysSpec)) tokenSaysCard

/-- THE TIED CARD OF 'idiomlaw19.TokenQuotes'. -/
def tokenQuotesCard : Claim7 := { stood := { row := tokenQuotesRow, standIns := [], harness := (true, "6bedf0c704608d61b47925c03b0f249c2cce89e9b893dea5ef4062774db2331b"), looks := true }, kinds := [], alts := [], laidByText := true, laidKinds := [.data, .data, .data, .data, .sentinel, .sentinel, .pinned], laidTests := true, laidLooks := .later }
def TokenQuotesCardSaid : Prop := Claim7.holds Tryz.pinned (.plain (OpenSpec.ofChange tokenQuotesSpec)) tokenQuotesCard

/-- THE TIED CARD OF 'idiomlaw19.TokenQuoted'. -/
def tokenQuotedCard : Claim7 := { stood := { row := tokenQuotedRow, standIns := [], harness := (true, "6bedf0c704608d61b47925c03b0f249c2cce89e9b893dea5ef4062774db2331b"), looks := true }, kinds := [], alts := [], laidByText := true, laidKinds := [.data, .data, .data, .data, .sentinel, .sentinel, .pinned], laidTests := true, laidLooks := .later }
def TokenQuotedCardSaid : Prop := Claim7.holds Tryz.pinned (.plain (OpenSpec.ofChange tokenQuotedSpec)) tokenQuotedCard

/-- THE SECOND FORM's CARD OF 'idiomlaw19.TokenLexes'. -/
def tokenLexesUptoCard : Claim7 := { stood := { row := tokenLexesUptoRow, standIns := [], harness := (true, "6bedf0c704608d61b47925c03b0f249c2cce89e9b893dea5ef4062774db2331b"), looks := true }, kinds := [], alts := [], laidByText := true, laidKinds := [.data, .data, .data, .data, .sentinel, .sentinel, .pinned], laidTests := true, laidLooks := .later }
def TokenLexesUptoCardSaid : Prop := Claim7.holds Tryz.pinned (.plain (OpenSpec.upto tokenLexesSpec)) tokenLexesUptoCard

/-- THE SECOND FORM's CARD OF 'idiomlaw19.TokenRises'. -/
def tokenRisesUptoCard : Claim7 := { stood := { row := tokenRisesUptoRow, standIns := [], harness := (true, "6bedf0c704608d61b47925c03b0f249c2cce89e9b893dea5ef4062774db2331b"), looks := true }, kinds := [], alts := [], laidByText := true, laidKinds := [.data, .data, .data, .data, .sentinel, .sentinel, .pinned], laidTests := true, laidLooks := .later }
def TokenRisesUptoCardSaid : Prop := Claim7.holds Tryz.pinned (.plain (OpenSpec.upto tokenRisesSpec)) tokenRisesUptoCard

/-- THE SECOND FORM's CARD OF 'idiomlaw19.TokenOwn'. -/
def tokenOwnUptoCard : Claim7 := { stood := { row := tokenOwnUptoRow, standIns := [], harness := (true, "6bedf0c704608d61b47925c03b0f249c2cce89e9b893dea5ef4062774db2331b"), looks := true }, kinds := [], alts := [], laidByText := true, laidKinds := [.data, .data, .data, .data, .sentinel, .sentinel, .pinned], laidTests := true, laidLooks := .later }
def TokenOwnUptoCardSaid : Prop := Claim7.holds Tryz.pinned (.plain (OpenSpec.upto tokenOwnSpec)) tokenOwnUptoCard

/-- THE SECOND FORM's CARD OF 'idiomlaw19.TokenAutos'. -/
def tokenAutosUptoCard : Claim7 := { stood := { row := tokenAutosUptoRow, standIns := [], harness := (true, "6bedf0c704608d61b47925c03b0f249c2cce89e9b893dea5ef4062774db2331b"), looks := true }, kinds := [], alts := [], laidByText := true, laidKinds := [.data, .data, .data, .data, .sentinel, .sentinel, .pinned], laidTests := true, laidLooks := .later }
def TokenAutosUptoCardSaid : Prop := Claim7.holds Tryz.pinned (.plain (OpenSpec.upto tokenAutosSpec)) tokenAutosUptoCard

/-- THE SECOND FORM's CARD OF 'idiomlaw19.TokenSays'. -/
def tokenSaysUptoCard : Claim7 := { stood := { row := tokenSaysUptoRow, standIns := [], harness := (true, "6bedf0c704608d61b47925c03b0f249c2cce89e9b893dea5ef4062774db2331b"), looks := true }, kinds := [], alts := [], laidByText := true, laidKinds := [.data, .data, .data, .data, .sentinel, .sentinel, .pinned], laidTests := true, laidLooks := .later }
def TokenSaysUptoCardSaid : Prop := Claim7.holds Tryz.pinned (.plain (OpenSpec.upto tokenSaysSpec)) tokenSaysUptoCard

/-- THE SECOND FORM's CARD OF 'idiomlaw19.TokenQuotes'. -/
def tokenQuotesUptoCard : Claim7 := { stood := { row := tokenQuotesUptoRow, standIns := [], harness := (true, "6bedf0c704608d61b47925c03b0f249c2cce89e9b893dea5ef4062774db2331b"), looks := true }, kinds := [], alts := [], laidByText := true, laidKinds := [.data, .data, .data, .data, .sentinel, .sentinel, .pinned], laidTests := true, laidLooks := .later }
def TokenQuotesUptoCardSaid : Prop := Claim7.holds Tryz.pinned (.plain (OpenSpec.upto tokenQuotesSpec)) tokenQuotesUptoCard

/-- THE SECOND FORM's CARD OF 'idiomlaw19.TokenQuoted'. -/
def tokenQuotedUptoCard : Claim7 := { stood := { row := tokenQuotedUptoRow, standIns := [], harness := (true, "6bedf0c704608d61b47925c03b0f249c2cce89e9b893dea5ef4062774db2331b"), looks := true }, kinds := [], alts := [], laidByText := true, laidKinds := [.data, .data, .data, .data, .sentinel, .sentinel, .pinned], laidTests := true, laidLooks := .later }
def TokenQuotedUptoCardSaid : Prop := Claim7.holds Tryz.pinned (.plain (OpenSpec.upto tokenQuotedSpec)) tokenQuotedUptoCard
end Rows
end Go.Proofs.YtcnhklcbibpjpaaGreatDoor
