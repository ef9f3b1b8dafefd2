/-
  DERIVED. GIVEN WITH THE SEED: THE CARDS: each row of YtcpglgoiienhkaaGreatDoorRows.lean that lists a variable, with what it lists TIED to the program's text (the seventh form; the later family's looks); each row that meets fmt, with fmt's text TOLD by the authors' own Lean function (tested against real Go, not proved from fmt's source: count such statements apart). THE CARD IS WHAT COUNTS. Prove the row's statement (the work); the ties are given (YtcpglgoiienhkaaGreatDoorTie.lean); close each card by the builder's one call (the guide's Derived/Test/ToyasCard.lean, 'card_holds'). Laid BY PROGRAM, IN A SANDBOX (cutbox-door.mjs). By AI agents, Wed Nov 11 2026. No macro, syntax, notation, axiom, sorry.
-/
import Derived.Test.YtcpglgoiienhkaaGreatDoorRows
import GoSem.ClaimSeven
namespace Go.Proofs.YtcpglgoiienhkaaGreatDoor
namespace Rows

/-- THE TIED CARD OF 'idiomlaw21.UnparseChecks'. -/
def unparseChecksCard : Claim7 := { stood := { row := unparseChecksRow, standIns := [], harness := (true, "7829cd2d6c02b9925f92907203b6b8ae57efee6e141e3128097015c1a56e7182"), looks := true }, kinds := [], alts := [], laidByText := true, laidKinds := [.data, .data, .data, .data, .sentinel, .sentinel, .pinned], laidTests := true, laidLooks := .later }
def UnparseChecksCardSaid : Prop := Claim7.holds Tryz.pinned (.plain (OpenSpec.ofChange unparseChecksSpec)) unparseChecksCard

/-- THE TIED CARD OF 'idiomlaw21.UnparsePrints'. -/
def unparsePrintsCard : Claim7 := { stood := { row := unparsePrintsRow, standIns := [], harness := (true, "7829cd2d6c02b9925f92907203b6b8ae57efee6e141e3128097015c1a56e7182"), looks := true }, kinds := [], alts := [], laidByText := true, laidKinds := [.data, .data, .data, .data, .sentinel, .sentinel, .pinned], laidTests := true, laidLooks := .later }
def UnparsePrintsCardSaid : Prop := Claim7.holds Tryz.pinned (.plain (OpenSpec.ofChange unparsePrintsSpec)) unparsePrintsCard

/-- THE TIED CARD OF 'idiomlaw21.UnparseSames'. -/
def unparseSamesCard : Claim7 := { stood := { row := unparseSamesRow, standIns := [], harness := (true, "7829cd2d6c02b9925f92907203b6b8ae57efee6e141e3128097015c1a56e7182"), looks := true }, kinds := [], alts := [], laidByText := true, laidKinds := [.data, .data, .data, .data, .sentinel, .sentinel, .pinned], laidTests := true, laidLooks := .later }
def UnparseSamesCardSaid : Prop := Claim7.holds Tryz.pinned (.plain (OpenSpec.ofChange unparseSamesSpec)) unparseSamesCard

/-- THE TIED CARD OF 'idiomlaw21.UnparseNorms'. -/
def unparseNormsCard : Claim7 := { stood := { row := unparseNormsRow, standIns := [], harness := (true, "7829cd2d6c02b9925f92907203b6b8ae57efee6e141e3128097015c1a56e7182"), looks := true }, kinds := [], alts := [], laidByText := true, laidKinds := [.data, .data, .data, .data, .sentinel, .sentinel, .pinned], laidTests := true, laidLooks := .later }
def UnparseNormsCardSaid : Prop := Claim7.holds Tryz.pinned (.plain (OpenSpec.ofChange unparseNormsSpec)) unparseNormsCard

/-- THE TIED CARD OF 'idiomlaw21.UnparseOwn'. -/
def unparseOwnCard : Claim7 := { stood := { row := unparseOwnRow, standIns := [], harness := (true, "7829cd2d6c02b9925f92907203b6b8ae57efee6e141e3128097015c1a56e7182"), looks := true }, kinds := [], alts := [], laidByText := true, laidKinds := [.data, .data, .data, .data, .sentinel, .sentinel, .pinned], laidTests := true, laidLooks := .later }
def UnparseOwnCardSaid : Prop := Claim7.holds Tryz.pinned (.plain (OpenSpec.ofChange unparseOwnSpec)) unparseOwnCard

/-- THE TIED CARD OF 'idiomlaw20.TreeReads'. -/
def treeReadsCard : Claim7 := { stood := { row := treeReadsRow, standIns := [], harness := (true, "7829cd2d6c02b9925f92907203b6b8ae57efee6e141e3128097015c1a56e7182"), looks := true }, kinds := [], alts := [], laidByText := true, laidKinds := [.data, .data, .data, .data, .sentinel, .sentinel, .pinned], laidTests := true, laidLooks := .later }
def TreeReadsCardSaid : Prop := Claim7.holds Tryz.pinned (.plain (OpenSpec.ofChange treeReadsSpec)) treeReadsCard

/-- THE TIED CARD OF 'idiomlaw20.TreeMeasures'. -/
def treeMeasuresCard : Claim7 := { stood := { row := treeMeasuresRow, standIns := [], harness := (true, "7829cd2d6c02b9925f92907203b6b8ae57efee6e141e3128097015c1a56e7182"), looks := true }, kinds := [], alts := [], laidByText := true, laidKinds := [.data, .data, .data, .data, .sentinel, .sentinel, .pinned], laidTests := true, laidLooks := .later }
def TreeMeasuresCardSaid : Prop := Claim7.holds Tryz.pinned (.plain (OpenSpec.ofChange treeMeasuresSpec)) treeMeasuresCard

/-- THE TIED CARD OF 'idiomlaw20.TreePlain'. -/
def treePlainCard : Claim7 := { stood := { row := treePlainRow, standIns := [], harness := (true, "7829cd2d6c02b9925f92907203b6b8ae57efee6e141e3128097015c1a56e7182"), looks := true }, kinds := [], alts := [], laidByText := true, laidKinds := [.data, .data, .data, .data, .sentinel, .sentinel, .pinned], laidTests := true, laidLooks := .later }
def TreePlainCardSaid : Prop := Claim7.holds Tryz.pinned (.plain (OpenSpec.ofChange treePlainSpec)) treePlainCard

/-- THE TIED CARD OF 'idiomlaw20.TreeBeside'. -/
def treeBesideCard : Claim7 := { stood := { row := treeBesideRow, standIns := [], harness := (true, "7829cd2d6c02b9925f92907203b6b8ae57efee6e141e3128097015c1a56e7182"), looks := true }, kinds := [], alts := [], laidByText := true, laidKinds := [.data, .data, .data, .data, .sentinel, .sentinel, .pinned], laidTests := true, laidLooks := .later }
def TreeBesideCardSaid : Prop := Claim7.holds Tryz.pinned (.plain (OpenSpec.ofChange treeBesideSpec)) treeBesideCard

/-- THE TIED CARD OF 'idiomlaw20.TreeDeep'. -/
def treeDeepCard : Claim7 := { stood := { row := treeDeepRow, standIns := [], harness := (true, "7829cd2d6c02b9925f92907203b6b8ae57efee6e141e3128097015c1a56e7182"), looks := true }, kinds := [], alts := [], laidByText := true, laidKinds := [.data, .data, .data, .data, .sentinel, .sentinel, .pinned], laidTests := true, laidLooks := .later }
def TreeDeepCardSaid : Prop := Claim7.holds Tryz.pinned (.plain (OpenSpec.ofChange treeDeepSpec)) treeDeepCard

/-- THE TIED CARD OF 'idiomlaw20.TreeSums'. -/
def treeSumsCard : Claim7 := { stood := { row := treeSumsRow, standIns := [], harness := (true, "7829cd2d6c02b9925f92907203b6b8ae57efee6e141e3128097015c1a56e7182"), looks := true }, kinds := [], alts := [], laidByText := true, laidKinds := [.data, .data, .data, .data, .sentinel, .sentinel, .pinned], laidTests := true, laidLooks := .later }
def TreeSumsCardSaid : Prop := Claim7.holds Tryz.pinned (.plain (OpenSpec.ofChange treeSumsSpec)) treeSumsCard

/-- THE TIED CARD OF 'idiomlaw20.TreeTypes'. -/
def treeTypesCard : Claim7 := { stood := { row := treeTypesRow, standIns := [], harness := (true, "7829cd2d6c02b9925f92907203b6b8ae57efee6e141e3128097015c1a56e7182"), looks := true }, kinds := [], alts := [], laidByText := true, laidKinds := [.data, .data, .data, .data, .sentinel, .sentinel, .pinned], laidTests := true, laidLooks := .later }
def TreeTypesCardSaid : Prop := Claim7.holds Tryz.pinned (.plain (OpenSpec.ofChange treeTypesSpec)) treeTypesCard

/-- THE TIED CARD OF 'idiomlaw20.TreeModes'. -/
def treeModesCard : Claim7 := { stood := { row := treeModesRow, standIns := [], harness := (true, "7829cd2d6c02b9925f92907203b6b8ae57efee6e141e3128097015c1a56e7182"), looks := true }, kinds := [], alts := [], laidByText := true, laidKinds := [.data, .data, .data, .data, .sentinel, .sentinel, .pinned], laidTests := true, laidLooks := .later }
def TreeModesCardSaid : Prop := Claim7.holds Tryz.pinned (.plain (OpenSpec.ofChange treeModesSpec)) treeModesCard

/-- THE TIED CARD OF 'idiomlaw21.UnparseBack'. -/
def unparseBackCard : Claim7 := { stood := { row := unparseBackRow, standIns := [], harness := (true, "7829cd2d6c02b9925f92907203b6b8ae57efee6e141e3128097015c1a56e7182"), looks := true }, kinds := [], alts := [], laidByText := true, laidKinds := [.data, .data, .data, .data, .sentinel, .sentinel, .pinned], laidTests := true, laidLooks := .later }
def UnparseBackCardSaid : Prop := Claim7.holds Tryz.pinned (.plain (OpenSpec.ofChange unparseBackSpec)) unparseBackCard

/-- THE TIED CARD OF 'idiomlaw21.UnparseReads'. -/
def unparseReadsCard : Claim7 := { stood := { row := unparseReadsRow, standIns := [], harness := (true, "7829cd2d6c02b9925f92907203b6b8ae57efee6e141e3128097015c1a56e7182"), looks := true }, kinds := [], alts := [], laidByText := true, laidKinds := [.data, .data, .data, .data, .sentinel, .sentinel, .pinned], laidTests := true, laidLooks := .later }
def UnparseReadsCardSaid : Prop := Claim7.holds Tryz.pinned (.plain (OpenSpec.ofChange unparseReadsSpec)) unparseReadsCard

/-- THE SECOND FORM's CARD OF 'idiomlaw21.UnparseChecks'. -/
def unparseChecksUptoCard : Claim7 := { stood := { row := unparseChecksUptoRow, standIns := [], harness := (true, "7829cd2d6c02b9925f92907203b6b8ae57efee6e141e3128097015c1a56e7182"), looks := true }, kinds := [], alts := [], laidByText := true, laidKinds := [.data, .data, .data, .data, .sentinel, .sentinel, .pinned], laidTests := true, laidLooks := .later }
def UnparseChecksUptoCardSaid : Prop := Claim7.holds Tryz.pinned (.plain (OpenSpec.upto unparseChecksSpec)) unparseChecksUptoCard

/-- THE SECOND FORM's CARD OF 'idiomlaw21.UnparsePrints'. -/
def unparsePrintsUptoCard : Claim7 := { stood := { row := unparsePrintsUptoRow, standIns := [], harness := (true, "7829cd2d6c02b9925f92907203b6b8ae57efee6e141e3128097015c1a56e7182"), looks := true }, kinds := [], alts := [], laidByText := true, laidKinds := [.data, .data, .data, .data, .sentinel, .sentinel, .pinned], laidTests := true, laidLooks := .later }
def UnparsePrintsUptoCardSaid : Prop := Claim7.holds Tryz.pinned (.plain (OpenSpec.upto unparsePrintsSpec)) unparsePrintsUptoCard

/-- THE SECOND FORM's CARD OF 'idiomlaw21.UnparseSames'. -/
def unparseSamesUptoCard : Claim7 := { stood := { row := unparseSamesUptoRow, standIns := [], harness := (true, "7829cd2d6c02b9925f92907203b6b8ae57efee6e141e3128097015c1a56e7182"), looks := true }, kinds := [], alts := [], laidByText := true, laidKinds := [.data, .data, .data, .data, .sentinel, .sentinel, .pinned], laidTests := true, laidLooks := .later }
def UnparseSamesUptoCardSaid : Prop := Claim7.holds Tryz.pinned (.plain (OpenSpec.upto unparseSamesSpec)) unparseSamesUptoCard

/-- THE SECOND FORM's CARD OF 'idiomlaw21.UnparseNorms'. -/
def unparseNormsUptoCard : Claim7 := { stood := { row := unparseNormsUptoRow, standIns := [], harness := (true, "7829cd2d6c02b9925f92907203b6b8ae57efee6e141e3128097015c1a56e7182"), looks := true }, kinds := [], alts := [], laidByText := true, laidKinds := [.data, .data, .data, .data, .sentinel, .sentinel, .pinned], laidTests := true, laidLooks := .later }
def UnparseNormsUptoCardSaid : Prop := Claim7.holds Tryz.pinned (.plain (OpenSpec.upto unparseNormsSpec)) unparseNormsUptoCard

/-- THE SECOND FORM's CARD OF 'idiomlaw21.UnparseOwn'. -/
def unparseOwnUptoCard : Claim7 := { stood := { row := unparseOwnUptoRow, standIns := [], harness := (true, "7829cd2d6c02b9925f92907203b6b8ae57efee6e141e3128097015c1a56e7182"), looks := true }, kinds := [], alts := [], laidByText := true, laidKinds := [.data, .data, .data, .data, .sentinel, .sentinel, .pinned], laidTests := true, laidLooks := .later }
def UnparseOwnUptoCardSaid : Prop := Claim7.holds Tryz.pinned (.plain (OpenSpec.upto unparseOwnSpec)) unparseOwnUptoCard

/-- THE SECOND FORM's CARD OF 'idiomlaw20.TreeReads'. -/
def treeReadsUptoCard : Claim7 := { stood := { row := treeReadsUptoRow, standIns := [], harness := (true, "7829cd2d6c02b9925f92907203b6b8ae57efee6e141e3128097015c1a56e7182"), looks := true }, kinds := [], alts := [], laidByText := true, laidKinds := [.data, .data, .data, .data, .sentinel, .sentinel, .pinned], laidTests := true, laidLooks := .later }
def TreeReadsUptoCardSaid : Prop := Claim7.holds Tryz.pinned (.plain (OpenSpec.upto treeReadsSpec)) treeReadsUptoCard

/-- THE SECOND FORM's CARD OF 'idiomlaw20.TreeMeasures'. -/
def treeMeasuresUptoCard : Claim7 := { stood := { row := treeMeasuresUptoRow, standIns := [], harness := (true, "7829cd2d6c02b9925f92907203b6b8ae57efee6e141e3128097015c1a56e7182"), looks := true }, kinds := [], alts := [], laidByText := true, laidKinds := [.data, .data, .data, .data, .sentinel, .sentinel, .pinned], laidTests := true, laidLooks := .later }
def TreeMeasuresUptoCardSaid : Prop := Claim7.holds Tryz.pinned (.plain (OpenSpec.upto treeMeasuresSpec)) treeMeasuresUptoCard

/-- THE SECOND FORM's CARD OF 'idiomlaw20.TreePlain'. -/
def treePlainUptoCard : Claim7 := { stood := { row := treePlainUptoRow, standIns := [], harness := (true, "7829cd2d6c02b9925f92907203b6b8ae57efee6e141e3128097015c1a56e7182"), looks := true }, kinds := [], alts := [], laidByText := true, laidKinds := [.data, .data, .data, .data, .sentinel, .sentinel, .pinned], laidTests := true, laidLooks := .later }
def TreePlainUptoCardSaid : Prop := Claim7.holds Tryz.pinned (.plain (OpenSpec.upto treePlainSpec)) treePlainUptoCard

/-- THE SECOND FORM's CARD OF 'idiomlaw20.TreeBeside'. -/
def treeBesideUptoCard : Claim7 := { stood := { row := treeBesideUptoRow, standIns := [], harness := (true, "7829cd2d6c02b9925f92907203b6b8ae57efee6e141e3128097015c1a56e7182"), looks := true }, kinds := [], alts := [], laidByText := true, laidKinds := [.data, .data, .data, .data, .sentinel, .sentinel, .pinned], laidTests := true, laidLooks := .later }
def TreeBesideUptoCardSaid : Prop := Claim7.holds Tryz.pinned (.plain (OpenSpec.upto treeBesideSpec)) treeBesideUptoCard

/-- THE SECOND FORM's CARD OF 'idiomlaw20.TreeDeep'. -/
def treeDeepUptoCard : Claim7 := { stood := { row := treeDeepUptoRow, standIns := [], harness := (true, "7829cd2d6c02b9925f92907203b6b8ae57efee6e141e3128097015c1a56e7182"), looks := true }, kinds := [], alts := [], laidByText := true, laidKinds := [.data, .data, .data, .data, .sentinel, .sentinel, .pinned], laidTests := true, laidLooks := .later }
def TreeDeepUptoCardSaid : Prop := Claim7.holds Tryz.pinned (.plain (OpenSpec.upto treeDeepSpec)) treeDeepUptoCard

/-- THE SECOND FORM's CARD OF 'idiomlaw20.TreeSums'. -/
def treeSumsUptoCard : Claim7 := { stood := { row := treeSumsUptoRow, standIns := [], harness := (true, "7829cd2d6c02b9925f92907203b6b8ae57efee6e141e3128097015c1a56e7182"), looks := true }, kinds := [], alts := [], laidByText := true, laidKinds := [.data, .data, .data, .data, .sentinel, .sentinel, .pinned], laidTests := true, laidLooks := .later }
def TreeSumsUptoCardSaid : Prop := Claim7.holds Tryz.pinned (.plain (OpenSpec.upto treeSumsSpec)) treeSumsUptoCard

/-- THE SECOND FORM's CARD OF 'idiomlaw20.TreeTypes'. -/
def treeTypesUptoCard : Claim7 := { stood := { row := treeTypesUptoRow, standIns := [], harness := (true, "7829cd2d6c02b9925f92907203b6b8ae57efee6e141e3128097015c1a56e7182"), looks := true }, kinds := [], alts := [], laidByText := true, laidKinds := [.data, .data, .data, .data, .sentinel, .sentinel, .pinned], laidTests := true, laidLooks := .later }
def TreeTypesUptoCardSaid : Prop := Claim7.holds Tryz.pinned (.plain (OpenSpec.upto treeTypesSpec)) treeTypesUptoCard

/-- THE SECOND FORM's CARD OF 'idiomlaw20.TreeModes'. -/
def treeModesUptoCard : Claim7 := { stood := { row := treeModesUptoRow, standIns := [], harness := (true, "7829cd2d6c02b9925f92907203b6b8ae57efee6e141e3128097015c1a56e7182"), looks := true }, kinds := [], alts := [], laidByText := true, laidKinds := [.data, .data, .data, .data, .sentinel, .sentinel, .pinned], laidTests := true, laidLooks := .later }
def TreeModesUptoCardSaid : Prop := Claim7.holds Tryz.pinned (.plain (OpenSpec.upto treeModesSpec)) treeModesUptoCard

/-- THE SECOND FORM's CARD OF 'idiomlaw21.UnparseBack'. -/
def unparseBackUptoCard : Claim7 := { stood := { row := unparseBackUptoRow, standIns := [], harness := (true, "7829cd2d6c02b9925f92907203b6b8ae57efee6e141e3128097015c1a56e7182"), looks := true }, kinds := [], alts := [], laidByText := true, laidKinds := [.data, .data, .data, .data, .sentinel, .sentinel, .pinned], laidTests := true, laidLooks := .later }
def UnparseBackUptoCardSaid : Prop := Claim7.holds Tryz.pinned (.plain (OpenSpec.upto unparseBackSpec)) unparseBackUptoCard

/-- THE SECOND FORM's CARD OF 'idiomlaw21.UnparseReads'. -/
def unparseReadsUptoCard : Claim7 := { stood := { row := unparseReadsUptoRow, standIns := [], harness := (true, "7829cd2d6c02b9925f92907203b6b8ae57efee6e141e3128097015c1a56e7182"), looks := true }, kinds := [], alts := [], laidByText := true, laidKinds := [.data, .data, .data, .data, .sentinel, .sentinel, .pinned], laidTests := true, laidLooks := .later }
def UnparseReadsUptoCardSaid : Prop := Claim7.holds Tryz.pinned (.plain (OpenSpec.upto unparseReadsSpec)) unparseReadsUptoCard
end Rows
end Go.Proofs.YtcpglgoiienhkaaGreatDoor
