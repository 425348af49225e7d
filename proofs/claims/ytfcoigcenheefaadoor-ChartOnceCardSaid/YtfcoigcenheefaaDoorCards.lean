/-
  DERIVED. GIVEN WITH THE SEED: THE CARDS: each row of YtfcoigcenheefaaDoorRows.lean that lists a variable, with what it lists TIED to the program's text (the seventh form; the later family's looks); each row that meets fmt, with fmt's text TOLD by the authors' own Lean function (tested against real Go, not proved from fmt's source: count such statements apart). THE CARD IS WHAT COUNTS. Prove the row's statement (the work); the ties are given (YtfcoigcenheefaaDoorTie.lean); close each card by the builder's one call (the guide's Derived/Test/ToyasCard.lean, 'card_holds'). Laid BY PROGRAM, IN A SANDBOX (cutbox-door.mjs). By AI agents, Wed Nov 11 2026. No macro, syntax, notation, axiom, sorry.
-/
import Derived.Test.YtfcoigcenheefaaDoorRows
import GoSem.ClaimSeven
namespace Go.Proofs.YtfcoigcenheefaaDoor
namespace Rows

/-- THE TIED CARD OF 'escapementlaw43.ChartHeads'. -/
def chartHeadsCard : Claim7 := { stood := { row := chartHeadsRow, standIns := [], harness := (true, "b52368ee66ca55165056e6d902429a52bd97161d3788ab111a9b1c79c2183396"), looks := false }, kinds := [], alts := [], laidByText := true, laidKinds := [.data], laidTests := true, laidLooks := .later }
def ChartHeadsCardSaid : Prop := Claim7.holds Tryd.pinned (.plain (OpenSpec.ofChange chartHeadsSpec)) chartHeadsCard

/-- THE TIED CARD OF 'escapementlaw30.ScriptRobins'. -/
def scriptRobinsCard : Claim7 := { stood := { row := scriptRobinsRow, standIns := [], harness := (true, "b52368ee66ca55165056e6d902429a52bd97161d3788ab111a9b1c79c2183396"), looks := false }, kinds := [], alts := [], laidByText := true, laidKinds := [.data, .data, .data], laidTests := true, laidLooks := .later }
def ScriptRobinsCardSaid : Prop := Claim7.holds Tryd.pinned (.plain (OpenSpec.ofChange scriptRobinsSpec)) scriptRobinsCard

/-- THE TIED CARD OF 'escapementlaw29.EventPrints'. -/
def eventPrintsCard : Claim7 := { stood := { row := eventPrintsRow, standIns := [], harness := (true, "b52368ee66ca55165056e6d902429a52bd97161d3788ab111a9b1c79c2183396"), looks := false }, kinds := [], alts := [], laidByText := true, laidKinds := [.data, .data, .data], laidTests := true, laidLooks := .later }
def EventPrintsCardSaid : Prop := Claim7.holds Tryd.pinned (.plain (OpenSpec.ofChange eventPrintsSpec)) eventPrintsCard

/-- THE TIED CARD OF 'escapementlaw10.AsmParses'. -/
def asmParsesCard : Claim7 := { stood := { row := asmParsesRow, standIns := [], harness := (true, "b52368ee66ca55165056e6d902429a52bd97161d3788ab111a9b1c79c2183396"), looks := false }, kinds := [], alts := [], laidByText := true, laidKinds := [.data, .data, .pinned], laidTests := true, laidLooks := .later }
def AsmParsesCardSaid : Prop := Claim7.holds Tryd.pinned (.plain (OpenSpec.ofChange asmParsesSpec)) asmParsesCard

/-- THE TIED CARD OF 'escapementlaw29.EventPicks'. -/
def eventPicksCard : Claim7 := { stood := { row := eventPicksRow, standIns := [], harness := (true, "b52368ee66ca55165056e6d902429a52bd97161d3788ab111a9b1c79c2183396"), looks := false }, kinds := [], alts := [], laidByText := true, laidKinds := [.data, .data, .data], laidTests := true, laidLooks := .later }
def EventPicksCardSaid : Prop := Claim7.holds Tryd.pinned (.plain (OpenSpec.ofChange eventPicksSpec)) eventPicksCard

/-- THE TIED CARD OF 'escapementlaw42.DumpPrints'. -/
def dumpPrintsCard : Claim7 := { stood := { row := dumpPrintsRow, standIns := [], harness := (true, "b52368ee66ca55165056e6d902429a52bd97161d3788ab111a9b1c79c2183396"), looks := false }, kinds := [], alts := [], laidByText := true, laidKinds := [.data, .data, .data], laidTests := true, laidLooks := .later }
def DumpPrintsCardSaid : Prop := Claim7.holds Tryd.pinned (.plain (OpenSpec.ofChange dumpPrintsSpec)) dumpPrintsCard

/-- THE TIED CARD OF 'escapementlaw36.SpanHolds'. -/
def spanHoldsCard : Claim7 := { stood := { row := spanHoldsRow, standIns := [], harness := (true, "b52368ee66ca55165056e6d902429a52bd97161d3788ab111a9b1c79c2183396"), looks := false }, kinds := [], alts := [], laidByText := true, laidKinds := [.data], laidTests := true, laidLooks := .later }
def SpanHoldsCardSaid : Prop := Claim7.holds Tryd.pinned (.plain (OpenSpec.ofChange spanHoldsSpec)) spanHoldsCard

/-- THE TIED CARD OF 'escapementlaw43.ChartOnce'. -/
def chartOnceCard : Claim7 := { stood := { row := chartOnceRow, standIns := [], harness := (true, "b52368ee66ca55165056e6d902429a52bd97161d3788ab111a9b1c79c2183396"), looks := false }, kinds := [], alts := [], laidByText := true, laidKinds := [.data, .data, .data, .data], laidTests := true, laidLooks := .later }
def ChartOnceCardSaid : Prop := Claim7.holds Tryd.pinned (.plain (OpenSpec.ofChange chartOnceSpec)) chartOnceCard

/-- THE TIED CARD OF 'escapementlaw36.SpanCalls'. -/
def spanCallsCard : Claim7 := { stood := { row := spanCallsRow, standIns := [], harness := (true, "b52368ee66ca55165056e6d902429a52bd97161d3788ab111a9b1c79c2183396"), looks := false }, kinds := [], alts := [], laidByText := true, laidKinds := [.data], laidTests := true, laidLooks := .later }
def SpanCallsCardSaid : Prop := Claim7.holds Tryd.pinned (.plain (OpenSpec.ofChange spanCallsSpec)) spanCallsCard

/-- THE SECOND FORM's CARD OF 'escapementlaw43.ChartHeads'. -/
def chartHeadsUptoCard : Claim7 := { stood := { row := chartHeadsUptoRow, standIns := [], harness := (true, "b52368ee66ca55165056e6d902429a52bd97161d3788ab111a9b1c79c2183396"), looks := false }, kinds := [], alts := [], laidByText := true, laidKinds := [.data], laidTests := true, laidLooks := .later }
def ChartHeadsUptoCardSaid : Prop := Claim7.holds Tryd.pinned (.plain (OpenSpec.upto chartHeadsSpec)) chartHeadsUptoCard

/-- THE SECOND FORM's CARD OF 'escapementlaw30.ScriptRobins'. -/
def scriptRobinsUptoCard : Claim7 := { stood := { row := scriptRobinsUptoRow, standIns := [], harness := (true, "b52368ee66ca55165056e6d902429a52bd97161d3788ab111a9b1c79c2183396"), looks := false }, kinds := [], alts := [], laidByText := true, laidKinds := [.data, .data, .data], laidTests := true, laidLooks := .later }
def ScriptRobinsUptoCardSaid : Prop := Claim7.holds Tryd.pinned (.plain (OpenSpec.upto scriptRobinsSpec)) scriptRobinsUptoCard

/-- THE SECOND FORM's CARD OF 'escapementlaw29.EventPrints'. -/
def eventPrintsUptoCard : Claim7 := { stood := { row := eventPrintsUptoRow, standIns := [], harness := (true, "b52368ee66ca55165056e6d902429a52bd97161d3788ab111a9b1c79c2183396"), looks := false }, kinds := [], alts := [], laidByText := true, laidKinds := [.data, .data, .data], laidTests := true, laidLooks := .later }
def EventPrintsUptoCardSaid : Prop := Claim7.holds Tryd.pinned (.plain (OpenSpec.upto eventPrintsSpec)) eventPrintsUptoCard

/-- THE SECOND FORM's CARD OF 'escapementlaw10.AsmParses'. -/
def asmParsesUptoCard : Claim7 := { stood := { row := asmParsesUptoRow, standIns := [], harness := (true, "b52368ee66ca55165056e6d902429a52bd97161d3788ab111a9b1c79c2183396"), looks := false }, kinds := [], alts := [], laidByText := true, laidKinds := [.data, .data, .pinned], laidTests := true, laidLooks := .later }
def AsmParsesUptoCardSaid : Prop := Claim7.holds Tryd.pinned (.plain (OpenSpec.upto asmParsesSpec)) asmParsesUptoCard

/-- THE SECOND FORM's CARD OF 'escapementlaw29.EventPicks'. -/
def eventPicksUptoCard : Claim7 := { stood := { row := eventPicksUptoRow, standIns := [], harness := (true, "b52368ee66ca55165056e6d902429a52bd97161d3788ab111a9b1c79c2183396"), looks := false }, kinds := [], alts := [], laidByText := true, laidKinds := [.data, .data, .data], laidTests := true, laidLooks := .later }
def EventPicksUptoCardSaid : Prop := Claim7.holds Tryd.pinned (.plain (OpenSpec.upto eventPicksSpec)) eventPicksUptoCard

/-- THE SECOND FORM's CARD OF 'escapementlaw42.DumpPrints'. -/
def dumpPrintsUptoCard : Claim7 := { stood := { row := dumpPrintsUptoRow, standIns := [], harness := (true, "b52368ee66ca55165056e6d902429a52bd97161d3788ab111a9b1c79c2183396"), looks := false }, kinds := [], alts := [], laidByText := true, laidKinds := [.data, .data, .data], laidTests := true, laidLooks := .later }
def DumpPrintsUptoCardSaid : Prop := Claim7.holds Tryd.pinned (.plain (OpenSpec.upto dumpPrintsSpec)) dumpPrintsUptoCard

/-- THE SECOND FORM's CARD OF 'escapementlaw36.SpanHolds'. -/
def spanHoldsUptoCard : Claim7 := { stood := { row := spanHoldsUptoRow, standIns := [], harness := (true, "b52368ee66ca55165056e6d902429a52bd97161d3788ab111a9b1c79c2183396"), looks := false }, kinds := [], alts := [], laidByText := true, laidKinds := [.data], laidTests := true, laidLooks := .later }
def SpanHoldsUptoCardSaid : Prop := Claim7.holds Tryd.pinned (.plain (OpenSpec.upto spanHoldsSpec)) spanHoldsUptoCard

/-- THE SECOND FORM's CARD OF 'escapementlaw43.ChartOnce'. -/
def chartOnceUptoCard : Claim7 := { stood := { row := chartOnceUptoRow, standIns := [], harness := (true, "b52368ee66ca55165056e6d902429a52bd97161d3788ab111a9b1c79c2183396"), looks := false }, kinds := [], alts := [], laidByText := true, laidKinds := [.data, .data, .data, .data], laidTests := true, laidLooks := .later }
def ChartOnceUptoCardSaid : Prop := Claim7.holds Tryd.pinned (.plain (OpenSpec.upto chartOnceSpec)) chartOnceUptoCard

/-- THE SECOND FORM's CARD OF 'escapementlaw36.SpanCalls'. -/
def spanCallsUptoCard : Claim7 := { stood := { row := spanCallsUptoRow, standIns := [], harness := (true, "b52368ee66ca55165056e6d902429a52bd97161d3788ab111a9b1c79c2183396"), looks := false }, kinds := [], alts := [], laidByText := true, laidKinds := [.data], laidTests := true, laidLooks := .later }
def SpanCallsUptoCardSaid : Prop := Claim7.holds Tryd.pinned (.plain (OpenSpec.upto spanCallsSpec)) spanCallsUptoCard
end Rows
end Go.Proofs.YtfcoigcenheefaaDoor
