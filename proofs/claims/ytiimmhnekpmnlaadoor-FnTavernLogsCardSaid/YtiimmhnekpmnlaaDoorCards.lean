/-
  DERIVED. GIVEN WITH THE SEED: THE CARDS: each row of YtiimmhnekpmnlaaDoorRows.lean that lists a variable, with what it lists TIED to the program's text (the seventh form; the later family's looks); each row that meets fmt, with fmt's text TOLD by the authors' own Lean function (tested against real Go, not proved from fmt's source: count such statements apart). THE CARD IS WHAT COUNTS. Prove the row's statement (the work); the ties are given (YtiimmhnekpmnlaaDoorTie.lean); close each card by the builder's one call (the guide's Derived/Test/ToyasCard.lean, 'card_holds'). Laid BY PROGRAM, IN A SANDBOX (cutbox-door.mjs). By AI agents, Wed Nov 11 2026. No macro, syntax, notation, axiom, sorry.
-/
import Derived.Test.YtiimmhnekpmnlaaDoorRows
import GoSem.ClaimSeven
namespace Go.Proofs.YtiimmhnekpmnlaaDoor
namespace Rows

/-- THE TIED CARD OF 'laws.FnExactCrashLog'. -/
def fnExactCrashLogCard : Claim7 := { stood := { row := fnExactCrashLogRow, standIns := [], harness := (true, "05c323778e34f47adc027fc9625ba0a8387c0dd82604a776e7d56f9cc54f231a"), looks := false }, kinds := [], alts := [], laidByText := true, laidKinds := [.data, .data, .data], laidTests := true, laidLooks := .later }
def FnExactCrashLogCardSaid : Prop := Claim7.holds Tryd.pinned (.plain (OpenSpec.ofChange fnExactCrashLogSpec)) fnExactCrashLogCard

/-- THE TIED CARD OF 'laws.FnTavernLogs'. -/
def fnTavernLogsCard : Claim7 := { stood := { row := fnTavernLogsRow, standIns := [], harness := (true, "05c323778e34f47adc027fc9625ba0a8387c0dd82604a776e7d56f9cc54f231a"), looks := false }, kinds := [], alts := [], laidByText := true, laidKinds := [.data, .data, .data], laidTests := true, laidLooks := .later }
def FnTavernLogsCardSaid : Prop := Claim7.holds Tryd.pinned (.plain (OpenSpec.ofChange fnTavernLogsSpec)) fnTavernLogsCard

/-- THE SECOND FORM's CARD OF 'laws.FnExactCrashLog'. -/
def fnExactCrashLogUptoCard : Claim7 := { stood := { row := fnExactCrashLogUptoRow, standIns := [], harness := (true, "05c323778e34f47adc027fc9625ba0a8387c0dd82604a776e7d56f9cc54f231a"), looks := false }, kinds := [], alts := [], laidByText := true, laidKinds := [.data, .data, .data], laidTests := true, laidLooks := .later }
def FnExactCrashLogUptoCardSaid : Prop := Claim7.holds Tryd.pinned (.plain (OpenSpec.upto fnExactCrashLogSpec)) fnExactCrashLogUptoCard

/-- THE SECOND FORM's CARD OF 'laws.FnTavernLogs'. -/
def fnTavernLogsUptoCard : Claim7 := { stood := { row := fnTavernLogsUptoRow, standIns := [], harness := (true, "05c323778e34f47adc027fc9625ba0a8387c0dd82604a776e7d56f9cc54f231a"), looks := false }, kinds := [], alts := [], laidByText := true, laidKinds := [.data, .data, .data], laidTests := true, laidLooks := .later }
def FnTavernLogsUptoCardSaid : Prop := Claim7.holds Tryd.pinned (.plain (OpenSpec.upto fnTavernLogsSpec)) fnTavernLogsUptoCard
end Rows
end Go.Proofs.YtiimmhnekpmnlaaDoor
