/-
  DERIVED. GIVEN WITH THE SEED: THE CARDS: each row of YtfignfohcalcfaaGreatDoorRows.lean that lists a variable, with what it lists TIED to the program's text (the seventh form; the later family's looks); each row that meets fmt, with fmt's text TOLD by the authors' own Lean function (tested against real Go, not proved from fmt's source: count such statements apart). THE CARD IS WHAT COUNTS. Prove the row's statement (the work); the ties are given (YtfignfohcalcfaaGreatDoorTie.lean); close each card by the builder's one call (the guide's Derived/Test/ToyasCard.lean, 'card_holds'). Laid BY PROGRAM, IN A SANDBOX (cutbox-door.mjs). By AI agents, Wed Nov 11 2026. No macro, syntax, notation, axiom, sorry.
-/
import Derived.Test.YtfignfohcalcfaaGreatDoorRows
import GoSem.ClaimSeven
namespace Go.Proofs.YtfignfohcalcfaaGreatDoor
namespace Rows

/-- THE TIED CARD OF 'zoetropelaw27.ConsoleBegins'. -/
def consoleBeginsCard : Claim7 := { stood := { row := consoleBeginsRow, standIns := [], harness := (true, "41aab6dd787a1bbcc86b00c11f72dbf3682c40efe18301f2c6dddb20c8108924"), looks := true }, kinds := [], alts := [], laidByText := true, laidKinds := [.data, .data, .data, .data, .sentinel, .sentinel, .pinned], laidTests := true, laidLooks := .later }
def ConsoleBeginsCardSaid : Prop := Claim7.holds Tryz.pinned (.plain (OpenSpec.ofChange consoleBeginsSpec)) consoleBeginsCard

/-- THE TIED CARD OF 'zoetropelaw27.ConsoleCodes'. -/
def consoleCodesCard : Claim7 := { stood := { row := consoleCodesRow, standIns := [], harness := (true, "41aab6dd787a1bbcc86b00c11f72dbf3682c40efe18301f2c6dddb20c8108924"), looks := true }, kinds := [], alts := [], laidByText := true, laidKinds := [.data, .data, .data, .data, .sentinel, .sentinel, .pinned], laidTests := true, laidLooks := .later }
def ConsoleCodesCardSaid : Prop := Claim7.holds Tryz.pinned (.plain (OpenSpec.ofChange consoleCodesSpec)) consoleCodesCard

/-- THE TIED CARD OF 'zoetropelaw27.ConsoleForwards'. -/
def consoleForwardsCard : Claim7 := { stood := { row := consoleForwardsRow, standIns := [], harness := (true, "41aab6dd787a1bbcc86b00c11f72dbf3682c40efe18301f2c6dddb20c8108924"), looks := true }, kinds := [], alts := [], laidByText := true, laidKinds := [.data, .data, .data, .data, .sentinel, .sentinel, .pinned], laidTests := true, laidLooks := .later }
def ConsoleForwardsCardSaid : Prop := Claim7.holds Tryz.pinned (.plain (OpenSpec.ofChange consoleForwardsSpec)) consoleForwardsCard

/-- THE TIED CARD OF 'zoetropelaw27.ConsoleBlanks'. -/
def consoleBlanksCard : Claim7 := { stood := { row := consoleBlanksRow, standIns := [], harness := (true, "41aab6dd787a1bbcc86b00c11f72dbf3682c40efe18301f2c6dddb20c8108924"), looks := true }, kinds := [], alts := [], laidByText := true, laidKinds := [.data, .data, .data, .data, .sentinel, .sentinel, .pinned], laidTests := true, laidLooks := .later }
def ConsoleBlanksCardSaid : Prop := Claim7.holds Tryz.pinned (.plain (OpenSpec.ofChange consoleBlanksSpec)) consoleBlanksCard

/-- THE SECOND FORM's CARD OF 'zoetropelaw27.ConsoleBegins'. -/
def consoleBeginsUptoCard : Claim7 := { stood := { row := consoleBeginsUptoRow, standIns := [], harness := (true, "41aab6dd787a1bbcc86b00c11f72dbf3682c40efe18301f2c6dddb20c8108924"), looks := true }, kinds := [], alts := [], laidByText := true, laidKinds := [.data, .data, .data, .data, .sentinel, .sentinel, .pinned], laidTests := true, laidLooks := .later }
def ConsoleBeginsUptoCardSaid : Prop := Claim7.holds Tryz.pinned (.plain (OpenSpec.upto consoleBeginsSpec)) consoleBeginsUptoCard

/-- THE SECOND FORM's CARD OF 'zoetropelaw27.ConsoleCodes'. -/
def consoleCodesUptoCard : Claim7 := { stood := { row := consoleCodesUptoRow, standIns := [], harness := (true, "41aab6dd787a1bbcc86b00c11f72dbf3682c40efe18301f2c6dddb20c8108924"), looks := true }, kinds := [], alts := [], laidByText := true, laidKinds := [.data, .data, .data, .data, .sentinel, .sentinel, .pinned], laidTests := true, laidLooks := .later }
def ConsoleCodesUptoCardSaid : Prop := Claim7.holds Tryz.pinned (.plain (OpenSpec.upto consoleCodesSpec)) consoleCodesUptoCard

/-- THE SECOND FORM's CARD OF 'zoetropelaw27.ConsoleForwards'. -/
def consoleForwardsUptoCard : Claim7 := { stood := { row := consoleForwardsUptoRow, standIns := [], harness := (true, "41aab6dd787a1bbcc86b00c11f72dbf3682c40efe18301f2c6dddb20c8108924"), looks := true }, kinds := [], alts := [], laidByText := true, laidKinds := [.data, .data, .data, .data, .sentinel, .sentinel, .pinned], laidTests := true, laidLooks := .later }
def ConsoleForwardsUptoCardSaid : Prop := Claim7.holds Tryz.pinned (.plain (OpenSpec.upto consoleForwardsSpec)) consoleForwardsUptoCard

/-- THE SECOND FORM's CARD OF 'zoetropelaw27.ConsoleBlanks'. -/
def consoleBlanksUptoCard : Claim7 := { stood := { row := consoleBlanksUptoRow, standIns := [], harness := (true, "41aab6dd787a1bbcc86b00c11f72dbf3682c40efe18301f2c6dddb20c8108924"), looks := true }, kinds := [], alts := [], laidByText := true, laidKinds := [.data, .data, .data, .data, .sentinel, .sentinel, .pinned], laidTests := true, laidLooks := .later }
def ConsoleBlanksUptoCardSaid : Prop := Claim7.holds Tryz.pinned (.plain (OpenSpec.upto consoleBlanksSpec)) consoleBlanksUptoCard
end Rows
end Go.Proofs.YtfignfohcalcfaaGreatDoor
