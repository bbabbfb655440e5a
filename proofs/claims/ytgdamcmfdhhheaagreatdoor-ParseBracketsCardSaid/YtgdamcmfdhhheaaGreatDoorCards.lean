/-
  DERIVED. GIVEN WITH THE SEED: THE CARDS: each row of YtgdamcmfdhhheaaGreatDoorRows.lean that lists a variable, with what it lists TIED to the program's text (the seventh form; the later family's looks); each row that meets fmt, with fmt's text TOLD by the authors' own Lean function (tested against real Go, not proved from fmt's source: count such statements apart). THE CARD IS WHAT COUNTS. Prove the row's statement (the work); the ties are given (YtgdamcmfdhhheaaGreatDoorTie.lean); close each card by the builder's one call (the guide's Derived/Test/ToyasCard.lean, 'card_holds'). Laid BY PROGRAM, IN A SANDBOX (cutbox-door.mjs). By AI agents, Wed Nov 11 2026. No macro, syntax, notation, axiom, sorry.
-/
import Derived.Test.YtgdamcmfdhhheaaGreatDoorRows
import GoSem.ClaimSeven
namespace Go.Proofs.YtgdamcmfdhhheaaGreatDoor
namespace Rows

/-- THE TIED CARD OF 'bailifflaw04.ParseJoined'. -/
def parseJoinedCard : Claim7 := { stood := { row := parseJoinedRow, standIns := [], harness := (true, "f64429a8bd4060463c07a335ffe5ce37da5c8fbd9f6253cf19935b67441e7675"), looks := true }, kinds := [], alts := [], laidByText := true, laidKinds := [.data, .data, .data, .data, .pinned], laidTests := true, laidLooks := .later }
def ParseJoinedCardSaid : Prop := Claim7.holds Tryz.pinned (.plain (OpenSpec.ofChange parseJoinedSpec)) parseJoinedCard

/-- THE TIED CARD OF 'bailifflaw04.ParseNested'. -/
def parseNestedCard : Claim7 := { stood := { row := parseNestedRow, standIns := [], harness := (true, "f64429a8bd4060463c07a335ffe5ce37da5c8fbd9f6253cf19935b67441e7675"), looks := true }, kinds := [], alts := [], laidByText := true, laidKinds := [.data, .data, .data, .data, .pinned], laidTests := true, laidLooks := .later }
def ParseNestedCardSaid : Prop := Claim7.holds Tryz.pinned (.plain (OpenSpec.ofChange parseNestedSpec)) parseNestedCard

/-- THE TIED CARD OF 'bailifflaw04.ParseBrackets'. -/
def parseBracketsCard : Claim7 := { stood := { row := parseBracketsRow, standIns := [], harness := (true, "f64429a8bd4060463c07a335ffe5ce37da5c8fbd9f6253cf19935b67441e7675"), looks := true }, kinds := [], alts := [], laidByText := true, laidKinds := [.data, .data, .data, .data, .pinned], laidTests := true, laidLooks := .later }
def ParseBracketsCardSaid : Prop := Claim7.holds Tryz.pinned (.plain (OpenSpec.ofChange parseBracketsSpec)) parseBracketsCard

/-- THE TIED CARD OF 'bailifflaw04.ParseNames'. -/
def parseNamesCard : Claim7 := { stood := { row := parseNamesRow, standIns := [], harness := (true, "f64429a8bd4060463c07a335ffe5ce37da5c8fbd9f6253cf19935b67441e7675"), looks := true }, kinds := [], alts := [], laidByText := true, laidKinds := [.data, .data, .data, .data, .pinned], laidTests := true, laidLooks := .later }
def ParseNamesCardSaid : Prop := Claim7.holds Tryz.pinned (.plain (OpenSpec.ofChange parseNamesSpec)) parseNamesCard

/-- THE TIED CARD OF 'bailifflaw04.ParseBack'. -/
def parseBackCard : Claim7 := { stood := { row := parseBackRow, standIns := [], harness := (true, "f64429a8bd4060463c07a335ffe5ce37da5c8fbd9f6253cf19935b67441e7675"), looks := true }, kinds := [], alts := [], laidByText := true, laidKinds := [.data, .data, .data, .data, .pinned], laidTests := true, laidLooks := .later }
def ParseBackCardSaid : Prop := Claim7.holds Tryz.pinned (.plain (OpenSpec.ofChange parseBackSpec)) parseBackCard

/-- THE SECOND FORM's CARD OF 'bailifflaw04.ParseJoined'. -/
def parseJoinedUptoCard : Claim7 := { stood := { row := parseJoinedUptoRow, standIns := [], harness := (true, "f64429a8bd4060463c07a335ffe5ce37da5c8fbd9f6253cf19935b67441e7675"), looks := true }, kinds := [], alts := [], laidByText := true, laidKinds := [.data, .data, .data, .data, .pinned], laidTests := true, laidLooks := .later }
def ParseJoinedUptoCardSaid : Prop := Claim7.holds Tryz.pinned (.plain (OpenSpec.upto parseJoinedSpec)) parseJoinedUptoCard

/-- THE SECOND FORM's CARD OF 'bailifflaw04.ParseNested'. -/
def parseNestedUptoCard : Claim7 := { stood := { row := parseNestedUptoRow, standIns := [], harness := (true, "f64429a8bd4060463c07a335ffe5ce37da5c8fbd9f6253cf19935b67441e7675"), looks := true }, kinds := [], alts := [], laidByText := true, laidKinds := [.data, .data, .data, .data, .pinned], laidTests := true, laidLooks := .later }
def ParseNestedUptoCardSaid : Prop := Claim7.holds Tryz.pinned (.plain (OpenSpec.upto parseNestedSpec)) parseNestedUptoCard

/-- THE SECOND FORM's CARD OF 'bailifflaw04.ParseBrackets'. -/
def parseBracketsUptoCard : Claim7 := { stood := { row := parseBracketsUptoRow, standIns := [], harness := (true, "f64429a8bd4060463c07a335ffe5ce37da5c8fbd9f6253cf19935b67441e7675"), looks := true }, kinds := [], alts := [], laidByText := true, laidKinds := [.data, .data, .data, .data, .pinned], laidTests := true, laidLooks := .later }
def ParseBracketsUptoCardSaid : Prop := Claim7.holds Tryz.pinned (.plain (OpenSpec.upto parseBracketsSpec)) parseBracketsUptoCard

/-- THE SECOND FORM's CARD OF 'bailifflaw04.ParseNames'. -/
def parseNamesUptoCard : Claim7 := { stood := { row := parseNamesUptoRow, standIns := [], harness := (true, "f64429a8bd4060463c07a335ffe5ce37da5c8fbd9f6253cf19935b67441e7675"), looks := true }, kinds := [], alts := [], laidByText := true, laidKinds := [.data, .data, .data, .data, .pinned], laidTests := true, laidLooks := .later }
def ParseNamesUptoCardSaid : Prop := Claim7.holds Tryz.pinned (.plain (OpenSpec.upto parseNamesSpec)) parseNamesUptoCard

/-- THE SECOND FORM's CARD OF 'bailifflaw04.ParseBack'. -/
def parseBackUptoCard : Claim7 := { stood := { row := parseBackUptoRow, standIns := [], harness := (true, "f64429a8bd4060463c07a335ffe5ce37da5c8fbd9f6253cf19935b67441e7675"), looks := true }, kinds := [], alts := [], laidByText := true, laidKinds := [.data, .data, .data, .data, .pinned], laidTests := true, laidLooks := .later }
def ParseBackUptoCardSaid : Prop := Claim7.holds Tryz.pinned (.plain (OpenSpec.upto parseBackSpec)) parseBackUptoCard
end Rows
end Go.Proofs.YtgdamcmfdhhheaaGreatDoor
