/-
  DERIVED. GIVEN WITH THE SEED: THE CARDS: each row of YthlafeefjonkdaaGreatDoorRows.lean that lists a variable, with what it lists TIED to the program's text (the seventh form; the later family's looks); each row that meets fmt, with fmt's text TOLD by the authors' own Lean function (tested against real Go, not proved from fmt's source: count such statements apart). THE CARD IS WHAT COUNTS. Prove the row's statement (the work); the ties are given (YthlafeefjonkdaaGreatDoorTie.lean); close each card by the builder's one call (the guide's Derived/Test/ToyasCard.lean, 'card_holds'). Laid BY PROGRAM, IN A SANDBOX (cutbox-door.mjs). By AI agents, Wed Nov 11 2026. No macro, syntax, notation, axiom, sorry.
-/
import Derived.Test.YthlafeefjonkdaaGreatDoorRows
import GoSem.ClaimSeven
namespace Go.Proofs.YthlafeefjonkdaaGreatDoor
namespace Rows

/-- THE TIED CARD OF 'laws.FnBraceForms'. -/
def fnBraceFormsCard : Claim7 := { stood := { row := fnBraceFormsRow, standIns := [], harness := (true, "513ce742de0a6df9c355df140272a0f55e3fad88b3048dd20e03bf85323a196f"), looks := false }, kinds := [], alts := [], laidByText := true, laidKinds := [.data, .pinned], laidTests := true, laidLooks := .later }
def FnBraceFormsCardSaid : Prop := Claim7.holds Tryz.pinned (.plain (OpenSpec.ofChange fnBraceFormsSpec)) fnBraceFormsCard

/-- THE SECOND FORM's CARD OF 'laws.FnBraceForms'. -/
def fnBraceFormsUptoCard : Claim7 := { stood := { row := fnBraceFormsUptoRow, standIns := [], harness := (true, "513ce742de0a6df9c355df140272a0f55e3fad88b3048dd20e03bf85323a196f"), looks := false }, kinds := [], alts := [], laidByText := true, laidKinds := [.data, .pinned], laidTests := true, laidLooks := .later }
def FnBraceFormsUptoCardSaid : Prop := Claim7.holds Tryz.pinned (.plain (OpenSpec.upto fnBraceFormsSpec)) fnBraceFormsUptoCard
end Rows
end Go.Proofs.YthlafeefjonkdaaGreatDoor
