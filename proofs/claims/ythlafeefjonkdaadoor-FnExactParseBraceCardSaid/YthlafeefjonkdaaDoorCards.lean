/-
  DERIVED. GIVEN WITH THE SEED: THE CARDS: each row of YthlafeefjonkdaaDoorRows.lean that lists a variable, with what it lists TIED to the program's text (the seventh form; the later family's looks); each row that meets fmt, with fmt's text TOLD by the authors' own Lean function (tested against real Go, not proved from fmt's source: count such statements apart). THE CARD IS WHAT COUNTS. Prove the row's statement (the work); the ties are given (YthlafeefjonkdaaDoorTie.lean); close each card by the builder's one call (the guide's Derived/Test/ToyasCard.lean, 'card_holds'). Laid BY PROGRAM, IN A SANDBOX (cutbox-door.mjs). By AI agents, Wed Nov 11 2026. No macro, syntax, notation, axiom, sorry.
-/
import Derived.Test.YthlafeefjonkdaaDoorRows
import GoSem.ClaimSeven
namespace Go.Proofs.YthlafeefjonkdaaDoor
namespace Rows

/-- THE TIED CARD OF 'laws.FnExactParseBrace'. -/
def fnExactParseBraceCard : Claim7 := { stood := { row := fnExactParseBraceRow, standIns := [], harness := (true, "19cc384582f2abee4526a253068425748d0c43f84f74d0c134038b82114447f0"), looks := false }, kinds := [], alts := [], laidByText := true, laidKinds := [.data, .pinned], laidTests := true, laidLooks := .later }
def FnExactParseBraceCardSaid : Prop := Claim7.holds Tryd.pinned (.plain (OpenSpec.ofChange fnExactParseBraceSpec)) fnExactParseBraceCard

/-- THE SECOND FORM's CARD OF 'laws.FnExactParseBrace'. -/
def fnExactParseBraceUptoCard : Claim7 := { stood := { row := fnExactParseBraceUptoRow, standIns := [], harness := (true, "19cc384582f2abee4526a253068425748d0c43f84f74d0c134038b82114447f0"), looks := false }, kinds := [], alts := [], laidByText := true, laidKinds := [.data, .pinned], laidTests := true, laidLooks := .later }
def FnExactParseBraceUptoCardSaid : Prop := Claim7.holds Tryd.pinned (.plain (OpenSpec.upto fnExactParseBraceSpec)) fnExactParseBraceUptoCard
end Rows
end Go.Proofs.YthlafeefjonkdaaDoor
