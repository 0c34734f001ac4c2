/-
  No cell of these rows narrows 'for every input' (looked for: loops, veiled, ifaces, maps, wideKeys, modest, calm, conditions, laid).
  DERIVED. THE GIVEN ROWS OF THIS SEAT. 12 by the template 'for every input the law returns true; each argument reads behind the call as it read before'; 0 by the template 'total and deterministic' (their statements: YtncmfbebdbchbaaTotals.lean).
  GIVEN WITH THE SEED: the statements are not yours to turn. If you find one false, say at which input.
  Laid BY PROGRAM, IN A SANDBOX (cutbox-rows.mjs): the forced cells as the released guide's own fill.sh prints them over the translation df8936c66eefb3ed… (all of the seat's roots in one cut). By AI agents, Wed Nov 11 2026. No macro, syntax, notation, axiom, sorry.
-/
import Derived.Test.YtncmfbebdbchbaaChecked
import GoSem.Claim
import GoSem.ClaimJoined
import GoSem.ClaimMapViews
import Derived.JoinedTies
import Derived.KernelRfl
namespace Go.Proofs.Ytncmfbebdbchbaa
/- THE CELL 'sum', in the pinned program and in every row, IS THE sha256 OF THE DUMP (.gsa) THAT YtncmfbebdbchbaaProg.lean LOADS. Nothing in Lean hashes anything: it is a label: what it is worth is what the hold of that sum in a sandbox is worth. -/
noncomputable def Try.pinned : Pinned := { name := "ytncmfbebdbchbaa", sum := "df8936c66eefb3ede015dfac0f287e802d84e50eaa6709a5c3b947909eb05830", checked := Try.checked }
namespace Rows
def none {H : Type} : Left H := { results := [], args := [] }

/-- 'laws.FnExactGroupConjugation': WHATEVER THE INPUT: true; the input reads as it did. -/
def fnExactGroupConjugationSpec : ChangeSpec := { name := "fnExactGroupConjugation", fn := fun _ => fun
  | [d] => { results := [.lit (.bool true)], args := [d] }
  | _ => none }
def fnExactGroupConjugationRow : OpenClaim := { program := "ytncmfbebdbchbaa", sum := "df8936c66eefb3ede015dfac0f287e802d84e50eaa6709a5c3b947909eb05830", func := "loop.example/g01119/laws.FnExactGroupConjugation", spec := "fnExactGroupConjugation", unfollowed := true, recurses := true, apart := false }
def FnExactGroupConjugationSaid : Prop := fnExactGroupConjugationRow.holds Try.pinned (OpenSpec.ofChange fnExactGroupConjugationSpec)

/-- ITS FALSE NEIGHBOUR: 'it returns false'. Refute it at one input. -/
def fnExactGroupConjugationWrong : ChangeSpec := { name := "fnExactGroupConjugation", fn := fun _ => fun
  | [d] => { results := [.lit (.bool false)], args := [d] }
  | _ => none }
def FnExactGroupConjugationWrongFalsely : Prop := fnExactGroupConjugationRow.holds Try.pinned (OpenSpec.ofChange fnExactGroupConjugationWrong)

/-- 'laws.FnExactStarOf': WHATEVER THE INPUT: true; the input reads as it did. -/
def fnExactStarOfSpec : ChangeSpec := { name := "fnExactStarOf", fn := fun _ => fun
  | [d1, d2, d3] => { results := [.lit (.bool true)], args := [d1, d2, d3] }
  | _ => none }
def fnExactStarOfRow : OpenClaim := { program := "ytncmfbebdbchbaa", sum := "df8936c66eefb3ede015dfac0f287e802d84e50eaa6709a5c3b947909eb05830", func := "loop.example/g01119/laws.FnExactStarOf", spec := "fnExactStarOf", unfollowed := true, recurses := true, apart := false }
def FnExactStarOfSaid : Prop := fnExactStarOfRow.holds Try.pinned (OpenSpec.ofChange fnExactStarOfSpec)

/-- ITS FALSE NEIGHBOUR: 'it returns false'. Refute it at one input. -/
def fnExactStarOfWrong : ChangeSpec := { name := "fnExactStarOf", fn := fun _ => fun
  | [d1, d2, d3] => { results := [.lit (.bool false)], args := [d1, d2, d3] }
  | _ => none }
def FnExactStarOfWrongFalsely : Prop := fnExactStarOfRow.holds Try.pinned (OpenSpec.ofChange fnExactStarOfWrong)

/-- 'laws.FnExactFixedOf': WHATEVER THE INPUT: true; the input reads as it did. -/
def fnExactFixedOfSpec : ChangeSpec := { name := "fnExactFixedOf", fn := fun _ => fun
  | [d] => { results := [.lit (.bool true)], args := [d] }
  | _ => none }
def fnExactFixedOfRow : OpenClaim := { program := "ytncmfbebdbchbaa", sum := "df8936c66eefb3ede015dfac0f287e802d84e50eaa6709a5c3b947909eb05830", func := "loop.example/g01119/laws.FnExactFixedOf", spec := "fnExactFixedOf", unfollowed := true, recurses := true, apart := false }
def FnExactFixedOfSaid : Prop := fnExactFixedOfRow.holds Try.pinned (OpenSpec.ofChange fnExactFixedOfSpec)

/-- ITS FALSE NEIGHBOUR: 'it returns false'. Refute it at one input. -/
def fnExactFixedOfWrong : ChangeSpec := { name := "fnExactFixedOf", fn := fun _ => fun
  | [d] => { results := [.lit (.bool false)], args := [d] }
  | _ => none }
def FnExactFixedOfWrongFalsely : Prop := fnExactFixedOfRow.holds Try.pinned (OpenSpec.ofChange fnExactFixedOfWrong)

/-- 'laws.FnExactIsNormalIn': WHATEVER THE INPUT: true; the input reads as it did. -/
def fnExactIsNormalInSpec : ChangeSpec := { name := "fnExactIsNormalIn", fn := fun _ => fun
  | [d1, d2] => { results := [.lit (.bool true)], args := [d1, d2] }
  | _ => none }
def fnExactIsNormalInRow : OpenClaim := { program := "ytncmfbebdbchbaa", sum := "df8936c66eefb3ede015dfac0f287e802d84e50eaa6709a5c3b947909eb05830", func := "loop.example/g01119/laws.FnExactIsNormalIn", spec := "fnExactIsNormalIn", unfollowed := true, recurses := true, apart := false }
def FnExactIsNormalInSaid : Prop := fnExactIsNormalInRow.holds Try.pinned (OpenSpec.ofChange fnExactIsNormalInSpec)

/-- ITS FALSE NEIGHBOUR: 'it returns false'. Refute it at one input. -/
def fnExactIsNormalInWrong : ChangeSpec := { name := "fnExactIsNormalIn", fn := fun _ => fun
  | [d1, d2] => { results := [.lit (.bool false)], args := [d1, d2] }
  | _ => none }
def FnExactIsNormalInWrongFalsely : Prop := fnExactIsNormalInRow.holds Try.pinned (OpenSpec.ofChange fnExactIsNormalInWrong)

/-- 'laws.FnExactSocleOf': WHATEVER THE INPUT: true; the input reads as it did. -/
def fnExactSocleOfSpec : ChangeSpec := { name := "fnExactSocleOf", fn := fun _ => fun
  | [d] => { results := [.lit (.bool true)], args := [d] }
  | _ => none }
def fnExactSocleOfRow : OpenClaim := { program := "ytncmfbebdbchbaa", sum := "df8936c66eefb3ede015dfac0f287e802d84e50eaa6709a5c3b947909eb05830", func := "loop.example/g01119/laws.FnExactSocleOf", spec := "fnExactSocleOf", unfollowed := true, recurses := true, apart := false }
def FnExactSocleOfSaid : Prop := fnExactSocleOfRow.holds Try.pinned (OpenSpec.ofChange fnExactSocleOfSpec)

/-- ITS FALSE NEIGHBOUR: 'it returns false'. Refute it at one input. -/
def fnExactSocleOfWrong : ChangeSpec := { name := "fnExactSocleOf", fn := fun _ => fun
  | [d] => { results := [.lit (.bool false)], args := [d] }
  | _ => none }
def FnExactSocleOfWrongFalsely : Prop := fnExactSocleOfRow.holds Try.pinned (OpenSpec.ofChange fnExactSocleOfWrong)

/-- 'laws.FnExactClassesOf': WHATEVER THE INPUT: true; the input reads as it did. -/
def fnExactClassesOfSpec : ChangeSpec := { name := "fnExactClassesOf", fn := fun _ => fun
  | [d] => { results := [.lit (.bool true)], args := [d] }
  | _ => none }
def fnExactClassesOfRow : OpenClaim := { program := "ytncmfbebdbchbaa", sum := "df8936c66eefb3ede015dfac0f287e802d84e50eaa6709a5c3b947909eb05830", func := "loop.example/g01119/laws.FnExactClassesOf", spec := "fnExactClassesOf", unfollowed := true, recurses := true, apart := false }
def FnExactClassesOfSaid : Prop := fnExactClassesOfRow.holds Try.pinned (OpenSpec.ofChange fnExactClassesOfSpec)

/-- ITS FALSE NEIGHBOUR: 'it returns false'. Refute it at one input. -/
def fnExactClassesOfWrong : ChangeSpec := { name := "fnExactClassesOf", fn := fun _ => fun
  | [d] => { results := [.lit (.bool false)], args := [d] }
  | _ => none }
def FnExactClassesOfWrongFalsely : Prop := fnExactClassesOfRow.holds Try.pinned (OpenSpec.ofChange fnExactClassesOfWrong)

/-- 'laws.FnExactTurnedBrace': WHATEVER THE INPUT: true; the input reads as it did. -/
def fnExactTurnedBraceSpec : ChangeSpec := { name := "fnExactTurnedBrace", fn := fun _ => fun
  | [d] => { results := [.lit (.bool true)], args := [d] }
  | _ => none }
def fnExactTurnedBraceRow : OpenClaim := { program := "ytncmfbebdbchbaa", sum := "df8936c66eefb3ede015dfac0f287e802d84e50eaa6709a5c3b947909eb05830", func := "loop.example/g01119/laws.FnExactTurnedBrace", spec := "fnExactTurnedBrace", unfollowed := true, recurses := true, apart := false }
def FnExactTurnedBraceSaid : Prop := fnExactTurnedBraceRow.holds Try.pinned (OpenSpec.ofChange fnExactTurnedBraceSpec)

/-- ITS FALSE NEIGHBOUR: 'it returns false'. Refute it at one input. -/
def fnExactTurnedBraceWrong : ChangeSpec := { name := "fnExactTurnedBrace", fn := fun _ => fun
  | [d] => { results := [.lit (.bool false)], args := [d] }
  | _ => none }
def FnExactTurnedBraceWrongFalsely : Prop := fnExactTurnedBraceRow.holds Try.pinned (OpenSpec.ofChange fnExactTurnedBraceWrong)

/-- 'laws.FnExactLambdaOf': WHATEVER THE INPUT: true; the input reads as it did. -/
def fnExactLambdaOfSpec : ChangeSpec := { name := "fnExactLambdaOf", fn := fun _ => fun
  | [d] => { results := [.lit (.bool true)], args := [d] }
  | _ => none }
def fnExactLambdaOfRow : OpenClaim := { program := "ytncmfbebdbchbaa", sum := "df8936c66eefb3ede015dfac0f287e802d84e50eaa6709a5c3b947909eb05830", func := "loop.example/g01119/laws.FnExactLambdaOf", spec := "fnExactLambdaOf", unfollowed := true, recurses := true, apart := false }
def FnExactLambdaOfSaid : Prop := fnExactLambdaOfRow.holds Try.pinned (OpenSpec.ofChange fnExactLambdaOfSpec)

/-- ITS FALSE NEIGHBOUR: 'it returns false'. Refute it at one input. -/
def fnExactLambdaOfWrong : ChangeSpec := { name := "fnExactLambdaOf", fn := fun _ => fun
  | [d] => { results := [.lit (.bool false)], args := [d] }
  | _ => none }
def FnExactLambdaOfWrongFalsely : Prop := fnExactLambdaOfRow.holds Try.pinned (OpenSpec.ofChange fnExactLambdaOfWrong)

/-- 'laws.FnExactAnnihilatorOf': WHATEVER THE INPUT: true; the input reads as it did. -/
def fnExactAnnihilatorOfSpec : ChangeSpec := { name := "fnExactAnnihilatorOf", fn := fun _ => fun
  | [d] => { results := [.lit (.bool true)], args := [d] }
  | _ => none }
def fnExactAnnihilatorOfRow : OpenClaim := { program := "ytncmfbebdbchbaa", sum := "df8936c66eefb3ede015dfac0f287e802d84e50eaa6709a5c3b947909eb05830", func := "loop.example/g01119/laws.FnExactAnnihilatorOf", spec := "fnExactAnnihilatorOf", unfollowed := true, recurses := true, apart := false }
def FnExactAnnihilatorOfSaid : Prop := fnExactAnnihilatorOfRow.holds Try.pinned (OpenSpec.ofChange fnExactAnnihilatorOfSpec)

/-- ITS FALSE NEIGHBOUR: 'it returns false'. Refute it at one input. -/
def fnExactAnnihilatorOfWrong : ChangeSpec := { name := "fnExactAnnihilatorOf", fn := fun _ => fun
  | [d] => { results := [.lit (.bool false)], args := [d] }
  | _ => none }
def FnExactAnnihilatorOfWrongFalsely : Prop := fnExactAnnihilatorOfRow.holds Try.pinned (OpenSpec.ofChange fnExactAnnihilatorOfWrong)

/-- 'laws.FnExactIsTrivialBrace': WHATEVER THE INPUT: true; the input reads as it did. -/
def fnExactIsTrivialBraceSpec : ChangeSpec := { name := "fnExactIsTrivialBrace", fn := fun _ => fun
  | [d] => { results := [.lit (.bool true)], args := [d] }
  | _ => none }
def fnExactIsTrivialBraceRow : OpenClaim := { program := "ytncmfbebdbchbaa", sum := "df8936c66eefb3ede015dfac0f287e802d84e50eaa6709a5c3b947909eb05830", func := "loop.example/g01119/laws.FnExactIsTrivialBrace", spec := "fnExactIsTrivialBrace", unfollowed := true, recurses := true, apart := false }
def FnExactIsTrivialBraceSaid : Prop := fnExactIsTrivialBraceRow.holds Try.pinned (OpenSpec.ofChange fnExactIsTrivialBraceSpec)

/-- ITS FALSE NEIGHBOUR: 'it returns false'. Refute it at one input. -/
def fnExactIsTrivialBraceWrong : ChangeSpec := { name := "fnExactIsTrivialBrace", fn := fun _ => fun
  | [d] => { results := [.lit (.bool false)], args := [d] }
  | _ => none }
def FnExactIsTrivialBraceWrongFalsely : Prop := fnExactIsTrivialBraceRow.holds Try.pinned (OpenSpec.ofChange fnExactIsTrivialBraceWrong)

/-- 'laws.FnExactProductBrace': WHATEVER THE INPUT: true; the input reads as it did. -/
def fnExactProductBraceSpec : ChangeSpec := { name := "fnExactProductBrace", fn := fun _ => fun
  | [d1, d2] => { results := [.lit (.bool true)], args := [d1, d2] }
  | _ => none }
def fnExactProductBraceRow : OpenClaim := { program := "ytncmfbebdbchbaa", sum := "df8936c66eefb3ede015dfac0f287e802d84e50eaa6709a5c3b947909eb05830", func := "loop.example/g01119/laws.FnExactProductBrace", spec := "fnExactProductBrace", unfollowed := true, recurses := true, apart := false }
def FnExactProductBraceSaid : Prop := fnExactProductBraceRow.holds Try.pinned (OpenSpec.ofChange fnExactProductBraceSpec)

/-- ITS FALSE NEIGHBOUR: 'it returns false'. Refute it at one input. -/
def fnExactProductBraceWrong : ChangeSpec := { name := "fnExactProductBrace", fn := fun _ => fun
  | [d1, d2] => { results := [.lit (.bool false)], args := [d1, d2] }
  | _ => none }
def FnExactProductBraceWrongFalsely : Prop := fnExactProductBraceRow.holds Try.pinned (OpenSpec.ofChange fnExactProductBraceWrong)

/-- 'laws.FnExactIsClassicalBrace': WHATEVER THE INPUT: true; the input reads as it did. -/
def fnExactIsClassicalBraceSpec : ChangeSpec := { name := "fnExactIsClassicalBrace", fn := fun _ => fun
  | [d] => { results := [.lit (.bool true)], args := [d] }
  | _ => none }
def fnExactIsClassicalBraceRow : OpenClaim := { program := "ytncmfbebdbchbaa", sum := "df8936c66eefb3ede015dfac0f287e802d84e50eaa6709a5c3b947909eb05830", func := "loop.example/g01119/laws.FnExactIsClassicalBrace", spec := "fnExactIsClassicalBrace", unfollowed := true, recurses := true, apart := false }
def FnExactIsClassicalBraceSaid : Prop := fnExactIsClassicalBraceRow.holds Try.pinned (OpenSpec.ofChange fnExactIsClassicalBraceSpec)

/-- ITS FALSE NEIGHBOUR: 'it returns false'. Refute it at one input. -/
def fnExactIsClassicalBraceWrong : ChangeSpec := { name := "fnExactIsClassicalBrace", fn := fun _ => fun
  | [d] => { results := [.lit (.bool false)], args := [d] }
  | _ => none }
def FnExactIsClassicalBraceWrongFalsely : Prop := fnExactIsClassicalBraceRow.holds Try.pinned (OpenSpec.ofChange fnExactIsClassicalBraceWrong)

/- THE SECOND FORM. 'bulk': how many values and letters a reading holds, each counted each time it is reached (what is shared counts as often as it is met; a slice's spare places count too). A statement '..UptoSaid' is the law's where the arguments, and the package variables that the reading takes, are together of bulk at most 1048576: NARROWER than '..Said'. Prove '..Said' where nothing that the law and all that it calls make is longer than what came in: it says more and counts as full. Else prove '..UptoSaid'. A law counts once. -/
mutual
def uptoBulk {H : Type} : DataW H → Nat
  | .lit (.string bytes) => bytes.length + 1
  | .lit _ => 1
  | .nil => 1
  | .ptr d => uptoBulk d + 1
  | .slice elems spare => uptoBulkAll elems + uptoBulkAll spare + 1
  | .agg parts => uptoBulkAll parts + 1
  | .iface _ d => uptoBulk d + 1
  | .map entries => uptoBulkEntries entries + 1
  | .held _ => 1
def uptoBulkAll {H : Type} : List (DataW H) → Nat
  | [] => 0
  | d :: r => uptoBulk d + uptoBulkAll r
def uptoBulkEntries {H : Type} : List (Lit × DataW H) → Nat
  | [] => 0
  | x :: r => uptoBulkEntry x + uptoBulkEntries r
def uptoBulkEntry {H : Type} : Lit × DataW H → Nat
  | (.string bytes, d) => bytes.length + uptoBulk d + 1
  | (_, d) => uptoBulk d + 1
 end
def uptoSmall : (H : Type) → List (DataW H) → Bool := fun _ ds => decide (uptoBulkAll ds ≤ 1048576)
def OpenSpec.upto (s : _root_.Go.ChangeSpec) : _root_.Go.OpenSpec := { _root_.Go.OpenSpec.ofChange s with cond := some uptoSmall }

/-- 'laws.FnExactGroupConjugation', WHERE WHAT IT READS IS OF BULK AT MOST 1048576: true; the input reads as it did. -/
def fnExactGroupConjugationUptoRow : OpenClaim := { program := "ytncmfbebdbchbaa", sum := "df8936c66eefb3ede015dfac0f287e802d84e50eaa6709a5c3b947909eb05830", func := "loop.example/g01119/laws.FnExactGroupConjugation", spec := "fnExactGroupConjugation", unfollowed := true, recurses := true, apart := false, narrowed := true }
def FnExactGroupConjugationUptoSaid : Prop := fnExactGroupConjugationUptoRow.holds Try.pinned (OpenSpec.upto fnExactGroupConjugationSpec)

/-- 'laws.FnExactStarOf', WHERE WHAT IT READS IS OF BULK AT MOST 1048576: true; the input reads as it did. -/
def fnExactStarOfUptoRow : OpenClaim := { program := "ytncmfbebdbchbaa", sum := "df8936c66eefb3ede015dfac0f287e802d84e50eaa6709a5c3b947909eb05830", func := "loop.example/g01119/laws.FnExactStarOf", spec := "fnExactStarOf", unfollowed := true, recurses := true, apart := false, narrowed := true }
def FnExactStarOfUptoSaid : Prop := fnExactStarOfUptoRow.holds Try.pinned (OpenSpec.upto fnExactStarOfSpec)

/-- 'laws.FnExactFixedOf', WHERE WHAT IT READS IS OF BULK AT MOST 1048576: true; the input reads as it did. -/
def fnExactFixedOfUptoRow : OpenClaim := { program := "ytncmfbebdbchbaa", sum := "df8936c66eefb3ede015dfac0f287e802d84e50eaa6709a5c3b947909eb05830", func := "loop.example/g01119/laws.FnExactFixedOf", spec := "fnExactFixedOf", unfollowed := true, recurses := true, apart := false, narrowed := true }
def FnExactFixedOfUptoSaid : Prop := fnExactFixedOfUptoRow.holds Try.pinned (OpenSpec.upto fnExactFixedOfSpec)

/-- 'laws.FnExactIsNormalIn', WHERE WHAT IT READS IS OF BULK AT MOST 1048576: true; the input reads as it did. -/
def fnExactIsNormalInUptoRow : OpenClaim := { program := "ytncmfbebdbchbaa", sum := "df8936c66eefb3ede015dfac0f287e802d84e50eaa6709a5c3b947909eb05830", func := "loop.example/g01119/laws.FnExactIsNormalIn", spec := "fnExactIsNormalIn", unfollowed := true, recurses := true, apart := false, narrowed := true }
def FnExactIsNormalInUptoSaid : Prop := fnExactIsNormalInUptoRow.holds Try.pinned (OpenSpec.upto fnExactIsNormalInSpec)

/-- 'laws.FnExactSocleOf', WHERE WHAT IT READS IS OF BULK AT MOST 1048576: true; the input reads as it did. -/
def fnExactSocleOfUptoRow : OpenClaim := { program := "ytncmfbebdbchbaa", sum := "df8936c66eefb3ede015dfac0f287e802d84e50eaa6709a5c3b947909eb05830", func := "loop.example/g01119/laws.FnExactSocleOf", spec := "fnExactSocleOf", unfollowed := true, recurses := true, apart := false, narrowed := true }
def FnExactSocleOfUptoSaid : Prop := fnExactSocleOfUptoRow.holds Try.pinned (OpenSpec.upto fnExactSocleOfSpec)

/-- 'laws.FnExactClassesOf', WHERE WHAT IT READS IS OF BULK AT MOST 1048576: true; the input reads as it did. -/
def fnExactClassesOfUptoRow : OpenClaim := { program := "ytncmfbebdbchbaa", sum := "df8936c66eefb3ede015dfac0f287e802d84e50eaa6709a5c3b947909eb05830", func := "loop.example/g01119/laws.FnExactClassesOf", spec := "fnExactClassesOf", unfollowed := true, recurses := true, apart := false, narrowed := true }
def FnExactClassesOfUptoSaid : Prop := fnExactClassesOfUptoRow.holds Try.pinned (OpenSpec.upto fnExactClassesOfSpec)

/-- 'laws.FnExactTurnedBrace', WHERE WHAT IT READS IS OF BULK AT MOST 1048576: true; the input reads as it did. -/
def fnExactTurnedBraceUptoRow : OpenClaim := { program := "ytncmfbebdbchbaa", sum := "df8936c66eefb3ede015dfac0f287e802d84e50eaa6709a5c3b947909eb05830", func := "loop.example/g01119/laws.FnExactTurnedBrace", spec := "fnExactTurnedBrace", unfollowed := true, recurses := true, apart := false, narrowed := true }
def FnExactTurnedBraceUptoSaid : Prop := fnExactTurnedBraceUptoRow.holds Try.pinned (OpenSpec.upto fnExactTurnedBraceSpec)

/-- 'laws.FnExactLambdaOf', WHERE WHAT IT READS IS OF BULK AT MOST 1048576: true; the input reads as it did. -/
def fnExactLambdaOfUptoRow : OpenClaim := { program := "ytncmfbebdbchbaa", sum := "df8936c66eefb3ede015dfac0f287e802d84e50eaa6709a5c3b947909eb05830", func := "loop.example/g01119/laws.FnExactLambdaOf", spec := "fnExactLambdaOf", unfollowed := true, recurses := true, apart := false, narrowed := true }
def FnExactLambdaOfUptoSaid : Prop := fnExactLambdaOfUptoRow.holds Try.pinned (OpenSpec.upto fnExactLambdaOfSpec)

/-- 'laws.FnExactAnnihilatorOf', WHERE WHAT IT READS IS OF BULK AT MOST 1048576: true; the input reads as it did. -/
def fnExactAnnihilatorOfUptoRow : OpenClaim := { program := "ytncmfbebdbchbaa", sum := "df8936c66eefb3ede015dfac0f287e802d84e50eaa6709a5c3b947909eb05830", func := "loop.example/g01119/laws.FnExactAnnihilatorOf", spec := "fnExactAnnihilatorOf", unfollowed := true, recurses := true, apart := false, narrowed := true }
def FnExactAnnihilatorOfUptoSaid : Prop := fnExactAnnihilatorOfUptoRow.holds Try.pinned (OpenSpec.upto fnExactAnnihilatorOfSpec)

/-- 'laws.FnExactIsTrivialBrace', WHERE WHAT IT READS IS OF BULK AT MOST 1048576: true; the input reads as it did. -/
def fnExactIsTrivialBraceUptoRow : OpenClaim := { program := "ytncmfbebdbchbaa", sum := "df8936c66eefb3ede015dfac0f287e802d84e50eaa6709a5c3b947909eb05830", func := "loop.example/g01119/laws.FnExactIsTrivialBrace", spec := "fnExactIsTrivialBrace", unfollowed := true, recurses := true, apart := false, narrowed := true }
def FnExactIsTrivialBraceUptoSaid : Prop := fnExactIsTrivialBraceUptoRow.holds Try.pinned (OpenSpec.upto fnExactIsTrivialBraceSpec)

/-- 'laws.FnExactProductBrace', WHERE WHAT IT READS IS OF BULK AT MOST 1048576: true; the input reads as it did. -/
def fnExactProductBraceUptoRow : OpenClaim := { program := "ytncmfbebdbchbaa", sum := "df8936c66eefb3ede015dfac0f287e802d84e50eaa6709a5c3b947909eb05830", func := "loop.example/g01119/laws.FnExactProductBrace", spec := "fnExactProductBrace", unfollowed := true, recurses := true, apart := false, narrowed := true }
def FnExactProductBraceUptoSaid : Prop := fnExactProductBraceUptoRow.holds Try.pinned (OpenSpec.upto fnExactProductBraceSpec)

/-- 'laws.FnExactIsClassicalBrace', WHERE WHAT IT READS IS OF BULK AT MOST 1048576: true; the input reads as it did. -/
def fnExactIsClassicalBraceUptoRow : OpenClaim := { program := "ytncmfbebdbchbaa", sum := "df8936c66eefb3ede015dfac0f287e802d84e50eaa6709a5c3b947909eb05830", func := "loop.example/g01119/laws.FnExactIsClassicalBrace", spec := "fnExactIsClassicalBrace", unfollowed := true, recurses := true, apart := false, narrowed := true }
def FnExactIsClassicalBraceUptoSaid : Prop := fnExactIsClassicalBraceUptoRow.holds Try.pinned (OpenSpec.upto fnExactIsClassicalBraceSpec)

end Rows
end Go.Proofs.Ytncmfbebdbchbaa
