/-
  No cell of these rows narrows 'for every input' (looked for: loops, veiled, ifaces, maps, wideKeys, modest, calm, conditions, laid).
  DERIVED. THE GIVEN ROWS OF THIS SEAT. 12 by the template 'for every input the law returns true; each argument reads behind the call as it read before'; 0 by the template 'total and deterministic' (their statements: YtjcpeenalbgacaaTotals.lean).
  GIVEN WITH THE SEED: the statements are not yours to turn. If you find one false, say at which input.
  Laid BY PROGRAM, IN A SANDBOX (cutbox-rows.mjs): the forced cells as the released guide's own fill.sh prints them over the translation 3336ec3e66a20e2c… (all of the seat's roots in one cut). By AI agents, Wed Nov 11 2026. No macro, syntax, notation, axiom, sorry.
-/
import Derived.Test.YtjcpeenalbgacaaChecked
import GoSem.Claim
import GoSem.ClaimJoined
import GoSem.ClaimMapViews
import Derived.JoinedTies
import Derived.KernelRfl
namespace Go.Proofs.Ytjcpeenalbgacaa
/- THE CELL 'sum', in the pinned program and in every row, IS THE sha256 OF THE DUMP (.gsa) THAT YtjcpeenalbgacaaProg.lean LOADS. Nothing in Lean hashes anything: it is a label: what it is worth is what the hold of that sum in a sandbox is worth. -/
noncomputable def Try.pinned : Pinned := { name := "ytjcpeenalbgacaa", sum := "3336ec3e66a20e2c39c1dfd44c32f4a052d4f9068b5e7eedfc9391cb82b7c64e", checked := Try.checked }
namespace Rows
def none {H : Type} : Left H := { results := [], args := [] }

/-- 'laws.FnExactSubbracesOf': WHATEVER THE INPUT: true; the input reads as it did. -/
def fnExactSubbracesOfSpec : ChangeSpec := { name := "fnExactSubbracesOf", fn := fun _ => fun
  | [d] => { results := [.lit (.bool true)], args := [d] }
  | _ => none }
def fnExactSubbracesOfRow : OpenClaim := { program := "ytjcpeenalbgacaa", sum := "3336ec3e66a20e2c39c1dfd44c32f4a052d4f9068b5e7eedfc9391cb82b7c64e", func := "loop.example/g01119/laws.FnExactSubbracesOf", spec := "fnExactSubbracesOf", unfollowed := true, recurses := true, apart := false }
def FnExactSubbracesOfSaid : Prop := fnExactSubbracesOfRow.holds Try.pinned (OpenSpec.ofChange fnExactSubbracesOfSpec)

/-- ITS FALSE NEIGHBOUR: 'it returns false'. Refute it at one input. -/
def fnExactSubbracesOfWrong : ChangeSpec := { name := "fnExactSubbracesOf", fn := fun _ => fun
  | [d] => { results := [.lit (.bool false)], args := [d] }
  | _ => none }
def FnExactSubbracesOfWrongFalsely : Prop := fnExactSubbracesOfRow.holds Try.pinned (OpenSpec.ofChange fnExactSubbracesOfWrong)

/-- 'laws.FnExactOppositeBrace': WHATEVER THE INPUT: true; the input reads as it did. -/
def fnExactOppositeBraceSpec : ChangeSpec := { name := "fnExactOppositeBrace", fn := fun _ => fun
  | [d] => { results := [.lit (.bool true)], args := [d] }
  | _ => none }
def fnExactOppositeBraceRow : OpenClaim := { program := "ytjcpeenalbgacaa", sum := "3336ec3e66a20e2c39c1dfd44c32f4a052d4f9068b5e7eedfc9391cb82b7c64e", func := "loop.example/g01119/laws.FnExactOppositeBrace", spec := "fnExactOppositeBrace", unfollowed := true, recurses := true, apart := false }
def FnExactOppositeBraceSaid : Prop := fnExactOppositeBraceRow.holds Try.pinned (OpenSpec.ofChange fnExactOppositeBraceSpec)

/-- ITS FALSE NEIGHBOUR: 'it returns false'. Refute it at one input. -/
def fnExactOppositeBraceWrong : ChangeSpec := { name := "fnExactOppositeBrace", fn := fun _ => fun
  | [d] => { results := [.lit (.bool false)], args := [d] }
  | _ => none }
def FnExactOppositeBraceWrongFalsely : Prop := fnExactOppositeBraceRow.holds Try.pinned (OpenSpec.ofChange fnExactOppositeBraceWrong)

/-- 'laws.FnExactBraceText': WHATEVER THE INPUT: true; the input reads as it did. -/
def fnExactBraceTextSpec : ChangeSpec := { name := "fnExactBraceText", fn := fun _ => fun
  | [d] => { results := [.lit (.bool true)], args := [d] }
  | _ => none }
def fnExactBraceTextRow : OpenClaim := { program := "ytjcpeenalbgacaa", sum := "3336ec3e66a20e2c39c1dfd44c32f4a052d4f9068b5e7eedfc9391cb82b7c64e", func := "loop.example/g01119/laws.FnExactBraceText", spec := "fnExactBraceText", inPlace := ["internal/abi.NoEscape", "internal/bytealg.MakeNoZero"], unfollowed := true, recurses := true, apart := false }
def FnExactBraceTextSaid : Prop := fnExactBraceTextRow.holds Try.pinned (OpenSpec.ofChange fnExactBraceTextSpec)

/-- ITS FALSE NEIGHBOUR: 'it returns false'. Refute it at one input. -/
def fnExactBraceTextWrong : ChangeSpec := { name := "fnExactBraceText", fn := fun _ => fun
  | [d] => { results := [.lit (.bool false)], args := [d] }
  | _ => none }
def FnExactBraceTextWrongFalsely : Prop := fnExactBraceTextRow.holds Try.pinned (OpenSpec.ofChange fnExactBraceTextWrong)

/-- 'laws.FnExactBraceSolution': WHATEVER THE INPUT: true; the input reads as it did. -/
def fnExactBraceSolutionSpec : ChangeSpec := { name := "fnExactBraceSolution", fn := fun _ => fun
  | [d] => { results := [.lit (.bool true)], args := [d] }
  | _ => none }
def fnExactBraceSolutionRow : OpenClaim := { program := "ytjcpeenalbgacaa", sum := "3336ec3e66a20e2c39c1dfd44c32f4a052d4f9068b5e7eedfc9391cb82b7c64e", func := "loop.example/g01119/laws.FnExactBraceSolution", spec := "fnExactBraceSolution", unfollowed := true, recurses := true, apart := false }
def FnExactBraceSolutionSaid : Prop := fnExactBraceSolutionRow.holds Try.pinned (OpenSpec.ofChange fnExactBraceSolutionSpec)

/-- ITS FALSE NEIGHBOUR: 'it returns false'. Refute it at one input. -/
def fnExactBraceSolutionWrong : ChangeSpec := { name := "fnExactBraceSolution", fn := fun _ => fun
  | [d] => { results := [.lit (.bool false)], args := [d] }
  | _ => none }
def FnExactBraceSolutionWrongFalsely : Prop := fnExactBraceSolutionRow.holds Try.pinned (OpenSpec.ofChange fnExactBraceSolutionWrong)

/-- 'laws.FnExactLeftIdealsOf': WHATEVER THE INPUT: true; the input reads as it did. -/
def fnExactLeftIdealsOfSpec : ChangeSpec := { name := "fnExactLeftIdealsOf", fn := fun _ => fun
  | [d] => { results := [.lit (.bool true)], args := [d] }
  | _ => none }
def fnExactLeftIdealsOfRow : OpenClaim := { program := "ytjcpeenalbgacaa", sum := "3336ec3e66a20e2c39c1dfd44c32f4a052d4f9068b5e7eedfc9391cb82b7c64e", func := "loop.example/g01119/laws.FnExactLeftIdealsOf", spec := "fnExactLeftIdealsOf", unfollowed := true, recurses := true, apart := false }
def FnExactLeftIdealsOfSaid : Prop := fnExactLeftIdealsOfRow.holds Try.pinned (OpenSpec.ofChange fnExactLeftIdealsOfSpec)

/-- ITS FALSE NEIGHBOUR: 'it returns false'. Refute it at one input. -/
def fnExactLeftIdealsOfWrong : ChangeSpec := { name := "fnExactLeftIdealsOf", fn := fun _ => fun
  | [d] => { results := [.lit (.bool false)], args := [d] }
  | _ => none }
def FnExactLeftIdealsOfWrongFalsely : Prop := fnExactLeftIdealsOfRow.holds Try.pinned (OpenSpec.ofChange fnExactLeftIdealsOfWrong)

/-- 'laws.FnExactIsIdeal': WHATEVER THE INPUT: true; the input reads as it did. -/
def fnExactIsIdealSpec : ChangeSpec := { name := "fnExactIsIdeal", fn := fun _ => fun
  | [d1, d2] => { results := [.lit (.bool true)], args := [d1, d2] }
  | _ => none }
def fnExactIsIdealRow : OpenClaim := { program := "ytjcpeenalbgacaa", sum := "3336ec3e66a20e2c39c1dfd44c32f4a052d4f9068b5e7eedfc9391cb82b7c64e", func := "loop.example/g01119/laws.FnExactIsIdeal", spec := "fnExactIsIdeal", unfollowed := true, recurses := true, apart := false }
def FnExactIsIdealSaid : Prop := fnExactIsIdealRow.holds Try.pinned (OpenSpec.ofChange fnExactIsIdealSpec)

/-- ITS FALSE NEIGHBOUR: 'it returns false'. Refute it at one input. -/
def fnExactIsIdealWrong : ChangeSpec := { name := "fnExactIsIdeal", fn := fun _ => fun
  | [d1, d2] => { results := [.lit (.bool false)], args := [d1, d2] }
  | _ => none }
def FnExactIsIdealWrongFalsely : Prop := fnExactIsIdealRow.holds Try.pinned (OpenSpec.ofChange fnExactIsIdealWrong)

/-- 'laws.FnExactIsSimpleBrace': WHATEVER THE INPUT: true; the input reads as it did. -/
def fnExactIsSimpleBraceSpec : ChangeSpec := { name := "fnExactIsSimpleBrace", fn := fun _ => fun
  | [d] => { results := [.lit (.bool true)], args := [d] }
  | _ => none }
def fnExactIsSimpleBraceRow : OpenClaim := { program := "ytjcpeenalbgacaa", sum := "3336ec3e66a20e2c39c1dfd44c32f4a052d4f9068b5e7eedfc9391cb82b7c64e", func := "loop.example/g01119/laws.FnExactIsSimpleBrace", spec := "fnExactIsSimpleBrace", unfollowed := true, recurses := true, apart := false }
def FnExactIsSimpleBraceSaid : Prop := fnExactIsSimpleBraceRow.holds Try.pinned (OpenSpec.ofChange fnExactIsSimpleBraceSpec)

/-- ITS FALSE NEIGHBOUR: 'it returns false'. Refute it at one input. -/
def fnExactIsSimpleBraceWrong : ChangeSpec := { name := "fnExactIsSimpleBrace", fn := fun _ => fun
  | [d] => { results := [.lit (.bool false)], args := [d] }
  | _ => none }
def FnExactIsSimpleBraceWrongFalsely : Prop := fnExactIsSimpleBraceRow.holds Try.pinned (OpenSpec.ofChange fnExactIsSimpleBraceWrong)

/-- 'laws.FnExactQuotientGroup': WHATEVER THE INPUT: true; the input reads as it did. -/
def fnExactQuotientGroupSpec : ChangeSpec := { name := "fnExactQuotientGroup", fn := fun _ => fun
  | [d1, d2] => { results := [.lit (.bool true)], args := [d1, d2] }
  | _ => none }
def fnExactQuotientGroupRow : OpenClaim := { program := "ytjcpeenalbgacaa", sum := "3336ec3e66a20e2c39c1dfd44c32f4a052d4f9068b5e7eedfc9391cb82b7c64e", func := "loop.example/g01119/laws.FnExactQuotientGroup", spec := "fnExactQuotientGroup", unfollowed := true, recurses := true, apart := false }
def FnExactQuotientGroupSaid : Prop := fnExactQuotientGroupRow.holds Try.pinned (OpenSpec.ofChange fnExactQuotientGroupSpec)

/-- ITS FALSE NEIGHBOUR: 'it returns false'. Refute it at one input. -/
def fnExactQuotientGroupWrong : ChangeSpec := { name := "fnExactQuotientGroup", fn := fun _ => fun
  | [d1, d2] => { results := [.lit (.bool false)], args := [d1, d2] }
  | _ => none }
def FnExactQuotientGroupWrongFalsely : Prop := fnExactQuotientGroupRow.holds Try.pinned (OpenSpec.ofChange fnExactQuotientGroupWrong)

/-- 'laws.FnExactGroupIsomorphism': WHATEVER THE INPUT: true; the input reads as it did. -/
def fnExactGroupIsomorphismSpec : ChangeSpec := { name := "fnExactGroupIsomorphism", fn := fun _ => fun
  | [d1, d2] => { results := [.lit (.bool true)], args := [d1, d2] }
  | _ => none }
def fnExactGroupIsomorphismRow : OpenClaim := { program := "ytjcpeenalbgacaa", sum := "3336ec3e66a20e2c39c1dfd44c32f4a052d4f9068b5e7eedfc9391cb82b7c64e", func := "loop.example/g01119/laws.FnExactGroupIsomorphism", spec := "fnExactGroupIsomorphism", unfollowed := true, recurses := true, apart := false }
def FnExactGroupIsomorphismSaid : Prop := fnExactGroupIsomorphismRow.holds Try.pinned (OpenSpec.ofChange fnExactGroupIsomorphismSpec)

/-- ITS FALSE NEIGHBOUR: 'it returns false'. Refute it at one input. -/
def fnExactGroupIsomorphismWrong : ChangeSpec := { name := "fnExactGroupIsomorphism", fn := fun _ => fun
  | [d1, d2] => { results := [.lit (.bool false)], args := [d1, d2] }
  | _ => none }
def FnExactGroupIsomorphismWrongFalsely : Prop := fnExactGroupIsomorphismRow.holds Try.pinned (OpenSpec.ofChange fnExactGroupIsomorphismWrong)

/-- 'laws.FnExactGroupAutomorphisms': WHATEVER THE INPUT: true; the input reads as it did. -/
def fnExactGroupAutomorphismsSpec : ChangeSpec := { name := "fnExactGroupAutomorphisms", fn := fun _ => fun
  | [d] => { results := [.lit (.bool true)], args := [d] }
  | _ => none }
def fnExactGroupAutomorphismsRow : OpenClaim := { program := "ytjcpeenalbgacaa", sum := "3336ec3e66a20e2c39c1dfd44c32f4a052d4f9068b5e7eedfc9391cb82b7c64e", func := "loop.example/g01119/laws.FnExactGroupAutomorphisms", spec := "fnExactGroupAutomorphisms", unfollowed := true, recurses := true, apart := false }
def FnExactGroupAutomorphismsSaid : Prop := fnExactGroupAutomorphismsRow.holds Try.pinned (OpenSpec.ofChange fnExactGroupAutomorphismsSpec)

/-- ITS FALSE NEIGHBOUR: 'it returns false'. Refute it at one input. -/
def fnExactGroupAutomorphismsWrong : ChangeSpec := { name := "fnExactGroupAutomorphisms", fn := fun _ => fun
  | [d] => { results := [.lit (.bool false)], args := [d] }
  | _ => none }
def FnExactGroupAutomorphismsWrongFalsely : Prop := fnExactGroupAutomorphismsRow.holds Try.pinned (OpenSpec.ofChange fnExactGroupAutomorphismsWrong)

/-- 'laws.FnExactCountBraceAutomorphisms': WHATEVER THE INPUT: true; the input reads as it did. -/
def fnExactCountBraceAutomorphismsSpec : ChangeSpec := { name := "fnExactCountBraceAutomorphisms", fn := fun _ => fun
  | [d] => { results := [.lit (.bool true)], args := [d] }
  | _ => none }
def fnExactCountBraceAutomorphismsRow : OpenClaim := { program := "ytjcpeenalbgacaa", sum := "3336ec3e66a20e2c39c1dfd44c32f4a052d4f9068b5e7eedfc9391cb82b7c64e", func := "loop.example/g01119/laws.FnExactCountBraceAutomorphisms", spec := "fnExactCountBraceAutomorphisms", unfollowed := true, recurses := true, apart := false }
def FnExactCountBraceAutomorphismsSaid : Prop := fnExactCountBraceAutomorphismsRow.holds Try.pinned (OpenSpec.ofChange fnExactCountBraceAutomorphismsSpec)

/-- ITS FALSE NEIGHBOUR: 'it returns false'. Refute it at one input. -/
def fnExactCountBraceAutomorphismsWrong : ChangeSpec := { name := "fnExactCountBraceAutomorphisms", fn := fun _ => fun
  | [d] => { results := [.lit (.bool false)], args := [d] }
  | _ => none }
def FnExactCountBraceAutomorphismsWrongFalsely : Prop := fnExactCountBraceAutomorphismsRow.holds Try.pinned (OpenSpec.ofChange fnExactCountBraceAutomorphismsWrong)

/-- 'laws.FnExactBraceIsomorphism': WHATEVER THE INPUT: true; the input reads as it did. -/
def fnExactBraceIsomorphismSpec : ChangeSpec := { name := "fnExactBraceIsomorphism", fn := fun _ => fun
  | [d1, d2] => { results := [.lit (.bool true)], args := [d1, d2] }
  | _ => none }
def fnExactBraceIsomorphismRow : OpenClaim := { program := "ytjcpeenalbgacaa", sum := "3336ec3e66a20e2c39c1dfd44c32f4a052d4f9068b5e7eedfc9391cb82b7c64e", func := "loop.example/g01119/laws.FnExactBraceIsomorphism", spec := "fnExactBraceIsomorphism", unfollowed := true, recurses := true, apart := false }
def FnExactBraceIsomorphismSaid : Prop := fnExactBraceIsomorphismRow.holds Try.pinned (OpenSpec.ofChange fnExactBraceIsomorphismSpec)

/-- ITS FALSE NEIGHBOUR: 'it returns false'. Refute it at one input. -/
def fnExactBraceIsomorphismWrong : ChangeSpec := { name := "fnExactBraceIsomorphism", fn := fun _ => fun
  | [d1, d2] => { results := [.lit (.bool false)], args := [d1, d2] }
  | _ => none }
def FnExactBraceIsomorphismWrongFalsely : Prop := fnExactBraceIsomorphismRow.holds Try.pinned (OpenSpec.ofChange fnExactBraceIsomorphismWrong)

/- THE SECOND FORM. 'bulk': how many values and letters a reading holds, each counted each time it is reached (what is shared counts as often as it is met; a slice's spare places count too). A statement '..UptoSaid' is the law's where the arguments, and the package variables that the reading takes, are together of bulk at most 1048576: NARROWER than '..Said'. Prove '..Said' where nothing that the law and all that it calls make is longer than what came in: it says more and counts as full. Else prove '..UptoSaid'. A law counts once. -/
mutual
def uptoBulk {H : Type} : DataW H → Nat
  | .lit (.string bytes) => bytes.length + 1
  | .lit _ => 1
  | .nil => 1
  | .ptr d => uptoBulk d + 1
  | .slice elems spare => uptoBulkAll elems + uptoBulkAll spare + 1
  | .agg parts => uptoBulkAll parts + 1
  | .iface _ d => uptoBulk d + 1
  | .map entries => uptoBulkEntries entries + 1
  | .held _ => 1
def uptoBulkAll {H : Type} : List (DataW H) → Nat
  | [] => 0
  | d :: r => uptoBulk d + uptoBulkAll r
def uptoBulkEntries {H : Type} : List (Lit × DataW H) → Nat
  | [] => 0
  | x :: r => uptoBulkEntry x + uptoBulkEntries r
def uptoBulkEntry {H : Type} : Lit × DataW H → Nat
  | (.string bytes, d) => bytes.length + uptoBulk d + 1
  | (_, d) => uptoBulk d + 1
 end
def uptoSmall : (H : Type) → List (DataW H) → Bool := fun _ ds => decide (uptoBulkAll ds ≤ 1048576)
def OpenSpec.upto (s : _root_.Go.ChangeSpec) : _root_.Go.OpenSpec := { _root_.Go.OpenSpec.ofChange s with cond := some uptoSmall }

/-- 'laws.FnExactSubbracesOf', WHERE WHAT IT READS IS OF BULK AT MOST 1048576: true; the input reads as it did. -/
def fnExactSubbracesOfUptoRow : OpenClaim := { program := "ytjcpeenalbgacaa", sum := "3336ec3e66a20e2c39c1dfd44c32f4a052d4f9068b5e7eedfc9391cb82b7c64e", func := "loop.example/g01119/laws.FnExactSubbracesOf", spec := "fnExactSubbracesOf", unfollowed := true, recurses := true, apart := false, narrowed := true }
def FnExactSubbracesOfUptoSaid : Prop := fnExactSubbracesOfUptoRow.holds Try.pinned (OpenSpec.upto fnExactSubbracesOfSpec)

/-- 'laws.FnExactOppositeBrace', WHERE WHAT IT READS IS OF BULK AT MOST 1048576: true; the input reads as it did. -/
def fnExactOppositeBraceUptoRow : OpenClaim := { program := "ytjcpeenalbgacaa", sum := "3336ec3e66a20e2c39c1dfd44c32f4a052d4f9068b5e7eedfc9391cb82b7c64e", func := "loop.example/g01119/laws.FnExactOppositeBrace", spec := "fnExactOppositeBrace", unfollowed := true, recurses := true, apart := false, narrowed := true }
def FnExactOppositeBraceUptoSaid : Prop := fnExactOppositeBraceUptoRow.holds Try.pinned (OpenSpec.upto fnExactOppositeBraceSpec)

/-- 'laws.FnExactBraceText', WHERE WHAT IT READS IS OF BULK AT MOST 1048576: true; the input reads as it did. -/
def fnExactBraceTextUptoRow : OpenClaim := { program := "ytjcpeenalbgacaa", sum := "3336ec3e66a20e2c39c1dfd44c32f4a052d4f9068b5e7eedfc9391cb82b7c64e", func := "loop.example/g01119/laws.FnExactBraceText", spec := "fnExactBraceText", inPlace := ["internal/abi.NoEscape", "internal/bytealg.MakeNoZero"], unfollowed := true, recurses := true, apart := false, narrowed := true }
def FnExactBraceTextUptoSaid : Prop := fnExactBraceTextUptoRow.holds Try.pinned (OpenSpec.upto fnExactBraceTextSpec)

/-- 'laws.FnExactBraceSolution', WHERE WHAT IT READS IS OF BULK AT MOST 1048576: true; the input reads as it did. -/
def fnExactBraceSolutionUptoRow : OpenClaim := { program := "ytjcpeenalbgacaa", sum := "3336ec3e66a20e2c39c1dfd44c32f4a052d4f9068b5e7eedfc9391cb82b7c64e", func := "loop.example/g01119/laws.FnExactBraceSolution", spec := "fnExactBraceSolution", unfollowed := true, recurses := true, apart := false, narrowed := true }
def FnExactBraceSolutionUptoSaid : Prop := fnExactBraceSolutionUptoRow.holds Try.pinned (OpenSpec.upto fnExactBraceSolutionSpec)

/-- 'laws.FnExactLeftIdealsOf', WHERE WHAT IT READS IS OF BULK AT MOST 1048576: true; the input reads as it did. -/
def fnExactLeftIdealsOfUptoRow : OpenClaim := { program := "ytjcpeenalbgacaa", sum := "3336ec3e66a20e2c39c1dfd44c32f4a052d4f9068b5e7eedfc9391cb82b7c64e", func := "loop.example/g01119/laws.FnExactLeftIdealsOf", spec := "fnExactLeftIdealsOf", unfollowed := true, recurses := true, apart := false, narrowed := true }
def FnExactLeftIdealsOfUptoSaid : Prop := fnExactLeftIdealsOfUptoRow.holds Try.pinned (OpenSpec.upto fnExactLeftIdealsOfSpec)

/-- 'laws.FnExactIsIdeal', WHERE WHAT IT READS IS OF BULK AT MOST 1048576: true; the input reads as it did. -/
def fnExactIsIdealUptoRow : OpenClaim := { program := "ytjcpeenalbgacaa", sum := "3336ec3e66a20e2c39c1dfd44c32f4a052d4f9068b5e7eedfc9391cb82b7c64e", func := "loop.example/g01119/laws.FnExactIsIdeal", spec := "fnExactIsIdeal", unfollowed := true, recurses := true, apart := false, narrowed := true }
def FnExactIsIdealUptoSaid : Prop := fnExactIsIdealUptoRow.holds Try.pinned (OpenSpec.upto fnExactIsIdealSpec)

/-- 'laws.FnExactIsSimpleBrace', WHERE WHAT IT READS IS OF BULK AT MOST 1048576: true; the input reads as it did. -/
def fnExactIsSimpleBraceUptoRow : OpenClaim := { program := "ytjcpeenalbgacaa", sum := "3336ec3e66a20e2c39c1dfd44c32f4a052d4f9068b5e7eedfc9391cb82b7c64e", func := "loop.example/g01119/laws.FnExactIsSimpleBrace", spec := "fnExactIsSimpleBrace", unfollowed := true, recurses := true, apart := false, narrowed := true }
def FnExactIsSimpleBraceUptoSaid : Prop := fnExactIsSimpleBraceUptoRow.holds Try.pinned (OpenSpec.upto fnExactIsSimpleBraceSpec)

/-- 'laws.FnExactQuotientGroup', WHERE WHAT IT READS IS OF BULK AT MOST 1048576: true; the input reads as it did. -/
def fnExactQuotientGroupUptoRow : OpenClaim := { program := "ytjcpeenalbgacaa", sum := "3336ec3e66a20e2c39c1dfd44c32f4a052d4f9068b5e7eedfc9391cb82b7c64e", func := "loop.example/g01119/laws.FnExactQuotientGroup", spec := "fnExactQuotientGroup", unfollowed := true, recurses := true, apart := false, narrowed := true }
def FnExactQuotientGroupUptoSaid : Prop := fnExactQuotientGroupUptoRow.holds Try.pinned (OpenSpec.upto fnExactQuotientGroupSpec)

/-- 'laws.FnExactGroupIsomorphism', WHERE WHAT IT READS IS OF BULK AT MOST 1048576: true; the input reads as it did. -/
def fnExactGroupIsomorphismUptoRow : OpenClaim := { program := "ytjcpeenalbgacaa", sum := "3336ec3e66a20e2c39c1dfd44c32f4a052d4f9068b5e7eedfc9391cb82b7c64e", func := "loop.example/g01119/laws.FnExactGroupIsomorphism", spec := "fnExactGroupIsomorphism", unfollowed := true, recurses := true, apart := false, narrowed := true }
def FnExactGroupIsomorphismUptoSaid : Prop := fnExactGroupIsomorphismUptoRow.holds Try.pinned (OpenSpec.upto fnExactGroupIsomorphismSpec)

/-- 'laws.FnExactGroupAutomorphisms', WHERE WHAT IT READS IS OF BULK AT MOST 1048576: true; the input reads as it did. -/
def fnExactGroupAutomorphismsUptoRow : OpenClaim := { program := "ytjcpeenalbgacaa", sum := "3336ec3e66a20e2c39c1dfd44c32f4a052d4f9068b5e7eedfc9391cb82b7c64e", func := "loop.example/g01119/laws.FnExactGroupAutomorphisms", spec := "fnExactGroupAutomorphisms", unfollowed := true, recurses := true, apart := false, narrowed := true }
def FnExactGroupAutomorphismsUptoSaid : Prop := fnExactGroupAutomorphismsUptoRow.holds Try.pinned (OpenSpec.upto fnExactGroupAutomorphismsSpec)

/-- 'laws.FnExactCountBraceAutomorphisms', WHERE WHAT IT READS IS OF BULK AT MOST 1048576: true; the input reads as it did. -/
def fnExactCountBraceAutomorphismsUptoRow : OpenClaim := { program := "ytjcpeenalbgacaa", sum := "3336ec3e66a20e2c39c1dfd44c32f4a052d4f9068b5e7eedfc9391cb82b7c64e", func := "loop.example/g01119/laws.FnExactCountBraceAutomorphisms", spec := "fnExactCountBraceAutomorphisms", unfollowed := true, recurses := true, apart := false, narrowed := true }
def FnExactCountBraceAutomorphismsUptoSaid : Prop := fnExactCountBraceAutomorphismsUptoRow.holds Try.pinned (OpenSpec.upto fnExactCountBraceAutomorphismsSpec)

/-- 'laws.FnExactBraceIsomorphism', WHERE WHAT IT READS IS OF BULK AT MOST 1048576: true; the input reads as it did. -/
def fnExactBraceIsomorphismUptoRow : OpenClaim := { program := "ytjcpeenalbgacaa", sum := "3336ec3e66a20e2c39c1dfd44c32f4a052d4f9068b5e7eedfc9391cb82b7c64e", func := "loop.example/g01119/laws.FnExactBraceIsomorphism", spec := "fnExactBraceIsomorphism", unfollowed := true, recurses := true, apart := false, narrowed := true }
def FnExactBraceIsomorphismUptoSaid : Prop := fnExactBraceIsomorphismUptoRow.holds Try.pinned (OpenSpec.upto fnExactBraceIsomorphismSpec)

end Rows
end Go.Proofs.Ytjcpeenalbgacaa
