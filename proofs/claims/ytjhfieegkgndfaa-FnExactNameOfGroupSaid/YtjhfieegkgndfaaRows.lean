/-
  No cell of these rows narrows 'for every input' (looked for: loops, veiled, ifaces, maps, wideKeys, modest, calm, conditions, laid).
  DERIVED. THE GIVEN ROWS OF THIS SEAT. 5 by the template 'for every input the law returns true; each argument reads behind the call as it read before'; 0 by the template 'total and deterministic' (their statements: YtjhfieegkgndfaaTotals.lean).
  GIVEN WITH THE SEED: the statements are not yours to turn. If you find one false, say at which input.
  Laid BY PROGRAM, IN A SANDBOX (cutbox-rows.mjs): the forced cells as the released guide's own fill.sh prints them over the translation 897a0bbbb81ecb54… (all of the seat's roots in one cut). By AI agents, Wed Nov 11 2026. No macro, syntax, notation, axiom, sorry.
-/
import Derived.Test.YtjhfieegkgndfaaChecked
import GoSem.Claim
import GoSem.ClaimJoined
import GoSem.ClaimMapViews
import Derived.JoinedTies
import Derived.KernelRfl
namespace Go.Proofs.Ytjhfieegkgndfaa
/- THE CELL 'sum', in the pinned program and in every row, IS THE sha256 OF THE DUMP (.gsa) THAT YtjhfieegkgndfaaProg.lean LOADS. Nothing in Lean hashes anything: it is a label: what it is worth is what the hold of that sum in a sandbox is worth. -/
noncomputable def Try.pinned : Pinned := { name := "ytjhfieegkgndfaa", sum := "897a0bbbb81ecb54a1a61051f9eb2760ea29729705699ff64979c4b5f5c438b1", checked := Try.checked }
namespace Rows
def none {H : Type} : Left H := { results := [], args := [] }

/-- 'laws.FnExactRingBrace': WHATEVER THE INPUT: true; the input reads as it did. -/
def fnExactRingBraceSpec : ChangeSpec := { name := "fnExactRingBrace", fn := fun _ => fun
  | [d1, d2] => { results := [.lit (.bool true)], args := [d1, d2] }
  | _ => none }
def fnExactRingBraceRow : OpenClaim := { program := "ytjhfieegkgndfaa", sum := "897a0bbbb81ecb54a1a61051f9eb2760ea29729705699ff64979c4b5f5c438b1", func := "loop.example/g01119/laws.FnExactRingBrace", spec := "fnExactRingBrace", unfollowed := true, recurses := true, apart := false }
def FnExactRingBraceSaid : Prop := fnExactRingBraceRow.holds Try.pinned (OpenSpec.ofChange fnExactRingBraceSpec)

/-- ITS FALSE NEIGHBOUR: 'it returns false'. Refute it at one input. -/
def fnExactRingBraceWrong : ChangeSpec := { name := "fnExactRingBrace", fn := fun _ => fun
  | [d1, d2] => { results := [.lit (.bool false)], args := [d1, d2] }
  | _ => none }
def FnExactRingBraceWrongFalsely : Prop := fnExactRingBraceRow.holds Try.pinned (OpenSpec.ofChange fnExactRingBraceWrong)

/-- 'laws.FnExactLeastBrace': WHATEVER THE INPUT: true; the input reads as it did. -/
def fnExactLeastBraceSpec : ChangeSpec := { name := "fnExactLeastBrace", fn := fun _ => fun
  | [d] => { results := [.lit (.bool true)], args := [d] }
  | _ => none }
def fnExactLeastBraceRow : OpenClaim := { program := "ytjhfieegkgndfaa", sum := "897a0bbbb81ecb54a1a61051f9eb2760ea29729705699ff64979c4b5f5c438b1", func := "loop.example/g01119/laws.FnExactLeastBrace", spec := "fnExactLeastBrace", unfollowed := true, recurses := true, apart := false }
def FnExactLeastBraceSaid : Prop := fnExactLeastBraceRow.holds Try.pinned (OpenSpec.ofChange fnExactLeastBraceSpec)

/-- ITS FALSE NEIGHBOUR: 'it returns false'. Refute it at one input. -/
def fnExactLeastBraceWrong : ChangeSpec := { name := "fnExactLeastBrace", fn := fun _ => fun
  | [d] => { results := [.lit (.bool false)], args := [d] }
  | _ => none }
def FnExactLeastBraceWrongFalsely : Prop := fnExactLeastBraceRow.holds Try.pinned (OpenSpec.ofChange fnExactLeastBraceWrong)

/-- 'laws.FnExactGroupOfPermutations': WHATEVER THE INPUT: true; the input reads as it did. -/
def fnExactGroupOfPermutationsSpec : ChangeSpec := { name := "fnExactGroupOfPermutations", fn := fun _ => fun
  | [d1, d2] => { results := [.lit (.bool true)], args := [d1, d2] }
  | _ => none }
def fnExactGroupOfPermutationsRow : OpenClaim := { program := "ytjhfieegkgndfaa", sum := "897a0bbbb81ecb54a1a61051f9eb2760ea29729705699ff64979c4b5f5c438b1", func := "loop.example/g01119/laws.FnExactGroupOfPermutations", spec := "fnExactGroupOfPermutations", unfollowed := true, recurses := true, apart := false }
def FnExactGroupOfPermutationsSaid : Prop := fnExactGroupOfPermutationsRow.holds Try.pinned (OpenSpec.ofChange fnExactGroupOfPermutationsSpec)

/-- ITS FALSE NEIGHBOUR: 'it returns false'. Refute it at one input. -/
def fnExactGroupOfPermutationsWrong : ChangeSpec := { name := "fnExactGroupOfPermutations", fn := fun _ => fun
  | [d1, d2] => { results := [.lit (.bool false)], args := [d1, d2] }
  | _ => none }
def FnExactGroupOfPermutationsWrongFalsely : Prop := fnExactGroupOfPermutationsRow.holds Try.pinned (OpenSpec.ofChange fnExactGroupOfPermutationsWrong)

/-- 'laws.FnExactNamedGroups': WHATEVER THE INPUT: true; the input reads as it did. -/
def fnExactNamedGroupsSpec : ChangeSpec := { name := "fnExactNamedGroups", fn := fun _ => fun
  | [d] => { results := [.lit (.bool true)], args := [d] }
  | _ => none }
def fnExactNamedGroupsRow : OpenClaim := { program := "ytjhfieegkgndfaa", sum := "897a0bbbb81ecb54a1a61051f9eb2760ea29729705699ff64979c4b5f5c438b1", func := "loop.example/g01119/laws.FnExactNamedGroups", spec := "fnExactNamedGroups", unfollowed := true, recurses := true, apart := false }
def FnExactNamedGroupsSaid : Prop := fnExactNamedGroupsRow.holds Try.pinned (OpenSpec.ofChange fnExactNamedGroupsSpec)

/-- ITS FALSE NEIGHBOUR: 'it returns false'. Refute it at one input. -/
def fnExactNamedGroupsWrong : ChangeSpec := { name := "fnExactNamedGroups", fn := fun _ => fun
  | [d] => { results := [.lit (.bool false)], args := [d] }
  | _ => none }
def FnExactNamedGroupsWrongFalsely : Prop := fnExactNamedGroupsRow.holds Try.pinned (OpenSpec.ofChange fnExactNamedGroupsWrong)

/-- 'laws.FnExactNameOfGroup': WHATEVER THE INPUT: true; the input reads as it did. -/
def fnExactNameOfGroupSpec : ChangeSpec := { name := "fnExactNameOfGroup", fn := fun _ => fun
  | [d] => { results := [.lit (.bool true)], args := [d] }
  | _ => none }
def fnExactNameOfGroupRow : OpenClaim := { program := "ytjhfieegkgndfaa", sum := "897a0bbbb81ecb54a1a61051f9eb2760ea29729705699ff64979c4b5f5c438b1", func := "loop.example/g01119/laws.FnExactNameOfGroup", spec := "fnExactNameOfGroup", unfollowed := true, recurses := true, apart := false }
def FnExactNameOfGroupSaid : Prop := fnExactNameOfGroupRow.holds Try.pinned (OpenSpec.ofChange fnExactNameOfGroupSpec)

/-- ITS FALSE NEIGHBOUR: 'it returns false'. Refute it at one input. -/
def fnExactNameOfGroupWrong : ChangeSpec := { name := "fnExactNameOfGroup", fn := fun _ => fun
  | [d] => { results := [.lit (.bool false)], args := [d] }
  | _ => none }
def FnExactNameOfGroupWrongFalsely : Prop := fnExactNameOfGroupRow.holds Try.pinned (OpenSpec.ofChange fnExactNameOfGroupWrong)

/- THE SECOND FORM. 'bulk': how many values and letters a reading holds, each counted each time it is reached (what is shared counts as often as it is met; a slice's spare places count too). A statement '..UptoSaid' is the law's where the arguments, and the package variables that the reading takes, are together of bulk at most 1048576: NARROWER than '..Said'. Prove '..Said' where nothing that the law and all that it calls make is longer than what came in: it says more and counts as full. Else prove '..UptoSaid'. A law counts once. -/
mutual
def uptoBulk {H : Type} : DataW H → Nat
  | .lit (.string bytes) => bytes.length + 1
  | .lit _ => 1
  | .nil => 1
  | .ptr d => uptoBulk d + 1
  | .slice elems spare => uptoBulkAll elems + uptoBulkAll spare + 1
  | .agg parts => uptoBulkAll parts + 1
  | .iface _ d => uptoBulk d + 1
  | .map entries => uptoBulkEntries entries + 1
  | .held _ => 1
def uptoBulkAll {H : Type} : List (DataW H) → Nat
  | [] => 0
  | d :: r => uptoBulk d + uptoBulkAll r
def uptoBulkEntries {H : Type} : List (Lit × DataW H) → Nat
  | [] => 0
  | x :: r => uptoBulkEntry x + uptoBulkEntries r
def uptoBulkEntry {H : Type} : Lit × DataW H → Nat
  | (.string bytes, d) => bytes.length + uptoBulk d + 1
  | (_, d) => uptoBulk d + 1
 end
def uptoSmall : (H : Type) → List (DataW H) → Bool := fun _ ds => decide (uptoBulkAll ds ≤ 1048576)
def OpenSpec.upto (s : _root_.Go.ChangeSpec) : _root_.Go.OpenSpec := { _root_.Go.OpenSpec.ofChange s with cond := some uptoSmall }

/-- 'laws.FnExactRingBrace', WHERE WHAT IT READS IS OF BULK AT MOST 1048576: true; the input reads as it did. -/
def fnExactRingBraceUptoRow : OpenClaim := { program := "ytjhfieegkgndfaa", sum := "897a0bbbb81ecb54a1a61051f9eb2760ea29729705699ff64979c4b5f5c438b1", func := "loop.example/g01119/laws.FnExactRingBrace", spec := "fnExactRingBrace", unfollowed := true, recurses := true, apart := false, narrowed := true }
def FnExactRingBraceUptoSaid : Prop := fnExactRingBraceUptoRow.holds Try.pinned (OpenSpec.upto fnExactRingBraceSpec)

/-- 'laws.FnExactLeastBrace', WHERE WHAT IT READS IS OF BULK AT MOST 1048576: true; the input reads as it did. -/
def fnExactLeastBraceUptoRow : OpenClaim := { program := "ytjhfieegkgndfaa", sum := "897a0bbbb81ecb54a1a61051f9eb2760ea29729705699ff64979c4b5f5c438b1", func := "loop.example/g01119/laws.FnExactLeastBrace", spec := "fnExactLeastBrace", unfollowed := true, recurses := true, apart := false, narrowed := true }
def FnExactLeastBraceUptoSaid : Prop := fnExactLeastBraceUptoRow.holds Try.pinned (OpenSpec.upto fnExactLeastBraceSpec)

/-- 'laws.FnExactGroupOfPermutations', WHERE WHAT IT READS IS OF BULK AT MOST 1048576: true; the input reads as it did. -/
def fnExactGroupOfPermutationsUptoRow : OpenClaim := { program := "ytjhfieegkgndfaa", sum := "897a0bbbb81ecb54a1a61051f9eb2760ea29729705699ff64979c4b5f5c438b1", func := "loop.example/g01119/laws.FnExactGroupOfPermutations", spec := "fnExactGroupOfPermutations", unfollowed := true, recurses := true, apart := false, narrowed := true }
def FnExactGroupOfPermutationsUptoSaid : Prop := fnExactGroupOfPermutationsUptoRow.holds Try.pinned (OpenSpec.upto fnExactGroupOfPermutationsSpec)

/-- 'laws.FnExactNamedGroups', WHERE WHAT IT READS IS OF BULK AT MOST 1048576: true; the input reads as it did. -/
def fnExactNamedGroupsUptoRow : OpenClaim := { program := "ytjhfieegkgndfaa", sum := "897a0bbbb81ecb54a1a61051f9eb2760ea29729705699ff64979c4b5f5c438b1", func := "loop.example/g01119/laws.FnExactNamedGroups", spec := "fnExactNamedGroups", unfollowed := true, recurses := true, apart := false, narrowed := true }
def FnExactNamedGroupsUptoSaid : Prop := fnExactNamedGroupsUptoRow.holds Try.pinned (OpenSpec.upto fnExactNamedGroupsSpec)

/-- 'laws.FnExactNameOfGroup', WHERE WHAT IT READS IS OF BULK AT MOST 1048576: true; the input reads as it did. -/
def fnExactNameOfGroupUptoRow : OpenClaim := { program := "ytjhfieegkgndfaa", sum := "897a0bbbb81ecb54a1a61051f9eb2760ea29729705699ff64979c4b5f5c438b1", func := "loop.example/g01119/laws.FnExactNameOfGroup", spec := "fnExactNameOfGroup", unfollowed := true, recurses := true, apart := false, narrowed := true }
def FnExactNameOfGroupUptoSaid : Prop := fnExactNameOfGroupUptoRow.holds Try.pinned (OpenSpec.upto fnExactNameOfGroupSpec)

end Rows
end Go.Proofs.Ytjhfieegkgndfaa
