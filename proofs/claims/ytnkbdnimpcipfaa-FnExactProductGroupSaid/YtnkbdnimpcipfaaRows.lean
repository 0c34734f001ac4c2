/-
  No cell of these rows narrows 'for every input' (looked for: loops, veiled, ifaces, maps, wideKeys, modest, calm, conditions, laid).
  DERIVED. THE GIVEN ROWS OF THIS SEAT. 12 by the template 'for every input the law returns true; each argument reads behind the call as it read before'; 0 by the template 'total and deterministic' (their statements: YtnkbdnimpcipfaaTotals.lean).
  GIVEN WITH THE SEED: the statements are not yours to turn. If you find one false, say at which input.
  Laid BY PROGRAM, IN A SANDBOX (cutbox-rows.mjs): the forced cells as the released guide's own fill.sh prints them over the translation 1bd3d0b524c89879… (all of the seat's roots in one cut). By AI agents, Wed Nov 11 2026. No macro, syntax, notation, axiom, sorry.
-/
import Derived.Test.YtnkbdnimpcipfaaChecked
import GoSem.Claim
import GoSem.ClaimJoined
import GoSem.ClaimMapViews
import Derived.JoinedTies
import Derived.KernelRfl
namespace Go.Proofs.Ytnkbdnimpcipfaa
/- THE CELL 'sum', in the pinned program and in every row, IS THE sha256 OF THE DUMP (.gsa) THAT YtnkbdnimpcipfaaProg.lean LOADS. Nothing in Lean hashes anything: it is a label: what it is worth is what the hold of that sum in a sandbox is worth. -/
noncomputable def Try.pinned : Pinned := { name := "ytnkbdnimpcipfaa", sum := "1bd3d0b524c8987934e90dd8afdbef840086d51655484c96b825a1b868e54176", checked := Try.checked }
namespace Rows
def none {H : Type} : Left H := { results := [], args := [] }

/-- 'laws.FnExactInverseIn': WHATEVER THE INPUT: true; the input reads as it did. -/
def fnExactInverseInSpec : ChangeSpec := { name := "fnExactInverseIn", fn := fun _ => fun
  | [d1, d2] => { results := [.lit (.bool true)], args := [d1, d2] }
  | _ => none }
def fnExactInverseInRow : OpenClaim := { program := "ytnkbdnimpcipfaa", sum := "1bd3d0b524c8987934e90dd8afdbef840086d51655484c96b825a1b868e54176", func := "loop.example/g01119/laws.FnExactInverseIn", spec := "fnExactInverseIn", unfollowed := true, recurses := true, apart := false }
def FnExactInverseInSaid : Prop := fnExactInverseInRow.holds Try.pinned (OpenSpec.ofChange fnExactInverseInSpec)

/-- ITS FALSE NEIGHBOUR: 'it returns false'. Refute it at one input. -/
def fnExactInverseInWrong : ChangeSpec := { name := "fnExactInverseIn", fn := fun _ => fun
  | [d1, d2] => { results := [.lit (.bool false)], args := [d1, d2] }
  | _ => none }
def FnExactInverseInWrongFalsely : Prop := fnExactInverseInRow.holds Try.pinned (OpenSpec.ofChange fnExactInverseInWrong)

/-- 'laws.FnExactCenterOf': WHATEVER THE INPUT: true; the input reads as it did. -/
def fnExactCenterOfSpec : ChangeSpec := { name := "fnExactCenterOf", fn := fun _ => fun
  | [d] => { results := [.lit (.bool true)], args := [d] }
  | _ => none }
def fnExactCenterOfRow : OpenClaim := { program := "ytnkbdnimpcipfaa", sum := "1bd3d0b524c8987934e90dd8afdbef840086d51655484c96b825a1b868e54176", func := "loop.example/g01119/laws.FnExactCenterOf", spec := "fnExactCenterOf", unfollowed := true, recurses := true, apart := false }
def FnExactCenterOfSaid : Prop := fnExactCenterOfRow.holds Try.pinned (OpenSpec.ofChange fnExactCenterOfSpec)

/-- ITS FALSE NEIGHBOUR: 'it returns false'. Refute it at one input. -/
def fnExactCenterOfWrong : ChangeSpec := { name := "fnExactCenterOf", fn := fun _ => fun
  | [d] => { results := [.lit (.bool false)], args := [d] }
  | _ => none }
def FnExactCenterOfWrongFalsely : Prop := fnExactCenterOfRow.holds Try.pinned (OpenSpec.ofChange fnExactCenterOfWrong)

/-- 'laws.FnExactIsBrace': WHATEVER THE INPUT: true; the input reads as it did. -/
def fnExactIsBraceSpec : ChangeSpec := { name := "fnExactIsBrace", fn := fun _ => fun
  | [d] => { results := [.lit (.bool true)], args := [d] }
  | _ => none }
def fnExactIsBraceRow : OpenClaim := { program := "ytnkbdnimpcipfaa", sum := "1bd3d0b524c8987934e90dd8afdbef840086d51655484c96b825a1b868e54176", func := "loop.example/g01119/laws.FnExactIsBrace", spec := "fnExactIsBrace", unfollowed := true, recurses := true, apart := false }
def FnExactIsBraceSaid : Prop := fnExactIsBraceRow.holds Try.pinned (OpenSpec.ofChange fnExactIsBraceSpec)

/-- ITS FALSE NEIGHBOUR: 'it returns false'. Refute it at one input. -/
def fnExactIsBraceWrong : ChangeSpec := { name := "fnExactIsBrace", fn := fun _ => fun
  | [d] => { results := [.lit (.bool false)], args := [d] }
  | _ => none }
def FnExactIsBraceWrongFalsely : Prop := fnExactIsBraceRow.holds Try.pinned (OpenSpec.ofChange fnExactIsBraceWrong)

/-- 'laws.FnExactIsBiSkewBrace': WHATEVER THE INPUT: true; the input reads as it did. -/
def fnExactIsBiSkewBraceSpec : ChangeSpec := { name := "fnExactIsBiSkewBrace", fn := fun _ => fun
  | [d] => { results := [.lit (.bool true)], args := [d] }
  | _ => none }
def fnExactIsBiSkewBraceRow : OpenClaim := { program := "ytnkbdnimpcipfaa", sum := "1bd3d0b524c8987934e90dd8afdbef840086d51655484c96b825a1b868e54176", func := "loop.example/g01119/laws.FnExactIsBiSkewBrace", spec := "fnExactIsBiSkewBrace", unfollowed := true, recurses := true, apart := false }
def FnExactIsBiSkewBraceSaid : Prop := fnExactIsBiSkewBraceRow.holds Try.pinned (OpenSpec.ofChange fnExactIsBiSkewBraceSpec)

/-- ITS FALSE NEIGHBOUR: 'it returns false'. Refute it at one input. -/
def fnExactIsBiSkewBraceWrong : ChangeSpec := { name := "fnExactIsBiSkewBrace", fn := fun _ => fun
  | [d] => { results := [.lit (.bool false)], args := [d] }
  | _ => none }
def FnExactIsBiSkewBraceWrongFalsely : Prop := fnExactIsBiSkewBraceRow.holds Try.pinned (OpenSpec.ofChange fnExactIsBiSkewBraceWrong)

/-- 'laws.FnExactOppositeGroup': WHATEVER THE INPUT: true; the input reads as it did. -/
def fnExactOppositeGroupSpec : ChangeSpec := { name := "fnExactOppositeGroup", fn := fun _ => fun
  | [d] => { results := [.lit (.bool true)], args := [d] }
  | _ => none }
def fnExactOppositeGroupRow : OpenClaim := { program := "ytnkbdnimpcipfaa", sum := "1bd3d0b524c8987934e90dd8afdbef840086d51655484c96b825a1b868e54176", func := "loop.example/g01119/laws.FnExactOppositeGroup", spec := "fnExactOppositeGroup", unfollowed := true, recurses := true, apart := false }
def FnExactOppositeGroupSaid : Prop := fnExactOppositeGroupRow.holds Try.pinned (OpenSpec.ofChange fnExactOppositeGroupSpec)

/-- ITS FALSE NEIGHBOUR: 'it returns false'. Refute it at one input. -/
def fnExactOppositeGroupWrong : ChangeSpec := { name := "fnExactOppositeGroup", fn := fun _ => fun
  | [d] => { results := [.lit (.bool false)], args := [d] }
  | _ => none }
def FnExactOppositeGroupWrongFalsely : Prop := fnExactOppositeGroupRow.holds Try.pinned (OpenSpec.ofChange fnExactOppositeGroupWrong)

/-- 'laws.FnExactProductGroup': WHATEVER THE INPUT: true; the input reads as it did. -/
def fnExactProductGroupSpec : ChangeSpec := { name := "fnExactProductGroup", fn := fun _ => fun
  | [d1, d2] => { results := [.lit (.bool true)], args := [d1, d2] }
  | _ => none }
def fnExactProductGroupRow : OpenClaim := { program := "ytnkbdnimpcipfaa", sum := "1bd3d0b524c8987934e90dd8afdbef840086d51655484c96b825a1b868e54176", func := "loop.example/g01119/laws.FnExactProductGroup", spec := "fnExactProductGroup", unfollowed := true, recurses := true, apart := false }
def FnExactProductGroupSaid : Prop := fnExactProductGroupRow.holds Try.pinned (OpenSpec.ofChange fnExactProductGroupSpec)

/-- ITS FALSE NEIGHBOUR: 'it returns false'. Refute it at one input. -/
def fnExactProductGroupWrong : ChangeSpec := { name := "fnExactProductGroup", fn := fun _ => fun
  | [d1, d2] => { results := [.lit (.bool false)], args := [d1, d2] }
  | _ => none }
def FnExactProductGroupWrongFalsely : Prop := fnExactProductGroupRow.holds Try.pinned (OpenSpec.ofChange fnExactProductGroupWrong)

/-- 'laws.FnExactSubgroupsOf': WHATEVER THE INPUT: true; the input reads as it did. -/
def fnExactSubgroupsOfSpec : ChangeSpec := { name := "fnExactSubgroupsOf", fn := fun _ => fun
  | [d] => { results := [.lit (.bool true)], args := [d] }
  | _ => none }
def fnExactSubgroupsOfRow : OpenClaim := { program := "ytnkbdnimpcipfaa", sum := "1bd3d0b524c8987934e90dd8afdbef840086d51655484c96b825a1b868e54176", func := "loop.example/g01119/laws.FnExactSubgroupsOf", spec := "fnExactSubgroupsOf", unfollowed := true, recurses := true, apart := false }
def FnExactSubgroupsOfSaid : Prop := fnExactSubgroupsOfRow.holds Try.pinned (OpenSpec.ofChange fnExactSubgroupsOfSpec)

/-- ITS FALSE NEIGHBOUR: 'it returns false'. Refute it at one input. -/
def fnExactSubgroupsOfWrong : ChangeSpec := { name := "fnExactSubgroupsOf", fn := fun _ => fun
  | [d] => { results := [.lit (.bool false)], args := [d] }
  | _ => none }
def FnExactSubgroupsOfWrongFalsely : Prop := fnExactSubgroupsOfRow.holds Try.pinned (OpenSpec.ofChange fnExactSubgroupsOfWrong)

/-- 'laws.FnExactIsAbelianGroup': WHATEVER THE INPUT: true; the input reads as it did. -/
def fnExactIsAbelianGroupSpec : ChangeSpec := { name := "fnExactIsAbelianGroup", fn := fun _ => fun
  | [d] => { results := [.lit (.bool true)], args := [d] }
  | _ => none }
def fnExactIsAbelianGroupRow : OpenClaim := { program := "ytnkbdnimpcipfaa", sum := "1bd3d0b524c8987934e90dd8afdbef840086d51655484c96b825a1b868e54176", func := "loop.example/g01119/laws.FnExactIsAbelianGroup", spec := "fnExactIsAbelianGroup", unfollowed := true, recurses := true, apart := false }
def FnExactIsAbelianGroupSaid : Prop := fnExactIsAbelianGroupRow.holds Try.pinned (OpenSpec.ofChange fnExactIsAbelianGroupSpec)

/-- ITS FALSE NEIGHBOUR: 'it returns false'. Refute it at one input. -/
def fnExactIsAbelianGroupWrong : ChangeSpec := { name := "fnExactIsAbelianGroup", fn := fun _ => fun
  | [d] => { results := [.lit (.bool false)], args := [d] }
  | _ => none }
def FnExactIsAbelianGroupWrongFalsely : Prop := fnExactIsAbelianGroupRow.holds Try.pinned (OpenSpec.ofChange fnExactIsAbelianGroupWrong)

/-- 'laws.FnExactIsTwoSidedBrace': WHATEVER THE INPUT: true; the input reads as it did. -/
def fnExactIsTwoSidedBraceSpec : ChangeSpec := { name := "fnExactIsTwoSidedBrace", fn := fun _ => fun
  | [d] => { results := [.lit (.bool true)], args := [d] }
  | _ => none }
def fnExactIsTwoSidedBraceRow : OpenClaim := { program := "ytnkbdnimpcipfaa", sum := "1bd3d0b524c8987934e90dd8afdbef840086d51655484c96b825a1b868e54176", func := "loop.example/g01119/laws.FnExactIsTwoSidedBrace", spec := "fnExactIsTwoSidedBrace", unfollowed := true, recurses := true, apart := false }
def FnExactIsTwoSidedBraceSaid : Prop := fnExactIsTwoSidedBraceRow.holds Try.pinned (OpenSpec.ofChange fnExactIsTwoSidedBraceSpec)

/-- ITS FALSE NEIGHBOUR: 'it returns false'. Refute it at one input. -/
def fnExactIsTwoSidedBraceWrong : ChangeSpec := { name := "fnExactIsTwoSidedBrace", fn := fun _ => fun
  | [d] => { results := [.lit (.bool false)], args := [d] }
  | _ => none }
def FnExactIsTwoSidedBraceWrongFalsely : Prop := fnExactIsTwoSidedBraceRow.holds Try.pinned (OpenSpec.ofChange fnExactIsTwoSidedBraceWrong)

/-- 'laws.FnExactTrivialBrace': WHATEVER THE INPUT: true; the input reads as it did. -/
def fnExactTrivialBraceSpec : ChangeSpec := { name := "fnExactTrivialBrace", fn := fun _ => fun
  | [d] => { results := [.lit (.bool true)], args := [d] }
  | _ => none }
def fnExactTrivialBraceRow : OpenClaim := { program := "ytnkbdnimpcipfaa", sum := "1bd3d0b524c8987934e90dd8afdbef840086d51655484c96b825a1b868e54176", func := "loop.example/g01119/laws.FnExactTrivialBrace", spec := "fnExactTrivialBrace", unfollowed := true, recurses := true, apart := false }
def FnExactTrivialBraceSaid : Prop := fnExactTrivialBraceRow.holds Try.pinned (OpenSpec.ofChange fnExactTrivialBraceSpec)

/-- ITS FALSE NEIGHBOUR: 'it returns false'. Refute it at one input. -/
def fnExactTrivialBraceWrong : ChangeSpec := { name := "fnExactTrivialBrace", fn := fun _ => fun
  | [d] => { results := [.lit (.bool false)], args := [d] }
  | _ => none }
def FnExactTrivialBraceWrongFalsely : Prop := fnExactTrivialBraceRow.holds Try.pinned (OpenSpec.ofChange fnExactTrivialBraceWrong)

/-- 'laws.FnExactBraceFault': WHATEVER THE INPUT: true; the input reads as it did. -/
def fnExactBraceFaultSpec : ChangeSpec := { name := "fnExactBraceFault", fn := fun _ => fun
  | [d] => { results := [.lit (.bool true)], args := [d] }
  | _ => none }
def fnExactBraceFaultRow : OpenClaim := { program := "ytnkbdnimpcipfaa", sum := "1bd3d0b524c8987934e90dd8afdbef840086d51655484c96b825a1b868e54176", func := "loop.example/g01119/laws.FnExactBraceFault", spec := "fnExactBraceFault", unfollowed := true, recurses := true, apart := false }
def FnExactBraceFaultSaid : Prop := fnExactBraceFaultRow.holds Try.pinned (OpenSpec.ofChange fnExactBraceFaultSpec)

/-- ITS FALSE NEIGHBOUR: 'it returns false'. Refute it at one input. -/
def fnExactBraceFaultWrong : ChangeSpec := { name := "fnExactBraceFault", fn := fun _ => fun
  | [d] => { results := [.lit (.bool false)], args := [d] }
  | _ => none }
def FnExactBraceFaultWrongFalsely : Prop := fnExactBraceFaultRow.holds Try.pinned (OpenSpec.ofChange fnExactBraceFaultWrong)

/-- 'laws.FnExactCoreQuandle': WHATEVER THE INPUT: true; the input reads as it did. -/
def fnExactCoreQuandleSpec : ChangeSpec := { name := "fnExactCoreQuandle", fn := fun _ => fun
  | [d] => { results := [.lit (.bool true)], args := [d] }
  | _ => none }
def fnExactCoreQuandleRow : OpenClaim := { program := "ytnkbdnimpcipfaa", sum := "1bd3d0b524c8987934e90dd8afdbef840086d51655484c96b825a1b868e54176", func := "loop.example/g01119/laws.FnExactCoreQuandle", spec := "fnExactCoreQuandle", unfollowed := true, recurses := true, apart := false }
def FnExactCoreQuandleSaid : Prop := fnExactCoreQuandleRow.holds Try.pinned (OpenSpec.ofChange fnExactCoreQuandleSpec)

/-- ITS FALSE NEIGHBOUR: 'it returns false'. Refute it at one input. -/
def fnExactCoreQuandleWrong : ChangeSpec := { name := "fnExactCoreQuandle", fn := fun _ => fun
  | [d] => { results := [.lit (.bool false)], args := [d] }
  | _ => none }
def FnExactCoreQuandleWrongFalsely : Prop := fnExactCoreQuandleRow.holds Try.pinned (OpenSpec.ofChange fnExactCoreQuandleWrong)

/- THE SECOND FORM. 'bulk': how many values and letters a reading holds, each counted each time it is reached (what is shared counts as often as it is met; a slice's spare places count too). A statement '..UptoSaid' is the law's where the arguments, and the package variables that the reading takes, are together of bulk at most 1048576: NARROWER than '..Said'. Prove '..Said' where nothing that the law and all that it calls make is longer than what came in: it says more and counts as full. Else prove '..UptoSaid'. A law counts once. -/
mutual
def uptoBulk {H : Type} : DataW H → Nat
  | .lit (.string bytes) => bytes.length + 1
  | .lit _ => 1
  | .nil => 1
  | .ptr d => uptoBulk d + 1
  | .slice elems spare => uptoBulkAll elems + uptoBulkAll spare + 1
  | .agg parts => uptoBulkAll parts + 1
  | .iface _ d => uptoBulk d + 1
  | .map entries => uptoBulkEntries entries + 1
  | .held _ => 1
def uptoBulkAll {H : Type} : List (DataW H) → Nat
  | [] => 0
  | d :: r => uptoBulk d + uptoBulkAll r
def uptoBulkEntries {H : Type} : List (Lit × DataW H) → Nat
  | [] => 0
  | x :: r => uptoBulkEntry x + uptoBulkEntries r
def uptoBulkEntry {H : Type} : Lit × DataW H → Nat
  | (.string bytes, d) => bytes.length + uptoBulk d + 1
  | (_, d) => uptoBulk d + 1
 end
def uptoSmall : (H : Type) → List (DataW H) → Bool := fun _ ds => decide (uptoBulkAll ds ≤ 1048576)
def OpenSpec.upto (s : _root_.Go.ChangeSpec) : _root_.Go.OpenSpec := { _root_.Go.OpenSpec.ofChange s with cond := some uptoSmall }

/-- 'laws.FnExactInverseIn', WHERE WHAT IT READS IS OF BULK AT MOST 1048576: true; the input reads as it did. -/
def fnExactInverseInUptoRow : OpenClaim := { program := "ytnkbdnimpcipfaa", sum := "1bd3d0b524c8987934e90dd8afdbef840086d51655484c96b825a1b868e54176", func := "loop.example/g01119/laws.FnExactInverseIn", spec := "fnExactInverseIn", unfollowed := true, recurses := true, apart := false, narrowed := true }
def FnExactInverseInUptoSaid : Prop := fnExactInverseInUptoRow.holds Try.pinned (OpenSpec.upto fnExactInverseInSpec)

/-- 'laws.FnExactCenterOf', WHERE WHAT IT READS IS OF BULK AT MOST 1048576: true; the input reads as it did. -/
def fnExactCenterOfUptoRow : OpenClaim := { program := "ytnkbdnimpcipfaa", sum := "1bd3d0b524c8987934e90dd8afdbef840086d51655484c96b825a1b868e54176", func := "loop.example/g01119/laws.FnExactCenterOf", spec := "fnExactCenterOf", unfollowed := true, recurses := true, apart := false, narrowed := true }
def FnExactCenterOfUptoSaid : Prop := fnExactCenterOfUptoRow.holds Try.pinned (OpenSpec.upto fnExactCenterOfSpec)

/-- 'laws.FnExactIsBrace', WHERE WHAT IT READS IS OF BULK AT MOST 1048576: true; the input reads as it did. -/
def fnExactIsBraceUptoRow : OpenClaim := { program := "ytnkbdnimpcipfaa", sum := "1bd3d0b524c8987934e90dd8afdbef840086d51655484c96b825a1b868e54176", func := "loop.example/g01119/laws.FnExactIsBrace", spec := "fnExactIsBrace", unfollowed := true, recurses := true, apart := false, narrowed := true }
def FnExactIsBraceUptoSaid : Prop := fnExactIsBraceUptoRow.holds Try.pinned (OpenSpec.upto fnExactIsBraceSpec)

/-- 'laws.FnExactIsBiSkewBrace', WHERE WHAT IT READS IS OF BULK AT MOST 1048576: true; the input reads as it did. -/
def fnExactIsBiSkewBraceUptoRow : OpenClaim := { program := "ytnkbdnimpcipfaa", sum := "1bd3d0b524c8987934e90dd8afdbef840086d51655484c96b825a1b868e54176", func := "loop.example/g01119/laws.FnExactIsBiSkewBrace", spec := "fnExactIsBiSkewBrace", unfollowed := true, recurses := true, apart := false, narrowed := true }
def FnExactIsBiSkewBraceUptoSaid : Prop := fnExactIsBiSkewBraceUptoRow.holds Try.pinned (OpenSpec.upto fnExactIsBiSkewBraceSpec)

/-- 'laws.FnExactOppositeGroup', WHERE WHAT IT READS IS OF BULK AT MOST 1048576: true; the input reads as it did. -/
def fnExactOppositeGroupUptoRow : OpenClaim := { program := "ytnkbdnimpcipfaa", sum := "1bd3d0b524c8987934e90dd8afdbef840086d51655484c96b825a1b868e54176", func := "loop.example/g01119/laws.FnExactOppositeGroup", spec := "fnExactOppositeGroup", unfollowed := true, recurses := true, apart := false, narrowed := true }
def FnExactOppositeGroupUptoSaid : Prop := fnExactOppositeGroupUptoRow.holds Try.pinned (OpenSpec.upto fnExactOppositeGroupSpec)

/-- 'laws.FnExactProductGroup', WHERE WHAT IT READS IS OF BULK AT MOST 1048576: true; the input reads as it did. -/
def fnExactProductGroupUptoRow : OpenClaim := { program := "ytnkbdnimpcipfaa", sum := "1bd3d0b524c8987934e90dd8afdbef840086d51655484c96b825a1b868e54176", func := "loop.example/g01119/laws.FnExactProductGroup", spec := "fnExactProductGroup", unfollowed := true, recurses := true, apart := false, narrowed := true }
def FnExactProductGroupUptoSaid : Prop := fnExactProductGroupUptoRow.holds Try.pinned (OpenSpec.upto fnExactProductGroupSpec)

/-- 'laws.FnExactSubgroupsOf', WHERE WHAT IT READS IS OF BULK AT MOST 1048576: true; the input reads as it did. -/
def fnExactSubgroupsOfUptoRow : OpenClaim := { program := "ytnkbdnimpcipfaa", sum := "1bd3d0b524c8987934e90dd8afdbef840086d51655484c96b825a1b868e54176", func := "loop.example/g01119/laws.FnExactSubgroupsOf", spec := "fnExactSubgroupsOf", unfollowed := true, recurses := true, apart := false, narrowed := true }
def FnExactSubgroupsOfUptoSaid : Prop := fnExactSubgroupsOfUptoRow.holds Try.pinned (OpenSpec.upto fnExactSubgroupsOfSpec)

/-- 'laws.FnExactIsAbelianGroup', WHERE WHAT IT READS IS OF BULK AT MOST 1048576: true; the input reads as it did. -/
def fnExactIsAbelianGroupUptoRow : OpenClaim := { program := "ytnkbdnimpcipfaa", sum := "1bd3d0b524c8987934e90dd8afdbef840086d51655484c96b825a1b868e54176", func := "loop.example/g01119/laws.FnExactIsAbelianGroup", spec := "fnExactIsAbelianGroup", unfollowed := true, recurses := true, apart := false, narrowed := true }
def FnExactIsAbelianGroupUptoSaid : Prop := fnExactIsAbelianGroupUptoRow.holds Try.pinned (OpenSpec.upto fnExactIsAbelianGroupSpec)

/-- 'laws.FnExactIsTwoSidedBrace', WHERE WHAT IT READS IS OF BULK AT MOST 1048576: true; the input reads as it did. -/
def fnExactIsTwoSidedBraceUptoRow : OpenClaim := { program := "ytnkbdnimpcipfaa", sum := "1bd3d0b524c8987934e90dd8afdbef840086d51655484c96b825a1b868e54176", func := "loop.example/g01119/laws.FnExactIsTwoSidedBrace", spec := "fnExactIsTwoSidedBrace", unfollowed := true, recurses := true, apart := false, narrowed := true }
def FnExactIsTwoSidedBraceUptoSaid : Prop := fnExactIsTwoSidedBraceUptoRow.holds Try.pinned (OpenSpec.upto fnExactIsTwoSidedBraceSpec)

/-- 'laws.FnExactTrivialBrace', WHERE WHAT IT READS IS OF BULK AT MOST 1048576: true; the input reads as it did. -/
def fnExactTrivialBraceUptoRow : OpenClaim := { program := "ytnkbdnimpcipfaa", sum := "1bd3d0b524c8987934e90dd8afdbef840086d51655484c96b825a1b868e54176", func := "loop.example/g01119/laws.FnExactTrivialBrace", spec := "fnExactTrivialBrace", unfollowed := true, recurses := true, apart := false, narrowed := true }
def FnExactTrivialBraceUptoSaid : Prop := fnExactTrivialBraceUptoRow.holds Try.pinned (OpenSpec.upto fnExactTrivialBraceSpec)

/-- 'laws.FnExactBraceFault', WHERE WHAT IT READS IS OF BULK AT MOST 1048576: true; the input reads as it did. -/
def fnExactBraceFaultUptoRow : OpenClaim := { program := "ytnkbdnimpcipfaa", sum := "1bd3d0b524c8987934e90dd8afdbef840086d51655484c96b825a1b868e54176", func := "loop.example/g01119/laws.FnExactBraceFault", spec := "fnExactBraceFault", unfollowed := true, recurses := true, apart := false, narrowed := true }
def FnExactBraceFaultUptoSaid : Prop := fnExactBraceFaultUptoRow.holds Try.pinned (OpenSpec.upto fnExactBraceFaultSpec)

/-- 'laws.FnExactCoreQuandle', WHERE WHAT IT READS IS OF BULK AT MOST 1048576: true; the input reads as it did. -/
def fnExactCoreQuandleUptoRow : OpenClaim := { program := "ytnkbdnimpcipfaa", sum := "1bd3d0b524c8987934e90dd8afdbef840086d51655484c96b825a1b868e54176", func := "loop.example/g01119/laws.FnExactCoreQuandle", spec := "fnExactCoreQuandle", unfollowed := true, recurses := true, apart := false, narrowed := true }
def FnExactCoreQuandleUptoSaid : Prop := fnExactCoreQuandleUptoRow.holds Try.pinned (OpenSpec.upto fnExactCoreQuandleSpec)

end Rows
end Go.Proofs.Ytnkbdnimpcipfaa
