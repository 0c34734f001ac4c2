/-
  No cell of these rows narrows 'for every input' (looked for: loops, veiled, ifaces, maps, wideKeys, modest, calm, conditions, laid).
  DERIVED. THE GIVEN ROWS OF THIS SEAT. 6 by the template 'for every input the law returns true; each argument reads behind the call as it read before'; 0 by the template 'total and deterministic' (their statements: YtpldifgngkefjaaTotals.lean).
  GIVEN WITH THE SEED: the statements are not yours to turn. If you find one false, say at which input.
  Laid BY PROGRAM, IN A SANDBOX (cutbox-rows.mjs): the forced cells as the released guide's own fill.sh prints them over the translation 028f4780749efe39… (all of the seat's roots in one cut). By AI agents, Wed Nov 11 2026. No macro, syntax, notation, axiom, sorry.
-/
import Derived.Test.YtpldifgngkefjaaChecked
import GoSem.Claim
import GoSem.ClaimJoined
import GoSem.ClaimMapViews
import Derived.JoinedTies
import Derived.KernelRfl
namespace Go.Proofs.Ytpldifgngkefjaa
/- THE CELL 'sum', in the pinned program and in every row, IS THE sha256 OF THE DUMP (.gsa) THAT YtpldifgngkefjaaProg.lean LOADS. Nothing in Lean hashes anything: it is a label: what it is worth is what the hold of that sum in a sandbox is worth. -/
noncomputable def Try.pinned : Pinned := { name := "ytpldifgngkefjaa", sum := "028f4780749efe39578b31e74251651da15732f22158d665f2891d7418622d4f", checked := Try.checked }
namespace Rows
def none {H : Type} : Left H := { results := [], args := [] }

/-- 'laws.FnExactCyclicGroup': WHATEVER THE INPUT: true; the input reads as it did. -/
def fnExactCyclicGroupSpec : ChangeSpec := { name := "fnExactCyclicGroup", fn := fun _ => fun
  | [d] => { results := [.lit (.bool true)], args := [d] }
  | _ => none }
def fnExactCyclicGroupRow : OpenClaim := { program := "ytpldifgngkefjaa", sum := "028f4780749efe39578b31e74251651da15732f22158d665f2891d7418622d4f", func := "loop.example/g01119/laws.FnExactCyclicGroup", spec := "fnExactCyclicGroup", unfollowed := true, recurses := true, apart := false }
def FnExactCyclicGroupSaid : Prop := fnExactCyclicGroupRow.holds Try.pinned (OpenSpec.ofChange fnExactCyclicGroupSpec)

/-- ITS FALSE NEIGHBOUR: 'it returns false'. Refute it at one input. -/
def fnExactCyclicGroupWrong : ChangeSpec := { name := "fnExactCyclicGroup", fn := fun _ => fun
  | [d] => { results := [.lit (.bool false)], args := [d] }
  | _ => none }
def FnExactCyclicGroupWrongFalsely : Prop := fnExactCyclicGroupRow.holds Try.pinned (OpenSpec.ofChange fnExactCyclicGroupWrong)

/-- 'laws.FnExactDicyclicGroup': WHATEVER THE INPUT: true; the input reads as it did. -/
def fnExactDicyclicGroupSpec : ChangeSpec := { name := "fnExactDicyclicGroup", fn := fun _ => fun
  | [d] => { results := [.lit (.bool true)], args := [d] }
  | _ => none }
def fnExactDicyclicGroupRow : OpenClaim := { program := "ytpldifgngkefjaa", sum := "028f4780749efe39578b31e74251651da15732f22158d665f2891d7418622d4f", func := "loop.example/g01119/laws.FnExactDicyclicGroup", spec := "fnExactDicyclicGroup", unfollowed := true, recurses := true, apart := false }
def FnExactDicyclicGroupSaid : Prop := fnExactDicyclicGroupRow.holds Try.pinned (OpenSpec.ofChange fnExactDicyclicGroupSpec)

/-- ITS FALSE NEIGHBOUR: 'it returns false'. Refute it at one input. -/
def fnExactDicyclicGroupWrong : ChangeSpec := { name := "fnExactDicyclicGroup", fn := fun _ => fun
  | [d] => { results := [.lit (.bool false)], args := [d] }
  | _ => none }
def FnExactDicyclicGroupWrongFalsely : Prop := fnExactDicyclicGroupRow.holds Try.pinned (OpenSpec.ofChange fnExactDicyclicGroupWrong)

/-- 'laws.FnExactDihedralGroup': WHATEVER THE INPUT: true; the input reads as it did. -/
def fnExactDihedralGroupSpec : ChangeSpec := { name := "fnExactDihedralGroup", fn := fun _ => fun
  | [d] => { results := [.lit (.bool true)], args := [d] }
  | _ => none }
def fnExactDihedralGroupRow : OpenClaim := { program := "ytpldifgngkefjaa", sum := "028f4780749efe39578b31e74251651da15732f22158d665f2891d7418622d4f", func := "loop.example/g01119/laws.FnExactDihedralGroup", spec := "fnExactDihedralGroup", unfollowed := true, recurses := true, apart := false }
def FnExactDihedralGroupSaid : Prop := fnExactDihedralGroupRow.holds Try.pinned (OpenSpec.ofChange fnExactDihedralGroupSpec)

/-- ITS FALSE NEIGHBOUR: 'it returns false'. Refute it at one input. -/
def fnExactDihedralGroupWrong : ChangeSpec := { name := "fnExactDihedralGroup", fn := fun _ => fun
  | [d] => { results := [.lit (.bool false)], args := [d] }
  | _ => none }
def FnExactDihedralGroupWrongFalsely : Prop := fnExactDihedralGroupRow.holds Try.pinned (OpenSpec.ofChange fnExactDihedralGroupWrong)

/-- 'laws.FnExactIsGroup': WHATEVER THE INPUT: true; the input reads as it did. -/
def fnExactIsGroupSpec : ChangeSpec := { name := "fnExactIsGroup", fn := fun _ => fun
  | [d] => { results := [.lit (.bool true)], args := [d] }
  | _ => none }
def fnExactIsGroupRow : OpenClaim := { program := "ytpldifgngkefjaa", sum := "028f4780749efe39578b31e74251651da15732f22158d665f2891d7418622d4f", func := "loop.example/g01119/laws.FnExactIsGroup", spec := "fnExactIsGroup", unfollowed := true, recurses := true, apart := false }
def FnExactIsGroupSaid : Prop := fnExactIsGroupRow.holds Try.pinned (OpenSpec.ofChange fnExactIsGroupSpec)

/-- ITS FALSE NEIGHBOUR: 'it returns false'. Refute it at one input. -/
def fnExactIsGroupWrong : ChangeSpec := { name := "fnExactIsGroup", fn := fun _ => fun
  | [d] => { results := [.lit (.bool false)], args := [d] }
  | _ => none }
def FnExactIsGroupWrongFalsely : Prop := fnExactIsGroupRow.holds Try.pinned (OpenSpec.ofChange fnExactIsGroupWrong)

/-- 'laws.FnExactRingBrace': WHATEVER THE INPUT: true; the input reads as it did. -/
def fnExactRingBraceSpec : ChangeSpec := { name := "fnExactRingBrace", fn := fun _ => fun
  | [d1, d2] => { results := [.lit (.bool true)], args := [d1, d2] }
  | _ => none }
def fnExactRingBraceRow : OpenClaim := { program := "ytpldifgngkefjaa", sum := "028f4780749efe39578b31e74251651da15732f22158d665f2891d7418622d4f", func := "loop.example/g01119/laws.FnExactRingBrace", spec := "fnExactRingBrace", unfollowed := true, recurses := true, apart := false }
def FnExactRingBraceSaid : Prop := fnExactRingBraceRow.holds Try.pinned (OpenSpec.ofChange fnExactRingBraceSpec)

/-- ITS FALSE NEIGHBOUR: 'it returns false'. Refute it at one input. -/
def fnExactRingBraceWrong : ChangeSpec := { name := "fnExactRingBrace", fn := fun _ => fun
  | [d1, d2] => { results := [.lit (.bool false)], args := [d1, d2] }
  | _ => none }
def FnExactRingBraceWrongFalsely : Prop := fnExactRingBraceRow.holds Try.pinned (OpenSpec.ofChange fnExactRingBraceWrong)

/-- 'laws.FnExactOrderIn': WHATEVER THE INPUT: true; the input reads as it did. -/
def fnExactOrderInSpec : ChangeSpec := { name := "fnExactOrderIn", fn := fun _ => fun
  | [d1, d2] => { results := [.lit (.bool true)], args := [d1, d2] }
  | _ => none }
def fnExactOrderInRow : OpenClaim := { program := "ytpldifgngkefjaa", sum := "028f4780749efe39578b31e74251651da15732f22158d665f2891d7418622d4f", func := "loop.example/g01119/laws.FnExactOrderIn", spec := "fnExactOrderIn", unfollowed := true, recurses := true, apart := false }
def FnExactOrderInSaid : Prop := fnExactOrderInRow.holds Try.pinned (OpenSpec.ofChange fnExactOrderInSpec)

/-- ITS FALSE NEIGHBOUR: 'it returns false'. Refute it at one input. -/
def fnExactOrderInWrong : ChangeSpec := { name := "fnExactOrderIn", fn := fun _ => fun
  | [d1, d2] => { results := [.lit (.bool false)], args := [d1, d2] }
  | _ => none }
def FnExactOrderInWrongFalsely : Prop := fnExactOrderInRow.holds Try.pinned (OpenSpec.ofChange fnExactOrderInWrong)

/- THE SECOND FORM. 'bulk': how many values and letters a reading holds, each counted each time it is reached (what is shared counts as often as it is met; a slice's spare places count too). A statement '..UptoSaid' is the law's where the arguments, and the package variables that the reading takes, are together of bulk at most 1048576: NARROWER than '..Said'. Prove '..Said' where nothing that the law and all that it calls make is longer than what came in: it says more and counts as full. Else prove '..UptoSaid'. A law counts once. -/
mutual
def uptoBulk {H : Type} : DataW H → Nat
  | .lit (.string bytes) => bytes.length + 1
  | .lit _ => 1
  | .nil => 1
  | .ptr d => uptoBulk d + 1
  | .slice elems spare => uptoBulkAll elems + uptoBulkAll spare + 1
  | .agg parts => uptoBulkAll parts + 1
  | .iface _ d => uptoBulk d + 1
  | .map entries => uptoBulkEntries entries + 1
  | .held _ => 1
def uptoBulkAll {H : Type} : List (DataW H) → Nat
  | [] => 0
  | d :: r => uptoBulk d + uptoBulkAll r
def uptoBulkEntries {H : Type} : List (Lit × DataW H) → Nat
  | [] => 0
  | x :: r => uptoBulkEntry x + uptoBulkEntries r
def uptoBulkEntry {H : Type} : Lit × DataW H → Nat
  | (.string bytes, d) => bytes.length + uptoBulk d + 1
  | (_, d) => uptoBulk d + 1
 end
def uptoSmall : (H : Type) → List (DataW H) → Bool := fun _ ds => decide (uptoBulkAll ds ≤ 1048576)
def OpenSpec.upto (s : _root_.Go.ChangeSpec) : _root_.Go.OpenSpec := { _root_.Go.OpenSpec.ofChange s with cond := some uptoSmall }

/-- 'laws.FnExactCyclicGroup', WHERE WHAT IT READS IS OF BULK AT MOST 1048576: true; the input reads as it did. -/
def fnExactCyclicGroupUptoRow : OpenClaim := { program := "ytpldifgngkefjaa", sum := "028f4780749efe39578b31e74251651da15732f22158d665f2891d7418622d4f", func := "loop.example/g01119/laws.FnExactCyclicGroup", spec := "fnExactCyclicGroup", unfollowed := true, recurses := true, apart := false, narrowed := true }
def FnExactCyclicGroupUptoSaid : Prop := fnExactCyclicGroupUptoRow.holds Try.pinned (OpenSpec.upto fnExactCyclicGroupSpec)

/-- 'laws.FnExactDicyclicGroup', WHERE WHAT IT READS IS OF BULK AT MOST 1048576: true; the input reads as it did. -/
def fnExactDicyclicGroupUptoRow : OpenClaim := { program := "ytpldifgngkefjaa", sum := "028f4780749efe39578b31e74251651da15732f22158d665f2891d7418622d4f", func := "loop.example/g01119/laws.FnExactDicyclicGroup", spec := "fnExactDicyclicGroup", unfollowed := true, recurses := true, apart := false, narrowed := true }
def FnExactDicyclicGroupUptoSaid : Prop := fnExactDicyclicGroupUptoRow.holds Try.pinned (OpenSpec.upto fnExactDicyclicGroupSpec)

/-- 'laws.FnExactDihedralGroup', WHERE WHAT IT READS IS OF BULK AT MOST 1048576: true; the input reads as it did. -/
def fnExactDihedralGroupUptoRow : OpenClaim := { program := "ytpldifgngkefjaa", sum := "028f4780749efe39578b31e74251651da15732f22158d665f2891d7418622d4f", func := "loop.example/g01119/laws.FnExactDihedralGroup", spec := "fnExactDihedralGroup", unfollowed := true, recurses := true, apart := false, narrowed := true }
def FnExactDihedralGroupUptoSaid : Prop := fnExactDihedralGroupUptoRow.holds Try.pinned (OpenSpec.upto fnExactDihedralGroupSpec)

/-- 'laws.FnExactIsGroup', WHERE WHAT IT READS IS OF BULK AT MOST 1048576: true; the input reads as it did. -/
def fnExactIsGroupUptoRow : OpenClaim := { program := "ytpldifgngkefjaa", sum := "028f4780749efe39578b31e74251651da15732f22158d665f2891d7418622d4f", func := "loop.example/g01119/laws.FnExactIsGroup", spec := "fnExactIsGroup", unfollowed := true, recurses := true, apart := false, narrowed := true }
def FnExactIsGroupUptoSaid : Prop := fnExactIsGroupUptoRow.holds Try.pinned (OpenSpec.upto fnExactIsGroupSpec)

/-- 'laws.FnExactRingBrace', WHERE WHAT IT READS IS OF BULK AT MOST 1048576: true; the input reads as it did. -/
def fnExactRingBraceUptoRow : OpenClaim := { program := "ytpldifgngkefjaa", sum := "028f4780749efe39578b31e74251651da15732f22158d665f2891d7418622d4f", func := "loop.example/g01119/laws.FnExactRingBrace", spec := "fnExactRingBrace", unfollowed := true, recurses := true, apart := false, narrowed := true }
def FnExactRingBraceUptoSaid : Prop := fnExactRingBraceUptoRow.holds Try.pinned (OpenSpec.upto fnExactRingBraceSpec)

/-- 'laws.FnExactOrderIn', WHERE WHAT IT READS IS OF BULK AT MOST 1048576: true; the input reads as it did. -/
def fnExactOrderInUptoRow : OpenClaim := { program := "ytpldifgngkefjaa", sum := "028f4780749efe39578b31e74251651da15732f22158d665f2891d7418622d4f", func := "loop.example/g01119/laws.FnExactOrderIn", spec := "fnExactOrderIn", unfollowed := true, recurses := true, apart := false, narrowed := true }
def FnExactOrderInUptoSaid : Prop := fnExactOrderInUptoRow.holds Try.pinned (OpenSpec.upto fnExactOrderInSpec)

end Rows
end Go.Proofs.Ytpldifgngkefjaa
