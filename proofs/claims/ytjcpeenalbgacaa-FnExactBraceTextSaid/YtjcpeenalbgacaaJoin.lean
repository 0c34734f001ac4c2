/-
  Contracts of Go's library at this program, laid from the shelf.
-/
import Derived.Shelf.Strings.Builder1
import Derived.Shelf.Strings.Builder2
import Derived.Shelf.Strings.OnBuilder
import Derived.Test.YtjcpeenalbgacaaProg
namespace Go.Proofs.Ytjcpeenalbgacaa
set_option linter.unusedVariables false
open Go.Shelf Go.RowKit
def sh_lays156_ren : Go.Shelf.Ren := ⟨fun | 156 => 114 | 165 => 137 | 166 => 138 | 169 => 139 | 240 => 153 | 241 => 154 | 276 => 163 | 277 => 164 | n => n, fun | 31 => 101 | 9 => 9 | 3 => 3 | 4 => 4 | 0 => 0 | 20 => 20 | 72 => 118 | 76 => 122 | 70 => 116 | 37 => 115 | 75 => 121 | 127 => 133 | 164 => 137 | 5 => 5 | 80 => 124 | n => n, fun | n => n⟩
theorem sh_lays156 : Go.Proofs.Lays.n156 Try.prog sh_lays156_ren := {
  mixed := by kernel_rfl
  f156 := Try.func114.trans (congrArg some (by kernel_rfl))
  f165 := Try.func137.trans (congrArg some (by kernel_rfl))
  f166 := Try.func138.trans (congrArg some (by kernel_rfl))
  f169 := Try.func139.trans (congrArg some (by kernel_rfl))
  f240 := Try.func153.trans (congrArg some (by kernel_rfl))
  f241 := Try.func154.trans (congrArg some (by kernel_rfl))
  f276 := Try.func163.trans (congrArg some (by kernel_rfl))
  f277 := Try.func164.trans (congrArg some (by kernel_rfl))
  t0 := Try.underlying0
  a0 := Try.isAgg0
  z0 := Try.sizeOf0
  v0 := Try.zeroValue0
  t3 := Try.underlying3
  a3 := Try.isAgg3
  z3 := Try.sizeOf3
  v3 := Try.zeroValue3
  t4 := Try.underlying4
  a4 := Try.isAgg4
  z4 := Try.sizeOf4
  v4 := Try.zeroValue4
  t9 := Try.underlying9
  a9 := Try.isAgg9
  z9 := Try.sizeOf9
  v9 := Try.zeroValue9
  t20 := Try.underlying20
  a20 := Try.isAgg20
  z20 := Try.sizeOf20
  v20 := Try.zeroValue20
  t31 := Try.underlying101
  a31 := Try.isAgg101
  z31 := Try.sizeOf101
  v31 := Try.zeroValue101
  t37 := Try.underlying115
  a37 := Try.isAgg115
  z37 := Try.sizeOf115
  v37 := Try.zeroValue115
  t70 := Try.underlying116
  a70 := Try.isAgg116
  z70 := Try.sizeOf116
  v70 := Try.zeroValue116
  t72 := Try.underlying118
  a72 := Try.isAgg118
  z72 := Try.sizeOf118
  v72 := Try.zeroValue118
  t75 := Try.underlying121
  a75 := Try.isAgg121
  z75 := Try.sizeOf121
  v75 := Try.zeroValue121
  t76 := Try.underlying122
  a76 := Try.isAgg122
  z76 := Try.sizeOf122
  v76 := Try.zeroValue122
  t127 := Try.underlying133
  a127 := Try.isAgg133
  z127 := Try.sizeOf133
  v127 := Try.zeroValue133
  t164 := Try.underlying137
  a164 := Try.isAgg137
  z164 := Try.sizeOf137
  v164 := Try.zeroValue137 }
theorem sh_Builder_Extra_156 : Builder.Extra Try.prog sh_lays156_ren := {
  sizeBuilder := by kernel_rfl
  liesBuilder := by kernel_rfl
  t5 := Try.underlying5
  a5 := Try.isAgg5
  z5 := Try.sizeOf5
  v5 := Try.zeroValue5
  infoByte := by kernel_rfl
  cellsByte := by kernel_rfl
  sizeByte := by kernel_rfl
  neB5 := by decide }
theorem sh_strings_Join_none (a : Option Addr) (c : Nat) (sep : ByteArray) (w : World) :
    Calls Try.prog 114 #[.slice a 0 c, .string sep] w fun e w' => e = .returned (.string ⟨#[]⟩) ∧ w' = w := Any.strings_Join_none sh_lays156 sh_Builder_Extra_156 a c sep w
theorem sh_strings_Join (bk o c : Nat) (xs : List ByteArray) (sep : ByteArray) (w : World) (hcells : ∀ (j : Nat) x, xs[j]? = some x → w.cell? ⟨bk, o + j, none⟩ = some (.string x)) (hbk : bk < w.heap.size) (hN : xs.length ≤ 140737488355328) (hcap : xs.length ≤ c) (hlen : (Lib.join (xs.map (·.data.toList)) sep.data.toList).length ≤ 140737488355328) :
    Calls Try.prog 114 #[.slice (some ⟨bk, o, none⟩) xs.length c, .string sep] w fun e w' => e = .returned (.string ⟨(Lib.join (xs.map (·.data.toList)) sep.data.toList).toArray⟩) ∧ Below w.heap.size w w' := Any.strings_Join sh_lays156 sh_Builder_Extra_156 bk o c xs sep w hcells hbk hN hcap hlen
end Go.Proofs.Ytjcpeenalbgacaa
