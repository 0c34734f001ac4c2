/-
  Texts of lists and of tables: plain.
-/
import Derived.Lib.Join
import Derived.Test.YtjfjpngajboidaaGreatKx8
namespace Go.Proofs.YtjfjpngajboidaaGreat
set_option linter.unusedVariables false
set_option linter.unusedSimpArgs false
open Go.RowKit

@[irreducible] def digB (x : Int) : UInt8 := if x < 10 then UInt8.ofNat (48 + x.toNat) else UInt8.ofNat (87 + x.toNat)
theorem digB_lo {x : Nat} (h : x < 10) : ((digB x).toNat : Int) = 48 + (x : Int) := by
  unfold digB
  rw [if_pos (by omega), UInt8.toNat_ofNat', Int.toNat_natCast]
  omega
theorem digB_hi {x : Nat} (h : 10 ≤ x) (h2 : x < 12) : ((digB x).toNat : Int) = 97 + (x : Int) - 10 := by
  unfold digB
  rw [if_neg (by omega), UInt8.toNat_ofNat', Int.toNat_natCast]
  omega
@[irreducible] def lineL (l : List Int) : List UInt8 := l.map digB
theorem length_lineL (l : List Int) : (lineL l).length = l.length := by unfold lineL; simp
theorem lineL_at (l : List Int) (i : Nat) (h : i < (lineL l).length) : (lineL l)[i] = digB (ix l i) := by
  have h' : i < l.length := by rwa [length_lineL] at h
  have e : lineL l = l.map digB := by unfold lineL; rfl
  simp only [e, List.getElem_map]
  rw [ix_eq]
  simp [List.getD, h']
theorem bytes_size (a : List UInt8) : (ByteArray.mk a.toArray).size = a.length := by show a.toArray.size = _; simp
end Go.Proofs.YtjfjpngajboidaaGreat
