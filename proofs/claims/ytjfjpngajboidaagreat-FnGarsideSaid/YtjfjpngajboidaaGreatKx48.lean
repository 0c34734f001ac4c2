/-
  From the reading of an argument of bytes to what the walks are told of it.
-/
import Derived.ProofKit
import Derived.OpenShut
import Derived.ChangeSlices
import Derived.Deep.Matrix
import Derived.Lib.SmallJoins
import Derived.Test.YtjfjpngajboidaaGreatKx3
namespace Go.Proofs.YtjfjpngajboidaaGreat
set_option linter.unusedVariables false
set_option linter.unusedSimpArgs false
open Go.RowKit Go.ChangeShapes Go.WideShapes Go.ChangeAt Go.Joins

theorem bytesR_of_trod {H : Type} {enc : TypeId × Value → H} {P : Program} {w : World} {base : Nat} {held : Bool} {t e : TypeId} {fuel : Nat} {c : Value} {x : DataW H × List MemPlace} (ht : P.underlying t = some (.slice e)) (he : P.underlying e = some (.int .u8)) (ce : P.cellsOf e = 1)
    (h : DataW.trod enc P w base (fun _ => true) held fuel t [c] = some x) : ∃ bs : List Int, BytesR w c bs := by
  rcases open_ints ht he ce h with ⟨hcs, _⟩ | ⟨a, len, cap, zs, hcs, _, hl, hm, hz, _, hcell, hwf⟩
  · simp at hcs
    subst hcs
    exact ⟨[], none, 0, rfl, fun i hi => by simp at hi, fun h => absurd rfl h⟩
  · simp at hcs
    subst hcs
    rw [if_pos rfl] at hz
    have hlen : (zs.take len).length = len := by rw [List.length_take]; omega
    have hix : ∀ i, i < len → ix (zs.take len) i = zs.getD i 0 := fun i hi => by rw [ix_eq]; simp [List.getD, List.getElem?_take, hi]
    refine ⟨zs.take len, some a, cap, by rw [hlen], fun i hi => ?_, fun hne => ?_⟩
    · rw [hlen] at hi
      rw [hix i hi]
      have hm : zs.getD i 0 ∈ zs := by
        rw [List.getD_eq_getElem?_getD, List.getElem?_eq_getElem (by omega)]
        exact List.getElem_mem _
      exact bounds_u8 (hwf _ hm)
    · have hpos : 0 < len := by
        rcases Nat.eq_zero_or_pos len with h0 | h0
        · subst h0; exact absurd (by simp) hne
        · exact h0
      obtain ⟨b, o, rfl, hc⟩ := ints_at hcell (by omega)
      refine ⟨b, o, rfl, fun i hi => ?_⟩
      rw [hlen] at hi
      rw [hix i hi]
      exact hc i (by omega)
end Go.Proofs.YtjfjpngajboidaaGreat
