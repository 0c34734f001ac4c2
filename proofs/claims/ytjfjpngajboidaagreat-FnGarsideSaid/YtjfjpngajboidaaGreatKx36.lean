/-
  Contract of assign.
-/
import Derived.Test.YtjfjpngajboidaaGreatKx32
namespace Go.Proofs.YtjfjpngajboidaaGreat
set_option linter.unusedVariables false
set_option linter.unusedSimpArgs false
open Go.RowKit
attribute [local go_sem ↓] Go.wp_at_zero Go.wp_at_succ

open Go.Deep
structure AsgSt (base : Nat) (X : Nat → Prop) (M I U tb tq cz ub uo cu n : Nat) (az bz : List (List (List Int))) (f s : List Int) (sv : Value) (w : World) : Prop where
  st : MapSt base w M I U (.slice (some ⟨tb, tq, none⟩) az.length cz) (.slice (some ⟨ub, uo, none⟩) bz.length cu) n f s sv
  ta : TabsIn base X w tb tq n az
  tu : TabsIn base X w ub uo n bz
  part : PartOk n f s
section
variable {base : Nat} {X : Nat → Prop} {M I U tb tq cz ub uo cu n : Nat} {az bz : List (List (List Int))} {f s : List Int} {sv : Value} {w : World}
theorem AsgSt.drew (h : AsgSt base X M I U tb tq cz ub uo cu n az bz f s sv w) : AsgSt base X M I U tb tq cz ub uo cu n az bz f s sv w.drew := ⟨h.st.drew, h.ta.keep (fun _ _ _ => rfl), h.tu.keep (fun _ _ _ => rfl), h.part⟩
theorem AsgSt.drewN (h : AsgSt base X M I U tb tq cz ub uo cu n az bz f s sv w) (k : Nat) : AsgSt base X M I U tb tq cz ub uo cu n az bz f s sv (w.drewN k) := ⟨h.st.drewN k, h.ta.keep (fun _ _ _ => rfl), h.tu.keep (fun _ _ _ => rfl), h.part⟩
theorem AsgSt.next (h : AsgSt base X M I U tb tq cz ub uo cu n az bz f s sv w) {w' : World} {f' s' : List Int} {sv' : Value} (ho : Only (OwnP M I U sv) w w') (hm : MapSt base w' M I U (.slice (some ⟨tb, tq, none⟩) az.length cz) (.slice (some ⟨ub, uo, none⟩) bz.length cu) n f' s' sv') (hp : PartOk n f' s') : AsgSt base X M I U tb tq cz ub uo cu n az bz f' s' sv' w' :=
  ⟨hm, h.ta.keep (ho.keepB h.st.ownLow h.st.size), h.tu.keep (ho.keepB h.st.ownLow h.st.size), hp⟩
end
end Go.Proofs.YtjfjpngajboidaaGreat
