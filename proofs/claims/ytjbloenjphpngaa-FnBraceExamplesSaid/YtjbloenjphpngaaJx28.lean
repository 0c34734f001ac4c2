/-
  Contract of assign.
-/
import Derived.Test.YtjbloenjphpngaaProg
import Derived.Deep.DeepCutAuto
import Derived.Deep.RegionWith
import Derived.Deep.RegionHeld3
import Derived.Deep.DrawnRows
import Derived.StillTailTactics
import Derived.Maps.AppendAt
import Derived.Test.YtjbloenjphpngaaJx0
import Derived.Test.YtjbloenjphpngaaJx1
import Derived.Test.YtjbloenjphpngaaJx5
import Derived.Test.YtjbloenjphpngaaJx14
import Derived.Test.YtjbloenjphpngaaJx8
import Derived.Test.YtjbloenjphpngaaJx9
import Derived.Test.YtjbloenjphpngaaJx25
import Derived.Test.YtjbloenjphpngaaJx2
import Derived.Test.YtjbloenjphpngaaJx27
import Derived.Test.YtjbloenjphpngaaJx10
import Derived.Test.YtjbloenjphpngaaJx6
import Derived.Test.YtjbloenjphpngaaJx3
import Derived.Test.YtjbloenjphpngaaJx4
import Derived.Test.YtjbloenjphpngaaJx16
import Derived.Test.YtjbloenjphpngaaJx26
namespace Go.Proofs.Ytjbloenjphpngaa
set_option linter.unusedVariables false
set_option linter.unusedSimpArgs false
open Go.RowKit
attribute [local go_sem ↓] Go.wp_at_zero Go.wp_at_succ

open Go.Deep
/-- the state of the mapping beside the tables -/
structure AsgSt (base : Nat) (X : Nat → Prop) (M I U tb tq cz ub uo cu n : Nat) (az bz : List (List (List Int))) (f s : List Int) (sv : Value) (w : World) : Prop where
  st : MapSt base w M I U (.slice (some ⟨tb, tq, none⟩) az.length cz) (.slice (some ⟨ub, uo, none⟩) bz.length cu) n f s sv
  ta : TabsIn base X w tb tq n az
  tu : TabsIn base X w ub uo n bz
  part : PartOk n f s
section
variable {base : Nat} {X : Nat → Prop} {M I U tb tq cz ub uo cu n : Nat} {az bz : List (List (List Int))} {f s : List Int} {sv : Value} {w : World}
theorem AsgSt.drew (h : AsgSt base X M I U tb tq cz ub uo cu n az bz f s sv w) : AsgSt base X M I U tb tq cz ub uo cu n az bz f s sv w.drew := ⟨h.st.drew, h.ta.keep (fun _ _ _ => rfl), h.tu.keep (fun _ _ _ => rfl), h.part⟩
theorem AsgSt.drewN (h : AsgSt base X M I U tb tq cz ub uo cu n az bz f s sv w) (k : Nat) : AsgSt base X M I U tb tq cz ub uo cu n az bz f s sv (w.drewN k) := ⟨h.st.drewN k, h.ta.keep (fun _ _ _ => rfl), h.tu.keep (fun _ _ _ => rfl), h.part⟩
theorem AsgSt.next (h : AsgSt base X M I U tb tq cz ub uo cu n az bz f s sv w) {w' : World} {f' s' : List Int} {sv' : Value} (ho : Only (OwnP M I U sv) w w') (hm : MapSt base w' M I U (.slice (some ⟨tb, tq, none⟩) az.length cz) (.slice (some ⟨ub, uo, none⟩) bz.length cu) n f' s' sv') (hp : PartOk n f' s') : AsgSt base X M I U tb tq cz ub uo cu n az bz f' s' sv' w' :=
  ⟨hm, h.ta.keep (ho.keepB h.st.ownLow h.st.size), h.tu.keep (ho.keepB h.st.ownLow h.st.size), hp⟩
end
/-- wpAnyH_take, the operation's slot named -/
theorem take_at {P : Program} {ops : Array Oper} {Q : Exit → Act → World → Prop} {md : Region.Mode} {S : World → Prop} {i : Nat} {oi : Oper} {D : Nat} {v : Value} {fuel : Nat} {listed : Array Bool} {t : Array Value} {df : List Deferred} {w : World} (hi : ops[i]? = some oi) (hD : oi.dst = some D)
    (hs : Region.noSelect ops = true) (hf : Region.free md ops listed i = true) (hr : (Region.ready md ops listed).contains i = true)
    (hQ : ∀ c a w, Q (.panic c) (a.put oi.dst v) w → Q (.panic c) a w) (hy : YieldsIf P ops S oi v ⟨t, df⟩) (hS : S w)
    (h : wpAnyH P md ops Q S fuel (listed.setIfInBounds i true) ⟨t.setIfInBounds D v, df⟩ w) : wpAnyH P md ops Q S (fuel + 1) listed ⟨t, df⟩ w :=
  wpAnyH_take hi hs hf hr hQ hy hS (by rw [hD]; exact h)
def AsgPost (base M I U : Nat) (tv uv : Value) (n : Nat) (sv : Value) (r : Bool) (f' s' : List Int) (w : World) (e : Ending) (w' : World) : Prop :=
  ∃ sv', e = .returned (.bool r) ∧ MapSt base w' M I U tv uv n f' s' sv' ∧ Only (OwnP M I U sv) w w' ∧ OwnsAt sv sv' w

end Go.Proofs.Ytjbloenjphpngaa
