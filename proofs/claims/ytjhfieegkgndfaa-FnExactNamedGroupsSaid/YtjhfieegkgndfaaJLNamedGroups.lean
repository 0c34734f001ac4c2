/-
  The law FnExactNamedGroups, walked.
-/
import Derived.Test.YtjhfieegkgndfaaProg
import Derived.Test.YtjhfieegkgndfaaJx0
import Derived.Test.YtjhfieegkgndfaaJx1
import Derived.Test.YtjhfieegkgndfaaJx3
import Derived.Test.YtjhfieegkgndfaaJx5
import Derived.Test.YtjhfieegkgndfaaJx8
import Derived.Test.YtjhfieegkgndfaaJx9
import Derived.Test.YtjhfieegkgndfaaJx6
import Derived.Test.YtjhfieegkgndfaaJx11
import Derived.Test.YtjhfieegkgndfaaJx24
import Derived.Test.YtjhfieegkgndfaaJx46
import Derived.Test.YtjhfieegkgndfaaJx48
namespace Go.Proofs.Ytjhfieegkgndfaa
set_option linter.unusedVariables false
set_option linter.unusedSimpArgs false
open Go.RowKit

set_option maxRecDepth 100000 in
set_option maxHeartbeats 1000000 in
theorem coreNamedGroups (a : Int) (T : List (List (List Int))) (C : Int) (w : World) (hS : SmallD T) (hs : ∀ w, Calls Try.prog 26 #[.int .i64 a] w (RetD T C w)) (hi : ∀ w, Calls Try.prog 27 #[.int .i64 a] w (NewDC T C w)) :
    Calls Try.prog 6 #[.int .i64 a] w fun e w' => e = .returned (.bool true) ∧ Ext w w' := by
  have HS := Lib.hid hs
  have HI := Lib.hid hi
  have HSM := Lib.hid hS
  have ht := totalD_le hS
  clear hs hi hS
  go_enter Try.func6, Try.ntmps6
  go_wp2_with fail
  refine (HS.out _).mono ?_
  rintro e w1 ⟨v0, rfl, hr0, hx1⟩
  have HR0 := Lib.hid hr0
  have HX1 := Lib.hid hx1
  have z1 := hx1.size
  clear hr0 hx1
  go_wp2_with fail
  refine (HI.out _).mono ?_
  rintro e w2 ⟨v1, rfl, ho, hx2⟩
  have HO := Lib.hid ho
  have HX := Lib.hid hx2
  have z2 := hx2.size
  clear ho hx2
  go_wp2_with fail
  refine (eqGroupS_yes T _ _ _ HO.out.toR (HR0.out.ext HX.out) HSM.out).mono ?_
  rintro e w3 ⟨rfl, hx3⟩
  have HO := Lib.hid (HO.out.ext hx3 (Nat.le_refl _))
  have HX := Lib.hid (HX.out.trans hx3)
  have z3 := hx3.size
  clear hx3
  go_wp2_with fail
  refine (markGroupS_any w1.heap.size w2.heap.size T _ _ _ HO.out (by omega) HSM.out (by omega) (by omega)).mono ?_
  rintro e w4 ⟨rfl, ho4, hT4⟩
  have HO := Lib.hid ho4
  have HX := Lib.hid (HX.out.touch hT4 (Nat.le_refl _))
  have z4 := hT4.size
  clear ho4 hT4
  go_wp2_with fail
  refine (heldGroupS_any T _ _ _ HO.out.toR HSM.out (by omega) (by omega)).mono ?_
  rintro e w5 ⟨rfl, hx5⟩
  have HO := Lib.hid (HO.out.ext hx5 (by omega))
  have HX := Lib.hid (HX.out.trans hx5)
  have z5 := hx5.size
  clear hx5
  go_wp2_with fail
  refine (HI.out _).mono ?_
  rintro e w6 ⟨v6, rfl, ho6, hx6⟩
  have HO := Lib.hid (HO.out.ext hx6 (by omega))
  have HR6 := Lib.hid ho6.toR
  have HX := Lib.hid (HX.out.trans hx6)
  have z6 := hx6.size
  clear ho6 hx6
  go_wp2_with fail
  refine (eqGroupS_yes T _ _ _ HR6.out (HR0.out.ext HX.out) HSM.out).mono ?_
  rintro e w7 ⟨rfl, hx7⟩
  have HO := Lib.hid (HO.out.ext hx7 (by omega))
  have HX := Lib.hid (HX.out.trans hx7)
  clear hx7
  go_wp2_with fail
  refine (heldGroupS_any T _ _ _ HO.out.toR HSM.out (by omega) (by omega)).mono ?_
  rintro e w8 ⟨rfl, hx8⟩
  have HX := Lib.hid (HX1.out.trans (HX.out.trans hx8))
  clear hx8
  go_wp2
  go_ret
  exact ⟨rfl, HX.out⟩

theorem lawNamedGroups (w : World) (a : Int) (_ : (Lit.int .i64 a).wf = true) : Calls Try.prog 6 #[.int .i64 a] w fun e w' => e = .returned (.bool true) ∧ Ext w w' :=
  coreNamedGroups a _ _ w (namedV_small a) (NamedGroups_spec a) (NamedGroups_impl a)
end Go.Proofs.Ytjhfieegkgndfaa
