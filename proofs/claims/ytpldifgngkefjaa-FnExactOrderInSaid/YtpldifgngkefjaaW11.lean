/-
  Contracts of IsGroup, reference and program.
-/
import Derived.Test.YtpldifgngkefjaaProg
import Derived.Test.YtpldifgngkefjaaBase
import Derived.Test.YtpldifgngkefjaaBase2
import Derived.Test.YtpldifgngkefjaaPure1
import Derived.Test.YtpldifgngkefjaaW3
import Derived.Test.YtpldifgngkefjaaW6
namespace Go.Proofs.Ytpldifgngkefjaa
set_option linter.unusedVariables false
set_option linter.unusedSimpArgs false
open Go.RowKit

theorem IsGroup_impl (t : List (List Int)) (v : Value) (w : World) (hv : Rows w v t) :
    Calls Try.prog 21 #[.agg #[v]] w fun e w' => e = .returned (.bool (groupB t)) ∧ Ext w w' := by
  obtain ⟨hlen, b, o, c, rfl, hc⟩ := id hv
  clear hc
  have hx0 := ext_box w (.slice (some ⟨b, o, none⟩) t.length c) 24
  go_enter Try.func21, Try.ntmps21
  go_wp2_with fail
  refine (isGroupTable_any t _ _ (hv.ext hx0)).mono ?_
  rintro e w1 ⟨rfl, hx1⟩
  go_wp2
  go_ret
  exact ⟨rfl, hx0.trans hx1⟩

theorem IsGroup_spec (t : List (List Int)) (v : Value) (w : World) (hv : Rows w v t) :
    Calls Try.prog 19 #[.agg #[v]] w fun e w' => e = .returned (.bool (groupB t)) ∧ Ext w w' := by
  obtain ⟨hlen, b, o, c, rfl, hc⟩ := id hv
  clear hc
  have hx0 := ext_box w (.slice (some ⟨b, o, none⟩) t.length c) 24
  go_enter Try.func19, Try.ntmps19
  go_wp2_with fail
  refine (l10Is_any t _ _ (hv.ext hx0)).mono ?_
  rintro e w1 ⟨rfl, hx1⟩
  go_wp2
  go_ret
  exact ⟨rfl, hx0.trans hx1⟩
end Go.Proofs.Ytpldifgngkefjaa
