/-
  The law FnExactDicyclicGroup, walked.
-/
import Derived.Test.YtpldifgngkefjaaProg
import Derived.Test.YtpldifgngkefjaaBase
import Derived.Test.YtpldifgngkefjaaBase2
import Derived.Test.YtpldifgngkefjaaRet
import Derived.Test.YtpldifgngkefjaaW7
import Derived.Test.YtpldifgngkefjaaW8
import Derived.Test.YtpldifgngkefjaaW9
import Derived.Test.YtpldifgngkefjaaW10
import Derived.Test.YtpldifgngkefjaaW16
namespace Go.Proofs.Ytpldifgngkefjaa
set_option linter.unusedVariables false
set_option linter.unusedSimpArgs false
open Go.RowKit

set_option maxRecDepth 100000 in
set_option maxHeartbeats 1000000 in
theorem coreDicyclicGroup (a : Int) (T : List (List Int)) (C : Int) (w : World) (hs : ∀ w, Calls Try.prog 14 #[.int .i64 a] w (RetG T C w)) (hi : ∀ w, Calls Try.prog 15 #[.int .i64 a] w (NewGC T C w)) :
    Calls Try.prog 4 #[.int .i64 a] w fun e w' => e = .returned (.bool true) ∧ Ext w w' := by
  have HS := Lib.hid hs
  have HI := Lib.hid hi
  have he := eqTB_yes (rfl : T = T)
  have ht0 := total_nonneg T
  clear hs hi
  go_enter Try.func4, Try.ntmps4
  go_wp2_with fail
  refine (HS.out _).mono ?_
  rintro e w1 ⟨v0, rfl, hr0, hx1⟩
  obtain ⟨a0, c0, rfl, -⟩ := id hr0
  have z1 := hx1.size
  have x1 := hx1.trans (ext_box w1 (.slice a0 T.length c0) 24)
  have b1 := cell_new w1 (.slice a0 T.length c0) 24
  have r1 := hr0.ext (ext_box w1 (.slice a0 T.length c0) 24)
  have s1 : w.heap.size ≤ (w1.alloc (.cells #[.slice a0 T.length c0] 24)).heap.size := by simp; omega
  clear hr0 hx1 z1
  go_wp2_with fail
  generalize w1.alloc (.cells #[.slice a0 T.length c0] 24) = A at *
  refine (HI.out _).mono ?_
  rintro e w2 ⟨v1, rfl, ho1, hx2⟩
  obtain ⟨hsm, a1, c1, rfl, -⟩ := id ho1
  have ht1 := total_le T hsm
  have y2 := ext_box w2 (.slice a1 T.length c1) 24
  have xA := hx2.trans y2
  have g3 := cell_new w2 (.slice a1 T.length c1) 24
  have ho := ho1.ext y2 (Nat.le_refl _)
  have z3 : w2.heap.size < (w2.alloc (.cells #[.slice a1 T.length c1] 24)).heap.size := by simp
  have z2 := hx2.size
  have b3 := xA.cell b1
  clear ho1 hx2 y2
  go_wp2_with fail
  generalize w2.alloc (.cells #[.slice a1 T.length c1] 24) = w3 at *
  refine (eqGroup_any T T _ _ _ ho.toR (r1.ext xA) hsm).mono ?_
  rintro e w4 ⟨rfl, hx4⟩
  rw [he]
  have ho4 := ho.ext hx4 (by omega)
  have g4 := hx4.cell g3
  have xA4 := xA.trans hx4
  have z4 := hx4.size
  have b4 := xA4.cell b1
  clear ho g3 xA hx4 b3
  go_wp2_with fail
  refine (markGroup_any A.heap.size w2.heap.size T _ _ _ ho4 (by omega) (by omega) (by omega)).mono ?_
  rintro e w5 ⟨rfl, ho5, hT5⟩
  have xA5 := xA4.touch hT5 (Nat.le_refl _)
  have g5 := hT5.cell g4 (.inr (Nat.le_refl _))
  have z5 := hT5.size
  have b5 := xA5.cell b1
  clear ho4 g4 xA4 hT5 b4
  go_wp2_with fail
  refine (heldGroup_any T _ _ _ ho5.toR hsm (by omega) (by omega)).mono ?_
  rintro e w6 ⟨rfl, hx6⟩
  have ho6 := ho5.ext hx6 (by omega)
  have g6 := hx6.cell g5
  have xA6 := xA5.trans hx6
  have z6 := hx6.size
  have b6 := xA6.cell b1
  clear ho5 g5 xA5 hx6 b5
  go_wp2_with fail
  refine (HI.out _).mono ?_
  rintro e w7 ⟨v7, rfl, hoh, hx7⟩
  obtain ⟨-, a7, c7, rfl, -⟩ := id hoh
  have y7 := ext_box w7 (.slice a7 T.length c7) 24
  have x7 := hx7.trans y7
  have k8 := cell_new w7 (.slice a7 T.length c7) 24
  have h8 := (hoh.ext y7 (Nat.le_refl _)).toR
  have ho8 := ho6.ext x7 (by omega)
  have g8 := x7.cell g6
  have xA8 := xA6.trans x7
  have b8 := xA8.cell b1
  have z8 := x7.size
  clear hoh hx7 y7 x7 ho6 g6 xA6 b6
  go_wp2_with fail
  generalize w7.alloc (.cells #[.slice a7 T.length c7] 24) = w8 at *
  refine (eqGroup_any T T _ _ _ h8 (r1.ext xA8) hsm).mono ?_
  rintro e w9 ⟨rfl, hx9⟩
  rw [he]
  have ho9 := ho8.ext hx9 (by omega)
  have g9 := hx9.cell g8
  have xA9 := xA8.trans hx9
  have b9 := xA9.cell b1
  clear h8 k8 ho8 g8 xA8 b8 hx9
  go_wp2_with fail
  refine (heldGroup_any T _ _ _ ho9.toR hsm (by omega) (by omega)).mono ?_
  rintro e w10 ⟨rfl, hx10⟩
  go_wp2
  go_ret
  exact ⟨rfl, x1.trans (xA9.trans hx10)⟩

theorem lawDicyclicGroup (w : World) (a : Int) (_ : (Lit.int .i64 a).wf = true) : Calls Try.prog 4 #[.int .i64 a] w fun e w' => e = .returned (.bool true) ∧ Ext w w' :=
  coreDicyclicGroup a (dicyclicGroupT a) (dicyclicGroupC a) w (DicyclicGroup_spec a) (DicyclicGroup_impl a)
end Go.Proofs.Ytpldifgngkefjaa
