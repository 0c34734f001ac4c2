/-
  Contracts: racks by a function; the core quandle.
-/
import Derived.Test.YtncmfbebdbchbaaProg
import Derived.Deep.DeepCutAuto
import Derived.Deep.RegionWith
import Derived.Test.YtncmfbebdbchbaaBase
import Derived.Test.YtncmfbebdbchbaaBase2
import Derived.Test.YtncmfbebdbchbaaRet
import Derived.Test.YtncmfbebdbchbaaGrow
import Derived.Test.YtncmfbebdbchbaaPure1
import Derived.Test.YtncmfbebdbchbaaPureOrd
import Derived.Test.YtncmfbebdbchbaaPureInv
import Derived.Test.YtncmfbebdbchbaaPureTurn
import Derived.Test.YtncmfbebdbchbaaW1
import Derived.Test.YtncmfbebdbchbaaW3
import Derived.Test.YtncmfbebdbchbaaW6
import Derived.Test.YtncmfbebdbchbaaW8
import Derived.Test.YtncmfbebdbchbaaW11
import Derived.Test.YtncmfbebdbchbaaW12
import Derived.Test.YtncmfbebdbchbaaW13
import Derived.Test.YtncmfbebdbchbaaW20
import Derived.Test.YtncmfbebdbchbaaK2
import Derived.Test.YtncmfbebdbchbaaK4
namespace Go.Proofs.Ytncmfbebdbchbaa
set_option linter.unusedVariables false
set_option linter.unusedSimpArgs false
open Go.RowKit

/-- x (inverse of y) x -/
@[irreducible] def coreF (t : List (List Int)) (x y : Nat) : Int := ent t (ent t x (backF t y).toNat).toNat x
theorem coreF_def (t : List (List Int)) (x y : Nat) : ent t (ent t x (backF t y).toNat).toNat x = coreF t x y := by unfold coreF; rfl

theorem callRackBy1 (args : Array Value) (w : World) : (callFunc 105 args).run Try.prog w = .ok (.enter 105 args) w :=
  callFunc_enter Try.func105 (by kernel_rfl) rfl args w

theorem rackBy1_any (F : Nat) (cap : Array Value) (f : Int) (x y B : Nat) (w : World) (hB : w.cell? ⟨B, 0, none⟩ = some (.func (.func F) #[] cap))
    (hcall : ∀ (args : Array Value) (w : World), (callFunc F args).run Try.prog w = .ok (.enter F args) w)
    (hf : Calls Try.prog F (#[.int .i64 (x : Nat), .int .i64 (y : Nat)] ++ cap) w fun e w' => e = .returned (.int .i64 f) ∧ Ext w w') :
    Calls Try.prog 105 #[.int .i64 x, .int .i64 y, .pointer (some ⟨B, 0, none⟩)] w fun e w' => e = .returned (.int .i64 f) ∧ Ext w w' := by
  go_enter Try.func105, Try.ntmps105
  go_wp2_with fail
  refine hf.mono ?_
  rintro e w1 ⟨rfl, hx1⟩
  go_wp2
  go_ret
  exact ⟨rfl, hx1⟩

theorem rackBy_any (n : Nat) (f : Nat → Nat → Int) (F : Nat) (cap : Array Value) (w : World) (hn : n ≤ 1048576)
    (hcall : ∀ (args : Array Value) (w : World), (callFunc F args).run Try.prog w = .ok (.enter F args) w)
    (hf : ∀ w1 x y, Ext w w1 → x < n → y < n → Calls Try.prog F (#[.int .i64 (x : Nat), .int .i64 (y : Nat)] ++ cap) w1 fun e w' => e = .returned (.int .i64 (f x y)) ∧ Ext w1 w') :
    Calls Try.prog 63 #[.int .i64 n, .func (.func F) #[] cap] w (NewG (mkT n f) w) := by
  have hx0 : Ext w ((w.alloc (.cells #[.func (.func F) #[] cap] 71)).alloc (.cells #[.slice none 0 0] 26)) := ((Ext.refl _).alloc _).alloc _
  have b0 : ((w.alloc (.cells #[.func (.func F) #[] cap] 71)).alloc (.cells #[.slice none 0 0] 26)).cell? ⟨w.heap.size, 0, none⟩ = some (.func (.func F) #[] cap) := by simp [go_sem]
  have r0 : ((w.alloc (.cells #[.func (.func F) #[] cap] 71)).alloc (.cells #[.slice none 0 0] 26)).cell? ⟨w.heap.size + 1, 0, none⟩ = some (.slice none 0 0) := by simp [go_sem]
  have q0 : ((w.alloc (.cells #[.func (.func F) #[] cap] 71)).alloc (.cells #[.slice none 0 0] 26)).frozen? ⟨w.heap.size + 1, 0, none⟩ = false := by simp [go_sem]
  have z0 : w.heap.size + 2 = ((w.alloc (.cells #[.func (.func F) #[] cap] 71)).alloc (.cells #[.slice none 0 0] 26)).heap.size := by simp
  have HF := Lib.hid hf
  have HC := Lib.hid hcall
  clear hf hcall
  go_enter Try.func63, Try.ntmps63
  go_wp2_with fail
  generalize (w.alloc (.cells #[.func (.func F) #[] cap] 71)).alloc (.cells #[.slice none 0 0] 26) = A at *
  refine (tableBy_any n f 105 #[.pointer (some ⟨w.heap.size, 0, none⟩)] _ hn callRackBy1 (fun w1 x y h1 hx hy => by
    rw [app21]
    exact rackBy1_any F cap (f x y) x y w.heap.size w1 (h1.cell b0) HC.out (HF.out w1 x y (hx0.trans h1) hx hy))).mono ?_
  rintro e w1 ⟨b1, c1, rfl, ho, hx1⟩
  have f1 := hx1.cell r0
  have f2 := hx1.free q0 (by simp only []; omega)
  have zz := hx1.size
  go_wp2
  refine bodyPost_ret (v := .agg #[.slice (some ⟨b1, 0, none⟩) (mkT n f).length c1]) (by simp [results, Try.results63, go_sem, f1]) rfl ⟨b1, c1, rfl, ?_, (hx0.trans hx1).setNew (by simp only []; omega) _⟩
  have := (ho.setOther (a := ⟨w.heap.size + 1, 0, none⟩) (.inl (by simp only []; omega)) (.slice (some ⟨b1, 0, none⟩) (mkT n f).length c1)).mono (lo' := w.heap.size) (hi' := w1.heap.size) (by omega) (Nat.le_refl _)
  simpa using this
end Go.Proofs.Ytncmfbebdbchbaa
