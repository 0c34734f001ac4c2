/-
  Contracts: racks by a function; the core quandle.
-/
import Derived.Test.YtbfhecckapgpnaaProg
import Derived.Deep.DeepCutAuto
import Derived.Deep.RegionWith
import Derived.Test.YtbfhecckapgpnaaKx0
import Derived.Test.YtbfhecckapgpnaaKx1
import Derived.Test.YtbfhecckapgpnaaKx2
import Derived.Test.YtbfhecckapgpnaaKx8
import Derived.Test.YtbfhecckapgpnaaKx7
import Derived.Test.YtbfhecckapgpnaaKx5
import Derived.Test.YtbfhecckapgpnaaKx12
import Derived.Test.YtbfhecckapgpnaaKx6
import Derived.Test.YtbfhecckapgpnaaKx32
namespace Go.Proofs.Ytbfhecckapgpnaa
set_option linter.unusedVariables false
set_option linter.unusedSimpArgs false
open Go.RowKit

/-- x (inverse of y) x -/
@[irreducible] def coreF (t : List (List Int)) (x y : Nat) : Int := ent t (ent t x (backF t y).toNat).toNat x
theorem coreF_def (t : List (List Int)) (x y : Nat) : ent t (ent t x (backF t y).toNat).toNat x = coreF t x y := by unfold coreF; rfl

theorem coreQuandle1_any (t : List (List Int)) (v : Value) (b2 c2 : Nat) (x y B C : Nat) (w : World) (hB : w.cell? ⟨B, 0, none⟩ = some v) (hC : w.cell? ⟨C, 0, none⟩ = some (.slice (some ⟨b2, 0, none⟩) t.length c2)) (hv : Rows w v t) (hi : IntsAt w b2 0 (backs t)) (hG : GroupOk t) (hx : x < t.length) (hy : y < t.length) :
    Calls Try.prog 48 #[.int .i64 x, .int .i64 y, .pointer (some ⟨B, 0, none⟩), .pointer (some ⟨C, 0, none⟩)] w fun e w' => e = .returned (.int .i64 (coreF t x y)) ∧ Ext w w' := by
  obtain ⟨hlen, b, o, c, rfl, hc⟩ := id hv
  have hT := hG.1
  have h12 := hT.2.1
  have hb := backF_ok hG hy
  obtain ⟨d1, s1, m1, r1, l1, -⟩ := hc.get hx
  have g := hT.bd (x := x) (y := (backF t y).toNat) hx (by omega)
  obtain ⟨d2, s2, m2, r2, l2, -⟩ := hc.get (i := (ent t x (backF t y).toNat).toNat) (by omega)
  have f1 := l1.ent (hT.len hx) (y := (backF t y).toNat) (by omega)
  have f2 := l2.ent (hT.len (x := (ent t x (backF t y).toNat).toNat) (by omega)) (y := x) hx
  rw [hT.len hx] at r1
  rw [hT.len (x := (ent t x (backF t y).toNat).toNat) (by omega)] at r2
  rw [coreF_def] at f2
  have ib := hi y (by rw [length_backs]; exact hy)
  rw [ix_backs _ _ hy, Nat.zero_add] at ib
  clear l1 l2
  go_enter Try.func48, Try.ntmps48
  go_wp2
  go_quiet (fail)
  go_wp2
  go_ret
  exact ⟨rfl, (Ext.refl _).drewN _⟩

theorem callCoreQuandle1 (args : Array Value) (w : World) : (callFunc 48 args).run Try.prog w = .ok (.enter 48 args) w :=
  callFunc_enter Try.func48 (by kernel_rfl) rfl args w

theorem callRackBy1 (args : Array Value) (w : World) : (callFunc 79 args).run Try.prog w = .ok (.enter 79 args) w :=
  callFunc_enter Try.func79 (by kernel_rfl) rfl args w

theorem rackBy1_any (F : Nat) (cap : Array Value) (f : Int) (x y B : Nat) (w : World) (hB : w.cell? ⟨B, 0, none⟩ = some (.func (.func F) #[] cap))
    (hcall : ∀ (args : Array Value) (w : World), (callFunc F args).run Try.prog w = .ok (.enter F args) w)
    (hf : Calls Try.prog F (#[.int .i64 (x : Nat), .int .i64 (y : Nat)] ++ cap) w fun e w' => e = .returned (.int .i64 f) ∧ Ext w w') :
    Calls Try.prog 79 #[.int .i64 x, .int .i64 y, .pointer (some ⟨B, 0, none⟩)] w fun e w' => e = .returned (.int .i64 f) ∧ Ext w w' := by
  go_enter Try.func79, Try.ntmps79
  go_wp2_with fail
  refine hf.mono ?_
  rintro e w1 ⟨rfl, hx1⟩
  go_wp2
  go_ret
  exact ⟨rfl, hx1⟩

theorem rackBy_any (n : Nat) (f : Nat → Nat → Int) (F : Nat) (cap : Array Value) (w : World) (hn : n ≤ 1048576)
    (hcall : ∀ (args : Array Value) (w : World), (callFunc F args).run Try.prog w = .ok (.enter F args) w)
    (hf : ∀ w1 x y, Ext w w1 → x < n → y < n → Calls Try.prog F (#[.int .i64 (x : Nat), .int .i64 (y : Nat)] ++ cap) w1 fun e w' => e = .returned (.int .i64 (f x y)) ∧ Ext w1 w') :
    Calls Try.prog 40 #[.int .i64 n, .func (.func F) #[] cap] w (NewG (mkT n f) w) := by
  have hx0 : Ext w ((w.alloc (.cells #[.func (.func F) #[] cap] 60)).alloc (.cells #[.slice none 0 0] 27)) := ((Ext.refl _).alloc _).alloc _
  have b0 : ((w.alloc (.cells #[.func (.func F) #[] cap] 60)).alloc (.cells #[.slice none 0 0] 27)).cell? ⟨w.heap.size, 0, none⟩ = some (.func (.func F) #[] cap) := by simp [go_sem]
  have r0 : ((w.alloc (.cells #[.func (.func F) #[] cap] 60)).alloc (.cells #[.slice none 0 0] 27)).cell? ⟨w.heap.size + 1, 0, none⟩ = some (.slice none 0 0) := by simp [go_sem]
  have q0 : ((w.alloc (.cells #[.func (.func F) #[] cap] 60)).alloc (.cells #[.slice none 0 0] 27)).frozen? ⟨w.heap.size + 1, 0, none⟩ = false := by simp [go_sem]
  have z0 : w.heap.size + 2 = ((w.alloc (.cells #[.func (.func F) #[] cap] 60)).alloc (.cells #[.slice none 0 0] 27)).heap.size := by simp
  have HF := Lib.hid hf
  have HC := Lib.hid hcall
  clear hf hcall
  go_enter Try.func40, Try.ntmps40
  go_wp2_with fail
  generalize (w.alloc (.cells #[.func (.func F) #[] cap] 60)).alloc (.cells #[.slice none 0 0] 27) = A at *
  refine (tableBy_any n f 79 #[.pointer (some ⟨w.heap.size, 0, none⟩)] _ hn callRackBy1 (fun w1 x y h1 hx hy => by
    rw [app21]
    exact rackBy1_any F cap (f x y) x y w.heap.size w1 (h1.cell b0) HC.out (HF.out w1 x y (hx0.trans h1) hx hy))).mono ?_
  rintro e w1 ⟨b1, c1, rfl, ho, hx1⟩
  have f1 := hx1.cell r0
  have f2 := hx1.free q0 (by simp only []; omega)
  have zz := hx1.size
  go_wp2
  refine bodyPost_ret (v := .agg #[.slice (some ⟨b1, 0, none⟩) (mkT n f).length c1]) (by simp [results, Try.results40, go_sem, f1]) rfl ⟨b1, c1, rfl, ?_, (hx0.trans hx1).setNew (by simp only []; omega) _⟩
  have := (ho.setOther (a := ⟨w.heap.size + 1, 0, none⟩) (.inl (by simp only []; omega)) (.slice (some ⟨b1, 0, none⟩) (mkT n f).length c1)).mono (lo' := w.heap.size) (hi' := w1.heap.size) (by omega) (Nat.le_refl _)
  simpa using this
end Go.Proofs.Ytbfhecckapgpnaa
