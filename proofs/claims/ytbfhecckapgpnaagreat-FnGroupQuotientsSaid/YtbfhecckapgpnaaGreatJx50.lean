/-
  Contract of the program's GroupOfPermutations.
-/
import Derived.Test.YtbfhecckapgpnaaGreatProg
import Derived.Deep.DeepCutAuto
import Derived.Deep.RegionWith
import Derived.Test.YtbfhecckapgpnaaGreatJx0
import Derived.Test.YtbfhecckapgpnaaGreatJx1
import Derived.Test.YtbfhecckapgpnaaGreatJx2
import Derived.Test.YtbfhecckapgpnaaGreatJx8
import Derived.Test.YtbfhecckapgpnaaGreatJx9
import Derived.Test.YtbfhecckapgpnaaGreatJx7
import Derived.Test.YtbfhecckapgpnaaGreatJx22
import Derived.Test.YtbfhecckapgpnaaGreatJx5
import Derived.Test.YtbfhecckapgpnaaGreatJx11
import Derived.Test.YtbfhecckapgpnaaGreatJx10
import Derived.Test.YtbfhecckapgpnaaGreatJx6
import Derived.Test.YtbfhecckapgpnaaGreatJx12
import Derived.Test.YtbfhecckapgpnaaGreatJx32
import Derived.Test.YtbfhecckapgpnaaGreatJx14
import Derived.Test.YtbfhecckapgpnaaGreatJx21
import Derived.Test.YtbfhecckapgpnaaGreatJx27
import Derived.Test.YtbfhecckapgpnaaGreatJx33
import Derived.Test.YtbfhecckapgpnaaGreatJx34
import Derived.Test.YtbfhecckapgpnaaGreatJx48
import Derived.Test.YtbfhecckapgpnaaGreatJx49
namespace Go.Proofs.YtbfhecckapgpnaaGreat
set_option linter.unusedVariables false
set_option linter.unusedSimpArgs false
open Go.RowKit
attribute [local go_sem ↓] Go.wp_at_zero Go.wp_at_succ
open Go.Deep

set_option maxRecDepth 100000 in
set_option maxHeartbeats 1000000 in
theorem GroupOfPermutations_impl (ni : Int) (gens : List (List Int)) (v : Value) (w : World) (hv : Rows w v gens) :
    Calls Tryz.prog 15 #[.int .i64 ni, v] w (NewGC (gopV ni gens) (gopC ni gens) w) := by
  obtain ⟨hlen, b, o, c, rfl, -⟩ := id hv
  have hx0 := ext_box w (.slice none 0 0) 26
  have b0 := cell_new w (.slice none 0 0) 26
  have q0 : (w.alloc (.cells #[.slice none 0 0] 26)).frozen? ⟨w.heap.size, 0, none⟩ = false := by simp
  have z0 : w.heap.size + 1 ≤ (w.alloc (.cells #[.slice none 0 0] 26)).heap.size := by simp
  obtain ⟨A, hA⟩ : ∃ A, A = (w.alloc (.cells #[.slice none 0 0] 26)) := ⟨_, rfl⟩
  rw [← hA] at hx0 b0 q0 z0
  have HV := Lib.hid (hv.ext hx0)
  have HX0 := Lib.hid hx0
  clear hv hx0
  cases hb : sysB ni gens with
  | false =>
    obtain ⟨g1, g2⟩ := gop_no hb
    rw [g1, g2]
    clear g1 g2
    go_enter Tryz.func15, Tryz.ntmps15
    go_wp2_with fail
    rw [← hA]
    refine (isSystem_any ni gens _ _ HV.out).mono ?_
    rintro e w1 ⟨rfl, hx1⟩
    rw [hb]
    clear hA
    have f1 := hx1.cell b0
    have f2 := hx1.free q0 (by simp only []; omega)
    go_wp2_with fail
    refine bodyPost_ret (v := .tuple #[.agg #[.slice none 0 0], .int .i64 1]) (by simp [results, Tryz.results15, go_sem, f1]) rfl ⟨_, rfl, OwnV.nil _ _ _, (HX0.out.trans hx1).setNew (by simp only []; omega) _⟩
  | true =>
    obtain ⟨⟨h1, h12⟩, h16, hg⟩ := sysB_ok hb
    obtain ⟨n, rfl⟩ : ∃ n : Nat, ni = (n : Int) := ⟨ni.toNat, (Int.toNat_of_nonneg (by omega)).symm⟩
    rw [Int.toNat_natCast] at hg
    have HG := Lib.hid hg
    have HB := Lib.hid hb
    clear hg
    by_cases hbig : (genA gens n).length ≤ 12
    case neg =>
      obtain ⟨g1, g2⟩ := gop_big HB.out (by rw [Int.toNat_natCast]; exact hbig)
      rw [g1, g2]
      have HBG := Lib.hid hbig
      clear g1 g2 hbig
      go_enter Tryz.func15, Tryz.ntmps15
      go_wp2_with fail
      rw [← hA]
      refine (isSystem_any _ gens _ _ HV.out).mono ?_
      rintro e w1 ⟨rfl, hx1⟩
      rw [hb]
      clear hA hb
      have f1 := hx1.cell b0
      have f2 := hx1.free q0 (by simp only []; omega)
      have z1 := hx1.size
      have HX1 := Lib.hid hx1
      clear hx1 b0 q0
      go_wp2_with fail
      refine (groupOfPermutations_big n gens _ _ (HV.out.ext HX1.out) HG.out (by omega) (by omega) h16 HBG.out).mono ?_
      rintro e w2 ⟨rfl, hx2⟩
      have f3 := (hx2.cell f1)
      have f4 := hx2.free f2 (by simp only []; omega)
      have z2 := hx2.size
      have HX2 := Lib.hid ((HX0.out.trans (HX1.out.trans hx2)).alloc (.cells #[.slice none 0 0] 26))
      have f5 := (ext_box w2 (.slice none 0 0) 26).cell f3
      have f6 := (ext_box w2 (.slice none 0 0) 26).free f4 (by simp only []; omega)
      clear hx2 f1 f2
      go_wp2_with fail
      refine bodyPost_ret (v := .tuple #[.agg #[.slice none 0 0], .int .i64 3]) (by simp [results, Tryz.results15, go_sem, f5]) rfl ⟨_, rfl, OwnV.nil _ _ _, HX2.out.setNew (by simp only []; omega) _⟩
    case pos =>
      obtain ⟨g1, g2⟩ := gop_yes HB.out (by rw [Int.toNat_natCast]; exact hbig)
      rw [g1, g2]
      have HBG := Lib.hid hbig
      have HGS := Lib.hid (show sortS (genA gens n) = gopS n gens by unfold gopS; rw [Int.toNat_natCast])
      have hsl : (gopS n gens).length ≤ 12 := by rw [← HGS.out, length_sortS]; exact hbig
      clear g1 g2 hbig
      go_enter Tryz.func15, Tryz.ntmps15
      go_wp2_with fail
      rw [← hA]
      refine (isSystem_any _ gens _ _ HV.out).mono ?_
      rintro e w1 ⟨rfl, hx1⟩
      rw [hb]
      clear hA hb
      have f1 := hx1.cell b0
      have f2 := hx1.free q0 (by simp only []; omega)
      have z1 := hx1.size
      have HX1 := Lib.hid hx1
      clear hx1 b0 q0
      go_wp2_with fail
      refine (groupOfPermutations_any n gens _ _ (HV.out.ext HX1.out) HG.out (by omega) (by omega) h16 HBG.out).mono ?_
      rw [HGS.out]
      rintro e w2 ⟨b2, c2, rfl, ho2, hx2⟩
      have f3 := (hx2.cell f1)
      have f4 := hx2.free f2 (by simp only []; omega)
      have z2 := hx2.size
      obtain ⟨L, hL⟩ : ∃ L, L = (gopS (n : Int) gens).length := ⟨_, rfl⟩
      have HL := Lib.hid hL
      have HO := Lib.hid ho2
      rw [← hL] at HO hsl ⊢
      clear hL ho2
      have HXB := Lib.hid (ext_box w2 (.slice (some ⟨b2, 0, none⟩) L c2) 26)
      have f5 := HXB.out.cell f3
      have f6 := HXB.out.free f4 (by simp only []; omega)
      have HX2 := Lib.hid ((HX0.out.trans (HX1.out.trans hx2)).trans HXB.out)
      have z3 := HXB.out.size
      clear hx2 f1 f2
      go_wp2_with fail
      refine bodyPost_ret (v := .tuple #[.agg #[.slice (some ⟨b2, 0, none⟩) L c2], .int .i64 0]) (by simp [results, Tryz.results15, go_sem, f5]) rfl ⟨_, rfl, ?_, HX2.out.setNew (by simp only []; omega) _⟩
      have ho3 := HO.out.keep (w' := w2.alloc (.cells #[.slice (some ⟨b2, 0, none⟩) L c2] 26)) (fun k h1 h2 => HXB.out.block k h2)
      have := ((ho3.setOther (a := ⟨w.heap.size, 0, none⟩) (.inl (by simp only []; omega)) (.slice (some ⟨b2, 0, none⟩) L c2)).mono (lo' := w.heap.size) (hi' := (w2.alloc (.cells #[.slice (some ⟨b2, 0, none⟩) L c2] 26)).heap.size) (by omega) (by simp)).v (small_mkT (by omega) _) c2
      rw [length_mkT] at this
      rw [← HL.out]
      simpa using this
end Go.Proofs.YtbfhecckapgpnaaGreat
