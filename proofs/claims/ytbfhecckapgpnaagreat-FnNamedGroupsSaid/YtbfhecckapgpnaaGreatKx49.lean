/-
  Contract of the program's namedGroups.
-/
import Derived.Test.YtbfhecckapgpnaaGreatProg
import Derived.Deep.DeepCutAuto
import Derived.Deep.RegionWith
import Derived.Deep.RegionHeld3
import Derived.Deep.DrawnRows
import Derived.Maps.AppendAt
import Derived.Test.YtbfhecckapgpnaaGreatKx0
import Derived.Test.YtbfhecckapgpnaaGreatKx1
import Derived.Test.YtbfhecckapgpnaaGreatKx2
import Derived.Test.YtbfhecckapgpnaaGreatKx8
import Derived.Test.YtbfhecckapgpnaaGreatKx9
import Derived.Test.YtbfhecckapgpnaaGreatKx7
import Derived.Test.YtbfhecckapgpnaaGreatKx22
import Derived.Test.YtbfhecckapgpnaaGreatKx31
import Derived.Test.YtbfhecckapgpnaaGreatKx5
import Derived.Test.YtbfhecckapgpnaaGreatKx11
import Derived.Test.YtbfhecckapgpnaaGreatKx10
import Derived.Test.YtbfhecckapgpnaaGreatKx6
import Derived.Test.YtbfhecckapgpnaaGreatKx12
import Derived.Test.YtbfhecckapgpnaaGreatKx32
import Derived.Test.YtbfhecckapgpnaaGreatKx48
import Derived.Test.YtbfhecckapgpnaaGreatKx14
import Derived.Test.YtbfhecckapgpnaaGreatKx19
import Derived.Test.YtbfhecckapgpnaaGreatKx21
import Derived.Test.YtbfhecckapgpnaaGreatKx28
import Derived.Test.YtbfhecckapgpnaaGreatKx27
import Derived.Test.YtbfhecckapgpnaaGreatKx33
import Derived.Test.YtbfhecckapgpnaaGreatKx47
import Derived.Test.YtbfhecckapgpnaaGreatKx34
import Derived.Test.YtbfhecckapgpnaaGreatKx29
import Derived.Test.YtbfhecckapgpnaaGreatKx35
import Derived.Test.YtbfhecckapgpnaaGreatKx36
namespace Go.Proofs.YtbfhecckapgpnaaGreat
set_option linter.unusedVariables false
set_option linter.unusedSimpArgs false
open Go.RowKit
attribute [local go_sem ↓] Go.wp_at_zero Go.wp_at_succ
open Go.Deep

theorem even_T : mkT (sortS (genA evenE 4)).length (gopE (sortS (genA evenE 4))) = gopV ((4 : Nat) : Int) evenE := by rw [even_gop, even_S]
theorem even_L : (sortS (genA evenE 4)).length = 12 := by rw [← even_S, even_Sl]

/-- what the group of even permutations is -/
def EvenPost (w : World) (e : Ending) (w' : World) : Prop :=
  ∃ b c, e = .returned (.tuple #[.agg #[.slice (some ⟨b, 0, none⟩) 12 c], .bool true]) ∧ OwnT w.heap.size w'.heap.size w' b 0 (gopV ((4 : Nat) : Int) evenE) ∧ Ext w w'
theorem gop_post {S T : List (List Int)} {n : Nat} (hn : S.length = n) (hT : mkT S.length (gopE S) = T) {w : World} {e : Ending} {w' : World} (h : GopPost S w e w') : ∃ b c, e = .returned (.tuple #[.agg #[.slice (some ⟨b, 0, none⟩) n c], .bool true]) ∧ OwnT w.heap.size w'.heap.size w' b 0 T ∧ Ext w w' := by
  subst hn
  subst hT
  exact h
theorem even_iso : ∀ k, k < evenE.length → IsoOk 4 [] [] (row evenE k) := by
  have := (sysB_ok even_sys).2.2
  rw [Int.toNat_natCast] at this
  exact this
theorem even_call (v : Value) (w : World) (hv : Rows w v evenE) : Calls Tryz.prog 42 #[.int .i64 (4 : Nat), v] w (EvenPost w) :=
  (groupOfPermutations_any 4 evenE v w hv even_iso (by omega) (by omega) (by decide) (by rw [even_len]; omega)).mono fun _ _ h => gop_post even_L even_T h

theorem even_rowsN (A : World) (n : Nat) (h : A.heap.size = n) : Rows (((A.alloc (.cells #[.int .i64 1, .int .i64 2, .int .i64 0, .int .i64 3] 2)).alloc (.cells #[.int .i64 0, .int .i64 2, .int .i64 3, .int .i64 1] 2)).alloc (.cells #[.slice (some ⟨n, 0, none⟩) 4 4, .slice (some ⟨n + 1, 0, none⟩) 4 4] 46)) (.slice (some ⟨n + 1 + 1, 0, none⟩) 2 2) evenE := by
  subst h
  exact even_rows A

set_option maxRecDepth 100000 in
set_option maxHeartbeats 1000000 in
theorem namedGroups_twelve (w : World) : Calls Tryz.prog 50 #[.int .i64 12] w (NewDG (namedL 12) w) := by
  go_enter Tryz.func50, Tryz.ntmps50
  go_wp2_with fail
  refine (cyc_impl 12 (by omega) (by omega) _).mono ?_
  rintro e w1 ⟨b1, c1, rfl, ho, hx⟩
  have z1 := hx.size
  have HG := Lib.hid (GrowD.oneN (e := 26) (c := c1) (n := 12) ho (small_cyT (n := 12) (by omega)) (Nat.le_refl _) (Nat.le_refl _) hx.size (length_cyT 12))
  have HX := Lib.hid (hx.alloc (.cells #[.slice (some ⟨b1, 0, none⟩) 12 c1] 26))
  clear ho hx
  go_wp2_with fail
  have zA : w1.heap.size + 1 ≤ (w1.alloc (.cells #[.slice (some ⟨b1, 0, none⟩) 12 c1] 26)).heap.size := by simp
  have HE := Lib.hid (even_rowsN (w1.alloc (.cells #[.slice (some ⟨b1, 0, none⟩) 12 c1] 26)) (w1.heap.size + 1) (by simp))
  generalize (w1.alloc (.cells #[.slice (some ⟨b1, 0, none⟩) 12 c1] 26)) = A at *
  have hxe : Ext A (((A.alloc (.cells #[.int .i64 1, .int .i64 2, .int .i64 0, .int .i64 3] 2)).alloc (.cells #[.int .i64 0, .int .i64 2, .int .i64 3, .int .i64 1] 2)).alloc (.cells #[.slice (some ⟨w1.heap.size + 1, 0, none⟩) 4 4, .slice (some ⟨w1.heap.size + 1 + 1, 0, none⟩) 4 4] 46)) := (((Ext.refl A).alloc _).alloc _).alloc _
  have hre := HE.out
  clear HE
  generalize (((A.alloc (.cells #[.int .i64 1, .int .i64 2, .int .i64 0, .int .i64 3] 2)).alloc (.cells #[.int .i64 0, .int .i64 2, .int .i64 3, .int .i64 1] 2)).alloc (.cells #[.slice (some ⟨w1.heap.size + 1, 0, none⟩) 4 4, .slice (some ⟨w1.heap.size + 1 + 1, 0, none⟩) 4 4] 46)) = E at *
  have zE := hxe.size
  have HXC := Lib.hid hxe
  clear hxe
  refine (even_call _ _ hre).mono ?_
  rintro e w2 ⟨b2, c2, rfl, ho, hx⟩
  have z2 := hx.size
  have HXC := Lib.hid (HXC.out.trans hx)
  have T2 := Lib.hid (TabsV.oneN (base := A.heap.size) (c := c2) (n := 12) ho small_even (by omega) (Nat.le_refl _) length_even)
  clear ho hx hre
  go_wp2_with fail
  have hcl := cell_new w2 (.slice (some ⟨b2, 0, none⟩) 12 c2) 26
  have HXC := Lib.hid (HXC.out.alloc (.cells #[.slice (some ⟨b2, 0, none⟩) 12 c2] 26))
  have T2 := Lib.hid (T2.out.ext ((Ext.refl w2).alloc (.cells #[.slice (some ⟨b2, 0, none⟩) 12 c2] 26)))
  have zF : w2.heap.size + 1 ≤ (w2.alloc (.cells #[.slice (some ⟨b2, 0, none⟩) 12 c2] 26)).heap.size := by simp
  generalize (w2.alloc (.cells #[.slice (some ⟨b2, 0, none⟩) 12 c2] 26)) = F at *
  have HNE := Lib.hid (show some w2.heap.size ≠ (Value.slice (some ⟨w1.heap.size, 0, none⟩) 1 1).ownBlock from fun e => by have e : w2.heap.size = w1.heap.size := Option.some.inj e; omega)
  go_region_held3 (fun w' => w'.cell? ⟨w2.heap.size, 0, none⟩ = some (.slice (some ⟨b2, 0, none⟩) 12 c2)) (first | (focus (refine hgr8.cell ?_ HNE.out; (repeat first | (with_reducible assumption) | (with_reducible refine Ext.cell hx7 ?_) | (with_reducible refine Ext.cell hx6 ?_) | (with_reducible refine Ext.cell hx5 ?_) | (with_reducible refine Ext.cell hx4 ?_) | (with_reducible refine Ext.cell hx3 ?_) |  (with_reducible exact kc_new) | ((with_reducible refine kc_newE ?_); (simp; done)) | ((with_reducible refine kc_newEa ?_); (simp; done)) | ((with_reducible refine kc_newEb ?_); (simp; done)) | (with_reducible apply kc_alloc) | (with_reducible apply kc_drewN) | (with_reducible apply kc_drew) | ((with_reducible refine kc_set ?_ ?_); (first | (simp only []; omega) | (simp; omega) | (focus (simp; done)))) | ((with_reducible refine kc_set2 ?_ ?_); (focus (simp; done))) | (with_reducible refine kc_same (v := .slice none 0 0) ?_)); done)) | (focus ((repeat first | (with_reducible assumption) | (with_reducible refine Ext.cell hx7 ?_) | (with_reducible refine Ext.cell hx6 ?_) | (with_reducible refine Ext.cell hx5 ?_) | (with_reducible refine Ext.cell hx4 ?_) | (with_reducible refine Ext.cell hx3 ?_) |  (with_reducible exact kc_new) | ((with_reducible refine kc_newE ?_); (simp; done)) | ((with_reducible refine kc_newEa ?_); (simp; done)) | ((with_reducible refine kc_newEb ?_); (simp; done)) | (with_reducible apply kc_alloc) | (with_reducible apply kc_drewN) | (with_reducible apply kc_drew) | ((with_reducible refine kc_set ?_ ?_); (first | (simp only []; omega) | (simp; omega) | (focus (simp; done)))) | ((with_reducible refine kc_set2 ?_ ?_); (focus (simp; done))) | (with_reducible refine kc_same (v := .slice none 0 0) ?_)); done)))
    (first
      | (refine step_append_tabs (by rfl) _ _ 43 26 (by rfl) Tryz.underlying43 infoGr (by rfl) w.heap.size _ _ (by rfl) HG.out (HXC.out.trans (by (repeat first | (with_reducible exact Ext.refl _) | (with_reducible assumption) | (with_reducible apply Ext.drew) | (with_reducible apply kx_drewN) | (with_reducible apply kx_alloc) | ((with_reducible refine kx_set ?_ ?_); (first | (simp only []; omega) | (simp; omega) | (focus (simp; done)))) | (with_reducible refine Ext.trans ?_ hx7) | (with_reducible refine Ext.trans ?_ hx6) | (with_reducible refine Ext.trans ?_ hx5) | (with_reducible refine Ext.trans ?_ hx4) | (with_reducible refine Ext.trans ?_ hx3) ))) _ 4 [.slice (some ⟨b5, 0, none⟩) 12 c5, .slice (some ⟨b6, 0, none⟩) 12 c6, .slice (some ⟨b7, 0, none⟩) 12 c7, .slice (some ⟨b2, 0, none⟩) 12 c2] [prodT (cyT 2) (cyT 6), dbT 6 0, dbT 6 3, gopV ((4 : Nat) : Int) evenE] _ (by rfl) rfl cells_four (TabsV.append (TabsV.append (TabsV.append ((TabsV.oneN (base := A.heap.size) (c := c5) (n := 12) ho5 (small_prodT (by simp [length_prodT, length_cyT])) (by first | omega | (simp only [size_drew] at *; omega)) (Nat.le_refl _) (by simp [length_prodT, length_cyT])).ext (by (repeat first | (with_reducible exact Ext.refl _) | (with_reducible assumption) | (with_reducible apply Ext.drew) | (with_reducible apply kx_drewN) | (with_reducible apply kx_alloc) | ((with_reducible refine kx_set ?_ ?_); (first | (simp only []; omega) | (simp; omega) | (focus (simp; done)))) | (with_reducible refine Ext.trans ?_ hx7) | (with_reducible refine Ext.trans ?_ hx6) ))) ((TabsV.oneN (base := A.heap.size) (c := c6) (n := 12) ho6 (small_dbT (n := 6) (s := 0) (by omega)) (by first | omega | (simp only [size_drew] at *; omega)) (Nat.le_refl _) (length_dbT 6 0)).ext (by (repeat first | (with_reducible exact Ext.refl _) | (with_reducible assumption) | (with_reducible apply Ext.drew) | (with_reducible apply kx_drewN) | (with_reducible apply kx_alloc) | ((with_reducible refine kx_set ?_ ?_); (first | (simp only []; omega) | (simp; omega) | (focus (simp; done)))) | (with_reducible refine Ext.trans ?_ hx7) )))) ((TabsV.oneN (base := A.heap.size) (c := c7) (n := 12) ho7 (small_dbT (n := 6) (s := 3) (by omega)) (by first | omega | (simp only [size_drew] at *; omega)) (Nat.le_refl _) (length_dbT 6 3)).ext (by (repeat first | (with_reducible exact Ext.refl _) | (with_reducible assumption) | (with_reducible apply Ext.drew) | (with_reducible apply kx_drewN) | (with_reducible apply kx_alloc) | ((with_reducible refine kx_set ?_ ?_); (first | (simp only []; omega) | (simp; omega) | (focus (simp; done)))) )))) (T2.out.ext (by (repeat first | (with_reducible exact Ext.refl _) | (with_reducible assumption) | (with_reducible apply Ext.drew) | (with_reducible apply kx_drewN) | (with_reducible apply kx_alloc) | ((with_reducible refine kx_set ?_ ?_); (first | (simp only []; omega) | (simp; omega) | (focus (simp; done)))) | (with_reducible refine Ext.trans ?_ hx7) | (with_reducible refine Ext.trans ?_ hx6) | (with_reducible refine Ext.trans ?_ hx5) | (with_reducible refine Ext.trans ?_ hx4) | (with_reducible refine Ext.trans ?_ hx3) )))) (by simp [Apart] <;> first | omega | (simp only [size_drew] at *; omega)) (by simp) HX.out.size ?_; intro v8 A8 hg8 hgr8 hat8)
      | (go_at_call 93; refine (cyc_impl 2 (by omega) (by omega) _).mono ?_; rintro e w3 ⟨b3, c3, rfl, ho3, hx3⟩; have z3 := hx3.size)
      | (go_at_call 93; refine (cyc_impl 6 (by omega) (by omega) _).mono ?_; rintro e w4 ⟨b4, c4, rfl, ho4, hx4⟩; have z4 := hx4.size)
      | (go_at_call 91; refine (prod_impl (cyT 2) (cyT 6) 2 6 12 _ _ cy2_ok cy6_ok (length_cyT 2) (length_cyT 6) rfl (by omega) _ ((ho3.rowsN (c := c3) (n := 2) (small_cyT (n := 2) (by omega)) (length_cyT 2)).ext (by (repeat first | (with_reducible exact Ext.refl _) | (with_reducible assumption) | (with_reducible apply Ext.drew) | (with_reducible apply kx_drewN) | (with_reducible apply kx_alloc) | ((with_reducible refine kx_set ?_ ?_); (first | (simp only []; omega) | (simp; omega) | (focus (simp; done)))) | (with_reducible refine Ext.trans ?_ hx4) ))) ((ho4.rowsN (c := c4) (n := 6) (small_cyT (n := 6) (by omega)) (length_cyT 6)).ext (by (repeat first | (with_reducible exact Ext.refl _) | (with_reducible assumption) | (with_reducible apply Ext.drew) | (with_reducible apply kx_drewN) | (with_reducible apply kx_alloc) | ((with_reducible refine kx_set ?_ ?_); (first | (simp only []; omega) | (simp; omega) | (focus (simp; done)))) )))).mono ?_; rintro e w5 ⟨b5, c5, rfl, ho5, hx5⟩; have z5 := hx5.size)
      | (go_at_call 94; refine (dbl_impl 6 0 (by omega) (by omega) (by omega) _).mono ?_; rintro e w6 ⟨b6, c6, rfl, ho6, hx6⟩; have z6 := hx6.size)
      | (go_at_call 94; refine (dbl_impl 6 3 (by omega) (by omega) (by omega) _).mono ?_; rintro e w7 ⟨b7, c7, rfl, ho7, hx7⟩; have z7 := hx7.size))
  all_goals
    have HX := Lib.hid (show Ext w A8 from ext_grownBy (HX.out.trans (HXC.out.trans (by (repeat first | (with_reducible exact Ext.refl _) | (with_reducible assumption) | (with_reducible apply Ext.drew) | (with_reducible apply kx_drewN) | (with_reducible apply kx_alloc) | ((with_reducible refine kx_set ?_ ?_); (first | (simp only []; omega) | (simp; omega) | (focus (simp; done)))) | (with_reducible refine Ext.trans ?_ hx7) | (with_reducible refine Ext.trans ?_ hx6) | (with_reducible refine Ext.trans ?_ hx5) | (with_reducible refine Ext.trans ?_ hx4) | (with_reducible refine Ext.trans ?_ hx3) )))) hgr8 (fun k e => (HG.out.lt k e).1))
    have HG := Lib.hid hg8
    clear hgr8 hat8 hg8
    obtain ⟨g8, d8, rfl⟩ := HG.out.slice (by simp)
    go_wp2_with fail
    go_ret
    exact ⟨_, rfl, HG.out, HX.out⟩
end Go.Proofs.YtbfhecckapgpnaaGreat
