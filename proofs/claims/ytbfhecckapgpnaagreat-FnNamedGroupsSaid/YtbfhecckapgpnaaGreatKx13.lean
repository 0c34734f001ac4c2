/-
  Contracts: copies of lists and tables; the trivial brace.
-/
import Derived.Test.YtbfhecckapgpnaaGreatProg
import Derived.Deep.DeepCutAuto
import Derived.Deep.RegionWith
import Derived.Test.YtbfhecckapgpnaaGreatKx0
import Derived.Test.YtbfhecckapgpnaaGreatKx1
import Derived.Test.YtbfhecckapgpnaaGreatKx2
import Derived.Test.YtbfhecckapgpnaaGreatKx8
import Derived.Test.YtbfhecckapgpnaaGreatKx7
import Derived.Test.YtbfhecckapgpnaaGreatKx5
import Derived.Test.YtbfhecckapgpnaaGreatKx12
import Derived.Test.YtbfhecckapgpnaaGreatKx10
import Derived.Test.YtbfhecckapgpnaaGreatKx6
namespace Go.Proofs.YtbfhecckapgpnaaGreat
set_option linter.unusedVariables false
set_option linter.unusedSimpArgs false
open Go.RowKit

set_option maxRecDepth 100000 in
theorem slicesClone_any (l : List Int) (v : Value) (w : World) (hv : Ints w v l) :
    Calls Tryz.prog 56 #[v] w (NewI l w) := by
  obtain ⟨hlen, b, o, c, rfl, hc⟩ := hv
  have hx0 : Ext w (w.alloc (.cells #[] 2)) := (Ext.refl _).alloc _
  have hi0 := GrowI.lit (e := 2) (base := w.heap.size) (w := w) (Nat.le_refl _)
  have he : ∀ w : World, (binOp .eql 46 (.slice (some ⟨b, o, none⟩) l.length c) (.slice none 0 0)).run Tryz.prog w = .ok (.bool false) w := fun _ => rfl
  go_enter Tryz.func56, Tryz.ntmps56
  go_wp2_with (at_builtin; refine wpList_append_ints rfl _ _ 46 2 rfl Tryz.underlying46 infoInt w.heap.size _ _ rfl hi0 b o c l rfl (hc.ext hx0) (by simp) hlen (by simp) ?_)
  intro v' w3 hi3 hgr hv3
  have hx3 : Ext w w3 := hx0.grown hgr hi0 (Nat.le_refl _)
  obtain ⟨b3, c3, rfl, ho⟩ := hi3.own (fun h => by first | exact hv3 h | simpa using (hv3.1 h).1)
  go_wp2
  go_ret
  exact ⟨b3, c3, rfl, ho, hx3⟩

theorem l01Own_any (l : List Int) (v : Value) (w : World) (hv : Ints w v l) :
    Calls Tryz.prog 138 #[v] w (NewI l w) := by
  obtain ⟨hlen, b, o, c, rfl, hc⟩ := hv
  have hx0 : Ext w (w.alloc (.cells #[] 2)) := (Ext.refl _).alloc _
  have hi0 := GrowI.lit (e := 2) (base := w.heap.size) (w := w) (Nat.le_refl _)
  go_enter Tryz.func138, Tryz.ntmps138
  go_wp2_with (at_builtin; refine wpList_append_ints rfl _ _ 46 2 rfl Tryz.underlying46 infoInt w.heap.size _ _ rfl hi0 b o c l rfl (hc.ext hx0) (by simp) hlen (by simp) ?_)
  intro v' w3 hi3 hgr hv3
  have hx3 : Ext w w3 := hx0.grown hgr hi0 (Nat.le_refl _)
  obtain ⟨b3, c3, rfl, ho⟩ := hi3.own (fun h => by first | exact hv3 h | simpa using (hv3.1 h).1)
  go_wp2
  go_ret
  exact ⟨b3, c3, rfl, ho, hx3⟩

theorem Rows.small {w : World} {v : Value} {t : List (List Int)} (h : Rows w v t) : Small t := by
  obtain ⟨hl, b, o, c, rfl, hc⟩ := h
  refine ⟨hl, fun i => ?_⟩
  by_cases hi : i < t.length
  · obtain ⟨_, _, h2, _⟩ := hc i hi; exact h2
  · rw [row_out (by omega)]; simp

theorem l01Own2_any (t : List (List Int)) (v : Value) (w : World) (hv : Rows w v t) :
    Calls Tryz.prog 139 #[v] w fun e w' => ∃ v, e = .returned v ∧ Rows w' v t ∧ Ext w w' := by
  obtain ⟨hlen, b, o, c, rfl, hc⟩ := id hv
  go_enter Tryz.func139, Tryz.ntmps139
  go_wp2
  have hx0 : Ext w (w.alloc (.cells #[] 46)) := (Ext.refl _).alloc _
  have hg0 := GrowT.lit (e := 46) (base := w.heap.size) (w := w) (Nat.le_refl _)
  go_loopw [3, 4] (fun v x wr => ∃ k : Nat, k ≤ t.length ∧ x = .int .i64 k ∧ GrowT 46 w.heap.size wr v (t.take k) ∧ v ≠ .slice none 0 0 ∧ Ext w wr) (fun _ x _ => t.length - (intOf x).toNat)
  case atStart => exact ⟨0, Nat.zero_le _, rfl, hg0, by simp, hx0⟩
  case round =>
    clear hx0 hg0
    obtain ⟨k, hk, rfl, hg, hv', hx⟩ := hrel
    have HV := Lib.hid hv'
    clear hv'
    by_cases hkl : k < t.length
    case neg =>
      go_wp2
      go_ret
      refine ⟨u3, rfl, ?_, hx⟩
      have : t.take k = t := List.take_of_length_le (by omega)
      rw [this] at hg
      exact hg.rows hlen HV.out
    case pos =>
      have HO := Lib.hid hg.lt
      obtain ⟨w2, rfl⟩ : ∃ w2 : World, w2 = wr := ⟨_, rfl⟩
      obtain ⟨b4, o4, c4, r4, i4, m4⟩ := (hc.ext hx).get hkl
      have e4 := i4.ints m4 c4
      clear i4
      go_wp2_with fail
      refine (l01Own_any (row t k) _ _ e4).mono ?_
      rintro e w3 ⟨br, cr, rfl, ho, hx2⟩
      have hri := ho.2.2.1
      have hrb := ho.1
      clear ho
      have hgw := hg.ext hx2
      have hne : some br ≠ u3.ownBlock := fun e => by have := HO.out br e.symm; omega
      have htl : (t.take k).length = k := by rw [List.length_take]; omega
      have HTL := Lib.hid htl
      clear htl hg
      go_wp2_with (at_builtin; refine wpList_append_row rfl _ _ 24 46 rfl Tryz.underlying24 infoSl w.heap.size _ _ rfl (hgw.ext (ext_box _ _ _)) _ br cr (row t k) rfl (cell_new _ _ _) (hri.ext (ext_box _ _ _)) m4 hne (by rw [HTL.out]; omega) (by have := hx.size; have := hx2.size; simp; omega) ?_)
      intro v' w4 hg3 hgr hv3
      have hx3 : Ext w w4 := (hx.trans (hx2.trans (ext_box _ _ _))).grown hgr (hgw.ext (ext_box _ _ _)).own.choose_spec (Nat.le_refl _)
      clear hgr hne hgw
      go_wp2
      go_roundw
      case rel => exact ⟨k + 1, by omega, by go_num, by rw [take_row _ _ hkl]; exact hg3, hv3, hx3⟩
      case measure => simp [intOf]; omega
end Go.Proofs.YtbfhecckapgpnaaGreat

/-
  Contracts: abelian, center, the opposite group.
-/
namespace Go.Proofs.YtbfhecckapgpnaaGreat
set_option linter.unusedVariables false
set_option linter.unusedSimpArgs false
open Go.RowKit

end Go.Proofs.YtbfhecckapgpnaaGreat

/-
  Contracts of OppositeGroup, IsAbelianGroup, CenterOf: reference and program.
-/
namespace Go.Proofs.YtbfhecckapgpnaaGreat
set_option linter.unusedVariables false
set_option linter.unusedSimpArgs false
open Go.RowKit

end Go.Proofs.YtbfhecckapgpnaaGreat

/-
  Contracts of TrivialBrace: reference and program.
-/
namespace Go.Proofs.YtbfhecckapgpnaaGreat
set_option linter.unusedVariables false
set_option linter.unusedSimpArgs false
open Go.RowKit

end Go.Proofs.YtbfhecckapgpnaaGreat
