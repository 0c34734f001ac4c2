/-
  Contracts: copies of lists and tables; the trivial brace.
-/
import Derived.Test.YtjhfieegkgndfaaProg
import Derived.Deep.DeepCutAuto
import Derived.Deep.RegionWith
import Derived.Test.YtjhfieegkgndfaaJx0
import Derived.Test.YtjhfieegkgndfaaJx1
import Derived.Test.YtjhfieegkgndfaaJx3
import Derived.Test.YtjhfieegkgndfaaJx2
import Derived.Test.YtjhfieegkgndfaaJx5
import Derived.Test.YtjhfieegkgndfaaJx8
import Derived.Test.YtjhfieegkgndfaaJx6
import Derived.Test.YtjhfieegkgndfaaJx11
import Derived.Test.YtjhfieegkgndfaaJx9
import Derived.Test.YtjhfieegkgndfaaJx7
namespace Go.Proofs.Ytjhfieegkgndfaa
set_option linter.unusedVariables false
set_option linter.unusedSimpArgs false
open Go.RowKit

set_option maxRecDepth 100000 in
theorem slicesClone_any (l : List Int) (v : Value) (w : World) (hv : Ints w v l) :
    Calls Try.prog 103 #[v] w (NewI l w) := by
  obtain ⟨hlen, b, o, c, rfl, hc⟩ := hv
  have hx0 : Ext w (w.alloc (.cells #[] 2)) := (Ext.refl _).alloc _
  have hi0 := GrowI.lit (e := 2) (base := w.heap.size) (w := w) (Nat.le_refl _)
  have he : ∀ w : World, (binOp .eql 65 (.slice (some ⟨b, o, none⟩) l.length c) (.slice none 0 0)).run Try.prog w = .ok (.bool false) w := fun _ => rfl
  go_enter Try.func103, Try.ntmps103
  go_wp2_with (at_builtin; refine wpList_append_ints rfl _ _ 65 2 rfl Try.underlying65 infoInt w.heap.size _ _ rfl hi0 b o c l rfl (hc.ext hx0) (by simp) hlen (by simp) ?_)
  intro v' w3 hi3 hgr hv3
  have hx3 : Ext w w3 := hx0.grown hgr hi0 (Nat.le_refl _)
  obtain ⟨b3, c3, rfl, ho⟩ := hi3.own (fun h => by first | exact hv3 h | simpa using (hv3.1 h).1)
  go_wp2
  go_ret
  exact ⟨b3, c3, rfl, ho, hx3⟩

theorem l01Own_any (l : List Int) (v : Value) (w : World) (hv : Ints w v l) :
    Calls Try.prog 131 #[v] w (NewI l w) := by
  obtain ⟨hlen, b, o, c, rfl, hc⟩ := hv
  have hx0 : Ext w (w.alloc (.cells #[] 2)) := (Ext.refl _).alloc _
  have hi0 := GrowI.lit (e := 2) (base := w.heap.size) (w := w) (Nat.le_refl _)
  go_enter Try.func131, Try.ntmps131
  go_wp2_with (at_builtin; refine wpList_append_ints rfl _ _ 65 2 rfl Try.underlying65 infoInt w.heap.size _ _ rfl hi0 b o c l rfl (hc.ext hx0) (by simp) hlen (by simp) ?_)
  intro v' w3 hi3 hgr hv3
  have hx3 : Ext w w3 := hx0.grown hgr hi0 (Nat.le_refl _)
  obtain ⟨b3, c3, rfl, ho⟩ := hi3.own (fun h => by first | exact hv3 h | simpa using (hv3.1 h).1)
  go_wp2
  go_ret
  exact ⟨b3, c3, rfl, ho, hx3⟩

theorem Rows.small {w : World} {v : Value} {t : List (List Int)} (h : Rows w v t) : Small t := by
  obtain ⟨hl, b, o, c, rfl, hc⟩ := h
  refine ⟨hl, fun i => ?_⟩
  by_cases hi : i < t.length
  · obtain ⟨_, _, h2, _⟩ := hc i hi; exact h2
  · rw [row_out (by omega)]; simp

theorem cloneTable_any (t : List (List Int)) (v : Value) (w : World) (hv : Rows w v t) :
    Calls Try.prog 70 #[v] w (NewT t w) := by
  obtain ⟨hlen, b, o, c, rfl, hc⟩ := id hv
  have hmk := run_make_row' (P := Try.prog) 22 65 (.slice none 0 0) 24 Try.underlying22 infoSl rfl .i64 .i64 t.length (by omega) (by omega)
  go_enter Try.func70, Try.ntmps70
  go_wp2_with fail
  clear hmk
  have hx0 : Ext w (w.alloc (.cells (madeCells #[Value.slice none 0 0] t.length) 65)) := (Ext.refl _).alloc _
  have hr0 := World.rowIs_made w (.slice none 0 0) t.length 65
  go_loopw [11] (fun i wr => ∃ k : Nat, k ≤ t.length ∧ i = .int .i64 k ∧ Build wr w.heap.size 65 t.length k (row t) ∧ Ext w wr) (fun i _ => t.length - (intOf i).toNat)
  case atStart => exact ⟨0, Nat.zero_le _, rfl, Build.zero _ hr0, hx0⟩
  case round =>
    clear hx0 hr0
    obtain ⟨k, hk, rfl, hb, hx⟩ := hrel
    by_cases hlt : k < t.length
    · obtain ⟨b4, o4, c4, r4, i4, m4⟩ := (hc.ext hx).get hlt
      have e4 := i4.ints m4 c4
      clear i4
      go_wp2_with fail
      refine (slicesClone_any (row t k) _ _ e4).mono ?_
      rintro e w1 ⟨b1, c1, rfl, ho, hx1⟩
      have hb1 := hb.ext hx1
      have e2 := hb1.cell hlt (Nat.le_refl _)
      have e3 := hb1.frozen k
      go_wp2
      go_roundw
      case rel => exact ⟨k + 1, by omega, by go_num, hb.succ hx1 ho rfl, (hx.trans hx1).setNew (Nat.le_refl _) _⟩
      case measure => simp [intOf]; omega
    · go_wp2
      go_ret
      exact ⟨w.heap.size, t.length, rfl, hb.done (fun _ _ => rfl) (by omega) (Nat.le_refl _) (Nat.le_refl _) (Nat.le_refl _), hx⟩

theorem l01Own2_any (t : List (List Int)) (v : Value) (w : World) (hv : Rows w v t) :
    Calls Try.prog 101 #[v] w fun e w' => ∃ v, e = .returned v ∧ Rows w' v t ∧ Ext w w' := by
  obtain ⟨hlen, b, o, c, rfl, hc⟩ := id hv
  go_enter Try.func101, Try.ntmps101
  go_wp2
  have hx0 : Ext w (w.alloc (.cells #[] 65)) := (Ext.refl _).alloc _
  have hg0 := GrowT.lit (e := 65) (base := w.heap.size) (w := w) (Nat.le_refl _)
  go_loopw [3, 4] (fun v x wr => ∃ k : Nat, k ≤ t.length ∧ x = .int .i64 k ∧ GrowT 65 w.heap.size wr v (t.take k) ∧ v ≠ .slice none 0 0 ∧ Ext w wr) (fun _ x _ => t.length - (intOf x).toNat)
  case atStart => exact ⟨0, Nat.zero_le _, rfl, hg0, by simp, hx0⟩
  case round =>
    clear hx0 hg0
    obtain ⟨k, hk, rfl, hg, hv', hx⟩ := hrel
    have HV := Lib.hid hv'
    clear hv'
    by_cases hkl : k < t.length
    case neg =>
      go_wp2
      go_ret
      refine ⟨u3, rfl, ?_, hx⟩
      have : t.take k = t := List.take_of_length_le (by omega)
      rw [this] at hg
      exact hg.rows hlen HV.out
    case pos =>
      have HO := Lib.hid hg.lt
      obtain ⟨w2, rfl⟩ : ∃ w2 : World, w2 = wr := ⟨_, rfl⟩
      obtain ⟨b4, o4, c4, r4, i4, m4⟩ := (hc.ext hx).get hkl
      have e4 := i4.ints m4 c4
      clear i4
      go_wp2_with fail
      refine (l01Own_any (row t k) _ _ e4).mono ?_
      rintro e w3 ⟨br, cr, rfl, ho, hx2⟩
      have hri := ho.2.2.1
      have hrb := ho.1
      clear ho
      have hgw := hg.ext hx2
      have hne : some br ≠ u3.ownBlock := fun e => by have := HO.out br e.symm; omega
      have htl : (t.take k).length = k := by rw [List.length_take]; omega
      have HTL := Lib.hid htl
      clear htl hg
      go_wp2_with (at_builtin; refine wpList_append_row rfl _ _ 22 65 rfl Try.underlying22 infoSl w.heap.size _ _ rfl (hgw.ext (ext_box _ _ _)) _ br cr (row t k) rfl (cell_new _ _ _) (hri.ext (ext_box _ _ _)) m4 hne (by rw [HTL.out]; omega) (by have := hx.size; have := hx2.size; simp; omega) ?_)
      intro v' w4 hg3 hgr hv3
      have hx3 : Ext w w4 := (hx.trans (hx2.trans (ext_box _ _ _))).grown hgr (hgw.ext (ext_box _ _ _)).own.choose_spec (Nat.le_refl _)
      clear hgr hne hgw
      go_wp2
      go_roundw
      case rel => exact ⟨k + 1, by omega, by go_num, by rw [take_row _ _ hkl]; exact hg3, hv3, hx3⟩
      case measure => simp [intOf]; omega
end Go.Proofs.Ytjhfieegkgndfaa

/-
  Contracts: abelian, center, the opposite group.
-/
namespace Go.Proofs.Ytjhfieegkgndfaa
set_option linter.unusedVariables false
set_option linter.unusedSimpArgs false
open Go.RowKit

end Go.Proofs.Ytjhfieegkgndfaa

/-
  Contracts of OppositeGroup, IsAbelianGroup, CenterOf: reference and program.
-/
namespace Go.Proofs.Ytjhfieegkgndfaa
set_option linter.unusedVariables false
set_option linter.unusedSimpArgs false
open Go.RowKit

end Go.Proofs.Ytjhfieegkgndfaa

/-
  Contracts of TrivialBrace: reference and program.
-/
namespace Go.Proofs.Ytjhfieegkgndfaa
set_option linter.unusedVariables false
set_option linter.unusedSimpArgs false
open Go.RowKit

end Go.Proofs.Ytjhfieegkgndfaa
