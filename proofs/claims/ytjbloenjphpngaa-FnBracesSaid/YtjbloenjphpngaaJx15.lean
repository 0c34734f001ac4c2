/-
  Contracts: copies of lists and tables; the trivial brace.
-/
import Derived.Test.YtjbloenjphpngaaProg
import Derived.Deep.DeepCutAuto
import Derived.Deep.RegionWith
import Derived.Test.YtjbloenjphpngaaJx0
import Derived.Test.YtjbloenjphpngaaJx1
import Derived.Test.YtjbloenjphpngaaJx5
import Derived.Test.YtjbloenjphpngaaJx8
import Derived.Test.YtjbloenjphpngaaJx2
import Derived.Test.YtjbloenjphpngaaJx10
import Derived.Test.YtjbloenjphpngaaJx12
import Derived.Test.YtjbloenjphpngaaJx6
import Derived.Test.YtjbloenjphpngaaJx3
import Derived.Test.YtjbloenjphpngaaJx4
namespace Go.Proofs.Ytjbloenjphpngaa
set_option linter.unusedVariables false
set_option linter.unusedSimpArgs false
open Go.RowKit

set_option maxRecDepth 100000 in
theorem slicesClone_any (l : List Int) (v : Value) (w : World) (hv : Ints w v l) :
    Calls Try.prog 70 #[v] w (NewI l w) := by
  obtain ⟨hlen, b, o, c, rfl, hc⟩ := hv
  have hx0 : Ext w (w.alloc (.cells #[] 2)) := (Ext.refl _).alloc _
  have hi0 := GrowI.lit (e := 2) (base := w.heap.size) (w := w) (Nat.le_refl _)
  have he : ∀ w : World, (binOp .eql 28 (.slice (some ⟨b, o, none⟩) l.length c) (.slice none 0 0)).run Try.prog w = .ok (.bool false) w := fun _ => rfl
  go_enter Try.func70, Try.ntmps70
  go_wp2_with (at_builtin; refine wpList_append_ints rfl _ _ 28 2 rfl Try.underlying28 infoInt w.heap.size _ _ rfl hi0 b o c l rfl (hc.ext hx0) (by simp) hlen (by simp) ?_)
  intro v' w3 hi3 hgr hv3
  have hx3 : Ext w w3 := hx0.grown hgr hi0 (Nat.le_refl _)
  obtain ⟨b3, c3, rfl, ho⟩ := hi3.own (fun h => by first | exact hv3 h | simpa using (hv3.1 h).1)
  go_wp2
  go_ret
  exact ⟨b3, c3, rfl, ho, hx3⟩

theorem l01Own_any (l : List Int) (v : Value) (w : World) (hv : Ints w v l) :
    Calls Try.prog 72 #[v] w (NewI l w) := by
  obtain ⟨hlen, b, o, c, rfl, hc⟩ := hv
  have hx0 : Ext w (w.alloc (.cells #[] 2)) := (Ext.refl _).alloc _
  have hi0 := GrowI.lit (e := 2) (base := w.heap.size) (w := w) (Nat.le_refl _)
  go_enter Try.func72, Try.ntmps72
  go_wp2_with (at_builtin; refine wpList_append_ints rfl _ _ 28 2 rfl Try.underlying28 infoInt w.heap.size _ _ rfl hi0 b o c l rfl (hc.ext hx0) (by simp) hlen (by simp) ?_)
  intro v' w3 hi3 hgr hv3
  have hx3 : Ext w w3 := hx0.grown hgr hi0 (Nat.le_refl _)
  obtain ⟨b3, c3, rfl, ho⟩ := hi3.own (fun h => by first | exact hv3 h | simpa using (hv3.1 h).1)
  go_wp2
  go_ret
  exact ⟨b3, c3, rfl, ho, hx3⟩

theorem Rows.small {w : World} {v : Value} {t : List (List Int)} (h : Rows w v t) : Small t := by
  obtain ⟨hl, b, o, c, rfl, hc⟩ := h
  refine ⟨hl, fun i => ?_⟩
  by_cases hi : i < t.length
  · obtain ⟨_, _, h2, _⟩ := hc i hi; exact h2
  · rw [row_out (by omega)]; simp

theorem cloneTable_any (t : List (List Int)) (v : Value) (w : World) (hv : Rows w v t) :
    Calls Try.prog 43 #[v] w (NewT t w) := by
  obtain ⟨hlen, b, o, c, rfl, hc⟩ := id hv
  have hmk := run_make_row' (P := Try.prog) 24 28 (.slice none 0 0) 24 Try.underlying24 infoSl rfl .i64 .i64 t.length (by omega) (by omega)
  go_enter Try.func43, Try.ntmps43
  go_wp2_with fail
  clear hmk
  have hx0 : Ext w (w.alloc (.cells (madeCells #[Value.slice none 0 0] t.length) 28)) := (Ext.refl _).alloc _
  have hr0 := World.rowIs_made w (.slice none 0 0) t.length 28
  go_loopw [11] (fun i wr => ∃ k : Nat, k ≤ t.length ∧ i = .int .i64 k ∧ Build wr w.heap.size 28 t.length k (row t) ∧ Ext w wr) (fun i _ => t.length - (intOf i).toNat)
  case atStart => exact ⟨0, Nat.zero_le _, rfl, Build.zero _ hr0, hx0⟩
  case round =>
    clear hx0 hr0
    obtain ⟨k, hk, rfl, hb, hx⟩ := hrel
    by_cases hlt : k < t.length
    · obtain ⟨b4, o4, c4, r4, i4, m4⟩ := (hc.ext hx).get hlt
      have e4 := i4.ints m4 c4
      clear i4
      go_wp2_with fail
      refine (slicesClone_any (row t k) _ _ e4).mono ?_
      rintro e w1 ⟨b1, c1, rfl, ho, hx1⟩
      have hb1 := hb.ext hx1
      have e2 := hb1.cell hlt (Nat.le_refl _)
      have e3 := hb1.frozen k
      go_wp2
      go_roundw
      case rel => exact ⟨k + 1, by omega, by go_num, hb.succ hx1 ho rfl, (hx.trans hx1).setNew (Nat.le_refl _) _⟩
      case measure => simp [intOf]; omega
    · go_wp2
      go_ret
      exact ⟨w.heap.size, t.length, rfl, hb.done (fun _ _ => rfl) (by omega) (Nat.le_refl _) (Nat.le_refl _) (Nat.le_refl _), hx⟩

theorem l01Own2_any (t : List (List Int)) (v : Value) (w : World) (hv : Rows w v t) :
    Calls Try.prog 45 #[v] w fun e w' => ∃ v, e = .returned v ∧ Rows w' v t ∧ Ext w w' := by
  obtain ⟨hlen, b, o, c, rfl, hc⟩ := id hv
  go_enter Try.func45, Try.ntmps45
  go_wp2
  have hx0 : Ext w (w.alloc (.cells #[] 28)) := (Ext.refl _).alloc _
  have hg0 := GrowT.lit (e := 28) (base := w.heap.size) (w := w) (Nat.le_refl _)
  go_loopw [3, 4] (fun v x wr => ∃ k : Nat, k ≤ t.length ∧ x = .int .i64 k ∧ GrowT 28 w.heap.size wr v (t.take k) ∧ v ≠ .slice none 0 0 ∧ Ext w wr) (fun _ x _ => t.length - (intOf x).toNat)
  case atStart => exact ⟨0, Nat.zero_le _, rfl, hg0, by simp, hx0⟩
  case round =>
    clear hx0 hg0
    obtain ⟨k, hk, rfl, hg, hv', hx⟩ := hrel
    have HV := Lib.hid hv'
    clear hv'
    by_cases hkl : k < t.length
    case neg =>
      go_wp2
      go_ret
      refine ⟨u3, rfl, ?_, hx⟩
      have : t.take k = t := List.take_of_length_le (by omega)
      rw [this] at hg
      exact hg.rows hlen HV.out
    case pos =>
      have HO := Lib.hid hg.lt
      obtain ⟨w2, rfl⟩ : ∃ w2 : World, w2 = wr := ⟨_, rfl⟩
      obtain ⟨b4, o4, c4, r4, i4, m4⟩ := (hc.ext hx).get hkl
      have e4 := i4.ints m4 c4
      clear i4
      go_wp2_with fail
      refine (l01Own_any (row t k) _ _ e4).mono ?_
      rintro e w3 ⟨br, cr, rfl, ho, hx2⟩
      have hri := ho.2.2.1
      have hrb := ho.1
      clear ho
      have hgw := hg.ext hx2
      have hne : some br ≠ u3.ownBlock := fun e => by have := HO.out br e.symm; omega
      have htl : (t.take k).length = k := by rw [List.length_take]; omega
      have HTL := Lib.hid htl
      clear htl hg
      go_wp2_with (at_builtin; refine wpList_append_row rfl _ _ 24 28 rfl Try.underlying24 infoSl w.heap.size _ _ rfl (hgw.ext (ext_box _ _ _)) _ br cr (row t k) rfl (cell_new _ _ _) (hri.ext (ext_box _ _ _)) m4 hne (by rw [HTL.out]; omega) (by have := hx.size; have := hx2.size; simp; omega) ?_)
      intro v' w4 hg3 hgr hv3
      have hx3 : Ext w w4 := (hx.trans (hx2.trans (ext_box _ _ _))).grown hgr (hgw.ext (ext_box _ _ _)).own.choose_spec (Nat.le_refl _)
      clear hgr hne hgw
      go_wp2
      go_roundw
      case rel => exact ⟨k + 1, by omega, by go_num, by rw [take_row _ _ hkl]; exact hg3, hv3, hx3⟩
      case measure => simp [intOf]; omega
end Go.Proofs.Ytjbloenjphpngaa

/-
  Contracts: abelian, center, the opposite group.
-/
namespace Go.Proofs.Ytjbloenjphpngaa
set_option linter.unusedVariables false
set_option linter.unusedSimpArgs false
open Go.RowKit

end Go.Proofs.Ytjbloenjphpngaa

/-
  Contracts of OppositeGroup, IsAbelianGroup, CenterOf: reference and program.
-/
namespace Go.Proofs.Ytjbloenjphpngaa
set_option linter.unusedVariables false
set_option linter.unusedSimpArgs false
open Go.RowKit

end Go.Proofs.Ytjbloenjphpngaa

/-
  Contracts of TrivialBrace: reference and program.
-/
namespace Go.Proofs.Ytjbloenjphpngaa
set_option linter.unusedVariables false
set_option linter.unusedSimpArgs false
open Go.RowKit

set_option maxRecDepth 100000 in
set_option maxHeartbeats 1000000 in
theorem TrivialBrace_impl (t : List (List Int)) (v : Value) (w : World) (hv : Rows w v t) :
    Calls Try.prog 19 #[.agg #[v]] w (NewBC (ifG t t []) (ifG t t []) (codeG t) w) := by
  obtain ⟨hlen, b, o, c, rfl, hc⟩ := id hv
  have hx0 : Ext w ((w.alloc (.cells #[.slice (some ⟨b, o, none⟩) t.length c] 38)).alloc (.cells #[.slice none 0 0, .slice none 0 0] 26)) := ((Ext.refl _).alloc _).alloc _
  have b0 : ((w.alloc (.cells #[.slice (some ⟨b, o, none⟩) t.length c] 38)).alloc (.cells #[.slice none 0 0, .slice none 0 0] 26)).cell? ⟨w.heap.size, 0, none⟩ = some (.slice (some ⟨b, o, none⟩) t.length c) := by simp [go_sem]
  have r0 : ((w.alloc (.cells #[.slice (some ⟨b, o, none⟩) t.length c] 38)).alloc (.cells #[.slice none 0 0, .slice none 0 0] 26)).cell? ⟨w.heap.size + 1, 0, none⟩ = some (.slice none 0 0) := by simp [go_sem]
  have q0 : ((w.alloc (.cells #[.slice (some ⟨b, o, none⟩) t.length c] 38)).alloc (.cells #[.slice none 0 0, .slice none 0 0] 26)).frozen? ⟨w.heap.size + 1, 0, none⟩ = false := by simp [go_sem]
  have r1 : ((w.alloc (.cells #[.slice (some ⟨b, o, none⟩) t.length c] 38)).alloc (.cells #[.slice none 0 0, .slice none 0 0] 26)).cell? ⟨w.heap.size + 1, 1, none⟩ = some (.slice none 0 0) := by simp [go_sem]
  have q1 : ((w.alloc (.cells #[.slice (some ⟨b, o, none⟩) t.length c] 38)).alloc (.cells #[.slice none 0 0, .slice none 0 0] 26)).frozen? ⟨w.heap.size + 1, 1, none⟩ = false := by simp [go_sem]
  have z0 : w.heap.size + 2 = ((w.alloc (.cells #[.slice (some ⟨b, o, none⟩) t.length c] 38)).alloc (.cells #[.slice none 0 0, .slice none 0 0] 26)).heap.size := by simp
  cases hg : groupB t with
  | false =>
    rw [ifG_no hg, codeG_no hg]
    try rw [ifG_no hg]
    go_enter Try.func19, Try.ntmps19
    go_wp2_with fail
    generalize ((w.alloc (.cells #[.slice (some ⟨b, o, none⟩) t.length c] 38)).alloc (.cells #[.slice none 0 0, .slice none 0 0] 26)) = A at *
    refine (IsGroup_impl t _ _ (hv.ext hx0)).mono ?_
    rintro e w1 ⟨rfl, hx1⟩
    rw [hg]
    have f1 := hx1.cell r0
    have f2 := hx1.free q0 (by simp only []; omega)
    have f3 := hx1.cell r1
    have f4 := hx1.free q1 (by simp only []; omega)
    have zz := hx1.size
    go_wp2
    refine bodyPost_ret (v := .tuple #[.agg #[.slice none 0 0, .slice none 0 0], .int .i64 1]) (by simp [results, Try.results19, go_sem, f1, f3]) rfl ⟨_, _, rfl, ?_, ((hx0.trans hx1).setNew (by simp only []; omega) _).setNew (by simp only []; omega) _⟩
    exact OwnB.nil _ _ _ (by simp; omega)
  | true =>
    have hG := groupB_iff.1 hg
    rw [ifG_yes hg, codeG_yes hg]
    try rw [ifG_yes hg]
    go_enter Try.func19, Try.ntmps19
    go_wp2_with fail
    generalize ((w.alloc (.cells #[.slice (some ⟨b, o, none⟩) t.length c] 38)).alloc (.cells #[.slice none 0 0, .slice none 0 0] 26)) = A at *
    refine (IsGroup_impl t _ _ (hv.ext hx0)).mono ?_
    rintro e w1 ⟨rfl, hx1⟩
    rw [hg]
    have f1 := hx1.cell r0
    have f2 := hx1.free q0 (by simp only []; omega)
    have f3 := hx1.cell r1
    have f4 := hx1.free q1 (by simp only []; omega)
    have b1 := hx1.cell b0
    have zz := hx1.size
    have hX := hx0.trans hx1
    have zd : w1.drew.heap.size = w1.heap.size := rfl
    clear hx1 hx0 b0 r0 r1 q0 q1
    go_wp2
    go_region_with (first
      | (go_at_call 43; refine (cloneTable_any t _ _ (hv.ext ((hX.drew).trans hx2))).mono ?_; rintro e w3 ⟨b3, c3, rfl, ho3, hx3⟩; replace b1 := hx3.cell b1; replace f1 := hx3.cell f1; replace f3 := hx3.cell f3; replace f2 := hx3.free f2 (by simp only []; have := hx2.size; omega); replace f4 := hx3.free f4 (by simp only []; have := hx2.size; omega))
      | (go_at_call 43; refine (cloneTable_any t _ _ (hv.ext hX.drew)).mono ?_; rintro e w2 ⟨b2, c2, rfl, ho2, hx2⟩; replace b1 := hx2.cell (show w1.drew.cell? _ = some _ from b1); replace f1 := hx2.cell (show w1.drew.cell? _ = some _ from f1); replace f3 := hx2.cell (show w1.drew.cell? _ = some _ from f3); replace f2 := hx2.free (show w1.drew.frozen? _ = false from f2) (by simp only []; omega); replace f4 := hx2.free (show w1.drew.frozen? _ = false from f4) (by simp only []; omega)))
    all_goals
      go_wp2
      first
        | exact bodyPost_ret (v := .tuple #[.agg #[.slice (some ⟨b2, 0, none⟩) t.length c2, .slice (some ⟨b3, 0, none⟩) t.length c3], .int .i64 0]) (by simp [results, Try.results19, go_sem, f1, f3]) rfl ⟨_, _, rfl, ⟨w1.drew.heap.size, w2.heap.size, w2.heap.size, w3.heap.size, by omega, by have := hx3.size; simp; omega, by have := hx2.size; omega, by simp, .inl (Nat.le_refl _), ((OwnV.ext (ho2.v hv.small c2) hx3 (Nat.le_refl _)).set2 (by omega) _ _), ((ho3.v hv.small c3).set2 (by have := hx2.size; omega) _ _)⟩, ((((hX.drew).trans hx2).trans hx3).setNew (by simp only []; omega) _).setNew (by simp only []; omega) _⟩
        | exact bodyPost_ret (v := .tuple #[.agg #[.slice (some ⟨b3, 0, none⟩) t.length c3, .slice (some ⟨b2, 0, none⟩) t.length c2], .int .i64 0]) (by simp [results, Try.results19, go_sem, f1, f3]) rfl ⟨_, _, rfl, ⟨w2.heap.size, w3.heap.size, w1.drew.heap.size, w2.heap.size, by have := hx2.size; omega, by simp, by omega, by have := hx3.size; simp; omega, .inr (Nat.le_refl _), ((ho3.v hv.small c3).set2 (by have := hx2.size; omega) _ _), ((OwnV.ext (ho2.v hv.small c2) hx3 (Nat.le_refl _)).set2 (by omega) _ _)⟩, ((((hX.drew).trans hx2).trans hx3).setNew (by simp only []; omega) _).setNew (by simp only []; omega) _⟩

end Go.Proofs.Ytjbloenjphpngaa

/-
  Contracts of TurnedBrace: reference and program.
-/
namespace Go.Proofs.Ytjbloenjphpngaa
set_option linter.unusedVariables false
set_option linter.unusedSimpArgs false
open Go.RowKit

set_option maxRecDepth 100000 in
set_option maxHeartbeats 1000000 in
theorem TurnedBrace_spec (t : List (List Int)) (v : Value) (w : World) (hv : Rows w v t) :
    Calls Try.prog 17 #[.agg #[v]] w (RetB (ifG t t []) (ifG t (turnT t) []) (codeG t) w) := by
  obtain ⟨hlen, b, o, c, rfl, hc⟩ := id hv
  have hx0 : Ext w ((w.alloc (.cells #[.slice (some ⟨b, o, none⟩) t.length c] 38)).alloc (.cells #[.slice none 0 0, .slice none 0 0] 26)) := ((Ext.refl _).alloc _).alloc _
  have b0 : ((w.alloc (.cells #[.slice (some ⟨b, o, none⟩) t.length c] 38)).alloc (.cells #[.slice none 0 0, .slice none 0 0] 26)).cell? ⟨w.heap.size, 0, none⟩ = some (.slice (some ⟨b, o, none⟩) t.length c) := by simp [go_sem]
  have r0 : ((w.alloc (.cells #[.slice (some ⟨b, o, none⟩) t.length c] 38)).alloc (.cells #[.slice none 0 0, .slice none 0 0] 26)).cell? ⟨w.heap.size + 1, 0, none⟩ = some (.slice none 0 0) := by simp [go_sem]
  have q0 : ((w.alloc (.cells #[.slice (some ⟨b, o, none⟩) t.length c] 38)).alloc (.cells #[.slice none 0 0, .slice none 0 0] 26)).frozen? ⟨w.heap.size + 1, 0, none⟩ = false := by simp [go_sem]
  have r1 : ((w.alloc (.cells #[.slice (some ⟨b, o, none⟩) t.length c] 38)).alloc (.cells #[.slice none 0 0, .slice none 0 0] 26)).cell? ⟨w.heap.size + 1, 1, none⟩ = some (.slice none 0 0) := by simp [go_sem]
  have q1 : ((w.alloc (.cells #[.slice (some ⟨b, o, none⟩) t.length c] 38)).alloc (.cells #[.slice none 0 0, .slice none 0 0] 26)).frozen? ⟨w.heap.size + 1, 1, none⟩ = false := by simp [go_sem]
  have z0 : w.heap.size + 2 = ((w.alloc (.cells #[.slice (some ⟨b, o, none⟩) t.length c] 38)).alloc (.cells #[.slice none 0 0, .slice none 0 0] 26)).heap.size := by simp
  cases hg : groupB t with
  | false =>
    rw [ifG_no hg, codeG_no hg]
    try rw [ifG_no hg]
    go_enter Try.func17, Try.ntmps17
    go_wp2_with fail
    generalize ((w.alloc (.cells #[.slice (some ⟨b, o, none⟩) t.length c] 38)).alloc (.cells #[.slice none 0 0, .slice none 0 0] 26)) = A at *
    refine (l10Is_any t _ _ (hv.ext hx0)).mono ?_
    rintro e w1 ⟨rfl, hx1⟩
    rw [hg]
    have f1 := hx1.cell r0
    have f2 := hx1.free q0 (by simp only []; omega)
    have f3 := hx1.cell r1
    have f4 := hx1.free q1 (by simp only []; omega)
    have zz := hx1.size
    go_wp2
    refine bodyPost_ret (v := .tuple #[.agg #[.slice none 0 0, .slice none 0 0], .int .i64 1]) (by simp [results, Try.results17, go_sem, f1, f3]) rfl ⟨_, _, rfl, ?_, ((hx0.trans hx1).setNew (by simp only []; omega) _).setNew (by simp only []; omega) _⟩
    exact RowsB.nil _ _ _
  | true =>
    have hG := groupB_iff.1 hg
    rw [ifG_yes hg, codeG_yes hg]
    try rw [ifG_yes hg]
    go_enter Try.func17, Try.ntmps17
    go_wp2_with fail
    generalize ((w.alloc (.cells #[.slice (some ⟨b, o, none⟩) t.length c] 38)).alloc (.cells #[.slice none 0 0, .slice none 0 0] 26)) = A at *
    refine (l10Is_any t _ _ (hv.ext hx0)).mono ?_
    rintro e w1 ⟨rfl, hx1⟩
    rw [hg]
    have f1 := hx1.cell r0
    have f2 := hx1.free q0 (by simp only []; omega)
    have f3 := hx1.cell r1
    have f4 := hx1.free q1 (by simp only []; omega)
    have b1 := hx1.cell b0
    have zz := hx1.size
    have hX := hx0.trans hx1
    have zd : w1.drew.heap.size = w1.heap.size := rfl
    clear hx1 hx0 b0 r0 r1 q0 q1
    go_wp2
    go_region_with (first
      | (go_at_call 45; refine (l01Own2_any t _ _ (hv.ext ((hX.drew).trans hx2))).mono ?_; rintro e w3 ⟨v3, rfl, hr3, hx3⟩; obtain ⟨-, b3, o3, c3, rfl, -⟩ := id hr3; replace b1 := hx3.cell b1; replace f1 := hx3.cell f1; replace f3 := hx3.cell f3; replace f2 := hx3.free f2 (by simp only []; have := hx2.size; omega); replace f4 := hx3.free f4 (by simp only []; have := hx2.size; omega))
      | (go_at_call 46; refine (l01Turn_any t _ _ (hv.ext ((hX.drew).trans hx2)) hG.1).mono ?_; rintro e w3 ⟨v3, rfl, hr3, hx3⟩; obtain ⟨-, b3, o3, c3, rfl, -⟩ := id hr3; replace b1 := hx3.cell b1; replace f1 := hx3.cell f1; replace f3 := hx3.cell f3; replace f2 := hx3.free f2 (by simp only []; have := hx2.size; omega); replace f4 := hx3.free f4 (by simp only []; have := hx2.size; omega))
      | (go_at_call 45; refine (l01Own2_any t _ _ (hv.ext hX.drew)).mono ?_; rintro e w2 ⟨v2, rfl, hr2, hx2⟩; obtain ⟨-, b2, o2, c2, rfl, -⟩ := id hr2; replace b1 := hx2.cell (show w1.drew.cell? _ = some _ from b1); replace f1 := hx2.cell (show w1.drew.cell? _ = some _ from f1); replace f3 := hx2.cell (show w1.drew.cell? _ = some _ from f3); replace f2 := hx2.free (show w1.drew.frozen? _ = false from f2) (by simp only []; omega); replace f4 := hx2.free (show w1.drew.frozen? _ = false from f4) (by simp only []; omega))
      | (go_at_call 46; refine (l01Turn_any t _ _ (hv.ext hX.drew) hG.1).mono ?_; rintro e w2 ⟨v2, rfl, hr2, hx2⟩; obtain ⟨-, b2, o2, c2, rfl, -⟩ := id hr2; replace b1 := hx2.cell (show w1.drew.cell? _ = some _ from b1); replace f1 := hx2.cell (show w1.drew.cell? _ = some _ from f1); replace f3 := hx2.cell (show w1.drew.cell? _ = some _ from f3); replace f2 := hx2.free (show w1.drew.frozen? _ = false from f2) (by simp only []; omega); replace f4 := hx2.free (show w1.drew.frozen? _ = false from f4) (by simp only []; omega)))
    all_goals
      go_wp2
      first
        | exact bodyPost_ret (v := .tuple #[.agg #[.slice (some ⟨b2, o2, none⟩) t.length c2, .slice (some ⟨b3, o3, none⟩) (turnT t).length c3], .int .i64 0]) (by simp [results, Try.results17, go_sem, f1, f3]) rfl ⟨_, _, rfl, ⟨(rows_set2 (hr2.ext hx3) f1 f3 _ _).toR, (rows_set2 hr3 f1 f3 _ _).toR⟩, ((((hX.drew).trans hx2).trans hx3).setNew (by simp only []; omega) _).setNew (by simp only []; omega) _⟩
        | exact bodyPost_ret (v := .tuple #[.agg #[.slice (some ⟨b3, o3, none⟩) t.length c3, .slice (some ⟨b2, o2, none⟩) (turnT t).length c2], .int .i64 0]) (by simp [results, Try.results17, go_sem, f1, f3]) rfl ⟨_, _, rfl, ⟨(rows_set2 hr3 f1 f3 _ _).toR, (rows_set2 (hr2.ext hx3) f1 f3 _ _).toR⟩, ((((hX.drew).trans hx2).trans hx3).setNew (by simp only []; omega) _).setNew (by simp only []; omega) _⟩

set_option maxRecDepth 100000 in
set_option maxHeartbeats 1000000 in
theorem TurnedBrace_impl (t : List (List Int)) (v : Value) (w : World) (hv : Rows w v t) :
    Calls Try.prog 16 #[.agg #[v]] w (NewBC (ifG t t []) (ifG t (turnT t) []) (codeG t) w) := by
  obtain ⟨hlen, b, o, c, rfl, hc⟩ := id hv
  have hx0 : Ext w ((w.alloc (.cells #[.slice (some ⟨b, o, none⟩) t.length c] 38)).alloc (.cells #[.slice none 0 0, .slice none 0 0] 26)) := ((Ext.refl _).alloc _).alloc _
  have b0 : ((w.alloc (.cells #[.slice (some ⟨b, o, none⟩) t.length c] 38)).alloc (.cells #[.slice none 0 0, .slice none 0 0] 26)).cell? ⟨w.heap.size, 0, none⟩ = some (.slice (some ⟨b, o, none⟩) t.length c) := by simp [go_sem]
  have r0 : ((w.alloc (.cells #[.slice (some ⟨b, o, none⟩) t.length c] 38)).alloc (.cells #[.slice none 0 0, .slice none 0 0] 26)).cell? ⟨w.heap.size + 1, 0, none⟩ = some (.slice none 0 0) := by simp [go_sem]
  have q0 : ((w.alloc (.cells #[.slice (some ⟨b, o, none⟩) t.length c] 38)).alloc (.cells #[.slice none 0 0, .slice none 0 0] 26)).frozen? ⟨w.heap.size + 1, 0, none⟩ = false := by simp [go_sem]
  have r1 : ((w.alloc (.cells #[.slice (some ⟨b, o, none⟩) t.length c] 38)).alloc (.cells #[.slice none 0 0, .slice none 0 0] 26)).cell? ⟨w.heap.size + 1, 1, none⟩ = some (.slice none 0 0) := by simp [go_sem]
  have q1 : ((w.alloc (.cells #[.slice (some ⟨b, o, none⟩) t.length c] 38)).alloc (.cells #[.slice none 0 0, .slice none 0 0] 26)).frozen? ⟨w.heap.size + 1, 1, none⟩ = false := by simp [go_sem]
  have z0 : w.heap.size + 2 = ((w.alloc (.cells #[.slice (some ⟨b, o, none⟩) t.length c] 38)).alloc (.cells #[.slice none 0 0, .slice none 0 0] 26)).heap.size := by simp
  cases hg : groupB t with
  | false =>
    rw [ifG_no hg, codeG_no hg]
    try rw [ifG_no hg]
    go_enter Try.func16, Try.ntmps16
    go_wp2_with fail
    generalize ((w.alloc (.cells #[.slice (some ⟨b, o, none⟩) t.length c] 38)).alloc (.cells #[.slice none 0 0, .slice none 0 0] 26)) = A at *
    refine (IsGroup_impl t _ _ (hv.ext hx0)).mono ?_
    rintro e w1 ⟨rfl, hx1⟩
    rw [hg]
    have f1 := hx1.cell r0
    have f2 := hx1.free q0 (by simp only []; omega)
    have f3 := hx1.cell r1
    have f4 := hx1.free q1 (by simp only []; omega)
    have zz := hx1.size
    go_wp2
    refine bodyPost_ret (v := .tuple #[.agg #[.slice none 0 0, .slice none 0 0], .int .i64 1]) (by simp [results, Try.results16, go_sem, f1, f3]) rfl ⟨_, _, rfl, ?_, ((hx0.trans hx1).setNew (by simp only []; omega) _).setNew (by simp only []; omega) _⟩
    exact OwnB.nil _ _ _ (by simp; omega)
  | true =>
    have hG := groupB_iff.1 hg
    rw [ifG_yes hg, codeG_yes hg]
    try rw [ifG_yes hg]
    go_enter Try.func16, Try.ntmps16
    go_wp2_with fail
    generalize ((w.alloc (.cells #[.slice (some ⟨b, o, none⟩) t.length c] 38)).alloc (.cells #[.slice none 0 0, .slice none 0 0] 26)) = A at *
    refine (IsGroup_impl t _ _ (hv.ext hx0)).mono ?_
    rintro e w1 ⟨rfl, hx1⟩
    rw [hg]
    have f1 := hx1.cell r0
    have f2 := hx1.free q0 (by simp only []; omega)
    have f3 := hx1.cell r1
    have f4 := hx1.free q1 (by simp only []; omega)
    have b1 := hx1.cell b0
    have zz := hx1.size
    have hX := hx0.trans hx1
    have zd : w1.drew.heap.size = w1.heap.size := rfl
    clear hx1 hx0 b0 r0 r1 q0 q1
    go_wp2
    go_region_with (first
      | (go_at_call 43; refine (cloneTable_any t _ _ (hv.ext ((hX.drew).trans hx2))).mono ?_; rintro e w3 ⟨b3, c3, rfl, ho3, hx3⟩; replace b1 := hx3.cell b1; replace f1 := hx3.cell f1; replace f3 := hx3.cell f3; replace f2 := hx3.free f2 (by simp only []; have := hx2.size; omega); replace f4 := hx3.free f4 (by simp only []; have := hx2.size; omega))
      | (go_at_call 44; refine (transposed_any t _ _ (hv.ext ((hX.drew).trans hx2)) hG.1).mono ?_; rintro e w3 ⟨b3, c3, rfl, ho3, hx3⟩; replace b1 := hx3.cell b1; replace f1 := hx3.cell f1; replace f3 := hx3.cell f3; replace f2 := hx3.free f2 (by simp only []; have := hx2.size; omega); replace f4 := hx3.free f4 (by simp only []; have := hx2.size; omega))
      | (go_at_call 43; refine (cloneTable_any t _ _ (hv.ext hX.drew)).mono ?_; rintro e w2 ⟨b2, c2, rfl, ho2, hx2⟩; replace b1 := hx2.cell (show w1.drew.cell? _ = some _ from b1); replace f1 := hx2.cell (show w1.drew.cell? _ = some _ from f1); replace f3 := hx2.cell (show w1.drew.cell? _ = some _ from f3); replace f2 := hx2.free (show w1.drew.frozen? _ = false from f2) (by simp only []; omega); replace f4 := hx2.free (show w1.drew.frozen? _ = false from f4) (by simp only []; omega))
      | (go_at_call 44; refine (transposed_any t _ _ (hv.ext hX.drew) hG.1).mono ?_; rintro e w2 ⟨b2, c2, rfl, ho2, hx2⟩; replace b1 := hx2.cell (show w1.drew.cell? _ = some _ from b1); replace f1 := hx2.cell (show w1.drew.cell? _ = some _ from f1); replace f3 := hx2.cell (show w1.drew.cell? _ = some _ from f3); replace f2 := hx2.free (show w1.drew.frozen? _ = false from f2) (by simp only []; omega); replace f4 := hx2.free (show w1.drew.frozen? _ = false from f4) (by simp only []; omega)))
    all_goals
      go_wp2
      first
        | exact bodyPost_ret (v := .tuple #[.agg #[.slice (some ⟨b2, 0, none⟩) t.length c2, .slice (some ⟨b3, 0, none⟩) (turnT t).length c3], .int .i64 0]) (by simp [results, Try.results16, go_sem, f1, f3]) rfl ⟨_, _, rfl, ⟨w1.drew.heap.size, w2.heap.size, w2.heap.size, w3.heap.size, by omega, by have := hx3.size; simp; omega, by have := hx2.size; omega, by simp, .inl (Nat.le_refl _), ((OwnV.ext (ho2.v hv.small c2) hx3 (Nat.le_refl _)).set2 (by omega) _ _), ((ho3.v (small_turnT (by omega)) c3).set2 (by have := hx2.size; omega) _ _)⟩, ((((hX.drew).trans hx2).trans hx3).setNew (by simp only []; omega) _).setNew (by simp only []; omega) _⟩
        | exact bodyPost_ret (v := .tuple #[.agg #[.slice (some ⟨b3, 0, none⟩) t.length c3, .slice (some ⟨b2, 0, none⟩) (turnT t).length c2], .int .i64 0]) (by simp [results, Try.results16, go_sem, f1, f3]) rfl ⟨_, _, rfl, ⟨w2.heap.size, w3.heap.size, w1.drew.heap.size, w2.heap.size, by have := hx2.size; omega, by simp, by omega, by have := hx3.size; simp; omega, .inr (Nat.le_refl _), ((ho3.v hv.small c3).set2 (by have := hx2.size; omega) _ _), ((OwnV.ext (ho2.v (small_turnT (by omega)) c2) hx3 (Nat.le_refl _)).set2 (by omega) _ _)⟩, ((((hX.drew).trans hx2).trans hx3).setNew (by simp only []; omega) _).setNew (by simp only []; omega) _⟩

end Go.Proofs.Ytjbloenjphpngaa
