/-
  Contracts of QuotientGroup: reference and program.
-/
import Derived.Test.YtbfhecckapgpnaaGreatProg
import Derived.Deep.DeepCutAuto
import Derived.Deep.RegionWith
import Derived.Deep.RegionHeld3
import Derived.Deep.DrawnRows
import Derived.StillTailTactics
import Derived.Deep.RegionLaw
import Derived.Maps.AppendAt
import Derived.Test.YtbfhecckapgpnaaGreatJx0
import Derived.Test.YtbfhecckapgpnaaGreatJx1
import Derived.Test.YtbfhecckapgpnaaGreatJx2
import Derived.Test.YtbfhecckapgpnaaGreatJx8
import Derived.Test.YtbfhecckapgpnaaGreatJx9
import Derived.Test.YtbfhecckapgpnaaGreatJx7
import Derived.Test.YtbfhecckapgpnaaGreatJx3
import Derived.Test.YtbfhecckapgpnaaGreatJx22
import Derived.Test.YtbfhecckapgpnaaGreatJx5
import Derived.Test.YtbfhecckapgpnaaGreatJx12
import Derived.Test.YtbfhecckapgpnaaGreatJx6
import Derived.Test.YtbfhecckapgpnaaGreatJx14
import Derived.Test.YtbfhecckapgpnaaGreatJx49
namespace Go.Proofs.YtbfhecckapgpnaaGreat
set_option linter.unusedVariables false
set_option linter.unusedSimpArgs false
open Go.RowKit
attribute [local go_sem ↓] Go.wp_at_zero Go.wp_at_succ

set_option maxRecDepth 100000 in
set_option maxHeartbeats 1000000 in
theorem firstOf_any (l : List Int) (v : Value) (w : World) (hv : Ints w v l) :
    Calls Tryz.prog 66 #[v] w fun e w' => ∃ v', e = .returned v' ∧ IntsR w' v' (firTo l l.length) ∧ Ext w w' := by
  obtain ⟨hlen, b, o, c, rfl, hc⟩ := id hv
  go_enter Tryz.func66, Tryz.ntmps66
  go_wp2
  go_loopw [3, 8] (fun s i wr => ∃ k : Nat, k ≤ l.length ∧ i = .int .i64 k ∧ GrowI 2 w.heap.size wr s (firTo l k) ∧ Ext w wr) (fun _ i _ => l.length - (intOf i).toNat)
  case atStart => exact ⟨0, Nat.zero_le _, rfl, GrowI.nil _ _ _, Ext.refl _⟩
  case round =>
    obtain ⟨k, hk, rfl, hs, hx⟩ := hrel
    have hfl := firTo_len l k
    have hz := hx.size
    by_cases hlt : k < l.length
    case neg =>
      have hkk : k = l.length := by omega
      subst hkk
      have hr := (hs.ownIV (hi := wr.heap.size) (by omega) (Nat.le_refl _)).toR
      go_wp2
      go_ret
      exact ⟨_, rfl, hr, hx⟩
    case pos =>
      have e1 := (hc.ext hx) k hlt
      obtain ⟨sa, sc, rfl⟩ := hs.slice
      cases hb : (ix l k == ((firTo l k).length : Int)) with
      | false =>
        have HF := Lib.hid (firTo_no hb)
        go_wp2
        go_roundw
        case rel => exact ⟨k + 1, by omega, by go_num, by rw [HF.out]; exact hs, hx⟩
        case measure => simp [intOf]; omega
      | true =>
        have HF := Lib.hid (firTo_yes hb)
        go_wp2_with (at_builtin; refine wpList_append_int rfl _ _ 46 2 rfl Tryz.underlying46 infoInt w.heap.size _ _ rfl (hs.alloc _) _ _ rfl (cell_new _ _ _) (by omega) (by simp; omega) ?_)
        intro v' w3 hi3 hgr hv3
        have hx3 : Ext w w3 := (hx.trans (ext_box _ _ _)).grown hgr (hs.alloc _) (Nat.le_refl _)
        clear hgr hs
        go_wp2
        go_roundw
        case rel => exact ⟨k + 1, by omega, by go_num, by rw [HF.out]; exact hi3, hx3⟩
        case measure => simp [intOf]; omega

set_option maxRecDepth 100000 in
set_option maxHeartbeats 1000000 in
theorem l04Numbered_any (l : List Int) (v : Value) (w : World) (hv : Ints w v l) :
    Calls Tryz.prog 71 #[v] w fun e w' => ∃ b c, e = .returned (.slice (some ⟨b, 0, none⟩) l.length c) ∧ IntsAt w' b 0 (numL l) ∧ Ext w w' := by
  obtain ⟨hlen, b, o, c, rfl, hc⟩ := id hv
  have HLN := Lib.hid (length_numL l)
  have hx0 : Ext w ((w.alloc (.cells #[] 2)).alloc (.cells #[] 2)) := ((Ext.refl _).alloc _).alloc _
  have hg0 := (GrowI.lit (e := 2) (base := w.heap.size) (w := w) (Nat.le_refl _)).alloc (.cells #[] 2)
  have hf0 : GrowI 2 w.heap.size ((w.alloc (.cells #[] 2)).alloc (.cells #[] 2)) (.slice (some ⟨w.heap.size + 1, 0, none⟩) 0 0) [] := by
    rw [show w.heap.size + 1 = (w.alloc (.cells #[] 2)).heap.size from by simp]
    exact GrowI.lit (by simp)
  go_enter Tryz.func71, Tryz.ntmps71
  go_wp2
  go_loopw [3, 4, 5] (fun s f i wr => ∃ k : Nat, k ≤ l.length ∧ i = .int .i64 k ∧ GrowI 2 w.heap.size wr s ((numL l).take k) ∧ GrowI 2 w.heap.size wr f (seenTo l k) ∧ s ≠ .slice none 0 0 ∧ f ≠ .slice none 0 0 ∧ f.ownBlock ≠ s.ownBlock ∧ Ext w wr) (fun _ _ i _ => l.length - (intOf i).toNat)
  case atStart => exact ⟨0, Nat.zero_le _, rfl, hg0, hf0, by simp, by simp, by simp [Value.ownBlock], hx0⟩
  case round =>
    clear hx0 hg0 hf0
    obtain ⟨k, hk, rfl, hs, hf, ns, nf, hne, hx⟩ := hrel
    have hsl := seenTo_len l k
    have hz := hx.size
    have NS := Lib.hid ns
    have NF := Lib.hid nf
    have HNE := Lib.hid hne
    clear ns nf hne
    by_cases hlt : k < l.length
    case neg =>
      have hkk : k = l.length := by omega
      subst hkk
      have hta : (numL l).take l.length = numL l := List.take_of_length_le (by rw [HLN.out]; omega)
      rw [hta] at hs
      obtain ⟨br, cr, rfl, hri, hrb, -⟩ := hs.row NS.out
      rw [HLN.out]
      go_wp2
      go_ret
      exact ⟨br, cr, rfl, hri, hx⟩
    case pos =>
      have hfi := Lib.hid (hf.ints (by omega) NF.out)
      have e1 := (hc.ext hx) k hlt
      have HTK := Lib.hid (show ((numL l).take k).length = k by rw [List.length_take, HLN.out]; omega)
      have HT1 := Lib.hid (show (numL l).take (k + 1) = (numL l).take k ++ [numF l k] by rw [take_ix _ _ (by rw [HLN.out]; exact hlt), ix_numL _ _ hlt])
      obtain ⟨fa, fc, rfl⟩ := hf.slice
      cases hb : hasB (seenTo l k) (ix l k) with
      | true =>
        have HO := Lib.hid (numF_old hb)
        have HS := Lib.hid (seenTo_old hb)
        go_wp2_with (first
          | (go_at_call 106; refine (l01Has_any (seenTo l k) _ _ _ hfi.out).mono ?_; rintro e w' ⟨rfl, rfl⟩; rw [hb])
          | (go_at_call 107; refine (l01Index_any (seenTo l k) _ _ _ hfi.out).mono ?_; rintro e w' ⟨rfl, rfl⟩; rw [← HO.out])
          | (at_builtin; refine wpList_append_int_at rfl _ _ 46 2 rfl Tryz.underlying46 infoInt w.heap.size _ _ rfl (hs.alloc _) _ _ rfl (cell_new _ _ _) (by rw [HTK.out]; omega) (by simp; omega) ?_))
        intro v' w3 hi3 hgr hv3 hat
        have hx3 : Ext w w3 := (hx.trans (ext_box _ _ _)).grown hgr (hs.alloc _) (Nat.le_refl _)
        have hf3 := (hf.alloc _).kept hgr HNE.out
        have hne3 : (Value.slice fa (seenTo l k).length fc).ownBlock ≠ v'.ownBlock := by
          rcases hat with h | h
          · rw [h]; exact HNE.out
          · rw [h]; intro h2; have := (hf.lt h2).2; first | omega | (simp at this; omega) | (simp at this)
        have HNE3 := Lib.hid hne3
        clear hgr hs hne3 hat
        go_wp2
        go_roundw
        case rel => exact ⟨k + 1, by omega, by go_num, by rw [HT1.out]; exact hi3, by rw [HS.out]; exact hf3, hv3, NF.out, HNE3.out, hx3⟩
        case measure => simp [intOf]; omega
      | false =>
        have HO := Lib.hid (numF_eq l k)
        have HS := Lib.hid (seenTo_new hb)
        go_wp2_with (first
          | (go_at_call 106; refine (l01Has_any (seenTo l k) _ _ _ hfi.out).mono ?_; rintro e w' ⟨rfl, rfl⟩; rw [hb])
          | (at_builtin; refine wpList_append_int_at rfl _ _ 46 2 rfl Tryz.underlying46 infoInt w.heap.size _ _ rfl (hf.alloc _) _ _ rfl (cell_new _ _ _) (by omega) (by simp; omega) ?_))
        intro v' w3 hi3 hgr hv3 hat
        have hx3 : Ext w w3 := (hx.trans (ext_box _ _ _)).grown hgr (hf.alloc _) (Nat.le_refl _)
        have hs3 := (hs.alloc _).kept hgr (Ne.symm HNE.out)
        have hne3 : v'.ownBlock ≠ u3.ownBlock := by
          rcases hat with h | h
          · rw [h]; exact HNE.out
          · rw [h]; intro h2; have := (hs.lt h2.symm).2; first | omega | (simp at this; omega) | (simp at this)
        have HNE3 := Lib.hid hne3
        have HV3 := Lib.hid hv3
        rw [← HS.out] at hi3
        have hsl2 := seenTo_len l (k + 1)
        have hfi3 := Lib.hid (hi3.ints (by omega) hv3)
        have e3 := (hc.ext hx3) k hlt
        have hz3 := hx3.size
        clear hgr hs hf hne3 hat hv3 hfi e1
        go_wp2_with (first
          | (go_at_call 107; refine (l01Index_any (seenTo l (k + 1)) _ _ _ hfi3.out).mono ?_; rintro e w' ⟨rfl, rfl⟩; rw [HO.out])
          | (at_builtin; refine wpList_append_int_at rfl _ _ 46 2 rfl Tryz.underlying46 infoInt w.heap.size _ _ rfl (hs3.alloc _) _ _ rfl (cell_new _ _ _) (by rw [HTK.out]; omega) (by simp; omega) ?_))
        intro v2 w4 hi4 hgr hv4 hat
        have hx4 : Ext w w4 := (hx3.trans (ext_box _ _ _)).grown hgr (hs3.alloc _) (Nat.le_refl _)
        have hf4 := (hi3.alloc _).kept hgr HNE3.out
        have hne4 : v'.ownBlock ≠ v2.ownBlock := by
          rcases hat with h | h
          · rw [h]; exact HNE3.out
          · rw [h]; intro h2; have := (hi3.lt h2).2; first | omega | (simp at this; omega) | (simp at this)
        have HNE4 := Lib.hid hne4
        clear hgr hs3 hi3 hne4 hat
        go_wp2
        go_roundw
        case rel => exact ⟨k + 1, by omega, by go_num, by rw [HT1.out]; exact hi4, hf4, hv4, HV3.out, HNE4.out, hx4⟩
        case measure => simp [intOf]; omega

end Go.Proofs.YtbfhecckapgpnaaGreat
