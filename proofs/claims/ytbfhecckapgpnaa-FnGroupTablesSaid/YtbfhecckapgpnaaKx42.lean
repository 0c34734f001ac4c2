/-
  Contracts of QuotientGroup: reference and program.
-/
import Derived.Test.YtbfhecckapgpnaaProg
import Derived.Deep.DeepCutAuto
import Derived.Deep.RegionWith
import Derived.Deep.RegionHeld3
import Derived.Deep.DrawnRows
import Derived.StillTailTactics
import Derived.Deep.RegionLaw
import Derived.Maps.AppendAt
import Derived.Test.YtbfhecckapgpnaaKx0
import Derived.Test.YtbfhecckapgpnaaKx1
import Derived.Test.YtbfhecckapgpnaaKx2
import Derived.Test.YtbfhecckapgpnaaKx8
import Derived.Test.YtbfhecckapgpnaaKx9
import Derived.Test.YtbfhecckapgpnaaKx7
import Derived.Test.YtbfhecckapgpnaaKx3
import Derived.Test.YtbfhecckapgpnaaKx22
import Derived.Test.YtbfhecckapgpnaaKx5
import Derived.Test.YtbfhecckapgpnaaKx12
import Derived.Test.YtbfhecckapgpnaaKx6
import Derived.Test.YtbfhecckapgpnaaKx14
import Derived.Test.YtbfhecckapgpnaaKx33
namespace Go.Proofs.Ytbfhecckapgpnaa
set_option linter.unusedVariables false
set_option linter.unusedSimpArgs false
open Go.RowKit
attribute [local go_sem ↓] Go.wp_at_zero Go.wp_at_succ

set_option maxRecDepth 100000 in
set_option maxHeartbeats 1000000 in
theorem firstOf_any (l : List Int) (v : Value) (w : World) (hv : Ints w v l) :
    Calls Try.prog 97 #[v] w fun e w' => ∃ v', e = .returned v' ∧ IntsR w' v' (firTo l l.length) ∧ Ext w w' := by
  obtain ⟨hlen, b, o, c, rfl, hc⟩ := id hv
  go_enter Try.func97, Try.ntmps97
  go_wp2
  go_loopw [3, 8] (fun s i wr => ∃ k : Nat, k ≤ l.length ∧ i = .int .i64 k ∧ GrowI 2 w.heap.size wr s (firTo l k) ∧ Ext w wr) (fun _ i _ => l.length - (intOf i).toNat)
  case atStart => exact ⟨0, Nat.zero_le _, rfl, GrowI.nil _ _ _, Ext.refl _⟩
  case round =>
    obtain ⟨k, hk, rfl, hs, hx⟩ := hrel
    have hfl := firTo_len l k
    have hz := hx.size
    by_cases hlt : k < l.length
    case neg =>
      have hkk : k = l.length := by omega
      subst hkk
      have hr := (hs.ownIV (hi := wr.heap.size) (by omega) (Nat.le_refl _)).toR
      go_wp2
      go_ret
      exact ⟨_, rfl, hr, hx⟩
    case pos =>
      have e1 := (hc.ext hx) k hlt
      obtain ⟨sa, sc, rfl⟩ := hs.slice
      cases hb : (ix l k == ((firTo l k).length : Int)) with
      | false =>
        have HF := Lib.hid (firTo_no hb)
        go_wp2
        go_roundw
        case rel => exact ⟨k + 1, by omega, by go_num, by rw [HF.out]; exact hs, hx⟩
        case measure => simp [intOf]; omega
      | true =>
        have HF := Lib.hid (firTo_yes hb)
        go_wp2_with (at_builtin; refine wpList_append_int rfl _ _ 45 2 rfl Try.underlying45 infoInt w.heap.size _ _ rfl (hs.alloc _) _ _ rfl (cell_new _ _ _) (by omega) (by simp; omega) ?_)
        intro v' w3 hi3 hgr hv3
        have hx3 : Ext w w3 := (hx.trans (ext_box _ _ _)).grown hgr (hs.alloc _) (Nat.le_refl _)
        clear hgr hs
        go_wp2
        go_roundw
        case rel => exact ⟨k + 1, by omega, by go_num, by rw [HF.out]; exact hi3, hx3⟩
        case measure => simp [intOf]; omega

end Go.Proofs.Ytbfhecckapgpnaa
