/-
  Contracts of the program's functions on racks, at racks: rackFault, isIdentity, kinkOf, IsRack, IsQuandle, IsMedialRack, IsInvolutoryRack.
-/
import Derived.Test.YtbfhecckapgpnaaProg
import Derived.Deep.DeepCutAuto
import Derived.Deep.RegionWith
import Derived.BigQuiet
import Derived.Deep.OwnRows
import Derived.Test.YtbfhecckapgpnaaJx0
import Derived.Test.YtbfhecckapgpnaaJx1
import Derived.Test.YtbfhecckapgpnaaJx2
import Derived.Test.YtbfhecckapgpnaaJx7
import Derived.Test.YtbfhecckapgpnaaJx22
import Derived.Test.YtbfhecckapgpnaaJx5
import Derived.Test.YtbfhecckapgpnaaJx11
import Derived.Test.YtbfhecckapgpnaaJx6
import Derived.Test.YtbfhecckapgpnaaJx33
namespace Go.Proofs.Ytbfhecckapgpnaa
set_option linter.unusedVariables false
set_option linter.unusedSimpArgs false
open Go.RowKit
attribute [local go_sem ↓] Go.wp_at_zero Go.wp_at_succ
open Go.Deep

set_option maxRecDepth 100000 in
set_option maxHeartbeats 1000000 in
theorem rackFault_ok (t : List (List Int)) (v : Value) (w : World) (hv : Rows w v t) (hR : RackOk t) :
    Calls Try.prog 84 #[v] w fun e w' => e = .returned (.slice none 0 0) ∧ Ext w w' := by
  obtain ⟨hlen, b, o, c, rfl, hc⟩ := id hv
  have h12 := hR.tab.2.1
  obtain ⟨n, hn⟩ : ∃ n, n = t.length := ⟨_, rfl⟩
  rw [← hn] at h12 ⊢
  have HN := Lib.hid hn
  have HT := Lib.hid hR.tab
  have HL := Lib.hid hR.law
  have HC := Lib.hid hc
  clear hc hn hR hv
  go_enter Try.func84, Try.ntmps84
  go_wp2
  go_loopw [10] (fun i wr => ∃ x : Nat, x ≤ n ∧ i = .int .i64 x ∧ Drawn w wr) (fun i _ => n - (intOf i).toNat)
  case atStart => exact ⟨0, Nat.zero_le _, rfl, Drawn.refl _⟩
  case round =>
    obtain ⟨x, hx, rfl, hd⟩ := hrel
    by_cases hxl : x < n
    case neg =>
      go_wp2
      go_ret
      exact ⟨rfl, hd.ext⟩
    case pos =>
      have hd0 := hd
      go_wp2
      go_loopw [14] (fun i wy => ∃ y : Nat, y ≤ n ∧ i = .int .i64 y ∧ Drawn w wy) (fun i _ => n - (intOf i).toNat)
      case atStart => exact ⟨0, Nat.zero_le _, rfl, hd0⟩
      case round =>
        obtain ⟨y, hy, rfl, hd⟩ := hrel
        by_cases hyl : y < n
        case neg =>
          go_wp2
          go_roundw
          case rel => exact ⟨x + 1, by omega, by go_num, hd⟩
          case measure => simp [intOf]; omega
        case pos =>
          have hd1 := hd
          go_wp2
          go_loopw [18] (fun i wz => ∃ z : Nat, z ≤ n ∧ i = .int .i64 z ∧ Drawn w wz) (fun i _ => n - (intOf i).toNat)
          case atStart => exact ⟨0, Nat.zero_le _, rfl, hd1⟩
          case round =>
            obtain ⟨z, hz, rfl, hd⟩ := hrel
            by_cases hzl : z < n
            case neg =>
              go_wp2
              go_roundw
              case rel => exact ⟨y + 1, by omega, by go_num, hd⟩
              case measure => simp [intOf]; omega
            case pos =>
              obtain ⟨dx, sx, mx, r1, q1⟩ := (HC.out.ext hd.ext).read HT.out HN.out.symm hxl
              obtain ⟨dy, sy, my, r2, q2⟩ := (HC.out.ext hd.ext).read HT.out HN.out.symm hyl
              obtain ⟨e1, e1a, e1b⟩ := q2 z hzl
              obtain ⟨e2, e2a, e2b⟩ := q1 y hyl
              obtain ⟨e3, e3a, e3b⟩ := q1 z hzl
              obtain ⟨A, hA⟩ := Int.eq_ofNat_of_zero_le e1a
              obtain ⟨B, hB⟩ := Int.eq_ofNat_of_zero_le e2a
              obtain ⟨C, hC⟩ := Int.eq_ofNat_of_zero_le e3a
              rw [hA] at e1 e1b
              rw [hB] at e2 e2b
              rw [hC] at e3 e3b
              have hAn : A < n := by omega
              have hBn : B < n := by omega
              have hCn : C < n := by omega
              obtain ⟨e4, -, -⟩ := q1 A hAn
              obtain ⟨db, sb, mb, r3, q3⟩ := (HC.out.ext hd.ext).read HT.out HN.out.symm hBn
              obtain ⟨e5, -, -⟩ := q3 C hCn
              have hlaw : ent t x A = ent t B C := by
                have := HL.out x (by rw [← HN.out]; exact hxl) y (by rw [← HN.out]; exact hyl) z (by rw [← HN.out]; exact hzl)
                rwa [hA, hB, hC] at this
              rw [← hlaw] at e5
              have HD := Lib.hid hd
              clear q1 q2 q3 hA hB hC hlaw e1a e2a e3a hd
              go_wp2
              go_quiet (fail)
              go_wp2
              go_roundw
              case rel => exact ⟨z + 1, by omega, by go_num, HD.out.drewN _⟩
              case measure => simp [intOf]; omega

/-- 0, 1, 2, .. -/
theorem increasing_id (n : Nat) (v : Value) (w : World) (hv : Ints w v (idL n)) :
    Calls Try.prog 85 #[v] w fun e w' => e = .returned (.bool true) ∧ Ext w w' := by
  obtain ⟨hlen, b, o, c, rfl, hc⟩ := hv
  rw [length_idL] at hlen ⊢
  have HC := Lib.hid hc
  clear hc
  go_enter Try.func85, Try.ntmps85
  go_wp2
  go_loopw [3] (fun i wr => ∃ k : Nat, 1 ≤ k ∧ k ≤ n + 1 ∧ i = .int .i64 k ∧ Drawn w wr) (fun i _ => n + 1 - (intOf i).toNat)
  case atStart => exact ⟨1, Nat.le_refl _, by omega, rfl, Drawn.refl _⟩
  case round =>
    obtain ⟨k, hk1, hk, rfl, hd⟩ := hrel
    by_cases hlt : k < n
    case neg =>
      go_wp2
      go_ret
      exact ⟨rfl, hd.ext⟩
    case pos =>
      obtain ⟨j, rfl⟩ : ∃ j, k = j + 1 := ⟨k - 1, by omega⟩
      have e1 := HC.out.ext hd.ext (j + 1) (by rw [length_idL]; exact hlt)
      have e0 := HC.out.ext hd.ext j (by rw [length_idL]; omega)
      rw [ix_idL _ _ hlt] at e1
      rw [ix_idL _ _ (by omega)] at e0
      have HD := Lib.hid hd
      clear hd
      go_wp2
      go_quiet (fail)
      go_wp2
      go_roundw
      case rel => exact ⟨j + 2, by omega, by omega, by go_num, HD.out.drewN _⟩
      case measure => simp [intOf]; omega

theorem isIdentity_id (n : Nat) (v : Value) (w : World) (hv : Ints w v (idL n)) :
    Calls Try.prog 53 #[v] w fun e w' => e = .returned (.bool true) ∧ Ext w w' := by
  go_enter Try.func53, Try.ntmps53
  go_wp2_with fail
  refine (increasing_id n _ _ hv).mono ?_
  rintro e w1 ⟨rfl, hx⟩
  go_wp2
  go_ret
  exact ⟨rfl, hx⟩

set_option maxRecDepth 100000 in
set_option maxHeartbeats 1000000 in
theorem IsRack_ok (t : List (List Int)) (v : Value) (w : World) (hv : Rows w v t) (hR : RackOk t) :
    Calls Try.prog 52 #[.agg #[v]] w fun e w' => e = .returned (.bool true) ∧ Ext w w' := by
  obtain ⟨b, o, c, rfl⟩ : ∃ b o c, v = .slice (some ⟨b, o, none⟩) t.length c := by
    obtain ⟨-, b, o, c, e, -⟩ := hv
    exact ⟨b, o, c, e⟩
  have hxg := ext_box w (.slice (some ⟨b, o, none⟩) t.length c) 27
  have bg := cell_new w (.slice (some ⟨b, o, none⟩) t.length c) 27
  have hT := tableB_iff.2 hR.tab
  have hp := hR.perm
  go_enter Try.func52, Try.ntmps52
  go_wp2_with fail
  generalize (w.alloc (.cells #[.slice (some ⟨b, o, none⟩) t.length c] 27)) = w1 at *
  refine (IsTable_any t _ _ (hv.ext hxg)).mono ?_
  rintro e w2 ⟨rfl, hx⟩
  rw [hT]
  have hX := hxg.trans hx
  have b2 := hx.cell bg
  clear hx hxg bg
  go_wp2_with fail
  refine (permutationRows_any t _ _ (hv.ext hX)).mono ?_
  rintro e w3 ⟨rfl, hx⟩
  rw [hp]
  replace hX := hX.trans hx
  have b3 := hx.cell b2
  clear hx b2
  go_wp2_with fail
  refine (rackFault_ok t _ _ (hv.ext hX) hR).mono ?_
  rintro e w4 ⟨rfl, hx⟩
  replace hX := hX.trans hx
  have he : ∀ w : World, (binOp .eql 45 (.slice none 0 0) (.slice none 0 0)).run Try.prog w = .ok (.bool true) w := fun _ => rfl
  go_wp2
  go_ret
  exact ⟨rfl, hX⟩

set_option maxRecDepth 100000 in
set_option maxHeartbeats 1000000 in
theorem kinkOf_ok (t : List (List Int)) (v : Value) (w : World) (hv : Rows w v t) (hQ : QuandOk t) :
    Calls Try.prog 54 #[.agg #[v]] w fun e w' => ∃ v', e = .returned v' ∧ Ints w' v' (idL t.length) ∧ Ext w w' := by
  obtain ⟨hlen, b, o, c, rfl, hc⟩ := id hv
  have h12 := hQ.1.tab.2.1
  have HC := Lib.hid hc
  have HT := Lib.hid hQ.1.tab
  have HQ := Lib.hid hQ.2
  have HL := Lib.hid (fun x (hx : x < t.length) => hQ.1.tab.len hx)
  clear hc hQ hv
  have hxg := ext_box w (.slice (some ⟨b, o, none⟩) t.length c) 27
  have bg := cell_new w (.slice (some ⟨b, o, none⟩) t.length c) 27
  have hmk := run_make_row' (P := Try.prog) 45 2 (.int .i64 0) 8 Try.underlying45 infoInt rfl .i64 .i64 t.length (by omega) (by omega)
  go_enter Try.func54, Try.ntmps54
  go_wp2_with fail
  clear hmk
  have z1 : w.heap.size + 1 = (w.alloc (.cells #[.slice (some ⟨b, o, none⟩) t.length c] 27)).heap.size := by simp
  rw [z1]
  generalize (w.alloc (.cells #[.slice (some ⟨b, o, none⟩) t.length c] 27)) = w1 at *
  have z2 : w.heap.size + 1 ≤ w1.heap.size := by omega
  clear z1
  have hx0 : Ext w1 (w1.alloc (.cells (madeCells #[Value.int .i64 0] t.length) 2)) := (Ext.refl _).alloc _
  have hr0 := World.rowIs_made w1 (.int .i64 0) t.length 2
  go_loopw [11] (fun i wr => ∃ k : Nat, k ≤ t.length ∧ i = .int .i64 k ∧ wr.rowIs w1.heap.size 2 t.length (fun i => .int .i64 (copyTo (idL t.length) k i)) ∧ Ext w1 wr) (fun i _ => t.length - (intOf i).toNat)
  case atStart => exact ⟨0, Nat.zero_le _, rfl, hr0.congr (fun i hi => by rw [copyTo_zero]), hx0⟩
  case round =>
    clear hx0 hr0
    obtain ⟨k, hk, rfl, hrow, hx⟩ := hrel
    by_cases hlt : k < t.length
    · obtain ⟨d, s, m, e1, q1⟩ := (HC.out.ext (hxg.trans hx)).read HT.out rfl hlt
      obtain ⟨e2, -, -⟩ := q1 k hlt
      rw [HQ.out k hlt] at e2
      have bk := hx.cell bg
      have e3 := hrow.cell hlt
      have e4 := hrow.frozen k
      have HE := Lib.hid (show ix (idL t.length) k = (k : Int) from ix_idL _ _ hlt)
      have HROW := Lib.hid hrow
      clear q1 hrow
      go_wp2_with fail
      go_roundw
      case rel => exact ⟨k + 1, by omega, by go_num, (HROW.out.set k _).congr (fun i hi => by rw [copyTo_succ, HE.out]; split <;> rfl), hx.setNew (Nat.le_refl _) _⟩
      case measure => simp [intOf]; omega
    · have hkk : k = t.length := by omega
      have HO := Lib.hid (ownI_of_row (lo := w1.heap.size) (hi := wr.heap.size) (l := idL t.length) hrow (by rw [length_idL]; exact Nat.le_refl _) (fun i hi => by rw [length_idL] at hi; rw [copyTo_all _ _ _ (by omega)]) (Nat.le_refl _) hrow.lt)
      clear hrow
      go_wp2_with fail
      go_ret
      exact ⟨.slice (some ⟨w1.heap.size, 0, none⟩) t.length t.length, rfl, ⟨by rw [length_idL]; omega, w1.heap.size, 0, t.length, by rw [length_idL], HO.out.2.2.1⟩, hxg.trans hx⟩

set_option maxRecDepth 100000 in
set_option maxHeartbeats 1000000 in
theorem IsQuandle_ok (t : List (List Int)) (v : Value) (w : World) (hv : Rows w v t) (hQ : QuandOk t) :
    Calls Try.prog 15 #[.agg #[v]] w (RetBI true 0 w) := by
  obtain ⟨b, o, c, rfl⟩ : ∃ b o c, v = .slice (some ⟨b, o, none⟩) t.length c := by
    obtain ⟨-, b, o, c, e, -⟩ := hv
    exact ⟨b, o, c, e⟩
  have hxg := ext_box w (.slice (some ⟨b, o, none⟩) t.length c) 27
  have bg := cell_new w (.slice (some ⟨b, o, none⟩) t.length c) 27
  go_enter Try.func15, Try.ntmps15
  go_wp2_with fail
  generalize (w.alloc (.cells #[.slice (some ⟨b, o, none⟩) t.length c] 27)) = w1 at *
  refine (IsRack_ok t _ _ (hv.ext hxg) hQ.1).mono ?_
  rintro e w2 ⟨rfl, hx⟩
  have hX := hxg.trans hx
  have b2 := hx.cell bg
  clear hx hxg bg
  go_wp2_with fail
  refine (kinkOf_ok t _ _ (hv.ext hX) hQ).mono ?_
  rintro e w3 ⟨v', rfl, hi, hx⟩
  replace hX := hX.trans hx
  clear hx b2
  go_wp2_with fail
  refine (isIdentity_id t.length _ _ hi).mono ?_
  rintro e w4 ⟨rfl, hx⟩
  go_wp2
  go_ret2
  exact ⟨rfl, hX.trans hx⟩

theorem IsInvol1_ok (n : Nat) (l : List Int) (v : Value) (w : World) (hv : Ints w v l) (hp : IsoOk n [] [] l) (hi : thenL l l = idL n) (h12 : n ≤ 12) :
    Calls Try.prog 63 #[v] w fun e w' => e = .returned (.bool false) ∧ Ext w w' := by
  go_enter Try.func63, Try.ntmps63
  go_wp2_with fail
  refine (then_any n l l _ _ _ hv hv hp hp.1 h12).mono ?_
  rintro e w1 ⟨b, c, rfl, ho, hx⟩
  rw [hi] at ho ⊢
  go_wp2_with fail
  refine (isIdentity_id n _ _ (ho.2.2.1.ints (by rw [length_idL]; omega) c)).mono ?_
  rintro e w2 ⟨rfl, hx2⟩
  go_wp2
  go_ret
  exact ⟨rfl, hx.trans hx2⟩

theorem callInvol1 (args : Array Value) (w : World) : (callFunc 63 args).run Try.prog w = .ok (.enter 63 args) w :=
  callFunc_enter Try.func63 (by kernel_rfl) rfl args w

set_option maxRecDepth 100000 in
set_option maxHeartbeats 1000000 in
theorem IsInvolutoryRack_ok (t : List (List Int)) (v : Value) (w : World) (hv : Rows w v t) (hR : RackOk t) (hI : InvolOk t) :
    Calls Try.prog 22 #[.agg #[v]] w (RetBI true 0 w) := by
  obtain ⟨b, o, c, rfl⟩ : ∃ b o c, v = .slice (some ⟨b, o, none⟩) t.length c := by
    obtain ⟨-, b, o, c, e, -⟩ := hv
    exact ⟨b, o, c, e⟩
  have h12 := hR.tab.2.1
  have hth : ∀ x, x < t.length → thenL (row t x) (row t x) = idL t.length := fun x hx => by
    have hl := hR.tab.len hx
    refine ix_ext (by rw [length_thenL, length_idL, hl]) fun y hy => ?_
    rw [length_thenL, hl] at hy
    rw [ix_thenL _ _ (by rw [hl]; exact hy), ix_idL _ _ hy, ent_def, ent_def]
    exact hI x hx y hy
  have HTH := Lib.hid hth
  have HP := Lib.hid (fun x (hx : x < t.length) => hR.iso hx)
  have hany : anyB (fun _ => false) t = false := by unfold anyB; rw [List.any_eq_false]; simp
  clear hth
  have hxg := ext_box w (.slice (some ⟨b, o, none⟩) t.length c) 27
  have bg := cell_new w (.slice (some ⟨b, o, none⟩) t.length c) 27
  go_enter Try.func22, Try.ntmps22
  go_wp2_with fail
  generalize (w.alloc (.cells #[.slice (some ⟨b, o, none⟩) t.length c] 27)) = w1 at *
  refine (IsRack_ok t _ _ (hv.ext hxg) hR).mono ?_
  rintro e w2 ⟨rfl, hx⟩
  have hX := hxg.trans hx
  have b2 := hx.cell bg
  clear hx hxg bg
  go_wp2_with fail
  refine (ContainsFunc_any t (fun _ => false) 63 #[] _ _ (hv.ext hX) callInvol1 (fun w1 r i hx hi hr => by rw [app0]; exact IsInvol1_ok t.length _ r _ hr (HP.out i hi) (HTH.out i hi) h12)).mono ?_
  rintro e w3 ⟨rfl, hx⟩
  rw [hany]
  go_wp2
  go_ret2
  exact ⟨rfl, hX.trans hx⟩
end Go.Proofs.Ytbfhecckapgpnaa

/-
  IsMedialRack of the program, at medial racks.
-/
namespace Go.Proofs.Ytbfhecckapgpnaa
set_option linter.unusedVariables false
set_option linter.unusedSimpArgs false
open Go.RowKit
attribute [local go_sem ↓] Go.wp_at_zero Go.wp_at_succ
open Go.Deep

set_option maxRecDepth 100000 in
set_option maxHeartbeats 2000000 in
theorem IsMedialRack_ok (t : List (List Int)) (v : Value) (w : World) (hv : Rows w v t) (hR : RackOk t) (hM : MedialOk t) :
    Calls Try.prog 16 #[.agg #[v]] w (RetBI true 0 w) := by
  obtain ⟨-, b, o, c, rfl, hc⟩ := id hv
  have hxg := ext_box w (.slice (some ⟨b, o, none⟩) t.length c) 27
  have bg := cell_new w (.slice (some ⟨b, o, none⟩) t.length c) 27
  have hc0 := hc.ext hxg
  clear hc
  go_enter Try.func16, Try.ntmps16
  go_wp2_with fail
  generalize (w.alloc (.cells #[.slice (some ⟨b, o, none⟩) t.length c] 27)) = w1 at *
  refine (IsRack_ok t _ _ (hv.ext hxg) hR).mono ?_
  rintro e w2 ⟨rfl, hx⟩
  have hX := hxg.trans hx
  have b2 := hx.cell bg
  have hc1 := hc0.ext hx
  clear hx hxg bg hc0 hv
  have h12 := hR.tab.2.1
  have HT := Lib.hid hR.tab
  have HM := Lib.hid hM
  have HC := Lib.hid hc1
  clear hc1 hM hR
  obtain ⟨n, hn⟩ : ∃ n, n = t.length := ⟨_, rfl⟩
  rw [← hn] at h12 b2 ⊢
  have HN := Lib.hid hn
  clear hn
  go_wp2
  go_loopw [16] (fun i wr => ∃ x : Nat, x ≤ n ∧ i = .int .i64 x ∧ Drawn w2 wr) (fun i _ => n - (intOf i).toNat)
  case atStart => exact ⟨0, Nat.zero_le _, rfl, Drawn.refl _⟩
  case round =>
    obtain ⟨x, hx, rfl, hd0⟩ := hrel
    by_cases hxl : x < n
    case neg =>
      go_wp2
      go_ret2
      exact ⟨rfl, hX.trans hd0.ext⟩
    case pos =>
      go_wp2
      go_loopw [21] (fun i wr => ∃ y : Nat, y ≤ n ∧ i = .int .i64 y ∧ Drawn w2 wr) (fun i _ => n - (intOf i).toNat)
      case atStart => exact ⟨0, Nat.zero_le _, rfl, hd0⟩
      case round =>
        obtain ⟨y, hy, rfl, hd1⟩ := hrel
        by_cases hyl : y < n
        case neg =>
          go_wp2
          go_roundw
          case rel => exact ⟨x + 1, by omega, by go_num, hd1⟩
          case measure => simp [intOf]; omega
        case pos =>
          go_wp2
          go_loopw [26] (fun i wr => ∃ z : Nat, z ≤ n ∧ i = .int .i64 z ∧ Drawn w2 wr) (fun i _ => n - (intOf i).toNat)
          case atStart => exact ⟨0, Nat.zero_le _, rfl, hd1⟩
          case round =>
            obtain ⟨z, hz, rfl, hd2⟩ := hrel
            by_cases hzl : z < n
            case neg =>
              go_wp2
              go_roundw
              case rel => exact ⟨y + 1, by omega, by go_num, hd2⟩
              case measure => simp [intOf]; omega
            case pos =>
              go_wp2
              go_loopw [31] (fun i wr => ∃ u : Nat, u ≤ n ∧ i = .int .i64 u ∧ Drawn w2 wr) (fun i _ => n - (intOf i).toNat)
              case atStart => exact ⟨0, Nat.zero_le _, rfl, hd2⟩
              case round =>
                obtain ⟨u, hu, rfl, hd3⟩ := hrel
                by_cases hul : u < n
                case neg =>
                  go_wp2
                  go_roundw
                  case rel => exact ⟨z + 1, by omega, by go_num, hd3⟩
                  case measure => simp [intOf]; omega
                case pos =>
                  obtain ⟨dx, sx, mx, r1, q1⟩ := (HC.out.ext hd3.ext).read HT.out HN.out.symm hxl
                  obtain ⟨dy, sy, my, r2, q2⟩ := (HC.out.ext hd3.ext).read HT.out HN.out.symm hyl
                  obtain ⟨dz, sz, mz, r3, q3⟩ := (HC.out.ext hd3.ext).read HT.out HN.out.symm hzl
                  obtain ⟨e1, e1a, e1b⟩ := q1 y hyl
                  obtain ⟨e2, e2a, e2b⟩ := q3 u hul
                  obtain ⟨e3, e3a, e3b⟩ := q1 z hzl
                  obtain ⟨e4, e4a, e4b⟩ := q2 u hul
                  obtain ⟨A, hA⟩ := Int.eq_ofNat_of_zero_le e1a
                  obtain ⟨B, hB⟩ := Int.eq_ofNat_of_zero_le e2a
                  obtain ⟨C, hC⟩ := Int.eq_ofNat_of_zero_le e3a
                  obtain ⟨D, hD⟩ := Int.eq_ofNat_of_zero_le e4a
                  rw [hA] at e1 e1b
                  rw [hB] at e2 e2b
                  rw [hC] at e3 e3b
                  rw [hD] at e4 e4b
                  have hAn : A < n := by omega
                  have hBn : B < n := by omega
                  have hCn : C < n := by omega
                  have hDn : D < n := by omega
                  obtain ⟨da, sa, ma, r4, q4⟩ := (HC.out.ext hd3.ext).read HT.out HN.out.symm hAn
                  obtain ⟨db, sb, mb, r5, q5⟩ := (HC.out.ext hd3.ext).read HT.out HN.out.symm hCn
                  obtain ⟨e5, -, -⟩ := q4 B hBn
                  obtain ⟨e6, -, -⟩ := q5 D hDn
                  have hlaw : ent t A B = ent t C D := by
                    have := HM.out x (by rw [← HN.out]; exact hxl) y (by rw [← HN.out]; exact hyl) z (by rw [← HN.out]; exact hzl) u (by rw [← HN.out]; exact hul)
                    rwa [hA, hB, hC, hD] at this
                  rw [← hlaw] at e6
                  have HD3 := Lib.hid hd3
                  clear q1 q2 q3 q4 q5 hA hB hC hD hlaw e1a e2a e3a e4a hd3
                  go_wp2
                  go_quiet (fail)
                  go_wp2
                  go_roundw
                  case rel => exact ⟨u + 1, by omega, by go_num, HD3.out.drewN _⟩
                  case measure => simp [intOf]; omega
end Go.Proofs.Ytbfhecckapgpnaa
