/-
  Contract of l03Refine: finer colours.
-/
import Derived.Test.YthlafeefjonkdaaGreatDoorJx12
namespace Go.Proofs.YthlafeefjonkdaaGreatDoor
set_option linter.unusedVariables false
set_option linter.unusedSimpArgs false
open Go.RowKit
attribute [local go_sem ↓] Go.wp_at_zero Go.wp_at_succ

def SamTo (a b : List Int) (k : Nat) : Prop := ∀ i, i < k → ix a i = ix b i

theorem same_dr (l m : List Int) (v u : Value) (w : World) (hv : Ints w v l) (hu : Ints w u m) :
    Calls Tryz.prog 111 #[v, u] w fun e w' => e = .returned (.bool (eqIB l m)) ∧ Drawn w w' := by
  obtain ⟨hlen, b, o, c, rfl, hc⟩ := hv
  obtain ⟨hlen2, b2, o2, c2, rfl, hc2⟩ := hu
  by_cases hl : l.length = m.length
  case neg =>
    have hb : ((l.length : Int) != (m.length : Int)) = true := by simp; omega
    go_enter Tryz.func111, Tryz.ntmps111
    go_wp2
    go_ret
    exact ⟨ret_bool (eqIB_no (fun e => hl (by rw [e]))).symm, Drawn.refl _⟩
  case pos =>
    rw [← hl]
    have Hl := Lib.hid hl
    clear hl
    go_enter Tryz.func111, Tryz.ntmps111
    go_wp2
    go_loopw [5] (fun i wr => ∃ k : Nat, k ≤ l.length ∧ i = .int .i64 k ∧ SamTo l m k ∧ Drawn w wr) (fun i _ => l.length - (intOf i).toNat)
    case atStart => exact ⟨0, Nat.zero_le _, rfl, fun i hi => by omega, Drawn.refl _⟩
    case round =>
      obtain ⟨k, hk, rfl, hto, hx⟩ := hrel
      have HTO := Lib.hid hto
      clear hto
      by_cases hlt : k < l.length
      · have e1 := hc.ext hx.ext k hlt
        have e2 := hc2.ext hx.ext k (by have := Hl.out; omega)
        cases he : (ix l k != ix m k) with
        | true =>
          go_wp2
          go_quiet (fail)
          go_wp2
          go_ret
          exact ⟨ret_bool (eqIB_no (fun e => by rw [e] at he; simp at he)).symm, hx.drewN _⟩
        | false =>
          go_wp2
          go_quiet (fail)
          go_wp2
          go_roundw
          case rel => exact ⟨k + 1, by omega, by go_num, fun i hi => by
            by_cases e : i = k
            · rw [e]; simpa using he
            · exact HTO.out i (by omega), hx.drewN _⟩
          case measure => simp [intOf]; omega
      · go_wp2
        go_ret
        exact ⟨ret_bool (eqIB_yes (ix_ext Hl.out (fun i hi => HTO.out i (by omega)))).symm, hx⟩

theorem growI_setFar {e base : Nat} {w : World} {v : Value} {l : List Int} (h : GrowI e base w v l) {a : Addr} (hne : v.ownBlock ≠ some a.block) (u : Value) : GrowI e base (w.setCell a u) v l := by
  refine ⟨h.1, ?_⟩
  rcases h.2 with hn | ⟨g, cap, cur, rfl, hb, hg, rest⟩
  · exact .inl hn
  · exact .inr ⟨g, cap, cur, rfl, hb, by rw [Below.heap_setCell _ _ _ _ (fun e => hne (by simp [Value.ownBlock, e]))]; exact hg, rest⟩
theorem ints_take {w : World} {b n : Nat} {l : List Int} (h : IntsAt w b 0 l) (hn : n ≤ l.length) (hs : n ≤ 1048576) (c : Nat) : Ints w (.slice (some ⟨b, 0, none⟩) n c) (l.take n) := by
  have e : (l.take n).length = n := by rw [List.length_take]; omega
  refine ⟨by rw [e]; exact hs, b, 0, c, by rw [e], fun i hi => ?_⟩
  rw [ix_take (by omega)]
  exact h i (by omega)
theorem ints_drop {w : World} {b n m : Nat} {l : List Int} (h : IntsAt w b 0 l) (hm : m = l.length - n) (hs : l.length ≤ 1048576) (c : Nat) : Ints w (.slice (some ⟨b, n, none⟩) m c) (l.drop n) := by
  have e : (l.drop n).length = m := by rw [List.length_drop]; exact hm.symm
  refine ⟨by rw [List.length_drop]; omega, b, n, c, by rw [e], fun i hi => ?_⟩
  rw [ix_drop]
  rw [List.length_drop] at hi
  have := h (n + i) (by omega)
  rwa [Nat.zero_add] at this

def RefPost (n : Nat) (az bz : List (List (List Int))) (c0 d0 : List Int) (w : World) (e : Ending) (w' : World) : Prop :=
  ∃ v1 v2 ok, e = .returned (.tuple #[v1, v2, .bool ok]) ∧ Ext w w' ∧
    (ok = true → ∃ l r b1 o1 c1 b2 o2 c2, v1 = .slice (some ⟨b1, o1, none⟩) n c1 ∧ v2 = .slice (some ⟨b2, o2, none⟩) n c2 ∧ (w.heap.size ≤ b1 ∧ b1 < w'.heap.size ∧ w.heap.size ≤ b2 ∧ b2 < w'.heap.size) ∧ IntsAt w' b1 o1 l ∧ IntsAt w' b2 o2 r ∧ ColOk n l ∧ ColOk n r ∧ ∀ p, IsoOk n az bz p → Resp n c0 d0 p → Resp n l r p) ∧
    (ok = false → ∀ p, IsoOk n az bz p → ¬ Resp n c0 d0 p)
def Keeps (n : Nat) (az bz : List (List (List Int))) (c0 d0 l r : List Int) : Prop := ∀ p, IsoOk n az bz p → Resp n c0 d0 p → Resp n l r p
theorem ownsRow_base {w : World} {base base' n size : Nat} {e : TypeId} {v : Value} {xs : List Value} (h : w.ownsRow base e size v n xs) (hb : base' ≤ base) : w.ownsRow base' e size v n xs := by
  refine ⟨h.1, ?_⟩
  rcases h.2 with hn | ⟨g, cap, cur, rfl, h1, rest⟩
  · exact .inl hn
  · exact .inr ⟨g, cap, cur, rfl, by omega, rest⟩
theorem ownsRow_len {w : World} {base n m size : Nat} {e : TypeId} {v : Value} {xs : List Value} (h : w.ownsRow base e size v n xs) (hn : n = m) : w.ownsRow base e size v m xs := hn ▸ h
theorem ownsRow_lit {w : World} {base : Nat} {e : TypeId} (hb : base ≤ w.heap.size) : (w.alloc (.cells #[] e)).ownsRow base e 1 (.slice (some ⟨w.heap.size, 0, none⟩) 0 0) 0 [] :=
  World.ownsRow_made w #[] 0 hb (Nat.zero_le _) rfl
theorem ownsRow_parts {w : World} {base n : Nat} {e : TypeId} {v : Value} {xs : List Value} (h : w.ownsRow base e 1 v n xs) (hv : v ≠ .slice none 0 0) :
    ∃ g cap, v = .slice (some ⟨g, 0, none⟩) n cap ∧ n ≤ cap ∧ base ≤ g ∧ g < w.heap.size ∧ ∀ i x, xs[i]? = some x → w.cell? ⟨g, i, none⟩ = some x := by
  rcases id h.2 with ⟨rfl, _⟩ | ⟨g, cap, cur, rfl, hb, hg, hnc, _⟩
  · exact absurd rfl hv
  · refine ⟨g, cap, rfl, hnc, hb, (h.lt g rfl).2, fun i x hi => ?_⟩
    have := h.cells (g := g) rfl i x hi
    rwa [Addr.add_lit, Nat.zero_add] at this

set_option maxRecDepth 1000000 in
set_option maxHeartbeats 8000000 in
theorem l03Refine_any (az bz : List (List (List Int))) (c0 d0 : List Int) (v u y z : Value) (n : Nat) (w : World) (hv : Tabs w v az) (hu : Tabs w u bz) (hy : Ints w y c0) (hz : Ints w z d0) (hA : TabsOk n az) (hB : TabsOk n bz) (hab : az.length = bz.length) (hc0 : ColOk n c0) (hd0 : ColOk n d0) (h1 : 1 ≤ n) (h12 : n ≤ 12) (hts : az.length ≤ 2) :
    Calls Tryz.prog 77 #[v, u, y, z] w (RefPost n az bz c0 d0 w) := by
  have htsb : bz.length ≤ 2 := by omega
  have HA := Lib.hid hA
  have HB := Lib.hid hB
  have HAB := Lib.hid hab
  obtain ⟨-, ty, oy, cy, rfl, -⟩ := id hy
  obtain ⟨-, tz, oz, cz, rfl, -⟩ := id hz
  have hcl := hc0.1
  rw [hcl]
  rw [hcl] at hy
  have hdl := hd0.1
  rw [hdl]
  rw [hdl] at hz
  have HC0 := Lib.hid hc0
  have HD0 := Lib.hid hd0
  clear hA hB hab hc0 hd0 hcl hdl
  go_enter Tryz.func77, Tryz.ntmps77
  go_wp2_with fail
  go_loopw [2, 3, 12] (fun vl vr num wr => ∃ (l r : List Int) (nm : Nat), nm ≤ 2 * n ∧ num = .int .i64 nm ∧ Ints wr vl l ∧ Ints wr vr r ∧ ColOk n l ∧ ColOk n r ∧ Used n nm l r ∧ Keeps n az bz c0 d0 l r ∧ Ext w wr) (fun _ _ num _ => 2 * n - (intOf num).toNat)
  case atStart => exact ⟨c0, d0, 0, Nat.zero_le _, rfl, hy, hz, HC0.out, HD0.out, Used.zero _ _ _, fun p _ h => h, Ext.refl _⟩
  case round =>
    clear hy hz HC0 HD0
    obtain ⟨l, r, nm, hnm, rfl, hl, hr, hcl, hcr, hus, hke, hX⟩ := hrel
    have HCL := Lib.hid hcl
    have HCR := Lib.hid hcr
    have HUS := Lib.hid hus
    have HKE := Lib.hid hke
    clear hcl hcr hus hke
    obtain ⟨wk, rfl⟩ : ∃ wk : World, wk = wr := ⟨_, rfl⟩
    go_wp2_with fail
    have hxm : Ext wk (wk.alloc (.cells #[] 29)) := (Ext.refl _).alloc _
    have hm0 := GrowT.lit (e := 29) (base := wk.heap.size) (w := wk) (Nat.le_refl _)
    go_loopw [13, 14] (fun v i wr => ∃ x : Nat, x ≤ n ∧ i = .int .i64 x ∧ GrowT 29 wk.heap.size wr v (marksTo az bz l r n az.length (x)) ∧ v ≠ .slice none 0 0 ∧ Ext wk wr) (fun _ i _ => n - (intOf i).toNat)
    case atStart => exact ⟨0, Nat.zero_le _, rfl, by rw [marksTo_zero]; exact hm0, by simp, hxm⟩
    case round =>
      clear hm0 hxm
      obtain ⟨x, hx, rfl, hg, hv', hx2⟩ := hrel
      have HV := Lib.hid hv'
      clear hv'
      by_cases hxl : x < n
      case pos =>
        have HLT := Lib.hid hg.lt
        have HLEN := Lib.hid (length_marksTo az bz l r n az.length (x) (by omega))
        go_wp2_with fail
        refine (l03Mark_any az l _ _ n x _ (hv.ext (hX.trans hx2)) (hl.ext hx2) HA.out HCL.out.1 HCL.out.2 h1 h12 hxl hts).mono ?_
        rintro e w1 ⟨br, cr, rfl, a1, a2, a3, hx1⟩
        have hg1 := hg.ext hx1
        have hne : some br ≠ (Value.ownBlock _) := fun e => by have := HLT.out br e.symm; omega
        have z1 := hx1.size
        have z2 := hx2.size
        have HML := Lib.hid (length_markL az l n x az.length)
        have hmm := Nat.mul_le_mul hts (show 2 * n ≤ 24 by omega)
        have HMM := Lib.hid hmm
        clear hg hmm
        go_wp2_with (at_builtin; refine wpList_append_row rfl _ _ 24 29 rfl Tryz.underlying24 infoSl wk.heap.size _ _ rfl (hg1.ext (ext_box _ _ _)) _ br cr (markL az l n x az.length) rfl (cell_new _ _ _) (a1.ext (ext_box _ _ _)) (by rw [HML.out]; have := HMM.out; omega) hne (by rw [HLEN.out]; omega) (by simp; omega) ?_)
        intro v' w3 hg3 hgr hv3
        have hx3 : Ext wk w3 := Ext.grown ((hx2.trans hx1).trans (ext_box _ _ _)) hgr (hg1.ext (ext_box _ _ _)).own.choose_spec (Nat.le_refl _)
        clear hgr hne hg1
        go_wp2
        go_roundw
        case rel => exact ⟨x + 1, by omega, by go_num, by
          rw [marksTo_succ _ _ _ _ _ _ _ (by omega), row_marksL1 _ _ _ _ _ _ _ hxl]
      
          exact hg3, hv3, hx3⟩
        case measure => simp [intOf]; omega
      case neg =>
        have hxx : n = x := by omega
        subst hxx
        go_wp2_with fail
        go_loopw [13, 15] (fun v i wr => ∃ x : Nat, x ≤ n ∧ i = .int .i64 x ∧ GrowT 29 wk.heap.size wr v (marksTo az bz l r n az.length (n + x)) ∧ v ≠ .slice none 0 0 ∧ Ext wk wr) (fun _ i _ => n - (intOf i).toNat)
        case atStart => exact ⟨0, Nat.zero_le _, rfl, hg, HV.out, hx2⟩
        case round =>
          clear hg hx2
          obtain ⟨x, hx, rfl, hg, hv', hx2⟩ := hrel
          have HV := Lib.hid hv'
          clear hv'
          by_cases hxl : x < n
          case pos =>
            have HLT := Lib.hid hg.lt
            have HLEN := Lib.hid (length_marksTo az bz l r n az.length (n + x) (by omega))
            go_wp2_with fail
            refine (l03Mark_any bz r _ _ n x _ (hu.ext (hX.trans hx2)) (hr.ext hx2) HB.out HCR.out.1 HCR.out.2 h1 h12 hxl htsb).mono ?_
            rintro e w1 ⟨br, cr, rfl, a1, a2, a3, hx1⟩
            have hg1 := hg.ext hx1
            have hne : some br ≠ (Value.ownBlock _) := fun e => by have := HLT.out br e.symm; omega
            have z1 := hx1.size
            have z2 := hx2.size
            have HML := Lib.hid (length_markL bz r n x bz.length)
            have hmm := Nat.mul_le_mul htsb (show 2 * n ≤ 24 by omega)
            have HMM := Lib.hid hmm
            clear hg hmm
            go_wp2_with (at_builtin; refine wpList_append_row rfl _ _ 24 29 rfl Tryz.underlying24 infoSl wk.heap.size _ _ rfl (hg1.ext (ext_box _ _ _)) _ br cr (markL bz r n x bz.length) rfl (cell_new _ _ _) (a1.ext (ext_box _ _ _)) (by rw [HML.out]; have := HMM.out; omega) hne (by rw [HLEN.out]; omega) (by simp; omega) ?_)
            intro v' w3 hg3 hgr hv3
            have hx3 : Ext wk w3 := Ext.grown ((hx2.trans hx1).trans (ext_box _ _ _)) hgr (hg1.ext (ext_box _ _ _)).own.choose_spec (Nat.le_refl _)
            clear hgr hne hg1
            go_wp2
            go_roundw
            case rel => exact ⟨x + 1, by omega, by go_num, by
              rw [show n + (x + 1) = n + x + 1 by omega, marksTo_succ _ _ _ _ _ _ _ (by omega), row_marksL2 _ _ _ _ _ _ _ hxl]
              rw [← HAB.out] at hg3
              exact hg3, hv3, hx3⟩
            case measure => simp [intOf]; omega
          case neg =>
            have hxx : n = x := by omega
            subst hxx
            rw [show n + n = 2 * n by omega, marksTo_all] at hg
            have hN24 : 2 * n ≤ 24 := by omega
            have hMl := length_marksL az bz l r n az.length
            have HMR := Lib.hid (fun i hi => length_row_marksL az bz l r n az.length i hi)
            have HMT := Lib.hid (fun i hi => marksTo_succ az bz l r n az.length i hi)
            have HM0 := Lib.hid (marksTo_zero az bz l r n az.length)
            have HMA := Lib.hid (marksTo_all az bz l r n az.length)
            obtain ⟨M, hM⟩ : ∃ M, M = marksL az bz l r n az.length := ⟨_, rfl⟩
            rw [← hM] at hg hMl HMR HMT HMA
            have HM := Lib.hid hM
            obtain ⟨N, hN⟩ : ∃ N, N = 2 * n := ⟨_, rfl⟩
            rw [← hN] at hMl HMR HMT HMA hN24 hnm
            have hmr := hg.rows (by rw [hMl]; omega) HV.out
            obtain ⟨-, mb, mo, mc, rfl, hmr⟩ := hmr
            rw [hMl]
            have HML := Lib.hid hMl
            have HN := Lib.hid hN
            have hN2 : 2 ≤ N := by omega
            clear hM hMl hN hg HV
            obtain ⟨w4, rfl⟩ : ∃ w4 : World, w4 = wr := ⟨_, rfl⟩
            go_wp2_with fail
            have hxk : Ext w4 (w4.alloc (.cells #[] 29)) := (Ext.refl _).alloc _
            have hk0 := GrowX.lit (e := 29) (base := w4.heap.size) (w := w4) (Nat.le_refl _)
            go_loopw [16, 17] (fun v i wr => ∃ q : Nat, q ≤ N ∧ i = .int .i64 q ∧ ∃ Kd : List (List Int), Kinds (marksTo az bz l r n az.length q) Kd ∧ GrowX 29 w4.heap.size wr v Kd ∧ v ≠ .slice none 0 0 ∧ Ext w4 wr) (fun _ i _ => N - (intOf i).toNat)
            case atStart => exact ⟨0, Nat.zero_le _, rfl, [], by rw [HM0.out]; exact Kinds.nil, hk0, by simp, hxk⟩
            case round =>
              clear hxk hk0
              obtain ⟨q, hq, rfl, Kd, hkd, hgk, hvk, hx4⟩ := hrel
              have HKD := Lib.hid hkd
              have HVK := Lib.hid hvk
              have hKl := hkd.le
              rw [length_marksTo _ _ _ _ _ _ _ (by rw [← HN.out]; exact hq)] at hKl
              clear hkd hvk
              by_cases hql : q < N
              case pos =>
                obtain ⟨g, cap, xs, rfl, hcap, hgb, hgs, hxs, hcells, hown⟩ := hgk.parts HVK.out
                have HXS := Lib.hid hxs
                have HCL2 := Lib.hid hcells
                have HXL := Lib.hid hxs.1
                have HMQ := Lib.hid (HMT.out q hql)
                obtain ⟨b1, o1, c1, m1, m2, m3⟩ := (hmr.ext hx4).get (i := q) (by rw [HML.out]; exact hql)
                have HI1 := Lib.hid (m2.ints m3 c1)
                have HGK := Lib.hid hgk
                clear hxs hcells hgk m2 hown
                obtain ⟨wi, rfl⟩ : ∃ wi : World, wi = wr := ⟨_, rfl⟩
                go_wp2_with fail
                go_loopw [18] (fun v wr => ∃ a : Nat, a ≤ Kd.length ∧ v = .int .i64 a ∧ (∀ j, j < a → row Kd j < row M q) ∧ Drawn wi wr) (fun v _ => Kd.length - (intOf v).toNat)
                case atStart => exact ⟨0, Nat.zero_le _, rfl, fun j hj => by omega, Drawn.refl _⟩
                case round =>
                  obtain ⟨a, ha, rfl, hlt, hd⟩ := hrel
                  have HLT := Lib.hid hlt
                  clear hlt
                  have m4 := hd.ext.cell m1
                  by_cases hal : a < Kd.length
                  case pos =>
                    obtain ⟨xa, k1, k2⟩ := HXS.out.2 a hal
                    obtain ⟨-, b3, o3, c3, rfl, k3⟩ := id k2
                    have k4 := hd.ext.cell (HCL2.out a _ k1)
                    have HI2 := Lib.hid (k2.ext hd.ext)
                    have HI3 := Lib.hid (HI1.out.ext hd.ext)
                    clear k1 k2 k3
                    have hd0 : decide ((a : Int) < (Kd.length : Int)) = true := decide_eq_true (by omega)
                    cases hle : lessB (row Kd a) (row M q) with
                    | true =>
                      have HLE := Lib.hid (lessB_iff.1 hle)
                      go_wp2_with fail
                      go_quiet ((go_at_call 110; exact Calls.quiet_of ((l01Less_any _ _ _ _ _ (HI2.out.ext ((Ext.refl _).drewN _)) (HI3.out.ext ((Ext.refl _).drewN _))).mono fun _ _ ⟨h1, h2⟩ => ⟨by rw [hle] at h1; exact h1, h2⟩)))
                      go_wp2
                      go_roundw
                      case rel => exact ⟨a + 1, by omega, by go_num, all_succ HLT.out HLE.out, hd.drewN _⟩
                      case measure => simp [intOf]; omega
                    | false =>
                      have HLE := Lib.hid (lessB_no.1 hle)
                      go_wp2_with fail
                      go_cut [73] (fun p wx => p = .bool false ∧ Drawn wr wx)
                      case first =>
                        go_quiet ((go_at_call 110; exact Calls.quiet_of ((l01Less_any _ _ _ _ _ (HI2.out.ext ((Ext.refl _).drewN _)) (HI3.out.ext ((Ext.refl _).drewN _))).mono fun _ _ ⟨h1, h2⟩ => ⟨by rw [hle] at h1; exact h1, h2⟩)))
                        go_wp2_with fail
                        go_meet
                        case rel => exact ⟨rfl, (Drawn.refl _).drewN _⟩
                      obtain ⟨rfl, hd2⟩ := hcut
                      obtain ⟨w8, rfl⟩ : ∃ w8 : World, w8 = wc := ⟨_, rfl⟩
                      have n4 := hd2.ext.cell m4
                      have n5 := hd2.ext.cell k4
                      have HJ2 := Lib.hid (HI2.out.ext hd2.ext)
                      have HJ3 := Lib.hid (HI3.out.ext hd2.ext)
                      clear hle
                      cases hsm : eqIB (row Kd a) (row M q) with
                      | true =>
                        have HSM := Lib.hid (eqIB_iff.1 hsm)
                        go_wp2_with fail
                        go_quiet ((go_at_call 111; exact Calls.quiet_of ((same_dr _ _ _ _ _ (HJ2.out.ext ((Ext.refl _).drewN _)) (HJ3.out.ext ((Ext.refl _).drewN _))).mono fun _ _ ⟨h1, h2⟩ => ⟨by rw [hsm] at h1; exact h1, h2⟩)))
                        go_wp2
                        go_roundw
                        case rel => exact ⟨q + 1, by omega, by go_num, Kd, by rw [HMQ.out]; exact HKD.out.skip hal HSM.out, HGK.out.ext ((hd.trans hd2).drewN _).ext, by simp, hx4.trans ((hd.trans hd2).drewN _).ext⟩
                        case measure => simp [intOf]; omega
                      | false =>
                        have HSM := Lib.hid (show row Kd a ≠ row M q from fun e => by rw [eqIB_yes e] at hsm; cases hsm)
                        have HNE := Lib.hid (show a < Kd.length → ¬ row Kd a < row M q ∧ row Kd a ≠ row M q from fun _ => ⟨HLE.out, HSM.out⟩)
                        go_wp2_with fail
                        go_cut [90] (fun p wx => p = .bool false ∧ Drawn w8 wx)
                        case first =>
                          go_quiet ((go_at_call 111; exact Calls.quiet_of ((same_dr _ _ _ _ _ (HJ2.out.ext ((Ext.refl _).drewN _)) (HJ3.out.ext ((Ext.refl _).drewN _))).mono fun _ _ ⟨h1, h2⟩ => ⟨by rw [hsm] at h1; exact h1, h2⟩)))
                          go_wp2_with fail
                          go_meet
                          case rel => exact ⟨rfl, (Drawn.refl _).drewN _⟩
                        obtain ⟨rfl, hd3⟩ := hcut
                        obtain ⟨ws, rfl⟩ : ∃ ws : World, ws = wc := ⟨_, rfl⟩
                        have hds := (hd.trans hd2).trans hd3
                        clear hd hd2 hd3 m4 k4 n4 n5 hsm hd0
                        go_wp2_with fail
                        have m5 := hds.ext.cell m1
                        have HCE := Lib.hid (fun i x (h : xs[i]? = some x) => hds.ext.cell (HCL2.out i x h))
                        have HXN := Lib.hid ((XS.one HI1.out).append (HXS.out.drop a))
                        have zs := hds.ext.size
                        have z4 := hx4.size
                        by_cases hca : cap = a
                        · have hal2 : a = Kd.length := by omega
                          subst hal2
                          subst hca
                          have HDR := Lib.hid (show xs.drop Kd.length = [] from List.drop_of_length_le (by rw [HXL.out]; omega))
                          go_region_held3 (fun w' => w'.cell? ⟨mb, mo + q, none⟩ = some (.slice (some ⟨b1, o1, none⟩) (row M q).length c1))
                            ((first | (focus ((repeat first | (with_reducible assumption) | (with_reducible refine Ext.cell hx5 ?_) |  (with_reducible exact kc_new) | ((with_reducible refine kc_newE ?_); (simp; done)) | ((with_reducible refine kc_newEa ?_); (simp; done)) | ((with_reducible refine kc_newEb ?_); (simp; done)) | (with_reducible apply kc_alloc) | (with_reducible apply kc_drewN) | (with_reducible apply kc_drew) | ((with_reducible refine kc_set ?_ ?_); (first | (simp only []; omega) | (simp; omega) | (focus (simp; done)))) | ((with_reducible refine kc_set2 ?_ ?_); (focus (simp; done))) | (with_reducible refine kc_same (v := .slice none 0 0) ?_)); done)) | (focus ((repeat first | (with_reducible assumption) |  (with_reducible exact kc_new) | ((with_reducible refine kc_newE ?_); (simp; done)) | ((with_reducible refine kc_newEa ?_); (simp; done)) | ((with_reducible refine kc_newEb ?_); (simp; done)) | (with_reducible apply kc_alloc) | (with_reducible apply kc_drewN) | (with_reducible apply kc_drew) | ((with_reducible refine kc_set ?_ ?_); (first | (simp only []; omega) | (simp; omega) | (focus (simp; done)))) | ((with_reducible refine kc_set2 ?_ ?_); (focus (simp; done))) | (with_reducible refine kc_same (v := .slice none 0 0) ?_)); done))))
                            ((refine step_append_xs (by rfl) _ _ 24 29 (by rfl) Tryz.underlying24 infoSl ws.heap.size _ 1 [.slice (some ⟨b1, o1, none⟩) (row M q).length c1] (by rfl) (ownsRow_one (w := ws.drew) (Nat.le_refl _)) (by simp) g 0 _ 0 (xs.drop Kd.length) (by rw [List.length_drop, HXL.out] <;> omega) (by rfl) (fun i x hi => by rw [HDR.out] at hi; simp at hi) (fun u hu => HXS.out.cell u (List.mem_of_mem_drop hu)) (by omega) (by omega) (by simp) ?_; intro v5 w5 hown5 hgr5 hv5; have hx5 : Ext ws w5 := Ext.grown (by (repeat first | (with_reducible exact Ext.refl _) | (with_reducible assumption) | (with_reducible apply Ext.drew) | (with_reducible apply kx_drewN) | (with_reducible apply kx_alloc) | ((with_reducible refine kx_set ?_ ?_); (first | (simp only []; omega) | (simp; omega) | (focus (simp; done)))) )) hgr5 (ownsRow_one (w := ws.drew) (Nat.le_refl _)) (Nat.le_refl _)))
                          obtain ⟨g5, cap5, rfl, hc5, hg5, hs5, hcl5⟩ := ownsRow_parts hown5 hv5
                          have HC5 := Lib.hid hcl5
                          have z5 := hx5.size
                          clear hcl5 hgr5 hown5
                          go_wp2_with (at_builtin; refine wpList_append_xs rfl _ _ 24 29 rfl Tryz.underlying24 infoSl w5.heap.size (.slice (some ⟨w5.heap.size, 0, none⟩) 0 0) 0 [] rfl (ownsRow_lit (Nat.le_refl _)) (by simp) g 0 Kd.length Kd.length (xs.take Kd.length) (by rw [List.length_take, HXL.out]; omega) rfl (fun i x hi => by rw [Nat.zero_add]; have hi2 : xs[i]? = some x := (by rw [List.getElem?_take] at hi; split at hi <;> first | exact hi | cases hi); exact ((Ext.refl w5).alloc _).cell (hx5.cell (HCE.out i x hi2))) (fun u hu => HXS.out.cell u (List.mem_of_mem_take hu)) (by omega) (by omega) (by simp) ?_)
                          intro v6 w6 hown6 hgr6 hv6
                          have hx6 : Ext w5 w6 := Ext.grown ((Ext.refl w5).alloc _) hgr6 (ownsRow_lit (Nat.le_refl _)) (Nat.le_refl _)
                          have z6 := hx6.size
                          clear hgr6
                          go_wp2_with (at_builtin; refine wpList_append_xs rfl _ _ 24 29 rfl Tryz.underlying24 infoSl w5.heap.size v6 _ _ rfl hown6 hv6 g5 0 cap5 _ ([.slice (some ⟨b1, o1, none⟩) (row M q).length c1] ++ xs.drop Kd.length) (by rw [List.length_append, List.length_drop, HXL.out] <;> first | (simp; done) | (simp; omega)) rfl (fun i x hi => by rw [Nat.zero_add]; exact hx6.cell (HC5.out i x hi)) (fun u hu => (HXN.out).cell u hu) (by omega) (by omega) (by omega) ?_)
                          intro v7 w7 hown7 hgr7 hv7
                          have hx7 : Ext w5 w7 := Ext.grown hx6 hgr7 hown6 (Nat.le_refl _)
                          have HO7 := Lib.hid hown7
                          clear hgr7 hown7 hown6 hv6
                          go_wp2
                          go_roundw
                          case rel => exact ⟨q + 1, by omega, by go_num, Kd.take Kd.length ++ ([row M q] ++ Kd.drop Kd.length), by rw [HMQ.out]; exact HKD.out.insert (by omega) HLT.out HNE.out, ⟨_, ownsRow_len (ownsRow_base HO7.out (by omega)) (by first | (simp; done) | (simp; omega)), by
                            have := (HXS.out.take Kd.length).append HXN.out
                            exact this.ext ((hds.ext.trans hx5).trans hx7)⟩, hv7, ((hx4.trans hds.ext).trans hx5).trans hx7⟩
                          case measure => simp [intOf]; omega
                        · go_region_held3 (fun w' => w'.cell? ⟨mb, mo + q, none⟩ = some (.slice (some ⟨b1, o1, none⟩) (row M q).length c1))
                            ((first | (focus ((repeat first | (with_reducible assumption) | (with_reducible refine Ext.cell hx5 ?_) |  (with_reducible exact kc_new) | ((with_reducible refine kc_newE ?_); (simp; done)) | ((with_reducible refine kc_newEa ?_); (simp; done)) | ((with_reducible refine kc_newEb ?_); (simp; done)) | (with_reducible apply kc_alloc) | (with_reducible apply kc_drewN) | (with_reducible apply kc_drew) | ((with_reducible refine kc_set ?_ ?_); (first | (simp only []; omega) | (simp; omega) | (focus (simp; done)))) | ((with_reducible refine kc_set2 ?_ ?_); (focus (simp; done))) | (with_reducible refine kc_same (v := .slice none 0 0) ?_)); done)) | (focus ((repeat first | (with_reducible assumption) |  (with_reducible exact kc_new) | ((with_reducible refine kc_newE ?_); (simp; done)) | ((with_reducible refine kc_newEa ?_); (simp; done)) | ((with_reducible refine kc_newEb ?_); (simp; done)) | (with_reducible apply kc_alloc) | (with_reducible apply kc_drewN) | (with_reducible apply kc_drew) | ((with_reducible refine kc_set ?_ ?_); (first | (simp only []; omega) | (simp; omega) | (focus (simp; done)))) | ((with_reducible refine kc_set2 ?_ ?_); (focus (simp; done))) | (with_reducible refine kc_same (v := .slice none 0 0) ?_)); done))))
                            ((refine step_append_xs (by rfl) _ _ 24 29 (by rfl) Tryz.underlying24 infoSl ws.heap.size _ 1 [.slice (some ⟨b1, o1, none⟩) (row M q).length c1] (by rfl) (ownsRow_one (w := ws.drew) (Nat.le_refl _)) (by simp) g a _ (Kd.length - a) (xs.drop a) (by rw [List.length_drop, HXL.out] <;> omega) (by rfl) (fun i x hi => by rw [List.getElem?_drop] at hi; exact (show Ext ws _ by (repeat first | (with_reducible exact Ext.refl _) | (with_reducible assumption) | (with_reducible apply Ext.drew) | (with_reducible apply kx_drewN) | (with_reducible apply kx_alloc) | ((with_reducible refine kx_set ?_ ?_); (first | (simp only []; omega) | (simp; omega) | (focus (simp; done)))) )).cell (HCE.out _ _ hi)) (fun u hu => HXS.out.cell u (List.mem_of_mem_drop hu)) (by omega) (by omega) (by simp) ?_; intro v5 w5 hown5 hgr5 hv5; have hx5 : Ext ws w5 := Ext.grown (by (repeat first | (with_reducible exact Ext.refl _) | (with_reducible assumption) | (with_reducible apply Ext.drew) | (with_reducible apply kx_drewN) | (with_reducible apply kx_alloc) | ((with_reducible refine kx_set ?_ ?_); (first | (simp only []; omega) | (simp; omega) | (focus (simp; done)))) )) hgr5 (ownsRow_one (w := ws.drew) (Nat.le_refl _)) (Nat.le_refl _)))
                          obtain ⟨g5, cap5, rfl, hc5, hg5, hs5, hcl5⟩ := ownsRow_parts hown5 hv5
                          have HC5 := Lib.hid hcl5
                          have z5 := hx5.size
                          clear hcl5 hgr5 hown5
                          go_wp2_with (at_builtin; refine wpList_append_xs rfl _ _ 24 29 rfl Tryz.underlying24 infoSl w5.heap.size (.slice (some ⟨w5.heap.size, 0, none⟩) 0 0) 0 [] rfl (ownsRow_lit (Nat.le_refl _)) (by simp) g 0 cap a (xs.take a) (by rw [List.length_take, HXL.out]; omega) rfl (fun i x hi => by rw [Nat.zero_add]; have hi2 : xs[i]? = some x := (by rw [List.getElem?_take] at hi; split at hi <;> first | exact hi | cases hi); exact ((Ext.refl w5).alloc _).cell (hx5.cell (HCE.out i x hi2))) (fun u hu => HXS.out.cell u (List.mem_of_mem_take hu)) (by omega) (by omega) (by simp) ?_)
                          intro v6 w6 hown6 hgr6 hv6
                          have hx6 : Ext w5 w6 := Ext.grown ((Ext.refl w5).alloc _) hgr6 (ownsRow_lit (Nat.le_refl _)) (Nat.le_refl _)
                          have z6 := hx6.size
                          clear hgr6
                          go_wp2_with (at_builtin; refine wpList_append_xs rfl _ _ 24 29 rfl Tryz.underlying24 infoSl w5.heap.size v6 _ _ rfl hown6 hv6 g5 0 cap5 _ ([.slice (some ⟨b1, o1, none⟩) (row M q).length c1] ++ xs.drop a) (by rw [List.length_append, List.length_drop, HXL.out] <;> first | (simp; done) | (simp; omega)) rfl (fun i x hi => by rw [Nat.zero_add]; exact hx6.cell (HC5.out i x hi)) (fun u hu => (HXN.out).cell u hu) (by omega) (by omega) (by omega) ?_)
                          intro v7 w7 hown7 hgr7 hv7
                          have hx7 : Ext w5 w7 := Ext.grown hx6 hgr7 hown6 (Nat.le_refl _)
                          have HO7 := Lib.hid hown7
                          clear hgr7 hown7 hown6 hv6
                          go_wp2
                          go_roundw
                          case rel => exact ⟨q + 1, by omega, by go_num, Kd.take a ++ ([row M q] ++ Kd.drop a), by rw [HMQ.out]; exact HKD.out.insert (by omega) HLT.out HNE.out, ⟨_, ownsRow_len (ownsRow_base HO7.out (by omega)) (by first | (simp; done) | (simp; omega)), by
                            have := (HXS.out.take a).append HXN.out
                            exact this.ext ((hds.ext.trans hx5).trans hx7)⟩, hv7, ((hx4.trans hds.ext).trans hx5).trans hx7⟩
                          case measure => simp [intOf]; omega
                  case neg =>
                    have hal2 : a = Kd.length := by omega
                    have hd0 : decide ((a : Int) < (Kd.length : Int)) = false := decide_eq_false (by omega)
                    have HNE := Lib.hid (show a < Kd.length → ¬ row Kd a < row M q ∧ row Kd a ≠ row M q from fun h => by omega)
                    have hal3 : ¬ (a : Int) < (Kd.length : Int) := by omega
                    have HA2 := Lib.hid hal2
                    clear hal2
                    go_wp2_with fail
                    go_cut [73] (fun p wx => p = .bool false ∧ Drawn wr wx)
                    case first =>
                      go_quiet (fail)
                      go_wp2_with fail
                      go_meet
                      case rel => exact ⟨rfl, (Drawn.refl _).drewN _⟩
                    obtain ⟨rfl, hd2⟩ := hcut
                    obtain ⟨w8, rfl⟩ : ∃ w8 : World, w8 = wc := ⟨_, rfl⟩
                    go_wp2_with fail
                    go_cut [90] (fun p wx => p = .bool false ∧ Drawn w8 wx)
                    case first =>
                      go_quiet (fail)
                      go_wp2_with fail
                      go_meet
                      case rel => exact ⟨rfl, (Drawn.refl _).drewN _⟩
                    obtain ⟨rfl, hd3⟩ := hcut
                    obtain ⟨ws, rfl⟩ : ∃ ws : World, ws = wc := ⟨_, rfl⟩
                    have hds := (hd.trans hd2).trans hd3
                    clear hd hd2 hd3 m4 hd0
                    go_wp2_with fail
                    have m5 := hds.ext.cell m1
                    have HCE := Lib.hid (fun i x (h : xs[i]? = some x) => hds.ext.cell (HCL2.out i x h))
                    have HXN := Lib.hid ((XS.one HI1.out).append (HXS.out.drop a))
                    have zs := hds.ext.size
                    have z4 := hx4.size
                    by_cases hca : cap = a
                    · have hal2 : a = Kd.length := by omega
                      subst hal2
                      subst hca
                      have HDR := Lib.hid (show xs.drop Kd.length = [] from List.drop_of_length_le (by rw [HXL.out]; omega))
                      go_region_held3 (fun w' => w'.cell? ⟨mb, mo + q, none⟩ = some (.slice (some ⟨b1, o1, none⟩) (row M q).length c1))
                        ((first | (focus ((repeat first | (with_reducible assumption) | (with_reducible refine Ext.cell hx5 ?_) |  (with_reducible exact kc_new) | ((with_reducible refine kc_newE ?_); (simp; done)) | ((with_reducible refine kc_newEa ?_); (simp; done)) | ((with_reducible refine kc_newEb ?_); (simp; done)) | (with_reducible apply kc_alloc) | (with_reducible apply kc_drewN) | (with_reducible apply kc_drew) | ((with_reducible refine kc_set ?_ ?_); (first | (simp only []; omega) | (simp; omega) | (focus (simp; done)))) | ((with_reducible refine kc_set2 ?_ ?_); (focus (simp; done))) | (with_reducible refine kc_same (v := .slice none 0 0) ?_)); done)) | (focus ((repeat first | (with_reducible assumption) |  (with_reducible exact kc_new) | ((with_reducible refine kc_newE ?_); (simp; done)) | ((with_reducible refine kc_newEa ?_); (simp; done)) | ((with_reducible refine kc_newEb ?_); (simp; done)) | (with_reducible apply kc_alloc) | (with_reducible apply kc_drewN) | (with_reducible apply kc_drew) | ((with_reducible refine kc_set ?_ ?_); (first | (simp only []; omega) | (simp; omega) | (focus (simp; done)))) | ((with_reducible refine kc_set2 ?_ ?_); (focus (simp; done))) | (with_reducible refine kc_same (v := .slice none 0 0) ?_)); done))))
                        ((refine step_append_xs (by rfl) _ _ 24 29 (by rfl) Tryz.underlying24 infoSl ws.heap.size _ 1 [.slice (some ⟨b1, o1, none⟩) (row M q).length c1] (by rfl) (ownsRow_one (w := ws.drew) (Nat.le_refl _)) (by simp) g 0 _ 0 (xs.drop Kd.length) (by rw [List.length_drop, HXL.out] <;> omega) (by rfl) (fun i x hi => by rw [HDR.out] at hi; simp at hi) (fun u hu => HXS.out.cell u (List.mem_of_mem_drop hu)) (by omega) (by omega) (by simp) ?_; intro v5 w5 hown5 hgr5 hv5; have hx5 : Ext ws w5 := Ext.grown (by (repeat first | (with_reducible exact Ext.refl _) | (with_reducible assumption) | (with_reducible apply Ext.drew) | (with_reducible apply kx_drewN) | (with_reducible apply kx_alloc) | ((with_reducible refine kx_set ?_ ?_); (first | (simp only []; omega) | (simp; omega) | (focus (simp; done)))) )) hgr5 (ownsRow_one (w := ws.drew) (Nat.le_refl _)) (Nat.le_refl _)))
                      obtain ⟨g5, cap5, rfl, hc5, hg5, hs5, hcl5⟩ := ownsRow_parts hown5 hv5
                      have HC5 := Lib.hid hcl5
                      have z5 := hx5.size
                      clear hcl5 hgr5 hown5
                      go_wp2_with (at_builtin; refine wpList_append_xs rfl _ _ 24 29 rfl Tryz.underlying24 infoSl w5.heap.size (.slice (some ⟨w5.heap.size, 0, none⟩) 0 0) 0 [] rfl (ownsRow_lit (Nat.le_refl _)) (by simp) g 0 Kd.length Kd.length (xs.take Kd.length) (by rw [List.length_take, HXL.out]; omega) rfl (fun i x hi => by rw [Nat.zero_add]; have hi2 : xs[i]? = some x := (by rw [List.getElem?_take] at hi; split at hi <;> first | exact hi | cases hi); exact ((Ext.refl w5).alloc _).cell (hx5.cell (HCE.out i x hi2))) (fun u hu => HXS.out.cell u (List.mem_of_mem_take hu)) (by omega) (by omega) (by simp) ?_)
                      intro v6 w6 hown6 hgr6 hv6
                      have hx6 : Ext w5 w6 := Ext.grown ((Ext.refl w5).alloc _) hgr6 (ownsRow_lit (Nat.le_refl _)) (Nat.le_refl _)
                      have z6 := hx6.size
                      clear hgr6
                      go_wp2_with (at_builtin; refine wpList_append_xs rfl _ _ 24 29 rfl Tryz.underlying24 infoSl w5.heap.size v6 _ _ rfl hown6 hv6 g5 0 cap5 _ ([.slice (some ⟨b1, o1, none⟩) (row M q).length c1] ++ xs.drop Kd.length) (by rw [List.length_append, List.length_drop, HXL.out] <;> first | (simp; done) | (simp; omega)) rfl (fun i x hi => by rw [Nat.zero_add]; exact hx6.cell (HC5.out i x hi)) (fun u hu => (HXN.out).cell u hu) (by omega) (by omega) (by omega) ?_)
                      intro v7 w7 hown7 hgr7 hv7
                      have hx7 : Ext w5 w7 := Ext.grown hx6 hgr7 hown6 (Nat.le_refl _)
                      have HO7 := Lib.hid hown7
                      clear hgr7 hown7 hown6 hv6
                      go_wp2
                      go_roundw
                      case rel => exact ⟨q + 1, by omega, by go_num, Kd.take Kd.length ++ ([row M q] ++ Kd.drop Kd.length), by rw [HMQ.out]; exact HKD.out.insert (by omega) HLT.out HNE.out, ⟨_, ownsRow_len (ownsRow_base HO7.out (by omega)) (by first | (simp; done) | (simp; omega)), by
                        have := (HXS.out.take Kd.length).append HXN.out
                        exact this.ext ((hds.ext.trans hx5).trans hx7)⟩, hv7, ((hx4.trans hds.ext).trans hx5).trans hx7⟩
                      case measure => simp [intOf]; omega
                    · go_region_held3 (fun w' => w'.cell? ⟨mb, mo + q, none⟩ = some (.slice (some ⟨b1, o1, none⟩) (row M q).length c1))
                        ((first | (focus ((repeat first | (with_reducible assumption) | (with_reducible refine Ext.cell hx5 ?_) |  (with_reducible exact kc_new) | ((with_reducible refine kc_newE ?_); (simp; done)) | ((with_reducible refine kc_newEa ?_); (simp; done)) | ((with_reducible refine kc_newEb ?_); (simp; done)) | (with_reducible apply kc_alloc) | (with_reducible apply kc_drewN) | (with_reducible apply kc_drew) | ((with_reducible refine kc_set ?_ ?_); (first | (simp only []; omega) | (simp; omega) | (focus (simp; done)))) | ((with_reducible refine kc_set2 ?_ ?_); (focus (simp; done))) | (with_reducible refine kc_same (v := .slice none 0 0) ?_)); done)) | (focus ((repeat first | (with_reducible assumption) |  (with_reducible exact kc_new) | ((with_reducible refine kc_newE ?_); (simp; done)) | ((with_reducible refine kc_newEa ?_); (simp; done)) | ((with_reducible refine kc_newEb ?_); (simp; done)) | (with_reducible apply kc_alloc) | (with_reducible apply kc_drewN) | (with_reducible apply kc_drew) | ((with_reducible refine kc_set ?_ ?_); (first | (simp only []; omega) | (simp; omega) | (focus (simp; done)))) | ((with_reducible refine kc_set2 ?_ ?_); (focus (simp; done))) | (with_reducible refine kc_same (v := .slice none 0 0) ?_)); done))))
                        ((refine step_append_xs (by rfl) _ _ 24 29 (by rfl) Tryz.underlying24 infoSl ws.heap.size _ 1 [.slice (some ⟨b1, o1, none⟩) (row M q).length c1] (by rfl) (ownsRow_one (w := ws.drew) (Nat.le_refl _)) (by simp) g a _ (Kd.length - a) (xs.drop a) (by rw [List.length_drop, HXL.out] <;> omega) (by rfl) (fun i x hi => by rw [List.getElem?_drop] at hi; exact (show Ext ws _ by (repeat first | (with_reducible exact Ext.refl _) | (with_reducible assumption) | (with_reducible apply Ext.drew) | (with_reducible apply kx_drewN) | (with_reducible apply kx_alloc) | ((with_reducible refine kx_set ?_ ?_); (first | (simp only []; omega) | (simp; omega) | (focus (simp; done)))) )).cell (HCE.out _ _ hi)) (fun u hu => HXS.out.cell u (List.mem_of_mem_drop hu)) (by omega) (by omega) (by simp) ?_; intro v5 w5 hown5 hgr5 hv5; have hx5 : Ext ws w5 := Ext.grown (by (repeat first | (with_reducible exact Ext.refl _) | (with_reducible assumption) | (with_reducible apply Ext.drew) | (with_reducible apply kx_drewN) | (with_reducible apply kx_alloc) | ((with_reducible refine kx_set ?_ ?_); (first | (simp only []; omega) | (simp; omega) | (focus (simp; done)))) )) hgr5 (ownsRow_one (w := ws.drew) (Nat.le_refl _)) (Nat.le_refl _)))
                      obtain ⟨g5, cap5, rfl, hc5, hg5, hs5, hcl5⟩ := ownsRow_parts hown5 hv5
                      have HC5 := Lib.hid hcl5
                      have z5 := hx5.size
                      clear hcl5 hgr5 hown5
                      go_wp2_with (at_builtin; refine wpList_append_xs rfl _ _ 24 29 rfl Tryz.underlying24 infoSl w5.heap.size (.slice (some ⟨w5.heap.size, 0, none⟩) 0 0) 0 [] rfl (ownsRow_lit (Nat.le_refl _)) (by simp) g 0 cap a (xs.take a) (by rw [List.length_take, HXL.out]; omega) rfl (fun i x hi => by rw [Nat.zero_add]; have hi2 : xs[i]? = some x := (by rw [List.getElem?_take] at hi; split at hi <;> first | exact hi | cases hi); exact ((Ext.refl w5).alloc _).cell (hx5.cell (HCE.out i x hi2))) (fun u hu => HXS.out.cell u (List.mem_of_mem_take hu)) (by omega) (by omega) (by simp) ?_)
                      intro v6 w6 hown6 hgr6 hv6
                      have hx6 : Ext w5 w6 := Ext.grown ((Ext.refl w5).alloc _) hgr6 (ownsRow_lit (Nat.le_refl _)) (Nat.le_refl _)
                      have z6 := hx6.size
                      clear hgr6
                      go_wp2_with (at_builtin; refine wpList_append_xs rfl _ _ 24 29 rfl Tryz.underlying24 infoSl w5.heap.size v6 _ _ rfl hown6 hv6 g5 0 cap5 _ ([.slice (some ⟨b1, o1, none⟩) (row M q).length c1] ++ xs.drop a) (by rw [List.length_append, List.length_drop, HXL.out] <;> first | (simp; done) | (simp; omega)) rfl (fun i x hi => by rw [Nat.zero_add]; exact hx6.cell (HC5.out i x hi)) (fun u hu => (HXN.out).cell u hu) (by omega) (by omega) (by omega) ?_)
                      intro v7 w7 hown7 hgr7 hv7
                      have hx7 : Ext w5 w7 := Ext.grown hx6 hgr7 hown6 (Nat.le_refl _)
                      have HO7 := Lib.hid hown7
                      clear hgr7 hown7 hown6 hv6
                      go_wp2
                      go_roundw
                      case rel => exact ⟨q + 1, by omega, by go_num, Kd.take a ++ ([row M q] ++ Kd.drop a), by rw [HMQ.out]; exact HKD.out.insert (by omega) HLT.out HNE.out, ⟨_, ownsRow_len (ownsRow_base HO7.out (by omega)) (by first | (simp; done) | (simp; omega)), by
                        have := (HXS.out.take a).append HXN.out
                        exact this.ext ((hds.ext.trans hx5).trans hx7)⟩, hv7, ((hx4.trans hds.ext).trans hx5).trans hx7⟩
                      case measure => simp [intOf]; omega
              case neg =>
                have hqq : N = q := by omega
                subst hqq
                have hkm : Kinds M Kd := by have := HKD.out; rw [HMA.out] at this; exact this
                have hmore : nm ≤ Kd.length := HUS.out.more (az := az) (bz := bz) (K := az.length) (by rw [← HM.out]; exact hkm)
                have HKM := Lib.hid hkm
                clear hkm
                obtain ⟨g, cap, xs, rfl, hcap, hgb, hgs, hxs, hcells, hown⟩ := hgk.parts HVK.out
                have HXS := Lib.hid hxs
                have HCL2 := Lib.hid hcells
                clear hxs hcells hown hgk
                obtain ⟨w5, rfl⟩ : ∃ w5 : World, w5 = wr := ⟨_, rfl⟩
                have hmk := run_make_row' (P := Tryz.prog) 29 2 (.int .i64 0) 8 Tryz.underlying29 infoInt rfl .i64 .i64 Kd.length (by omega) (by omega)
                go_wp2_with fail
                clear hmk
                have hr0 := (World.rowIs_made w5 (.int .i64 0) Kd.length 2).alloc (.cells #[] 2)
                have hx0 : Ext w5 ((w5.alloc (.cells (madeCells #[Value.int .i64 0] Kd.length) 2)).alloc (.cells #[] 2)) := ((Ext.refl _).alloc _).alloc _
                have hi0 : GrowI 2 w5.heap.size ((w5.alloc (.cells (madeCells #[Value.int .i64 0] Kd.length) 2)).alloc (.cells #[] 2)) (.slice (some ⟨w5.heap.size + 1, 0, none⟩) 0 0) [] := by
                  have := GrowI.lit (e := 2) (base := w5.heap.size) (w := w5.alloc (.cells (madeCells #[Value.int .i64 0] Kd.length) 2)) (by simp)
                  simpa using this
                have HCC := Lib.hid (length_colsL M Kd N)
                go_loopw [21, 22] (fun v i wr => ∃ q : Nat, q ≤ N ∧ i = .int .i64 q ∧ GrowI 2 w5.heap.size wr v ((colsL M Kd N).take q) ∧ v ≠ .slice none 0 0 ∧ v.ownBlock ≠ some w5.heap.size ∧ wr.rowIs w5.heap.size 2 Kd.length (fun c => .int .i64 (cntD M Kd n c q)) ∧ Ext w5 wr) (fun _ i _ => N - (intOf i).toNat)
                case atStart => exact ⟨0, Nat.zero_le _, rfl, hi0, by simp, by simp [Value.ownBlock], hr0.congr (fun i _ => by unfold cntD; rfl), hx0⟩
                case round =>
                  clear hi0 hr0 hx0
                  obtain ⟨q, hq, rfl, hi, hv5, hne, hrow, hx5⟩ := hrel
                  have HV5 := Lib.hid hv5
                  have HNE := Lib.hid hne
                  clear hv5 hne
                  by_cases hql : q < N
                  case pos =>
                    have hmem := HKM.out.2.2 _ (row_mem (M := M) (i := q) (by rw [HML.out]; exact hql))
                    have hpl := placeL_lt hmem
                    have HPA := Lib.hid (placeL_at hmem)
                    have HPB := Lib.hid (fun j (h : j < placeL Kd (row M q)) => placeL_ahead h)
                    have HNC := Lib.hid (newC_def M Kd q)
                    have HD1 := Lib.hid (fun c => show cntD M Kd n c (q + 1) = cntD M Kd n c q + (if placeL Kd (row M q) = c then (if q < n then 1 else -1) else 0) from rfl)
                    clear hmem
                    generalize placeL Kd (row M q) = pl at *
                    obtain ⟨b1, o1, c1, m1, m2, m3⟩ := (hmr.ext (hx4.trans hx5)).get (i := q) (by rw [HML.out]; exact hql)
                    have HI1 := Lib.hid (m2.ints m3 c1)
                    have HJ := Lib.hid (show ((colsL M Kd N).take q).length = q by rw [List.length_take, HCC.out]; omega)
                    obtain ⟨wi, rfl⟩ : ∃ wi : World, wi = wr := ⟨_, rfl⟩
                    clear m2
                    go_wp2_with fail
                    go_loopw [23] (fun v wr => ∃ a : Nat, a ≤ pl ∧ v = .int .i64 a ∧ Drawn wi wr) (fun v _ => pl - (intOf v).toNat)
                    case atStart => exact ⟨0, Nat.zero_le _, rfl, Drawn.refl _⟩
                    case round =>
                      obtain ⟨a, ha, rfl, hd⟩ := hrel
                      have hal : a < Kd.length := by omega
                      have m4 := hd.ext.cell m1
                      obtain ⟨xa, k1, k2⟩ := HXS.out.2 a hal
                      have k2' := (k2.ext hx5).ext hd.ext
                      obtain ⟨-, b3, o3, c3, rfl, k3⟩ := id k2
                      have k4 := hd.ext.cell (hx5.cell (HCL2.out a _ k1))
                      have HI2 := Lib.hid k2'
                      have HI3 := Lib.hid (HI1.out.ext hd.ext)
                      clear k1 k2 k3 k2'
                      by_cases hap : a < pl
                      · have hsm : eqIB (row Kd a) (row M q) = false := eqIB_no (HPB.out a hap)
                        go_wp2_with fail
                        go_quiet ((go_at_call 111; exact Calls.quiet_of ((same_dr _ _ _ _ _ (HI2.out.ext ((Ext.refl _).drewN _)) (HI3.out.ext ((Ext.refl _).drewN _))).mono fun _ _ ⟨h1, h2⟩ => ⟨by rw [hsm] at h1; exact h1, h2⟩)))
                        go_wp2
                        go_roundw
                        case rel => exact ⟨a + 1, by omega, by go_num, hd.drewN _⟩
                        case measure => simp [intOf]; omega
                      · have hpa : pl = a := by omega
                        subst hpa
                        have hsm : eqIB (row Kd pl) (row M q) = true := eqIB_yes HPA.out
                        go_wp2_with fail
                        go_cut [126] (fun p wx => p = .bool false ∧ Drawn wr wx)
                        case first =>
                          go_quiet ((go_at_call 111; exact Calls.quiet_of ((same_dr _ _ _ _ _ (HI2.out.ext ((Ext.refl _).drewN _)) (HI3.out.ext ((Ext.refl _).drewN _))).mono fun _ _ ⟨h1, h2⟩ => ⟨by rw [hsm] at h1; exact h1, h2⟩)))
                          go_wp2_with fail
                          go_meet
                          case rel => exact ⟨rfl, (Drawn.refl _).drewN _⟩
                        obtain ⟨rfl, hd2⟩ := hcut
                        obtain ⟨ws, rfl⟩ : ∃ ws : World, ws = wc := ⟨_, rfl⟩
                        have hds := hd.trans hd2
                        have his := hi.ext hds.ext
                        have hrs := hrow.of_block (Below.block hds.ext w5.heap.size hrow.lt)
                        have z5 := hx5.size
                        have zs := hds.ext.size
                        have zr := hrow.lt
                        clear hsm hd hd2 m4 k4 HI2 HI3 hi hrow
                        go_wp2_with (at_builtin; refine wpList_append_int_at rfl _ _ 29 2 rfl Tryz.underlying29 infoInt w5.heap.size _ _ rfl (his.alloc _) _ _ rfl (cell_new _ _ _) (by rw [HJ.out]; omega) (by simp; omega) ?_)
                        intro v' w6 hi6 hgr hv6 hat
                        have hx6 : Ext w5 w6 := Ext.grown ((hx5.trans hds.ext).trans (ext_box _ _ _)) hgr (his.alloc _) (Nat.le_refl _)
                        have hrow6 := hrs.of_block ((hgr.block w5.heap.size (by simp; omega) (fun e => HNE.out e.symm)).trans (Below.heap_alloc _ _ _ hrs.lt))
                        have HAT := Lib.hid hat
                        have hne6 : v'.ownBlock ≠ some w5.heap.size := by
                          rcases HAT.out with e | e
                          · rw [e]; exact HNE.out
                          · rw [e]; intro h; simp at h; omega
                        have HN6 := Lib.hid hne6
                        clear hat hgr hne6 hrs his
                        have e2 := hrow6.cell hpl
                        have e3 := hrow6.frozen pl
                        have bd := cntD_bd M Kd n pl q
                        have HQ := Lib.hid (show (colsL M Kd N).take (q + 1) = (colsL M Kd N).take q ++ [(pl : Int)] by rw [take_ix _ _ (by rw [HCC.out]; exact hql), ix_colsL _ _ _ _ hql, HNC.out])
                        by_cases hin : q < n
                        · have HD := Lib.hid (fun c => show cntD M Kd n c (q + 1) = cntD M Kd n c q + (if pl = c then 1 else 0) by rw [HD1.out, if_pos hin])
                          go_wp2
                          go_roundw
                          case rel => exact ⟨q + 1, by omega, by go_num, by rw [HQ.out]; exact growI_setFar hi6 HN6.out _, hv6, HN6.out, (hrow6.set pl (.int .i64 (cntD M Kd n pl q + 1))).congr (fun c _ => by
                            rw [HD.out]
                            by_cases e : c = pl
                            · subst e; rw [if_pos rfl, if_pos rfl]
                            · rw [if_neg e, if_neg (fun h => e h.symm), Int.add_zero]), hx6.setNew (Nat.le_refl _) _⟩
                          case measure => simp [intOf]; omega
                        · have HD := Lib.hid (fun c => show cntD M Kd n c (q + 1) = cntD M Kd n c q + (if pl = c then -1 else 0) by rw [HD1.out, if_neg hin])
                          go_wp2
                          go_roundw
                          case rel => exact ⟨q + 1, by omega, by go_num, by rw [HQ.out]; exact growI_setFar hi6 HN6.out _, hv6, HN6.out, (hrow6.set pl (.int .i64 (cntD M Kd n pl q - 1))).congr (fun c _ => by
                            rw [HD.out]
                            by_cases e : c = pl
                            · subst e; rw [if_pos rfl, if_pos rfl]; rfl
                            · rw [if_neg e, if_neg (fun h => e h.symm), Int.add_zero]), hx6.setNew (Nat.le_refl _) _⟩
                          case measure => simp [intOf]; omega
                  case neg =>
                    have hqq : N = q := by omega
                    subst hqq
                    have hta : (colsL M Kd N).take N = colsL M Kd N := List.take_of_length_le (by rw [HCC.out]; omega)
                    rw [hta] at hi
                    obtain ⟨kb, kc, rfl, hkc, hkb1, hkb2, hkcells⟩ := ownsRow_parts hi HV5.out
                    have hiv := hi.row HV5.out
                    obtain ⟨kb', kc', e, hia, -, -⟩ := hiv
                    simp only [Value.slice.injEq, Option.some.injEq, Addr.mk.injEq, and_true, true_and] at e
                    obtain ⟨rfl, rfl⟩ := e
                    rw [HCC.out] at hkc ⊢
                    obtain ⟨w7, rfl⟩ : ∃ w7 : World, w7 = wr := ⟨_, rfl⟩
                    have hXX := hX.trans (hx2.trans (hx4.trans hx5))
                    have hz5 := (hX.trans (hx2.trans hx4)).size
                    have HCO := Lib.hid (cols_ok HKM.out (n := n) (by rw [HML.out, HN.out]) h12)
                    have HCU := Lib.hid (cols_used HKM.out (n := n) (by rw [HML.out, HN.out]))
                    rw [← HN.out] at HCO HCU
                    clear hkcells hta hi
                    have HIA := Lib.hid hia
                    clear hia
                    go_wp2_with fail
                    go_loop [24] (fun i => ∃ c : Nat, c ≤ Kd.length ∧ i = .int .i64 c) (fun i => Kd.length - (intOf i).toNat)
                    case atStart => exact ⟨0, Nat.zero_le _, rfl⟩
                    case round =>
                      obtain ⟨c, hc, rfl⟩ := hrel
                      by_cases hcl : c < Kd.length
                      case pos =>
                        have e2 := hrow.cell hcl
                        cases hz : (cntD M Kd n c N != 0) with
                        | true =>
                          have HZ := Lib.hid (show ∀ p, IsoOk n az bz p → ¬ Resp n c0 d0 p from fun p hp hr => by
                            have := cntD_iso HA.out hp (HKE.out p hp hr) Kd c
                            rw [← HM.out, ← HN.out] at this
                            rw [this] at hz
                            simp at hz)
                          go_wp2
                          go_ret3
                          exact ⟨_, _, false, rfl, hXX, (fun h => by cases h), fun _ => HZ.out⟩
                        | false =>
                          go_wp2
                          go_round
                          case rel => exact ⟨c + 1, by omega, by go_num⟩
                          case measure => simp [intOf]; omega
                      case neg =>
                        have hkn : ¬ kc = n := by have := HN.out; omega
                        have hnk : n ≤ kc := by have := HN.out; omega
                        have hnN : n ≤ N := by have := HN.out; omega
                        have HKE2 := Lib.hid (show Keeps n az bz c0 d0 ((colsL M Kd N).take n) ((colsL M Kd N).drop n) from fun p hp hr => by
                          have := cols_resp HA.out hp (HKE.out p hp hr) Kd
                          rw [← HM.out, ← HN.out] at this
                          exact this)
                        have HI7 := Lib.hid (show Ints w7 (.slice (some ⟨kb, 0, none⟩) n kc) ((colsL M Kd N).take n) from ints_take HIA.out (by rw [HCC.out]; exact hnN) (by omega) kc)
                        have HI8 := Lib.hid (show Ints w7 (.slice (some ⟨kb, n, none⟩) (N - n) (kc - n)) ((colsL M Kd N).drop n) from ints_drop HIA.out (by rw [HCC.out]) (by rw [HCC.out]; omega) (kc - n))
                        by_cases hfin : Kd.length = nm
                        · have hfb : ((Kd.length : Int) == (nm : Int)) = true := by rw [hfin]; simp
                          clear hfin
                          go_wp2
                          go_ret3
                          refine ⟨_, _, true, rfl, hXX, fun _ => ⟨_, _, kb, 0, kc, kb, n, kc - n, rfl, ?_, ⟨by omega, by omega, by omega, by omega⟩, ?_, ?_, HCO.out.1, HCO.out.2, HKE2.out⟩, (fun h => by cases h)⟩
                          · have hNn : N - n = n := by have := HN.out; omega
                            show Value.slice (some ⟨kb, n, none⟩) (N - n) (kc - n) = _
                            rw [hNn]
                          · obtain ⟨-, b9, o9, c9, e9, h9⟩ := HI7.out
                            simp only [Value.slice.injEq, Option.some.injEq, Addr.mk.injEq, and_true] at e9
                            obtain ⟨⟨rfl, rfl⟩, -, rfl⟩ := e9
                            exact h9
                          · obtain ⟨-, b9, o9, c9, e9, h9⟩ := HI8.out
                            simp only [Value.slice.injEq, Option.some.injEq, Addr.mk.injEq, and_true] at e9
                            obtain ⟨⟨rfl, rfl⟩, -, rfl⟩ := e9
                            exact h9
                        · have hfb : ((Kd.length : Int) == (nm : Int)) = false := by simp; omega
                          have hlt : nm < Kd.length := by omega
                          clear hfin
                          go_wp2
                          go_roundw
                          case rel => exact ⟨_, _, Kd.length, by rw [← HN.out]; omega, by go_num, HI7.out, HI8.out, HCO.out.1, HCO.out.2, HCU.out, HKE2.out, hXX⟩
                          case measure => simp [intOf]; have := HN.out; omega

end Go.Proofs.YthlafeefjonkdaaGreatDoor
