/-
  l13Search of the reference: the circles that go on with known numbers of automorphisms come into a list.
-/
import Derived.Test.YtjbloenjphpngaaProg
import Derived.Deep.DeepCutAuto
import Derived.Deep.RegionWith
import Derived.Deep.RegionHeld3
import Derived.Deep.DrawnRows
import Derived.Deep.AppendLies
import Derived.IntWalk
import Derived.Maps.AppendAt
import Derived.Test.YtjbloenjphpngaaJx0
import Derived.Test.YtjbloenjphpngaaJx1
import Derived.Test.YtjbloenjphpngaaJx5
import Derived.Test.YtjbloenjphpngaaJx14
import Derived.Test.YtjbloenjphpngaaJx8
import Derived.Test.YtjbloenjphpngaaJx9
import Derived.Test.YtjbloenjphpngaaJx34
import Derived.Test.YtjbloenjphpngaaJx19
import Derived.Test.YtjbloenjphpngaaJx2
import Derived.Test.YtjbloenjphpngaaJx10
import Derived.Test.YtjbloenjphpngaaJx6
import Derived.Test.YtjbloenjphpngaaJx3
import Derived.Test.YtjbloenjphpngaaJx4
import Derived.Test.YtjbloenjphpngaaJx15
import Derived.Test.YtjbloenjphpngaaJx16
import Derived.Test.YtjbloenjphpngaaJx23
import Derived.Test.YtjbloenjphpngaaJx18
namespace Go.Proofs.Ytjbloenjphpngaa
set_option linter.unusedVariables false
set_option linter.unusedSimpArgs false
open Go.RowKit
attribute [local go_sem ↓] Go.wp_at_zero Go.wp_at_succ
open Go.Deep

theorem step_append_row_p {P : Program} {w1 w : World} {ops : Array Oper} {o : Oper} {a : Act} {K : Act → World → Prop} {Q : Exit → Act → World → Prop} {E : Prop} (hgd : o.guard = none) (s x : Operand) (t e : TypeId)
    (ho : o.op = .call { callee := .builtin .append, args := #[s, x], argTypes := #[t, t] }) (ht : P.underlying t = some (.slice e)) {z : Value} (hinfo : (P.info? e).map (fun i => (i.zero, i.size, i.bytes)) = some (some z, 1, 24)) (hz1c : z.cells.size = 1)
    (base : Nat) (v : Value) (tb : List (List Int)) (hs : a.eval s = v) (hown : GrowP e base w1 v tb) (hx1 : Ext w1 w) (g : Nat) (br cr : Nat) (l : List Int) (hx : a.eval x = .slice (some ⟨g, 0, none⟩) 1 1) (hc : w.cell? ⟨g, 0, none⟩ = some (.slice (some ⟨br, 0, none⟩) l.length cr)) (hr : IntsAt w br 0 l) (hrl : l.length ≤ 1048576) (hbr : w1.heap.size ≤ br)
    (hl : tb.length ≤ 1048576) (hbase : base ≤ w1.heap.size)
    (h : ∀ v' w', GrowP e base w' v' (tb ++ [l]) → w.grownBy w' v.ownBlock → v' ≠ .slice none 0 0 → (v'.ownBlock = v.ownBlock ∨ v'.ownBlock = some w.heap.size) → K (a.put o.dst v') w') : if Region.wanted o (yielded ops a.tmps) = true then Oper.wp P o a w K Q else E := by
  obtain ⟨i0, hi, hz0, hz1, hz2⟩ := info_parts hinfo
  have hlt := hown.lt
  obtain ⟨xs, h1, h2⟩ := hown.ext hx1
  have hz := hx1.size
  have hxl : xs.length = tb.length := by simpa using h1.1
  refine step_append_lies w hgd s x t ho base e i0 z 1 24 ht hi hz0 hz1 hz2 hz1c (by decide) v tb.length xs hs h1 ⟨g, 0, none⟩ 1 1 [.slice (some ⟨br, 0, none⟩) l.length cr] hx rfl ?_ ?_ (by omega) (by unfold maxLen; omega) (by omega) (by omega) w.heap.size rfl ?_
  · intro j u hj
    match j, hj with
    | 0, hj => simp at hj; subst hj; simpa [Addr.add] using hc
  · intro u hu; simp at hu; subst hu; rfl
  · intro g' cap w' k1 k2 k3 k4
    have k3' : (Value.slice (some ⟨g', 0, none⟩) (tb.length + 1) cap).ownBlock = v.ownBlock ∨ (Value.slice (some ⟨g', 0, none⟩) (tb.length + 1) cap).ownBlock = some w.heap.size := by
      rcases k3 with h3 | h3
      · exact .inl (by rw [h3]; rfl)
      · exact .inr (by rw [h3]; rfl)
    refine h _ w' ⟨xs ++ [.slice (some ⟨br, 0, none⟩) l.length cr], by simpa using k1, fun i hi => ?_⟩ k2 (by simp) k3'
    by_cases hi' : i < tb.length
    · obtain ⟨q0, b, c, q1, q3, q2⟩ := h2 i hi'
      have hrow : row (tb ++ [l]) i = row tb i := by rw [row_eq, row_eq]; simp [List.getD, List.getElem?_append_left hi']
      rw [hrow]
      refine ⟨q0, b, c, by rw [List.getElem?_append_left (by omega)]; exact q1, q3, intsAt_grown q2 k2 (fun hne' hb => ?_)⟩
      have hpos : 0 < (row tb i).length := List.length_pos_iff.2 hne'
      have hcc := q2 0 hpos
      obtain ⟨_, b0, c0, z1, _⟩ := h2 0 (by omega)
      have := World.ownsRow.cells h1 (g := b) hb.symm 0 _ z1
      rw [Addr.add_lit] at this
      rw [this] at hcc
      simp at hcc
    · have hie : i = tb.length := by simp at hi; omega
      subst hie
      have hrow : row (tb ++ [l]) tb.length = l := by rw [row_eq]; simp [List.getD]
      rw [hrow]
      refine ⟨hrl, br, cr, by rw [List.getElem?_append_right (by omega), hxl]; simp, by omega, intsAt_grown hr k2 (fun _ e => ?_)⟩
      have := hlt br e.symm
      omega

/-- what l13Search returns: a list of circles, not shorter -/
def SearchPost (base n B : Nat) (K : List Int) (xs : List Value) (w : World) (e : Ending) (w' : World) : Prop :=
  ∃ v' xs', e = .returned v' ∧ CircL base n w' v' xs' ∧ (xs ≠ [] → xs' ≠ []) ∧ (Zer K → xs' ≠ []) ∧ xs'.length ≤ xs.length + B ∧ Ext w w'

theorem CircAt.tabs {base n : Nat} {w : World} {r : Value} (h : CircAt base n w r) (T : TypeId) : ∃ t, Tabs (w.alloc (.cells #[r] T)) (.slice (some ⟨w.heap.size, 0, none⟩) 1 1) [t] ∧ TabsOk n [t] := by
  obtain ⟨t, h1, h2, h3⟩ := h
  refine ⟨t, ⟨by simp, w.heap.size, 0, 1, rfl, fun k hk => ?_⟩, fun k hk => ?_⟩
  · have : k = 0 := by simpa using hk
    subst this
    exact ⟨r, cell_new _ _ _, by rw [tab_one]; exact (h1.ext (ext_box _ _ _)).rows⟩
  · have : k = 0 := by simpa using hk
    subst this
    rw [tab_one]
    exact ⟨h2, h3⟩

theorem pos_succ {K : List Int} {i : Nat} (h : ∀ j, j < i → 0 ≤ ix K j) (hs : 0 ≤ ix K i) : ∀ j, j < i + 1 → 0 ≤ ix K j := fun j hj => by
  rcases Nat.lt_succ_iff_lt_or_eq.1 hj with h1 | h1
  · exact h j h1
  · rw [h1]; exact hs

theorem all_parts {P : Value → Prop} {xs : List Value} {q : Nat} {r : Value} (h1 : ∀ u, u ∈ xs → P u) (h2 : P r) : ∀ u, u ∈ [r] ++ xs.drop q → P u := fun u hu => by
  rcases List.mem_append.1 hu with h | h
  · rw [List.mem_singleton.1 h]; exact h2
  · exact h1 u (List.mem_of_mem_drop h)

theorem all_parts3 {P : Value → Prop} {xs : List Value} {q : Nat} {r : Value} (h1 : ∀ u, u ∈ xs → P u) (h2 : P r) : ∀ u, u ∈ xs.take q ++ ([r] ++ xs.drop q) → P u := fun u hu => by
  rcases List.mem_append.1 hu with h | h
  · exact h1 u (List.mem_of_mem_take h)
  · exact all_parts h1 h2 u h

set_option maxRecDepth 100000 in
set_option maxHeartbeats 8000000 in
theorem l13Search_any (n : Nat) (T A : List (List Int)) (tv av : Value) (wB : World) (ht : Rows wB tv T) (ha : Rows wB av A) (hT : TableOk T) (hl : T.length = n) (hA : AutOk n A) :
    ∀ (f : Nat) (K : List Int) (xs : List Value) (kv ov : Value) (w : World), unset K ≤ f → Ext wB w → Ints w kv K → KOk n A.length K → CircL wB.heap.size n w ov xs → xs.length + A.length ^ f ≤ 2199023255552 →
      Calls Try.prog 92 #[tv, av, kv, ov] w (SearchPost wB.heap.size n (A.length ^ f) K xs w) := by
  subst hl
  have HTB := Lib.hid ht
  have HAB := Lib.hid ha
  obtain ⟨-, tb, tq, tc, rfl, htc⟩ := id ht
  obtain ⟨hal, ab, ao, ac, rfl, hac⟩ := id ha
  have h12 := hT.2.1
  have h1n := hT.1
  have HT := Lib.hid hT
  have HA := Lib.hid hA
  have HTC := Lib.hid htc
  have HAC := Lib.hid hac
  have hpos := hA.pos
  clear hT hA htc hac ht ha
  intro f
  induction f using Nat.strongRecOn with
  | _ f ih =>
  have IH := Lib.hid ih
  clear ih
  intro K xs kv ov w hu hX hk hK hO hB
  obtain ⟨-, kb, ko, kc, rfl, hki⟩ := id hk
  obtain ⟨oa, oc, rfl⟩ := hO.slice
  have hkl := hK.len
  rw [hkl]
  have HK := Lib.hid hK
  have HKI := Lib.hid hki
  have HKV := Lib.hid hk
  rw [hkl] at HKV
  have HX := Lib.hid hX
  have HO := Lib.hid hO
  have HU := Lib.hid hu
  have hxl42 : xs.length ≤ 2199023255552 := by omega
  have HB := Lib.hid hB
  have HP1 := Lib.hid (show 1 ≤ A.length ^ f from Nat.one_le_pow _ _ hpos)
  clear hu hX hk hK hO hki hB
  go_enter Try.func92, Try.ntmps92
  go_wp2_with fail
  go_loop [9] (fun x => ∃ i : Nat, i ≤ T.length ∧ x = .int .i64 i ∧ ∀ j, j < i → 0 ≤ ix K j) (fun x => T.length - (intOf x).toNat)
  case atStart => exact ⟨0, Nat.zero_le _, rfl, fun j hj => absurd hj (Nat.not_lt_zero _)⟩
  case round =>
    obtain ⟨i, hi, rfl, hall⟩ := hrel
    have HALL := Lib.hid hall
    clear hall
    by_cases hin : i < T.length
    case pos =>
      have hini : (i : Int) < (T.length : Int) := by omega
      have ci := HKI.out i (by omega)
      by_cases hs : 0 ≤ ix K i
      case pos =>
        have hsb : ¬ ix K i < 0 := by omega
        go_wp2
        go_round
        case rel => exact ⟨i + 1, by omega, by go_num, pos_succ HALL.out hs⟩
        case measure => simp [intOf]; omega
      case neg =>
        have hne : ¬ (i : Int) = (T.length : Int) := by omega
        have hun := unset_set HK.out (z := i) (v := 0) hin (by omega) (by omega)
        obtain ⟨f', rfl⟩ : ∃ f', f = f' + 1 := ⟨f - 1, by have := HU.out; omega⟩
        have HUN := Lib.hid (fun (a : Nat) => unset_set HK.out (z := i) (v := (a : Int)) hin (by omega) (by omega))
        obtain ⟨P, hP⟩ : ∃ P, P = A.length ^ f' := ⟨_, rfl⟩
        have HPP := Lib.hid hP
        have HB1 := Lib.hid (show xs.length + A.length * P ≤ 2199023255552 by have := HB.out; rw [Nat.pow_succ, ← hP, Nat.mul_comm] at this; exact this)
        have HPE := Lib.hid (show A.length ^ (f' + 1) = A.length * P by rw [Nat.pow_succ, ← hP, Nat.mul_comm])
        clear hun hP
        go_wp2_with fail
        go_loopw [3, 14] (fun o a wr => ∃ (k : Nat) (ys : List Value), k ≤ A.length ∧ a = .int .i64 k ∧ CircL wB.heap.size T.length wr o ys ∧ (xs ≠ [] → ys ≠ []) ∧ (1 ≤ k → Zer K → ys ≠ []) ∧ ys.length ≤ xs.length + k * P ∧ Ext w wr) (fun _ a _ => A.length - (intOf a).toNat)
        case atStart => exact ⟨0, xs, Nat.zero_le _, rfl, HO.out, id, (fun h => by omega), by omega, Ext.refl _⟩
        case round =>
          obtain ⟨k, ys, hk, rfl, ho, hy1, hy2, hyl, hx⟩ := hrel
          have HY := Lib.hid ho
          have HY1 := Lib.hid hy1
          have HY2 := Lib.hid hy2
          have HYL := Lib.hid hyl
          have HXR := Lib.hid hx
          obtain ⟨ya, yc, rfl⟩ := ho.slice
          clear ho hy1 hy2 hx hyl
          by_cases hkA : k < A.length
          case neg =>
            have hkk : k = A.length := by omega
            have hkf : ¬ (k : Int) < (A.length : Int) := by omega
            go_wp2
            go_ret
            exact ⟨_, ys, rfl, HY.out, HY1.out, HY2.out (by omega), by rw [HPE.out, ← hkk]; exact HYL.out, HXR.out⟩
          case pos =>
            have hkf : (k : Int) < (A.length : Int) := by omega
            have HM := Lib.hid (Nat.mul_le_mul_right P (show k + 1 ≤ A.length by omega))
            have HS := Lib.hid (show (k + 1) * P = k * P + P from Nat.succ_mul k P)
            go_wp2_with fail
            refine (l01Own_any K _ _ (HKV.out.ext HXR.out)).mono ?_
            rintro e w2 ⟨br, cr, rfl, hoo, hx2⟩
            rw [hkl]
            have hbr := hoo.1
            have hbr2 := hoo.2.1
            have cz := hoo.2.2.1 i (by omega)
            have fz := hoo.2.2.2 i (by omega)
            rw [Nat.zero_add] at cz fz
            have ho5 := hoo.put (j := i) (by omega) (k : Int)
            rw [Nat.zero_add] at ho5
            have HX2 := Lib.hid (hx2.setNew (p := ⟨br, i, none⟩) hbr (.int .i64 (k : Int)))
            have HI5 := Lib.hid (show Ints (w2.setCell ⟨br, i, none⟩ (.int .i64 (k : Int))) (.slice (some ⟨br, 0, none⟩) T.length cr) (K.set i (k : Int)) from by
              have := ho5.2.2.1.ints (by rw [List.length_set]; omega) cr
              rwa [List.length_set, hkl] at this)
            have HKS := Lib.hid (HK.out.set (z := i) (v := (k : Int)) hin (by omega) (by omega))
            have HXS := Lib.hid (HXR.out.trans HX2.out)
            clear hoo hx2 ho5
            go_wp2_with fail
            refine (l13Spread_any T.length T A (K.set i (k : Int)) _ _ _ _ (HTB.out.ext (HX.out.trans HXS.out)) (HAB.out.ext (HX.out.trans HXS.out)) HI5.out HT.out rfl HA.out HKS.out).mono ?_
            rintro e w3 ⟨v3, r, rfl, hr1, hr2, hx3⟩
            have HR2 := Lib.hid hr2
            have HX3 := Lib.hid (HXS.out.trans hx3)
            have HX3' := Lib.hid (HX2.out.trans hx3)
            clear hx3 hr2
            cases r with
            | false =>
              have HZN := Lib.hid (show 1 ≤ k + 1 → Zer K → ys ≠ [] from fun _ hZ => by
                by_cases h0 : 1 ≤ k
                · exact HY2.out h0 hZ
                · exfalso
                  have hk0 : k = 0 := by omega
                  subst hk0
                  have := HR2.out (hZ.set HK.out hin)
                  cases this)
              go_wp2
              go_roundw
              case rel => exact ⟨k + 1, ys, by omega, by go_num, HY.out.ext HX3'.out, HY1.out, HZN.out, by have := HYL.out; have := HS.out; omega, HX3.out⟩
              case measure => simp [intOf]; omega
            | true =>
              obtain ⟨K', hi3, hk3, hu3, hz3⟩ := hr1 rfl
              have HI3 := Lib.hid hi3
              have HK3 := Lib.hid hk3
              have HU3 := Lib.hid (show unset K' ≤ f' by have := HUN.out k; have := HU.out; omega)
              have HZ3 := Lib.hid hz3
              have HYB := Lib.hid (show ys.length + A.length ^ f' ≤ 2199023255552 by rw [← HPP.out]; have := HYL.out; have := HS.out; have := HM.out; have := HB1.out; omega)
              clear hi3 hk3 hu3 hz3 hr1
              go_wp2_with fail
              refine (IH.out f' (by omega) K' ys _ _ _ HU3.out (HX.out.trans HX3.out) HI3.out HK3.out (HY.out.ext HX3'.out) HYB.out).mono ?_
              rintro e w4 ⟨v4, zs, rfl, hc4, h41, h42, h43, hx4⟩
              rw [← HPP.out] at h43
              have HC4 := Lib.hid hc4
              have H41 := Lib.hid h41
              have H42 := Lib.hid h42
              have H43 := Lib.hid h43
              have HX4 := Lib.hid (HX3.out.trans hx4)
              have HZN := Lib.hid (show 1 ≤ k + 1 → Zer K → zs ≠ [] from fun _ hZ => by
                by_cases h0 : 1 ≤ k
                · exact H41.out (HY2.out h0 hZ)
                · have hk0 : k = 0 := by omega
                  subst hk0
                  exact H42.out (HZ3.out (hZ.set HK.out hin)))
              clear hc4 h41 h42 h43 hx4
              go_wp2
              go_roundw
              case rel => exact ⟨k + 1, zs, by omega, by go_num, HC4.out, fun h => H41.out (HY1.out h), HZN.out, by have := HYL.out; have := HS.out; have := H43.out; omega, HX4.out⟩
              case measure => simp [intOf]; omega
    case neg =>
      have hie : T.length = i := by omega
      subst hie
      have hini : ¬ (T.length : Int) < (T.length : Int) := by omega
      have HLF := Lib.hid (length_mkT T.length (circF T A K))
      have HCT := Lib.hid (circ_table HA.out HT.out rfl HK.out HALL.out)
      have hx0 : Ext w (w.alloc (.cells #[] 28)) := (Ext.refl _).alloc _
      have hg0 := GrowP.lit (e := 28) (base := w.heap.size) (w := w) (Nat.le_refl _)
      go_wp2_with fail
      go_loopw [10, 11] (fun v x wr => ∃ k : Nat, k ≤ T.length ∧ x = .int .i64 k ∧ GrowP 28 w.heap.size wr v ((mkT T.length (circF T A K)).take k) ∧ v ≠ .slice none 0 0 ∧ Ext w wr) (fun _ x _ => T.length - (intOf x).toNat)
      case atStart => exact ⟨0, Nat.zero_le _, rfl, hg0, by simp, hx0⟩
      case round =>
        clear hx0 hg0
        obtain ⟨k, hk, rfl, hg, hv, hx⟩ := hrel
        have HG := Lib.hid hg
        have HV := Lib.hid hv
        have HXR := Lib.hid hx
        clear hg hv hx
        by_cases hkl2 : k < T.length
        case pos =>
          have hki : (k : Int) < (T.length : Int) := by omega
          have hb := HK.out.bd k hkl2
          have h0 := HALL.out k hkl2
          obtain ⟨a, haE⟩ := Int.eq_ofNat_of_zero_le h0
          have haA : a < A.length := by omega
          have cy := HKI.out k (by omega)
          rw [haE] at cy
          have cy' := HXR.out.cell cy
          obtain ⟨d1, s1, m1, r1, l1, n1⟩ := (HTC.out.ext HX.out).get hkl2
          obtain ⟨d2, s2, m2, r2, l2, n2⟩ := (HAC.out.ext HX.out).get haA
          have hpa := HA.out.perm a haA
          rw [HT.out.len hkl2] at r1
          rw [hpa.1] at r2
          have i1 := l1.ints n1 m1
          have i2 := l2.ints n2 m2
          rw [HT.out.len hkl2] at i1
          rw [hpa.1] at i2
          have r1' := HXR.out.cell r1
          have r2' := HXR.out.cell r2
          have I1 := Lib.hid (i1.ext HXR.out)
          have I2 := Lib.hid (i2.ext HXR.out)
          have HPA := Lib.hid hpa
          have HROW := Lib.hid (show thenL (row A a) (row T k) = row (mkT T.length (circF T A K)) k by
            have := circF_row HA.out HT.out rfl HK.out hkl2 h0
            rwa [haE, Int.toNat_natCast] at this)
          have HTL := Lib.hid (show ((mkT T.length (circF T A K)).take k).length = k by rw [List.length_take, HLF.out]; omega)
          have HRL := Lib.hid (show (row (mkT T.length (circF T A K)) k).length = T.length by rw [row_mkT _ _ _ hkl2, length_partRow])
          have HZ := Lib.hid HXR.out.size
          have HGL := Lib.hid HG.out.lt
          have HTK := Lib.hid (HT.out.len hkl2)
          clear l1 l2 i1 i2 hpa haE h0 hb
          go_wp2_with fail
          go_region_held3 (fun w' => w'.cell? ⟨kb, ko + k, none⟩ = some (.int .i64 (a : Int)) ∧ w'.cell? ⟨ab, ao + a, none⟩ = some (.slice (some ⟨d2, s2, none⟩) T.length m2) ∧ w'.cell? ⟨tb, tq + k, none⟩ = some (.slice (some ⟨d1, s1, none⟩) T.length m1))
            ((refine ⟨?_, ?_, ?_⟩ <;> (repeat first | (with_reducible assumption) | (with_reducible refine Ext.cell hxI ?_) | (with_reducible refine Ext.cell hx4 ?_) |  (with_reducible exact kc_new) | ((with_reducible refine kc_newE ?_); (simp; done)) | ((with_reducible refine kc_newEa ?_); (simp; done)) | ((with_reducible refine kc_newEb ?_); (simp; done)) | (with_reducible apply kc_alloc) | (with_reducible apply kc_drewN) | (with_reducible apply kc_drew) | ((with_reducible refine kc_set ?_ ?_); (first | (simp only []; omega) | (simp; omega) | (focus (simp; done)))) | ((with_reducible refine kc_set2 ?_ ?_); (focus (simp; done))) | (with_reducible refine kc_same (v := .slice none 0 0) ?_))))
            (first
              | (go_at_call 94; refine (l01Then_any T.length _ _ _ _ _ (I2.out.ext (by (repeat first | (with_reducible exact Ext.refl _) | (with_reducible assumption) | (with_reducible apply Ext.drew) | (with_reducible apply kx_drewN) | (with_reducible apply kx_alloc) | ((with_reducible refine kx_set ?_ ?_); (first | (simp only []; omega) | (simp; omega) | (focus (simp; done)))) ))) (I1.out.ext (by (repeat first | (with_reducible exact Ext.refl _) | (with_reducible assumption) | (with_reducible apply Ext.drew) | (with_reducible apply kx_drewN) | (with_reducible apply kx_alloc) | ((with_reducible refine kx_set ?_ ?_); (first | (simp only []; omega) | (simp; omega) | (focus (simp; done)))) ))) HPA.out HTK.out h12).mono ?_; rw [HROW.out]; rintro e wI ⟨bI, cI, rfl, hoI, hxI⟩)
              | (refine step_append_row_p (by rfl) _ _ 24 28 (by rfl) Try.underlying24 infoSl (by rfl) w.heap.size _ _ (by rfl) HG.out (by (repeat first | (with_reducible exact Ext.refl _) | (with_reducible assumption) | (with_reducible apply Ext.drew) | (with_reducible apply kx_drewN) | (with_reducible apply kx_alloc) | ((with_reducible refine kx_set ?_ ?_); (first | (simp only []; omega) | (simp; omega) | (focus (simp; done)))) | (with_reducible refine Ext.trans ?_ hxI) )) _ _ _ _ (by rfl) (by (repeat first | (with_reducible assumption) |  (with_reducible exact kc_new) | ((with_reducible refine kc_newE ?_); (simp; done)) | ((with_reducible refine kc_newEa ?_); (simp; done)) | ((with_reducible refine kc_newEb ?_); (simp; done)) | (with_reducible apply kc_alloc) | (with_reducible apply kc_drewN) | (with_reducible apply kc_drew) | ((with_reducible refine kc_set ?_ ?_); (first | (simp only []; omega) | (simp; omega) | (focus (simp; done)))) | ((with_reducible refine kc_set2 ?_ ?_); (focus (simp; done))) | (with_reducible refine kc_same (v := .slice none 0 0) ?_))) (hoI.2.2.1.ext (by (repeat first | (with_reducible exact Ext.refl _) | (with_reducible assumption) | (with_reducible apply Ext.drew) | (with_reducible apply kx_drewN) | (with_reducible apply kx_alloc) | ((with_reducible refine kx_set ?_ ?_); (first | (simp only []; omega) | (simp; omega) | (focus (simp; done)))) ))) (by rw [HRL.out]; omega) (Nat.le_trans (Ext.size (by (repeat first | (with_reducible exact Ext.refl _) | (with_reducible assumption) | (with_reducible apply Ext.drew) | (with_reducible apply kx_drewN) | (with_reducible apply kx_alloc) | ((with_reducible refine kx_set ?_ ?_); (first | (simp only []; omega) | (simp; omega) | (focus (simp; done)))) ))) hoI.1) (by rw [HTL.out]; omega) HZ.out ?_; intro v' w4 hg4 hgr4 hv4 hat4; have hx4 : Ext w w4 := ext_grownBy (HXR.out.trans (by (repeat first | (with_reducible exact Ext.refl _) | (with_reducible assumption) | (with_reducible apply Ext.drew) | (with_reducible apply kx_drewN) | (with_reducible apply kx_alloc) | ((with_reducible refine kx_set ?_ ?_); (first | (simp only []; omega) | (simp; omega) | (focus (simp; done)))) | (with_reducible refine Ext.trans ?_ hxI) ))) hgr4 (fun q e => (HGL.out q e).1)))
          all_goals
            go_wp2
            go_roundw
            case rel => exact ⟨k + 1, by omega, by go_num, by rw [take_row _ _ (by rw [HLF.out]; exact hkl2)]; exact hg4, hv4, hx4⟩
            case measure => simp [intOf]; omega
        case neg =>
          have hkk : k = T.length := by omega
          have hki : ¬ (k : Int) < (T.length : Int) := by omega
          have HTF := (show (mkT T.length (circF T A K)).take k = mkT T.length (circF T A K) from List.take_of_length_le (by rw [HLF.out, hkk]; exact Nat.le_refl _))
          have hgr := HG.out
          rw [HTF] at hgr
          have HCA := Lib.hid (show CircAt wB.heap.size T.length wr _ from ⟨_, (hgr.rowsP (by rw [HLF.out]; omega) HV.out).weaken (fun q hq => Nat.le_trans HX.out.size hq), HCT.out, HLF.out⟩)
          clear hgr HTF HG HV HLF HCT
          obtain ⟨rb, ro, rc, hrv⟩ := HCA.out.shape
          subst hrv
          go_wp2_with fail
          obtain ⟨w1, rfl⟩ : ∃ z : World, z = wr := ⟨_, rfl⟩
          go_loopw [12] (fun x wr => ∃ q : Nat, q ≤ xs.length ∧ x = .int .i64 q ∧ Ext w1 wr) (fun x _ => xs.length - (intOf x).toNat)
          case atStart => exact ⟨0, Nat.zero_le _, rfl, Ext.refl _⟩
          case round =>
            obtain ⟨q, hq, rfl, hx⟩ := hrel
            have HXQ := Lib.hid hx
            have HXX := Lib.hid (HXR.out.trans hx)
            have HRA := Lib.hid (HCA.out.ext hx)
            have HOQ := Lib.hid (HO.out.ext HXX.out)
            clear hx
            rcases HO.out.cases with ⟨hnil, hxn⟩ | hnn
            · subst hxn
              simp only [Value.slice.injEq] at hnil
              obtain ⟨rfl, -, rfl⟩ := hnil
              have hq0 : q = 0 := by simpa using hq
              subst hq0
              have hqi : ¬ ((0 : Nat) : Int) < (([] : List Value).length : Int) := by simp
              have HXX0 := HXX
              have HRA0 := HRA
              have HOQ0 := HOQ
              have zb0 : wB.heap.size ≤ wr.heap.size := Nat.le_trans HX.out.size (HXX0.out).size
              have HRO := Lib.hid HRA0.out.one
              have hlit : ((wr.alloc (.cells #[(.slice (some ⟨rb, ro, none⟩) T.length rc)] 24)).alloc (.cells #[] 24)).ownsRow wr.heap.size 24 1 (.slice (some ⟨wr.heap.size + 1, 0, none⟩) 0 0) 0 [] := by
                have := ownsRow_lit (e := 24) (w := (wr.alloc (.cells #[(.slice (some ⟨rb, ro, none⟩) T.length rc)] 24))) (base := wr.heap.size) (by simp)
                rw [World.size_alloc] at this
                exact this
              have hx5 : Ext wr (wr.alloc (.cells #[(.slice (some ⟨rb, ro, none⟩) T.length rc)] 24)) := (Ext.refl _).alloc _
              have hc5 := cell_new wr (.slice (some ⟨rb, ro, none⟩) T.length rc) 24
              go_wp2_with (first | (at_builtin; refine wpList_append_none rfl _ _ 53 24 rfl Try.underlying53 infoSl2 wr.heap.size 1 1 rfl rfl (Nat.le_refl _) ?_) | (at_builtin; refine wpList_append_none rfl _ _ 53 24 rfl Try.underlying53 infoSl2 (wr.heap.size + 1) 0 0 rfl rfl (Nat.le_refl _) ?_) | (at_builtin; refine wpList_append_big rfl _ _ 53 24 rfl Try.underlying53 infoSl2 wr.heap.size (.slice (some ⟨wr.heap.size + 1, 0, none⟩) 0 0) 0 [] rfl hlit (by simp) wr.heap.size 0 1 1 [(.slice (some ⟨rb, ro, none⟩) T.length rc)] rfl rfl (fun i x hi => by cases i with | zero => (simp at hi; subst hi; exact kc_alloc hc5) | succ i => simp at hi) (fun u hu => by simp at hu; subst hu; exact HRO.out) (by omega) (by first | (simp; done) | (simp; omega)) ?_))
              intro v7 w7 hown7 hgr7 hv7
              have HX7 := Lib.hid (show Ext wr w7 from Ext.grown (hx5.alloc _) hgr7 hlit (Nat.le_refl _))
              have HG7 := Lib.hid (show CircL wB.heap.size T.length w7 v7 [(.slice (some ⟨rb, ro, none⟩) T.length rc)] from ⟨ownsRow_len (ownsRow_base hown7 zb0) (by simp), fun r hr => by rw [List.mem_singleton.1 hr]; exact HRA0.out.ext HX7.out, fun e => by simp at e⟩)
              clear hgr7 hown7
              go_wp2
              go_ret
              exact ⟨v7, [(.slice (some ⟨rb, ro, none⟩) T.length rc)], rfl, HG7.out, fun _ => by simp, fun _ => by simp, by have := HP1.out; simp; omega, HXX0.out.trans HX7.out⟩
            · obtain ⟨g, cap', hgE, hcap, hgb, hgs, hcl⟩ := ownsRow_parts HOQ.out.1 hnn
              simp only [Value.slice.injEq] at hgE
              obtain ⟨rfl, -, hcE⟩ := hgE
              subst hcE
              obtain ⟨cap, hcE⟩ : ∃ z, z = oc := ⟨_, rfl⟩
              subst hcE
              have HCE := Lib.hid hcl
              have HNN := Lib.hid hnn
              have hx1 : 1 ≤ xs.length := List.length_pos_iff.2 (fun e => hnn (HO.out.2.2 e))
              clear hcl hnn
              by_cases hql : q < xs.length
              case pos =>
                have hqi : (q : Int) < (xs.length : Int) := by omega
                obtain ⟨rq, hrq⟩ : ∃ rq, xs[q]? = some rq := ⟨_, List.getElem?_eq_getElem hql⟩
                have cq := HCE.out q rq hrq
                obtain ⟨t1, ht1, hk1⟩ := ((HOQ.out.2.1 rq (List.mem_of_getElem? hrq))).tabs 24
                obtain ⟨t2, ht2, hk2⟩ := (HRA.out.ext (ext_box wr rq 24)).tabs 24
                have HT1 := Lib.hid (ht1.ext (ext_box _ (.slice (some ⟨rb, ro, none⟩) T.length rc) 24))
                have HT2 := Lib.hid ht2
                rw [World.size_alloc] at HT2
                have HK1 := Lib.hid hk1
                have HK2 := Lib.hid hk2
                have HXL := Lib.hid ((ext_box wr rq 24).trans (ext_box _ (.slice (some ⟨rb, ro, none⟩) T.length rc) 24))
                clear ht1 ht2 hk1 hk2
                obtain ⟨qb, qo, qc, hrq2⟩ := (HOQ.out.2.1 rq (List.mem_of_getElem? hrq)).shape
                subst hrq2
                cases hbf : befG [t1] [t2] [t1].length 0 with
                | true =>
                  go_wp2_with (go_at_call 104; refine (l03Before_any [t1] [t2] _ _ T.length _ HT1.out HT2.out HK1.out HK2.out rfl h12 (by simp)).mono ?_; rintro e wz ⟨rfl, hd5⟩; rw [hbf])
                  have HX5 := Lib.hid (HXL.out.trans hd5.ext)
                  go_roundw
                  case rel => exact ⟨q + 1, by omega, by go_num, HXQ.out.trans HX5.out⟩
                  case measure => simp [intOf]; omega
                | false =>
                  have hca : ¬ cap = q := by omega
                  go_wp2_with (first | (go_at_call 104; refine (l03Before_any [t1] [t2] _ _ T.length _ HT1.out HT2.out HK1.out HK2.out rfl h12 (by simp)).mono ?_; rintro e wz ⟨rfl, hd5⟩; rw [hbf]; have HX5 := Lib.hid (HXL.out.trans hd5.ext); have HXX0 := Lib.hid (HXX.out.trans HX5.out); have HRA0 := Lib.hid (HRA.out.ext HX5.out); have HOQ0 := Lib.hid (HOQ.out.ext HX5.out); have HCE0 := Lib.hid (fun i x hi => HX5.out.cell (HCE.out i x hi)); have zb0 : wB.heap.size ≤ wz.heap.size := Nat.le_trans HX.out.size (HXX0.out).size; have HRO := Lib.hid HRA0.out.one; clear hd5) | (at_builtin; refine wpList_append_big rfl _ _ 53 24 rfl Try.underlying53 infoSl2 wz.heap.size (.slice (some ⟨wz.heap.size, 0, none⟩) 1 1) 1 [(.slice (some ⟨rb, ro, none⟩) T.length rc)] rfl (ownsRow_one (Nat.le_refl _)) (by simp) g q _ (xs.length - q) (xs.drop q) (by rw [List.length_drop]) rfl (fun i x hi => by rw [List.getElem?_drop] at hi; exact ((Ext.refl _).alloc _).cell (HCE0.out _ _ hi)) (fun u hu => (HOQ0.out.2.1 u (List.mem_of_mem_drop hu)).one) (by omega) (by simp) ?_))
                  intro v5 w5 hown5 hgr5 hv5
                  have hx5 : Ext wz w5 := Ext.grown ((Ext.refl _).alloc _) hgr5 (ownsRow_one (Nat.le_refl _)) (Nat.le_refl _)
                  obtain ⟨g5, cap5, rfl, hc5, hg5, hs5, hcl5⟩ := ownsRow_parts hown5 hv5
                  have HC5 := Lib.hid hcl5
                  have z5 := hx5.size
                  have HX5Q := Lib.hid hx5
                  clear hcl5 hgr5 hown5
                  go_wp2_with (at_builtin; refine wpList_append_big rfl _ _ 53 24 rfl Try.underlying53 infoSl2 w5.heap.size (.slice (some ⟨w5.heap.size, 0, none⟩) 0 0) 0 [] rfl (ownsRow_lit (Nat.le_refl _)) (by simp) g 0 cap q (xs.take q) (by rw [List.length_take]; omega) rfl (fun i x hi => by rw [Nat.zero_add]; have hi2 : xs[i]? = some x := (by rw [List.getElem?_take] at hi; split at hi <;> first | exact hi | cases hi); exact ((Ext.refl w5).alloc _).cell (HX5Q.out.cell (HCE0.out i x hi2))) (fun u hu => (HOQ0.out.2.1 u (List.mem_of_mem_take hu)).one) (by omega) (by simp) ?_)
                  intro v6 w6 hown6 hgr6 hv6
                  have hx6 : Ext w5 w6 := Ext.grown ((Ext.refl w5).alloc _) hgr6 (ownsRow_lit (Nat.le_refl _)) (Nat.le_refl _)
                  have z6 := hx6.size
                  have HX6Q := Lib.hid hx6
                  clear hgr6
                  go_wp2_with (at_builtin; refine wpList_append_big rfl _ _ 53 24 rfl Try.underlying53 infoSl2 w5.heap.size v6 _ _ rfl hown6 hv6 g5 0 cap5 _ ([(.slice (some ⟨rb, ro, none⟩) T.length rc)] ++ xs.drop q) (by rw [List.length_append, List.length_drop]; rfl) rfl (fun i x hi => by rw [Nat.zero_add]; exact HX6Q.out.cell (HC5.out i x hi)) (all_parts (fun u hu => (HOQ0.out.2.1 u hu).one) HRO.out) (by omega) (by omega) ?_)
                  intro v7 w7 hown7 hgr7 hv7
                  have HX7 := Lib.hid (show Ext wz w7 from HX5Q.out.trans (Ext.grown HX6Q.out hgr7 hown6 (Nat.le_refl _)))
                  have zz5 : wB.heap.size ≤ w5.heap.size := Nat.le_trans zb0 z5
                  have HG7 := Lib.hid (show CircL wB.heap.size T.length w7 v7 (xs.take q ++ ([(.slice (some ⟨rb, ro, none⟩) T.length rc)] ++ xs.drop q)) from ⟨ownsRow_len (ownsRow_base (hown7) zz5) (by simp; omega), all_parts3 (fun r hr => (HOQ0.out.2.1 r hr).ext HX7.out) (HRA0.out.ext HX7.out), fun e => by simp at e⟩)
                  clear hgr7 hown7
                  go_wp2
                  go_ret
                  exact ⟨v7, (xs.take q ++ ([(.slice (some ⟨rb, ro, none⟩) T.length rc)] ++ xs.drop q)), rfl, HG7.out, fun _ => by simp, fun _ => by simp, by have := HP1.out; simp; omega, HXX0.out.trans HX7.out⟩
              case neg =>
                have hqi : ¬ (q : Int) < (xs.length : Int) := by omega
                by_cases hca : cap = q
                case pos =>
                  subst hca
                  have HXX0 := HXX
                  have HRA0 := HRA
                  have HOQ0 := HOQ
                  have HCE0 := HCE
                  have zb0 : wB.heap.size ≤ wr.heap.size := Nat.le_trans HX.out.size (HXX0.out).size
                  have HRO := Lib.hid HRA0.out.one
                  have hlit : ((wr.alloc (.cells #[(.slice (some ⟨rb, ro, none⟩) T.length rc)] 24)).alloc (.cells #[] 24)).ownsRow wr.heap.size 24 1 (.slice (some ⟨wr.heap.size + 1, 0, none⟩) 0 0) 0 [] := by
                    have := ownsRow_lit (e := 24) (w := (wr.alloc (.cells #[(.slice (some ⟨rb, ro, none⟩) T.length rc)] 24))) (base := wr.heap.size) (by simp)
                    rw [World.size_alloc] at this
                    exact this
                  have hx5 : Ext wr (wr.alloc (.cells #[(.slice (some ⟨rb, ro, none⟩) T.length rc)] 24)) := (Ext.refl _).alloc _
                  have hc5 := cell_new wr (.slice (some ⟨rb, ro, none⟩) T.length rc) 24
                  go_wp2_with (at_builtin; refine wpList_append_big rfl _ _ 53 24 rfl Try.underlying53 infoSl2 wr.heap.size (.slice (some ⟨wr.heap.size + 1, 0, none⟩) 0 0) 0 [] rfl hlit (by simp) g 0 cap cap (xs.take cap) (by rw [List.length_take]; omega) rfl (fun i x hi => by rw [Nat.zero_add]; have hi2 : xs[i]? = some x := (by rw [List.getElem?_take] at hi; split at hi <;> first | exact hi | cases hi); exact ((Ext.refl _).alloc _).cell (hx5.cell (HCE0.out i x hi2))) (fun u hu => (HOQ0.out.2.1 u (List.mem_of_mem_take hu)).one) (by omega) (by first | (simp; done) | (simp; omega)) ?_)
                  intro v6 w6 hown6 hgr6 hv6
                  have hx6 : Ext wr w6 := Ext.grown (hx5.alloc _) hgr6 hlit (Nat.le_refl _)
                  have hc6 : w6.cell? ⟨wr.heap.size, 0, none⟩ = some (.slice (some ⟨rb, ro, none⟩) T.length rc) := by
                    rw [hgr6.cell_far _ (by simp; omega) (by simp [Value.ownBlock])]
                    exact kc_alloc hc5
                  have z6 := hx6.size
                  clear hgr6
                  go_wp2_with (at_builtin; refine wpList_append_big rfl _ _ 53 24 rfl Try.underlying53 infoSl2 wr.heap.size v6 _ _ rfl hown6 hv6 wr.heap.size 0 1 1 [(.slice (some ⟨rb, ro, none⟩) T.length rc)] rfl rfl (fun i x hi => by cases i with | zero => (simp at hi; subst hi; exact hc6) | succ i => simp at hi) (fun u hu => by simp at hu; subst hu; exact HRO.out) (by omega) (by omega) ?_)
                  intro v7 w7 hown7 hgr7 hv7
                  have HX7 := Lib.hid (show Ext wr w7 from Ext.grown hx6 hgr7 hown6 (Nat.le_refl _))
                  have hdr : xs.drop cap = [] := List.drop_of_length_le (by omega)
                  have HG7 := Lib.hid (show CircL wB.heap.size T.length w7 v7 (xs.take cap ++ ([(.slice (some ⟨rb, ro, none⟩) T.length rc)] ++ xs.drop cap)) from ⟨ownsRow_len (ownsRow_base (by rw [hdr]; exact hown7) zb0) (by simp; omega), all_parts3 (fun r hr => (HOQ0.out.2.1 r hr).ext HX7.out) (HRA0.out.ext HX7.out), fun e => by simp at e⟩)
                  clear hgr7 hown7
                  go_wp2
                  go_ret
                  exact ⟨v7, (xs.take cap ++ ([(.slice (some ⟨rb, ro, none⟩) T.length rc)] ++ xs.drop cap)), rfl, HG7.out, fun _ => by simp, fun _ => by simp, by have := HP1.out; simp; omega, HXX0.out.trans HX7.out⟩
                case neg =>
                  have HXX0 := HXX
                  have HRA0 := HRA
                  have HOQ0 := HOQ
                  have HCE0 := HCE
                  have zb0 : wB.heap.size ≤ wr.heap.size := Nat.le_trans HX.out.size (HXX0.out).size
                  have HRO := Lib.hid HRA0.out.one
                  go_wp2_with ((at_builtin; refine wpList_append_big rfl _ _ 53 24 rfl Try.underlying53 infoSl2 wr.heap.size (.slice (some ⟨wr.heap.size, 0, none⟩) 1 1) 1 [(.slice (some ⟨rb, ro, none⟩) T.length rc)] rfl (ownsRow_one (Nat.le_refl _)) (by simp) g q _ (xs.length - q) (xs.drop q) (by rw [List.length_drop]) rfl (fun i x hi => by rw [List.getElem?_drop] at hi; exact ((Ext.refl _).alloc _).cell (HCE0.out _ _ hi)) (fun u hu => (HOQ0.out.2.1 u (List.mem_of_mem_drop hu)).one) (by omega) (by simp) ?_))
                  intro v5 w5 hown5 hgr5 hv5
                  have hx5 : Ext wr w5 := Ext.grown ((Ext.refl _).alloc _) hgr5 (ownsRow_one (Nat.le_refl _)) (Nat.le_refl _)
                  obtain ⟨g5, cap5, rfl, hc5, hg5, hs5, hcl5⟩ := ownsRow_parts hown5 hv5
                  have HC5 := Lib.hid hcl5
                  have z5 := hx5.size
                  have HX5Q := Lib.hid hx5
                  clear hcl5 hgr5 hown5
                  go_wp2_with (at_builtin; refine wpList_append_big rfl _ _ 53 24 rfl Try.underlying53 infoSl2 w5.heap.size (.slice (some ⟨w5.heap.size, 0, none⟩) 0 0) 0 [] rfl (ownsRow_lit (Nat.le_refl _)) (by simp) g 0 cap q (xs.take q) (by rw [List.length_take]; omega) rfl (fun i x hi => by rw [Nat.zero_add]; have hi2 : xs[i]? = some x := (by rw [List.getElem?_take] at hi; split at hi <;> first | exact hi | cases hi); exact ((Ext.refl w5).alloc _).cell (HX5Q.out.cell (HCE0.out i x hi2))) (fun u hu => (HOQ0.out.2.1 u (List.mem_of_mem_take hu)).one) (by omega) (by simp) ?_)
                  intro v6 w6 hown6 hgr6 hv6
                  have hx6 : Ext w5 w6 := Ext.grown ((Ext.refl w5).alloc _) hgr6 (ownsRow_lit (Nat.le_refl _)) (Nat.le_refl _)
                  have z6 := hx6.size
                  have HX6Q := Lib.hid hx6
                  clear hgr6
                  go_wp2_with (at_builtin; refine wpList_append_big rfl _ _ 53 24 rfl Try.underlying53 infoSl2 w5.heap.size v6 _ _ rfl hown6 hv6 g5 0 cap5 _ ([(.slice (some ⟨rb, ro, none⟩) T.length rc)] ++ xs.drop q) (by rw [List.length_append, List.length_drop]; rfl) rfl (fun i x hi => by rw [Nat.zero_add]; exact HX6Q.out.cell (HC5.out i x hi)) (all_parts (fun u hu => (HOQ0.out.2.1 u hu).one) HRO.out) (by omega) (by omega) ?_)
                  intro v7 w7 hown7 hgr7 hv7
                  have HX7 := Lib.hid (show Ext wr w7 from HX5Q.out.trans (Ext.grown HX6Q.out hgr7 hown6 (Nat.le_refl _)))
                  have zz5 : wB.heap.size ≤ w5.heap.size := Nat.le_trans zb0 z5
                  have HG7 := Lib.hid (show CircL wB.heap.size T.length w7 v7 (xs.take q ++ ([(.slice (some ⟨rb, ro, none⟩) T.length rc)] ++ xs.drop q)) from ⟨ownsRow_len (ownsRow_base (hown7) zz5) (by simp; omega), all_parts3 (fun r hr => (HOQ0.out.2.1 r hr).ext HX7.out) (HRA0.out.ext HX7.out), fun e => by simp at e⟩)
                  clear hgr7 hown7
                  go_wp2
                  go_ret
                  exact ⟨v7, (xs.take q ++ ([(.slice (some ⟨rb, ro, none⟩) T.length rc)] ++ xs.drop q)), rfl, HG7.out, fun _ => by simp, fun _ => by simp, by have := HP1.out; simp; omega, HXX0.out.trans HX7.out⟩
end Go.Proofs.Ytjbloenjphpngaa
