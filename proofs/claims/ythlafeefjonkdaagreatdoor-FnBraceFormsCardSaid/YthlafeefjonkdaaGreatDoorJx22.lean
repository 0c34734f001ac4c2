/-
  l13Search of the reference: the circles that go on with known numbers of automorphisms come into a list.
-/
import Derived.Test.YthlafeefjonkdaaGreatDoorJx21
namespace Go.Proofs.YthlafeefjonkdaaGreatDoor
set_option linter.unusedVariables false
set_option linter.unusedSimpArgs false
open Go.RowKit
attribute [local go_sem ↓] Go.wp_at_zero Go.wp_at_succ
open Go.Deep

theorem step_append_row_p {P : Program} {w1 w : World} {ops : Array Oper} {o : Oper} {a : Act} {K : Act → World → Prop} {Q : Exit → Act → World → Prop} {E : Prop} (hgd : o.guard = none) (s x : Operand) (t e : TypeId)
    (ho : o.op = .call { callee := .builtin .append, args := #[s, x], argTypes := #[t, t] }) (ht : P.underlying t = some (.slice e)) {z : Value} (hinfo : (P.info? e).map (fun i => (i.zero, i.size, i.bytes)) = some (some z, 1, 24)) (hz1c : z.cells.size = 1)
    (base : Nat) (v : Value) (tb : List (List Int)) (hs : a.eval s = v) (hown : GrowP e base w1 v tb) (hx1 : Ext w1 w) (g : Nat) (br cr : Nat) (l : List Int) (hx : a.eval x = .slice (some ⟨g, 0, none⟩) 1 1) (hc : w.cell? ⟨g, 0, none⟩ = some (.slice (some ⟨br, 0, none⟩) l.length cr)) (hr : IntsAt w br 0 l) (hrl : l.length ≤ 1048576) (hbr : w1.heap.size ≤ br)
    (hl : tb.length ≤ 1048576) (hbase : base ≤ w1.heap.size)
    (h : ∀ v' w', GrowP e base w' v' (tb ++ [l]) → w.grownBy w' v.ownBlock → v' ≠ .slice none 0 0 → (v'.ownBlock = v.ownBlock ∨ v'.ownBlock = some w.heap.size) → K (a.put o.dst v') w') : if Region.wanted o (yielded ops a.tmps) = true then Oper.wp P o a w K Q else E := by
  obtain ⟨i0, hi, hz0, hz1, hz2⟩ := info_parts hinfo
  have hlt := hown.lt
  obtain ⟨xs, h1, h2⟩ := hown.ext hx1
  have hz := hx1.size
  have hxl : xs.length = tb.length := by simpa using h1.1
  refine step_append_lies w hgd s x t ho base e i0 z 1 24 ht hi hz0 hz1 hz2 hz1c (by decide) v tb.length xs hs h1 ⟨g, 0, none⟩ 1 1 [.slice (some ⟨br, 0, none⟩) l.length cr] hx rfl ?_ ?_ (by omega) (by unfold maxLen; omega) (by omega) (by omega) w.heap.size rfl ?_
  · intro j u hj
    match j, hj with
    | 0, hj => simp at hj; subst hj; simpa [Addr.add] using hc
  · intro u hu; simp at hu; subst hu; rfl
  · intro g' cap w' k1 k2 k3 k4
    have k3' : (Value.slice (some ⟨g', 0, none⟩) (tb.length + 1) cap).ownBlock = v.ownBlock ∨ (Value.slice (some ⟨g', 0, none⟩) (tb.length + 1) cap).ownBlock = some w.heap.size := by
      rcases k3 with h3 | h3
      · exact .inl (by rw [h3]; rfl)
      · exact .inr (by rw [h3]; rfl)
    refine h _ w' ⟨xs ++ [.slice (some ⟨br, 0, none⟩) l.length cr], by simpa using k1, fun i hi => ?_⟩ k2 (by simp) k3'
    by_cases hi' : i < tb.length
    · obtain ⟨q0, b, c, q1, q3, q2⟩ := h2 i hi'
      have hrow : row (tb ++ [l]) i = row tb i := by rw [row_eq, row_eq]; simp [List.getD, List.getElem?_append_left hi']
      rw [hrow]
      refine ⟨q0, b, c, by rw [List.getElem?_append_left (by omega)]; exact q1, q3, intsAt_grown q2 k2 (fun hne' hb => ?_)⟩
      have hpos : 0 < (row tb i).length := List.length_pos_iff.2 hne'
      have hcc := q2 0 hpos
      obtain ⟨_, b0, c0, z1, _⟩ := h2 0 (by omega)
      have := World.ownsRow.cells h1 (g := b) hb.symm 0 _ z1
      rw [Addr.add_lit] at this
      rw [this] at hcc
      simp at hcc
    · have hie : i = tb.length := by simp at hi; omega
      subst hie
      have hrow : row (tb ++ [l]) tb.length = l := by rw [row_eq]; simp [List.getD]
      rw [hrow]
      refine ⟨hrl, br, cr, by rw [List.getElem?_append_right (by omega), hxl]; simp, by omega, intsAt_grown hr k2 (fun _ e => ?_)⟩
      have := hlt br e.symm
      omega

def SearchPost (base n B : Nat) (K : List Int) (xs : List Value) (w : World) (e : Ending) (w' : World) : Prop :=
  ∃ v' xs', e = .returned v' ∧ CircL base n w' v' xs' ∧ (xs ≠ [] → xs' ≠ []) ∧ (Zer K → xs' ≠ []) ∧ xs'.length ≤ xs.length + B ∧ Ext w w'

theorem CircAt.tabs {base n : Nat} {w : World} {r : Value} (h : CircAt base n w r) (T : TypeId) : ∃ t, Tabs (w.alloc (.cells #[r] T)) (.slice (some ⟨w.heap.size, 0, none⟩) 1 1) [t] ∧ TabsOk n [t] := by
  obtain ⟨t, h1, h2, h3⟩ := h
  refine ⟨t, ⟨by simp, w.heap.size, 0, 1, rfl, fun k hk => ?_⟩, fun k hk => ?_⟩
  · have : k = 0 := by simpa using hk
    subst this
    exact ⟨r, cell_new _ _ _, by rw [tab_one]; exact (h1.ext (ext_box _ _ _)).rows⟩
  · have : k = 0 := by simpa using hk
    subst this
    rw [tab_one]
    exact ⟨h2, h3⟩

theorem pos_succ {K : List Int} {i : Nat} (h : ∀ j, j < i → 0 ≤ ix K j) (hs : 0 ≤ ix K i) : ∀ j, j < i + 1 → 0 ≤ ix K j := fun j hj => by
  rcases Nat.lt_succ_iff_lt_or_eq.1 hj with h1 | h1
  · exact h j h1
  · rw [h1]; exact hs

theorem all_parts {P : Value → Prop} {xs : List Value} {q : Nat} {r : Value} (h1 : ∀ u, u ∈ xs → P u) (h2 : P r) : ∀ u, u ∈ [r] ++ xs.drop q → P u := fun u hu => by
  rcases List.mem_append.1 hu with h | h
  · rw [List.mem_singleton.1 h]; exact h2
  · exact h1 u (List.mem_of_mem_drop h)

theorem all_parts3 {P : Value → Prop} {xs : List Value} {q : Nat} {r : Value} (h1 : ∀ u, u ∈ xs → P u) (h2 : P r) : ∀ u, u ∈ xs.take q ++ ([r] ++ xs.drop q) → P u := fun u hu => by
  rcases List.mem_append.1 hu with h | h
  · exact h1 u (List.mem_of_mem_take h)
  · exact all_parts h1 h2 u h

set_option maxRecDepth 100000 in
set_option maxHeartbeats 8000000 in
theorem l13Search_any (n : Nat) (T A : List (List Int)) (tv av : Value) (wB : World) (ht : Rows wB tv T) (ha : Rows wB av A) (hT : TableOk T) (hl : T.length = n) (hA : AutOk n A) :
    ∀ (f : Nat) (K : List Int) (xs : List Value) (kv ov : Value) (w : World), unset K ≤ f → Ext wB w → Ints w kv K → KOk n A.length K → CircL wB.heap.size n w ov xs → xs.length + A.length ^ f ≤ 2199023255552 →
      Calls Tryz.prog 95 #[tv, av, kv, ov] w (SearchPost wB.heap.size n (A.length ^ f) K xs w) := by
  subst hl
  have HTB := Lib.hid ht
  have HAB := Lib.hid ha
  obtain ⟨-, tb, tq, tc, rfl, htc⟩ := id ht
  obtain ⟨hal, ab, ao, ac, rfl, hac⟩ := id ha
  have h12 := hT.2.1
  have h1n := hT.1
  have HT := Lib.hid hT
  have HA := Lib.hid hA
  have HTC := Lib.hid htc
  have HAC := Lib.hid hac
  have hpos := hA.pos
  clear hT hA htc hac ht ha
  intro f
  induction f using Nat.strongRecOn with
  | _ f ih =>
  have IH := Lib.hid ih
  clear ih
  intro K xs kv ov w hu hX hk hK hO hB
  obtain ⟨-, kb, ko, kc, rfl, hki⟩ := id hk
  obtain ⟨oa, oc, rfl⟩ := hO.slice
  have hkl := hK.len
  rw [hkl]
  have HK := Lib.hid hK
  have HKI := Lib.hid hki
  have HKV := Lib.hid hk
  rw [hkl] at HKV
  have HX := Lib.hid hX
  have HO := Lib.hid hO
  have HU := Lib.hid hu
  have hxl42 : xs.length ≤ 2199023255552 := by omega
  have HB := Lib.hid hB
  have HP1 := Lib.hid (show 1 ≤ A.length ^ f from Nat.one_le_pow _ _ hpos)
  clear hu hX hk hK hO hki hB
  go_enter Tryz.func95, Tryz.ntmps95
  go_wp2_with fail
  go_loop [9] (fun x => ∃ i : Nat, i ≤ T.length ∧ x = .int .i64 i ∧ ∀ j, j < i → 0 ≤ ix K j) (fun x => T.length - (intOf x).toNat)
  case atStart => exact ⟨0, Nat.zero_le _, rfl, fun j hj => absurd hj (Nat.not_lt_zero _)⟩
  case round =>
    obtain ⟨i, hi, rfl, hall⟩ := hrel
    have HALL := Lib.hid hall
    clear hall
    by_cases hin : i < T.length
    case pos =>
      have hini : (i : Int) < (T.length : Int) := by omega
      have ci := HKI.out i (by omega)
      by_cases hs : 0 ≤ ix K i
      case pos =>
        have hsb : ¬ ix K i < 0 := by omega
        go_wp2
        go_round
        case rel => exact ⟨i + 1, by omega, by go_num, pos_succ HALL.out hs⟩
        case measure => simp [intOf]; omega
      case neg =>
        have hne : ¬ (i : Int) = (T.length : Int) := by omega
        have hun := unset_set HK.out (z := i) (v := 0) hin (by omega) (by omega)
        obtain ⟨f', rfl⟩ : ∃ f', f = f' + 1 := ⟨f - 1, by have := HU.out; omega⟩
        have HUN := Lib.hid (fun (a : Nat) => unset_set HK.out (z := i) (v := (a : Int)) hin (by omega) (by omega))
        obtain ⟨P, hP⟩ : ∃ P, P = A.length ^ f' := ⟨_, rfl⟩
        have HPP := Lib.hid hP
        have HB1 := Lib.hid (show xs.length + A.length * P ≤ 2199023255552 by have := HB.out; rw [Nat.pow_succ, ← hP, Nat.mul_comm] at this; exact this)
        have HPE := Lib.hid (show A.length ^ (f' + 1) = A.length * P by rw [Nat.pow_succ, ← hP, Nat.mul_comm])
        clear hun hP
        go_wp2_with fail
        go_loopw [3, 14] (fun o a wr => ∃ (k : Nat) (ys : List Value), k ≤ A.length ∧ a = .int .i64 k ∧ CircL wB.heap.size T.length wr o ys ∧ (xs ≠ [] → ys ≠ []) ∧ (1 ≤ k → Zer K → ys ≠ []) ∧ ys.length ≤ xs.length + k * P ∧ Ext w wr) (fun _ a _ => A.length - (intOf a).toNat)
        case atStart => exact ⟨0, xs, Nat.zero_le _, rfl, HO.out, id, (fun h => by omega), by omega, Ext.refl _⟩
        case round =>
          obtain ⟨k, ys, hk, rfl, ho, hy1, hy2, hyl, hx⟩ := hrel
          have HY := Lib.hid ho
          have HY1 := Lib.hid hy1
          have HY2 := Lib.hid hy2
          have HYL := Lib.hid hyl
          have HXR := Lib.hid hx
          obtain ⟨ya, yc, rfl⟩ := ho.slice
          clear ho hy1 hy2 hx hyl
          by_cases hkA : k < A.length
          case neg =>
            have hkk : k = A.length := by omega
            have hkf : ¬ (k : Int) < (A.length : Int) := by omega
            go_wp2
            go_ret
            exact ⟨_, ys, rfl, HY.out, HY1.out, HY2.out (by omega), by rw [HPE.out, ← hkk]; exact HYL.out, HXR.out⟩
          case pos =>
            have hkf : (k : Int) < (A.length : Int) := by omega
            have HM := Lib.hid (Nat.mul_le_mul_right P (show k + 1 ≤ A.length by omega))
            have HS := Lib.hid (show (k + 1) * P = k * P + P from Nat.succ_mul k P)
            go_wp2_with fail
            refine (l01Own_any K _ _ (HKV.out.ext HXR.out)).mono ?_
            rintro e w2 ⟨br, cr, rfl, hoo, hx2⟩
            rw [hkl]
            have hbr := hoo.1
            have hbr2 := hoo.2.1
            have cz := hoo.2.2.1 i (by omega)
            have fz := hoo.2.2.2 i (by omega)
            rw [Nat.zero_add] at cz fz
            have ho5 := hoo.put (j := i) (by omega) (k : Int)
            rw [Nat.zero_add] at ho5
            have HX2 := Lib.hid (hx2.setNew (p := ⟨br, i, none⟩) hbr (.int .i64 (k : Int)))
            have HI5 := Lib.hid (show Ints (w2.setCell ⟨br, i, none⟩ (.int .i64 (k : Int))) (.slice (some ⟨br, 0, none⟩) T.length cr) (K.set i (k : Int)) from by
              have := ho5.2.2.1.ints (by rw [List.length_set]; omega) cr
              rwa [List.length_set, hkl] at this)
            have HKS := Lib.hid (HK.out.set (z := i) (v := (k : Int)) hin (by omega) (by omega))
            have HXS := Lib.hid (HXR.out.trans HX2.out)
            clear hoo hx2 ho5
            go_wp2_with fail
            refine (l13Spread_any T.length T A (K.set i (k : Int)) _ _ _ _ (HTB.out.ext (HX.out.trans HXS.out)) (HAB.out.ext (HX.out.trans HXS.out)) HI5.out HT.out rfl HA.out HKS.out).mono ?_
            rintro e w3 ⟨v3, r, rfl, hr1, hr2, hx3⟩
            have HR2 := Lib.hid hr2
            have HX3 := Lib.hid (HXS.out.trans hx3)
            have HX3' := Lib.hid (HX2.out.trans hx3)
            clear hx3 hr2
            cases r with
            | false =>
              have HZN := Lib.hid (show 1 ≤ k + 1 → Zer K → ys ≠ [] from fun _ hZ => by
                by_cases h0 : 1 ≤ k
                · exact HY2.out h0 hZ
                · exfalso
                  have hk0 : k = 0 := by omega
                  subst hk0
                  have := HR2.out (hZ.set HK.out hin)
                  cases this)
              go_wp2
              go_roundw
              case rel => exact ⟨k + 1, ys, by omega, by go_num, HY.out.ext HX3'.out, HY1.out, HZN.out, by have := HYL.out; have := HS.out; omega, HX3.out⟩
              case measure => simp [intOf]; omega
            | true =>
              obtain ⟨K', hi3, hk3, hu3, hz3⟩ := hr1 rfl
              have HI3 := Lib.hid hi3
              have HK3 := Lib.hid hk3
              have HU3 := Lib.hid (show unset K' ≤ f' by have := HUN.out k; have := HU.out; omega)
              have HZ3 := Lib.hid hz3
              have HYB := Lib.hid (show ys.length + A.length ^ f' ≤ 2199023255552 by rw [← HPP.out]; have := HYL.out; have := HS.out; have := HM.out; have := HB1.out; omega)
              clear hi3 hk3 hu3 hz3 hr1
              go_wp2_with fail
              refine (IH.out f' (by omega) K' ys _ _ _ HU3.out (HX.out.trans HX3.out) HI3.out HK3.out (HY.out.ext HX3'.out) HYB.out).mono ?_
              rintro e w4 ⟨v4, zs, rfl, hc4, h41, h42, h43, hx4⟩
              rw [← HPP.out] at h43
              have HC4 := Lib.hid hc4
              have H41 := Lib.hid h41
              have H42 := Lib.hid h42
              have H43 := Lib.hid h43
              have HX4 := Lib.hid (HX3.out.trans hx4)
              have HZN := Lib.hid (show 1 ≤ k + 1 → Zer K → zs ≠ [] from fun _ hZ => by
                by_cases h0 : 1 ≤ k
                · exact H41.out (HY2.out h0 hZ)
                · have hk0 : k = 0 := by omega
                  subst hk0
                  exact H42.out (HZ3.out (hZ.set HK.out hin)))
              clear hc4 h41 h42 h43 hx4
              go_wp2
              go_roundw
              case rel => exact ⟨k + 1, zs, by omega, by go_num, HC4.out, fun h => H41.out (HY1.out h), HZN.out, by have := HYL.out; have := HS.out; have := H43.out; omega, HX4.out⟩
              case measure => simp [intOf]; omega
    case neg =>
      have hie : T.length = i := by omega
      subst hie
      have hini : ¬ (T.length : Int) < (T.length : Int) := by omega
      have HLF := Lib.hid (length_mkT T.length (circF T A K))
      have HCT := Lib.hid (circ_table HA.out HT.out rfl HK.out HALL.out)
      have hx0 : Ext w (w.alloc (.cells #[] 29)) := (Ext.refl _).alloc _
      have hg0 := GrowP.lit (e := 29) (base := w.heap.size) (w := w) (Nat.le_refl _)
      go_wp2_with fail
      go_loopw [10, 11] (fun v x wr => ∃ k : Nat, k ≤ T.length ∧ x = .int .i64 k ∧ GrowP 29 w.heap.size wr v ((mkT T.length (circF T A K)).take k) ∧ v ≠ .slice none 0 0 ∧ Ext w wr) (fun _ x _ => T.length - (intOf x).toNat)
      case atStart => exact ⟨0, Nat.zero_le _, rfl, hg0, by simp, hx0⟩
      case round =>
        clear hx0 hg0
        obtain ⟨k, hk, rfl, hg, hv, hx⟩ := hrel
        have HG := Lib.hid hg
        have HV := Lib.hid hv
        have HXR := Lib.hid hx
        clear hg hv hx
        by_cases hkl2 : k < T.length
        case pos =>
          have hki : (k : Int) < (T.length : Int) := by omega
          have hb := HK.out.bd k hkl2
          have h0 := HALL.out k hkl2
          obtain ⟨a, haE⟩ := Int.eq_ofNat_of_zero_le h0
          have haA : a < A.length := by omega
          have cy := HKI.out k (by omega)
          rw [haE] at cy
          have cy' := HXR.out.cell cy
          obtain ⟨d1, s1, m1, r1, l1, n1⟩ := (HTC.out.ext HX.out).get hkl2
          obtain ⟨d2, s2, m2, r2, l2, n2⟩ := (HAC.out.ext HX.out).get haA
          have hpa := HA.out.perm a haA
          rw [HT.out.len hkl2] at r1
          rw [hpa.1] at r2
          have i1 := l1.ints n1 m1
          have i2 := l2.ints n2 m2
          rw [HT.out.len hkl2] at i1
          rw [hpa.1] at i2
          have r1' := HXR.out.cell r1
          have r2' := HXR.out.cell r2
          have I1 := Lib.hid (i1.ext HXR.out)
          have I2 := Lib.hid (i2.ext HXR.out)
          have HPA := Lib.hid hpa
          have HROW := Lib.hid (show thenL (row A a) (row T k) = row (mkT T.length (circF T A K)) k by
            have := circF_row HA.out HT.out rfl HK.out hkl2 h0
            rwa [haE, Int.toNat_natCast] at this)
          have HTL := Lib.hid (show ((mkT T.length (circF T A K)).take k).length = k by rw [List.length_take, HLF.out]; omega)
          have HRL := Lib.hid (show (row (mkT T.length (circF T A K)) k).length = T.length by rw [row_mkT _ _ _ hkl2, length_partRow])
          have HZ := Lib.hid HXR.out.size
          have HGL := Lib.hid HG.out.lt
          have HTK := Lib.hid (HT.out.len hkl2)
          clear l1 l2 i1 i2 hpa haE h0 hb
          go_wp2_with fail
          go_region_held3 (fun w' => w'.cell? ⟨kb, ko + k, none⟩ = some (.int .i64 (a : Int)) ∧ w'.cell? ⟨ab, ao + a, none⟩ = some (.slice (some ⟨d2, s2, none⟩) T.length m2) ∧ w'.cell? ⟨tb, tq + k, none⟩ = some (.slice (some ⟨d1, s1, none⟩) T.length m1))
            ((refine ⟨?_, ?_, ?_⟩ <;> (repeat first | (with_reducible assumption) | (with_reducible refine Ext.cell hxI ?_) | (with_reducible refine Ext.cell hx4 ?_) |  (with_reducible exact kc_new) | ((with_reducible refine kc_newE ?_); (simp; done)) | ((with_reducible refine kc_newEa ?_); (simp; done)) | ((with_reducible refine kc_newEb ?_); (simp; done)) | (with_reducible apply kc_alloc) | (with_reducible apply kc_drewN) | (with_reducible apply kc_drew) | ((with_reducible refine kc_set ?_ ?_); (first | (simp only []; omega) | (simp; omega) | (focus (simp; done)))) | ((with_reducible refine kc_set2 ?_ ?_); (focus (simp; done))) | (with_reducible refine kc_same (v := .slice none 0 0) ?_))))
            (first
              | (go_at_call 123; refine (l01Then_any T.length _ _ _ _ _ (I2.out.ext (by (repeat first | (with_reducible exact Ext.refl _) | (with_reducible assumption) | (with_reducible apply Ext.drew) | (with_reducible apply kx_drewN) | (with_reducible apply kx_alloc) | ((with_reducible refine kx_set ?_ ?_); (first | (simp only []; omega) | (simp; omega) | (focus (simp; done)))) ))) (I1.out.ext (by (repeat first | (with_reducible exact Ext.refl _) | (with_reducible assumption) | (with_reducible apply Ext.drew) | (with_reducible apply kx_drewN) | (with_reducible apply kx_alloc) | ((with_reducible refine kx_set ?_ ?_); (first | (simp only []; omega) | (simp; omega) | (focus (simp; done)))) ))) HPA.out HTK.out h12).mono ?_; rw [HROW.out]; rintro e wI ⟨bI, cI, rfl, hoI, hxI⟩)
              | (refine step_append_row_p (by rfl) _ _ 24 29 (by rfl) Tryz.underlying24 infoSl (by rfl) w.heap.size _ _ (by rfl) HG.out (by (repeat first | (with_reducible exact Ext.refl _) | (with_reducible assumption) | (with_reducible apply Ext.drew) | (with_reducible apply kx_drewN) | (with_reducible apply kx_alloc) | ((with_reducible refine kx_set ?_ ?_); (first | (simp only []; omega) | (simp; omega) | (focus (simp; done)))) | (with_reducible refine Ext.trans ?_ hxI) )) _ _ _ _ (by rfl) (by (repeat first | (with_reducible assumption) |  (with_reducible exact kc_new) | ((with_reducible refine kc_newE ?_); (simp; done)) | ((with_reducible refine kc_newEa ?_); (simp; done)) | ((with_reducible refine kc_newEb ?_); (simp; done)) | (with_reducible apply kc_alloc) | (with_reducible apply kc_drewN) | (with_reducible apply kc_drew) | ((with_reducible refine kc_set ?_ ?_); (first | (simp only []; omega) | (simp; omega) | (focus (simp; done)))) | ((with_reducible refine kc_set2 ?_ ?_); (focus (simp; done))) | (with_reducible refine kc_same (v := .slice none 0 0) ?_))) (hoI.2.2.1.ext (by (repeat first | (with_reducible exact Ext.refl _) | (with_reducible assumption) | (with_reducible apply Ext.drew) | (with_reducible apply kx_drewN) | (with_reducible apply kx_alloc) | ((with_reducible refine kx_set ?_ ?_); (first | (simp only []; omega) | (simp; omega) | (focus (simp; done)))) ))) (by rw [HRL.out]; omega) (Nat.le_trans (Ext.size (by (repeat first | (with_reducible exact Ext.refl _) | (with_reducible assumption) | (with_reducible apply Ext.drew) | (with_reducible apply kx_drewN) | (with_reducible apply kx_alloc) | ((with_reducible refine kx_set ?_ ?_); (first | (simp only []; omega) | (simp; omega) | (focus (simp; done)))) ))) hoI.1) (by rw [HTL.out]; omega) HZ.out ?_; intro v' w4 hg4 hgr4 hv4 hat4; have hx4 : Ext w w4 := ext_grownBy (HXR.out.trans (by (repeat first | (with_reducible exact Ext.refl _) | (with_reducible assumption) | (with_reducible apply Ext.drew) | (with_reducible apply kx_drewN) | (with_reducible apply kx_alloc) | ((with_reducible refine kx_set ?_ ?_); (first | (simp only []; omega) | (simp; omega) | (focus (simp; done)))) | (with_reducible refine Ext.trans ?_ hxI) ))) hgr4 (fun q e => (HGL.out q e).1)))
          all_goals
            go_wp2
            go_roundw
            case rel => exact ⟨k + 1, by omega, by go_num, by rw [take_row _ _ (by rw [HLF.out]; exact hkl2)]; exact hg4, hv4, hx4⟩
            case measure => simp [intOf]; omega
        case neg =>
          have hkk : k = T.length := by omega
          have hki : ¬ (k : Int) < (T.length : Int) := by omega
          have HTF := (show (mkT T.length (circF T A K)).take k = mkT T.length (circF T A K) from List.take_of_length_le (by rw [HLF.out, hkk]; exact Nat.le_refl _))
          have hgr := HG.out
          rw [HTF] at hgr
          have HCA := Lib.hid (show CircAt wB.heap.size T.length wr _ from ⟨_, (hgr.rowsP (by rw [HLF.out]; omega) HV.out).weaken (fun q hq => Nat.le_trans HX.out.size hq), HCT.out, HLF.out⟩)
          clear hgr HTF HG HV HLF HCT
          obtain ⟨rb, ro, rc, hrv⟩ := HCA.out.shape
          subst hrv
          go_wp2_with fail
          obtain ⟨w1, rfl⟩ : ∃ z : World, z = wr := ⟨_, rfl⟩
          go_loopw [12] (fun x wr => ∃ q : Nat, q ≤ xs.length ∧ x = .int .i64 q ∧ Ext w1 wr) (fun x _ => xs.length - (intOf x).toNat)
          case atStart => exact ⟨0, Nat.zero_le _, rfl, Ext.refl _⟩
          case round =>
            obtain ⟨q, hq, rfl, hx⟩ := hrel
            have HXQ := Lib.hid hx
            have HXX := Lib.hid (HXR.out.trans hx)
            have HRA := Lib.hid (HCA.out.ext hx)
            have HOQ := Lib.hid (HO.out.ext HXX.out)
            clear hx
            rcases HO.out.cases with ⟨hnil, hxn⟩ | hnn
            · subst hxn
              simp only [Value.slice.injEq] at hnil
              obtain ⟨rfl, -, rfl⟩ := hnil
              have hq0 : q = 0 := by simpa using hq
              subst hq0
              have hqi : ¬ ((0 : Nat) : Int) < (([] : List Value).length : Int) := by simp
              have HXX0 := HXX
              have HRA0 := HRA
              have HOQ0 := HOQ
              have zb0 : wB.heap.size ≤ wr.heap.size := Nat.le_trans HX.out.size (HXX0.out).size
              have HRO := Lib.hid HRA0.out.one
              have hlit : ((wr.alloc (.cells #[(.slice (some ⟨rb, ro, none⟩) T.length rc)] 24)).alloc (.cells #[] 24)).ownsRow wr.heap.size 24 1 (.slice (some ⟨wr.heap.size + 1, 0, none⟩) 0 0) 0 [] := by
                have := ownsRow_lit (e := 24) (w := (wr.alloc (.cells #[(.slice (some ⟨rb, ro, none⟩) T.length rc)] 24))) (base := wr.heap.size) (by simp)
                rw [World.size_alloc] at this
                exact this
              have hx5 : Ext wr (wr.alloc (.cells #[(.slice (some ⟨rb, ro, none⟩) T.length rc)] 24)) := (Ext.refl _).alloc _
              have hc5 := cell_new wr (.slice (some ⟨rb, ro, none⟩) T.length rc) 24
              go_wp2_with (first | (at_builtin; refine wpList_append_none rfl _ _ 56 24 rfl Tryz.underlying56 infoSl2 wr.heap.size 1 1 rfl rfl (Nat.le_refl _) ?_) | (at_builtin; refine wpList_append_none rfl _ _ 56 24 rfl Tryz.underlying56 infoSl2 (wr.heap.size + 1) 0 0 rfl rfl (Nat.le_refl _) ?_) | (at_builtin; refine wpList_append_big rfl _ _ 56 24 rfl Tryz.underlying56 infoSl2 wr.heap.size (.slice (some ⟨wr.heap.size + 1, 0, none⟩) 0 0) 0 [] rfl hlit (by simp) wr.heap.size 0 1 1 [(.slice (some ⟨rb, ro, none⟩) T.length rc)] rfl rfl (fun i x hi => by cases i with | zero => (simp at hi; subst hi; exact kc_alloc hc5) | succ i => simp at hi) (fun u hu => by simp at hu; subst hu; exact HRO.out) (by omega) (by first | (simp; done) | (simp; omega)) ?_))
              intro v7 w7 hown7 hgr7 hv7
              have HX7 := Lib.hid (show Ext wr w7 from Ext.grown (hx5.alloc _) hgr7 hlit (Nat.le_refl _))
              have HG7 := Lib.hid (show CircL wB.heap.size T.length w7 v7 [(.slice (some ⟨rb, ro, none⟩) T.length rc)] from ⟨ownsRow_len (ownsRow_base hown7 zb0) (by simp), fun r hr => by rw [List.mem_singleton.1 hr]; exact HRA0.out.ext HX7.out, fun e => by simp at e⟩)
              clear hgr7 hown7
              go_wp2
              go_ret
              exact ⟨v7, [(.slice (some ⟨rb, ro, none⟩) T.length rc)], rfl, HG7.out, fun _ => by simp, fun _ => by simp, by have := HP1.out; simp; omega, HXX0.out.trans HX7.out⟩
            · obtain ⟨g, cap', hgE, hcap, hgb, hgs, hcl⟩ := ownsRow_parts HOQ.out.1 hnn
              simp only [Value.slice.injEq] at hgE
              obtain ⟨rfl, -, hcE⟩ := hgE
              subst hcE
              obtain ⟨cap, hcE⟩ : ∃ z, z = oc := ⟨_, rfl⟩
              subst hcE
              have HCE := Lib.hid hcl
              have HNN := Lib.hid hnn
              have hx1 : 1 ≤ xs.length := List.length_pos_iff.2 (fun e => hnn (HO.out.2.2 e))
              clear hcl hnn
              by_cases hql : q < xs.length
              case pos =>
                have hqi : (q : Int) < (xs.length : Int) := by omega
                obtain ⟨rq, hrq⟩ : ∃ rq, xs[q]? = some rq := ⟨_, List.getElem?_eq_getElem hql⟩
                have cq := HCE.out q rq hrq
                obtain ⟨t1, ht1, hk1⟩ := ((HOQ.out.2.1 rq (List.mem_of_getElem? hrq))).tabs 24
                obtain ⟨t2, ht2, hk2⟩ := (HRA.out.ext (ext_box wr rq 24)).tabs 24
                have HT1 := Lib.hid (ht1.ext (ext_box _ (.slice (some ⟨rb, ro, none⟩) T.length rc) 24))
                have HT2 := Lib.hid ht2
                rw [World.size_alloc] at HT2
                have HK1 := Lib.hid hk1
                have HK2 := Lib.hid hk2
                have HXL := Lib.hid ((ext_box wr rq 24).trans (ext_box _ (.slice (some ⟨rb, ro, none⟩) T.length rc) 24))
                clear ht1 ht2 hk1 hk2
                obtain ⟨qb, qo, qc, hrq2⟩ := (HOQ.out.2.1 rq (List.mem_of_getElem? hrq)).shape
                subst hrq2
                cases hbf : befG [t1] [t2] [t1].length 0 with
                | true =>
                  go_wp2_with (go_at_call 124; refine (l03Before_any [t1] [t2] _ _ T.length _ HT1.out HT2.out HK1.out HK2.out rfl h12 (by simp)).mono ?_; rintro e wz ⟨rfl, hd5⟩; rw [hbf])
                  have HX5 := Lib.hid (HXL.out.trans hd5.ext)
                  go_roundw
                  case rel => exact ⟨q + 1, by omega, by go_num, HXQ.out.trans HX5.out⟩
                  case measure => simp [intOf]; omega
                | false =>
                  have hca : ¬ cap = q := by omega
                  go_wp2_with (first | (go_at_call 124; refine (l03Before_any [t1] [t2] _ _ T.length _ HT1.out HT2.out HK1.out HK2.out rfl h12 (by simp)).mono ?_; rintro e wz ⟨rfl, hd5⟩; rw [hbf]; have HX5 := Lib.hid (HXL.out.trans hd5.ext); have HXX0 := Lib.hid (HXX.out.trans HX5.out); have HRA0 := Lib.hid (HRA.out.ext HX5.out); have HOQ0 := Lib.hid (HOQ.out.ext HX5.out); have HCE0 := Lib.hid (fun i x hi => HX5.out.cell (HCE.out i x hi)); have zb0 : wB.heap.size ≤ wz.heap.size := Nat.le_trans HX.out.size (HXX0.out).size; have HRO := Lib.hid HRA0.out.one; clear hd5) | (at_builtin; refine wpList_append_big rfl _ _ 56 24 rfl Tryz.underlying56 infoSl2 wz.heap.size (.slice (some ⟨wz.heap.size, 0, none⟩) 1 1) 1 [(.slice (some ⟨rb, ro, none⟩) T.length rc)] rfl (ownsRow_one (Nat.le_refl _)) (by simp) g q _ (xs.length - q) (xs.drop q) (by rw [List.length_drop]) rfl (fun i x hi => by rw [List.getElem?_drop] at hi; exact ((Ext.refl _).alloc _).cell (HCE0.out _ _ hi)) (fun u hu => (HOQ0.out.2.1 u (List.mem_of_mem_drop hu)).one) (by omega) (by simp) ?_))
                  intro v5 w5 hown5 hgr5 hv5
                  have hx5 : Ext wz w5 := Ext.grown ((Ext.refl _).alloc _) hgr5 (ownsRow_one (Nat.le_refl _)) (Nat.le_refl _)
                  obtain ⟨g5, cap5, rfl, hc5, hg5, hs5, hcl5⟩ := ownsRow_parts hown5 hv5
                  have HC5 := Lib.hid hcl5
                  have z5 := hx5.size
                  have HX5Q := Lib.hid hx5
                  clear hcl5 hgr5 hown5
                  go_wp2_with (at_builtin; refine wpList_append_big rfl _ _ 56 24 rfl Tryz.underlying56 infoSl2 w5.heap.size (.slice (some ⟨w5.heap.size, 0, none⟩) 0 0) 0 [] rfl (ownsRow_lit (Nat.le_refl _)) (by simp) g 0 cap q (xs.take q) (by rw [List.length_take]; omega) rfl (fun i x hi => by rw [Nat.zero_add]; have hi2 : xs[i]? = some x := (by rw [List.getElem?_take] at hi; split at hi <;> first | exact hi | cases hi); exact ((Ext.refl w5).alloc _).cell (HX5Q.out.cell (HCE0.out i x hi2))) (fun u hu => (HOQ0.out.2.1 u (List.mem_of_mem_take hu)).one) (by omega) (by simp) ?_)
                  intro v6 w6 hown6 hgr6 hv6
                  have hx6 : Ext w5 w6 := Ext.grown ((Ext.refl w5).alloc _) hgr6 (ownsRow_lit (Nat.le_refl _)) (Nat.le_refl _)
                  have z6 := hx6.size
                  have HX6Q := Lib.hid hx6
                  clear hgr6
                  go_wp2_with (at_builtin; refine wpList_append_big rfl _ _ 56 24 rfl Tryz.underlying56 infoSl2 w5.heap.size v6 _ _ rfl hown6 hv6 g5 0 cap5 _ ([(.slice (some ⟨rb, ro, none⟩) T.length rc)] ++ xs.drop q) (by rw [List.length_append, List.length_drop]; rfl) rfl (fun i x hi => by rw [Nat.zero_add]; exact HX6Q.out.cell (HC5.out i x hi)) (all_parts (fun u hu => (HOQ0.out.2.1 u hu).one) HRO.out) (by omega) (by omega) ?_)
                  intro v7 w7 hown7 hgr7 hv7
                  have HX7 := Lib.hid (show Ext wz w7 from HX5Q.out.trans (Ext.grown HX6Q.out hgr7 hown6 (Nat.le_refl _)))
                  have zz5 : wB.heap.size ≤ w5.heap.size := Nat.le_trans zb0 z5
                  have HG7 := Lib.hid (show CircL wB.heap.size T.length w7 v7 (xs.take q ++ ([(.slice (some ⟨rb, ro, none⟩) T.length rc)] ++ xs.drop q)) from ⟨ownsRow_len (ownsRow_base (hown7) zz5) (by simp; omega), all_parts3 (fun r hr => (HOQ0.out.2.1 r hr).ext HX7.out) (HRA0.out.ext HX7.out), fun e => by simp at e⟩)
                  clear hgr7 hown7
                  go_wp2
                  go_ret
                  exact ⟨v7, (xs.take q ++ ([(.slice (some ⟨rb, ro, none⟩) T.length rc)] ++ xs.drop q)), rfl, HG7.out, fun _ => by simp, fun _ => by simp, by have := HP1.out; simp; omega, HXX0.out.trans HX7.out⟩
              case neg =>
                have hqi : ¬ (q : Int) < (xs.length : Int) := by omega
                by_cases hca : cap = q
                case pos =>
                  subst hca
                  have HXX0 := HXX
                  have HRA0 := HRA
                  have HOQ0 := HOQ
                  have HCE0 := HCE
                  have zb0 : wB.heap.size ≤ wr.heap.size := Nat.le_trans HX.out.size (HXX0.out).size
                  have HRO := Lib.hid HRA0.out.one
                  have hlit : ((wr.alloc (.cells #[(.slice (some ⟨rb, ro, none⟩) T.length rc)] 24)).alloc (.cells #[] 24)).ownsRow wr.heap.size 24 1 (.slice (some ⟨wr.heap.size + 1, 0, none⟩) 0 0) 0 [] := by
                    have := ownsRow_lit (e := 24) (w := (wr.alloc (.cells #[(.slice (some ⟨rb, ro, none⟩) T.length rc)] 24))) (base := wr.heap.size) (by simp)
                    rw [World.size_alloc] at this
                    exact this
                  have hx5 : Ext wr (wr.alloc (.cells #[(.slice (some ⟨rb, ro, none⟩) T.length rc)] 24)) := (Ext.refl _).alloc _
                  have hc5 := cell_new wr (.slice (some ⟨rb, ro, none⟩) T.length rc) 24
                  go_wp2_with (at_builtin; refine wpList_append_big rfl _ _ 56 24 rfl Tryz.underlying56 infoSl2 wr.heap.size (.slice (some ⟨wr.heap.size + 1, 0, none⟩) 0 0) 0 [] rfl hlit (by simp) g 0 cap cap (xs.take cap) (by rw [List.length_take]; omega) rfl (fun i x hi => by rw [Nat.zero_add]; have hi2 : xs[i]? = some x := (by rw [List.getElem?_take] at hi; split at hi <;> first | exact hi | cases hi); exact ((Ext.refl _).alloc _).cell (hx5.cell (HCE0.out i x hi2))) (fun u hu => (HOQ0.out.2.1 u (List.mem_of_mem_take hu)).one) (by omega) (by first | (simp; done) | (simp; omega)) ?_)
                  intro v6 w6 hown6 hgr6 hv6
                  have hx6 : Ext wr w6 := Ext.grown (hx5.alloc _) hgr6 hlit (Nat.le_refl _)
                  have hc6 : w6.cell? ⟨wr.heap.size, 0, none⟩ = some (.slice (some ⟨rb, ro, none⟩) T.length rc) := by
                    rw [hgr6.cell_far _ (by simp; omega) (by simp [Value.ownBlock])]
                    exact kc_alloc hc5
                  have z6 := hx6.size
                  clear hgr6
                  go_wp2_with (at_builtin; refine wpList_append_big rfl _ _ 56 24 rfl Tryz.underlying56 infoSl2 wr.heap.size v6 _ _ rfl hown6 hv6 wr.heap.size 0 1 1 [(.slice (some ⟨rb, ro, none⟩) T.length rc)] rfl rfl (fun i x hi => by cases i with | zero => (simp at hi; subst hi; exact hc6) | succ i => simp at hi) (fun u hu => by simp at hu; subst hu; exact HRO.out) (by omega) (by omega) ?_)
                  intro v7 w7 hown7 hgr7 hv7
                  have HX7 := Lib.hid (show Ext wr w7 from Ext.grown hx6 hgr7 hown6 (Nat.le_refl _))
                  have hdr : xs.drop cap = [] := List.drop_of_length_le (by omega)
                  have HG7 := Lib.hid (show CircL wB.heap.size T.length w7 v7 (xs.take cap ++ ([(.slice (some ⟨rb, ro, none⟩) T.length rc)] ++ xs.drop cap)) from ⟨ownsRow_len (ownsRow_base (by rw [hdr]; exact hown7) zb0) (by simp; omega), all_parts3 (fun r hr => (HOQ0.out.2.1 r hr).ext HX7.out) (HRA0.out.ext HX7.out), fun e => by simp at e⟩)
                  clear hgr7 hown7
                  go_wp2
                  go_ret
                  exact ⟨v7, (xs.take cap ++ ([(.slice (some ⟨rb, ro, none⟩) T.length rc)] ++ xs.drop cap)), rfl, HG7.out, fun _ => by simp, fun _ => by simp, by have := HP1.out; simp; omega, HXX0.out.trans HX7.out⟩
                case neg =>
                  have HXX0 := HXX
                  have HRA0 := HRA
                  have HOQ0 := HOQ
                  have HCE0 := HCE
                  have zb0 : wB.heap.size ≤ wr.heap.size := Nat.le_trans HX.out.size (HXX0.out).size
                  have HRO := Lib.hid HRA0.out.one
                  go_wp2_with ((at_builtin; refine wpList_append_big rfl _ _ 56 24 rfl Tryz.underlying56 infoSl2 wr.heap.size (.slice (some ⟨wr.heap.size, 0, none⟩) 1 1) 1 [(.slice (some ⟨rb, ro, none⟩) T.length rc)] rfl (ownsRow_one (Nat.le_refl _)) (by simp) g q _ (xs.length - q) (xs.drop q) (by rw [List.length_drop]) rfl (fun i x hi => by rw [List.getElem?_drop] at hi; exact ((Ext.refl _).alloc _).cell (HCE0.out _ _ hi)) (fun u hu => (HOQ0.out.2.1 u (List.mem_of_mem_drop hu)).one) (by omega) (by simp) ?_))
                  intro v5 w5 hown5 hgr5 hv5
                  have hx5 : Ext wr w5 := Ext.grown ((Ext.refl _).alloc _) hgr5 (ownsRow_one (Nat.le_refl _)) (Nat.le_refl _)
                  obtain ⟨g5, cap5, rfl, hc5, hg5, hs5, hcl5⟩ := ownsRow_parts hown5 hv5
                  have HC5 := Lib.hid hcl5
                  have z5 := hx5.size
                  have HX5Q := Lib.hid hx5
                  clear hcl5 hgr5 hown5
                  go_wp2_with (at_builtin; refine wpList_append_big rfl _ _ 56 24 rfl Tryz.underlying56 infoSl2 w5.heap.size (.slice (some ⟨w5.heap.size, 0, none⟩) 0 0) 0 [] rfl (ownsRow_lit (Nat.le_refl _)) (by simp) g 0 cap q (xs.take q) (by rw [List.length_take]; omega) rfl (fun i x hi => by rw [Nat.zero_add]; have hi2 : xs[i]? = some x := (by rw [List.getElem?_take] at hi; split at hi <;> first | exact hi | cases hi); exact ((Ext.refl w5).alloc _).cell (HX5Q.out.cell (HCE0.out i x hi2))) (fun u hu => (HOQ0.out.2.1 u (List.mem_of_mem_take hu)).one) (by omega) (by simp) ?_)
                  intro v6 w6 hown6 hgr6 hv6
                  have hx6 : Ext w5 w6 := Ext.grown ((Ext.refl w5).alloc _) hgr6 (ownsRow_lit (Nat.le_refl _)) (Nat.le_refl _)
                  have z6 := hx6.size
                  have HX6Q := Lib.hid hx6
                  clear hgr6
                  go_wp2_with (at_builtin; refine wpList_append_big rfl _ _ 56 24 rfl Tryz.underlying56 infoSl2 w5.heap.size v6 _ _ rfl hown6 hv6 g5 0 cap5 _ ([(.slice (some ⟨rb, ro, none⟩) T.length rc)] ++ xs.drop q) (by rw [List.length_append, List.length_drop]; rfl) rfl (fun i x hi => by rw [Nat.zero_add]; exact HX6Q.out.cell (HC5.out i x hi)) (all_parts (fun u hu => (HOQ0.out.2.1 u hu).one) HRO.out) (by omega) (by omega) ?_)
                  intro v7 w7 hown7 hgr7 hv7
                  have HX7 := Lib.hid (show Ext wr w7 from HX5Q.out.trans (Ext.grown HX6Q.out hgr7 hown6 (Nat.le_refl _)))
                  have zz5 : wB.heap.size ≤ w5.heap.size := Nat.le_trans zb0 z5
                  have HG7 := Lib.hid (show CircL wB.heap.size T.length w7 v7 (xs.take q ++ ([(.slice (some ⟨rb, ro, none⟩) T.length rc)] ++ xs.drop q)) from ⟨ownsRow_len (ownsRow_base (hown7) zz5) (by simp; omega), all_parts3 (fun r hr => (HOQ0.out.2.1 r hr).ext HX7.out) (HRA0.out.ext HX7.out), fun e => by simp at e⟩)
                  clear hgr7 hown7
                  go_wp2
                  go_ret
                  exact ⟨v7, (xs.take q ++ ([(.slice (some ⟨rb, ro, none⟩) T.length rc)] ++ xs.drop q)), rfl, HG7.out, fun _ => by simp, fun _ => by simp, by have := HP1.out; simp; omega, HXX0.out.trans HX7.out⟩
end Go.Proofs.YthlafeefjonkdaaGreatDoor


namespace Go.Proofs.YthlafeefjonkdaaGreatDoor
set_option linter.unusedVariables false
set_option linter.unusedSimpArgs false
open Go.RowKit

@[irreducible] def prodF (a b : List (List Int)) (x y : Nat) : Int := ent a (x / b.length) (y / b.length) * (b.length : Int) + ent b (x % b.length) (y % b.length)
theorem prodF_def (a b : List (List Int)) (x y : Nat) : ent a (x / b.length) (y / b.length) * (b.length : Int) + ent b (x % b.length) (y % b.length) = prodF a b x y := by unfold prodF; rfl
theorem divs {k n m : Nat} (h : k < n * m) : ∃ q r : Nat, (k : Int) / (m : Int) = (q : Int) ∧ (k : Int) % (m : Int) = (r : Int) ∧ q < n ∧ r < m ∧ k / m = q ∧ k % m = r := by
  have hm : 0 < m := by
    rcases Nat.eq_zero_or_pos m with h0 | h0
    · subst h0; simp at h
    · exact h0
  exact ⟨k / m, k % m, by simp, by simp, (Nat.div_lt_iff_lt_mul hm).2 h, Nat.mod_lt _ hm, rfl, rfl⟩
theorem tdivs {k m : Nat} {q r : Nat} (h1 : (k : Int) / (m : Int) = (q : Int)) (h2 : (k : Int) % (m : Int) = (r : Int)) : Int.tdiv (k : Int) (m : Int) = (q : Int) ∧ Int.tmod (k : Int) (m : Int) = (r : Int) := by
  rw [Int.tdiv_eq_ediv_of_nonneg (by omega), Int.tmod_eq_emod_of_nonneg (by omega)]
  exact ⟨h1, h2⟩
theorem mul_bd {a m : Int} (h0 : 0 ≤ a) (h1 : a < 12) (h2 : 0 ≤ m) (h3 : m ≤ 12) : 0 ≤ a * m ∧ a * m ≤ 144 := by
  constructor
  · exact Int.mul_nonneg h0 h2
  · calc a * m ≤ 12 * m := Int.mul_le_mul_of_nonneg_right (by omega) h2
      _ ≤ 12 * 12 := Int.mul_le_mul_of_nonneg_left h3 (by decide)
theorem cast_mul' (a b N : Nat) (h : N = a * b) : (a : Int) * (b : Int) = (N : Int) := by subst h; simp
@[irreducible] def prodT (a b : List (List Int)) : List (List Int) := mkT (a.length * b.length) (prodF a b)
theorem prodT_def (a b : List (List Int)) : prodT a b = mkT (a.length * b.length) (prodF a b) := by unfold prodT; rfl
theorem length_prodT (a b : List (List Int)) : (prodT a b).length = a.length * b.length := by rw [prodT_def, length_mkT]
theorem small_prodT {a b : List (List Int)} (h : a.length * b.length ≤ 12) : Small (prodT a b) := by rw [prodT_def]; exact small_mkT (by omega) _
end Go.Proofs.YthlafeefjonkdaaGreatDoor


namespace Go.Proofs.YthlafeefjonkdaaGreatDoor
set_option linter.unusedVariables false
set_option linter.unusedSimpArgs false
open Go.RowKit

@[irreducible] def dblF (n s : Nat) (x y : Nat) : Int :=
  if x < n ∧ y < n then ((x : Int) + (y : Int)) % n
  else if x < n then (n : Int) + ((x : Int) + (y : Int)) % n
  else if y < n then (n : Int) + ((x : Int) - (y : Int)) % n
  else ((x : Int) % n - (y : Int) % n + n + s) % n
theorem dblF_1 {n s x y : Nat} (hx : x < n) (hy : y < n) : dblF n s x y = ((x : Int) + (y : Int)) % n := by unfold dblF; rw [if_pos ⟨hx, hy⟩]
theorem dblF_2 {n s x y : Nat} (hx : x < n) (hy : ¬ y < n) : dblF n s x y = (n : Int) + ((x : Int) + (y : Int)) % n := by unfold dblF; rw [if_neg (fun h => hy h.2), if_pos hx]
theorem dblF_3 {n s x y : Nat} (hx : ¬ x < n) (hy : y < n) : dblF n s x y = (n : Int) + ((x : Int) - (y : Int)) % n := by unfold dblF; rw [if_neg (fun h => hx h.1), if_neg hx, if_pos hy]
theorem dblF_4 {n s x y : Nat} (hx : ¬ x < n) (hy : ¬ y < n) : dblF n s x y = ((x : Int) % n - (y : Int) % n + n + s) % n := by unfold dblF; rw [if_neg (fun h => hx h.1), if_neg hx, if_neg hy]

end Go.Proofs.YthlafeefjonkdaaGreatDoor


namespace Go.Proofs.YthlafeefjonkdaaGreatDoor
set_option linter.unusedVariables false
set_option linter.unusedSimpArgs false

@[irreducible] def cyT (n : Nat) : List (List Int) := mkT n (cycF n)
@[irreducible] def dbT (n s : Nat) : List (List Int) := mkT (2 * n) (dblF n s)
def evenE : List (List Int) := [[1, 2, 0, 3], [0, 2, 3, 1]]
theorem cyT_eq (n : Nat) : mkT n (cycF n) = cyT n := by unfold cyT; rfl
theorem dbT_eq (n s : Nat) : mkT (2 * n) (dblF n s) = dbT n s := by unfold dbT; rfl
theorem prodT_eq (a b : List (List Int)) {N : Nat} (h : N = a.length * b.length) : mkT N (prodF a b) = prodT a b := by subst h; rw [prodT_def]
theorem length_cyT (n : Nat) : (cyT n).length = n := by rw [← cyT_eq, length_mkT]
theorem length_dbT (n s : Nat) : (dbT n s).length = 2 * n := by rw [← dbT_eq, length_mkT]
theorem small_cyT {n : Nat} (h : n ≤ 12) : Small (cyT n) := by rw [← cyT_eq]; exact small_mkT (by omega) _
theorem small_dbT {n s : Nat} (h : n ≤ 12) : Small (dbT n s) := by rw [← dbT_eq]; exact small_mkT (by omega) _
theorem cy2_ok : TableOk (cyT 2) := by decide +kernel
theorem cy3_ok : TableOk (cyT 3) := by decide +kernel
theorem cy4_ok : TableOk (cyT 4) := by decide +kernel
theorem cy6_ok : TableOk (cyT 6) := by decide +kernel
theorem four_ok : TableOk (prodT (cyT 2) (cyT 2)) := by decide +kernel
theorem even_sys : sysB ((4 : Nat) : Int) evenE = true := by decide +kernel
theorem even_len : (genA evenE 4).length = 12 := by decide +kernel
noncomputable def namedL (n : Nat) : List (List (List Int)) :=
  match n with
  | 4 => [cyT 4, prodT (cyT 2) (cyT 2)]
  | 6 => [cyT 6, dbT 3 0]
  | 8 => [cyT 8, prodT (cyT 2) (cyT 4), prodT (cyT 2) (prodT (cyT 2) (cyT 2)), dbT 4 0, dbT 4 2]
  | 9 => [cyT 9, prodT (cyT 3) (cyT 3)]
  | 10 => [cyT 10, dbT 5 0]
  | 12 => [cyT 12, prodT (cyT 2) (cyT 6), dbT 6 0, dbT 6 3, gopV ((4 : Nat) : Int) evenE]
  | n => [cyT n]
theorem even_gop : gopV ((4 : Nat) : Int) evenE = mkT (gopS ((4 : Nat) : Int) evenE).length (gopE (gopS ((4 : Nat) : Int) evenE)) := (gop_yes even_sys (by rw [Int.toNat_natCast, even_len]; omega)).1
theorem even_S : gopS ((4 : Nat) : Int) evenE = sortS (genA evenE 4) := by unfold gopS; rw [Int.toNat_natCast]
theorem even_Sl : (gopS ((4 : Nat) : Int) evenE).length = 12 := by rw [even_S, length_sortS, even_len]
theorem length_even : (gopV ((4 : Nat) : Int) evenE).length = 12 := by rw [even_gop, length_mkT, even_Sl]
theorem small_even : Small (gopV ((4 : Nat) : Int) evenE) := by rw [even_gop]; exact small_mkT (by rw [even_Sl]; omega) _
end Go.Proofs.YthlafeefjonkdaaGreatDoor


namespace Go.Proofs.YthlafeefjonkdaaGreatDoor
set_option linter.unusedVariables false
set_option linter.unusedSimpArgs false

def even12 : List (List Int) := [[0, 1, 2, 3], [0, 2, 3, 1], [0, 3, 1, 2], [1, 0, 3, 2], [1, 2, 0, 3], [1, 3, 2, 0], [2, 0, 1, 3], [2, 1, 3, 0], [2, 3, 0, 1], [3, 0, 2, 1], [3, 1, 0, 2], [3, 2, 1, 0]]
theorem even12_eq : gopS ((4 : Nat) : Int) evenE = even12 := by
  rw [even_S]
  exact (sortS_eq (by decide +kernel) (by decide +kernel) (by decide +kernel)).symm
@[irreducible] def evT : List (List Int) := mkT 12 (gopE even12)
theorem even_evT : gopV ((4 : Nat) : Int) evenE = evT := by
  rw [even_gop, even_Sl, even12_eq]
  unfold evT
  rfl
theorem evT_ok : groupB evT = true ∧ evT.length = 12 := by decide +kernel
theorem named_check : ([cyT 1, cyT 2, cyT 3, cyT 4, cyT 5, cyT 6, cyT 7, cyT 8, cyT 9, cyT 10, cyT 11, cyT 12, prodT (cyT 2) (cyT 2), dbT 3 0, prodT (cyT 2) (cyT 4), prodT (cyT 2) (prodT (cyT 2) (cyT 2)), dbT 4 0, dbT 4 2, prodT (cyT 3) (cyT 3), dbT 5 0, prodT (cyT 2) (cyT 6), dbT 6 0, dbT 6 3].all fun t => groupB t) = true := by decide +kernel
theorem named_group {t : List (List Int)} (h : t ∈ [cyT 1, cyT 2, cyT 3, cyT 4, cyT 5, cyT 6, cyT 7, cyT 8, cyT 9, cyT 10, cyT 11, cyT 12, prodT (cyT 2) (cyT 2), dbT 3 0, prodT (cyT 2) (cyT 4), prodT (cyT 2) (prodT (cyT 2) (cyT 2)), dbT 4 0, dbT 4 2, prodT (cyT 3) (cyT 3), dbT 5 0, prodT (cyT 2) (cyT 6), dbT 6 0, dbT 6 3]) : groupB t = true := List.all_eq_true.1 named_check t h
theorem namedL_mem {n : Nat} (h1 : 1 ≤ n) (h12 : n ≤ 12) {t : List (List Int)} (ht : t ∈ namedL n) : groupB t = true ∧ t.length = n := by
  have h : n = 1 ∨ n = 2 ∨ n = 3 ∨ n = 4 ∨ n = 5 ∨ n = 6 ∨ n = 7 ∨ n = 8 ∨ n = 9 ∨ n = 10 ∨ n = 11 ∨ n = 12 := by omega
  rcases h with rfl | rfl | rfl | rfl | rfl | rfl | rfl | rfl | rfl | rfl | rfl | rfl <;> simp only [namedL, List.mem_cons, List.not_mem_nil, or_false] at ht
  all_goals (first | (rcases ht with rfl | rfl | rfl | rfl | rfl) | (rcases ht with rfl | rfl) | subst ht)
  all_goals first
    | (rw [even_evT]; exact evT_ok)
    | exact ⟨named_group (by simp), by simp [length_cyT, length_dbT, length_prodT]⟩
theorem namedL_ok {n : Nat} (h1 : 1 ≤ n) (h12 : n ≤ 12) {i : Nat} (hi : i < (namedL n).length) : groupB (tab (namedL n) i) = true ∧ (tab (namedL n) i).length = n :=
  namedL_mem h1 h12 (by rw [tab_eq, List.getD_eq_getElem?_getD, List.getElem?_eq_getElem hi]; exact List.getElem_mem hi)
theorem namedL_len0 (n : Nat) : 1 ≤ (namedL n).length ∧ (namedL n).length ≤ 5 := by
  unfold namedL
  split <;> simp
end Go.Proofs.YthlafeefjonkdaaGreatDoor


namespace Go.Proofs.YthlafeefjonkdaaGreatDoor
set_option linter.unusedVariables false
set_option linter.unusedSimpArgs false

def allN : Nat → (Nat → Bool) → Bool
  | 0, _ => true
  | k + 1, p => p k && allN k p
theorem allN_iff {p : Nat → Bool} : ∀ {k : Nat}, allN k p = true ↔ ∀ x, x < k → p x = true
  | 0 => by simp [allN]
  | k + 1 => by
    unfold allN
    rw [Bool.and_eq_true, allN_iff]
    constructor
    · intro h; exact all_succ h.2 h.1
    · intro h; exact ⟨h k (by omega), fun x hx => h x (by omega)⟩
def rA (n x y : Nat) : Nat := (x + y) % n
def rC (n k x y : Nat) : Nat := (x + y + k * x * y) % n
def okP (n : Nat) (g : Nat → Nat → Nat) : Bool := allN n fun x => allN n fun y => allN y fun z => !(Nat.beq (g x z) (g x y))
def okU (n : Nat) (g : Nat → Nat → Nat) : Bool := allN n fun x => Nat.beq (g 0 x) x && Nat.beq (g x 0) x
def okA (n : Nat) (g : Nat → Nat → Nat) : Bool := allN n fun x => allN n fun y => allN n fun z => Nat.beq (g (g x y) z) (g x (g y z))
def okB (n : Nat) (g : Nat → Nat → Nat) : Bool := allN n fun x => allN n fun y => allN n fun z => Nat.beq (g x (rA n y z)) (rA n (rA n (g x y) ((n - x) % n)) (g x z))
def isPr (p : Nat) : Bool := Nat.ble 2 p && allN p fun d => Nat.ble d 1 || !(Nat.beq (p % d) 0)
def badP (n k p : Nat) : Bool := isPr p && Nat.beq (n % p) 0 && !(Nat.beq (k % p) 0)
def goodR (n k : Nat) : Bool := allN (n + 1) fun p => !(badP n k p)
def ringChk (n k : Nat) : Bool := (Nat.beq (if okP n (rC n k) then 1 else 0) (if goodR n k then 1 else 0)) && okU n (rC n k) && (okA n (rC n k) && okB n (rC n k))
set_option maxRecDepth 100000 in
theorem ring_all : allN 13 (fun n => allN n fun k => ringChk n k) = true := by decide +kernel

theorem ring_one {n k : Nat} (h2 : n ≤ 12) (hk : k < n) : (okP n (rC n k) = goodR n k) ∧ okU n (rC n k) = true ∧ okA n (rC n k) = true ∧ okB n (rC n k) = true := by
  have := allN_iff.1 (allN_iff.1 ring_all n (by omega)) k hk
  unfold ringChk at this
  simp only [Bool.and_eq_true] at this
  obtain ⟨⟨h1, h2⟩, h3, h4⟩ := this
  refine ⟨?_, h2, h3, h4⟩
  have h1 := Nat.eq_of_beq_eq_true h1
  cases e : okP n (rC n k) <;> cases e' : goodR n k <;> rw [e, e'] at h1 <;> simp at h1 <;> rfl

@[irreducible] def ringF (n k x y : Nat) : Int := ((x : Int) + (y : Int) + (k : Int) * (x : Int) * (y : Int)) % (n : Int)
theorem ringF_def (n k x y : Nat) : ringF n k x y = ((x : Int) + (y : Int) + (k : Int) * (x : Int) * (y : Int)) % (n : Int) := by unfold ringF; rfl
theorem ringF_nat (n k x y : Nat) : ringF n k x y = ((rC n k x y : Nat) : Int) := by rw [ringF_def]; unfold rC; simp
theorem cycF_nat (n x y : Nat) : cycF n x y = ((rA n x y : Nat) : Int) := by rw [cycF_def]; unfold rA; simp
theorem rC_lt {n k x y : Nat} (h : 0 < n) : rC n k x y < n := Nat.mod_lt _ h
theorem rA_rC (n x y : Nat) : rA n x y = rC n 0 x y := by unfold rA rC; simp

theorem table_nat {n : Nat} {f : Nat → Nat → Int} {g : Nat → Nat → Nat} (h1 : 1 ≤ n) (h2 : n ≤ 12) (hf : ∀ x y, f x y = ((g x y : Nat) : Int)) (hg : ∀ x y, g x y < n) : TableOk (mkT n f) := by
  refine ⟨by rw [length_mkT]; exact h1, by rw [length_mkT]; exact h2, fun x hx => ?_⟩
  rw [length_mkT] at hx ⊢
  refine ⟨length_row_mkT n f x hx, fun y hy => ?_⟩
  rw [ent_mkT _ _ _ _ hx hy, hf]
  have := hg x y
  omega
theorem perm_nat {n : Nat} {f : Nat → Nat → Int} {g : Nat → Nat → Nat} (hf : ∀ x y, f x y = ((g x y : Nat) : Int)) (hg : ∀ x y, g x y < n) : PermRows (mkT n f) n ↔ okP n g = true := by
  unfold okP
  rw [allN_iff]
  constructor
  · intro h x hx
    rw [allN_iff]
    intro y hy
    rw [allN_iff]
    intro z hz
    have hp := (h x hx).2
    rw [length_row_mkT n f x hx] at hp
    have := hp y hy z hz
    rw [ent_def, ent_def, ent_mkT _ _ _ _ hx hy, ent_mkT _ _ _ _ hx (by omega), hf, hf] at this
    cases e : Nat.beq (g x z) (g x y) with
    | false => rfl
    | true => exact absurd (by rw [Nat.eq_of_beq_eq_true e]) this
  · intro h x hx
    refine ⟨fun y hy => ?_, fun y hy z hz => ?_⟩
    · rw [length_row_mkT n f x hx] at hy ⊢
      rw [ent_def, ent_mkT _ _ _ _ hx hy, hf]
      have := hg x y
      omega
    · rw [length_row_mkT n f x hx] at hy
      rw [ent_def, ent_def, ent_mkT _ _ _ _ hx hy, ent_mkT _ _ _ _ hx (by omega), hf, hf]
      have := allN_iff.1 (allN_iff.1 (h x hx) y hy) z hz
      intro e
      have e : g x z = g x y := by omega
      rw [e] at this
      simp at this
theorem group_nat {n : Nat} {f : Nat → Nat → Int} {g : Nat → Nat → Nat} (h1 : 1 ≤ n) (h2 : n ≤ 12) (hf : ∀ x y, f x y = ((g x y : Nat) : Int)) (hg : ∀ x y, g x y < n) (hU : okU n g = true) (hA : okA n g = true) : GroupOk (mkT n f) ↔ okP n g = true := by
  unfold GroupOk
  rw [length_mkT, perm_nat hf hg]
  constructor
  · intro h; exact h.2.1
  · intro h
    refine ⟨table_nat h1 h2 hf hg, h, fun x hx => ⟨⟨?_, ?_⟩, fun y hy z hz => ?_⟩⟩
    · have := allN_iff.1 hU x hx
      rw [Bool.and_eq_true] at this
      rw [ent_mkT _ _ _ _ (by omega) hx, hf, Nat.eq_of_beq_eq_true this.1]
    · have := allN_iff.1 hU x hx
      rw [Bool.and_eq_true] at this
      rw [ent_mkT _ _ _ _ hx (by omega), hf, Nat.eq_of_beq_eq_true this.2]
    · have := Nat.eq_of_beq_eq_true (allN_iff.1 (allN_iff.1 (allN_iff.1 hA x hx) y hy) z hz)
      have a1 := hg x y
      have a2 := hg y z
      rw [ent_mkT _ _ _ _ hx hy, ent_mkT _ _ _ _ hy hz, hf, hf, Int.toNat_natCast, Int.toNat_natCast, ent_mkT _ _ _ _ a1 hz, ent_mkT _ _ _ _ hx a2, hf, hf, this]
theorem group_cyc {n : Nat} (h1 : 1 ≤ n) (h2 : n ≤ 12) : GroupOk (mkT n (cycF n)) := by
  obtain ⟨a, b, c, d⟩ := ring_one (n := n) (k := 0) h2 (by omega)
  have hf : ∀ x y, cycF n x y = ((rC n 0 x y : Nat) : Int) := fun x y => by rw [cycF_nat, rA_rC]
  rw [group_nat h1 h2 hf (fun x y => rC_lt (by omega)) b c, a]
  unfold goodR
  rw [allN_iff]
  intro p hp
  unfold badP
  simp
end Go.Proofs.YthlafeefjonkdaaGreatDoor


namespace Go.Proofs.YthlafeefjonkdaaGreatDoor
set_option linter.unusedVariables false
set_option linter.unusedSimpArgs false

theorem iso_cyc {n : Nat} {p q : List Int} (h2 : 2 ≤ n) (h12 : n ≤ 12) (hp : IsoOk n [mkT n (cycF n)] [mkT n (cycF n)] p) (hq : IsoOk n [mkT n (cycF n)] [mkT n (cycF n)] q) (h : ix p 1 = ix q 1) : p = q := by
  have hG : GroupOk (mkT n (cycF n)) := group_cyc (by omega) h12
  have hl := length_mkT n (cycF n)
  have z : ∀ r, IsoOk n [mkT n (cycF n)] [mkT n (cycF n)] r → ix r 0 = 0 := fun r hr =>
    hr.zero (by simp) (by rw [tab_one]; exact hG) (by rw [tab_one]; exact hG) (by rw [tab_one]; exact hl) (by rw [tab_one]; exact hl)
  have key : ∀ k, k < n → ix p k = ix q k := by
    intro k
    induction k with
    | zero => intro _; rw [z p hp, z q hq]
    | succ k ih =>
      intro hk
      have e : (ent (tab [mkT n (cycF n)] 0) k 1).toNat = k + 1 := by
        rw [tab_one, ent_mkT _ _ _ _ (by omega) (by omega), cycF_def]
        rw [show ((k : Int) + ((1 : Nat) : Int)) % (n : Int) = ((k + 1 : Nat) : Int) from Int.emod_eq_of_lt (by omega) (by omega)]
        exact Int.toNat_natCast _
      have h1 := hp.2.2 0 (by simp) k (by omega) 1 (by omega)
      have h2 := hq.2.2 0 (by simp) k (by omega) 1 (by omega)
      rw [e] at h1 h2
      rw [h1, h2, ih (by omega), h]
  exact ix_ext (by rw [hp.1, hq.1]) fun i hi => key i (by rw [hp.1] at hi; exact hi)

theorem auto_cyc {n : Nat} (h2 : 2 ≤ n) (h12 : n ≤ 12) : (isoL n [mkT n (cycF n)] [mkT n (cycF n)]).length ≤ n := by
  have hnd : (isoL n [mkT n (cycF n)] [mkT n (cycF n)]).Nodup := by
    have := sorted_isoL n [mkT n (cycF n)] [mkT n (cycF n)]
    refine this.imp fun h e => ?_
    obtain ⟨d, -, h2⟩ := h
    rw [e] at h2
    omega
  have := len_parts 1 1 n (isoL n [mkT n (cycF n)] [mkT n (cycF n)]) (fun p hp => by have := (mem_isoL.1 hp).bd (x := 1) (by omega); omega) (fun v _ => by
    have hn : (part (isoL n [mkT n (cycF n)] [mkT n (cycF n)]) 1 v).Nodup := by unfold part; exact nodup_filter _ hnd
    have hM : ∀ p, p ∈ part (isoL n [mkT n (cycF n)] [mkT n (cycF n)]) 1 v → IsoOk n [mkT n (cycF n)] [mkT n (cycF n)] p ∧ ix p 1 = (v : Int) := fun p hp => ⟨mem_isoL.1 (mem_part.1 hp).1, (mem_part.1 hp).2⟩
    rcases hL : part (isoL n [mkT n (cycF n)] [mkT n (cycF n)]) 1 v with _ | ⟨p, _ | ⟨q, r⟩⟩
    · simp
    · simp
    · rw [hL] at hn hM
      have hp := hM p (by simp)
      have hq := hM q (by simp)
      have := iso_cyc h2 h12 hp.1 hq.1 (by rw [hp.2, hq.2])
      subst this
      simp at hn)
  omega

theorem auto_pow {n : Nat} {T : List (List Int)} (h1 : 1 ≤ n) (h7 : n ≤ 7) (hT : T ∈ namedL n) : (isoL n [T] [T]).length ^ (n - 1) ≤ 470184984576 := by
  have ok := namedL_mem h1 (by omega) hT
  have hG := groupB_iff.1 ok.1
  by_cases h : n ≤ 6
  · have hf := auto_few hG (by omega)
    rw [ok.2] at hf
    have e1 := Nat.pow_le_pow_left hf (n - 1)
    have e2 : (216 : Nat) ^ (n - 1) ≤ 216 ^ 5 := Nat.pow_le_pow_right (by omega) (by omega)
    omega
  · have h77 : n = 7 := by omega
    subst h77
    have e : T = mkT 7 (cycF 7) := by
      simp only [namedL, List.mem_cons, List.not_mem_nil, or_false] at hT
      rw [hT]; unfold cyT; rfl
    subst e
    have hf := auto_cyc (n := 7) (by omega) (by omega)
    have e1 := Nat.pow_le_pow_left hf 6
    have e2 : (7 : Nat) ^ 6 ≤ 470184984576 := by decide
    exact Nat.le_trans e1 e2
end Go.Proofs.YthlafeefjonkdaaGreatDoor


namespace Go.Proofs.YthlafeefjonkdaaGreatDoor
set_option linter.unusedVariables false
set_option linter.unusedSimpArgs false
open Go.RowKit
attribute [local go_sem ↓] Go.wp_at_zero Go.wp_at_succ

def zeroL (n : Nat) : List Int := mkL n (fun _ => 0)
theorem length_zeroL (n : Nat) : (zeroL n).length = n := length_mkL _ _
theorem ix_zeroL (n i : Nat) (h : i < n) : ix (zeroL n) i = 0 := ix_mkL _ _ _ h
theorem zero_col (n : Nat) : ColOk n (zeroL n) := ⟨length_zeroL n, fun i hi => by rw [ix_zeroL _ _ hi]; omega⟩
theorem zero_resp {n : Nat} {az bz : List (List (List Int))} {p : List Int} (hp : IsoOk n az bz p) : Resp n (zeroL n) (zeroL n) p := fun x hx => by
  rw [ix_zeroL _ _ hx, ix_zeroL _ _ (hp.bd hx).2]
theorem zero_resp2 {n : Nat} {az bz : List (List (List Int))} (h1 : 1 ≤ n) {p : List Int} (hp : IsoOk n az bz p) (he : ExtP [0] p) : Resp n ((zeroL n).set 0 60) ((zeroL n).set 0 60) p :=
  resp_own (f := []) (y := 0) (az := az) (bz := bz) (fun p hp _ => zero_resp hp) (length_zeroL n) (length_zeroL n) h1 h1 hp he
theorem begun_zero {n : Nat} {az bz : List (List (List Int))} (hA : TabsOk n az) (h1 : 1 ≤ n) (h : fitsB az bz [0] 0 = true) : Begun n az bz [0] :=
  fits_yes (f := []) (m := 0) (y := 0) hA ⟨fun i hi => by simp at hi, fun i hi => by simp at hi, fun k hk x hx => by simp at hx⟩ rfl (by omega) (by omega) (hasB_no.2 (by unfold indexOf indexFrom; omega)) h
theorem no_zero {n : Nat} {az bz : List (List (List Int))} (hA : TabsOk n az) (h1 : 1 ≤ n) (h : fitsB az bz [0] 0 = false) : extL n az bz [0] = [] :=
  fits_no hA (fun i hi => by
    have : i = 0 := by simpa using hi
    subst this; rw [ix_eq]; simp) rfl h1 h
theorem two_made (w : World) (n : Nat) : ((w.alloc (.cells (madeCells #[Value.int .i64 0] n) 2)).alloc (.cells (madeCells #[Value.int .i64 0] n) 2)).drew.rowIs w.heap.size 2 n (fun _ => .int .i64 0) ∧
    ((w.alloc (.cells (madeCells #[Value.int .i64 0] n) 2)).alloc (.cells (madeCells #[Value.int .i64 0] n) 2)).drew.rowIs (w.heap.size + 1) 2 n (fun _ => .int .i64 0) := by
  refine ⟨((World.rowIs_made w (.int .i64 0) n 2).alloc _).drew, ?_⟩
  have := (World.rowIs_made (w.alloc (.cells (madeCells #[Value.int .i64 0] n) 2)) (.int .i64 0) n 2).drew
  simpa using this
def TwoZ (n : Nat) (w : World) (p q : Value) (wx : World) : Prop := ∃ B C, p = .slice (some ⟨B, 0, none⟩) n n ∧ q = .slice (some ⟨C, 0, none⟩) n n ∧ w.heap.size ≤ B ∧ w.heap.size ≤ C ∧ B ≠ C ∧ wx.rowIs B 2 n (fun _ => .int .i64 0) ∧ wx.rowIs C 2 n (fun _ => .int .i64 0) ∧ Ext w wx

set_option maxRecDepth 100000 in
set_option maxHeartbeats 4000000 in
theorem l03Maps_any (az bz : List (List (List Int))) (v u y : Value) (n most : Nat) (w : World) (hv : Tabs w v az) (hu : Tabs w u bz) (hy : Ints w y [0]) (hA : TabsOk n az) (hB : TabsOk n bz) (hab : az.length = bz.length) (ha0 : 0 < az.length) (h1 : 1 ≤ n) (h12 : n ≤ 12) (hts : az.length ≤ 2) (hm1 : 1 ≤ most) (hmost : most ≤ 1000000) :
    Calls Tryz.prog 49 #[v, u, y, .int .i64 most] w fun e w' => ∃ v', e = .returned v' ∧ GrowT 29 w.heap.size w' v' ((extL n az bz [0]).take most) ∧ Ext w w' := by
  obtain ⟨hla, b, o, c, rfl, hc⟩ := id hv
  obtain ⟨hlb, b2, o2, c2, rfl, hc2⟩ := id hu
  obtain ⟨-, b3, o3, c3, rfl, hc3⟩ := id hy
  obtain ⟨t1, t2, t3, r0, -⟩ := hc.get ha0
  obtain ⟨t4, t5, t6, r1, -⟩ := hc2.get (k := 0) (by omega)
  rw [(hA 0 ha0).2] at r0
  rw [(hB 0 (by omega)).2] at r1
  simp only [Nat.add_zero] at r0 r1
  have HA := Lib.hid hA
  have HB := Lib.hid hB
  have HAB := Lib.hid hab
  have ha1 : (0 : Int) < (az.length : Int) := by omega
  have hb1 : (0 : Int) < (bz.length : Int) := by omega
  have hb0 : 0 < bz.length := by omega
  have f00 : ∀ i, i < 0 + 1 → 0 ≤ ix ([0] : List Int) i ∧ ix ([0] : List Int) i < n := fun i hi => by
    have : i = 0 := by omega
    subst this
    rw [ix_eq]; simp; omega
  have HF0 := Lib.hid f00
  clear hA hB hab f00 hc hc2
  have hmk := run_make_row' (P := Tryz.prog) 29 2 (.int .i64 0) 8 Tryz.underlying29 infoInt rfl .i64 .i64 n (by omega) (by omega)
  go_enter Tryz.func49, Tryz.ntmps49
  go_wp2_with fail
  go_cut [22] (fun p wx => p = .bool false ∧ Drawn w wx)
  case first =>
    go_quiet (fail)
    go_wp2_with fail
    go_meet
    case rel => exact ⟨rfl, (Drawn.refl _).drewN _⟩
  obtain ⟨rfl, hd⟩ := hcut
  obtain ⟨w1, rfl⟩ : ∃ w1 : World, w1 = wc := ⟨_, rfl⟩
  have e0 := hd.ext.cell r0
  have e1 := hd.ext.cell r1
  go_wp2_with fail
  go_cut [9, 10] (fun p q wx => TwoZ n w1 p q wx)
  case first =>
    go_region_held3 (fun w' => w'.cell? ⟨b, o, none⟩ = some (.slice (some ⟨t1, t2, none⟩) n t3)) ((repeat first | (with_reducible assumption) |  (with_reducible exact kc_new) | ((with_reducible refine kc_newE ?_); (simp; done)) | ((with_reducible refine kc_newEa ?_); (simp; done)) | ((with_reducible refine kc_newEb ?_); (simp; done)) | (with_reducible apply kc_alloc) | (with_reducible apply kc_drewN) | (with_reducible apply kc_drew) | ((with_reducible refine kc_set ?_ ?_); (first | (simp only []; omega) | (simp; omega) | (focus (simp; done)))) | ((with_reducible refine kc_set2 ?_ ?_); (focus (simp; done))) | (with_reducible refine kc_same (v := .slice none 0 0) ?_))) (fail)
    all_goals
      go_wp2_with fail
      go_meet
      case rel => first
        | exact ⟨_, _, rfl, rfl, by omega, by omega, by omega, two_made w1 n |>.1, two_made w1 n |>.2, (((Ext.refl w1).alloc _).alloc _).drew⟩
        | exact ⟨_, _, rfl, rfl, by omega, by omega, by omega, two_made w1 n |>.2, two_made w1 n |>.1, (((Ext.refl w1).alloc _).alloc _).drew⟩
  obtain ⟨B, C, rfl, rfl, hB1, hC1, hBC, hrB, hrC, hx2⟩ := hcut
  obtain ⟨w2, rfl⟩ : ∃ w2 : World, w2 = wc := ⟨_, rfl⟩
  have hx02 := hd.ext.trans hx2
  have HVV := Lib.hid (hv.ext hx02)
  have HUU := Lib.hid (hu.ext hx02)
  have HYY := Lib.hid (hy.ext hx02)
  have zB := hrB.lt
  have zC := hrC.lt
  have z0 := hd.ext.size
  clear hmk e0 e1 r0 r1 hd
  cases hft : fitsB az bz [0] 0 with
  | false =>
    have HX := Lib.hid (no_zero HA.out h1 hft)
    go_wp2_with fail
    refine (l03Fits_any az bz [0] _ _ _ n 0 _ HVV.out HUU.out HYY.out HA.out HB.out HAB.out rfl h1 h12 HF0.out).mono ?_
    rintro e w3 ⟨rfl, hd3⟩
    rw [hft]
    have HX3 := Lib.hid (hx02.trans hd3.ext)
    clear hd3
    go_wp2
    go_ret
    exact ⟨_, rfl, by rw [HX.out, List.take_nil]; exact GrowT.nil _ _ _, HX3.out⟩
  | true =>
    have HBG := Lib.hid (begun_zero HA.out h1 hft)
    go_wp2_with fail
    refine (l03Fits_any az bz [0] _ _ _ n 0 _ HVV.out HUU.out HYY.out HA.out HB.out HAB.out rfl h1 h12 HF0.out).mono ?_
    rintro e w3 ⟨rfl, hd3⟩
    rw [hft]
    have hr3 := hrB.of_block (Below.block hd3.ext B zB)
    have hs3 := hrC.of_block (Below.block hd3.ext C zC)
    have c1 := hr3.cell (i := 0) (by omega)
    have f1 := hr3.frozen 0
    have c2 := hs3.cell (i := 0) (by omega)
    have f2 := hs3.frozen 0
    have z3 := hd3.ext.size
    have hCB : ¬ C = B := fun e => hBC e.symm
    have hx3 := hx02.trans hd3.ext
    have hn0 : (0 : Int) < (n : Int) := by omega
    have oB := ownI_of_row (l := zeroL n) (lo := w.heap.size) (hi := w3.heap.size) hr3 (by rw [length_zeroL]; exact Nat.le_refl _) (fun i hi => by rw [ix_zeroL _ _ (by rw [length_zeroL] at hi; exact hi)]) (by omega) (by omega)
    have oC := ownI_of_row (l := zeroL n) (lo := w.heap.size) (hi := w3.heap.size) hs3 (by rw [length_zeroL]; exact Nat.le_refl _) (fun i hi => by rw [ix_zeroL _ _ (by rw [length_zeroL] at hi; exact hi)]) (by omega) (by omega)
    have i1 : IntsAt ((w3.setCell ⟨B, 0, none⟩ (.int .i64 60)).setCell ⟨C, 0, none⟩ (.int .i64 60)) B 0 ((zeroL n).set 0 60) := ki_set hBC (intsAt_set oB.2.2.1 (by rw [length_zeroL]; exact h1))
    have i2 : IntsAt ((w3.setCell ⟨B, 0, none⟩ (.int .i64 60)).setCell ⟨C, 0, none⟩ (.int .i64 60)) C 0 ((zeroL n).set 0 60) := intsAt_set (ki_set hCB oC.2.2.1) (by rw [length_zeroL]; exact h1)
    have hx4 : Ext w ((w3.setCell ⟨B, 0, none⟩ (.int .i64 60)).setCell ⟨C, 0, none⟩ (.int .i64 60)) := (hx3.setNew (by simp only []; omega) _).setNew (by simp only []; omega) _
    have HI1 := Lib.hid i1
    have HI2 := Lib.hid i2
    have HX4 := Lib.hid hx4
    have HZ := Lib.hid (colOk_set (zero_col n) 0)
    clear oB oC hr3 hs3 hrB hrC hd3 i1 i2 hx4 hft
    go_wp2_with fail
    have hx4 := HX4.out
    have j1 : Ints ((w3.setCell ⟨B, 0, none⟩ (.int .i64 60)).setCell ⟨C, 0, none⟩ (.int .i64 60)) (.slice (some ⟨B, 0, none⟩) n n) ((zeroL n).set 0 60) := ⟨by rw [HZ.out.1]; omega, B, 0, n, by rw [HZ.out.1], HI1.out⟩
    have j2 : Ints ((w3.setCell ⟨B, 0, none⟩ (.int .i64 60)).setCell ⟨C, 0, none⟩ (.int .i64 60)) (.slice (some ⟨C, 0, none⟩) n n) ((zeroL n).set 0 60) := ⟨by rw [HZ.out.1]; omega, C, 0, n, by rw [HZ.out.1], HI2.out⟩
    generalize ((w3.setCell ⟨B, 0, none⟩ (.int .i64 60)).setCell ⟨C, 0, none⟩ (.int .i64 60)) = w4 at *
    refine (l03Refine_any az bz _ _ _ _ _ _ n _ (hv.ext hx4) (hu.ext hx4) j1 j2 HA.out HB.out HAB.out HZ.out HZ.out h1 h12 hts).mono ?_
    rintro e w5 ⟨v1', v2', ok, rfl, hx5, hok, hno⟩
    have HOK := Lib.hid hok
    have HNO := Lib.hid hno
    clear hok hno j1 j2
    have hx6 := hx4.trans hx5
    cases ok with
    | false =>
      have HX0 := Lib.hid (show extL n az bz [0] = [] from extL_nil fun p hp he => HNO.out rfl p hp (zero_resp2 h1 hp he))
      go_wp2
      go_ret
      exact ⟨_, rfl, by rw [HX0.out, List.take_nil]; exact GrowT.nil _ _ _, hx6⟩
    | true =>
      obtain ⟨l2, r2, b7, o7, c7, b8, o8, c8, rfl, rfl, ⟨q1, q2, q3, q4⟩, i7, i8, hcl2, hcr2, hke⟩ := HOK.out rfl
      have HKE := Lib.hid hke
      clear hke HOK HNO
      have hi3 := hc3.ext hx6
      go_wp2_with fail
      refine (l03Seek_any az bz _ _ n most w hv hu HA.out HB.out HAB.out h1 h12 hts hmost (n - 1) 1 [0] l2 r2 b3 o3 c3 b7 o7 c7 b8 o8 c8 [] _ w5 rfl (Nat.le_refl _) (by omega) hx6 hi3 i7 i8 hcl2 hcr2 HBG.out (fun p hp he => HKE.out p hp (zero_resp2 h1 hp he)) (GrowT.nil _ _ _) (by simp [Value.ownBlock]) (by simp [Value.ownBlock]) (by simp [Value.ownBlock]) hm1).mono ?_
      rintro e w8 ⟨v8, rfl, hg8, hgr8, -⟩
      have HG8 := Lib.hid hg8
      have HX8 := Lib.hid (ext_grownBy hx6 hgr8 (fun k hk => by simp [Value.ownBlock] at hk))
      clear hg8 hgr8
      go_wp2
      go_ret
      exact ⟨_, rfl, by have := HG8.out; simpa using this, HX8.out⟩

end Go.Proofs.YthlafeefjonkdaaGreatDoor
