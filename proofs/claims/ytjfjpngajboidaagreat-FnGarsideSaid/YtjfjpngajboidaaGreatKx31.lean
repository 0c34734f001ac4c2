/-
  Contract of the reference's l01Put: a row is put into an ascending list of rows.
-/
import Derived.Test.YtjfjpngajboidaaGreatKx20
namespace Go.Proofs.YtjfjpngajboidaaGreat
set_option linter.unusedVariables false
set_option linter.unusedSimpArgs false
open Go.RowKit
attribute [local go_sem ↓] Go.wp_at_zero Go.wp_at_succ
open Go.Deep

def PutP (e base : Nat) (G : List (List Int)) (p : List Int) (xs : List Value) (u v : Value) (w : World) (en : Ending) (w' : World) : Prop :=
  (p ∈ G ∧ en = .returned (.tuple #[v, .bool false]) ∧ Drawn w w') ∨
  (p ∉ G ∧ ∃ g k cap, en = .returned (.tuple #[.slice (some ⟨g, 0, none⟩) (G.length + 1) cap, .bool true]) ∧ k ≤ G.length ∧ w'.ownsRow base e 1 (.slice (some ⟨g, 0, none⟩) (G.length + 1) cap) (G.length + 1) (xs.take k ++ ([u] ++ xs.drop k)) ∧ (v.ownBlock = some g ∨ w.heap.size ≤ g) ∧ w.grownBy w' v.ownBlock ∧ (G.take k ++ ([p] ++ G.drop k)).Pairwise (· < ·))
theorem putP_no {e base : Nat} {G : List (List Int)} {p : List Int} {xs : List Value} {u v : Value} {w w' : World} (h : p ∈ G) (hd : Drawn w w') : PutP e base G p xs u v w (.returned (.tuple #[v, .bool false])) w' := .inl ⟨h, rfl, hd⟩

set_option maxRecDepth 100000 in
set_option maxHeartbeats 4000000 in
theorem l01Put_any (base : Nat) (G : List (List Int)) (p : List Int) (xs : List Value) (g cap : Nat) (u : Value) (w : World) (hown : w.ownsRow base 27 1 (.slice (some ⟨g, 0, none⟩) G.length cap) G.length xs) (hxs : XS w xs G) (hu : Ints w u p) (hs : G.Pairwise (· < ·)) (hl : G.length ≤ 1048570) (hb : base ≤ w.heap.size) :
    Calls Tryz.prog 41 #[.slice (some ⟨g, 0, none⟩) G.length cap, u] w (PutP 27 base G p xs u (.slice (some ⟨g, 0, none⟩) G.length cap) w) := by
  have hR := GrowX.rows ⟨xs, hown, hxs⟩ (by simp) (show G.length ≤ 1048576 by omega)
  have hgl := hown.lt g rfl
  obtain ⟨-, rb, ro, rc, hre, hc⟩ := id hR
  simp only [Value.slice.injEq, Option.some.injEq, Addr.mk.injEq, and_true, true_and] at hre
  obtain ⟨⟨rfl, rfl⟩, rfl⟩ := hre
  obtain ⟨hlen2, b2, o2, c2, rfl, -⟩ := id hu
  have HU := Lib.hid hu
  have HS := Lib.hid hs
  have HXS := Lib.hid hxs
  have HOWN := Lib.hid hown
  have hxl := hxs.1
  clear hu hs hR hxs hown
  go_enter Tryz.func41, Tryz.ntmps41
  go_wp2_with fail
  go_loopw [6, 7] (fun x y wr => ∃ l h : Nat, l ≤ h ∧ h ≤ G.length ∧ x = .int .i64 l ∧ y = .int .i64 h ∧ (∀ i, i < l → row G i < p) ∧ (∀ i, h ≤ i → i < G.length → ¬ row G i < p) ∧ Drawn w wr) (fun x y _ => (intOf y).toNat - (intOf x).toNat)
  case atStart => exact ⟨0, G.length, Nat.zero_le _, Nat.le_refl _, rfl, rfl, fun i hi => by omega, fun i h1 h2 => by omega, Drawn.refl _⟩
  case round =>
    obtain ⟨l, h, hlh, hhs, rfl, rfl, h1, h2, hd⟩ := hrel
    have H1 := Lib.hid h1
    have H2 := Lib.hid h2
    have HD := Lib.hid hd
    clear h1 h2 hd
    by_cases hlt : l < h
    case pos =>
      have hm1 : l ≤ (l + h) / 2 := by omega
      have hm2 : (l + h) / 2 < h := by omega
      obtain ⟨m, hm⟩ : ∃ m, m = (l + h) / 2 := ⟨_, rfl⟩
      have hmi : ((l : Int) + (h : Int)).tdiv 2 = (m : Int) := by
        rw [hm, Int.tdiv_eq_ediv_of_nonneg (by omega)]; omega
      rw [← hm] at hm1 hm2
      clear hm
      obtain ⟨b1, o1, c1, r1, i1, l1⟩ := (hc.ext HD.out.ext).get (i := m) (by omega)
      rw [Nat.zero_add] at r1
      have I1 := Lib.hid (i1.ints l1 c1)
      clear i1
      cases hp : lessB (row G m) p with
      | true =>
        have HH := Lib.hid (lessB_iff.1 hp)
        go_wp2_with fail
        refine (l01Less_any (row G m) p _ _ _ I1.out (HU.out.ext HD.out.ext)).mono ?_
        rintro e w1 ⟨rfl, hd1⟩
        rw [hp]
        have HD1 := Lib.hid (HD.out.trans hd1)
        clear hd1
        go_wp2_with fail
        go_roundw
        case rel => exact ⟨m + 1, h, by omega, hhs, by go_num, rfl, fun i hi => by
          by_cases e : i = m
          · subst e; exact HH.out
          · exact less_trans (sorted_row HS.out (by omega) (by omega)) HH.out, H2.out, HD1.out⟩
        case measure => simp [intOf]; omega
      | false =>
        have HH := Lib.hid (lessB_no.1 hp)
        go_wp2_with fail
        refine (l01Less_any (row G m) p _ _ _ I1.out (HU.out.ext HD.out.ext)).mono ?_
        rintro e w1 ⟨rfl, hd1⟩
        rw [hp]
        have HD1 := Lib.hid (HD.out.trans hd1)
        clear hd1
        go_wp2_with fail
        go_roundw
        case rel => exact ⟨l, m, by omega, by omega, rfl, rfl, H1.out, fun i hi hi2 => by
          by_cases e : i = m
          · subst e; exact HH.out
          · exact fun hlt => HH.out (less_trans (sorted_row HS.out (show m < i by omega) hi2) hlt), HD1.out⟩
        case measure => simp [intOf]; omega
    case neg =>
      have hll : l = h := by omega
      subst hll
      have HK := Lib.hid (put_known (p := p) HS.out H1.out H2.out)
      go_upto_region 7 with fail
      obtain ⟨bq, hbq⟩ : ∃ bq : Bool, bq = decide (p ∈ G) := ⟨_, rfl⟩
      have HBQ := Lib.hid hbq
      clear hbq
      go_cut [40] (fun v wx => v = .bool bq ∧ Drawn wr wx)
      case first =>
        by_cases hlk : l < G.length
        case neg =>
          go_wp2
          go_meet
          case rel => exact ⟨congrArg Value.bool (HBQ.out.trans (decide_eq_false (fun e => hlk (HK.out.2 e).1))).symm, Drawn.refl _⟩
        case pos =>
          obtain ⟨b1, o1, c1, r1, i1, l1⟩ := (hc.ext HD.out.ext).get (i := l) (by omega)
          rw [Nat.zero_add] at r1
          have I1 := Lib.hid (i1.ints l1 c1)
          clear i1
          go_wp2_with fail
          refine (l01Same_any (row G l) p _ _ _ I1.out.toR (HU.out.ext HD.out.ext).toR (by omega)).mono ?_
          rintro e w1 ⟨rfl, hd1⟩
          go_wp2
          go_meet
          case rel => exact ⟨congrArg Value.bool (by rw [HBQ.out, Bool.eq_iff_iff, eqIB_iff, decide_eq_true_iff, ← HK.out]; exact ⟨fun e => ⟨hlk, e⟩, fun e => e.2⟩), hd1⟩
      case rest =>
        obtain ⟨rfl, hdc⟩ := hcut
        have HD := Lib.hid (HD.out.trans hdc)
        clear hdc
        cases bq with
        | true =>
          go_wp2
          go_ret2
          exact putP_no (of_decide_eq_true HBQ.out.symm) HD.out
        | false =>
          have hno : p ∉ G := of_decide_eq_false HBQ.out.symm
          have zw := HD.out.ext.size
          go_wp2_with (at_builtin; refine wpList_append_one rfl _ _ 24 27 rfl Tryz.underlying24 infoSl base _ _ xs rfl (ownsRow_ext HOWN.out (HD.out.ext.trans (ext_box _ _ _))) _ _ (show Value.oneCell' (.slice _ _ _) = true from rfl) rfl (cell_new _ _ _) (by omega) (by simp; omega) ?_)
          intro v' w3 hown3 hgr3 hv3 hbl3
          obtain ⟨g', cap', rfl⟩ : ∃ g' cap', v' = .slice (some ⟨g', 0, none⟩) (G.length + 1) cap' := by
            rcases hown3.2 with ⟨h, _⟩ | ⟨g', cap', cur, h, _⟩
            · exact absurd h hv3
            · exact ⟨g', cap', h⟩
          have HG3 := Lib.hid (show w.grownBy w3 (some g) from grownBy_then (grownBy_ofExt (HD.out.ext.trans (ext_box _ _ _))) hgr3 (.inl rfl))
          have hbl : g' = g ∨ w.heap.size ≤ g' := by
            rcases hbl3 with h | h
            · exact .inl (Option.some.inj h)
            · exact .inr (by have := Option.some.inj h; simp at this; omega)
          clear hgr3 hbl3 hv3
          go_wp2_with fail
          go_loopw [10] (fun x wr2 => ∃ k : Nat, l ≤ k ∧ k ≤ G.length ∧ x = .int .i64 k ∧ wr2.ownsRow base 27 1 (.slice (some ⟨g', 0, none⟩) (G.length + 1) cap') (G.length + 1) (shV xs (.slice (some ⟨b2, o2, none⟩) p.length c2) k) ∧ w3.grownBy wr2 (some g')) (fun x _ => (intOf x).toNat)
          case atStart => exact ⟨G.length, hhs, Nat.le_refl _, by go_num, by rw [← hxl, shV_start, hxl]; exact hown3, grownBy_refl _ _⟩
          case round =>
            clear hown3
            obtain ⟨k, hlk, hkn, rfl, hok, hgk⟩ := hrel
            have HOK := Lib.hid hok
            have HGK := Lib.hid hgk
            clear hok hgk
            by_cases hlt : l < k
            case pos =>
              have c0 := HOK.out.cellAt (k - 1) (by omega)
              have f0 := HOK.out.frozenAt k
              have hlx : (shV xs (.slice (some ⟨b2, o2, none⟩) p.length c2) k).length = G.length + 1 := by rw [length_shV _ _ (by omega), hxl]
              have c1 := HOK.out.cellAt k (by omega)
              obtain ⟨y, hy⟩ : ∃ y, xs[k - 1]? = some y := ⟨xs[k - 1]'(by omega), List.getElem?_eq_getElem (by omega)⟩
              rw [shV_at _ _ (by omega) (by omega), hy] at c0
              obtain ⟨py, ny, cy, rfl⟩ := HXS.out.slice hy
              obtain ⟨z, hz⟩ : ∃ z, (shV xs (.slice (some ⟨b2, o2, none⟩) p.length c2) k)[k]? = some z := ⟨_, List.getElem?_eq_getElem (by omega)⟩
              rw [hz] at c1
              obtain ⟨pz, nz, cz, rfl⟩ : ∃ pz nz cz, z = .slice pz nz cz := by
                rcases shV_mem (List.mem_of_getElem? hz) with h | h
                · obtain ⟨i, hi⟩ := List.mem_iff_getElem?.1 h
                  exact HXS.out.slice hi
                · exact ⟨_, _, _, h⟩
              have e1 : ((k - 1 : Nat) : Int) = (k : Int) - 1 := by omega
              go_wp2_with fail
              go_roundw
              case rel =>
                refine ⟨k - 1, by omega, by omega, by rw [e1], ?_, ?_⟩
                · have h := (HOK.out.stored k (.slice py ny cy)).1
                  rwa [shV_step _ _ _ (by omega) (by omega) hy] at h
                · exact grownBy_then HGK.out (HOK.out.stored k (.slice py ny cy)).2 (.inl rfl)
              case measure => simp [intOf]; omega
            case neg =>
              have hkl : k = l := by omega
              subst hkl
              have hlx : (shV xs (.slice (some ⟨b2, o2, none⟩) p.length c2) k).length = G.length + 1 := by rw [length_shV _ _ (by omega), hxl]
              have f0 := HOK.out.frozenAt k
              have c1 := HOK.out.cellAt k (by omega)
              obtain ⟨z, hz⟩ : ∃ z, (shV xs (.slice (some ⟨b2, o2, none⟩) p.length c2) k)[k]? = some z := ⟨_, List.getElem?_eq_getElem (by omega)⟩
              rw [hz] at c1
              obtain ⟨pz, nz, cz, rfl⟩ : ∃ pz nz cz, z = .slice pz nz cz := by
                rcases shV_mem (List.mem_of_getElem? hz) with h | h
                · obtain ⟨i, hi⟩ := List.mem_iff_getElem?.1 h
                  exact HXS.out.slice hi
                · exact ⟨_, _, _, h⟩
              go_wp2
              go_ret2
              have h := (HOK.out.stored k (.slice (some ⟨b2, o2, none⟩) p.length c2)).1
              rw [shV_end _ _ (by omega)] at h
              exact .inr ⟨hno, g', k, cap', rfl, by omega, h, hbl.imp (fun e => by rw [e]; rfl) id, grownBy_then HG3.out (grownBy_then HGK.out (HOK.out.stored k (.slice (some ⟨b2, o2, none⟩) p.length c2)).2 (.inl rfl)) hbl, put_sorted HS.out (by omega) H1.out H2.out hno⟩
end Go.Proofs.YtjfjpngajboidaaGreat
