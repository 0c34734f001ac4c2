/-
  Contract of assign.
-/
import Derived.Test.YthlafeefjonkdaaGreatDoorJx11
namespace Go.Proofs.YthlafeefjonkdaaGreatDoor
set_option linter.unusedVariables false
set_option linter.unusedSimpArgs false
open Go.RowKit
attribute [local go_sem ↓] Go.wp_at_zero Go.wp_at_succ

open Go.Deep
structure AsgSt (base : Nat) (X : Nat → Prop) (M I U tb tq cz ub uo cu n : Nat) (az bz : List (List (List Int))) (f s : List Int) (sv : Value) (w : World) : Prop where
  st : MapSt base w M I U (.slice (some ⟨tb, tq, none⟩) az.length cz) (.slice (some ⟨ub, uo, none⟩) bz.length cu) n f s sv
  ta : TabsIn base X w tb tq n az
  tu : TabsIn base X w ub uo n bz
  part : PartOk n f s
section
variable {base : Nat} {X : Nat → Prop} {M I U tb tq cz ub uo cu n : Nat} {az bz : List (List (List Int))} {f s : List Int} {sv : Value} {w : World}
theorem AsgSt.drew (h : AsgSt base X M I U tb tq cz ub uo cu n az bz f s sv w) : AsgSt base X M I U tb tq cz ub uo cu n az bz f s sv w.drew := ⟨h.st.drew, h.ta.keep (fun _ _ _ => rfl), h.tu.keep (fun _ _ _ => rfl), h.part⟩
theorem AsgSt.next (h : AsgSt base X M I U tb tq cz ub uo cu n az bz f s sv w) {w' : World} {f' s' : List Int} {sv' : Value} (ho : Only (OwnP M I U sv) w w') (hm : MapSt base w' M I U (.slice (some ⟨tb, tq, none⟩) az.length cz) (.slice (some ⟨ub, uo, none⟩) bz.length cu) n f' s' sv') (hp : PartOk n f' s') : AsgSt base X M I U tb tq cz ub uo cu n az bz f' s' sv' w' :=
  ⟨hm, h.ta.keep (ho.keepB h.st.ownLow h.st.size), h.tu.keep (ho.keepB h.st.ownLow h.st.size), hp⟩
end
theorem take_at {P : Program} {ops : Array Oper} {Q : Exit → Act → World → Prop} {md : Region.Mode} {S : World → Prop} {i : Nat} {oi : Oper} {D : Nat} {v : Value} {fuel : Nat} {listed : Array Bool} {t : Array Value} {df : List Deferred} {w : World} (hi : ops[i]? = some oi) (hD : oi.dst = some D)
    (hs : Region.noSelect ops = true) (hf : Region.free md ops listed i = true) (hr : (Region.ready md ops listed).contains i = true)
    (hQ : ∀ c a w, Q (.panic c) (a.put oi.dst v) w → Q (.panic c) a w) (hy : YieldsIf P ops S oi v ⟨t, df⟩) (hS : S w)
    (h : wpAnyH P md ops Q S fuel (listed.setIfInBounds i true) ⟨t.setIfInBounds D v, df⟩ w) : wpAnyH P md ops Q S (fuel + 1) listed ⟨t, df⟩ w :=
  wpAnyH_take hi hs hf hr hQ hy hS (by rw [hD]; exact h)
def AsgPost (base M I U : Nat) (tv uv : Value) (n : Nat) (sv : Value) (r : Bool) (f' s' : List Int) (w : World) (e : Ending) (w' : World) : Prop :=
  ∃ sv', e = .returned (.bool r) ∧ MapSt base w' M I U tv uv n f' s' sv' ∧ Only (OwnP M I U sv) w w' ∧ OwnsAt sv sv' w

set_option maxRecDepth 100000 in
set_option maxHeartbeats 2000000 in
theorem assign_old (base : Nat) (X : Nat → Prop) (M I U tb tq cz ub uo cu n : Nat) (az bz : List (List (List Int))) (d : Nat) (f s : List Int) (sv : Value) (w : World) (x q : Nat) (hst : AsgSt base X M I U tb tq cz ub uo cu n az bz f s sv w) (hx : x < n) (h12 : n ≤ 12) (h0 : 0 ≤ ix f x) :
    Calls Tryz.prog 74 #[.pointer (some ⟨M, 0, none⟩), .int .i64 x, .int .i64 q] w (AsgPost base M I U (.slice (some ⟨tb, tq, none⟩) az.length cz) (.slice (some ⟨ub, uo, none⟩) bz.length cu) n sv (asgF n az bz d f s x q).1 (asgF n az bz d f s x q).2.1 (asgF n az bz d f s x q).2.2 w) := by
  have HE := Lib.hid (asgF_old (n := n) (d := d) (az := az) (bz := bz) (s := s) (v := q) h0)
  have c2 := hst.st.c2
  have c5 := hst.st.img.cell hx
  have HS := Lib.hid hst
  clear hst
  go_enter Tryz.func74, Tryz.ntmps74
  go_wp2_with fail
  go_ret
  refine ⟨sv, ?_, by rw [HE.out]; exact HS.out.st, (by first | exact Only.ext (Ext.refl _) | exact Only.ext (Ext.refl _).drew | exact Only.ext ((Ext.refl _).drewN _)), OwnsAt.refl _ _⟩
  rw [HE.out]
  exact ret_bool (by first | rfl | simp [beq_eq_decide])

set_option maxRecDepth 100000 in
set_option maxHeartbeats 2000000 in
theorem assign_used (base : Nat) (X : Nat → Prop) (M I U tb tq cz ub uo cu n : Nat) (az bz : List (List (List Int))) (d : Nat) (f s : List Int) (sv : Value) (w : World) (x q : Nat) (hst : AsgSt base X M I U tb tq cz ub uo cu n az bz f s sv w) (hx : x < n) (hq : q < n) (h12 : n ≤ 12) (h0 : ix f x < 0) (hu : hasB f q = true) :
    Calls Tryz.prog 74 #[.pointer (some ⟨M, 0, none⟩), .int .i64 x, .int .i64 q] w (AsgPost base M I U (.slice (some ⟨tb, tq, none⟩) az.length cz) (.slice (some ⟨ub, uo, none⟩) bz.length cu) n sv (asgF n az bz (d + 1) f s x q).1 (asgF n az bz (d + 1) f s x q).2.1 (asgF n az bz (d + 1) f s x q).2.2 w) := by
  have HE := Lib.hid (asgF_used (n := n) (d := d) (az := az) (bz := bz) (s := s) (v := q) h0 hu)
  have c2 := hst.st.c2
  have c3 := hst.st.c3
  have c5 := hst.st.img.cell hx
  have c6 := hst.st.usd.cell hq
  rw [hu] at c6
  have HS := Lib.hid hst
  clear hst hu
  go_enter Tryz.func74, Tryz.ntmps74
  go_wp2_with fail
  go_ret
  exact ⟨sv, by rw [HE.out]; exact ret_bool rfl, by rw [HE.out]; exact HS.out.st, (by first | exact Only.ext (Ext.refl _) | exact Only.ext (Ext.refl _).drew | exact Only.ext ((Ext.refl _).drewN _)), OwnsAt.refl _ _⟩

set_option maxRecDepth 1000000 in
set_option maxHeartbeats 8000000 in
theorem assign_any (base : Nat) (X : Nat → Prop) (M I U tb tq cz ub uo cu n : Nat) (az bz : List (List (List Int))) (hA : TabsOk n az) (hB : TabsOk n bz) (hab : az.length = bz.length) (hts : az.length ≤ 2) (h12 : n ≤ 12) :
    ∀ (d : Nat) (f s : List Int) (sv : Value) (w : World) (x q : Nat), n - s.length ≤ d → AsgSt base X M I U tb tq cz ub uo cu n az bz f s sv w → x < n → q < n →
      Calls Tryz.prog 74 #[.pointer (some ⟨M, 0, none⟩), .int .i64 x, .int .i64 q] w (AsgPost base M I U (.slice (some ⟨tb, tq, none⟩) az.length cz) (.slice (some ⟨ub, uo, none⟩) bz.length cu) n sv (asgF n az bz d f s x q).1 (asgF n az bz d f s x q).2.1 (asgF n az bz d f s x q).2.2 w) := by
  have HA := Lib.hid hA
  have HB := Lib.hid hB
  have HAB := Lib.hid hab
  have hbz : bz.length ≤ 2 := by omega
  clear hA hB hab
  intro d
  induction d with
  | zero =>
    intro f s sv w x q hd hst hx hq
    exact assign_old base X M I U tb tq cz ub uo cu n az bz 0 f s sv w x q hst hx h12 (hst.part.full (by omega) hx)
  | succ d ih =>
    intro f s sv w x q hd hst hx hq
    by_cases h0 : 0 ≤ ix f x
    case pos => exact assign_old base X M I U tb tq cz ub uo cu n az bz (d + 1) f s sv w x q hst hx h12 h0
    have h0 : ix f x < 0 := by omega
    cases hu : hasB f q with
    | true => exact assign_used base X M I U tb tq cz ub uo cu n az bz d f s sv w x q hst hx hq h12 h0 hu
    | false =>
    have IH := Lib.hid ih
    have HOK := Lib.hid (asgF_ok HA.out HB.out HAB.out d)
    obtain ⟨R, hR⟩ : ∃ R, asgF n az bz (d + 1) f s x q = R := ⟨_, rfl⟩
    rw [hR]
    have HR := Lib.hid (show R = asgE (asgF n az bz d) az bz x q n 0 (f.set x (q : Int)) (s ++ [(x : Int)]) by rw [← hR, asgF_go h0 hu])
    obtain ⟨s0, hs0⟩ : ∃ s0, s0 = s ++ [(x : Int)] := ⟨_, rfl⟩
    have hlp0 := Lp.start (az := az) (bz := bz) hst.part hx hq h0 hu
    rw [← hs0] at hlp0
    have HLP := Lib.hid hlp0
    have HS0 := Lib.hid hs0
    clear hlp0 hs0
    have hsl := hst.part.le
    have hfl := hst.part.len
    have hxi : (x : Int) < (n : Int) := by omega
    have hqi : (q : Int) < (n : Int) := by omega
    have c2 := hst.st.c2
    have c3 := hst.st.c3
    have c5 := hst.st.img.cell hx
    have f5 := hst.st.img.frozen x
    have c6 := hst.st.usd.cell hq
    have f6 := hst.st.usd.frozen q
    rw [hu] at c6
    have hIU : I ≠ U := hst.st.apart.2.2.1
    have hUI : U ≠ I := fun e => hIU e.symm
    have hMI : M ≠ I := hst.st.apart.1
    have hMU : M ≠ U := hst.st.apart.2.1
    have HS := Lib.hid hst
    have HFL := Lib.hid hfl
    clear hst hu ih hR hfl
    go_enter Tryz.func74, Tryz.ntmps74
    go_upto_region 5 with (fail)
    go_cut [] (fun wr => MapSt base wr M I U (.slice (some ⟨tb, tq, none⟩) az.length cz) (.slice (some ⟨ub, uo, none⟩) bz.length cu) n (f.set x (q : Int)) s sv ∧ Only (OwnP M I U sv) w wr)
    case first =>
      go_region
      all_goals
        go_wp2_with fail
        go_meet
        first
          | exact ⟨(HS.out.st.put HFL.out hx h0).drew, (only_put x q _ _).trans (only_drew _ _)⟩
          | exact ⟨(HS.out.st.put2 HFL.out hx h0).drew, (only_put2 x q _ _).trans (only_drew _ _)⟩
    case rest =>
      obtain ⟨hm, ho⟩ := hcut
      clear c2 c3 c5 f5 c6 f6
      have c4 := hm.c4
      have f4 := hm.fr
      have zb := hm.size
      have hkM : some M ≠ sv.ownBlock := fun e => (hm.apart.2.2.2 M e.symm).1 rfl
      have hMl := hm.img_lt
      obtain ⟨sa, sc, hsv⟩ := hm.set.slice
      rw [hsv] at c4
      have HM := Lib.hid hm
      have HO := Lib.hid ho
      have HSV := Lib.hid hsv
      clear hm ho hsv
      go_wp2_with (at_builtin; refine wpList_append_int_at rfl _ _ 29 2 rfl Tryz.underlying29 infoInt base _ s rfl (by rw [← HSV.out]; exact HM.out.set.alloc _) _ (x : Int) rfl (cell_new _ _ _) (by omega) (by simp; omega) ?_)
      intro v' w3 hi3 hgr hv3 hat
      rw [← HSV.out] at hgr hat
      rw [← HS0.out] at hi3
      obtain ⟨S1, c1, rfl, -⟩ := hi3.own hv3
      have d4 := hgr.cell (kc_alloc c4) hkM
      have e4 : w3.frozen? ⟨M, 4, none⟩ = false := by
        rw [World.frozen?_of_block (w := wc.alloc _) (a := ⟨M, 4, none⟩) (hgr.block M (by simp; omega) hkM)]
        exact kf_alloc hMl f4
      have HM3 := Lib.hid (HM.out.app hgr hi3 hat)
      have HO3 := Lib.hid (HO.out.trans (only_app hgr (.slice (some ⟨S1, 0, none⟩) s0.length c1)))
      have HA3 := Lib.hid (show OwnsAt sv (.slice (some ⟨S1, 0, none⟩) s0.length c1) w from by
        rcases hat with e | e
        · exact .inl e
        · exact .inr ⟨_, e, by have := HO.out.size; simp; omega⟩)
      clear hi3 hgr hv3 hat HM HO c4 f4 zb hMl HSV hkM
      go_wp2_with fail
      go_loopw [7] (fun i wr => ∃ (j : Nat) (f1 s1 : List Int) (S1 c1 : Nat), i = .int .i64 j ∧ j ≤ s1.length ∧ R = asgE (asgF n az bz d) az bz x q (n - j) j f1 s1 ∧ Lp n az bz f s x q f1 s1 (PrO az x j s1) ∧ MapSt base wr M I U (.slice (some ⟨tb, tq, none⟩) az.length cz) (.slice (some ⟨ub, uo, none⟩) bz.length cu) n f1 s1 (.slice (some ⟨S1, 0, none⟩) s1.length c1) ∧ Only (OwnP M I U sv) w wr ∧ OwnsAt sv (.slice (some ⟨S1, 0, none⟩) s1.length c1) w) (fun i _ => n - (intOf i).toNat)
      case atStart => exact ⟨0, _, _, S1, c1, rfl, by omega, by rw [HR.out, HS0.out, Nat.sub_zero], HLP.out.mono (fun k a b h => by obtain ⟨_, j, hj, _⟩ := h; omega), HM3.out, HO3.out, HA3.out⟩
      case round =>
        clear d4 e4 HM3 HO3 HA3
        obtain ⟨j, f1, s1, S1, c1, rfl, hj, hr1, hlp, hm, ho, hat⟩ := hrel
        have hs1n := hlp.part.le
        have c4 := hm.c4
        have HR1 := Lib.hid hr1
        have HL1 := Lib.hid hlp
        have HO1 := Lib.hid ho
        have HAT := Lib.hid hat
        clear hr1 ho hat
        by_cases hjl : j < s1.length
        case neg =>
          have HE := Lib.hid (HR1.out.trans (asgE_end hjl))
          have HM := Lib.hid hm
          clear hm hlp
          go_wp2_with fail
          go_ret
          exact ⟨_, by rw [HE.out]; exact ret_bool rfl, by rw [HE.out]; exact HM.out, HO1.out, HAT.out⟩
        case pos =>
          obtain ⟨y, hy, hyn, hym⟩ := hlp.elem hjl
          have c0 := hm.c0
          have hs1 : IntsAt wr S1 0 s1 := by
            obtain ⟨S', c', e, h⟩ := hm.row (by omega)
            simp at e
            obtain ⟨rfl, rfl⟩ := e
            exact h
          have q0 := hs1 j hjl
          rw [hy, Nat.zero_add] at q0
          have HM := Lib.hid hm
          have HY := Lib.hid hy
          have HYM := Lib.hid hym
          have HR2 := Lib.hid (show R = contL (asgF n az bz d) az bz x q (n - (j + 1)) j (tabsL (asgF n az bz d) az bz x q y (az.length - 0) 0 f1 s1) by
            rw [HR1.out, show n - j = n - (j + 1) + 1 by omega, asgE_go hjl, show (ix s1 j).toNat = y by omega, Nat.sub_zero])
          clear hm hlp hs1 hy hym
          go_wp2_with fail
          go_loopw [79] (fun i wr => ∃ (k : Nat) (f2 s2 l : List Int) (S2 c2 : Nat), i = .int .i64 k ∧ k ≤ az.length ∧ R = contL (asgF n az bz d) az bz x q (n - (j + 1)) j (tabsL (asgF n az bz d) az bz x q y (az.length - k) k f2 s2) ∧ Lp n az bz f s x q f2 s2 (PrI az x j s1 y k) ∧ s2 = s1 ++ l ∧ MapSt base wr M I U (.slice (some ⟨tb, tq, none⟩) az.length cz) (.slice (some ⟨ub, uo, none⟩) bz.length cu) n f2 s2 (.slice (some ⟨S2, 0, none⟩) s2.length c2) ∧ Only (OwnP M I U sv) w wr ∧ OwnsAt sv (.slice (some ⟨S2, 0, none⟩) s2.length c2) w) (fun i _ => az.length - (intOf i).toNat)
          case atStart => exact ⟨0, f1, s1, [], S1, c1, rfl, by omega, HR2.out, HL1.out.next, by simp, HM.out, HO1.out, HAT.out⟩
          case round =>
            clear q0 c0 HM HO1 HAT c4
            obtain ⟨k, f2, s2, l, S2, c2, rfl, hk, hr2, hlp, hs2, hm, ho, hat⟩ := hrel
            have hs2n := hlp.part.le
            have HR3 := Lib.hid hr2
            have HL2 := Lib.hid hlp
            have HS2 := Lib.hid hs2
            have HO2 := Lib.hid ho
            have HAT := Lib.hid hat
            have HM := Lib.hid hm
            clear hr2 hat
            by_cases hkl : k < az.length
            case neg =>
              have hkk : k = az.length := by omega
              have HL3 := Lib.hid (show Lp n az bz f s x q f2 s2 (PrI az x j s1 y az.length) by rw [← hkk]; exact hlp)
              have HE := Lib.hid (show R = asgE (asgF n az bz d) az bz x q (n - (j + 1)) (j + 1) f2 s2 by
                rw [HR3.out, show az.length - k = 0 by omega, tabsL_zero, contL_go])
              have hjs : j + 1 ≤ s2.length := by rw [hs2]; simp; omega
              clear hm hlp hs2 ho hkk
              go_wp2_with fail
              go_roundw
              case rel => exact ⟨j + 1, f2, s2, S2, c2, by go_num, hjs, HE.out, HL3.out.over hjl (by rw [HY.out, Int.toNat_natCast]) HS2.out, HM.out, HO2.out, HAT.out⟩
              case measure => simp [intOf]; omega
            case pos =>
              have hkb : k < bz.length := by have := HAB.out; omega
              have hym2 : (y : Int) ∈ s2 := by rw [hs2]; simp [HYM.out]
              obtain ⟨p, hp⟩ : ∃ p : Nat, ix f2 y = (p : Int) := ⟨_, (Int.toNat_of_nonneg (hlp.mapped hyn hym2).1).symm⟩
              have hpn : p < n := by have := (hlp.mapped hyn hym2).2; omega
              obtain ⟨x1, v1, x2, v2, ht⟩ := two_of HA.out HB.out hkl hkb hx hyn hq hpn
              obtain ⟨B1, B2⟩ := hlp.both HA.out HOK.out (by omega) hx hyn hym2 hkl hp ht hs2
              have hst2 := HS.out.next ho hm hlp.part
              have m1 := hm.c1
              have m2 := hm.c2
              have m3 := hm.img.cell hyn
              rw [hp] at m3
              obtain ⟨tb1, tb2, ta3⟩ := hst2.ta
              obtain ⟨tu1, tu2, tu3⟩ := hst2.tu
              obtain ⟨b1, o1, g1, l1, n1, t0, t1⟩ := ta3 k hkl
              obtain ⟨b2, o2, g2, l2, n2, u0, u1⟩ := tu3 k hkb
              obtain ⟨b3, o3, g3, l3, n3, r3, e3⟩ := t1 x hx
              have e3 := e3 y hyn
              rw [ht.e1] at e3
              obtain ⟨b4, o4, g4, l4, n4, r4, e4⟩ := u1 q hq
              have e4 := e4 p hpn
              rw [ht.e2] at e4
              obtain ⟨b5, o5, g5, l5, n5, r5, e5⟩ := t1 y hyn
              have e5 := e5 x hx
              rw [ht.e3] at e5
              obtain ⟨b6, o6, g6, l6, n6, r6, e6⟩ := u1 p hpn
              have e6 := e6 q hq
              rw [ht.e4] at e6
              have hyi : (y : Int) < (n : Int) := by omega
              have hpi : (p : Int) < (n : Int) := by omega
              have hki : (k : Int) < (az.length : Int) := by omega
              have hkbi : (k : Int) < (bz.length : Int) := by omega
              have HT := Lib.hid ht
              have HP := Lib.hid hp
              have HST := Lib.hid hst2
              have HB1 := Lib.hid B1
              have HB2 := Lib.hid B2
              have HD := Lib.hid (show n - s2.length ≤ d by have := hlp.len; omega)
              clear t1 u1 ta3 tu3 hst2 ht hp hlp hm ho hs2 hym2 B1 B2
              rcases e1 : asgF n az bz d f2 s2 x1 v1 with ⟨r1, f3, s3⟩
              have HC1 := Lib.hid (show ∀ W, AsgSt base X M I U tb tq cz ub uo cu n az bz f2 s2 (.slice (some ⟨S2, 0, none⟩) s2.length c2) W → Calls Tryz.prog 74 #[.pointer (some ⟨M, 0, none⟩), .int .i64 x1, .int .i64 v1] W (AsgPost base M I U (.slice (some ⟨tb, tq, none⟩) az.length cz) (.slice (some ⟨ub, uo, none⟩) bz.length cu) n (.slice (some ⟨S2, 0, none⟩) s2.length c2) r1 f3 s3 W) from fun W h => by
                have := IH.out f2 s2 _ W x1 v1 HD.out h HT.out.l1 HT.out.l2
                rw [e1] at this
                exact this)
              have hg1 := HOK.out f2 s2 x1 v1 r1 f3 s3 HD.out HST.out.part HT.out.l1 HT.out.l2 e1
              have HY3 := Lib.hid (show ix f3 y = (p : Int) by rw [hg1.goes.2 y hyn (by rw [HP.out]; omega)]; exact HP.out)
              have HG1 := Lib.hid hg1
              have HE1 := Lib.hid e1
              have hz2 := HST.out.st.size
              clear hg1 e1
              go_wp2_with fail
              have hstd := HST.out.drew
              have HSD := Lib.hid hstd
              clear hstd HST
              refine wp_region_held_drew (S := (fun w' => w'.cell? ⟨b1, o1 + x, none⟩ = some (.slice (some ⟨b3, o3, none⟩) n g3) ∧ w'.cell? ⟨b3, o3 + y, none⟩ = some (.int .i64 x1) ∧ w'.cell? ⟨M, 1, none⟩ = some (.slice (some ⟨ub, uo, none⟩) bz.length cu) ∧ w'.cell? ⟨ub, uo + k, none⟩ = some (.slice (some ⟨b2, o2, none⟩) n g2) ∧ w'.cell? ⟨b2, o2 + q, none⟩ = some (.slice (some ⟨b4, o4, none⟩) n g4) ∧ w'.cell? ⟨M, 2, none⟩ = some (.slice (some ⟨I, 0, none⟩) n n) ∧ w'.cell? ⟨I, y, none⟩ = some (.int .i64 p) ∧ w'.cell? ⟨b4, o4 + p, none⟩ = some (.int .i64 v1) ∧ w'.cell? ⟨b1, o1 + y, none⟩ = some (.slice (some ⟨b5, o5, none⟩) n g5) ∧ w'.cell? ⟨b5, o5 + x, none⟩ = some (.int .i64 x2) ∧ w'.cell? ⟨b2, o2 + p, none⟩ = some (.slice (some ⟨b6, o6, none⟩) n g6) ∧ w'.cell? ⟨b6, o6 + q, none⟩ = some (.int .i64 v2))) (by kernel_rfl) ?_ (fun hHeld => ?_)
              · (refine ⟨?_, ?_, ?_, ?_, ?_, ?_, ?_, ?_, ?_, ?_, ?_, ?_⟩ <;> (first | (with_reducible assumption) | (with_reducible apply kc_drew; with_reducible assumption)))
              have HO2d := Lib.hid (show Only (OwnP M I U sv) w wr.drew from HO2.out.trans (only_drew _ _))
              generalize wr.drew = w5 at *
              clear m1 m2 m3 t0 u0 r3 e3 r4 e4 r5 e5 r6 e6
              refine take_at (i := 0) (D := 84) (v := ?_) rfl (by kernel_rfl) (by kernel_rfl) (by kernel_rfl) (by kernel_rfl) (fun _ _ _ h => h) (Or.inl ⟨by kernel_rfl, ?_⟩) (by assumption) ?_
              rotate_left
              · (intro w hSw; (try dsimp only at hSw); go_simp; (try with_reducible rfl))
              try simp only [Act.put, List.setIfInBounds_toArray, List.set_cons_zero, List.set_cons_succ]
              refine take_at (i := 1) (D := 85) (v := ?_) rfl (by kernel_rfl) (by kernel_rfl) (by kernel_rfl) (by kernel_rfl) (fun _ _ _ h => h) (Or.inl ⟨by kernel_rfl, ?_⟩) (by assumption) ?_
              rotate_left
              · (intro w hSw; (try dsimp only at hSw); go_simp; (try with_reducible rfl))
              try simp only [Act.put, List.setIfInBounds_toArray, List.set_cons_zero, List.set_cons_succ]
              refine take_at (i := 2) (D := 86) (v := ?_) rfl (by kernel_rfl) (by kernel_rfl) (by kernel_rfl) (by kernel_rfl) (fun _ _ _ h => h) (Or.inl ⟨by kernel_rfl, ?_⟩) (by assumption) ?_
              rotate_left
              · (intro w hSw; (try dsimp only at hSw); go_simp; (try with_reducible rfl))
              try simp only [Act.put, List.setIfInBounds_toArray, List.set_cons_zero, List.set_cons_succ]
              refine take_at (i := 3) (D := 87) (v := ?_) rfl (by kernel_rfl) (by kernel_rfl) (by kernel_rfl) (by kernel_rfl) (fun _ _ _ h => h) (Or.inl ⟨by kernel_rfl, ?_⟩) (by assumption) ?_
              rotate_left
              · (intro w hSw; (try dsimp only at hSw); go_simp; (try with_reducible rfl))
              try simp only [Act.put, List.setIfInBounds_toArray, List.set_cons_zero, List.set_cons_succ]
              refine take_at (i := 4) (D := 88) (v := ?_) rfl (by kernel_rfl) (by kernel_rfl) (by kernel_rfl) (by kernel_rfl) (fun _ _ _ h => h) (Or.inl ⟨by kernel_rfl, ?_⟩) (by assumption) ?_
              rotate_left
              · (intro w hSw; (try dsimp only at hSw); go_simp; (try with_reducible rfl))
              try simp only [Act.put, List.setIfInBounds_toArray, List.set_cons_zero, List.set_cons_succ]
              refine take_at (i := 5) (D := 89) (v := ?_) rfl (by kernel_rfl) (by kernel_rfl) (by kernel_rfl) (by kernel_rfl) (fun _ _ _ h => h) (Or.inl ⟨by kernel_rfl, ?_⟩) (by assumption) ?_
              rotate_left
              · (intro w hSw; (try dsimp only at hSw); go_simp; (try with_reducible rfl))
              try simp only [Act.put, List.setIfInBounds_toArray, List.set_cons_zero, List.set_cons_succ]
              refine take_at (i := 6) (D := 90) (v := ?_) rfl (by kernel_rfl) (by kernel_rfl) (by kernel_rfl) (by kernel_rfl) (fun _ _ _ h => h) (Or.inl ⟨by kernel_rfl, ?_⟩) (by assumption) ?_
              rotate_left
              · (intro w hSw; (try dsimp only at hSw); go_simp; (try with_reducible rfl))
              try simp only [Act.put, List.setIfInBounds_toArray, List.set_cons_zero, List.set_cons_succ]
              refine take_at (i := 7) (D := 91) (v := ?_) rfl (by kernel_rfl) (by kernel_rfl) (by kernel_rfl) (by kernel_rfl) (fun _ _ _ h => h) (Or.inl ⟨by kernel_rfl, ?_⟩) (by assumption) ?_
              rotate_left
              · (intro w hSw; (try dsimp only at hSw); go_simp; (try with_reducible rfl))
              try simp only [Act.put, List.setIfInBounds_toArray, List.set_cons_zero, List.set_cons_succ]
              refine take_at (i := 8) (D := 92) (v := ?_) rfl (by kernel_rfl) (by kernel_rfl) (by kernel_rfl) (by kernel_rfl) (fun _ _ _ h => h) (Or.inl ⟨by kernel_rfl, ?_⟩) (by assumption) ?_
              rotate_left
              · (intro w hSw; (try dsimp only at hSw); go_simp; (try with_reducible rfl))
              try simp only [Act.put, List.setIfInBounds_toArray, List.set_cons_zero, List.set_cons_succ]
              refine take_at (i := 9) (D := 93) (v := ?_) rfl (by kernel_rfl) (by kernel_rfl) (by kernel_rfl) (by kernel_rfl) (fun _ _ _ h => h) (Or.inl ⟨by kernel_rfl, ?_⟩) (by assumption) ?_
              rotate_left
              · (intro w hSw; (try dsimp only at hSw); go_simp; (try with_reducible rfl))
              try simp only [Act.put, List.setIfInBounds_toArray, List.set_cons_zero, List.set_cons_succ]
              refine take_at (i := 10) (D := 94) (v := ?_) rfl (by kernel_rfl) (by kernel_rfl) (by kernel_rfl) (by kernel_rfl) (fun _ _ _ h => h) (Or.inl ⟨by kernel_rfl, ?_⟩) (by assumption) ?_
              rotate_left
              · (intro w hSw; (try dsimp only at hSw); go_simp; (try with_reducible rfl))
              try simp only [Act.put, List.setIfInBounds_toArray, List.set_cons_zero, List.set_cons_succ]
              refine take_at (i := 11) (D := 95) (v := ?_) rfl (by kernel_rfl) (by kernel_rfl) (by kernel_rfl) (by kernel_rfl) (fun _ _ _ h => h) (Or.inl ⟨by kernel_rfl, ?_⟩) (by assumption) ?_
              rotate_left
              · (intro w hSw; (try dsimp only at hSw); go_simp; (try with_reducible rfl))
              try simp only [Act.put, List.setIfInBounds_toArray, List.set_cons_zero, List.set_cons_succ]
              refine take_at (i := 12) (D := 96) (v := ?_) rfl (by kernel_rfl) (by kernel_rfl) (by kernel_rfl) (by kernel_rfl) (fun _ _ _ h => h) (Or.inl ⟨by kernel_rfl, ?_⟩) (by assumption) ?_
              rotate_left
              · (intro w hSw; (try dsimp only at hSw); go_simp; (try with_reducible rfl))
              try simp only [Act.put, List.setIfInBounds_toArray, List.set_cons_zero, List.set_cons_succ]
              refine take_at (i := 13) (D := 97) (v := ?_) rfl (by kernel_rfl) (by kernel_rfl) (by kernel_rfl) (by kernel_rfl) (fun _ _ _ h => h) (Or.inl ⟨by kernel_rfl, ?_⟩) (by assumption) ?_
              rotate_left
              · (intro w hSw; (try dsimp only at hSw); go_simp; (try with_reducible rfl))
              try simp only [Act.put, List.setIfInBounds_toArray, List.set_cons_zero, List.set_cons_succ]
              refine take_at (i := 14) (D := 98) (v := ?_) rfl (by kernel_rfl) (by kernel_rfl) (by kernel_rfl) (by kernel_rfl) (fun _ _ _ h => h) (Or.inl ⟨by kernel_rfl, ?_⟩) (by assumption) ?_
              rotate_left
              · (intro w hSw; (try dsimp only at hSw); go_simp; (try with_reducible rfl))
              try simp only [Act.put, List.setIfInBounds_toArray, List.set_cons_zero, List.set_cons_succ]
              refine take_at (i := 15) (D := 99) (v := ?_) rfl (by kernel_rfl) (by kernel_rfl) (by kernel_rfl) (by kernel_rfl) (fun _ _ _ h => h) (Or.inl ⟨by kernel_rfl, ?_⟩) (by assumption) ?_
              rotate_left
              · (intro w hSw; (try dsimp only at hSw); go_simp; (try with_reducible rfl))
              try simp only [Act.put, List.setIfInBounds_toArray, List.set_cons_zero, List.set_cons_succ]
              refine take_at (i := 16) (D := 100) (v := ?_) rfl (by kernel_rfl) (by kernel_rfl) (by kernel_rfl) (by kernel_rfl) (fun _ _ _ h => h) (Or.inl ⟨by kernel_rfl, ?_⟩) (by assumption) ?_
              rotate_left
              · (intro w hSw; (try dsimp only at hSw); go_simp; (try with_reducible rfl))
              try simp only [Act.put, List.setIfInBounds_toArray, List.set_cons_zero, List.set_cons_succ]
              refine take_at (i := 17) (D := 101) (v := ?_) rfl (by kernel_rfl) (by kernel_rfl) (by kernel_rfl) (by kernel_rfl) (fun _ _ _ h => h) (Or.inl ⟨by kernel_rfl, ?_⟩) (by assumption) ?_
              rotate_left
              · (intro w hSw; (try dsimp only at hSw); go_simp; (try with_reducible rfl))
              try simp only [Act.put, List.setIfInBounds_toArray, List.set_cons_zero, List.set_cons_succ]
              refine take_at (i := 18) (D := 102) (v := ?_) rfl (by kernel_rfl) (by kernel_rfl) (by kernel_rfl) (by kernel_rfl) (fun _ _ _ h => h) (Or.inl ⟨by kernel_rfl, ?_⟩) (by assumption) ?_
              rotate_left
              · (intro w hSw; (try dsimp only at hSw); go_simp; (try with_reducible rfl))
              try simp only [Act.put, List.setIfInBounds_toArray, List.set_cons_zero, List.set_cons_succ]
              refine take_at (i := 19) (D := 103) (v := ?_) rfl (by kernel_rfl) (by kernel_rfl) (by kernel_rfl) (by kernel_rfl) (fun _ _ _ h => h) (Or.inl ⟨by kernel_rfl, ?_⟩) (by assumption) ?_
              rotate_left
              · (intro w hSw; (try dsimp only at hSw); go_simp; (try with_reducible rfl))
              try simp only [Act.put, List.setIfInBounds_toArray, List.set_cons_zero, List.set_cons_succ]
              refine take_at (i := 20) (D := 104) (v := ?_) rfl (by kernel_rfl) (by kernel_rfl) (by kernel_rfl) (by kernel_rfl) (fun _ _ _ h => h) (Or.inl ⟨by kernel_rfl, ?_⟩) (by assumption) ?_
              rotate_left
              · (intro w hSw; (try dsimp only at hSw); go_simp; (try with_reducible rfl))
              try simp only [Act.put, List.setIfInBounds_toArray, List.set_cons_zero, List.set_cons_succ]
              refine take_at (i := 21) (D := 105) (v := ?_) rfl (by kernel_rfl) (by kernel_rfl) (by kernel_rfl) (by kernel_rfl) (fun _ _ _ h => h) (Or.inl ⟨by kernel_rfl, ?_⟩) (by assumption) ?_
              rotate_left
              · (intro w hSw; (try dsimp only at hSw); go_simp; (try with_reducible rfl))
              try simp only [Act.put, List.setIfInBounds_toArray, List.set_cons_zero, List.set_cons_succ]
              refine take_at (i := 22) (D := 106) (v := ?_) rfl (by kernel_rfl) (by kernel_rfl) (by kernel_rfl) (by kernel_rfl) (fun _ _ _ h => h) (Or.inl ⟨by kernel_rfl, ?_⟩) (by assumption) ?_
              rotate_left
              · (intro w hSw; (try dsimp only at hSw); go_simp; (try with_reducible rfl))
              try simp only [Act.put, List.setIfInBounds_toArray, List.set_cons_zero, List.set_cons_succ]
              refine take_at (i := 23) (D := 107) (v := ?_) rfl (by kernel_rfl) (by kernel_rfl) (by kernel_rfl) (by kernel_rfl) (fun _ _ _ h => h) (Or.inl ⟨by kernel_rfl, ?_⟩) (by assumption) ?_
              rotate_left
              · (intro w hSw; (try dsimp only at hSw); go_simp; (try with_reducible rfl))
              try simp only [Act.put, List.setIfInBounds_toArray, List.set_cons_zero, List.set_cons_succ]
              refine take_at (i := 24) (D := 108) (v := ?_) rfl (by kernel_rfl) (by kernel_rfl) (by kernel_rfl) (by kernel_rfl) (fun _ _ _ h => h) (Or.inl ⟨by kernel_rfl, ?_⟩) (by assumption) ?_
              rotate_left
              · (intro w hSw; (try dsimp only at hSw); go_simp; (try with_reducible rfl))
              try simp only [Act.put, List.setIfInBounds_toArray, List.set_cons_zero, List.set_cons_succ]
              refine take_at (i := 25) (D := 109) (v := ?_) rfl (by kernel_rfl) (by kernel_rfl) (by kernel_rfl) (by kernel_rfl) (fun _ _ _ h => h) (Or.inl ⟨by kernel_rfl, ?_⟩) (by assumption) ?_
              rotate_left
              · (intro w hSw; (try dsimp only at hSw); go_simp; (try with_reducible rfl))
              try simp only [Act.put, List.setIfInBounds_toArray, List.set_cons_zero, List.set_cons_succ]
              refine take_at (i := 26) (D := 110) (v := ?_) rfl (by kernel_rfl) (by kernel_rfl) (by kernel_rfl) (by kernel_rfl) (fun _ _ _ h => h) (Or.inl ⟨by kernel_rfl, ?_⟩) (by assumption) ?_
              rotate_left
              · (intro w hSw; (try dsimp only at hSw); go_simp; (try with_reducible rfl))
              try simp only [Act.put, List.setIfInBounds_toArray, List.set_cons_zero, List.set_cons_succ]
              refine wpAnyH_ready (rs := [27]) (by kernel_rfl) (by simp) ?_
              refine AllReadyH.cons rfl (fun K hK => ?_) AllReadyH.nil
              go_simp
              go_at_call 74
              refine (HC1.out w5 HSD.out).mono ?_
              rintro e w6 ⟨sv3, rfl, hm3, ho3, ha3⟩
              obtain ⟨k1, k2, k3, k4, k5, k6, k7, k8, k9, k10, k11, k12⟩ := hHeld
              have kb : KeepB base X w5 w6 := ho3.keepB HSD.out.st.ownLow HSD.out.st.size
              have z1 := hm3.c1
              have z2 := hm3.c2
              have z3 := hm3.img.cell hyn
              rw [HY3.out] at z3
              have hst3 := HSD.out.next ho3 hm3 HG1.out.part
              have HM3 := Lib.hid hm3
              have HO3 := Lib.hid ho3
              have HA3 := Lib.hid ha3
              have HST3 := Lib.hid hst3
              clear hm3 ho3 ha3 hst3
              refine hK.out _ _ ?_ (fun hHeld => ?_)
              · (refine ⟨?_, ?_, ?_, ?_, ?_, ?_, ?_, ?_, ?_, ?_, ?_, ?_⟩ <;> (first | (with_reducible assumption) | (with_reducible apply kc_drew; with_reducible assumption) | (with_reducible refine KeepB.cell kb (by assumption) (by assumption) ?_; with_reducible assumption)))
              clear hK K k1 k2 k3 k4 k5 k6 k7 k8 k9 k10 k11 k12 z1 z2 z3
              try simp only [Act.put, List.setIfInBounds_toArray, List.set_cons_zero, List.set_cons_succ]
              cases r1 with
              | false =>
                refine take_at (i := 28) (D := 112) (v := ?_) rfl (by kernel_rfl) (by kernel_rfl) (by kernel_rfl) (by kernel_rfl) (fun _ _ _ h => h) (Or.inl ⟨by kernel_rfl, ?_⟩) (by assumption) ?_
                rotate_left
                · (intro w hSw; (try dsimp only at hSw); go_simp; (try with_reducible rfl))
                try simp only [Act.put, List.setIfInBounds_toArray, List.set_cons_zero, List.set_cons_succ]
                refine take_at (i := 29) (D := 113) (v := ?_) rfl (by kernel_rfl) (by kernel_rfl) (by kernel_rfl) (by kernel_rfl) (fun _ _ _ h => h) (Or.inl ⟨by kernel_rfl, ?_⟩) (by assumption) ?_
                rotate_left
                · (intro w hSw; (try dsimp only at hSw); go_simp; (try with_reducible rfl))
                try simp only [Act.put, List.setIfInBounds_toArray, List.set_cons_zero, List.set_cons_succ]
                refine take_at (i := 30) (D := 114) (v := undef) rfl (by kernel_rfl) (by kernel_rfl) (by kernel_rfl) (by kernel_rfl) (fun _ _ _ h => h) (Or.inr ⟨by kernel_rfl, rfl⟩) (by assumption) ?_
                try simp only [Act.put, List.setIfInBounds_toArray, List.set_cons_zero, List.set_cons_succ]
                refine take_at (i := 31) (D := 115) (v := undef) rfl (by kernel_rfl) (by kernel_rfl) (by kernel_rfl) (by kernel_rfl) (fun _ _ _ h => h) (Or.inr ⟨by kernel_rfl, rfl⟩) (by assumption) ?_
                try simp only [Act.put, List.setIfInBounds_toArray, List.set_cons_zero, List.set_cons_succ]
                refine take_at (i := 32) (D := 116) (v := undef) rfl (by kernel_rfl) (by kernel_rfl) (by kernel_rfl) (by kernel_rfl) (fun _ _ _ h => h) (Or.inr ⟨by kernel_rfl, rfl⟩) (by assumption) ?_
                try simp only [Act.put, List.setIfInBounds_toArray, List.set_cons_zero, List.set_cons_succ]
                refine take_at (i := 33) (D := 117) (v := undef) rfl (by kernel_rfl) (by kernel_rfl) (by kernel_rfl) (by kernel_rfl) (fun _ _ _ h => h) (Or.inr ⟨by kernel_rfl, rfl⟩) (by assumption) ?_
                try simp only [Act.put, List.setIfInBounds_toArray, List.set_cons_zero, List.set_cons_succ]
                refine take_at (i := 34) (D := 118) (v := undef) rfl (by kernel_rfl) (by kernel_rfl) (by kernel_rfl) (by kernel_rfl) (fun _ _ _ h => h) (Or.inr ⟨by kernel_rfl, rfl⟩) (by assumption) ?_
                try simp only [Act.put, List.setIfInBounds_toArray, List.set_cons_zero, List.set_cons_succ]
                refine take_at (i := 35) (D := 119) (v := undef) rfl (by kernel_rfl) (by kernel_rfl) (by kernel_rfl) (by kernel_rfl) (fun _ _ _ h => h) (Or.inr ⟨by kernel_rfl, rfl⟩) (by assumption) ?_
                try simp only [Act.put, List.setIfInBounds_toArray, List.set_cons_zero, List.set_cons_succ]
                refine take_at (i := 36) (D := 120) (v := undef) rfl (by kernel_rfl) (by kernel_rfl) (by kernel_rfl) (by kernel_rfl) (fun _ _ _ h => h) (Or.inr ⟨by kernel_rfl, rfl⟩) (by assumption) ?_
                try simp only [Act.put, List.setIfInBounds_toArray, List.set_cons_zero, List.set_cons_succ]
                refine take_at (i := 37) (D := 121) (v := undef) rfl (by kernel_rfl) (by kernel_rfl) (by kernel_rfl) (by kernel_rfl) (fun _ _ _ h => h) (Or.inr ⟨by kernel_rfl, rfl⟩) (by assumption) ?_
                try simp only [Act.put, List.setIfInBounds_toArray, List.set_cons_zero, List.set_cons_succ]
                refine take_at (i := 38) (D := 122) (v := undef) rfl (by kernel_rfl) (by kernel_rfl) (by kernel_rfl) (by kernel_rfl) (fun _ _ _ h => h) (Or.inr ⟨by kernel_rfl, rfl⟩) (by assumption) ?_
                try simp only [Act.put, List.setIfInBounds_toArray, List.set_cons_zero, List.set_cons_succ]
                refine take_at (i := 39) (D := 123) (v := undef) rfl (by kernel_rfl) (by kernel_rfl) (by kernel_rfl) (by kernel_rfl) (fun _ _ _ h => h) (Or.inr ⟨by kernel_rfl, rfl⟩) (by assumption) ?_
                try simp only [Act.put, List.setIfInBounds_toArray, List.set_cons_zero, List.set_cons_succ]
                refine take_at (i := 40) (D := 124) (v := undef) rfl (by kernel_rfl) (by kernel_rfl) (by kernel_rfl) (by kernel_rfl) (fun _ _ _ h => h) (Or.inr ⟨by kernel_rfl, rfl⟩) (by assumption) ?_
                try simp only [Act.put, List.setIfInBounds_toArray, List.set_cons_zero, List.set_cons_succ]
                refine take_at (i := 41) (D := 125) (v := undef) rfl (by kernel_rfl) (by kernel_rfl) (by kernel_rfl) (by kernel_rfl) (fun _ _ _ h => h) (Or.inr ⟨by kernel_rfl, rfl⟩) (by assumption) ?_
                try simp only [Act.put, List.setIfInBounds_toArray, List.set_cons_zero, List.set_cons_succ]
                refine take_at (i := 42) (D := 126) (v := undef) rfl (by kernel_rfl) (by kernel_rfl) (by kernel_rfl) (by kernel_rfl) (fun _ _ _ h => h) (Or.inr ⟨by kernel_rfl, rfl⟩) (by assumption) ?_
                try simp only [Act.put, List.setIfInBounds_toArray, List.set_cons_zero, List.set_cons_succ]
                refine take_at (i := 43) (D := 127) (v := undef) rfl (by kernel_rfl) (by kernel_rfl) (by kernel_rfl) (by kernel_rfl) (fun _ _ _ h => h) (Or.inr ⟨by kernel_rfl, rfl⟩) (by assumption) ?_
                try simp only [Act.put, List.setIfInBounds_toArray, List.set_cons_zero, List.set_cons_succ]
                refine take_at (i := 44) (D := 128) (v := undef) rfl (by kernel_rfl) (by kernel_rfl) (by kernel_rfl) (by kernel_rfl) (fun _ _ _ h => h) (Or.inr ⟨by kernel_rfl, rfl⟩) (by assumption) ?_
                try simp only [Act.put, List.setIfInBounds_toArray, List.set_cons_zero, List.set_cons_succ]
                refine take_at (i := 45) (D := 129) (v := undef) rfl (by kernel_rfl) (by kernel_rfl) (by kernel_rfl) (by kernel_rfl) (fun _ _ _ h => h) (Or.inr ⟨by kernel_rfl, rfl⟩) (by assumption) ?_
                try simp only [Act.put, List.setIfInBounds_toArray, List.set_cons_zero, List.set_cons_succ]
                refine take_at (i := 46) (D := 130) (v := undef) rfl (by kernel_rfl) (by kernel_rfl) (by kernel_rfl) (by kernel_rfl) (fun _ _ _ h => h) (Or.inr ⟨by kernel_rfl, rfl⟩) (by assumption) ?_
                try simp only [Act.put, List.setIfInBounds_toArray, List.set_cons_zero, List.set_cons_succ]
                refine take_at (i := 47) (D := 131) (v := undef) rfl (by kernel_rfl) (by kernel_rfl) (by kernel_rfl) (by kernel_rfl) (fun _ _ _ h => h) (Or.inr ⟨by kernel_rfl, rfl⟩) (by assumption) ?_
                try simp only [Act.put, List.setIfInBounds_toArray, List.set_cons_zero, List.set_cons_succ]
                refine take_at (i := 48) (D := 132) (v := undef) rfl (by kernel_rfl) (by kernel_rfl) (by kernel_rfl) (by kernel_rfl) (fun _ _ _ h => h) (Or.inr ⟨by kernel_rfl, rfl⟩) (by assumption) ?_
                try simp only [Act.put, List.setIfInBounds_toArray, List.set_cons_zero, List.set_cons_succ]
                refine take_at (i := 49) (D := 133) (v := undef) rfl (by kernel_rfl) (by kernel_rfl) (by kernel_rfl) (by kernel_rfl) (fun _ _ _ h => h) (Or.inr ⟨by kernel_rfl, rfl⟩) (by assumption) ?_
                try simp only [Act.put, List.setIfInBounds_toArray, List.set_cons_zero, List.set_cons_succ]
                refine take_at (i := 50) (D := 134) (v := undef) rfl (by kernel_rfl) (by kernel_rfl) (by kernel_rfl) (by kernel_rfl) (fun _ _ _ h => h) (Or.inr ⟨by kernel_rfl, rfl⟩) (by assumption) ?_
                try simp only [Act.put, List.setIfInBounds_toArray, List.set_cons_zero, List.set_cons_succ]
                refine take_at (i := 51) (D := 135) (v := undef) rfl (by kernel_rfl) (by kernel_rfl) (by kernel_rfl) (by kernel_rfl) (fun _ _ _ h => h) (Or.inr ⟨by kernel_rfl, rfl⟩) (by assumption) ?_
                try simp only [Act.put, List.setIfInBounds_toArray, List.set_cons_zero, List.set_cons_succ]
                refine take_at (i := 52) (D := 136) (v := undef) rfl (by kernel_rfl) (by kernel_rfl) (by kernel_rfl) (by kernel_rfl) (fun _ _ _ h => h) (Or.inr ⟨by kernel_rfl, rfl⟩) (by assumption) ?_
                try simp only [Act.put, List.setIfInBounds_toArray, List.set_cons_zero, List.set_cons_succ]
                refine take_at (i := 53) (D := 137) (v := undef) rfl (by kernel_rfl) (by kernel_rfl) (by kernel_rfl) (by kernel_rfl) (fun _ _ _ h => h) (Or.inr ⟨by kernel_rfl, rfl⟩) (by assumption) ?_
                try simp only [Act.put, List.setIfInBounds_toArray, List.set_cons_zero, List.set_cons_succ]
                refine take_at (i := 54) (D := 138) (v := undef) rfl (by kernel_rfl) (by kernel_rfl) (by kernel_rfl) (by kernel_rfl) (fun _ _ _ h => h) (Or.inr ⟨by kernel_rfl, rfl⟩) (by assumption) ?_
                try simp only [Act.put, List.setIfInBounds_toArray, List.set_cons_zero, List.set_cons_succ]
                refine take_at (i := 55) (D := 139) (v := undef) rfl (by kernel_rfl) (by kernel_rfl) (by kernel_rfl) (by kernel_rfl) (fun _ _ _ h => h) (Or.inr ⟨by kernel_rfl, rfl⟩) (by assumption) ?_
                try simp only [Act.put, List.setIfInBounds_toArray, List.set_cons_zero, List.set_cons_succ]
                refine take_at (i := 56) (D := 140) (v := undef) rfl (by kernel_rfl) (by kernel_rfl) (by kernel_rfl) (by kernel_rfl) (fun _ _ _ h => h) (Or.inr ⟨by kernel_rfl, rfl⟩) (by assumption) ?_
                try simp only [Act.put, List.setIfInBounds_toArray, List.set_cons_zero, List.set_cons_succ]
                refine take_at (i := 57) (D := 141) (v := undef) rfl (by kernel_rfl) (by kernel_rfl) (by kernel_rfl) (by kernel_rfl) (fun _ _ _ h => h) (Or.inr ⟨by kernel_rfl, rfl⟩) (by assumption) ?_
                try simp only [Act.put, List.setIfInBounds_toArray, List.set_cons_zero, List.set_cons_succ]
                refine take_at (i := 58) (D := 142) (v := undef) rfl (by kernel_rfl) (by kernel_rfl) (by kernel_rfl) (by kernel_rfl) (fun _ _ _ h => h) (Or.inr ⟨by kernel_rfl, rfl⟩) (by assumption) ?_
                try simp only [Act.put, List.setIfInBounds_toArray, List.set_cons_zero, List.set_cons_succ]
                refine take_at (i := 59) (D := 143) (v := ?_) rfl (by kernel_rfl) (by kernel_rfl) (by kernel_rfl) (by kernel_rfl) (fun _ _ _ h => h) (Or.inl ⟨by kernel_rfl, ?_⟩) (by assumption) ?_
                rotate_left
                · (intro w hSw; (try dsimp only at hSw); go_simp; (try with_reducible rfl))
                try simp only [Act.put, List.setIfInBounds_toArray, List.set_cons_zero, List.set_cons_succ]
                refine wpAnyH_done (by kernel_rfl) ?_ _
                have HE := Lib.hid (show R = (false, f3, s3) by
                  rw [HR3.out, show az.length - k = az.length - (k + 1) + 1 by omega, tabsL_one HT.out.e1 (by rw [HP.out]; exact HT.out.e2) HE1.out, contL_no])
                go_wp2_with fail
                go_ret
                exact ⟨_, by rw [HE.out]; exact ret_bool rfl, by rw [HE.out]; exact HM3.out, HO2d.out.next HAT.out HO3.out, HAT.out.trans HA3.out HO2d.out.size⟩
              | true =>
                refine take_at (i := 28) (D := 112) (v := ?_) rfl (by kernel_rfl) (by kernel_rfl) (by kernel_rfl) (by kernel_rfl) (fun _ _ _ h => h) (Or.inl ⟨by kernel_rfl, ?_⟩) (by assumption) ?_
                rotate_left
                · (intro w hSw; (try dsimp only at hSw); go_simp; (try with_reducible rfl))
                try simp only [Act.put, List.setIfInBounds_toArray, List.set_cons_zero, List.set_cons_succ]
                refine take_at (i := 29) (D := 113) (v := ?_) rfl (by kernel_rfl) (by kernel_rfl) (by kernel_rfl) (by kernel_rfl) (fun _ _ _ h => h) (Or.inl ⟨by kernel_rfl, ?_⟩) (by assumption) ?_
                rotate_left
                · (intro w hSw; (try dsimp only at hSw); go_simp; (try with_reducible rfl))
                try simp only [Act.put, List.setIfInBounds_toArray, List.set_cons_zero, List.set_cons_succ]
                refine take_at (i := 30) (D := 114) (v := ?_) rfl (by kernel_rfl) (by kernel_rfl) (by kernel_rfl) (by kernel_rfl) (fun _ _ _ h => h) (Or.inl ⟨by kernel_rfl, ?_⟩) (by assumption) ?_
                rotate_left
                · (intro w hSw; (try dsimp only at hSw); go_simp; (try with_reducible rfl))
                try simp only [Act.put, List.setIfInBounds_toArray, List.set_cons_zero, List.set_cons_succ]
                refine take_at (i := 31) (D := 115) (v := ?_) rfl (by kernel_rfl) (by kernel_rfl) (by kernel_rfl) (by kernel_rfl) (fun _ _ _ h => h) (Or.inl ⟨by kernel_rfl, ?_⟩) (by assumption) ?_
                rotate_left
                · (intro w hSw; (try dsimp only at hSw); go_simp; (try with_reducible rfl))
                try simp only [Act.put, List.setIfInBounds_toArray, List.set_cons_zero, List.set_cons_succ]
                refine take_at (i := 32) (D := 116) (v := ?_) rfl (by kernel_rfl) (by kernel_rfl) (by kernel_rfl) (by kernel_rfl) (fun _ _ _ h => h) (Or.inl ⟨by kernel_rfl, ?_⟩) (by assumption) ?_
                rotate_left
                · (intro w hSw; (try dsimp only at hSw); go_simp; (try with_reducible rfl))
                try simp only [Act.put, List.setIfInBounds_toArray, List.set_cons_zero, List.set_cons_succ]
                refine take_at (i := 33) (D := 117) (v := ?_) rfl (by kernel_rfl) (by kernel_rfl) (by kernel_rfl) (by kernel_rfl) (fun _ _ _ h => h) (Or.inl ⟨by kernel_rfl, ?_⟩) (by assumption) ?_
                rotate_left
                · (intro w hSw; (try dsimp only at hSw); go_simp; (try with_reducible rfl))
                try simp only [Act.put, List.setIfInBounds_toArray, List.set_cons_zero, List.set_cons_succ]
                refine take_at (i := 34) (D := 118) (v := ?_) rfl (by kernel_rfl) (by kernel_rfl) (by kernel_rfl) (by kernel_rfl) (fun _ _ _ h => h) (Or.inl ⟨by kernel_rfl, ?_⟩) (by assumption) ?_
                rotate_left
                · (intro w hSw; (try dsimp only at hSw); go_simp; (try with_reducible rfl))
                try simp only [Act.put, List.setIfInBounds_toArray, List.set_cons_zero, List.set_cons_succ]
                refine take_at (i := 35) (D := 119) (v := ?_) rfl (by kernel_rfl) (by kernel_rfl) (by kernel_rfl) (by kernel_rfl) (fun _ _ _ h => h) (Or.inl ⟨by kernel_rfl, ?_⟩) (by assumption) ?_
                rotate_left
                · (intro w hSw; (try dsimp only at hSw); go_simp; (try with_reducible rfl))
                try simp only [Act.put, List.setIfInBounds_toArray, List.set_cons_zero, List.set_cons_succ]
                refine take_at (i := 36) (D := 120) (v := ?_) rfl (by kernel_rfl) (by kernel_rfl) (by kernel_rfl) (by kernel_rfl) (fun _ _ _ h => h) (Or.inl ⟨by kernel_rfl, ?_⟩) (by assumption) ?_
                rotate_left
                · (intro w hSw; (try dsimp only at hSw); go_simp; (try with_reducible rfl))
                try simp only [Act.put, List.setIfInBounds_toArray, List.set_cons_zero, List.set_cons_succ]
                refine take_at (i := 37) (D := 121) (v := ?_) rfl (by kernel_rfl) (by kernel_rfl) (by kernel_rfl) (by kernel_rfl) (fun _ _ _ h => h) (Or.inl ⟨by kernel_rfl, ?_⟩) (by assumption) ?_
                rotate_left
                · (intro w hSw; (try dsimp only at hSw); go_simp; (try with_reducible rfl))
                try simp only [Act.put, List.setIfInBounds_toArray, List.set_cons_zero, List.set_cons_succ]
                refine take_at (i := 38) (D := 122) (v := ?_) rfl (by kernel_rfl) (by kernel_rfl) (by kernel_rfl) (by kernel_rfl) (fun _ _ _ h => h) (Or.inl ⟨by kernel_rfl, ?_⟩) (by assumption) ?_
                rotate_left
                · (intro w hSw; (try dsimp only at hSw); go_simp; (try with_reducible rfl))
                try simp only [Act.put, List.setIfInBounds_toArray, List.set_cons_zero, List.set_cons_succ]
                refine take_at (i := 39) (D := 123) (v := ?_) rfl (by kernel_rfl) (by kernel_rfl) (by kernel_rfl) (by kernel_rfl) (fun _ _ _ h => h) (Or.inl ⟨by kernel_rfl, ?_⟩) (by assumption) ?_
                rotate_left
                · (intro w hSw; (try dsimp only at hSw); go_simp; (try with_reducible rfl))
                try simp only [Act.put, List.setIfInBounds_toArray, List.set_cons_zero, List.set_cons_succ]
                refine take_at (i := 40) (D := 124) (v := ?_) rfl (by kernel_rfl) (by kernel_rfl) (by kernel_rfl) (by kernel_rfl) (fun _ _ _ h => h) (Or.inl ⟨by kernel_rfl, ?_⟩) (by assumption) ?_
                rotate_left
                · (intro w hSw; (try dsimp only at hSw); go_simp; (try with_reducible rfl))
                try simp only [Act.put, List.setIfInBounds_toArray, List.set_cons_zero, List.set_cons_succ]
                refine take_at (i := 41) (D := 125) (v := ?_) rfl (by kernel_rfl) (by kernel_rfl) (by kernel_rfl) (by kernel_rfl) (fun _ _ _ h => h) (Or.inl ⟨by kernel_rfl, ?_⟩) (by assumption) ?_
                rotate_left
                · (intro w hSw; (try dsimp only at hSw); go_simp; (try with_reducible rfl))
                try simp only [Act.put, List.setIfInBounds_toArray, List.set_cons_zero, List.set_cons_succ]
                refine take_at (i := 42) (D := 126) (v := ?_) rfl (by kernel_rfl) (by kernel_rfl) (by kernel_rfl) (by kernel_rfl) (fun _ _ _ h => h) (Or.inl ⟨by kernel_rfl, ?_⟩) (by assumption) ?_
                rotate_left
                · (intro w hSw; (try dsimp only at hSw); go_simp; (try with_reducible rfl))
                try simp only [Act.put, List.setIfInBounds_toArray, List.set_cons_zero, List.set_cons_succ]
                refine take_at (i := 43) (D := 127) (v := ?_) rfl (by kernel_rfl) (by kernel_rfl) (by kernel_rfl) (by kernel_rfl) (fun _ _ _ h => h) (Or.inl ⟨by kernel_rfl, ?_⟩) (by assumption) ?_
                rotate_left
                · (intro w hSw; (try dsimp only at hSw); go_simp; (try with_reducible rfl))
                try simp only [Act.put, List.setIfInBounds_toArray, List.set_cons_zero, List.set_cons_succ]
                refine take_at (i := 44) (D := 128) (v := ?_) rfl (by kernel_rfl) (by kernel_rfl) (by kernel_rfl) (by kernel_rfl) (fun _ _ _ h => h) (Or.inl ⟨by kernel_rfl, ?_⟩) (by assumption) ?_
                rotate_left
                · (intro w hSw; (try dsimp only at hSw); go_simp; (try with_reducible rfl))
                try simp only [Act.put, List.setIfInBounds_toArray, List.set_cons_zero, List.set_cons_succ]
                refine take_at (i := 45) (D := 129) (v := ?_) rfl (by kernel_rfl) (by kernel_rfl) (by kernel_rfl) (by kernel_rfl) (fun _ _ _ h => h) (Or.inl ⟨by kernel_rfl, ?_⟩) (by assumption) ?_
                rotate_left
                · (intro w hSw; (try dsimp only at hSw); go_simp; (try with_reducible rfl))
                try simp only [Act.put, List.setIfInBounds_toArray, List.set_cons_zero, List.set_cons_succ]
                refine take_at (i := 46) (D := 130) (v := ?_) rfl (by kernel_rfl) (by kernel_rfl) (by kernel_rfl) (by kernel_rfl) (fun _ _ _ h => h) (Or.inl ⟨by kernel_rfl, ?_⟩) (by assumption) ?_
                rotate_left
                · (intro w hSw; (try dsimp only at hSw); go_simp; (try with_reducible rfl))
                try simp only [Act.put, List.setIfInBounds_toArray, List.set_cons_zero, List.set_cons_succ]
                refine take_at (i := 47) (D := 131) (v := ?_) rfl (by kernel_rfl) (by kernel_rfl) (by kernel_rfl) (by kernel_rfl) (fun _ _ _ h => h) (Or.inl ⟨by kernel_rfl, ?_⟩) (by assumption) ?_
                rotate_left
                · (intro w hSw; (try dsimp only at hSw); go_simp; (try with_reducible rfl))
                try simp only [Act.put, List.setIfInBounds_toArray, List.set_cons_zero, List.set_cons_succ]
                refine take_at (i := 48) (D := 132) (v := ?_) rfl (by kernel_rfl) (by kernel_rfl) (by kernel_rfl) (by kernel_rfl) (fun _ _ _ h => h) (Or.inl ⟨by kernel_rfl, ?_⟩) (by assumption) ?_
                rotate_left
                · (intro w hSw; (try dsimp only at hSw); go_simp; (try with_reducible rfl))
                try simp only [Act.put, List.setIfInBounds_toArray, List.set_cons_zero, List.set_cons_succ]
                refine take_at (i := 49) (D := 133) (v := ?_) rfl (by kernel_rfl) (by kernel_rfl) (by kernel_rfl) (by kernel_rfl) (fun _ _ _ h => h) (Or.inl ⟨by kernel_rfl, ?_⟩) (by assumption) ?_
                rotate_left
                · (intro w hSw; (try dsimp only at hSw); go_simp; (try with_reducible rfl))
                try simp only [Act.put, List.setIfInBounds_toArray, List.set_cons_zero, List.set_cons_succ]
                refine take_at (i := 50) (D := 134) (v := ?_) rfl (by kernel_rfl) (by kernel_rfl) (by kernel_rfl) (by kernel_rfl) (fun _ _ _ h => h) (Or.inl ⟨by kernel_rfl, ?_⟩) (by assumption) ?_
                rotate_left
                · (intro w hSw; (try dsimp only at hSw); go_simp; (try with_reducible rfl))
                try simp only [Act.put, List.setIfInBounds_toArray, List.set_cons_zero, List.set_cons_succ]
                refine take_at (i := 51) (D := 135) (v := ?_) rfl (by kernel_rfl) (by kernel_rfl) (by kernel_rfl) (by kernel_rfl) (fun _ _ _ h => h) (Or.inl ⟨by kernel_rfl, ?_⟩) (by assumption) ?_
                rotate_left
                · (intro w hSw; (try dsimp only at hSw); go_simp; (try with_reducible rfl))
                try simp only [Act.put, List.setIfInBounds_toArray, List.set_cons_zero, List.set_cons_succ]
                refine take_at (i := 52) (D := 136) (v := ?_) rfl (by kernel_rfl) (by kernel_rfl) (by kernel_rfl) (by kernel_rfl) (fun _ _ _ h => h) (Or.inl ⟨by kernel_rfl, ?_⟩) (by assumption) ?_
                rotate_left
                · (intro w hSw; (try dsimp only at hSw); go_simp; (try with_reducible rfl))
                try simp only [Act.put, List.setIfInBounds_toArray, List.set_cons_zero, List.set_cons_succ]
                refine take_at (i := 53) (D := 137) (v := ?_) rfl (by kernel_rfl) (by kernel_rfl) (by kernel_rfl) (by kernel_rfl) (fun _ _ _ h => h) (Or.inl ⟨by kernel_rfl, ?_⟩) (by assumption) ?_
                rotate_left
                · (intro w hSw; (try dsimp only at hSw); go_simp; (try with_reducible rfl))
                try simp only [Act.put, List.setIfInBounds_toArray, List.set_cons_zero, List.set_cons_succ]
                refine take_at (i := 54) (D := 138) (v := ?_) rfl (by kernel_rfl) (by kernel_rfl) (by kernel_rfl) (by kernel_rfl) (fun _ _ _ h => h) (Or.inl ⟨by kernel_rfl, ?_⟩) (by assumption) ?_
                rotate_left
                · (intro w hSw; (try dsimp only at hSw); go_simp; (try with_reducible rfl))
                try simp only [Act.put, List.setIfInBounds_toArray, List.set_cons_zero, List.set_cons_succ]
                refine take_at (i := 55) (D := 139) (v := ?_) rfl (by kernel_rfl) (by kernel_rfl) (by kernel_rfl) (by kernel_rfl) (fun _ _ _ h => h) (Or.inl ⟨by kernel_rfl, ?_⟩) (by assumption) ?_
                rotate_left
                · (intro w hSw; (try dsimp only at hSw); go_simp; (try with_reducible rfl))
                try simp only [Act.put, List.setIfInBounds_toArray, List.set_cons_zero, List.set_cons_succ]
                refine take_at (i := 56) (D := 140) (v := ?_) rfl (by kernel_rfl) (by kernel_rfl) (by kernel_rfl) (by kernel_rfl) (fun _ _ _ h => h) (Or.inl ⟨by kernel_rfl, ?_⟩) (by assumption) ?_
                rotate_left
                · (intro w hSw; (try dsimp only at hSw); go_simp; (try with_reducible rfl))
                try simp only [Act.put, List.setIfInBounds_toArray, List.set_cons_zero, List.set_cons_succ]
                obtain ⟨-, -, -, -, -, c1, c2⟩ := HB2.out _ _ HE1.out
                have HC1' := Lib.hid c1
                have HC2' := Lib.hid c2
                have hd3 : n - s3.length ≤ d := (HB2.out _ _ HE1.out).2.2.2.2.1
                have HD3 := Lib.hid hd3
                clear c1 c2 hd3
                rcases e2 : asgF n az bz d f3 s3 x2 v2 with ⟨r2, f4, s4⟩
                have HC2 := Lib.hid (show ∀ W, AsgSt base X M I U tb tq cz ub uo cu n az bz f3 s3 sv3 W → Calls Tryz.prog 74 #[.pointer (some ⟨M, 0, none⟩), .int .i64 x2, .int .i64 v2] W (AsgPost base M I U (.slice (some ⟨tb, tq, none⟩) az.length cz) (.slice (some ⟨ub, uo, none⟩) bz.length cu) n sv3 r2 f4 s4 W) from fun W h => by
                  have := IH.out f3 s3 _ W x2 v2 HD3.out h HT.out.l3 HT.out.l4
                  rw [e2] at this
                  exact this)
                have hg2 := HOK.out f3 s3 x2 v2 r2 f4 s4 HD3.out HG1.out.part HT.out.l3 HT.out.l4 e2
                have HY4 := Lib.hid (show ix f4 y = (p : Int) by rw [hg2.goes.2 y hyn (by rw [HY3.out]; omega)]; exact HY3.out)
                have HG2 := Lib.hid hg2
                have HE2 := Lib.hid e2
                clear hg2 e2
                refine wpAnyH_ready (rs := [57]) (by kernel_rfl) (by simp) ?_
                refine AllReadyH.cons rfl (fun K hK => ?_) AllReadyH.nil
                go_simp
                go_at_call 74
                refine (HC2.out w6 HST3.out).mono ?_
                rintro e w7 ⟨sv4, rfl, hm4, ho4, ha4⟩
                obtain ⟨k1, k2, k3, k4, k5, k6, k7, k8, k9, k10, k11, k12⟩ := hHeld
                have kb7 : KeepB base X w6 w7 := ho4.keepB HST3.out.st.ownLow HST3.out.st.size
                have z1 := hm4.c1
                have z2 := hm4.c2
                have z3 := hm4.img.cell hyn
                rw [HY4.out] at z3
                obtain ⟨l4, hl4⟩ := HG2.out.more
                obtain ⟨l3', hl3'⟩ := HG1.out.more
                obtain ⟨S4, c4, hsv4, -⟩ := hm4.row (show 0 < s4.length by rw [hl4, hl3', HS2.out]; simp; omega)
                subst hsv4
                have HM4 := Lib.hid hm4
                have HO4 := Lib.hid ho4
                have HA4 := Lib.hid ha4
                have HO5 := Lib.hid ((HO2d.out.next HAT.out HO3.out).next (HAT.out.trans HA3.out HO2d.out.size) HO4.out)
                have HA5 := Lib.hid ((HAT.out.trans HA3.out HO2d.out.size).trans HA4.out (HO2d.out.next HAT.out HO3.out).size)
                clear hm4 ho4 ha4 hl4 hl3'
                refine hK.out _ _ ?_ (fun hHeld => ?_)
                · (refine ⟨?_, ?_, ?_, ?_, ?_, ?_, ?_, ?_, ?_, ?_, ?_, ?_⟩ <;> (first | (with_reducible assumption) | (with_reducible apply kc_drew; with_reducible assumption) | (with_reducible refine KeepB.cell kb7 (by assumption) (by assumption) ?_; with_reducible assumption)))
                clear hK K k1 k2 k3 k4 k5 k6 k7 k8 k9 k10 k11 k12 z1 z2 z3
                try simp only [Act.put, List.setIfInBounds_toArray, List.set_cons_zero, List.set_cons_succ]
                refine take_at (i := 58) (D := 142) (v := ?_) rfl (by kernel_rfl) (by kernel_rfl) (by kernel_rfl) (by kernel_rfl) (fun _ _ _ h => h) (Or.inl ⟨by kernel_rfl, ?_⟩) (by assumption) ?_
                rotate_left
                · (intro w hSw; (try dsimp only at hSw); go_simp; (try with_reducible rfl))
                try simp only [Act.put, List.setIfInBounds_toArray, List.set_cons_zero, List.set_cons_succ]
                refine take_at (i := 59) (D := 143) (v := ?_) rfl (by kernel_rfl) (by kernel_rfl) (by kernel_rfl) (by kernel_rfl) (fun _ _ _ h => h) (Or.inl ⟨by kernel_rfl, ?_⟩) (by assumption) ?_
                rotate_left
                · (intro w hSw; (try dsimp only at hSw); go_simp; (try with_reducible rfl))
                try simp only [Act.put, List.setIfInBounds_toArray, List.set_cons_zero, List.set_cons_succ]
                refine wpAnyH_done (by kernel_rfl) ?_ _
                cases r2 with
                | false =>
                  have HE := Lib.hid (show R = (false, f4, s4) by
                    rw [HR3.out, show az.length - k = az.length - (k + 1) + 1 by omega, tabsL_two HT.out.e1 (by rw [HP.out]; exact HT.out.e2) HE1.out HT.out.e3 (by rw [HY3.out]; exact HT.out.e4) HE2.out, contL_no])
                  go_wp2_with fail
                  go_ret
                  exact ⟨_, by rw [HE.out]; exact ret_bool rfl, by rw [HE.out]; exact HM4.out, HO5.out, HA5.out⟩
                | true =>
                  have HE := Lib.hid (show R = contL (asgF n az bz d) az bz x q (n - (j + 1)) j (tabsL (asgF n az bz d) az bz x q y (az.length - (k + 1)) (k + 1) f4 s4) by
                    rw [HR3.out, show az.length - k = az.length - (k + 1) + 1 by omega, tabsL_go HT.out.e1 (by rw [HP.out]; exact HT.out.e2) HE1.out HT.out.e3 (by rw [HY3.out]; exact HT.out.e4) HE2.out])
                  obtain ⟨hlp4, l5, hl5⟩ := HC2'.out _ _ HE2.out
                  have HL4 := Lib.hid hlp4
                  have HL5 := Lib.hid hl5
                  clear hlp4 hl5
                  go_wp2_with fail
                  go_roundw
                  case rel => exact ⟨k + 1, f4, s4, l5, S4, c4, by go_num, by omega, HE.out, HL4.out, HL5.out, HM4.out, HO5.out, HA5.out⟩
                  case measure => simp [intOf]; omega

end Go.Proofs.YthlafeefjonkdaaGreatDoor
