/-
  The law FnWordQuotients, walked.
-/
import Derived.Laws.AppendOwn
import Derived.Test.YtjfjpngajboidaaGreatJx45
namespace Go.Proofs.YtjfjpngajboidaaGreat
set_option linter.unusedVariables false
set_option linter.unusedSimpArgs false
open Go.RowKit
attribute [local go_sem ↓] Go.wp_at_zero Go.wp_at_succ
open Go.Deep

theorem step_append_ints {P : Program} {w : World} {ops : Array Oper} {o : Oper} {a : Act} {K : Act → World → Prop} {Q : Exit → Act → World → Prop} {E : Prop} (hgd : o.guard = none) (s x : Operand) (t e : TypeId)
    (ho : o.op = .call { callee := .builtin .append, args := #[s, x], argTypes := #[t, t] }) (ht : P.underlying t = some (.slice e)) (hinfo : (P.info? e).map (fun i => (i.zero, i.size, i.bytes)) = some (some (.int .i64 0), 1, 8))
    (base : Nat) (v : Value) (l : List Int) (hs : a.eval s = v) (hown : GrowI e base w v l) (hv : v ≠ .slice none 0 0) (b q c n N : Nat) (m : List Int) (hn : m.length = n) (hN : (l ++ m).length = N) (hx : a.eval x = .slice (some ⟨b, q, none⟩) n c) (hc : IntsAt w b q m)
    (hl : l.length ≤ 1048576) (hm : m.length ≤ 1048576) (hbase : base ≤ w.heap.size)
    (h : ∀ g cap w', GrowI e base w' (.slice (some ⟨g, 0, none⟩) N cap) (l ++ m) → w.grownBy w' v.ownBlock → K (a.put o.dst (.slice (some ⟨g, 0, none⟩) N cap)) w') : if Region.wanted o (yielded ops a.tmps) = true then Oper.wp P o a w K Q else E := by
  subst hn
  rw [if_pos (by simp [Region.wanted, hgd])]
  obtain ⟨i0, hi, hz0, hz1, hz2⟩ := info_parts hinfo
  refine wp_append_own w s x t ho base e i0 (.int .i64 0) 1 8 ht hi hz0 hz1 hz2 rfl (by decide) v l.length (l.map (Value.int .i64)) hs hown ⟨b, q, none⟩ m.length c (m.map (Value.int .i64)) hx (by simp) ?_ ?_ (by unfold maxLen; omega) (by omega) hbase ?_
  · intro j u hj
    have hj' : j < m.length := by
      have := (List.getElem?_eq_some_iff.1 hj).1
      simpa using this
    have hc' := hc j hj'
    rw [ix_eq] at hc'
    simp [List.getD, hj'] at hj hc'
    rw [← hj]
    simpa [Addr.add_lit, Nat.add_comm] using hc'
  · intro u hu
    simp at hu
    obtain ⟨z, _, rfl⟩ := hu
    rfl
  · intro v' w' h1 h2 h3
    have e1 : (l.map (Value.int .i64)) ++ (m.map (Value.int .i64)) = (l ++ m).map (Value.int .i64) := by simp
    rw [e1] at h1
    have hlen : (l ++ m).length = l.length + m.length := by simp
    have hne : v' ≠ .slice none 0 0 := fun e2 => hv (h3.1 e2).1
    have hg : GrowI e base w' v' (l ++ m) := by unfold GrowI; rw [hlen]; exact h1
    obtain ⟨g, cap, rfl, -⟩ := hg.own hne
    rw [hN] at hg ⊢
    exact h g cap w' hg h2
theorem growE_lit {e base : Nat} {w W : World} {g : Nat} (hg : g = w.heap.size) (hb : base ≤ w.heap.size) (hx : Ext (w.alloc (.cells #[] e)) W) : GrowI e base W (.slice (some ⟨g, 0, none⟩) 0 0) [] := by
  subst hg
  exact (GrowI.lit hb).ext hx
noncomputable def qvL (L S : List (List Int)) (p q : List Int) : List Int := if quC L S p q = 0 then quV L S p q else []
theorem retW_R {L S : List (List Int)} {p q : List Int} {lo : Nat} {w : World} {v : Value} (h1 : quC L S p q = 0 → RK lo (fun _ => False) w v (quV L S p q)) (h2 : quC L S p q ≠ 0 → v = .slice none 0 0) : IntsR w v (qvL L S p q) ∧ (qvL L S p q).length ≤ 1048576 := by
  unfold qvL
  by_cases h : quC L S p q = 0
  · rw [if_pos h]
    exact ⟨(h1 h).ints.toR, (h1 h).1⟩
  · rw [if_neg h, h2 h]
    exact ⟨⟨none, 0, rfl, fun k => absurd rfl k⟩, by simp⟩
theorem RowsW.toE {lo : Nat} {w : World} {v : Value} {t : List (List Int)} (h : RowsW lo w v t) : RowsE w v t :=
  ⟨by
    by_cases hp : 0 < t.length
    · exact (h.2 hp).1
    · omega, h.1, fun hp => (h.2 hp).rows⟩
theorem RowsE.nil (w : World) : RowsE w (.slice none 0 0) [] := ⟨by simp, ⟨none, 0, rfl⟩, fun h => by simp at h⟩
theorem RowsE.ext {w w' : World} {v : Value} {t : List (List Int)} (h : RowsE w v t) (hx : Ext w w') : RowsE w' v t := ⟨h.1, h.2.1, fun hp => (h.2.2 hp).ext hx⟩

theorem ae_len {L S : List (List Int)} {u v : List Int} (h : aeC L S u v = 0) : u.length ≤ 8 := by
  by_cases hc : codeW L S u v = 0
  · exact (codeW_zero hc).2.1.2
  · rw [aeC_bad hc] at h; exact absurd h hc

set_option maxRecDepth 100000 in
set_option maxHeartbeats 8000000 in
theorem lawWordQuotients (w : World) (bs : List Int) (v : Value) (hv : BytesR w v bs) :
    Calls Tryz.prog 3 #[v] w fun e w' => e = .returned (.bool true) ∧ Ext w w' := by
  obtain ⟨va, vc, rfl, -⟩ := id hv
  go_enter Tryz.func3, Tryz.ntmps3
  go_wp2_with fail
  refine (big_any va bs.length vc w).mono ?_
  rintro e w1 ⟨rfl, rfl⟩
  by_cases hbig : 4096 < (bs.length : Int)
  case pos =>
    go_wp2
    go_ret
    exact ⟨rfl, Ext.refl _⟩
  case neg =>
    have HV := Lib.hid hv
    have HB := Lib.hid (show bs.length ≤ 4096 by omega)
    go_wp2_with fail
    refine (DrawQuotientWord_any bs _ _ HV.out HB.out).mono ?_
    rintro e w1 ⟨v1, y1, u1, x1, L, U, p, q, rfl, hA, hU, hp, hq, hpl, hql, hX⟩
    obtain ⟨-, d1, o1, c1, rfl, -⟩ := id hA
    obtain ⟨-, d2, o2, c2, rfl, -⟩ := id hU
    obtain ⟨-, d3, o3, c3, rfl, -⟩ := id hp
    obtain ⟨-, d4, o4, c4, rfl, -⟩ := id hq
    have hxb : Ext w1 (w1.alloc (.cells #[.slice (some ⟨d1, o1, none⟩) L.length c1, .slice (some ⟨d2, o2, none⟩) U.length c2] 26)) := (Ext.refl _).alloc _
    have k0 := cell_new2a w1 (.slice (some ⟨d1, o1, none⟩) L.length c1) (.slice (some ⟨d2, o2, none⟩) U.length c2) 26
    have k1 := cell_new2b w1 (.slice (some ⟨d1, o1, none⟩) L.length c1) (.slice (some ⟨d2, o2, none⟩) U.length c2) 26
    have HA := Lib.hid (hA.ext hxb)
    have HU := Lib.hid (hU.ext hxb)
    have HP := Lib.hid (hp.ext hxb)
    have HQ := Lib.hid (hq.ext hxb)
    have HX := Lib.hid (hX.trans hxb)
    have hw12 : w1.heap.size < (w1.alloc (.cells #[.slice (some ⟨d1, o1, none⟩) L.length c1, .slice (some ⟨d2, o2, none⟩) U.length c2] 26)).heap.size := by simp
    clear hA hU hp hq hX hxb hv hbig
    obtain ⟨C1, hC1⟩ : ∃ C, C = quC L U p q := ⟨_, rfl⟩
    obtain ⟨C2, hC2⟩ : ∃ C, C = dvC L U p q := ⟨_, rfl⟩
    obtain ⟨BB, hBB⟩ : ∃ C, C = dvB L U p q := ⟨_, rfl⟩
    obtain ⟨qv, hqv⟩ : ∃ C, C = qvL L U p q := ⟨_, rfl⟩
    have TQ : ∀ (F : FuncId) (W : World), Calls Tryz.prog F #[.agg #[.slice (some ⟨d1, o1, none⟩) L.length c1, .slice (some ⟨d2, o2, none⟩) U.length c2], .slice (some ⟨d3, o3, none⟩) p.length c3, .slice (some ⟨d4, o4, none⟩) q.length c4] W (RetW (quC L U p q) (quV L U p q) W) → Calls Tryz.prog F #[.agg #[.slice (some ⟨d1, o1, none⟩) L.length c1, .slice (some ⟨d2, o2, none⟩) U.length c2], .slice (some ⟨d3, o3, none⟩) p.length c3, .slice (some ⟨d4, o4, none⟩) q.length c4] W fun e W' => ∃ x, e = .returned (.tuple #[x, .int .i64 C1]) ∧ IntsR W' x qv ∧ qv.length ≤ 1048576 ∧ (C1 = 0 → Ints W' x qv) ∧ Ext W W' := fun F W h => h.mono (by
      rintro e W' ⟨x, rfl, h1, h2, hx⟩
      obtain ⟨h3, h4⟩ := retW_R h1 h2
      exact ⟨x, by rw [hC1], by rw [hqv]; exact h3, by rw [hqv]; exact h4, fun hc => by rw [hC1] at hc; rw [hqv]; unfold qvL; rw [if_pos hc]; exact (h1 hc).ints, hx⟩)
    have TQ := Lib.hid TQ
    have TD : ∀ (F : FuncId) (W : World), Calls Tryz.prog F #[.agg #[.slice (some ⟨d1, o1, none⟩) L.length c1, .slice (some ⟨d2, o2, none⟩) U.length c2], .slice (some ⟨d3, o3, none⟩) p.length c3, .slice (some ⟨d4, o4, none⟩) q.length c4] W (RetDv L U p q W) → Calls Tryz.prog F #[.agg #[.slice (some ⟨d1, o1, none⟩) L.length c1, .slice (some ⟨d2, o2, none⟩) U.length c2], .slice (some ⟨d3, o3, none⟩) p.length c3, .slice (some ⟨d4, o4, none⟩) q.length c4] W fun e W' => e = .returned (.tuple #[.bool BB, .int .i64 C2]) ∧ Ext W W' := fun F W h => h.mono (by
      rintro e W' ⟨rfl, hx⟩
      exact ⟨by rw [hBB, hC2], hx⟩)
    have TD := Lib.hid TD
    have HC1 := Lib.hid hC1
    have HC2 := Lib.hid hC2
    have HBB := Lib.hid hBB
    have HQV := Lib.hid hqv
    clear hC1 hC2 hBB hqv
    go_wp2_with fail
    generalize (w1.alloc (.cells #[.slice (some ⟨d1, o1, none⟩) L.length c1, .slice (some ⟨d2, o2, none⟩) U.length c2] 26)) = w2 at *
    refine (TQ.out _ _ (QuotientWord_impl L U p q _ _ _ _ _ HA.out HU.out HP.out HQ.out)).mono ?_
    rintro e w3 ⟨x3, rfl, hx3, hl3, hi3, hX3⟩
    have HI := Lib.hid hx3
    have HI0 := Lib.hid hi3
    have HX30 := Lib.hid (Ext.refl w3)
    clear hi3
    have HL := Lib.hid hl3
    have HXX := Lib.hid hX3
    have HXA := Lib.hid (hX3)
    have k0 := hX3.cell k0
    have k1 := hX3.cell k1
    clear hx3 hl3 hX3
    go_wp2_with fail
    refine (TQ.out _ _ (QuotientWord_any L U p q _ _ _ _ _ (HA.out.ext HXA.out) (HU.out.ext HXA.out) (HP.out.ext HXA.out) (HQ.out.ext HXA.out))).mono ?_
    rintro e w4 ⟨x4, rfl, hx4, -, -, hX4⟩
    have HX30 := Lib.hid (HX30.out.trans hX4)
    have HI := Lib.hid (HI.out.ext hX4)
    have HJ := Lib.hid hx4
    have HXB := Lib.hid (HXA.out.trans hX4)
    have k0 := hX4.cell k0
    have k1 := hX4.cell k1
    clear hx4 hX4 HXA HXX
    go_wp2_with fail
    refine (TD.out _ _ (DividesWord_impl L U p q _ _ _ _ _ (HA.out.ext HXB.out) (HU.out.ext HXB.out) (HP.out.ext HXB.out) (HQ.out.ext HXB.out))).mono ?_
    rintro e w5 ⟨rfl, hX5⟩
    have HX30 := Lib.hid (HX30.out.trans hX5)
    have HI := Lib.hid (HI.out.ext hX5)
    have HJ := Lib.hid (HJ.out.ext hX5)
    have HXC := Lib.hid (HXB.out.trans hX5)
    have k0 := hX5.cell k0
    have k1 := hX5.cell k1
    clear hX5 HXB
    go_wp2_with fail
    refine (TD.out _ _ (DividesWord_any L U p q _ _ _ _ _ (HA.out.ext HXC.out) (HU.out.ext HXC.out) (HP.out.ext HXC.out) (HQ.out.ext HXC.out))).mono ?_
    rintro e w6 ⟨rfl, hX6⟩
    have HX30 := Lib.hid (HX30.out.trans hX6)
    have HI := Lib.hid (HI.out.ext hX6)
    have HJ := Lib.hid (HJ.out.ext hX6)
    have HXD := Lib.hid (HXC.out.trans hX6)
    have k0 := hX6.cell k0
    have k1 := hX6.cell k1
    clear hX6 HXC TQ TD
    go_wp2_with fail
    refine (likeInts_any qv qv _ _ _ HI.out HJ.out HL.out).mono ?_
    rintro e w7 ⟨rfl, hd7⟩
    have HX30 := Lib.hid (HX30.out.trans hd7.ext)
    rw [show eqIB qv qv = true from eqIB_yes rfl]
    have HI := Lib.hid (HI.out.ext hd7.ext)
    have HXE := Lib.hid (HXD.out.trans hd7.ext)
    have k0 := hd7.ext.cell k0
    have k1 := hd7.ext.cell k1
    clear hd7 HJ HXD
    by_cases hz : C2 = 0
    case neg =>
      have e12 : C1 = C2 := by rw [HC1.out, HC2.out]; exact quC_bad (by rw [← HC2.out]; exact hz)
      subst e12
      clear HC1 HC2 HI HL HQV HBB
      go_wp2
      go_ret
      exact ⟨by simp, HX.out.trans HXE.out⟩
    case pos =>
      subst hz
      have hcase : (BB = true ∧ C1 = 0) ∨ (BB = false ∧ C1 = 4) := by
        rw [HBB.out, HC1.out]
        exact quot_code HC2.out.symm
      rcases hcase with ⟨eB, eC⟩ | ⟨eB, eC⟩
      case inl =>
        subst eB eC
        have hq1 : qv = quV L U p q := by rw [HQV.out]; unfold qvL; rw [if_pos HC1.out.symm]
        obtain ⟨s1, s2⟩ := quot_same (L := L) (S := U) (u := p) (w := q) HBB.out.symm
        rw [← hq1] at s1 s2
        have HS := Lib.hid (And.intro s1 s2)
        clear s1 s2 hq1 HQV HC1 HC2 HBB
        have HIq := Lib.hid ((HI0.out rfl).ext HX30.out)
        obtain ⟨-, bq, oq, cq, rfl, -⟩ := id HIq.out
        have hpl0 : p.length ≤ 1048576 := by omega
        have HIP := Lib.hid (show ∀ W, Ext w7 W → IntsAt W d3 o3 p from fun W hW => by
          obtain ⟨-, b', o', c', e', hi'⟩ := HP.out.ext (HXE.out.trans hW)
          simp only [Value.slice.injEq, Option.some.injEq, Addr.mk.injEq, and_true, true_and] at e'
          obtain ⟨⟨rfl, rfl⟩, rfl⟩ := e'
          exact hi')
        have HIQ := Lib.hid (show ∀ W, Ext w7 W → IntsAt W bq oq qv from fun W hW => by
          obtain ⟨-, b', o', c', e', hi'⟩ := HIq.out.ext hW
          simp only [Value.slice.injEq, Option.some.injEq, Addr.mk.injEq, and_true, true_and] at e'
          obtain ⟨⟨rfl, rfl⟩, rfl⟩ := e'
          exact hi')
        have HPQ := Lib.hid (show (p ++ qv).length ≤ 1048576 from by have := ae_len HS.out.1; omega)
        have HA7 := Lib.hid (HA.out.ext HXE.out)
        have HU7 := Lib.hid (HU.out.ext HXE.out)
        have HQ7 := Lib.hid (HQ.out.ext HXE.out)
        have AE : ∀ (W : World) (u : Value), Rows W (.slice (some ⟨d1, o1, none⟩) L.length c1) L → Rows W (.slice (some ⟨d2, o2, none⟩) U.length c2) U → Ints W u (p ++ qv) → Ints W (.slice (some ⟨d4, o4, none⟩) q.length c4) q → Calls Tryz.prog 12 #[.agg #[.slice (some ⟨d1, o1, none⟩) L.length c1, .slice (some ⟨d2, o2, none⟩) U.length c2], u, .slice (some ⟨d4, o4, none⟩) q.length c4] W fun e W' => e = .returned (.tuple #[.bool true, .int .i64 0]) ∧ Ext W W' := fun W u h1 h2 h3 h4 => (AreEqualWords_impl L U (p ++ qv) q _ _ u _ W h1 h2 h3 h4).mono (by
          rintro e W' ⟨rfl, hx⟩
          exact ⟨by rw [HS.out.1, HS.out.2], hx⟩)
        have AEH := Lib.hid AE
        have hpq := HL.out
        clear AE HI0 HX30 HI hpl hql
        go_wp2_with fail
        go_region_held3 (fun w' => w'.cell? ⟨w1.heap.size, 0, none⟩ = some (.slice (some ⟨d1, o1, none⟩) L.length c1) ∧ w'.cell? ⟨w1.heap.size, 1, none⟩ = some (.slice (some ⟨d2, o2, none⟩) U.length c2))
          ((refine ⟨?_, ?_⟩ <;> (repeat first | (with_reducible assumption) | (with_reducible refine Ext.cell hx8 ?_) | (with_reducible refine Ext.cell hx9 ?_) | (with_reducible refine Ext.cell hx10 ?_) |  (with_reducible exact kc_new) | ((with_reducible refine kc_newE ?_); (simp; done)) | ((with_reducible refine kc_newEa ?_); (simp; done)) | ((with_reducible refine kc_newEb ?_); (simp; done)) | (with_reducible apply kc_alloc) | (with_reducible apply kc_drewN) | (with_reducible apply kc_drew) | ((with_reducible refine kc_set ?_ ?_); (first | (simp only []; omega) | (simp; omega) | (focus (simp; done)))) | ((with_reducible refine kc_set2 ?_ ?_); (focus (simp; done))) | (with_reducible refine kc_same (v := .slice none 0 0) ?_))))
          (first
            | (refine step_append_ints (by rfl) _ _ 27 2 (by rfl) Tryz.underlying27 infoInt w7.heap.size (.slice (some ⟨g8, 0, none⟩) p.length cap8) p (by rfl) (hg8.ext (by (repeat first | (with_reducible exact Ext.refl _) | (with_reducible assumption) | (with_reducible apply Ext.drew) | (with_reducible apply kx_drewN) | (with_reducible apply kx_alloc) | ((with_reducible refine kx_set ?_ ?_); (first | (simp only []; omega) | (simp; omega) | (focus (simp; done)))) ))) (by simp) bq oq cq qv.length (p.length + qv.length) qv rfl (by simp) (by rfl) (HIQ.out _ (by (repeat first | (with_reducible exact Ext.refl _) | (with_reducible assumption) | (with_reducible apply Ext.drew) | (with_reducible apply kx_drewN) | (with_reducible apply kx_alloc) | ((with_reducible refine kx_set ?_ ?_); (first | (simp only []; omega) | (simp; omega) | (focus (simp; done)))) | (with_reducible refine Ext.trans ?_ hx8) ))) hpl0 hpq (Ext.size (by (repeat first | (with_reducible exact Ext.refl _) | (with_reducible assumption) | (with_reducible apply Ext.drew) | (with_reducible apply kx_drewN) | (with_reducible apply kx_alloc) | ((with_reducible refine kx_set ?_ ?_); (first | (simp only []; omega) | (simp; omega) | (focus (simp; done)))) | (with_reducible refine Ext.trans ?_ hx8) ))) ?_; intro g9 cap9 w9 hg9 hgr9; have hx9 : Ext w7 w9 := ext_grown2 (show Ext w7 _ by (repeat first | (with_reducible exact Ext.refl _) | (with_reducible assumption) | (with_reducible apply Ext.drew) | (with_reducible apply kx_drewN) | (with_reducible apply kx_alloc) | ((with_reducible refine kx_set ?_ ?_); (first | (simp only []; omega) | (simp; omega) | (focus (simp; done)))) | (with_reducible refine Ext.trans ?_ hx8) )) hgr9 (fun k hk => hg8.lt hk |>.1))
            | (refine step_append_ints (by rfl) _ _ 27 2 (by rfl) Tryz.underlying27 infoInt w7.heap.size (.slice (some ⟨w7.heap.size, 0, none⟩) 0 0) [] (by rfl) (by first | exact growE_lit (w := w7) rfl (Nat.le_refl _) (by (repeat first | (with_reducible exact Ext.refl _) | (with_reducible assumption) | (with_reducible apply Ext.drew) | (with_reducible apply kx_drewN) | (with_reducible apply kx_alloc) | ((with_reducible refine kx_set ?_ ?_); (first | (simp only []; omega) | (simp; omega) | (focus (simp; done)))) )) | exact growE_lit (w := w7.drew) rfl (Nat.le_refl _) (by (repeat first | (with_reducible exact Ext.refl _) | (with_reducible assumption) | (with_reducible apply Ext.drew) | (with_reducible apply kx_drewN) | (with_reducible apply kx_alloc) | ((with_reducible refine kx_set ?_ ?_); (first | (simp only []; omega) | (simp; omega) | (focus (simp; done)))) ))) (by simp) d3 o3 c3 p.length p.length p rfl (by simp) (by rfl) (HIP.out _ (by (repeat first | (with_reducible exact Ext.refl _) | (with_reducible assumption) | (with_reducible apply Ext.drew) | (with_reducible apply kx_drewN) | (with_reducible apply kx_alloc) | ((with_reducible refine kx_set ?_ ?_); (first | (simp only []; omega) | (simp; omega) | (focus (simp; done)))) ))) (by simp) hpl0 (Ext.size (by (repeat first | (with_reducible exact Ext.refl _) | (with_reducible assumption) | (with_reducible apply Ext.drew) | (with_reducible apply kx_drewN) | (with_reducible apply kx_alloc) | ((with_reducible refine kx_set ?_ ?_); (first | (simp only []; omega) | (simp; omega) | (focus (simp; done)))) ))) ?_; intro g8 cap8 w8 hg8 hgr8; have hx8 : Ext w7 w8 := ext_grown2 (show Ext w7 _ by (repeat first | (with_reducible exact Ext.refl _) | (with_reducible assumption) | (with_reducible apply Ext.drew) | (with_reducible apply kx_drewN) | (with_reducible apply kx_alloc) | ((with_reducible refine kx_set ?_ ?_); (first | (simp only []; omega) | (simp; omega) | (focus (simp; done)))) )) hgr8 (fun k hk => Nat.le_of_eq (Option.some.inj hk)); rw [List.nil_append] at hg8)
            | (go_at_call 12; refine (AEH.out _ _ (HA7.out.ext (by (repeat first | (with_reducible exact Ext.refl _) | (with_reducible assumption) | (with_reducible apply Ext.drew) | (with_reducible apply kx_drewN) | (with_reducible apply kx_alloc) | ((with_reducible refine kx_set ?_ ?_); (first | (simp only []; omega) | (simp; omega) | (focus (simp; done)))) | (with_reducible refine Ext.trans ?_ hx9) ))) (HU7.out.ext (by (repeat first | (with_reducible exact Ext.refl _) | (with_reducible assumption) | (with_reducible apply Ext.drew) | (with_reducible apply kx_drewN) | (with_reducible apply kx_alloc) | ((with_reducible refine kx_set ?_ ?_); (first | (simp only []; omega) | (simp; omega) | (focus (simp; done)))) | (with_reducible refine Ext.trans ?_ hx9) ))) ((hg9.ints HPQ.out (by simp)).ext (by (repeat first | (with_reducible exact Ext.refl _) | (with_reducible assumption) | (with_reducible apply Ext.drew) | (with_reducible apply kx_drewN) | (with_reducible apply kx_alloc) | ((with_reducible refine kx_set ?_ ?_); (first | (simp only []; omega) | (simp; omega) | (focus (simp; done)))) ))) (HQ7.out.ext (by (repeat first | (with_reducible exact Ext.refl _) | (with_reducible assumption) | (with_reducible apply Ext.drew) | (with_reducible apply kx_drewN) | (with_reducible apply kx_alloc) | ((with_reducible refine kx_set ?_ ?_); (first | (simp only []; omega) | (simp; omega) | (focus (simp; done)))) | (with_reducible refine Ext.trans ?_ hx9) )))).mono ?_; rintro e w10 ⟨rfl, hx10⟩; have hx10 := Ext.trans (show Ext w7 _ by (repeat first | (with_reducible exact Ext.refl _) | (with_reducible assumption) | (with_reducible apply Ext.drew) | (with_reducible apply kx_drewN) | (with_reducible apply kx_alloc) | ((with_reducible refine kx_set ?_ ?_); (first | (simp only []; omega) | (simp; omega) | (focus (simp; done)))) | (with_reducible refine Ext.trans ?_ hx9) )) hx10))
        all_goals
          have HXY := Lib.hid ((HX.out.trans HXE.out).trans hx10)
          clear HIq HIP HIQ HPQ HA7 HU7 HQ7 AEH HXE HX k0 k1 HA HU HP HQ HS
          go_wp2_with fail
          refine (DrawDivisorsOfWord_any bs _ _ (HV.out.ext HXY.out) HB.out).mono ?_
          rintro e wa ⟨va1, ya1, ua1, LA, UA, pa, rfl, hA, hU, hp, hpl, hX⟩
          obtain ⟨-, e1, f1, g1, rfl, -⟩ := id hA
          obtain ⟨-, e2, f2, g2, rfl, -⟩ := id hU
          obtain ⟨-, e3, f3, g3, rfl, -⟩ := id hp
          have hxb : Ext wa (wa.alloc (.cells #[.slice (some ⟨e1, f1, none⟩) LA.length g1, .slice (some ⟨e2, f2, none⟩) UA.length g2] 26)) := (Ext.refl _).alloc _
          have k0 := cell_new2a wa (.slice (some ⟨e1, f1, none⟩) LA.length g1) (.slice (some ⟨e2, f2, none⟩) UA.length g2) 26
          have k1 := cell_new2b wa (.slice (some ⟨e1, f1, none⟩) LA.length g1) (.slice (some ⟨e2, f2, none⟩) UA.length g2) 26
          have hwb : wa.heap.size < (wa.alloc (.cells #[.slice (some ⟨e1, f1, none⟩) LA.length g1, .slice (some ⟨e2, f2, none⟩) UA.length g2] 26)).heap.size := by simp
          have HA := Lib.hid (hA.ext hxb)
          have HU := Lib.hid (hU.ext hxb)
          have HP := Lib.hid (hp.ext hxb)
          have HX := Lib.hid ((HXY.out.trans hX).trans hxb)
          have HV := Lib.hid (HV.out.ext HX.out)
          clear hA hU hp hX hxb HXY
          go_wp2_with fail
          generalize (wa.alloc (.cells #[.slice (some ⟨e1, f1, none⟩) LA.length g1, .slice (some ⟨e2, f2, none⟩) UA.length g2] 26)) = wb at *
          refine (DivisorsOfWord_impl LA UA pa _ _ _ _ HA.out HU.out HP.out).mono ?_
          rintro e wc ⟨x3, rfl, hr3, hX3⟩
          have HR := Lib.hid hr3
          have HXA := Lib.hid hX3
          have k0 := hX3.cell k0
          have k1 := hX3.cell k1
          obtain ⟨⟨a3, c3', rfl⟩, -⟩ := id hr3
          clear hr3 hX3
          go_wp2_with fail
          refine (DivisorsOfWord_any LA UA pa _ _ _ _ (HA.out.ext HXA.out) (HU.out.ext HXA.out) (HP.out.ext HXA.out)).mono ?_
          rintro e wd ⟨x4, rfl, h41, h42, hX4⟩
          have HXB := Lib.hid (HXA.out.trans hX4)
          have k0 := hX4.cell k0
          have k1 := hX4.cell k1
          have HRE := Lib.hid (HR.out.toE.ext hX4)
          have HRX := Lib.hid hX4
          obtain ⟨D, hD⟩ : ∃ D, D = clsC LA UA pa := ⟨_, rfl⟩
          obtain ⟨DV, hDV⟩ : ∃ D, D = dvV LA UA pa := ⟨_, rfl⟩
          have HD := Lib.hid hD
          have HDV := Lib.hid hDV
          rw [← hDV] at HR HRE ⊢
          rw [← hD] at h41 h42 ⊢
          clear hD hDV hX4 HXA
          by_cases hd : D = 0
          case neg =>
            have e0 : DV = [] := by rw [HDV.out]; unfold dvV; rw [if_neg (by rw [← HD.out]; exact hd)]
            rw [h42 hd]
            have HRE0 := Lib.hid (show RowsE wd (.slice a3 DV.length c3') [] from by rw [← e0]; exact HRE.out)
            clear e0 h41 h42 HR HRE
            go_wp2_with fail
            refine (likeRows5_same [] _ _ _ HRE0.out (RowsE.nil _)).mono ?_
            rintro e we ⟨rfl, hde⟩
            go_wp2
            go_ret
            exact ⟨rfl, (HX.out.trans HXB.out).trans hde.ext⟩
          case pos =>
            have h4 := h41 hd
            have hdv : DV = dvT LA UA pa (pa.length + 1) := by rw [HDV.out]; exact dvV_ok (by rw [← HD.out]; exact hd)
            rw [← hdv] at h4
            have HR4 := Lib.hid (RowsE.of h4)
            have HDR := Lib.hid (fun j (hj : j < DV.length) => div_row (L := LA) (S := UA) (w := pa) (j := j) (by rw [← HD.out]; exact hd) (by rw [← hdv]; exact hj))
            have HDP := Lib.hid (show 0 < DV.length from by rw [hdv]; exact div_some (by rw [← HD.out]; exact hd))
            rw [← hdv] at HDR
            subst hd
            clear h41 h42 h4 hdv HDV HD
            go_wp2_with fail
            refine (likeRows5_same DV _ _ _ HRE.out HR4.out).mono ?_
            rintro e we ⟨rfl, hde⟩
            have HXC := Lib.hid (HXB.out.trans hde.ext)
            have HRX := Lib.hid (HRX.out.trans hde.ext)
            have hzR := HRX.out.size
            have k0 := hde.ext.cell k0
            have k1 := hde.ext.cell k1
            clear hde HRE HR4 HXB
            go_wp2_with fail
            refine (roll_any bs _ _ (HV.out.ext HXC.out) HB.out).mono ?_
            rintro e wf ⟨S, rfl, hS, hs, hXf⟩
            have HXD := Lib.hid (HXC.out.trans hXf)
            have HRX := Lib.hid (HRX.out.trans hXf)
            have k0 := hXf.cell k0
            have k1 := hXf.cell k1
            have hzS := HXC.out.size
            clear hXf HXC
            go_wp2_with fail
            refine (below_any S _ _ hs).mono ?_
            rintro e wg ⟨r, rfl, r1, r2, -, hs2, hT⟩
            obtain ⟨j, rfl⟩ := Int.eq_ofNat_of_zero_le r1
            have hj : j < DV.length := by have := r2 (by have := HDP.out; omega); omega
            have HXE := Lib.hid (HXD.out.touch hT (by omega))
            have k0 := hT.cell k0 (by simp only []; omega)
            have k1 := hT.cell k1 (by simp only []; omega)
            have HXR := Lib.hid (HRX.out.touch hT (by omega))
            have hk := HR.out.2 HDP.out
            obtain ⟨-, gr, cr, er, -⟩ := id hk
            simp only [Value.slice.injEq] at er
            obtain ⟨rfl, -, rfl⟩ := er
            obtain ⟨br, dr, m1, -, -, -, m2, m3⟩ := hk.get hj
            have m4 := HXR.out.cell m1
            have HIR := Lib.hid ((m2.ext HXR.out).ints m3 dr)
            obtain ⟨s1, s2⟩ := HDR.out j hj
            have HS1 := Lib.hid (And.intro s1 s2)
            have hji : (j : Int) < (DV.length : Int) := by omega
            clear m1 m2 m3 hk s1 s2 r1 r2 hs hs2 HDR
            go_wp2_with fail
            refine (DividesWord_impl LA UA (row DV j) pa _ _ _ _ _ (HA.out.ext HXE.out) (HU.out.ext HXE.out) HIR.out (HP.out.ext HXE.out)).mono ?_
            rintro e wh ⟨rfl, hXh⟩
            rw [HS1.out.1, HS1.out.2]
            go_wp2
            go_ret
            exact ⟨rfl, (HX.out.trans HXE.out).trans hXh⟩
      case inr =>
        subst eB eC
        have HXY := Lib.hid (HX.out.trans HXE.out)
        clear HQV HC1 HC2 HBB HI HL HXE HX k0 k1 HA HU HP HQ
        go_wp2_with fail
        refine (DrawDivisorsOfWord_any bs _ _ (HV.out.ext HXY.out) HB.out).mono ?_
        rintro e wa ⟨va1, ya1, ua1, LA, UA, pa, rfl, hA, hU, hp, hpl, hX⟩
        obtain ⟨-, e1, f1, g1, rfl, -⟩ := id hA
        obtain ⟨-, e2, f2, g2, rfl, -⟩ := id hU
        obtain ⟨-, e3, f3, g3, rfl, -⟩ := id hp
        have hxb : Ext wa (wa.alloc (.cells #[.slice (some ⟨e1, f1, none⟩) LA.length g1, .slice (some ⟨e2, f2, none⟩) UA.length g2] 26)) := (Ext.refl _).alloc _
        have k0 := cell_new2a wa (.slice (some ⟨e1, f1, none⟩) LA.length g1) (.slice (some ⟨e2, f2, none⟩) UA.length g2) 26
        have k1 := cell_new2b wa (.slice (some ⟨e1, f1, none⟩) LA.length g1) (.slice (some ⟨e2, f2, none⟩) UA.length g2) 26
        have hwb : wa.heap.size < (wa.alloc (.cells #[.slice (some ⟨e1, f1, none⟩) LA.length g1, .slice (some ⟨e2, f2, none⟩) UA.length g2] 26)).heap.size := by simp
        have HA := Lib.hid (hA.ext hxb)
        have HU := Lib.hid (hU.ext hxb)
        have HP := Lib.hid (hp.ext hxb)
        have HX := Lib.hid ((HXY.out.trans hX).trans hxb)
        have HV := Lib.hid (HV.out.ext HX.out)
        clear hA hU hp hX hxb HXY
        go_wp2_with fail
        generalize (wa.alloc (.cells #[.slice (some ⟨e1, f1, none⟩) LA.length g1, .slice (some ⟨e2, f2, none⟩) UA.length g2] 26)) = wb at *
        refine (DivisorsOfWord_impl LA UA pa _ _ _ _ HA.out HU.out HP.out).mono ?_
        rintro e wc ⟨x3, rfl, hr3, hX3⟩
        have HR := Lib.hid hr3
        have HXA := Lib.hid hX3
        have k0 := hX3.cell k0
        have k1 := hX3.cell k1
        obtain ⟨⟨a3, c3', rfl⟩, -⟩ := id hr3
        clear hr3 hX3
        go_wp2_with fail
        refine (DivisorsOfWord_any LA UA pa _ _ _ _ (HA.out.ext HXA.out) (HU.out.ext HXA.out) (HP.out.ext HXA.out)).mono ?_
        rintro e wd ⟨x4, rfl, h41, h42, hX4⟩
        have HXB := Lib.hid (HXA.out.trans hX4)
        have k0 := hX4.cell k0
        have k1 := hX4.cell k1
        have HRE := Lib.hid (HR.out.toE.ext hX4)
        have HRX := Lib.hid hX4
        obtain ⟨D, hD⟩ : ∃ D, D = clsC LA UA pa := ⟨_, rfl⟩
        obtain ⟨DV, hDV⟩ : ∃ D, D = dvV LA UA pa := ⟨_, rfl⟩
        have HD := Lib.hid hD
        have HDV := Lib.hid hDV
        rw [← hDV] at HR HRE ⊢
        rw [← hD] at h41 h42 ⊢
        clear hD hDV hX4 HXA
        by_cases hd : D = 0
        case neg =>
          have e0 : DV = [] := by rw [HDV.out]; unfold dvV; rw [if_neg (by rw [← HD.out]; exact hd)]
          rw [h42 hd]
          have HRE0 := Lib.hid (show RowsE wd (.slice a3 DV.length c3') [] from by rw [← e0]; exact HRE.out)
          clear e0 h41 h42 HR HRE
          go_wp2_with fail
          refine (likeRows5_same [] _ _ _ HRE0.out (RowsE.nil _)).mono ?_
          rintro e we ⟨rfl, hde⟩
          go_wp2
          go_ret
          exact ⟨rfl, (HX.out.trans HXB.out).trans hde.ext⟩
        case pos =>
          have h4 := h41 hd
          have hdv : DV = dvT LA UA pa (pa.length + 1) := by rw [HDV.out]; exact dvV_ok (by rw [← HD.out]; exact hd)
          rw [← hdv] at h4
          have HR4 := Lib.hid (RowsE.of h4)
          have HDR := Lib.hid (fun j (hj : j < DV.length) => div_row (L := LA) (S := UA) (w := pa) (j := j) (by rw [← HD.out]; exact hd) (by rw [← hdv]; exact hj))
          have HDP := Lib.hid (show 0 < DV.length from by rw [hdv]; exact div_some (by rw [← HD.out]; exact hd))
          rw [← hdv] at HDR
          subst hd
          clear h41 h42 h4 hdv HDV HD
          go_wp2_with fail
          refine (likeRows5_same DV _ _ _ HRE.out HR4.out).mono ?_
          rintro e we ⟨rfl, hde⟩
          have HXC := Lib.hid (HXB.out.trans hde.ext)
          have HRX := Lib.hid (HRX.out.trans hde.ext)
          have hzR := HRX.out.size
          have k0 := hde.ext.cell k0
          have k1 := hde.ext.cell k1
          clear hde HRE HR4 HXB
          go_wp2_with fail
          refine (roll_any bs _ _ (HV.out.ext HXC.out) HB.out).mono ?_
          rintro e wf ⟨S, rfl, hS, hs, hXf⟩
          have HXD := Lib.hid (HXC.out.trans hXf)
          have HRX := Lib.hid (HRX.out.trans hXf)
          have k0 := hXf.cell k0
          have k1 := hXf.cell k1
          have hzS := HXC.out.size
          clear hXf HXC
          go_wp2_with fail
          refine (below_any S _ _ hs).mono ?_
          rintro e wg ⟨r, rfl, r1, r2, -, hs2, hT⟩
          obtain ⟨j, rfl⟩ := Int.eq_ofNat_of_zero_le r1
          have hj : j < DV.length := by have := r2 (by have := HDP.out; omega); omega
          have HXE := Lib.hid (HXD.out.touch hT (by omega))
          have k0 := hT.cell k0 (by simp only []; omega)
          have k1 := hT.cell k1 (by simp only []; omega)
          have HXR := Lib.hid (HRX.out.touch hT (by omega))
          have hk := HR.out.2 HDP.out
          obtain ⟨-, gr, cr, er, -⟩ := id hk
          simp only [Value.slice.injEq] at er
          obtain ⟨rfl, -, rfl⟩ := er
          obtain ⟨br, dr, m1, -, -, -, m2, m3⟩ := hk.get hj
          have m4 := HXR.out.cell m1
          have HIR := Lib.hid ((m2.ext HXR.out).ints m3 dr)
          obtain ⟨s1, s2⟩ := HDR.out j hj
          have HS1 := Lib.hid (And.intro s1 s2)
          have hji : (j : Int) < (DV.length : Int) := by omega
          clear m1 m2 m3 hk s1 s2 r1 r2 hs hs2 HDR
          go_wp2_with fail
          refine (DividesWord_impl LA UA (row DV j) pa _ _ _ _ _ (HA.out.ext HXE.out) (HU.out.ext HXE.out) HIR.out (HP.out.ext HXE.out)).mono ?_
          rintro e wh ⟨rfl, hXh⟩
          rw [HS1.out.1, HS1.out.2]
          go_wp2
          go_ret
          exact ⟨rfl, (HX.out.trans HXE.out).trans hXh⟩
end Go.Proofs.YtjfjpngajboidaaGreat
