/-
  Contract of l03Mark: the mark of an element.
-/
import Derived.IntWalk
import Derived.Test.YthlafeefjonkdaaGreatDoorJx11
namespace Go.Proofs.YthlafeefjonkdaaGreatDoor
set_option linter.unusedVariables false
set_option linter.unusedSimpArgs false
open Go.RowKit
attribute [local go_sem ↓] Go.wp_at_zero Go.wp_at_succ

@[irreducible] def own1 (u y : Int) : Int := if u = y then 1 else 0
@[irreducible] def own2 (u v y : Int) : Int := own1 u y + (if v = y then 2 else 0)
@[irreducible] def ownH3 (u v x y : Int) : Int := own2 u v y + (if u = x then 4 else 0)
theorem own1_bd (u y : Int) : 0 ≤ own1 u y ∧ own1 u y ≤ 1 := by unfold own1; split <;> omega
theorem own2_bd (u v y : Int) : 0 ≤ own2 u v y ∧ own2 u v y ≤ 3 := by
  have := own1_bd u y
  unfold own2; split <;> omega
theorem ownH3_bd (u v x y : Int) : 0 ≤ ownH3 u v x y ∧ ownH3 u v x y ≤ 7 := by
  have := own2_bd u v y
  unfold ownH3; split <;> omega
theorem own4 (u v x y : Int) : ownN u v x y = ownH3 u v x y + (if v = x then 8 else 0) := by unfold ownN ownH3 own2 own1; rfl
theorem IntsAt.swap {w : World} {b : Nat} {l : List Int} (h : IntsAt w b 0 l) {j : Nat} (hj : j + 1 < l.length) :
    IntsAt ((w.setCell ⟨b, j + 1, none⟩ (.int .i64 (ix l j))).setCell ⟨b, j, none⟩ (.int .i64 (ix l (j + 1)))) b 0 (swapL l j) := by
  have h1 := h.set0 (l' := l.set (j + 1) (ix l j)) (j + 1) (ix l j) hj (by simp) (fun i hi hl => by rw [ix_set _ _ _ _ hl, if_neg (by omega)]) (by rw [ix_set _ _ _ _ hj, if_pos rfl])
  refine h1.set0 (l' := swapL l j) j (ix l (j + 1)) (by simp; omega) (by rw [length_swapL]; simp) (fun i hi hl => ?_) ?_
  · have hl' : i < l.length := by simpa using hl
    rw [ix_swapL _ _ _ hj hl', if_neg hi, ix_set _ _ _ _ hl']
    by_cases e : i = j + 1
    · rw [if_pos e, if_pos e.symm]
    · rw [if_neg e, if_neg (fun h => e h.symm)]
  · rw [ix_swapL _ _ _ hj (by omega), if_pos rfl]

theorem wpList_append_intsN {P : Program} {w : World} {ops : Array Oper} {rest : List Oper} {o : Oper} {a : Act} {Q : Exit → Act → World → Prop} (hgd : o.guard = none) (s x : Operand) (t e : TypeId)
    (ho : o.op = .call { callee := .builtin .append, args := #[s, x], argTypes := #[t, t] }) (ht : P.underlying t = some (.slice e)) (hinfo : (P.info? e).map (fun i => (i.zero, i.size, i.bytes)) = some (some (.int .i64 0), 1, 8))
    (base : Nat) (v : Value) (l : List Int) (hs : a.eval s = v) (hown : GrowI e base w v l) (b q c n : Nat) (m : List Int) (hn : m.length = n) (hx : a.eval x = .slice (some ⟨b, q, none⟩) n c) (hc : IntsAt w b q m)
    (hl : l.length ≤ 1048576) (hm : m.length ≤ 1048576) (hbase : base ≤ w.heap.size)
    (h : ∀ v' w', GrowI e base w' v' (l ++ m) → w.grownBy w' v.ownBlock → (v' = .slice none 0 0 ↔ v = .slice none 0 0 ∧ m.length = 0) → wpList P ops Q rest (a.put o.dst v') w') : wpList P ops Q (o :: rest) a w := by
  subst hn
  exact wpList_append_ints hgd s x t e ho ht hinfo base v l hs hown b q c m hx hc hl hm hbase h

theorem mark_wrap {a b c d : Int} (ha : 0 ≤ a ∧ a ≤ 60) (hb : 0 ≤ b ∧ b ≤ 60) (hc : 0 ≤ c ∧ c ≤ 60) (hd : 0 ≤ d ∧ d ≤ 15) :
    IntKind.i64.wrap (IntKind.i64.wrap (IntKind.i64.wrap (IntKind.i64.wrap (IntKind.i64.wrap (IntKind.i64.wrap (a * 64) + b) * 64) + c) * 16) + d) = ((a * 64 + b) * 64 + c) * 16 + d := by
  rw [IntWalk.i64_in (a * 64) (by omega), IntWalk.i64_in (a * 64 + b) (by omega), IntWalk.i64_in ((a * 64 + b) * 64) (by omega), IntWalk.i64_in ((a * 64 + b) * 64 + c) (by omega), IntWalk.i64_in (((a * 64 + b) * 64 + c) * 16) (by omega), IntWalk.i64_in _ (by omega)]

theorem mark_wrap2 {a d : Int} (ha : 0 ≤ a ∧ a ≤ 60) (hd : 0 ≤ d ∧ d ≤ 12) : IntKind.i64.wrap (IntKind.i64.wrap (1099511627776 + IntKind.i64.wrap (a * 64)) + d) = 1099511627776 + a * 64 + d := by
  rw [IntWalk.i64_in (a * 64) (by omega), IntWalk.i64_in (1099511627776 + a * 64) (by omega), IntWalk.i64_in _ (by omega)]

theorem ret_val {a b : Int} (h : a = b) : Value.int .i64 a = Value.int .i64 b := by rw [h]

set_option maxRecDepth 1000000 in
set_option maxHeartbeats 4000000 in
theorem l03Mark_any (ts : List (List (List Int))) (cl : List Int) (v u : Value) (n x : Nat) (w : World) (hv : Tabs w v ts) (hu : Ints w u cl) (hT : TabsOk n ts) (hcl : cl.length = n) (hcb : ∀ i, i < n → 0 ≤ ix cl i ∧ ix cl i ≤ 60) (h1 : 1 ≤ n) (h12 : n ≤ 12) (hx : x < n) (hts : ts.length ≤ 2) :
    Calls Tryz.prog 109 #[v, u, .int .i64 x] w fun e w' => ∃ b c, e = .returned (.slice (some ⟨b, 0, none⟩) (markL ts cl n x ts.length).length c) ∧ IntsAt w' b 0 (markL ts cl n x ts.length) ∧ w.heap.size ≤ b ∧ b < w'.heap.size ∧ Ext w w' := by
  obtain ⟨-, b, o, c, rfl, hc⟩ := id hv
  obtain ⟨-, b2, o2, c2, rfl, hc2⟩ := id hu
  rw [hcl]
  have HCL := Lib.hid hcl
  have HCB := Lib.hid hcb
  have HT := Lib.hid hT
  clear hcl hcb hT hv hu
  have hmk := run_make_row' (P := Tryz.prog) 29 2 (.int .i64 0) 8 Tryz.underlying29 infoInt rfl .i64 .i64 n (by omega) (by omega)
  have HMK := Lib.hid hmk
  clear hmk
  have cx := hc2 x (by rw [HCL.out]; exact hx)
  go_enter Tryz.func109, Tryz.ntmps109
  go_wp2_with fail
  go_cut [7, 8] (fun p q wx => ∃ B, p = .int .i64 n ∧ q = .slice (some ⟨B, 0, none⟩) 1 1 ∧ GrowI 2 w.heap.size wx q [ix cl x] ∧ Ext w wx)
  case first =>
    go_region_held3 (fun w' => w'.cell? ⟨b2, o2 + x, none⟩ = some (.int .i64 (ix cl x))) ((repeat first | (with_reducible assumption) |  (with_reducible exact kc_new) | ((with_reducible refine kc_newE ?_); (simp; done)) | ((with_reducible refine kc_newEa ?_); (simp; done)) | ((with_reducible refine kc_newEb ?_); (simp; done)) | (with_reducible apply kc_alloc) | (with_reducible apply kc_drewN) | (with_reducible apply kc_drew) | ((with_reducible refine kc_set ?_ ?_); (first | (simp only []; omega) | (simp; omega) | (focus (simp; done)))) | ((with_reducible refine kc_set2 ?_ ?_); (focus (simp; done))) | (with_reducible refine kc_same (v := .slice none 0 0) ?_))) (fail)
    all_goals
      go_wp2_with fail
      go_meet
      case rel => exact ⟨_, rfl, rfl, GrowI.one (w := w.drew) (Nat.le_refl _), (Ext.refl w).drew.alloc _⟩
  case rest =>
    obtain ⟨B, rfl, rfl, hg0, hx0⟩ := hcut
    go_wp2_with fail
    go_loopw [8, 9] (fun v i wr => ∃ K : Nat, K ≤ ts.length ∧ i = .int .i64 K ∧ GrowI 2 w.heap.size wr v (markL ts cl n x K) ∧ v ≠ .slice none 0 0 ∧ Ext w wr) (fun _ i _ => ts.length - (intOf i).toNat)
    case atStart => exact ⟨0, Nat.zero_le _, rfl, hg0, by simp, hx0⟩
    case round =>
      clear hg0 hx0 cx
      obtain ⟨K, hK, rfl, hg, hv', hxe⟩ := hrel
      have HV := Lib.hid hv'
      clear hv'
      by_cases hKl : K < ts.length
      case neg =>
        have hKK : K = ts.length := by omega
        subst hKK
        obtain ⟨br, cr, rfl, a1, a2, a3⟩ := hg.row HV.out
        go_wp2
        go_ret
        exact ⟨br, cr, rfl, a1, a2, a3, hxe⟩
      case pos =>
        obtain ⟨wk, rfl⟩ : ∃ wk : World, wk = wr := ⟨_, rfl⟩
        go_wp2_with fail
        have hxa : Ext wk (wk.alloc (.cells #[] 2)) := (Ext.refl _).alloc _
        have hi0 := GrowI.lit (e := 2) (base := wk.heap.size) (w := wk) (Nat.le_refl _)
        have HL1 := Lib.hid (length_mkL n (ent1 ts cl K x))
        go_loopw [10, 11] (fun v y wr => ∃ j : Nat, j ≤ n ∧ y = .int .i64 j ∧ GrowI 2 wk.heap.size wr v ((mkL n (ent1 ts cl K x)).take j) ∧ v ≠ .slice none 0 0 ∧ Ext wk wr) (fun _ y _ => n - (intOf y).toNat)
        case atStart => exact ⟨0, Nat.zero_le _, rfl, hi0, by simp, hxa⟩
        case round =>
          clear hxa hi0
          obtain ⟨j, hj, rfl, hi, hvr, hx2⟩ := hrel
          have HVR := Lib.hid hvr
          clear hvr
          by_cases hjl : j < n
          case pos =>
            obtain ⟨tb, tq, tc, r0, rr⟩ := (hc.ext (hxe.trans hx2)).read HT.out hKl
            obtain ⟨d1, s1, m1, r1, rr1⟩ := rr x hx
            obtain ⟨d2, s2, m2, r3, rr2⟩ := rr j hjl
            have r2 := rr1 j hjl
            have r4 := rr2 x hx
            have hu2 := hc2.ext (hxe.trans hx2)
            have bu := HT.out.bd hKl hx hjl
            have bv := HT.out.bd hKl hjl hx
            have c0 := hu2 j (by rw [HCL.out]; exact hjl)
            have c1 := hu2 (ent (tab ts K) x j).toNat (by rw [HCL.out]; exact bu.2)
            have c2' := hu2 (ent (tab ts K) j x).toNat (by rw [HCL.out]; exact bv.2)
            have q0 := (hc2.ext hxe) j (by rw [HCL.out]; exact hjl)
            have q1 := (hc2.ext hxe) (ent (tab ts K) x j).toNat (by rw [HCL.out]; exact bu.2)
            have q2 := (hc2.ext hxe) (ent (tab ts K) j x).toNat (by rw [HCL.out]; exact bv.2)
            have k0 := HCB.out j hjl
            have k1 := HCB.out _ bu.2
            have k2 := HCB.out _ bv.2
            have HJ := Lib.hid (show ((mkL n (ent1 ts cl K x)).take j).length = j by rw [List.length_take, HL1.out]; omega)
            have HE := Lib.hid (show ix (mkL n (ent1 ts cl K x)) j = ((ix cl j * 64 + ix cl (ent (tab ts K) x j).toNat) * 64 + ix cl (ent (tab ts K) j x).toNat) * 16 + ownN (ent (tab ts K) x j) (ent (tab ts K) j x) x j by rw [ix_mkL _ _ _ hjl]; unfold ent1; rfl)
            clear rr rr1 rr2 hu2
            generalize ent (tab ts K) x j = U at *
            generalize ent (tab ts K) j x = V at *
            obtain ⟨U, rfl⟩ := Int.eq_ofNat_of_zero_le bu.1
            obtain ⟨V, rfl⟩ := Int.eq_ofNat_of_zero_le bv.1
            have bu2 : U < n := by simpa using bu.2
            have bv2 : V < n := by simpa using bv.2
            simp only [Int.toNat_natCast] at c1 c2' k1 k2 q1 q2 HE
            generalize ix cl U = CU at *
            generalize ix cl V = CV at *
            clear bu bv
            go_wp2_with fail
            go_upto_region 9 with fail
            go_cut [12, 13] (fun p q wx => p = .int .i64 U ∧ q = .int .i64 V ∧ Drawn wr wx)
            case first =>
              go_quiet (fail)
              go_wp2_with fail
              go_meet
              case rel => exact ⟨rfl, rfl, (Drawn.refl _).drewN _⟩
            case rest =>
              obtain ⟨rfl, rfl, hd⟩ := hcut
              obtain ⟨ws, rfl⟩ : ∃ ws : World, ws = wc := ⟨_, rfl⟩
              have hx3 := hx2.trans hd.ext
              have e0 := hd.ext.cell c0
              have e1 := hd.ext.cell c1
              have e2 := hd.ext.cell c2'
              have hi2 := hi.ext hd.ext
              have z2 := hx3.size
              have iU : (U : Int) < (n : Int) := by omega
              have iV : (V : Int) < (n : Int) := by omega
              have ij : (j : Int) < (n : Int) := by omega
              clear hi c0 c1 c2' r0 r1 r2 r3 r4 hd hx2
              go_upto_if 63 with fail
              go_cut [14] (fun p wx => p = .int .i64 (own1 U j) ∧ ws = wx)
              case first =>
                skip
                by_cases g : U = j
                · subst g
                  go_wp2_with fail
                  go_meet
                  case rel => exact ⟨ret_val (by unfold own1; rw [if_pos rfl]), rfl⟩
                · go_wp2_with fail
                  go_meet
                  case rel => exact ⟨ret_val (by unfold own1; rw [if_neg (by omega)]; try rw [Int.add_zero]), rfl⟩
              obtain ⟨rfl, hw⟩ := hcut
              subst hw
              go_upto_if 66 with fail
              go_cut [14] (fun p wx => p = .int .i64 (own2 U V j) ∧ ws = wx)
              case first =>
                have hbd := own1_bd U j
                by_cases g : V = j
                · subst g
                  go_wp2_with fail
                  go_meet
                  case rel => exact ⟨ret_val (by unfold own2; rw [if_pos rfl]), rfl⟩
                · go_wp2_with fail
                  go_meet
                  case rel => exact ⟨ret_val (by unfold own2; rw [if_neg (by omega)]; try rw [Int.add_zero]), rfl⟩
              obtain ⟨rfl, hw⟩ := hcut
              subst hw
              go_upto_if 71 with fail
              go_cut [14] (fun p wx => p = .int .i64 (ownH3 U V x j) ∧ ws = wx)
              case first =>
                have hbd := own2_bd U V j
                by_cases g : U = x
                · subst g
                  go_wp2_with fail
                  go_meet
                  case rel => exact ⟨ret_val (by unfold ownH3; rw [if_pos rfl]), rfl⟩
                · go_wp2_with fail
                  go_meet
                  case rel => exact ⟨ret_val (by unfold ownH3; rw [if_neg (by omega)]; try rw [Int.add_zero]), rfl⟩
              obtain ⟨rfl, hw⟩ := hcut
              subst hw
              go_upto_if 76 with fail
              go_cut [14] (fun p wx => p = .int .i64 (ownN U V x j) ∧ ws = wx)
              case first =>
                have hbd := ownH3_bd U V x j
                by_cases g : V = x
                · subst g
                  go_wp2_with fail
                  go_meet
                  case rel => exact ⟨ret_val (by rw [own4]; rw [if_pos rfl]), rfl⟩
                · go_wp2_with fail
                  go_meet
                  case rel => exact ⟨ret_val (by rw [own4]; rw [if_neg (by omega)]; try rw [Int.add_zero]), rfl⟩
              obtain ⟨rfl, hw⟩ := hcut
              subst hw
              have hbd := ownN_bd U V x j
              go_wp2_with fail
              go_region_held3 (fun w' => w'.cell? ⟨b2, o2 + j, none⟩ = some (.int .i64 (ix cl j)) ∧ w'.cell? ⟨b2, o2 + U, none⟩ = some (.int .i64 CU) ∧ w'.cell? ⟨b2, o2 + V, none⟩ = some (.int .i64 CV))
                ((refine ⟨?_, ?_, ?_⟩ <;> (repeat first | (with_reducible assumption) | (with_reducible refine Ext.cell hx4 ?_) |  (with_reducible exact kc_new) | ((with_reducible refine kc_newE ?_); (simp; done)) | ((with_reducible refine kc_newEa ?_); (simp; done)) | ((with_reducible refine kc_newEb ?_); (simp; done)) | (with_reducible apply kc_alloc) | (with_reducible apply kc_drewN) | (with_reducible apply kc_drew) | ((with_reducible refine kc_set ?_ ?_); (first | (simp only []; omega) | (simp; omega) | (focus (simp; done)))) | ((with_reducible refine kc_set2 ?_ ?_); (focus (simp; done))) | (with_reducible refine kc_same (v := .slice none 0 0) ?_))))
                ((refine step_append_int (by rfl) _ _ 29 2 (by rfl) Tryz.underlying29 infoInt wk.heap.size _ _ (by rfl) (hi2.ext (by (repeat first | (with_reducible exact Ext.refl _) | (with_reducible assumption) | (with_reducible apply Ext.drew) | (with_reducible apply kx_drewN) | (with_reducible apply kx_alloc) | ((with_reducible refine kx_set ?_ ?_); (first | (simp only []; omega) | (simp; omega) | (focus (simp; done)))) ))) _ _ (by rfl) (by (repeat first | (with_reducible assumption) |  (with_reducible exact kc_new) | ((with_reducible refine kc_newE ?_); (simp; done)) | ((with_reducible refine kc_newEa ?_); (simp; done)) | ((with_reducible refine kc_newEb ?_); (simp; done)) | (with_reducible apply kc_alloc) | (with_reducible apply kc_drewN) | (with_reducible apply kc_drew) | ((with_reducible refine kc_set ?_ ?_); (first | (simp only []; omega) | (simp; omega) | (focus (simp; done)))) | ((with_reducible refine kc_set2 ?_ ?_); (focus (simp; done))) | (with_reducible refine kc_same (v := .slice none 0 0) ?_))) (by rw [HJ.out]; omega) (by have := hx3.size; simp; omega) ?_; intro v' w3 hi3 hgr hv3; have hx4 : Ext wk w3 := Ext.grown (hx3.trans (by (repeat first | (with_reducible exact Ext.refl _) | (with_reducible assumption) | (with_reducible apply Ext.drew) | (with_reducible apply kx_drewN) | (with_reducible apply kx_alloc) | ((with_reducible refine kx_set ?_ ?_); (first | (simp only []; omega) | (simp; omega) | (focus (simp; done)))) ))) hgr (hi2.ext (by (repeat first | (with_reducible exact Ext.refl _) | (with_reducible assumption) | (with_reducible apply Ext.drew) | (with_reducible apply kx_drewN) | (with_reducible apply kx_alloc) | ((with_reducible refine kx_set ?_ ?_); (first | (simp only []; omega) | (simp; omega) | (focus (simp; done)))) ))) (Nat.le_refl _)))
              all_goals
                go_wp2
                go_roundw
                case rel => exact ⟨j + 1, by omega, by go_num, by
                  rw [take_ix _ _ (by rw [HL1.out]; exact hjl), HE.out]
                  rw [mark_wrap k0 k1 k2 hbd] at hi3
                  exact hi3, hv3, hx4⟩
                case measure => simp [intOf]; omega
          case neg =>
            have hta : (mkL n (ent1 ts cl K x)).take j = mkL n (ent1 ts cl K x) := List.take_of_length_le (by rw [HL1.out]; omega)
            rw [hta] at hi
            obtain ⟨w2, rfl⟩ : ∃ w2 : World, w2 = wr := ⟨_, rfl⟩
            obtain ⟨lb, lc, rfl, hlo⟩ := hi.own HVR.out
            have hlb := hlo.2.1
            rw [HL1.out] at hi ⊢
            have hmk := HMK.out
            have z1 := hx2.size
            go_wp2_with fail
            clear hmk hlo
            have hr0 := World.rowIs_made w2 (.int .i64 0) n 2
            have hx0 : Ext w2 (w2.alloc (.cells (madeCells #[Value.int .i64 0] n) 2)) := (Ext.refl _).alloc _
            go_loopw [16] (fun y wr => ∃ j : Nat, j ≤ n ∧ y = .int .i64 j ∧ wr.rowIs w2.heap.size 2 n (cntV ts K x n j 0) ∧ Ext w2 wr) (fun y _ => n - (intOf y).toNat)
            case atStart => exact ⟨0, Nat.zero_le _, rfl, hr0.congr (fun i hi => by rw [cntV_zero]), hx0⟩
            case round =>
              clear hr0 hx0
              obtain ⟨j2, hj2, rfl, hrow, hx3⟩ := hrel
              by_cases hjl2 : j2 < n
              case pos =>
                go_wp2_with fail
                go_loopw [17] (fun z wr => ∃ z' : Nat, z' ≤ n ∧ z = .int .i64 z' ∧ wr.rowIs w2.heap.size 2 n (cntV ts K x n j2 z') ∧ Ext w2 wr) (fun z _ => n - (intOf z).toNat)
                case atStart => exact ⟨0, Nat.zero_le _, rfl, hrow, hx3⟩
                case round =>
                  clear hrow hx3
                  obtain ⟨z, hz, rfl, hrow, hx3⟩ := hrel
                  by_cases hzl : z < n
                  case neg =>
                    have hzz : n = z := by omega
                    subst hzz
                    go_wp2
                    go_roundw
                    case rel => exact ⟨j2 + 1, by omega, by go_num, hrow.congr (fun i _ => cntV_next _ _ _ _ _ _), hx3⟩
                    case measure => simp [intOf]; omega
                  case pos =>
                    obtain ⟨tb, tq, tc, r0, rr⟩ := (hc.ext ((hxe.trans hx2).trans hx3)).read HT.out hKl
                    obtain ⟨d1, s1, m1, r1, rr1⟩ := rr j2 hjl2
                    have r2 := rr1 z hzl
                    have e2 := hrow.cell hjl2
                    have e3 := hrow.frozen j2
                    rw [cntV_own] at e2
                    have hcl := cntN_le ts K x j2 z
                    clear rr rr1
                    by_cases g : ent (tab ts K) j2 z = (x : Int)
                    · have HG := Lib.hid (cntV_hit ts K x n j2 z · g)
                      rw [g] at r2
                      clear g
                      go_wp2
                      go_roundw
                      case rel => exact ⟨z + 1, by omega, by go_num, (hrow.set j2 (.int .i64 ((cntN ts K x j2 z : Nat) + 1))).congr (fun i _ => by rw [HG.out]), hx3.setNew (Nat.le_refl _) _⟩
                      case measure => simp [intOf]; omega
                    · have HG := Lib.hid (cntV_miss ts K x n j2 z · g)
                      have g2 : (ent (tab ts K) j2 z == (x : Int)) = false := by simpa using g
                      clear g
                      go_wp2
                      go_roundw
                      case rel => exact ⟨z + 1, by omega, by go_num, hrow.congr (fun i _ => by rw [HG.out]), hx3⟩
                      case measure => simp [intOf]; omega
              case neg =>
                have hjj : n = j2 := by omega
                subst hjj
                obtain ⟨w3, rfl⟩ : ∃ w3 : World, w3 = wr := ⟨_, rfl⟩
                have hi3 := hi.ext hx3
                have z3 := hx3.size
                have z4 := hrow.lt
                have HL2 := Lib.hid (length_mkL n (ent2 ts cl n K x))
                go_wp2_with fail
                go_loopw [10, 18] (fun v y wr => ∃ j : Nat, j ≤ n ∧ y = .int .i64 j ∧ GrowI 2 wk.heap.size wr v (mkL n (ent1 ts cl K x) ++ (mkL n (ent2 ts cl n K x)).take j) ∧ v ≠ .slice none 0 0 ∧ v.ownBlock ≠ some w2.heap.size ∧ wr.rowIs w2.heap.size 2 n (cntV ts K x n n 0) ∧ Ext wk wr) (fun _ y _ => n - (intOf y).toNat)
                case atStart => exact ⟨0, Nat.zero_le _, rfl, by rw [List.take_zero, List.append_nil]; exact hi3, by simp, by simp [Value.ownBlock]; omega, hrow, hx2.trans hx3⟩
                case round =>
                  clear hi3 hrow
                  obtain ⟨j3, hj3, rfl, hi4, hv4, hne, hrow, hx4⟩ := hrel
                  have HV4 := Lib.hid hv4
                  have HNE := Lib.hid hne
                  clear hv4 hne
                  by_cases hjl3 : j3 < n
                  case pos =>
                    have c0 := (hc2.ext (hxe.trans hx4)) j3 (by rw [HCL.out]; exact hjl3)
                    have q0 := (hc2.ext hxe) j3 (by rw [HCL.out]; exact hjl3)
                    have k0 := HCB.out j3 hjl3
                    have c1 := hrow.cell hjl3
                    rw [cntV_done _ _ _ _ _ hjl3] at c1
                    have kn := cntN_le ts K x j3 n
                    have HJ := Lib.hid (show (mkL n (ent1 ts cl K x) ++ (mkL n (ent2 ts cl n K x)).take j3).length = n + j3 by rw [List.length_append, List.length_take, HL1.out, HL2.out]; omega)
                    have HE := Lib.hid (show ix (mkL n (ent2 ts cl n K x)) j3 = 1099511627776 + ix cl j3 * 64 + (cntN ts K x j3 n : Nat) by rw [ix_mkL _ _ _ hjl3]; unfold ent2; rfl)
                    have z5 := hrow.lt
                    have z6 := hx4.size
                    have ij : (j3 : Int) < (n : Int) := by omega
                    go_wp2_with fail
                    go_region_held3 (fun w' => w'.cell? ⟨b2, o2 + j3, none⟩ = some (.int .i64 (ix cl j3)) ∧ w'.cell? ⟨w2.heap.size, j3, none⟩ = some (.int .i64 (cntN ts K x j3 n : Nat)))
                      ((refine ⟨?_, ?_⟩ <;> (repeat first | (with_reducible assumption) | (with_reducible refine Ext.cell hx5 ?_) |  (with_reducible exact kc_new) | ((with_reducible refine kc_newE ?_); (simp; done)) | ((with_reducible refine kc_newEa ?_); (simp; done)) | ((with_reducible refine kc_newEb ?_); (simp; done)) | (with_reducible apply kc_alloc) | (with_reducible apply kc_drewN) | (with_reducible apply kc_drew) | ((with_reducible refine kc_set ?_ ?_); (first | (simp only []; omega) | (simp; omega) | (focus (simp; done)))) | ((with_reducible refine kc_set2 ?_ ?_); (focus (simp; done))) | (with_reducible refine kc_same (v := .slice none 0 0) ?_))))
                      ((refine step_append_int_at (by rfl) _ _ 29 2 (by rfl) Tryz.underlying29 infoInt wk.heap.size _ _ (by rfl) (hi4.ext (by (repeat first | (with_reducible exact Ext.refl _) | (with_reducible assumption) | (with_reducible apply Ext.drew) | (with_reducible apply kx_drewN) | (with_reducible apply kx_alloc) | ((with_reducible refine kx_set ?_ ?_); (first | (simp only []; omega) | (simp; omega) | (focus (simp; done)))) ))) _ _ (by rfl) (by (repeat first | (with_reducible assumption) |  (with_reducible exact kc_new) | ((with_reducible refine kc_newE ?_); (simp; done)) | ((with_reducible refine kc_newEa ?_); (simp; done)) | ((with_reducible refine kc_newEb ?_); (simp; done)) | (with_reducible apply kc_alloc) | (with_reducible apply kc_drewN) | (with_reducible apply kc_drew) | ((with_reducible refine kc_set ?_ ?_); (first | (simp only []; omega) | (simp; omega) | (focus (simp; done)))) | ((with_reducible refine kc_set2 ?_ ?_); (focus (simp; done))) | (with_reducible refine kc_same (v := .slice none 0 0) ?_))) (by rw [HJ.out]; omega) (by simp; omega) ?_; intro v' w5 hi5 hgr hv5 hat; have hx5 : Ext wk w5 := Ext.grown (hx4.trans (by (repeat first | (with_reducible exact Ext.refl _) | (with_reducible assumption) | (with_reducible apply Ext.drew) | (with_reducible apply kx_drewN) | (with_reducible apply kx_alloc) | ((with_reducible refine kx_set ?_ ?_); (first | (simp only []; omega) | (simp; omega) | (focus (simp; done)))) ))) hgr (hi4.ext (by (repeat first | (with_reducible exact Ext.refl _) | (with_reducible assumption) | (with_reducible apply Ext.drew) | (with_reducible apply kx_drewN) | (with_reducible apply kx_alloc) | ((with_reducible refine kx_set ?_ ?_); (first | (simp only []; omega) | (simp; omega) | (focus (simp; done)))) ))) (Nat.le_refl _); have hrow5 := hrow.of_block ((hgr.block w2.heap.size (by simp; omega) (fun e => HNE.out e.symm)).trans (Below.block (show Ext wr _ by (repeat first | (with_reducible exact Ext.refl _) | (with_reducible assumption) | (with_reducible apply Ext.drew) | (with_reducible apply kx_drewN) | (with_reducible apply kx_alloc) | ((with_reducible refine kx_set ?_ ?_); (first | (simp only []; omega) | (simp; omega) | (focus (simp; done)))) )) w2.heap.size hrow.lt)); have cc := hrow5.cell hjl3; rw [cntV_done _ _ _ _ _ hjl3] at cc; have HAT := Lib.hid hat; clear hat))
                    all_goals
                      go_wp2
                      go_roundw
                      case rel => exact ⟨j3 + 1, by omega, by go_num, by
                        rw [mark_wrap2 k0 (by omega)] at hi5
                        rw [take_ix _ _ (by rw [HL2.out]; exact hjl3), HE.out, ← List.append_assoc]
                        exact hi5, hv5, by
                        rcases HAT.out with e | e
                        · rw [e]; exact HNE.out
                        · rw [e]; intro h; simp at h; omega, hrow5, hx5⟩
                      case measure => simp [intOf]; omega
                  case neg =>
                    have hta2 : (mkL n (ent2 ts cl n K x)).take j3 = mkL n (ent2 ts cl n K x) := List.take_of_length_le (by rw [HL2.out]; omega)
                    have hen : mkL n (ent1 ts cl K x) ++ mkL n (ent2 ts cl n K x) = entL ts cl n K x := by unfold entL; rfl
                    rw [hta2, hen] at hi4
                    clear hta2 hen hrow
                    obtain ⟨w4, rfl⟩ : ∃ w4 : World, w4 = wr := ⟨_, rfl⟩
                    obtain ⟨sb, sc, rfl, hso⟩ := hi4.own HV4.out
                    have hLN := length_entL ts cl n K x
                    obtain ⟨N, hN⟩ : ∃ N, N = 2 * n := ⟨_, rfl⟩
                    rw [← hN] at hLN
                    rw [hLN]
                    have hN2 : 2 ≤ N := by omega
                    have hN24 : N ≤ 24 := by omega
                    have HLN := Lib.hid hLN
                    have HN := Lib.hid hN
                    clear hLN hN hi4
                    go_wp2_with fail
                    go_loopw [19] (fun y wr => ∃ i : Nat, 1 ≤ i ∧ i ≤ N ∧ y = .int .i64 i ∧ ∃ l : List Int, l.length = N ∧ l.Perm (entL ts cl n K x) ∧ SortedTo l i ∧ OwnI wk.heap.size w4.heap.size wr sb 0 l ∧ Ext wk wr) (fun y _ => N - (intOf y).toNat)
                    case atStart => exact ⟨1, Nat.le_refl _, by omega, rfl, _, HLN.out, List.Perm.refl _, SortedTo.one _, hso, hx4⟩
                    case round =>
                      clear hso hx4
                      obtain ⟨i, hi1, hiN, rfl, l, hl, hp, hs, ho, hx5⟩ := hrel
                      have HS := Lib.hid hs
                      have HP := Lib.hid hp
                      have HLL := Lib.hid hl
                      clear hs hp hl
                      by_cases hil : i < N
                      case neg =>
                        have hfin := sorted_done HP.out HS.out (by rw [HLL.out]; omega)
                        have hm12 := Nat.mul_le_mul hts (show 2 * n ≤ 24 by omega)
                        have hmk2 := Nat.mul_le_mul_right (2 * n) (show K ≤ ts.length by omega)
                        have HF := Lib.hid hfin
                        clear hfin
                        have z7 := hx5.size
                        go_wp2_with (at_builtin; refine wpList_append_intsN rfl _ _ 29 2 rfl Tryz.underlying29 infoInt w.heap.size _ _ rfl (hg.ext hx5) sb 0 sc N l HLL.out rfl ho.2.2.1 (by rw [length_markL]; omega) (by rw [HLL.out]; omega) (by have := hxe.size; omega) ?_)
                        intro v' w6 hi6 hgr hv6
                        have hx6 : Ext w w6 := Ext.grown (hxe.trans hx5) hgr (hg.ext hx5) (Nat.le_refl _)
                        have HV6 := Lib.hid (show v' ≠ .slice none 0 0 from fun e => HV.out (hv6.1 e).1)
                        rw [HF.out] at hi6
                        clear hgr hv6
                        go_wp2
                        go_roundw
                        case rel => exact ⟨K + 1, by omega, by go_num, hi6, HV6.out, hx6⟩
                        case measure => simp [intOf]; omega
                      case pos =>
                        go_wp2_with fail
                        go_loopw [20] (fun y wr => ∃ j : Nat, j ≤ i ∧ y = .int .i64 j ∧ ∃ l : List Int, l.length = N ∧ l.Perm (entL ts cl n K x) ∧ InnerTo l i j ∧ OwnI wk.heap.size w4.heap.size wr sb 0 l ∧ Ext wk wr) (fun y _ => (intOf y).toNat)
                        case atStart => exact ⟨i, Nat.le_refl _, rfl, l, HLL.out, HP.out, HS.out.inner, ho, hx5⟩
                        case round =>
                          clear ho hx5 HS HP HLL
                          obtain ⟨j, hj, rfl, l, hl, hp, hs, ho, hx5⟩ := hrel
                          have HS := Lib.hid hs
                          have HP := Lib.hid hp
                          have HLL := Lib.hid hl
                          clear hs hp hl
                          cases j with
                          | zero =>
                            go_wp2_with fail
                            go_quiet (fail)
                            go_wp2
                            go_roundw
                            case rel => exact ⟨i + 1, by omega, by omega, by go_num, l, HLL.out, HP.out, HS.out.zero, ho.block rfl, hx5.drewN _⟩
                            case measure => simp [intOf]; omega
                          | succ j =>
                            have c1 : wr.cell? ⟨sb, j + 1, none⟩ = some (.int .i64 (ix l (j + 1))) := by simpa using ho.2.2.1 (j + 1) (by rw [HLL.out]; omega)
                            have c2' : wr.cell? ⟨sb, j, none⟩ = some (.int .i64 (ix l j)) := by simpa using ho.2.2.1 j (by rw [HLL.out]; omega)
                            have f1 : wr.frozen? ⟨sb, j + 1, none⟩ = false := by simpa using ho.2.2.2 (j + 1) (by rw [HLL.out]; omega)
                            have f2 : wr.frozen? ⟨sb, j, none⟩ = false := by simpa using ho.2.2.2 j (by rw [HLL.out]; omega)
                            by_cases hlt : ix l (j + 1) < ix l j
                            · have hd : decide (ix l (j + 1) < ix l j) = true := by simpa using hlt
                              have hd0 : decide ((0 : Int) < (j : Int) + 1) = true := decide_eq_true (by omega)
                              have HLT := Lib.hid hlt
                              have ij : (j : Int) + 1 < (N : Int) := by omega
                              clear hlt
                              go_wp2_with fail
                              go_quiet (fail)
                              go_wp2
                              go_roundw
                              case rel => exact ⟨j, by omega, by go_num, swapL l j, by rw [length_swapL, HLL.out], (swapL_perm _ _ (by rw [HLL.out]; omega)).trans HP.out, HS.out.step (by rw [HLL.out]; omega) (by omega) HLT.out, ⟨ho.1, ho.2.1, IntsAt.swap (ho.2.2.1.block rfl) (by rw [HLL.out]; omega), fun i hi => by rw [length_swapL] at hi; rw [World.frozen?_setCell, World.frozen?_setCell]; exact ho.2.2.2 i hi⟩, ((hx5.drewN _).setNew ho.1 _).setNew ho.1 _⟩
                              case measure => (simp [intOf]; try omega)
                            · have hd : decide (ix l (j + 1) < ix l j) = false := by simpa using hlt
                              have hd0 : decide ((0 : Int) < (j : Int) + 1) = true := decide_eq_true (by omega)
                              have HLE := Lib.hid (show ix l j ≤ ix l (j + 1) by omega)
                              have ij : (j : Int) + 1 < (N : Int) := by omega
                              clear hlt
                              go_wp2_with fail
                              go_quiet (fail)
                              go_wp2
                              go_roundw
                              case rel => exact ⟨i + 1, by omega, by omega, by go_num, l, HLL.out, HP.out, HS.out.stop HLE.out, ho.block rfl, hx5.drewN _⟩
                              case measure => simp [intOf]; omega

end Go.Proofs.YthlafeefjonkdaaGreatDoor
