/-
  Contract of the reference's l09Class.
-/
import Derived.Test.YtjfjpngajboidaaGreatKx30
import Derived.Test.YtjfjpngajboidaaGreatKx31
namespace Go.Proofs.YtjfjpngajboidaaGreat
set_option linter.unusedVariables false
set_option linter.unusedSimpArgs false
open Go.RowKit
open Go.Deep

def RetCls (n : Nat) (f g fi gi : Nat → Nat → Nat) (p : List Int) (most : Nat) (w : World) (e : Ending) (w' : World) : Prop :=
  (((wclL n f g fi gi p).length ≤ most ∧ ∃ v, e = .returned (.tuple #[v, .bool true]) ∧ RowsK w.heap.size w' v (wclL n f g fi gi p)) ∨ (most < (wclL n f g fi gi p).length ∧ e = .returned (.tuple #[.slice none 0 0, .bool false]))) ∧ Ext w w'

def NewM (m : Nat) (A : List Int) (w : World) (e : Ending) (w' : World) : Prop := ∃ b c, e = .returned (.slice (some ⟨b, 0, none⟩) m c) ∧ RT w' (.slice (some ⟨b, 0, none⟩) m c) A ∧ Ext w w'
theorem NewM.of {m : Nat} {A : List Int} {w : World} (hl : A.length = m) (hs : m ≤ 1048576) {e : Ending} {w' : World} (h : NewI A w e w') : NewM m A w e w' := by
  obtain ⟨b, c, rfl, ho, hx⟩ := h
  exact ⟨b, c, by rw [hl], ⟨by omega, b, c, by rw [hl], ho.2.2.1⟩, hx⟩
theorem l02Do_m (L S : List (List Int)) (p : List Int) (m k : Nat) (hP : PairOk L S) (hp : WordOk L.length p) (hk : k + 1 < p.length) (hl : p.length = m) (hm : m ≤ 1048576) (A : List Int) (hA : A = moveL (mulN L) (mulN S) p k) (v y u : Value) (w : World) (hv : Rows w v L) (hy : Rows w y S) (hu : Ints w u p) :
    Calls Tryz.prog 66 #[.agg #[v, y], u, .int .i64 k] w (NewM m A w) := by
  subst hA
  exact (l02Do_any L S p k v y u w hv hy hu hP hp hk).mono fun _ _ h => NewM.of (by rw [length_moveL, hl]) hm h
theorem bothM_new {m x cx y cy e : Nat} {w : World} {a0 a1 : List Int} {A : Nat → List Int} (h0 : RT w (.slice (some ⟨x, 0, none⟩) m cx) a0) (h1 : RT w (.slice (some ⟨y, 0, none⟩) m cy) a1) (l0 : a0 = A 0) (l1 : a1 = A 1) (hl : ∀ j, (A j).length = m) :
    BothM m w.heap.size (w.alloc (.cells #[.slice (some ⟨x, 0, none⟩) m cx, .slice (some ⟨y, 0, none⟩) m cy] e)) A := by
  refine ⟨by simp, fun j hj => ?_⟩
  match j, hj with
  | 0, _ => exact ⟨hl 0, x, cx, cell_new2a w _ _ _, by rw [← l0]; exact h0.ext ((Ext.refl w).alloc _)⟩
  | 1, _ => exact ⟨hl 1, y, cy, cell_new2b w _ _ _, by rw [← l1]; exact h1.ext ((Ext.refl w).alloc _)⟩
theorem mem_put {α : Type} (G : List α) (k : Nat) (p x : α) : x ∈ G.take k ++ ([p] ++ G.drop k) ↔ x ∈ G ∨ x = p := by
  have h : x ∈ G ↔ x ∈ G.take k ∨ x ∈ G.drop k := by
    conv => lhs; rw [← List.take_append_drop k G]
    exact List.mem_append
  rw [h]
  simp only [List.mem_append, List.mem_singleton]
  constructor
  · rintro (h | h | h)
    · exact .inl (.inl h)
    · exact .inr h
    · exact .inl (.inr h)
  · rintro ((h | h) | h)
    · exact .inl h
    · exact .inr (.inr h)
    · exact .inr (.inl h)
theorem sorted_len {F G : List (List Int)} (hs : G.Pairwise (· < ·)) (hG : ∀ x, x ∈ G ↔ x ∈ F) : G.length ≤ F.length :=
  nodup_le _ _ (hs.imp fun h e => by subst e; exact absurd h (List.lt_irrefl _)) fun x hx => (hG x).1 hx

set_option maxRecDepth 100000 in
set_option maxHeartbeats 8000000 in
theorem l09Class_any (L S : List (List Int)) (p : List Int) (most : Nat) (v y u : Value) (w : World) (hv : Rows w v L) (hy : Rows w y S) (hu : Ints w u p) (hO : SolOk L S) (hp : WordOk L.length p) (hl8 : p.length ≤ 9) (h1m : 1 ≤ most) (hm : most ≤ 5000) :
    Calls Tryz.prog 56 #[.agg #[v, y], u, .int .i64 most] w (fun e w' => ∃ T U, Mv L.length (mulN L) (mulN S) (mulN T) (mulN U) ∧ InvTo L S L.length 0 T U ∧ RetCls L.length (mulN L) (mulN S) (mulN T) (mulN U) p most w e w') := by
  obtain ⟨-, b, o, c, rfl, -⟩ := id hv
  obtain ⟨-, b2, o2, c2, rfl, -⟩ := id hy
  obtain ⟨-, b3, o3, c3, rfl, -⟩ := id hu
  have HO := Lib.hid hO
  have HP := Lib.hid hO.pair
  have hx0 : Ext w (w.alloc (.cells #[.slice (some ⟨b, o, none⟩) L.length c, .slice (some ⟨b2, o2, none⟩) S.length c2] 26)) := (Ext.refl _).alloc _
  have k0 := cell_new2a w (.slice (some ⟨b, o, none⟩) L.length c) (.slice (some ⟨b2, o2, none⟩) S.length c2) 26
  have k1 := cell_new2b w (.slice (some ⟨b, o, none⟩) L.length c) (.slice (some ⟨b2, o2, none⟩) S.length c2) 26
  have HV := Lib.hid (hv.ext hx0)
  have HY := Lib.hid (hy.ext hx0)
  have HU := Lib.hid (hu.ext hx0)
  have HW := Lib.hid hp
  clear hv hy hu hO hp
  go_enter Tryz.func56, Tryz.ntmps56
  go_wp2_with fail
  generalize (w.alloc (.cells #[.slice (some ⟨b, o, none⟩) L.length c, .slice (some ⟨b2, o2, none⟩) S.length c2] 26)) = w1 at *
  refine (l02Inverse_any L S _ _ _ HV.out HY.out HO.out).mono ?_
  rintro e w2 ⟨bT, cT, bU, cU, T, U, rfl, hT, hU, hI, hx2⟩
  have HM := Lib.hid (mv_of HO.out hI)
  have HI := Lib.hid hI
  have HB := Lib.hid (inv_pair HO.out hI)
  have hxb : Ext w2 (w2.alloc (.cells #[.slice (some ⟨bT, 0, none⟩) L.length cT, .slice (some ⟨bU, 0, none⟩) L.length cU] 26)) := (Ext.refl _).alloc _
  have HK0 := Lib.hid (hxb.cell (hx2.cell k0))
  have HK1 := Lib.hid (hxb.cell (hx2.cell k1))
  have HK2 := Lib.hid (cell_new2a w2 (.slice (some ⟨bT, 0, none⟩) L.length cT) (.slice (some ⟨bU, 0, none⟩) L.length cU) 26)
  have HK3 := Lib.hid (cell_new2b w2 (.slice (some ⟨bT, 0, none⟩) L.length cT) (.slice (some ⟨bU, 0, none⟩) L.length cU) 26)
  have HXB := Lib.hid (hx0.trans (hx2.trans hxb))
  have HV := Lib.hid (HV.out.ext (hx2.trans hxb))
  have HY := Lib.hid (HY.out.ext (hx2.trans hxb))
  have HU := Lib.hid (HU.out.ext (hx2.trans hxb))
  have HT := Lib.hid (hT.ext hxb)
  have HTU := Lib.hid (hU.ext hxb)
  clear k0 k1 hx0 hx2 hxb hT hU hI
  go_wp2_with fail
  generalize (w2.alloc (.cells #[.slice (some ⟨bT, 0, none⟩) L.length cT, .slice (some ⟨bU, 0, none⟩) L.length cU] 26)) = wb at *
  refine (l01Own_any p _ _ HU.out).mono ?_
  rintro e w3 ⟨bp, cp, rfl, ho1, hx3⟩
  go_wp2_with fail
  have hx3a := hx3.alloc (.cells #[.slice (some ⟨bp, 0, none⟩) p.length cp] 27)
  refine (l01Own_any p _ _ (HU.out.ext hx3a)).mono ?_
  rintro e w4 ⟨bq, cq, rfl, ho2, hx4⟩
  have hCL := ClsM.start (e := 27) (base := wb.heap.size) (w := w3) (w0 := w4) (x1 := .slice (some ⟨bp, 0, none⟩) p.length cp) (x2 := .slice (some ⟨bq, 0, none⟩) p.length cq) (p := p) hx3.size ⟨by omega, bp, cp, rfl, ho1.2.2.1⟩ hx4 ⟨by omega, bq, cq, rfl, ho2.2.2.1⟩
  have hxe : Ext wb (w4.alloc (.cells #[.slice (some ⟨bq, 0, none⟩) p.length cq] 27)) := ((hx3a.trans hx4).alloc _)
  have HCL := Lib.hid hCL
  have HX := Lib.hid hxe
  clear hCL hxe hx3a hx3 hx4 ho1 ho2
  obtain ⟨N, hN⟩ : ∃ N, N = (wclL L.length (mulN L) (mulN S) (mulN T) (mulN U) p).length := ⟨_, rfl⟩
  have HFEW := Lib.hid (fun F i k j (h : BfsI (mulN L) (mulN S) (mulN T) (mulN U) p F i k j) => show F.length ≤ N by rw [hN]; exact h.few HM.out HW.out)
  have HALL := Lib.hid (fun F i (h : BfsI (mulN L) (mulN S) (mulN T) (mulN U) p F i 0 0) (hi : F.length ≤ i) => show F.length = N by rw [hN]; exact h.all HM.out HW.out hi)
  have HNN := Lib.hid hN
  clear hN
  go_wp2_with fail
  generalize (w4.alloc (.cells #[.slice (some ⟨bq, 0, none⟩) p.length cq] 27)) = w5 at *
  go_loopw [9, 10, 11] (fun vf vg vi wr => ∃ (i f cf g cg : Nat) (xf xg : List Value) (F G : List (List Int)), vf = .slice (some ⟨f, 0, none⟩) F.length cf ∧ vg = .slice (some ⟨g, 0, none⟩) G.length cg ∧ vi = .int .i64 i ∧ BfsI (mulN L) (mulN S) (mulN T) (mulN U) p F i 0 0 ∧ ClsM 27 wb.heap.size p.length wr f cf g cg xf xg F G ∧ G.Pairwise (· < ·) ∧ (∀ x, x ∈ G ↔ x ∈ F) ∧ i ≤ F.length ∧ F.length ≤ most ∧ Ext wb wr) (fun _ _ x _ => N - (intOf x).toNat)
  case atStart => exact ⟨0, _, _, _, _, _, _, [p], [p], rfl, rfl, rfl, BfsI.start _ _ _ _ _, HCL.out, by simp, by simp, by simp, by simpa using h1m, HX.out⟩
  case round =>
    clear HCL HX
    obtain ⟨i, f, cf, g, cg, xf, xg, F, G, rfl, rfl, rfl, hB, hC, hS, hG, hi, hFm, hX⟩ := hrel
    have HBI := Lib.hid hB
    have HC := Lib.hid hC
    have HS := Lib.hid hS
    have HG := Lib.hid hG
    have HX := Lib.hid hX
    clear hB hC hS hG hX
    by_cases hil : i < F.length
    case neg =>
      have hii : F.length ≤ i := by omega
      have hlen : ∀ x, x ∈ G → x.length = p.length := fun x hx => (HBI.out.eq x ((HG.out x).1 hx)).len
      have hGW := HBI.out.sorted HM.out HW.out hii (List.Pairwise.imp_of_mem (fun {a b} ha hb h => (lex_less (by rw [hlen a ha, hlen b hb])).1 h) HS.out) HG.out
      have hall := HALL.out F i HBI.out hii
      have hGl : G.length = N := by rw [hGW, ← HNN.out]
      have hrows := GrowX.rows ⟨xg, HC.out.og, HC.out.tg.xs⟩ (by simp) (show G.length ≤ 1048576 by omega)
      have hsm := hrows.small
      have HROW := Lib.hid hrows
      have HGW := Lib.hid hGW
      have HAL := Lib.hid hall
      clear hGW hlen hrows hall hGl
      have hki : ¬ (i : Int) < (F.length : Int) := by omega
      go_wp2_with fail
      refine (l01Own2_k G _ _ HROW.out).mono ?_
      rintro e w6 ⟨v6, rfl, hr6, hx6⟩
      go_wp2
      go_ret2
      refine ⟨T, U, HM.out, HI.out, .inl ⟨by rw [← HNN.out, ← HAL.out]; exact hFm, _, rfl, ?_⟩, (HXB.out.trans HX.out).trans hx6⟩
      rw [← HGW.out]
      exact hr6.low (Below.size (HXB.out.trans HX.out))
    case pos =>
      have hki : (i : Int) < (F.length : Int) := by omega
      go_wp2_with fail
      go_loopw [9, 10, 12] (fun vf vg vk wr => ∃ (k f cf g cg : Nat) (xf xg : List Value) (F G : List (List Int)), vf = .slice (some ⟨f, 0, none⟩) F.length cf ∧ vg = .slice (some ⟨g, 0, none⟩) G.length cg ∧ vk = .int .i64 k ∧ BfsI (mulN L) (mulN S) (mulN T) (mulN U) p F i k 0 ∧ ClsM 27 wb.heap.size p.length wr f cf g cg xf xg F G ∧ G.Pairwise (· < ·) ∧ (∀ x, x ∈ G ↔ x ∈ F) ∧ i < F.length ∧ k ≤ p.length ∧ F.length ≤ most + 2 * k ∧ Ext wb wr) (fun _ _ x _ => p.length - (intOf x).toNat)
      case atStart => exact ⟨0, _, _, _, _, _, _, F, G, rfl, rfl, rfl, HBI.out, HC.out, HS.out, HG.out, hil, Nat.zero_le _, hFm, HX.out⟩
      case round =>
        clear HBI HC HS HG HX hil hFm hi
        obtain ⟨k, f, cf, g, cg, xf, xg, F, G, rfl, rfl, rfl, hB, hC, hS, hG, hil, hkp, hFm, hX⟩ := hrel
        have HBI := Lib.hid hB
        have HC := Lib.hid hC
        have HS := Lib.hid hS
        have HG := Lib.hid hG
        have HX := Lib.hid hX
        clear hB hC hS hG hX
        by_cases hkl : k + 1 < p.length
        case neg =>
          have hkk : ¬ (k : Int) + 1 < (p.length : Int) := by omega
          by_cases hbig : most < F.length
          case pos =>
            have hbb : (most : Int) < (F.length : Int) := by omega
            go_wp2
            go_ret2
            exact ⟨T, U, HM.out, HI.out, .inr ⟨by rw [← HNN.out]; exact Nat.lt_of_lt_of_le hbig (HFEW.out _ _ _ _ HBI.out), rfl⟩, HXB.out.trans HX.out⟩
          case neg =>
            have hbb : ¬ (most : Int) < (F.length : Int) := by omega
            go_wp2
            go_roundw
            case rel => exact ⟨i + 1, _, _, _, _, _, _, F, G, rfl, rfl, by go_num, HBI.out.nextI hkl, HC.out, HS.out, HG.out, by omega, by omega, HX.out⟩
            case measure =>
              have := HFEW.out _ _ _ _ HBI.out
              simp [intOf]; omega
        case pos =>
          have hkk : (k : Int) + 1 < (p.length : Int) := by omega
          obtain ⟨bi, ci, hci, hri⟩ := HC.out.at_ hil
          obtain ⟨V, hV⟩ : ∃ V, V = row F i := ⟨_, rfl⟩
          obtain ⟨A0, hA0⟩ : ∃ A, A = mvJ (mulN L) (mulN S) (mulN T) (mulN U) (row F i) k 0 := ⟨_, rfl⟩
          obtain ⟨A1, hA1⟩ : ∃ A, A = mvJ (mulN L) (mulN S) (mulN T) (mulN U) (row F i) k 1 := ⟨_, rfl⟩
          have hlF := HC.out.lf i hil
          have hWF := (HBI.out.eq _ (rowB_mem hil)).ok HM.out HW.out
          have CA := Lib.hid (l02Do_m L S _ p.length k HP.out hWF (by rw [hlF]; exact hkl) hlF (by omega) A0 (by rw [hA0]; rfl))
          have CB := Lib.hid (l02Do_m T U _ p.length k HB.out (by rw [HI.out.1]; exact hWF) (by rw [hlF]; exact hkl) hlF (by omega) A1 (by rw [hA1]; rfl))
          have HRI := Lib.hid hri
          have HLF := Lib.hid hlF
          have HA0 := Lib.hid hA0
          have HA1 := Lib.hid hA1
          have HV1 := Lib.hid hV
          have k0 := HX.out.cell HK0.out
          have k1 := HX.out.cell HK1.out
          have k2 := HX.out.cell HK2.out
          have k3 := HX.out.cell HK3.out
          clear hri hlF hWF hA0 hA1 hV
          go_upto_region 9 with fail
          go_cut [13] (fun v wx => ∃ gb, v = .slice (some ⟨gb, 0, none⟩) 2 2 ∧ wr.heap.size ≤ gb ∧ BothM p.length gb wx (fun j => mvJ (mulN L) (mulN S) (mulN T) (mulN U) (row F i) k j) ∧ Ext wr wx)
          case first =>
            go_region_held3 (fun w' => w'.cell? ⟨w.heap.size, 0, none⟩ = some (.slice (some ⟨b, o, none⟩) L.length c) ∧ w'.cell? ⟨w.heap.size, 1, none⟩ = some (.slice (some ⟨b2, o2, none⟩) S.length c2) ∧ w'.cell? ⟨w2.heap.size, 0, none⟩ = some (.slice (some ⟨bT, 0, none⟩) L.length cT) ∧ w'.cell? ⟨w2.heap.size, 1, none⟩ = some (.slice (some ⟨bU, 0, none⟩) L.length cU) ∧ w'.cell? ⟨f, i, none⟩ = some (.slice (some ⟨bi, 0, none⟩) p.length ci))
              ((refine ⟨?_, ?_, ?_, ?_, ?_⟩ <;> (repeat first | (with_reducible assumption) | (with_reducible refine Ext.cell xA ?_) | (with_reducible refine Ext.cell xB ?_) |  (with_reducible exact kc_new) | ((with_reducible refine kc_newE ?_); (simp; done)) | ((with_reducible refine kc_newEa ?_); (simp; done)) | ((with_reducible refine kc_newEb ?_); (simp; done)) | (with_reducible apply kc_alloc) | (with_reducible apply kc_drewN) | (with_reducible apply kc_drew) | ((with_reducible refine kc_set ?_ ?_); (first | (simp only []; omega) | (simp; omega) | (focus (simp; done)))) | ((with_reducible refine kc_set2 ?_ ?_); (focus (simp; done))) | (with_reducible refine kc_same (v := .slice none 0 0) ?_))))
              (first
                | (go_at_call 66; (with_reducible refine at_args (a := .agg #[.slice (some ⟨b, o, none⟩) L.length c, .slice (some ⟨b2, o2, none⟩) S.length c2]) (b := .slice (some ⟨bi, 0, none⟩) p.length ci) (c := .int .i64 k) ?_); refine (CA.out _ _ _ _ (HV.out.ext (HX.out.trans (by (repeat first | (with_reducible exact Ext.refl _) | (with_reducible assumption) | (with_reducible apply Ext.drew) | (with_reducible apply kx_drewN) | (with_reducible apply kx_alloc) | ((with_reducible refine kx_set ?_ ?_); (first | (simp only []; omega) | (simp; omega) | (focus (simp; done)))) | (with_reducible refine Ext.trans ?_ xA) | (with_reducible refine Ext.trans ?_ xB) )))) (HY.out.ext (HX.out.trans (by (repeat first | (with_reducible exact Ext.refl _) | (with_reducible assumption) | (with_reducible apply Ext.drew) | (with_reducible apply kx_drewN) | (with_reducible apply kx_alloc) | ((with_reducible refine kx_set ?_ ?_); (first | (simp only []; omega) | (simp; omega) | (focus (simp; done)))) | (with_reducible refine Ext.trans ?_ xA) | (with_reducible refine Ext.trans ?_ xB) )))) (HRI.out.ints.ext (by (repeat first | (with_reducible exact Ext.refl _) | (with_reducible assumption) | (with_reducible apply Ext.drew) | (with_reducible apply kx_drewN) | (with_reducible apply kx_alloc) | ((with_reducible refine kx_set ?_ ?_); (first | (simp only []; omega) | (simp; omega) | (focus (simp; done)))) | (with_reducible refine Ext.trans ?_ xA) | (with_reducible refine Ext.trans ?_ xB) )))).mono ?_; rintro e wA ⟨bA, cA, rfl, iA, xA⟩)
                | (go_at_call 66; (with_reducible refine at_args (a := .agg #[.slice (some ⟨bT, 0, none⟩) L.length cT, .slice (some ⟨bU, 0, none⟩) L.length cU]) (b := .slice (some ⟨bi, 0, none⟩) p.length ci) (c := .int .i64 k) ?_); refine (CB.out _ _ _ _ (HT.out.ext (HX.out.trans (by (repeat first | (with_reducible exact Ext.refl _) | (with_reducible assumption) | (with_reducible apply Ext.drew) | (with_reducible apply kx_drewN) | (with_reducible apply kx_alloc) | ((with_reducible refine kx_set ?_ ?_); (first | (simp only []; omega) | (simp; omega) | (focus (simp; done)))) | (with_reducible refine Ext.trans ?_ xA) | (with_reducible refine Ext.trans ?_ xB) )))) (HTU.out.ext (HX.out.trans (by (repeat first | (with_reducible exact Ext.refl _) | (with_reducible assumption) | (with_reducible apply Ext.drew) | (with_reducible apply kx_drewN) | (with_reducible apply kx_alloc) | ((with_reducible refine kx_set ?_ ?_); (first | (simp only []; omega) | (simp; omega) | (focus (simp; done)))) | (with_reducible refine Ext.trans ?_ xA) | (with_reducible refine Ext.trans ?_ xB) )))) (HRI.out.ints.ext (by (repeat first | (with_reducible exact Ext.refl _) | (with_reducible assumption) | (with_reducible apply Ext.drew) | (with_reducible apply kx_drewN) | (with_reducible apply kx_alloc) | ((with_reducible refine kx_set ?_ ?_); (first | (simp only []; omega) | (simp; omega) | (focus (simp; done)))) | (with_reducible refine Ext.trans ?_ xA) | (with_reducible refine Ext.trans ?_ xB) )))).mono ?_; rintro e wB ⟨bB, cB, rfl, iB, xB⟩))
            all_goals
              go_wp2
              go_meet
              case rel =>
                refine ⟨_, rfl, Ext.size ?_, bothM_new (iA.ext ?_) (iB.ext ?_) HA0.out HA1.out (fun j => ?_), ?_⟩
                all_goals first
                  | (rw [length_mvJ]; exact HLF.out)
                  | ((repeat first | (with_reducible exact Ext.refl _) | (with_reducible assumption) | (with_reducible apply Ext.drew) | (with_reducible apply kx_drewN) | (with_reducible apply kx_alloc) | ((with_reducible refine kx_set ?_ ?_); (first | (simp only []; omega) | (simp; omega) | (focus (simp; done)))) | (with_reducible refine Ext.trans ?_ xA) | (with_reducible refine Ext.trans ?_ xB) ))
          case rest =>
            obtain ⟨gb, rfl, hgb, hboth, hxr⟩ := hcut
            have hnf : gb ≠ f := by have := (HC.out.of.lt f rfl).2; omega
            have hng : gb ≠ g := by have := (HC.out.og.lt g rfl).2; omega
            rw [← HV1.out] at hboth
            have HBO := Lib.hid hboth
            have HC := Lib.hid (HC.out.ext hxr)
            have HX := Lib.hid (HX.out.trans hxr)
            clear hboth hxr hgb k0 k1 k2 k3 hci CA CB HRI
            go_wp2_with fail
            go_loopw [9, 10, 14] (fun vf vg vj wr => ∃ (j f cf g cg : Nat) (xf xg : List Value) (F G : List (List Int)), vf = .slice (some ⟨f, 0, none⟩) F.length cf ∧ vg = .slice (some ⟨g, 0, none⟩) G.length cg ∧ vj = .int .i64 j ∧ BfsI (mulN L) (mulN S) (mulN T) (mulN U) p F i k j ∧ ClsM 27 wb.heap.size p.length wr f cf g cg xf xg F G ∧ G.Pairwise (· < ·) ∧ (∀ x, x ∈ G ↔ x ∈ F) ∧ i < F.length ∧ row F i = V ∧ j ≤ 2 ∧ F.length ≤ most + 2 * k + j ∧ BothM p.length gb wr (fun j => mvJ (mulN L) (mulN S) (mulN T) (mulN U) V k j) ∧ gb ≠ f ∧ gb ≠ g ∧ Ext wb wr) (fun _ _ x _ => 2 - (intOf x).toNat)
            case atStart => exact ⟨0, _, _, _, _, _, _, F, G, rfl, rfl, rfl, HBI.out, HC.out, HS.out, HG.out, hil, HV1.out.symm, Nat.zero_le _, hFm, HBO.out, hnf, hng, HX.out⟩
            case round =>
              clear HBI HC HS HG HX hil hFm HBO hnf hng HV1 HA0 HA1 HLF
              obtain ⟨j, f, cf, g, cg, xf, xg, F, G, rfl, rfl, rfl, hB, hC, hS, hG, hil, hV, hj2, hFm, hBO, hnf, hng, hX⟩ := hrel
              have HBI := Lib.hid hB
              have HC := Lib.hid hC
              have HS := Lib.hid hS
              have HG := Lib.hid hG
              have HX := Lib.hid hX
              have HBO := Lib.hid hBO
              have HV1 := Lib.hid hV
              clear hB hC hS hG hX hBO hV
              by_cases hjl : j < 2
              case neg =>
                have hjj : ¬ (j : Int) < 2 := by omega
                have hj22 : j = 2 := by omega
                go_wp2
                go_roundw
                case rel => exact ⟨k + 1, _, _, _, _, _, _, F, G, rfl, rfl, by go_num, BfsI.nextK (by have := HBI.out; rw [hj22] at this; exact this), HC.out, HS.out, HG.out, hil, by omega, by omega, HX.out⟩
                case measure => simp [intOf]; omega
              case pos =>
                have hjj : (j : Int) < 2 := by omega
                obtain ⟨hlA, bj, cj, hcj, hrj⟩ := HBO.out.2 j hjl
                have hGl := sorted_len HS.out HG.out
                have HLA := Lib.hid hlA
                have HRJ := Lib.hid hrj
                have hk2 : k + 1 < p.length := hkl
                clear hlA hrj
                go_wp2_with fail
                refine (l01Put_any wb.heap.size G (mvJ (mulN L) (mulN S) (mulN T) (mulN U) V k j) xg g cg _ _ HC.out.og HC.out.tg.xs HRJ.out.ints HS.out (by omega) HX.out.size).mono ?_
                rintro e w6 (⟨hin, rfl, hd⟩ | ⟨hno, g', kk, cap, rfl, hkk', hown6, hbl6, hgr6, hso6⟩)
                · have HIN := Lib.hid ((HG.out _).1 hin)
                  have HD := Lib.hid hd.ext
                  clear hin hd
                  go_wp2
                  go_roundw
                  case rel => exact ⟨j + 1, _, _, _, _, _, _, F, G, rfl, rfl, by go_num, HBI.out.skip (by rw [HV1.out]; exact HIN.out), HC.out.ext HD.out, HS.out, HG.out, hil, HV1.out, by omega, by omega, HBO.out.ext HD.out, hnf, hng, HX.out.trans HD.out⟩
                  case measure => simp [intOf]; omega
                · obtain ⟨G', hG', hGl', hC6, hr6⟩ := HC.out.put (by omega) HRJ.out HLA.out hkk' hown6 (hbl6.imp (fun e => by exact e) id) hgr6
                  obtain ⟨ag, ng, cgg, hhg⟩ := HC.out.headG
                  have hbo6 := HBO.out.grown hgr6 hng hhg (by omega)
                  have hcj6 : w6.cell? ⟨gb, j, none⟩ = some (.slice (some ⟨bj, 0, none⟩) p.length cj) := by rw [World.cell?_of_block (w := _) (a := ⟨gb, j, none⟩) (hgr6.block gb HBO.out.1 (fun e => hng (Option.some.inj e)))]; exact hcj
                  have hX6 : Ext wb w6 := Ext.grown HX.out hgr6 HC.out.og (Nat.le_refl _)
                  have hng' : gb ≠ g' := by
                    rcases hbl6 with e | e
                    · have := Option.some.inj (show some g = some g' from e); omega
                    · have := HBO.out.1; omega
                  rw [← hG'] at hso6
                  have hmem : ∀ x, x ∈ G' ↔ x ∈ F ++ [mvJ (mulN L) (mulN S) (mulN T) (mulN U) V k j] := fun x => by
                    rw [hG', mem_put, HG.out x]; simp
                  have HS' := Lib.hid hso6
                  have HMEM := Lib.hid hmem
                  have HX6 := Lib.hid hX6
                  have HBO6 := Lib.hid hbo6
                  have HC6 := Lib.hid (hC6.ext (ext_box w6 (.slice (some ⟨bj, 0, none⟩) p.length cj) 27))
                  have HR6 := Lib.hid (hr6.ext (ext_box w6 (.slice (some ⟨bj, 0, none⟩) p.length cj) 27))
                  have hnoF : mvJ (mulN L) (mulN S) (mulN T) (mulN U) V k j ∉ F := fun e => hno ((HG.out _).2 e)
                  have HNO := Lib.hid hnoF
                  have HGL := Lib.hid hGl'
                  clear hso6 hmem hX6 hbo6 hC6 hr6 hno hnoF hown6 hgr6 hbl6 hhg hG' hcj
                  rw [← hGl']
                  clear hGl'
                  go_wp2_with (at_builtin; refine wpList_append_one rfl _ _ 24 27 rfl Tryz.underlying24 infoSl wb.heap.size _ _ xf rfl HC6.out.of _ _ (show Value.oneCell' (.slice _ _ _) = true from rfl) rfl (cell_new _ _ _) (by omega) (HX6.out.alloc _).size ?_)
                  intro v' w8 hown8 hgr8 hv8 hbl8
                  obtain ⟨f', cap', rfl⟩ : ∃ f' cap', v' = .slice (some ⟨f', 0, none⟩) (F.length + 1) cap' := by
                    rcases hown8.2 with ⟨h, _⟩ | ⟨f', cap', cur, h, _⟩
                    · exact absurd h hv8
                    · exact ⟨f', cap', h⟩
                  have HBL8 : some f' = some f ∨ some f' = some (w6.alloc (.cells #[.slice (some ⟨bj, 0, none⟩) p.length cj] 27)).heap.size := by
                    rcases hbl8 with e | e
                    · exact .inl e
                    · refine .inr ?_
                      rw [show (w6.alloc (.cells #[.slice (some ⟨bj, 0, none⟩) p.length cj] 27)).heap.size = w6.heap.size + 1 by simp]
                      exact e
                  obtain ⟨hC8, hr8⟩ := HC6.out.add (by omega) HR6.out HLA.out hown8 HBL8 hgr8
                  obtain ⟨af, nf, cff, hhf⟩ := HC6.out.headF
                  have hbx := HBO6.out.ext (ext_box w6 (.slice (some ⟨bj, 0, none⟩) p.length cj) 27)
                  have hbo8 := hbx.grown hgr8 hnf hhf (by omega)
                  have hX8 : Ext wb w8 := Ext.grown (HX6.out.alloc _) hgr8 HC6.out.of (Nat.le_refl _)
                  have hnf' : gb ≠ f' := by
                    rcases HBL8 with e | e
                    · have := Option.some.inj e; omega
                    · have := Option.some.inj e; have := hbx.1; omega
                  have hFl : (F ++ [mvJ (mulN L) (mulN S) (mulN T) (mulN U) V k j]).length = F.length + 1 := by simp
                  have hrow : row (F ++ [mvJ (mulN L) (mulN S) (mulN T) (mulN U) V k j]) i = V := by rw [rowB_app hil]; exact HV1.out
                  have hadd := HBI.out.add hil hk2 (by rw [HV1.out]; exact HNO.out)
                  rw [HV1.out] at hadd
                  rw [← hFl]
                  have HC8 := Lib.hid hC8
                  have HBO8 := Lib.hid hbo8
                  have HX8 := Lib.hid hX8
                  have HROW := Lib.hid hrow
                  have HADD := Lib.hid hadd
                  have hFm8 : (F ++ [mvJ (mulN L) (mulN S) (mulN T) (mulN U) V k j]).length ≤ most + 2 * k + (j + 1) := by rw [hFl]; omega
                  have hil8 : i < (F ++ [mvJ (mulN L) (mulN S) (mulN T) (mulN U) V k j]).length := by rw [hFl]; omega
                  clear hC8 hr8 hbx hbo8 hX8 hown8 hgr8 hv8 hbl8 HBL8 hhf hrow hadd hFl HC6 HR6 HX6 HBO6 HBO hcj6
                  go_wp2
                  go_roundw
                  case rel => exact ⟨j + 1, _, _, _, _, _, _, _, _, rfl, rfl, by go_num, HADD.out, HC8.out, HS'.out, HMEM.out, hil8, HROW.out, by omega, hFm8, HBO8.out, hnf', hng', HX8.out⟩
                  case measure => simp [intOf]; omega
end Go.Proofs.YtjfjpngajboidaaGreat


namespace Go.Proofs.YtjfjpngajboidaaGreat
set_option linter.unusedVariables false
set_option linter.unusedSimpArgs false
open Go.RowKit
open Go.Deep

def RetClsS (L S : List (List Int)) (p : List Int) (most : Nat) (w : World) (e : Ending) (w' : World) : Prop :=
  (((clS L S p).length ≤ most ∧ ∃ v, e = .returned (.tuple #[v, .bool true]) ∧ RowsK w.heap.size w' v (clS L S p)) ∨ (most < (clS L S p).length ∧ e = .returned (.tuple #[.slice none 0 0, .bool false]))) ∧ Ext w w'
theorem l09Class_S (L S : List (List Int)) (p : List Int) (most : Nat) (v y u : Value) (w : World) (hv : Rows w v L) (hy : Rows w y S) (hu : Ints w u p) (hO : SolOk L S) (hp : WordOk L.length p) (hl8 : p.length ≤ 9) (h1m : 1 ≤ most) (hm : most ≤ 5000) :
    Calls Tryz.prog 56 #[.agg #[v, y], u, .int .i64 most] w (RetClsS L S p most w) := by
  refine (l09Class_any L S p most v y u w hv hy hu hO hp hl8 h1m hm).mono ?_
  rintro e w' ⟨T, U, hM, hI, h⟩
  unfold RetCls at h
  rw [clS_eq hO hI] at h
  exact h
def RetL (c : Int) (t : List (List Int)) (w : World) (e : Ending) (w' : World) : Prop := ∃ v, e = .returned (.tuple #[v, .int .i64 c]) ∧ (c = 0 → RowsK w.heap.size w' v t) ∧ (c ≠ 0 → v = .slice none 0 0) ∧ Ext w w'
def RetW (c : Int) (p : List Int) (w : World) (e : Ending) (w' : World) : Prop := ∃ v, e = .returned (.tuple #[v, .int .i64 c]) ∧ (c = 0 → RK w.heap.size (fun _ => False) w' v p) ∧ (c ≠ 0 → v = .slice none 0 0) ∧ Ext w w'
theorem retL_bad {c d : Int} {t : List (List Int)} {w w' : World} (hc : c ≠ 0) (e : d = c) (hx : Ext w w') : RetL c t w (.returned (.tuple #[.slice none 0 0, .int .i64 d])) w' := ⟨_, by rw [e], fun h => absurd h hc, fun _ => rfl, hx⟩
theorem retW_bad {c d : Int} {t : List Int} {w w' : World} (hc : c ≠ 0) (e : d = c) (hx : Ext w w') : RetW c t w (.returned (.tuple #[.slice none 0 0, .int .i64 d])) w' := ⟨_, by rw [e], fun h => absurd h hc, fun _ => rfl, hx⟩

end Go.Proofs.YtjfjpngajboidaaGreat


namespace Go.Proofs.YtjfjpngajboidaaGreat
set_option linter.unusedVariables false
set_option linter.unusedSimpArgs false
open Go.RowKit
open Go.Deep

def TabsIn (base : Nat) (X : Nat → Prop)  (w : World) (b o n : Nat) (ts : List (List (List Int))) : Prop := b < base ∧ ¬ X b ∧ ∀ k, k < ts.length →
  ∃ b1 o1 c1, b1 < base ∧ ¬ X b1 ∧ w.cell? ⟨b, o + k, none⟩ = some (.slice (some ⟨b1, o1, none⟩) n c1) ∧ ∀ x, x < n →
    ∃ b2 o2 c2, b2 < base ∧ ¬ X b2 ∧ w.cell? ⟨b1, o1 + x, none⟩ = some (.slice (some ⟨b2, o2, none⟩) n c2) ∧ ∀ y, y < n → w.cell? ⟨b2, o2 + y, none⟩ = some (.int .i64 (ent (tab ts k) x y))
def KeepB (base : Nat) (X : Nat → Prop)  (w w' : World) : Prop := ∀ k, k < base → ¬ X k → w'.heap[k]? = w.heap[k]?
theorem KeepB.refl (base : Nat) (X : Nat → Prop)  (w : World) : KeepB base X w w := fun _ _ _ => rfl
theorem KeepB.trans {base : Nat} {X : Nat → Prop}  {a b c : World} (h : KeepB base X a b) (k : KeepB base X b c) : KeepB base X a c := fun i h1 h2 => (k i h1 h2).trans (h i h1 h2)
theorem KeepB.cell {base : Nat} {X : Nat → Prop}  {w w' : World} (h : KeepB base X w w') {b o : Nat} {v : Value} (h1 : b < base) (h2 : ¬ X b) (hc : w.cell? ⟨b, o, none⟩ = some v) : w'.cell? ⟨b, o, none⟩ = some v := by
  rw [World.cell?_of_block (w := w) (a := ⟨b, o, none⟩) (h b h1 h2)]; exact hc
theorem TabsIn.keep {base : Nat} {X : Nat → Prop}  {w w' : World} {b o n : Nat} {ts : List (List (List Int))} (h : TabsIn base X w b o n ts) (hk : KeepB base X w w') : TabsIn base X w' b o n ts := by
  obtain ⟨h1, h2, h3⟩ := h
  refine ⟨h1, h2, fun k hkl => ?_⟩
  obtain ⟨b1, o1, c1, g1, g2, g3, g4⟩ := h3 k hkl
  refine ⟨b1, o1, c1, g1, g2, hk.cell h1 h2 g3, fun x hx => ?_⟩
  obtain ⟨b2, o2, c2, k1, k2, k3, k4⟩ := g4 x hx
  exact ⟨b2, o2, c2, k1, k2, hk.cell g1 g2 k3, fun y hy => hk.cell k1 k2 (k4 y hy)⟩

def OwnP (M I U : Nat) (sv : Value) (b : Nat) : Prop := b = M ∨ b = I ∨ b = U ∨ sv.ownBlock = some b
def OwnsAt (vo vo' : Value) (w : World) : Prop := vo'.ownBlock = vo.ownBlock ∨ ∃ g, vo'.ownBlock = some g ∧ w.heap.size ≤ g
theorem OwnsAt.refl (v : Value) (w : World) : OwnsAt v v w := .inl rfl
theorem Only.mono {p q : Nat → Prop} {w w' : World} (h : Only p w w') (hpq : ∀ k, k < w.heap.size → p k → q k) : Only q w w' := ⟨h.os, h.tape, h.output, h.size, fun k hk hn => h.keep k hk (fun e => hn (hpq k hk e))⟩
theorem OwnsAt.trans {a b c : Value} {w w' : World} (h : OwnsAt a b w) (k : OwnsAt b c w') (hs : w.heap.size ≤ w'.heap.size) : OwnsAt a c w := by
  rcases k with e | ⟨g, e, hg⟩
  · rcases h with e2 | ⟨g, e2, hg⟩
    · exact .inl (e.trans e2)
    · exact .inr ⟨g, e.trans e2, hg⟩
  · exact .inr ⟨g, e, by omega⟩
theorem Only.next {M I U : Nat} {sv sv1 : Value} {w w1 w2 : World} (h : Only (OwnP M I U sv) w w1) (ha : OwnsAt sv sv1 w) (k : Only (OwnP M I U sv1) w1 w2) : Only (OwnP M I U sv) w w2 :=
  ⟨k.os.trans h.os, k.tape.trans h.tape, k.output.trans h.output, Nat.le_trans h.size k.size, fun i hi hn => (k.keep i (Nat.lt_of_lt_of_le hi h.size) (fun e => by
    rcases e with e | e | e | e
    · exact hn (.inl e)
    · exact hn (.inr (.inl e))
    · exact hn (.inr (.inr (.inl e)))
    · rcases ha with e2 | ⟨g, e2, hg⟩
      · exact hn (.inr (.inr (.inr (e2 ▸ e))))
      · rw [e2] at e
        injection e with e
        omega)).trans (h.keep i hi hn)⟩
theorem Only.ext {p : Nat → Prop} {w w' : World} (h : Ext w w') : Only p w w' := ⟨h.os, h.tape, h.output, h.size, fun k hk _ => h.block k hk⟩
theorem Only.keepB {p : Nat → Prop} {base : Nat} {X : Nat → Prop}  {w w' : World} (h : Only p w w') (hp : ∀ k, p k → base ≤ k) (hb : base ≤ w.heap.size) : KeepB base X w w' := fun k h1 _ => h.keep k (by omega) (fun e => by have := hp k e; omega)
theorem MapSt.ownLow {base : Nat} {w : World} {M I U : Nat} {v u : Value} {n : Nat} {f s : List Int} {sv : Value} (h : MapSt base w M I U v u n f s sv) : ∀ k, OwnP M I U sv k → base ≤ k := fun k e => by
  obtain ⟨l1, l2, l3⟩ := h.low
  rcases e with rfl | rfl | rfl | e
  · exact l1
  · exact l2
  · exact l3
  · exact (h.set.lt e).1
theorem MapSt.size {base : Nat} {w : World} {M I U : Nat} {v u : Value} {n : Nat} {f s : List Int} {sv : Value} (h : MapSt base w M I U v u n f s sv) : base ≤ w.heap.size := by
  have := h.img_lt
  have := h.low.1
  omega
theorem MapSt.drew {base : Nat} {w : World} {M I U : Nat} {v u : Value} {n : Nat} {f s : List Int} {sv : Value} (h : MapSt base w M I U v u n f s sv) : MapSt base w.drew M I U v u n f s sv := h.ext h.img_lt (Ext.refl w).drew
theorem MapSt.drewN {base : Nat} {w : World} {M I U : Nat} {v u : Value} {n : Nat} {f s : List Int} {sv : Value} (h : MapSt base w M I U v u n f s sv) (k : Nat) : MapSt base (w.drewN k) M I U v u n f s sv := h.ext h.img_lt ((Ext.refl w).drewN k)
theorem MapSt.put {base : Nat} {w : World} {M I U : Nat} {v u : Value} {n : Nat} {g s : List Int} {sv : Value} (h : MapSt base w M I U v u n g s sv) (hl : g.length = n) {x q : Nat} (hx : x < n) (hf : ix g x < 0) :
    MapSt base ((w.setCell ⟨I, x, none⟩ (.int .i64 (q : Int))).setCell ⟨U, q, none⟩ (.bool true)) M I U v u n (g.set x (q : Int)) s sv where
  c0 := kc_set (fun e => h.apart.2.1 e) (kc_set (fun e => h.apart.1 e) h.c0)
  c1 := kc_set (fun e => h.apart.2.1 e) (kc_set (fun e => h.apart.1 e) h.c1)
  c2 := kc_set (fun e => h.apart.2.1 e) (kc_set (fun e => h.apart.1 e) h.c2)
  c3 := kc_set (fun e => h.apart.2.1 e) (kc_set (fun e => h.apart.1 e) h.c3)
  c4 := kc_set (fun e => h.apart.2.1 e) (kc_set (fun e => h.apart.1 e) h.c4)
  fr := kf_set (kf_set h.fr)
  img := ((h.img.set x _).setOther (fun e => h.apart.2.2.1 e) _).congr fun i hi => by
    by_cases e : i = x
    · subst e; rw [if_pos rfl, ix_set_same _ _ _ (by rw [hl]; exact hx)]
    · rw [if_neg e, ix_set_other _ _ _ _ e]
  usd := ((h.usd.setOther (fun e => h.apart.2.2.1 e.symm) _).set q _).congr fun i hi => by
    rw [hasB_set hl hx hf]
    by_cases e : i = q
    · rw [if_pos e, if_pos e]
    · rw [if_neg e, if_neg e]
  set := (h.set.setOff (fun g hg => (h.apart.2.2.2 g hg).2.1) _).setOff (fun g hg => (h.apart.2.2.2 g hg).2.2) _
  apart := h.apart
  low := h.low
theorem MapSt.put2 {base : Nat} {w : World} {M I U : Nat} {v u : Value} {n : Nat} {g s : List Int} {sv : Value} (h : MapSt base w M I U v u n g s sv) (hl : g.length = n) {x q : Nat} (hx : x < n) (hf : ix g x < 0) :
    MapSt base ((w.setCell ⟨U, q, none⟩ (.bool true)).setCell ⟨I, x, none⟩ (.int .i64 (q : Int))) M I U v u n (g.set x (q : Int)) s sv where
  c0 := kc_set (fun e => h.apart.1 e) (kc_set (fun e => h.apart.2.1 e) h.c0)
  c1 := kc_set (fun e => h.apart.1 e) (kc_set (fun e => h.apart.2.1 e) h.c1)
  c2 := kc_set (fun e => h.apart.1 e) (kc_set (fun e => h.apart.2.1 e) h.c2)
  c3 := kc_set (fun e => h.apart.1 e) (kc_set (fun e => h.apart.2.1 e) h.c3)
  c4 := kc_set (fun e => h.apart.1 e) (kc_set (fun e => h.apart.2.1 e) h.c4)
  fr := kf_set (kf_set h.fr)
  img := ((h.img.setOther (fun e => h.apart.2.2.1 e) _).set x _).congr fun i hi => by
    by_cases e : i = x
    · subst e; rw [if_pos rfl, ix_set_same _ _ _ (by rw [hl]; exact hx)]
    · rw [if_neg e, ix_set_other _ _ _ _ e]
  usd := ((h.usd.set q _).setOther (fun e => h.apart.2.2.1 e.symm) _).congr fun i hi => by
    rw [hasB_set hl hx hf]
    by_cases e : i = q
    · rw [if_pos e, if_pos e]
    · rw [if_neg e, if_neg e]
  set := (h.set.setOff (fun g hg => (h.apart.2.2.2 g hg).2.2) _).setOff (fun g hg => (h.apart.2.2.2 g hg).2.1) _
  apart := h.apart
  low := h.low
theorem MapSt.app {base : Nat} {w w' : World} {M I U : Nat} {v u : Value} {n : Nat} {f s s' : List Int} {sv sv' : Value} {o : Obj} (h : MapSt base w M I U v u n f s sv) (hg : (w.alloc o).grownBy w' sv.ownBlock) (hs : GrowI 2 base w' sv' s') (hat : sv'.ownBlock = sv.ownBlock ∨ sv'.ownBlock = some (w.heap.size + 1)) :
    MapSt base (w'.setCell ⟨M, 4, none⟩ sv') M I U v u n f s' sv' := by
  have hx := h.ext h.img_lt ((Ext.refl w).alloc o)
  have hz : (w.alloc o).heap.size = w.heap.size + 1 := by simp
  have nM : M ≠ w.heap.size + 1 := by have := hx.img_lt; omega
  have nI : I ≠ w.heap.size + 1 := by have := hx.img.lt; omega
  have nU : U ≠ w.heap.size + 1 := by have := hx.usd.lt; omega
  have kM : some M ≠ sv.ownBlock := fun e => (h.apart.2.2.2 M e.symm).1 rfl
  have kI : some I ≠ sv.ownBlock := fun e => (h.apart.2.2.2 I e.symm).2.1 rfl
  have kU : some U ≠ sv.ownBlock := fun e => (h.apart.2.2.2 U e.symm).2.2 rfl
  have ap : ∀ g, sv'.ownBlock = some g → g ≠ M ∧ g ≠ I ∧ g ≠ U := fun g e => by
    rcases hat with e2 | e2
    · rw [e2] at e; exact h.apart.2.2.2 g e
    · rw [e2] at e; injection e with e
      subst e
      exact ⟨nM.symm, nI.symm, nU.symm⟩
  exact {
    c0 := kc_set2 (by simp) (hg.cell hx.c0 kM)
    c1 := kc_set2 (by simp) (hg.cell hx.c1 kM)
    c2 := kc_set2 (by simp) (hg.cell hx.c2 kM)
    c3 := kc_set2 (by simp) (hg.cell hx.c3 kM)
    c4 := kc_same (hg.cell hx.c4 kM)
    fr := kf_set (by
      have e := hg.block M hx.img_lt kM
      rw [World.frozen?_of_block (w := w.alloc o) (a := ⟨M, 4, none⟩) e]; exact hx.fr)
    img := (hx.img.of_block (hg.block I hx.img.lt kI)).setOther (fun e => h.apart.1 e.symm) _
    usd := (hx.usd.of_block (hg.block U hx.usd.lt kU)).setOther (fun e => h.apart.2.1 e.symm) _
    set := hs.setOff (fun g hg => (ap g hg).1) _
    apart := ⟨h.apart.1, h.apart.2.1, h.apart.2.2.1, ap⟩
    low := h.low }
theorem MapSt.row {base : Nat} {w : World} {M I U : Nat} {v u : Value} {n : Nat} {f s : List Int} {sv : Value} (h : MapSt base w M I U v u n f s sv) (hs : 0 < s.length) : ∃ S c, sv = .slice (some ⟨S, 0, none⟩) s.length c ∧ IntsAt w S 0 s := by
  obtain ⟨b, c, rfl, ho⟩ := h.set.own (fun e => by
    rcases h.set.2 with ⟨-, hn⟩ | ⟨g, cap, cur, rfl, _⟩
    · omega
    · simp at e)
  exact ⟨b, c, rfl, ho.2.2.1⟩
end Go.Proofs.YtjfjpngajboidaaGreat


namespace Go.Proofs.YtjfjpngajboidaaGreat
set_option linter.unusedVariables false
set_option linter.unusedSimpArgs false
open Go.RowKit
attribute [local go_sem ↓] Go.wp_at_zero Go.wp_at_succ
open Go.Deep

set_option maxRecDepth 100000 in
set_option maxHeartbeats 8000000 in
theorem collisionOf_any (L S : List (List Int)) (v y : Value) (w : World) (hv : Rows w v L) (hy : Rows w y S) (hO : PairOk L S) :
    Calls Tryz.prog 83 #[.agg #[v, y]] w (RetF (injB L S) 4 true w) := by
  obtain ⟨-, b, o, c, rfl, hvc⟩ := id hv
  obtain ⟨-, b2, o2, c2, rfl, hyc⟩ := id hy
  have h12 := hO.l.2.1
  have h1n := hO.l.1
  have HSL := Lib.hid hO.len
  have HLR := Lib.hid (fun x (hx : x < L.length) => hO.rowL hx)
  have HSR := Lib.hid (fun x (hx : x < L.length) => hO.rowS hx)
  rw [hO.len]
  have HLN := Lib.hid (fun x y (hx : x < L.length) (hy : y < L.length) => hO.ln hx hy)
  have HSN := Lib.hid (fun x y (hx : x < L.length) (hy : y < L.length) => hO.sn hx hy)
  have HB := Lib.hid (show injB L S = true ↔ _ from injB_iff.trans (ybi_at (by omega)))
  have hx0 : Ext w (w.alloc (.cells #[.slice (some ⟨b, o, none⟩) L.length c, .slice (some ⟨b2, o2, none⟩) L.length c2] 26)) := (Ext.refl _).alloc _
  have k0 := cell_new2a w (.slice (some ⟨b, o, none⟩) L.length c) (.slice (some ⟨b2, o2, none⟩) L.length c2) 26
  have k1 := cell_new2b w (.slice (some ⟨b, o, none⟩) L.length c) (.slice (some ⟨b2, o2, none⟩) L.length c2) 26
  have HV := Lib.hid (hvc.ext hx0)
  have HY := Lib.hid (hyc.ext hx0)
  clear hv hy hvc hyc hO
  obtain ⟨J, hJ⟩ : ∃ q, q = injB L S := ⟨_, rfl⟩
  rw [← hJ] at HB ⊢
  clear hJ
  obtain ⟨n, hn⟩ : ∃ n, n = L.length := ⟨_, rfl⟩
  rw [← hn] at h12 h1n HSL HLR HSR HLN HSN HB hx0 k0 k1 HV HY ⊢
  have HN := Lib.hid hn
  clear hn
  obtain ⟨N, hNe⟩ : ∃ N : Nat, N = n * n := ⟨_, rfl⟩
  have hnm := cast_mul' n n N hNe
  have hN144 : N ≤ 144 := by rw [hNe]; exact Nat.mul_le_mul h12 h12
  have hn0 : ¬ (n : Int) = 0 := by omega
  have hn0b : ((n : Int) == 0) = false := by simp; omega
  have HK := Lib.hid (fun k (hk : k < N) => show k < n * n by omega)
  rw [← hNe] at HB
  clear hNe
  go_enter Tryz.func83, Tryz.ntmps83
  go_wp2_with fail
  generalize (w.alloc (.cells #[.slice (some ⟨b, o, none⟩) n c, .slice (some ⟨b2, o2, none⟩) n c2] 26)) = w1 at *
  go_loopw [16] (fun i wr => ∃ k : Nat, k ≤ N ∧ i = .int .i64 k ∧ (∀ a, a < k → ∀ b, b < N → ¬ colAt n (mulN L) (mulN S) a b) ∧ Drawn w1 wr) (fun i _ => N - (intOf i).toNat)
  case atStart => exact ⟨0, Nat.zero_le _, rfl, fun a ha => by omega, Drawn.refl _⟩
  case round =>
    obtain ⟨k, hk, rfl, hno, hd⟩ := hrel
    have HD := Lib.hid hd
    have HNO := Lib.hid hno
    clear hd hno
    by_cases hkl : k < N
    case neg =>
      have hki : ¬ (k : Int) < (N : Int) := by omega
      go_wp2
      go_ret
      exact ⟨.inl ⟨HB.out.2 fun a ha => HNO.out a (by omega), _, rfl, fun _ => rfl⟩, hx0.trans HD.out.ext⟩
    case pos =>
      have hki : (k : Int) < (N : Int) := by omega
      obtain ⟨q1, z1, hq1, hz1, lq1, lz1, dq1, dz1⟩ := divs (HK.out k hkl)
      obtain ⟨tq1, tz1⟩ := tdivs hq1 hz1
      have wq1 : IntKind.i64.wrap (q1 : Int) = (q1 : Int) := IntWalk.i64_in _ (by omega)
      have wz1 : IntKind.i64.wrap (z1 : Int) = (z1 : Int) := IntWalk.i64_in _ (by omega)
      have D1 := Lib.hid (And.intro dq1 dz1)
      clear hq1 hz1 dq1 dz1
      go_wp2
      go_quiet (fail)
      go_wp2_with fail
      generalize hw2 : World.drewN _ _ = w2
      have HD2 := Lib.hid (show Drawn w1 w2 from HD.out.trans ⟨_, hw2.symm⟩)
      clear hw2 tq1 tz1 wq1 wz1
      go_loopw [28] (fun i wr => ∃ j : Nat, j ≤ N ∧ i = .int .i64 j ∧ (∀ b, b < j → ¬ colAt n (mulN L) (mulN S) k b) ∧ Drawn w1 wr) (fun i _ => N - (intOf i).toNat)
      case atStart => exact ⟨0, Nat.zero_le _, rfl, fun b hb => by omega, HD2.out⟩
      case round =>
        clear HD2 HD
        obtain ⟨j, hj, rfl, hnj, hd⟩ := hrel
        have HD := Lib.hid hd
        have HNJ := Lib.hid hnj
        clear hd hnj
        by_cases hjl : j < N
        case neg =>
          have hji : ¬ (j : Int) < (N : Int) := by omega
          go_wp2
          go_roundw
          case rel => exact ⟨k + 1, by omega, by go_num, fun a ha => by
            by_cases e : a = k
            · subst e; exact fun b hb => HNJ.out b (by omega)
            · exact HNO.out a (by omega), HD.out⟩
          case measure => simp [intOf]; omega
        case pos =>
          have hji : (j : Int) < (N : Int) := by omega
          obtain ⟨q2, z2, hq2, hz2, lq2, lz2, dq2, dz2⟩ := divs (HK.out j hjl)
          obtain ⟨tq2, tz2⟩ := tdivs hq2 hz2
          have wq2 : IntKind.i64.wrap (q2 : Int) = (q2 : Int) := IntWalk.i64_in _ (by omega)
          have wz2 : IntKind.i64.wrap (z2 : Int) = (z2 : Int) := IntWalk.i64_in _ (by omega)
          have D2 := Lib.hid (And.intro dq2 dz2)
          clear hq2 hz2 dq2 dz2
          go_wp2
          go_quiet (fail)
          go_wp2_with fail
          generalize hw3 : World.drewN _ _ = w3
          have HD3 := Lib.hid (show Drawn w1 w3 from HD.out.trans ⟨_, hw3.symm⟩)
          clear hw3 tq2 tz2 wq2 wz2
          by_cases hkj : k = j
          case pos =>
            subst hkj
            have hkb : ((k : Int) != (k : Int)) = false := by simp
            go_wp2
            go_quiet (fail)
            go_wp2
            go_roundw
            case rel => exact ⟨k + 1, by omega, by go_num, fun b hb => by
              by_cases e : b = k
              · subst e; exact fun h => h.1 rfl
              · exact HNJ.out b (by omega), HD3.out.drewN _⟩
            case measure => simp [intOf]; omega
          case neg =>
            have hkb : ((k : Int) != (j : Int)) = true := by simp; omega
            have hki2 : ¬ (k : Int) = (j : Int) := by omega
            have HC := Lib.hid (show colAt n (mulN L) (mulN S) k j ↔ (mulN L q1 z1 = mulN L q2 z2 ∧ mulN S q1 z1 = mulN S q2 z2) by
              unfold colAt
              rw [D1.out.1, D1.out.2, D2.out.1, D2.out.2]
              exact ⟨fun h => h.2, fun h => ⟨hkj, h⟩⟩)
            have hL1 := HLN.out q1 z1 lq1 lz1
            have hL2 := HLN.out q2 z2 lq2 lz2
            have hS1 := HSN.out q1 z1 lq1 lz1
            have hS2 := HSN.out q2 z2 lq2 lz2
            obtain ⟨d1, s1, m1, r1, i1, -⟩ := (HV.out.ext HD3.out.ext).get (i := q1) (by rw [← HN.out]; exact lq1)
            obtain ⟨d2, s2, m2, r2, i2, -⟩ := (HV.out.ext HD3.out.ext).get (i := q2) (by rw [← HN.out]; exact lq2)
            obtain ⟨f1, g1, j1, t1, u1, -⟩ := (HY.out.ext HD3.out.ext).get (i := q1) (by rw [HSL.out]; exact lq1)
            obtain ⟨f2, g2, j2, t2, u2, -⟩ := (HY.out.ext HD3.out.ext).get (i := q2) (by rw [HSL.out]; exact lq2)
            have e1 := i1.ent (HLR.out q1 lq1) (y := z1) lz1
            have e2 := i2.ent (HLR.out q2 lq2) (y := z2) lz2
            have e3 := u1.ent (HSR.out q1 lq1) (y := z1) lz1
            have e4 := u2.ent (HSR.out q2 lq2) (y := z2) lz2
            rw [HLR.out q1 lq1] at r1
            rw [HLR.out q2 lq2] at r2
            rw [HSR.out q1 lq1] at t1
            rw [HSR.out q2 lq2] at t2
            rw [hL1.1] at e1
            rw [hL2.1] at e2
            rw [hS1.1] at e3
            rw [hS2.1] at e4
            obtain ⟨A1, hA1⟩ : ∃ q, q = mulN L q1 z1 := ⟨_, rfl⟩
            obtain ⟨A2, hA2⟩ : ∃ q, q = mulN L q2 z2 := ⟨_, rfl⟩
            obtain ⟨B1, hB1⟩ : ∃ q, q = mulN S q1 z1 := ⟨_, rfl⟩
            obtain ⟨B2, hB2⟩ : ∃ q, q = mulN S q2 z2 := ⟨_, rfl⟩
            rw [← hA1] at e1 HC
            rw [← hA2] at e2 HC
            rw [← hB1] at e3 HC
            rw [← hB2] at e4 HC
            have b0 := HD3.out.ext.cell k0
            have b1 := HD3.out.ext.cell k1
            have HRJ := Lib.hid (show ¬ (A1 = A2 ∧ B1 = B2) → ∀ b, b < j + 1 → ¬ colAt n (mulN L) (mulN S) k b from fun hne b hb => by
              by_cases e : b = j
              · subst e; exact fun h => hne (HC.out.1 h)
              · exact HNJ.out b (by omega))
            clear hA1 hA2 hB1 hB2 hL1 hL2 hS1 hS2 i1 i2 u1 u2
            by_cases hA : A1 = A2
            case neg =>
              have hAb : ((A1 : Int) == (A2 : Int)) = false := by simp; omega
              go_wp2
              go_quiet (fail)
              go_wp2
              go_roundw
              case rel => exact ⟨j + 1, by omega, by go_num, HRJ.out (fun h => hA h.1), HD3.out.drewN _⟩
              case measure => simp [intOf]; omega
            case pos =>
              subst hA
              have hAb : ((A1 : Int) == (A1 : Int)) = true := by simp
              by_cases hB : B1 = B2
              case neg =>
                have hBb : ((B1 : Int) == (B2 : Int)) = false := by simp; omega
                go_wp2
                go_quiet (fail)
                go_wp2
                go_roundw
                case rel => exact ⟨j + 1, by omega, by go_num, HRJ.out (fun h => hB h.2), HD3.out.drewN _⟩
                case measure => simp [intOf]; omega
              case pos =>
                subst hB
                have hBb : ((B1 : Int) == (B1 : Int)) = true := by simp
                go_wp2
                go_quiet (fail)
                go_wp2
                go_ret
                exact ⟨.inr ⟨by
                  cases hJ : J with
                  | false => rfl
                  | true => exact absurd (HC.out.2 (by simp)) (HB.out.1 hJ k hkl j hjl), _, rfl⟩, hx0.trans ((HD3.out.ext.drewN _).alloc _)⟩

end Go.Proofs.YtjfjpngajboidaaGreat


namespace Go.Proofs.YtjfjpngajboidaaGreat
set_option linter.unusedVariables false
set_option linter.unusedSimpArgs false
open Go.RowKit
attribute [local go_sem ↓] Go.wp_at_zero Go.wp_at_succ
open Go.Deep

set_option maxRecDepth 100000 in
set_option maxHeartbeats 8000000 in
theorem equationFault_any (L S : List (List Int)) (v y : Value) (w : World) (hv : Rows w v L) (hy : Rows w y S) (hO : PairOk L S) :
    Calls Tryz.prog 84 #[.agg #[v, y]] w (RetF (ybeB L S) 3 true w) := by
  obtain ⟨-, b, o, c, rfl, hvc⟩ := id hv
  obtain ⟨-, b2, o2, c2, rfl, hyc⟩ := id hy
  have h12 := hO.l.2.1
  have HSL := Lib.hid hO.len
  have HLR := Lib.hid (fun x (hx : x < L.length) => hO.rowL hx)
  have HSR := Lib.hid (fun x (hx : x < L.length) => hO.rowS hx)
  rw [hO.len]
  have HB := Lib.hid (show ybeB L S = true ↔ _ from ybeB_iff.trans ybe_at)
  have HLN := Lib.hid (fun x y (hx : x < L.length) (hy : y < L.length) => hO.ln hx hy)
  have HSN := Lib.hid (fun x y (hx : x < L.length) (hy : y < L.length) => hO.sn hx hy)
  have hx0 : Ext w (w.alloc (.cells #[.slice (some ⟨b, o, none⟩) L.length c, .slice (some ⟨b2, o2, none⟩) L.length c2] 26)) := (Ext.refl _).alloc _
  have k0 := cell_new2a w (.slice (some ⟨b, o, none⟩) L.length c) (.slice (some ⟨b2, o2, none⟩) L.length c2) 26
  have k1 := cell_new2b w (.slice (some ⟨b, o, none⟩) L.length c) (.slice (some ⟨b2, o2, none⟩) L.length c2) 26
  have HV := Lib.hid (hvc.ext hx0)
  have HY := Lib.hid (hyc.ext hx0)
  clear hv hy hvc hyc hO
  obtain ⟨J, hJ⟩ : ∃ q, q = ybeB L S := ⟨_, rfl⟩
  rw [← hJ] at HB ⊢
  clear hJ
  obtain ⟨n, hn⟩ : ∃ n, n = L.length := ⟨_, rfl⟩
  rw [← hn] at h12 HSL HLR HSR HB HLN HSN hx0 k0 k1 HV HY ⊢
  have HN := Lib.hid hn
  clear hn
  go_enter Tryz.func84, Tryz.ntmps84
  go_wp2_with fail
  generalize (w.alloc (.cells #[.slice (some ⟨b, o, none⟩) n c, .slice (some ⟨b2, o2, none⟩) n c2] 26)) = w1 at *
  go_loopw [17] (fun i wr => ∃ x : Nat, x ≤ n ∧ i = .int .i64 x ∧ (∀ a, a < x → ∀ b, b < n → ∀ c, c < n → eqT (mulN L) (mulN S) a b c) ∧ Drawn w1 wr) (fun i _ => n - (intOf i).toNat)
  case atStart => exact ⟨0, Nat.zero_le _, rfl, fun a ha => by omega, Drawn.refl _⟩
  case round =>
    obtain ⟨x, hx, rfl, hnx, hd⟩ := hrel
    have HD := Lib.hid hd
    have HNX := Lib.hid hnx
    clear hd hnx
    by_cases hxl : x < n
    case neg =>
      have hxi : ¬ (x : Int) < (n : Int) := by omega
      go_wp2
      go_ret
      exact ⟨.inl ⟨HB.out.2 fun a ha => HNX.out a (by omega), none, rfl, fun _ => rfl⟩, hx0.trans HD.out.ext⟩
    case pos =>
      have hxi : (x : Int) < (n : Int) := by omega
      go_wp2_with fail
      go_loopw [21] (fun i wr => ∃ y : Nat, y ≤ n ∧ i = .int .i64 y ∧ (∀ b, b < y → ∀ c, c < n → eqT (mulN L) (mulN S) x b c) ∧ Drawn w1 wr) (fun i _ => n - (intOf i).toNat)
      case atStart => exact ⟨0, Nat.zero_le _, rfl, fun a ha => by omega, HD.out⟩
      case round =>
        clear HD
        obtain ⟨y, hy, rfl, hny, hd⟩ := hrel
        have HD := Lib.hid hd
        have HNY := Lib.hid hny
        clear hd hny
        by_cases hyl : y < n
        case neg =>
          have hyi : ¬ (y : Int) < (n : Int) := by omega
          go_wp2
          go_roundw
          case rel => exact ⟨x + 1, by omega, by go_num, fun a ha => by
            by_cases e : a = x
            · subst e; exact fun b hb => HNY.out b (by omega)
            · exact HNX.out a (by omega), HD.out⟩
          case measure => simp [intOf]; omega
        case pos =>
          have hyi : (y : Int) < (n : Int) := by omega
          go_wp2_with fail
          go_loopw [25] (fun i wr => ∃ z : Nat, z ≤ n ∧ i = .int .i64 z ∧ (∀ c, c < z → eqT (mulN L) (mulN S) x y c) ∧ Drawn w1 wr) (fun i _ => n - (intOf i).toNat)
          case atStart => exact ⟨0, Nat.zero_le _, rfl, fun a ha => by omega, HD.out⟩
          case round =>
            clear HD
            obtain ⟨z, hz, rfl, hnz, hd⟩ := hrel
            have HD := Lib.hid hd
            have HNZ := Lib.hid hnz
            clear hd hnz
            by_cases hzl : z < n
            case neg =>
              have hzi : ¬ (z : Int) < (n : Int) := by omega
              go_wp2
              go_roundw
              case rel => exact ⟨y + 1, by omega, by go_num, fun a ha => by
                by_cases e : a = y
                · subst e; exact fun b hb => HNZ.out b (by omega)
                · exact HNY.out a (by omega), HD.out⟩
              case measure => simp [intOf]; omega
            case pos =>
              have hzi : (z : Int) < (n : Int) := by omega
              have hbL1 := HLN.out x y hxl hyl
              have hbS1 := HSN.out x y hxl hyl
              obtain ⟨d1, s1, m1, r1, i1, n1⟩ := (HV.out.ext HD.out.ext).get (i := x) (by rw [← HN.out]; exact hxl)
              obtain ⟨f1, g1, j1, t1, u1, v1⟩ := (HY.out.ext HD.out.ext).get (i := x) (by rw [HSL.out]; exact hxl)
              have eL1 := i1.ent (HLR.out x hxl) (y := y) hyl
              have eS1 := u1.ent (HSR.out x hxl) (y := y) hyl
              rw [HLR.out x hxl] at r1
              rw [HSR.out x hxl] at t1
              rw [hbL1.1] at eL1
              rw [hbS1.1] at eS1
              obtain ⟨A, hA⟩ : ∃ q, q = mulN L x y := ⟨_, rfl⟩
              obtain ⟨B, hB⟩ : ∃ q, q = mulN S x y := ⟨_, rfl⟩
              rw [← hA] at eL1 hbL1
              rw [← hB] at eS1 hbS1
              have hAl := hbL1.2
              have hBl := hbS1.2
              have HA := Lib.hid hA
              have HB_ := Lib.hid hB
              have b0_1 := HD.out.ext.cell k0
              have b1_1 := HD.out.ext.cell k1
              clear hbL1 hbS1 i1 u1 n1 v1 hA hB
              go_wp2
              go_quiet (fail)
              go_wp2_with fail
              generalize hw1 : World.drewN _ _ = wq2
              have HDD2 := Lib.hid (show Drawn w1 wq2 from HD.out.trans ⟨_, hw1.symm⟩)
              clear hw1 r1 t1 eL1 eS1 b0_1 b1_1
              have hbL2 := HLN.out B z hBl hzl
              have hbS2 := HSN.out B z hBl hzl
              obtain ⟨d2, s2, m2, r2, i2, n2⟩ := (HV.out.ext HDD2.out.ext).get (i := B) (by rw [← HN.out]; exact hBl)
              obtain ⟨f2, g2, j2, t2, u2, v2⟩ := (HY.out.ext HDD2.out.ext).get (i := B) (by rw [HSL.out]; exact hBl)
              have eL2 := i2.ent (HLR.out B hBl) (y := z) hzl
              have eS2 := u2.ent (HSR.out B hBl) (y := z) hzl
              rw [HLR.out B hBl] at r2
              rw [HSR.out B hBl] at t2
              rw [hbL2.1] at eL2
              rw [hbS2.1] at eS2
              obtain ⟨B2, hB2⟩ : ∃ q, q = mulN L B z := ⟨_, rfl⟩
              obtain ⟨C, hC⟩ : ∃ q, q = mulN S B z := ⟨_, rfl⟩
              rw [← hB2] at eL2 hbL2
              rw [← hC] at eS2 hbS2
              have hB2l := hbL2.2
              have hCl := hbS2.2
              have HB2 := Lib.hid hB2
              have HC := Lib.hid hC
              have b0_2 := HDD2.out.ext.cell k0
              have b1_2 := HDD2.out.ext.cell k1
              clear hbL2 hbS2 i2 u2 n2 v2 hB2 hC
              go_wp2
              go_quiet (fail)
              go_wp2_with fail
              generalize hw2 : World.drewN _ _ = wq3
              have HDD3 := Lib.hid (show Drawn w1 wq3 from HDD2.out.trans ⟨_, hw2.symm⟩)
              clear hw2 r2 t2 eL2 eS2 b0_2 b1_2
              have hbL3 := HLN.out A B2 hAl hB2l
              have hbS3 := HSN.out A B2 hAl hB2l
              obtain ⟨d3, s3, m3, r3, i3, n3⟩ := (HV.out.ext HDD3.out.ext).get (i := A) (by rw [← HN.out]; exact hAl)
              obtain ⟨f3, g3, j3, t3, u3, v3⟩ := (HY.out.ext HDD3.out.ext).get (i := A) (by rw [HSL.out]; exact hAl)
              have eL3 := i3.ent (HLR.out A hAl) (y := B2) hB2l
              have eS3 := u3.ent (HSR.out A hAl) (y := B2) hB2l
              rw [HLR.out A hAl] at r3
              rw [HSR.out A hAl] at t3
              rw [hbL3.1] at eL3
              rw [hbS3.1] at eS3
              obtain ⟨A2, hA2⟩ : ∃ q, q = mulN L A B2 := ⟨_, rfl⟩
              obtain ⟨B3, hB3⟩ : ∃ q, q = mulN S A B2 := ⟨_, rfl⟩
              rw [← hA2] at eL3 hbL3
              rw [← hB3] at eS3 hbS3
              have hA2l := hbL3.2
              have hB3l := hbS3.2
              have HA2 := Lib.hid hA2
              have HB3 := Lib.hid hB3
              have b0_3 := HDD3.out.ext.cell k0
              have b1_3 := HDD3.out.ext.cell k1
              clear hbL3 hbS3 i3 u3 n3 v3 hA2 hB3
              go_wp2
              go_quiet (fail)
              go_wp2_with fail
              generalize hw3 : World.drewN _ _ = wq4
              have HDD4 := Lib.hid (show Drawn w1 wq4 from HDD3.out.trans ⟨_, hw3.symm⟩)
              clear hw3 r3 t3 eL3 eS3 b0_3 b1_3
              have hbL4 := HLN.out y z hyl hzl
              have hbS4 := HSN.out y z hyl hzl
              obtain ⟨d4, s4, m4, r4, i4, n4⟩ := (HV.out.ext HDD4.out.ext).get (i := y) (by rw [← HN.out]; exact hyl)
              obtain ⟨f4, g4, j4, t4, u4, v4⟩ := (HY.out.ext HDD4.out.ext).get (i := y) (by rw [HSL.out]; exact hyl)
              have eL4 := i4.ent (HLR.out y hyl) (y := z) hzl
              have eS4 := u4.ent (HSR.out y hyl) (y := z) hzl
              rw [HLR.out y hyl] at r4
              rw [HSR.out y hyl] at t4
              rw [hbL4.1] at eL4
              rw [hbS4.1] at eS4
              obtain ⟨E, hE⟩ : ∃ q, q = mulN L y z := ⟨_, rfl⟩
              obtain ⟨F, hF⟩ : ∃ q, q = mulN S y z := ⟨_, rfl⟩
              rw [← hE] at eL4 hbL4
              rw [← hF] at eS4 hbS4
              have hEl := hbL4.2
              have hFl := hbS4.2
              have HE_ := Lib.hid hE
              have HF := Lib.hid hF
              have b0_4 := HDD4.out.ext.cell k0
              have b1_4 := HDD4.out.ext.cell k1
              clear hbL4 hbS4 i4 u4 n4 v4 hE hF
              go_wp2
              go_quiet (fail)
              go_wp2_with fail
              generalize hw4 : World.drewN _ _ = wq5
              have HDD5 := Lib.hid (show Drawn w1 wq5 from HDD4.out.trans ⟨_, hw4.symm⟩)
              clear hw4 r4 t4 eL4 eS4 b0_4 b1_4
              have hbL5 := HLN.out x E hxl hEl
              have hbS5 := HSN.out x E hxl hEl
              obtain ⟨d5, s5, m5, r5, i5, n5⟩ := (HV.out.ext HDD5.out.ext).get (i := x) (by rw [← HN.out]; exact hxl)
              obtain ⟨f5, g5, j5, t5, u5, v5⟩ := (HY.out.ext HDD5.out.ext).get (i := x) (by rw [HSL.out]; exact hxl)
              have eL5 := i5.ent (HLR.out x hxl) (y := E) hEl
              have eS5 := u5.ent (HSR.out x hxl) (y := E) hEl
              rw [HLR.out x hxl] at r5
              rw [HSR.out x hxl] at t5
              rw [hbL5.1] at eL5
              rw [hbS5.1] at eS5
              obtain ⟨Dd, hDd⟩ : ∃ q, q = mulN L x E := ⟨_, rfl⟩
              obtain ⟨E2, hE2⟩ : ∃ q, q = mulN S x E := ⟨_, rfl⟩
              rw [← hDd] at eL5 hbL5
              rw [← hE2] at eS5 hbS5
              have hDdl := hbL5.2
              have hE2l := hbS5.2
              have HDd := Lib.hid hDd
              have HE2 := Lib.hid hE2
              have b0_5 := HDD5.out.ext.cell k0
              have b1_5 := HDD5.out.ext.cell k1
              clear hbL5 hbS5 i5 u5 n5 v5 hDd hE2
              go_wp2
              go_quiet (fail)
              go_wp2_with fail
              generalize hw5 : World.drewN _ _ = wq6
              have HDD6 := Lib.hid (show Drawn w1 wq6 from HDD5.out.trans ⟨_, hw5.symm⟩)
              clear hw5 r5 t5 eL5 eS5 b0_5 b1_5
              have hbL6 := HLN.out E2 F hE2l hFl
              have hbS6 := HSN.out E2 F hE2l hFl
              obtain ⟨d6, s6, m6, r6, i6, n6⟩ := (HV.out.ext HDD6.out.ext).get (i := E2) (by rw [← HN.out]; exact hE2l)
              obtain ⟨f6, g6, j6, t6, u6, v6⟩ := (HY.out.ext HDD6.out.ext).get (i := E2) (by rw [HSL.out]; exact hE2l)
              have eL6 := i6.ent (HLR.out E2 hE2l) (y := F) hFl
              have eS6 := u6.ent (HSR.out E2 hE2l) (y := F) hFl
              rw [HLR.out E2 hE2l] at r6
              rw [HSR.out E2 hE2l] at t6
              rw [hbL6.1] at eL6
              rw [hbS6.1] at eS6
              obtain ⟨E3, hE3⟩ : ∃ q, q = mulN L E2 F := ⟨_, rfl⟩
              obtain ⟨F2, hF2⟩ : ∃ q, q = mulN S E2 F := ⟨_, rfl⟩
              rw [← hE3] at eL6 hbL6
              rw [← hF2] at eS6 hbS6
              have hE3l := hbL6.2
              have hF2l := hbS6.2
              have HE3 := Lib.hid hE3
              have HF2 := Lib.hid hF2
              have b0_6 := HDD6.out.ext.cell k0
              have b1_6 := HDD6.out.ext.cell k1
              clear hbL6 hbS6 i6 u6 n6 v6 hE3 hF2
              go_wp2
              go_quiet (fail)
              generalize hw6 : World.drewN _ _ = wq7
              have HDD7 := Lib.hid (show Drawn w1 wq7 from HDD6.out.trans ⟨_, hw6.symm⟩)
              clear hw6 r6 t6 eL6 eS6 b0_6 b1_6
              have HQ := Lib.hid (show eqT (mulN L) (mulN S) x y z ↔ A2 = Dd ∧ B3 = E3 ∧ C = F2 by
                unfold eqT
                rw [HA2.out, HDd.out, HB3.out, HE3.out, HC.out, HF2.out, HA.out, HB2.out, HB_.out, HE2.out, HE_.out, HF.out])
              have HR := Lib.hid (show (A2 = Dd ∧ B3 = E3 ∧ C = F2) → ∀ c, c < z + 1 → eqT (mulN L) (mulN S) x y c from fun h c hc => by
                by_cases e : c = z
                · subst e; exact HQ.out.2 h
                · exact HNZ.out c (by omega))
              have HBAD := Lib.hid (show ¬ (A2 = Dd ∧ B3 = E3 ∧ C = F2) → J = false from fun h => by
                cases hJ : J with
                | false => rfl
                | true => exact absurd (HQ.out.1 (HB.out.1 hJ x hxl y hyl z hzl)) h)
              clear HQ HA2 HDd HB3 HE3 HC HF2 HA HB2 HB_ HE2 HE_ HF
              by_cases h1 : A2 = Dd
              case neg =>
                have b1 : ((A2 : Int) != (Dd : Int)) = true := by simp; omega
                go_wp2_with fail
                go_ret
                exact ⟨.inr ⟨HBAD.out (fun h => h1 h.1), _, rfl⟩, hx0.trans (HDD7.out.ext.alloc _)⟩
              case pos =>
                have b1 : ((A2 : Int) != (Dd : Int)) = false := by simp; omega
                by_cases h2 : B3 = E3
                case neg =>
                  have b2 : ((B3 : Int) != (E3 : Int)) = true := by simp; omega
                  go_wp2_with fail
                  go_ret
                  exact ⟨.inr ⟨HBAD.out (fun h => h2 h.2.1), _, rfl⟩, hx0.trans (HDD7.out.ext.alloc _)⟩
                case pos =>
                  have b2 : ((B3 : Int) != (E3 : Int)) = false := by simp; omega
                  by_cases h3 : C = F2
                  case neg =>
                    have b3 : ((C : Int) != (F2 : Int)) = true := by simp; omega
                    go_wp2_with fail
                    go_ret
                    exact ⟨.inr ⟨HBAD.out (fun h => h3 h.2.2), _, rfl⟩, hx0.trans (HDD7.out.ext.alloc _)⟩
                  case pos =>
                    have b3 : ((C : Int) != (F2 : Int)) = false := by simp; omega
                    go_wp2_with fail
                    go_roundw
                    case rel => exact ⟨z + 1, by omega, by go_num, HR.out ⟨h1, h2, h3⟩, HDD7.out⟩
                    case measure => simp [intOf]; omega

end Go.Proofs.YtjfjpngajboidaaGreat


namespace Go.Proofs.YtjfjpngajboidaaGreat
set_option linter.unusedVariables false
set_option linter.unusedSimpArgs false
open Go.RowKit
attribute [local go_sem ↓] Go.wp_at_zero Go.wp_at_succ
open Go.Deep

set_option maxRecDepth 100000 in
set_option maxHeartbeats 1000000 in
theorem IsPairMap_any (L S : List (List Int)) (v y : Value) (w : World) (hv : Rows w v L) (hy : Rows w y S) :
    Calls Tryz.prog 82 #[.agg #[v, y]] w fun e w' => e = .returned (.bool (pairB L S)) ∧ Ext w w' := by
  obtain ⟨hl1, b, o, c, rfl, -⟩ := id hv
  obtain ⟨hl2, b2, o2, c2, rfl, -⟩ := id hy
  have hx0 : Ext w (w.alloc (.cells #[.slice (some ⟨b, o, none⟩) L.length c, .slice (some ⟨b2, o2, none⟩) S.length c2] 26)) := (Ext.refl _).alloc _
  have k0 := cell_new2a w (.slice (some ⟨b, o, none⟩) L.length c) (.slice (some ⟨b2, o2, none⟩) S.length c2) 26
  have k1 := cell_new2b w (.slice (some ⟨b, o, none⟩) L.length c) (.slice (some ⟨b2, o2, none⟩) S.length c2) 26
  have HV := Lib.hid (hv.ext hx0)
  have HY := Lib.hid (hy.ext hx0)
  rw [pairB_def]
  clear hv hy
  go_enter Tryz.func82, Tryz.ntmps82
  go_wp2_with fail
  generalize (w.alloc (.cells #[.slice (some ⟨b, o, none⟩) L.length c, .slice (some ⟨b2, o2, none⟩) S.length c2] 26)) = w1 at *
  refine (IsTable_any L _ _ HV.out).mono ?_
  rintro e w2 ⟨rfl, hx⟩
  replace k0 := hx.cell k0
  replace k1 := hx.cell k1
  cases h1 : tableB L with
  | false =>
    go_wp2_with fail
    go_ret
    exact ⟨by rw [h1]; rfl, hx0.trans hx⟩
  | true =>
    go_wp2_with fail
    refine (IsTable_any S _ _ (HY.out.ext hx)).mono ?_
    rintro e w3 ⟨rfl, hz⟩
    replace k0 := hz.cell k0
    replace k1 := hz.cell k1
    cases h2 : tableB S with
    | false =>
      go_wp2_with fail
      go_ret
      exact ⟨by rw [h1, h2]; rfl, (hx0.trans hx).trans hz⟩
    | true =>
      go_wp2_with fail
      go_ret
      have hb : ((L.length : Int) == (S.length : Int)) = decide (L.length = S.length) := by rw [Bool.eq_iff_iff]; simp [Int.natCast_inj]
      exact ⟨by rw [h1, h2]; exact congrArg (fun q => Ending.returned (.bool q)) hb, (hx0.trans hx).trans hz⟩

set_option maxRecDepth 100000 in
set_option maxHeartbeats 1000000 in
theorem IsSolution_any (L S : List (List Int)) (v y : Value) (w : World) (hv : Rows w v L) (hy : Rows w y S) :
    Calls Tryz.prog 46 #[.agg #[v, y]] w fun e w' => e = .returned (.bool (solB L S)) ∧ Ext w w' := by
  obtain ⟨-, b, o, c, rfl, -⟩ := id hv
  obtain ⟨-, b2, o2, c2, rfl, -⟩ := id hy
  have hx0 : Ext w (w.alloc (.cells #[.slice (some ⟨b, o, none⟩) L.length c, .slice (some ⟨b2, o2, none⟩) S.length c2] 26)) := (Ext.refl _).alloc _
  have k0 := cell_new2a w (.slice (some ⟨b, o, none⟩) L.length c) (.slice (some ⟨b2, o2, none⟩) S.length c2) 26
  have k1 := cell_new2b w (.slice (some ⟨b, o, none⟩) L.length c) (.slice (some ⟨b2, o2, none⟩) S.length c2) 26
  have HV := Lib.hid hv
  have HY := Lib.hid hy
  rw [solB_def]
  clear hv hy
  have hq : ∀ w : World, (binOp .eql 27 (.slice none 0 0) (.slice none 0 0)).run Tryz.prog w = .ok (.bool true) w := fun _ => rfl
  have hq2 : ∀ (w : World) (g n : Nat), (binOp .eql 27 (.slice (some ⟨g, 0, none⟩) n n) (.slice none 0 0)).run Tryz.prog w = .ok (.bool false) w := fun _ _ _ => rfl
  go_enter Tryz.func46, Tryz.ntmps46
  go_wp2_with fail
  generalize (w.alloc (.cells #[.slice (some ⟨b, o, none⟩) L.length c, .slice (some ⟨b2, o2, none⟩) S.length c2] 26)) = w1 at *
  refine (IsPairMap_any L S _ _ _ (HV.out.ext hx0) (HY.out.ext hx0)).mono ?_
  rintro e w2 ⟨rfl, hx⟩
  have hx2 := hx0.trans hx
  replace k0 := hx.cell k0
  replace k1 := hx.cell k1
  clear hx hx0
  cases hp : pairB L S with
  | false =>
    go_wp2_with fail
    go_ret
    exact ⟨by rw [hp]; rfl, hx2⟩
  | true =>
    have hP := Lib.hid (pairB_iff.1 hp)
    go_wp2_with fail
    refine (collisionOf_any L S _ _ _ (HV.out.ext hx2) (HY.out.ext hx2) hP.out).mono ?_
    rintro e w3 ⟨h | h, hx⟩
    · obtain ⟨hj, a, rfl, hn⟩ := h
      obtain rfl := hn rfl
      have hx3 := hx2.trans hx
      replace k0 := hx.cell k0
      replace k1 := hx.cell k1
      clear hx hx2
      go_wp2_with fail
      refine (equationFault_any L S _ _ _ (HV.out.ext hx3) (HY.out.ext hx3) hP.out).mono ?_
      rintro e w4 ⟨h | h, hx⟩
      · obtain ⟨he, a, rfl, hn⟩ := h
        obtain rfl := hn rfl
        go_wp2_with fail
        go_ret
        exact ⟨by rw [hp, hj, he]; rfl, hx3.trans hx⟩
      · obtain ⟨he, a, rfl⟩ := h
        go_wp2_with fail
        go_ret
        exact ⟨by rw [hp, hj, he]; rfl, hx3.trans hx⟩
    · obtain ⟨hj, a, rfl⟩ := h
      go_wp2_with fail
      go_ret
      exact ⟨by rw [hp, hj]; rfl, hx2.trans hx⟩

end Go.Proofs.YtjfjpngajboidaaGreat
