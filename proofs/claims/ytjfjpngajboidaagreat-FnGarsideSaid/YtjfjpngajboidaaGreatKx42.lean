/-
  Contract of the program's InverseSolution, at solutions (on IsSolution wholly).
-/
import Derived.Test.YtjfjpngajboidaaGreatKx32
namespace Go.Proofs.YtjfjpngajboidaaGreat
set_option linter.unusedVariables false
set_option linter.unusedSimpArgs false
open Go.RowKit
attribute [local go_sem ↓] Go.wp_at_zero Go.wp_at_succ
open Go.Deep

theorem IsSolution_ok (L S : List (List Int)) (v y : Value) (w : World) (hv : Rows w v L) (hy : Rows w y S) (hO : SolOk L S) :
    Calls Tryz.prog 46 #[.agg #[v, y]] w fun e w' => e = .returned (.bool true) ∧ Ext w w' :=
  (IsSolution_any L S v y w hv hy).mono fun e w' h => by
    obtain ⟨h1, h2⟩ := h
    rw [solB_iff.2 hO] at h1
    exact ⟨h1, h2⟩

def RetInv (L S : List (List Int)) (w : World) (e : Ending) (w' : World) : Prop := ∃ b c b2 c2 T U, e = .returned (.tuple #[.agg #[.slice (some ⟨b, 0, none⟩) L.length c, .slice (some ⟨b2, 0, none⟩) L.length c2], .int .i64 0]) ∧ Rows w' (.slice (some ⟨b, 0, none⟩) L.length c) T ∧ Rows w' (.slice (some ⟨b2, 0, none⟩) L.length c2) U ∧ InvTo L S L.length 0 T U ∧ Ext w w'

structure TwoT (base B lo hi lo2 hi2 bA cA bB cB n : Nat) (W : World) (T U : List (List Int)) : Prop where
  c : BoxC B W (.slice (some ⟨bA, 0, none⟩) n cA) (.slice (some ⟨bB, 0, none⟩) n cB)
  o1 : OwnT lo hi W bA 0 T
  o2 : OwnT lo2 hi2 W bB 0 U
  l1 : base ≤ lo
  l2 : base ≤ lo2
  l3 : base ≤ B
  e1 : B < lo ∨ hi ≤ B
  e2 : B < lo2 ∨ hi2 ≤ B
  d : hi ≤ lo2 ∨ hi2 ≤ lo

theorem BoxC.setOther {B : Nat} {W : World} {v y : Value} (h : BoxC B W v y) {a : Addr} (ha : a.block ≠ B) (u : Value) : BoxC B (W.setCell a u) v y :=
  h.keep (Below.heap_setCell _ _ _ _ (fun e => ha e.symm))

theorem TwoT.drew {base B lo hi lo2 hi2 bA cA bB cB n : Nat} {W : World} {T U : List (List Int)} (h : TwoT base B lo hi lo2 hi2 bA cA bB cB n W T U) : TwoT base B lo hi lo2 hi2 bA cA bB cB n W.drew T U :=
  ⟨h.c.keep rfl, h.o1.keep (fun _ _ _ => rfl), h.o2.keep (fun _ _ _ => rfl), h.l1, h.l2, h.l3, h.e1, h.e2, h.d⟩

theorem TwoT.put1 {base B lo hi lo2 hi2 bA cA bB cB n : Nat} {W : World} {T U : List (List Int)} (h : TwoT base B lo hi lo2 hi2 bA cA bB cB n W T U) {k j b1 o1 n1 c1 : Nat} (hk : k < T.length) (hj : j < (row T k).length) (hc : W.cell? ⟨bA, 0 + k, none⟩ = some (.slice (some ⟨b1, o1, none⟩) n1 c1)) (hb : lo ≤ b1) (hb2 : b1 < hi) (x : Int) : TwoT base B lo hi lo2 hi2 bA cA bB cB n (W.setCell ⟨b1, o1 + j, none⟩ (.int .i64 x)) (setE T k j x) U :=
  ⟨h.c.setOther (by have := h.e1; simp only []; omega) _, h.o1.put hk hj hc x, h.o2.setOther (by have := h.d; simp only []; omega) _, h.l1, h.l2, h.l3, h.e1, h.e2, h.d⟩

theorem TwoT.put2 {base B lo hi lo2 hi2 bA cA bB cB n : Nat} {W : World} {T U : List (List Int)} (h : TwoT base B lo hi lo2 hi2 bA cA bB cB n W T U) {k j b1 o1 n1 c1 : Nat} (hk : k < U.length) (hj : j < (row U k).length) (hc : W.cell? ⟨bB, 0 + k, none⟩ = some (.slice (some ⟨b1, o1, none⟩) n1 c1)) (hb : lo2 ≤ b1) (hb2 : b1 < hi2) (x : Int) : TwoT base B lo hi lo2 hi2 bA cA bB cB n (W.setCell ⟨b1, o1 + j, none⟩ (.int .i64 x)) T (setE U k j x) :=
  ⟨h.c.setOther (by have := h.e2; simp only []; omega) _, h.o1.setOther (by have := h.d; simp only []; omega) _, h.o2.put hk hj hc x, h.l1, h.l2, h.l3, h.e1, h.e2, h.d⟩

theorem boxSet {W : World} {B : Nat} (h : BoxB B W) (u v : Value) : BoxC B ((W.setCell ⟨B, 0, none⟩ u).setCell ⟨B, 1, none⟩ v) u v :=
  ⟨kc_set2 (by simp) (kc_same h.1), kc_same (kc_set2 (by simp) h.2.1), kf_set (kf_set h.2.2.1), kf_set (kf_set h.2.2.2)⟩

theorem boxAfter {w w' : World} {T : TypeId} (h : Ext (w.alloc (.cells #[.slice none 0 0, .slice none 0 0] T)) w') : BoxB w.heap.size w' := (BoxB.new w T).ext h (by simp)

theorem boxAfter3 {w w' : World} {T : TypeId} (h : Ext (w.alloc (.cells #[.slice none 0 0, .slice none 0 0] T)).drew w') : BoxB w.heap.size w' ∧ w.heap.size < w'.heap.size := ⟨((BoxB.new w T).ext ((Ext.refl _).drew) (by simp)).ext h (by simp), Nat.lt_of_succ_le (by have := h.size; simpa using this)⟩

theorem boxKeep {w w' : World} {B : Nat} (n : BoxB B w ∧ B < w.heap.size) (h : Ext w w') : BoxB B w' := n.1.ext h n.2

theorem two_c1 {w1 wA wB : World} {T : TypeId} {bA cA bB cB n : Nat} {L S : List (List Int)} (hxA : Ext (w1.alloc (.cells #[.slice none 0 0, .slice none 0 0] T)).drew wA) (hxB : Ext wA wB) (hrA : OwnT (w1.alloc (.cells #[.slice none 0 0, .slice none 0 0] T)).drew.heap.size wA.heap.size wA bA 0 L) (hrB : OwnT wA.heap.size wB.heap.size wB bB 0 S) :
    ∃ lo hi lo2 hi2, TwoT w1.heap.size w1.heap.size lo hi lo2 hi2 bA cA bB cB n ((wB.setCell ⟨w1.heap.size, 0, none⟩ (.slice (some ⟨bA, 0, none⟩) n cA)).setCell ⟨w1.heap.size, 1, none⟩ (.slice (some ⟨bB, 0, none⟩) n cB)) L S ∧ Ext w1 ((wB.setCell ⟨w1.heap.size, 0, none⟩ (.slice (some ⟨bA, 0, none⟩) n cA)).setCell ⟨w1.heap.size, 1, none⟩ (.slice (some ⟨bB, 0, none⟩) n cB)) := by
  have nA := boxAfter3 hxA
  have zB := hxB.size
  have h1 := (hrA.ext hxB (Nat.le_refl _)).mono (lo' := w1.heap.size + 1) (by simp) (Nat.le_refl _)
  refine ⟨w1.heap.size + 1, wA.heap.size, wA.heap.size, wB.heap.size, ⟨boxSet (boxKeep nA hxB) _ _, (h1.setOther (.inl (by simp only []; omega)) _).setOther (.inl (by simp only []; omega)) _, (hrB.setOther (.inl (by simp only []; omega)) _).setOther (.inl (by simp only []; omega)) _, by omega, by omega, by omega, by omega, by omega, by omega⟩, ?_⟩
  exact kx_set (Nat.le_refl _) (kx_set (Nat.le_refl _) (((((Ext.refl w1).alloc _).drew).trans hxA).trans hxB))

theorem two_c2 {w1 wA wB : World} {T : TypeId} {bA cA bB cB n : Nat} {L S : List (List Int)} (hxA : Ext w1.drew wA) (hxB : Ext (wA.alloc (.cells #[.slice none 0 0, .slice none 0 0] T)) wB) (hrA : OwnT w1.drew.heap.size wA.heap.size wA bA 0 L) (hrB : OwnT (wA.alloc (.cells #[.slice none 0 0, .slice none 0 0] T)).heap.size wB.heap.size wB bB 0 S) :
    ∃ lo hi lo2 hi2, TwoT w1.heap.size wA.heap.size lo hi lo2 hi2 bA cA bB cB n ((wB.setCell ⟨wA.heap.size, 0, none⟩ (.slice (some ⟨bA, 0, none⟩) n cA)).setCell ⟨wA.heap.size, 1, none⟩ (.slice (some ⟨bB, 0, none⟩) n cB)) L S ∧ Ext w1 ((wB.setCell ⟨wA.heap.size, 0, none⟩ (.slice (some ⟨bA, 0, none⟩) n cA)).setCell ⟨wA.heap.size, 1, none⟩ (.slice (some ⟨bB, 0, none⟩) n cB)) := by
  have zA : w1.heap.size ≤ wA.heap.size := hxA.size
  have hx : Ext wA wB := ((Ext.refl wA).alloc _).trans hxB
  have h1 : OwnT w1.heap.size wA.heap.size wB bA 0 L := hrA.ext hx (Nat.le_refl _)
  have h2 := hrB.mono (lo' := wA.heap.size + 1) (by simp) (Nat.le_refl _)
  refine ⟨w1.heap.size, wA.heap.size, wA.heap.size + 1, wB.heap.size, ⟨boxSet (boxAfter hxB) _ _, (h1.setOther (.inr (by simp only []; omega)) _).setOther (.inr (by simp only []; omega)) _, (h2.setOther (.inl (by simp only []; omega)) _).setOther (.inl (by simp only []; omega)) _, by omega, by omega, by omega, by omega, by omega, by omega⟩, ?_⟩
  exact kx_set zA (kx_set zA ((((Ext.refl w1).drew).trans hxA).trans hx))

theorem two_c3 {w1 wA wB : World} {T : TypeId} {bA cA bB cB n : Nat} {L S : List (List Int)} (hxA : Ext w1.drew wA) (hxB : Ext wA wB) (hrA : OwnT w1.drew.heap.size wA.heap.size wA bA 0 L) (hrB : OwnT wA.heap.size wB.heap.size wB bB 0 S) :
    ∃ lo hi lo2 hi2, TwoT w1.heap.size wB.heap.size lo hi lo2 hi2 bA cA bB cB n (wB.alloc (.cells #[.slice (some ⟨bA, 0, none⟩) n cA, .slice (some ⟨bB, 0, none⟩) n cB] T)) L S ∧ Ext w1 (wB.alloc (.cells #[.slice (some ⟨bA, 0, none⟩) n cA, .slice (some ⟨bB, 0, none⟩) n cB] T)) := by
  have zA : w1.heap.size ≤ wA.heap.size := hxA.size
  have zB := hxB.size
  have h1 : OwnT w1.heap.size wA.heap.size wB bA 0 L := hrA.ext hxB (Nat.le_refl _)
  refine ⟨w1.heap.size, wA.heap.size, wA.heap.size, wB.heap.size, ⟨BoxC.new wB _ _ T, h1.ext ((Ext.refl _).alloc _) (by omega), hrB.ext ((Ext.refl _).alloc _) (Nat.le_refl _), by omega, by omega, by omega, by omega, by omega, by omega⟩, ?_⟩
  exact ((((Ext.refl w1).drew).trans hxA).trans hxB).alloc _

theorem inv_small {L S T U : List (List Int)} {x y : Nat} (h : InvTo L S x y T U) (h12 : L.length ≤ 12) : Small T ∧ Small U := by
  refine ⟨⟨by rw [h.len1]; omega, fun i => ?_⟩, ⟨by rw [h.len2]; omega, fun i => ?_⟩⟩
  · by_cases hi : i < L.length
    · rw [h.rows1 i hi]; omega
    · rw [row_eq]; simp [List.getD, List.getElem?_eq_none (show T.length ≤ i by rw [h.len1]; omega)]
  · by_cases hi : i < L.length
    · rw [h.rows2 i hi]; omega
    · rw [row_eq]; simp [List.getD, List.getElem?_eq_none (show U.length ≤ i by rw [h.len2]; omega)]

theorem TwoT.rows1 {base B lo hi lo2 hi2 bA cA bB cB n : Nat} {W : World} {T U L S : List (List Int)} {x y : Nat} (h : TwoT base B lo hi lo2 hi2 bA cA bB cB n W T U) (hI : InvTo L S x y T U) (h12 : L.length ≤ 12) {p : Nat} (hp : p < base) (u v : Value) : Rows ((W.setCell ⟨p, 0, none⟩ u).setCell ⟨p, 1, none⟩ v) (.slice (some ⟨bA, 0, none⟩) L.length cA) T := by
  have h1 := h.l1
  have h2 := h.l2
  have hq : OwnT lo hi ((W.setCell ⟨p, 0, none⟩ u).setCell ⟨p, 1, none⟩ v) bA 0 T := (h.o1.setOther (a := ⟨p, 0, none⟩) (.inl (by show p < _; omega)) u).setOther (a := ⟨p, 1, none⟩) (.inl (by show p < _; omega)) v
  have hs := (inv_small hI h12).1
  have hr := (hq.rowsAt hs).rows hs.1 cA
  rwa [hI.len1] at hr

theorem TwoT.rows2 {base B lo hi lo2 hi2 bA cA bB cB n : Nat} {W : World} {T U L S : List (List Int)} {x y : Nat} (h : TwoT base B lo hi lo2 hi2 bA cA bB cB n W T U) (hI : InvTo L S x y T U) (h12 : L.length ≤ 12) {p : Nat} (hp : p < base) (u v : Value) : Rows ((W.setCell ⟨p, 0, none⟩ u).setCell ⟨p, 1, none⟩ v) (.slice (some ⟨bB, 0, none⟩) L.length cB) U := by
  have h1 := h.l1
  have h2 := h.l2
  have hq : OwnT lo2 hi2 ((W.setCell ⟨p, 0, none⟩ u).setCell ⟨p, 1, none⟩ v) bB 0 U := (h.o2.setOther (a := ⟨p, 0, none⟩) (.inl (by show p < _; omega)) u).setOther (a := ⟨p, 1, none⟩) (.inl (by show p < _; omega)) v
  have hs := (inv_small hI h12).2
  have hr := (hq.rowsAt hs).rows hs.1 cB
  rwa [hI.len2] at hr

set_option maxRecDepth 100000 in
set_option maxHeartbeats 8000000 in
theorem InverseSolution_ok (L S : List (List Int)) (v y : Value) (w : World) (hv : Rows w v L) (hy : Rows w y S) (hO : SolOk L S) :
    Calls Tryz.prog 89 #[.agg #[v, y]] w (RetInv L S w) := by
  obtain ⟨-, b, o, c, rfl, hvc⟩ := id hv
  obtain ⟨-, b2, o2, c2, rfl, hyc⟩ := id hy
  have hlen := hO.len
  have h12 := hO.l.2.1
  rw [hlen] at hy ⊢
  have hX : Ext w ((w.alloc (.cells #[.slice (some ⟨b, o, none⟩) L.length c, .slice (some ⟨b2, o2, none⟩) L.length c2] 26)).alloc (.cells #[.slice none 0 0, .slice none 0 0] 26)) := ((Ext.refl _).alloc _).alloc _
  have k0 : ((w.alloc (.cells #[.slice (some ⟨b, o, none⟩) L.length c, .slice (some ⟨b2, o2, none⟩) L.length c2] 26)).alloc (.cells #[.slice none 0 0, .slice none 0 0] 26)).cell? ⟨w.heap.size, 0, none⟩ = some (.slice (some ⟨b, o, none⟩) L.length c) := by simp [go_sem]
  have k1 : ((w.alloc (.cells #[.slice (some ⟨b, o, none⟩) L.length c, .slice (some ⟨b2, o2, none⟩) L.length c2] 26)).alloc (.cells #[.slice none 0 0, .slice none 0 0] 26)).cell? ⟨w.heap.size, 1, none⟩ = some (.slice (some ⟨b2, o2, none⟩) L.length c2) := by simp [go_sem]
  have r0 : ((w.alloc (.cells #[.slice (some ⟨b, o, none⟩) L.length c, .slice (some ⟨b2, o2, none⟩) L.length c2] 26)).alloc (.cells #[.slice none 0 0, .slice none 0 0] 26)).cell? ⟨w.heap.size + 1, 0, none⟩ = some (.slice none 0 0) := by simp [go_sem]
  have r1 : ((w.alloc (.cells #[.slice (some ⟨b, o, none⟩) L.length c, .slice (some ⟨b2, o2, none⟩) L.length c2] 26)).alloc (.cells #[.slice none 0 0, .slice none 0 0] 26)).cell? ⟨w.heap.size + 1, 1, none⟩ = some (.slice none 0 0) := by simp [go_sem]
  have q0 : ((w.alloc (.cells #[.slice (some ⟨b, o, none⟩) L.length c, .slice (some ⟨b2, o2, none⟩) L.length c2] 26)).alloc (.cells #[.slice none 0 0, .slice none 0 0] 26)).frozen? ⟨w.heap.size + 1, 0, none⟩ = false := by simp [go_sem]
  have q1 : ((w.alloc (.cells #[.slice (some ⟨b, o, none⟩) L.length c, .slice (some ⟨b2, o2, none⟩) L.length c2] 26)).alloc (.cells #[.slice none 0 0, .slice none 0 0] 26)).frozen? ⟨w.heap.size + 1, 1, none⟩ = false := by simp [go_sem]
  have zA : w.heap.size + 2 ≤ ((w.alloc (.cells #[.slice (some ⟨b, o, none⟩) L.length c, .slice (some ⟨b2, o2, none⟩) L.length c2] 26)).alloc (.cells #[.slice none 0 0, .slice none 0 0] 26)).heap.size := by simp
  have HV := Lib.hid hv
  have HY := Lib.hid hy
  have HO := Lib.hid hO
  have HVC := Lib.hid hvc
  have HYC := Lib.hid hyc
  clear hv hy hvc hyc hO
  go_enter Tryz.func89, Tryz.ntmps89
  go_wp2_with fail
  generalize ((w.alloc (.cells #[.slice (some ⟨b, o, none⟩) L.length c, .slice (some ⟨b2, o2, none⟩) L.length c2] 26)).alloc (.cells #[.slice none 0 0, .slice none 0 0] 26)) = A at *
  refine (IsSolution_ok L S _ _ _ (HV.out.ext hX) (HY.out.ext hX) HO.out).mono ?_
  rintro e w1 ⟨rfl, hx⟩
  replace k0 := hx.cell k0
  replace k1 := hx.cell k1
  replace r0 := hx.cell r0
  replace r1 := hx.cell r1
  replace q0 := hx.free q0 (by simp only []; omega)
  replace q1 := hx.free q1 (by simp only []; omega)
  replace zA := Nat.le_trans zA hx.size
  replace hX := hX.trans hx
  clear hx
  have HV := Lib.hid (HV.out.ext hX)
  have HY := Lib.hid (HY.out.ext hX)
  have HXX := Lib.hid hX
  have HVC := Lib.hid (HVC.out.ext hX)
  have HYC := Lib.hid (HYC.out.ext hX)
  have hE : Ext w1 w1 := Ext.refl w1
  have zd : w1.drew.heap.size = w1.heap.size := rfl
  go_upto_region 3 with fail
  go_cut [4] (fun v wx => ∃ B lo hi lo2 hi2 bA cA bB cB, v = .pointer (some ⟨B, 0, none⟩) ∧ TwoT w1.heap.size B lo hi lo2 hi2 bA cA bB cB L.length wx L S ∧ Ext w1 wx)
  case first =>
    have z0 := kc_alloc (o := .cells #[.slice none 0 0, .slice none 0 0] 26) (show w1.drew.cell? _ = some _ from k0)
    have z1 := kc_alloc (o := .cells #[.slice none 0 0, .slice none 0 0] 26) (show w1.drew.cell? _ = some _ from k1)
    have y0 := kc_alloc (o := .cells #[.slice none 0 0, .slice none 0 0] 26) k0
    have y1 := kc_alloc (o := .cells #[.slice none 0 0, .slice none 0 0] 26) k1
    go_region_with (first
      | (go_at_call 125; refine Calls.mono (cloneTable_any L _ _ ?_) ?_; (with_reducible refine Rows.ext HV.out ?_); ((repeat first | (with_reducible exact Ext.refl _) | (with_reducible assumption) | (with_reducible apply Ext.drew) | (with_reducible apply kx_drewN) | (with_reducible apply kx_alloc) | ((with_reducible refine kx_set ?_ ?_); (first | (simp only []; omega) | (simp; omega) | (focus (simp; done)))) | (with_reducible refine Ext.trans ?_ hxB) )); rintro e wA ⟨bA, cA, rfl, hrA, hxA⟩; replace k0 := hxA.cell (p := ⟨w.heap.size, 0, none⟩) (v := .slice (some ⟨b, o, none⟩) L.length c) (by (repeat first | (with_reducible assumption) |  (with_reducible exact kc_new) | ((with_reducible refine kc_newE ?_); (simp; done)) | ((with_reducible refine kc_newEa ?_); (simp; done)) | ((with_reducible refine kc_newEb ?_); (simp; done)) | (with_reducible apply kc_alloc) | (with_reducible apply kc_drewN) | (with_reducible apply kc_drew) | ((with_reducible refine kc_set ?_ ?_); (first | (simp only []; omega) | (simp; omega) | (focus (simp; done)))) | ((with_reducible refine kc_set2 ?_ ?_); (focus (simp; done))) | (with_reducible refine kc_same (v := .slice none 0 0) ?_))); replace k1 := hxA.cell (p := ⟨w.heap.size, 1, none⟩) (v := .slice (some ⟨b2, o2, none⟩) L.length c2) (by (repeat first | (with_reducible assumption) |  (with_reducible exact kc_new) | ((with_reducible refine kc_newE ?_); (simp; done)) | ((with_reducible refine kc_newEa ?_); (simp; done)) | ((with_reducible refine kc_newEb ?_); (simp; done)) | (with_reducible apply kc_alloc) | (with_reducible apply kc_drewN) | (with_reducible apply kc_drew) | ((with_reducible refine kc_set ?_ ?_); (first | (simp only []; omega) | (simp; omega) | (focus (simp; done)))) | ((with_reducible refine kc_set2 ?_ ?_); (focus (simp; done))) | (with_reducible refine kc_same (v := .slice none 0 0) ?_))); have a0 := kc_alloc (o := .cells #[.slice none 0 0, .slice none 0 0] 26) k0; have a1 := kc_alloc (o := .cells #[.slice none 0 0, .slice none 0 0] 26) k1; try (have nA := boxAfter3 hxA))
      | (go_at_call 125; refine Calls.mono (cloneTable_any S _ _ ?_) ?_; (with_reducible refine Rows.ext HY.out ?_); ((repeat first | (with_reducible exact Ext.refl _) | (with_reducible assumption) | (with_reducible apply Ext.drew) | (with_reducible apply kx_drewN) | (with_reducible apply kx_alloc) | ((with_reducible refine kx_set ?_ ?_); (first | (simp only []; omega) | (simp; omega) | (focus (simp; done)))) | (with_reducible refine Ext.trans ?_ hxA) )); rintro e wB ⟨bB, cB, rfl, hrB, hxB⟩; replace k0 := hxB.cell (p := ⟨w.heap.size, 0, none⟩) (v := .slice (some ⟨b, o, none⟩) L.length c) (by (repeat first | (with_reducible assumption) |  (with_reducible exact kc_new) | ((with_reducible refine kc_newE ?_); (simp; done)) | ((with_reducible refine kc_newEa ?_); (simp; done)) | ((with_reducible refine kc_newEb ?_); (simp; done)) | (with_reducible apply kc_alloc) | (with_reducible apply kc_drewN) | (with_reducible apply kc_drew) | ((with_reducible refine kc_set ?_ ?_); (first | (simp only []; omega) | (simp; omega) | (focus (simp; done)))) | ((with_reducible refine kc_set2 ?_ ?_); (focus (simp; done))) | (with_reducible refine kc_same (v := .slice none 0 0) ?_))); replace k1 := hxB.cell (p := ⟨w.heap.size, 1, none⟩) (v := .slice (some ⟨b2, o2, none⟩) L.length c2) (by (repeat first | (with_reducible assumption) |  (with_reducible exact kc_new) | ((with_reducible refine kc_newE ?_); (simp; done)) | ((with_reducible refine kc_newEa ?_); (simp; done)) | ((with_reducible refine kc_newEb ?_); (simp; done)) | (with_reducible apply kc_alloc) | (with_reducible apply kc_drewN) | (with_reducible apply kc_drew) | ((with_reducible refine kc_set ?_ ?_); (first | (simp only []; omega) | (simp; omega) | (focus (simp; done)))) | ((with_reducible refine kc_set2 ?_ ?_); (focus (simp; done))) | (with_reducible refine kc_same (v := .slice none 0 0) ?_))); try (first | (have nb := boxAfter hxB; obtain ⟨n0, n1, m0, m1⟩ := nb) | (have nb := boxKeep nA hxB; obtain ⟨n0, n1, m0, m1⟩ := nb))))
    all_goals
      have HLS := Lib.hid hlen
      go_wp2_with fail
      first
        | (obtain ⟨lo, hi, lo2, hi2, ht, hx⟩ := two_c1 (cA := cA) (cB := cB) (n := L.length) hxA hxB hrA hrB
           go_meet
           case rel => exact ⟨_, lo, hi, lo2, hi2, _, _, _, _, rfl, ht, hx⟩)
        | (obtain ⟨lo, hi, lo2, hi2, ht, hx⟩ := two_c2 (cA := cA) (cB := cB) (n := L.length) hxA hxB hrA hrB
           go_meet
           case rel => exact ⟨_, lo, hi, lo2, hi2, _, _, _, _, rfl, ht, hx⟩)
        | (obtain ⟨lo, hi, lo2, hi2, ht, hx⟩ := two_c3 (cA := cA) (cB := cB) (n := L.length) (T := 26) hxA hxB hrA hrB
           go_meet
           case rel => exact ⟨_, lo, hi, lo2, hi2, _, _, _, _, rfl, ht, hx⟩)
  case rest =>
    clear zd
    obtain ⟨B, lo, hi, lo2, hi2, bA, cA, bB, cB, rfl, ht, hx⟩ := hcut
    have k0x := hx.cell k0
    have k1x := hx.cell k1
    go_wp2_with fail
    go_loopw [24] (fun x wr => ∃ (k : Nat) (T U : List (List Int)), k ≤ L.length ∧ x = .int .i64 k ∧ InvTo L S k 0 T U ∧ TwoT w1.heap.size B lo hi lo2 hi2 bA cA bB cB L.length wr T U ∧ Ext w1 wr) (fun x _ => L.length - (intOf x).toNat)
    case atStart => exact ⟨0, L, S, Nat.zero_le _, rfl, InvTo.start HO.out, ht, hx⟩
    case round =>
      clear ht hx k0x k1x
      obtain ⟨k, T, U, hk, rfl, hI, ht, hx⟩ := hrel
      by_cases hkl : k < L.length
      case neg =>
        have hki : ¬ (k : Int) < (L.length : Int) := by omega
        have hkk : k = L.length := by omega
        subst hkk
        have r0 := hx.cell r0
        have r1 := hx.cell r1
        have q0 := hx.free q0 (by simp only []; omega)
        have q1 := hx.free q1 (by simp only []; omega)
        have c0 := ht.c.1
        have c1 := ht.c.2.1
        have HI := Lib.hid hI
        have HT := Lib.hid ht
        have HX := Lib.hid (HXX.out.trans hx)
        clear hI ht hx
        go_wp2
        exact bodyPost_ret (v := .tuple #[.agg #[.slice (some ⟨bA, 0, none⟩) L.length cA, .slice (some ⟨bB, 0, none⟩) L.length cB], .int .i64 0]) (by simp [results, Tryz.results89, go_sem, r0, r1]) rfl ⟨bA, cA, bB, cB, T, U, rfl, HT.out.rows1 HI.out h12 (by omega) _ _, HT.out.rows2 HI.out h12 (by omega) _ _, HI.out, (HX.out.setNew (by simp only []; omega) _).setNew (by simp only []; omega) _⟩
      case pos =>
        obtain ⟨d1, s1, m1, e1, l1⟩ := HVC.out.read HO.out.l rfl hkl
        obtain ⟨d2, s2, m2, e2, l2⟩ := HYC.out.read HO.out.s hlen hkl
        have HL1 := Lib.hid l1
        have HL2 := Lib.hid l2
        have HE2 := Lib.hid e2
        have k0x := hx.cell k0
        have k1x := hx.cell k1
        have e1x := hx.cell e1
        clear l1 l2 e1 e2
        obtain ⟨w2, hw2⟩ : ∃ z : World, z = wr := ⟨_, rfl⟩
        go_wp2_with fail
        go_loopw [31] (fun x wr => ∃ (j : Nat) (T U : List (List Int)), j ≤ L.length ∧ x = .int .i64 j ∧ InvTo L S k j T U ∧ TwoT w1.heap.size B lo hi lo2 hi2 bA cA bB cB L.length wr T U ∧ Ext w1 wr) (fun x _ => L.length - (intOf x).toNat)
        case atStart => exact ⟨0, T, U, Nat.zero_le _, rfl, hI, ht, hx⟩
        case round =>
          clear ht hx hI k0x k1x e1x hw2
          obtain ⟨j, T, U, hj, rfl, hI, ht, hx⟩ := hrel
          by_cases hjl : j < L.length
          case neg =>
            have hji : ¬ (j : Int) < (L.length : Int) := by omega
            have hjj : j = L.length := by omega
            subst hjj
            have HI := Lib.hid hI
            have HT := Lib.hid ht
            have HX := Lib.hid hx
            clear hI ht hx
            go_wp2
            go_roundw
            case rel => exact ⟨k + 1, T, U, by omega, by go_num, HI.out.next, HT.out, HX.out⟩
            case measure => simp [intOf]; omega
          case pos =>
            have hji : (j : Int) < (L.length : Int) := by omega
            obtain ⟨n1, b1⟩ := HO.out.ln hkl hjl
            obtain ⟨n2, b2⟩ := HO.out.sn hkl hjl
            have HS := Lib.hid (hI.step HO.out hkl hjl)
            have f1 := hx.cell (HL1.out j hjl).1
            have f2 := hx.cell (HL2.out j hjl).1
            rw [n1] at f1
            rw [n2] at f2
            clear n1 n2
            obtain ⟨x1, hx1⟩ : ∃ x1, x1 = mulN L k j := ⟨_, rfl⟩
            obtain ⟨y1, hy1⟩ : ∃ y1, y1 = mulN S k j := ⟨_, rfl⟩
            rw [← hx1, ← hy1] at HS
            rw [← hx1] at f1 b1
            rw [← hy1] at f2 b2
            clear hx1 hy1
            have k1x := hx.cell k1
            have e2x := hx.cell HE2.out
            have c0 := ht.c.1
            have c1 := ht.c.2.1
            have hr1 := hI.rows1 x1 b1
            have hr2 := hI.rows2 x1 b1
            obtain ⟨b3, o3, c3, g3, ho3⟩ := ht.o1.get (k := x1) (by rw [hI.len1]; exact b1)
            obtain ⟨b4, o4, c4, g4, ho4⟩ := ht.o2.get (k := x1) (by rw [hI.len2]; exact b1)
            have v3 := ho3.2.2.1 y1 (by rw [hr1]; exact b2)
            have v4 := ho4.2.2.1 y1 (by rw [hr2]; exact b2)
            have q3 := ho3.2.2.2 y1 (by rw [hr1]; exact b2)
            have q4 := ho4.2.2.2 y1 (by rw [hr2]; exact b2)
            have p3 : lo ≤ b3 := ho3.1
            have p3b : b3 < hi := ho3.2.1
            have p4 : lo2 ≤ b4 := ho4.1
            have p4b : b4 < hi2 := ho4.2.1
            have x3 := ht.l1
            have x4 := ht.l2
            have x5 := ht.e1
            have x6 := ht.e2
            have x7 := ht.d
            rw [hr1] at g3
            rw [hr2] at g4
            have HG3 := Lib.hid g3
            have HG4 := Lib.hid g4
            rw [Nat.zero_add] at g3 g4
            have hT1 : x1 < T.length := by rw [hI.len1]; exact b1
            have hU1 : x1 < U.length := by rw [hI.len2]; exact b1
            have hT2 : y1 < (row T x1).length := by rw [hr1]; exact b2
            have hU2 : y1 < (row U x1).length := by rw [hr2]; exact b2
            have h34 : b3 ≠ b4 := by omega
            have h3B : b3 ≠ B := by omega
            have h4B : b4 ≠ B := by omega
            have h3b : bB ≠ b3 := by have := ht.o2.1; have := ht.o2.2.1; omega
            have h4b : bA ≠ b4 := by have := ht.o1.1; have := ht.o1.2.1; omega
            -- behind the first store
            have c1' := kc_set (p := ⟨b3, o3 + y1, none⟩) (u := .int .i64 (k : Nat)) (by simp only []; omega) c1
            have g4' := kc_set (p := ⟨b3, o3 + y1, none⟩) (u := .int .i64 (k : Nat)) (by simp only []; omega) g4
            have v4' := kc_set (p := ⟨b3, o3 + y1, none⟩) (u := .int .i64 (k : Nat)) (by simp only []; omega) v4
            have q4' := kf_set (p := ⟨b3, o3 + y1, none⟩) (u := .int .i64 (k : Nat)) q4
            have HS1 := Lib.hid HS.out
            have HT := Lib.hid ht
            have HX := Lib.hid hx
            clear HS hI ht hx ho3 ho4
            go_wp2_with fail
            go_region
            all_goals
              go_wp2_with fail
              go_roundw
              case rel => exact ⟨j + 1, setE T x1 y1 (k : Int), setE U x1 y1 (j : Int), by omega, by go_num, HS1.out, ((HT.out.put1 hT1 hT2 HG3.out p3 p3b (k : Int)).put2 hU1 hU2 (kc_set (by simp only []; omega) HG4.out) p4 p4b (j : Int)).drew, ((HX.out.setNew (by simp only []; omega) _).setNew (by simp only []; omega) _).drew⟩
              case measure => simp [intOf]; omega
end Go.Proofs.YtjfjpngajboidaaGreat
