/-
  Draws of the reference: l01Rename.
-/
import Derived.Test.YtjfjpngajboidaaGreatKx17
namespace Go.Proofs.YtjfjpngajboidaaGreat
set_option linter.unusedVariables false
set_option linter.unusedSimpArgs false
open Go.RowKit
open Go.Deep
attribute [local go_sem ↓] Go.wp_at_zero Go.wp_at_succ

def RenS (n : Nat) (t : List (List Int)) (p : List Int) (w : World) (e : Ending) (w' : World) : Prop := ∃ b c T, e = .returned (.slice (some ⟨b, 0, none⟩) n c) ∧ TabF w.heap.size w' (.slice (some ⟨b, 0, none⟩) n c) T ∧ T.length = n ∧ (∀ i, i < n → (row T i).length = n) ∧ RenTo n t p n 0 T ∧ Ext w w'

set_option maxRecDepth 100000 in
set_option maxHeartbeats 4000000 in
theorem l01Rename_any (n : Nat) (t : List (List Int)) (p : List Int) (v u : Value) (w : World) (hv : Rows w v t) (hu : Ints w u p) (h1 : 1 ≤ n) (h12 : n ≤ 12) (hl : t.length = n) (hr : ∀ i, i < n → (row t i).length = n) (he : ∀ x, x < n → ∀ y, y < n → 0 ≤ ent t x y ∧ ent t x y < n) (hpl : p.length = n) (hp : IsoOk n [] [] p) :
    Calls Tryz.prog 80 #[v, u] w (RenS n t p w) := by
  have hmk := run_make_row' (P := Tryz.prog) 27 2 (.int .i64 0) 8 Tryz.underlying27 infoInt rfl .i64 .i64 n (by omega) (by omega)
  obtain ⟨-, b, o, c, rfl, hvc⟩ := id hv
  obtain ⟨-, b2, o2, c2, rfl, huc⟩ := id hu
  have HF := Lib.hid (show ∀ W, Ext w W → ∀ x, x < n → ∃ d1 s1 m1, W.cell? ⟨b, o + x, none⟩ = some (.slice (some ⟨d1, s1, none⟩) n m1) ∧ ∀ y, y < n → W.cell? ⟨d1, s1 + y, none⟩ = some (.int .i64 (ent t x y)) from fun W hW x hx => by
    obtain ⟨d1, s1, m1, r1, i1, -⟩ := (hvc.ext hW).get (i := x) (by omega)
    rw [hr x hx] at r1
    exact ⟨d1, s1, m1, r1, fun y hy => i1.ent (hr x hx) hy⟩)
  have HG := Lib.hid (show ∀ W, Ext w W → ∀ x, x < n → W.cell? ⟨b2, o2 + x, none⟩ = some (.int .i64 (ix p x)) from fun W hW x hx => (huc.ext hW) x (by omega))
  have HP := Lib.hid hp
  have HE := Lib.hid he
  clear hv hu hvc huc hr he hp
  rw [hl, hpl]
  clear hl hpl
  go_enter Tryz.func80, Tryz.ntmps80
  go_wp2_with fail
  have hx0 : Ext w (w.alloc (.cells #[] 27)) := (Ext.refl _).alloc _
  have hg0 : TwoG 27 2 w.heap.size n 0 0 (w.alloc (.cells #[] 27)) (.slice (some ⟨w.heap.size, 0, none⟩) 0 0) (.slice none 0 0) (fun _ => 0) (fun _ => 0) :=
    ⟨World.ownsRow_made w #[] 0 (Nat.le_refl _) (Nat.zero_le _) rfl, World.ownsRow_nil _ _ _ _, fun i hi => by omega, fun i hi => by omega, fun i _ hi => by omega, fun i _ hi => by omega, fun i _ hi => by omega, fun g _ h => by cases h⟩
  have HX0 := Lib.hid hx0
  have HG0 := Lib.hid hg0
  have hz0 : w.heap.size ≤ (w.alloc (.cells #[] 27)).heap.size := hx0.size
  clear hx0 hg0
  generalize (w.alloc (.cells #[] 27)) = w0 at *
  go_loopw [5, 6] (fun vt i wr => ∃ (k a1 c1 : Nat) (B D : Nat → Nat), k ≤ n ∧ i = .int .i64 k ∧ vt = .slice (some ⟨a1, 0, none⟩) k c1 ∧ TwoG 27 2 w.heap.size n k 0 wr vt (.slice none 0 0) B D ∧ Ext w wr) (fun _ i _ => n - (intOf i).toNat)
  case atStart => exact ⟨0, _, _, _, _, Nat.zero_le _, rfl, rfl, HG0.out, HX0.out⟩
  case round =>
    clear HG0 HX0 hz0
    obtain ⟨k, a1, c1, B, D, hk, rfl, rfl, hg, hx⟩ := hrel
    have HG1 := Lib.hid hg
    have HX := Lib.hid hx
    have hz := hx.size
    clear hg hx
    by_cases hlt : k < n
    case pos =>
      have hki : (k : Int) < (n : Int) := by omega
      have HOWN := Lib.hid (ownsRow_ext HG1.out.o1 (((Ext.refl wr).alloc (zrow n 2)).alloc (.cells #[.slice (some ⟨wr.heap.size, 0, none⟩) n n] 27)))
      have HXB := Lib.hid (show Ext wr ((wr.alloc (zrow n 2)).alloc (.cells #[.slice (some ⟨wr.heap.size, 0, none⟩) n n] 27)) from ((Ext.refl wr).alloc _).alloc _)
      have zb := Nat.le_trans hz HXB.out.size
      have HCN := Lib.hid (show ((wr.alloc (zrow n 2)).alloc (.cells #[.slice (some ⟨wr.heap.size, 0, none⟩) n n] 27)).cell? ⟨wr.heap.size + 1, 0, none⟩ = some (.slice (some ⟨wr.heap.size, 0, none⟩) n n) by simp [go_sem])
      go_wp2_with (at_builtin; refine wpList_append_one rfl _ _ 24 27 rfl Tryz.underlying24 infoSl w.heap.size _ _ (slsN n k B) rfl HOWN.out _ _ (show Value.oneCell' (.slice _ _ _) = true from rfl) rfl HCN.out (by omega) zb ?_)
      intro v' w8 hown8 hgr8 hv8 hbl8
      obtain ⟨g', c', rfl⟩ : ∃ g' c', v' = .slice (some ⟨g', 0, none⟩) (k + 1) c' := by
        rcases hown8.2 with ⟨h0, _⟩ | ⟨g, cap, cur, rfl, _⟩
        · exact absurd h0 hv8
        · exact ⟨_, _, rfl⟩
      have hTG := HG1.out.add hz HXB.out (heap_two _ _ _) (Nat.le_refl _) hown8 hgr8 (by
        rcases hbl8 with e | e
        · exact .inl e.symm
        · exact .inr (by have e := Option.some.inj e; simpa using e))
      have hX8 : Ext w w8 := Ext.grown (HX.out.trans HXB.out) hgr8 HOWN.out (Nat.le_refl _)
      clear hown8 hgr8 hbl8 HOWN HXB
      go_wp2
      go_roundw
      case rel => exact ⟨k + 1, _, _, _, _, by omega, by go_num, rfl, hTG, hX8⟩
      case measure => simp [intOf]; omega
    case neg =>
      have hkk : k = n := by omega
      subst hkk
      have hki : ¬ (k : Int) < (k : Int) := by omega
      have HT := Lib.hid HG1.out.one
      clear HG1 hz hlt
      go_wp2_with fail
      go_loopw [7] (fun i wr => ∃ (x : Nat) (T : List (List Int)), x ≤ k ∧ i = .int .i64 x ∧ OneM w.heap.size k wr a1 B T ∧ RenTo k t p x 0 T ∧ Ext w wr) (fun i _ => k - (intOf i).toNat)
      case atStart => exact ⟨0, _, Nat.zero_le _, rfl, HT.out, RenTo.zero _ _ _ _, HX.out⟩
      case round =>
        clear HT HX
        obtain ⟨x, T, hx, rfl, ht, hren, hX⟩ := hrel
        have HT := Lib.hid ht
        have HR := Lib.hid hren
        have HX := Lib.hid hX
        clear ht hren hX
        by_cases hxl : x < k
        case neg =>
          have hxx : x = k := by omega
          subst hxx
          have hxi : ¬ (x : Int) < (x : Int) := by omega
          go_wp2
          go_ret
          exact ⟨_, _, T, rfl, HT.out.tab (by omega) _, HT.out.l, fun i hi => (HT.out.t i hi).2.2.1, HR.out, HX.out⟩
        case pos =>
          have hxi : (x : Int) < (k : Int) := by omega
          obtain ⟨X, eX⟩ : ∃ X : Nat, ix p x = (X : Int) := ⟨(ix p x).toNat, by have := (HP.out.bd hxl).1; omega⟩
          have hXk : X < k := by have := (HP.out.bd hxl).2; omega
          have EX := Lib.hid eX
          have g0 := HG.out _ HX.out x hxl
          have c0 := HT.out.a X hXk
          rw [eX] at g0
          clear eX
          go_wp2_with fail
          clear g0 c0
          go_loopw [9] (fun i wr => ∃ (y : Nat) (T : List (List Int)), y ≤ k ∧ i = .int .i64 y ∧ OneM w.heap.size k wr a1 B T ∧ RenTo k t p x y T ∧ Ext w wr) (fun i _ => k - (intOf i).toNat)
          case atStart => exact ⟨0, _, Nat.zero_le _, rfl, HT.out, HR.out, HX.out⟩
          case round =>
            clear HT HR HX
            obtain ⟨y, T, hy, rfl, ht, hren, hX⟩ := hrel
            have HT := Lib.hid ht
            have HR := Lib.hid hren
            have HX := Lib.hid hX
            clear ht hren hX
            by_cases hyl : y < k
            case neg =>
              have hyy : y = k := by omega
              subst hyy
              have hyi : ¬ (y : Int) < (y : Int) := by omega
              go_wp2
              go_roundw
              case rel => exact ⟨x + 1, T, by omega, by go_num, HT.out, HR.out.next, HX.out⟩
              case measure => simp [intOf]; omega
            case pos =>
              have hyi : (y : Int) < (k : Int) := by omega
              obtain ⟨Y, eY⟩ : ∃ Y : Nat, ix p y = (Y : Int) := ⟨(ix p y).toNat, by have := (HP.out.bd hyl).1; omega⟩
              have hYk : Y < k := by have := (HP.out.bd hyl).2; omega
              have hz := HE.out x hxl y hyl
              obtain ⟨Z, eZ⟩ : ∃ Z : Nat, ent t x y = (Z : Int) := ⟨(ent t x y).toNat, by omega⟩
              have hZk : Z < k := by omega
              obtain ⟨r, er⟩ : ∃ r, r = ix p Z := ⟨_, rfl⟩
              have HST := Lib.hid (HR.out.step HP.out HT.out.l (fun i hi => (HT.out.t i hi).2.2.1) hxl hyl EX.out eY (z := r) (by rw [er, eZ]; simp))
              obtain ⟨d1, s1, m1, r1, f1⟩ := HF.out _ HX.out x hxl
              have f2 := f1 y hyl
              rw [eZ] at f2
              have g1 := HG.out _ HX.out y hyl
              rw [eY] at g1
              have g2 := HG.out _ HX.out Z hZk
              rw [← er] at g2
              have c0 := HT.out.t X hXk
              have q0 := c0.1 Y (by rw [c0.2.2.1]; exact hYk)
              have q1 := c0.2.1 Y hYk
              have q2 := c0.2.2.2.1
              rw [Nat.zero_add] at q0 q1
              have HTP := Lib.hid ((HT.out.put hXk hYk r).ext (Ext.refl _).drew)
              have HXP := Lib.hid ((HX.out.setNew (p := ⟨B X, Y, none⟩) q2 (.int .i64 r)).drew)
              clear c0 f1 eZ eY er hz
              go_wp2_with fail
              go_region
              go_wp2
              go_roundw
              case rel => exact ⟨y + 1, _, by omega, by go_num, HTP.out, HST.out, HXP.out⟩
              case measure => simp [intOf]; omega
end Go.Proofs.YtjfjpngajboidaaGreat


namespace Go.Proofs.YtjfjpngajboidaaGreat
set_option linter.unusedVariables false
set_option linter.unusedSimpArgs false
open Go.RowKit
open Go.Deep

theorem at_args2 {P : Program} {F : FuncId} {a b : Value} {w : World} {Q : Ending → World → Prop} (h : Calls P F #[a, b] w Q) : Calls P F #[a, b] w Q := h
theorem newS_end {n base B : Nat} {R : List (List Int) → List (List Int) → Prop} {w W : World} {v y : Value} {T U : List (List Int)} (hT : TabF base W v T) (hU : TabF base W y U) (hB : B < base) (hw : w.heap.size ≤ B) (hok : PairOk T U) (hl : T.length = n) (hr : R T U) (hx : Ext w W) (v0 y0 : Value) :
    NewS n R w (.returned (.agg #[v, y])) ((W.setCell ⟨B, 0, none⟩ v0).setCell ⟨B, 1, none⟩ y0) :=
  ⟨v, y, T, U, rfl, ((hT.setOut (p := ⟨B, 0, none⟩) hB v0).setOut (p := ⟨B, 1, none⟩) hB y0).low (by omega), ((hU.setOut (p := ⟨B, 0, none⟩) hB v0).setOut (p := ⟨B, 1, none⟩) hB y0).low (by omega), hok, hl, hr, (hx.setNew (p := ⟨B, 0, none⟩) hw v0).setNew (p := ⟨B, 1, none⟩) hw y0⟩

set_option maxRecDepth 100000 in
set_option maxHeartbeats 4000000 in
theorem l02Rename_any (L S : List (List Int)) (p : List Int) (v y u : Value) (w : World) (hv : Rows w v L) (hy : Rows w y S) (hu : Ints w u p) (hP : PairOk L S) (hpl : p.length = L.length) (hp : IsoOk L.length [] [] p) :
    Calls Tryz.prog 131 #[.agg #[v, y], u] w (NewS L.length (fun T U => RenTo L.length L p L.length 0 T ∧ RenTo L.length S p L.length 0 U) w) := by
  obtain ⟨-, b, o, c, rfl, -⟩ := id hv
  obtain ⟨-, b2, o2, c2, rfl, -⟩ := id hy
  obtain ⟨-, b3, o3, c3, rfl, -⟩ := id hu
  have hx0 : Ext w ((w.alloc (.cells #[.slice (some ⟨b, o, none⟩) L.length c, .slice (some ⟨b2, o2, none⟩) S.length c2] 26)).alloc (.cells #[.slice none 0 0, .slice none 0 0] 26)) := ((Ext.refl _).alloc _).alloc _
  have HB := Lib.hid ((BoxV.new w (.slice (some ⟨b, o, none⟩) L.length c) (.slice (some ⟨b2, o2, none⟩) S.length c2) 26).ext ((Ext.refl _).alloc (.cells #[.slice none 0 0, .slice none 0 0] 26)))
  have HR : BoxV (w.heap.size + 1) ((w.alloc (.cells #[.slice (some ⟨b, o, none⟩) L.length c, .slice (some ⟨b2, o2, none⟩) S.length c2] 26)).alloc (.cells #[.slice none 0 0, .slice none 0 0] 26)) (.slice none 0 0) (.slice none 0 0) := by
    have h := BoxV.new (w.alloc (.cells #[.slice (some ⟨b, o, none⟩) L.length c, .slice (some ⟨b2, o2, none⟩) S.length c2] 26)) (.slice none 0 0) (.slice none 0 0) 26
    simpa using h
  have HR := Lib.hid HR
  have hz0 : ((w.alloc (.cells #[.slice (some ⟨b, o, none⟩) L.length c, .slice (some ⟨b2, o2, none⟩) S.length c2] 26)).alloc (.cells #[.slice none 0 0, .slice none 0 0] 26)).heap.size = w.heap.size + 2 := by simp
  have HV := Lib.hid (hv.ext hx0)
  have HY := Lib.hid (hy.ext hx0)
  have HU := Lib.hid (hu.ext hx0)
  have HX0 := Lib.hid hx0
  have h1 := hP.l.1
  have h12 := hP.l.2.1
  have eL := Lib.hid (show ∀ x, x < L.length → ∀ y, y < L.length → 0 ≤ ent L x y ∧ ent L x y < L.length from fun x hx y hy => by have := hP.ln hx hy; omega)
  have eS := Lib.hid (show ∀ x, x < L.length → ∀ y, y < L.length → 0 ≤ ent S x y ∧ ent S x y < L.length from fun x hx y hy => by have := hP.sn hx hy; omega)
  have rL := Lib.hid (show ∀ i, i < L.length → (row L i).length = L.length from fun i hi => hP.rowL hi)
  have rS := Lib.hid (show ∀ i, i < L.length → (row S i).length = L.length from fun i hi => hP.rowS hi)
  have HSL := Lib.hid hP.len
  have HPI := Lib.hid hp
  have HPL := Lib.hid hpl
  clear hv hy hu hx0 hP hp hpl
  go_enter Tryz.func131, Tryz.ntmps131
  go_wp2_with fail
  generalize ((w.alloc (.cells #[.slice (some ⟨b, o, none⟩) L.length c, .slice (some ⟨b2, o2, none⟩) S.length c2] 26)).alloc (.cells #[.slice none 0 0, .slice none 0 0] 26)) = w0 at *
  obtain ⟨-, k0, k1, -, -⟩ := HB.out
  obtain ⟨-, q0, q1, q2, q3⟩ := HR.out
  go_region_with (first
    | (go_at_call 80; (with_reducible refine at_args2 (a := .slice (some ⟨b, o, none⟩) L.length c) ?_); refine (l01Rename_any L.length L p _ _ _ (HV.out.ext (by (repeat first | (with_reducible exact Ext.refl _) | (with_reducible assumption) | (with_reducible apply Ext.drew) | (with_reducible apply kx_drewN) | (with_reducible apply kx_alloc) | ((with_reducible refine kx_set ?_ ?_); (first | (simp only []; omega) | (simp; omega) | (focus (simp; done)))) | (with_reducible refine Ext.trans ?_ xB) ))) (HU.out.ext (by (repeat first | (with_reducible exact Ext.refl _) | (with_reducible assumption) | (with_reducible apply Ext.drew) | (with_reducible apply kx_drewN) | (with_reducible apply kx_alloc) | ((with_reducible refine kx_set ?_ ?_); (first | (simp only []; omega) | (simp; omega) | (focus (simp; done)))) | (with_reducible refine Ext.trans ?_ xB) ))) h1 h12 rfl rL.out eL.out HPL.out HPI.out).mono ?_; rintro e wA ⟨bA, cA, A, rfl, tA, lA, rA, nA, xA⟩; replace k0 := xA.cell (show World.cell? _ _ = _ from k0); replace k1 := xA.cell (show World.cell? _ _ = _ from k1); replace HR := Lib.hid (BoxV.ext (W' := wA) HR.out (by (repeat first | (with_reducible exact Ext.refl _) | (with_reducible assumption) | (with_reducible apply Ext.drew) | (with_reducible apply kx_drewN) | (with_reducible apply kx_alloc) | ((with_reducible refine kx_set ?_ ?_); (first | (simp only []; omega) | (simp; omega) | (focus (simp; done)))) | (with_reducible refine Ext.trans ?_ xA) ))); obtain ⟨-, q0, q1, q2, q3⟩ := HR.out)
    | (go_at_call 80; (with_reducible refine at_args2 (a := .slice (some ⟨b2, o2, none⟩) S.length c2) ?_); refine (l01Rename_any L.length S p _ _ _ (HY.out.ext (by (repeat first | (with_reducible exact Ext.refl _) | (with_reducible assumption) | (with_reducible apply Ext.drew) | (with_reducible apply kx_drewN) | (with_reducible apply kx_alloc) | ((with_reducible refine kx_set ?_ ?_); (first | (simp only []; omega) | (simp; omega) | (focus (simp; done)))) | (with_reducible refine Ext.trans ?_ xA) ))) (HU.out.ext (by (repeat first | (with_reducible exact Ext.refl _) | (with_reducible assumption) | (with_reducible apply Ext.drew) | (with_reducible apply kx_drewN) | (with_reducible apply kx_alloc) | ((with_reducible refine kx_set ?_ ?_); (first | (simp only []; omega) | (simp; omega) | (focus (simp; done)))) | (with_reducible refine Ext.trans ?_ xA) ))) h1 h12 HSL.out rS.out eS.out HPL.out HPI.out).mono ?_; rintro e wB ⟨bB, cB, B, rfl, tB, lB, rB, nB, xB⟩; replace k0 := xB.cell (show World.cell? _ _ = _ from k0); replace k1 := xB.cell (show World.cell? _ _ = _ from k1); replace HR := Lib.hid (BoxV.ext (W' := wB) HR.out (by (repeat first | (with_reducible exact Ext.refl _) | (with_reducible assumption) | (with_reducible apply Ext.drew) | (with_reducible apply kx_drewN) | (with_reducible apply kx_alloc) | ((with_reducible refine kx_set ?_ ?_); (first | (simp only []; omega) | (simp; omega) | (focus (simp; done)))) | (with_reducible refine Ext.trans ?_ xB) ))); obtain ⟨-, q0, q1, q2, q3⟩ := HR.out))
  all_goals
    go_wp2
    have zA := xA.size
    have zz : w0.drew.heap.size = w0.heap.size := rfl
    have hXB : Ext w wB := HX0.out.trans (by (repeat first | (with_reducible exact Ext.refl _) | (with_reducible assumption) | (with_reducible apply Ext.drew) | (with_reducible apply kx_drewN) | (with_reducible apply kx_alloc) | ((with_reducible refine kx_set ?_ ?_); (first | (simp only []; omega) | (simp; omega) | (focus (simp; done)))) | (with_reducible refine Ext.trans ?_ xA) | (with_reducible refine Ext.trans ?_ xB) ))
    exact bodyPost_ret (v := .agg #[.slice (some ⟨bA, 0, none⟩) L.length cA, .slice (some ⟨bB, 0, none⟩) L.length cB]) (by simp [results, Tryz.results131, go_sem, q0, q1]) rfl
      (newS_end (B := w.heap.size + 1) ((tA.ext xB).low (base' := w.heap.size + 2) (by omega)) (tB.low (base' := w.heap.size + 2) (by omega)) (by omega) (by omega) ⟨tableOk_of h1 h12 lA rA (fun i hi j hj => by rw [ent_def]; exact nA.ent_in HPI.out eL.out i hi j hj), tableOk_of h1 h12 lB rB (fun i hi j hj => by rw [ent_def]; exact nB.ent_in HPI.out eS.out i hi j hj), by rw [lA, lB]⟩ lA ⟨nA, nB⟩ hXB _ _)
end Go.Proofs.YtjfjpngajboidaaGreat


namespace Go.Proofs.YtjfjpngajboidaaGreat
set_option linter.unusedVariables false
set_option linter.unusedSimpArgs false
open Go.RowKit

theorem slicesEqual_any (l m : List Int) (v u : Value) (w : World) (hv : Ints w v l) (hu : Ints w u m) :
    Calls Tryz.prog 67 #[v, u] w fun e w' => e = .returned (.bool (eqIB l m)) ∧ Ext w w' := by
  obtain ⟨hl1, b1, o1, c1, rfl, hc1⟩ := hv
  obtain ⟨hl2, b2, o2, c2, rfl, hc2⟩ := hu
  by_cases hl : l.length = m.length
  case neg =>
    have hb : ((l.length : Int) != (m.length : Int)) = true := by simp; omega
    go_enter Tryz.func67, Tryz.ntmps67
    go_wp2
    go_ret
    exact ⟨ret_bool (eqIB_no (fun e => hl (by rw [e]))).symm, Ext.refl _⟩
  case pos =>
    rw [← hl]
    have Hl := Lib.hid hl
    clear hl
    go_enter Tryz.func67, Tryz.ntmps67
    go_wp2
    go_loopw [13] (fun i wr => ∃ k : Nat, k ≤ l.length ∧ i = .int .i64 k ∧ SameTo l m k ∧ Ext w wr) (fun i _ => l.length - (intOf i).toNat)
    case atStart => exact ⟨0, Nat.zero_le _, rfl, fun i hi => by omega, Ext.refl _⟩
    case round =>
      obtain ⟨k, hk, rfl, hto, hx⟩ := hrel
      by_cases hlt : k < l.length
      · have e1 := hc1.ext hx k hlt
        have e2 := hc2.ext hx k (by have := Hl.out; omega)
        cases he : (ix l k != ix m k) with
        | true =>
          go_wp2
          go_quiet (fail)
          go_wp2
          go_ret
          exact ⟨ret_bool (eqIB_no (fun e => by rw [e] at he; simp at he)).symm, hx.drewN _⟩
        | false =>
          go_wp2
          go_quiet (fail)
          go_wp2
          go_roundw
          case rel => exact ⟨k + 1, by omega, by go_num, all_succ hto (by simpa using he), hx.drewN _⟩
          case measure => simp [intOf]; omega
      · go_wp2
        go_ret
        exact ⟨ret_bool (eqIB_yes (ix_ext Hl.out (fun i hi => hto i (by omega)))).symm, hx⟩

theorem isNaN_any (a : Int) (w : World) : Calls Tryz.prog 114 #[.int .i64 a] w fun e w' => e = .returned (.bool false) ∧ w = w' := by
  have hb : (a != a) = false := by simp
  go_enter Tryz.func114, Tryz.ntmps114
  go_wp2
  go_ret
  exact ⟨rfl, rfl⟩

theorem cmpCompare_any (a b : Int) (w : World) : Calls Tryz.prog 76 #[.int .i64 a, .int .i64 b] w fun e w' => e = .returned (.int .i64 (cmpI a b)) ∧ w = w' := by
  unfold cmpI
  by_cases h : a < b
  · rw [if_pos h]
    go_enter Tryz.func76, Tryz.ntmps76
    go_wp2_with (go_at_call 114; refine (isNaN_any _ _).mono ?_; rintro e w' ⟨rfl, rfl⟩)
    go_ret
    exact ⟨rfl, rfl⟩
  · rw [if_neg h]
    by_cases h2 : b < a
    · rw [if_pos h2]
      go_enter Tryz.func76, Tryz.ntmps76
      go_wp2_with (go_at_call 114; refine (isNaN_any _ _).mono ?_; rintro e w' ⟨rfl, rfl⟩)
      go_ret
      exact ⟨rfl, rfl⟩
    · rw [if_neg h2]
      go_enter Tryz.func76, Tryz.ntmps76
      go_wp2_with (go_at_call 114; refine (isNaN_any _ _).mono ?_; rintro e w' ⟨rfl, rfl⟩)
      go_ret
      exact ⟨rfl, rfl⟩

theorem slicesCompare_any (l m : List Int) (v u : Value) (w : World) (hv : Ints w v l) (hu : Ints w u m) :
    Calls Tryz.prog 39 #[v, u] w fun e w' => e = .returned (.int .i64 (cmpL l m)) ∧ w = w' := by
  obtain ⟨hl1, b1, o1, c1, rfl, hc1⟩ := hv
  obtain ⟨hl2, b2, o2, c2, rfl, hc2⟩ := hu
  have h0 := cmpLF_zero l m
  have H0 := Lib.hid h0
  clear h0
  go_enter Tryz.func39, Tryz.ntmps39
  go_wp2
  go_loop [11] (fun i => ∃ k : Nat, k ≤ l.length ∧ i = .int .i64 k ∧ cmpL l m = cmpLF l m k) (fun i => l.length - (intOf i).toNat)
  case atStart => exact ⟨0, Nat.zero_le _, rfl, H0.out⟩
  case round =>
    clear H0
    obtain ⟨k, hk, rfl, hr⟩ := hrel
    have HR := Lib.hid hr
    clear hr
    by_cases hlt : k < l.length
    · have e1 := hc1 k hlt
      by_cases hlm : k < m.length
      · have e2 := hc2 k hlm
        cases hz : (cmpI (ix l k) (ix m k) != 0) with
        | true =>
          go_wp2_with (go_at_call 76; refine (cmpCompare_any _ _ _).mono ?_; rintro e w' ⟨rfl, rfl⟩)
          go_ret
          exact ⟨ret_int (by rw [HR.out, cmpLF_ne hlt hlm (by simpa using hz)]), rfl⟩
        | false =>
          go_wp2_with (go_at_call 76; refine (cmpCompare_any _ _ _).mono ?_; rintro e w' ⟨rfl, rfl⟩)
          go_round
          case rel => exact ⟨k + 1, by omega, by go_num, by rw [HR.out, cmpLF_eq hlt hlm (by simpa using hz)]⟩
          case measure => simp [intOf]; omega
      · go_wp2
        go_ret
        exact ⟨ret_int (by rw [HR.out, cmpLF_more hlt (by omega)]), rfl⟩
    · by_cases hlm : l.length < m.length
      · go_wp2
        go_ret
        exact ⟨ret_int (by rw [HR.out, cmpLF_less (by omega) (by omega)]), rfl⟩
      · go_wp2
        go_ret
        exact ⟨ret_int (by rw [HR.out, cmpLF_end (by omega) (by omega)]), rfl⟩

end Go.Proofs.YtjfjpngajboidaaGreat


namespace Go.Proofs.YtjfjpngajboidaaGreat
set_option linter.unusedVariables false
set_option linter.unusedSimpArgs false
open Go.RowKit

theorem transposed1_any (t : List (List Int)) (v : Value) (x y B : Nat) (w : World) (hB : w.cell? ⟨B, 0, none⟩ = some v) (hv : Rows w v t) (hT : TableOk t) (hx : x < t.length) (hy : y < t.length) :
    Calls Tryz.prog 124 #[.int .i64 x, .int .i64 y, .pointer (some ⟨B, 0, none⟩)] w fun e w' => e = .returned (.int .i64 (turnF t x y)) ∧ Ext w w' := by
  obtain ⟨hlen, b, o, c, rfl, hc⟩ := id hv
  obtain ⟨b1, o1, c1, hr, hc1, hl1⟩ := hc.get hy
  have f1 := hc1.ent (hT.len hy) hx
  rw [hT.len hy] at hr
  rw [turnF_def]
  go_enter Tryz.func124, Tryz.ntmps124
  go_wp2
  go_ret
  exact ⟨rfl, Ext.refl _⟩

theorem callTransposed1 (args : Array Value) (w : World) : (callFunc 124 args).run Tryz.prog w = .ok (.enter 124 args) w :=
  callFunc_enter Tryz.func124 (by kernel_rfl) rfl args w

theorem transposed_any (t : List (List Int)) (v : Value) (w : World) (hv : Rows w v t) (hT : TableOk t) :
    Calls Tryz.prog 86 #[v] w (NewT (turnT t) w) := by
  obtain ⟨hlen, b, o, c, rfl, hc⟩ := id hv
  have hx0 := ext_box w (.slice (some ⟨b, o, none⟩) t.length c) 24
  have b0 := cell_new w (.slice (some ⟨b, o, none⟩) t.length c) 24
  go_enter Tryz.func86, Tryz.ntmps86
  go_wp2_with fail
  refine (tableBy_any t.length (turnF t) 124 #[.pointer (some ⟨w.heap.size, 0, none⟩)] _ (by omega) callTransposed1 (fun w1 x y h1 hx hy => by
    rw [app21]
    exact transposed1_any t _ x y w.heap.size w1 (h1.cell b0) (hv.ext (hx0.trans h1)) hT hx hy)).mono ?_
  rintro e w1 ⟨b1, c1, rfl, ho, hx1⟩
  rw [← turnT_def] at ho ⊢
  go_wp2
  go_ret
  exact ⟨b1, c1, rfl, ho.mono (by simp) (Nat.le_refl _), hx0.trans hx1⟩

theorem l01Column_any (t : List (List Int)) (v : Value) (x : Nat) (w : World) (hv : Rows w v t) (hT : TableOk t) (hx : x < t.length) :
    Calls Tryz.prog 128 #[v, .int .i64 x] w fun e w' => ∃ b c, e = .returned (.slice (some ⟨b, 0, none⟩) t.length c) ∧ IntsAt w' b 0 (row (turnT t) x) ∧ w.heap.size ≤ b ∧ b < w'.heap.size ∧ Ext w w' := by
  obtain ⟨hlen, b, o, c, rfl, hc⟩ := id hv
  have hrl := length_row_turnT t x hx
  have HRL := Lib.hid hrl
  clear hrl
  go_enter Tryz.func128, Tryz.ntmps128
  go_wp2
  have hx0 : Ext w (w.alloc (.cells #[] 2)) := (Ext.refl _).alloc _
  have hg0 := GrowI.lit (e := 2) (base := w.heap.size) (w := w) (Nat.le_refl _)
  go_loopw [5, 6] (fun v y wr => ∃ j : Nat, j ≤ t.length ∧ y = .int .i64 j ∧ GrowI 2 w.heap.size wr v ((row (turnT t) x).take j) ∧ v ≠ .slice none 0 0 ∧ Ext w wr) (fun _ y _ => t.length - (intOf y).toNat)
  case atStart => exact ⟨0, Nat.zero_le _, rfl, hg0, by simp, hx0⟩
  case round =>
    clear hx0 hg0
    obtain ⟨j, hj, rfl, hi, hvr, hx2⟩ := hrel
    have HVR := Lib.hid hvr
    clear hvr
    by_cases hjl : j < t.length
    case neg =>
      have hta : (row (turnT t) x).take j = row (turnT t) x := List.take_of_length_le (by rw [HRL.out]; omega)
      rw [hta] at hi
      obtain ⟨br, cr, rfl, hri, hrb, hrb2⟩ := hi.row HVR.out
      rw [HRL.out]
      go_wp2
      go_ret
      exact ⟨br, cr, rfl, hri, hrb, hrb2, hx2⟩
    case pos =>
      obtain ⟨b1, o1, c1, hr, hc1, hl1⟩ := (hc.ext hx2).get hjl
      have f1 := hc1.ent (hT.len hjl) hx
      rw [hT.len hjl] at hr
      clear hc1
      have hlj : ((row (turnT t) x).take j).length = j := by rw [List.length_take, HRL.out]; omega
      have HLJ := Lib.hid hlj
      clear hlj
      go_wp2_with (at_builtin; refine wpList_append_int rfl _ _ 27 2 rfl Tryz.underlying27 infoInt w.heap.size _ _ rfl (hi.alloc _) _ _ rfl (cell_new _ _ _) (by rw [HLJ.out]; omega) (by have := hx2.size; simp; omega) ?_)
      intro v' w3 hi3 hgr hv3
      have hx3 : Ext w w3 := (hx2.trans (ext_box _ _ _)).grown hgr (hi.alloc _) (Nat.le_refl _)
      clear hgr
      go_wp2
      go_roundw
      case rel => exact ⟨j + 1, by omega, by go_num, by
        rw [take_ix _ _ (by rw [HRL.out]; exact hjl), ent_def, ent_turnT t x j hx hjl]; exact hi3, hv3, hx3⟩
      case measure => simp [intOf]; omega

theorem l01Turn_any (t : List (List Int)) (v : Value) (w : World) (hv : Rows w v t) (hT : TableOk t) :
    Calls Tryz.prog 97 #[v] w fun e w' => ∃ v, e = .returned v ∧ Rows w' v (turnT t) ∧ Ext w w' := by
  obtain ⟨hlen, b, o, c, rfl, hc⟩ := id hv
  have HLT := Lib.hid (length_turnT t)
  go_enter Tryz.func97, Tryz.ntmps97
  go_wp2
  have hx0 : Ext w (w.alloc (.cells #[] 27)) := (Ext.refl _).alloc _
  have hg0 := GrowT.lit (e := 27) (base := w.heap.size) (w := w) (Nat.le_refl _)
  go_loopw [3, 4] (fun v x wr => ∃ k : Nat, k ≤ t.length ∧ x = .int .i64 k ∧ GrowT 27 w.heap.size wr v ((turnT t).take k) ∧ v ≠ .slice none 0 0 ∧ Ext w wr) (fun _ x _ => t.length - (intOf x).toNat)
  case atStart => exact ⟨0, Nat.zero_le _, rfl, hg0, by simp, hx0⟩
  case round =>
    clear hx0 hg0
    obtain ⟨k, hk, rfl, hg, hv', hx⟩ := hrel
    have HV := Lib.hid hv'
    clear hv'
    by_cases hkl : k < t.length
    case neg =>
      go_wp2
      go_ret
      refine ⟨u3, rfl, ?_, hx⟩
      have : (turnT t).take k = turnT t := List.take_of_length_le (by rw [HLT.out]; omega)
      rw [this] at hg
      exact hg.rows (by rw [HLT.out]; omega) HV.out
    case pos =>
      have HO := Lib.hid hg.lt
      have HRL := Lib.hid (length_row_turnT t k hkl)
      obtain ⟨w2, rfl⟩ : ∃ w2 : World, w2 = wr := ⟨_, rfl⟩
      go_wp2_with fail
      refine (l01Column_any t _ k _ (hv.ext hx) hT hkl).mono ?_
      rintro e w3 ⟨br, cr, rfl, hri, hrb, hrb2, hx2⟩
      have hgw := hg.ext hx2
      have hne : some br ≠ u3.ownBlock := fun e => by have := HO.out br e.symm; omega
      have htl : ((turnT t).take k).length = k := by rw [List.length_take, HLT.out]; omega
      have HTL := Lib.hid htl
      clear htl hg
      go_wp2_with (at_builtin; refine wpList_append_row rfl _ _ 24 27 rfl Tryz.underlying24 infoSl w.heap.size _ _ rfl (hgw.ext (ext_box _ _ _)) _ br cr (row (turnT t) k) rfl (by rw [HRL.out]; exact cell_new _ _ _) (hri.ext (ext_box _ _ _)) (by rw [HRL.out]; omega) hne (by rw [HTL.out]; omega) (by have := hx.size; have := hx2.size; simp; omega) ?_)
      intro v' w4 hg3 hgr hv3
      have hx3 : Ext w w4 := (hx.trans (hx2.trans (ext_box _ _ _))).grown hgr (hgw.ext (ext_box _ _ _)).own.choose_spec (Nat.le_refl _)
      clear hgr hne hgw
      go_wp2
      go_roundw
      case rel => exact ⟨k + 1, by omega, by go_num, by rw [take_row _ _ (by rw [HLT.out]; exact hkl)]; exact hg3, hv3, hx3⟩
      case measure => simp [intOf]; omega
end Go.Proofs.YtjfjpngajboidaaGreat
