/-
  Contracts of the reference's functions on pair maps: l02Map, l02Do.
-/
import Derived.BigRegion
import Derived.Test.YtjfjpngajboidaaGreatJx9
namespace Go.Proofs.YtjfjpngajboidaaGreat
set_option linter.unusedVariables false
set_option linter.unusedSimpArgs false
open Go.RowKit
attribute [local go_sem ↓] Go.wp_at_zero Go.wp_at_succ
open Go.Deep

set_option maxRecDepth 100000 in
set_option maxHeartbeats 1000000 in
theorem l02Map_any (L S : List (List Int)) (v y : Value) (w : World) (hv : Rows w v L) (hy : Rows w y S) :
    Calls Tryz.prog 93 #[.agg #[v, y]] w fun e w' => e = .returned (.bool (pairB L S)) ∧ Ext w w' := by
  obtain ⟨hl1, b, o, c, rfl, -⟩ := id hv
  obtain ⟨hl2, b2, o2, c2, rfl, -⟩ := id hy
  have hx0 : Ext w (w.alloc (.cells #[.slice (some ⟨b, o, none⟩) L.length c, .slice (some ⟨b2, o2, none⟩) S.length c2] 26)) := (Ext.refl _).alloc _
  have k0 := cell_new2a w (.slice (some ⟨b, o, none⟩) L.length c) (.slice (some ⟨b2, o2, none⟩) S.length c2) 26
  have k1 := cell_new2b w (.slice (some ⟨b, o, none⟩) L.length c) (.slice (some ⟨b2, o2, none⟩) S.length c2) 26
  have HV := Lib.hid (hv.ext hx0)
  have HY := Lib.hid (hy.ext hx0)
  rw [pairB_def]
  clear hv hy
  go_enter Tryz.func93, Tryz.ntmps93
  go_wp2_with fail
  generalize (w.alloc (.cells #[.slice (some ⟨b, o, none⟩) L.length c, .slice (some ⟨b2, o2, none⟩) S.length c2] 26)) = w1 at *
  refine (l01Table_any L _ _ HV.out).mono ?_
  rintro e w2 ⟨rfl, rfl⟩
  cases h1 : tableB L with
  | false =>
    go_wp2_with fail
    go_ret
    exact ⟨by rw [h1]; rfl, hx0⟩
  | true =>
    go_wp2_with fail
    refine (l01Table_any S _ _ HY.out).mono ?_
    rintro e w2 ⟨rfl, rfl⟩
    cases h2 : tableB S with
    | false =>
      go_wp2_with fail
      go_ret
      exact ⟨by rw [h1, h2]; rfl, hx0⟩
    | true =>
      go_wp2_with fail
      go_ret
      have hb : ((L.length : Int) == (S.length : Int)) = decide (L.length = S.length) := by rw [Bool.eq_iff_iff]; simp [Int.natCast_inj]
      exact ⟨by rw [h1, h2]; exact congrArg (fun q => Ending.returned (.bool q)) hb, hx0⟩

set_option maxRecDepth 100000 in
set_option maxHeartbeats 4000000 in
theorem l02Do_any (L S : List (List Int)) (p : List Int) (k : Nat) (v y u : Value) (w : World) (hv : Rows w v L) (hy : Rows w y S) (hu : Ints w u p) (hP : PairOk L S) (hp : WordOk L.length p) (hk : k + 1 < p.length) :
    Calls Tryz.prog 66 #[.agg #[v, y], u, .int .i64 k] w (NewI (moveL (mulN L) (mulN S) p k) w) := by
  obtain ⟨-, b, o, c, rfl, hvc⟩ := id hv
  obtain ⟨-, b2, o2, c2, rfl, hyc⟩ := id hy
  obtain ⟨hpl, b3, o3, c3, rfl, hpc⟩ := id hu
  have h12 := hP.l.2.1
  rw [hP.len]
  have hx0 : Ext w (w.alloc (.cells #[.slice (some ⟨b, o, none⟩) L.length c, .slice (some ⟨b2, o2, none⟩) L.length c2] 26)) := (Ext.refl _).alloc _
  have k0 := cell_new2a w (.slice (some ⟨b, o, none⟩) L.length c) (.slice (some ⟨b2, o2, none⟩) L.length c2) 26
  have k1 := cell_new2b w (.slice (some ⟨b, o, none⟩) L.length c) (.slice (some ⟨b2, o2, none⟩) L.length c2) 26
  obtain ⟨e1, l1⟩ := hp.nat (i := k) (by omega)
  obtain ⟨e2, l2⟩ := hp.nat (i := k + 1) (by omega)
  have hL := hP.ln l1 l2
  have hS := hP.sn l1 l2
  obtain ⟨x, hx⟩ : ∃ x, x = (ix p k).toNat := ⟨_, rfl⟩
  obtain ⟨z, hz⟩ : ∃ z, z = (ix p (k + 1)).toNat := ⟨_, rfl⟩
  rw [← hx] at e1 l1 hL hS
  rw [← hz] at e2 l2 hL hS
  have HU := Lib.hid (hu.ext hx0)
  have p0 := hx0.cell (hpc k (by omega))
  have p1 := hx0.cell (hpc (k + 1) (by omega))
  rw [e1] at p0
  rw [e2] at p1
  obtain ⟨d1, s1, m1, r1, i1, -⟩ := (hvc.ext hx0).get (i := x) l1
  obtain ⟨f1, g1, j1, t1, u1, -⟩ := (hyc.ext hx0).get (i := x) (by rw [hP.len]; exact l1)
  have a1 := i1.ent (hP.rowL l1) (y := z) l2
  have a2 := u1.ent (hP.rowS l1) (y := z) l2
  rw [hP.rowL l1] at r1
  rw [hP.rowS l1] at t1
  rw [hL.1] at a1
  rw [hS.1] at a2
  have HM := Lib.hid (show moveL (mulN L) (mulN S) p k = (p.set k ((mulN L x z : Nat) : Int)).set (k + 1) ((mulN S x z : Nat) : Int) by unfold moveL; rw [← hx, ← hz])
  clear hv hy hu hvc hyc hpc hP hp hx hz
  obtain ⟨n, hn⟩ : ∃ n, n = L.length := ⟨_, rfl⟩
  rw [← hn] at h12 hx0 k0 k1 HU p0 p1 r1 t1 a1 a2 l1 l2 ⊢
  have HN := Lib.hid hn
  clear hn
  obtain ⟨X, hX⟩ : ∃ q, q = mulN L x z := ⟨_, rfl⟩
  obtain ⟨Z, hZ⟩ : ∃ q, q = mulN S x z := ⟨_, rfl⟩
  rw [← hX] at a1 HM
  rw [← hZ] at a2 HM
  clear hX hZ
  go_enter Tryz.func66, Tryz.ntmps66
  go_wp2_with fail
  generalize (w.alloc (.cells #[.slice (some ⟨b, o, none⟩) n c, .slice (some ⟨b2, o2, none⟩) n c2] 26)) = w1 at *
  refine (l01Own_any p _ _ HU.out).mono ?_
  rintro e w2 ⟨b4, c4, rfl, ho, hx2⟩
  have FK := Lib.hid (show ∀ w' : World, Ext w1 w' → w'.cell? ⟨w.heap.size, 0, none⟩ = some (.slice (some ⟨b, o, none⟩) n c) ∧ w'.cell? ⟨w.heap.size, 1, none⟩ = some (.slice (some ⟨b2, o2, none⟩) n c2) ∧ w'.cell? ⟨b, o + x, none⟩ = some (.slice (some ⟨d1, s1, none⟩) n m1) ∧ w'.cell? ⟨b2, o2 + x, none⟩ = some (.slice (some ⟨f1, g1, none⟩) n j1) ∧ w'.cell? ⟨d1, s1 + z, none⟩ = some (.int .i64 X) ∧ w'.cell? ⟨f1, g1 + z, none⟩ = some (.int .i64 Z) ∧ w'.cell? ⟨b3, o3 + k, none⟩ = some (.int .i64 x) ∧ w'.cell? ⟨b3, o3 + (k + 1), none⟩ = some (.int .i64 z) from fun w' hx => ⟨hx.cell k0, hx.cell k1, hx.cell r1, hx.cell t1, hx.cell a1, hx.cell a2, hx.cell p0, hx.cell p1⟩)
  clear k0 k1 r1 t1 a1 a2 p0 p1
  obtain ⟨k0, k1, r1, t1, a1, a2, p0, p1⟩ := FK.out w2 hx2
  have q0 := ho.2.2.1 k (by omega)
  have g0 := ho.2.2.2 k (by omega)
  rw [Nat.zero_add] at q0 g0
  clear i1 u1 hL hS
  go_wp2
  go_region
  have ho3 : OwnI w1.heap.size w2.heap.size (w2.setCell ⟨b4, k, none⟩ (.int .i64 X)).drew b4 0 (p.set k X) := by
    have h := ho.put (j := k) (by omega) X
    rw [Nat.zero_add] at h
    exact h.block rfl
  have hx3 : Ext w1 (w2.setCell ⟨b4, k, none⟩ (.int .i64 X)).drew := (hx2.setNew ho.1 _).drew
  have hz3 : (w2.setCell ⟨b4, k, none⟩ (.int .i64 X)).drew.heap.size = w2.heap.size := by simp
  generalize (w2.setCell ⟨b4, k, none⟩ (.int .i64 X)).drew = w3 at *
  clear k0 k1 r1 t1 a1 a2 p0 p1 q0 g0 hx2 ho
  obtain ⟨k0, k1, r1, t1, a1, a2, p0, p1⟩ := FK.out w3 hx3
  have q0 := ho3.2.2.1 (k + 1) (by simp; omega)
  have g0 := ho3.2.2.2 (k + 1) (by simp; omega)
  rw [Nat.zero_add] at q0 g0
  go_wp2
  go_region
  have ho4 : OwnI w1.heap.size w2.heap.size (w3.setCell ⟨b4, k + 1, none⟩ (.int .i64 Z)).drew b4 0 ((p.set k X).set (k + 1) Z) := by
    have h := ho3.put (j := k + 1) (by simp; omega) Z
    rw [Nat.zero_add] at h
    exact h.block rfl
  have hx4 : Ext w1 (w3.setCell ⟨b4, k + 1, none⟩ (.int .i64 Z)).drew := (hx3.setNew ho3.1 _).drew
  have hz4 : (w3.setCell ⟨b4, k + 1, none⟩ (.int .i64 Z)).drew.heap.size = w2.heap.size := by simp [hz3]
  generalize (w3.setCell ⟨b4, k + 1, none⟩ (.int .i64 Z)).drew = w4 at *
  clear k0 k1 r1 t1 a1 a2 p0 p1 q0 g0 hx3 ho3
  go_wp2
  go_ret
  rw [HM.out]
  have hzz := hx0.size
  refine ⟨b4, c4, by simp, ho4.mono hzz (by omega), hx0.trans hx4⟩
end Go.Proofs.YtjfjpngajboidaaGreat
