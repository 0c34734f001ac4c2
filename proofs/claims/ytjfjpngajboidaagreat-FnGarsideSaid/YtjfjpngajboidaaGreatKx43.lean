/-
  Contracts of the program's copy of a word (with room and free), moved.
-/
import Derived.BigRegion
import Derived.Test.YtjfjpngajboidaaGreatKx10
namespace Go.Proofs.YtjfjpngajboidaaGreat
set_option linter.unusedVariables false
set_option linter.unusedSimpArgs false
open Go.RowKit
attribute [local go_sem ↓] Go.wp_at_zero Go.wp_at_succ
open Go.Deep

def NewIc (l : List Int) (w : World) (e : Ending) (w' : World) : Prop := ∃ b c, e = .returned (.slice (some ⟨b, 0, none⟩) l.length c) ∧ OwnI w.heap.size w'.heap.size w' b 0 l ∧ l.length ≤ c ∧ l.length ≤ 1048576 ∧ Ext w w'
theorem NewIc.k {l : List Int} {w : World} {e : Ending} {w' : World} (h : NewIc l w e w') : NewK l w e w' := by
  obtain ⟨b, c, rfl, ho, hc, hl, hx⟩ := h
  exact ⟨_, rfl, ⟨hl, b, c, rfl, hc, ho.1, ho.2.1, fun h => h, ho.2.2.1⟩, hx⟩

set_option maxRecDepth 100000 in
theorem slicesClone_c (l : List Int) (v : Value) (w : World) (hv : Ints w v l) :
    Calls Tryz.prog 68 #[v] w (NewIc l w) := by
  obtain ⟨hlen, b, o, c, rfl, hc⟩ := hv
  have hx0 : Ext w (w.alloc (.cells #[] 2)) := (Ext.refl _).alloc _
  have hi0 := GrowI.lit (e := 2) (base := w.heap.size) (w := w) (Nat.le_refl _)
  have he : ∀ w : World, (binOp .eql 27 (.slice (some ⟨b, o, none⟩) l.length c) (.slice none 0 0)).run Tryz.prog w = .ok (.bool false) w := fun _ => rfl
  go_enter Tryz.func68, Tryz.ntmps68
  go_wp2_with (at_builtin; refine wpList_append_ints rfl _ _ 27 2 rfl Tryz.underlying27 infoInt w.heap.size _ _ rfl hi0 b o c l rfl (hc.ext hx0) (by simp) hlen (by simp) ?_)
  intro v' w3 hi3 hgr hv3
  have hx3 : Ext w w3 := hx0.grown hgr hi0 (Nat.le_refl _)
  have HI3 := Lib.hid hi3
  obtain ⟨b3, c3, rfl, ho⟩ := hi3.own (fun h => by first | exact hv3 h | simpa using (hv3.1 h).1)
  go_wp2
  go_ret
  exact ⟨b3, c3, rfl, ho, HI3.out.room, hlen, hx3⟩

set_option maxRecDepth 100000 in
set_option maxHeartbeats 4000000 in
theorem moved_any (L S : List (List Int)) (p : List Int) (k : Nat) (v y u : Value) (w : World) (hv : Rows w v L) (hy : Rows w y S) (hu : Ints w u p) (hP : PairOk L S) (hp : WordOk L.length p) (hk : k + 1 < p.length) :
    Calls Tryz.prog 91 #[.agg #[v, y], u, .int .i64 k] w (NewIc (moveL (mulN L) (mulN S) p k) w) := by
  obtain ⟨-, b, o, c, rfl, hvc⟩ := id hv
  obtain ⟨-, b2, o2, c2, rfl, hyc⟩ := id hy
  obtain ⟨hpl, b3, o3, c3, rfl, hpc⟩ := id hu
  have h12 := hP.l.2.1
  rw [hP.len]
  have hx0 : Ext w (w.alloc (.cells #[.slice (some ⟨b, o, none⟩) L.length c, .slice (some ⟨b2, o2, none⟩) L.length c2] 26)) := (Ext.refl _).alloc _
  have k0 := cell_new2a w (.slice (some ⟨b, o, none⟩) L.length c) (.slice (some ⟨b2, o2, none⟩) L.length c2) 26
  have k1 := cell_new2b w (.slice (some ⟨b, o, none⟩) L.length c) (.slice (some ⟨b2, o2, none⟩) L.length c2) 26
  obtain ⟨e1, l1⟩ := hp.nat (i := k) (by omega)
  obtain ⟨e2, l2⟩ := hp.nat (i := k + 1) (by omega)
  have hL := hP.ln l1 l2
  have hS := hP.sn l1 l2
  obtain ⟨x, hx⟩ : ∃ x, x = (ix p k).toNat := ⟨_, rfl⟩
  obtain ⟨z, hz⟩ : ∃ z, z = (ix p (k + 1)).toNat := ⟨_, rfl⟩
  rw [← hx] at e1 l1 hL hS
  rw [← hz] at e2 l2 hL hS
  have HU := Lib.hid (hu.ext hx0)
  have p0 := hx0.cell (hpc k (by omega))
  have p1 := hx0.cell (hpc (k + 1) (by omega))
  rw [e1] at p0
  rw [e2] at p1
  obtain ⟨d1, s1, m1, r1, i1, -⟩ := (hvc.ext hx0).get (i := x) l1
  obtain ⟨f1, g1, j1, t1, u1, -⟩ := (hyc.ext hx0).get (i := x) (by rw [hP.len]; exact l1)
  have a1 := i1.ent (hP.rowL l1) (y := z) l2
  have a2 := u1.ent (hP.rowS l1) (y := z) l2
  rw [hP.rowL l1] at r1
  rw [hP.rowS l1] at t1
  rw [hL.1] at a1
  rw [hS.1] at a2
  have HM := Lib.hid (show moveL (mulN L) (mulN S) p k = (p.set k ((mulN L x z : Nat) : Int)).set (k + 1) ((mulN S x z : Nat) : Int) by unfold moveL; rw [← hx, ← hz])
  clear hv hy hu hvc hyc hpc hP hp hx hz
  obtain ⟨n, hn⟩ : ∃ n, n = L.length := ⟨_, rfl⟩
  rw [← hn] at h12 hx0 k0 k1 HU p0 p1 r1 t1 a1 a2 l1 l2 ⊢
  have HN := Lib.hid hn
  clear hn
  obtain ⟨X, hX⟩ : ∃ q, q = mulN L x z := ⟨_, rfl⟩
  obtain ⟨Z, hZ⟩ : ∃ q, q = mulN S x z := ⟨_, rfl⟩
  rw [← hX] at a1 HM
  rw [← hZ] at a2 HM
  clear hX hZ
  go_enter Tryz.func91, Tryz.ntmps91
  go_wp2_with fail
  generalize (w.alloc (.cells #[.slice (some ⟨b, o, none⟩) n c, .slice (some ⟨b2, o2, none⟩) n c2] 26)) = w1 at *
  refine (slicesClone_c p _ _ HU.out).mono ?_
  rintro e w2 ⟨b4, c4, rfl, ho, hcap, -, hx2⟩
  have HCAP := Lib.hid hcap
  have FK := Lib.hid (show ∀ w' : World, Ext w1 w' → w'.cell? ⟨w.heap.size, 0, none⟩ = some (.slice (some ⟨b, o, none⟩) n c) ∧ w'.cell? ⟨w.heap.size, 1, none⟩ = some (.slice (some ⟨b2, o2, none⟩) n c2) ∧ w'.cell? ⟨b, o + x, none⟩ = some (.slice (some ⟨d1, s1, none⟩) n m1) ∧ w'.cell? ⟨b2, o2 + x, none⟩ = some (.slice (some ⟨f1, g1, none⟩) n j1) ∧ w'.cell? ⟨d1, s1 + z, none⟩ = some (.int .i64 X) ∧ w'.cell? ⟨f1, g1 + z, none⟩ = some (.int .i64 Z) ∧ w'.cell? ⟨b3, o3 + k, none⟩ = some (.int .i64 x) ∧ w'.cell? ⟨b3, o3 + (k + 1), none⟩ = some (.int .i64 z) from fun w' hx => ⟨hx.cell k0, hx.cell k1, hx.cell r1, hx.cell t1, hx.cell a1, hx.cell a2, hx.cell p0, hx.cell p1⟩)
  clear k0 k1 r1 t1 a1 a2 p0 p1 hcap
  obtain ⟨k0, k1, r1, t1, a1, a2, p0, p1⟩ := FK.out w2 hx2
  have q0 := ho.2.2.1 k (by omega)
  have g0 := ho.2.2.2 k (by omega)
  have q1 := ho.2.2.1 (k + 1) (by omega)
  have g1' := ho.2.2.2 (k + 1) (by omega)
  rw [Nat.zero_add] at q0 g0 q1 g1'
  clear i1 u1 hL hS
  go_wp2
  go_quiet (fail)
  go_wp2_with fail
  have ho3 : OwnI w1.heap.size w2.heap.size (w2.drewN nq) b4 0 p := ho.block (by simp)
  have hx3 : Ext w1 (w2.drewN nq) := hx2.drewN nq
  have hz3 : (w2.drewN nq).heap.size = w2.heap.size := by simp
  clear k0 k1 r1 t1 a1 a2 p0 p1 q0 g0 q1 g1' hx2 ho
  generalize (w2.drewN nq) = w3 at *
  obtain ⟨k0, k1, r1, t1, a1, a2, p0, p1⟩ := FK.out w3 hx3
  have q0 := ho3.2.2.1 k (by omega)
  have g0 := ho3.2.2.2 k (by omega)
  have q1 := ho3.2.2.1 (k + 1) (by omega)
  have g1' := ho3.2.2.2 (k + 1) (by omega)
  rw [Nat.zero_add] at q0 g0 q1 g1'
  go_region
  have ho4 : OwnI w1.heap.size w2.heap.size ((w3.setCell ⟨b4, k, none⟩ (.int .i64 X)).setCell ⟨b4, k + 1, none⟩ (.int .i64 Z)).drew b4 0 ((p.set k X).set (k + 1) Z) := by
    have h := ho3.put (j := k) (by omega) X
    rw [Nat.zero_add] at h
    have h2 := h.put (j := k + 1) (by simp; omega) Z
    rw [Nat.zero_add] at h2
    exact h2.block rfl
  have hx4 : Ext w1 ((w3.setCell ⟨b4, k, none⟩ (.int .i64 X)).setCell ⟨b4, k + 1, none⟩ (.int .i64 Z)).drew := ((hx3.setNew ho3.1 _).setNew ho3.1 _).drew
  have hz4 : ((w3.setCell ⟨b4, k, none⟩ (.int .i64 X)).setCell ⟨b4, k + 1, none⟩ (.int .i64 Z)).drew.heap.size = w2.heap.size := by simp [hz3]
  generalize ((w3.setCell ⟨b4, k, none⟩ (.int .i64 X)).setCell ⟨b4, k + 1, none⟩ (.int .i64 Z)).drew = w4 at *
  clear k0 k1 r1 t1 a1 a2 p0 p1 q0 g0 q1 g1' hx3 ho3
  go_wp2
  go_ret
  rw [HM.out]
  have hzz := hx0.size
  have hcc := HCAP.out
  refine ⟨b4, c4, by simp, ho4.mono hzz (by omega), by simpa using hcc, by simpa using hpl, hx0.trans hx4⟩
end Go.Proofs.YtjfjpngajboidaaGreat
