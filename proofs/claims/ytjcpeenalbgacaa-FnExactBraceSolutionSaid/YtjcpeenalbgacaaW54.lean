/-
  Contracts: solutions by a function; the solution of a brace (program).
-/
import Derived.Test.YtjcpeenalbgacaaProg
import Derived.Deep.DeepCutAuto
import Derived.Deep.RegionWith
import Derived.Deep.RegionHeld3
import Derived.Deep.DrawnRows
import Derived.Test.YtjcpeenalbgacaaBase
import Derived.Test.YtjcpeenalbgacaaBase2
import Derived.Test.YtjcpeenalbgacaaRet
import Derived.Test.YtjcpeenalbgacaaSteps
import Derived.Test.YtjcpeenalbgacaaGrow
import Derived.Test.YtjcpeenalbgacaaGrowR
import Derived.Test.YtjcpeenalbgacaaPure1
import Derived.Test.YtjcpeenalbgacaaPureOrd
import Derived.Test.YtjcpeenalbgacaaPureInv
import Derived.Test.YtjcpeenalbgacaaPureTurn
import Derived.Test.YtjcpeenalbgacaaPureConj
import Derived.Test.YtjcpeenalbgacaaPureSet
import Derived.Test.YtjcpeenalbgacaaPureNorm
import Derived.Test.YtjcpeenalbgacaaPureNum
import Derived.Test.YtjcpeenalbgacaaPureCls
import Derived.Test.YtjcpeenalbgacaaPureBr
import Derived.Test.YtjcpeenalbgacaaPureProd
import Derived.Test.YtjcpeenalbgacaaK5
import Derived.Test.YtjcpeenalbgacaaW1
import Derived.Test.YtjcpeenalbgacaaW3
import Derived.Test.YtjcpeenalbgacaaW6
import Derived.Test.YtjcpeenalbgacaaW8
import Derived.Test.YtjcpeenalbgacaaW11
import Derived.Test.YtjcpeenalbgacaaW12
import Derived.Test.YtjcpeenalbgacaaW13
import Derived.Test.YtjcpeenalbgacaaW20
import Derived.Test.YtjcpeenalbgacaaW26
import Derived.Test.YtjcpeenalbgacaaW28
import Derived.Test.YtjcpeenalbgacaaW29
import Derived.Test.YtjcpeenalbgacaaW37
import Derived.Test.YtjcpeenalbgacaaK2
namespace Go.Proofs.Ytjcpeenalbgacaa
set_option linter.unusedVariables false
set_option linter.unusedSimpArgs false
open Go.RowKit
attribute [local go_sem ↓] Go.wp_at_zero Go.wp_at_succ

/-- the second value of the solution of a brace -/
@[irreducible] def solF (t u : List (List Int)) (x y : Nat) : Int := ent u (backF u (lamF t u x y).toNat).toNat (ent u x y).toNat
theorem solF_def (t u : List (List Int)) (x y : Nat) : ent u (backF u (lamF t u x y).toNat).toNat (ent u x y).toNat = solF t u x y := by unfold solF; rfl
theorem solF_ix {t u : List (List Int)} (hG : GroupOk t) (hU : GroupOk u) (hl : t.length = u.length) {x y : Nat} (hx : x < t.length) (hy : y < t.length) : indexOf (row u (lamF t u x y).toNat) (ent u x y) = solF t u x y := by
  have hb := lamF_bd hG hU hl hx hy
  have hz : (lamF t u x y).toNat < u.length := by omega
  have hc := hU.1.bd (x := x) (y := y) (by omega) (by omega)
  have hcn : (ent u x y).toNat < u.length := by omega
  have hgi := gi_lt hU hz
  have hi := gm_lt hU hgi hcn
  have e1 : gm u (lamF t u x y).toNat (gm u (gi u (lamF t u x y).toNat) (ent u x y).toNat) = (ent u x y).toNat := by
    rw [← gm_assoc hU hz hgi hcn, gm_gi hU hz, gm_zero hU hcn]
  have e2 : solF t u x y = ((gm u (gi u (lamF t u x y).toNat) (ent u x y).toNat : Nat) : Int) := by
    have := hU.1.bd (x := gi u (lamF t u x y).toNat) (y := (ent u x y).toNat) hgi hcn
    rw [← solF_def]
    unfold gm
    unfold gi at this ⊢
    omega
  have hlr := hU.1.len hz
  rcases indexOf_spec (row u (lamF t u x y).toNat) (ent u x y) with ⟨_, h2⟩ | ⟨j, h1, h2, h3, _⟩
  · exfalso
    apply h2 (gm u (gi u (lamF t u x y).toNat) (ent u x y).toNat) (by omega)
    rw [ent_def]
    have := hU.1.bd (x := (lamF t u x y).toNat) (y := gm u (gi u (lamF t u x y).toNat) (ent u x y).toNat) hz hi
    unfold gm at e1 this ⊢
    omega
  · rw [h2, e2]
    rw [ent_def] at h3
    have : j = gm u (gi u (lamF t u x y).toNat) (ent u x y).toNat := gm_inj hU hz (by omega) hi (by
      rw [e1]
      unfold gm
      rw [h3])
    rw [this]

theorem solBy1_any (F : Nat) (cap : Array Value) (f1 f2 : Int) (x y B : Nat) (w : World) (hB : w.cell? ⟨B, 0, none⟩ = some (.func (.func F) #[] cap))
    (hcall : ∀ (args : Array Value) (w : World), (callFunc F args).run Try.prog w = .ok (.enter F args) w)
    (hf : Calls Try.prog F (#[.int .i64 (x : Nat), .int .i64 (y : Nat)] ++ cap) w fun e w' => e = .returned (.tuple #[.int .i64 f1, .int .i64 f2]) ∧ Ext w w') :
    Calls Try.prog 141 #[.int .i64 x, .int .i64 y, .pointer (some ⟨B, 0, none⟩)] w fun e w' => e = .returned (.int .i64 f1) ∧ Ext w w' := by
  go_enter Try.func141, Try.ntmps141
  go_wp2_with fail
  refine hf.mono ?_
  rintro e w1 ⟨rfl, hx1⟩
  go_wp2
  go_ret
  exact ⟨rfl, hx1⟩

theorem solBy2_any (F : Nat) (cap : Array Value) (f1 f2 : Int) (x y B : Nat) (w : World) (hB : w.cell? ⟨B, 0, none⟩ = some (.func (.func F) #[] cap))
    (hcall : ∀ (args : Array Value) (w : World), (callFunc F args).run Try.prog w = .ok (.enter F args) w)
    (hf : Calls Try.prog F (#[.int .i64 (x : Nat), .int .i64 (y : Nat)] ++ cap) w fun e w' => e = .returned (.tuple #[.int .i64 f1, .int .i64 f2]) ∧ Ext w w') :
    Calls Try.prog 142 #[.int .i64 x, .int .i64 y, .pointer (some ⟨B, 0, none⟩)] w fun e w' => e = .returned (.int .i64 f2) ∧ Ext w w' := by
  go_enter Try.func142, Try.ntmps142
  go_wp2_with fail
  refine hf.mono ?_
  rintro e w1 ⟨rfl, hx1⟩
  go_wp2
  go_ret
  exact ⟨rfl, hx1⟩

theorem callSolBy1 (args : Array Value) (w : World) : (callFunc 141 args).run Try.prog w = .ok (.enter 141 args) w :=
  callFunc_enter Try.func141 (by kernel_rfl) rfl args w

theorem callSolBy2 (args : Array Value) (w : World) : (callFunc 142 args).run Try.prog w = .ok (.enter 142 args) w :=
  callFunc_enter Try.func142 (by kernel_rfl) rfl args w

/-- a struct of two tables in new memory is returned -/
def NewSol (T U : List (List Int)) (w : World) (e : Ending) (w' : World) : Prop := ∃ v y, e = .returned (.agg #[v, y]) ∧ OwnB w.heap.size w'.heap.size w' v y T U ∧ Ext w w'

set_option maxRecDepth 100000 in
theorem solutionBy_any (n : Nat) (f1 f2 : Nat → Nat → Int) (F : Nat) (cap : Array Value) (w : World) (hn : n ≤ 1048576)
    (hcall : ∀ (args : Array Value) (w : World), (callFunc F args).run Try.prog w = .ok (.enter F args) w)
    (hf : ∀ w1 x y, Ext w w1 → x < n → y < n → Calls Try.prog F (#[.int .i64 (x : Nat), .int .i64 (y : Nat)] ++ cap) w1 fun e w' => e = .returned (.tuple #[.int .i64 (f1 x y), .int .i64 (f2 x y)]) ∧ Ext w1 w') :
    Calls Try.prog 118 #[.int .i64 n, .func (.func F) #[] cap] w (NewSol (mkT n f1) (mkT n f2) w) := by
  have hX : Ext w ((w.alloc (.cells #[.func (.func F) #[] cap] 106)).alloc (.cells #[.slice none 0 0, .slice none 0 0] 41)) := ((Ext.refl _).alloc _).alloc _
  have b0 : ((w.alloc (.cells #[.func (.func F) #[] cap] 106)).alloc (.cells #[.slice none 0 0, .slice none 0 0] 41)).cell? ⟨w.heap.size, 0, none⟩ = some (.func (.func F) #[] cap) := by simp [go_sem]
  have r0 : ((w.alloc (.cells #[.func (.func F) #[] cap] 106)).alloc (.cells #[.slice none 0 0, .slice none 0 0] 41)).cell? ⟨w.heap.size + 1, 0, none⟩ = some (.slice none 0 0) := by simp [go_sem]
  have r1 : ((w.alloc (.cells #[.func (.func F) #[] cap] 106)).alloc (.cells #[.slice none 0 0, .slice none 0 0] 41)).cell? ⟨w.heap.size + 1, 1, none⟩ = some (.slice none 0 0) := by simp [go_sem]
  have q0 : ((w.alloc (.cells #[.func (.func F) #[] cap] 106)).alloc (.cells #[.slice none 0 0, .slice none 0 0] 41)).frozen? ⟨w.heap.size + 1, 0, none⟩ = false := by simp [go_sem]
  have q1 : ((w.alloc (.cells #[.func (.func F) #[] cap] 106)).alloc (.cells #[.slice none 0 0, .slice none 0 0] 41)).frozen? ⟨w.heap.size + 1, 1, none⟩ = false := by simp [go_sem]
  have z0 : w.heap.size + 2 ≤ ((w.alloc (.cells #[.func (.func F) #[] cap] 106)).alloc (.cells #[.slice none 0 0, .slice none 0 0] 41)).heap.size := by simp
  have HF := Lib.hid hf
  have HC := Lib.hid hcall
  have HL1 := Lib.hid (length_mkT n f1)
  have HL2 := Lib.hid (length_mkT n f2)
  clear hf hcall
  go_enter Try.func118, Try.ntmps118
  go_wp2_with fail
  generalize (w.alloc (.cells #[.func (.func F) #[] cap] 106)).alloc (.cells #[.slice none 0 0, .slice none 0 0] 41) = A at *
  refine (tableBy_any n f1 141 #[.pointer (some ⟨w.heap.size, 0, none⟩)] _ hn callSolBy1 (fun w1 x y h1 hx hy => by
    rw [app21]
    exact solBy1_any F cap (f1 x y) (f2 x y) x y w.heap.size w1 (h1.cell b0) HC.out (HF.out w1 x y (hX.trans h1) hx hy))).mono ?_
  rintro e w1 ⟨b1, c1, rfl, ho1, hx1⟩
  have b0' := hx1.cell b0
  have hX1 := hX.trans hx1
  have zz := hx1.size
  replace r0 := hx1.cell r0
  replace r1 := hx1.cell r1
  replace q0 := hx1.free q0 (by simp only []; omega)
  replace q1 := hx1.free q1 (by simp only []; omega)
  go_wp2_with fail
  refine (tableBy_any n f2 142 #[.pointer (some ⟨w.heap.size, 0, none⟩)] _ hn callSolBy2 (fun w2 x y h2 hx hy => by
    rw [app21]
    exact solBy2_any F cap (f1 x y) (f2 x y) x y w.heap.size w2 (h2.cell b0') HC.out (HF.out w2 x y (hX1.trans h2) hx hy))).mono ?_
  rintro e w2 ⟨b2, c2, rfl, ho2, hx2⟩
  have zz2 := hx2.size
  replace r0 := hx2.cell r0
  replace r1 := hx2.cell r1
  replace q0 := hx2.free q0 (by simp only []; omega)
  replace q1 := hx2.free q1 (by simp only []; omega)
  go_wp2
  refine bodyPost_ret (v := .agg #[.slice (some ⟨b1, 0, none⟩) (mkT n f1).length c1, .slice (some ⟨b2, 0, none⟩) (mkT n f2).length c2]) (by simp [results, Try.results118, go_sem, r0, r1]) rfl ⟨_, _, rfl, ⟨A.heap.size, w1.heap.size, w1.heap.size, w2.heap.size, by omega, by simp; omega, by omega, by simp, .inl (Nat.le_refl _), ((OwnV.ext (ho1.v (small_mkT hn _) c1) hx2 (Nat.le_refl _)).set2 (by omega) _ _), ((ho2.v (small_mkT hn _) c2).set2 (by omega) _ _)⟩, ((hX1.trans hx2).setNew (by simp only []; omega) _).setNew (by simp only []; omega) _⟩

theorem braceSolution1_any (t u : List (List Int)) (v y r : Value) (b5 c5 : Nat) (i j B C D : Nat) (w : World) (hC : w.cell? ⟨C, 0, none⟩ = some r) (hB1 : w.cell? ⟨B, 1, none⟩ = some y) (hD : w.cell? ⟨D, 0, none⟩ = some (.slice (some ⟨b5, 0, none⟩) u.length c5)) (hy : Rows w y u) (hr : Rows w r (mkT t.length (lamF t u))) (hi : IntsAt w b5 0 (backs u)) (hG : GroupOk t) (hU : GroupOk u) (hl : t.length = u.length) (hx : i < t.length) (hj : j < t.length) :
    Calls Try.prog 119 #[.int .i64 i, .int .i64 j, .pointer (some ⟨C, 0, none⟩), .pointer (some ⟨B, 0, none⟩), .pointer (some ⟨D, 0, none⟩)] w fun e w' => e = .returned (.tuple #[.int .i64 (lamF t u i j), .int .i64 (solF t u i j)]) ∧ Ext w w' := by
  obtain ⟨hlen2, b2, o2, c2, rfl, hc2⟩ := id hy
  obtain ⟨-, b4, o4, c4, rfl, hc4⟩ := id hr
  have h12 := hG.1.2.1
  have hlb := lamF_bd hG hU hl hx hj
  have hb := backF_ok hU (x := (lamF t u i j).toNat) (by omega)
  have i0 : backF u (lamF t u i j).toNat < (u.length : Int) := by omega
  have i1 := hb.1
  have iu : (i : Int) < (u.length : Int) := by omega
  have ju : (j : Int) < (u.length : Int) := by omega
  have lu : lamF t u i j < (u.length : Int) := by omega
  obtain ⟨d1, s1, m1, r1, l1, -⟩ := hc4.get (i := i) (by rw [length_mkT]; exact hx)
  have e1 := l1.ent (length_row_mkT _ _ _ hx) hj
  rw [ent_mkT _ _ _ _ hx hj] at e1
  rw [length_row_mkT _ _ _ hx] at r1
  rw [length_mkT] at hC
  obtain ⟨d2, s2, m2, r2, l2⟩ := hc2.read hU.1 rfl (x := i) (by omega)
  obtain ⟨f2, p1, p2⟩ := l2 j (by omega)
  obtain ⟨d3, s3, m3, r3, l3⟩ := hc2.read hU.1 rfl (x := (backF u (lamF t u i j).toNat).toNat) (by omega)
  obtain ⟨f3, p3, p4⟩ := l3 (ent u i j).toNat (by omega)
  rw [solF_def] at f3 p3 p4
  have ib := hi (lamF t u i j).toNat (by rw [length_backs]; omega)
  rw [ix_backs _ _ (by omega), Nat.zero_add] at ib
  clear l1 l2 l3 hG hU hl hc4 hr hb
  go_enter Try.func119, Try.ntmps119
  go_wp2
  go_quiet (fail)
  go_wp2
  go_ret2
  exact ⟨rfl, (Ext.refl _).drewN _⟩

theorem callBraceSolution1 (args : Array Value) (w : World) : (callFunc 119 args).run Try.prog w = .ok (.enter 119 args) w :=
  callFunc_enter Try.func119 (by kernel_rfl) rfl args w

set_option maxRecDepth 100000 in
set_option maxHeartbeats 1000000 in
theorem braceSolution_any (t u : List (List Int)) (v y : Value) (w : World) (hv : Rows w v t) (hy : Rows w y u) (hG : GroupOk t) (hU : GroupOk u) (hl : t.length = u.length) :
    Calls Try.prog 74 #[.agg #[v, y]] w (NewSol (mkT t.length (lamF t u)) (mkT t.length (solF t u)) w) := by
  obtain ⟨hlen, b, o, c, rfl, -⟩ := id hv
  obtain ⟨hlen2, b2, o2, c2, rfl, -⟩ := id hy
  have hX : Ext w ((w.alloc (.cells #[.slice (some ⟨b, o, none⟩) t.length c, .slice (some ⟨b2, o2, none⟩) u.length c2] 29)).alloc (.cells #[.slice none 0 0, .slice none 0 0] 41)) := ((Ext.refl _).alloc _).alloc _
  have k0 : ((w.alloc (.cells #[.slice (some ⟨b, o, none⟩) t.length c, .slice (some ⟨b2, o2, none⟩) u.length c2] 29)).alloc (.cells #[.slice none 0 0, .slice none 0 0] 41)).cell? ⟨w.heap.size, 0, none⟩ = some (.slice (some ⟨b, o, none⟩) t.length c) := by simp [go_sem]
  have k1 : ((w.alloc (.cells #[.slice (some ⟨b, o, none⟩) t.length c, .slice (some ⟨b2, o2, none⟩) u.length c2] 29)).alloc (.cells #[.slice none 0 0, .slice none 0 0] 41)).cell? ⟨w.heap.size, 1, none⟩ = some (.slice (some ⟨b2, o2, none⟩) u.length c2) := by simp [go_sem]
  have r0 : ((w.alloc (.cells #[.slice (some ⟨b, o, none⟩) t.length c, .slice (some ⟨b2, o2, none⟩) u.length c2] 29)).alloc (.cells #[.slice none 0 0, .slice none 0 0] 41)).cell? ⟨w.heap.size + 1, 0, none⟩ = some (.slice none 0 0) := by simp [go_sem]
  have r1 : ((w.alloc (.cells #[.slice (some ⟨b, o, none⟩) t.length c, .slice (some ⟨b2, o2, none⟩) u.length c2] 29)).alloc (.cells #[.slice none 0 0, .slice none 0 0] 41)).cell? ⟨w.heap.size + 1, 1, none⟩ = some (.slice none 0 0) := by simp [go_sem]
  have q0 : ((w.alloc (.cells #[.slice (some ⟨b, o, none⟩) t.length c, .slice (some ⟨b2, o2, none⟩) u.length c2] 29)).alloc (.cells #[.slice none 0 0, .slice none 0 0] 41)).frozen? ⟨w.heap.size + 1, 0, none⟩ = false := by simp [go_sem]
  have q1 : ((w.alloc (.cells #[.slice (some ⟨b, o, none⟩) t.length c, .slice (some ⟨b2, o2, none⟩) u.length c2] 29)).alloc (.cells #[.slice none 0 0, .slice none 0 0] 41)).frozen? ⟨w.heap.size + 1, 1, none⟩ = false := by simp [go_sem]
  have zA : w.heap.size + 2 ≤ ((w.alloc (.cells #[.slice (some ⟨b, o, none⟩) t.length c, .slice (some ⟨b2, o2, none⟩) u.length c2] 29)).alloc (.cells #[.slice none 0 0, .slice none 0 0] 41)).heap.size := by simp
  have h12 := hG.1.2.1
  have HG := Lib.hid hG
  have HU := Lib.hid hU
  have HL := Lib.hid hl
  have HLT := Lib.hid (length_mkT t.length (lamF t u))
  clear hG hU hl
  go_enter Try.func74, Try.ntmps74
  go_wp2_with fail
  generalize ((w.alloc (.cells #[.slice (some ⟨b, o, none⟩) t.length c, .slice (some ⟨b2, o2, none⟩) u.length c2] 29)).alloc (.cells #[.slice none 0 0, .slice none 0 0] 41)) = A at *
  refine (groupInverses_any u _ _ (hy.ext hX)).mono ?_
  rintro e w1 ⟨b5, c5, rfl, hi5, hx⟩
  have zz := Ext.size hx
  replace q0 := hx.free q0 (by simp only []; omega)
  replace q1 := hx.free q1 (by simp only []; omega)
  replace zA := Nat.le_trans zA zz
  replace hX := hX.trans hx
  replace k0 := hx.cell k0
  replace k1 := hx.cell k1
  replace r0 := hx.cell r0
  replace r1 := hx.cell r1
  clear hx zz
  have hx : Ext w1 (w1.alloc (.cells #[.slice (some ⟨b5, 0, none⟩) u.length c5] 26)) := (Ext.refl _).alloc _
  have bB := cell_new w1 (.slice (some ⟨b5, 0, none⟩) u.length c5) 26
  have zB : w1.heap.size < (w1.alloc (.cells #[.slice (some ⟨b5, 0, none⟩) u.length c5] 26)).heap.size := by simp
  have HI := Lib.hid (hi5.ext hx)
  clear hi5
  have zz := Ext.size hx
  replace q0 := hx.free q0 (by simp only []; omega)
  replace q1 := hx.free q1 (by simp only []; omega)
  replace zA := Nat.le_trans zA zz
  replace hX := hX.trans hx
  replace k0 := hx.cell k0
  replace k1 := hx.cell k1
  replace r0 := hx.cell r0
  replace r1 := hx.cell r1
  clear hx zz
  go_wp2_with fail
  generalize w1.alloc (.cells #[.slice (some ⟨b5, 0, none⟩) u.length c5] 26) = B at *
  refine (lambdaTable_any t u _ _ _ (hv.ext hX) (hy.ext hX) HG.out HU.out HL.out).mono ?_
  rintro e w2 ⟨b4, c4, rfl, ho4, hx⟩
  rw [HLT.out]
  replace bB := hx.cell bB
  have hrr := (ho4.rowsAt (small_mkT (by omega) _)).rows (by rw [HLT.out]; omega) c4
  rw [HLT.out] at hrr
  have HI2 := Lib.hid (HI.out.ext hx)
  clear ho4
  have zz := Ext.size hx
  replace q0 := hx.free q0 (by simp only []; omega)
  replace q1 := hx.free q1 (by simp only []; omega)
  replace zA := Nat.le_trans zA zz
  replace hX := hX.trans hx
  replace k0 := hx.cell k0
  replace k1 := hx.cell k1
  replace r0 := hx.cell r0
  replace r1 := hx.cell r1
  clear hx zz
  have hx : Ext w2 (w2.alloc (.cells #[.slice (some ⟨b4, 0, none⟩) t.length c4] 22)) := (Ext.refl _).alloc _
  have bC := cell_new w2 (.slice (some ⟨b4, 0, none⟩) t.length c4) 22
  replace bB := hx.cell bB
  have HR := Lib.hid (hrr.ext hx)
  have HI3 := Lib.hid (HI2.out.ext hx)
  clear hrr
  have zz := Ext.size hx
  replace q0 := hx.free q0 (by simp only []; omega)
  replace q1 := hx.free q1 (by simp only []; omega)
  replace zA := Nat.le_trans zA zz
  replace hX := hX.trans hx
  replace k0 := hx.cell k0
  replace k1 := hx.cell k1
  replace r0 := hx.cell r0
  replace r1 := hx.cell r1
  clear hx zz
  go_wp2_with fail
  generalize w2.alloc (.cells #[.slice (some ⟨b4, 0, none⟩) t.length c4] 22) = w3 at *
  have zA3 := zA
  refine (solutionBy_any t.length (lamF t u) (solF t u) 119 #[.pointer (some ⟨w2.heap.size, 0, none⟩), .pointer (some ⟨w.heap.size, 0, none⟩), .pointer (some ⟨w1.heap.size, 0, none⟩)] _ (by omega) callBraceSolution1 (fun w4 x z h4 hx hz => by
    rw [app23]
    exact braceSolution1_any t u (.slice none 0 0) _ _ b5 c5 x z w.heap.size w2.heap.size w1.heap.size w4 (h4.cell bC) (h4.cell k1) (h4.cell bB) (hy.ext (hX.trans h4)) (HR.out.ext h4) (HI3.out.ext h4) HG.out HU.out HL.out hx hz)).mono ?_
  rintro e w5 ⟨v5, y5, rfl, ho5, hx⟩
  obtain ⟨⟨-, a5, c6, rfl, -⟩, ⟨-, a6, c7, rfl, -⟩⟩ := ho5.open
  have zz := Ext.size hx
  replace q0 := hx.free q0 (by simp only []; omega)
  replace q1 := hx.free q1 (by simp only []; omega)
  replace zA := Nat.le_trans zA zz
  replace hX := hX.trans hx
  replace k0 := hx.cell k0
  replace k1 := hx.cell k1
  replace r0 := hx.cell r0
  replace r1 := hx.cell r1
  clear hx zz
  go_wp2
  refine bodyPost_ret (v := .agg #[.slice a5 (mkT t.length (lamF t u)).length c6, .slice a6 (mkT t.length (solF t u)).length c7]) (by simp [results, Try.results74, go_sem, r0, r1]) rfl ⟨_, _, rfl, ?_, (hX.setNew (by simp only []; omega) _).setNew (by simp only []; omega) _⟩
  have ho6 := (ho5.keep (w' := (w5.setCell ⟨w.heap.size + 1, 0, none⟩ (.slice a5 (mkT t.length (lamF t u)).length c6)).setCell ⟨w.heap.size + 1, 1, none⟩ (.slice a6 (mkT t.length (solF t u)).length c7)) (fun k h1 h2 => by rw [Below.heap_setCell _ _ _ _ (by simp only []; omega), Below.heap_setCell _ _ _ _ (by simp only []; omega)])).mono (lo' := w.heap.size) (hi' := w5.heap.size) (by omega) (Nat.le_refl _)
  simpa using ho6

set_option maxRecDepth 100000 in
set_option maxHeartbeats 1000000 in
theorem BraceSolution_impl (t u : List (List Int)) (v y : Value) (w : World) (hv : Rows w v t) (hy : Rows w y u) :
    Calls Try.prog 30 #[.agg #[v, y]] w (NewBC (ifB t u (mkT t.length (lamF t u)) []) (ifB t u (mkT t.length (solF t u)) []) (codeB t u) w) := by
  obtain ⟨hlen, b, o, c, rfl, -⟩ := id hv
  obtain ⟨hlen2, b2, o2, c2, rfl, -⟩ := id hy
  have hX : Ext w ((w.alloc (.cells #[.slice (some ⟨b, o, none⟩) t.length c, .slice (some ⟨b2, o2, none⟩) u.length c2] 29)).alloc (.cells #[.slice none 0 0, .slice none 0 0] 41)) := ((Ext.refl _).alloc _).alloc _
  have k0 : ((w.alloc (.cells #[.slice (some ⟨b, o, none⟩) t.length c, .slice (some ⟨b2, o2, none⟩) u.length c2] 29)).alloc (.cells #[.slice none 0 0, .slice none 0 0] 41)).cell? ⟨w.heap.size, 0, none⟩ = some (.slice (some ⟨b, o, none⟩) t.length c) := by simp [go_sem]
  have k1 : ((w.alloc (.cells #[.slice (some ⟨b, o, none⟩) t.length c, .slice (some ⟨b2, o2, none⟩) u.length c2] 29)).alloc (.cells #[.slice none 0 0, .slice none 0 0] 41)).cell? ⟨w.heap.size, 1, none⟩ = some (.slice (some ⟨b2, o2, none⟩) u.length c2) := by simp [go_sem]
  have r0 : ((w.alloc (.cells #[.slice (some ⟨b, o, none⟩) t.length c, .slice (some ⟨b2, o2, none⟩) u.length c2] 29)).alloc (.cells #[.slice none 0 0, .slice none 0 0] 41)).cell? ⟨w.heap.size + 1, 0, none⟩ = some (.slice none 0 0) := by simp [go_sem]
  have r1 : ((w.alloc (.cells #[.slice (some ⟨b, o, none⟩) t.length c, .slice (some ⟨b2, o2, none⟩) u.length c2] 29)).alloc (.cells #[.slice none 0 0, .slice none 0 0] 41)).cell? ⟨w.heap.size + 1, 1, none⟩ = some (.slice none 0 0) := by simp [go_sem]
  have q0 : ((w.alloc (.cells #[.slice (some ⟨b, o, none⟩) t.length c, .slice (some ⟨b2, o2, none⟩) u.length c2] 29)).alloc (.cells #[.slice none 0 0, .slice none 0 0] 41)).frozen? ⟨w.heap.size + 1, 0, none⟩ = false := by simp [go_sem]
  have q1 : ((w.alloc (.cells #[.slice (some ⟨b, o, none⟩) t.length c, .slice (some ⟨b2, o2, none⟩) u.length c2] 29)).alloc (.cells #[.slice none 0 0, .slice none 0 0] 41)).frozen? ⟨w.heap.size + 1, 1, none⟩ = false := by simp [go_sem]
  have zA : w.heap.size + 2 ≤ ((w.alloc (.cells #[.slice (some ⟨b, o, none⟩) t.length c, .slice (some ⟨b2, o2, none⟩) u.length c2] 29)).alloc (.cells #[.slice none 0 0, .slice none 0 0] 41)).heap.size := by simp
  cases hb : braceB t u with
  | false =>
    rw [ifB_no hb, ifB_no hb, codeB_no hb]
    go_enter Try.func30, Try.ntmps30
    go_wp2_with fail
    generalize ((w.alloc (.cells #[.slice (some ⟨b, o, none⟩) t.length c, .slice (some ⟨b2, o2, none⟩) u.length c2] 29)).alloc (.cells #[.slice none 0 0, .slice none 0 0] 41)) = A at *
    refine (IsBrace_impl t u _ _ _ (hv.ext hX) (hy.ext hX)).mono ?_
    rintro e w2 ⟨rfl, hx⟩
    rw [hb]
    have zz := Ext.size hx
    replace q0 := hx.free q0 (by simp only []; omega)
    replace q1 := hx.free q1 (by simp only []; omega)
    replace zA := Nat.le_trans zA zz
    replace hX := hX.trans hx
    replace k0 := hx.cell k0
    replace k1 := hx.cell k1
    replace r0 := hx.cell r0
    replace r1 := hx.cell r1
    clear hx zz
    go_wp2
    refine bodyPost_ret (v := .tuple #[.agg #[.slice none 0 0, .slice none 0 0], .int .i64 1]) (by simp [results, Try.results30, go_sem, r0, r1]) rfl ⟨_, _, rfl, OwnB.nil _ _ _ (by simp; omega), (hX.setNew (by simp only []; omega) _).setNew (by simp only []; omega) _⟩
  | true =>
    obtain ⟨hG, hU, hL⟩ := braceB_ok hb
    rw [ifB_yes hb, ifB_yes hb, codeB_yes hb]
    have HG := Lib.hid hG
    have HU := Lib.hid hU
    have HL := Lib.hid hL
    have h12 := hG.1.2.1
    clear hG hU hL
    go_enter Try.func30, Try.ntmps30
    go_wp2_with fail
    generalize ((w.alloc (.cells #[.slice (some ⟨b, o, none⟩) t.length c, .slice (some ⟨b2, o2, none⟩) u.length c2] 29)).alloc (.cells #[.slice none 0 0, .slice none 0 0] 41)) = A at *
    refine (IsBrace_impl t u _ _ _ (hv.ext hX) (hy.ext hX)).mono ?_
    rintro e w2 ⟨rfl, hx⟩
    rw [hb]
    have zz := Ext.size hx
    replace q0 := hx.free q0 (by simp only []; omega)
    replace q1 := hx.free q1 (by simp only []; omega)
    replace zA := Nat.le_trans zA zz
    replace hX := hX.trans hx
    replace k0 := hx.cell k0
    replace k1 := hx.cell k1
    replace r0 := hx.cell r0
    replace r1 := hx.cell r1
    clear hx zz
    clear hb
    have zA3 := zA
    go_wp2_with fail
    refine (braceSolution_any t u _ _ _ (hv.ext hX) (hy.ext hX) HG.out HU.out HL.out).mono ?_
    rintro e w5 ⟨v5, y5, rfl, ho5, hx⟩
    obtain ⟨⟨-, a5, c6, rfl, -⟩, ⟨-, a6, c7, rfl, -⟩⟩ := ho5.open
    have zz := Ext.size hx
    replace q0 := hx.free q0 (by simp only []; omega)
    replace q1 := hx.free q1 (by simp only []; omega)
    replace zA := Nat.le_trans zA zz
    replace hX := hX.trans hx
    replace k0 := hx.cell k0
    replace k1 := hx.cell k1
    replace r0 := hx.cell r0
    replace r1 := hx.cell r1
    clear hx zz
    go_wp2
    refine bodyPost_ret (v := .tuple #[.agg #[.slice a5 (mkT t.length (lamF t u)).length c6, .slice a6 (mkT t.length (solF t u)).length c7], .int .i64 0]) (by simp [results, Try.results30, go_sem, r0, r1]) rfl ⟨_, _, rfl, ?_, (hX.setNew (by simp only []; omega) _).setNew (by simp only []; omega) _⟩
    have ho6 := (ho5.keep (w' := (w5.setCell ⟨w.heap.size + 1, 0, none⟩ (.slice a5 (mkT t.length (lamF t u)).length c6)).setCell ⟨w.heap.size + 1, 1, none⟩ (.slice a6 (mkT t.length (solF t u)).length c7)) (fun k h1 h2 => by rw [Below.heap_setCell _ _ _ _ (by simp only []; omega), Below.heap_setCell _ _ _ _ (by simp only []; omega)])).mono (lo' := w.heap.size) (hi' := w5.heap.size) (by omega) (Nat.le_refl _)
    simpa using ho6
end Go.Proofs.Ytjcpeenalbgacaa
