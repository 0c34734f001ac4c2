/-
  Contracts of the reference's functions on pair maps: l02Map, l02Do.
-/
import Derived.BigRegion
import Derived.Test.YtjfjpngajboidaaGreatKx9
namespace Go.Proofs.YtjfjpngajboidaaGreat
set_option linter.unusedVariables false
set_option linter.unusedSimpArgs false
open Go.RowKit
attribute [local go_sem ↓] Go.wp_at_zero Go.wp_at_succ
open Go.Deep

set_option maxRecDepth 100000 in
set_option maxHeartbeats 1000000 in
theorem l02Map_any (L S : List (List Int)) (v y : Value) (w : World) (hv : Rows w v L) (hy : Rows w y S) :
    Calls Tryz.prog 93 #[.agg #[v, y]] w fun e w' => e = .returned (.bool (pairB L S)) ∧ Ext w w' := by
  obtain ⟨hl1, b, o, c, rfl, -⟩ := id hv
  obtain ⟨hl2, b2, o2, c2, rfl, -⟩ := id hy
  have hx0 : Ext w (w.alloc (.cells #[.slice (some ⟨b, o, none⟩) L.length c, .slice (some ⟨b2, o2, none⟩) S.length c2] 26)) := (Ext.refl _).alloc _
  have k0 := cell_new2a w (.slice (some ⟨b, o, none⟩) L.length c) (.slice (some ⟨b2, o2, none⟩) S.length c2) 26
  have k1 := cell_new2b w (.slice (some ⟨b, o, none⟩) L.length c) (.slice (some ⟨b2, o2, none⟩) S.length c2) 26
  have HV := Lib.hid (hv.ext hx0)
  have HY := Lib.hid (hy.ext hx0)
  rw [pairB_def]
  clear hv hy
  go_enter Tryz.func93, Tryz.ntmps93
  go_wp2_with fail
  generalize (w.alloc (.cells #[.slice (some ⟨b, o, none⟩) L.length c, .slice (some ⟨b2, o2, none⟩) S.length c2] 26)) = w1 at *
  refine (l01Table_any L _ _ HV.out).mono ?_
  rintro e w2 ⟨rfl, rfl⟩
  cases h1 : tableB L with
  | false =>
    go_wp2_with fail
    go_ret
    exact ⟨by rw [h1]; rfl, hx0⟩
  | true =>
    go_wp2_with fail
    refine (l01Table_any S _ _ HY.out).mono ?_
    rintro e w2 ⟨rfl, rfl⟩
    cases h2 : tableB S with
    | false =>
      go_wp2_with fail
      go_ret
      exact ⟨by rw [h1, h2]; rfl, hx0⟩
    | true =>
      go_wp2_with fail
      go_ret
      have hb : ((L.length : Int) == (S.length : Int)) = decide (L.length = S.length) := by rw [Bool.eq_iff_iff]; simp [Int.natCast_inj]
      exact ⟨by rw [h1, h2]; exact congrArg (fun q => Ending.returned (.bool q)) hb, hx0⟩

set_option maxRecDepth 100000 in
set_option maxHeartbeats 4000000 in
theorem l02Do_any (L S : List (List Int)) (p : List Int) (k : Nat) (v y u : Value) (w : World) (hv : Rows w v L) (hy : Rows w y S) (hu : Ints w u p) (hP : PairOk L S) (hp : WordOk L.length p) (hk : k + 1 < p.length) :
    Calls Tryz.prog 66 #[.agg #[v, y], u, .int .i64 k] w (NewI (moveL (mulN L) (mulN S) p k) w) := by
  obtain ⟨-, b, o, c, rfl, hvc⟩ := id hv
  obtain ⟨-, b2, o2, c2, rfl, hyc⟩ := id hy
  obtain ⟨hpl, b3, o3, c3, rfl, hpc⟩ := id hu
  have h12 := hP.l.2.1
  rw [hP.len]
  have hx0 : Ext w (w.alloc (.cells #[.slice (some ⟨b, o, none⟩) L.length c, .slice (some ⟨b2, o2, none⟩) L.length c2] 26)) := (Ext.refl _).alloc _
  have k0 := cell_new2a w (.slice (some ⟨b, o, none⟩) L.length c) (.slice (some ⟨b2, o2, none⟩) L.length c2) 26
  have k1 := cell_new2b w (.slice (some ⟨b, o, none⟩) L.length c) (.slice (some ⟨b2, o2, none⟩) L.length c2) 26
  obtain ⟨e1, l1⟩ := hp.nat (i := k) (by omega)
  obtain ⟨e2, l2⟩ := hp.nat (i := k + 1) (by omega)
  have hL := hP.ln l1 l2
  have hS := hP.sn l1 l2
  obtain ⟨x, hx⟩ : ∃ x, x = (ix p k).toNat := ⟨_, rfl⟩
  obtain ⟨z, hz⟩ : ∃ z, z = (ix p (k + 1)).toNat := ⟨_, rfl⟩
  rw [← hx] at e1 l1 hL hS
  rw [← hz] at e2 l2 hL hS
  have HU := Lib.hid (hu.ext hx0)
  have p0 := hx0.cell (hpc k (by omega))
  have p1 := hx0.cell (hpc (k + 1) (by omega))
  rw [e1] at p0
  rw [e2] at p1
  obtain ⟨d1, s1, m1, r1, i1, -⟩ := (hvc.ext hx0).get (i := x) l1
  obtain ⟨f1, g1, j1, t1, u1, -⟩ := (hyc.ext hx0).get (i := x) (by rw [hP.len]; exact l1)
  have a1 := i1.ent (hP.rowL l1) (y := z) l2
  have a2 := u1.ent (hP.rowS l1) (y := z) l2
  rw [hP.rowL l1] at r1
  rw [hP.rowS l1] at t1
  rw [hL.1] at a1
  rw [hS.1] at a2
  have HM := Lib.hid (show moveL (mulN L) (mulN S) p k = (p.set k ((mulN L x z : Nat) : Int)).set (k + 1) ((mulN S x z : Nat) : Int) by unfold moveL; rw [← hx, ← hz])
  clear hv hy hu hvc hyc hpc hP hp hx hz
  obtain ⟨n, hn⟩ : ∃ n, n = L.length := ⟨_, rfl⟩
  rw [← hn] at h12 hx0 k0 k1 HU p0 p1 r1 t1 a1 a2 l1 l2 ⊢
  have HN := Lib.hid hn
  clear hn
  obtain ⟨X, hX⟩ : ∃ q, q = mulN L x z := ⟨_, rfl⟩
  obtain ⟨Z, hZ⟩ : ∃ q, q = mulN S x z := ⟨_, rfl⟩
  rw [← hX] at a1 HM
  rw [← hZ] at a2 HM
  clear hX hZ
  go_enter Tryz.func66, Tryz.ntmps66
  go_wp2_with fail
  generalize (w.alloc (.cells #[.slice (some ⟨b, o, none⟩) n c, .slice (some ⟨b2, o2, none⟩) n c2] 26)) = w1 at *
  refine (l01Own_any p _ _ HU.out).mono ?_
  rintro e w2 ⟨b4, c4, rfl, ho, hx2⟩
  have FK := Lib.hid (show ∀ w' : World, Ext w1 w' → w'.cell? ⟨w.heap.size, 0, none⟩ = some (.slice (some ⟨b, o, none⟩) n c) ∧ w'.cell? ⟨w.heap.size, 1, none⟩ = some (.slice (some ⟨b2, o2, none⟩) n c2) ∧ w'.cell? ⟨b, o + x, none⟩ = some (.slice (some ⟨d1, s1, none⟩) n m1) ∧ w'.cell? ⟨b2, o2 + x, none⟩ = some (.slice (some ⟨f1, g1, none⟩) n j1) ∧ w'.cell? ⟨d1, s1 + z, none⟩ = some (.int .i64 X) ∧ w'.cell? ⟨f1, g1 + z, none⟩ = some (.int .i64 Z) ∧ w'.cell? ⟨b3, o3 + k, none⟩ = some (.int .i64 x) ∧ w'.cell? ⟨b3, o3 + (k + 1), none⟩ = some (.int .i64 z) from fun w' hx => ⟨hx.cell k0, hx.cell k1, hx.cell r1, hx.cell t1, hx.cell a1, hx.cell a2, hx.cell p0, hx.cell p1⟩)
  clear k0 k1 r1 t1 a1 a2 p0 p1
  obtain ⟨k0, k1, r1, t1, a1, a2, p0, p1⟩ := FK.out w2 hx2
  have q0 := ho.2.2.1 k (by omega)
  have g0 := ho.2.2.2 k (by omega)
  rw [Nat.zero_add] at q0 g0
  clear i1 u1 hL hS
  go_wp2
  go_region
  have ho3 : OwnI w1.heap.size w2.heap.size (w2.setCell ⟨b4, k, none⟩ (.int .i64 X)).drew b4 0 (p.set k X) := by
    have h := ho.put (j := k) (by omega) X
    rw [Nat.zero_add] at h
    exact h.block rfl
  have hx3 : Ext w1 (w2.setCell ⟨b4, k, none⟩ (.int .i64 X)).drew := (hx2.setNew ho.1 _).drew
  have hz3 : (w2.setCell ⟨b4, k, none⟩ (.int .i64 X)).drew.heap.size = w2.heap.size := by simp
  generalize (w2.setCell ⟨b4, k, none⟩ (.int .i64 X)).drew = w3 at *
  clear k0 k1 r1 t1 a1 a2 p0 p1 q0 g0 hx2 ho
  obtain ⟨k0, k1, r1, t1, a1, a2, p0, p1⟩ := FK.out w3 hx3
  have q0 := ho3.2.2.1 (k + 1) (by simp; omega)
  have g0 := ho3.2.2.2 (k + 1) (by simp; omega)
  rw [Nat.zero_add] at q0 g0
  go_wp2
  go_region
  have ho4 : OwnI w1.heap.size w2.heap.size (w3.setCell ⟨b4, k + 1, none⟩ (.int .i64 Z)).drew b4 0 ((p.set k X).set (k + 1) Z) := by
    have h := ho3.put (j := k + 1) (by simp; omega) Z
    rw [Nat.zero_add] at h
    exact h.block rfl
  have hx4 : Ext w1 (w3.setCell ⟨b4, k + 1, none⟩ (.int .i64 Z)).drew := (hx3.setNew ho3.1 _).drew
  have hz4 : (w3.setCell ⟨b4, k + 1, none⟩ (.int .i64 Z)).drew.heap.size = w2.heap.size := by simp [hz3]
  generalize (w3.setCell ⟨b4, k + 1, none⟩ (.int .i64 Z)).drew = w4 at *
  clear k0 k1 r1 t1 a1 a2 p0 p1 q0 g0 hx3 ho3
  go_wp2
  go_ret
  rw [HM.out]
  have hzz := hx0.size
  refine ⟨b4, c4, by simp, ho4.mono hzz (by omega), hx0.trans hx4⟩
end Go.Proofs.YtjfjpngajboidaaGreat


namespace Go.Proofs.YtjfjpngajboidaaGreat
set_option linter.unusedVariables false
set_option linter.unusedSimpArgs false

structure InvS (n : Nat) (f g : Nat → Nat → Nat) : Prop where
  fb : ∀ x, x < n → ∀ y, y < n → f x y < n
  gb : ∀ x, x < n → ∀ y, y < n → g x y < n
  inj : ∀ x, x < n → ∀ y, y < n → ∀ z, z < n → f x y = f x z → y = z
  inv : ∀ x, x < n → ∀ y, y < n → f (f x y) (g x y) = x ∧ g (f x y) (g x y) = y
  eq : ∀ x, x < n → ∀ y, y < n → ∀ z, z < n → f (f x y) (f (g x y) z) = f x (f y z)

def LtN (n : Nat) (w : List Nat) : Prop := ∀ x, x ∈ w → x < n
theorem LtN.nil (n : Nat) : LtN n [] := fun x hx => by cases hx
theorem LtN.cons {n x : Nat} {w : List Nat} (hx : x < n) (h : LtN n w) : LtN n (x :: w) := fun y hy => by
  rcases List.mem_cons.1 hy with rfl | hy
  · exact hx
  · exact h y hy
theorem LtN.head {n x : Nat} {w : List Nat} (h : LtN n (x :: w)) : x < n := h x List.mem_cons_self
theorem LtN.tail {n x : Nat} {w : List Nat} (h : LtN n (x :: w)) : LtN n w := fun y hy => h y (List.mem_cons_of_mem _ hy)

section
variable (f g : Nat → Nat → Nat)
inductive StN : List Nat → List Nat → Prop
  | here (x y : Nat) (q : List Nat) : StN (x :: y :: q) (f x y :: g x y :: q)
  | later (x : Nat) {u v : List Nat} : StN u v → StN (x :: u) (x :: v)
inductive EqN (n : Nat) (u : List Nat) : List Nat → Prop
  | refl : EqN n u u
  | on (v w : List Nat) : EqN n u v → LtN n v → LtN n w → StN f g v w → EqN n u w
  | back (v w : List Nat) : EqN n u v → LtN n v → LtN n w → StN f g w v → EqN n u w
def cum : List Nat → List Nat
  | [] => []
  | x :: w => x :: (cum w).map (f x)
end

section
variable {n : Nat} {f g : Nat → Nat → Nat}
theorem length_cum (w : List Nat) : (cum f w).length = w.length := by
  induction w with
  | nil => rfl
  | cons x w ih => simp [cum, ih]
theorem EqN.trans {u v w : List Nat} (h : EqN f g n u v) (k : EqN f g n v w) : EqN f g n u w := by
  induction k with
  | refl => exact h
  | on a b _ h1 h2 h3 ih => exact .on a b ih h1 h2 h3
  | back a b _ h1 h2 h3 ih => exact .back a b ih h1 h2 h3
theorem EqN.symm {u v : List Nat} (h : EqN f g n u v) : EqN f g n v u := by
  induction h with
  | refl => exact .refl
  | on a b _ h1 h2 h3 ih => exact (EqN.back b a .refl h2 h1 h3).trans ih
  | back a b _ h1 h2 h3 ih => exact (EqN.on b a .refl h2 h1 h3).trans ih
theorem EqN.later {u v : List Nat} {x : Nat} (hx : x < n) (h : EqN f g n u v) : EqN f g n (x :: u) (x :: v) := by
  induction h with
  | refl => exact .refl
  | on a b _ h1 h2 h3 ih => exact .on _ _ ih (.cons hx h1) (.cons hx h2) (.later x h3)
  | back a b _ h1 h2 h3 ih => exact .back _ _ ih (.cons hx h1) (.cons hx h2) (.later x h3)
theorem EqN.lt {u v : List Nat} (h : EqN f g n u v) (hu : LtN n u) : LtN n v := by
  induction h with
  | refl => exact hu
  | on a b _ _ h2 _ _ => exact h2
  | back a b _ _ h2 _ _ => exact h2
variable (h : InvS n f g)
include h
theorem StN.lt {u v : List Nat} (k : StN f g u v) : LtN n u → LtN n v := by
  induction k with
  | here x y q =>
    intro hu
    have hx := hu.head
    have hy := hu.tail.head
    exact .cons (h.fb x hx y hy) (.cons (h.gb x hx y hy) hu.tail.tail)
  | later x _ ih => intro hu; exact .cons hu.head (ih hu.tail)
theorem cum_lt {w : List Nat} (hw : LtN n w) : LtN n (cum f w) := by
  induction w with
  | nil => exact .nil n
  | cons x w ih =>
    refine .cons hw.head fun y hy => ?_
    obtain ⟨z, hz, rfl⟩ := List.mem_map.1 hy
    exact h.fb x hw.head z (ih hw.tail z hz)
theorem StN.perm {u v : List Nat} (k : StN f g u v) : LtN n u → (cum f u).Perm (cum f v) := by
  induction k with
  | here x y q =>
    intro hu
    have hx := hu.head
    have hy := hu.tail.head
    obtain ⟨i1, i2⟩ := h.inv x hx y hy
    have hq := cum_lt h hu.tail.tail
    simp only [cum, List.map_cons, List.map_map]
    rw [i1]
    have e : (cum f q).map (f (f x y) ∘ f (g x y)) = (cum f q).map (f x ∘ f y) := List.map_congr_left fun z hz => h.eq x hx y hy z (hq z hz)
    rw [e]
    exact List.Perm.swap _ _ _
  | later x _ ih =>
    intro hu
    exact List.Perm.cons x ((ih hu.tail).map (f x))
theorem EqN.perm {u v : List Nat} (k : EqN f g n u v) : (cum f u).Perm (cum f v) := by
  induction k with
  | refl => exact List.Perm.refl _
  | on a b _ h1 h2 h3 ih => exact ih.trans (h3.perm h h1)
  | back a b _ h1 h2 h3 ih => exact ih.trans (h3.perm h h2).symm
theorem first_letter : ∀ {w : List Nat}, LtN n w → ∀ x, x ∈ cum f w → ∃ w', EqN f g n w (x :: w') ∧ LtN n w' ∧ w'.length + 1 = w.length := by
  intro w
  induction w with
  | nil => intro _ x hx; cases hx
  | cons a s ih =>
    intro hw x hx
    simp only [cum] at hx
    rcases List.mem_cons.1 hx with rfl | hx
    · exact ⟨s, .refl, hw.tail, rfl⟩
    · obtain ⟨y, hy, rfl⟩ := List.mem_map.1 hx
      obtain ⟨s', h1, h2, h3⟩ := ih hw.tail y hy
      have hyn := cum_lt h hw.tail y hy
      refine ⟨g a y :: s', ?_, .cons (h.gb a hw.head y hyn) h2, by simp; omega⟩
      exact .on _ _ (h1.later hw.head) (.cons hw.head (.cons hyn h2)) (.cons (h.fb a hw.head y hyn) (.cons (h.gb a hw.head y hyn) h2)) (.here a y s')
theorem onto (x z : Nat) (hx : x < n) (hz : z < n) : ∃ y, y < n ∧ f x y = z := by
  have hnd : ((List.range n).map (f x)).Nodup := nodup_map_on List.nodup_range fun a ha b hb e => h.inj x hx a (List.mem_range.1 ha) b (List.mem_range.1 hb) e
  have hsub : ∀ y, y ∈ (List.range n).map (f x) → y ∈ List.range n := fun y hy => by
    obtain ⟨a, ha, rfl⟩ := List.mem_map.1 hy
    exact List.mem_range.2 (h.fb x hx a (List.mem_range.1 ha))
  obtain ⟨y, hy, e⟩ := List.mem_map.1 ((pigeon _ _ hnd hsub (by simp)).1 z (List.mem_range.2 hz))
  exact ⟨y, List.mem_range.1 hy, e⟩
theorem map_inj {x : Nat} (hx : x < n) : ∀ {a b : List Nat}, LtN n a → LtN n b → a.map (f x) = b.map (f x) → a = b := by
  intro a
  induction a with
  | nil => intro b _ _ e; cases b with
    | nil => rfl
    | cons _ _ => simp at e
  | cons p a ih => intro b ha hb e; cases b with
    | nil => simp at e
    | cons q b =>
      simp only [List.map_cons, List.cons.injEq] at e
      rw [h.inj x hx p ha.head q hb.head e.1, ih ha.tail hb.tail e.2]
theorem map_onto {x : Nat} (hx : x < n) : ∀ {c : List Nat}, LtN n c → ∃ b, LtN n b ∧ b.map (f x) = c := by
  intro c
  induction c with
  | nil => intro _; exact ⟨[], .nil n, rfl⟩
  | cons z c ih =>
    intro hc
    obtain ⟨b, h1, h2⟩ := ih hc.tail
    obtain ⟨y, h3, h4⟩ := onto h x z hx hc.head
    exact ⟨y :: b, .cons h3 h1, by rw [List.map_cons, h4, h2]⟩
theorem perm_map {x : Nat} (hx : x < n) {a b : List Nat} (ha : LtN n a) (hb : LtN n b) (k : (a.map (f x)).Perm (b.map (f x))) : a.Perm b := by
  classical
  rw [List.perm_iff_count] at k ⊢
  intro z
  by_cases hz : z < n
  · have e : ∀ l, LtN n l → List.count (f x z) (l.map (f x)) = List.count z l := by
      intro l
      induction l with
      | nil => intro _; rfl
      | cons q l ih =>
        intro hl
        rw [List.map_cons, List.count_cons, List.count_cons, ih hl.tail]
        congr 1
        by_cases e : q = z
        · subst e; simp
        · have : ¬ f x q = f x z := fun e2 => e (h.inj x hx q hl.head z hz e2)
          simp [e, this]
    rw [← e a ha, ← e b hb]
    exact k _
  · rw [List.count_eq_zero.2 (fun m => hz (ha z m)), List.count_eq_zero.2 (fun m => hz (hb z m))]
theorem cum_inj : ∀ {u v : List Nat}, LtN n u → LtN n v → cum f u = cum f v → u = v := by
  intro u
  induction u with
  | nil => intro v _ _ e; cases v with
    | nil => rfl
    | cons _ _ => simp [cum] at e
  | cons x u ih => intro v hu hv e; cases v with
    | nil => simp [cum] at e
    | cons y v =>
      simp only [cum, List.cons.injEq] at e
      obtain ⟨rfl, e⟩ := e
      rw [ih hu.tail hv.tail (map_inj h hu.head (cum_lt h hu.tail) (cum_lt h hv.tail) e)]
theorem cum_onto : ∀ {k : Nat} {c : List Nat}, c.length = k → LtN n c → ∃ w, LtN n w ∧ cum f w = c := by
  intro k
  induction k with
  | zero =>
    intro c hk _
    rw [List.length_eq_zero_iff.1 hk]
    exact ⟨[], .nil n, rfl⟩
  | succ k ih =>
    intro c hk hc
    cases c with
    | nil => simp at hk
    | cons x c =>
      obtain ⟨b, h1, h2⟩ := map_onto h hc.head hc.tail
      have hb : b.length = k := by
        have := congrArg List.length h2
        simp at this hk
        omega
      obtain ⟨w, h3, h4⟩ := ih hb h1
      exact ⟨x :: w, .cons hc.head h3, by simp only [cum]; rw [h4, h2]⟩
theorem eqN_of_perm : ∀ {k : Nat} {u v : List Nat}, u.length = k → LtN n u → LtN n v → (cum f u).Perm (cum f v) → EqN f g n u v := by
  intro k
  induction k with
  | zero =>
    intro u v hk _ _ hp
    have hl := hp.length_eq
    rw [length_cum, length_cum, hk] at hl
    rw [List.length_eq_zero_iff.1 hk, List.length_eq_zero_iff.1 hl.symm]
    exact .refl
  | succ k ih =>
    intro u v hk hu hv hp
    cases u with
    | nil => simp at hk
    | cons x s =>
      have hx : x ∈ cum f v := hp.subset (by simp [cum])
      obtain ⟨v', h1, h2, h3⟩ := first_letter h hv x hx
      have h5 := hp.trans (h1.perm h)
      simp only [cum] at h5
      have h6 := perm_map h hu.head (cum_lt h hu.tail) (cum_lt h h2) (List.Perm.cons_inv h5)
      exact ((ih (by simpa using hk) hu.tail h2 h6).later hu.head).trans h1.symm
end
end Go.Proofs.YtjfjpngajboidaaGreat
