/-
  Draws of the reference: l01Unit, l01Pick, l01Draw (a permutation), l01Count.
-/
import Derived.Laws.OwnMore
import Derived.IntWalk
import Derived.Test.YtjfjpngajboidaaGreatKx7
namespace Go.Proofs.YtjfjpngajboidaaGreat
set_option linter.unusedVariables false
set_option linter.unusedSimpArgs false
open Go.RowKit
attribute [local go_sem ↓] Go.wp_at_zero Go.wp_at_succ
open Go.Deep

theorem touch_grown {S : Nat} {w w' : World} (h : Touch S (S + 1) w w') : w.grownBy w' (some S) := ⟨h.os, h.tape, h.output, h.size, fun k hk hne => h.block k hk (fun e => hne (by rw [show k = S by omega]))⟩
theorem GrowI.touchS {e base S : Nat} {w w' : World} {v : Value} {l : List Int} (h : GrowI e base w v l) (m : Touch S (S + 1) w w') (hne : v.ownBlock ≠ some S) : GrowI e base w' v l := h.kept (touch_grown m) hne
theorem GrowI.putI {e base g c n : Nat} {w : World} {l : List Int} (h : GrowI e base w (.slice (some ⟨g, 0, none⟩) n c) l) (hn : n = l.length) (j : Nat) (x : Int) : GrowI e base (w.setCell ⟨g, j, none⟩ (.int .i64 x)) (.slice (some ⟨g, 0, none⟩) n c) (l.set j x) := by
  subst hn
  have := (World.ownsRow.stored h j (.int .i64 x)).1
  unfold GrowI
  rw [List.length_set, List.map_set]
  exact this
theorem touch_setIn {S : Nat} {a w : World} (h : Touch S (S + 1) a w) {p : Addr} (hp : a.heap.size ≤ p.block) (v : Value) : Touch S (S + 1) a (w.setCell p v) :=
  ⟨h.os, h.tape, h.output, by have := h.size; simpa using this, fun k hk hn => (Below.heap_setCell _ _ _ _ (by omega)).trans (h.block k hk hn)⟩
theorem src_setCell {S : Nat} {w : World} (h : Src S w) {p : Addr} (hp : S < p.block) (v : Value) : Src S (w.setCell p v) :=
  h.touch2 (lo := p.block) (hi := p.block + 1) (Touch.of_marked ((Marked.refl _ _ _).setCell (Nat.le_refl _) (Nat.lt_succ_self _) v)) hp
def NewGI (l : List Int) (w : World) (e : Ending) (w' : World) : Prop := ∃ b c, e = .returned (.slice (some ⟨b, 0, none⟩) l.length c) ∧ GrowI 2 w.heap.size w' (.slice (some ⟨b, 0, none⟩) l.length c) l ∧ Ext w w'

set_option maxRecDepth 100000 in
theorem l01Unit_any (n : Nat) (w : World) (hn : n ≤ 1048576) :
    Calls Tryz.prog 119 #[.int .i64 n] w (NewGI (idL n) w) := by
  have HL := Lib.hid (length_idL n)
  go_enter Tryz.func119, Tryz.ntmps119
  go_wp2
  have hx0 : Ext w (w.alloc (.cells #[] 2)) := (Ext.refl _).alloc _
  have hg0 := GrowI.lit (e := 2) (base := w.heap.size) (w := w) (Nat.le_refl _)
  go_loopw [3, 4] (fun v y wr => ∃ j : Nat, j ≤ n ∧ y = .int .i64 j ∧ GrowI 2 w.heap.size wr v ((idL n).take j) ∧ v ≠ .slice none 0 0 ∧ Ext w wr) (fun _ y _ => n - (intOf y).toNat)
  case atStart => exact ⟨0, Nat.zero_le _, rfl, hg0, by simp, hx0⟩
  case round =>
    clear hx0 hg0
    obtain ⟨j, hj, rfl, hi, hvr, hx2⟩ := hrel
    have HVR := Lib.hid hvr
    clear hvr
    by_cases hjl : j < n
    case neg =>
      have hji : ¬ (j : Int) < (n : Int) := by omega
      have hta : (idL n).take j = idL n := List.take_of_length_le (by rw [HL.out]; omega)
      rw [hta] at hi
      have HI := Lib.hid hi
      obtain ⟨br, cr, rfl, -⟩ := hi.row HVR.out
      clear hi hta
      go_wp2
      go_ret
      exact ⟨br, cr, rfl, HI.out, hx2⟩
    case pos =>
      have hji : (j : Int) < (n : Int) := by omega
      have HLJ := Lib.hid (show ((idL n).take j).length = j by rw [List.length_take, HL.out]; omega)
      go_wp2_with (at_builtin; refine wpList_append_int rfl _ _ 27 2 rfl Tryz.underlying27 infoInt w.heap.size _ _ rfl (hi.alloc _) _ _ rfl (cell_new _ _ _) (by rw [HLJ.out]; omega) (by have := hx2.size; simp; omega) ?_)
      intro v' w3 hi3 hgr hv3
      have hx3 : Ext w w3 := (hx2.trans (ext_box _ _ _)).grown hgr (hi.alloc _) (Nat.le_refl _)
      clear hgr
      go_wp2
      go_roundw
      case rel => exact ⟨j + 1, by omega, by go_num, by
        rw [take_ix _ _ (by rw [HL.out]; exact hjl), ix_idL _ _ hjl]; exact hi3, hv3, hx3⟩
      case measure => simp [intOf]; omega

theorem l01Pick_any (S : Nat) (l : List Int) (v : Value) (w : World) (hv : Ints w v l) (hs : Src S w) (h1 : 1 ≤ l.length) (hk : ∀ w', Touch S (S + 1) w w' → Ints w' v l) :
    Calls Tryz.prog 45 #[.pointer (some ⟨S, 0, none⟩), v] w fun e w' => ∃ j : Nat, j < l.length ∧ e = .returned (.int .i64 (ix l j)) ∧ Src S w' ∧ Touch S (S + 1) w w' := by
  obtain ⟨b, o, c, rfl⟩ : ∃ b o c, v = .slice (some ⟨b, o, none⟩) l.length c := by
    obtain ⟨-, b, o, c, e, -⟩ := hv
    exact ⟨b, o, c, e⟩
  have HK := Lib.hid hk
  clear hk
  go_enter Tryz.func45, Tryz.ntmps45
  go_wp2_with fail
  refine (l01Next_any S _ _ hs).mono ?_
  rintro e w1 ⟨r, rfl, r1, r2, -, hs1, hT1⟩
  obtain ⟨j, rfl⟩ := Int.eq_ofNat_of_zero_le r1
  have hj : j < l.length := by have := r2 (by omega); omega
  obtain ⟨-, b', o', c', e', hi⟩ := HK.out w1 hT1
  cases e'
  have e1 := hi j hj
  have HT := Lib.hid hT1
  clear hi hT1 r1 r2
  go_wp2
  go_ret
  exact ⟨j, hj, rfl, hs1, HT.out⟩

def DrawP (S n : Nat) (w : World) (e : Ending) (w' : World) : Prop := ∃ p b c, e = .returned (.slice (some ⟨b, 0, none⟩) n c) ∧ p.length = n ∧ PermOk p ∧ GrowI 2 w.heap.size w' (.slice (some ⟨b, 0, none⟩) n c) p ∧ Src S w' ∧ Touch S (S + 1) w w'

set_option maxRecDepth 100000 in
set_option maxHeartbeats 1000000 in
theorem l01Draw_any (S n : Nat) (w : World) (hs : Src S w) (h1 : 1 ≤ n) (hn : n ≤ 1000) :
    Calls Tryz.prog 81 #[.pointer (some ⟨S, 0, none⟩), .int .i64 n] w (DrawP S n w) := by
  have hlt := hs.lt
  have HS0 := Lib.hid hs
  clear hs
  go_enter Tryz.func81, Tryz.ntmps81
  go_wp2_with fail
  refine (l01Unit_any n w (by omega)).mono ?_
  rintro e w1 ⟨b, c, rfl, hg, hx⟩
  have hlen := length_idL n
  rw [hlen] at hg ⊢
  have HL := Lib.hid hlen
  have HG := Lib.hid hg
  have HX := Lib.hid hx
  have HS1 := Lib.hid (HS0.out.ext hx)
  have HPI := Lib.hid (show PermOk (idL n) from (idL_perm n).2.1)
  have hbz := hg.lt (k := b) rfl
  have hzx := hx.size
  clear hlen hg hx
  have hn1 : IntKind.i64.wrap ((n : Int) - 1) = ((n - 1 : Nat) : Int) := by rw [IntWalk.i64_in _ (by omega)]; omega
  go_wp2_with fail
  go_loopw [6] (fun vi wr => ∃ (i : Nat) (q : List Int), vi = .int .i64 i ∧ i < n ∧ q.length = n ∧ PermOk q ∧ GrowI 2 w.heap.size wr (.slice (some ⟨b, 0, none⟩) n c) q ∧ Src S wr ∧ Touch S (S + 1) w wr) (fun vi _ => (intOf vi).toNat)
  case atStart => exact ⟨n - 1, idL n, by go_num, by omega, HL.out, HPI.out, HG.out, HS1.out, Touch.of_ext HX.out⟩
  case round =>
    clear HG HS1 HPI HL
    obtain ⟨i, q, rfl, hin, hql, hp, hg, hs, hT⟩ := hrel
    have HG := Lib.hid hg
    have HT := Lib.hid hT
    have HPO := Lib.hid hp
    have HQL := Lib.hid hql
    have HSr := Lib.hid hs
    clear hg hT hp hql hs
    by_cases hi0 : 0 < i
    case neg =>
      have hii : ¬ (0 : Int) < (i : Int) := by omega
      go_wp2
      go_ret
      exact ⟨q, b, c, rfl, HQL.out, HPO.out, HG.out, HSr.out, HT.out⟩
    case pos =>
      have hii : (0 : Int) < (i : Int) := by omega
      go_wp2_with fail
      refine (l01Next_any S _ _ HSr.out).mono ?_
      rintro e w2 ⟨r, rfl, r1, r2, -, hs2, hT2⟩
      obtain ⟨j, rfl⟩ := Int.eq_ofNat_of_zero_le r1
      have hj : j ≤ i := by have := r2 (by omega); omega
      have hjn : j < n := by omega
      have hg2 := HG.out.touchS hT2 (fun e => by have := Option.some.inj (show some b = some S from e); omega)
      have HT2 := Lib.hid (HT.out.trans hT2)
      have HS2 := Lib.hid hs2
      have HG2 := Lib.hid hg2
      obtain ⟨b', c', he, ho⟩ := hg2.own (by simp)
      simp only [Value.slice.injEq, Option.some.injEq, Addr.mk.injEq, and_true] at he
      obtain ⟨rfl, -, rfl⟩ := he
      have c1 := ho.2.2.1 i (by rw [HQL.out]; exact hin)
      have c2 := ho.2.2.1 j (by rw [HQL.out]; exact hjn)
      have f1 := ho.2.2.2 i (by rw [HQL.out]; exact hin)
      have f2 := ho.2.2.2 j (by rw [HQL.out]; exact hjn)
      rw [Nat.zero_add] at c1 c2 f1 f2
      have hji : (j : Int) < (n : Int) := by omega
      have hini : (i : Int) < (n : Int) := by omega
      have hq1 := HG2.out.putI (n := n) HQL.out.symm i (ix q j)
      have HQ1 := Lib.hid (hq1.putI (n := n) (by simp [HQL.out]) j (ix q i))
      obtain ⟨b', c', he, ho1⟩ := hq1.own (by simp)
      simp only [Value.slice.injEq, Option.some.injEq, Addr.mk.injEq, and_true] at he
      obtain ⟨rfl, -, rfl⟩ := he
      have c3 := ho1.2.2.1 j (by simp [HQL.out]; exact hjn)
      have f3 := ho1.2.2.2 j (by simp [HQL.out]; exact hjn)
      rw [Nat.zero_add] at c3 f3
      have HPS := Lib.hid (permOk_swap HPO.out (i := i) (j := j) (by rw [HQL.out]; exact hin) (by rw [HQL.out]; exact hjn))
      have hbw : w.heap.size ≤ b := hbz.1
      have HS3 := Lib.hid (src_setCell (src_setCell HS2.out (p := ⟨b, i, none⟩) (by simp only []; omega) (.int .i64 (ix q j))) (p := ⟨b, j, none⟩) (by simp only []; omega) (.int .i64 (ix q i)))
      have HT3 := Lib.hid (touch_setIn (touch_setIn HT2.out (p := ⟨b, i, none⟩) hbw (.int .i64 (ix q j))) (p := ⟨b, j, none⟩) hbw (.int .i64 (ix q i)))
      have hi1 : IntKind.i64.wrap ((i : Int) - 1) = ((i - 1 : Nat) : Int) := by rw [IntWalk.i64_in _ (by omega)]; omega
      clear HG HSr HT ho r1 r2 hs2 hT2 hg2 hq1 ho1
      go_wp2
      go_roundw
      case rel => exact ⟨i - 1, (q.set i (ix q j)).set j (ix q i), by go_num, by omega, by simp [HQL.out], HPS.out, HQ1.out, HS3.out, HT3.out⟩
      case measure => simp [intOf]; omega
end Go.Proofs.YtjfjpngajboidaaGreat


namespace Go.Proofs.YtjfjpngajboidaaGreat
set_option linter.unusedVariables false
set_option linter.unusedSimpArgs false

structure Grp (n : Nat) (m : Nat → Nat → Nat) (v : Nat → Nat) : Prop where
  bd : ∀ x, x < n → ∀ y, y < n → m x y < n
  vb : ∀ x, x < n → v x < n
  assoc : ∀ x, x < n → ∀ y, y < n → ∀ z, z < n → m (m x y) z = m x (m y z)
  ul : ∀ x, x < n → m 0 x = x
  ur : ∀ x, x < n → m x 0 = x
  vl : ∀ x, x < n → m (v x) x = 0
  vr : ∀ x, x < n → m x (v x) = 0
section
variable {n : Nat} {m : Nat → Nat → Nat} {v : Nat → Nat} (h : Grp n m v)
include h
end
structure Sub (n : Nat) (m : Nat → Nat → Nat) (v : Nat → Nat) (S : List Nat) : Prop where
  nodup : S.Nodup
  bd : ∀ x, x ∈ S → x < n
  mul : ∀ x, x ∈ S → ∀ y, y ∈ S → m x y ∈ S
  inv : ∀ x, x ∈ S → v x ∈ S
theorem nodup_map_on {α β : Type} {f : α → β} : ∀ {l : List α}, l.Nodup → (∀ x, x ∈ l → ∀ y, y ∈ l → f x = f y → x = y) → (l.map f).Nodup
  | [], _, _ => List.nodup_nil
  | a :: l, hn, hi => by
    rw [List.nodup_cons] at hn
    rw [List.map_cons, List.nodup_cons]
    refine ⟨fun hm => ?_, nodup_map_on hn.2 (fun x hx y hy => hi x (by simp [hx]) y (by simp [hy]))⟩
    obtain ⟨b, hb, e⟩ := List.mem_map.1 hm
    have := hi b (by simp [hb]) a (by simp) e
    subst this
    exact hn.1 hb
def mulN (t : List (List Int)) (x y : Nat) : Nat := (ent t x y).toNat
end Go.Proofs.YtjfjpngajboidaaGreat


namespace Go.Proofs.YtjfjpngajboidaaGreat
set_option linter.unusedVariables false
set_option linter.unusedSimpArgs false

@[irreducible] def leftF (t u : List (List Int)) (x y z : Nat) : Int := ent u x (ent t y z).toNat
@[irreducible] def rightF (t u : List (List Int)) (x y z : Nat) : Int := ent t (ent t (ent u x y).toNat (backF t x).toNat).toNat (ent u x z).toNat
def NoZ (t u : List (List Int)) (x y k : Nat) : Prop := ∀ z, z < k → leftF t u x y z = rightF t u x y z
def NoY (t u : List (List Int)) (x k : Nat) : Prop := ∀ y, y < k → NoZ t u x y t.length
def NoX (t u : List (List Int)) (k : Nat) : Prop := ∀ x, x < k → NoY t u x t.length
theorem NoZ.zero (t u x y) : NoZ t u x y 0 := all_zero
theorem NoZ.succ {t u x y k} (h : NoZ t u x y k) (hk : leftF t u x y k = rightF t u x y k) : NoZ t u x y (k + 1) := all_succ h hk
theorem NoY.zero (t u x) : NoY t u x 0 := all_zero
theorem NoY.succ {t u x k} (h : NoY t u x k) (hk : NoZ t u x k t.length) : NoY t u x (k + 1) := all_succ h hk
theorem NoX.zero (t u) : NoX t u 0 := all_zero
theorem NoX.succ {t u k} (h : NoX t u k) (hk : NoY t u k t.length) : NoX t u (k + 1) := all_succ h hk
def IsFault (t u : List (List Int)) (l : List Int) : Prop :=
  (l = [] ∧ NoX t u t.length) ∨ ∃ x y z : Nat, x < t.length ∧ y < t.length ∧ z < t.length ∧ l = [(x : Int), (y : Int), (z : Int)] ∧ leftF t u x y z ≠ rightF t u x y z ∧ NoX t u x ∧ NoY t u x y ∧ NoZ t u x y z
open Classical in
@[irreducible] noncomputable def faultL (t u : List (List Int)) : List Int := if h : ∃ l, IsFault t u l then h.choose else []
@[irreducible] def twoB (t u : List (List Int)) : Bool := groupB t && (groupB u && decide (t.length = u.length))
@[irreducible] noncomputable def braceB (t u : List (List Int)) : Bool := twoB t u && (faultL t u).isEmpty
end Go.Proofs.YtjfjpngajboidaaGreat


namespace Go.Proofs.YtjfjpngajboidaaGreat
set_option linter.unusedVariables false
set_option linter.unusedSimpArgs false

theorem grp_inj_r {t : List (List Int)} (h : GroupOk t) {x y z : Nat} (hx : x < t.length) (hy : y < t.length) (hz : z < t.length) (e : ent t y x = ent t z x) : y = z := by
  obtain ⟨b0, b1, b2⟩ := backF_ok h hx
  have a1 := grp_assoc h hy hx (z := (backF t x).toNat) (by omega)
  have a2 := grp_assoc h hz hx (z := (backF t x).toNat) (by omega)
  rw [e, a2, b2] at a1
  have e1 := grp_unit_r h hy
  have e2 := grp_unit_r h hz
  simp only [Int.toNat_zero] at a1
  omega
theorem IsoOk.zero {n : Nat} {az bz : List (List (List Int))} {p : List Int} (hp : IsoOk n az bz p) (h0 : 0 < az.length) (hA : GroupOk (tab az 0)) (hB : GroupOk (tab bz 0)) (la : (tab az 0).length = n) (lb : (tab bz 0).length = n) : ix p 0 = 0 := by
  have h1 : 1 ≤ n := by have := hA.1.1; omega
  have hb := hp.bd (x := 0) (by omega)
  have hm := hp.2.2 0 h0 0 (by omega) 0 (by omega)
  rw [grp_unit_l hA (by omega)] at hm
  have hu := grp_unit_r hB (x := (ix p 0).toNat) (by omega)
  have := grp_inj hB (x := (ix p 0).toNat) (y := 0) (z := (ix p 0).toNat) (by omega) (by omega) (by omega) (by
    rw [hu, ← hm]
    simp
    omega)
  omega
theorem nodup_filter {α : Type} {l : List α} (p : α → Bool) (h : l.Nodup) : (l.filter p).Nodup := by
  rw [List.nodup_iff_pairwise_ne] at h ⊢
  exact h.filter _
def Agr (M : List (List Int)) (x : Nat) : Prop := ∀ p, p ∈ M → ∀ q, q ∈ M → ix p x = ix q x
open Classical in
noncomputable def agrL (n : Nat) (M : List (List Int)) : List Nat := (List.range n).filter fun x => decide (Agr M x)
theorem mem_agrL {n : Nat} {M : List (List Int)} {x : Nat} : x ∈ agrL n M ↔ x < n ∧ Agr M x := by
  unfold agrL; rw [List.mem_filter, List.mem_range]; simp
theorem nodup_agrL (n : Nat) (M : List (List Int)) : (agrL n M).Nodup := by
  unfold agrL; exact nodup_filter _ List.nodup_range
theorem agrL_le (n : Nat) (M : List (List Int)) : (agrL n M).length ≤ n := by
  unfold agrL
  exact Nat.le_trans (List.length_filter_le _ _) (by simp)
def part (M : List (List Int)) (x : Nat) (v : Nat) : List (List Int) := M.filter fun p => decide (ix p x = (v : Int))
theorem mem_part {M : List (List Int)} {x v : Nat} {p : List Int} : p ∈ part M x v ↔ p ∈ M ∧ ix p x = (v : Int) := by
  unfold part; rw [List.mem_filter]; simp
theorem len_parts (x B : Nat) : ∀ (n : Nat) (M : List (List Int)), (∀ p, p ∈ M → 0 ≤ ix p x ∧ ix p x < (n : Int)) → (∀ v, v < n → (part M x v).length ≤ B) → M.length ≤ n * B
  | 0, M, hb, _ => by
    cases M with
    | nil => simp
    | cons p M => have := hb p (by simp); omega
  | n + 1, M, hb, hv => by
    have h := List.length_eq_countP_add_countP (fun p : List Int => decide (ix p x = (n : Int))) (l := M)
    have h1 := hv n (by omega)
    unfold part at h1
    rw [← List.countP_eq_length_filter] at h1
    have h2 := len_parts x B n (M.filter fun p => ! decide (ix p x = (n : Int))) (fun p hp => by
        rw [List.mem_filter] at hp
        have := hb p hp.1
        have h3 : ¬ ix p x = (n : Int) := by simpa using hp.2
        omega) (fun v hvn => by
        refine Nat.le_trans ?_ (hv v (by omega))
        unfold part
        rw [List.filter_filter, ← List.countP_eq_length_filter, ← List.countP_eq_length_filter]
        exact List.countP_mono_left fun p _ => by simp; intro a _; exact a)
    rw [← List.countP_eq_length_filter] at h2
    have e : List.countP (fun p : List Int => ! decide (ix p x = (n : Int))) M = List.countP (fun a : List Int => decide (¬ (decide (ix a x = (n : Int))) = true)) M := by
      congr 1; funext p; simp
    rw [e] at h2
    rw [Nat.add_mul, Nat.one_mul]
    omega
section
variable {n : Nat} {az bz : List (List (List Int))} (h0 : 0 < az.length) (hA : GroupOk (tab az 0)) (hB : GroupOk (tab bz 0)) (la : (tab az 0).length = n) (lb : (tab bz 0).length = n)
include h0 hA hB la lb
omit hA hB la lb in
theorem agr_mul {M : List (List Int)} (hM : ∀ p, p ∈ M → IsoOk n az bz p) {x y : Nat} (hx : x < n) (hy : y < n) (ax : Agr M x) (ay : Agr M y) : Agr M (ent (tab az 0) x y).toNat := fun p hp q hq => by
  rw [(hM p hp).2.2 0 h0 x hx y hy, (hM q hq).2.2 0 h0 x hx y hy, ax p hp q hq, ay p hp q hq]
omit hA la in
theorem agr_back {M : List (List Int)} (hM : ∀ p, p ∈ M → IsoOk n az bz p) {x y : Nat} (hx : x < n) (hy : y < n) (ay : Agr M y) (axy : Agr M (ent (tab az 0) x y).toNat) : Agr M x := fun p hp q hq => by
  have h := axy p hp q hq
  rw [(hM p hp).2.2 0 h0 x hx y hy, (hM q hq).2.2 0 h0 x hx y hy, ay p hp q hq] at h
  have b1 := (hM p hp).bd hx
  have b2 := (hM q hq).bd hx
  have b3 := (hM q hq).bd hy
  have := grp_inj_r hB (x := (ix q y).toNat) (y := (ix p x).toNat) (z := (ix q x).toNat) (by omega) (by omega) (by omega) h
  omega
theorem agr_two {M : List (List Int)} (hM : ∀ p, p ∈ M → IsoOk n az bz p) {x v : Nat} (hx : x < n) (hn : ¬ Agr M x) : 2 * (agrL n M).length ≤ (agrL n (part M x v)).length := by
  have hs : ∀ y, Agr M y → Agr (part M x v) y := fun y h p hp q hq => h p (mem_part.1 hp).1 q (mem_part.1 hq).1
  have hP : ∀ p, p ∈ part M x v → IsoOk n az bz p := fun p hp => hM p (mem_part.1 hp).1
  have hax : Agr (part M x v) x := fun p hp q hq => by rw [(mem_part.1 hp).2, (mem_part.1 hq).2]
  have hbd : ∀ y, y < n → 0 ≤ ent (tab az 0) x y ∧ (ent (tab az 0) x y).toNat < n := fun y hy => by
    have := hA.1.bd (x := x) (y := y) (by omega) (by omega)
    omega
  have h := nodup_le (agrL n M ++ (agrL n M).map fun y => (ent (tab az 0) x y).toNat) (agrL n (part M x v)) (by
      rw [List.nodup_append]
      refine ⟨nodup_agrL _ _, ?_, ?_⟩
      · rw [List.nodup_iff_pairwise_ne, List.pairwise_map]
        have hn2 := nodup_agrL n M
        rw [List.nodup_iff_pairwise_ne] at hn2
        refine hn2.imp_of_mem ?_
        intro a b ha hb hab e
        have ba := hbd a (mem_agrL.1 ha).1
        have bb := hbd b (mem_agrL.1 hb).1
        exact hab (grp_inj hA (x := x) (by omega) (by have := (mem_agrL.1 ha).1; omega) (by have := (mem_agrL.1 hb).1; omega) (by omega))
      · intro a ha b hb e
        rw [List.mem_map] at hb
        obtain ⟨y, hy, rfl⟩ := hb
        subst e
        exact hn (agr_back h0 hB lb hM hx (mem_agrL.1 hy).1 (mem_agrL.1 hy).2 (mem_agrL.1 ha).2))
    (fun y hy => by
      rw [List.mem_append, List.mem_map] at hy
      rcases hy with hy | ⟨z, hz, rfl⟩
      · exact mem_agrL.2 ⟨(mem_agrL.1 hy).1, hs y (mem_agrL.1 hy).2⟩
      · exact mem_agrL.2 ⟨(hbd z (mem_agrL.1 hz).1).2, agr_mul h0 hP hx (mem_agrL.1 hz).1 hax (hs z (mem_agrL.1 hz).2)⟩)
  rw [List.length_append, List.length_map] at h
  omega
theorem few : ∀ (f : Nat) (M : List (List Int)), M.Nodup → (∀ p, p ∈ M → IsoOk n az bz p) → n < 2 ^ f * (agrL n M).length → M.length ≤ n ^ f
  | 0, M, _, _, hl => by have := agrL_le n M; omega
  | f + 1, M, hn, hM, hl => by
    have h1 : 1 ≤ n := by have := hA.1.1; omega
    by_cases hall : ∀ x, x < n → Agr M x
    · have : M.length ≤ 1 := by
        rcases M with _ | ⟨p, _ | ⟨q, r⟩⟩
        · simp
        · simp
        · have hpq : p = q := ix_ext (by rw [(hM p (by simp)).1, (hM q (by simp)).1]) fun i hi => hall i (by rw [(hM p (by simp)).1] at hi; exact hi) p (by simp) q (by simp)
          subst hpq
          simp at hn
      exact Nat.le_trans this (Nat.pow_pos (by omega))
    · obtain ⟨x, hx⟩ := Classical.not_forall.1 hall
      obtain ⟨hx, hna⟩ := Classical.not_imp.1 hx
      have := len_parts x (n ^ f) n M (fun p hp => by have := (hM p hp).bd hx; omega) (fun v _ => few f (part M x v) (by unfold part; exact nodup_filter _ hn) (fun p hp => hM p (mem_part.1 hp).1) (by
        have h2 := agr_two h0 hA hB la lb hM (v := v) hx hna
        rw [Nat.pow_succ] at hl
        have h3 := Nat.mul_le_mul_left (2 ^ f) h2
        rw [← Nat.mul_assoc] at h3
        omega))
      rw [Nat.pow_succ, Nat.mul_comm]
      exact this
end
end Go.Proofs.YtjfjpngajboidaaGreat


namespace Go.Proofs.YtjfjpngajboidaaGreat
set_option linter.unusedVariables false
set_option linter.unusedSimpArgs false
open Go.RowKit

theorem divs {k n m : Nat} (h : k < n * m) : ∃ q r : Nat, (k : Int) / (m : Int) = (q : Int) ∧ (k : Int) % (m : Int) = (r : Int) ∧ q < n ∧ r < m ∧ k / m = q ∧ k % m = r := by
  have hm : 0 < m := by
    rcases Nat.eq_zero_or_pos m with h0 | h0
    · subst h0; simp at h
    · exact h0
  exact ⟨k / m, k % m, by simp, by simp, (Nat.div_lt_iff_lt_mul hm).2 h, Nat.mod_lt _ hm, rfl, rfl⟩
theorem tdivs {k m : Nat} {q r : Nat} (h1 : (k : Int) / (m : Int) = (q : Int)) (h2 : (k : Int) % (m : Int) = (r : Int)) : Int.tdiv (k : Int) (m : Int) = (q : Int) ∧ Int.tmod (k : Int) (m : Int) = (r : Int) := by
  rw [Int.tdiv_eq_ediv_of_nonneg (by omega), Int.tmod_eq_emod_of_nonneg (by omega)]
  exact ⟨h1, h2⟩
theorem cast_mul' (a b N : Nat) (h : N = a * b) : (a : Int) * (b : Int) = (N : Int) := by subst h; simp
end Go.Proofs.YtjfjpngajboidaaGreat


namespace Go.Proofs.YtjfjpngajboidaaGreat
set_option linter.unusedVariables false
set_option linter.unusedSimpArgs false
open Go.RowKit

def natTo (p : Nat → Bool) : Nat → Nat
  | 0 => 0
  | k + 1 => if p k = true then natTo p k ||| 2 ^ k else natTo p k
@[irreducible] def natSet (p : Nat → Bool) (k : Nat) : Nat := natTo p k
theorem natSet_zero (p) : natSet p 0 = 0 := by unfold natSet; rfl
theorem natSet_yes {p : Nat → Bool} {k : Nat} (h : p k = true) : natSet p (k + 1) = natSet p k ||| 2 ^ k := by unfold natSet; simp only [natTo]; rw [if_pos h]
theorem natSet_no {p : Nat → Bool} {k : Nat} (h : p k = false) : natSet p (k + 1) = natSet p k := by unfold natSet; simp only [natTo]; rw [if_neg (by rw [h]; simp)]
theorem natSet_bit (p : Nat → Bool) : ∀ (k i : Nat), (natSet p k).testBit i = (decide (i < k) && p i)
  | 0, i => by rw [natSet_zero]; simp
  | k + 1, i => by
    have ih := natSet_bit p k i
    cases h : p k with
    | true =>
      rw [natSet_yes h, Nat.testBit_or, ih, Nat.testBit_two_pow]
      by_cases e : k = i
      · subst e; simp [h]
      · have h1 : decide (i < k + 1) = decide (i < k) := by rw [Bool.eq_iff_iff]; simp; omega
        rw [h1]; simp [e]
    | false =>
      rw [natSet_no h, ih]
      by_cases e : k = i
      · subst e; simp [h]
      · have h1 : decide (i < k + 1) = decide (i < k) := by rw [Bool.eq_iff_iff]; simp; omega
        rw [h1]
theorem natSet_lt (p : Nat → Bool) (k : Nat) : natSet p k < 2 ^ k := by
  apply Nat.lt_pow_two_of_testBit
  intro i hi
  rw [natSet_bit]
  have : decide (i < k) = false := by simp; omega
  rw [this]; rfl
/-! ### the socle -/
def SocTo (t u : List (List Int)) (x k : Nat) : Prop := ∀ y, y < k → ent u x y = ent t x y ∧ ent t x y = ent t y x
instance (t u x k) : Decidable (SocTo t u x k) := by unfold SocTo; infer_instance
@[irreducible] def socB (t u : List (List Int)) (x k : Nat) : Bool := decide (SocTo t u x k)
@[irreducible] def socN (t u : List (List Int)) : Nat := natSet (fun x => socB t u x t.length) t.length
theorem socN_def (t u : List (List Int)) : socN t u = natSet (fun x => socB t u x t.length) t.length := by unfold socN; rfl
@[irreducible] def annN (t u : List (List Int)) : Nat := natSet (fun x => socB t u x t.length && comB u x t.length) t.length
theorem annN_def (t u : List (List Int)) : annN t u = natSet (fun x => socB t u x t.length && comB u x t.length) t.length := by unfold annN; rfl
def AnnTo (t u : List (List Int)) (i S : Nat) : Prop := S < 2 ^ t.length ∧ ∀ x : Nat, S.testBit x = true ↔ (∃ j, j < i ∧ ix (elemsL (socN t u)) j = (x : Int)) ∧ comB u x t.length = true
theorem AnnTo.zero (t u) : AnnTo t u 0 0 := ⟨Nat.two_pow_pos _, fun x => by simp⟩
theorem AnnTo.no {t u i S} (h : AnnTo t u i S) {x : Nat} (hx : ix (elemsL (socN t u)) i = (x : Int)) (hc : comB u x t.length = false) : AnnTo t u (i + 1) S := ⟨h.1, fun y => by
  rw [h.2]
  constructor
  · rintro ⟨⟨j, hj, e⟩, hy⟩; exact ⟨⟨j, by omega, e⟩, hy⟩
  · rintro ⟨⟨j, hj, e⟩, hy⟩
    refine ⟨⟨j, ?_, e⟩, hy⟩
    apply Classical.byContradiction
    intro hji
    have : j = i := by omega
    subst this
    rw [hx] at e
    have : x = y := by omega
    subst this
    rw [hc] at hy; cases hy⟩
theorem AnnTo.done {t u S} (hn : t.length ≤ 12) (h : AnnTo t u (elemsL (socN t u)).length S) : S = annN t u := by
  have hsl : socN t u < 2 ^ t.length := by rw [socN_def]; exact natSet_lt _ _
  have hs62 := lt62 hn hsl
  apply Nat.eq_of_testBit_eq
  intro x
  rw [Bool.eq_iff_iff, h.2, annN_def, natSet_bit, Bool.and_eq_true, Bool.and_eq_true, decide_eq_true_iff]
  constructor
  · rintro ⟨⟨j, hj, e⟩, hy⟩
    obtain ⟨z, hz, bz, ez⟩ := elemsL_get hsl (by omega) hj
    rw [e] at ez
    have : x = z := by omega
    subst this
    rw [bitB_test hs62, socN_def, natSet_bit, Bool.and_eq_true] at bz
    exact ⟨hz, bz.2, hy⟩
  · rintro ⟨hx, hs, hy⟩
    have hb : bitB (socN t u) x = true := by rw [bitB_test hs62, socN_def, natSet_bit, hs]; simp [hx]
    obtain ⟨j, hj, e⟩ := elemsL_has hsl (by omega) hb
    exact ⟨⟨j, hj, e⟩, hy⟩
end Go.Proofs.YtjfjpngajboidaaGreat


namespace Go.Proofs.YtjfjpngajboidaaGreat
set_option linter.unusedVariables false
set_option linter.unusedSimpArgs false

theorem cmpL_cons (a b : Int) (l m : List Int) : cmpL (a :: l) (b :: m) = if cmpI a b = 0 then cmpL l m else cmpI a b := by unfold cmpL; rfl
theorem cmpL_neg : ∀ (l m : List Int), cmpL l m < 0 ↔ l < m
  | [], [] => by unfold cmpL cmpBy; simp
  | [], b :: m => by unfold cmpL cmpBy; simp
  | a :: l, [] => by unfold cmpL cmpBy; simp
  | a :: l, b :: m => by
    have ih := cmpL_neg l m
    rw [List.cons_lt_cons_iff, ← ih, cmpL_cons]
    by_cases h1 : a < b
    · have : cmpI a b = -1 := by unfold cmpI; rw [if_pos h1]
      simp [this, h1]
    · by_cases h2 : b < a
      · have : cmpI a b = 1 := by unfold cmpI; rw [if_neg h1, if_pos h2]
        simp [this, h1, show ¬ a = b by omega]
      · have e : a = b := by omega
        subst e
        have : cmpI a a = 0 := cmpI_zero.2 rfl
        simp [this]
def imgE (t : List (List Int)) (p : List Int) (i j : Nat) : Int := ix p (ent t (indexOf p i).toNat (indexOf p j).toNat).toNat
def imgT (t : List (List Int)) (p : List Int) : List (List Int) := mkT t.length (imgE t p)
theorem indexOf_at {n : Nat} {p : List Int} (hp : IsoOk n [] [] p) {x : Nat} (hx : x < n) : indexOf p (ix p x) = (x : Int) := by
  rcases indexOf_spec p (ix p x) with ⟨_, h⟩ | ⟨i, hi, e, e2, _⟩
  · exact absurd rfl (h x (by have := hp.1; omega))
  · rw [e]
    have := hp.inj (x := i) (y := x) (by have := hp.1; omega) hx e2
    omega
theorem imgE_at {t : List (List Int)} {p : List Int} (hp : IsoOk t.length [] [] p) {x y : Nat} (hx : x < t.length) (hy : y < t.length) : imgE t p (ix p x).toNat (ix p y).toNat = ix p (ent t x y).toNat := by
  unfold imgE
  rw [Int.toNat_of_nonneg (hp.bd hx).1, Int.toNat_of_nonneg (hp.bd hy).1, indexOf_at hp hx, indexOf_at hp hy, Int.toNat_natCast, Int.toNat_natCast]
end Go.Proofs.YtjfjpngajboidaaGreat


namespace Go.Proofs.YtjfjpngajboidaaGreat
set_option linter.unusedVariables false
set_option linter.unusedSimpArgs false

structure ImgTo (t : List (List Int)) (p : List Int) (x y : Nat) (T : List (List Int)) : Prop where
  len : T.length = t.length
  rows : ∀ i, i < t.length → (row T i).length = t.length
  at_ : ∀ a b, a < t.length → b < t.length → (a < x ∨ (a = x ∧ b < y)) → ent T (ix p a).toNat (ix p b).toNat = ix p (ent t a b).toNat
theorem ImgTo.start {t : List (List Int)} (h : TableOk t) (p : List Int) : ImgTo t p 0 0 t := ⟨rfl, fun i hi => h.len hi, fun a b _ _ h => by omega⟩
theorem ImgTo.step {t T : List (List Int)} {p : List Int} {x y : Nat} (h : ImgTo t p x y T) (hp : IsoOk t.length [] [] p) (hx : x < t.length) (hy : y < t.length) : ImgTo t p x (y + 1) (setE T (ix p x).toNat (ix p y).toNat (ix p (ent t x y).toNat)) := by
  have b1 := (hp.bd hx).2
  have b2 := (hp.bd hy).2
  have hT : (ix p x).toNat < T.length := by rw [h.len]; exact b1
  refine ⟨by rw [length_setE]; exact h.len, fun i hi => by rw [length_row_setE _ _ _ _ _ hT]; exact h.rows i hi, fun a b ha hb hab => ?_⟩
  by_cases e : a = x ∧ b = y
  · obtain ⟨rfl, rfl⟩ := e
    exact ent_setE_same _ _ _ _ hT (by rw [h.rows _ b1]; exact b2)
  · have c1 := hp.bd ha
    have c2 := hp.bd hb
    have d1 := hp.bd hx
    have d2 := hp.bd hy
    rw [ent_setE_other _ _ _ _ _ _ hT ?_]
    · exact h.at_ a b ha hb (by omega)
    · by_cases e1 : a = x
      · right; intro e2; exact e ⟨e1, hp.inj hb hy (by omega)⟩
      · left; intro e2; exact e1 (hp.inj ha hx (by omega))
theorem ImgTo.next {t T : List (List Int)} {p : List Int} {x : Nat} (h : ImgTo t p x t.length T) : ImgTo t p (x + 1) 0 T := ⟨h.len, h.rows, fun a b ha hb hab => h.at_ a b ha hb (by omega)⟩
theorem table_ext {n : Nat} {S T : List (List Int)} (h1 : S.length = n) (h2 : T.length = n) (h3 : ∀ i, i < n → (row S i).length = n) (h4 : ∀ i, i < n → (row T i).length = n) (h : ∀ i j, i < n → j < n → ent S i j = ent T i j) : S = T :=
  row_ext (by omega) fun i hi => ix_ext (by rw [h3 i (by omega), h4 i (by omega)]) fun j hj => by
    rw [h3 i (by omega)] at hj
    rw [ent_def, ent_def]; exact h i j (by omega) hj
theorem length_imgT (t : List (List Int)) (p : List Int) : (imgT t p).length = t.length := length_mkT _ _
theorem row_imgT (t : List (List Int)) (p : List Int) {i : Nat} (h : i < t.length) : (row (imgT t p) i).length = t.length := by unfold imgT; rw [row_mkT _ _ _ h, length_partRow]
theorem ent_imgT (t : List (List Int)) (p : List Int) {i j : Nat} (h : i < t.length) (hj : j < t.length) : ent (imgT t p) i j = imgE t p i j := ent_mkT _ _ _ _ h hj
theorem ImgTo.done {t T : List (List Int)} {p : List Int} (h : ImgTo t p t.length 0 T) (hp : IsoOk t.length [] [] p) : T = imgT t p := by
  refine table_ext h.len (length_imgT _ _) h.rows (fun i hi => row_imgT _ _ hi) fun i j hi hj => ?_
  rw [ent_imgT _ _ hi hj]
  obtain ⟨a, ha, e1⟩ := hp.surj hi
  obtain ⟨b, hb, e2⟩ := hp.surj hj
  have := h.at_ a b ha hb (by omega)
  have h2 := imgE_at hp ha hb
  rw [e1, e2, Int.toNat_natCast, Int.toNat_natCast] at this h2
  rw [this, h2]
end Go.Proofs.YtjfjpngajboidaaGreat


namespace Go.Proofs.YtjfjpngajboidaaGreat
set_option linter.unusedVariables false
set_option linter.unusedSimpArgs false

def allN : Nat → (Nat → Bool) → Bool
  | 0, _ => true
  | k + 1, p => p k && allN k p
def rA (n x y : Nat) : Nat := (x + y) % n
def okB (n : Nat) (g : Nat → Nat → Nat) : Bool := allN n fun x => allN n fun y => allN n fun z => Nat.beq (g x (rA n y z)) (rA n (rA n (g x y) ((n - x) % n)) (g x z))
def isPr (p : Nat) : Bool := Nat.ble 2 p && allN p fun d => Nat.ble d 1 || !(Nat.beq (p % d) 0)
def badP (n k p : Nat) : Bool := isPr p && Nat.beq (n % p) 0 && !(Nat.beq (k % p) 0)
end Go.Proofs.YtjfjpngajboidaaGreat


namespace Go.Proofs.YtjfjpngajboidaaGreat
set_option linter.unusedVariables false
set_option linter.unusedSimpArgs false

structure Skew (n : Nat) (m : Nat → Nat → Nat) (v : Nat → Nat) (c : Nat → Nat → Nat) (d : Nat → Nat) : Prop where
  add : Grp n m v
  cir : Grp n c d
  law : ∀ x, x < n → ∀ y, y < n → ∀ z, z < n → c x (m y z) = m (m (c x y) (v x)) (c x z)
def lamN (m : Nat → Nat → Nat) (v : Nat → Nat) (c : Nat → Nat → Nat) (x y : Nat) : Nat := m (v x) (c x y)
section
variable {n : Nat} {m : Nat → Nat → Nat} {v : Nat → Nat} {c : Nat → Nat → Nat} {d : Nat → Nat} (h : Skew n m v c d)
include h
theorem Skew.lb {x y : Nat} (hx : x < n) (hy : y < n) : lamN m v c x y < n := h.add.bd _ (h.add.vb x hx) _ (h.cir.bd x hx y hy)
end
end Go.Proofs.YtjfjpngajboidaaGreat


namespace Go.Proofs.YtjfjpngajboidaaGreat
set_option linter.unusedVariables false
set_option linter.unusedSimpArgs false
open Go.RowKit

@[irreducible] def leftS (t u : List (List Int)) (x y z : Nat) : Int := ent u (ent t x y).toNat z
@[irreducible] def rightS (t u : List (List Int)) (x y z : Nat) : Int := ent t (ent t (ent u x z).toNat (backF t z).toNat).toNat (ent u y z).toNat
def TsZ (t u : List (List Int)) (x y k : Nat) : Prop := ∀ z, z < k → leftS t u x y z = rightS t u x y z
def TsY (t u : List (List Int)) (x k : Nat) : Prop := ∀ y, y < k → TsZ t u x y t.length
def TsX (t u : List (List Int)) (k : Nat) : Prop := ∀ x, x < k → TsY t u x t.length
instance (t u x y k) : Decidable (TsZ t u x y k) := by unfold TsZ; infer_instance
instance (t u x k) : Decidable (TsY t u x k) := by unfold TsY; infer_instance
instance (t u k) : Decidable (TsX t u k) := by unfold TsX; infer_instance
end Go.Proofs.YtjfjpngajboidaaGreat
