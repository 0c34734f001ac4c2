/-
  Contract of the reference's l03Image: the image of a table by a permutation.
-/
import Derived.Test.YtjbloenjphpngaaGreatProg
import Derived.Deep.DeepCutAuto
import Derived.Deep.RegionWith
import Derived.Deep.RegionHeld3
import Derived.Deep.DrawnRows
import Derived.BigRegion
import Derived.Test.YtjbloenjphpngaaGreatKx0
import Derived.Test.YtjbloenjphpngaaGreatKx1
import Derived.Test.YtjbloenjphpngaaGreatKx6
import Derived.Test.YtjbloenjphpngaaGreatKx7
import Derived.Test.YtjbloenjphpngaaGreatKx8
import Derived.Test.YtjbloenjphpngaaGreatKx4
import Derived.Test.YtjbloenjphpngaaGreatKx3
import Derived.Test.YtjbloenjphpngaaGreatKx9
import Derived.Test.YtjbloenjphpngaaGreatKx25
import Derived.Test.YtjbloenjphpngaaGreatKx2
import Derived.Test.YtjbloenjphpngaaGreatKx21
import Derived.Test.YtjbloenjphpngaaGreatKx22
import Derived.Test.YtjbloenjphpngaaGreatKx20
import Derived.Test.YtjbloenjphpngaaGreatKx5
import Derived.Test.YtjbloenjphpngaaGreatKx29
namespace Go.Proofs.YtjbloenjphpngaaGreat
set_option linter.unusedVariables false
set_option linter.unusedSimpArgs false
open Go.RowKit
attribute [local go_sem ↓] Go.wp_at_zero Go.wp_at_succ
open Go.Deep

set_option maxRecDepth 100000 in
set_option maxHeartbeats 2000000 in
theorem l03Image_any (t : List (List Int)) (p : List Int) (v u : Value) (w : World) (hv : Rows w v t) (hu : Ints w u p) (hT : TableOk t) (hp : IsoOk t.length [] [] p) :
    Calls Tryz.prog 89 #[v, u] w (NewT (imgT t p) w) := by
  have HO := Lib.hid (l01Own2_own t v w hv)
  obtain ⟨hlen, b, o, c, rfl, hc⟩ := id hv
  obtain ⟨hlp, bp, op, cp, rfl, hcp⟩ := id hu
  have h12 := hT.2.1
  have h1 := hT.1
  have HT := Lib.hid hT
  have HP := Lib.hid hp
  have HPL := Lib.hid hp.1
  rw [hp.1]
  clear hT hp hu hv
  go_enter Tryz.func89, Tryz.ntmps89
  go_wp2_with fail
  refine HO.out.mono ?_
  rintro e w1 ⟨b1, c1, rfl, ho1, hx1⟩
  have z1 := hx1.size
  go_wp2_with fail
  go_loopw [6] (fun x wr => ∃ k T, k ≤ t.length ∧ x = .int .i64 (k : Nat) ∧ ImgTo t p k 0 T ∧ OwnT w.heap.size w1.heap.size wr b1 0 T ∧ Ext w wr ∧ wr.heap.size = w1.heap.size) (fun x _ => t.length - (intOf x).toNat)
  case atStart => exact ⟨0, t, by omega, rfl, ImgTo.start HT.out p, ho1, hx1, rfl⟩
  case round =>
    clear ho1 hx1
    obtain ⟨k, T, hk, rfl, hi, ho, hx, hsz⟩ := hrel
    by_cases hkl : k < t.length
    case neg =>
      have hkk : k = t.length := by omega
      subst hkk
      have hd := hi.done HP.out
      subst hd
      have HI := Lib.hid (length_imgT t p)
      go_wp2
      go_ret
      exact ⟨b1, c1, by rw [HI.out]; rfl, ho.mono (Nat.le_refl _) (by omega), hx⟩
    case pos =>
      obtain ⟨w2, rfl⟩ : ∃ w2 : World, w2 = wr := ⟨_, rfl⟩
      go_wp2_with fail
      go_loopw [7] (fun x wr => ∃ j T, j ≤ t.length ∧ x = .int .i64 (j : Nat) ∧ ImgTo t p k j T ∧ OwnT w.heap.size w1.heap.size wr b1 0 T ∧ Ext w wr ∧ wr.heap.size = w1.heap.size) (fun x _ => t.length - (intOf x).toNat)
      case atStart => exact ⟨0, T, by omega, rfl, hi, ho, hx, hsz⟩
      case round =>
        clear hi ho hx hsz
        obtain ⟨j, T, hj, rfl, hi, ho, hx, hsz⟩ := hrel
        by_cases hjl : j < t.length
        case neg =>
          have hjj : j = t.length := by omega
          subst hjj
          go_wp2
          go_roundw
          case rel => exact ⟨k + 1, T, by omega, by go_num, hi.next, ho, hx, hsz⟩
          case measure => simp [intOf]; omega
        case pos =>
          have p1 := HP.out.bd hkl
          have p2 := HP.out.bd hjl
          obtain ⟨x1, hx1⟩ : ∃ x1 : Nat, ix p k = (x1 : Int) := ⟨_, (Int.toNat_of_nonneg p1.1).symm⟩
          obtain ⟨y1, hy1⟩ : ∃ y1 : Nat, ix p j = (y1 : Int) := ⟨_, (Int.toNat_of_nonneg p2.1).symm⟩
          have hx1n : x1 < t.length := by omega
          have hy1n : y1 < t.length := by omega
          have q1 := HT.out.bd hkl hjl
          obtain ⟨z, hz⟩ : ∃ z : Nat, ent t k j = (z : Int) := ⟨_, (Int.toNat_of_nonneg q1.1).symm⟩
          have hzn : z < t.length := by omega
          obtain ⟨d1, s1, m1, r1, l1⟩ := (hc.ext hx).read HT.out rfl hkl
          have e1 := (hcp.ext hx) k (by rw [HPL.out]; exact hkl)
          have e2 := (hcp.ext hx) j (by rw [HPL.out]; exact hjl)
          have e3 := (hcp.ext hx) z (by rw [HPL.out]; exact hzn)
          have e4 := l1 j hjl
          obtain ⟨b3, o3, c3, e5, ho3⟩ := ho.get (k := x1) (by rw [hi.len]; exact hx1n)
          have hTl := hi.rows x1 hx1n
          rw [hTl] at e5
          have f3 := ho3.2.2.2 y1 (by rw [hTl]; exact hy1n)
          have e6 := ho3.2.2.1 y1 (by rw [hTl]; exact hy1n)
          rw [hx1] at e1
          rw [hy1] at e2
          rw [hz] at e4
          rw [Nat.zero_add] at e5
          have HI := Lib.hid hi
          have HOO := Lib.hid ho
          have HX := Lib.hid hx
          clear hi ho hx l1
          have hbb := ho3.1
          have hbb2 := ho3.2.1
          clear ho3
          go_wp2_with fail
          go_region
          all_goals
            go_wp2_with fail
            go_roundw
            case rel => exact ⟨j + 1, setE T x1 y1 (ix p z), by omega, by go_num, by
              have h := HI.out.step HP.out hkl hjl
              rw [hx1, hy1, hz, Int.toNat_natCast, Int.toNat_natCast, Int.toNat_natCast] at h
              exact h, (HOO.out.put (by rw [HI.out.len]; exact hx1n) (by rw [hTl]; exact hy1n) (by rw [Nat.zero_add]; exact e5) (ix p z)).keep (fun _ _ _ => rfl), (HX.out.setNew hbb _).drew, by rw [← hsz]; simp [size_drew]⟩
            case measure => simp [intOf]; omega
end Go.Proofs.YtjbloenjphpngaaGreat

/-
  Tables made of tables are tables: turned, product, of a ring. No program in sight.
-/
namespace Go.Proofs.YtjbloenjphpngaaGreat
set_option linter.unusedVariables false
set_option linter.unusedSimpArgs false

theorem table_mk {n : Nat} {f : Nat → Nat → Int} (h1 : 1 ≤ n) (h2 : n ≤ 12) (h : ∀ x, x < n → ∀ y, y < n → 0 ≤ f x y ∧ f x y < n) : TableOk (mkT n f) := by
  refine ⟨by rw [length_mkT]; exact h1, by rw [length_mkT]; exact h2, fun x hx => ?_⟩
  rw [length_mkT] at hx ⊢
  refine ⟨length_row_mkT n f x hx, fun y hy => ?_⟩
  rw [ent_mkT _ _ _ _ hx hy]
  have := h x hx y hy
  omega

theorem turn_ok {t : List (List Int)} (h : TableOk t) : TableOk (turnT t) := by
  rw [turnT_def]
  refine table_mk h.1 h.2.1 fun x hx y hy => ?_
  have := h.bd hy hx
  rw [turnF_def]
  omega

theorem ring_table {n : Nat} (h1 : 1 ≤ n) (h2 : n ≤ 12) (m : Nat) : TableOk (mkT n (ringF n m)) :=
  table_nat h1 h2 (fun x y => ringF_nat n m x y) (fun x y => rC_lt h1)

theorem prod_ok {N : Nat} {t u : List (List Int)} (hN : N = t.length * u.length) (h12 : N ≤ 12) (hT : TableOk t) (hU : TableOk u) : TableOk (mkT N (prodF t u)) := by
  have ht := hT.1
  have hu := hU.1
  refine table_mk (by rw [hN]; exact Nat.mul_pos ht hu) h12 fun x hx y hy => ?_
  have dv : ∀ z, z < N → z / u.length < t.length := fun z hz => by rw [Nat.div_lt_iff_lt_mul hu, ← hN]; exact hz
  have a := hT.bd (dv x hx) (dv y hy)
  have b := hU.bd (Nat.mod_lt x hu) (Nat.mod_lt y hu)
  rw [← prodF_def]
  obtain ⟨p, hp⟩ := Int.eq_ofNat_of_zero_le (a := ent t (x / u.length) (y / u.length)) (by omega)
  obtain ⟨q, hq⟩ := Int.eq_ofNat_of_zero_le (a := ent u (x % u.length) (y % u.length)) (by omega)
  rw [hp] at a
  rw [hq] at b
  rw [hp, hq]
  have e : (p + 1) * u.length ≤ t.length * u.length := Nat.mul_le_mul_right _ (by omega)
  rw [Nat.succ_mul, ← hN] at e
  rw [← Int.natCast_mul]
  omega
end Go.Proofs.YtjbloenjphpngaaGreat

/-
  Contracts of RingBrace: reference and program.
-/
namespace Go.Proofs.YtjbloenjphpngaaGreat
set_option linter.unusedVariables false
set_option linter.unusedSimpArgs false
open Go.RowKit
attribute [local go_sem ↓] Go.wp_at_zero Go.wp_at_succ

theorem mul_bdQ {a b m n : Nat} (ha : a ≤ m) (hb : b ≤ n) : 0 ≤ (a : Int) * (b : Int) ∧ (a : Int) * (b : Int) ≤ ((m * n : Nat) : Int) := by
  have := Nat.mul_le_mul ha hb
  rw [← Int.natCast_mul]
  omega

/-! ### the program -/
def NoBad (n k q : Nat) : Prop := ∀ p, p < q → badP n k p = false
theorem isPr_small {p : Nat} (h : p < 2) : isPr p = false := by
  unfold isPr
  have : Nat.ble 2 p = false := by
    cases e : Nat.ble 2 p with
    | false => rfl
    | true => exact absurd (Nat.le_of_ble_eq_true e) (by omega)
  rw [this]; rfl

theorem badP_1 {n k p : Nat} (h : isPr p = false) : badP n k p = false := by unfold badP; rw [h]; rfl

theorem NoBad.two (n k : Nat) : NoBad n k 2 := fun p hp => badP_1 (isPr_small hp)

theorem NoBad.succ {n k q : Nat} (h : NoBad n k q) (hq : badP n k q = false) : NoBad n k (q + 1) := all_succ h hq

end Go.Proofs.YtjbloenjphpngaaGreat

/-
  image9 of laws.go: the image of a table by a permutation.
-/
namespace Go.Proofs.YtjbloenjphpngaaGreat
set_option linter.unusedVariables false
set_option linter.unusedSimpArgs false
open Go.RowKit
attribute [local go_sem ↓] Go.wp_at_zero Go.wp_at_succ
open Go.Deep

theorem rowsR_ok {w : World} {v : Value} {t : List (List Int)} (h : RowsR w v t) (hT : TableOk t) : Rows w v t := by
  obtain ⟨a, c, rfl, h⟩ := h
  obtain ⟨b, o, rfl, h2⟩ := h (ne_nil_of_lt (k := 0) hT.1)
  refine ⟨by have := hT.2.1; omega, b, o, c, rfl, fun i hi => ?_⟩
  obtain ⟨r, k1, k2⟩ := h2 i hi
  refine ⟨r, k1, by have := hT.len hi; have := hT.2.1; omega, ?_⟩
  obtain ⟨a2, c2, e2, k3⟩ := k2
  obtain ⟨b2, o2, rfl, k4⟩ := k3 (ne_nil_of_lt (k := 0) (by rw [hT.len hi]; exact hT.1))
  exact ⟨b2, o2, c2, e2, k4⟩
end Go.Proofs.YtjbloenjphpngaaGreat

/-
  Contracts of LambdaOf: reference and program.
-/
namespace Go.Proofs.YtjbloenjphpngaaGreat
set_option linter.unusedVariables false
set_option linter.unusedSimpArgs false
open Go.RowKit
attribute [local go_sem ↓] Go.wp_at_zero Go.wp_at_succ

/-- lambda -/
@[irreducible] def lamF (t u : List (List Int)) (x y : Nat) : Int := ent t (backF t x).toNat (ent u x y).toNat
theorem lamF_def (t u : List (List Int)) (x y : Nat) : ent t (backF t x).toNat (ent u x y).toNat = lamF t u x y := by unfold lamF; rfl
theorem lamF_bd {t u : List (List Int)} (hG : GroupOk t) (hU : GroupOk u) (hl : t.length = u.length) {x y : Nat} (hx : x < t.length) (hy : y < t.length) : 0 ≤ lamF t u x y ∧ lamF t u x y < (t.length : Int) := by
  rw [← lamF_def]
  have h1 := backF_ok hG hx
  have h2 := hU.1.bd (x := x) (y := y) (by omega) (by omega)
  have := hG.1.bd (x := (backF t x).toNat) (y := (ent u x y).toNat) (by omega) (by omega)
  omega

set_option maxRecDepth 100000 in
set_option maxHeartbeats 1000000 in
theorem l11Lambda_any (t u : List (List Int)) (v y : Value) (w : World) (hv : Rows w v t) (hy : Rows w y u) (hG : GroupOk t) (hU : GroupOk u) (hl : t.length = u.length) :
    Calls Tryz.prog 49 #[.agg #[v, y]] w fun e w' => ∃ v, e = .returned v ∧ Rows w' v (mkT t.length (lamF t u)) ∧ Ext w w' := by
  obtain ⟨hlen, b, o, c, rfl, hc⟩ := id hv
  obtain ⟨hlen2, b2, o2, c2, rfl, hc2⟩ := id hy
  have hX := ext_boxB w (.slice (some ⟨b, o, none⟩) t.length c) (.slice (some ⟨b2, o2, none⟩) u.length c2) 26
  have k0 := cell_new2a w (.slice (some ⟨b, o, none⟩) t.length c) (.slice (some ⟨b2, o2, none⟩) u.length c2) 26
  have k1 := cell_new2b w (.slice (some ⟨b, o, none⟩) t.length c) (.slice (some ⟨b2, o2, none⟩) u.length c2) 26
  have h12 := hG.1.2.1
  have HLT := Lib.hid (length_mkT t.length (lamF t u))
  have HB := Lib.hid (fun x (hx : x < t.length) => backF_ok hG hx)
  have HG := Lib.hid hG
  have HU := Lib.hid hU
  have HL := Lib.hid hl.symm
  clear hG hU hl
  go_enter Tryz.func49, Tryz.ntmps49
  go_wp2
  have zA : w.heap.size + 1 = (w.alloc (.cells #[.slice (some ⟨b, o, none⟩) t.length c, .slice (some ⟨b2, o2, none⟩) u.length c2] 26)).heap.size := by simp
  generalize (w.alloc (.cells #[.slice (some ⟨b, o, none⟩) t.length c, .slice (some ⟨b2, o2, none⟩) u.length c2] 26)) = A at *
  have hx0 : Ext A (A.alloc (.cells #[] 53)) := (Ext.refl _).alloc _
  have hg0 : GrowT 53 A.heap.size (A.alloc (.cells #[] 53)) (.slice (some ⟨w.heap.size + 1, 0, none⟩) 0 0) [] := by rw [zA]; exact GrowT.lit (Nat.le_refl _)
  replace zA := Nat.le_of_eq zA
  go_loopw [3, 4] (fun v x wr => ∃ k : Nat, k ≤ t.length ∧ x = .int .i64 k ∧ GrowT 53 A.heap.size wr v ((mkT t.length (lamF t u)).take k) ∧ v ≠ .slice none 0 0 ∧ Ext A wr) (fun _ x _ => t.length - (intOf x).toNat)
  case atStart => exact ⟨0, Nat.zero_le _, rfl, hg0, by simp, hx0⟩
  case round =>
    clear hx0 hg0
    obtain ⟨k, hk, rfl, hg, hv', hx⟩ := hrel
    have HV := Lib.hid hv'
    clear hv'
    have j0 := hx.cell k0
    have j1 := hx.cell k1
    by_cases hkl : k < t.length
    case neg =>
      go_wp2
      go_ret
      refine ⟨u3, rfl, ?_, hX.trans hx⟩
      have : (mkT t.length (lamF t u)).take k = mkT t.length (lamF t u) := List.take_of_length_le (by rw [HLT.out]; omega)
      rw [this] at hg
      exact hg.rows (by rw [HLT.out]; omega) HV.out
    case pos =>
      obtain ⟨w2, rfl⟩ : ∃ w2 : World, w2 = wr := ⟨_, rfl⟩
      have hxa : Ext w2 (w2.alloc (.cells #[] 2)) := (Ext.refl _).alloc _
      have hi0 := GrowI.lit (e := 2) (base := w2.heap.size) (w := w2) (Nat.le_refl _)
      have ja := hxa.cell j0
      have hXk := (hX.trans hx).trans hxa
      go_wp2_with (go_at_call 71; refine (l10Back_any t _ k _ (hv.ext hXk) hkl).mono ?_; rintro e w' ⟨rfl, rfl⟩)
      have hrl : (row (mkT t.length (lamF t u)) k).length = t.length := by rw [row_mkT _ _ _ hkl, length_partRow]
      have HRL := Lib.hid hrl
      have hout := hg.lt
      have HO := Lib.hid hout
      clear hrl hout ja hXk
      go_loopw [5, 7] (fun v y wr => ∃ j : Nat, j ≤ t.length ∧ y = .int .i64 j ∧ GrowI 2 w2.heap.size wr v ((row (mkT t.length (lamF t u)) k).take j) ∧ v ≠ .slice none 0 0 ∧ Ext w2 wr) (fun _ y _ => t.length - (intOf y).toNat)
      case atStart => exact ⟨0, Nat.zero_le _, rfl, hi0, by simp, hxa⟩
      case round =>
        clear hxa hi0
        obtain ⟨j, hj, rfl, hi, hvr, hx2⟩ := hrel
        have HVR := Lib.hid hvr
        clear hvr
        have m0 := hx2.cell j0
        have m1 := hx2.cell j1
        by_cases hjl : j < t.length
        case neg =>
          have hta : (row (mkT t.length (lamF t u)) k).take j = row (mkT t.length (lamF t u)) k := List.take_of_length_le (by rw [HRL.out]; omega)
          rw [hta] at hi
          obtain ⟨br, cr, rfl, hri, hrb, hrb2⟩ := hi.row HVR.out
          have hgw := hg.ext hx2
          have hne : some br ≠ u3.ownBlock := fun e => by have := HO.out br e.symm; omega
          have htl : ((mkT t.length (lamF t u)).take k).length = k := by rw [List.length_take, HLT.out]; omega
          have HTL := Lib.hid htl
          clear htl hg
          go_wp2_with (at_builtin; refine wpList_append_row rfl _ _ 24 53 rfl Tryz.underlying24 infoSl A.heap.size _ _ rfl (hgw.ext (ext_box _ _ _)) _ br cr _ rfl (cell_new _ _ _) (hri.ext (ext_box _ _ _)) (by rw [HRL.out]; omega) hne (by rw [HTL.out]; omega) (by have := hx.size; have := hx2.size; simp; omega) ?_)
          intro v' w3 hg3 hgr hv3
          have hx3 : Ext A w3 := (hx.trans (hx2.trans (ext_box _ _ _))).grown hgr (hgw.ext (ext_box _ _ _)).own.choose_spec (Nat.le_refl _)
          clear hgr hne hgw
          go_wp2
          go_roundw
          case rel => exact ⟨k + 1, by omega, by go_num, by rw [take_row _ _ (by rw [HLT.out]; exact hkl)]; exact hg3, hv3, hx3⟩
          case measure => simp [intOf]; omega
        case pos =>
          have hp := HB.out k hkl
          have i0 : backF t k < (t.length : Int) := by omega
          have iu : (k : Int) < (u.length : Int) := by have := HL.out; omega
          obtain ⟨d1, s1, n1, r1, l1⟩ := (hc2.ext (hX.trans hx)).read HU.out.1 HL.out hkl
          obtain ⟨e1, i1, i2⟩ := l1 j hjl
          obtain ⟨d2, s2, n2, r2, l2⟩ := (hc.ext (hX.trans hx)).read HG.out.1 rfl (x := (backF t k).toNat) (by omega)
          obtain ⟨e2, i3, i4⟩ := l2 (ent u k j).toNat (by omega)
          rw [lamF_def] at e2 i3 i4
          have p1 := hx2.cell r1
          have p2 := hx2.cell r2
          have p3 := hx2.cell e1
          have p4 := hx2.cell e2
          have hlj : ((row (mkT t.length (lamF t u)) k).take j).length = j := by rw [List.length_take, HRL.out]; omega
          have HLJ := Lib.hid hlj
          clear hlj l1 l2
          go_wp2_with fail
          go_region_held3 (fun w' => w'.cell? ⟨w.heap.size, 0, none⟩ = some (.slice (some ⟨b, o, none⟩) t.length c) ∧ w'.cell? ⟨w.heap.size, 1, none⟩ = some (.slice (some ⟨b2, o2, none⟩) u.length c2) ∧ w'.cell? ⟨b2, o2 + k, none⟩ = some (.slice (some ⟨d1, s1, none⟩) t.length n1) ∧ w'.cell? ⟨b, o + (backF t k).toNat, none⟩ = some (.slice (some ⟨d2, s2, none⟩) t.length n2) ∧ w'.cell? ⟨d1, s1 + j, none⟩ = some (.int .i64 (ent u k j)) ∧ w'.cell? ⟨d2, s2 + (ent u k j).toNat, none⟩ = some (.int .i64 (lamF t u k j)))
            ((refine ⟨?_, ?_, ?_, ?_, ?_, ?_⟩ <;> (repeat first | (with_reducible assumption) | (with_reducible refine Ext.cell hx3 ?_) |  (with_reducible exact kc_new) | ((with_reducible refine kc_newE ?_); (simp; done)) | ((with_reducible refine kc_newEa ?_); (simp; done)) | ((with_reducible refine kc_newEb ?_); (simp; done)) | (with_reducible apply kc_alloc) | (with_reducible apply kc_drewN) | (with_reducible apply kc_drew) | ((with_reducible refine kc_set ?_ ?_); (first | (simp only []; omega) | (simp; omega) | (focus (simp; done)))) | ((with_reducible refine kc_set2 ?_ ?_); (focus (simp; done))) | (with_reducible refine kc_same (v := .slice none 0 0) ?_))))
            ((refine step_append_int (by rfl) _ _ 53 2 (by rfl) Tryz.underlying53 infoInt w2.heap.size _ _ (by rfl) (hi.ext (by (repeat first | (with_reducible exact Ext.refl _) | (with_reducible assumption) | (with_reducible apply Ext.drew) | (with_reducible apply kx_drewN) | (with_reducible apply kx_alloc) | ((with_reducible refine kx_set ?_ ?_); (first | (simp only []; omega) | (simp; omega) | (focus (simp; done)))) ))) _ _ (by rfl) (by (repeat first | (with_reducible assumption) |  (with_reducible exact kc_new) | ((with_reducible refine kc_newE ?_); (simp; done)) | ((with_reducible refine kc_newEa ?_); (simp; done)) | ((with_reducible refine kc_newEb ?_); (simp; done)) | (with_reducible apply kc_alloc) | (with_reducible apply kc_drewN) | (with_reducible apply kc_drew) | ((with_reducible refine kc_set ?_ ?_); (first | (simp only []; omega) | (simp; omega) | (focus (simp; done)))) | ((with_reducible refine kc_set2 ?_ ?_); (focus (simp; done))) | (with_reducible refine kc_same (v := .slice none 0 0) ?_))) (by rw [HLJ.out]; omega) (by have := hx2.size; simp; omega) ?_; intro v' w3 hi3 hgr hv3; have hx3 : Ext w2 w3 := Ext.grown (hx2.trans (by (repeat first | (with_reducible exact Ext.refl _) | (with_reducible assumption) | (with_reducible apply Ext.drew) | (with_reducible apply kx_drewN) | (with_reducible apply kx_alloc) | ((with_reducible refine kx_set ?_ ?_); (first | (simp only []; omega) | (simp; omega) | (focus (simp; done)))) ))) hgr (hi.ext (by (repeat first | (with_reducible exact Ext.refl _) | (with_reducible assumption) | (with_reducible apply Ext.drew) | (with_reducible apply kx_drewN) | (with_reducible apply kx_alloc) | ((with_reducible refine kx_set ?_ ?_); (first | (simp only []; omega) | (simp; omega) | (focus (simp; done)))) ))) (Nat.le_refl _)))
          all_goals
            go_wp2
            go_roundw
            case rel => exact ⟨j + 1, by omega, by go_num, by
              rw [take_ix _ _ (by rw [HRL.out]; exact hjl), row_mkT _ _ _ hkl, ix_partRow _ _ _ _ _ hjl, if_pos hjl]
              rw [row_mkT _ _ _ hkl] at hi3
              exact hi3, hv3, hx3⟩
            case measure => simp [intOf]; omega

theorem lambdaTable1_any (t u : List (List Int)) (v y : Value) (b3 c3 : Nat) (i j B C : Nat) (w : World) (hB : w.cell? ⟨B, 0, none⟩ = some v) (hB1 : w.cell? ⟨B, 1, none⟩ = some y) (hC : w.cell? ⟨C, 0, none⟩ = some (.slice (some ⟨b3, 0, none⟩) t.length c3)) (hv : Rows w v t) (hy : Rows w y u) (hi : IntsAt w b3 0 (backs t)) (hG : GroupOk t) (hU : GroupOk u) (hl : t.length = u.length) (hx : i < t.length) (hj : j < t.length) :
    Calls Tryz.prog 66 #[.int .i64 i, .int .i64 j, .pointer (some ⟨B, 0, none⟩), .pointer (some ⟨C, 0, none⟩)] w fun e w' => e = .returned (.int .i64 (lamF t u i j)) ∧ Ext w w' := by
  obtain ⟨hlen, b, o, c, rfl, hc⟩ := id hv
  obtain ⟨hlen2, b2, o2, c2, rfl, hc2⟩ := id hy
  have h12 := hG.1.2.1
  have hb := backF_ok hG hx
  have i0 : backF t i < (t.length : Int) := by omega
  obtain ⟨d1, s1, m1, r1, l1⟩ := hc2.read hU.1 hl.symm hx
  obtain ⟨f1, p1, p2⟩ := l1 j hj
  obtain ⟨d2, s2, m2, r2, l2⟩ := hc.read hG.1 rfl (x := (backF t i).toNat) (by omega)
  obtain ⟨f2, p3, p4⟩ := l2 (ent u i j).toNat (by omega)
  rw [lamF_def] at f2 p3 p4
  have ib := hi i (by rw [length_backs]; exact hx)
  rw [ix_backs _ _ hx, Nat.zero_add] at ib
  have HL := Lib.hid hl
  rw [← hl] at hB1
  clear l1 l2 hl
  go_enter Tryz.func66, Tryz.ntmps66
  go_wp2
  go_quiet (fail)
  go_wp2
  go_ret
  exact ⟨rfl, (Ext.refl _).drewN _⟩

theorem callLambdaTable1 (args : Array Value) (w : World) : (callFunc 66 args).run Tryz.prog w = .ok (.enter 66 args) w :=
  callFunc_enter Tryz.func66 (by kernel_rfl) rfl args w

set_option maxRecDepth 100000 in
theorem lambdaTable_any (t u : List (List Int)) (v y : Value) (w : World) (hv : Rows w v t) (hy : Rows w y u) (hG : GroupOk t) (hU : GroupOk u) (hl : t.length = u.length) :
    Calls Tryz.prog 44 #[.agg #[v, y]] w (NewT (mkT t.length (lamF t u)) w) := by
  obtain ⟨hlen, b, o, c, rfl, hc⟩ := id hv
  obtain ⟨hlen2, b2, o2, c2, rfl, hc2⟩ := id hy
  have hX := ext_boxB w (.slice (some ⟨b, o, none⟩) t.length c) (.slice (some ⟨b2, o2, none⟩) u.length c2) 26
  have k0 := cell_new2a w (.slice (some ⟨b, o, none⟩) t.length c) (.slice (some ⟨b2, o2, none⟩) u.length c2) 26
  have k1 := cell_new2b w (.slice (some ⟨b, o, none⟩) t.length c) (.slice (some ⟨b2, o2, none⟩) u.length c2) 26
  have zA : w.heap.size + 1 = (w.alloc (.cells #[.slice (some ⟨b, o, none⟩) t.length c, .slice (some ⟨b2, o2, none⟩) u.length c2] 26)).heap.size := by simp
  clear hc hc2
  have h12 := hG.1.2.1
  have HG := Lib.hid hG
  have HU := Lib.hid hU
  have HL := Lib.hid hl
  clear hG hU hl
  replace zA := Nat.le_of_eq zA
  go_enter Tryz.func44, Tryz.ntmps44
  go_wp2_with fail
  generalize (w.alloc (.cells #[.slice (some ⟨b, o, none⟩) t.length c, .slice (some ⟨b2, o2, none⟩) u.length c2] 26)) = A at *
  refine (groupInverses_any t _ _ (hv.ext hX)).mono ?_
  rintro e w1 ⟨b3, c3, rfl, hi3, hx1⟩
  replace hX := hX.trans hx1
  replace k0 := hx1.cell k0
  replace k1 := hx1.cell k1
  have hxB := ext_box w1 (.slice (some ⟨b3, 0, none⟩) t.length c3) 53
  have bB := cell_new w1 (.slice (some ⟨b3, 0, none⟩) t.length c3) 53
  have hz := hx1.size
  replace k0 := hxB.cell k0
  replace k1 := hxB.cell k1
  go_wp2_with fail
  refine (tableBy_any t.length (lamF t u) 66 #[.pointer (some ⟨w.heap.size, 0, none⟩), .pointer (some ⟨w1.heap.size, 0, none⟩)] _ (by omega) callLambdaTable1 (fun w3 x y h3 hx hy' => by
    rw [app22]
    have hX3 := hX.trans (hxB.trans h3)
    exact lambdaTable1_any t u _ _ b3 c3 x y w.heap.size w1.heap.size w3 (h3.cell k0) (h3.cell k1) (h3.cell bB) (hv.ext hX3) (hy.ext hX3) (hi3.ext (hxB.trans h3)) HG.out HU.out HL.out hx hy')).mono ?_
  rintro e w2 ⟨b4, c4, rfl, ho, hx2⟩
  go_wp2
  go_ret
  exact ⟨b4, c4, rfl, ho.mono (by simp; omega) (Nat.le_refl _), hX.trans (hxB.trans hx2)⟩

end Go.Proofs.YtjbloenjphpngaaGreat

/-
  Contracts: solutions by a function; the solution of a brace (program).
-/
namespace Go.Proofs.YtjbloenjphpngaaGreat
set_option linter.unusedVariables false
set_option linter.unusedSimpArgs false
open Go.RowKit
attribute [local go_sem ↓] Go.wp_at_zero Go.wp_at_succ

/-- the second value of the solution of a brace -/
@[irreducible] def solF (t u : List (List Int)) (x y : Nat) : Int := ent u (backF u (lamF t u x y).toNat).toNat (ent u x y).toNat
theorem solF_def (t u : List (List Int)) (x y : Nat) : ent u (backF u (lamF t u x y).toNat).toNat (ent u x y).toNat = solF t u x y := by unfold solF; rfl
theorem solF_ix {t u : List (List Int)} (hG : GroupOk t) (hU : GroupOk u) (hl : t.length = u.length) {x y : Nat} (hx : x < t.length) (hy : y < t.length) : indexOf (row u (lamF t u x y).toNat) (ent u x y) = solF t u x y := by
  have hb := lamF_bd hG hU hl hx hy
  have hz : (lamF t u x y).toNat < u.length := by omega
  have hc := hU.1.bd (x := x) (y := y) (by omega) (by omega)
  have hcn : (ent u x y).toNat < u.length := by omega
  have hgi := gi_lt hU hz
  have hi := gm_lt hU hgi hcn
  have e1 : gm u (lamF t u x y).toNat (gm u (gi u (lamF t u x y).toNat) (ent u x y).toNat) = (ent u x y).toNat := by
    rw [← gm_assoc hU hz hgi hcn, gm_gi hU hz, gm_zero hU hcn]
  have e2 : solF t u x y = ((gm u (gi u (lamF t u x y).toNat) (ent u x y).toNat : Nat) : Int) := by
    have := hU.1.bd (x := gi u (lamF t u x y).toNat) (y := (ent u x y).toNat) hgi hcn
    rw [← solF_def]
    unfold gm
    unfold gi at this ⊢
    omega
  have hlr := hU.1.len hz
  rcases indexOf_spec (row u (lamF t u x y).toNat) (ent u x y) with ⟨_, h2⟩ | ⟨j, h1, h2, h3, _⟩
  · exfalso
    apply h2 (gm u (gi u (lamF t u x y).toNat) (ent u x y).toNat) (by omega)
    rw [ent_def]
    have := hU.1.bd (x := (lamF t u x y).toNat) (y := gm u (gi u (lamF t u x y).toNat) (ent u x y).toNat) hz hi
    unfold gm at e1 this ⊢
    omega
  · rw [h2, e2]
    rw [ent_def] at h3
    have : j = gm u (gi u (lamF t u x y).toNat) (ent u x y).toNat := gm_inj hU hz (by omega) hi (by
      rw [e1]
      unfold gm
      rw [h3])
    rw [this]

theorem solBy1_any (F : Nat) (cap : Array Value) (f1 f2 : Int) (x y B : Nat) (w : World) (hB : w.cell? ⟨B, 0, none⟩ = some (.func (.func F) #[] cap))
    (hcall : ∀ (args : Array Value) (w : World), (callFunc F args).run Tryz.prog w = .ok (.enter F args) w)
    (hf : Calls Tryz.prog F (#[.int .i64 (x : Nat), .int .i64 (y : Nat)] ++ cap) w fun e w' => e = .returned (.tuple #[.int .i64 f1, .int .i64 f2]) ∧ Ext w w') :
    Calls Tryz.prog 67 #[.int .i64 x, .int .i64 y, .pointer (some ⟨B, 0, none⟩)] w fun e w' => e = .returned (.int .i64 f1) ∧ Ext w w' := by
  go_enter Tryz.func67, Tryz.ntmps67
  go_wp2_with fail
  refine hf.mono ?_
  rintro e w1 ⟨rfl, hx1⟩
  go_wp2
  go_ret
  exact ⟨rfl, hx1⟩

theorem solBy2_any (F : Nat) (cap : Array Value) (f1 f2 : Int) (x y B : Nat) (w : World) (hB : w.cell? ⟨B, 0, none⟩ = some (.func (.func F) #[] cap))
    (hcall : ∀ (args : Array Value) (w : World), (callFunc F args).run Tryz.prog w = .ok (.enter F args) w)
    (hf : Calls Tryz.prog F (#[.int .i64 (x : Nat), .int .i64 (y : Nat)] ++ cap) w fun e w' => e = .returned (.tuple #[.int .i64 f1, .int .i64 f2]) ∧ Ext w w') :
    Calls Tryz.prog 68 #[.int .i64 x, .int .i64 y, .pointer (some ⟨B, 0, none⟩)] w fun e w' => e = .returned (.int .i64 f2) ∧ Ext w w' := by
  go_enter Tryz.func68, Tryz.ntmps68
  go_wp2_with fail
  refine hf.mono ?_
  rintro e w1 ⟨rfl, hx1⟩
  go_wp2
  go_ret
  exact ⟨rfl, hx1⟩

theorem callSolBy1 (args : Array Value) (w : World) : (callFunc 67 args).run Tryz.prog w = .ok (.enter 67 args) w :=
  callFunc_enter Tryz.func67 (by kernel_rfl) rfl args w

theorem callSolBy2 (args : Array Value) (w : World) : (callFunc 68 args).run Tryz.prog w = .ok (.enter 68 args) w :=
  callFunc_enter Tryz.func68 (by kernel_rfl) rfl args w

/-- a struct of two tables in new memory is returned -/
def NewSol (T U : List (List Int)) (w : World) (e : Ending) (w' : World) : Prop := ∃ v y, e = .returned (.agg #[v, y]) ∧ OwnB w.heap.size w'.heap.size w' v y T U ∧ Ext w w'

set_option maxRecDepth 100000 in
theorem solutionBy_any (n : Nat) (f1 f2 : Nat → Nat → Int) (F : Nat) (cap : Array Value) (w : World) (hn : n ≤ 1048576)
    (hcall : ∀ (args : Array Value) (w : World), (callFunc F args).run Tryz.prog w = .ok (.enter F args) w)
    (hf : ∀ w1 x y, Ext w w1 → x < n → y < n → Calls Tryz.prog F (#[.int .i64 (x : Nat), .int .i64 (y : Nat)] ++ cap) w1 fun e w' => e = .returned (.tuple #[.int .i64 (f1 x y), .int .i64 (f2 x y)]) ∧ Ext w1 w') :
    Calls Tryz.prog 45 #[.int .i64 n, .func (.func F) #[] cap] w (NewSol (mkT n f1) (mkT n f2) w) := by
  have hX : Ext w ((w.alloc (.cells #[.func (.func F) #[] cap] 67)).alloc (.cells #[.slice none 0 0, .slice none 0 0] 29)) := ((Ext.refl _).alloc _).alloc _
  have b0 : ((w.alloc (.cells #[.func (.func F) #[] cap] 67)).alloc (.cells #[.slice none 0 0, .slice none 0 0] 29)).cell? ⟨w.heap.size, 0, none⟩ = some (.func (.func F) #[] cap) := by simp [go_sem]
  have r0 : ((w.alloc (.cells #[.func (.func F) #[] cap] 67)).alloc (.cells #[.slice none 0 0, .slice none 0 0] 29)).cell? ⟨w.heap.size + 1, 0, none⟩ = some (.slice none 0 0) := by simp [go_sem]
  have r1 : ((w.alloc (.cells #[.func (.func F) #[] cap] 67)).alloc (.cells #[.slice none 0 0, .slice none 0 0] 29)).cell? ⟨w.heap.size + 1, 1, none⟩ = some (.slice none 0 0) := by simp [go_sem]
  have q0 : ((w.alloc (.cells #[.func (.func F) #[] cap] 67)).alloc (.cells #[.slice none 0 0, .slice none 0 0] 29)).frozen? ⟨w.heap.size + 1, 0, none⟩ = false := by simp [go_sem]
  have q1 : ((w.alloc (.cells #[.func (.func F) #[] cap] 67)).alloc (.cells #[.slice none 0 0, .slice none 0 0] 29)).frozen? ⟨w.heap.size + 1, 1, none⟩ = false := by simp [go_sem]
  have z0 : w.heap.size + 2 ≤ ((w.alloc (.cells #[.func (.func F) #[] cap] 67)).alloc (.cells #[.slice none 0 0, .slice none 0 0] 29)).heap.size := by simp
  have HF := Lib.hid hf
  have HC := Lib.hid hcall
  have HL1 := Lib.hid (length_mkT n f1)
  have HL2 := Lib.hid (length_mkT n f2)
  clear hf hcall
  go_enter Tryz.func45, Tryz.ntmps45
  go_wp2_with fail
  generalize (w.alloc (.cells #[.func (.func F) #[] cap] 67)).alloc (.cells #[.slice none 0 0, .slice none 0 0] 29) = A at *
  refine (tableBy_any n f1 67 #[.pointer (some ⟨w.heap.size, 0, none⟩)] _ hn callSolBy1 (fun w1 x y h1 hx hy => by
    rw [app21]
    exact solBy1_any F cap (f1 x y) (f2 x y) x y w.heap.size w1 (h1.cell b0) HC.out (HF.out w1 x y (hX.trans h1) hx hy))).mono ?_
  rintro e w1 ⟨b1, c1, rfl, ho1, hx1⟩
  have b0' := hx1.cell b0
  have hX1 := hX.trans hx1
  have zz := hx1.size
  replace r0 := hx1.cell r0
  replace r1 := hx1.cell r1
  replace q0 := hx1.free q0 (by simp only []; omega)
  replace q1 := hx1.free q1 (by simp only []; omega)
  go_wp2_with fail
  refine (tableBy_any n f2 68 #[.pointer (some ⟨w.heap.size, 0, none⟩)] _ hn callSolBy2 (fun w2 x y h2 hx hy => by
    rw [app21]
    exact solBy2_any F cap (f1 x y) (f2 x y) x y w.heap.size w2 (h2.cell b0') HC.out (HF.out w2 x y (hX1.trans h2) hx hy))).mono ?_
  rintro e w2 ⟨b2, c2, rfl, ho2, hx2⟩
  have zz2 := hx2.size
  replace r0 := hx2.cell r0
  replace r1 := hx2.cell r1
  replace q0 := hx2.free q0 (by simp only []; omega)
  replace q1 := hx2.free q1 (by simp only []; omega)
  go_wp2
  refine bodyPost_ret (v := .agg #[.slice (some ⟨b1, 0, none⟩) (mkT n f1).length c1, .slice (some ⟨b2, 0, none⟩) (mkT n f2).length c2]) (by simp [results, Tryz.results45, go_sem, r0, r1]) rfl ⟨_, _, rfl, ⟨A.heap.size, w1.heap.size, w1.heap.size, w2.heap.size, by omega, by simp; omega, by omega, by simp, .inl (Nat.le_refl _), ((OwnV.ext (ho1.v (small_mkT hn _) c1) hx2 (Nat.le_refl _)).set2 (by omega) _ _), ((ho2.v (small_mkT hn _) c2).set2 (by omega) _ _)⟩, ((hX1.trans hx2).setNew (by simp only []; omega) _).setNew (by simp only []; omega) _⟩

theorem braceSolution1_any (t u : List (List Int)) (v y r : Value) (b5 c5 : Nat) (i j B C D : Nat) (w : World) (hC : w.cell? ⟨C, 0, none⟩ = some r) (hB1 : w.cell? ⟨B, 1, none⟩ = some y) (hD : w.cell? ⟨D, 0, none⟩ = some (.slice (some ⟨b5, 0, none⟩) u.length c5)) (hy : Rows w y u) (hr : Rows w r (mkT t.length (lamF t u))) (hi : IntsAt w b5 0 (backs u)) (hG : GroupOk t) (hU : GroupOk u) (hl : t.length = u.length) (hx : i < t.length) (hj : j < t.length) :
    Calls Tryz.prog 46 #[.int .i64 i, .int .i64 j, .pointer (some ⟨C, 0, none⟩), .pointer (some ⟨B, 0, none⟩), .pointer (some ⟨D, 0, none⟩)] w fun e w' => e = .returned (.tuple #[.int .i64 (lamF t u i j), .int .i64 (solF t u i j)]) ∧ Ext w w' := by
  obtain ⟨hlen2, b2, o2, c2, rfl, hc2⟩ := id hy
  obtain ⟨-, b4, o4, c4, rfl, hc4⟩ := id hr
  have h12 := hG.1.2.1
  have hlb := lamF_bd hG hU hl hx hj
  have hb := backF_ok hU (x := (lamF t u i j).toNat) (by omega)
  have i0 : backF u (lamF t u i j).toNat < (u.length : Int) := by omega
  have i1 := hb.1
  have iu : (i : Int) < (u.length : Int) := by omega
  have ju : (j : Int) < (u.length : Int) := by omega
  have lu : lamF t u i j < (u.length : Int) := by omega
  obtain ⟨d1, s1, m1, r1, l1, -⟩ := hc4.get (i := i) (by rw [length_mkT]; exact hx)
  have e1 := l1.ent (length_row_mkT _ _ _ hx) hj
  rw [ent_mkT _ _ _ _ hx hj] at e1
  rw [length_row_mkT _ _ _ hx] at r1
  rw [length_mkT] at hC
  obtain ⟨d2, s2, m2, r2, l2⟩ := hc2.read hU.1 rfl (x := i) (by omega)
  obtain ⟨f2, p1, p2⟩ := l2 j (by omega)
  obtain ⟨d3, s3, m3, r3, l3⟩ := hc2.read hU.1 rfl (x := (backF u (lamF t u i j).toNat).toNat) (by omega)
  obtain ⟨f3, p3, p4⟩ := l3 (ent u i j).toNat (by omega)
  rw [solF_def] at f3 p3 p4
  have ib := hi (lamF t u i j).toNat (by rw [length_backs]; omega)
  rw [ix_backs _ _ (by omega), Nat.zero_add] at ib
  clear l1 l2 l3 hG hU hl hc4 hr hb
  go_enter Tryz.func46, Tryz.ntmps46
  go_wp2
  go_quiet (fail)
  go_wp2
  go_ret2
  exact ⟨rfl, (Ext.refl _).drewN _⟩

theorem callBraceSolution1 (args : Array Value) (w : World) : (callFunc 46 args).run Tryz.prog w = .ok (.enter 46 args) w :=
  callFunc_enter Tryz.func46 (by kernel_rfl) rfl args w

set_option maxRecDepth 100000 in
set_option maxHeartbeats 1000000 in
theorem braceSolution_any (t u : List (List Int)) (v y : Value) (w : World) (hv : Rows w v t) (hy : Rows w y u) (hG : GroupOk t) (hU : GroupOk u) (hl : t.length = u.length) :
    Calls Tryz.prog 21 #[.agg #[v, y]] w (NewSol (mkT t.length (lamF t u)) (mkT t.length (solF t u)) w) := by
  obtain ⟨hlen, b, o, c, rfl, -⟩ := id hv
  obtain ⟨hlen2, b2, o2, c2, rfl, -⟩ := id hy
  have hX : Ext w ((w.alloc (.cells #[.slice (some ⟨b, o, none⟩) t.length c, .slice (some ⟨b2, o2, none⟩) u.length c2] 26)).alloc (.cells #[.slice none 0 0, .slice none 0 0] 29)) := ((Ext.refl _).alloc _).alloc _
  have k0 : ((w.alloc (.cells #[.slice (some ⟨b, o, none⟩) t.length c, .slice (some ⟨b2, o2, none⟩) u.length c2] 26)).alloc (.cells #[.slice none 0 0, .slice none 0 0] 29)).cell? ⟨w.heap.size, 0, none⟩ = some (.slice (some ⟨b, o, none⟩) t.length c) := by simp [go_sem]
  have k1 : ((w.alloc (.cells #[.slice (some ⟨b, o, none⟩) t.length c, .slice (some ⟨b2, o2, none⟩) u.length c2] 26)).alloc (.cells #[.slice none 0 0, .slice none 0 0] 29)).cell? ⟨w.heap.size, 1, none⟩ = some (.slice (some ⟨b2, o2, none⟩) u.length c2) := by simp [go_sem]
  have r0 : ((w.alloc (.cells #[.slice (some ⟨b, o, none⟩) t.length c, .slice (some ⟨b2, o2, none⟩) u.length c2] 26)).alloc (.cells #[.slice none 0 0, .slice none 0 0] 29)).cell? ⟨w.heap.size + 1, 0, none⟩ = some (.slice none 0 0) := by simp [go_sem]
  have r1 : ((w.alloc (.cells #[.slice (some ⟨b, o, none⟩) t.length c, .slice (some ⟨b2, o2, none⟩) u.length c2] 26)).alloc (.cells #[.slice none 0 0, .slice none 0 0] 29)).cell? ⟨w.heap.size + 1, 1, none⟩ = some (.slice none 0 0) := by simp [go_sem]
  have q0 : ((w.alloc (.cells #[.slice (some ⟨b, o, none⟩) t.length c, .slice (some ⟨b2, o2, none⟩) u.length c2] 26)).alloc (.cells #[.slice none 0 0, .slice none 0 0] 29)).frozen? ⟨w.heap.size + 1, 0, none⟩ = false := by simp [go_sem]
  have q1 : ((w.alloc (.cells #[.slice (some ⟨b, o, none⟩) t.length c, .slice (some ⟨b2, o2, none⟩) u.length c2] 26)).alloc (.cells #[.slice none 0 0, .slice none 0 0] 29)).frozen? ⟨w.heap.size + 1, 1, none⟩ = false := by simp [go_sem]
  have zA : w.heap.size + 2 ≤ ((w.alloc (.cells #[.slice (some ⟨b, o, none⟩) t.length c, .slice (some ⟨b2, o2, none⟩) u.length c2] 26)).alloc (.cells #[.slice none 0 0, .slice none 0 0] 29)).heap.size := by simp
  have h12 := hG.1.2.1
  have HG := Lib.hid hG
  have HU := Lib.hid hU
  have HL := Lib.hid hl
  have HLT := Lib.hid (length_mkT t.length (lamF t u))
  clear hG hU hl
  go_enter Tryz.func21, Tryz.ntmps21
  go_wp2_with fail
  generalize ((w.alloc (.cells #[.slice (some ⟨b, o, none⟩) t.length c, .slice (some ⟨b2, o2, none⟩) u.length c2] 26)).alloc (.cells #[.slice none 0 0, .slice none 0 0] 29)) = A at *
  refine (groupInverses_any u _ _ (hy.ext hX)).mono ?_
  rintro e w1 ⟨b5, c5, rfl, hi5, hx⟩
  have zz := Ext.size hx
  replace q0 := hx.free q0 (by simp only []; omega)
  replace q1 := hx.free q1 (by simp only []; omega)
  replace zA := Nat.le_trans zA zz
  replace hX := hX.trans hx
  replace k0 := hx.cell k0
  replace k1 := hx.cell k1
  replace r0 := hx.cell r0
  replace r1 := hx.cell r1
  clear hx zz
  have hx : Ext w1 (w1.alloc (.cells #[.slice (some ⟨b5, 0, none⟩) u.length c5] 53)) := (Ext.refl _).alloc _
  have bB := cell_new w1 (.slice (some ⟨b5, 0, none⟩) u.length c5) 53
  have zB : w1.heap.size < (w1.alloc (.cells #[.slice (some ⟨b5, 0, none⟩) u.length c5] 53)).heap.size := by simp
  have HI := Lib.hid (hi5.ext hx)
  clear hi5
  have zz := Ext.size hx
  replace q0 := hx.free q0 (by simp only []; omega)
  replace q1 := hx.free q1 (by simp only []; omega)
  replace zA := Nat.le_trans zA zz
  replace hX := hX.trans hx
  replace k0 := hx.cell k0
  replace k1 := hx.cell k1
  replace r0 := hx.cell r0
  replace r1 := hx.cell r1
  clear hx zz
  go_wp2_with fail
  generalize w1.alloc (.cells #[.slice (some ⟨b5, 0, none⟩) u.length c5] 53) = B at *
  refine (lambdaTable_any t u _ _ _ (hv.ext hX) (hy.ext hX) HG.out HU.out HL.out).mono ?_
  rintro e w2 ⟨b4, c4, rfl, ho4, hx⟩
  rw [HLT.out]
  replace bB := hx.cell bB
  have hrr := (ho4.rowsAt (small_mkT (by omega) _)).rows (by rw [HLT.out]; omega) c4
  rw [HLT.out] at hrr
  have HI2 := Lib.hid (HI.out.ext hx)
  clear ho4
  have zz := Ext.size hx
  replace q0 := hx.free q0 (by simp only []; omega)
  replace q1 := hx.free q1 (by simp only []; omega)
  replace zA := Nat.le_trans zA zz
  replace hX := hX.trans hx
  replace k0 := hx.cell k0
  replace k1 := hx.cell k1
  replace r0 := hx.cell r0
  replace r1 := hx.cell r1
  clear hx zz
  have hx : Ext w2 (w2.alloc (.cells #[.slice (some ⟨b4, 0, none⟩) t.length c4] 24)) := (Ext.refl _).alloc _
  have bC := cell_new w2 (.slice (some ⟨b4, 0, none⟩) t.length c4) 24
  replace bB := hx.cell bB
  have HR := Lib.hid (hrr.ext hx)
  have HI3 := Lib.hid (HI2.out.ext hx)
  clear hrr
  have zz := Ext.size hx
  replace q0 := hx.free q0 (by simp only []; omega)
  replace q1 := hx.free q1 (by simp only []; omega)
  replace zA := Nat.le_trans zA zz
  replace hX := hX.trans hx
  replace k0 := hx.cell k0
  replace k1 := hx.cell k1
  replace r0 := hx.cell r0
  replace r1 := hx.cell r1
  clear hx zz
  go_wp2_with fail
  generalize w2.alloc (.cells #[.slice (some ⟨b4, 0, none⟩) t.length c4] 24) = w3 at *
  have zA3 := zA
  refine (solutionBy_any t.length (lamF t u) (solF t u) 46 #[.pointer (some ⟨w2.heap.size, 0, none⟩), .pointer (some ⟨w.heap.size, 0, none⟩), .pointer (some ⟨w1.heap.size, 0, none⟩)] _ (by omega) callBraceSolution1 (fun w4 x z h4 hx hz => by
    rw [app23]
    exact braceSolution1_any t u (.slice none 0 0) _ _ b5 c5 x z w.heap.size w2.heap.size w1.heap.size w4 (h4.cell bC) (h4.cell k1) (h4.cell bB) (hy.ext (hX.trans h4)) (HR.out.ext h4) (HI3.out.ext h4) HG.out HU.out HL.out hx hz)).mono ?_
  rintro e w5 ⟨v5, y5, rfl, ho5, hx⟩
  obtain ⟨⟨-, a5, c6, rfl, -⟩, ⟨-, a6, c7, rfl, -⟩⟩ := ho5.open
  have zz := Ext.size hx
  replace q0 := hx.free q0 (by simp only []; omega)
  replace q1 := hx.free q1 (by simp only []; omega)
  replace zA := Nat.le_trans zA zz
  replace hX := hX.trans hx
  replace k0 := hx.cell k0
  replace k1 := hx.cell k1
  replace r0 := hx.cell r0
  replace r1 := hx.cell r1
  clear hx zz
  go_wp2
  refine bodyPost_ret (v := .agg #[.slice a5 (mkT t.length (lamF t u)).length c6, .slice a6 (mkT t.length (solF t u)).length c7]) (by simp [results, Tryz.results21, go_sem, r0, r1]) rfl ⟨_, _, rfl, ?_, (hX.setNew (by simp only []; omega) _).setNew (by simp only []; omega) _⟩
  have ho6 := (ho5.keep (w' := (w5.setCell ⟨w.heap.size + 1, 0, none⟩ (.slice a5 (mkT t.length (lamF t u)).length c6)).setCell ⟨w.heap.size + 1, 1, none⟩ (.slice a6 (mkT t.length (solF t u)).length c7)) (fun k h1 h2 => by rw [Below.heap_setCell _ _ _ _ (by simp only []; omega), Below.heap_setCell _ _ _ _ (by simp only []; omega)])).mono (lo' := w.heap.size) (hi' := w5.heap.size) (by omega) (Nat.le_refl _)
  simpa using ho6

set_option maxRecDepth 100000 in
set_option maxHeartbeats 1000000 in
theorem BraceSolution_impl (t u : List (List Int)) (v y : Value) (w : World) (hv : Rows w v t) (hy : Rows w y u) :
    Calls Tryz.prog 6 #[.agg #[v, y]] w (NewBC (ifB t u (mkT t.length (lamF t u)) []) (ifB t u (mkT t.length (solF t u)) []) (codeB t u) w) := by
  obtain ⟨hlen, b, o, c, rfl, -⟩ := id hv
  obtain ⟨hlen2, b2, o2, c2, rfl, -⟩ := id hy
  have hX : Ext w ((w.alloc (.cells #[.slice (some ⟨b, o, none⟩) t.length c, .slice (some ⟨b2, o2, none⟩) u.length c2] 26)).alloc (.cells #[.slice none 0 0, .slice none 0 0] 29)) := ((Ext.refl _).alloc _).alloc _
  have k0 : ((w.alloc (.cells #[.slice (some ⟨b, o, none⟩) t.length c, .slice (some ⟨b2, o2, none⟩) u.length c2] 26)).alloc (.cells #[.slice none 0 0, .slice none 0 0] 29)).cell? ⟨w.heap.size, 0, none⟩ = some (.slice (some ⟨b, o, none⟩) t.length c) := by simp [go_sem]
  have k1 : ((w.alloc (.cells #[.slice (some ⟨b, o, none⟩) t.length c, .slice (some ⟨b2, o2, none⟩) u.length c2] 26)).alloc (.cells #[.slice none 0 0, .slice none 0 0] 29)).cell? ⟨w.heap.size, 1, none⟩ = some (.slice (some ⟨b2, o2, none⟩) u.length c2) := by simp [go_sem]
  have r0 : ((w.alloc (.cells #[.slice (some ⟨b, o, none⟩) t.length c, .slice (some ⟨b2, o2, none⟩) u.length c2] 26)).alloc (.cells #[.slice none 0 0, .slice none 0 0] 29)).cell? ⟨w.heap.size + 1, 0, none⟩ = some (.slice none 0 0) := by simp [go_sem]
  have r1 : ((w.alloc (.cells #[.slice (some ⟨b, o, none⟩) t.length c, .slice (some ⟨b2, o2, none⟩) u.length c2] 26)).alloc (.cells #[.slice none 0 0, .slice none 0 0] 29)).cell? ⟨w.heap.size + 1, 1, none⟩ = some (.slice none 0 0) := by simp [go_sem]
  have q0 : ((w.alloc (.cells #[.slice (some ⟨b, o, none⟩) t.length c, .slice (some ⟨b2, o2, none⟩) u.length c2] 26)).alloc (.cells #[.slice none 0 0, .slice none 0 0] 29)).frozen? ⟨w.heap.size + 1, 0, none⟩ = false := by simp [go_sem]
  have q1 : ((w.alloc (.cells #[.slice (some ⟨b, o, none⟩) t.length c, .slice (some ⟨b2, o2, none⟩) u.length c2] 26)).alloc (.cells #[.slice none 0 0, .slice none 0 0] 29)).frozen? ⟨w.heap.size + 1, 1, none⟩ = false := by simp [go_sem]
  have zA : w.heap.size + 2 ≤ ((w.alloc (.cells #[.slice (some ⟨b, o, none⟩) t.length c, .slice (some ⟨b2, o2, none⟩) u.length c2] 26)).alloc (.cells #[.slice none 0 0, .slice none 0 0] 29)).heap.size := by simp
  cases hb : braceB t u with
  | false =>
    rw [ifB_no hb, ifB_no hb, codeB_no hb]
    go_enter Tryz.func6, Tryz.ntmps6
    go_wp2_with fail
    generalize ((w.alloc (.cells #[.slice (some ⟨b, o, none⟩) t.length c, .slice (some ⟨b2, o2, none⟩) u.length c2] 26)).alloc (.cells #[.slice none 0 0, .slice none 0 0] 29)) = A at *
    refine (IsBrace_impl t u _ _ _ (hv.ext hX) (hy.ext hX)).mono ?_
    rintro e w2 ⟨rfl, hx⟩
    rw [hb]
    have zz := Ext.size hx
    replace q0 := hx.free q0 (by simp only []; omega)
    replace q1 := hx.free q1 (by simp only []; omega)
    replace zA := Nat.le_trans zA zz
    replace hX := hX.trans hx
    replace k0 := hx.cell k0
    replace k1 := hx.cell k1
    replace r0 := hx.cell r0
    replace r1 := hx.cell r1
    clear hx zz
    go_wp2
    refine bodyPost_ret (v := .tuple #[.agg #[.slice none 0 0, .slice none 0 0], .int .i64 1]) (by simp [results, Tryz.results6, go_sem, r0, r1]) rfl ⟨_, _, rfl, OwnB.nil _ _ _ (by simp; omega), (hX.setNew (by simp only []; omega) _).setNew (by simp only []; omega) _⟩
  | true =>
    obtain ⟨hG, hU, hL⟩ := braceB_ok hb
    rw [ifB_yes hb, ifB_yes hb, codeB_yes hb]
    have HG := Lib.hid hG
    have HU := Lib.hid hU
    have HL := Lib.hid hL
    have h12 := hG.1.2.1
    clear hG hU hL
    go_enter Tryz.func6, Tryz.ntmps6
    go_wp2_with fail
    generalize ((w.alloc (.cells #[.slice (some ⟨b, o, none⟩) t.length c, .slice (some ⟨b2, o2, none⟩) u.length c2] 26)).alloc (.cells #[.slice none 0 0, .slice none 0 0] 29)) = A at *
    refine (IsBrace_impl t u _ _ _ (hv.ext hX) (hy.ext hX)).mono ?_
    rintro e w2 ⟨rfl, hx⟩
    rw [hb]
    have zz := Ext.size hx
    replace q0 := hx.free q0 (by simp only []; omega)
    replace q1 := hx.free q1 (by simp only []; omega)
    replace zA := Nat.le_trans zA zz
    replace hX := hX.trans hx
    replace k0 := hx.cell k0
    replace k1 := hx.cell k1
    replace r0 := hx.cell r0
    replace r1 := hx.cell r1
    clear hx zz
    clear hb
    have zA3 := zA
    go_wp2_with fail
    refine (braceSolution_any t u _ _ _ (hv.ext hX) (hy.ext hX) HG.out HU.out HL.out).mono ?_
    rintro e w5 ⟨v5, y5, rfl, ho5, hx⟩
    obtain ⟨⟨-, a5, c6, rfl, -⟩, ⟨-, a6, c7, rfl, -⟩⟩ := ho5.open
    have zz := Ext.size hx
    replace q0 := hx.free q0 (by simp only []; omega)
    replace q1 := hx.free q1 (by simp only []; omega)
    replace zA := Nat.le_trans zA zz
    replace hX := hX.trans hx
    replace k0 := hx.cell k0
    replace k1 := hx.cell k1
    replace r0 := hx.cell r0
    replace r1 := hx.cell r1
    clear hx zz
    go_wp2
    refine bodyPost_ret (v := .tuple #[.agg #[.slice a5 (mkT t.length (lamF t u)).length c6, .slice a6 (mkT t.length (solF t u)).length c7], .int .i64 0]) (by simp [results, Tryz.results6, go_sem, r0, r1]) rfl ⟨_, _, rfl, ?_, (hX.setNew (by simp only []; omega) _).setNew (by simp only []; omega) _⟩
    have ho6 := (ho5.keep (w' := (w5.setCell ⟨w.heap.size + 1, 0, none⟩ (.slice a5 (mkT t.length (lamF t u)).length c6)).setCell ⟨w.heap.size + 1, 1, none⟩ (.slice a6 (mkT t.length (solF t u)).length c7)) (fun k h1 h2 => by rw [Below.heap_setCell _ _ _ _ (by simp only []; omega), Below.heap_setCell _ _ _ _ (by simp only []; omega)])).mono (lo' := w.heap.size) (hi' := w5.heap.size) (by omega) (Nat.le_refl _)
    simpa using ho6
end Go.Proofs.YtjbloenjphpngaaGreat

/-
  Contracts of the program's inverse, renamed, compareBraces.
-/
namespace Go.Proofs.YtjbloenjphpngaaGreat
set_option linter.unusedVariables false
set_option linter.unusedSimpArgs false
open Go.RowKit
attribute [local go_sem ↓] Go.wp_at_zero Go.wp_at_succ
open Go.Deep

/-- the inverse of p as far as k -/
@[irreducible] def invTo (p : List Int) (k y : Nat) : Int := if 0 ≤ indexOf p y ∧ indexOf p y < (k : Int) then indexOf p y else 0
def invL (p : List Int) (n : Nat) : List Int := listC (fun y => indexOf p y) n
theorem invTo_zero (p : List Int) (y : Nat) : invTo p 0 y = 0 := by unfold invTo; rw [if_neg (by omega)]
theorem invTo_succ {n : Nat} {p : List Int} (hp : IsoOk n [] [] p) {k z : Nat} (hk : k < n) (hz : ix p k = (z : Int)) (y : Nat) : invTo p (k + 1) y = if y = z then (k : Int) else invTo p k y := by
  unfold invTo
  by_cases h : y = z
  · subst h
    have := indexOf_at hp hk
    rw [hz] at this
    rw [if_pos rfl, this, if_pos (by omega)]
  · rw [if_neg h]
    have hne : indexOf p y ≠ (k : Int) := fun e => by
      rcases indexOf_spec p y with ⟨e2, _⟩ | ⟨i, hi, e2, e3, _⟩
      · omega
      · have : i = k := by omega
        subst this
        omega
    by_cases h2 : 0 ≤ indexOf p y ∧ indexOf p y < (k : Int)
    · rw [if_pos h2, if_pos (by omega)]
    · rw [if_neg h2, if_neg (by omega)]
theorem invTo_all {n : Nat} {p : List Int} (hp : IsoOk n [] [] p) {y : Nat} (hy : y < n) : invTo p n y = indexOf p y := by
  unfold invTo
  obtain ⟨x, hx, e⟩ := hp.surj hy
  have := indexOf_at hp hx
  rw [e] at this
  rw [this, if_pos (by omega)]
set_option maxRecDepth 100000 in
theorem inverse_any (n : Nat) (p : List Int) (v : Value) (w : World) (hv : Ints w v p) (hp : IsoOk n [] [] p) (h12 : n ≤ 12) :
    Calls Tryz.prog 61 #[v] w fun e w' => ∃ b c, e = .returned (.slice (some ⟨b, 0, none⟩) n c) ∧ OwnI w.heap.size w'.heap.size w' b 0 (invL p n) ∧ Ext w w' := by
  obtain ⟨-, b, o, c, rfl, hc⟩ := id hv
  have HP := Lib.hid hp
  have HPL := Lib.hid hp.1
  rw [hp.1]
  clear hp hv
  have hmk := run_make_row' (P := Tryz.prog) 53 2 (.int .i64 0) 8 Tryz.underlying53 infoInt rfl .i64 .i64 n (by omega) (by omega)
  go_enter Tryz.func61, Tryz.ntmps61
  go_wp2_with fail
  clear hmk
  have hx0 : Ext w (w.alloc (.cells (madeCells #[Value.int .i64 0] n) 2)) := (Ext.refl _).alloc _
  have hr0 := World.rowIs_made w (.int .i64 0) n 2
  go_loopw [11] (fun i wr => ∃ k : Nat, k ≤ n ∧ i = .int .i64 k ∧ wr.rowIs w.heap.size 2 n (fun i => .int .i64 (invTo p k i)) ∧ Ext w wr) (fun i _ => n - (intOf i).toNat)
  case atStart => exact ⟨0, Nat.zero_le _, rfl, hr0.congr (fun i hi => by rw [invTo_zero]), hx0⟩
  case round =>
    clear hx0 hr0
    obtain ⟨k, hk, rfl, hrow, hx⟩ := hrel
    by_cases hlt : k < n
    · have hb := HP.out.bd hlt
      obtain ⟨z, hz⟩ : ∃ z : Nat, ix p k = (z : Int) := ⟨_, (Int.toNat_of_nonneg hb.1).symm⟩
      have hzn : z < n := by omega
      have e1 := (hc.ext hx) k (by rw [HPL.out]; exact hlt)
      rw [hz] at e1
      have e2 := hrow.cell hzn
      have e3 := hrow.frozen z
      have HS := Lib.hid (fun y => invTo_succ HP.out hlt hz y)
      clear hb hz
      go_wp2_with fail
      go_roundw
      case rel => exact ⟨k + 1, by omega, by go_num, (hrow.set z _).congr (fun i hi => by rw [HS.out i]; split <;> rfl), hx.setNew (Nat.le_refl _) _⟩
      case measure => simp [intOf]; omega
    · have hkk : k = n := by omega
      subst hkk
      go_wp2_with fail
      go_ret
      exact ⟨w.heap.size, k, rfl, ownI_of_row hrow (by unfold invL; rw [length_listC]; exact Nat.le_refl _) (fun i hi => by unfold invL at hi ⊢; rw [length_listC] at hi; rw [ix_listC _ _ _ hi, invTo_all HP.out hi]) (Nat.le_refl _) hrow.lt, hx⟩

end Go.Proofs.YtjbloenjphpngaaGreat
