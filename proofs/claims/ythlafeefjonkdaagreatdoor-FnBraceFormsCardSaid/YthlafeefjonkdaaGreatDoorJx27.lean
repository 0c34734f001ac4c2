/-
  Contract of the reference's l03Image: the image of a table by a permutation.
-/
import Derived.BigRegion
import Derived.Test.YthlafeefjonkdaaGreatDoorJx25
namespace Go.Proofs.YthlafeefjonkdaaGreatDoor
set_option linter.unusedVariables false
set_option linter.unusedSimpArgs false
open Go.RowKit
attribute [local go_sem ↓] Go.wp_at_zero Go.wp_at_succ
open Go.Deep

set_option maxRecDepth 100000 in
set_option maxHeartbeats 2000000 in
theorem l03Image_any (t : List (List Int)) (p : List Int) (v u : Value) (w : World) (hv : Rows w v t) (hu : Ints w u p) (hT : TableOk t) (hp : IsoOk t.length [] [] p) :
    Calls Tryz.prog 24 #[v, u] w (NewT (imgT t p) w) := by
  have HO := Lib.hid (l01Own2_own t v w hv)
  obtain ⟨hlen, b, o, c, rfl, hc⟩ := id hv
  obtain ⟨hlp, bp, op, cp, rfl, hcp⟩ := id hu
  have h12 := hT.2.1
  have h1 := hT.1
  have HT := Lib.hid hT
  have HP := Lib.hid hp
  have HPL := Lib.hid hp.1
  rw [hp.1]
  clear hT hp hu hv
  go_enter Tryz.func24, Tryz.ntmps24
  go_wp2_with fail
  refine HO.out.mono ?_
  rintro e w1 ⟨b1, c1, rfl, ho1, hx1⟩
  have z1 := hx1.size
  go_wp2_with fail
  go_loopw [6] (fun x wr => ∃ k T, k ≤ t.length ∧ x = .int .i64 (k : Nat) ∧ ImgTo t p k 0 T ∧ OwnT w.heap.size w1.heap.size wr b1 0 T ∧ Ext w wr ∧ wr.heap.size = w1.heap.size) (fun x _ => t.length - (intOf x).toNat)
  case atStart => exact ⟨0, t, by omega, rfl, ImgTo.start HT.out p, ho1, hx1, rfl⟩
  case round =>
    clear ho1 hx1
    obtain ⟨k, T, hk, rfl, hi, ho, hx, hsz⟩ := hrel
    by_cases hkl : k < t.length
    case neg =>
      have hkk : k = t.length := by omega
      subst hkk
      have hd := hi.done HP.out
      subst hd
      have HI := Lib.hid (length_imgT t p)
      go_wp2
      go_ret
      exact ⟨b1, c1, by rw [HI.out]; rfl, ho.mono (Nat.le_refl _) (by omega), hx⟩
    case pos =>
      obtain ⟨w2, rfl⟩ : ∃ w2 : World, w2 = wr := ⟨_, rfl⟩
      go_wp2_with fail
      go_loopw [7] (fun x wr => ∃ j T, j ≤ t.length ∧ x = .int .i64 (j : Nat) ∧ ImgTo t p k j T ∧ OwnT w.heap.size w1.heap.size wr b1 0 T ∧ Ext w wr ∧ wr.heap.size = w1.heap.size) (fun x _ => t.length - (intOf x).toNat)
      case atStart => exact ⟨0, T, by omega, rfl, hi, ho, hx, hsz⟩
      case round =>
        clear hi ho hx hsz
        obtain ⟨j, T, hj, rfl, hi, ho, hx, hsz⟩ := hrel
        by_cases hjl : j < t.length
        case neg =>
          have hjj : j = t.length := by omega
          subst hjj
          go_wp2
          go_roundw
          case rel => exact ⟨k + 1, T, by omega, by go_num, hi.next, ho, hx, hsz⟩
          case measure => simp [intOf]; omega
        case pos =>
          have p1 := HP.out.bd hkl
          have p2 := HP.out.bd hjl
          obtain ⟨x1, hx1⟩ : ∃ x1 : Nat, ix p k = (x1 : Int) := ⟨_, (Int.toNat_of_nonneg p1.1).symm⟩
          obtain ⟨y1, hy1⟩ : ∃ y1 : Nat, ix p j = (y1 : Int) := ⟨_, (Int.toNat_of_nonneg p2.1).symm⟩
          have hx1n : x1 < t.length := by omega
          have hy1n : y1 < t.length := by omega
          have q1 := HT.out.bd hkl hjl
          obtain ⟨z, hz⟩ : ∃ z : Nat, ent t k j = (z : Int) := ⟨_, (Int.toNat_of_nonneg q1.1).symm⟩
          have hzn : z < t.length := by omega
          obtain ⟨d1, s1, m1, r1, l1⟩ := (hc.ext hx).read HT.out rfl hkl
          have e1 := (hcp.ext hx) k (by rw [HPL.out]; exact hkl)
          have e2 := (hcp.ext hx) j (by rw [HPL.out]; exact hjl)
          have e3 := (hcp.ext hx) z (by rw [HPL.out]; exact hzn)
          have e4 := l1 j hjl
          obtain ⟨b3, o3, c3, e5, ho3⟩ := ho.get (k := x1) (by rw [hi.len]; exact hx1n)
          have hTl := hi.rows x1 hx1n
          rw [hTl] at e5
          have f3 := ho3.2.2.2 y1 (by rw [hTl]; exact hy1n)
          have e6 := ho3.2.2.1 y1 (by rw [hTl]; exact hy1n)
          rw [hx1] at e1
          rw [hy1] at e2
          rw [hz] at e4
          rw [Nat.zero_add] at e5
          have HI := Lib.hid hi
          have HOO := Lib.hid ho
          have HX := Lib.hid hx
          clear hi ho hx l1
          have hbb := ho3.1
          have hbb2 := ho3.2.1
          clear ho3
          go_wp2_with fail
          go_region
          all_goals
            go_wp2_with fail
            go_roundw
            case rel => exact ⟨j + 1, setE T x1 y1 (ix p z), by omega, by go_num, by
              have h := HI.out.step HP.out hkl hjl
              rw [hx1, hy1, hz, Int.toNat_natCast, Int.toNat_natCast, Int.toNat_natCast] at h
              exact h, (HOO.out.put (by rw [HI.out.len]; exact hx1n) (by rw [hTl]; exact hy1n) (by rw [Nat.zero_add]; exact e5) (ix p z)).keep (fun _ _ _ => rfl), (HX.out.setNew hbb _).drew, by rw [← hsz]; simp [size_drew]⟩
            case measure => simp [intOf]; omega
end Go.Proofs.YthlafeefjonkdaaGreatDoor


namespace Go.Proofs.YthlafeefjonkdaaGreatDoor
set_option linter.unusedVariables false
set_option linter.unusedSimpArgs false

theorem table_mk {n : Nat} {f : Nat → Nat → Int} (h1 : 1 ≤ n) (h2 : n ≤ 12) (h : ∀ x, x < n → ∀ y, y < n → 0 ≤ f x y ∧ f x y < n) : TableOk (mkT n f) := by
  refine ⟨by rw [length_mkT]; exact h1, by rw [length_mkT]; exact h2, fun x hx => ?_⟩
  rw [length_mkT] at hx ⊢
  refine ⟨length_row_mkT n f x hx, fun y hy => ?_⟩
  rw [ent_mkT _ _ _ _ hx hy]
  have := h x hx y hy
  omega

theorem turn_ok {t : List (List Int)} (h : TableOk t) : TableOk (turnT t) := by
  rw [turnT_def]
  refine table_mk h.1 h.2.1 fun x hx y hy => ?_
  have := h.bd hy hx
  rw [turnF_def]
  omega

theorem ring_table {n : Nat} (h1 : 1 ≤ n) (h2 : n ≤ 12) (m : Nat) : TableOk (mkT n (ringF n m)) :=
  table_nat h1 h2 (fun x y => ringF_nat n m x y) (fun x y => rC_lt h1)

theorem prod_ok {N : Nat} {t u : List (List Int)} (hN : N = t.length * u.length) (h12 : N ≤ 12) (hT : TableOk t) (hU : TableOk u) : TableOk (mkT N (prodF t u)) := by
  have ht := hT.1
  have hu := hU.1
  refine table_mk (by rw [hN]; exact Nat.mul_pos ht hu) h12 fun x hx y hy => ?_
  have dv : ∀ z, z < N → z / u.length < t.length := fun z hz => by rw [Nat.div_lt_iff_lt_mul hu, ← hN]; exact hz
  have a := hT.bd (dv x hx) (dv y hy)
  have b := hU.bd (Nat.mod_lt x hu) (Nat.mod_lt y hu)
  rw [← prodF_def]
  obtain ⟨p, hp⟩ := Int.eq_ofNat_of_zero_le (a := ent t (x / u.length) (y / u.length)) (by omega)
  obtain ⟨q, hq⟩ := Int.eq_ofNat_of_zero_le (a := ent u (x % u.length) (y % u.length)) (by omega)
  rw [hp] at a
  rw [hq] at b
  rw [hp, hq]
  have e : (p + 1) * u.length ≤ t.length * u.length := Nat.mul_le_mul_right _ (by omega)
  rw [Nat.succ_mul, ← hN] at e
  rw [← Int.natCast_mul]
  omega
end Go.Proofs.YthlafeefjonkdaaGreatDoor


namespace Go.Proofs.YthlafeefjonkdaaGreatDoor
set_option linter.unusedVariables false
set_option linter.unusedSimpArgs false
open Go.RowKit
attribute [local go_sem ↓] Go.wp_at_zero Go.wp_at_succ

theorem mul_bdQ {a b m n : Nat} (ha : a ≤ m) (hb : b ≤ n) : 0 ≤ (a : Int) * (b : Int) ∧ (a : Int) * (b : Int) ≤ ((m * n : Nat) : Int) := by
  have := Nat.mul_le_mul ha hb
  rw [← Int.natCast_mul]
  omega

end Go.Proofs.YthlafeefjonkdaaGreatDoor


namespace Go.Proofs.YthlafeefjonkdaaGreatDoor
set_option linter.unusedVariables false
set_option linter.unusedSimpArgs false
open Go.RowKit
attribute [local go_sem ↓] Go.wp_at_zero Go.wp_at_succ
open Go.Deep

theorem IsPermutation_spec (l : List Int) (v : Value) (w : World) (hv : Ints w v l) (h1 : 1 ≤ l.length) (h12 : l.length ≤ 12) :
    Calls Tryz.prog 29 #[v] w fun e w' => e = .returned (.bool (permB l)) ∧ Ext w w' := by
  go_enter Tryz.func29, Tryz.ntmps29
  go_wp2_with fail
  refine (l01Perm_any l _ _ hv h1 h12).mono ?_
  rintro e w1 ⟨rfl, rfl⟩
  go_wp2
  go_ret
  exact ⟨rfl, Ext.refl _⟩

theorem rowsR_ok {w : World} {v : Value} {t : List (List Int)} (h : RowsR w v t) (hT : TableOk t) : Rows w v t := by
  obtain ⟨a, c, rfl, h⟩ := h
  obtain ⟨b, o, rfl, h2⟩ := h (ne_nil_of_lt (k := 0) hT.1)
  refine ⟨by have := hT.2.1; omega, b, o, c, rfl, fun i hi => ?_⟩
  obtain ⟨r, k1, k2⟩ := h2 i hi
  refine ⟨r, k1, by have := hT.len hi; have := hT.2.1; omega, ?_⟩
  obtain ⟨a2, c2, e2, k3⟩ := k2
  obtain ⟨b2, o2, rfl, k4⟩ := k3 (ne_nil_of_lt (k := 0) (by rw [hT.len hi]; exact hT.1))
  exact ⟨b2, o2, c2, e2, k4⟩
theorem row_rep {n k : Nat} {Z : List Int} (hk : k < n) : row (List.replicate n Z) k = Z := by rw [row_eq]; simp [List.getD, hk]

set_option maxRecDepth 100000 in
set_option maxHeartbeats 2000000 in
theorem image9_any (t : List (List Int)) (p : List Int) (v u : Value) (w : World) (hv : Rows w v t) (hu : Ints w u p) (hT : TableOk t) (hp : IsoOk t.length [] [] p) :
    Calls Tryz.prog 10 #[v, u] w (NewT (imgT t p) w) := by
  obtain ⟨hlen, b, o, c, rfl, hc⟩ := id hv
  obtain ⟨hlp, bp, op, cp, rfl, hcp⟩ := id hu
  have h12 := hT.2.1
  have h1 := hT.1
  have HT := Lib.hid hT
  have HP := Lib.hid hp
  have HPL := Lib.hid hp.1
  have hpb : permB p = true := permB_iff.2 (isoOk_plain.1 hp).2
  have HU := Lib.hid (show Ints w (.slice (some ⟨bp, op, none⟩) t.length cp) p by rw [hp.1] at hu; exact hu)
  have hmk := run_make_row' (P := Tryz.prog) 29 2 (.int .i64 0) 8 Tryz.underlying29 infoInt rfl .i64 .i64 t.length (by omega) (by omega)
  rw [hp.1]
  clear hT hp hu hv
  go_enter Tryz.func10, Tryz.ntmps10
  go_wp2_with fail
  refine (IsPermutation_spec p _ _ HU.out (by rw [HPL.out]; exact h1) (by rw [HPL.out]; exact h12)).mono ?_
  rintro e w0 ⟨rfl, hx0⟩
  rw [hpb]
  obtain ⟨Z, hZe⟩ : ∃ Z : List Int, Z = List.replicate t.length 0 := ⟨_, rfl⟩
  have HZL := Lib.hid (show Z.length = t.length by rw [hZe, List.length_replicate])
  have HZX := Lib.hid (show ∀ i, i < t.length → ix Z i = 0 from fun i hi => by rw [hZe, ix_eq]; simp [List.getD, hi])
  clear hZe hpb HU
  have hxl : Ext w0 (w0.alloc (.cells #[] 29)) := (Ext.refl _).alloc _
  have hg0 := MineT.lit (lo := w0.heap.size) (w := w0) (Nat.le_refl _)
  go_wp2_with fail
  go_loopw [5, 6] (fun v x wr => ∃ k : Nat, k ≤ t.length ∧ x = .int .i64 k ∧ MineT w0.heap.size NoO wr v (List.replicate k Z) ∧ v ≠ .slice none 0 0 ∧ Ext w0 wr) (fun _ x _ => t.length - (intOf x).toNat)
  case atStart => exact ⟨0, Nat.zero_le _, rfl, hg0, by simp, hxl⟩
  case round =>
    clear hxl hg0
    obtain ⟨k, hk, rfl, hg, hv', hx⟩ := hrel
    have HV := Lib.hid hv'
    clear hv'
    by_cases hkl : k < t.length
    case pos =>
      have HO := Lib.hid hg.lt
      obtain ⟨w2, rfl⟩ : ∃ w2 : World, w2 = wr := ⟨_, rfl⟩
      have HG := Lib.hid hg
      have zx := hx.size
      have HTK := Lib.hid (show (List.replicate k Z).length ≤ 1048576 by rw [List.length_replicate]; omega)
      have HT1 := Lib.hid (show List.replicate (k + 1) Z = List.replicate k Z ++ [Z] from List.replicate_succ')
      have hx2 : Ext w2 (w2.alloc (.cells (madeCells #[Value.int .i64 0] t.length) 2)) := (Ext.refl _).alloc _
      have hr0 := World.rowIs_made w2 (.int .i64 0) t.length 2
      have HOI := Lib.hid (ownI_of_row (lo := w2.heap.size) (hi := (w2.alloc (.cells (madeCells #[Value.int .i64 0] t.length) 2)).heap.size) (l := Z) hr0 (by rw [HZL.out]; exact Nat.le_refl _) (fun i hi => by rw [HZX.out i (by rw [← HZL.out]; exact hi)]) (Nat.le_refl _) hr0.lt)
      have HX2 := Lib.hid hx2
      have z3 : w2.heap.size + 1 = (w2.alloc (.cells (madeCells #[Value.int .i64 0] t.length) 2)).heap.size := by simp
      have HZ3 := Lib.hid z3
      clear hg hx2 hr0 z3
      go_wp2_with (at_builtin; refine wpList_append_row_mine rfl _ _ 24 rfl Tryz.underlying24 infoSl w0.heap.size _ _ rfl HG.out (HX2.out.trans (ext_box _ (.slice (some ⟨w2.heap.size, 0, none⟩) t.length t.length) 29)) _ w2.heap.size t.length Z rfl (by rw [HZL.out]; exact kc_newE (by simp)) (OwnI.alloc1 HOI.out) HTK.out (by omega) ?_)
      intro v' w4 hg4 hgr4 hv4 hat4
      have hx4 : Ext w0 w4 := (hx.trans (HX2.out.trans (ext_box _ (.slice (some ⟨w2.heap.size, 0, none⟩) t.length t.length) 29))).grownOwn hgr4 (fun g e => (HO.out g e).1)
      clear hgr4 hat4
      go_wp2
      go_roundw
      case rel => exact ⟨k + 1, by omega, by go_num, by rw [HT1.out]; exact hg4, hv4, hx4⟩
      case measure => simp [intOf]; omega
    case neg =>
      obtain rfl : k = t.length := by omega
      obtain ⟨b1, c1, rfl, ho1⟩ := hg.newT HV.out
      have hrl : (List.replicate t.length Z).length = t.length := List.length_replicate
      have HRL := Lib.hid hrl
      rw [hrl]
      have HI0 := Lib.hid (show ImgTo t p 0 0 (List.replicate t.length Z) from ⟨hrl, fun i hi => by rw [row_rep hi, HZL.out], fun a b _ _ h => by omega⟩)
      have hsz0 := hx.size
      have HX1 := Lib.hid hx
      obtain ⟨w1, rfl⟩ : ∃ w1 : World, w1 = wr := ⟨_, rfl⟩
      have HO1 := Lib.hid ho1
      clear hg ho1 hrl hx
      go_wp2_with fail
      go_loopw [7] (fun x wr => ∃ k T, k ≤ t.length ∧ x = .int .i64 (k : Nat) ∧ ImgTo t p k 0 T ∧ OwnT w0.heap.size w1.heap.size wr b1 0 T ∧ Ext w0 wr ∧ wr.heap.size = w1.heap.size) (fun x _ => t.length - (intOf x).toNat)
      case atStart => exact ⟨0, _, by omega, rfl, HI0.out, HO1.out, HX1.out, rfl⟩
      case round =>
        clear HI0 HO1 HX1 HRL
        obtain ⟨k, T, hk, rfl, hi, ho, hx, hsz⟩ := hrel
        by_cases hkl : k < t.length
        case neg =>
          have hkk : k = t.length := by omega
          subst hkk
          have hd := hi.done HP.out
          subst hd
          have HI := Lib.hid (length_imgT t p)
          go_wp2
          go_ret
          exact ⟨b1, c1, by rw [HI.out]; rfl, ho.mono hx0.size (by omega), hx0.trans hx⟩
        case pos =>
          obtain ⟨w2, rfl⟩ : ∃ w2 : World, w2 = wr := ⟨_, rfl⟩
          go_wp2_with fail
          go_loopw [8] (fun x wr => ∃ j T, j ≤ t.length ∧ x = .int .i64 (j : Nat) ∧ ImgTo t p k j T ∧ OwnT w0.heap.size w1.heap.size wr b1 0 T ∧ Ext w0 wr ∧ wr.heap.size = w1.heap.size) (fun x _ => t.length - (intOf x).toNat)
          case atStart => exact ⟨0, T, by omega, rfl, hi, ho, hx, hsz⟩
          case round =>
            clear hi ho hx hsz
            obtain ⟨j, T, hj, rfl, hi, ho, hx, hsz⟩ := hrel
            obtain ⟨d1, s1, m1, r1, l1⟩ := (hc.ext (hx0.trans hx)).read HT.out rfl hkl
            by_cases hjl : j < t.length
            case neg =>
              have hjj : j = t.length := by omega
              subst hjj
              go_wp2
              go_roundw
              case rel => exact ⟨k + 1, T, by omega, by go_num, hi.next, ho, hx, hsz⟩
              case measure => simp [intOf]; omega
            case pos =>
              have p1 := HP.out.bd hkl
              have p2 := HP.out.bd hjl
              obtain ⟨x1, hx1⟩ : ∃ x1 : Nat, ix p k = (x1 : Int) := ⟨_, (Int.toNat_of_nonneg p1.1).symm⟩
              obtain ⟨y1, hy1⟩ : ∃ y1 : Nat, ix p j = (y1 : Int) := ⟨_, (Int.toNat_of_nonneg p2.1).symm⟩
              have hx1n : x1 < t.length := by omega
              have hy1n : y1 < t.length := by omega
              have q1 := HT.out.bd hkl hjl
              obtain ⟨z, hz⟩ : ∃ z : Nat, ent t k j = (z : Int) := ⟨_, (Int.toNat_of_nonneg q1.1).symm⟩
              have hzn : z < t.length := by omega
              have e1 := (hcp.ext (hx0.trans hx)) k (by rw [HPL.out]; exact hkl)
              have e2 := (hcp.ext (hx0.trans hx)) j (by rw [HPL.out]; exact hjl)
              have e3 := (hcp.ext (hx0.trans hx)) z (by rw [HPL.out]; exact hzn)
              obtain ⟨e4, -, -⟩ := l1 j hjl
              obtain ⟨b3, o3, c3, e5, ho3⟩ := ho.get (k := x1) (by rw [hi.len]; exact hx1n)
              have hTl := hi.rows x1 hx1n
              rw [hTl] at e5
              have f3 := ho3.2.2.2 y1 (by rw [hTl]; exact hy1n)
              have e6 := ho3.2.2.1 y1 (by rw [hTl]; exact hy1n)
              rw [hx1] at e1
              rw [hy1] at e2
              rw [hz] at e4
              rw [Nat.zero_add] at e5
              have HI := Lib.hid hi
              have HOO := Lib.hid ho
              have HX := Lib.hid hx
              clear hi ho hx l1
              have hbb := ho3.1
              have hbb2 := ho3.2.1
              clear ho3
              go_wp2_with fail
              go_region
              all_goals
                go_wp2_with fail
                go_roundw
                case rel => exact ⟨j + 1, setE T x1 y1 (ix p z), by omega, by go_num, by
                  have h := HI.out.step HP.out hkl hjl
                  rw [hx1, hy1, hz, Int.toNat_natCast, Int.toNat_natCast, Int.toNat_natCast] at h
                  exact h, (HOO.out.put (by rw [HI.out.len]; exact hx1n) (by rw [hTl]; exact hy1n) (by rw [Nat.zero_add]; exact e5) (ix p z)).keep (fun _ _ _ => rfl), (HX.out.setNew hbb _).drew, by rw [← hsz]; simp [size_drew]⟩
                case measure => simp [intOf]; omega
end Go.Proofs.YthlafeefjonkdaaGreatDoor
