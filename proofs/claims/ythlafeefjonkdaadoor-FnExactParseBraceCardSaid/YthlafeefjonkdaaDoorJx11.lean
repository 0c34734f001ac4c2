/-
  Contracts of ClassesOf: reference and program.
-/
import Derived.Test.YthlafeefjonkdaaDoorProg
import Derived.Deep.DeepCutAuto
import Derived.Deep.RegionWith
import Derived.Deep.RegionHeld3
import Derived.Deep.DrawnRows
import Derived.StillTailTactics
import Derived.Deep.RegionLaw
import Derived.Test.YthlafeefjonkdaaDoorJx0
import Derived.Test.YthlafeefjonkdaaDoorJx1
import Derived.Test.YthlafeefjonkdaaDoorJx3
import Derived.Test.YthlafeefjonkdaaDoorJx4
import Derived.Test.YthlafeefjonkdaaDoorJx9
import Derived.Test.YthlafeefjonkdaaDoorJx6
import Derived.Test.YthlafeefjonkdaaDoorJx7
import Derived.Test.YthlafeefjonkdaaDoorJx8
import Derived.Test.YthlafeefjonkdaaDoorJx10
namespace Go.Proofs.YthlafeefjonkdaaDoor
set_option linter.unusedVariables false
set_option linter.unusedSimpArgs false
open Go.RowKit
attribute [local go_sem ↓] Go.wp_at_zero Go.wp_at_succ

theorem GrowI.one {e base : Nat} {w : World} {x : Int} (hb : base ≤ w.heap.size) : GrowI e base (w.alloc (.cells #[.int .i64 x] e)) (.slice (some ⟨w.heap.size, 0, none⟩) 1 1) [x] :=
  ⟨by simp, .inr ⟨w.heap.size, 1, #[.int .i64 x], rfl, hb, heap_alloc_new w _, Nat.le_refl _, by decide, by simp, by simp⟩⟩
end Go.Proofs.YthlafeefjonkdaaDoor

/-
  Braces: plain.
-/
namespace Go.Proofs.YthlafeefjonkdaaDoor
set_option linter.unusedVariables false
set_option linter.unusedSimpArgs false

/-- x o (y + z) -/
@[irreducible] def leftF (t u : List (List Int)) (x y z : Nat) : Int := ent u x (ent t y z).toNat
/-- ((x o y) - x) + (x o z) -/
@[irreducible] def rightF (t u : List (List Int)) (x y z : Nat) : Int := ent t (ent t (ent u x y).toNat (backF t x).toNat).toNat (ent u x z).toNat
theorem leftF_def (t u : List (List Int)) (x y z : Nat) : ent u x (ent t y z).toNat = leftF t u x y z := by unfold leftF; rfl
theorem rightF_def (t u : List (List Int)) (x y z : Nat) : ent t (ent t (ent u x y).toNat (backF t x).toNat).toNat (ent u x z).toNat = rightF t u x y z := by unfold rightF; rfl
def NoZ (t u : List (List Int)) (x y k : Nat) : Prop := ∀ z, z < k → leftF t u x y z = rightF t u x y z
def NoY (t u : List (List Int)) (x k : Nat) : Prop := ∀ y, y < k → NoZ t u x y t.length
def NoX (t u : List (List Int)) (k : Nat) : Prop := ∀ x, x < k → NoY t u x t.length
theorem NoZ.zero (t u x y) : NoZ t u x y 0 := all_zero
theorem NoZ.succ {t u x y k} (h : NoZ t u x y k) (hk : leftF t u x y k = rightF t u x y k) : NoZ t u x y (k + 1) := all_succ h hk
theorem NoY.zero (t u x) : NoY t u x 0 := all_zero
theorem NoY.succ {t u x k} (h : NoY t u x k) (hk : NoZ t u x k t.length) : NoY t u x (k + 1) := all_succ h hk
theorem NoX.zero (t u) : NoX t u 0 := all_zero
theorem NoX.succ {t u k} (h : NoX t u k) (hk : NoY t u k t.length) : NoX t u (k + 1) := all_succ h hk
/-- l is the first fault, or there is none and l is empty -/
def IsFault (t u : List (List Int)) (l : List Int) : Prop :=
  (l = [] ∧ NoX t u t.length) ∨ ∃ x y z : Nat, x < t.length ∧ y < t.length ∧ z < t.length ∧ l = [(x : Int), (y : Int), (z : Int)] ∧ leftF t u x y z ≠ rightF t u x y z ∧ NoX t u x ∧ NoY t u x y ∧ NoZ t u x y z
theorem IsFault.uniq {t u : List (List Int)} {l m : List Int} (h : IsFault t u l) (k : IsFault t u m) : l = m := by
  rcases h with ⟨rfl, h⟩ | ⟨x, y, z, hx, hy, hz, rfl, hb, h1, h2, h3⟩
  · rcases k with ⟨rfl, _⟩ | ⟨x, y, z, hx, hy, hz, rfl, hb, _, _, _⟩
    · rfl
    · exact absurd (h x hx y hy z hz) hb
  · rcases k with ⟨rfl, k⟩ | ⟨x', y', z', hx', hy', hz', rfl, hb', k1, k2, k3⟩
    · exact absurd (k x hx y hy z hz) hb
    · have ex : x = x' := by
        rcases Nat.lt_trichotomy x x' with g | g | g
        · exact absurd (k1 x g y hy z hz) hb
        · exact g
        · exact absurd (h1 x' g y' hy' z' hz') hb'
      subst ex
      have ey : y = y' := by
        rcases Nat.lt_trichotomy y y' with g | g | g
        · exact absurd (k2 y g z hz) hb
        · exact g
        · exact absurd (h2 y' g z' hz') hb'
      subst ey
      have ez : z = z' := by
        rcases Nat.lt_trichotomy z z' with g | g | g
        · exact absurd (k3 z g) hb
        · exact g
        · exact absurd (h3 z' g) hb'
      subst ez
      rfl
open Classical in
/-- the first fault, or the empty list -/
@[irreducible] noncomputable def faultL (t u : List (List Int)) : List Int := if h : ∃ l, IsFault t u l then h.choose else []
theorem faultL_eq {t u : List (List Int)} {l : List Int} (h : IsFault t u l) : faultL t u = l := by
  unfold faultL
  rw [dif_pos ⟨l, h⟩]
  exact IsFault.uniq (Exists.choose_spec (p := fun l => IsFault t u l) ⟨l, h⟩) h
theorem faultL_none {t u : List (List Int)} (h : NoX t u t.length) : faultL t u = [] := faultL_eq (.inl ⟨rfl, h⟩)
theorem faultL_at {t u : List (List Int)} {x y z : Nat} (hx : x < t.length) (hy : y < t.length) (hz : z < t.length) (hb : leftF t u x y z ≠ rightF t u x y z) (h1 : NoX t u x) (h2 : NoY t u x y) (h3 : NoZ t u x y z) : faultL t u = [(x : Int), (y : Int), (z : Int)] :=
  faultL_eq (.inr ⟨x, y, z, hx, hy, hz, rfl, hb, h1, h2, h3⟩)

/-- both are groups of equally many elements -/
@[irreducible] def twoB (t u : List (List Int)) : Bool := groupB t && (groupB u && decide (t.length = u.length))
theorem twoB_iff {t u : List (List Int)} : twoB t u = true ↔ GroupOk t ∧ GroupOk u ∧ t.length = u.length := by
  unfold twoB; simp [groupB_iff]
theorem twoB_1 {t u : List (List Int)} (h : groupB t = false) : twoB t u = false := by unfold twoB; simp [h]
theorem twoB_2 {t u : List (List Int)} (h : groupB u = false) : twoB t u = false := by unfold twoB; simp [h]
theorem twoB_3 {t u : List (List Int)} (h : t.length ≠ u.length) : twoB t u = false := by unfold twoB; simp [h]
theorem twoB_yes {t u : List (List Int)} (h : groupB t = true) (h2 : groupB u = true) (h3 : t.length = u.length) : twoB t u = true := by unfold twoB; simp [h, h2, h3]
/-- a brace -/
@[irreducible] noncomputable def braceB (t u : List (List Int)) : Bool := twoB t u && (faultL t u).isEmpty
theorem braceB_1 {t u : List (List Int)} (h : twoB t u = false) : braceB t u = false := by unfold braceB; simp [h]
theorem braceB_2 {t u : List (List Int)} (h : faultL t u ≠ []) : braceB t u = false := by unfold braceB; simp [h]
theorem braceB_yes {t u : List (List Int)} (h : twoB t u = true) (h2 : faultL t u = []) : braceB t u = true := by unfold braceB; simp [h, h2]
end Go.Proofs.YthlafeefjonkdaaDoor

/-
  Isomorphisms of groups: 0 goes to 0, and there are few. Plain.
-/
namespace Go.Proofs.YthlafeefjonkdaaDoor
set_option linter.unusedVariables false
set_option linter.unusedSimpArgs false

theorem IsoOk.zero {n : Nat} {az bz : List (List (List Int))} {p : List Int} (hp : IsoOk n az bz p) (h0 : 0 < az.length) (hA : GroupOk (tab az 0)) (hB : GroupOk (tab bz 0)) (la : (tab az 0).length = n) (lb : (tab bz 0).length = n) : ix p 0 = 0 := by
  have h1 : 1 ≤ n := by have := hA.1.1; omega
  have hb := hp.bd (x := 0) (by omega)
  have hm := hp.2.2 0 h0 0 (by omega) 0 (by omega)
  rw [grp_unit_l hA (by omega)] at hm
  have hu := grp_unit_r hB (x := (ix p 0).toNat) (by omega)
  have := grp_inj hB (x := (ix p 0).toNat) (y := 0) (z := (ix p 0).toNat) (by omega) (by omega) (by omega) (by
    rw [hu, ← hm]
    simp
    omega)
  omega
/-- the part that leads x to v -/
def part (M : List (List Int)) (x : Nat) (v : Nat) : List (List Int) := M.filter fun p => decide (ix p x = (v : Int))
section
variable {n : Nat} {az bz : List (List (List Int))} (h0 : 0 < az.length) (hA : GroupOk (tab az 0)) (hB : GroupOk (tab bz 0)) (la : (tab az 0).length = n) (lb : (tab bz 0).length = n)
include h0 hA hB la lb
omit hA hB la lb in
omit hA la in
end
end Go.Proofs.YthlafeefjonkdaaDoor

/-
  Contracts: faults of braces.
-/
namespace Go.Proofs.YthlafeefjonkdaaDoor
set_option linter.unusedVariables false
set_option linter.unusedSimpArgs false
open Go.RowKit

/-- three numbers just made -/
theorem ints3 (w : World) (x y z : Int) (T : Nat) : IntsAt (w.alloc (.cells #[.int .i64 x, .int .i64 y, .int .i64 z] T)) w.heap.size 0 [x, y, z] := fun i hi => by
  rw [ix_eq]
  match i, hi with
  | 0, _ => simp [go_sem]
  | 1, _ => simp [go_sem]
  | 2, _ => simp [go_sem]
theorem own3 (w : World) (x y z : Int) (T : Nat) : OwnI w.heap.size (w.heap.size + 1) (w.alloc (.cells #[.int .i64 x, .int .i64 y, .int .i64 z] T)) w.heap.size 0 [x, y, z] :=
  ⟨Nat.le_refl _, by omega, ints3 w x y z T, fun i _ => by simp [go_sem]⟩

set_option maxRecDepth 100000 in
set_option maxHeartbeats 1000000 in
theorem l11Fault_any (t u : List (List Int)) (v y : Value) (w : World) (hv : Rows w v t) (hy : Rows w y u) (hG : GroupOk t) (hU : GroupOk u) (hl : t.length = u.length) :
    Calls Tryd.prog 21 #[.agg #[v, y]] w fun e w' => ∃ v, e = .returned v ∧ (∃ a c, v = .slice a (faultL t u).length c) ∧ IntsR w' v (faultL t u) ∧ Ext w w' := by
  obtain ⟨hlen, b, o, c, rfl, hc⟩ := id hv
  obtain ⟨hlen2, b2, o2, c2, rfl, hc2⟩ := id hy
  have h12 := hG.1.2.1
  have HT := Lib.hid hG
  have HU := Lib.hid hU
  have HB := Lib.hid (fun x (hx : x < t.length) => backF_ok hG hx)
  clear hG hU
  rw [← hl]
  have HL := Lib.hid hl
  clear hl
  have hx0 := ext_boxB w (.slice (some ⟨b, o, none⟩) t.length c) (.slice (some ⟨b2, o2, none⟩) t.length c2) 24
  have k0 := cell_new2a w (.slice (some ⟨b, o, none⟩) t.length c) (.slice (some ⟨b2, o2, none⟩) t.length c2) 24
  have k1 := cell_new2b w (.slice (some ⟨b, o, none⟩) t.length c) (.slice (some ⟨b2, o2, none⟩) t.length c2) 24
  go_enter Tryd.func21, Tryd.ntmps21
  go_wp2
  generalize (w.alloc (.cells #[.slice (some ⟨b, o, none⟩) t.length c, .slice (some ⟨b2, o2, none⟩) t.length c2] 24)) = A at *
  go_loopw [4] (fun i wr => ∃ x : Nat, x ≤ t.length ∧ i = .int .i64 x ∧ NoX t u x ∧ Ext A wr) (fun i _ => t.length - (intOf i).toNat)
  case atStart => exact ⟨0, Nat.zero_le _, rfl, NoX.zero t u, Ext.refl _⟩
  case round =>
    obtain ⟨x, hx, rfl, hno, hxA⟩ := hrel
    have HX := Lib.hid hno
    clear hno
    have j0 := hxA.cell k0
    have j1 := hxA.cell k1
    by_cases hxl : x < t.length
    case neg =>
      go_wp2
      go_ret
      have hxx : x = t.length := by omega
      subst hxx
      rw [faultL_none HX.out]
      exact ⟨_, rfl, ⟨none, 0, rfl⟩, IntsR.nil _ _, hx0.trans hxA⟩
    case pos =>
      obtain ⟨w2, rfl⟩ : ∃ w2 : World, w2 = wr := ⟨_, rfl⟩
      have hb := HB.out x hxl
      go_wp2_with (go_at_call 33; refine (l10Back_any t _ x _ (hv.ext (hx0.trans hxA)) hxl).mono ?_; rintro e w' ⟨rfl, rfl⟩)
      go_loopw [6] (fun i wr => ∃ y : Nat, y ≤ t.length ∧ i = .int .i64 y ∧ NoY t u x y ∧ Ext w2 wr) (fun i _ => t.length - (intOf i).toNat)
      case atStart => exact ⟨0, Nat.zero_le _, rfl, NoY.zero t u x, Ext.refl _⟩
      case round =>
        obtain ⟨y, hyy, rfl, hno, hxB⟩ := hrel
        have HY := Lib.hid hno
        clear hno
        by_cases hyl : y < t.length
        case neg =>
          go_wp2
          go_roundw
          case rel =>
            have hyy : y = t.length := by omega
            subst hyy
            exact ⟨x + 1, by omega, by go_num, HX.out.succ HY.out, hxA.trans hxB⟩
          case measure => simp [intOf]; omega
        case pos =>
          obtain ⟨w3, rfl⟩ : ∃ w3 : World, w3 = wr := ⟨_, rfl⟩
          go_wp2
          go_loopw [7] (fun i wr => ∃ z : Nat, z ≤ t.length ∧ i = .int .i64 z ∧ NoZ t u x y z ∧ Ext w3 wr) (fun i _ => t.length - (intOf i).toNat)
          case atStart => exact ⟨0, Nat.zero_le _, rfl, NoZ.zero t u x y, Ext.refl _⟩
          case round =>
            obtain ⟨z, hzz, rfl, hno, hxC⟩ := hrel
            have HZ := Lib.hid hno
            clear hno
            by_cases hzl : z < t.length
            case neg =>
              go_wp2
              go_roundw
              case rel =>
                have hzz : z = t.length := by omega
                subst hzz
                exact ⟨y + 1, by omega, by go_num, HY.out.succ HZ.out, hxB.trans hxC⟩
              case measure => simp [intOf]; omega
            case pos =>
              have hXC := (hx0.trans hxA).trans (hxB.trans hxC)
              have i0 := (hxB.trans hxC).cell j0
              have i1 := (hxB.trans hxC).cell j1
              have p := HT.out.1.bd hyl hzl
              have q := HU.out.1.bd (x := x) (y := y) (by have := HL.out; omega) (by have := HL.out; omega)
              rw [← HL.out] at q
              obtain ⟨d1, s1, m1, r1, l1, -⟩ := (hc2.ext hXC).get (i := x) (by have := HL.out; omega)
              obtain ⟨d2, s2, m2, r2, l2, -⟩ := (hc.ext hXC).get (i := y) (by omega)
              obtain ⟨d3, s3, m3, r3, l3, -⟩ := (hc.ext hXC).get (i := (ent u x y).toNat) (by omega)
              have g := HT.out.1.bd (x := (ent u x y).toNat) (y := (backF t x).toNat) (by omega) (by omega)
              obtain ⟨d4, s4, m4, r4, l4, -⟩ := (hc.ext hXC).get (i := (ent t (ent u x y).toNat (backF t x).toNat).toNat) (by omega)
              have qz := HU.out.1.bd (x := x) (y := z) (by have := HL.out; omega) (by have := HL.out; omega)
              rw [← HL.out] at qz
              have lx := HU.out.1.len (x := x) (by have := HL.out; omega)
              rw [← HL.out] at lx
              have f1 := l1.ent lx (y := y) (by omega)
              have f2 := l1.ent lx (y := z) (by omega)
              have f3 := l2.ent (HT.out.1.len (x := y) (by omega)) (y := z) (by omega)
              have f4 := l1.ent lx (y := (ent t y z).toNat) (by omega)
              have f5 := l3.ent (HT.out.1.len (x := (ent u x y).toNat) (by omega)) (y := (backF t x).toNat) (by omega)
              have f6 := l4.ent (HT.out.1.len (x := (ent t (ent u x y).toNat (backF t x).toNat).toNat) (by omega)) (y := (ent u x z).toNat) (by omega)
              rw [lx] at r1
              rw [HT.out.1.len (x := y) (by omega)] at r2
              rw [HT.out.1.len (x := (ent u x y).toNat) (by omega)] at r3
              rw [HT.out.1.len (x := (ent t (ent u x y).toNat (backF t x).toNat).toNat) (by omega)] at r4
              rw [leftF_def] at f4
              rw [rightF_def] at f6
              clear l1 l2 l3 l4 lx
              cases hne : (leftF t u x y z != rightF t u x y z) with
              | true =>
                go_wp2
                go_quiet (fail)
                go_wp2
                go_quiet (fail)
                go_wp2
                go_ret
                rw [faultL_at hxl hyl hzl (by simpa using hne) HX.out HY.out HZ.out]
                exact ⟨_, rfl, ⟨_, _, rfl⟩, ⟨_, _, rfl, fun _ => ⟨_, _, rfl, ints3 _ _ _ _ _⟩⟩, (hXC.drewN _).alloc _⟩
              | false =>
                go_wp2
                go_quiet (fail)
                go_wp2
                go_quiet (fail)
                go_wp2
                go_roundw
                case rel => exact ⟨z + 1, by omega, by go_num, HZ.out.succ (by simpa using hne), hxC.drewN _⟩
                case measure => simp [intOf]; omega

/-- what braceFault returns: nil or three numbers, in new memory -/
def FaultV (t u : List (List Int)) (w : World) (e : Ending) (w' : World) : Prop :=
  ∃ v, e = .returned v ∧ OwnIV w.heap.size w'.heap.size w' v (faultL t u) ∧ ((faultL t u = [] ∧ v = .slice none 0 0) ∨ ((faultL t u).length = 3 ∧ ∃ b c, v = .slice (some ⟨b, 0, none⟩) 3 c)) ∧ Ext w w'

set_option maxRecDepth 100000 in
set_option maxHeartbeats 1000000 in
theorem braceFault_any (t u : List (List Int)) (v y : Value) (w : World) (hv : Rows w v t) (hy : Rows w y u) (hG : GroupOk t) (hU : GroupOk u) (hl : t.length = u.length) :
    Calls Tryd.prog 27 #[.agg #[v, y]] w (FaultV t u w) := by
  obtain ⟨hlen, b, o, c, rfl, hc⟩ := id hv
  obtain ⟨hlen2, b2, o2, c2, rfl, hc2⟩ := id hy
  have h12 := hG.1.2.1
  have HT := Lib.hid hG
  have HU := Lib.hid hU
  have HB := Lib.hid (fun x (hx : x < t.length) => backF_ok hG hx)
  clear hG hU
  rw [← hl]
  have HL := Lib.hid hl
  clear hl
  have hx0 := ext_boxB w (.slice (some ⟨b, o, none⟩) t.length c) (.slice (some ⟨b2, o2, none⟩) t.length c2) 24
  have k0 := cell_new2a w (.slice (some ⟨b, o, none⟩) t.length c) (.slice (some ⟨b2, o2, none⟩) t.length c2) 24
  have k1 := cell_new2b w (.slice (some ⟨b, o, none⟩) t.length c) (.slice (some ⟨b2, o2, none⟩) t.length c2) 24
  go_enter Tryd.func27, Tryd.ntmps27
  go_wp2_with fail
  generalize (w.alloc (.cells #[.slice (some ⟨b, o, none⟩) t.length c, .slice (some ⟨b2, o2, none⟩) t.length c2] 24)) = A0 at *
  refine (groupInverses_any t _ _ (hv.ext hx0)).mono ?_
  rintro e A ⟨bb, cb, rfl, hib, hxb⟩
  replace k0 := hxb.cell k0
  replace k1 := hxb.cell k1
  replace hx0 := hx0.trans hxb
  clear hxb
  go_wp2
  go_loopw [15] (fun i wr => ∃ x : Nat, x ≤ t.length ∧ i = .int .i64 x ∧ NoX t u x ∧ Ext A wr) (fun i _ => t.length - (intOf i).toNat)
  case atStart => exact ⟨0, Nat.zero_le _, rfl, NoX.zero t u, Ext.refl _⟩
  case round =>
    obtain ⟨x, hx, rfl, hno, hxA⟩ := hrel
    have HX := Lib.hid hno
    clear hno
    have j0 := hxA.cell k0
    have j1 := hxA.cell k1
    by_cases hxl : x < t.length
    case neg =>
      go_wp2
      go_ret
      have hxx : x = t.length := by omega
      subst hxx
      have hf := faultL_none HX.out
      refine ⟨_, rfl, ?_, .inl ⟨hf, rfl⟩, hx0.trans hxA⟩
      rw [hf]; exact OwnIV.nil _ _ _
    case pos =>
      obtain ⟨w2, rfl⟩ : ∃ w2 : World, w2 = wr := ⟨_, rfl⟩
      have hb := HB.out x hxl
      go_wp2
      go_loopw [19] (fun i wr => ∃ y : Nat, y ≤ t.length ∧ i = .int .i64 y ∧ NoY t u x y ∧ Ext w2 wr) (fun i _ => t.length - (intOf i).toNat)
      case atStart => exact ⟨0, Nat.zero_le _, rfl, NoY.zero t u x, Ext.refl _⟩
      case round =>
        obtain ⟨y, hyy, rfl, hno, hxB⟩ := hrel
        have HY := Lib.hid hno
        clear hno
        by_cases hyl : y < t.length
        case neg =>
          go_wp2
          go_roundw
          case rel =>
            have hyy : y = t.length := by omega
            subst hyy
            exact ⟨x + 1, by omega, by go_num, HX.out.succ HY.out, hxA.trans hxB⟩
          case measure => simp [intOf]; omega
        case pos =>
          obtain ⟨w3, rfl⟩ : ∃ w3 : World, w3 = wr := ⟨_, rfl⟩
          go_wp2
          go_loopw [23] (fun i wr => ∃ z : Nat, z ≤ t.length ∧ i = .int .i64 z ∧ NoZ t u x y z ∧ Ext w3 wr) (fun i _ => t.length - (intOf i).toNat)
          case atStart => exact ⟨0, Nat.zero_le _, rfl, NoZ.zero t u x y, Ext.refl _⟩
          case round =>
            obtain ⟨z, hzz, rfl, hno, hxC⟩ := hrel
            have HZ := Lib.hid hno
            clear hno
            by_cases hzl : z < t.length
            case neg =>
              go_wp2
              go_roundw
              case rel =>
                have hzz : z = t.length := by omega
                subst hzz
                exact ⟨y + 1, by omega, by go_num, HY.out.succ HZ.out, hxB.trans hxC⟩
              case measure => simp [intOf]; omega
            case pos =>
              have hXC := (hx0.trans hxA).trans (hxB.trans hxC)
              have i0 := (hxB.trans hxC).cell j0
              have i1 := (hxB.trans hxC).cell j1
              have ib := (hib.ext (hxA.trans (hxB.trans hxC))) x (by rw [length_backs]; exact hxl)
              rw [ix_backs _ _ hxl, Nat.zero_add] at ib
              have p := HT.out.1.bd hyl hzl
              have q := HU.out.1.bd (x := x) (y := y) (by have := HL.out; omega) (by have := HL.out; omega)
              rw [← HL.out] at q
              obtain ⟨d1, s1, m1, r1, l1, -⟩ := (hc2.ext hXC).get (i := x) (by have := HL.out; omega)
              obtain ⟨d2, s2, m2, r2, l2, -⟩ := (hc.ext hXC).get (i := y) (by omega)
              obtain ⟨d3, s3, m3, r3, l3, -⟩ := (hc.ext hXC).get (i := (ent u x y).toNat) (by omega)
              have g := HT.out.1.bd (x := (ent u x y).toNat) (y := (backF t x).toNat) (by omega) (by omega)
              obtain ⟨d4, s4, m4, r4, l4, -⟩ := (hc.ext hXC).get (i := (ent t (ent u x y).toNat (backF t x).toNat).toNat) (by omega)
              have qz := HU.out.1.bd (x := x) (y := z) (by have := HL.out; omega) (by have := HL.out; omega)
              rw [← HL.out] at qz
              have lx := HU.out.1.len (x := x) (by have := HL.out; omega)
              rw [← HL.out] at lx
              have f1 := l1.ent lx (y := y) (by omega)
              have f2 := l1.ent lx (y := z) (by omega)
              have f3 := l2.ent (HT.out.1.len (x := y) (by omega)) (y := z) (by omega)
              have f4 := l1.ent lx (y := (ent t y z).toNat) (by omega)
              have f5 := l3.ent (HT.out.1.len (x := (ent u x y).toNat) (by omega)) (y := (backF t x).toNat) (by omega)
              have f6 := l4.ent (HT.out.1.len (x := (ent t (ent u x y).toNat (backF t x).toNat).toNat) (by omega)) (y := (ent u x z).toNat) (by omega)
              rw [lx] at r1
              rw [HT.out.1.len (x := y) (by omega)] at r2
              rw [HT.out.1.len (x := (ent u x y).toNat) (by omega)] at r3
              rw [HT.out.1.len (x := (ent t (ent u x y).toNat (backF t x).toNat).toNat) (by omega)] at r4
              rw [leftF_def] at f4
              rw [rightF_def] at f6
              clear l1 l2 l3 l4 lx
              cases hne : (leftF t u x y z != rightF t u x y z) with
              | true =>
                go_wp2
                go_quiet (fail)
                go_wp2
                go_ret
                have hf := faultL_at hxl hyl hzl (by simpa using hne) HX.out HY.out HZ.out
                have hsz := hXC.size
                refine ⟨_, rfl, ?_, .inr ⟨by rw [hf]; rfl, _, _, rfl⟩, (hXC.drewN _).alloc _⟩
                rw [hf]
                exact ⟨by simp, _, _, rfl, fun _ => ⟨_, _, rfl, (own3 _ _ _ _ _).mono (by simpa using hsz) (by simp)⟩⟩
              | false =>
                go_wp2
                go_quiet (fail)
                go_wp2
                go_roundw
                case rel => exact ⟨z + 1, by omega, by go_num, HZ.out.succ (by simpa using hne), hxC.drewN _⟩
                case measure => simp [intOf]; omega
end Go.Proofs.YthlafeefjonkdaaDoor

/-
  Contracts of IsBrace, BraceFault, IsBiSkewBrace: reference and program.
-/
namespace Go.Proofs.YthlafeefjonkdaaDoor
set_option linter.unusedVariables false
set_option linter.unusedSimpArgs false
open Go.RowKit

set_option maxRecDepth 1000000 in
theorem eqNil0 (w : World) : (binOp .eql 39 (.slice none 0 0) (.slice none 0 0)).run Tryd.prog w = .ok (.bool true) w := rfl
set_option maxRecDepth 1000000 in
theorem eqNil1 (b n c : Nat) (w : World) : (binOp .eql 39 (.slice (some ⟨b, 0, none⟩) n c) (.slice none 0 0)).run Tryd.prog w = .ok (.bool false) w := rfl

set_option maxRecDepth 100000 in
theorem areBraceTables_any (t u : List (List Int)) (v y : Value) (w : World) (hv : Rows w v t) (hy : Rows w y u) :
    Calls Tryd.prog 26 #[.agg #[v, y]] w fun e w' => e = .returned (.bool (twoB t u)) ∧ Ext w w' := by
  obtain ⟨hlen, b, o, c, rfl, hc⟩ := id hv
  obtain ⟨hlen2, b2, o2, c2, rfl, hc2⟩ := id hy
  have hx0 := ext_boxB w (.slice (some ⟨b, o, none⟩) t.length c) (.slice (some ⟨b2, o2, none⟩) u.length c2) 24
  have k0 := cell_new2a w (.slice (some ⟨b, o, none⟩) t.length c) (.slice (some ⟨b2, o2, none⟩) u.length c2) 24
  have k1 := cell_new2b w (.slice (some ⟨b, o, none⟩) t.length c) (.slice (some ⟨b2, o2, none⟩) u.length c2) 24
  cases hg : groupB t with
  | false =>
    rw [twoB_1 hg]
    go_enter Tryd.func26, Tryd.ntmps26
    go_wp2_with fail
    refine (isGroupTable_any t _ _ (hv.ext hx0)).mono ?_
    rintro e w1 ⟨rfl, hx1⟩
    rw [hg]
    go_wp2
    go_ret
    exact ⟨rfl, hx0.trans hx1⟩
  | true =>
    cases hg2 : groupB u with
    | false =>
      rw [twoB_2 hg2]
      go_enter Tryd.func26, Tryd.ntmps26
      go_wp2_with fail
      refine (isGroupTable_any t _ _ (hv.ext hx0)).mono ?_
      rintro e w1 ⟨rfl, hx1⟩
      rw [hg]
      have j1 := hx1.cell k1
      go_wp2_with fail
      refine (isGroupTable_any u _ _ (hy.ext (hx0.trans hx1))).mono ?_
      rintro e w2 ⟨rfl, hx2⟩
      rw [hg2]
      go_wp2
      go_ret
      exact ⟨rfl, (hx0.trans hx1).trans hx2⟩
    | true =>
      cases hl : ((t.length : Int) == (u.length : Int)) with
      | false =>
        rw [twoB_3 (fun h => by rw [h] at hl; simp at hl)]
        go_enter Tryd.func26, Tryd.ntmps26
        go_wp2_with fail
        refine (isGroupTable_any t _ _ (hv.ext hx0)).mono ?_
        rintro e w1 ⟨rfl, hx1⟩
        rw [hg]
        have j0 := hx1.cell k0
        have j1 := hx1.cell k1
        go_wp2_with fail
        refine (isGroupTable_any u _ _ (hy.ext (hx0.trans hx1))).mono ?_
        rintro e w2 ⟨rfl, hx2⟩
        rw [hg2]
        have i0 := hx2.cell j0
        have i1 := hx2.cell j1
        go_wp2
        go_ret
        exact ⟨rfl, (hx0.trans hx1).trans hx2⟩
      | true =>
        rw [twoB_yes hg hg2 (by have := eq_of_beq hl; omega)]
        go_enter Tryd.func26, Tryd.ntmps26
        go_wp2_with fail
        refine (isGroupTable_any t _ _ (hv.ext hx0)).mono ?_
        rintro e w1 ⟨rfl, hx1⟩
        rw [hg]
        have j0 := hx1.cell k0
        have j1 := hx1.cell k1
        go_wp2_with fail
        refine (isGroupTable_any u _ _ (hy.ext (hx0.trans hx1))).mono ?_
        rintro e w2 ⟨rfl, hx2⟩
        rw [hg2]
        have i0 := hx2.cell j0
        have i1 := hx2.cell j1
        go_wp2
        go_ret
        exact ⟨rfl, (hx0.trans hx1).trans hx2⟩

set_option maxRecDepth 100000 in
theorem IsBrace_impl (t u : List (List Int)) (v y : Value) (w : World) (hv : Rows w v t) (hy : Rows w y u) :
    Calls Tryd.prog 14 #[.agg #[v, y]] w fun e w' => e = .returned (.bool (braceB t u)) ∧ Ext w w' := by
  obtain ⟨hlen, b, o, c, rfl, hc⟩ := id hv
  obtain ⟨hlen2, b2, o2, c2, rfl, hc2⟩ := id hy
  have hx0 := ext_boxB w (.slice (some ⟨b, o, none⟩) t.length c) (.slice (some ⟨b2, o2, none⟩) u.length c2) 24
  have k0 := cell_new2a w (.slice (some ⟨b, o, none⟩) t.length c) (.slice (some ⟨b2, o2, none⟩) u.length c2) 24
  have k1 := cell_new2b w (.slice (some ⟨b, o, none⟩) t.length c) (.slice (some ⟨b2, o2, none⟩) u.length c2) 24
  cases hg : twoB t u with
  | false =>
    rw [braceB_1 hg]
    go_enter Tryd.func14, Tryd.ntmps14
    go_wp2_with fail
    refine (areBraceTables_any t u _ _ _ (hv.ext hx0) (hy.ext hx0)).mono ?_
    rintro e w1 ⟨rfl, hx1⟩
    rw [hg]
    go_wp2
    go_ret
    exact ⟨rfl, hx0.trans hx1⟩
  | true =>
    obtain ⟨hG, hU, hl⟩ := twoB_iff.1 hg
    have HL := Lib.hid hl
    clear hl
    have e0 := eqNil0
    have e1 := eqNil1
    by_cases hf : faultL t u = []
    · rw [braceB_yes hg hf]
      have HF := Lib.hid hf
      clear hf
      go_enter Tryd.func14, Tryd.ntmps14
      go_wp2_with fail
      refine (areBraceTables_any t u _ _ _ (hv.ext hx0) (hy.ext hx0)).mono ?_
      rintro e w1 ⟨rfl, hx1⟩
      rw [hg]
      have j0 := hx1.cell k0
      have j1 := hx1.cell k1
      go_wp2_with fail
      refine (braceFault_any t u _ _ _ (hv.ext (hx0.trans hx1)) (hy.ext (hx0.trans hx1)) hG hU HL.out).mono ?_
      rintro e w2 ⟨r, rfl, -, hr, hx2⟩
      rcases hr with ⟨-, rfl⟩ | ⟨h3, -⟩
      · go_wp2
        go_ret
        exact ⟨rfl, (hx0.trans hx1).trans hx2⟩
      · rw [HF.out] at h3; simp at h3
    · rw [braceB_2 hf]
      have HF := Lib.hid hf
      clear hf
      go_enter Tryd.func14, Tryd.ntmps14
      go_wp2_with fail
      refine (areBraceTables_any t u _ _ _ (hv.ext hx0) (hy.ext hx0)).mono ?_
      rintro e w1 ⟨rfl, hx1⟩
      rw [hg]
      have j0 := hx1.cell k0
      have j1 := hx1.cell k1
      go_wp2_with fail
      refine (braceFault_any t u _ _ _ (hv.ext (hx0.trans hx1)) (hy.ext (hx0.trans hx1)) hG hU HL.out).mono ?_
      rintro e w2 ⟨r, rfl, -, hr, hx2⟩
      rcases hr with ⟨h3, -⟩ | ⟨-, rb, rc, rfl⟩
      · exact absurd h3 HF.out
      · go_wp2
        go_ret
        exact ⟨rfl, (hx0.trans hx1).trans hx2⟩
end Go.Proofs.YthlafeefjonkdaaDoor

/-
  Contracts of IsBrace (reference), BraceFault, IsBiSkewBrace.
-/
namespace Go.Proofs.YthlafeefjonkdaaDoor
set_option linter.unusedVariables false
set_option linter.unusedSimpArgs false
open Go.RowKit

theorem len_fault {t u : List (List Int)} (h : faultL t u ≠ []) : (((faultL t u).length : Int) == 0) = false := by
  rw [beq_eq_false_iff_ne]
  intro h2
  exact h (List.length_eq_zero_iff.1 (by omega))

set_option maxRecDepth 100000 in
theorem l11Is_any (t u : List (List Int)) (v y : Value) (w : World) (hv : Rows w v t) (hy : Rows w y u) :
    Calls Tryd.prog 11 #[.agg #[v, y]] w fun e w' => e = .returned (.bool (braceB t u)) ∧ Ext w w' := by
  obtain ⟨hlen, b, o, c, rfl, hc⟩ := id hv
  obtain ⟨hlen2, b2, o2, c2, rfl, hc2⟩ := id hy
  have hX := ext_boxB w (.slice (some ⟨b, o, none⟩) t.length c) (.slice (some ⟨b2, o2, none⟩) u.length c2) 24
  have k0 := cell_new2a w (.slice (some ⟨b, o, none⟩) t.length c) (.slice (some ⟨b2, o2, none⟩) u.length c2) 24
  have k1 := cell_new2b w (.slice (some ⟨b, o, none⟩) t.length c) (.slice (some ⟨b2, o2, none⟩) u.length c2) 24
  clear hc hc2
  cases hg : groupB t with
  | false =>
    have h2 : twoB t u = false := twoB_1 hg
    rw [braceB_1 h2]
    go_enter Tryd.func11, Tryd.ntmps11
    go_wp2_with fail
    refine (l10Is_any t _ _ (hv.ext hX)).mono ?_
    rintro e wn ⟨rfl, hx⟩
    replace hX := hX.trans hx
    replace k0 := hx.cell k0
    replace k1 := hx.cell k1
    clear hx
    rw [hg]
    go_wp2
    go_ret
    exact ⟨rfl, hX⟩
  | true =>
    cases hg2 : groupB u with
    | false =>
      have h2 : twoB t u = false := twoB_2 hg2
      rw [braceB_1 h2]
      go_enter Tryd.func11, Tryd.ntmps11
      go_wp2_with fail
      refine (l10Is_any t _ _ (hv.ext hX)).mono ?_
      rintro e wn ⟨rfl, hx⟩
      replace hX := hX.trans hx
      replace k0 := hx.cell k0
      replace k1 := hx.cell k1
      clear hx
      rw [hg]
      go_wp2_with fail
      refine (l10Is_any u _ _ (hy.ext hX)).mono ?_
      rintro e wn ⟨rfl, hx⟩
      replace hX := hX.trans hx
      replace k0 := hx.cell k0
      replace k1 := hx.cell k1
      clear hx
      rw [hg2]
      go_wp2
      go_ret
      exact ⟨rfl, hX⟩
    | true =>
      cases hl : ((t.length : Int) == (u.length : Int)) with
      | false =>
        have h2 : twoB t u = false := twoB_3 (fun h => by rw [h] at hl; simp at hl)
        have hln : ((t.length : Int) != (u.length : Int)) = true := by rw [bne, hl]; rfl
        rw [braceB_1 h2]
        go_enter Tryd.func11, Tryd.ntmps11
        go_wp2_with fail
        refine (l10Is_any t _ _ (hv.ext hX)).mono ?_
        rintro e wn ⟨rfl, hx⟩
        replace hX := hX.trans hx
        replace k0 := hx.cell k0
        replace k1 := hx.cell k1
        clear hx
        rw [hg]
        go_wp2_with fail
        refine (l10Is_any u _ _ (hy.ext hX)).mono ?_
        rintro e wn ⟨rfl, hx⟩
        replace hX := hX.trans hx
        replace k0 := hx.cell k0
        replace k1 := hx.cell k1
        clear hx
        rw [hg2]
        go_wp2
        go_ret
        exact ⟨rfl, hX⟩
      | true =>
        have h2 : twoB t u = true := twoB_yes hg hg2 (by have := eq_of_beq hl; omega)
        obtain ⟨hG, hU, hL⟩ := twoB_iff.1 h2
        have HL := Lib.hid hL
        clear hL
        have hln : ((t.length : Int) != (u.length : Int)) = false := by rw [bne, hl]; rfl
        by_cases hf : faultL t u = []
        · rw [braceB_yes h2 hf]
          have HF := Lib.hid hf
          have hz : (((faultL t u).length : Int) == 0) = true := by rw [hf]; rfl
          clear hf
          go_enter Tryd.func11, Tryd.ntmps11
          go_wp2_with fail
          refine (l10Is_any t _ _ (hv.ext hX)).mono ?_
          rintro e wn ⟨rfl, hx⟩
          replace hX := hX.trans hx
          replace k0 := hx.cell k0
          replace k1 := hx.cell k1
          clear hx
          rw [hg]
          go_wp2_with fail
          refine (l10Is_any u _ _ (hy.ext hX)).mono ?_
          rintro e wn ⟨rfl, hx⟩
          replace hX := hX.trans hx
          replace k0 := hx.cell k0
          replace k1 := hx.cell k1
          clear hx
          rw [hg2]
          go_wp2_with fail
          refine (l11Fault_any t u _ _ _ (hv.ext hX) (hy.ext hX) hG hU HL.out).mono ?_
          rintro e wn ⟨r, rfl, ⟨ra, rc, rfl⟩, hr, hx⟩
          replace hX := hX.trans hx
          replace k0 := hx.cell k0
          replace k1 := hx.cell k1
          clear hx
          go_wp2
          go_ret
          exact ⟨rfl, hX⟩
        · rw [braceB_2 hf]
          have HF := Lib.hid hf
          have hz := len_fault hf
          clear hf
          go_enter Tryd.func11, Tryd.ntmps11
          go_wp2_with fail
          refine (l10Is_any t _ _ (hv.ext hX)).mono ?_
          rintro e wn ⟨rfl, hx⟩
          replace hX := hX.trans hx
          replace k0 := hx.cell k0
          replace k1 := hx.cell k1
          clear hx
          rw [hg]
          go_wp2_with fail
          refine (l10Is_any u _ _ (hy.ext hX)).mono ?_
          rintro e wn ⟨rfl, hx⟩
          replace hX := hX.trans hx
          replace k0 := hx.cell k0
          replace k1 := hx.cell k1
          clear hx
          rw [hg2]
          go_wp2_with fail
          refine (l11Fault_any t u _ _ _ (hv.ext hX) (hy.ext hX) hG hU HL.out).mono ?_
          rintro e wn ⟨r, rfl, ⟨ra, rc, rfl⟩, hr, hx⟩
          replace hX := hX.trans hx
          replace k0 := hx.cell k0
          replace k1 := hx.cell k1
          clear hx
          go_wp2
          go_ret
          exact ⟨rfl, hX⟩

end Go.Proofs.YthlafeefjonkdaaDoor
