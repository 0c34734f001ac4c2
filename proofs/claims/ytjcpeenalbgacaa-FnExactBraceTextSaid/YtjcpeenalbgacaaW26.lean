/-
  Contracts: faults of braces.
-/
import Derived.Test.YtjcpeenalbgacaaProg
import Derived.Test.YtjcpeenalbgacaaBase
import Derived.Test.YtjcpeenalbgacaaBase2
import Derived.Test.YtjcpeenalbgacaaRet
import Derived.Test.YtjcpeenalbgacaaPure1
import Derived.Test.YtjcpeenalbgacaaPureOrd
import Derived.Test.YtjcpeenalbgacaaPureInv
import Derived.Test.YtjcpeenalbgacaaPureTurn
import Derived.Test.YtjcpeenalbgacaaPureBr
import Derived.Test.YtjcpeenalbgacaaW1
import Derived.Test.YtjcpeenalbgacaaW3
import Derived.Test.YtjcpeenalbgacaaW6
import Derived.Test.YtjcpeenalbgacaaW8
import Derived.Test.YtjcpeenalbgacaaW11
import Derived.Test.YtjcpeenalbgacaaW20
import Derived.Test.YtjcpeenalbgacaaK2
namespace Go.Proofs.Ytjcpeenalbgacaa
set_option linter.unusedVariables false
set_option linter.unusedSimpArgs false
open Go.RowKit

/-- three numbers just made -/
theorem ints3 (w : World) (x y z : Int) (T : Nat) : IntsAt (w.alloc (.cells #[.int .i64 x, .int .i64 y, .int .i64 z] T)) w.heap.size 0 [x, y, z] := fun i hi => by
  rw [ix_eq]
  match i, hi with
  | 0, _ => simp [go_sem]
  | 1, _ => simp [go_sem]
  | 2, _ => simp [go_sem]
theorem own3 (w : World) (x y z : Int) (T : Nat) : OwnI w.heap.size (w.heap.size + 1) (w.alloc (.cells #[.int .i64 x, .int .i64 y, .int .i64 z] T)) w.heap.size 0 [x, y, z] :=
  ⟨Nat.le_refl _, by omega, ints3 w x y z T, fun i _ => by simp [go_sem]⟩

set_option maxRecDepth 100000 in
set_option maxHeartbeats 1000000 in
theorem l11Fault_any (t u : List (List Int)) (v y : Value) (w : World) (hv : Rows w v t) (hy : Rows w y u) (hG : GroupOk t) (hU : GroupOk u) (hl : t.length = u.length) :
    Calls Try.prog 102 #[.agg #[v, y]] w fun e w' => ∃ v, e = .returned v ∧ (∃ a c, v = .slice a (faultL t u).length c) ∧ IntsR w' v (faultL t u) ∧ Ext w w' := by
  obtain ⟨hlen, b, o, c, rfl, hc⟩ := id hv
  obtain ⟨hlen2, b2, o2, c2, rfl, hc2⟩ := id hy
  have h12 := hG.1.2.1
  have HT := Lib.hid hG
  have HU := Lib.hid hU
  have HB := Lib.hid (fun x (hx : x < t.length) => backF_ok hG hx)
  clear hG hU
  rw [← hl]
  have HL := Lib.hid hl
  clear hl
  have hx0 := ext_boxB w (.slice (some ⟨b, o, none⟩) t.length c) (.slice (some ⟨b2, o2, none⟩) t.length c2) 29
  have k0 := cell_new2a w (.slice (some ⟨b, o, none⟩) t.length c) (.slice (some ⟨b2, o2, none⟩) t.length c2) 29
  have k1 := cell_new2b w (.slice (some ⟨b, o, none⟩) t.length c) (.slice (some ⟨b2, o2, none⟩) t.length c2) 29
  go_enter Try.func102, Try.ntmps102
  go_wp2
  generalize (w.alloc (.cells #[.slice (some ⟨b, o, none⟩) t.length c, .slice (some ⟨b2, o2, none⟩) t.length c2] 29)) = A at *
  go_loopw [4] (fun i wr => ∃ x : Nat, x ≤ t.length ∧ i = .int .i64 x ∧ NoX t u x ∧ Ext A wr) (fun i _ => t.length - (intOf i).toNat)
  case atStart => exact ⟨0, Nat.zero_le _, rfl, NoX.zero t u, Ext.refl _⟩
  case round =>
    obtain ⟨x, hx, rfl, hno, hxA⟩ := hrel
    have HX := Lib.hid hno
    clear hno
    have j0 := hxA.cell k0
    have j1 := hxA.cell k1
    by_cases hxl : x < t.length
    case neg =>
      go_wp2
      go_ret
      have hxx : x = t.length := by omega
      subst hxx
      rw [faultL_none HX.out]
      exact ⟨_, rfl, ⟨none, 0, rfl⟩, IntsR.nil _ _, hx0.trans hxA⟩
    case pos =>
      obtain ⟨w2, rfl⟩ : ∃ w2 : World, w2 = wr := ⟨_, rfl⟩
      have hb := HB.out x hxl
      go_wp2_with (go_at_call 135; refine (l10Back_any t _ x _ (hv.ext (hx0.trans hxA)) hxl).mono ?_; rintro e w' ⟨rfl, rfl⟩)
      go_loopw [6] (fun i wr => ∃ y : Nat, y ≤ t.length ∧ i = .int .i64 y ∧ NoY t u x y ∧ Ext w2 wr) (fun i _ => t.length - (intOf i).toNat)
      case atStart => exact ⟨0, Nat.zero_le _, rfl, NoY.zero t u x, Ext.refl _⟩
      case round =>
        obtain ⟨y, hyy, rfl, hno, hxB⟩ := hrel
        have HY := Lib.hid hno
        clear hno
        by_cases hyl : y < t.length
        case neg =>
          go_wp2
          go_roundw
          case rel =>
            have hyy : y = t.length := by omega
            subst hyy
            exact ⟨x + 1, by omega, by go_num, HX.out.succ HY.out, hxA.trans hxB⟩
          case measure => simp [intOf]; omega
        case pos =>
          obtain ⟨w3, rfl⟩ : ∃ w3 : World, w3 = wr := ⟨_, rfl⟩
          go_wp2
          go_loopw [7] (fun i wr => ∃ z : Nat, z ≤ t.length ∧ i = .int .i64 z ∧ NoZ t u x y z ∧ Ext w3 wr) (fun i _ => t.length - (intOf i).toNat)
          case atStart => exact ⟨0, Nat.zero_le _, rfl, NoZ.zero t u x y, Ext.refl _⟩
          case round =>
            obtain ⟨z, hzz, rfl, hno, hxC⟩ := hrel
            have HZ := Lib.hid hno
            clear hno
            by_cases hzl : z < t.length
            case neg =>
              go_wp2
              go_roundw
              case rel =>
                have hzz : z = t.length := by omega
                subst hzz
                exact ⟨y + 1, by omega, by go_num, HY.out.succ HZ.out, hxB.trans hxC⟩
              case measure => simp [intOf]; omega
            case pos =>
              have hXC := (hx0.trans hxA).trans (hxB.trans hxC)
              have i0 := (hxB.trans hxC).cell j0
              have i1 := (hxB.trans hxC).cell j1
              have p := HT.out.1.bd hyl hzl
              have q := HU.out.1.bd (x := x) (y := y) (by have := HL.out; omega) (by have := HL.out; omega)
              rw [← HL.out] at q
              obtain ⟨d1, s1, m1, r1, l1, -⟩ := (hc2.ext hXC).get (i := x) (by have := HL.out; omega)
              obtain ⟨d2, s2, m2, r2, l2, -⟩ := (hc.ext hXC).get (i := y) (by omega)
              obtain ⟨d3, s3, m3, r3, l3, -⟩ := (hc.ext hXC).get (i := (ent u x y).toNat) (by omega)
              have g := HT.out.1.bd (x := (ent u x y).toNat) (y := (backF t x).toNat) (by omega) (by omega)
              obtain ⟨d4, s4, m4, r4, l4, -⟩ := (hc.ext hXC).get (i := (ent t (ent u x y).toNat (backF t x).toNat).toNat) (by omega)
              have qz := HU.out.1.bd (x := x) (y := z) (by have := HL.out; omega) (by have := HL.out; omega)
              rw [← HL.out] at qz
              have lx := HU.out.1.len (x := x) (by have := HL.out; omega)
              rw [← HL.out] at lx
              have f1 := l1.ent lx (y := y) (by omega)
              have f2 := l1.ent lx (y := z) (by omega)
              have f3 := l2.ent (HT.out.1.len (x := y) (by omega)) (y := z) (by omega)
              have f4 := l1.ent lx (y := (ent t y z).toNat) (by omega)
              have f5 := l3.ent (HT.out.1.len (x := (ent u x y).toNat) (by omega)) (y := (backF t x).toNat) (by omega)
              have f6 := l4.ent (HT.out.1.len (x := (ent t (ent u x y).toNat (backF t x).toNat).toNat) (by omega)) (y := (ent u x z).toNat) (by omega)
              rw [lx] at r1
              rw [HT.out.1.len (x := y) (by omega)] at r2
              rw [HT.out.1.len (x := (ent u x y).toNat) (by omega)] at r3
              rw [HT.out.1.len (x := (ent t (ent u x y).toNat (backF t x).toNat).toNat) (by omega)] at r4
              rw [leftF_def] at f4
              rw [rightF_def] at f6
              clear l1 l2 l3 l4 lx
              cases hne : (leftF t u x y z != rightF t u x y z) with
              | true =>
                go_wp2
                go_quiet (fail)
                go_wp2
                go_quiet (fail)
                go_wp2
                go_ret
                rw [faultL_at hxl hyl hzl (by simpa using hne) HX.out HY.out HZ.out]
                exact ⟨_, rfl, ⟨_, _, rfl⟩, ⟨_, _, rfl, fun _ => ⟨_, _, rfl, ints3 _ _ _ _ _⟩⟩, (hXC.drewN _).alloc _⟩
              | false =>
                go_wp2
                go_quiet (fail)
                go_wp2
                go_quiet (fail)
                go_wp2
                go_roundw
                case rel => exact ⟨z + 1, by omega, by go_num, HZ.out.succ (by simpa using hne), hxC.drewN _⟩
                case measure => simp [intOf]; omega

/-- what braceFault returns: nil or three numbers, in new memory -/
def FaultV (t u : List (List Int)) (w : World) (e : Ending) (w' : World) : Prop :=
  ∃ v, e = .returned v ∧ OwnIV w.heap.size w'.heap.size w' v (faultL t u) ∧ ((faultL t u = [] ∧ v = .slice none 0 0) ∨ ((faultL t u).length = 3 ∧ ∃ b c, v = .slice (some ⟨b, 0, none⟩) 3 c)) ∧ Ext w w'

set_option maxRecDepth 100000 in
set_option maxHeartbeats 1000000 in
theorem braceFault_any (t u : List (List Int)) (v y : Value) (w : World) (hv : Rows w v t) (hy : Rows w y u) (hG : GroupOk t) (hU : GroupOk u) (hl : t.length = u.length) :
    Calls Try.prog 105 #[.agg #[v, y]] w (FaultV t u w) := by
  obtain ⟨hlen, b, o, c, rfl, hc⟩ := id hv
  obtain ⟨hlen2, b2, o2, c2, rfl, hc2⟩ := id hy
  have h12 := hG.1.2.1
  have HT := Lib.hid hG
  have HU := Lib.hid hU
  have HB := Lib.hid (fun x (hx : x < t.length) => backF_ok hG hx)
  clear hG hU
  rw [← hl]
  have HL := Lib.hid hl
  clear hl
  have hx0 := ext_boxB w (.slice (some ⟨b, o, none⟩) t.length c) (.slice (some ⟨b2, o2, none⟩) t.length c2) 29
  have k0 := cell_new2a w (.slice (some ⟨b, o, none⟩) t.length c) (.slice (some ⟨b2, o2, none⟩) t.length c2) 29
  have k1 := cell_new2b w (.slice (some ⟨b, o, none⟩) t.length c) (.slice (some ⟨b2, o2, none⟩) t.length c2) 29
  go_enter Try.func105, Try.ntmps105
  go_wp2_with fail
  generalize (w.alloc (.cells #[.slice (some ⟨b, o, none⟩) t.length c, .slice (some ⟨b2, o2, none⟩) t.length c2] 29)) = A0 at *
  refine (groupInverses_any t _ _ (hv.ext hx0)).mono ?_
  rintro e A ⟨bb, cb, rfl, hib, hxb⟩
  replace k0 := hxb.cell k0
  replace k1 := hxb.cell k1
  replace hx0 := hx0.trans hxb
  clear hxb
  go_wp2
  go_loopw [15] (fun i wr => ∃ x : Nat, x ≤ t.length ∧ i = .int .i64 x ∧ NoX t u x ∧ Ext A wr) (fun i _ => t.length - (intOf i).toNat)
  case atStart => exact ⟨0, Nat.zero_le _, rfl, NoX.zero t u, Ext.refl _⟩
  case round =>
    obtain ⟨x, hx, rfl, hno, hxA⟩ := hrel
    have HX := Lib.hid hno
    clear hno
    have j0 := hxA.cell k0
    have j1 := hxA.cell k1
    by_cases hxl : x < t.length
    case neg =>
      go_wp2
      go_ret
      have hxx : x = t.length := by omega
      subst hxx
      have hf := faultL_none HX.out
      refine ⟨_, rfl, ?_, .inl ⟨hf, rfl⟩, hx0.trans hxA⟩
      rw [hf]; exact OwnIV.nil _ _ _
    case pos =>
      obtain ⟨w2, rfl⟩ : ∃ w2 : World, w2 = wr := ⟨_, rfl⟩
      have hb := HB.out x hxl
      go_wp2
      go_loopw [19] (fun i wr => ∃ y : Nat, y ≤ t.length ∧ i = .int .i64 y ∧ NoY t u x y ∧ Ext w2 wr) (fun i _ => t.length - (intOf i).toNat)
      case atStart => exact ⟨0, Nat.zero_le _, rfl, NoY.zero t u x, Ext.refl _⟩
      case round =>
        obtain ⟨y, hyy, rfl, hno, hxB⟩ := hrel
        have HY := Lib.hid hno
        clear hno
        by_cases hyl : y < t.length
        case neg =>
          go_wp2
          go_roundw
          case rel =>
            have hyy : y = t.length := by omega
            subst hyy
            exact ⟨x + 1, by omega, by go_num, HX.out.succ HY.out, hxA.trans hxB⟩
          case measure => simp [intOf]; omega
        case pos =>
          obtain ⟨w3, rfl⟩ : ∃ w3 : World, w3 = wr := ⟨_, rfl⟩
          go_wp2
          go_loopw [23] (fun i wr => ∃ z : Nat, z ≤ t.length ∧ i = .int .i64 z ∧ NoZ t u x y z ∧ Ext w3 wr) (fun i _ => t.length - (intOf i).toNat)
          case atStart => exact ⟨0, Nat.zero_le _, rfl, NoZ.zero t u x y, Ext.refl _⟩
          case round =>
            obtain ⟨z, hzz, rfl, hno, hxC⟩ := hrel
            have HZ := Lib.hid hno
            clear hno
            by_cases hzl : z < t.length
            case neg =>
              go_wp2
              go_roundw
              case rel =>
                have hzz : z = t.length := by omega
                subst hzz
                exact ⟨y + 1, by omega, by go_num, HY.out.succ HZ.out, hxB.trans hxC⟩
              case measure => simp [intOf]; omega
            case pos =>
              have hXC := (hx0.trans hxA).trans (hxB.trans hxC)
              have i0 := (hxB.trans hxC).cell j0
              have i1 := (hxB.trans hxC).cell j1
              have ib := (hib.ext (hxA.trans (hxB.trans hxC))) x (by rw [length_backs]; exact hxl)
              rw [ix_backs _ _ hxl, Nat.zero_add] at ib
              have p := HT.out.1.bd hyl hzl
              have q := HU.out.1.bd (x := x) (y := y) (by have := HL.out; omega) (by have := HL.out; omega)
              rw [← HL.out] at q
              obtain ⟨d1, s1, m1, r1, l1, -⟩ := (hc2.ext hXC).get (i := x) (by have := HL.out; omega)
              obtain ⟨d2, s2, m2, r2, l2, -⟩ := (hc.ext hXC).get (i := y) (by omega)
              obtain ⟨d3, s3, m3, r3, l3, -⟩ := (hc.ext hXC).get (i := (ent u x y).toNat) (by omega)
              have g := HT.out.1.bd (x := (ent u x y).toNat) (y := (backF t x).toNat) (by omega) (by omega)
              obtain ⟨d4, s4, m4, r4, l4, -⟩ := (hc.ext hXC).get (i := (ent t (ent u x y).toNat (backF t x).toNat).toNat) (by omega)
              have qz := HU.out.1.bd (x := x) (y := z) (by have := HL.out; omega) (by have := HL.out; omega)
              rw [← HL.out] at qz
              have lx := HU.out.1.len (x := x) (by have := HL.out; omega)
              rw [← HL.out] at lx
              have f1 := l1.ent lx (y := y) (by omega)
              have f2 := l1.ent lx (y := z) (by omega)
              have f3 := l2.ent (HT.out.1.len (x := y) (by omega)) (y := z) (by omega)
              have f4 := l1.ent lx (y := (ent t y z).toNat) (by omega)
              have f5 := l3.ent (HT.out.1.len (x := (ent u x y).toNat) (by omega)) (y := (backF t x).toNat) (by omega)
              have f6 := l4.ent (HT.out.1.len (x := (ent t (ent u x y).toNat (backF t x).toNat).toNat) (by omega)) (y := (ent u x z).toNat) (by omega)
              rw [lx] at r1
              rw [HT.out.1.len (x := y) (by omega)] at r2
              rw [HT.out.1.len (x := (ent u x y).toNat) (by omega)] at r3
              rw [HT.out.1.len (x := (ent t (ent u x y).toNat (backF t x).toNat).toNat) (by omega)] at r4
              rw [leftF_def] at f4
              rw [rightF_def] at f6
              clear l1 l2 l3 l4 lx
              cases hne : (leftF t u x y z != rightF t u x y z) with
              | true =>
                go_wp2
                go_quiet (fail)
                go_wp2
                go_ret
                have hf := faultL_at hxl hyl hzl (by simpa using hne) HX.out HY.out HZ.out
                have hsz := hXC.size
                refine ⟨_, rfl, ?_, .inr ⟨by rw [hf]; rfl, _, _, rfl⟩, (hXC.drewN _).alloc _⟩
                rw [hf]
                exact ⟨by simp, _, _, rfl, fun _ => ⟨_, _, rfl, (own3 _ _ _ _ _).mono (by simpa using hsz) (by simp)⟩⟩
              | false =>
                go_wp2
                go_quiet (fail)
                go_wp2
                go_roundw
                case rel => exact ⟨z + 1, by omega, by go_num, HZ.out.succ (by simpa using hne), hxC.drewN _⟩
                case measure => simp [intOf]; omega
end Go.Proofs.Ytjcpeenalbgacaa
