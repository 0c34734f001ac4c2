/-
  Contract of l03Fits: does a beginning of a map fit.
-/
import Derived.Test.YthlafeefjonkdaaGreatDoorJx8
namespace Go.Proofs.YthlafeefjonkdaaGreatDoor
set_option linter.unusedVariables false
set_option linter.unusedSimpArgs false
open Go.RowKit
attribute [local go_sem ↓] Go.wp_at_zero Go.wp_at_succ

def FitAt (az bz : List (List (List Int))) (f : List Int) (l k x y : Nat) : Prop :=
  (l : Int) < ent (tab az k) x y ∨ (x < l ∧ y < l ∧ ent (tab az k) x y < (l : Int)) ∨ ix f (ent (tab az k) x y).toNat = ent (tab bz k) (ix f x).toNat (ix f y).toNat
def FitY (az bz : List (List (List Int))) (f : List Int) (l k x j : Nat) : Prop := ∀ y, y < j → FitAt az bz f l k x y
def FitX (az bz : List (List (List Int))) (f : List Int) (l k j : Nat) : Prop := ∀ x, x < j → FitY az bz f l k x (l + 1)
def FitK (az bz : List (List (List Int))) (f : List Int) (l j : Nat) : Prop := ∀ k, k < j → FitX az bz f l k (l + 1)
open Classical in
@[irreducible] noncomputable def fitsB (az bz : List (List (List Int))) (f : List Int) (l : Nat) : Bool := decide (FitK az bz f l az.length)
theorem fitsB_iff {az bz : List (List (List Int))} {f : List Int} {l : Nat} : fitsB az bz f l = true ↔ FitK az bz f l az.length := by unfold fitsB; simp
theorem fitsB_no {az bz : List (List (List Int))} {f : List Int} {l k x y : Nat} (hk : k < az.length) (hx : x < l + 1) (hy : y < l + 1) (h : ¬ FitAt az bz f l k x y) : fitsB az bz f l = false := by
  rw [← Bool.not_eq_true, fitsB_iff]
  intro g
  exact h (g k hk x hx y hy)

set_option maxRecDepth 100000 in
set_option maxHeartbeats 2000000 in
theorem l03Fits_any (az bz : List (List (List Int))) (f : List Int) (v u y : Value) (n l : Nat) (w : World) (hv : Tabs w v az) (hu : Tabs w u bz) (hy : Ints w y f) (hA : TabsOk n az) (hB : TabsOk n bz) (hab : az.length = bz.length) (hl : f.length = l + 1) (hln : l < n) (h12 : n ≤ 12) (hf : ∀ i, i < l + 1 → 0 ≤ ix f i ∧ ix f i < n) :
    Calls Tryz.prog 76 #[v, u, y] w fun e w' => e = .returned (.bool (fitsB az bz f l)) ∧ Drawn w w' := by
  obtain ⟨hla, b, o, c, rfl, hc⟩ := id hv
  obtain ⟨-, b2, o2, c2, rfl, hc2⟩ := id hu
  obtain ⟨-, b3, o3, c3, rfl, hc3⟩ := id hy
  rw [hl]
  have HL := Lib.hid hl
  have HF := Lib.hid hf
  have HA := Lib.hid hA
  have HB := Lib.hid hB
  have HAB := Lib.hid hab
  have HLA : az.length ≤ 1048576 := hla
  clear hl hf hA hB hv hu hy hab
  go_enter Tryz.func76, Tryz.ntmps76
  go_wp2_with fail
  go_loopw [8] (fun i wr => ∃ k : Nat, k ≤ az.length ∧ i = .int .i64 k ∧ FitK az bz f l k ∧ Drawn w wr) (fun i _ => az.length - (intOf i).toNat)
  case atStart => exact ⟨0, Nat.zero_le _, rfl, all_zero, Drawn.refl _⟩
  case round =>
    obtain ⟨k, hk, rfl, hfk, hd⟩ := hrel
    have HK := Lib.hid hfk
    clear hfk
    by_cases hkl : k < az.length
    case neg =>
      have HT := Lib.hid (show fitsB az bz f l = true from fitsB_iff.2 fun q hq => HK.out q (by omega))
      go_wp2
      go_ret
      exact ⟨ret_bool (by rw [HT.out]), hd⟩
    case pos =>
      go_wp2_with fail
      go_loopw [9] (fun i wr => ∃ x : Nat, x ≤ l + 1 ∧ i = .int .i64 x ∧ FitX az bz f l k x ∧ Drawn w wr) (fun i _ => l + 1 - (intOf i).toNat)
      case atStart => exact ⟨0, Nat.zero_le _, rfl, all_zero, hd⟩
      case round =>
        clear hd
        obtain ⟨x, hx, rfl, hfx, hd⟩ := hrel
        have HX := Lib.hid hfx
        clear hfx
        by_cases hxl : x < l + 1
        case neg =>
          have hxx : x = l + 1 := by omega
          subst hxx
          go_wp2
          go_roundw
          case rel => exact ⟨k + 1, by omega, by go_num, all_succ HK.out HX.out, hd⟩
          case measure => simp [intOf]; omega
        case pos =>
          have hxle : x ≤ l := by omega
          go_wp2_with fail
          go_loopw [10] (fun i wr => ∃ q : Nat, q ≤ l + 1 ∧ i = .int .i64 q ∧ FitY az bz f l k x q ∧ Drawn w wr) (fun i _ => l + 1 - (intOf i).toNat)
          case atStart => exact ⟨0, Nat.zero_le _, rfl, all_zero, hd⟩
          case round =>
            clear hd
            obtain ⟨q, hq, rfl, hfy, hd⟩ := hrel
            have HY := Lib.hid hfy
            clear hfy
            by_cases hql : q < l + 1
            case neg =>
              have hqq : q = l + 1 := by omega
              subst hqq
              go_wp2
              go_roundw
              case rel => exact ⟨x + 1, by omega, by go_num, all_succ HX.out HY.out, hd⟩
              case measure => simp [intOf]; omega
            case pos =>
              obtain ⟨t1, t2, t3, r0, rr⟩ := (hc.ext hd.ext).read HA.out hkl
              obtain ⟨d1, s1, m1, r1, rr1⟩ := rr x (by omega)
              have r2 := rr1 q (by omega)
              obtain ⟨t4, t5, t6, r3, rs⟩ := (hc2.ext hd.ext).read HB.out (show k < bz.length by rw [← HAB.out]; exact hkl)
              have bx := HF.out x hxl
              have bq := HF.out q hql
              obtain ⟨d2, s2, m2, r4, rs1⟩ := rs (ix f x).toNat (by omega)
              have r5 := rs1 (ix f q).toNat (by omega)
              have r6 := (hc3.ext hd.ext) x (by rw [HL.out]; exact hxl)
              have r7 := (hc3.ext hd.ext) q (by rw [HL.out]; exact hql)
              have bv := HA.out.bd hkl (show x < n by omega) (show q < n by omega)
              have hkb : (k : Int) < (bz.length : Int) := by have := HAB.out; omega
              have HFA := Lib.hid (show FitAt az bz f l k x q ↔ (l : Int) < ent (tab az k) x q ∨ (x < l ∧ q < l ∧ ent (tab az k) x q < (l : Int)) ∨ ix f (ent (tab az k) x q).toNat = ent (tab bz k) (ix f x).toNat (ix f q).toNat from Iff.rfl)
              clear rr rr1 rs rs1
              by_cases g1 : (l : Int) < ent (tab az k) x q
              · have HG := Lib.hid (HFA.out.2 (.inl g1))
                go_wp2
                go_roundw
                case rel => exact ⟨q + 1, by omega, by go_num, all_succ HY.out HG.out, hd⟩
                case measure => simp [intOf]; omega
              · have r8 := (hc3.ext hd.ext) (ent (tab az k) x q).toNat (by rw [HL.out]; omega)
                by_cases g2 : x < l ∧ q < l ∧ ent (tab az k) x q < (l : Int)
                · have HG := Lib.hid (HFA.out.2 (.inr (.inl g2)))
                  obtain ⟨ga, gb, gc⟩ := g2
                  go_wp2
                  go_roundw
                  case rel => exact ⟨q + 1, by omega, by go_num, all_succ HY.out HG.out, hd⟩
                  case measure => simp [intOf]; omega
                · have hways : (¬ x < l) ∨ (x < l ∧ ¬ q < l) ∨ (x < l ∧ q < l ∧ ¬ ent (tab az k) x q < (l : Int)) := by omega
                  have ia : ix f x < (n : Int) := bx.2
                  have ib : ix f q < (n : Int) := bq.2
                  have ic : ent (tab az k) x q < (l : Int) + 1 := by omega
                  have ja := bx.1
                  have jb := bq.1
                  have jc := bv.1
                  by_cases g3 : ix f (ent (tab az k) x q).toNat = ent (tab bz k) (ix f x).toNat (ix f q).toNat
                  · have HG := Lib.hid (HFA.out.2 (.inr (.inr g3)))
                    have hb : (ix f (ent (tab az k) x q).toNat != ent (tab bz k) (ix f x).toNat (ix f q).toNat) = false := by simp [g3]
                    clear g3 g2 bx bq bv
                    rcases hways with ga | ⟨ga, gb⟩ | ⟨ga, gb, gc⟩
                    all_goals
                      go_wp2
                      go_quiet (fail)
                      go_wp2
                      go_roundw
                      case rel => exact ⟨q + 1, by omega, by go_num, all_succ HY.out HG.out, hd.drewN _⟩
                      case measure => simp [intOf]; omega
                  · have HG := Lib.hid (fitsB_no hkl hxl hql (fun h => by
                      rcases HFA.out.1 h with h | h | h
                      · exact g1 h
                      · exact g2 h
                      · exact g3 h))
                    have hb : (ix f (ent (tab az k) x q).toNat != ent (tab bz k) (ix f x).toNat (ix f q).toNat) = true := by simp [g3]
                    clear g3 g2 bx bq bv
                    rcases hways with ga | ⟨ga, gb⟩ | ⟨ga, gb, gc⟩
                    all_goals
                      go_wp2
                      go_quiet (fail)
                      go_wp2
                      go_ret
                      exact ⟨ret_bool (by rw [HG.out]), hd.drewN _⟩

end Go.Proofs.YthlafeefjonkdaaGreatDoor
