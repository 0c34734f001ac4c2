/-
  l13Spread of the reference: known numbers of automorphisms are spread.
-/
import Derived.Test.YthlafeefjonkdaaGreatDoorJx8
namespace Go.Proofs.YthlafeefjonkdaaGreatDoor
set_option linter.unusedVariables false
set_option linter.unusedSimpArgs false
open Go.RowKit
attribute [local go_sem ↓] Go.wp_at_zero Go.wp_at_succ
open Go.Deep

def memK (w : World) (b n : Nat) : List Int := (List.range n).map fun i => match w.cell? ⟨b, i, none⟩ with | some (.int _ z) => z | _ => 0
theorem memK_eq {w : World} {b n : Nat} {K : List Int} (h : IntsAt w b 0 K) (hl : K.length = n) : memK w b n = K := by
  refine ix_ext (by simp [memK, hl]) fun i hi => ?_
  have hi' : i < n := by simpa [memK] using hi
  have hc := h i (by omega)
  rw [Nat.zero_add] at hc
  rw [ix_eq]
  simp [memK, List.getD, hi', hc]
def muS (b n : Nat) (a : Value) (w : World) : Nat := unset (memK w b n) + (match a with | .bool true => 1 | _ => 0)
theorem muS_eq {w : World} {b n : Nat} {K : List Int} (h : IntsAt w b 0 K) (hl : K.length = n) (g : Bool) : muS b n (.bool g) w = unset K + (if g = true then 1 else 0) := by
  unfold muS
  rw [memK_eq h hl]
  cases g <;> rfl
def SprPost (n m : Nat) (K : List Int) (w : World) (e : Ending) (w' : World) : Prop :=
  ∃ v' r, e = .returned (.tuple #[v', .bool r]) ∧ (r = true → ∃ K', Ints w' v' K' ∧ KOk n m K' ∧ unset K' ≤ unset K ∧ (Zer K → Zer K')) ∧ (Zer K → r = true) ∧ Ext w w'

set_option maxRecDepth 100000 in
set_option maxHeartbeats 4000000 in
theorem l13Spread_any (n : Nat) (T A : List (List Int)) (L : List Int) (tv av kv : Value) (w : World) (ht : Rows w tv T) (ha : Rows w av A) (hk : Ints w kv L) (hT : TableOk T) (hl : T.length = n) (hA : AutOk n A) (hK : KOk n A.length L) :
    Calls Tryz.prog 125 #[tv, av, kv] w (SprPost n A.length L w) := by
  obtain ⟨-, tb, tq, tc, rfl, htc⟩ := id ht
  obtain ⟨hal, ab, ao, ac, rfl, hac⟩ := id ha
  have h12 := hT.2.1
  have HT := Lib.hid hT
  have HA := Lib.hid hA
  have HK := Lib.hid hK
  have HTC := Lib.hid htc
  have HAC := Lib.hid hac
  have HAR := Lib.hid ha
  have hkl := hK.len
  subst hl
  clear hT hA hK htc hac ht ha
  go_enter Tryz.func125, Tryz.ntmps125
  go_wp2_with fail
  refine (l01Own_any L _ _ hk).mono ?_
  rintro e w1 ⟨br, cr, rfl, ho, hx1⟩
  rw [hkl]
  clear hk
  go_wp2
  go_loopw [9] (fun a wr => ∃ (g : Bool) (K1 : List Int), a = .bool g ∧ KOk T.length A.length K1 ∧ unset K1 ≤ unset L ∧ (Zer L → Zer K1) ∧ OwnI w.heap.size w1.heap.size wr br 0 K1 ∧ Ext w wr) (fun a wr => muS br T.length a wr)
  case atStart => exact ⟨true, L, rfl, HK.out, Nat.le_refl _, id, ho, hx1⟩
  case round =>
    clear ho hx1
    obtain ⟨g, K1, rfl, hk1, hu1, hz1, ho1, hx⟩ := hrel
    have HK1 := Lib.hid hk1
    have HZ1 := Lib.hid hz1
    have HO1 := Lib.hid ho1
    have HX := Lib.hid hx
    have hl1 := hk1.len
    clear hk1 hz1 ho1 hx
    cases g with
    | false =>
      go_wp2
      go_ret2
      refine ⟨_, true, rfl, fun _ => ⟨K1, ?_, HK1.out, hu1, HZ1.out⟩, fun _ => rfl, HX.out⟩
      have := HO1.out.2.2.1.ints (by omega) cr
      rwa [hl1] at this
    | true =>
      have hmu := muS_eq (n := T.length) HO1.out.2.2.1 hl1 true
      rw [if_pos rfl] at hmu
      have HMU := Lib.hid hmu
      clear hmu
      go_wp2
      obtain ⟨w2, rfl⟩ : ∃ z : World, z = wr := ⟨_, rfl⟩
      go_loopw [9, 10] (fun a x wr => ∃ (g : Bool) (i : Nat) (K2 : List Int), a = .bool g ∧ i ≤ T.length ∧ x = .int .i64 i ∧ KOk T.length A.length K2 ∧ (g = true → unset K2 < unset K1) ∧ (g = false → K2 = K1) ∧ (Zer L → Zer K2) ∧ OwnI w.heap.size w1.heap.size wr br 0 K2 ∧ Ext w wr) (fun _ x _ => T.length - (intOf x).toNat)
      case atStart => exact ⟨false, 0, K1, rfl, Nat.zero_le _, rfl, HK1.out, (fun h => by cases h), (fun _ => rfl), HZ1.out, HO1.out, HX.out⟩
      case round =>
        clear HO1 HX HZ1
        obtain ⟨g, i, K2, rfl, hi, rfl, hk2, hg1, hg2, hz2, ho2, hx⟩ := hrel
        have HK2 := Lib.hid hk2
        have HG1 := Lib.hid hg1
        have HG2 := Lib.hid hg2
        have HZ2 := Lib.hid hz2
        have HO2 := Lib.hid ho2
        have HX := Lib.hid hx
        have hl2 := hk2.len
        clear hk2 hg1 hg2 hz2 ho2 hx
        by_cases hil : i < T.length
        case neg =>
          go_wp2
          go_roundw
          case rel =>
            refine ⟨g, K2, rfl, HK2.out, ?_, HZ2.out, HO2.out, HX.out⟩
            cases g with
            | true => have := HG1.out rfl; omega
            | false => rw [HG2.out rfl]; exact hu1
          case measure =>
            rw [HMU.out, muS_eq (n := T.length) HO2.out.2.2.1 hl2]
            cases g with
            | true => have := HG1.out rfl; simp; omega
            | false => rw [HG2.out rfl]; simp
        case pos =>
          go_wp2
          obtain ⟨w3, rfl⟩ : ∃ z : World, z = wr := ⟨_, rfl⟩
          go_loopw [9, 11] (fun a y wr => ∃ (g : Bool) (j : Nat) (K3 : List Int), a = .bool g ∧ j ≤ T.length ∧ y = .int .i64 j ∧ KOk T.length A.length K3 ∧ (g = true → unset K3 < unset K1) ∧ (g = false → K3 = K1) ∧ (Zer L → Zer K3) ∧ OwnI w.heap.size w1.heap.size wr br 0 K3 ∧ Ext w wr) (fun _ y _ => T.length - (intOf y).toNat)
          case atStart => exact ⟨g, 0, K2, rfl, Nat.zero_le _, rfl, HK2.out, HG1.out, HG2.out, HZ2.out, HO2.out, HX.out⟩
          case round =>
            clear HO2 HX HZ2 HG1 HG2 HK2 hl2
            obtain ⟨g, j, K3, rfl, hj, rfl, hk3, hg1, hg2, hz3, ho3, hx⟩ := hrel
            have HK3 := Lib.hid hk3
            have HG1 := Lib.hid hg1
            have HG2 := Lib.hid hg2
            have HZ3 := Lib.hid hz3
            have HO3 := Lib.hid ho3
            have HX := Lib.hid hx
            have hl3 := hk3.len
            have hb3 := ho3.1
            have hb4 := ho3.2.1
            clear hk3 hg1 hg2 hz3 ho3 hx
            by_cases hjl : j < T.length
            case neg =>
              go_wp2
              go_roundw
              case rel => exact ⟨g, i + 1, K3, rfl, by omega, by go_num, HK3.out, HG1.out, HG2.out, HZ3.out, HO3.out, HX.out⟩
              case measure => simp [intOf]; omega
            case pos =>
              have cx := HO3.out.2.2.1 i (by omega)
              have cy := HO3.out.2.2.1 j (by omega)
              rw [Nat.zero_add] at cx cy
              obtain ⟨A1, hA1⟩ : ∃ z, z = ix K3 i := ⟨_, rfl⟩
              obtain ⟨A2, hA2⟩ : ∃ z, z = ix K3 j := ⟨_, rfl⟩
              rw [← hA1] at cx
              rw [← hA2] at cy
              have HA1 := Lib.hid hA1
              have HA2 := Lib.hid hA2
              have bx := HK3.out.bd i hil
              have bY := HK3.out.bd j hjl
              rw [← hA1] at bx
              rw [← hA2] at bY
              clear hA1 hA2
              by_cases hx0 : A1 < 0
              case pos =>
                go_wp2
                go_roundw
                case rel => exact ⟨g, j + 1, K3, rfl, by omega, by go_num, HK3.out, HG1.out, HG2.out, HZ3.out, HO3.out, HX.out⟩
                case measure => simp [intOf]; omega
              case neg =>
                by_cases hy0 : A2 < 0
                case pos =>
                  go_wp2
                  go_roundw
                  case rel => exact ⟨g, j + 1, K3, rfl, by omega, by go_num, HK3.out, HG1.out, HG2.out, HZ3.out, HO3.out, HX.out⟩
                  case measure => simp [intOf]; omega
                case neg =>
                  obtain ⟨a, rfl⟩ := Int.eq_ofNat_of_zero_le (a := A1) (by omega)
                  obtain ⟨b, rfl⟩ := Int.eq_ofNat_of_zero_le (a := A2) (by omega)
                  have haA : a < A.length := by omega
                  have hbA : b < A.length := by omega
                  have hpa := HA.out.perm a haA
                  have hpb := HA.out.perm b hbA
                  obtain ⟨d1, s1, m1, r1, l1, n1⟩ := HTC.out.get hil
                  rw [HT.out.len hil] at r1
                  obtain ⟨d2, s2, m2, r2, l2, n2⟩ := HAC.out.get haA
                  obtain ⟨d3, s3, m3, r3, l3, n3⟩ := HAC.out.get hbA
                  have i2 := l2.ints n2 m2
                  have i3 := l3.ints n3 m3
                  rw [hpa.1] at r2 i2
                  rw [hpb.1] at r3 i3
                  have hey := hpa.bd hjl
                  have e2 := l2 j (by rw [hpa.1]; exact hjl)
                  obtain ⟨q, hq⟩ := Int.eq_ofNat_of_zero_le hey.1
                  rw [hq] at e2
                  have hqT : q < T.length := by omega
                  have e1 := l1.ent (HT.out.len hil) (y := q) hqT
                  have hbz := HT.out.bd (x := i) (y := q) hil hqT
                  obtain ⟨z, hz⟩ := Int.eq_ofNat_of_zero_le (a := ent T i q) (by omega)
                  rw [hz] at e1 hbz
                  have hzT : z < T.length := by omega
                  have hcl := HA.out.clos a haA b hbA
                  obtain ⟨f, hf⟩ := Int.eq_ofNat_of_zero_le hcl.1
                  rw [hf] at hcl
                  have hfA : f < A.length := by omega
                  have cz := HO3.out.2.2.1 z (by omega)
                  have fz := HO3.out.2.2.2 z (by omega)
                  rw [Nat.zero_add] at cz fz
                  have hbzk := HK3.out.bd z hzT
                  have HF := Lib.hid hf
                  have I2 := Lib.hid i2
                  have I3 := Lib.hid i3
                  have HPA := Lib.hid hpa
                  have HPB := Lib.hid hpb
                  have r1 := HX.out.cell r1
                  have r2 := HX.out.cell r2
                  have r3 := HX.out.cell r3
                  have e2 := HX.out.cell e2
                  have e1 := HX.out.cell e1
                  clear hf i2 i3 hpa hpb l1 l2 l3 hey hq hz
                  go_wp2
                  go_quiet (fail)
                  go_wp2
                  go_cut [13] (fun p wx => p = .int .i64 (f : Int) ∧ Ext wr wx)
                  case first =>
                    go_region_with (first
                      | (go_at_call 137; refine (l04Find_any A _ _ _ _ (HAR.out.ext (HX.out.trans (((Ext.refl _).drewN _).trans hxB))) hpB).mono ?_; rintro e wC ⟨rfl, hdC⟩; rw [HF.out])
                      | (go_at_call 123; refine (l01Then_any T.length _ _ _ _ _ (I3.out.ext (HX.out.trans ((Ext.refl _).drewN _))) (I2.out.ext (HX.out.trans ((Ext.refl _).drewN _))) HPB.out HPA.out.1 h12).mono ?_; rintro e wB ⟨pb, pc, rfl, hoB, hxB⟩; have hpB := hoB.2.2.1.ints (by rw [length_thenL, HPB.out.1]; omega) pc))
                    all_goals
                      go_wp2
                      go_meet
                      case rel => exact ⟨rfl, ((Ext.refl _).drewN _).trans (hxB.trans hdC.ext)⟩
                  obtain ⟨rfl, hxc⟩ := hcut
                  have HXC := Lib.hid hxc
                  have hbw := World.block_lt_of_cell? _ _ cz
                  simp only [] at hbw
                  have fz := hxc.free fz hbw
                  have cz := hxc.cell cz
                  have HO4 := Lib.hid (show OwnI w.heap.size w1.heap.size wc br 0 K3 from HO3.out.block (hxc.block br hbw))
                  have HX4 := Lib.hid (HX.out.trans hxc)
                  have HZF := Lib.hid (show Zer L → (f : Int) = 0 by
                    intro hZ
                    have h3 := HZ3.out hZ
                    have ea := h3 i (by omega)
                    have eb := h3 j (by omega)
                    rw [← HA1.out] at ea
                    rw [← HA2.out] at eb
                    have ea : a = 0 := by omega
                    have eb : b = 0 := by omega
                    rw [← HF.out, ea, eb]
                    exact HA.out.zero)
                  clear hxc
                  by_cases hz0 : ix K3 z < 0
                  case pos =>
                    have hle : w.heap.size ≤ br := hb3
                    have HKS := Lib.hid (HK3.out.set (z := z) (v := (f : Int)) hzT (by omega) (by omega))
                    have HUS := Lib.hid (unset_set HK3.out (z := z) (v := (f : Int)) hzT (by omega) hz0)
                    have HU1 := Lib.hid (show unset K3 ≤ unset K1 by
                      cases g with
                      | true => have := HG1.out rfl; omega
                      | false => rw [HG2.out rfl]; exact Nat.le_refl _)
                    have HZS := Lib.hid (show Zer L → Zer (K3.set z (f : Int)) by
                      intro hZ
                      rw [HZF.out hZ]
                      exact (HZ3.out hZ).set HK3.out hzT)
                    have ho5 := HO4.out.put (j := z) (by omega) (f : Int)
                    rw [Nat.zero_add] at ho5
                    have HO5 := Lib.hid ho5
                    have HX5 := Lib.hid (HX4.out.setNew (p := ⟨br, z, none⟩) hle (.int .i64 (f : Int)))
                    clear ho5
                    go_wp2
                    go_roundw
                    case rel => exact ⟨true, j + 1, K3.set z (f : Int), rfl, by omega, by go_num, HKS.out, fun _ => by have := HUS.out; have := HU1.out; omega, (fun h => by cases h), HZS.out, HO5.out, HX5.out⟩
                    case measure => simp [intOf]; omega
                  case neg =>
                    by_cases hne : ix K3 z = (f : Int)
                    case pos =>
                      have hnb : (ix K3 z != (f : Int)) = false := by simpa using hne
                      go_wp2
                      go_roundw
                      case rel => exact ⟨g, j + 1, K3, rfl, by omega, by go_num, HK3.out, HG1.out, HG2.out, HZ3.out, HO4.out, HX4.out⟩
                      case measure => simp [intOf]; omega
                    case neg =>
                      have hnb : (ix K3 z != (f : Int)) = true := by simpa using hne
                      have HNZ := Lib.hid (show Zer L → False by
                        intro hZ
                        have h1 := HZF.out hZ
                        have h2 := HZ3.out hZ z (by omega)
                        omega)
                      go_wp2
                      go_ret2
                      exact ⟨_, false, rfl, (fun h => by cases h), (fun h => (HNZ.out h).elim), HX4.out⟩
end Go.Proofs.YthlafeefjonkdaaGreatDoor


namespace Go.Proofs.YthlafeefjonkdaaGreatDoor
set_option linter.unusedVariables false
set_option linter.unusedSimpArgs false

theorem cmpL_cons (a b : Int) (l m : List Int) : cmpL (a :: l) (b :: m) = if cmpI a b = 0 then cmpL l m else cmpI a b := by unfold cmpL; rfl
theorem cmpL_neg : ∀ (l m : List Int), cmpL l m < 0 ↔ l < m
  | [], [] => by unfold cmpL cmpBy; simp
  | [], b :: m => by unfold cmpL cmpBy; simp
  | a :: l, [] => by unfold cmpL cmpBy; simp
  | a :: l, b :: m => by
    have ih := cmpL_neg l m
    rw [List.cons_lt_cons_iff, ← ih, cmpL_cons]
    by_cases h1 : a < b
    · have : cmpI a b = -1 := by unfold cmpI; rw [if_pos h1]
      simp [this, h1]
    · by_cases h2 : b < a
      · have : cmpI a b = 1 := by unfold cmpI; rw [if_neg h1, if_pos h2]
        simp [this, h1, show ¬ a = b by omega]
      · have e : a = b := by omega
        subst e
        have : cmpI a a = 0 := cmpI_zero.2 rfl
        simp [this]
theorem lessB_cmp {l m : List Int} : lessB l m = decide (cmpL l m < 0) := by
  unfold lessB
  by_cases h : l < m
  · rw [decide_eq_true h, decide_eq_true ((cmpL_neg l m).2 h)]
  · rw [decide_eq_false h, decide_eq_false (fun e => h ((cmpL_neg l m).1 e))]
def imgE (t : List (List Int)) (p : List Int) (i j : Nat) : Int := ix p (ent t (indexOf p i).toNat (indexOf p j).toNat).toNat
def imgT (t : List (List Int)) (p : List Int) : List (List Int) := mkT t.length (imgE t p)
theorem indexOf_at {n : Nat} {p : List Int} (hp : IsoOk n [] [] p) {x : Nat} (hx : x < n) : indexOf p (ix p x) = (x : Int) := by
  rcases indexOf_spec p (ix p x) with ⟨_, h⟩ | ⟨i, hi, e, e2, _⟩
  · exact absurd rfl (h x (by have := hp.1; omega))
  · rw [e]
    have := hp.inj (x := i) (y := x) (by have := hp.1; omega) hx e2
    omega
theorem imgE_at {t : List (List Int)} {p : List Int} (hp : IsoOk t.length [] [] p) {x y : Nat} (hx : x < t.length) (hy : y < t.length) : imgE t p (ix p x).toNat (ix p y).toNat = ix p (ent t x y).toNat := by
  unfold imgE
  rw [Int.toNat_of_nonneg (hp.bd hx).1, Int.toNat_of_nonneg (hp.bd hy).1, indexOf_at hp hx, indexOf_at hp hy, Int.toNat_natCast, Int.toNat_natCast]
def lessP (a b : List (List Int) × List (List Int)) : Bool := if cmpT a.1 b.1 = 0 then decide (cmpT a.2 b.2 < 0) else decide (cmpT a.1 b.1 < 0)
def stepP (t u : List (List Int)) (best : List (List Int) × List (List Int)) (p : List Int) : List (List Int) × List (List Int) := if lessP (imgT t p, imgT u p) best then (imgT t p, imgT u p) else best
@[irreducible] noncomputable def leastP (t u : List (List Int)) : List (List Int) × List (List Int) := ((isoL t.length [] []).filter fun p => decide (ix p 0 = 0)).foldl (stepP t u) (t, u)
theorem zero_first {L : List (List Int)} (hs : L.Pairwise LexLt) (h0 : ∀ p, p ∈ L → 0 ≤ ix p 0) : ∀ (pre : List (List Int)) (p : List Int) (rest : List (List Int)), L = pre ++ p :: rest → (∀ q, q ∈ pre → ix q 0 = 0) → ix p 0 ≠ 0 → (L.filter fun p => decide (ix p 0 = 0)) = pre := by
  intro pre p rest hL hp hne
  subst hL
  rw [List.filter_append]
  have h1 : (pre.filter fun p => decide (ix p 0 = 0)) = pre := List.filter_eq_self.2 fun q hq => by simpa using hp q hq
  have h2 : ((p :: rest).filter fun p => decide (ix p 0 = 0)) = [] := by
    rw [List.filter_eq_nil_iff]
    intro q hq
    have hp0 := h0 p (by simp)
    rcases List.mem_cons.1 hq with rfl | hq
    · simpa using hne
    · have hlt := (List.pairwise_cons.1 (List.pairwise_append.1 hs).2.1).1 q hq
      obtain ⟨d, k1, k2⟩ := hlt
      have : ix p 0 ≤ ix q 0 := by
        by_cases e : d = 0
        · subst e; omega
        · have := k1 0 (by omega); omega
      simp; omega
  rw [h1, h2, List.append_nil]
end Go.Proofs.YthlafeefjonkdaaGreatDoor


namespace Go.Proofs.YthlafeefjonkdaaGreatDoor
set_option linter.unusedVariables false
set_option linter.unusedSimpArgs false

def befG (az bz : List (List (List Int))) : Nat → Nat → Bool
  | 0, _ => false
  | d + 1, k => if cmpT (tab az k) (tab bz k) = 0 then befG az bz d (k + 1) else decide (cmpT (tab az k) (tab bz k) < 0)
def befR (az bz : List (List (List Int))) (d k x : Nat) : Bool := if cmpTF (tab az k) (tab bz k) x = 0 then befG az bz d (k + 1) else decide (cmpTF (tab az k) (tab bz k) x < 0)
theorem befG_zero (az bz : List (List (List Int))) (k : Nat) : befG az bz 0 k = false := rfl
theorem befG_row (az bz : List (List (List Int))) (d k : Nat) : befG az bz (d + 1) k = befR az bz d k 0 := by unfold befG befR; rw [cmpTF_zero]
theorem befR_end {az bz : List (List (List Int))} {d k x : Nat} (h : (tab az k).length ≤ x) (h2 : (tab bz k).length ≤ x) : befR az bz d k x = befG az bz d (k + 1) := by unfold befR; rw [if_pos (cmpTF_end h h2)]
theorem befR_same {az bz : List (List (List Int))} {d k x : Nat} (h : x < (tab az k).length) (h2 : x < (tab bz k).length) (e : eqIB (row (tab az k) x) (row (tab bz k) x) = true) : befR az bz d k x = befR az bz d k (x + 1) := by
  unfold befR; rw [cmpTF_eq h h2 (cmpL_zero.2 (eqIB_iff.1 e))]
theorem befR_diff {az bz : List (List (List Int))} {d k x : Nat} (h : x < (tab az k).length) (h2 : x < (tab bz k).length) (e : eqIB (row (tab az k) x) (row (tab bz k) x) = false) : befR az bz d k x = lessB (row (tab az k) x) (row (tab bz k) x) := by
  have hne : cmpL (row (tab az k) x) (row (tab bz k) x) ≠ 0 := fun h0 => by
    rw [eqIB_iff.2 (cmpL_zero.1 h0)] at e; cases e
  unfold befR; rw [cmpTF_ne h h2 hne, if_neg hne, lessB_cmp]
theorem stepP_yes {t u : List (List Int)} {b : List (List Int) × List (List Int)} {p : List Int} (h : lessP (imgT t p, imgT u p) b = true) : stepP t u b p = (imgT t p, imgT u p) := by unfold stepP; rw [if_pos h]
theorem stepP_no {t u : List (List Int)} {b : List (List Int) × List (List Int)} {p : List Int} (h : lessP (imgT t p, imgT u p) b = false) : stepP t u b p = b := by unfold stepP; rw [h]; rfl
end Go.Proofs.YthlafeefjonkdaaGreatDoor


namespace Go.Proofs.YthlafeefjonkdaaGreatDoor
set_option linter.unusedVariables false
set_option linter.unusedSimpArgs false
open Go.RowKit

def XS (w : World) (xs : List Value) (s : List (List Int)) : Prop := xs.length = s.length ∧ ∀ i, i < s.length → ∃ x, xs[i]? = some x ∧ Ints w x (row s i)
theorem XS.nil (w : World) : XS w [] [] := ⟨rfl, fun i hi => by simp at hi⟩
theorem XS.one {w : World} {x : Value} {l : List Int} (h : Ints w x l) : XS w [x] [l] := ⟨rfl, fun i hi => by
  have : i = 0 := by simpa using hi
  subst this
  exact ⟨x, rfl, by rw [row_eq]; exact h⟩⟩
theorem XS.ext {w w' : World} {xs : List Value} {s : List (List Int)} (h : XS w xs s) (hx : Ext w w') : XS w' xs s := ⟨h.1, fun i hi => by
  obtain ⟨x, h1, h2⟩ := h.2 i hi
  exact ⟨x, h1, h2.ext hx⟩⟩
theorem XS.append {w : World} {xs ys : List Value} {s t : List (List Int)} (h : XS w xs s) (k : XS w ys t) : XS w (xs ++ ys) (s ++ t) := by
  refine ⟨by simp [h.1, k.1], fun i hi => ?_⟩
  by_cases hs : i < s.length
  · obtain ⟨x, h1, h2⟩ := h.2 i hs
    refine ⟨x, by rw [List.getElem?_append_left (by rw [h.1]; exact hs)]; exact h1, ?_⟩
    rw [row_eq]
    rw [row_eq] at h2
    simpa [List.getD, List.getElem?_append_left hs] using h2
  · have hl : i - s.length < t.length := by simp at hi; omega
    obtain ⟨x, h1, h2⟩ := k.2 (i - s.length) hl
    refine ⟨x, by rw [List.getElem?_append_right (by rw [h.1]; omega), h.1]; exact h1, ?_⟩
    rw [row_eq]
    rw [row_eq] at h2
    simpa [List.getD, List.getElem?_append_right (Nat.le_of_not_lt hs)] using h2
theorem XS.take {w : World} {xs : List Value} {s : List (List Int)} (h : XS w xs s) (k : Nat) : XS w (xs.take k) (s.take k) := by
  refine ⟨by simp [h.1], fun i hi => ?_⟩
  have hi' : i < k ∧ i < s.length := by rw [List.length_take] at hi; omega
  obtain ⟨x, h1, h2⟩ := h.2 i hi'.2
  refine ⟨x, by rw [List.getElem?_take, if_pos hi'.1]; exact h1, ?_⟩
  rw [row_eq]
  rw [row_eq] at h2
  simpa [List.getD, List.getElem?_take, hi'.1] using h2
theorem XS.drop {w : World} {xs : List Value} {s : List (List Int)} (h : XS w xs s) (k : Nat) : XS w (xs.drop k) (s.drop k) := by
  refine ⟨by simp [h.1], fun i hi => ?_⟩
  have hi' : k + i < s.length := by rw [List.length_drop] at hi; omega
  obtain ⟨x, h1, h2⟩ := h.2 (k + i) hi'
  refine ⟨x, by rw [List.getElem?_drop]; exact h1, ?_⟩
  rw [row_eq]
  rw [row_eq] at h2
  simpa [List.getD, List.getElem?_drop] using h2
theorem XS.cell {w : World} {xs : List Value} {s : List (List Int)} (h : XS w xs s) : ∀ u ∈ xs, u.oneCell' = true := by
  intro u hu
  obtain ⟨i, hi, rfl⟩ := List.mem_iff_getElem.1 hu
  obtain ⟨x, h1, _, b, o, c, rfl, _⟩ := h.2 i (by rw [← h.1]; exact hi)
  rw [List.getElem?_eq_getElem hi] at h1
  have h1 := Option.some.inj h1
  rw [h1]; rfl
def GrowX (e base : Nat) (w : World) (v : Value) (s : List (List Int)) : Prop := ∃ xs, w.ownsRow base e 1 v s.length xs ∧ XS w xs s
theorem GrowX.ext {e base : Nat} {w w' : World} {v : Value} {s : List (List Int)} (h : GrowX e base w v s) (hx : Ext w w') : GrowX e base w' v s := by
  obtain ⟨xs, h1, h2⟩ := h
  exact ⟨xs, ownsRow_ext h1 hx, h2.ext hx⟩
theorem GrowX.lit {e base : Nat} {w : World} (hb : base ≤ w.heap.size) : GrowX e base (w.alloc (.cells #[] e)) (.slice (some ⟨w.heap.size, 0, none⟩) 0 0) [] :=
  ⟨[], World.ownsRow_made w #[] 0 hb (Nat.zero_le _) rfl, XS.nil _⟩
theorem ownsRow_one {e base : Nat} {w : World} {x : Value} (hb : base ≤ w.heap.size) : (w.alloc (.cells #[x] e)).ownsRow base e 1 (.slice (some ⟨w.heap.size, 0, none⟩) 1 1) 1 [x] :=
  ⟨rfl, .inr ⟨w.heap.size, 1, #[x], rfl, hb, heap_alloc_new w _, Nat.le_refl _, by unfold maxLen; omega, rfl, rfl⟩⟩
theorem GrowX.parts {e base : Nat} {w : World} {v : Value} {s : List (List Int)} (h : GrowX e base w v s) (hv : v ≠ .slice none 0 0) :
    ∃ g cap xs, v = .slice (some ⟨g, 0, none⟩) s.length cap ∧ s.length ≤ cap ∧ base ≤ g ∧ g < w.heap.size ∧ XS w xs s ∧ (∀ i x, xs[i]? = some x → w.cell? ⟨g, i, none⟩ = some x) ∧ w.ownsRow base e 1 v s.length xs := by
  obtain ⟨xs, h1, h2⟩ := h
  rcases id h1.2 with ⟨rfl, _⟩ | ⟨g, cap, cur, rfl, hb, hg, hnc, _⟩
  · exact absurd rfl hv
  · refine ⟨g, cap, xs, rfl, hnc, hb, (h1.lt g rfl).2, h2, fun i x hi => ?_, h1⟩
    have := h1.cells (g := g) rfl i x hi
    rwa [Addr.add_lit, Nat.zero_add] at this
theorem GrowX.rows {e base : Nat} {w : World} {v : Value} {s : List (List Int)} (h : GrowX e base w v s) (hv : v ≠ .slice none 0 0) (hl : s.length ≤ 1048576) : Rows w v s := by
  obtain ⟨g, cap, xs, rfl, _, _, _, h2, h3, _⟩ := h.parts hv
  refine ⟨hl, g, 0, cap, rfl, fun i hi => ?_⟩
  obtain ⟨x, k1, k2⟩ := h2.2 i hi
  exact ⟨x, by rw [Nat.zero_add]; exact h3 i x k1, k2⟩

theorem wpList_append_xs {P : Program} {w : World} {ops : Array Oper} {rest : List Oper} {o : Oper} {a : Act} {Q : Exit → Act → World → Prop} (hgd : o.guard = none) (s x : Operand) (t e : TypeId)
    (ho : o.op = .call { callee := .builtin .append, args := #[s, x], argTypes := #[t, t] }) (ht : P.underlying t = some (.slice e)) (hinfo : (P.info? e).map (fun i => (i.zero, i.size, i.bytes)) = some (some (.slice none 0 0), 1, 24))
    (base : Nat) (v : Value) (n : Nat) (xs : List Value) (hs : a.eval s = v) (hown : w.ownsRow base e 1 v n xs) (hv : v ≠ .slice none 0 0) (g q c m : Nat) (ys : List Value) (hm : ys.length = m) (hx : a.eval x = .slice (some ⟨g, q, none⟩) m c)
    (hc : ∀ i x, ys[i]? = some x → w.cell? ⟨g, q + i, none⟩ = some x) (h1 : ∀ u ∈ ys, u.oneCell' = true) (hl : n ≤ 1048576) (hl2 : m ≤ 1048576) (hbase : base ≤ w.heap.size)
    (h : ∀ v' w', w'.ownsRow base e 1 v' (n + m) (xs ++ ys) → w.grownBy w' v.ownBlock → v' ≠ .slice none 0 0 → wpList P ops Q rest (a.put o.dst v') w') : wpList P ops Q (o :: rest) a w := by
  obtain ⟨i0, hi, hz0, hz1, hz2⟩ := info_parts hinfo
  refine wpList_append_own w hgd s x t ho base e i0 (.slice none 0 0) 1 24 ht hi hz0 hz1 hz2 rfl (by decide) v n xs hs hown ⟨g, q, none⟩ m c ys hx (by rw [hm]; simp) ?_ h1 (by unfold maxLen; omega) (by omega) hbase fun v' w' h1 h2 h3 => h v' w' h1 h2 (fun e => hv (h3.1 e).1)
  intro j u hj
  rw [Addr.add_lit]
  exact hc j u hj
theorem step_append_xs {P : Program} {w : World} {ops : Array Oper} {o : Oper} {a : Act} {K : Act → World → Prop} {Q : Exit → Act → World → Prop} {E : Prop} (hgd : o.guard = none) (s x : Operand) (t e : TypeId)
    (ho : o.op = .call { callee := .builtin .append, args := #[s, x], argTypes := #[t, t] }) (ht : P.underlying t = some (.slice e)) (hinfo : (P.info? e).map (fun i => (i.zero, i.size, i.bytes)) = some (some (.slice none 0 0), 1, 24))
    (base : Nat) (v : Value) (n : Nat) (xs : List Value) (hs : a.eval s = v) (hown : w.ownsRow base e 1 v n xs) (hv : v ≠ .slice none 0 0) (g q c m : Nat) (ys : List Value) (hm : ys.length = m) (hx : a.eval x = .slice (some ⟨g, q, none⟩) m c)
    (hc : ∀ i x, ys[i]? = some x → w.cell? ⟨g, q + i, none⟩ = some x) (h1 : ∀ u ∈ ys, u.oneCell' = true) (hl : n ≤ 1048576) (hl2 : m ≤ 1048576) (hbase : base ≤ w.heap.size)
    (h : ∀ v' w', w'.ownsRow base e 1 v' (n + m) (xs ++ ys) → w.grownBy w' v.ownBlock → v' ≠ .slice none 0 0 → K (a.put o.dst v') w') : if Region.wanted o (yielded ops a.tmps) = true then Oper.wp P o a w K Q else E := by
  obtain ⟨i0, hi, hz0, hz1, hz2⟩ := info_parts hinfo
  have hw : Region.wanted o (yielded ops a.tmps) = true := by simp [Region.wanted, hgd]
  rw [if_pos hw]
  refine wp_append_own w s x t ho base e i0 (.slice none 0 0) 1 24 ht hi hz0 hz1 hz2 rfl (by decide) v n xs hs hown ⟨g, q, none⟩ m c ys hx (by rw [hm]; simp) ?_ h1 (by unfold maxLen; omega) (by omega) hbase fun v' w' h1 h2 h3 => h v' w' h1 h2 (fun e => hv (h3.1 e).1)
  intro j u hj
  rw [Addr.add_lit]
  exact hc j u hj
end Go.Proofs.YthlafeefjonkdaaGreatDoor
