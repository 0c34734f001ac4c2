/-
  Contracts of slices.Reverse, nextPermutation.
-/
import Derived.Test.YthlafeefjonkdaaGreatDoorJx35
namespace Go.Proofs.YthlafeefjonkdaaGreatDoor
set_option linter.unusedVariables false
set_option linter.unusedSimpArgs false
open Go.RowKit
attribute [local go_sem ↓] Go.wp_at_zero Go.wp_at_succ
open Go.Deep

set_option maxRecDepth 100000 in
set_option maxHeartbeats 2000000 in
theorem reverse_any (n i : Nat) (c : Nat → Int) (b T cap : Nat) (w : World) (hr : w.rowIs b T n (fun x => .int .i64 (c x))) (hi : i + 1 ≤ n) (h12 : n ≤ 12) :
    Calls Tryz.prog 112 #[.slice (some ⟨b, i + 1, none⟩) (n - (i + 1)) cap] w fun e w' => (∃ v, e = .returned v) ∧ w'.rowIs b T n (fun x => .int .i64 (turnC c i n x)) ∧ Only (fun k => k = b) w w' := by
  go_enter Tryz.func112, Tryz.ntmps112
  go_wp2_with fail
  go_loopw [2, 3] (fun x y wr => ∃ r : Nat, i + 1 + r ≤ n ∧ x = .int .i64 r ∧ y = .int .i64 ((n : Int) - (i + 1) - 1 - r) ∧ wr.rowIs b T n (fun x => .int .i64 (turnTo c i n r x)) ∧ Only (fun k => k = b) w wr) (fun x _ _ => n - (intOf x).toNat)
  case atStart => exact ⟨0, by omega, rfl, by go_num, hr.congr (fun x _ => by rw [turnTo_zero]), Only.refl _ _⟩
  case round =>
    clear hr
    obtain ⟨r, hr, rfl, rfl, hrow, ho⟩ := hrel
    by_cases hlt : i + 1 + r < n - 1 - r
    · have e1 := hrow.cell (i := i + 1 + r) (by omega)
      have e2 := hrow.cell (i := n - 1 - r) (by omega)
      rw [turnTo_left _ _ _ _ hlt] at e1
      rw [turnTo_right _ _ _ _ hlt] at e2
      have f1 := hrow.frozen (i + 1 + r)
      have f2 := hrow.frozen (n - 1 - r)
      have hsn := turnTo_succ c i n r
      have hj : n - 1 - r = i + 1 + (n - (i + 1) - 1 - r) := by omega
      rw [hj] at e2 f2
      have hi1 : (r : Int) < (n : Int) - (i + 1) - 1 - r := by omega
      have HR := Lib.hid hrow
      have HO := Lib.hid ho
      have HJ := Lib.hid hj
      have HSN := Lib.hid (fun x => hsn x hlt)
      clear hrow ho hj hsn hr
      go_wp2_with fail
      go_region
      all_goals
        go_wp2_with fail
        go_roundw
        case rel => exact ⟨r + 1, by omega, by go_num, by go_num, (((HR.out.set (i + 1 + r) _).set (i + 1 + (n - (i + 1) - 1 - r)) _).congr (fun x hx => by
          have h := HSN.out x
          rw [HJ.out] at h
          rw [h]
          by_cases e1 : x = i + 1 + (n - (i + 1) - 1 - r)
          · rw [if_pos e1, if_pos e1]
          · rw [if_neg e1, if_neg e1]
            by_cases e2 : x = i + 1 + r
            · rw [if_pos e2, if_pos e2]
            · rw [if_neg e2, if_neg e2])).drew, ((HO.out.trans (only_set (p := fun k => k = b) rfl _)).trans (only_set (p := fun k => k = b) rfl _)).trans (only_drew _ _)⟩
        case measure => simp [intOf]; omega
    · go_wp2
      go_end0
      exact ⟨⟨_, rfl⟩, hrow.congr (fun x hx => by rw [turnTo_done _ _ _ _ _ hlt hr hx]), ho⟩

theorem falls_more {p : List Int} {i : Nat} (h : Falls p (i + 1)) (h2 : ix p (i + 1) < ix p i) : Falls p i := fun j hj hl => by
  by_cases e : j = i
  · subst e; exact h2
  · exact h j (by omega) hl
theorem falls_end {p : List Int} {n : Nat} (hl : p.length = n) : Falls p (n - 1) := fun j hj h => by omega
def NextPost (n : Nat) (p : List Int) (b T : Nat) (w : World) (e : Ending) (w' : World) : Prop :=
  Only (fun k => k = b) w w' ∧ ((e = .returned (.bool false) ∧ Falls p 0) ∨ (∃ q i, e = .returned (.bool true) ∧ IsoOk n [] [] q ∧ NextP n p q i ∧ w'.rowIs b T n (fun x => .int .i64 (ix q x))))

set_option maxRecDepth 100000 in
set_option maxHeartbeats 4000000 in
theorem nextPermutation_any (n b T : Nat) (p : List Int) (w : World) (hr : w.rowIs b T n (fun x => .int .i64 (ix p x))) (hp : IsoOk n [] [] p) (h1 : 1 ≤ n) (h12 : n ≤ 12) :
    Calls Tryz.prog 83 #[.slice (some ⟨b, 0, none⟩) n n] w (NextPost n p b T w) := by
  have HP := Lib.hid hp
  have HPL := Lib.hid hp.1
  clear hp
  go_enter Tryz.func83, Tryz.ntmps83
  go_wp2_with fail
  go_loopw [3] (fun x wr => ∃ k : Nat, k + 1 ≤ n ∧ x = .int .i64 ((k : Int) - 1) ∧ Falls p k ∧ Drawn w wr) (fun x _ => (intOf x + 1).toNat)
  case atStart => exact ⟨n - 1, by omega, by go_num, falls_end HPL.out, Drawn.refl _⟩
  case round =>
    obtain ⟨k, hk, rfl, hF, hd⟩ := hrel
    have HF := Lib.hid hF
    have HD := Lib.hid hd
    clear hF hd
    by_cases hk0 : k = 0
    case pos =>
      subst hk0
      go_wp2_with fail
      go_quiet (fail)
      go_wp2_with fail
      go_ret
      exact ⟨Only.ext (HD.out.ext.trans ((Ext.refl _).drewN _)), .inl ⟨rfl, HF.out⟩⟩
    case neg =>
      obtain ⟨i, rfl⟩ : ∃ i, k = i + 1 := ⟨k - 1, by omega⟩
      have hrw := hr.of_block (HD.out.ext.block b hr.lt)
      have e1 := hrw.cell (i := i) (by omega)
      have e2 := hrw.cell (i := i + 1) (by omega)
      cases hgt : decide (ix p i > ix p (i + 1)) with
      | true =>
        have HF2 := Lib.hid (falls_more HF.out (by simpa using hgt))
        go_wp2_with fail
        go_quiet (fail)
        go_wp2_with fail
        go_roundw
        case rel => exact ⟨i, by omega, by go_num, HF2.out, HD.out.trans ((Drawn.refl _).drewN _)⟩
        case measure => simp [intOf] <;> omega
      | false =>
        have hne : ix p i ≠ ix p (i + 1) := fun e => by have := HP.out.inj (x := i) (y := i + 1) (by omega) (by omega) e; omega
        have hup : ix p i < ix p (i + 1) := by
          have : ¬ ix p (i + 1) < ix p i := by simpa using hgt
          omega
        have HF2 := Lib.hid HF.out
        clear hne hrw
        go_wp2_with fail
        go_quiet (fail)
        go_wp2_with fail
        go_loopw [4] (fun x wr => ∃ k : Nat, i < k ∧ k < n ∧ x = .int .i64 k ∧ (∀ j, k < j → j < n → ix p j < ix p i) ∧ Drawn w wr) (fun x _ => (intOf x).toNat)
        case atStart => exact ⟨n - 1, by omega, by omega, by go_num, fun j h1 h2 => by omega, HD.out.trans ((Drawn.refl _).drewN _)⟩
        case round =>
          clear e1 e2 HD
          obtain ⟨k, hik, hkn, rfl, hlow, hd⟩ := hrel
          have HD := Lib.hid hd
          have HL := Lib.hid hlow
          clear hd hlow
          have hrw := hr.of_block (HD.out.ext.block b hr.lt)
          have e1 := hrw.cell (i := k) hkn
          have e2 := hrw.cell (i := i) (by omega)
          cases hlt : decide (ix p k < ix p i) with
          | true =>
            have hlt' : ix p k < ix p i := by simpa using hlt
            have hki : i + 1 < k := by
              apply Classical.byContradiction
              intro h
              have : k = i + 1 := by omega
              subst this; omega
            clear hlt hrw
            go_wp2_with fail
            go_quiet (fail)
            go_wp2_with fail
            go_roundw
            case rel => exact ⟨k - 1, by omega, by omega, by go_num, fun j h1 h2 => by
              by_cases e : j = k
              · subst e; exact hlt'
              · exact HL.out j (by omega) h2, HD.out.trans ((Drawn.refl _).drewN _)⟩
            case measure => simp [intOf] <;> omega
          | false =>
            have hge : ix p i < ix p k := by
              have h1 : ¬ ix p k < ix p i := by simpa using hlt
              have h2 : ix p k ≠ ix p i := fun e => by have := HP.out.inj (x := k) (y := i) (by omega) (by omega) e; omega
              omega
            have hnl : ¬ ix p k < ix p i := by omega
            have HN := Lib.hid (nextC_next HP.out (i := i) (k := k) (by omega) hkn hik HF2.out hge HL.out)
            have HNP := Lib.hid (nextC_perm HP.out (i := i) (k := k) (by omega) hkn hik)
            have f1 := hrw.frozen k
            have f2 := hrw.frozen i
            have HRW := Lib.hid hrw
            clear hlt hrw
            go_wp2_with fail
            go_quiet (fail)
            go_wp2_with fail
            go_region
            all_goals
              go_wp2_with fail
              refine Calls.mono (reverse_any n i (swapC (ix p) i k) b T _ _ ?_ (by omega) h12) ?_
              · refine World.rowIs.congr (((HRW.out.of_block (show (wr.drewN _).heap[b]? = wr.heap[b]? from rfl)).set i _).set k _) (fun x hx => ?_)
                unfold swapC
                by_cases e1 : x = k
                · rw [if_pos e1, if_neg (by omega), if_pos e1]
                · rw [if_neg e1]
                  by_cases e2 : x = i
                  · rw [if_pos e2, if_pos e2]
                  · rw [if_neg e2, if_neg e2, if_neg e1]
              · rintro e w6 ⟨⟨rv, rfl⟩, hr6, ho6⟩
                have HR6 := Lib.hid (show w6.rowIs b T n (fun x => .int .i64 (ix (listC (nextC (ix p) i k n) n) x)) from hr6.congr (fun x hx => by rw [ix_listC _ _ _ hx]; rfl))
                have HO6 := Lib.hid ho6
                clear hr6 ho6
                go_wp2_with fail
                go_ret
                exact ⟨(((Only.ext (HD.out.ext.trans ((Ext.refl _).drewN _))).trans (only_set (p := fun k => k = b) rfl _)).trans (only_set (p := fun k => k = b) rfl _)).trans HO6.out, .inr ⟨_, i, rfl, HNP.out, HN.out, HR6.out⟩⟩
end Go.Proofs.YthlafeefjonkdaaGreatDoor


namespace Go.Proofs.YthlafeefjonkdaaGreatDoor
set_option linter.unusedVariables false
set_option linter.unusedSimpArgs false
open Go.RowKit
attribute [local go_sem ↓] Go.wp_at_zero Go.wp_at_succ
open Go.Deep

@[irreducible] def invTo (p : List Int) (k y : Nat) : Int := if 0 ≤ indexOf p y ∧ indexOf p y < (k : Int) then indexOf p y else 0
def invL (p : List Int) (n : Nat) : List Int := listC (fun y => indexOf p y) n
theorem invTo_zero (p : List Int) (y : Nat) : invTo p 0 y = 0 := by unfold invTo; rw [if_neg (by omega)]
theorem invTo_succ {n : Nat} {p : List Int} (hp : IsoOk n [] [] p) {k z : Nat} (hk : k < n) (hz : ix p k = (z : Int)) (y : Nat) : invTo p (k + 1) y = if y = z then (k : Int) else invTo p k y := by
  unfold invTo
  by_cases h : y = z
  · subst h
    have := indexOf_at hp hk
    rw [hz] at this
    rw [if_pos rfl, this, if_pos (by omega)]
  · rw [if_neg h]
    have hne : indexOf p y ≠ (k : Int) := fun e => by
      rcases indexOf_spec p y with ⟨e2, _⟩ | ⟨i, hi, e2, e3, _⟩
      · omega
      · have : i = k := by omega
        subst this
        omega
    by_cases h2 : 0 ≤ indexOf p y ∧ indexOf p y < (k : Int)
    · rw [if_pos h2, if_pos (by omega)]
    · rw [if_neg h2, if_neg (by omega)]
theorem invTo_all {n : Nat} {p : List Int} (hp : IsoOk n [] [] p) {y : Nat} (hy : y < n) : invTo p n y = indexOf p y := by
  unfold invTo
  obtain ⟨x, hx, e⟩ := hp.surj hy
  have := indexOf_at hp hx
  rw [e] at this
  rw [this, if_pos (by omega)]
theorem inv_bd {n : Nat} {p : List Int} (hp : IsoOk n [] [] p) {y : Nat} (hy : y < n) : ∃ x : Nat, x < n ∧ indexOf p y = (x : Int) := by
  obtain ⟨x, hx, e⟩ := hp.surj hy
  have := indexOf_at hp hx
  rw [e] at this
  exact ⟨x, hx, this⟩

set_option maxRecDepth 100000 in
theorem inverse_any (n : Nat) (p : List Int) (v : Value) (w : World) (hv : Ints w v p) (hp : IsoOk n [] [] p) (h12 : n ≤ 12) :
    Calls Tryz.prog 84 #[v] w fun e w' => ∃ b c, e = .returned (.slice (some ⟨b, 0, none⟩) n c) ∧ OwnI w.heap.size w'.heap.size w' b 0 (invL p n) ∧ Ext w w' := by
  obtain ⟨-, b, o, c, rfl, hc⟩ := id hv
  have HP := Lib.hid hp
  have HPL := Lib.hid hp.1
  rw [hp.1]
  clear hp hv
  have hmk := run_make_row' (P := Tryz.prog) 29 2 (.int .i64 0) 8 Tryz.underlying29 infoInt rfl .i64 .i64 n (by omega) (by omega)
  go_enter Tryz.func84, Tryz.ntmps84
  go_wp2_with fail
  clear hmk
  have hx0 : Ext w (w.alloc (.cells (madeCells #[Value.int .i64 0] n) 2)) := (Ext.refl _).alloc _
  have hr0 := World.rowIs_made w (.int .i64 0) n 2
  go_loopw [11] (fun i wr => ∃ k : Nat, k ≤ n ∧ i = .int .i64 k ∧ wr.rowIs w.heap.size 2 n (fun i => .int .i64 (invTo p k i)) ∧ Ext w wr) (fun i _ => n - (intOf i).toNat)
  case atStart => exact ⟨0, Nat.zero_le _, rfl, hr0.congr (fun i hi => by rw [invTo_zero]), hx0⟩
  case round =>
    clear hx0 hr0
    obtain ⟨k, hk, rfl, hrow, hx⟩ := hrel
    by_cases hlt : k < n
    · have hb := HP.out.bd hlt
      obtain ⟨z, hz⟩ : ∃ z : Nat, ix p k = (z : Int) := ⟨_, (Int.toNat_of_nonneg hb.1).symm⟩
      have hzn : z < n := by omega
      have e1 := (hc.ext hx) k (by rw [HPL.out]; exact hlt)
      rw [hz] at e1
      have e2 := hrow.cell hzn
      have e3 := hrow.frozen z
      have HS := Lib.hid (fun y => invTo_succ HP.out hlt hz y)
      clear hb hz
      go_wp2_with fail
      go_roundw
      case rel => exact ⟨k + 1, by omega, by go_num, (hrow.set z _).congr (fun i hi => by rw [HS.out i]; split <;> rfl), hx.setNew (Nat.le_refl _) _⟩
      case measure => simp [intOf]; omega
    · have hkk : k = n := by omega
      subst hkk
      go_wp2_with fail
      go_ret
      exact ⟨w.heap.size, k, rfl, ownI_of_row hrow (by unfold invL; rw [length_listC]; exact Nat.le_refl _) (fun i hi => by unfold invL at hi ⊢; rw [length_listC] at hi; rw [ix_listC _ _ _ hi, invTo_all HP.out hi]) (Nat.le_refl _) hrow.lt, hx⟩

set_option maxRecDepth 100000 in
theorem renamed1_any (t : List (List Int)) (p : List Int) (v u : Value) (b3 c3 : Nat) (i j A B C : Nat) (w : World) (hA : w.cell? ⟨A, 0, none⟩ = some u) (hB : w.cell? ⟨B, 0, none⟩ = some v) (hC : w.cell? ⟨C, 0, none⟩ = some (.slice (some ⟨b3, 0, none⟩) t.length c3)) (hv : Rows w v t) (hu : Ints w u p) (hi : IntsAt w b3 0 (invL p t.length)) (hT : TableOk t) (hp : IsoOk t.length [] [] p) (hx : i < t.length) (hj : j < t.length) :
    Calls Tryz.prog 86 #[.int .i64 i, .int .i64 j, .pointer (some ⟨A, 0, none⟩), .pointer (some ⟨B, 0, none⟩), .pointer (some ⟨C, 0, none⟩)] w fun e w' => e = .returned (.int .i64 (imgE t p i j)) ∧ Ext w w' := by
  obtain ⟨hlen, b, o, c, rfl, hc⟩ := id hv
  obtain ⟨hlen2, b2, o2, c2, rfl, hc2⟩ := id hu
  have h12 := hT.2.1
  obtain ⟨x, hxn, ex⟩ := inv_bd hp hx
  obtain ⟨y, hyn, ey⟩ := inv_bd hp hj
  have i1 := hi i (by unfold invL; rw [length_listC]; exact hx)
  have i2 := hi j (by unfold invL; rw [length_listC]; exact hj)
  unfold invL at i1 i2
  rw [ix_listC _ _ _ hx, ex, Nat.zero_add] at i1
  rw [ix_listC _ _ _ hj, ey, Nat.zero_add] at i2
  obtain ⟨d1, s1, m1, r1, l1⟩ := hc.read hT rfl hxn
  obtain ⟨f1, p1, p2⟩ := l1 y hyn
  obtain ⟨z, hz⟩ : ∃ z : Nat, ent t x y = (z : Int) := ⟨_, (Int.toNat_of_nonneg p1).symm⟩
  have hzn : z < t.length := by omega
  have i3 := hc2 z (by rw [hp.1]; exact hzn)
  have HE := Lib.hid (show imgE t p i j = ix p z by unfold imgE; rw [ex, ey, Int.toNat_natCast, Int.toNat_natCast, hz, Int.toNat_natCast])
  rw [hz] at f1
  rw [hp.1] at hA
  clear l1 hp ex ey hi hv hu
  go_enter Tryz.func86, Tryz.ntmps86
  go_wp2
  go_quiet (fail)
  go_wp2
  go_ret
  exact ⟨by rw [HE.out]; rfl, (Ext.refl _).drewN _⟩

theorem callRenamed1 (args : Array Value) (w : World) : (callFunc 86 args).run Tryz.prog w = .ok (.enter 86 args) w :=
  callFunc_enter Tryz.func86 (by kernel_rfl) rfl args w

set_option maxRecDepth 100000 in
set_option maxHeartbeats 1000000 in
theorem renamed_any (t : List (List Int)) (p : List Int) (v u : Value) (w : World) (hv : Rows w v t) (hu : Ints w u p) (hT : TableOk t) (hp : IsoOk t.length [] [] p) :
    Calls Tryz.prog 53 #[v, u] w (NewT (imgT t p) w) := by
  obtain ⟨hlen, b, o, c, rfl, hc⟩ := id hv
  obtain ⟨hlen2, b2, o2, c2, rfl, hc2⟩ := id hu
  have h12 := hT.2.1
  have HT := Lib.hid hT
  have HP := Lib.hid hp
  have hX := ext_box2 w (.slice (some ⟨b, o, none⟩) t.length c) (.slice (some ⟨b2, o2, none⟩) p.length c2) 24 29
  have HI := Lib.hid (inverse_any t.length p _ _ (hu.ext hX) hp h12)
  have HX := Lib.hid hX
  clear hc hc2 hT hp hX
  go_enter Tryz.func53, Tryz.ntmps53
  go_wp2_with fail
  refine HI.out.mono ?_
  rintro e w1 ⟨b3, c3, rfl, hi3, hx1⟩
  have k0 := hx1.cell (p := ⟨w.heap.size, 0, none⟩) (v := .slice (some ⟨b, o, none⟩) t.length c) (by simp [go_sem])
  have k1 := hx1.cell (p := ⟨w.heap.size + 1, 0, none⟩) (v := .slice (some ⟨b2, o2, none⟩) p.length c2) (by simp [go_sem])
  have hX1 := HX.out.trans hx1
  have HI3 := Lib.hid hi3.2.2.1
  clear hx1 hi3 HI
  have z1 := hX1.size
  have hxB := ext_box w1 (.slice (some ⟨b3, 0, none⟩) t.length c3) 29
  have bB := cell_new w1 (.slice (some ⟨b3, 0, none⟩) t.length c3) 29
  replace k0 := hxB.cell k0
  replace k1 := hxB.cell k1
  have HXB := Lib.hid hxB
  have HV := Lib.hid hv
  have HU := Lib.hid hu
  have HX1 := Lib.hid hX1
  clear hxB hv hu hX1
  go_wp2_with fail
  refine (tableBy_any t.length (imgE t p) 86 #[.pointer (some ⟨w.heap.size + 1, 0, none⟩), .pointer (some ⟨w.heap.size, 0, none⟩), .pointer (some ⟨w1.heap.size, 0, none⟩)] _ (by omega) callRenamed1 (fun w3 x y h3 hx hy' => by
    rw [app23]
    have hX3 := HX1.out.trans (HXB.out.trans h3)
    exact renamed1_any t p _ _ b3 c3 x y (w.heap.size + 1) w.heap.size w1.heap.size w3 (h3.cell k1) (h3.cell k0) (h3.cell bB) (HV.out.ext hX3) (HU.out.ext hX3) (HI3.out.ext (HXB.out.trans h3)) HT.out HP.out hx hy')).mono ?_
  rintro e w2 ⟨b4, c4, rfl, ho, hx2⟩
  go_wp2
  go_ret
  exact ⟨b4, c4, rfl, ho.mono (by simp; omega) (Nat.le_refl _), HX1.out.trans (HXB.out.trans hx2)⟩

theorem ints_lit2 {w : World} {B : Nat} {x y : Int} (hc : w.cell? ⟨B, 0, none⟩ = some (.int .i64 x)) (hd : w.cell? ⟨B, 1, none⟩ = some (.int .i64 y)) : Ints w (.slice (some ⟨B, 0, none⟩) 2 2) [x, y] :=
  ⟨by simp, B, 0, 2, rfl, fun k hk => by
    have : k = 0 ∨ k = 1 := by have := hk; simp at this; omega
    rcases this with rfl | rfl
    · rw [ix_eq]; exact hc
    · rw [ix_eq]; exact hd⟩
def orL : List Int → Int
  | [] => 0
  | x :: l => if x ≠ 0 then x else orL l
theorem orL_at {l : List Int} {k : Nat} (h : k < l.length) : orL (l.drop k) = if ix l k ≠ 0 then ix l k else orL (l.drop (k + 1)) := by
  rw [List.drop_eq_getElem_cons h]
  have : ix l k = l[k] := by rw [ix_eq]; simp [List.getD, h]
  rw [this]; rfl
theorem cmpOr_any (l : List Int) (v : Value) (w : World) (hv : Ints w v l) :
    Calls Tryz.prog 87 #[v] w fun e w' => e = .returned (.int .i64 (orL l)) ∧ w = w' := by
  obtain ⟨hlen, b, o, c, rfl, hc⟩ := hv
  go_enter Tryz.func87, Tryz.ntmps87
  go_wp2
  go_loop [8] (fun i => ∃ k : Nat, k ≤ l.length ∧ i = .int .i64 k ∧ orL l = orL (l.drop k)) (fun i => l.length - (intOf i).toNat)
  case atStart => exact ⟨0, Nat.zero_le _, rfl, by rw [List.drop_zero]⟩
  case round =>
    obtain ⟨k, hk, rfl, hr⟩ := hrel
    have HR := Lib.hid hr
    clear hr
    by_cases hlt : k < l.length
    · have e1 := hc k hlt
      have HA := Lib.hid (orL_at hlt)
      cases hz : (ix l k != 0) with
      | true =>
        go_wp2
        go_ret
        exact ⟨ret_int (by rw [HR.out, HA.out, if_pos (by simpa using hz)]), rfl⟩
      | false =>
        go_wp2
        go_round
        case rel => exact ⟨k + 1, by omega, by go_num, by rw [HR.out, HA.out, if_neg (by simpa using hz)]⟩
        case measure => simp [intOf]; omega
    · go_wp2
      go_ret
      exact ⟨ret_int (by rw [HR.out, List.drop_eq_nil_of_le (by omega)]; rfl), rfl⟩
def cmpP (a b : List (List Int) × List (List Int)) : Int := if cmpT a.1 b.1 = 0 then cmpT a.2 b.2 else cmpT a.1 b.1
theorem cmpP_lt (a b : List (List Int) × List (List Int)) : decide (cmpP a b < 0) = lessP a b := by
  unfold cmpP lessP
  by_cases h : cmpT a.1 b.1 = 0
  · rw [if_pos h, if_pos h]
  · rw [if_neg h, if_neg h]
theorem cmpP_or (a b : List (List Int) × List (List Int)) : orL [cmpT a.1 b.1, cmpT a.2 b.2] = cmpP a b := by
  unfold orL orL orL cmpP
  by_cases h : cmpT a.1 b.1 = 0
  · rw [if_neg (by simpa using h), if_pos h]
    by_cases h2 : cmpT a.2 b.2 = 0
    · rw [if_neg (by simpa using h2), h2]
    · rw [if_pos h2]
  · rw [if_pos h, if_neg h]

set_option maxRecDepth 100000 in
set_option maxHeartbeats 2000000 in
theorem compareBraces_any (t u t2 u2 : List (List Int)) (v y v2 y2 : Value) (w : World) (hv : Rows w v t) (hy : Rows w y u) (hv2 : Rows w v2 t2) (hy2 : Rows w y2 u2) :
    Calls Tryz.prog 54 #[.agg #[v, y], .agg #[v2, y2]] w fun e w' => e = .returned (.int .i64 (cmpP (t, u) (t2, u2))) ∧ Ext w w' := by
  obtain ⟨hlen, b, o, c, rfl, -⟩ := id hv
  obtain ⟨hlen2, b2, o2, c2, rfl, -⟩ := id hy
  obtain ⟨hlen3, b3, o3, c3, rfl, -⟩ := id hv2
  obtain ⟨hlen4, b4, o4, c4, rfl, -⟩ := id hy2
  have HO := Lib.hid (cmpP_or (t, u) (t2, u2))
  have HV := Lib.hid hv
  have HY := Lib.hid hy
  have HV2 := Lib.hid hv2
  have HY2 := Lib.hid hy2
  clear hv hy hv2 hy2
  go_enter Tryz.func54, Tryz.ntmps54
  go_wp2_with fail
  go_region_held3 (fun w' => w'.cell? ⟨w.heap.size, 0, none⟩ = some (.slice (some ⟨b, o, none⟩) t.length c) ∧ w'.cell? ⟨w.heap.size, 1, none⟩ = some (.slice (some ⟨b2, o2, none⟩) u.length c2) ∧ w'.cell? ⟨w.heap.size + 1, 0, none⟩ = some (.slice (some ⟨b3, o3, none⟩) t2.length c3) ∧ w'.cell? ⟨w.heap.size + 1, 1, none⟩ = some (.slice (some ⟨b4, o4, none⟩) u2.length c4))
    ((refine ⟨?_, ?_, ?_, ?_⟩ <;> first | (repeat first | (with_reducible assumption) |  (with_reducible exact kc_new) | ((with_reducible refine kc_newE ?_); (simp; done)) | ((with_reducible refine kc_newEa ?_); (simp; done)) | ((with_reducible refine kc_newEb ?_); (simp; done)) | (with_reducible apply kc_alloc) | (with_reducible apply kc_drewN) | (with_reducible apply kc_drew) | ((with_reducible refine kc_set ?_ ?_); (first | (simp only []; omega) | (simp; omega) | (focus (simp; done)))) | ((with_reducible refine kc_set2 ?_ ?_); (focus (simp; done))) | (with_reducible refine kc_same (v := .slice none 0 0) ?_)) | (simp [go_sem]; done)))
    (first
      | (go_at_call 88; refine (compareTables_any t t2 _ _ _ (HV.out.ext (by (repeat first | (with_reducible exact Ext.refl _) | (with_reducible assumption) | (with_reducible apply Ext.drew) | (with_reducible apply kx_drewN) | (with_reducible apply kx_alloc) | ((with_reducible refine kx_set ?_ ?_); (first | (simp only []; omega) | (simp; omega) | (focus (simp; done)))) ))) (HV2.out.ext (by (repeat first | (with_reducible exact Ext.refl _) | (with_reducible assumption) | (with_reducible apply Ext.drew) | (with_reducible apply kx_drewN) | (with_reducible apply kx_alloc) | ((with_reducible refine kx_set ?_ ?_); (first | (simp only []; omega) | (simp; omega) | (focus (simp; done)))) )))).mono ?_; rintro e w' ⟨rfl, rfl⟩)
      | (go_at_call 88; refine (compareTables_any u u2 _ _ _ (HY.out.ext (by (repeat first | (with_reducible exact Ext.refl _) | (with_reducible assumption) | (with_reducible apply Ext.drew) | (with_reducible apply kx_drewN) | (with_reducible apply kx_alloc) | ((with_reducible refine kx_set ?_ ?_); (first | (simp only []; omega) | (simp; omega) | (focus (simp; done)))) ))) (HY2.out.ext (by (repeat first | (with_reducible exact Ext.refl _) | (with_reducible assumption) | (with_reducible apply Ext.drew) | (with_reducible apply kx_drewN) | (with_reducible apply kx_alloc) | ((with_reducible refine kx_set ?_ ?_); (first | (simp only []; omega) | (simp; omega) | (focus (simp; done)))) )))).mono ?_; rintro e w' ⟨rfl, rfl⟩)
      | (go_at_call 87; refine (cmpOr_any [cmpT t t2, cmpT u u2] _ _ (ints_lit2 (by first | (repeat first | (with_reducible assumption) |  (with_reducible exact kc_new) | ((with_reducible refine kc_newE ?_); (simp; done)) | ((with_reducible refine kc_newEa ?_); (simp; done)) | ((with_reducible refine kc_newEb ?_); (simp; done)) | (with_reducible apply kc_alloc) | (with_reducible apply kc_drewN) | (with_reducible apply kc_drew) | ((with_reducible refine kc_set ?_ ?_); (first | (simp only []; omega) | (simp; omega) | (focus (simp; done)))) | ((with_reducible refine kc_set2 ?_ ?_); (focus (simp; done))) | (with_reducible refine kc_same (v := .slice none 0 0) ?_)) | (simp [go_sem]; done)) (by first | (repeat first | (with_reducible assumption) |  (with_reducible exact kc_new) | ((with_reducible refine kc_newE ?_); (simp; done)) | ((with_reducible refine kc_newEa ?_); (simp; done)) | ((with_reducible refine kc_newEb ?_); (simp; done)) | (with_reducible apply kc_alloc) | (with_reducible apply kc_drewN) | (with_reducible apply kc_drew) | ((with_reducible refine kc_set ?_ ?_); (first | (simp only []; omega) | (simp; omega) | (focus (simp; done)))) | ((with_reducible refine kc_set2 ?_ ?_); (focus (simp; done))) | (with_reducible refine kc_same (v := .slice none 0 0) ?_)) | (simp [go_sem]; done)))).mono ?_; rintro e w' ⟨rfl, rfl⟩))
  all_goals
    go_wp2
    go_ret
    exact ⟨by rw [HO.out]; rfl, by (repeat first | (with_reducible exact Ext.refl _) | (with_reducible assumption) | (with_reducible apply Ext.drew) | (with_reducible apply kx_drewN) | (with_reducible apply kx_alloc) | ((with_reducible refine kx_set ?_ ?_); (first | (simp only []; omega) | (simp; omega) | (focus (simp; done)))) )⟩
end Go.Proofs.YthlafeefjonkdaaGreatDoor
