/-
  Contract of the reference's l02Empty: two tables of zeros in new memory, all rows apart.
-/
import Derived.Deep.CutBlock
import Derived.Test.YtjfjpngajboidaaGreatKx16
import Derived.Test.YtjfjpngajboidaaGreatKx18
namespace Go.Proofs.YtjfjpngajboidaaGreat
set_option linter.unusedVariables false
set_option linter.unusedSimpArgs false
open Go.RowKit
open Go.Deep

def RetTwo (n : Nat) (w : World) (e : Ending) (w' : World) : Prop := ∃ bA cA bB cB B D, e = .returned (.agg #[.slice (some ⟨bA, 0, none⟩) n cA, .slice (some ⟨bB, 0, none⟩) n cB]) ∧ TwoG 27 2 (w.heap.size + 2) n n n w' (.slice (some ⟨bA, 0, none⟩) n cA) (.slice (some ⟨bB, 0, none⟩) n cB) B D ∧ Ext w w'

set_option maxRecDepth 100000 in
set_option maxHeartbeats 4000000 in
theorem l02Empty_any (n : Nat) (w : World) (h1 : 1 ≤ n) (h12 : n ≤ 12) :
    Calls Tryz.prog 78 #[.int .i64 n] w (RetTwo n w) := by
  have hmk := run_make_row' (P := Tryz.prog) 27 2 (.int .i64 0) 8 Tryz.underlying27 infoInt rfl .i64 .i64 n (by omega) (by omega)
  have hx0 : Ext w ((w.alloc (.cells #[.slice none 0 0, .slice none 0 0] 26)).alloc (.cells #[.slice none 0 0, .slice none 0 0] 26)) := ((Ext.refl _).alloc _).alloc _
  have hR0 := (BoxV.new w (.slice none 0 0) (.slice none 0 0) 26).ext ((Ext.refl _).alloc (.cells #[.slice none 0 0, .slice none 0 0] 26))
  have hB0 : BoxV (w.heap.size + 1) ((w.alloc (.cells #[.slice none 0 0, .slice none 0 0] 26)).alloc (.cells #[.slice none 0 0, .slice none 0 0] 26)) (.slice none 0 0) (.slice none 0 0) := by
    have h := BoxV.new (w.alloc (.cells #[.slice none 0 0, .slice none 0 0] 26)) (.slice none 0 0) (.slice none 0 0) 26
    simpa using h
  have hz0 : w.heap.size + 2 ≤ ((w.alloc (.cells #[.slice none 0 0, .slice none 0 0] 26)).alloc (.cells #[.slice none 0 0, .slice none 0 0] 26)).heap.size := by simp
  have HX0 := Lib.hid hx0
  have HR0 := Lib.hid hR0
  have HB0 := Lib.hid hB0
  clear hx0 hR0 hB0
  go_enter Tryz.func78, Tryz.ntmps78
  go_wp2_with fail
  generalize ((w.alloc (.cells #[.slice none 0 0, .slice none 0 0] 26)).alloc (.cells #[.slice none 0 0, .slice none 0 0] 26)) = w0 at *
  go_loopw [4] (fun i wr => ∃ (k : Nat) (v1 v2 : Value) (B D : Nat → Nat), k ≤ n ∧ i = .int .i64 k ∧ TwoG 27 2 (w.heap.size + 2) n k k wr v1 v2 B D ∧ BoxV (w.heap.size + 1) wr v1 v2 ∧ BoxV w.heap.size wr (.slice none 0 0) (.slice none 0 0) ∧ Ext w wr ∧ w.heap.size + 2 ≤ wr.heap.size) (fun i _ => n - (intOf i).toNat)
  case atStart => exact ⟨0, _, _, _, _, Nat.zero_le _, rfl, TwoG.start _ _ _ _ _, HB0.out, HR0.out, HX0.out, hz0⟩
  case round =>
    clear HB0 HR0 HX0 hz0
    obtain ⟨k, v1, v2, B, D, hk, rfl, hg, hb, hr, hx, hz⟩ := hrel
    obtain ⟨a1, c1, rfl⟩ := ownsRow_shape hg.o1
    obtain ⟨a2, c2, rfl⟩ := ownsRow_shape hg.o2
    have HG := Lib.hid hg
    have HR := Lib.hid hr
    have HX := Lib.hid hx
    have HB := Lib.hid hb
    clear hg hr hx hb
    by_cases hlt : k < n
    case neg =>
      have hkk : k = n := by omega
      subst hkk
      have hki : ¬ (k : Int) < (k : Int) := by omega
      obtain ⟨-, q0, q1, q2, q3⟩ := HR.out
      obtain ⟨-, p0, p1, p2, p3⟩ := HB.out
      obtain ⟨bA, e1⟩ : ∃ bA, a1 = some ⟨bA, 0, none⟩ := by
        rcases HG.out.o1.2 with ⟨h, _⟩ | ⟨g, cap, cur, h, _⟩
        · injection h with _ h _; omega
        · injection h with h _ _; exact ⟨g, h⟩
      obtain ⟨bB, e2⟩ : ∃ bB, a2 = some ⟨bB, 0, none⟩ := by
        rcases HG.out.o2.2 with ⟨h, _⟩ | ⟨g, cap, cur, h, _⟩
        · injection h with _ h _; omega
        · injection h with h _ _; exact ⟨g, h⟩
      subst e1 e2
      go_wp2
      have r0 := World.cell?_setCell_same _ _ (.slice (some ⟨bA, 0, none⟩) k c1) q0
      exact bodyPost_ret (v := .agg #[.slice (some ⟨bA, 0, none⟩) k c1, .slice (some ⟨bB, 0, none⟩) k c2]) (by simp [results, Tryz.results78, go_sem, q0, q1]) rfl ⟨bA, c1, bB, c2, B, D, rfl, (HG.out.setOther (by simp only []; omega) _).setOther (by simp only []; omega) _, (HX.out.setNew (Nat.le_refl _) _).setNew (Nat.le_refl _) _⟩
    case pos =>
      have hki : (k : Int) < (n : Int) := by omega
      obtain ⟨hbl, p0, p1, p2, p3⟩ := id HB.out
      have pa : ∀ o, (wr.alloc o).cell? ⟨w.heap.size + 1, 0, none⟩ = some (.slice a1 k c1) := fun o => kc_alloc p0
      have pb : ∀ o o', ((wr.alloc o).alloc o').cell? ⟨w.heap.size + 1, 0, none⟩ = some (.slice a1 k c1) := fun o o' => kc_alloc (kc_alloc p0)
      go_upto_region 5 with fail
      go_cut [] (fun wx => ∃ g' cap B', TwoG 27 2 (w.heap.size + 2) n (k + 1) k wx (.slice (some ⟨g', 0, none⟩) (k + 1) cap) (.slice a2 k c2) B' D ∧ BoxV (w.heap.size + 1) wx (.slice (some ⟨g', 0, none⟩) (k + 1) cap) (.slice a2 k c2) ∧ BoxV w.heap.size wx (.slice none 0 0) (.slice none 0 0) ∧ Ext w wx ∧ w.heap.size + 2 ≤ wx.heap.size)
      case first =>
        go_region_law (first
          | (refine step_append_one (by rfl) _ _ 24 27 (by rfl) Tryz.underlying24 infoSl (w.heap.size + 2) _ k (slsN n k B) (by rfl) (ownsRow_ext HG.out.o1 (by (repeat first | (with_reducible exact Ext.refl _) | (with_reducible assumption) | (with_reducible apply Ext.drew) | (with_reducible apply kx_drewN) | (with_reducible apply kx_alloc) | ((with_reducible refine kx_set ?_ ?_); (first | (simp only []; omega) | (simp; omega) | (focus (simp; done)))) ))) _ (.slice (some ⟨wr.heap.size, 0, none⟩) n n) (by rfl) (by (repeat first | (with_reducible assumption) |  (with_reducible exact kc_new) | ((with_reducible refine kc_newE ?_); (simp; done)) | ((with_reducible refine kc_newEa ?_); (simp; done)) | ((with_reducible refine kc_newEb ?_); (simp; done)) | (with_reducible apply kc_alloc) | (with_reducible apply kc_drewN) | (with_reducible apply kc_drew) | ((with_reducible refine kc_set ?_ ?_); (first | (simp only []; omega) | (simp; omega) | (focus (simp; done)))) | ((with_reducible refine kc_set2 ?_ ?_); (focus (simp; done))) | (with_reducible refine kc_same (v := .slice none 0 0) ?_))) rfl (by omega) (Nat.le_trans hz (Ext.size (by (repeat first | (with_reducible exact Ext.refl _) | (with_reducible assumption) | (with_reducible apply Ext.drew) | (with_reducible apply kx_drewN) | (with_reducible apply kx_alloc) | ((with_reducible refine kx_set ?_ ?_); (first | (simp only []; omega) | (simp; omega) | (focus (simp; done)))) )))) ?_; intro g' cap w4 ho4 hgr4 hat4; have hTG := HG.out.add hz (by (repeat first | (with_reducible exact Ext.refl _) | (with_reducible assumption) | (with_reducible apply Ext.drew) | (with_reducible apply kx_drewN) | (with_reducible apply kx_alloc) | ((with_reducible refine kx_set ?_ ?_); (first | (simp only []; omega) | (simp; omega) | (focus (simp; done)))) )) (by first | exact heap_twoD _ _ _ | exact heap_two _ _ _) (Nat.le_refl _) ho4 hgr4 hat4; have hB4 : BoxV (w.heap.size + 1) w4 _ _ := (HB.out.ext (by (repeat first | (with_reducible exact Ext.refl _) | (with_reducible assumption) | (with_reducible apply Ext.drew) | (with_reducible apply kx_drewN) | (with_reducible apply kx_alloc) | ((with_reducible refine kx_set ?_ ?_); (first | (simp only []; omega) | (simp; omega) | (focus (simp; done)))) ))).grown hgr4 (fun e => by have := (HG.out.o1.lt _ e).1; omega); have hR4 : BoxV w.heap.size w4 _ _ := (HR.out.ext (by (repeat first | (with_reducible exact Ext.refl _) | (with_reducible assumption) | (with_reducible apply Ext.drew) | (with_reducible apply kx_drewN) | (with_reducible apply kx_alloc) | ((with_reducible refine kx_set ?_ ?_); (first | (simp only []; omega) | (simp; omega) | (focus (simp; done)))) ))).grown hgr4 (fun e => by have := (HG.out.o1.lt _ e).1; omega); have hX4 : Ext w w4 := ext_grown2 (HX.out.trans (by (repeat first | (with_reducible exact Ext.refl _) | (with_reducible assumption) | (with_reducible apply Ext.drew) | (with_reducible apply kx_drewN) | (with_reducible apply kx_alloc) | ((with_reducible refine kx_set ?_ ?_); (first | (simp only []; omega) | (simp; omega) | (focus (simp; done)))) ))) hgr4 (fun q e => by have := (HG.out.o1.lt _ e).1; omega); have hz4 : wr.heap.size ≤ w4.heap.size := Nat.le_trans (Ext.size (show Ext wr _ from by (repeat first | (with_reducible exact Ext.refl _) | (with_reducible assumption) | (with_reducible apply Ext.drew) | (with_reducible apply kx_drewN) | (with_reducible apply kx_alloc) | ((with_reducible refine kx_set ?_ ?_); (first | (simp only []; omega) | (simp; omega) | (focus (simp; done)))) ))) hgr4.size; obtain ⟨-, s0, s1, s2, s3⟩ := id hB4))
        all_goals
          go_wp2
          go_meet
          case rel => exact ⟨g', cap, _, hTG.setOther (by simp only []; omega) _, hB4.set0 _, hR4.setOther (by simp only []; omega) _, hX4.setNew (by simp only []; omega) _, by simp; omega⟩
      case rest =>
        clear pa pb p0 p1 p2 p3 hbl HG HR HX HB hz
        obtain ⟨g', cap, B', hg, hb, hr, hx, hz⟩ := hcut
        have HG := Lib.hid hg.swap
        have HR := Lib.hid hr
        have HX := Lib.hid hx
        have HB := Lib.hid hb
        clear hg hr hx hb
        obtain ⟨hbl, p0, p1, p2, p3⟩ := id HB.out
        have pa : ∀ o, (wc.alloc o).cell? ⟨w.heap.size + 1, 1, none⟩ = some (.slice a2 k c2) := fun o => kc_alloc p1
        have pb : ∀ o o', ((wc.alloc o).alloc o').cell? ⟨w.heap.size + 1, 1, none⟩ = some (.slice a2 k c2) := fun o o' => kc_alloc (kc_alloc p1)
        go_wp2_with fail
        go_region_law (first
          | (refine step_append_one (by rfl) _ _ 24 27 (by rfl) Tryz.underlying24 infoSl (w.heap.size + 2) _ k (slsN n k D) (by rfl) (ownsRow_ext HG.out.o1 (by (repeat first | (with_reducible exact Ext.refl _) | (with_reducible assumption) | (with_reducible apply Ext.drew) | (with_reducible apply kx_drewN) | (with_reducible apply kx_alloc) | ((with_reducible refine kx_set ?_ ?_); (first | (simp only []; omega) | (simp; omega) | (focus (simp; done)))) ))) _ (.slice (some ⟨wc.heap.size, 0, none⟩) n n) (by rfl) (by (repeat first | (with_reducible assumption) |  (with_reducible exact kc_new) | ((with_reducible refine kc_newE ?_); (simp; done)) | ((with_reducible refine kc_newEa ?_); (simp; done)) | ((with_reducible refine kc_newEb ?_); (simp; done)) | (with_reducible apply kc_alloc) | (with_reducible apply kc_drewN) | (with_reducible apply kc_drew) | ((with_reducible refine kc_set ?_ ?_); (first | (simp only []; omega) | (simp; omega) | (focus (simp; done)))) | ((with_reducible refine kc_set2 ?_ ?_); (focus (simp; done))) | (with_reducible refine kc_same (v := .slice none 0 0) ?_))) rfl (by omega) (Nat.le_trans hz (Ext.size (by (repeat first | (with_reducible exact Ext.refl _) | (with_reducible assumption) | (with_reducible apply Ext.drew) | (with_reducible apply kx_drewN) | (with_reducible apply kx_alloc) | ((with_reducible refine kx_set ?_ ?_); (first | (simp only []; omega) | (simp; omega) | (focus (simp; done)))) )))) ?_; intro g2 cap2 w4 ho4 hgr4 hat4; have hTG := (HG.out.add hz (by (repeat first | (with_reducible exact Ext.refl _) | (with_reducible assumption) | (with_reducible apply Ext.drew) | (with_reducible apply kx_drewN) | (with_reducible apply kx_alloc) | ((with_reducible refine kx_set ?_ ?_); (first | (simp only []; omega) | (simp; omega) | (focus (simp; done)))) )) (by first | exact heap_twoD _ _ _ | exact heap_two _ _ _) (Nat.le_refl _) ho4 hgr4 hat4).swap; have hB4 : BoxV (w.heap.size + 1) w4 _ _ := (HB.out.ext (by (repeat first | (with_reducible exact Ext.refl _) | (with_reducible assumption) | (with_reducible apply Ext.drew) | (with_reducible apply kx_drewN) | (with_reducible apply kx_alloc) | ((with_reducible refine kx_set ?_ ?_); (first | (simp only []; omega) | (simp; omega) | (focus (simp; done)))) ))).grown hgr4 (fun e => by have := (HG.out.o1.lt _ e).1; omega); have hR4 : BoxV w.heap.size w4 _ _ := (HR.out.ext (by (repeat first | (with_reducible exact Ext.refl _) | (with_reducible assumption) | (with_reducible apply Ext.drew) | (with_reducible apply kx_drewN) | (with_reducible apply kx_alloc) | ((with_reducible refine kx_set ?_ ?_); (first | (simp only []; omega) | (simp; omega) | (focus (simp; done)))) ))).grown hgr4 (fun e => by have := (HG.out.o1.lt _ e).1; omega); have hX4 : Ext w w4 := ext_grown2 (HX.out.trans (by (repeat first | (with_reducible exact Ext.refl _) | (with_reducible assumption) | (with_reducible apply Ext.drew) | (with_reducible apply kx_drewN) | (with_reducible apply kx_alloc) | ((with_reducible refine kx_set ?_ ?_); (first | (simp only []; omega) | (simp; omega) | (focus (simp; done)))) ))) hgr4 (fun q e => by have := (HG.out.o1.lt _ e).1; omega); have hz4 : wc.heap.size ≤ w4.heap.size := Nat.le_trans (Ext.size (show Ext wc _ from by (repeat first | (with_reducible exact Ext.refl _) | (with_reducible assumption) | (with_reducible apply Ext.drew) | (with_reducible apply kx_drewN) | (with_reducible apply kx_alloc) | ((with_reducible refine kx_set ?_ ?_); (first | (simp only []; omega) | (simp; omega) | (focus (simp; done)))) ))) hgr4.size; obtain ⟨-, s0, s1, s2, s3⟩ := id hB4))
        all_goals
          go_wp2
          go_roundw
          case rel => exact ⟨k + 1, _, _, _, _, by omega, by go_num, hTG.setOther (by simp only []; omega) _, hB4.set1 _, hR4.setOther (by simp only []; omega) _, hX4.setNew (by simp only []; omega) _, by simp; omega⟩
          case measure => simp [intOf]; omega
end Go.Proofs.YtjfjpngajboidaaGreat


namespace Go.Proofs.YtjfjpngajboidaaGreat
set_option linter.unusedVariables false
set_option linter.unusedSimpArgs false
open Go.RowKit
attribute [local go_sem ↓] Go.wp_at_zero Go.wp_at_succ
open Go.Deep

theorem step_callE {P : Program} {w : World} {ops : Array Oper} {o : Oper} {a : Act} {K : Act → World → Prop} {Q : Exit → Act → World → Prop} {E : Prop} (hgd : o.guard = none) (F : FuncId) (args : Array Value) (hrun : (execOp a.eval o).run P w = .ok (.enter F args) w) {R : Value → World → Prop}
    (hc : Calls P F args w fun e w' => ∃ v, e = .returned v ∧ R v w') (h : ∀ v w', R v w' → K (a.put o.dst v) w') : if Region.wanted o (yielded ops a.tmps) = true then Oper.wp P o a w K Q else E := by
  rw [if_pos (by simp [Region.wanted, hgd])]
  unfold Oper.wp
  rw [hrun, Oper.upon_enter]
  refine hc.mono ?_
  rintro e w' ⟨v, rfl, hr⟩
  exact h v w' hr
theorem RF.ext {lo : Nat} {D : Nat → Prop} {w w' : World} {x : Value} {l : List Int} (h : RF lo D w x l) (hx : Ext w w') : RF lo D w' x l := h.keep hx.size fun k _ hk _ => hx.block k hk
theorem RF.far {lo : Nat} {w w' : World} {x : Value} {l : List Int} {r : Option Nat} (h : RF lo (fun _ => False) w x l) (hg : w.grownBy w' r) (hr : ∀ k, r = some k → k < lo) : RF lo (fun _ => False) w' x l := h.keep hg.size fun k h1 hk _ => hg.block k hk (fun e => by have := hr k e.symm; omega)
theorem RF.setOut {lo : Nat} {D : Nat → Prop} {w : World} {x : Value} {l : List Int} (h : RF lo D w x l) {a : Addr} (ha : a.block < lo) (u : Value) : RF lo D (w.setCell a u) x l := h.keep (by simp) fun k h1 _ _ => Below.heap_setCell _ _ _ _ (by omega)
theorem RF.setD {lo : Nat} {D D' : Nat → Prop} {w : World} {b n c : Nat} {l : List Int} (h : RF lo D w (.slice (some ⟨b, 0, none⟩) n c) l) (hD : ¬ D' b) : RF lo D' w (.slice (some ⟨b, 0, none⟩) n c) l := by
  obtain ⟨h0, b', c', e, h2, h3, h4, h5⟩ := h
  simp only [Value.slice.injEq, Option.some.injEq, Addr.mk.injEq, and_true] at e
  obtain ⟨rfl, rfl, rfl⟩ := e
  exact ⟨h0, b, c, rfl, h2, h3, hD, h5⟩
theorem RF.low {lo lo' : Nat} {D : Nat → Prop} {w : World} {x : Value} {l : List Int} (h : RF lo D w x l) (hl : lo' ≤ lo) : RF lo' D w x l := h.mono hl fun _ _ _ q => q
theorem RF.at_ {lo : Nat} {D : Nat → Prop} {w : World} {b n c : Nat} {l : List Int} (h : RF lo D w (.slice (some ⟨b, 0, none⟩) n c) l) : lo ≤ b ∧ b < w.heap.size := by
  obtain ⟨h0, b', c', e, h2, h3, -⟩ := h
  simp only [Value.slice.injEq, Option.some.injEq, Addr.mk.injEq, and_true] at e
  obtain ⟨rfl, rfl, rfl⟩ := e
  exact ⟨h2, h3⟩
theorem l01Own_f (n : Nat) (l : List Int) (hn : l.length = n) (v : Value) (w : World) (hv : Ints w v l) :
    Calls Tryz.prog 65 #[v] w fun e w' => ∃ x, e = .returned x ∧ ∃ b c, x = .slice (some ⟨b, 0, none⟩) n c ∧ RF w.heap.size (fun _ => False) w' (.slice (some ⟨b, 0, none⟩) n c) l ∧ Ext w w' := by
  have hl := hv.1
  refine (l01Own_any l v w hv).mono ?_
  rintro e w' ⟨b, c, rfl, ho, hx⟩
  have := RF.own (c := c) ho hl (Nat.le_refl _)
  rw [hn] at this
  exact ⟨_, rfl, b, c, by rw [hn], this, hx⟩
theorem gne {ob : Option Nat} {g b lo z zA : Nat} (h : ob = some g ∨ g = zA) (hl : ∀ k, ob = some k → k < lo) (hb : lo ≤ b ∧ b < z) (hz : z ≤ zA) : g ≠ b := by
  rcases h with e | e
  · have := hl g e; omega
  · omega
theorem Twin.appR {e lo base k g' cap : Nat} {w wA w' : World} {v1 v2 x : Value} {xs ys : List Value} {t1 t2 : List (List Int)} {l : List Int} (h : Twin e lo w v1 v2 xs ys t1 t2) (hl : t1.length = k) (hx : Ext w wA) (hr : RF base (fun _ => False) wA x l) (hb : w.heap.size ≤ base) (hlo : lo ≤ base)
    (ho : w'.ownsRow lo e 1 (.slice (some ⟨g', 0, none⟩) (k + 1) cap) (k + 1) (xs ++ [x])) (hg : wA.grownBy w' v1.ownBlock) (hat : v1.ownBlock = some g' ∨ g' = wA.heap.size) :
    Twin e lo w' (.slice (some ⟨g', 0, none⟩) (k + 1) cap) v2 (xs ++ [x]) ys (t1 ++ [l]) t2 := by
  subst hl
  refine (h.ext hx).app (hr.mono hlo fun b h1 _ q => ?_) ho hg (hat.imp (fun e => e.symm) (fun e => by rw [e]; rfl))
  rcases q with q | q
  · have := (h.f.lt b q).2; omega
  · have := (h.s.lt b q).2; omega
def NewS (n : Nat) (R : List (List Int) → List (List Int) → Prop) (w : World) (e : Ending) (w' : World) : Prop := ∃ v y T U, e = .returned (.agg #[v, y]) ∧ TabF w.heap.size w' v T ∧ TabF w.heap.size w' y U ∧ PairOk T U ∧ T.length = n ∧ R T U ∧ Ext w w'
def twA (p : List Int) (k : Nat) : List (List Int) := List.replicate k p
def twB (n : Nat) (q : List Int) (k : Nat) : List (List Int) := (List.range k).map fun x => List.replicate n (ix q x)
theorem twA_succ (p : List Int) (k : Nat) : twA p (k + 1) = twA p k ++ [p] := by unfold twA; rw [List.replicate_succ']
theorem twB_succ (n : Nat) (q : List Int) (k : Nat) : twB n q (k + 1) = twB n q k ++ [List.replicate n (ix q k)] := by unfold twB; rw [List.range_succ, List.map_append]; rfl
theorem length_twA (p : List Int) (k : Nat) : (twA p k).length = k := by unfold twA; simp
theorem length_twB (n : Nat) (q : List Int) (k : Nat) : (twB n q k).length = k := by unfold twB; simp
theorem row_twA {p : List Int} {k i : Nat} (hi : i < k) : row (twA p k) i = p := by unfold twA; rw [row_eq]; simp [List.getD, hi]
theorem row_twB {n : Nat} {q : List Int} {k i : Nat} (hi : i < k) : row (twB n q k) i = List.replicate n (ix q i) := by unfold twB; rw [row_eq]; simp [List.getD, hi]
theorem tableOk_of {n : Nat} {t : List (List Int)} (h1 : 1 ≤ n) (h12 : n ≤ 12) (hl : t.length = n) (hr : ∀ x, x < n → (row t x).length = n) (he : ∀ x, x < n → ∀ y, y < n → 0 ≤ ix (row t x) y ∧ ix (row t x) y < n) : TableOk t := by
  subst hl
  refine ⟨h1, h12, fun x hx => ⟨by rw [hr x hx], fun y hy => ?_⟩⟩
  have := he x hx y hy
  rw [ent_def] at this
  omega
theorem twist_ok {n : Nat} {p q : List Int} (h1 : 1 ≤ n) (h12 : n ≤ 12) (hp : p.length = n) (hq : q.length = n) (hpi : ∀ x, x < n → 0 ≤ ix p x ∧ ix p x < n) (hqi : ∀ x, x < n → 0 ≤ ix q x ∧ ix q x < n) : PairOk (twA p n) (twB n q n) := by
  refine ⟨tableOk_of h1 h12 (length_twA _ _) (fun x hx => by rw [row_twA hx, hp]) (fun x hx y hy => by rw [row_twA hx]; exact hpi y hy), tableOk_of h1 h12 (length_twB _ _ _) (fun x hx => by rw [row_twB hx]; simp) (fun x hx y hy => ?_), by rw [length_twA, length_twB]⟩
  rw [row_twB hx]
  have : ix (List.replicate n (ix q x)) y = ix q x := by rw [ix_eq]; simp [List.getD, hy]
  rw [this]
  exact hqi x hx

set_option maxRecDepth 100000 in
set_option maxHeartbeats 4000000 in
theorem l02Twist_any (n : Nat) (p q : List Int) (v u : Value) (w : World) (hv : Ints w v p) (hu : Ints w u q) (h1 : 1 ≤ n) (h12 : n ≤ 12) (hp : p.length = n) (hq : q.length = n) (hpi : ∀ x, x < n → 0 ≤ ix p x ∧ ix p x < n) (hqi : ∀ x, x < n → 0 ≤ ix q x ∧ ix q x < n) :
    Calls Tryz.prog 140 #[v, u] w (NewS n (fun T U => T = twA p n ∧ U = twB n q n) w) := by
  have HOK := Lib.hid (twist_ok h1 h12 hp hq hpi hqi)
  obtain ⟨-, b, o, c, rfl, -⟩ := id hv
  obtain ⟨-, b2, o2, c2, rfl, hqc⟩ := id hu
  rw [hp] at hv ⊢
  rw [hq] at hu ⊢
  have hx0 : Ext w ((w.alloc (.cells #[.slice none 0 0, .slice none 0 0] 26)).alloc (.cells #[.slice none 0 0, .slice none 0 0] 26)) := ((Ext.refl _).alloc _).alloc _
  have hR0 := (BoxV.new w (.slice none 0 0) (.slice none 0 0) 26).ext ((Ext.refl _).alloc (.cells #[.slice none 0 0, .slice none 0 0] 26))
  have hB0 : BoxV (w.heap.size + 1) ((w.alloc (.cells #[.slice none 0 0, .slice none 0 0] 26)).alloc (.cells #[.slice none 0 0, .slice none 0 0] 26)) (.slice none 0 0) (.slice none 0 0) := by
    have h := BoxV.new (w.alloc (.cells #[.slice none 0 0, .slice none 0 0] 26)) (.slice none 0 0) (.slice none 0 0) 26
    simpa using h
  have hz0 : w.heap.size + 2 ≤ ((w.alloc (.cells #[.slice none 0 0, .slice none 0 0] 26)).alloc (.cells #[.slice none 0 0, .slice none 0 0] 26)).heap.size := by simp
  have HX0 := Lib.hid hx0
  have HR0 := Lib.hid hR0
  have HB0 := Lib.hid hB0
  have HV := Lib.hid hv
  have HQC := Lib.hid hqc
  have HPL := Lib.hid hp
  have HQL := Lib.hid hq
  clear hx0 hR0 hB0 hv hu hqc hp hq hpi hqi
  go_enter Tryz.func140, Tryz.ntmps140
  go_wp2_with fail
  generalize ((w.alloc (.cells #[.slice none 0 0, .slice none 0 0] 26)).alloc (.cells #[.slice none 0 0, .slice none 0 0] 26)) = w0 at *
  go_loopw [6] (fun i wr => ∃ (k : Nat) (v1 v2 : Value) (xs ys : List Value), k ≤ n ∧ i = .int .i64 k ∧ Twin 27 (w.heap.size + 2) wr v1 v2 xs ys (twA p k) (twB n q k) ∧ BoxV (w.heap.size + 1) wr v1 v2 ∧ BoxV w.heap.size wr (.slice none 0 0) (.slice none 0 0) ∧ Ext w wr ∧ w.heap.size + 2 ≤ wr.heap.size) (fun i _ => n - (intOf i).toNat)
  case atStart => exact ⟨0, _, _, _, _, Nat.zero_le _, rfl, Twin.nil _ _ _, HB0.out, HR0.out, HX0.out, hz0⟩
  case round =>
    clear HB0 HR0 HX0 hz0
    obtain ⟨k, v1, v2, xs, ys, hk, rfl, hg, hb, hr, hx, hz⟩ := hrel
    obtain ⟨a1, c1, rfl⟩ := hg.f.shape
    obtain ⟨a2, c2', rfl⟩ := hg.s.shape
    rw [length_twA] at hg hb
    rw [length_twB] at hg hb
    have HG := Lib.hid hg
    have HR := Lib.hid hr
    have HX := Lib.hid hx
    have HB := Lib.hid hb
    clear hg hr hx hb
    by_cases hlt : k < n
    case neg =>
      have hkk : k = n := by omega
      subst hkk
      have hki : ¬ (k : Int) < (k : Int) := by omega
      obtain ⟨-, q0, q1, q2, q3⟩ := HR.out
      obtain ⟨-, p0, p1, p2, p3⟩ := HB.out
      have ht1 := HG.out.f.tab (by rw [length_twA]; omega) (by rw [length_twA]; omega)
      have ht2 := HG.out.s.tab (by rw [length_twB]; omega) (by rw [length_twB]; omega)
      have HT1 := Lib.hid ht1
      have HT2 := Lib.hid ht2
      clear ht1 ht2
      go_wp2
      exact bodyPost_ret (v := .agg #[.slice a1 k c1, .slice a2 k c2']) (by simp [results, Tryz.results140, go_sem, q0, q1]) rfl ⟨_, _, _, _, rfl, ((HT1.out.setOut (by simp only []; omega) _).setOut (by simp only []; omega) _).low (by omega), ((HT2.out.setOut (by simp only []; omega) _).setOut (by simp only []; omega) _).low (by omega), HOK.out, length_twA _ _, ⟨rfl, rfl⟩, (HX.out.setNew (Nat.le_refl _) _).setNew (Nat.le_refl _) _⟩
    case pos =>
      have hki : (k : Int) < (n : Int) := by omega
      have hqk := HX.out.cell (HQC.out k (by rw [HQL.out]; exact hlt))
      have ho1 := HG.out.f.own
      have ho2 := HG.out.s.own
      rw [length_twA] at ho1
      rw [length_twB] at ho2
      have HO1 := Lib.hid ho1
      have HO2 := Lib.hid ho2
      have hl1 := HG.out.f.lt
      have hl2 := HG.out.s.lt
      clear ho1 ho2
      obtain ⟨wk, rfl⟩ : ∃ z : World, z = wr := ⟨_, rfl⟩
      go_wp2_with fail
      go_loopw [7, 8] (fun vr vj wr => ∃ j : Nat, j ≤ n ∧ vj = .int .i64 j ∧ GrowI 2 wk.heap.size wr vr (List.replicate j (ix q k)) ∧ vr ≠ .slice none 0 0 ∧ Ext wk wr) (fun _ vj _ => n - (intOf vj).toNat)
      case atStart => exact ⟨0, Nat.zero_le _, rfl, GrowI.lit (Nat.le_refl _), by simp, (Ext.refl _).alloc _⟩
      case round =>
        obtain ⟨j, hj, rfl, hi, hvr, hxj⟩ := hrel
        have HVR := Lib.hid hvr
        have HXJ := Lib.hid hxj
        have HI := Lib.hid hi
        clear hvr hxj hi
        by_cases hjl : j < n
        case pos =>
          have hji : (j : Int) < (n : Int) := by omega
          have hqj := HXJ.out.cell hqk
          go_wp2_with (at_builtin; refine wpList_append_int rfl _ _ 27 2 rfl Tryz.underlying27 infoInt wk.heap.size _ _ rfl (HI.out.alloc _) _ _ rfl (cell_new _ _ _) (by simp; omega) (by have := (Below.size HXJ.out : wk.heap.size ≤ wr.heap.size); simp; omega) ?_)
          intro v' w3 hi3 hgr hv3
          have hx3 : Ext wk w3 := (HXJ.out.trans (ext_box _ _ _)).grown hgr (HI.out.alloc _) (Nat.le_refl _)
          rw [← List.replicate_succ'] at hi3
          clear hgr
          go_wp2
          go_roundw
          case rel => exact ⟨j + 1, by omega, by go_num, hi3, hv3, hx3⟩
          case measure => simp [intOf]; omega
        case neg =>
          have hji : ¬ (j : Int) < (n : Int) := by omega
          have hjn : j = n := by omega
          have hrow := RF.of HI.out HVR.out (by simp; omega)
          obtain ⟨br, cr, rfl, -⟩ := HI.out.row HVR.out
          have hrl : (List.replicate n (ix q k)).length = n := by simp
          rw [hjn, hrl] at hrow
          rw [hjn, hrl]
          have HROW := Lib.hid hrow
          have hbr := HROW.out.at_
          have HG2 := Lib.hid (HG.out.ext HXJ.out)
          have HB2 := Lib.hid (HB.out.ext HXJ.out)
          have HR2 := Lib.hid (HR.out.ext HXJ.out)
          have HX2 := Lib.hid (HX.out.trans HXJ.out)
          have HO12 := Lib.hid (ownsRow_ext HO1.out HXJ.out)
          have hzx : wk.heap.size ≤ wr.heap.size := Below.size HXJ.out
          have hz2 : w.heap.size + 2 ≤ wr.heap.size := by omega
          obtain ⟨hbl, p0, p1, p2, p3⟩ := id HB2.out
          have HOWN := Lib.hid (fun W (h : Ext w W) => l01Own_f n p HPL.out (.slice (some ⟨b, o, none⟩) n c) W (HV.out.ext h))
          clear hrow hjn hrl
          go_upto_region 10 with fail
          go_cut [] (fun wx => ∃ g' cap x', Twin 27 (w.heap.size + 2) wx (.slice (some ⟨g', 0, none⟩) (k + 1) cap) (.slice a2 k c2') (xs ++ [x']) ys (twA p k ++ [p]) (twB n q k) ∧ BoxV (w.heap.size + 1) wx (.slice (some ⟨g', 0, none⟩) (k + 1) cap) (.slice a2 k c2') ∧ BoxV w.heap.size wx (.slice none 0 0) (.slice none 0 0) ∧ Ext w wx ∧ wr.heap.size ≤ wx.heap.size ∧ g' ≠ br ∧ RF wk.heap.size (fun _ => False) wx (.slice (some ⟨br, 0, none⟩) n cr) (List.replicate n (ix q k)))
          case first =>
            have pd : wr.drew.cell? ⟨w.heap.size + 1, 0, none⟩ = some (.slice a1 k c1) := p0
            go_region_law (first
              | (refine step_append_one (by rfl) _ _ 24 27 (by rfl) Tryz.underlying24 infoSl (w.heap.size + 2) _ k xs (by rfl) (ownsRow_ext HO12.out (by (repeat first | (with_reducible exact Ext.refl _) | (with_reducible assumption) | (with_reducible apply Ext.drew) | (with_reducible apply kx_drewN) | (with_reducible apply kx_alloc) | ((with_reducible refine kx_set ?_ ?_); (first | (simp only []; omega) | (simp; omega) | (focus (simp; done)))) | (with_reducible refine Ext.trans ?_ hx3) ))) _ (.slice (some ⟨b3, 0, none⟩) n c3) (by rfl) (by (repeat first | (with_reducible assumption) |  (with_reducible exact kc_new) | ((with_reducible refine kc_newE ?_); (simp; done)) | ((with_reducible refine kc_newEa ?_); (simp; done)) | ((with_reducible refine kc_newEb ?_); (simp; done)) | (with_reducible apply kc_alloc) | (with_reducible apply kc_drewN) | (with_reducible apply kc_drew) | ((with_reducible refine kc_set ?_ ?_); (first | (simp only []; omega) | (simp; omega) | (focus (simp; done)))) | ((with_reducible refine kc_set2 ?_ ?_); (focus (simp; done))) | (with_reducible refine kc_same (v := .slice none 0 0) ?_))) rfl (by omega) (Nat.le_trans hz2 (Ext.size (by (repeat first | (with_reducible exact Ext.refl _) | (with_reducible assumption) | (with_reducible apply Ext.drew) | (with_reducible apply kx_drewN) | (with_reducible apply kx_alloc) | ((with_reducible refine kx_set ?_ ?_); (first | (simp only []; omega) | (simp; omega) | (focus (simp; done)))) | (with_reducible refine Ext.trans ?_ hx3) )))) ?_; intro g' cap w4 ho4 hgr4 hat4; have hTG := HG2.out.appR (length_twA _ _) (by (repeat first | (with_reducible exact Ext.refl _) | (with_reducible assumption) | (with_reducible apply Ext.drew) | (with_reducible apply kx_drewN) | (with_reducible apply kx_alloc) | ((with_reducible refine kx_set ?_ ?_); (first | (simp only []; omega) | (simp; omega) | (focus (simp; done)))) | (with_reducible refine Ext.trans ?_ hx3) )) (hr3.ext (by (repeat first | (with_reducible exact Ext.refl _) | (with_reducible assumption) | (with_reducible apply Ext.drew) | (with_reducible apply kx_drewN) | (with_reducible apply kx_alloc) | ((with_reducible refine kx_set ?_ ?_); (first | (simp only []; omega) | (simp; omega) | (focus (simp; done)))) ))) (Ext.size (by (repeat first | (with_reducible exact Ext.refl _) | (with_reducible assumption) | (with_reducible apply Ext.drew) | (with_reducible apply kx_drewN) | (with_reducible apply kx_alloc) | ((with_reducible refine kx_set ?_ ?_); (first | (simp only []; omega) | (simp; omega) | (focus (simp; done)))) ))) (Nat.le_trans hz2 (Ext.size (by (repeat first | (with_reducible exact Ext.refl _) | (with_reducible assumption) | (with_reducible apply Ext.drew) | (with_reducible apply kx_drewN) | (with_reducible apply kx_alloc) | ((with_reducible refine kx_set ?_ ?_); (first | (simp only []; omega) | (simp; omega) | (focus (simp; done)))) )))) ho4 hgr4 hat4; have hB4 : BoxV (w.heap.size + 1) w4 _ _ := (HB2.out.ext (by (repeat first | (with_reducible exact Ext.refl _) | (with_reducible assumption) | (with_reducible apply Ext.drew) | (with_reducible apply kx_drewN) | (with_reducible apply kx_alloc) | ((with_reducible refine kx_set ?_ ?_); (first | (simp only []; omega) | (simp; omega) | (focus (simp; done)))) | (with_reducible refine Ext.trans ?_ hx3) ))).grown hgr4 (fun e => by have := (hl1 _ e).1; omega); have hR4 : BoxV w.heap.size w4 _ _ := (HR2.out.ext (by (repeat first | (with_reducible exact Ext.refl _) | (with_reducible assumption) | (with_reducible apply Ext.drew) | (with_reducible apply kx_drewN) | (with_reducible apply kx_alloc) | ((with_reducible refine kx_set ?_ ?_); (first | (simp only []; omega) | (simp; omega) | (focus (simp; done)))) | (with_reducible refine Ext.trans ?_ hx3) ))).grown hgr4 (fun e => by have := (hl1 _ e).1; omega); have hX4 : Ext w w4 := ext_grown2 (HX2.out.trans (by (repeat first | (with_reducible exact Ext.refl _) | (with_reducible assumption) | (with_reducible apply Ext.drew) | (with_reducible apply kx_drewN) | (with_reducible apply kx_alloc) | ((with_reducible refine kx_set ?_ ?_); (first | (simp only []; omega) | (simp; omega) | (focus (simp; done)))) | (with_reducible refine Ext.trans ?_ hx3) ))) hgr4 (fun q e => by have := (hl1 _ e).1; omega); have hz4 : wr.heap.size ≤ w4.heap.size := Nat.le_trans (Ext.size (show Ext wr _ from by (repeat first | (with_reducible exact Ext.refl _) | (with_reducible assumption) | (with_reducible apply Ext.drew) | (with_reducible apply kx_drewN) | (with_reducible apply kx_alloc) | ((with_reducible refine kx_set ?_ ?_); (first | (simp only []; omega) | (simp; omega) | (focus (simp; done)))) | (with_reducible refine Ext.trans ?_ hx3) ))) hgr4.size; have hgb4 : g' ≠ br := gne hat4 (fun k e => (hl1 k e).2) hbr (Ext.size (show Ext wr _ from by (repeat first | (with_reducible exact Ext.refl _) | (with_reducible assumption) | (with_reducible apply Ext.drew) | (with_reducible apply kx_drewN) | (with_reducible apply kx_alloc) | ((with_reducible refine kx_set ?_ ?_); (first | (simp only []; omega) | (simp; omega) | (focus (simp; done)))) | (with_reducible refine Ext.trans ?_ hx3) ))); have hRW4 := (HROW.out.ext (by (repeat first | (with_reducible exact Ext.refl _) | (with_reducible assumption) | (with_reducible apply Ext.drew) | (with_reducible apply kx_drewN) | (with_reducible apply kx_alloc) | ((with_reducible refine kx_set ?_ ?_); (first | (simp only []; omega) | (simp; omega) | (focus (simp; done)))) | (with_reducible refine Ext.trans ?_ hx3) ))).far hgr4 (fun k e => (hl1 k e).2); obtain ⟨-, s0, s1, s2, s3⟩ := id hB4)
              | (refine step_callE (by rfl) 65 _ (by kernel_rfl) (HOWN.out _ (HX2.out.trans (by (repeat first | (with_reducible exact Ext.refl _) | (with_reducible assumption) | (with_reducible apply Ext.drew) | (with_reducible apply kx_drewN) | (with_reducible apply kx_alloc) | ((with_reducible refine kx_set ?_ ?_); (first | (simp only []; omega) | (simp; omega) | (focus (simp; done)))) )))) ?_; rintro _ w3 ⟨b3, c3, rfl, hr3, hx3⟩; have p0' := hx3.cell (show _ = some (.slice a1 k c1) from (by first | exact pd | exact p0)); have p0a := (ext_box w3 (.slice (some ⟨b3, 0, none⟩) n c3) 27).cell p0'))
            all_goals
              go_wp2
              go_meet
              case rel => exact ⟨g', cap, _, hTG.setOther (by simp only []; omega) _, hB4.set0 _, hR4.setOther (by simp only []; omega) _, hX4.setNew (by simp only []; omega) _, (by first | (simp; omega) | exact hz4), hgb4, hRW4.setOut (a := ⟨w.heap.size + 1, 0, none⟩) (show w.heap.size + 1 < wk.heap.size by omega) _⟩
          case rest =>
            clear p0 p1 p2 p3 hbl HG HR HX HB HG2 HR2 HX2 HB2 hz2 HO12 HOWN
            obtain ⟨g', cap, x', hg, hb, hr, hx, hzc, hgb, hrw⟩ := hcut
            have HG := Lib.hid hg.swap
            have HR := Lib.hid hr
            have HX := Lib.hid hx
            have HB := Lib.hid hb
            have HRW := Lib.hid hrw
            have ho2 := hg.s.own
            rw [length_twB] at ho2
            have HO22 := Lib.hid ho2
            have hl22 := hg.s.lt
            clear hg hr hx hb hrw ho2
            obtain ⟨hbl, p0, p1, p2, p3⟩ := id HB.out
            have hzw : w.heap.size + 2 ≤ wc.heap.size := by omega
            have hxb := ext_box wc (.slice (some ⟨br, 0, none⟩) n cr) 27
            have hbase : w.heap.size + 2 ≤ (wc.alloc (.cells #[.slice (some ⟨br, 0, none⟩) n cr] 27)).heap.size := by simp; omega
            have pa := hxb.cell p1
            go_wp2_with (at_builtin; refine wpList_append_one rfl _ _ 24 27 rfl Tryz.underlying24 infoSl (w.heap.size + 2) _ k ys rfl (ownsRow_ext HO22.out hxb) _ _ (show Value.oneCell' (.slice _ _ _) = true from rfl) rfl (cell_new _ _ _) (by omega) hbase ?_)
            intro v' w8 hown8 hgr8 hv8 hbl8
            obtain ⟨g8, cap8, rfl⟩ : ∃ g8 cap8, v' = .slice (some ⟨g8, 0, none⟩) (k + 1) cap8 := by
              rcases hown8.2 with ⟨h, _⟩ | ⟨g8, cap8, cur, h, _⟩
              · exact absurd h hv8
              · exact ⟨g8, cap8, h⟩
            have hTG := (HG.out.ext hxb).app ((HRW.out.ext hxb).setD (D' := fun b => (Value.slice a2 k c2').ownBlock = some b ∨ (Value.slice (some ⟨g', 0, none⟩) (k + 1) cap).ownBlock = some b) (fun q => by
              rcases q with q | q
              · have := (hl2 _ q).2; omega
              · exact hgb (Option.some.inj (show some g' = some br from q))) |>.low (by omega)) (by rw [length_twB]; exact hown8) hgr8 (by
              rcases hbl8 with e | e
              · exact .inl e
              · exact .inr (by rw [show (wc.alloc (.cells #[.slice (some ⟨br, 0, none⟩) n cr] 27)).heap.size = wc.heap.size + 1 by simp]; exact e))
            have hB8 : BoxV (w.heap.size + 1) w8 _ _ := (HB.out.ext hxb).grown hgr8 (fun e => by have := (hl22 _ e).1; omega)
            have hR8 : BoxV w.heap.size w8 _ _ := (HR.out.ext hxb).grown hgr8 (fun e => by have := (hl22 _ e).1; omega)
            have hX8 : Ext w w8 := ext_grown2 (HX.out.trans hxb) hgr8 (fun q e => by have := (hl22 _ e).1; omega)
            have hz8 : wc.heap.size ≤ w8.heap.size := Nat.le_trans hxb.size hgr8.size
            obtain ⟨-, s0, s1, s2, s3⟩ := id hB8
            have HT8 := Lib.hid hTG.swap
            have HB8 := Lib.hid hB8
            have HR8 := Lib.hid hR8
            have HX8 := Lib.hid hX8
            clear hTG hB8 hR8 hX8 hown8 hgr8 hbl8 hv8
            go_wp2
            go_roundw
            case rel => exact ⟨k + 1, _, _, _, _, by omega, by go_num, by rw [twA_succ, twB_succ]; exact HT8.out.setOther (by simp only []; omega) _, HB8.out.set1 _, HR8.out.setOther (by simp only []; omega) _, HX8.out.setNew (by simp only []; omega) _, by simp; omega⟩
            case measure => simp [intOf]; omega
end Go.Proofs.YtjfjpngajboidaaGreat


namespace Go.Proofs.YtjfjpngajboidaaGreat
set_option linter.unusedVariables false
set_option linter.unusedSimpArgs false
open Go.RowKit
open Go.Deep

def RetInvS (L S : List (List Int)) (w : World) (e : Ending) (w' : World) : Prop := ∃ b c b2 c2 T U, e = .returned (.agg #[.slice (some ⟨b, 0, none⟩) L.length c, .slice (some ⟨b2, 0, none⟩) L.length c2]) ∧ Rows w' (.slice (some ⟨b, 0, none⟩) L.length c) T ∧ Rows w' (.slice (some ⟨b2, 0, none⟩) L.length c2) U ∧ InvTo L S L.length 0 T U ∧ Ext w w'
theorem TwoM.rows {base n : Nat} {w : World} {bA bB : Nat} {B D : Nat → Nat} {T U : List (List Int)} (h : TwoM base n w bA bB B D T U) (hn : n ≤ 1048576) (c : Nat) : Rows w (.slice (some ⟨bA, 0, none⟩) n c) T := by
  refine ⟨by rw [h.lt]; exact hn, bA, 0, c, by rw [h.lt], fun i hi => ?_⟩
  rw [h.lt] at hi
  refine ⟨_, by rw [Nat.zero_add]; exact h.a i hi, by rw [(h.t i hi).2.2.1]; exact hn, B i, 0, n, by rw [(h.t i hi).2.2.1], (h.t i hi).1⟩
theorem lt_of_block_cells {w : World} {b o : Nat} {v : Value} (_ : w.frozen? ⟨b, 0 + o, none⟩ = false) (h : w.cell? ⟨b, 0 + o, none⟩ = some v) : b < w.heap.size := by
  rcases Nat.lt_or_ge b w.heap.size with h1 | h1
  · exact h1
  · unfold World.cell? at h
    rw [Array.getElem?_eq_none h1] at h
    simp at h
theorem inv_zero {L S : List (List Int)} {n : Nat} (hn : n = L.length) : InvTo L S 0 0 (zerT n) (zerT n) := by
  subst hn
  exact ⟨by simp [zerT], by simp [zerT], fun i hi => by rw [row_zerT hi]; simp, fun i hi => by rw [row_zerT hi]; simp, fun a b _ _ h => by omega⟩

set_option maxRecDepth 100000 in
set_option maxHeartbeats 8000000 in
theorem l02Inverse_any (L S : List (List Int)) (v y : Value) (w : World) (hv : Rows w v L) (hy : Rows w y S) (hO : SolOk L S) :
    Calls Tryz.prog 98 #[.agg #[v, y]] w (RetInvS L S w) := by
  obtain ⟨-, b, o, c, rfl, hvc⟩ := id hv
  obtain ⟨-, b2, o2, c2, rfl, hyc⟩ := id hy
  have h12 := hO.l.2.1
  have h1n := hO.l.1
  have HSL := Lib.hid hO.len
  have HP := Lib.hid hO.pair
  have HO := Lib.hid hO
  rw [hO.len]
  have hx0 : Ext w ((w.alloc (.cells #[.slice (some ⟨b, o, none⟩) L.length c, .slice (some ⟨b2, o2, none⟩) L.length c2] 26)).alloc (.cells #[.slice none 0 0, .slice none 0 0] 26)) := ((Ext.refl _).alloc _).alloc _
  have HR := Lib.hid ((BoxV.new w (.slice (some ⟨b, o, none⟩) L.length c) (.slice (some ⟨b2, o2, none⟩) L.length c2) 26).ext ((Ext.refl _).alloc (.cells #[.slice none 0 0, .slice none 0 0] 26)))
  have HQ : BoxV (w.heap.size + 1) ((w.alloc (.cells #[.slice (some ⟨b, o, none⟩) L.length c, .slice (some ⟨b2, o2, none⟩) L.length c2] 26)).alloc (.cells #[.slice none 0 0, .slice none 0 0] 26)) (.slice none 0 0) (.slice none 0 0) := by
    have h := BoxV.new (w.alloc (.cells #[.slice (some ⟨b, o, none⟩) L.length c, .slice (some ⟨b2, o2, none⟩) L.length c2] 26)) (.slice none 0 0) (.slice none 0 0) 26
    simpa using h
  have HQ := Lib.hid HQ
  have HV := Lib.hid (hvc.ext hx0)
  have HY := Lib.hid (hyc.ext hx0)
  have hz0 : ((w.alloc (.cells #[.slice (some ⟨b, o, none⟩) L.length c, .slice (some ⟨b2, o2, none⟩) L.length c2] 26)).alloc (.cells #[.slice none 0 0, .slice none 0 0] 26)).heap.size = w.heap.size + 2 := by simp
  clear hv hy hvc hyc hO
  obtain ⟨n, hn⟩ : ∃ n, n = L.length := ⟨_, rfl⟩
  rw [← hn] at h12 h1n hx0 HR HQ HV HY hz0 ⊢
  have HN := Lib.hid hn
  clear hn
  have k0 := HR.out.2.1
  have k1 := HR.out.2.2.1
  go_enter Tryz.func98, Tryz.ntmps98
  go_wp2_with fail
  generalize ((w.alloc (.cells #[.slice (some ⟨b, o, none⟩) n c, .slice (some ⟨b2, o2, none⟩) n c2] 26)).alloc (.cells #[.slice none 0 0, .slice none 0 0] 26)) = w0 at *
  refine (l02Empty_any n w0 h1n h12).mono ?_
  rintro e w1 ⟨bA, cA, bB, cB, B, D, rfl, hG, hx1⟩
  have hT0 := hG.two
  have HLT := Lib.hid (show ∀ i, i < n → B i < w1.heap.size ∧ D i < w1.heap.size from fun i hi => ⟨heap_lt (hG.r1 i hi).1, heap_lt (hG.r2 i hi).1⟩)
  have hbA := (hG.o1.lt bA rfl).1
  have hbB := (hG.o2.lt bB rfl).1
  have hT1 := hT0.ext ((Ext.refl w1).alloc (.cells #[.slice (some ⟨bA, 0, none⟩) n cA, .slice (some ⟨bB, 0, none⟩) n cB] 26)) HLT.out
  have hB1 := BoxV.new w1 (.slice (some ⟨bA, 0, none⟩) n cA) (.slice (some ⟨bB, 0, none⟩) n cB) 26
  have hX1 : Ext w0 (w1.alloc (.cells #[.slice (some ⟨bA, 0, none⟩) n cA, .slice (some ⟨bB, 0, none⟩) n cB] 26)) := hx1.alloc _
  have HT1 := Lib.hid hT1
  have HB1 := Lib.hid hB1
  have HX1 := Lib.hid hX1
  have hx1s := hx1.size
  clear hT0 hG hx1 hT1 hB1 hX1 k0 k1
  go_wp2_with fail
  generalize (w1.alloc (.cells #[.slice (some ⟨bA, 0, none⟩) n cA, .slice (some ⟨bB, 0, none⟩) n cB] 26)) = w2 at *
  go_loopw [5] (fun i wr => ∃ (x : Nat) (T U : List (List Int)), x ≤ n ∧ i = .int .i64 x ∧ InvTo L S x 0 T U ∧ TwoM (w0.heap.size + 2) n wr bA bB B D T U ∧ BoxV w1.heap.size wr (.slice (some ⟨bA, 0, none⟩) n cA) (.slice (some ⟨bB, 0, none⟩) n cB) ∧ Ext w0 wr) (fun i _ => n - (intOf i).toNat)
  case atStart => exact ⟨0, _, _, Nat.zero_le _, rfl, inv_zero HN.out, HT1.out, HB1.out, HX1.out⟩
  case round =>
    clear HT1 HB1 HX1
    obtain ⟨x, T, U, hx, rfl, hi, ht, hb, hX⟩ := hrel
    have HI := Lib.hid hi
    have HT := Lib.hid ht
    have HB := Lib.hid hb
    have HX := Lib.hid hX
    clear hi ht hb hX
    by_cases hxl : x < n
    case neg =>
      have hxx : x = n := by omega
      subst hxx
      have hxi : ¬ (x : Int) < (x : Int) := by omega
      obtain ⟨-, q0, q1, q2, q3⟩ := HQ.out.ext HX.out
      obtain ⟨-, p0, p1, p2, p3⟩ := HB.out
      go_wp2
      have hTT := (HT.out.setOther (a := ⟨w.heap.size + 1, 0, none⟩) (by simp only []; omega) (by omega) (by omega) (.slice (some ⟨bA, 0, none⟩) x cA)).setOther (a := ⟨w.heap.size + 1, 1, none⟩) (by simp only []; omega) (by omega) (by omega) (.slice (some ⟨bB, 0, none⟩) x cB)
      have hIN := HI.out
      rw [HN.out] at hIN
      exact bodyPost_ret (v := .agg #[.slice (some ⟨bA, 0, none⟩) x cA, .slice (some ⟨bB, 0, none⟩) x cB]) (by simp [results, Tryz.results98, go_sem, q0, q1]) rfl ⟨bA, cA, bB, cB, T, U, by rw [← HN.out], by rw [← HN.out]; exact hTT.rows (by omega) cA, by rw [← HN.out]; exact hTT.swap.rows (by omega) cB, hIN, ((hx0.trans HX.out).setNew (by simp only []; omega) _).setNew (by simp only []; omega) _⟩
    case pos =>
      have hxi : (x : Int) < (n : Int) := by omega
      go_wp2_with fail
      go_loopw [6] (fun i wr => ∃ (y : Nat) (T U : List (List Int)), y ≤ n ∧ i = .int .i64 y ∧ InvTo L S x y T U ∧ TwoM (w0.heap.size + 2) n wr bA bB B D T U ∧ BoxV w1.heap.size wr (.slice (some ⟨bA, 0, none⟩) n cA) (.slice (some ⟨bB, 0, none⟩) n cB) ∧ Ext w0 wr) (fun i _ => n - (intOf i).toNat)
      case atStart => exact ⟨0, _, _, Nat.zero_le _, rfl, HI.out, HT.out, HB.out, HX.out⟩
      case round =>
        clear HT HB HX HI
        obtain ⟨y, T, U, hy, rfl, hi, ht, hb, hX⟩ := hrel
        have HI := Lib.hid hi
        have HT := Lib.hid ht
        have HB := Lib.hid hb
        have HX := Lib.hid hX
        clear hi ht hb hX
        by_cases hyl : y < n
        case neg =>
          have hyy : y = n := by omega
          subst hyy
          have hyi : ¬ (y : Int) < (y : Int) := by omega
          have hIN := HI.out
          rw [HN.out] at hIN
          have HIN := Lib.hid hIN.next
          clear hIN
          go_wp2
          go_roundw
          case rel => exact ⟨x + 1, T, U, by omega, by go_num, HIN.out, HT.out, HB.out, HX.out⟩
          case measure => simp [intOf]; omega
        case pos =>
          have hyi : (y : Int) < (n : Int) := by omega
          have hxL : x < L.length := by rw [← HN.out]; exact hxl
          have hyL : y < L.length := by rw [← HN.out]; exact hyl
          have HST := Lib.hid (HI.out.step HO.out hxL hyL)
          have hL := HP.out.ln hxL hyL
          have hS := HP.out.sn hxL hyL
          rw [← HN.out] at hL hS
          have HLR := Lib.hid (HP.out.rowL hxL)
          have HSR := Lib.hid (HP.out.rowS hxL)
          obtain ⟨X, hXe⟩ : ∃ q, q = mulN L x y := ⟨_, rfl⟩
          obtain ⟨Z, hZe⟩ : ∃ q, q = mulN S x y := ⟨_, rfl⟩
          rw [← hXe] at hL HST
          rw [← hZe] at hS HST
          have hXl := hL.2
          have hZl := hS.2
          have HF := Lib.hid (show ∀ W, Ext w0 W → ∃ d1 s1 m1 f1 g1 j1, W.cell? ⟨b, o + x, none⟩ = some (.slice (some ⟨d1, s1, none⟩) n m1) ∧ W.cell? ⟨d1, s1 + y, none⟩ = some (.int .i64 X) ∧ W.cell? ⟨b2, o2 + x, none⟩ = some (.slice (some ⟨f1, g1, none⟩) n j1) ∧ W.cell? ⟨f1, g1 + y, none⟩ = some (.int .i64 Z) from fun W hW => by
            obtain ⟨d1, s1, m1, r1, i1, -⟩ := (HV.out.ext hW).get (i := x) hxL
            obtain ⟨f1, g1, j1, t1, u1, -⟩ := (HY.out.ext hW).get (i := x) (by rw [HSL.out]; exact hxL)
            have e1 := i1.ent HLR.out (y := y) hyL
            have e2 := u1.ent HSR.out (y := y) hyL
            rw [HLR.out, ← HN.out] at r1
            rw [HSR.out, ← HN.out] at t1
            rw [hL.1] at e1
            rw [hS.1] at e2
            exact ⟨d1, s1, m1, f1, g1, j1, r1, e1, t1, e2⟩)
          clear hL hS hXe hZe hxL hyL
          obtain ⟨d1, s1, m1, f1, g1, j1, r1, a1, t1, a2⟩ := HF.out _ HX.out
          have k0 := HX.out.cell HR.out.2.1
          have k1 := HX.out.cell HR.out.2.2.1
          obtain ⟨-, p0, p1, -, -⟩ := id HB.out
          have c0 := HT.out.a X hXl
          have c1 := HT.out.b X hXl
          go_wp2
          go_quiet (fail)
          have hq : Ext wr (wr.drewN nq) := (Ext.refl wr).drewN nq
          have hlt : ∀ i, i < n → B i < wr.heap.size ∧ D i < wr.heap.size := fun i hi => ⟨lt_of_block_cells ((HT.out.t i hi).2.1 0 (by omega)) ((HT.out.t i hi).1 0 (by rw [(HT.out.t i hi).2.2.1]; omega)), lt_of_block_cells ((HT.out.u i hi).2.1 0 (by omega)) ((HT.out.u i hi).1 0 (by rw [(HT.out.u i hi).2.2.1]; omega))⟩
          have HT3 := Lib.hid (HT.out.ext hq hlt)
          have HB3 := Lib.hid (HB.out.ext hq)
          have HX3 := Lib.hid (HX.out.trans hq)
          clear hq hlt r1 a1 t1 a2 k0 k1 p0 p1 c0 c1
          generalize wr.drewN nq = wq at *
          obtain ⟨d2, s2, m2, f2, g2, j2, r1, a1, t1, a2⟩ := HF.out _ HX3.out
          have k0 := HX3.out.cell HR.out.2.1
          have k1 := HX3.out.cell HR.out.2.2.1
          have hrow := HT3.out.t X hXl
          have q0 := hrow.1 Z (by rw [hrow.2.2.1]; exact hZl)
          have q1 := hrow.2.1 Z hZl
          have hbX := hrow.2.2.2.1
          have HTL := Lib.hid (HLT.out X hXl)
          rw [Nat.zero_add] at q0 q1
          clear hrow
          go_upto_region 11 with fail
          have HT4 := Lib.hid (HT3.out.put hXl hZl (x : Int))
          have HB4 := Lib.hid (HB3.out.setOther (a := ⟨B X, Z, none⟩) (by have := HTL.out.1; simp only []; omega) (.int .i64 (x : Int)))
          have HX4 := Lib.hid (HX3.out.setNew (p := ⟨B X, Z, none⟩) (by simp only []; omega) (.int .i64 (x : Int)))
          clear r1 a1 t1 a2 k0 k1 q0 q1 hbX HT3 HB3 HX3
          generalize (wq.setCell ⟨B X, Z, none⟩ (.int .i64 (x : Int))) = wp at *
          obtain ⟨d3, s3, m3, f3, g3, j3, r1, a1, t1, a2⟩ := HF.out _ HX4.out
          have k0 := HX4.out.cell HR.out.2.1
          have k1 := HX4.out.cell HR.out.2.2.1
          have hrow := HT4.out.u X hXl
          have q0 := hrow.1 Z (by rw [hrow.2.2.1]; exact hZl)
          have q1 := hrow.2.1 Z hZl
          have hbX := hrow.2.2.2.1
          rw [Nat.zero_add] at q0 q1
          clear hrow
          go_wp2_with fail
          go_roundw
          case rel => exact ⟨y + 1, _, _, by omega, by go_num, HST.out, (HT4.out.swap.put hXl hZl (y : Int)).swap, HB4.out.setOther (by have := HTL.out.2; simp only []; omega) _, HX4.out.setNew (by simp only []; omega) _⟩
          case measure => simp [intOf]; omega
end Go.Proofs.YtjfjpngajboidaaGreat


namespace Go.Proofs.YtjfjpngajboidaaGreat
set_option linter.unusedVariables false
set_option linter.unusedSimpArgs false
open Go.RowKit
open Go.Deep

theorem ownFree {base : Nat} {e : TypeId} {w : World} {g n c : Nat} {xs : List Value} (h : w.ownsRow base e 1 (.slice (some ⟨g, 0, none⟩) n c) n xs) : FreeAt w g 0 n := by
  rcases h.2 with ⟨hv, _⟩ | ⟨g', cap, cur, hv, hb, hg, _⟩
  · cases hv
  · simp only [Value.slice.injEq, Option.some.injEq, Addr.mk.injEq, and_true, true_and] at hv
    obtain ⟨rfl, rfl⟩ := hv
    intro i hi
    simp [World.frozen?, hg]
theorem TwoM.tab {base n : Nat} {w : World} {bA bB : Nat} {B D : Nat → Nat} {T U : List (List Int)} (h : TwoM base n w bA bB B D T U) (hf : FreeAt w bA 0 n) (hn : n ≤ 1048576) (hb : base ≤ bA) (hl : bA < w.heap.size) (hB : ∀ i, i < n → B i < w.heap.size) (c : Nat) : TabF base w (.slice (some ⟨bA, 0, none⟩) n c) T := by
  refine ⟨by rw [h.lt]; exact hn, bA, c, by rw [h.lt], hb, hl, fun i hi => ?_⟩
  rw [h.lt] at hi
  obtain ⟨k1, k2, k3, k4, -⟩ := h.t i hi
  refine ⟨by have := hf i hi; rwa [Nat.zero_add] at this, _, h.a i hi, by rw [k3]; exact hn, B i, n, by rw [k3], k4, hB i hi, fun q => q, k1, by rw [k3]; exact k2⟩
def InT (n : Nat) (T U : List (List Int)) : Prop := ∀ i, i < n → ∀ j, j < n → (0 ≤ ent T i j ∧ ent T i j < n) ∧ (0 ≤ ent U i j ∧ ent U i j < n)
theorem InT.zero {n : Nat} (h : 1 ≤ n) : InT n (zerT n) (zerT n) := fun i hi j hj => by
  have e : ent (zerT n) i j = 0 := by rw [← ent_def, row_zerT hi, ix_eq]; simp [List.getD, hj]
  rw [e]
  omega
theorem ent_setE_in {n : Nat} {T : List (List Int)} {a b : Nat} {x : Int} (hl : T.length = n) (hr : ∀ i, i < n → (row T i).length = n) (ha : a < n) (hb : b < n) (h0 : 0 ≤ x) (h1 : x < n) (h : ∀ i, i < n → ∀ j, j < n → 0 ≤ ent T i j ∧ ent T i j < n) : ∀ i, i < n → ∀ j, j < n → 0 ≤ ent (setE T a b x) i j ∧ ent (setE T a b x) i j < n := fun i hi j hj => by
  rw [← ent_def]
  by_cases e : i = a
  · subst e
    rw [row_setE_same _ _ _ _ (by omega)]
    by_cases e2 : j = b
    · subst e2
      rw [ix_set_eq _ _ _ (by rw [hr i hi]; exact hj)]
      exact ⟨h0, h1⟩
    · rw [ix_set_ne _ _ _ _ e2, ent_def]
      exact h i hi j hj
  · rw [row_setE_other _ _ _ _ _ e, ent_def]
    exact h i hi j hj
theorem InT.step {n : Nat} {T U : List (List Int)} {a b : Nat} {x y : Int} (h : InT n T U) (l1 : T.length = n) (l2 : U.length = n) (r1 : ∀ i, i < n → (row T i).length = n) (r2 : ∀ i, i < n → (row U i).length = n) (ha : a < n) (hb : b < n) (h0 : 0 ≤ x) (h1 : x < n) (h2 : 0 ≤ y) (h3 : y < n) : InT n (setE T a b x) (setE U a b y) := fun i hi j hj =>
  ⟨ent_setE_in l1 r1 ha hb h0 h1 (fun i hi j hj => (h i hi j hj).1) i hi j hj, ent_setE_in l2 r2 ha hb h2 h3 (fun i hi j hj => (h i hi j hj).2) i hi j hj⟩

set_option maxRecDepth 100000 in
set_option maxHeartbeats 8000000 in
theorem l02Inverse_p (L S : List (List Int)) (v y : Value) (w : World) (hv : Rows w v L) (hy : Rows w y S) (hP : PairOk L S) :
    Calls Tryz.prog 98 #[.agg #[v, y]] w (NewS L.length (fun _ _ => True) w) := by
  obtain ⟨-, b, o, c, rfl, hvc⟩ := id hv
  obtain ⟨-, b2, o2, c2, rfl, hyc⟩ := id hy
  have h12 := hP.l.2.1
  have h1n := hP.l.1
  have HSL := Lib.hid hP.len
  have HP := Lib.hid hP
  rw [hP.len]
  have hx0 : Ext w ((w.alloc (.cells #[.slice (some ⟨b, o, none⟩) L.length c, .slice (some ⟨b2, o2, none⟩) L.length c2] 26)).alloc (.cells #[.slice none 0 0, .slice none 0 0] 26)) := ((Ext.refl _).alloc _).alloc _
  have HR := Lib.hid ((BoxV.new w (.slice (some ⟨b, o, none⟩) L.length c) (.slice (some ⟨b2, o2, none⟩) L.length c2) 26).ext ((Ext.refl _).alloc (.cells #[.slice none 0 0, .slice none 0 0] 26)))
  have HQ : BoxV (w.heap.size + 1) ((w.alloc (.cells #[.slice (some ⟨b, o, none⟩) L.length c, .slice (some ⟨b2, o2, none⟩) L.length c2] 26)).alloc (.cells #[.slice none 0 0, .slice none 0 0] 26)) (.slice none 0 0) (.slice none 0 0) := by
    have h := BoxV.new (w.alloc (.cells #[.slice (some ⟨b, o, none⟩) L.length c, .slice (some ⟨b2, o2, none⟩) L.length c2] 26)) (.slice none 0 0) (.slice none 0 0) 26
    simpa using h
  have HQ := Lib.hid HQ
  have HV := Lib.hid (hvc.ext hx0)
  have HY := Lib.hid (hyc.ext hx0)
  have hz0 : ((w.alloc (.cells #[.slice (some ⟨b, o, none⟩) L.length c, .slice (some ⟨b2, o2, none⟩) L.length c2] 26)).alloc (.cells #[.slice none 0 0, .slice none 0 0] 26)).heap.size = w.heap.size + 2 := by simp
  clear hv hy hvc hyc hP
  obtain ⟨n, hn⟩ : ∃ n, n = L.length := ⟨_, rfl⟩
  rw [← hn] at h12 h1n hx0 HR HQ HV HY hz0 ⊢
  have HN := Lib.hid hn
  clear hn
  have k0 := HR.out.2.1
  have k1 := HR.out.2.2.1
  go_enter Tryz.func98, Tryz.ntmps98
  go_wp2_with fail
  generalize ((w.alloc (.cells #[.slice (some ⟨b, o, none⟩) n c, .slice (some ⟨b2, o2, none⟩) n c2] 26)).alloc (.cells #[.slice none 0 0, .slice none 0 0] 26)) = w0 at *
  refine (l02Empty_any n w0 h1n h12).mono ?_
  rintro e w1 ⟨bA, cA, bB, cB, B, D, rfl, hG, hx1⟩
  have hT0 := hG.two
  have HLT := Lib.hid (show ∀ i, i < n → B i < w1.heap.size ∧ D i < w1.heap.size from fun i hi => ⟨heap_lt (hG.r1 i hi).1, heap_lt (hG.r2 i hi).1⟩)
  have hbA := (hG.o1.lt bA rfl).1
  have hbB := (hG.o2.lt bB rfl).1
  have hT1 := hT0.ext ((Ext.refl w1).alloc (.cells #[.slice (some ⟨bA, 0, none⟩) n cA, .slice (some ⟨bB, 0, none⟩) n cB] 26)) HLT.out
  have hB1 := BoxV.new w1 (.slice (some ⟨bA, 0, none⟩) n cA) (.slice (some ⟨bB, 0, none⟩) n cB) 26
  have hX1 : Ext w0 (w1.alloc (.cells #[.slice (some ⟨bA, 0, none⟩) n cA, .slice (some ⟨bB, 0, none⟩) n cB] 26)) := hx1.alloc _
  have HT1 := Lib.hid hT1
  have HB1 := Lib.hid hB1
  have HX1 := Lib.hid hX1
  have HFZ1 := Lib.hid (show FreeAt (w1.alloc (.cells #[.slice (some ⟨bA, 0, none⟩) n cA, .slice (some ⟨bB, 0, none⟩) n cB] 26)) bA 0 n ∧ FreeAt (w1.alloc (.cells #[.slice (some ⟨bA, 0, none⟩) n cA, .slice (some ⟨bB, 0, none⟩) n cB] 26)) bB 0 n from ⟨(ownFree hG.o1).block (((Ext.refl w1).alloc _).block _ (hG.o1.lt bA rfl).2), (ownFree hG.o2).block (((Ext.refl w1).alloc _).block _ (hG.o2.lt bB rfl).2)⟩)
  have hx1s := hx1.size
  clear hT0 hG hx1 hT1 hB1 hX1 k0 k1
  go_wp2_with fail
  generalize (w1.alloc (.cells #[.slice (some ⟨bA, 0, none⟩) n cA, .slice (some ⟨bB, 0, none⟩) n cB] 26)) = w2 at *
  go_loopw [5] (fun i wr => ∃ (x : Nat) (T U : List (List Int)), x ≤ n ∧ i = .int .i64 x ∧ InT n T U ∧ TwoM (w0.heap.size + 2) n wr bA bB B D T U ∧ BoxV w1.heap.size wr (.slice (some ⟨bA, 0, none⟩) n cA) (.slice (some ⟨bB, 0, none⟩) n cB) ∧ (FreeAt wr bA 0 n ∧ FreeAt wr bB 0 n) ∧ Ext w0 wr) (fun i _ => n - (intOf i).toNat)
  case atStart => exact ⟨0, _, _, Nat.zero_le _, rfl, InT.zero h1n, HT1.out, HB1.out, HFZ1.out, HX1.out⟩
  case round =>
    clear HT1 HB1 HX1 HFZ1
    obtain ⟨x, T, U, hx, rfl, hi, ht, hb, hfz, hX⟩ := hrel
    have HFZ := Lib.hid hfz
    have HI := Lib.hid hi
    have HT := Lib.hid ht
    have HB := Lib.hid hb
    have HX := Lib.hid hX
    clear hi ht hb hX hfz
    by_cases hxl : x < n
    case neg =>
      have hxx : x = n := by omega
      subst hxx
      have hxi : ¬ (x : Int) < (x : Int) := by omega
      obtain ⟨-, q0, q1, q2, q3⟩ := HQ.out.ext HX.out
      obtain ⟨-, p0, p1, p2, p3⟩ := HB.out
      go_wp2
      have hcA := World.block_lt_of_cell? _ _ (HT.out.a 0 (by omega))
      have hcB := World.block_lt_of_cell? _ _ (HT.out.b 0 (by omega))
      have hlt : ∀ i, i < x → B i < wr.heap.size ∧ D i < wr.heap.size := fun i hi => ⟨lt_of_block_cells ((HT.out.t i hi).2.1 0 (by omega)) ((HT.out.t i hi).1 0 (by rw [(HT.out.t i hi).2.2.1]; omega)), lt_of_block_cells ((HT.out.u i hi).2.1 0 (by omega)) ((HT.out.u i hi).1 0 (by rw [(HT.out.u i hi).2.2.1]; omega))⟩
      have t1 := HT.out.tab HFZ.out.1 (by omega) (by omega) hcA (fun i hi => (hlt i hi).1) cA
      have t2 := HT.out.swap.tab HFZ.out.2 (by omega) (by omega) hcB (fun i hi => (hlt i hi).2) cB
      refine bodyPost_ret (v := .agg #[.slice (some ⟨bA, 0, none⟩) x cA, .slice (some ⟨bB, 0, none⟩) x cB]) (by simp [results, Tryz.results98, go_sem, q0, q1]) rfl ⟨_, _, T, U, rfl, ((t1.setOut (p := ⟨w.heap.size + 1, 0, none⟩) (show w.heap.size + 1 < _ by omega) _).setOut (p := ⟨w.heap.size + 1, 1, none⟩) (show w.heap.size + 1 < _ by omega) _).low (by omega), ((t2.setOut (p := ⟨w.heap.size + 1, 0, none⟩) (show w.heap.size + 1 < _ by omega) _).setOut (p := ⟨w.heap.size + 1, 1, none⟩) (show w.heap.size + 1 < _ by omega) _).low (by omega), ?_, HT.out.lt, trivial, ((hx0.trans HX.out).setNew (by simp only []; omega) _).setNew (by simp only []; omega) _⟩
      exact ⟨tableOk_of h1n h12 HT.out.lt (fun i hi => (HT.out.t i hi).2.2.1) (fun i hi j hj => by rw [ent_def]; exact (HI.out i hi j hj).1), tableOk_of h1n h12 HT.out.lu (fun i hi => (HT.out.u i hi).2.2.1) (fun i hi j hj => by rw [ent_def]; exact (HI.out i hi j hj).2), by rw [HT.out.lt, HT.out.lu]⟩
    case pos =>
      have hxi : (x : Int) < (n : Int) := by omega
      go_wp2_with fail
      go_loopw [6] (fun i wr => ∃ (y : Nat) (T U : List (List Int)), y ≤ n ∧ i = .int .i64 y ∧ InT n T U ∧ TwoM (w0.heap.size + 2) n wr bA bB B D T U ∧ BoxV w1.heap.size wr (.slice (some ⟨bA, 0, none⟩) n cA) (.slice (some ⟨bB, 0, none⟩) n cB) ∧ (FreeAt wr bA 0 n ∧ FreeAt wr bB 0 n) ∧ Ext w0 wr) (fun i _ => n - (intOf i).toNat)
      case atStart => exact ⟨0, _, _, Nat.zero_le _, rfl, HI.out, HT.out, HB.out, HFZ.out, HX.out⟩
      case round =>
        clear HT HB HX HI HFZ
        obtain ⟨y, T, U, hy, rfl, hi, ht, hb, hfz, hX⟩ := hrel
        have HFZ := Lib.hid hfz
        have HI := Lib.hid hi
        have HT := Lib.hid ht
        have HB := Lib.hid hb
        have HX := Lib.hid hX
        clear hi ht hb hX hfz
        by_cases hyl : y < n
        case neg =>
          have hyy : y = n := by omega
          subst hyy
          have hyi : ¬ (y : Int) < (y : Int) := by omega
          go_wp2
          go_roundw
          case rel => exact ⟨x + 1, T, U, by omega, by go_num, HI.out, HT.out, HB.out, HFZ.out, HX.out⟩
          case measure => simp [intOf]; omega
        case pos =>
          have hyi : (y : Int) < (n : Int) := by omega
          have hxL : x < L.length := by rw [← HN.out]; exact hxl
          have hyL : y < L.length := by rw [← HN.out]; exact hyl
          have hL := HP.out.ln hxL hyL
          have hS := HP.out.sn hxL hyL
          rw [← HN.out] at hL hS
          have HLR := Lib.hid (HP.out.rowL hxL)
          have HSR := Lib.hid (HP.out.rowS hxL)
          obtain ⟨X, hXe⟩ : ∃ q, q = mulN L x y := ⟨_, rfl⟩
          obtain ⟨Z, hZe⟩ : ∃ q, q = mulN S x y := ⟨_, rfl⟩
          rw [← hXe] at hL
          rw [← hZe] at hS
          have hXl := hL.2
          have hZl := hS.2
          have HST := Lib.hid (HI.out.step (x := (x : Int)) (y := (y : Int)) HT.out.lt HT.out.lu (fun i hi => (HT.out.t i hi).2.2.1) (fun i hi => (HT.out.u i hi).2.2.1) hXl hZl (by omega) (by omega) (by omega) (by omega))
          have HF := Lib.hid (show ∀ W, Ext w0 W → ∃ d1 s1 m1 f1 g1 j1, W.cell? ⟨b, o + x, none⟩ = some (.slice (some ⟨d1, s1, none⟩) n m1) ∧ W.cell? ⟨d1, s1 + y, none⟩ = some (.int .i64 X) ∧ W.cell? ⟨b2, o2 + x, none⟩ = some (.slice (some ⟨f1, g1, none⟩) n j1) ∧ W.cell? ⟨f1, g1 + y, none⟩ = some (.int .i64 Z) from fun W hW => by
            obtain ⟨d1, s1, m1, r1, i1, -⟩ := (HV.out.ext hW).get (i := x) hxL
            obtain ⟨f1, g1, j1, t1, u1, -⟩ := (HY.out.ext hW).get (i := x) (by rw [HSL.out]; exact hxL)
            have e1 := i1.ent HLR.out (y := y) hyL
            have e2 := u1.ent HSR.out (y := y) hyL
            rw [HLR.out, ← HN.out] at r1
            rw [HSR.out, ← HN.out] at t1
            rw [hL.1] at e1
            rw [hS.1] at e2
            exact ⟨d1, s1, m1, f1, g1, j1, r1, e1, t1, e2⟩)
          clear hL hS hXe hZe hxL hyL
          obtain ⟨d1, s1, m1, f1, g1, j1, r1, a1, t1, a2⟩ := HF.out _ HX.out
          have k0 := HX.out.cell HR.out.2.1
          have k1 := HX.out.cell HR.out.2.2.1
          obtain ⟨-, p0, p1, -, -⟩ := id HB.out
          have c0 := HT.out.a X hXl
          have c1 := HT.out.b X hXl
          go_wp2
          go_quiet (fail)
          have hq : Ext wr (wr.drewN nq) := (Ext.refl wr).drewN nq
          have hlt : ∀ i, i < n → B i < wr.heap.size ∧ D i < wr.heap.size := fun i hi => ⟨lt_of_block_cells ((HT.out.t i hi).2.1 0 (by omega)) ((HT.out.t i hi).1 0 (by rw [(HT.out.t i hi).2.2.1]; omega)), lt_of_block_cells ((HT.out.u i hi).2.1 0 (by omega)) ((HT.out.u i hi).1 0 (by rw [(HT.out.u i hi).2.2.1]; omega))⟩
          have HT3 := Lib.hid (HT.out.ext hq hlt)
          have HB3 := Lib.hid (HB.out.ext hq)
          have HX3 := Lib.hid (HX.out.trans hq)
          have HFZ3 := Lib.hid (show FreeAt (wr.drewN nq) bA 0 n ∧ FreeAt (wr.drewN nq) bB 0 n from ⟨HFZ.out.1.block (by simp), HFZ.out.2.block (by simp)⟩)
          clear hq hlt r1 a1 t1 a2 k0 k1 p0 p1 c0 c1
          generalize wr.drewN nq = wq at *
          obtain ⟨d2, s2, m2, f2, g2, j2, r1, a1, t1, a2⟩ := HF.out _ HX3.out
          have k0 := HX3.out.cell HR.out.2.1
          have k1 := HX3.out.cell HR.out.2.2.1
          have hrow := HT3.out.t X hXl
          have q0 := hrow.1 Z (by rw [hrow.2.2.1]; exact hZl)
          have q1 := hrow.2.1 Z hZl
          have hbX := hrow.2.2.2.1
          have HTL := Lib.hid (HLT.out X hXl)
          rw [Nat.zero_add] at q0 q1
          clear hrow
          go_upto_region 11 with fail
          have HT4 := Lib.hid (HT3.out.put hXl hZl (x : Int))
          have HB4 := Lib.hid (HB3.out.setOther (a := ⟨B X, Z, none⟩) (by have := HTL.out.1; simp only []; omega) (.int .i64 (x : Int)))
          have HX4 := Lib.hid (HX3.out.setNew (p := ⟨B X, Z, none⟩) (by simp only []; omega) (.int .i64 (x : Int)))
          have HFZ4 := Lib.hid (show FreeAt (wq.setCell ⟨B X, Z, none⟩ (.int .i64 (x : Int))) bA 0 n ∧ FreeAt (wq.setCell ⟨B X, Z, none⟩ (.int .i64 (x : Int))) bB 0 n from ⟨HFZ3.out.1.set _ _, HFZ3.out.2.set _ _⟩)
          clear r1 a1 t1 a2 k0 k1 q0 q1 hbX HT3 HB3 HX3 HFZ3
          generalize (wq.setCell ⟨B X, Z, none⟩ (.int .i64 (x : Int))) = wp at *
          obtain ⟨d3, s3, m3, f3, g3, j3, r1, a1, t1, a2⟩ := HF.out _ HX4.out
          have k0 := HX4.out.cell HR.out.2.1
          have k1 := HX4.out.cell HR.out.2.2.1
          have hrow := HT4.out.u X hXl
          have q0 := hrow.1 Z (by rw [hrow.2.2.1]; exact hZl)
          have q1 := hrow.2.1 Z hZl
          have hbX := hrow.2.2.2.1
          rw [Nat.zero_add] at q0 q1
          clear hrow
          go_wp2_with fail
          go_roundw
          case rel => exact ⟨y + 1, _, _, by omega, by go_num, HST.out, (HT4.out.swap.put hXl hZl (y : Int)).swap, HB4.out.setOther (by have := HTL.out.2; simp only []; omega) _, ⟨HFZ4.out.1.set _ _, HFZ4.out.2.set _ _⟩, HX4.out.setNew (by simp only []; omega) _⟩
          case measure => simp [intOf]; omega
end Go.Proofs.YtjfjpngajboidaaGreat


namespace Go.Proofs.YtjfjpngajboidaaGreat
set_option linter.unusedVariables false
set_option linter.unusedSimpArgs false
open Go.RowKit
attribute [local go_sem ↓] Go.wp_at_zero Go.wp_at_succ
open Go.Deep

theorem atZ {z g n c : Nat} {w : World} {v1 : Value} (h : (Value.slice (some ⟨g, 0, none⟩) n c).ownBlock = v1.ownBlock ∨ (Value.slice (some ⟨g, 0, none⟩) n c).ownBlock = some z) (hz : z = w.heap.size) : v1.ownBlock = some g ∨ g = w.heap.size :=
  h.imp (fun e => e.symm) (fun e => by rw [← hz]; exact Option.some.inj (show some g = some z from e))
theorem cell_newE (w : World) (v : Value) (e : Nat) {n : Nat} (h : n = w.heap.size) : (w.alloc (.cells #[v] e)).cell? ⟨n, 0, none⟩ = some v := by subst h; exact cell_new _ _ _
theorem TwoI.appZ {e base z : Nat} {w w' : World} {v1 v2 v' : Value} {l1 l2 l : List Int} (h : TwoI e base w v1 v2 l1 l2) (hi : GrowI e base w' v' l) (hg : w.grownBy w' v1.ownBlock) (hv : v' ≠ .slice none 0 0) (hb : v'.ownBlock = v1.ownBlock ∨ v'.ownBlock = some z) (hz : z = w.heap.size) : TwoI e base w' v' v2 l l2 := h.app hi hg hv (by rw [← hz]; exact hb)

set_option maxRecDepth 100000 in
set_option maxHeartbeats 4000000 in
theorem l02Polygon_any (n : Nat) (w : World) (h1 : 1 ≤ n) (h12 : n ≤ 12) :
    Calls Tryz.prog 142 #[.int .i64 n] w (NewS n (fun _ _ => True) w) := by
  have hx0 : Ext w ((w.alloc (.cells #[.slice none 0 0, .slice none 0 0] 26)).alloc (.cells #[.slice none 0 0, .slice none 0 0] 26)) := ((Ext.refl _).alloc _).alloc _
  have hR0 := (BoxV.new w (.slice none 0 0) (.slice none 0 0) 26).ext ((Ext.refl _).alloc (.cells #[.slice none 0 0, .slice none 0 0] 26))
  have hB0 : BoxV (w.heap.size + 1) ((w.alloc (.cells #[.slice none 0 0, .slice none 0 0] 26)).alloc (.cells #[.slice none 0 0, .slice none 0 0] 26)) (.slice none 0 0) (.slice none 0 0) := by
    have h := BoxV.new (w.alloc (.cells #[.slice none 0 0, .slice none 0 0] 26)) (.slice none 0 0) (.slice none 0 0) 26
    simpa using h
  have hP0 := PairG.start (lo := w.heap.size + 2) (w0 := w) 27 n hB0 hR0 hx0 (by simp) (by omega) (by omega) (by omega) (by omega) (by omega)
  have HP0 := Lib.hid hP0
  clear hx0 hR0 hB0 hP0
  go_enter Tryz.func142, Tryz.ntmps142
  go_wp2_with fail
  generalize ((w.alloc (.cells #[.slice none 0 0, .slice none 0 0] 26)).alloc (.cells #[.slice none 0 0, .slice none 0 0] 26)) = w0 at *
  go_loopw [4] (fun i wr => ∃ (k : Nat) (v1 v2 : Value) (xs ys : List Value) (t1 t2 : List (List Int)), k ≤ n ∧ i = .int .i64 k ∧ PairG 27 (w.heap.size + 2) w.heap.size (w.heap.size + 1) n k k w wr v1 v2 xs ys t1 t2) (fun i _ => n - (intOf i).toNat)
  case atStart => exact ⟨0, _, _, _, _, _, _, Nat.zero_le _, rfl, HP0.out⟩
  case round =>
    clear HP0
    obtain ⟨k, v1, v2, xs, ys, t1, t2, hk, rfl, hg⟩ := hrel
    obtain ⟨a1, c1, rfl⟩ := hg.sh1
    obtain ⟨a2, c2, rfl⟩ := hg.sh2
    have HG := Lib.hid hg
    have hlo := hg.lo1
    clear hg
    by_cases hlt : k < n
    case neg =>
      have hkk : k = n := by omega
      subst hkk
      have hki : ¬ (k : Int) < (k : Int) := by omega
      obtain ⟨-, q0, q1, q2, q3⟩ := HG.out.bb
      obtain ⟨-, p0, p1, p2, p3⟩ := HG.out.bc
      go_wp2
      obtain ⟨d1, d2, d3, d4, d5⟩ := HG.out.done h1 h12 (.slice a1 k c1) (.slice a2 k c2)
      exact bodyPost_ret (v := .agg #[.slice a1 k c1, .slice a2 k c2]) (by simp [results, Tryz.results142, go_sem, q0, q1]) rfl ⟨_, _, _, _, rfl, d1, d2, d3, d4, trivial, d5⟩
    case pos =>
      have hki : (k : Int) < (n : Int) := by omega
      have hl1 := HG.out.tw.f.lt
      have hl2 := HG.out.tw.s.lt
      obtain ⟨wk, rfl⟩ : ∃ z : World, z = wr := ⟨_, rfl⟩
      go_wp2_with fail
      go_loopw [5, 6, 7] (fun va vb vj wr => ∃ (j : Nat) (l1 l2 : List Int), j ≤ n ∧ vj = .int .i64 j ∧ l1.length = j ∧ l2.length = j ∧ InR n l1 ∧ InR n l2 ∧ TwoI 2 wk.heap.size wr va vb l1 l2 ∧ Ext wk wr) (fun _ _ vj _ => n - (intOf vj).toNat)
      case atStart => exact ⟨0, [], [], Nat.zero_le _, rfl, rfl, rfl, InR.nil _, InR.nil _, TwoI.start 2 rfl (by first | rfl | simp) (Nat.le_refl _), ((Ext.refl _).alloc _).alloc _⟩
      case round =>
        obtain ⟨j, l1, l2, hj, rfl, hn1, hn2, hi1, hi2, hti, hxj⟩ := hrel
        have HTI := Lib.hid hti
        have HI1 := Lib.hid hi1
        have HI2 := Lib.hid hi2
        have HXJ := Lib.hid hxj
        have HN1 := Lib.hid hn1
        have HN2 := Lib.hid hn2
        have hzx : wk.heap.size ≤ wr.heap.size := Below.size hxj
        clear hti hi1 hi2 hxj hn1 hn2
        by_cases hjl : j < n
        case pos =>
          have hji : (j : Int) < (n : Int) := by omega
          have hV0 : 0 ≤ (2 * (k : Int) - j) % n := Int.emod_nonneg _ (by omega)
          have hV1 : (2 * (k : Int) - j) % n < n := Int.emod_lt_of_pos _ (by omega)
          go_wp2_with (at_builtin; refine wpList_append_int_at rfl _ _ 27 2 rfl Tryz.underlying27 infoInt wk.heap.size _ l1 rfl (HTI.out.g1.alloc _) _ _ rfl (cell_new _ _ _) (by rw [HN1.out]; omega) (by simp; omega) ?_)
          intro v' w3 hi3 hgr hv3 hbl
          have hti3 := (HTI.out.ext ((Ext.refl wr).alloc _)).appZ hi3 hgr hv3 hbl (by simp)
          have hx3 : Ext wk w3 := (HXJ.out.trans ((Ext.refl wr).alloc _)).grown hgr (HTI.out.g1.alloc _) (Nat.le_refl _)
          have HI3 := Lib.hid (HI1.out.app hV0 hV1)
          have HL3 := Lib.hid (show (l1 ++ [(2 * (k : Int) - j) % n]).length = j + 1 by rw [List.length_append, HN1.out]; rfl)
          have HT3 := Lib.hid hti3.swap
          have HX3 := Lib.hid hx3
          have hz3 : wk.heap.size ≤ w3.heap.size := Below.size hx3
          clear hti3 hi3 hgr hbl hv3 hx3 HTI HXJ
          go_wp2_with (at_builtin; refine wpList_append_int_at rfl _ _ 27 2 rfl Tryz.underlying27 infoInt wk.heap.size _ l2 rfl (HT3.out.g1.alloc _) _ _ rfl (cell_new _ _ _) (by rw [HN2.out]; omega) (by simp; omega) ?_)
          intro v4 w4 hi4 hgr hv4 hbl
          have hti4 := (HT3.out.ext ((Ext.refl w3).alloc _)).appZ hi4 hgr hv4 hbl (by simp)
          have hx4 : Ext wk w4 := (HX3.out.trans ((Ext.refl w3).alloc _)).grown hgr (HT3.out.g1.alloc _) (Nat.le_refl _)
          have HI4 := Lib.hid (HI2.out.app (x := (k : Int)) (by omega) (by omega))
          have HL4 := Lib.hid (show (l2 ++ [(k : Int)]).length = j + 1 by rw [List.length_append, HN2.out]; rfl)
          have HT4 := Lib.hid hti4.swap
          have HX4 := Lib.hid hx4
          clear hti4 hi4 hgr hbl hv4 hx4 HT3 HX3
          go_wp2
          go_roundw
          case rel => exact ⟨j + 1, _, _, by omega, by go_num, HL3.out, HL4.out, HI3.out, HI4.out, HT4.out, HX4.out⟩
          case measure => simp [intOf]; omega
        case neg =>
          have hji : ¬ (j : Int) < (n : Int) := by omega
          have hjn : j = n := by omega
          rw [hjn] at HN1 HN2
          have hr1 := RF.of HTI.out.g1 HTI.out.n1 (by rw [HN1.out]; omega)
          have hr2 := RF.of HTI.out.g2 HTI.out.n2 (by rw [HN2.out]; omega)
          obtain ⟨ba, ca, rfl, -⟩ := HTI.out.g1.row HTI.out.n1
          obtain ⟨bb, cb, rfl, -⟩ := HTI.out.g2.row HTI.out.n2
          rw [HN1.out] at hr1
          rw [HN2.out] at hr2
          have hab : ba ≠ bb := fun e => HTI.out.ne ba rfl (by rw [e]; rfl)
          have ha1 := hr1.atS
          have hb1 := hr2.atS
          have HR1 := Lib.hid hr1
          have HR2 := Lib.hid hr2
          have HG2 := Lib.hid (HG.out.ext HXJ.out)
          rw [HN1.out, HN2.out]
          clear hr1 hr2 HG HTI HN1 HN2 hjn
          obtain ⟨hblt, p0, p1, p2, p3⟩ := HG2.out.bc
          have hO1 := HG2.out.own1
          have hlo2 := HG2.out.lo1
          have hxb := ext_box wr (.slice (some ⟨ba, 0, none⟩) n ca) 27
          have hna1 : (Value.slice a1 k c1).ownBlock ≠ some ba := fun e => by have := (hl1 _ e).2; omega
          have hna2 : (Value.slice a2 k c2).ownBlock ≠ some ba := fun e => by have := (hl2 _ e).2; omega
          have hnb2 : (Value.slice a2 k c2).ownBlock ≠ some bb := fun e => by have := (hl2 _ e).2; omega
          go_wp2_with (at_builtin; refine wpList_append_one rfl _ _ 24 27 rfl Tryz.underlying24 infoSl (w.heap.size + 2) _ k xs rfl (ownsRow_ext hO1 hxb) _ _ (show Value.oneCell' (.slice _ _ _) = true from rfl) rfl (cell_new _ _ _) (by omega) (by simp; omega) ?_)
          intro v' w8 hown8 hgr8 hv8 hbl8
          obtain ⟨g8, cap8, rfl⟩ : ∃ g8 cap8, v' = .slice (some ⟨g8, 0, none⟩) (k + 1) cap8 := by
            rcases hown8.2 with ⟨h, _⟩ | ⟨g8, cap8, cur, h, _⟩
            · exact absurd h hv8
            · exact ⟨g8, cap8, h⟩
          have hat8 := atZ (z := wr.heap.size + 1) (w := wr.alloc (.cells #[.slice (some ⟨ba, 0, none⟩) n ca] 27)) hbl8 (by simp)
          obtain ⟨hB8, hP8⟩ := HG2.out.app1 hxb (HR1.out.extS hxb) HI1.out hna1 hna2 hlo hown8 hgr8 hat8
          have hgb8 : g8 ≠ bb := gne hat8 (fun q e => (hl1 q e).2) ⟨hb1.1, hb1.2.1⟩ (by simp)
          have HRB := Lib.hid (((HR2.out.extS hxb).far hgr8 (fun q e => (hl1 q e).2)).setOut (a := ⟨w.heap.size + 1, 0, none⟩) (show w.heap.size + 1 < wk.heap.size by omega) (.slice (some ⟨g8, 0, none⟩) (k + 1) cap8))
          have HP8 := Lib.hid hP8
          obtain ⟨-, s0, s1, s2, s3⟩ := hB8
          clear hP8 hown8 hgr8 hv8 hbl8 hat8 hxb hO1 HG2 HR1 HR2
          have hO2 := HP8.out.own2
          have hlo8 := HP8.out.lo1
          obtain ⟨-, q0, q1, q2, q3⟩ := HP8.out.bc
          have hxb := ext_box (w8.setCell ⟨w.heap.size + 1, 0, none⟩ (.slice (some ⟨g8, 0, none⟩) (k + 1) cap8)) (.slice (some ⟨bb, 0, none⟩) n cb) 27
          have hlz : w.heap.size + 2 ≤ w8.heap.size := by simpa using hlo8
          go_wp2_with (at_builtin; refine wpList_append_one rfl _ _ 24 27 rfl Tryz.underlying24 infoSl (w.heap.size + 2) _ k ys rfl (ownsRow_ext hO2 hxb) _ _ (show Value.oneCell' (.slice _ _ _) = true from rfl) rfl (cell_newE _ _ _ (by simp)) (by omega) (by simp; omega) ?_)
          intro v' w9 hown9 hgr9 hv9 hbl9
          obtain ⟨g9, cap9, rfl⟩ : ∃ g9 cap9, v' = .slice (some ⟨g9, 0, none⟩) (k + 1) cap9 := by
            rcases hown9.2 with ⟨h, _⟩ | ⟨g9, cap9, cur, h, _⟩
            · exact absurd h hv9
            · exact ⟨g9, cap9, h⟩
          have hat9 := atZ (z := w8.heap.size + 1) (w := (w8.setCell ⟨w.heap.size + 1, 0, none⟩ (.slice (some ⟨g8, 0, none⟩) (k + 1) cap8)).alloc (.cells #[.slice (some ⟨bb, 0, none⟩) n cb] 27)) hbl9 (by simp)
          obtain ⟨hB9, hP9⟩ := HP8.out.app2 hxb (HRB.out.extS hxb) HI2.out (fun e => hgb8 (Option.some.inj (show some g8 = some bb from e))) hnb2 hlo hown9 hgr9 hat9
          have HP9 := Lib.hid hP9
          obtain ⟨-, r0, r1, r2, r3⟩ := hB9
          clear hP9 hown9 hgr9 hv9 hbl9 hat9 hxb hO2 HP8 HRB q0 q1 q2 q3 s0 s1 s2 s3
          go_wp2
          go_roundw
          case rel => exact ⟨k + 1, _, _, _, _, _, _, by omega, by go_num, HP9.out⟩
          case measure => simp [intOf]; omega

set_option maxRecDepth 100000 in
set_option maxHeartbeats 1000000 in
theorem l02Flip_any (n : Nat) (w : World) (h1 : 1 ≤ n) (h12 : n ≤ 12) :
    Calls Tryz.prog 118 #[.int .i64 n] w (NewS n (fun T U => T = twA (idL n) n ∧ U = twB n (idL n) n) w) := by
  have hx0 : Ext w (w.alloc (.cells #[.slice none 0 0, .slice none 0 0] 26)) := (Ext.refl _).alloc _
  have hR0 := BoxV.new w (.slice none 0 0) (.slice none 0 0) 26
  have hid : ∀ x, x < n → 0 ≤ ix (idL n) x ∧ ix (idL n) x < n := fun x hx => by rw [ix_idL _ _ hx]; omega
  have HID := Lib.hid hid
  clear hid
  go_enter Tryz.func118, Tryz.ntmps118
  go_wp2_with fail
  generalize (w.alloc (.cells #[.slice none 0 0, .slice none 0 0] 26)) = w0 at *
  refine (l01Unit_any n _ (by omega)).mono ?_
  rintro e w1 ⟨b, c, rfl, hg, hx1⟩
  have hin := hg.ints (by rw [length_idL]; omega) (by simp)
  have HIN := Lib.hid hin
  have HR1 := Lib.hid (hR0.ext hx1)
  have HX1 := Lib.hid (hx0.trans hx1)
  clear hin hg hx1 hR0 hx0
  go_wp2_with fail
  refine (l02Twist_any n (idL n) (idL n) _ _ _ HIN.out HIN.out h1 h12 (length_idL n) (length_idL n) HID.out HID.out).mono ?_
  rintro e w2 ⟨v, y, T, U, rfl, ht, hu, hok, hl, hrr, hx2⟩
  obtain ⟨-, q0, q1, q2, q3⟩ := HR1.out.ext hx2
  obtain ⟨-, b1, d1, rfl, -⟩ := id ht
  obtain ⟨-, b2, d2, rfl, -⟩ := id hu
  have hlo : w.heap.size < w1.heap.size := HR1.out.1
  have HT := Lib.hid (((ht.setOut (p := ⟨w.heap.size, 0, none⟩) hlo (.slice (some ⟨b1, 0, none⟩) T.length d1)).setOut (p := ⟨w.heap.size, 1, none⟩) hlo (.slice (some ⟨b2, 0, none⟩) U.length d2)).low (base' := w.heap.size) (by omega))
  have HU := Lib.hid (((hu.setOut (p := ⟨w.heap.size, 0, none⟩) hlo (.slice (some ⟨b1, 0, none⟩) T.length d1)).setOut (p := ⟨w.heap.size, 1, none⟩) hlo (.slice (some ⟨b2, 0, none⟩) U.length d2)).low (base' := w.heap.size) (by omega))
  have HOK := Lib.hid hok
  have HL := Lib.hid hl
  have HRR := Lib.hid hrr
  clear ht hu hok hl hrr
  go_wp2
  exact bodyPost_ret (v := .agg #[.slice (some ⟨b1, 0, none⟩) T.length d1, .slice (some ⟨b2, 0, none⟩) U.length d2]) (by simp [results, Tryz.results118, go_sem, q0, q1]) rfl ⟨_, _, T, U, rfl, HT.out, HU.out, HOK.out, HL.out, HRR.out, ((HX1.out.trans hx2).setNew (Nat.le_refl _) _).setNew (Nat.le_refl _) _⟩
end Go.Proofs.YtjfjpngajboidaaGreat


namespace Go.Proofs.YtjfjpngajboidaaGreat
set_option linter.unusedVariables false
set_option linter.unusedSimpArgs false
open Go.RowKit
attribute [local go_sem ↓] Go.wp_at_zero Go.wp_at_succ
open Go.Deep

def K4 (W b1 o1 c1 b2 o2 c2 n b3 o3 c3 b4 o4 c4 m : Nat) (w' : World) : Prop := w'.cell? ⟨W, 0, none⟩ = some (.slice (some ⟨b1, o1, none⟩) n c1) ∧ w'.cell? ⟨W, 1, none⟩ = some (.slice (some ⟨b2, o2, none⟩) n c2) ∧ w'.cell? ⟨W + 1, 0, none⟩ = some (.slice (some ⟨b3, o3, none⟩) m c3) ∧ w'.cell? ⟨W + 1, 1, none⟩ = some (.slice (some ⟨b4, o4, none⟩) m c4)
theorem K4.ext {W b1 o1 c1 b2 o2 c2 n b3 o3 c3 b4 o4 c4 m : Nat} {w w' : World} (h : K4 W b1 o1 c1 b2 o2 c2 n b3 o3 c3 b4 o4 c4 m w) (hx : Ext w w') : K4 W b1 o1 c1 b2 o2 c2 n b3 o3 c3 b4 o4 c4 m w' := ⟨hx.cell h.1, hx.cell h.2.1, hx.cell h.2.2.1, hx.cell h.2.2.2⟩
theorem K4.keep {W b1 o1 c1 b2 o2 c2 n b3 o3 c3 b4 o4 c4 m : Nat} {w w' : World} (h : K4 W b1 o1 c1 b2 o2 c2 n b3 o3 c3 b4 o4 c4 m w) (hk : ∀ (p : Addr) v, p.block < W + 2 → w.cell? p = some v → w'.cell? p = some v) : K4 W b1 o1 c1 b2 o2 c2 n b3 o3 c3 b4 o4 c4 m w' :=
  ⟨hk _ _ (by simp only []; omega) h.1, hk _ _ (by simp only []; omega) h.2.1, hk _ _ (by simp only []; omega) h.2.2.1, hk _ _ (by simp only []; omega) h.2.2.2⟩

theorem rdT {w : World} {b o n x y : Nat} {T : List (List Int)} (h : RowsAt w b o T) (hT : TableOk T) (hn : n = T.length) (hx : x < n) (hy : y < n) : ∃ (d s c : Nat) (E : Int), 0 ≤ E ∧ E < n ∧ ∀ w', Ext w w' → w'.cell? ⟨b, o + x, none⟩ = some (.slice (some ⟨d, s, none⟩) n c) ∧ w'.cell? ⟨d, s + y, none⟩ = some (.int .i64 E) := by
  subst hn
  obtain ⟨d, s, c, r, i, -⟩ := h.get hx
  have hl := hT.len hx
  rw [hl] at r
  have hb := hT.bd hx hy
  exact ⟨d, s, c, ent T x y, by omega, by omega, fun w' hw => ⟨hw.cell r, hw.cell (i.ent hl hy)⟩⟩

set_option maxRecDepth 100000 in
set_option maxHeartbeats 8000000 in
theorem l02Union_any (L S L2 S2 : List (List Int)) (v y v' y' : Value) (w : World) (hv : Rows w v L) (hy : Rows w y S) (hv' : Rows w v' L2) (hy' : Rows w y' S2) (hP : PairOk L S) (hP2 : PairOk L2 S2) (N : Nat) (hN : N = L.length + L2.length) (h12 : N ≤ 12) :
    Calls Tryz.prog 145 #[.agg #[v, y], .agg #[v', y']] w (NewS N (fun _ _ => True) w) := by
  obtain ⟨-, b1, o1, c1, rfl, hvc⟩ := id hv
  obtain ⟨-, b2, o2, c2, rfl, hyc⟩ := id hy
  obtain ⟨-, b3, o3, c3, rfl, hvc'⟩ := id hv'
  obtain ⟨-, b4, o4, c4, rfl, hyc'⟩ := id hy'
  obtain ⟨n, hn⟩ : ∃ n, n = L.length := ⟨_, rfl⟩
  obtain ⟨m, hm⟩ : ∃ m, m = L2.length := ⟨_, rfl⟩
  have h1n : 1 ≤ n := by rw [hn]; exact hP.l.1
  have h1m : 1 ≤ m := by rw [hm]; exact hP2.l.1
  have hn12 : n ≤ 12 := by rw [hn]; exact hP.l.2.1
  have hm12 : m ≤ 12 := by rw [hm]; exact hP2.l.2.1
  rw [hP.len, hP2.len, ← hn, ← hm]
  rw [← hn, ← hm] at hN
  have HVC := Lib.hid hvc
  have HYC := Lib.hid hyc
  have HVC' := Lib.hid hvc'
  have HYC' := Lib.hid hyc'
  have HP := Lib.hid hP
  have HP2 := Lib.hid hP2
  have HLN := Lib.hid hn
  have HLM := Lib.hid hm
  have hx0 : Ext w (((w.alloc (.cells #[.slice (some ⟨b1, o1, none⟩) n c1, .slice (some ⟨b2, o2, none⟩) n c2] 26)).alloc (.cells #[.slice (some ⟨b3, o3, none⟩) m c3, .slice (some ⟨b4, o4, none⟩) m c4] 26)).alloc (.cells #[.slice none 0 0, .slice none 0 0] 26)) := (((Ext.refl _).alloc _).alloc _).alloc _
  have k0 : (((w.alloc (.cells #[.slice (some ⟨b1, o1, none⟩) n c1, .slice (some ⟨b2, o2, none⟩) n c2] 26)).alloc (.cells #[.slice (some ⟨b3, o3, none⟩) m c3, .slice (some ⟨b4, o4, none⟩) m c4] 26)).alloc (.cells #[.slice none 0 0, .slice none 0 0] 26)).cell? ⟨w.heap.size, 0, none⟩ = some (.slice (some ⟨b1, o1, none⟩) n c1) := kc_alloc (kc_alloc (cell_new2a w _ _ _))
  have k1 : (((w.alloc (.cells #[.slice (some ⟨b1, o1, none⟩) n c1, .slice (some ⟨b2, o2, none⟩) n c2] 26)).alloc (.cells #[.slice (some ⟨b3, o3, none⟩) m c3, .slice (some ⟨b4, o4, none⟩) m c4] 26)).alloc (.cells #[.slice none 0 0, .slice none 0 0] 26)).cell? ⟨w.heap.size, 1, none⟩ = some (.slice (some ⟨b2, o2, none⟩) n c2) := kc_alloc (kc_alloc (cell_new2b w _ _ _))
  have k2 : (((w.alloc (.cells #[.slice (some ⟨b1, o1, none⟩) n c1, .slice (some ⟨b2, o2, none⟩) n c2] 26)).alloc (.cells #[.slice (some ⟨b3, o3, none⟩) m c3, .slice (some ⟨b4, o4, none⟩) m c4] 26)).alloc (.cells #[.slice none 0 0, .slice none 0 0] 26)).cell? ⟨w.heap.size + 1, 0, none⟩ = some (.slice (some ⟨b3, o3, none⟩) m c3) := kc_alloc (kc_newEa (by simp))
  have k3 : (((w.alloc (.cells #[.slice (some ⟨b1, o1, none⟩) n c1, .slice (some ⟨b2, o2, none⟩) n c2] 26)).alloc (.cells #[.slice (some ⟨b3, o3, none⟩) m c3, .slice (some ⟨b4, o4, none⟩) m c4] 26)).alloc (.cells #[.slice none 0 0, .slice none 0 0] 26)).cell? ⟨w.heap.size + 1, 1, none⟩ = some (.slice (some ⟨b4, o4, none⟩) m c4) := kc_alloc (kc_newEb (by simp))
  have hR0 : BoxV (w.heap.size + 2) (((w.alloc (.cells #[.slice (some ⟨b1, o1, none⟩) n c1, .slice (some ⟨b2, o2, none⟩) n c2] 26)).alloc (.cells #[.slice (some ⟨b3, o3, none⟩) m c3, .slice (some ⟨b4, o4, none⟩) m c4] 26)).alloc (.cells #[.slice none 0 0, .slice none 0 0] 26)) (.slice none 0 0) (.slice none 0 0) := by
    have h := BoxV.new ((w.alloc (.cells #[.slice (some ⟨b1, o1, none⟩) n c1, .slice (some ⟨b2, o2, none⟩) n c2] 26)).alloc (.cells #[.slice (some ⟨b3, o3, none⟩) m c3, .slice (some ⟨b4, o4, none⟩) m c4] 26)) (.slice none 0 0) (.slice none 0 0) 26
    simpa using h
  have hz0 : (((w.alloc (.cells #[.slice (some ⟨b1, o1, none⟩) n c1, .slice (some ⟨b2, o2, none⟩) n c2] 26)).alloc (.cells #[.slice (some ⟨b3, o3, none⟩) m c3, .slice (some ⟨b4, o4, none⟩) m c4] 26)).alloc (.cells #[.slice none 0 0, .slice none 0 0] 26)).heap.size = w.heap.size + 3 := by simp
  clear hv hy hv' hy' hP hP2 hn hm hvc hyc hvc' hyc'
  go_enter Tryz.func145, Tryz.ntmps145
  go_wp2_with fail
  generalize (((w.alloc (.cells #[.slice (some ⟨b1, o1, none⟩) n c1, .slice (some ⟨b2, o2, none⟩) n c2] 26)).alloc (.cells #[.slice (some ⟨b3, o3, none⟩) m c3, .slice (some ⟨b4, o4, none⟩) m c4] 26)).alloc (.cells #[.slice none 0 0, .slice none 0 0] 26)) = wa at *
  go_quiet (fail)
  have hz1 : (wa.drewN nq).heap.size = w.heap.size + 3 := by simpa using hz0
  have hxq : Ext wa (wa.drewN nq) := (Ext.refl wa).drewN nq
  replace hx0 := hx0.trans hxq
  replace hR0 := hR0.ext hxq
  replace k0 := hxq.cell k0
  replace k1 := hxq.cell k1
  replace k2 := hxq.cell k2
  replace k3 := hxq.cell k3
  clear hxq hz0
  generalize (wa.drewN nq) = wb at *
  have hxo : Ext wb (wb.alloc (.cells #[.slice none 0 0, .slice none 0 0] 26)) := (Ext.refl wb).alloc _
  have hB0 : BoxV (w.heap.size + 3) (wb.alloc (.cells #[.slice none 0 0, .slice none 0 0] 26)) (.slice none 0 0) (.slice none 0 0) := by
    have h := BoxV.new wb (.slice none 0 0) (.slice none 0 0) 26
    rwa [hz1] at h
  have hP0 := PairG.start (lo := w.heap.size + 4) (w0 := w) 27 N hB0 (hR0.ext hxo) (hx0.trans hxo) (by simp; omega) (by omega) (by omega) (by omega) (by omega) (by omega)
  have HP0 := Lib.hid hP0
  have HNN := Lib.hid hN
  have HNI := Lib.hid (show (N : Int) = (n : Int) + (m : Int) from by rw [hN]; simp)
  have h1 : 1 ≤ N := by omega
  clear hN
  have HK0 := Lib.hid (show K4 w.heap.size b1 o1 c1 b2 o2 c2 n b3 o3 c3 b4 o4 c4 m _ from ⟨hxo.cell k0, hxo.cell k1, hxo.cell k2, hxo.cell k3⟩)
  have HXW := Lib.hid hx0
  have HXO := Lib.hid hxo
  clear hx0 hR0 hB0 hP0 k0 k1 k2 k3
  go_wp2_with fail
  generalize (wb.alloc (.cells #[.slice none 0 0, .slice none 0 0] 26)) = w0 at *
  go_loopw [8] (fun i wr => ∃ (k : Nat) (v1 v2 : Value) (xs ys : List Value) (t1 t2 : List (List Int)), k ≤ N ∧ i = .int .i64 k ∧ PairG 27 (w.heap.size + 4) (w.heap.size + 2) (w.heap.size + 3) N k k w wr v1 v2 xs ys t1 t2 ∧ K4 w.heap.size b1 o1 c1 b2 o2 c2 n b3 o3 c3 b4 o4 c4 m wr) (fun i _ => N - (intOf i).toNat)
  case atStart => exact ⟨0, _, _, _, _, _, _, Nat.zero_le _, rfl, HP0.out, HK0.out⟩
  case round =>
    clear HP0 HK0
    obtain ⟨k, v1, v2, xs, ys, t1, t2, hk, rfl, hg, hk4⟩ := hrel
    have HK := Lib.hid hk4
    clear hk4
    obtain ⟨a1, d1, rfl⟩ := hg.sh1
    obtain ⟨a2, d2, rfl⟩ := hg.sh2
    have HG := Lib.hid hg
    have hlo := hg.lo1
    clear hg
    by_cases hlt : k < N
    case neg =>
      have hkk : k = N := by omega
      rw [hkk] at HG
      rw [hkk]
      have hki : ¬ (N : Int) < (n : Int) + (m : Int) := by rw [← HNI.out]; omega
      obtain ⟨-, q0, q1, q2, q3⟩ := HG.out.bb
      obtain ⟨-, p0, p1, p2, p3⟩ := HG.out.bc
      go_wp2
      obtain ⟨q4, q5, q6, q7, q8⟩ := HG.out.done h1 h12 (.slice a1 N d1) (.slice a2 N d2)
      exact bodyPost_ret (v := .agg #[.slice a1 N d1, .slice a2 N d2]) (by simp [results, Tryz.results145, go_sem, q0, q1]) rfl ⟨_, _, _, _, rfl, q4, q5, q6, q7, trivial, q8⟩
    case pos =>
      have hki : (k : Int) < (n : Int) + (m : Int) := by rw [← HNI.out]; omega
      have hl1 := HG.out.tw.f.lt
      have hl2 := HG.out.tw.s.lt
      obtain ⟨wk, rfl⟩ : ∃ z : World, z = wr := ⟨_, rfl⟩
      go_wp2_with fail
      go_loopw [9, 10, 11] (fun va vb vj wr => ∃ (j : Nat) (l1 l2 : List Int), j ≤ N ∧ vj = .int .i64 j ∧ l1.length = j ∧ l2.length = j ∧ InR N l1 ∧ InR N l2 ∧ TwoI 2 wk.heap.size wr va vb l1 l2 ∧ Ext wk wr) (fun _ _ vj _ => N - (intOf vj).toNat)
      case atStart => exact ⟨0, [], [], Nat.zero_le _, rfl, rfl, rfl, InR.nil _, InR.nil _, TwoI.start 2 rfl (by first | rfl | simp) (Nat.le_refl _), ((Ext.refl _).alloc _).alloc _⟩
      case round =>
        obtain ⟨j, l1, l2, hj, rfl, hn1, hn2, hi1, hi2, hti, hxj⟩ := hrel
        have HTI := Lib.hid hti
        have HI1 := Lib.hid hi1
        have HI2 := Lib.hid hi2
        have HXJ := Lib.hid hxj
        have HN1 := Lib.hid hn1
        have HN2 := Lib.hid hn2
        have hzx : wk.heap.size ≤ wr.heap.size := Below.size hxj
        clear hti hi1 hi2 hxj hn1 hn2
        by_cases hjl : j < N
        case pos =>
          have hji : (j : Int) < (n : Int) + (m : Int) := by rw [← HNI.out]; omega
          have hji : (j : Int) < (n : Int) + (m : Int) := by rw [← HNI.out]; omega
          by_cases hkn : k < n
          · have hkni : (k : Int) < (n : Int) := by omega
            have hkng : ¬ (n : Int) ≤ (k : Int) := by omega
            by_cases hjn : j < n
            · have hjni : (j : Int) < (n : Int) := by omega
              obtain ⟨_, _, _, A, hA0, hA1, hrd⟩ := rdT (x := k) (y := j) HVC.out HP.out.l HLN.out (by omega) (by omega)
              have HRA := Lib.hid hrd
              clear hrd
              obtain ⟨_, _, _, B, hB0, hB1, hrd⟩ := rdT (x := k) (y := j) HYC.out HP.out.s (HLN.out.trans HP.out.len.symm) (by omega) (by omega)
              have HRB := Lib.hid hrd
              clear hrd
              obtain ⟨k0, k1, k2, k3⟩ := HK.out.ext HXJ.out
              obtain ⟨r1, e1⟩ := HRA.out wr (HG.out.x0.trans HXJ.out)
              go_wp2_with (at_builtin; refine wpList_append_int_at rfl _ _ 27 2 rfl Tryz.underlying27 infoInt wk.heap.size _ l1 rfl (HTI.out.g1.alloc _) _ _ rfl (cell_new _ _ _) (by rw [HN1.out]; omega) (by simp; omega) ?_)
              intro v' w3 hi3 hgr hv3 hbl
              have hti3 := (HTI.out.ext ((Ext.refl wr).alloc _)).appZ hi3 hgr hv3 hbl (by simp)
              have hx3 : Ext wk w3 := (HXJ.out.trans ((Ext.refl wr).alloc _)).grown hgr (HTI.out.g1.alloc _) (Nat.le_refl _)
              have HI3 := Lib.hid (HI1.out.app (x := A) hA0 (by rw [HNN.out]; omega))
              have HL3 := Lib.hid (show (l1 ++ [A]).length = j + 1 by rw [List.length_append, HN1.out]; rfl)
              have HT3 := Lib.hid hti3.swap
              have HX3 := Lib.hid hx3
              have hz3 : wk.heap.size ≤ w3.heap.size := Below.size hx3
              clear hti3 hi3 hgr hbl hv3 hx3 HTI HXJ
              clear k0 k1 k2 k3 r1 e1
              obtain ⟨k0, k1, k2, k3⟩ := HK.out.ext HX3.out
              obtain ⟨r1, e1⟩ := HRB.out w3 (HG.out.x0.trans HX3.out)
              go_wp2_with (at_builtin; refine wpList_append_int_at rfl _ _ 27 2 rfl Tryz.underlying27 infoInt wk.heap.size _ l2 rfl (HT3.out.g1.alloc _) _ _ rfl (cell_new _ _ _) (by rw [HN2.out]; omega) (by simp; omega) ?_)
              intro v4 w4 hi4 hgr hv4 hbl
              have hti4 := (HT3.out.ext ((Ext.refl w3).alloc _)).appZ hi4 hgr hv4 hbl (by simp)
              have hx4 : Ext wk w4 := (HX3.out.trans ((Ext.refl w3).alloc _)).grown hgr (HT3.out.g1.alloc _) (Nat.le_refl _)
              have HI4 := Lib.hid (HI2.out.app (x := B) hB0 (by rw [HNN.out]; omega))
              have HL4 := Lib.hid (show (l2 ++ [B]).length = j + 1 by rw [List.length_append, HN2.out]; rfl)
              have HT4 := Lib.hid hti4.swap
              have HX4 := Lib.hid hx4
              clear hti4 hi4 hgr hbl hv4 hx4 HT3 HX3
              go_wp2
              go_roundw
              case rel => exact ⟨j + 1, _, _, by omega, by go_num, HL3.out, HL4.out, HI3.out, HI4.out, HT4.out, HX4.out⟩
              case measure => simp [intOf]; omega
            · have hjni : ¬ (j : Int) < (n : Int) := by omega
              go_wp2_with (at_builtin; refine wpList_append_int_at rfl _ _ 27 2 rfl Tryz.underlying27 infoInt wk.heap.size _ l1 rfl (HTI.out.g1.alloc _) _ _ rfl (cell_new _ _ _) (by rw [HN1.out]; omega) (by simp; omega) ?_)
              intro v' w3 hi3 hgr hv3 hbl
              have hti3 := (HTI.out.ext ((Ext.refl wr).alloc _)).appZ hi3 hgr hv3 hbl (by simp)
              have hx3 : Ext wk w3 := (HXJ.out.trans ((Ext.refl wr).alloc _)).grown hgr (HTI.out.g1.alloc _) (Nat.le_refl _)
              have HI3 := Lib.hid (HI1.out.app (x := (j : Int)) (by omega) (by omega))
              have HL3 := Lib.hid (show (l1 ++ [(j : Int)]).length = j + 1 by rw [List.length_append, HN1.out]; rfl)
              have HT3 := Lib.hid hti3.swap
              have HX3 := Lib.hid hx3
              have hz3 : wk.heap.size ≤ w3.heap.size := Below.size hx3
              clear hti3 hi3 hgr hbl hv3 hx3 HTI HXJ
              go_wp2_with (at_builtin; refine wpList_append_int_at rfl _ _ 27 2 rfl Tryz.underlying27 infoInt wk.heap.size _ l2 rfl (HT3.out.g1.alloc _) _ _ rfl (cell_new _ _ _) (by rw [HN2.out]; omega) (by simp; omega) ?_)
              intro v4 w4 hi4 hgr hv4 hbl
              have hti4 := (HT3.out.ext ((Ext.refl w3).alloc _)).appZ hi4 hgr hv4 hbl (by simp)
              have hx4 : Ext wk w4 := (HX3.out.trans ((Ext.refl w3).alloc _)).grown hgr (HT3.out.g1.alloc _) (Nat.le_refl _)
              have HI4 := Lib.hid (HI2.out.app (x := (k : Int)) (by omega) (by omega))
              have HL4 := Lib.hid (show (l2 ++ [(k : Int)]).length = j + 1 by rw [List.length_append, HN2.out]; rfl)
              have HT4 := Lib.hid hti4.swap
              have HX4 := Lib.hid hx4
              clear hti4 hi4 hgr hbl hv4 hx4 HT3 HX3
              go_wp2
              go_roundw
              case rel => exact ⟨j + 1, _, _, by omega, by go_num, HL3.out, HL4.out, HI3.out, HI4.out, HT4.out, HX4.out⟩
              case measure => simp [intOf]; omega
          · have hkni : ¬ (k : Int) < (n : Int) := by omega
            have hkng : (n : Int) ≤ (k : Int) := by omega
            by_cases hjn : j < n
            · have hjng : ¬ (n : Int) ≤ (j : Int) := by omega
              go_wp2_with (at_builtin; refine wpList_append_int_at rfl _ _ 27 2 rfl Tryz.underlying27 infoInt wk.heap.size _ l1 rfl (HTI.out.g1.alloc _) _ _ rfl (cell_new _ _ _) (by rw [HN1.out]; omega) (by simp; omega) ?_)
              intro v' w3 hi3 hgr hv3 hbl
              have hti3 := (HTI.out.ext ((Ext.refl wr).alloc _)).appZ hi3 hgr hv3 hbl (by simp)
              have hx3 : Ext wk w3 := (HXJ.out.trans ((Ext.refl wr).alloc _)).grown hgr (HTI.out.g1.alloc _) (Nat.le_refl _)
              have HI3 := Lib.hid (HI1.out.app (x := (j : Int)) (by omega) (by omega))
              have HL3 := Lib.hid (show (l1 ++ [(j : Int)]).length = j + 1 by rw [List.length_append, HN1.out]; rfl)
              have HT3 := Lib.hid hti3.swap
              have HX3 := Lib.hid hx3
              have hz3 : wk.heap.size ≤ w3.heap.size := Below.size hx3
              clear hti3 hi3 hgr hbl hv3 hx3 HTI HXJ
              go_wp2_with (at_builtin; refine wpList_append_int_at rfl _ _ 27 2 rfl Tryz.underlying27 infoInt wk.heap.size _ l2 rfl (HT3.out.g1.alloc _) _ _ rfl (cell_new _ _ _) (by rw [HN2.out]; omega) (by simp; omega) ?_)
              intro v4 w4 hi4 hgr hv4 hbl
              have hti4 := (HT3.out.ext ((Ext.refl w3).alloc _)).appZ hi4 hgr hv4 hbl (by simp)
              have hx4 : Ext wk w4 := (HX3.out.trans ((Ext.refl w3).alloc _)).grown hgr (HT3.out.g1.alloc _) (Nat.le_refl _)
              have HI4 := Lib.hid (HI2.out.app (x := (k : Int)) (by omega) (by omega))
              have HL4 := Lib.hid (show (l2 ++ [(k : Int)]).length = j + 1 by rw [List.length_append, HN2.out]; rfl)
              have HT4 := Lib.hid hti4.swap
              have HX4 := Lib.hid hx4
              clear hti4 hi4 hgr hbl hv4 hx4 HT3 HX3
              go_wp2
              go_roundw
              case rel => exact ⟨j + 1, _, _, by omega, by go_num, HL3.out, HL4.out, HI3.out, HI4.out, HT4.out, HX4.out⟩
              case measure => simp [intOf]; omega
            · have hjng : (n : Int) ≤ (j : Int) := by omega
              obtain ⟨k', hk'⟩ : ∃ k', k = n + k' := ⟨k - n, by omega⟩
              obtain ⟨j', hj'⟩ : ∃ j', j = n + j' := ⟨j - n, by omega⟩
              have hks : (k : Int) - (n : Int) = (k' : Int) := by omega
              have hjs : (j : Int) - (n : Int) = (j' : Int) := by omega
              have hk'm : k' < m := by have := HNN.out; omega
              have hj'm : j' < m := by have := HNN.out; omega
              have HKK := Lib.hid hk'
              have HJJ := Lib.hid hj'
              clear hk' hj'
              obtain ⟨_, _, _, A, hA0, hA1, hrd⟩ := rdT (x := k') (y := j') HVC'.out HP2.out.l HLM.out (by omega) (by omega)
              have HRA := Lib.hid hrd
              clear hrd
              obtain ⟨_, _, _, B, hB0, hB1, hrd⟩ := rdT (x := k') (y := j') HYC'.out HP2.out.s (HLM.out.trans HP2.out.len.symm) (by omega) (by omega)
              have HRB := Lib.hid hrd
              clear hrd
              obtain ⟨k0, k1, k2, k3⟩ := HK.out.ext HXJ.out
              obtain ⟨r1, e1⟩ := HRA.out wr (HG.out.x0.trans HXJ.out)
              go_wp2_with (at_builtin; refine wpList_append_int_at rfl _ _ 27 2 rfl Tryz.underlying27 infoInt wk.heap.size _ l1 rfl (HTI.out.g1.alloc _) _ _ rfl (cell_new _ _ _) (by rw [HN1.out]; omega) (by simp; omega) ?_)
              intro v' w3 hi3 hgr hv3 hbl
              have hti3 := (HTI.out.ext ((Ext.refl wr).alloc _)).appZ hi3 hgr hv3 hbl (by simp)
              have hx3 : Ext wk w3 := (HXJ.out.trans ((Ext.refl wr).alloc _)).grown hgr (HTI.out.g1.alloc _) (Nat.le_refl _)
              have HI3 := Lib.hid (HI1.out.app (x := (A + n)) (by omega) (by have := HNN.out; omega))
              have HL3 := Lib.hid (show (l1 ++ [(A + n)]).length = j + 1 by rw [List.length_append, HN1.out]; rfl)
              have HT3 := Lib.hid hti3.swap
              have HX3 := Lib.hid hx3
              have hz3 : wk.heap.size ≤ w3.heap.size := Below.size hx3
              clear hti3 hi3 hgr hbl hv3 hx3 HTI HXJ
              clear k0 k1 k2 k3 r1 e1
              obtain ⟨k0, k1, k2, k3⟩ := HK.out.ext HX3.out
              obtain ⟨r1, e1⟩ := HRB.out w3 (HG.out.x0.trans HX3.out)
              go_wp2_with (at_builtin; refine wpList_append_int_at rfl _ _ 27 2 rfl Tryz.underlying27 infoInt wk.heap.size _ l2 rfl (HT3.out.g1.alloc _) _ _ rfl (cell_new _ _ _) (by rw [HN2.out]; omega) (by simp; omega) ?_)
              intro v4 w4 hi4 hgr hv4 hbl
              have hti4 := (HT3.out.ext ((Ext.refl w3).alloc _)).appZ hi4 hgr hv4 hbl (by simp)
              have hx4 : Ext wk w4 := (HX3.out.trans ((Ext.refl w3).alloc _)).grown hgr (HT3.out.g1.alloc _) (Nat.le_refl _)
              have HI4 := Lib.hid (HI2.out.app (x := (B + n)) (by omega) (by have := HNN.out; omega))
              have HL4 := Lib.hid (show (l2 ++ [(B + n)]).length = j + 1 by rw [List.length_append, HN2.out]; rfl)
              have HT4 := Lib.hid hti4.swap
              have HX4 := Lib.hid hx4
              clear hti4 hi4 hgr hbl hv4 hx4 HT3 HX3
              go_wp2
              go_roundw
              case rel => exact ⟨j + 1, _, _, by omega, by go_num, HL3.out, HL4.out, HI3.out, HI4.out, HT4.out, HX4.out⟩
              case measure => simp [intOf]; omega
        case neg =>
          have hji : ¬ (j : Int) < (n : Int) + (m : Int) := by rw [← HNI.out]; omega
          have hjn : j = N := by omega
          rw [hjn] at HN1 HN2
          have hr1 := RF.of HTI.out.g1 HTI.out.n1 (by rw [HN1.out]; omega)
          have hr2 := RF.of HTI.out.g2 HTI.out.n2 (by rw [HN2.out]; omega)
          obtain ⟨ba, ca, rfl, -⟩ := HTI.out.g1.row HTI.out.n1
          obtain ⟨bb, cb, rfl, -⟩ := HTI.out.g2.row HTI.out.n2
          rw [HN1.out] at hr1
          rw [HN2.out] at hr2
          have hab : ba ≠ bb := fun e => HTI.out.ne ba rfl (by rw [e]; rfl)
          have ha1 := hr1.atS
          have hb1 := hr2.atS
          have HR1 := Lib.hid hr1
          have HR2 := Lib.hid hr2
          have HG2 := Lib.hid (HG.out.ext HXJ.out)
          rw [HN1.out, HN2.out]
          clear hr1 hr2 HG HTI HN1 HN2 hjn
          obtain ⟨hblt, p0, p1, p2, p3⟩ := HG2.out.bc
          have hO1 := HG2.out.own1
          have hlo2 := HG2.out.lo1
          have hxb := ext_box wr (.slice (some ⟨ba, 0, none⟩) N ca) 27
          have hna1 : (Value.slice a1 k d1).ownBlock ≠ some ba := fun e => by have := (hl1 _ e).2; omega
          have hna2 : (Value.slice a2 k d2).ownBlock ≠ some ba := fun e => by have := (hl2 _ e).2; omega
          have hnb2 : (Value.slice a2 k d2).ownBlock ≠ some bb := fun e => by have := (hl2 _ e).2; omega
          go_wp2_with (at_builtin; refine wpList_append_one rfl _ _ 24 27 rfl Tryz.underlying24 infoSl (w.heap.size + 4) _ k xs rfl (ownsRow_ext hO1 hxb) _ _ (show Value.oneCell' (.slice _ _ _) = true from rfl) rfl (cell_new _ _ _) (by omega) (by simp; omega) ?_)
          intro v' w8 hown8 hgr8 hv8 hbl8
          obtain ⟨g8, cap8, rfl⟩ : ∃ g8 cap8, v' = .slice (some ⟨g8, 0, none⟩) (k + 1) cap8 := by
            rcases hown8.2 with ⟨h, _⟩ | ⟨g8, cap8, cur, h, _⟩
            · exact absurd h hv8
            · exact ⟨g8, cap8, h⟩
          have hat8 := atZ (z := wr.heap.size + 1) (w := wr.alloc (.cells #[.slice (some ⟨ba, 0, none⟩) N ca] 27)) hbl8 (by simp)
          obtain ⟨hB8, hP8⟩ := HG2.out.app1 hxb (HR1.out.extS hxb) HI1.out hna1 hna2 hlo hown8 hgr8 hat8
          have hgb8 : g8 ≠ bb := gne hat8 (fun q e => (hl1 q e).2) ⟨hb1.1, hb1.2.1⟩ (by simp)
          have HK8 := Lib.hid ((HK.out.ext HXJ.out).keep (w' := w8.setCell ⟨w.heap.size + 3, 0, none⟩ (.slice (some ⟨g8, 0, none⟩) (k + 1) cap8)) (fun p v hp hc => HG2.out.low hxb hgr8 (HG2.out.lt1) (by omega) (by omega) hc))
          have HRB := Lib.hid (((HR2.out.extS hxb).far hgr8 (fun q e => (hl1 q e).2)).setOut (a := ⟨w.heap.size + 3, 0, none⟩) (show w.heap.size + 3 < wk.heap.size by omega) (.slice (some ⟨g8, 0, none⟩) (k + 1) cap8))
          have HP8 := Lib.hid hP8
          obtain ⟨-, s0, s1, s2, s3⟩ := hB8
          clear hP8 hown8 hgr8 hv8 hbl8 hat8 hxb hO1 HG2 HR1 HR2
          have hO2 := HP8.out.own2
          have hlo8 := HP8.out.lo1
          obtain ⟨-, q0, q1, q2, q3⟩ := HP8.out.bc
          have hxb := ext_box (w8.setCell ⟨w.heap.size + 3, 0, none⟩ (.slice (some ⟨g8, 0, none⟩) (k + 1) cap8)) (.slice (some ⟨bb, 0, none⟩) N cb) 27
          have hlz : w.heap.size + 4 ≤ w8.heap.size := by simpa using hlo8
          go_wp2_with (at_builtin; refine wpList_append_one rfl _ _ 24 27 rfl Tryz.underlying24 infoSl (w.heap.size + 4) _ k ys rfl (ownsRow_ext hO2 hxb) _ _ (show Value.oneCell' (.slice _ _ _) = true from rfl) rfl (cell_newE _ _ _ (by simp)) (by omega) (by simp; omega) ?_)
          intro v' w9 hown9 hgr9 hv9 hbl9
          obtain ⟨g9, cap9, rfl⟩ : ∃ g9 cap9, v' = .slice (some ⟨g9, 0, none⟩) (k + 1) cap9 := by
            rcases hown9.2 with ⟨h, _⟩ | ⟨g9, cap9, cur, h, _⟩
            · exact absurd h hv9
            · exact ⟨g9, cap9, h⟩
          have hat9 := atZ (z := w8.heap.size + 1) (w := (w8.setCell ⟨w.heap.size + 3, 0, none⟩ (.slice (some ⟨g8, 0, none⟩) (k + 1) cap8)).alloc (.cells #[.slice (some ⟨bb, 0, none⟩) N cb] 27)) hbl9 (by simp)
          obtain ⟨hB9, hP9⟩ := HP8.out.app2 hxb (HRB.out.extS hxb) HI2.out (fun e => hgb8 (Option.some.inj (show some g8 = some bb from e))) hnb2 hlo hown9 hgr9 hat9
          have HP9 := Lib.hid hP9
          have HK9 := Lib.hid (HK8.out.keep (w' := w9.setCell ⟨w.heap.size + 3, 1, none⟩ (.slice (some ⟨g9, 0, none⟩) (k + 1) cap9)) (fun p v hp hc => HP8.out.low hxb hgr9 (HP8.out.lt2) (by omega) (by omega) hc))
          obtain ⟨-, r0, r1, r2, r3⟩ := hB9
          clear hP9 hown9 hgr9 hv9 hbl9 hat9 hxb hO2 HP8 HRB q0 q1 q2 q3 s0 s1 s2 s3
          go_wp2
          go_roundw
          case rel => exact ⟨k + 1, _, _, _, _, _, _, by omega, by go_num, HP9.out, HK9.out⟩
          case measure => simp [intOf]; omega

end Go.Proofs.YtjfjpngajboidaaGreat


namespace Go.Proofs.YtjfjpngajboidaaGreat
set_option linter.unusedVariables false
set_option linter.unusedSimpArgs false
open Go.RowKit
attribute [local go_sem ↓] Go.wp_at_zero Go.wp_at_succ
open Go.Deep

theorem mulB {A B : Int} {n m : Nat} (hA0 : 0 ≤ A) (hA1 : A < n) (hB0 : 0 ≤ B) (hB1 : B < m) (h1 : 1 ≤ m) (h12 : n * m ≤ 12) : 0 ≤ A * (m : Int) ∧ A * (m : Int) ≤ 144 ∧ 0 ≤ A * (m : Int) + B ∧ A * (m : Int) + B < (n : Int) * (m : Int) := by
  have h0 : 0 ≤ A * (m : Int) := Int.mul_nonneg hA0 (by omega)
  have h2 : (A + 1) * (m : Int) ≤ (n : Int) * (m : Int) := Int.mul_le_mul_of_nonneg_right (by omega) (by omega)
  rw [Int.add_mul] at h2
  have h3 : (n : Int) * (m : Int) ≤ 12 := by
    have : ((n * m : Nat) : Int) ≤ 12 := by omega
    rwa [Int.natCast_mul] at this
  refine ⟨h0, by omega, by omega, by omega⟩

set_option maxRecDepth 100000 in
set_option maxHeartbeats 8000000 in
theorem l02Product_any (L S L2 S2 : List (List Int)) (v y v' y' : Value) (w : World) (hv : Rows w v L) (hy : Rows w y S) (hv' : Rows w v' L2) (hy' : Rows w y' S2) (hP : PairOk L S) (hP2 : PairOk L2 S2) (N : Nat) (hN : N = L.length * L2.length) (h12 : N ≤ 12) :
    Calls Tryz.prog 143 #[.agg #[v, y], .agg #[v', y']] w (NewS N (fun _ _ => True) w) := by
  obtain ⟨-, b1, o1, c1, rfl, hvc⟩ := id hv
  obtain ⟨-, b2, o2, c2, rfl, hyc⟩ := id hy
  obtain ⟨-, b3, o3, c3, rfl, hvc'⟩ := id hv'
  obtain ⟨-, b4, o4, c4, rfl, hyc'⟩ := id hy'
  obtain ⟨n, hn⟩ : ∃ n, n = L.length := ⟨_, rfl⟩
  obtain ⟨m, hm⟩ : ∃ m, m = L2.length := ⟨_, rfl⟩
  have h1n : 1 ≤ n := by rw [hn]; exact hP.l.1
  have h1m : 1 ≤ m := by rw [hm]; exact hP2.l.1
  have hn12 : n ≤ 12 := by rw [hn]; exact hP.l.2.1
  have hm12 : m ≤ 12 := by rw [hm]; exact hP2.l.2.1
  rw [hP.len, hP2.len, ← hn, ← hm]
  rw [← hn, ← hm] at hN
  have HVC := Lib.hid hvc
  have HYC := Lib.hid hyc
  have HVC' := Lib.hid hvc'
  have HYC' := Lib.hid hyc'
  have HP := Lib.hid hP
  have HP2 := Lib.hid hP2
  have HLN := Lib.hid hn
  have HLM := Lib.hid hm
  have hx0 : Ext w (((w.alloc (.cells #[.slice (some ⟨b1, o1, none⟩) n c1, .slice (some ⟨b2, o2, none⟩) n c2] 26)).alloc (.cells #[.slice (some ⟨b3, o3, none⟩) m c3, .slice (some ⟨b4, o4, none⟩) m c4] 26)).alloc (.cells #[.slice none 0 0, .slice none 0 0] 26)) := (((Ext.refl _).alloc _).alloc _).alloc _
  have k0 : (((w.alloc (.cells #[.slice (some ⟨b1, o1, none⟩) n c1, .slice (some ⟨b2, o2, none⟩) n c2] 26)).alloc (.cells #[.slice (some ⟨b3, o3, none⟩) m c3, .slice (some ⟨b4, o4, none⟩) m c4] 26)).alloc (.cells #[.slice none 0 0, .slice none 0 0] 26)).cell? ⟨w.heap.size, 0, none⟩ = some (.slice (some ⟨b1, o1, none⟩) n c1) := kc_alloc (kc_alloc (cell_new2a w _ _ _))
  have k1 : (((w.alloc (.cells #[.slice (some ⟨b1, o1, none⟩) n c1, .slice (some ⟨b2, o2, none⟩) n c2] 26)).alloc (.cells #[.slice (some ⟨b3, o3, none⟩) m c3, .slice (some ⟨b4, o4, none⟩) m c4] 26)).alloc (.cells #[.slice none 0 0, .slice none 0 0] 26)).cell? ⟨w.heap.size, 1, none⟩ = some (.slice (some ⟨b2, o2, none⟩) n c2) := kc_alloc (kc_alloc (cell_new2b w _ _ _))
  have k2 : (((w.alloc (.cells #[.slice (some ⟨b1, o1, none⟩) n c1, .slice (some ⟨b2, o2, none⟩) n c2] 26)).alloc (.cells #[.slice (some ⟨b3, o3, none⟩) m c3, .slice (some ⟨b4, o4, none⟩) m c4] 26)).alloc (.cells #[.slice none 0 0, .slice none 0 0] 26)).cell? ⟨w.heap.size + 1, 0, none⟩ = some (.slice (some ⟨b3, o3, none⟩) m c3) := kc_alloc (kc_newEa (by simp))
  have k3 : (((w.alloc (.cells #[.slice (some ⟨b1, o1, none⟩) n c1, .slice (some ⟨b2, o2, none⟩) n c2] 26)).alloc (.cells #[.slice (some ⟨b3, o3, none⟩) m c3, .slice (some ⟨b4, o4, none⟩) m c4] 26)).alloc (.cells #[.slice none 0 0, .slice none 0 0] 26)).cell? ⟨w.heap.size + 1, 1, none⟩ = some (.slice (some ⟨b4, o4, none⟩) m c4) := kc_alloc (kc_newEb (by simp))
  have hR0 : BoxV (w.heap.size + 2) (((w.alloc (.cells #[.slice (some ⟨b1, o1, none⟩) n c1, .slice (some ⟨b2, o2, none⟩) n c2] 26)).alloc (.cells #[.slice (some ⟨b3, o3, none⟩) m c3, .slice (some ⟨b4, o4, none⟩) m c4] 26)).alloc (.cells #[.slice none 0 0, .slice none 0 0] 26)) (.slice none 0 0) (.slice none 0 0) := by
    have h := BoxV.new ((w.alloc (.cells #[.slice (some ⟨b1, o1, none⟩) n c1, .slice (some ⟨b2, o2, none⟩) n c2] 26)).alloc (.cells #[.slice (some ⟨b3, o3, none⟩) m c3, .slice (some ⟨b4, o4, none⟩) m c4] 26)) (.slice none 0 0) (.slice none 0 0) 26
    simpa using h
  have hz0 : (((w.alloc (.cells #[.slice (some ⟨b1, o1, none⟩) n c1, .slice (some ⟨b2, o2, none⟩) n c2] 26)).alloc (.cells #[.slice (some ⟨b3, o3, none⟩) m c3, .slice (some ⟨b4, o4, none⟩) m c4] 26)).alloc (.cells #[.slice none 0 0, .slice none 0 0] 26)).heap.size = w.heap.size + 3 := by simp
  clear hv hy hv' hy' hP hP2 hn hm hvc hyc hvc' hyc'
  go_enter Tryz.func143, Tryz.ntmps143
  go_wp2_with fail
  generalize (((w.alloc (.cells #[.slice (some ⟨b1, o1, none⟩) n c1, .slice (some ⟨b2, o2, none⟩) n c2] 26)).alloc (.cells #[.slice (some ⟨b3, o3, none⟩) m c3, .slice (some ⟨b4, o4, none⟩) m c4] 26)).alloc (.cells #[.slice none 0 0, .slice none 0 0] 26)) = wa at *
  go_quiet (fail)
  have hz1 : (wa.drewN nq).heap.size = w.heap.size + 3 := by simpa using hz0
  have hxq : Ext wa (wa.drewN nq) := (Ext.refl wa).drewN nq
  replace hx0 := hx0.trans hxq
  replace hR0 := hR0.ext hxq
  replace k0 := hxq.cell k0
  replace k1 := hxq.cell k1
  replace k2 := hxq.cell k2
  replace k3 := hxq.cell k3
  clear hxq hz0
  generalize (wa.drewN nq) = wb at *
  have hxo : Ext wb (wb.alloc (.cells #[.slice none 0 0, .slice none 0 0] 26)) := (Ext.refl wb).alloc _
  have hB0 : BoxV (w.heap.size + 3) (wb.alloc (.cells #[.slice none 0 0, .slice none 0 0] 26)) (.slice none 0 0) (.slice none 0 0) := by
    have h := BoxV.new wb (.slice none 0 0) (.slice none 0 0) 26
    rwa [hz1] at h
  have hP0 := PairG.start (lo := w.heap.size + 4) (w0 := w) 27 N hB0 (hR0.ext hxo) (hx0.trans hxo) (by simp; omega) (by omega) (by omega) (by omega) (by omega) (by omega)
  have HP0 := Lib.hid hP0
  have HNN := Lib.hid hN
  have HNI := Lib.hid (show (N : Int) = (n : Int) * (m : Int) from by rw [hN]; simp)
  have h1 : 1 ≤ N := by rw [hN]; exact Nat.mul_pos (by omega) (by omega)
  have hmul1 : (n : Int) * (m : Int) ≤ 12 := by rw [← HNI.out]; omega
  have hmul0 : 0 ≤ (n : Int) * (m : Int) := by rw [← HNI.out]; omega
  clear hN
  have HK0 := Lib.hid (show K4 w.heap.size b1 o1 c1 b2 o2 c2 n b3 o3 c3 b4 o4 c4 m _ from ⟨hxo.cell k0, hxo.cell k1, hxo.cell k2, hxo.cell k3⟩)
  have HXW := Lib.hid hx0
  have HXO := Lib.hid hxo
  clear hx0 hR0 hB0 hP0 k0 k1 k2 k3
  go_wp2_with fail
  generalize (wb.alloc (.cells #[.slice none 0 0, .slice none 0 0] 26)) = w0 at *
  go_loopw [8] (fun i wr => ∃ (k : Nat) (v1 v2 : Value) (xs ys : List Value) (t1 t2 : List (List Int)), k ≤ N ∧ i = .int .i64 k ∧ PairG 27 (w.heap.size + 4) (w.heap.size + 2) (w.heap.size + 3) N k k w wr v1 v2 xs ys t1 t2 ∧ K4 w.heap.size b1 o1 c1 b2 o2 c2 n b3 o3 c3 b4 o4 c4 m wr) (fun i _ => N - (intOf i).toNat)
  case atStart => exact ⟨0, _, _, _, _, _, _, Nat.zero_le _, rfl, HP0.out, HK0.out⟩
  case round =>
    clear HP0 HK0
    obtain ⟨k, v1, v2, xs, ys, t1, t2, hk, rfl, hg, hk4⟩ := hrel
    have HK := Lib.hid hk4
    clear hk4
    obtain ⟨a1, d1, rfl⟩ := hg.sh1
    obtain ⟨a2, d2, rfl⟩ := hg.sh2
    have HG := Lib.hid hg
    have hlo := hg.lo1
    clear hg
    by_cases hlt : k < N
    case neg =>
      have hkk : k = N := by omega
      rw [hkk] at HG
      rw [hkk]
      have hki : ¬ (N : Int) < (n : Int) * (m : Int) := by rw [← HNI.out]; omega
      obtain ⟨-, q0, q1, q2, q3⟩ := HG.out.bb
      obtain ⟨-, p0, p1, p2, p3⟩ := HG.out.bc
      go_wp2
      obtain ⟨q4, q5, q6, q7, q8⟩ := HG.out.done h1 h12 (.slice a1 N d1) (.slice a2 N d2)
      exact bodyPost_ret (v := .agg #[.slice a1 N d1, .slice a2 N d2]) (by simp [results, Tryz.results143, go_sem, q0, q1]) rfl ⟨_, _, _, _, rfl, q4, q5, q6, q7, trivial, q8⟩
    case pos =>
      have hki : (k : Int) < (n : Int) * (m : Int) := by rw [← HNI.out]; omega
      have hl1 := HG.out.tw.f.lt
      have hl2 := HG.out.tw.s.lt
      obtain ⟨wk, rfl⟩ : ∃ z : World, z = wr := ⟨_, rfl⟩
      go_wp2_with fail
      go_loopw [9, 10, 11] (fun va vb vj wr => ∃ (j : Nat) (l1 l2 : List Int), j ≤ N ∧ vj = .int .i64 j ∧ l1.length = j ∧ l2.length = j ∧ InR N l1 ∧ InR N l2 ∧ TwoI 2 wk.heap.size wr va vb l1 l2 ∧ Ext wk wr) (fun _ _ vj _ => N - (intOf vj).toNat)
      case atStart => exact ⟨0, [], [], Nat.zero_le _, rfl, rfl, rfl, InR.nil _, InR.nil _, TwoI.start 2 rfl (by first | rfl | simp) (Nat.le_refl _), ((Ext.refl _).alloc _).alloc _⟩
      case round =>
        obtain ⟨j, l1, l2, hj, rfl, hn1, hn2, hi1, hi2, hti, hxj⟩ := hrel
        have HTI := Lib.hid hti
        have HI1 := Lib.hid hi1
        have HI2 := Lib.hid hi2
        have HXJ := Lib.hid hxj
        have HN1 := Lib.hid hn1
        have HN2 := Lib.hid hn2
        have hzx : wk.heap.size ≤ wr.heap.size := Below.size hxj
        clear hti hi1 hi2 hxj hn1 hn2
        by_cases hjl : j < N
        case pos =>
          have hji : (j : Int) < (n : Int) * (m : Int) := by rw [← HNI.out]; omega
          have hji : (j : Int) < (n : Int) * (m : Int) := by rw [← HNI.out]; omega
          obtain ⟨x, hx⟩ : ∃ x, x = k / m := ⟨_, rfl⟩
          obtain ⟨y, hy⟩ : ∃ y, y = j / m := ⟨_, rfl⟩
          obtain ⟨p, hp⟩ : ∃ p, p = k % m := ⟨_, rfl⟩
          obtain ⟨q, hq⟩ : ∃ q, q = j % m := ⟨_, rfl⟩
          have hxn : x < n := by rw [hx]; exact Nat.div_lt_of_lt_mul (by rw [Nat.mul_comm, ← HNN.out]; exact hlt)
          have hyn : y < n := by rw [hy]; exact Nat.div_lt_of_lt_mul (by rw [Nat.mul_comm, ← HNN.out]; exact hjl)
          have hpm : p < m := by rw [hp]; exact Nat.mod_lt _ (by omega)
          have hqm : q < m := by rw [hq]; exact Nat.mod_lt _ (by omega)
          have hxi : (k : Int).tdiv m = (x : Int) := by rw [Int.tdiv_eq_ediv_of_nonneg (by omega), hx]; rfl
          have hyi : (j : Int).tdiv m = (y : Int) := by rw [Int.tdiv_eq_ediv_of_nonneg (by omega), hy]; rfl
          have hpi : (k : Int).tmod m = (p : Int) := by rw [Int.tmod_eq_emod_of_nonneg (by omega), hp]; rfl
          have hqi : (j : Int).tmod m = (q : Int) := by rw [Int.tmod_eq_emod_of_nonneg (by omega), hq]; rfl
          have hxi' : (k : Int) / m = (x : Int) := by rw [hx]; rfl
          have hyi' : (j : Int) / m = (y : Int) := by rw [hy]; rfl
          have hpi' : (k : Int) % m = (p : Int) := by rw [hp]; rfl
          have hqi' : (j : Int) % m = (q : Int) := by rw [hq]; rfl
          have hm0 : ¬ m = 0 := by omega
          have hwx : IntKind.i64.wrap (x : Int) = (x : Int) := IntWalk.i64_in _ (by omega)
          have hwy : IntKind.i64.wrap (y : Int) = (y : Int) := IntWalk.i64_in _ (by omega)
          clear hx hy hp hq
          obtain ⟨dA, sA, cA, A, hA0, hA1, hrd⟩ := rdT (x := x) (y := y) HVC.out HP.out.l HLN.out hxn hyn
          have HRA := Lib.hid hrd
          clear hrd
          obtain ⟨dB, sB, cB, B, hB0, hB1, hrd⟩ := rdT (x := p) (y := q) HVC'.out HP2.out.l HLM.out hpm hqm
          have HRB := Lib.hid hrd
          clear hrd
          obtain ⟨dC, sC, cC, C, hC0, hC1, hrd⟩ := rdT (x := x) (y := y) HYC.out HP.out.s (HLN.out.trans HP.out.len.symm) hxn hyn
          have HRC := Lib.hid hrd
          clear hrd
          obtain ⟨dD, sD, cD, D, hD0, hD1, hrd⟩ := rdT (x := p) (y := q) HYC'.out HP2.out.s (HLM.out.trans HP2.out.len.symm) hpm hqm
          have HRD := Lib.hid hrd
          clear hrd
          have hAm := mulB hA0 hA1 hB0 hB1 h1m (by rw [← HNN.out]; exact h12)
          have hCm := mulB hC0 hC1 hD0 hD1 h1m (by rw [← HNN.out]; exact h12)
          obtain ⟨hA2, hA3, hA4, hA5⟩ := hAm
          obtain ⟨hC2, hC3, hC4, hC5⟩ := hCm
          have hwA : IntKind.i64.wrap (A * (m : Int)) = A * (m : Int) := IntWalk.i64_in _ (by omega)
          have hwC : IntKind.i64.wrap (C * (m : Int)) = C * (m : Int) := IntWalk.i64_in _ (by omega)
          have hwA2 : IntKind.i64.wrap (A * (m : Int) + B) = A * (m : Int) + B := IntWalk.i64_in _ (by omega)
          have hwC2 : IntKind.i64.wrap (C * (m : Int) + D) = C * (m : Int) + D := IntWalk.i64_in _ (by omega)
          obtain ⟨k0, k1, k2, k3⟩ := HK.out.ext HXJ.out
          obtain ⟨r1, e1⟩ := HRA.out wr (HG.out.x0.trans HXJ.out)
          obtain ⟨r2, e2⟩ := HRB.out wr (HG.out.x0.trans HXJ.out)
          obtain ⟨u0, u1, u2, u3⟩ := HK.out
          obtain ⟨v1, f1⟩ := HRA.out wk HG.out.x0
          obtain ⟨v2, f2⟩ := HRB.out wk HG.out.x0
          obtain ⟨v3, f3⟩ := HRC.out wk HG.out.x0
          obtain ⟨v4, f4⟩ := HRD.out wk HG.out.x0
          go_upto_region 10 with fail
          go_cut [9] (fun v wx => TwoI 2 wk.heap.size wx v u10 (l1 ++ [A * (m : Int) + B]) l2 ∧ Ext wk wx)
          case first =>
            go_region_held3 (fun w' => w'.cell? ⟨w.heap.size, 0, none⟩ = some (.slice (some ⟨b1, o1, none⟩) n c1) ∧ w'.cell? ⟨w.heap.size + 1, 0, none⟩ = some (.slice (some ⟨b3, o3, none⟩) m c3) ∧ w'.cell? ⟨b1, o1 + x, none⟩ = some (.slice (some ⟨dA, sA, none⟩) n cA) ∧ w'.cell? ⟨b3, o3 + p, none⟩ = some (.slice (some ⟨dB, sB, none⟩) m cB) ∧ w'.cell? ⟨dA, sA + y, none⟩ = some (.int .i64 A) ∧ w'.cell? ⟨dB, sB + q, none⟩ = some (.int .i64 B))
              ((refine ⟨?_, ?_, ?_, ?_, ?_, ?_⟩ <;> (repeat first | (with_reducible assumption) | (with_reducible refine Ext.cell hx4 ?_) |  (with_reducible exact kc_new) | ((with_reducible refine kc_newE ?_); (simp; done)) | ((with_reducible refine kc_newEa ?_); (simp; done)) | ((with_reducible refine kc_newEb ?_); (simp; done)) | (with_reducible apply kc_alloc) | (with_reducible apply kc_drewN) | (with_reducible apply kc_drew) | ((with_reducible refine kc_set ?_ ?_); (first | (simp only []; omega) | (simp; omega) | (focus (simp; done)))) | ((with_reducible refine kc_set2 ?_ ?_); (focus (simp; done))) | (with_reducible refine kc_same (v := .slice none 0 0) ?_))))
              ((refine step_append_int_at (by rfl) _ _ 27 2 (by rfl) Tryz.underlying27 infoInt wk.heap.size _ l1 (by rfl) (HTI.out.g1.ext (by (repeat first | (with_reducible exact Ext.refl _) | (with_reducible assumption) | (with_reducible apply Ext.drew) | (with_reducible apply kx_drewN) | (with_reducible apply kx_alloc) | ((with_reducible refine kx_set ?_ ?_); (first | (simp only []; omega) | (simp; omega) | (focus (simp; done)))) ))) _ _ (by rfl) (by (repeat first | (with_reducible assumption) |  (with_reducible exact kc_new) | ((with_reducible refine kc_newE ?_); (simp; done)) | ((with_reducible refine kc_newEa ?_); (simp; done)) | ((with_reducible refine kc_newEb ?_); (simp; done)) | (with_reducible apply kc_alloc) | (with_reducible apply kc_drewN) | (with_reducible apply kc_drew) | ((with_reducible refine kc_set ?_ ?_); (first | (simp only []; omega) | (simp; omega) | (focus (simp; done)))) | ((with_reducible refine kc_set2 ?_ ?_); (focus (simp; done))) | (with_reducible refine kc_same (v := .slice none 0 0) ?_))) (by rw [HN1.out]; omega) (Nat.le_trans hzx (Ext.size (by (repeat first | (with_reducible exact Ext.refl _) | (with_reducible assumption) | (with_reducible apply Ext.drew) | (with_reducible apply kx_drewN) | (with_reducible apply kx_alloc) | ((with_reducible refine kx_set ?_ ?_); (first | (simp only []; omega) | (simp; omega) | (focus (simp; done)))) )))) ?_; intro v' w4 hi4 hgr4 hv4 hbl4; have hti4 := (HTI.out.ext (by (repeat first | (with_reducible exact Ext.refl _) | (with_reducible assumption) | (with_reducible apply Ext.drew) | (with_reducible apply kx_drewN) | (with_reducible apply kx_alloc) | ((with_reducible refine kx_set ?_ ?_); (first | (simp only []; omega) | (simp; omega) | (focus (simp; done)))) ))).appZ hi4 hgr4 hv4 hbl4 (by first | rfl | simp); have hx4 : Ext wk w4 := (HXJ.out.trans (by (repeat first | (with_reducible exact Ext.refl _) | (with_reducible assumption) | (with_reducible apply Ext.drew) | (with_reducible apply kx_drewN) | (with_reducible apply kx_alloc) | ((with_reducible refine kx_set ?_ ?_); (first | (simp only []; omega) | (simp; omega) | (focus (simp; done)))) ))).grown hgr4 (HTI.out.g1.ext (by (repeat first | (with_reducible exact Ext.refl _) | (with_reducible assumption) | (with_reducible apply Ext.drew) | (with_reducible apply kx_drewN) | (with_reducible apply kx_alloc) | ((with_reducible refine kx_set ?_ ?_); (first | (simp only []; omega) | (simp; omega) | (focus (simp; done)))) ))) (Nat.le_refl _)))
            all_goals
              go_wp2
              go_meet
              case rel => exact ⟨hti4, hx4⟩
          case rest =>
            obtain ⟨hti3, hx3⟩ := hcut
            have HI3 := Lib.hid (HI1.out.app (n := N) (x := A * (m : Int) + B) hA4 (by rw [HNI.out]; exact hA5))
            have HL3 := Lib.hid (show (l1 ++ [A * (m : Int) + B]).length = j + 1 by rw [List.length_append, HN1.out]; rfl)
            have HT3 := Lib.hid hti3.swap
            have HX3 := Lib.hid hx3
            have hz3 : wk.heap.size ≤ wc.heap.size := Below.size hx3
            clear hti3 hx3 HTI HXJ k0 k1 k2 k3 r1 e1 r2 e2
            obtain ⟨k0, k1, k2, k3⟩ := HK.out.ext HX3.out
            obtain ⟨r1, e1⟩ := HRC.out wc (HG.out.x0.trans HX3.out)
            obtain ⟨r2, e2⟩ := HRD.out wc (HG.out.x0.trans HX3.out)
            go_wp2_with fail
            go_region_held3 (fun w' => w'.cell? ⟨w.heap.size, 1, none⟩ = some (.slice (some ⟨b2, o2, none⟩) n c2) ∧ w'.cell? ⟨w.heap.size + 1, 1, none⟩ = some (.slice (some ⟨b4, o4, none⟩) m c4) ∧ w'.cell? ⟨b2, o2 + x, none⟩ = some (.slice (some ⟨dC, sC, none⟩) n cC) ∧ w'.cell? ⟨b4, o4 + p, none⟩ = some (.slice (some ⟨dD, sD, none⟩) m cD) ∧ w'.cell? ⟨dC, sC + y, none⟩ = some (.int .i64 C) ∧ w'.cell? ⟨dD, sD + q, none⟩ = some (.int .i64 D))
              ((refine ⟨?_, ?_, ?_, ?_, ?_, ?_⟩ <;> (repeat first | (with_reducible assumption) | (with_reducible refine Ext.cell hx4 ?_) |  (with_reducible exact kc_new) | ((with_reducible refine kc_newE ?_); (simp; done)) | ((with_reducible refine kc_newEa ?_); (simp; done)) | ((with_reducible refine kc_newEb ?_); (simp; done)) | (with_reducible apply kc_alloc) | (with_reducible apply kc_drewN) | (with_reducible apply kc_drew) | ((with_reducible refine kc_set ?_ ?_); (first | (simp only []; omega) | (simp; omega) | (focus (simp; done)))) | ((with_reducible refine kc_set2 ?_ ?_); (focus (simp; done))) | (with_reducible refine kc_same (v := .slice none 0 0) ?_))))
              ((refine step_append_int_at (by rfl) _ _ 27 2 (by rfl) Tryz.underlying27 infoInt wk.heap.size _ l2 (by rfl) (HT3.out.g1.ext (by (repeat first | (with_reducible exact Ext.refl _) | (with_reducible assumption) | (with_reducible apply Ext.drew) | (with_reducible apply kx_drewN) | (with_reducible apply kx_alloc) | ((with_reducible refine kx_set ?_ ?_); (first | (simp only []; omega) | (simp; omega) | (focus (simp; done)))) ))) _ _ (by rfl) (by (repeat first | (with_reducible assumption) |  (with_reducible exact kc_new) | ((with_reducible refine kc_newE ?_); (simp; done)) | ((with_reducible refine kc_newEa ?_); (simp; done)) | ((with_reducible refine kc_newEb ?_); (simp; done)) | (with_reducible apply kc_alloc) | (with_reducible apply kc_drewN) | (with_reducible apply kc_drew) | ((with_reducible refine kc_set ?_ ?_); (first | (simp only []; omega) | (simp; omega) | (focus (simp; done)))) | ((with_reducible refine kc_set2 ?_ ?_); (focus (simp; done))) | (with_reducible refine kc_same (v := .slice none 0 0) ?_))) (by rw [HN2.out]; omega) (Nat.le_trans hz3 (Ext.size (by (repeat first | (with_reducible exact Ext.refl _) | (with_reducible assumption) | (with_reducible apply Ext.drew) | (with_reducible apply kx_drewN) | (with_reducible apply kx_alloc) | ((with_reducible refine kx_set ?_ ?_); (first | (simp only []; omega) | (simp; omega) | (focus (simp; done)))) )))) ?_; intro v' w4 hi4 hgr4 hv4 hbl4; have hti4 := (HT3.out.ext (by (repeat first | (with_reducible exact Ext.refl _) | (with_reducible assumption) | (with_reducible apply Ext.drew) | (with_reducible apply kx_drewN) | (with_reducible apply kx_alloc) | ((with_reducible refine kx_set ?_ ?_); (first | (simp only []; omega) | (simp; omega) | (focus (simp; done)))) ))).appZ hi4 hgr4 hv4 hbl4 (by first | rfl | simp); have hx4 : Ext wk w4 := (HX3.out.trans (by (repeat first | (with_reducible exact Ext.refl _) | (with_reducible assumption) | (with_reducible apply Ext.drew) | (with_reducible apply kx_drewN) | (with_reducible apply kx_alloc) | ((with_reducible refine kx_set ?_ ?_); (first | (simp only []; omega) | (simp; omega) | (focus (simp; done)))) ))).grown hgr4 (HT3.out.g1.ext (by (repeat first | (with_reducible exact Ext.refl _) | (with_reducible assumption) | (with_reducible apply Ext.drew) | (with_reducible apply kx_drewN) | (with_reducible apply kx_alloc) | ((with_reducible refine kx_set ?_ ?_); (first | (simp only []; omega) | (simp; omega) | (focus (simp; done)))) ))) (Nat.le_refl _)))
            all_goals
              go_wp2
              go_roundw
              case rel => exact ⟨j + 1, _, _, by omega, by go_num, HL3.out, by rw [List.length_append, HN2.out]; rfl, HI3.out, HI2.out.app (n := N) hC4 (by rw [HNI.out]; exact hC5), hti4.swap, hx4⟩
              case measure => simp [intOf]; omega
        case neg =>
          have hji : ¬ (j : Int) < (n : Int) * (m : Int) := by rw [← HNI.out]; omega
          have hjn : j = N := by omega
          rw [hjn] at HN1 HN2
          have hr1 := RF.of HTI.out.g1 HTI.out.n1 (by rw [HN1.out]; omega)
          have hr2 := RF.of HTI.out.g2 HTI.out.n2 (by rw [HN2.out]; omega)
          obtain ⟨ba, ca, rfl, -⟩ := HTI.out.g1.row HTI.out.n1
          obtain ⟨bb, cb, rfl, -⟩ := HTI.out.g2.row HTI.out.n2
          rw [HN1.out] at hr1
          rw [HN2.out] at hr2
          have hab : ba ≠ bb := fun e => HTI.out.ne ba rfl (by rw [e]; rfl)
          have ha1 := hr1.atS
          have hb1 := hr2.atS
          have HR1 := Lib.hid hr1
          have HR2 := Lib.hid hr2
          have HG2 := Lib.hid (HG.out.ext HXJ.out)
          rw [HN1.out, HN2.out]
          clear hr1 hr2 HG HTI HN1 HN2 hjn
          obtain ⟨hblt, p0, p1, p2, p3⟩ := HG2.out.bc
          have hO1 := HG2.out.own1
          have hlo2 := HG2.out.lo1
          have hxb := ext_box wr (.slice (some ⟨ba, 0, none⟩) N ca) 27
          have hna1 : (Value.slice a1 k d1).ownBlock ≠ some ba := fun e => by have := (hl1 _ e).2; omega
          have hna2 : (Value.slice a2 k d2).ownBlock ≠ some ba := fun e => by have := (hl2 _ e).2; omega
          have hnb2 : (Value.slice a2 k d2).ownBlock ≠ some bb := fun e => by have := (hl2 _ e).2; omega
          go_wp2_with (at_builtin; refine wpList_append_one rfl _ _ 24 27 rfl Tryz.underlying24 infoSl (w.heap.size + 4) _ k xs rfl (ownsRow_ext hO1 hxb) _ _ (show Value.oneCell' (.slice _ _ _) = true from rfl) rfl (cell_new _ _ _) (by omega) (by simp; omega) ?_)
          intro v' w8 hown8 hgr8 hv8 hbl8
          obtain ⟨g8, cap8, rfl⟩ : ∃ g8 cap8, v' = .slice (some ⟨g8, 0, none⟩) (k + 1) cap8 := by
            rcases hown8.2 with ⟨h, _⟩ | ⟨g8, cap8, cur, h, _⟩
            · exact absurd h hv8
            · exact ⟨g8, cap8, h⟩
          have hat8 := atZ (z := wr.heap.size + 1) (w := wr.alloc (.cells #[.slice (some ⟨ba, 0, none⟩) N ca] 27)) hbl8 (by simp)
          obtain ⟨hB8, hP8⟩ := HG2.out.app1 hxb (HR1.out.extS hxb) HI1.out hna1 hna2 hlo hown8 hgr8 hat8
          have hgb8 : g8 ≠ bb := gne hat8 (fun q e => (hl1 q e).2) ⟨hb1.1, hb1.2.1⟩ (by simp)
          have HK8 := Lib.hid ((HK.out.ext HXJ.out).keep (w' := w8.setCell ⟨w.heap.size + 3, 0, none⟩ (.slice (some ⟨g8, 0, none⟩) (k + 1) cap8)) (fun p v hp hc => HG2.out.low hxb hgr8 (HG2.out.lt1) (by omega) (by omega) hc))
          have HRB := Lib.hid (((HR2.out.extS hxb).far hgr8 (fun q e => (hl1 q e).2)).setOut (a := ⟨w.heap.size + 3, 0, none⟩) (show w.heap.size + 3 < wk.heap.size by omega) (.slice (some ⟨g8, 0, none⟩) (k + 1) cap8))
          have HP8 := Lib.hid hP8
          obtain ⟨-, s0, s1, s2, s3⟩ := hB8
          clear hP8 hown8 hgr8 hv8 hbl8 hat8 hxb hO1 HG2 HR1 HR2
          have hO2 := HP8.out.own2
          have hlo8 := HP8.out.lo1
          obtain ⟨-, q0, q1, q2, q3⟩ := HP8.out.bc
          have hxb := ext_box (w8.setCell ⟨w.heap.size + 3, 0, none⟩ (.slice (some ⟨g8, 0, none⟩) (k + 1) cap8)) (.slice (some ⟨bb, 0, none⟩) N cb) 27
          have hlz : w.heap.size + 4 ≤ w8.heap.size := by simpa using hlo8
          go_wp2_with (at_builtin; refine wpList_append_one rfl _ _ 24 27 rfl Tryz.underlying24 infoSl (w.heap.size + 4) _ k ys rfl (ownsRow_ext hO2 hxb) _ _ (show Value.oneCell' (.slice _ _ _) = true from rfl) rfl (cell_newE _ _ _ (by simp)) (by omega) (by simp; omega) ?_)
          intro v' w9 hown9 hgr9 hv9 hbl9
          obtain ⟨g9, cap9, rfl⟩ : ∃ g9 cap9, v' = .slice (some ⟨g9, 0, none⟩) (k + 1) cap9 := by
            rcases hown9.2 with ⟨h, _⟩ | ⟨g9, cap9, cur, h, _⟩
            · exact absurd h hv9
            · exact ⟨g9, cap9, h⟩
          have hat9 := atZ (z := w8.heap.size + 1) (w := (w8.setCell ⟨w.heap.size + 3, 0, none⟩ (.slice (some ⟨g8, 0, none⟩) (k + 1) cap8)).alloc (.cells #[.slice (some ⟨bb, 0, none⟩) N cb] 27)) hbl9 (by simp)
          obtain ⟨hB9, hP9⟩ := HP8.out.app2 hxb (HRB.out.extS hxb) HI2.out (fun e => hgb8 (Option.some.inj (show some g8 = some bb from e))) hnb2 hlo hown9 hgr9 hat9
          have HP9 := Lib.hid hP9
          have HK9 := Lib.hid (HK8.out.keep (w' := w9.setCell ⟨w.heap.size + 3, 1, none⟩ (.slice (some ⟨g9, 0, none⟩) (k + 1) cap9)) (fun p v hp hc => HP8.out.low hxb hgr9 (HP8.out.lt2) (by omega) (by omega) hc))
          obtain ⟨-, r0, r1, r2, r3⟩ := hB9
          clear hP9 hown9 hgr9 hv9 hbl9 hat9 hxb hO2 HP8 HRB q0 q1 q2 q3 s0 s1 s2 s3
          go_wp2
          go_roundw
          case rel => exact ⟨k + 1, _, _, _, _, _, _, by omega, by go_num, HP9.out, HK9.out⟩
          case measure => simp [intOf]; omega

end Go.Proofs.YtjfjpngajboidaaGreat
