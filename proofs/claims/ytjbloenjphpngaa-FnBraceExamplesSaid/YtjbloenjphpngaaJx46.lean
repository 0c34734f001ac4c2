/-
  What mostly is a group is drawn: l10DrawAny.
-/
import Derived.Test.YtjbloenjphpngaaProg
import Derived.Deep.DeepCutAuto
import Derived.Deep.RegionWith
import Derived.BigQuiet
import Derived.Test.YtjbloenjphpngaaJx0
import Derived.Test.YtjbloenjphpngaaJx1
import Derived.Test.YtjbloenjphpngaaJx5
import Derived.Test.YtjbloenjphpngaaJx14
import Derived.Test.YtjbloenjphpngaaJx8
import Derived.Test.YtjbloenjphpngaaJx9
import Derived.Test.YtjbloenjphpngaaJx2
import Derived.Test.YtjbloenjphpngaaJx7
import Derived.Test.YtjbloenjphpngaaJx36
import Derived.Test.YtjbloenjphpngaaJx27
import Derived.Test.YtjbloenjphpngaaJx10
import Derived.Test.YtjbloenjphpngaaJx6
import Derived.Test.YtjbloenjphpngaaJx3
import Derived.Test.YtjbloenjphpngaaJx4
import Derived.Test.YtjbloenjphpngaaJx12
import Derived.Test.YtjbloenjphpngaaJx17
import Derived.Test.YtjbloenjphpngaaJx15
import Derived.Test.YtjbloenjphpngaaJx37
import Derived.Test.YtjbloenjphpngaaJx20
import Derived.Test.YtjbloenjphpngaaJx16
import Derived.Test.YtjbloenjphpngaaJx24
import Derived.Test.YtjbloenjphpngaaJx33
import Derived.Test.YtjbloenjphpngaaJx45
import Derived.Test.YtjbloenjphpngaaJx34
import Derived.Test.YtjbloenjphpngaaJx19
import Derived.Test.YtjbloenjphpngaaJx42
import Derived.Test.YtjbloenjphpngaaJx43
import Derived.Test.YtjbloenjphpngaaJx44
import Derived.Test.YtjbloenjphpngaaJx40
import Derived.Test.YtjbloenjphpngaaJx41
import Derived.Test.YtjbloenjphpngaaJx39
import Derived.Test.YtjbloenjphpngaaJx50
namespace Go.Proofs.Ytjbloenjphpngaa
set_option linter.unusedVariables false
set_option linter.unusedSimpArgs false
open Go.RowKit
attribute [local go_sem ↓] Go.wp_at_zero Go.wp_at_succ
open Go.Deep

/-- a table that lies outside block S -/
def RowsN (S : Nat) (w : World) (v : Value) (t : List (List Int)) : Prop :=
  t.length ≤ 1048576 ∧ ∃ b o c, v = .slice (some ⟨b, o, none⟩) t.length c ∧ b ≠ S ∧ ∀ i, i < t.length → ∃ b1 o1 c1, w.cell? ⟨b, o + i, none⟩ = some (.slice (some ⟨b1, o1, none⟩) (row t i).length c1) ∧ b1 ≠ S ∧ (row t i).length ≤ 1048576 ∧ IntsAt w b1 o1 (row t i)
theorem RowsN.rows {S : Nat} {w : World} {v : Value} {t : List (List Int)} (h : RowsN S w v t) : Rows w v t := by
  obtain ⟨h0, b, o, c, rfl, hb, h⟩ := h
  refine ⟨h0, b, o, c, rfl, fun i hi => ?_⟩
  obtain ⟨b1, o1, c1, h1, h2, h3, h4⟩ := h i hi
  exact ⟨_, h1, h3, b1, o1, c1, rfl, h4⟩
theorem RowsN.keep {S : Nat} {w w' : World} {v : Value} {t : List (List Int)} (h : RowsN S w v t) (hk : ∀ k, k ≠ S → k < w.heap.size → w'.heap[k]? = w.heap[k]?) : RowsN S w' v t := by
  obtain ⟨h0, b, o, c, rfl, hb, h⟩ := h
  refine ⟨h0, b, o, c, rfl, hb, fun i hi => ?_⟩
  obtain ⟨b1, o1, c1, h1, h2, h3, h4⟩ := h i hi
  refine ⟨b1, o1, c1, ?_, h2, h3, fun j hj => ?_⟩
  · rw [World.cell?_of_block (w := w) (a := ⟨b, o + i, none⟩) (hk b hb (World.block_lt_of_cell? _ _ h1))]; exact h1
  · rw [World.cell?_of_block (w := w) (a := ⟨b1, o1 + j, none⟩) (hk b1 h2 (World.block_lt_of_cell? _ _ (h4 j hj)))]; exact h4 j hj
theorem RowsN.touch {S : Nat} {w w' : World} {v : Value} {t : List (List Int)} (h : RowsN S w v t) (hT : Touch S (S + 1) w w') : RowsN S w' v t := h.keep fun k hk hl => hT.block k hl (by omega)
theorem RowsN.ext {S : Nat} {w w' : World} {v : Value} {t : List (List Int)} (h : RowsN S w v t) (hx : Ext w w') : RowsN S w' v t := h.keep fun k _ hl => hx.block k hl
theorem RowsN.setNil {S : Nat} {w : World} {v : Value} {t : List (List Int)} (h : RowsN S w v t) {a : Addr} (ha : w.cell? a = some (.slice none 0 0)) (u : Value) : RowsN S (w.setCell a u) v t := by
  obtain ⟨h0, b, o, c, rfl, hb, h⟩ := h
  refine ⟨h0, b, o, c, rfl, hb, fun i hi => ?_⟩
  obtain ⟨b1, o1, c1, h1, h2, h3, h4⟩ := h i hi
  refine ⟨b1, o1, c1, ?_, h2, h3, h4.setNil ha u⟩
  rw [World.cell?_setCell_other _ _ _ _ (fun e => by rw [e, h1] at ha; simp at ha)]
  exact h1
/-- some struct of a table is drawn -/
def DrawG (S : Nat) (w : World) (e : Ending) (w' : World) : Prop :=
  ∃ v T, e = .returned (.agg #[v]) ∧ RowsN S w' v T ∧ T.length ≤ 12 ∧ Src S w' ∧ Touch S (S + 1) w w'

theorem row_set_eq {T : List (List Int)} {j : Nat} {p : List Int} (h : j < T.length) : row (T.set j p) j = p := by rw [row_eq]; simp [List.getD, h]
theorem row_set_ne {T : List (List Int)} {i j : Nat} {p : List Int} (h : i ≠ j) : row (T.set j p) i = row T i := by rw [row_eq, row_eq]; simp [List.getD, List.getElem?_set, Ne.symm h]
/-- a row is exchanged -/
theorem rows_setRow {S lo hi : Nat} {w : World} {b c pb n pc j : Nat} {T : List (List Int)} {p : List Int} (h : OwnT lo hi w b 0 T) (hs : Small T) (hj : j < T.length) (hp : IntsAt w pb 0 p) (hpl : p.length = n) (hp8 : p.length ≤ 1048576) (hpb : pb ≠ b) (hS : S < lo) (hpS : pb ≠ S) : RowsN S (w.setCell ⟨b, j, none⟩ (.slice (some ⟨pb, 0, none⟩) n pc)) (.slice (some ⟨b, 0, none⟩) T.length c) (T.set j p) := by
  obtain ⟨h1, h2, B, O, C, h3, h4⟩ := h
  refine ⟨by simpa using hs.1, b, 0, c, by simp, by omega, fun i hi => ?_⟩
  rw [List.length_set] at hi
  obtain ⟨a1, a2, a3⟩ := h3 i hi
  rw [Nat.zero_add] at a1 ⊢
  by_cases e : i = j
  · subst e
    refine ⟨pb, 0, pc, ?_⟩
    rw [row_set_eq hi]
    exact ⟨by rw [hpl]; exact kc_same a1, hpS, hp8, ki_set (by simp only []; omega) hp⟩
  · refine ⟨B i, O i, C i, ?_⟩
    rw [row_set_ne e]
    exact ⟨kc_set2 (by simp only []; omega) a1, by have := a2.1; omega, hs.2 i, ki_set (by simp only []; omega) a2.2.2.1⟩
theorem rows_setEnt {S lo hi : Nat} {w : World} {b c : Nat} {T : List (List Int)} {j k n : Nat} {x : Int} (h : OwnT lo hi w b 0 T) (hs : Small T) (hj : j < T.length) (hk : k < n) (hn : (row T j).length = n) {rb ro rc : Nat} (hc : w.cell? ⟨b, j, none⟩ = some (.slice (some ⟨rb, ro, none⟩) (row T j).length rc)) (hS : S < lo) :
    RowsN S (w.setCell ⟨rb, ro + k, none⟩ (.int .i64 x)) (.slice (some ⟨b, 0, none⟩) T.length c) (T.set j ((row T j).set k x)) := by
  obtain ⟨h1, h2, B, O, C, h3, h4, h5⟩ := h
  obtain ⟨a1, a2, a3⟩ := h3 j hj
  rw [Nat.zero_add, hc] at a1
  simp only [Option.some.injEq, Value.slice.injEq, Addr.mk.injEq, and_true, true_and] at a1
  obtain ⟨⟨e1, e2⟩, e3⟩ := a1
  refine ⟨by simpa using hs.1, b, 0, c, by simp, by omega, fun i hi => ?_⟩
  rw [List.length_set] at hi
  obtain ⟨g1, g2, g3⟩ := h3 i hi
  refine ⟨B i, O i, C i, ?_⟩
  by_cases e : i = j
  · subst e
    rw [row_set_eq hi, List.length_set]
    refine ⟨kc_set (by simp only []; omega) g1, by have := g2.1; omega, hs.2 i, ?_⟩
    rw [e1, e2]
    refine IntsAt.set a2.2.2.1 k x (by omega) (by simp) (fun m hm hml => ?_) ?_
    · rw [ix_eq, ix_eq]; simp [List.getD, List.getElem?_set, Ne.symm hm]
    · rw [ix_eq]; simp [List.getD, show k < (row T i).length by omega]
  · rw [row_set_ne e]
    have hne : B i ≠ rb := fun hb => e (h4 i j hi hj (by omega))
    exact ⟨kc_set (by simp only []; omega) g1, by have := g2.1; omega, hs.2 i, ki_set (by simp only []; omega) g2.2.2.1⟩
theorem rows_all {S lo hi : Nat} {w : World} {b c : Nat} {T : List (List Int)} (h : OwnT lo hi w b 0 T) (hs : Small T) (hS : S < lo) : RowsN S w (.slice (some ⟨b, 0, none⟩) T.length c) T := by
  obtain ⟨h1, h2, B, O, C, h3, h4⟩ := h
  refine ⟨hs.1, b, 0, c, rfl, by omega, fun i hi => ?_⟩
  obtain ⟨a1, a2, a3⟩ := h3 i hi
  exact ⟨B i, O i, C i, a1, by have := a2.1; omega, hs.2 i, a2.2.2.1⟩
theorem rows_drop {S lo hi : Nat} {w : World} {b c : Nat} {T : List (List Int)} (h : OwnT lo hi w b 0 T) (hs : Small T) (hS : S < lo) : RowsN S w (.slice (some ⟨b, 1, none⟩) (T.length - 1) c) (T.drop 1) := by
  obtain ⟨h1, h2, B, O, C, h3, h4⟩ := h
  refine ⟨by have := hs.1; simp; omega, b, 1, c, by simp, by omega, fun i hi => ?_⟩
  rw [List.length_drop] at hi
  obtain ⟨a1, a2, a3⟩ := h3 (1 + i) (by omega)
  rw [Nat.zero_add] at a1
  have e : row (T.drop 1) i = row T (1 + i) := by rw [row_eq, row_eq]; simp [List.getD, List.getElem?_drop, Nat.add_comm]
  refine ⟨B (1 + i), O (1 + i), C (1 + i), ?_⟩
  rw [e]
  exact ⟨a1, by have := a2.1; omega, hs.2 _, a2.2.2.1⟩
theorem rows_front {S lo hi : Nat} {w : World} {b c : Nat} {T : List (List Int)} (h : OwnT lo hi w b 0 T) (hs : Small T) (hS : S < lo) : RowsN S w (.slice (some ⟨b, 0, none⟩) (T.length - 1) c) (T.take (T.length - 1)) := by
  obtain ⟨h1, h2, B, O, C, h3, h4⟩ := h
  refine ⟨by have := hs.1; simp; omega, b, 0, c, by simp, by omega, fun i hi => ?_⟩
  rw [List.length_take] at hi
  obtain ⟨a1, a2, a3⟩ := h3 i (by omega)
  have e : row (T.take (T.length - 1)) i = row T i := by rw [row_eq, row_eq]; simp [List.getD, List.getElem?_take, show i < T.length - 1 by omega, List.getElem?_eq_getElem (show i < T.length by omega)]
  refine ⟨B i, O i, C i, ?_⟩
  rw [e]
  exact ⟨a1, by have := a2.1; omega, hs.2 _, a2.2.2.1⟩
theorem Touch.setIn {lo hi : Nat} {a w : World} (h : Touch lo hi a w) {p : Addr} (hp : a.heap.size ≤ p.block) (v : Value) : Touch lo hi a (w.setCell p v) :=
  ⟨h.os, h.tape, h.output, by have := h.size; simp; exact this, fun k hk hn => (Below.heap_setCell _ _ _ _ (by omega)).trans (h.block k hk hn)⟩
theorem Src.setCell {S : Nat} {w : World} (h : Src S w) {p : Addr} (hp : S < p.block) (v : Value) : Src S (w.setCell p v) :=
  h.touch2 (lo := p.block) (hi := p.block + 1) (Touch.of_marked ((Marked.refl _ _ _).setCell (Nat.le_refl _) (Nat.lt_succ_self _) v)) hp
theorem Rows.setNilCell {w : World} {v : Value} {t : List (List Int)} (h : Rows w v t) {a : Addr} (ha : w.cell? a = some (.slice none 0 0)) (u : Value) : Rows (w.setCell a u) v t := h.setNil ha u
theorem Touch.ofDrew {lo hi : Nat} {w w' : World} (h : Touch lo hi w.drew w') : Touch lo hi w w' := ⟨h.os, h.tape, h.output, h.size, h.block⟩
/-- where an entry lies, and that it may be written -/
theorem own_at {lo hi : Nat} {w : World} {b n : Nat} {T : List (List Int)} (h : OwnT lo hi w b 0 T) {j k : Nat} (hj : j < T.length) (hk : k < n) (hn : (row T j).length = n) {rb ro m rc : Nat} (hc : w.cell? ⟨b, j, none⟩ = some (.slice (some ⟨rb, ro, none⟩) m rc)) :
    w.cell? ⟨rb, ro + k, none⟩ = some (.int .i64 (ix (row T j) k)) ∧ w.frozen? ⟨rb, ro + k, none⟩ = false := by
  obtain ⟨b1, o1, c1, h1, h2⟩ := h.get hj
  rw [Nat.zero_add, hc] at h1
  simp only [Option.some.injEq, Value.slice.injEq, Addr.mk.injEq, and_true] at h1
  obtain ⟨⟨rfl, rfl⟩, _, _⟩ := h1
  exact ⟨h2.2.2.1 k (by omega), h2.2.2.2 k (by omega)⟩
theorem TableOk.small {t : List (List Int)} (h : TableOk t) : Small t := ⟨by have := h.2.1; omega, fun i => by
  by_cases hi : i < t.length
  · rw [h.len hi]; have := h.2.1; omega
  · rw [row_eq]; simp [List.getD, hi]⟩

set_option maxRecDepth 100000 in
set_option maxHeartbeats 2000000 in
theorem l10DrawAny_any (S most : Nat) (w : World) (hs : Src S w) (h1 : 1 ≤ most) (h12 : most ≤ 12) :
    Calls Try.prog 69 #[.pointer (some ⟨S, 0, none⟩), .int .i64 most] w (DrawG S w) := by
  have hlt := hs.lt
  have hx0 := ext_box w (.slice none 0 0) 38
  have b0 := cell_new w (.slice none 0 0) 38
  have q0 : (w.alloc (.cells #[.slice none 0 0] 38)).frozen? ⟨w.heap.size, 0, none⟩ = false := by simp
  have z0 : w.heap.size + 1 ≤ (w.alloc (.cells #[.slice none 0 0] 38)).heap.size := by simp
  go_enter Try.func69, Try.ntmps69
  go_wp2_with fail
  generalize (w.alloc (.cells #[.slice none 0 0] 38)) = w0 at *
  refine (l10Draw_any S most _ (hs.ext hx0) h1 h12).mono ?_
  rintro e w1 ⟨T, b, c, lo, hi, rfl, ho, hlo, hhi, hok, hs1, hT1⟩
  have b1 := hT1.cell b0 (.inr (by simp only []; omega))
  have q1 : w1.frozen? ⟨w.heap.size, 0, none⟩ = false := by rw [World.frozen?_of_block (w := w0) (a := ⟨w.heap.size, 0, none⟩) (hT1.block w.heap.size (by omega) (by omega))]; exact q0
  have z1 := hT1.size
  have HO := Lib.hid ho
  have HS := Lib.hid hs1
  have HT := Lib.hid ((Touch.of_ext hx0).trans hT1)
  have HK := Lib.hid hok
  have HSM := Lib.hid hok.small
  have ht1 := hok.1
  have ht12 := hok.2.1
  clear b0 q0 hx0 ho hs1 hT1 hs hok
  go_wp2_with fail
  refine (l01Next_any S _ _ HS.out).mono ?_
  rintro e w2 ⟨r, rfl, r1, r2, -, hs2, hT2⟩
  have b2 := hT2.cell b1 (.inr (by simp only []; omega))
  have q2 : w2.frozen? ⟨w.heap.size, 0, none⟩ = false := by rw [World.frozen?_of_block (w := w1) (a := ⟨w.heap.size, 0, none⟩) (hT2.block w.heap.size (by omega) (by omega))]; exact q1
  have z2 := hT2.size
  have HO := Lib.hid (HO.out.touch hT2 (by omega) (by omega))
  have HS := Lib.hid hs2
  have HT := Lib.hid (HT.out.trans hT2)
  clear b1 q1 hs2 hT2 r2
  by_cases hr0 : r = 0
  case pos =>
    subst hr0
    clear r1
    go_wp2_with fail
    refine (l01Next_any S _ _ HS.out).mono ?_
    rintro e w3 ⟨r, rfl, r1, r2, -, hs3, hT3⟩
    obtain ⟨j, rfl⟩ := Int.eq_ofNat_of_zero_le r1
    have hj : j < T.length := by have := r2 (by omega); omega
    have b3 := hT3.cell b2 (.inr (by simp only []; omega))
    have q3 : w3.frozen? ⟨w.heap.size, 0, none⟩ = false := by rw [World.frozen?_of_block (w := w2) (a := ⟨w.heap.size, 0, none⟩) (hT3.block w.heap.size (by omega) (by omega))]; exact q2
    have z3 := hT3.size
    have HO := Lib.hid (HO.out.touch hT3 (by omega) (by omega))
    have HS := Lib.hid hs3
    have HT := Lib.hid (HT.out.trans hT3)
    clear b2 q2 hs3 hT3 r1 r2
    go_wp2_with fail
    refine (l03DrawPerm_any S T.length _ HS.out ht12).mono ?_
    rintro e w4 ⟨p, pb, pc, rfl, hrp, hop, hs4, hT4⟩
    have b4 := hT4.cell b3 (.inr (by simp only []; omega))
    have q4 : w4.frozen? ⟨w.heap.size, 0, none⟩ = false := by rw [World.frozen?_of_block (w := w3) (a := ⟨w.heap.size, 0, none⟩) (hT4.block w.heap.size (by omega) (by omega))]; exact q3
    have z4 := hT4.size
    have HO := Lib.hid (HO.out.touch hT4 (by omega) (by omega))
    have HS := Lib.hid hs4
    have HT := Lib.hid (HT.out.trans hT4)
    have HP := Lib.hid hop
    have HPL := Lib.hid hrp.1
    clear b3 q3 hs4 hT4 hop hrp
    obtain ⟨rb, ro, rc, hcell, -⟩ := HO.out.get hj
    have hfr := HO.out.2.2
    obtain ⟨_, _, _, -, -, hfr⟩ := hfr
    have hfj := hfr j hj
    rw [Nat.zero_add] at hcell hfj
    clear hfr
    have hbl := HO.out.1
    have hbh := HO.out.2.1
    have hpl := HP.out.1
    go_wp2_with fail
    have HRR := Lib.hid (rows_setRow (c := c) (pc := pc) HO.out HSM.out hj HP.out.2.2.1 HPL.out (by rw [HPL.out]; omega) (by omega) (S := S) (by omega) (by omega))
    have b5 : (w4.setCell ⟨b, j, none⟩ (.slice (some ⟨pb, 0, none⟩) T.length pc)).cell? ⟨w.heap.size, 0, none⟩ = some (.slice none 0 0) := kc_set (by simp only []; omega) b4
    refine bodyPost_ret (v := .agg #[.slice (some ⟨b, 0, none⟩) T.length c]) (by simp [results, Try.results69, go_sem, b5]) rfl ⟨_, T.set j p, rfl, HRR.out.setNil b5 _, by simpa using ht12, ?_, ?_⟩
    · exact (HS.out.setCell (by simp only []; omega) _).setCell (by simp only []; omega) _
    · exact (HT.out.setIn (by simp only []; omega) _).setIn (by simp only []; omega) _
  case neg =>
    by_cases hr1 : r = 1
    case pos =>
      subst hr1
      clear r1 hr0
      have hlen : ∀ i, i < T.length → (row T i).length = T.length := fun i hi => HK.out.len hi
      have HLEN := Lib.hid hlen
      clear hlen
      have hbl := HO.out.1
      have hbh := HO.out.2.1
      go_wp2_with fail
      go_region_with (first
          | (go_at_call 32; refine (l01Next_any S _ _ (hsB.ext (by (repeat first | (with_reducible exact Ext.refl _) | (with_reducible assumption) | (with_reducible apply Ext.drew) | (with_reducible apply kx_drewN) | (with_reducible apply kx_alloc) | ((with_reducible refine kx_set ?_ ?_); (first | (simp only []; omega) | (simp; omega) | (focus (simp; done)))) )))).mono ?_; rintro e wC ⟨rC, rfl, r1, r2, -, hsC, hTC⟩; have hcC := hTC.cell (show World.cell? _ _ = _ from hcB) (by simp only []; omega); have hOC := hOB.touch (show Touch S (S + 1) wB wC by first | exact hTC | exact Touch.ofDrew hTC) (by omega) (by omega); have zC : wB.heap.size ≤ wC.heap.size := hTC.size; obtain ⟨eC, fC⟩ := own_at hOC hjA hjB (by rw [HLEN.out jA hjA]) hcC; clear r1 r2)
          | (go_at_call 32; refine (l01Next_any S _ _ (hsA.ext (by (repeat first | (with_reducible exact Ext.refl _) | (with_reducible assumption) | (with_reducible apply Ext.drew) | (with_reducible apply kx_drewN) | (with_reducible apply kx_alloc) | ((with_reducible refine kx_set ?_ ?_); (first | (simp only []; omega) | (simp; omega) | (focus (simp; done)))) )))).mono ?_; rintro e wB ⟨rB, rfl, r1, r2, -, hsB, hTB⟩; obtain ⟨jB, rfl⟩ := Int.eq_ofNat_of_zero_le r1; have hjB : jB < T.length := (by have := r2 (by omega); omega); have hcB := hTB.cell (show World.cell? _ _ = _ from hcA) (by simp only []; omega); have hOB := hOA.touch (show Touch S (S + 1) wA wB by first | exact hTB | exact Touch.ofDrew hTB) (by omega) (by omega); have zB : wA.heap.size ≤ wB.heap.size := hTB.size; clear r1 r2)
          | (go_at_call 32; refine (l01Next_any S _ _ (HS.out.ext (by (repeat first | (with_reducible exact Ext.refl _) | (with_reducible assumption) | (with_reducible apply Ext.drew) | (with_reducible apply kx_drewN) | (with_reducible apply kx_alloc) | ((with_reducible refine kx_set ?_ ?_); (first | (simp only []; omega) | (simp; omega) | (focus (simp; done)))) )))).mono ?_; rintro e wA ⟨rA, rfl, r1, r2, -, hsA, hTA⟩; obtain ⟨jA, rfl⟩ := Int.eq_ofNat_of_zero_le r1; have hjA : jA < T.length := (by have := r2 (by omega); omega); have hOA := HO.out.touch (show Touch S (S + 1) w2 wA by first | exact hTA | exact Touch.ofDrew hTA) (by omega) (by omega); obtain ⟨rb, ro, rc, hcA, hrO⟩ := hOA.get hjA; rw [Nat.zero_add, HLEN.out jA hjA] at hcA; have hrb := hrO.1; have hrb2 := hrO.2.1; have zA : w2.heap.size ≤ wA.heap.size := hTA.size; clear r1 r2 hrO))
      all_goals
        have HRE := Lib.hid (rows_setEnt (c := c) (x := rC) hOC HSM.out hjA hjB (by rw [HLEN.out jA hjA]) (by rw [HLEN.out jA hjA]; exact hcC) (S := S) (by omega))
        have HTE := Lib.hid ((((HT.out.trans (show Touch S (S + 1) w2 wA by first | exact hTA | exact Touch.ofDrew hTA)).trans hTB).trans hTC).setIn (p := ⟨rb, ro + jB, none⟩) (by simp only []; omega) (.int .i64 rC))
        have HSE := Lib.hid (hsC.setCell (p := ⟨rb, ro + jB, none⟩) (by simp only []; omega) (.int .i64 rC))
        have hce := (show (wC.setCell ⟨rb, ro + jB, none⟩ (.int .i64 rC)).cell? ⟨w.heap.size, 0, none⟩ = some (.slice none 0 0) from kc_set (by simp only []; omega) (hTC.cell (hTB.cell (hTA.cell (show World.cell? _ _ = _ from b2) (by simp only []; omega)) (by simp only []; omega)) (by simp only []; omega)))
        have qce : (wC.setCell ⟨rb, ro + jB, none⟩ (.int .i64 rC)).frozen? ⟨w.heap.size, 0, none⟩ = false := by
          refine kf_set ?_
          rw [World.frozen?_of_block (w := wB) (a := ⟨w.heap.size, 0, none⟩) (hTC.block w.heap.size (by omega) (by omega)), World.frozen?_of_block (w := wA) (a := ⟨w.heap.size, 0, none⟩) (hTB.block w.heap.size (by omega) (by omega)), World.frozen?_of_block (w := w2) (a := ⟨w.heap.size, 0, none⟩) ((show Touch S (S + 1) w2 wA by first | exact hTA | exact Touch.ofDrew hTA).block w.heap.size (by omega) (by omega))]
          exact q2
        go_wp2_with fail
        refine bodyPost_ret (v := .agg #[.slice (some ⟨b, 0, none⟩) T.length c]) (by simp [results, Try.results69, go_sem, hce]) rfl ⟨_, _, rfl, HRE.out.setNil hce _, by simpa using ht12, ?_, ?_⟩
        · exact HSE.out.setCell (by simp only []; omega) _
        · exact HTE.out.setIn (by simp only []; omega) _
    case neg =>
      by_cases hr2 : r = 2
      case pos =>
        subst hr2
        clear r1 hr0 hr1
        have hbl := HO.out.1
        by_cases hc1 : c = 1
        case pos =>
          subst hc1
          go_wp2_with fail
          have HRR := Lib.hid (rows_front (c := 0) HO.out HSM.out (S := S) (by omega))
          refine bodyPost_ret (v := .agg #[.slice (some ⟨b, 0, none⟩) (T.length - 1) 0]) (by simp [results, Try.results69, go_sem, b2]) rfl ⟨_, T.take (T.length - 1), rfl, HRR.out.setNil b2 _, by simp; omega, ?_, ?_⟩
          · exact HS.out.setCell (by simp only []; omega) _
          · exact HT.out.setIn (by simp only []; omega) _
        case neg =>
          go_wp2_with fail
          have HRR := Lib.hid (rows_drop (c := c - 1) HO.out HSM.out (S := S) (by omega))
          refine bodyPost_ret (v := .agg #[.slice (some ⟨b, 1, none⟩) (T.length - 1) (c - 1)]) (by simp [results, Try.results69, go_sem, b2]) rfl ⟨_, T.drop 1, rfl, HRR.out.setNil b2 _, by simp; omega, ?_, ?_⟩
          · exact HS.out.setCell (by simp only []; omega) _
          · exact HT.out.setIn (by simp only []; omega) _
      case neg =>
        go_wp2_with fail
        have HRR := Lib.hid (rows_all (c := c) HO.out HSM.out (S := S) (by omega))
        refine bodyPost_ret (v := .agg #[.slice (some ⟨b, 0, none⟩) T.length c]) (by simp [results, Try.results69, go_sem, b2]) rfl ⟨_, T, rfl, HRR.out.setNil b2 _, ht12, ?_, ?_⟩
        · exact HS.out.setCell (by simp only []; omega) _
        · exact HT.out.setIn (by simp only []; omega) _
end Go.Proofs.Ytjbloenjphpngaa

/-
  What the laws of groups draw.
-/
namespace Go.Proofs.Ytjbloenjphpngaa
set_option linter.unusedVariables false
set_option linter.unusedSimpArgs false
open Go.RowKit
attribute [local go_sem ↓] Go.wp_at_zero Go.wp_at_succ
open Go.Deep

theorem Rows.shape {w : World} {v : Value} {t : List (List Int)} (h : Rows w v t) : ∃ b o c, v = .slice (some ⟨b, o, none⟩) t.length c := by
  obtain ⟨-, b, o, c, e, -⟩ := h
  exact ⟨b, o, c, e⟩
theorem tdiv23 {r : Int} (h0 : 0 ≤ r) (h1 : r < 24) : 0 ≤ r.tdiv 23 ∧ r.tdiv 23 ≤ 1 := by
  obtain ⟨k, rfl⟩ := Int.eq_ofNat_of_zero_le h0
  rw [Int.tdiv_eq_ediv_of_nonneg (by omega)]
  omega
/-- some struct of a table, in new memory or not -/
def DrawnG (w : World) (e : Ending) (w' : World) : Prop :=
  ∃ v T, e = .returned (.agg #[v]) ∧ Rows w' v T ∧ T.length ≤ 12 ∧ Ext w w'
/-- .. and a number -/
def DrawnGI (w : World) (e : Ending) (w' : World) : Prop :=
  ∃ v T x, e = .returned (.tuple #[.agg #[v], .int .i64 x]) ∧ Rows w' v T ∧ T.length ≤ 12 ∧ Ext w w'
/-- a number -/
def DrawnI (lo hi : Int) (w : World) (e : Ending) (w' : World) : Prop :=
  ∃ x : Int, e = .returned (.int .i64 x) ∧ lo ≤ x ∧ x ≤ hi ∧ Ext w w'
/-- two numbers -/
def DrawnII (w : World) (e : Ending) (w' : World) : Prop :=
  ∃ x y : Int, e = .returned (.tuple #[.int .i64 x, .int .i64 y]) ∧ -1 ≤ x ∧ x ≤ 13 ∧ -1 ≤ y ∧ y ≤ 14 ∧ Ext w w'

set_option maxRecDepth 100000 in
set_option maxHeartbeats 1000000 in
theorem DrawIsGroup_any (bs : List Int) (v : Value) (w : World) (hv : BytesR w v bs) (hl : bs.length ≤ 4096) :
    Calls Try.prog 41 #[v] w (DrawnG w) := by
  have hx0 := ext_box w (.slice none 0 0) 38
  have b0 := cell_new w (.slice none 0 0) 38
  have q0 : (w.alloc (.cells #[.slice none 0 0] 38)).frozen? ⟨w.heap.size, 0, none⟩ = false := by simp
  have z0 : w.heap.size + 1 ≤ (w.alloc (.cells #[.slice none 0 0] 38)).heap.size := by simp
  go_enter Try.func41, Try.ntmps41
  go_wp2_with fail
  generalize (w.alloc (.cells #[.slice none 0 0] 38)) = w0 at *
  refine (l01From_any bs _ _ (hv.ext hx0) hl).mono ?_
  rintro e w1 ⟨S, rfl, hS, hs, hx1⟩
  have b1 := hx1.cell b0
  have q1 := hx1.free q0 (by simp only []; omega)
  go_wp2_with fail
  refine (l10DrawAny_any S 12 _ hs (by omega) (by omega)).mono ?_
  rintro e w2 ⟨v2, T, rfl, hr, hl2, hs2, hT2⟩
  have b2 := hT2.cell b1 (.inl (by simp only []; omega))
  have q2 : w2.frozen? ⟨w.heap.size, 0, none⟩ = false := by rw [World.frozen?_of_block (w := w1) (a := ⟨w.heap.size, 0, none⟩) (hT2.block w.heap.size (by have := hx1.size; omega) (by omega))]; exact q1
  have hX := hx0.trans (hx1.touch hT2 hS)
  obtain ⟨bb, oo, cc, rfl⟩ := Rows.shape (by first | exact hr | exact hr.rows)
  go_wp2_with fail
  have b3 := kc_same (u := .slice (some ⟨bb, oo, none⟩) T.length cc) b2
  refine bodyPost_ret (v := .agg #[.slice (some ⟨bb, oo, none⟩) T.length cc]) (by simp [results, Try.results41, go_sem, b3]) rfl ⟨_, T, rfl, (by first | exact hr.setNil b2 _ | exact (hr.setNil b2 _).rows), hl2, hX.setNew (Nat.le_refl _) _⟩

set_option maxRecDepth 100000 in
set_option maxHeartbeats 1000000 in
theorem DrawAlexanderQuandle_any (bs : List Int) (v : Value) (w : World) (hv : BytesR w v bs) (hl : bs.length ≤ 4096) :
    Calls Try.prog 48 #[v] w (DrawnII w) := by
  go_enter Try.func48, Try.ntmps48
  go_wp2_with fail
  refine (l01From_any bs _ _ hv hl).mono ?_
  rintro e w1 ⟨S, rfl, hS, hs, hx1⟩
  go_wp2_with fail
  refine (l01Next_any S 15 _ hs).mono ?_
  rintro e w2 ⟨r, rfl, r1, r2, -, hs2, hT2⟩
  have r3 := r2 (by omega)
  have hX := hx1.touch hT2 hS
  clear r2 hs hT2
  go_wp2_with fail
  all_goals
    refine (l01Next_any S _ _ hs2).mono ?_
    rintro e w3 ⟨q, rfl, q1, q2, -, hs3, hT3⟩
    have q3 : q ≤ 14 := by
      have := q2 (by omega)
      omega
    have hX3 := hX.touch hT3 hS
    clear q2 hs2 hT3 hX
    go_wp2_with fail
    refine (l01Next_any S 24 _ hs3).mono ?_
    rintro e w4 ⟨p, rfl, p1, p2, -, hs4, hT4⟩
    have p3 := p2 (by omega)
    have hX4 := hX3.touch hT4 hS
    have hp : 0 ≤ p.tdiv 23 ∧ p.tdiv 23 ≤ 1 := by
      obtain ⟨k, rfl⟩ := Int.eq_ofNat_of_zero_le p1
      rw [Int.tdiv_eq_ediv_of_nonneg (by omega)]
      omega
    clear p2 hs3 hT4 hX3
    go_wp2_with fail
    go_ret2
    exact ⟨r - 1, q - p.tdiv 23, rfl, by omega, by omega, by omega, by omega, hX4⟩

end Go.Proofs.Ytjbloenjphpngaa

/-
  The law's helper brace9: like braces.
-/
namespace Go.Proofs.Ytjbloenjphpngaa
set_option linter.unusedVariables false
set_option linter.unusedSimpArgs false
open Go.RowKit
open Go.Deep

set_option maxRecDepth 100000 in
set_option maxHeartbeats 2000000 in
theorem brace9_same (T U : List (List Int)) (v y v2 y2 : Value) (w : World) (h1 : RowsR w v T) (h2 : RowsR w y U) (h3 : RowsR w v2 T) (h4 : RowsR w y2 U) (hs : Small T) (hs2 : Small U) :
    Calls Try.prog 18 #[.agg #[v, y], .agg #[v2, y2]] w fun e w' => e = .returned (.bool true) ∧ Ext w w' := by
  obtain ⟨a1, c1, rfl, -⟩ := id h1
  obtain ⟨a2, c2, rfl, -⟩ := id h2
  obtain ⟨a3, c3, rfl, -⟩ := id h3
  obtain ⟨a4, c4, rfl, -⟩ := id h4
  have hX : Ext w ((w.alloc (.cells #[.slice a1 T.length c1, .slice a2 U.length c2] 26)).alloc (.cells #[.slice a3 T.length c3, .slice a4 U.length c4] 26)) := ((Ext.refl _).alloc _).alloc _
  have k0 : ((w.alloc (.cells #[.slice a1 T.length c1, .slice a2 U.length c2] 26)).alloc (.cells #[.slice a3 T.length c3, .slice a4 U.length c4] 26)).cell? ⟨w.heap.size, 0, none⟩ = some (.slice a1 T.length c1) := by simp [go_sem]
  have k1 : ((w.alloc (.cells #[.slice a1 T.length c1, .slice a2 U.length c2] 26)).alloc (.cells #[.slice a3 T.length c3, .slice a4 U.length c4] 26)).cell? ⟨w.heap.size, 1, none⟩ = some (.slice a2 U.length c2) := by simp [go_sem]
  have d0 : ((w.alloc (.cells #[.slice a1 T.length c1, .slice a2 U.length c2] 26)).alloc (.cells #[.slice a3 T.length c3, .slice a4 U.length c4] 26)).cell? ⟨w.heap.size + 1, 0, none⟩ = some (.slice a3 T.length c3) := by simp [go_sem]
  have d1 : ((w.alloc (.cells #[.slice a1 T.length c1, .slice a2 U.length c2] 26)).alloc (.cells #[.slice a3 T.length c3, .slice a4 U.length c4] 26)).cell? ⟨w.heap.size + 1, 1, none⟩ = some (.slice a4 U.length c4) := by simp [go_sem]
  have E1 := Lib.hid (show eqTB T T = true from eqTB_yes rfl)
  have E2 := Lib.hid (show eqTB U U = true from eqTB_yes rfl)
  have H1 := Lib.hid (h1.ext hX)
  have H2 := Lib.hid (h2.ext hX)
  have H3 := Lib.hid (h3.ext hX)
  have H4 := Lib.hid (h4.ext hX)
  clear h1 h2 h3 h4
  go_enter Try.func18, Try.ntmps18
  go_wp2_with fail
  generalize ((w.alloc (.cells #[.slice a1 T.length c1, .slice a2 U.length c2] 26)).alloc (.cells #[.slice a3 T.length c3, .slice a4 U.length c4] 26)) = A at *
  refine (same9_any T T _ _ _ H1.out H3.out hs).mono ?_
  rintro e wA ⟨rfl, hdA⟩
  rw [E1.out]
  replace k0 := hdA.ext.cell k0
  replace k1 := hdA.ext.cell k1
  replace d0 := hdA.ext.cell d0
  replace d1 := hdA.ext.cell d1
  go_wp2_with (go_at_call 13; refine (same9_any U U _ _ _ (H2.out.ext hdA.ext) (H4.out.ext hdA.ext) hs2).mono ?_; rintro e wB ⟨rfl, hdB⟩; rw [E2.out])
  go_ret
  exact ⟨rfl, hX.trans (hdA.ext.trans hdB.ext)⟩
end Go.Proofs.Ytjbloenjphpngaa
