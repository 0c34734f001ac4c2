/-
  l11Draw of the reference: a brace is drawn; its tables lie in new memory, apart from each other.
-/
import Derived.Deep.CutBlock
import Derived.Test.YthlafeefjonkdaaGreatDoorJx24
namespace Go.Proofs.YthlafeefjonkdaaGreatDoor
set_option linter.unusedVariables false
set_option linter.unusedSimpArgs false
open Go.RowKit
attribute [local go_sem ↓] Go.wp_at_zero Go.wp_at_succ
open Go.Deep

def BoxB (B : Nat) (W : World) : Prop := W.cell? ⟨B, 0, none⟩ = some (.slice none 0 0) ∧ W.cell? ⟨B, 1, none⟩ = some (.slice none 0 0) ∧ W.frozen? ⟨B, 0, none⟩ = false ∧ W.frozen? ⟨B, 1, none⟩ = false

theorem BoxB.touch {B S : Nat} {W W' : World} (h : BoxB B W) (m : Touch S (S + 1) W W') (hB : B < W.heap.size) (hS : S < B) : BoxB B W' := by
  have hb := m.block B hB (by omega)
  refine ⟨?_, ?_, ?_, ?_⟩
  · rw [World.cell?_of_block (w := W) (a := ⟨B, 0, none⟩) hb]; exact h.1
  · rw [World.cell?_of_block (w := W) (a := ⟨B, 1, none⟩) hb]; exact h.2.1
  · rw [World.frozen?_of_block (w := W) (a := ⟨B, 0, none⟩) hb]; exact h.2.2.1
  · rw [World.frozen?_of_block (w := W) (a := ⟨B, 1, none⟩) hb]; exact h.2.2.2

theorem BoxB.ext {B : Nat} {W W' : World} (h : BoxB B W) (m : Ext W W') (hB : B < W.heap.size) : BoxB B W' := by
  have hb := m.block B hB
  refine ⟨?_, ?_, ?_, ?_⟩
  · rw [World.cell?_of_block (w := W) (a := ⟨B, 0, none⟩) hb]; exact h.1
  · rw [World.cell?_of_block (w := W) (a := ⟨B, 1, none⟩) hb]; exact h.2.1
  · rw [World.frozen?_of_block (w := W) (a := ⟨B, 0, none⟩) hb]; exact h.2.2.1
  · rw [World.frozen?_of_block (w := W) (a := ⟨B, 1, none⟩) hb]; exact h.2.2.2

theorem BoxB.new (w : World) (T : TypeId) : BoxB w.heap.size (w.alloc (.cells #[.slice none 0 0, .slice none 0 0] T)) := ⟨by simp [go_sem], by simp [go_sem], by simp [go_sem], by simp [go_sem]⟩

theorem RowsP.setOther {O : Nat → Prop} {w : World} {v : Value} {t : List (List Int)} (h : RowsP O w v t) {a : Addr} (ha : ∀ k, O k → k ≠ a.block) (u : Value) : RowsP O (w.setCell a u) v t :=
  h.keep0 fun k hk _ => Below.heap_setCell _ _ _ _ (ha k hk)

theorem OwnT.rowsV {lo hi : Nat} {w : World} {b : Nat} {t : List (List Int)} (h : OwnT lo hi w b 0 t) (hT : TableOk t) (c : Nat) : Rows w (.slice (some ⟨b, 0, none⟩) t.length c) t := (h.rowsAt hT.small).rows hT.small.1 c

def BraceIn (base lo hi : Nat) (W : World) (b : Nat) (y : Value) (T U : List (List Int)) : Prop :=
  OwnT lo hi W b 0 T ∧ base ≤ lo ∧ hi ≤ W.heap.size ∧ RowsP (fun k => base ≤ k ∧ ¬ (lo ≤ k ∧ k < hi)) W y U ∧ TableOk T ∧ TableOk U ∧ U.length = T.length

theorem BraceIn.touch {base lo hi S : Nat} {W W' : World} {b : Nat} {y : Value} {T U : List (List Int)} (h : BraceIn base lo hi W b y T U) (m : Touch S (S + 1) W W') (hS : S < base) : BraceIn base lo hi W' b y T U := by
  obtain ⟨h1, h2, h3, h4, h5⟩ := h
  exact ⟨h1.touch m (by omega) h3, h2, Nat.le_trans h3 m.size, h4.touch m (fun k hk => by omega), h5⟩

theorem BraceIn.ext {base lo hi : Nat} {W W' : World} {b : Nat} {y : Value} {T U : List (List Int)} (h : BraceIn base lo hi W b y T U) (m : Ext W W') : BraceIn base lo hi W' b y T U := by
  obtain ⟨h1, h2, h3, h4, h5⟩ := h
  exact ⟨h1.ext m h3, h2, Nat.le_trans h3 m.size, h4.ext m, h5⟩

theorem BraceIn.keep {base lo hi : Nat} {W W' : World} {b : Nat} {y : Value} {T U : List (List Int)} (h : BraceIn base lo hi W b y T U) (hk : ∀ k, base ≤ k → k < W.heap.size → W'.heap[k]? = W.heap[k]?) (hz : W.heap.size ≤ W'.heap.size) : BraceIn base lo hi W' b y T U := by
  obtain ⟨h1, h2, h3, h4, h5⟩ := h
  exact ⟨h1.keep (fun k q1 q2 => hk k (by omega) (by omega)), h2, by omega, h4.keep0 (fun k q1 q2 => hk k q1.1 q2), h5⟩

theorem BraceIn.lower {base base2 lo hi : Nat} {W : World} {b : Nat} {y : Value} {T U : List (List Int)} (h : BraceIn base lo hi W b y T U) (hb : base2 ≤ base) : BraceIn base2 lo hi W b y T U := by
  obtain ⟨h1, h2, h3, h4, h5⟩ := h
  exact ⟨h1, by omega, h3, h4.weaken (fun k hk => by omega), h5⟩

theorem BraceIn.setOut {base lo hi : Nat} {W : World} {b : Nat} {y : Value} {T U : List (List Int)} (h : BraceIn base lo hi W b y T U) {p : Addr} (hp : p.block < base) (v : Value) : BraceIn base lo hi (W.setCell p v) b y T U :=
  h.keep (fun k hk _ => Below.heap_setCell _ _ _ _ (by omega)) (by simp)

theorem BoxB.keep {B : Nat} {W W' : World} (h : BoxB B W) (hb : W'.heap[B]? = W.heap[B]?) : BoxB B W' := by
  refine ⟨?_, ?_, ?_, ?_⟩
  · rw [World.cell?_of_block (w := W) (a := ⟨B, 0, none⟩) hb]; exact h.1
  · rw [World.cell?_of_block (w := W) (a := ⟨B, 1, none⟩) hb]; exact h.2.1
  · rw [World.frozen?_of_block (w := W) (a := ⟨B, 0, none⟩) hb]; exact h.2.2.1
  · rw [World.frozen?_of_block (w := W) (a := ⟨B, 1, none⟩) hb]; exact h.2.2.2

theorem BoxB.set {B : Nat} {W : World} (h : BoxB B W) {p : Addr} (hp : B ≠ p.block) (v : Value) : BoxB B (W.setCell p v) := h.keep (Below.heap_setCell _ _ _ _ hp)

def BoxC (B : Nat) (W : World) (v y : Value) : Prop := W.cell? ⟨B, 0, none⟩ = some v ∧ W.cell? ⟨B, 1, none⟩ = some y ∧ W.frozen? ⟨B, 0, none⟩ = false ∧ W.frozen? ⟨B, 1, none⟩ = false

theorem BoxC.keep {B : Nat} {W W' : World} {v y : Value} (h : BoxC B W v y) (hb : W'.heap[B]? = W.heap[B]?) : BoxC B W' v y := by
  refine ⟨?_, ?_, ?_, ?_⟩
  · rw [World.cell?_of_block (w := W) (a := ⟨B, 0, none⟩) hb]; exact h.1
  · rw [World.cell?_of_block (w := W) (a := ⟨B, 1, none⟩) hb]; exact h.2.1
  · rw [World.frozen?_of_block (w := W) (a := ⟨B, 0, none⟩) hb]; exact h.2.2.1
  · rw [World.frozen?_of_block (w := W) (a := ⟨B, 1, none⟩) hb]; exact h.2.2.2

theorem BoxC.new (w : World) (v y : Value) (T : TypeId) : BoxC w.heap.size (w.alloc (.cells #[v, y] T)) v y := ⟨by simp [go_sem], by simp [go_sem], by simp [go_sem], by simp [go_sem]⟩

theorem tab_mem {ts : List (List (List Int))} {j : Nat} (hj : j < ts.length) : tab ts j ∈ ts := by
  rw [tab_eq, List.getD_eq_getElem?_getD, List.getElem?_eq_getElem hj]; exact List.getElem_mem hj

def DrawB (S most : Nat) (w : World) (e : Ending) (w' : World) : Prop :=
  ∃ T U b c y lo hi, e = .returned (.agg #[.slice (some ⟨b, 0, none⟩) T.length c, y]) ∧ BraceIn w.heap.size lo hi w' b y T U ∧ T.length ≤ most ∧ Src S w' ∧ Touch S (S + 1) w w'

theorem drawB_end {S most : Nat} {w W : World} {T U : List (List Int)} {b c lo hi : Nat} {y p q : Value} (h : BraceIn (w.heap.size + 1) lo hi W b y T U) (hm : T.length ≤ most) (hs : Src S W) (hS : S < w.heap.size) (ht : Touch S (S + 1) w W) : DrawB S most w (.returned (.agg #[.slice (some ⟨b, 0, none⟩) T.length c, y])) ((W.setCell ⟨w.heap.size, 0, none⟩ p).setCell ⟨w.heap.size, 1, none⟩ q) := by
  obtain ⟨h1, h2, h3, h4, h5⟩ := h
  refine ⟨T, U, b, c, y, lo, hi, rfl, ⟨?_, by omega, by simpa using h3, ?_, h5⟩, hm, ?_, ?_⟩
  · exact (h1.setOther (.inl (by simp only []; omega)) _).setOther (.inl (by simp only []; omega)) _
  · exact ((h4.setOther (fun k hk => by simp only []; omega) _).setOther (fun k hk => by simp only []; omega) _).weaken (fun k hk => by omega)
  · exact (hs.setCell (by simp only []; omega) _).setCell (by simp only []; omega) _
  · exact (ht.setIn (by simp only []; omega) _).setIn (by simp only []; omega) _

theorem braceIn_two {base lo hi lo2 hi2 : Nat} {W : World} {b b2 : Nat} {T U : List (List Int)} (h1 : OwnT lo hi W b 0 T) (h2 : OwnT lo2 hi2 W b2 0 U) (k1 : base ≤ lo) (k2 : base ≤ lo2) (k3 : hi ≤ W.heap.size) (hd : hi ≤ lo2 ∨ hi2 ≤ lo) (hT : TableOk T) (hU : TableOk U) (hl : U.length = T.length) (c2 : Nat) :
    BraceIn base lo hi W b (.slice (some ⟨b2, 0, none⟩) U.length c2) T U :=
  ⟨h1, k1, k3, (h2.rowsP hU.small c2).weaken (fun k hk => by omega), hT, hU, hl⟩

theorem braceIn_new {base lo hi B : Nat} {W : World} {b : Nat} {y : Value} {T U : List (List Int)} (h1 : OwnT lo hi W b 0 T) (h2 : RowsP (fun k => B ≤ k) W y U) (k1 : base ≤ lo) (k2 : base ≤ B) (k3 : hi ≤ W.heap.size) (hd : hi ≤ B) (hT : TableOk T) (hU : TableOk U) (hl : U.length = T.length) : BraceIn base lo hi W b y T U :=
  ⟨h1, k1, k3, h2.weaken (fun k hk => by omega), hT, hU, hl⟩

set_option maxRecDepth 100000 in
set_option maxHeartbeats 8000000 in
theorem l11Draw_step (S most : Nat) (w : World) (hs : Src S w) (h1 : 1 ≤ most) (h12 : most ≤ 8)
    (REC4 : 8 ≤ most → ∀ w, Src S w → Calls Tryz.prog 34 #[.pointer (some ⟨S, 0, none⟩), .int .i64 4] w (DrawB S 4 w))
    (REC2 : 8 ≤ most → ∀ w, Src S w → Calls Tryz.prog 34 #[.pointer (some ⟨S, 0, none⟩), .int .i64 2] w (DrawB S 2 w)) :
    Calls Tryz.prog 34 #[.pointer (some ⟨S, 0, none⟩), .int .i64 most] w (DrawB S most w) := by
  have hlt := hs.lt
  have R4 := Lib.hid REC4
  have R2 := Lib.hid REC2
  clear REC4 REC2
  have hx0 : Ext w (w.alloc (.cells #[.slice none 0 0, .slice none 0 0] 26)) := (Ext.refl _).alloc _
  have HBX := Lib.hid (BoxB.new w 26)
  have z0 : w.heap.size + 1 ≤ (w.alloc (.cells #[.slice none 0 0, .slice none 0 0] 26)).heap.size := by simp
  have HS := Lib.hid (hs.ext hx0)
  have HT := Lib.hid (show Touch S (S + 1) w _ from Touch.of_ext hx0)
  clear hs hx0
  go_enter Tryz.func34, Tryz.ntmps34
  go_wp2_with fail
  generalize (w.alloc (.cells #[.slice none 0 0, .slice none 0 0] 26)) = w0 at *
  refine (l01Next_any S _ _ HS.out).mono ?_
  rintro e w1 ⟨r, rfl, r1, r2, -, hs1, hT1⟩
  obtain ⟨q0, hq0⟩ : ∃ z, z = r := ⟨_, rfl⟩
  subst hq0
  have z1 := hT1.size
  have HBX := Lib.hid (HBX.out.touch hT1 (by omega) (by omega))
  have HS := Lib.hid hs1
  have HT := Lib.hid (HT.out.trans hT1)
  clear r1 r2 hs1 hT1
  have zz1 : w.heap.size + 1 ≤ w1.heap.size := by omega
  clear z0 z1
  go_upto_block 0 with fail
  go_cut [] (fun wx => Src S wx ∧ Touch S (S + 1) w wx ∧ BoxB w.heap.size wx ∧ w.heap.size + 1 ≤ wx.heap.size)
  case first =>
    by_cases hr0 : q0 = 0
    case pos =>
      subst hr0
      go_wp2_with fail
      refine (l10Draw_le S most _ HS.out h1 (by omega)).mono ?_
      rintro e w2 ⟨T, b, c, lo, hi, rfl, ho, hlo, hhi, hok, hTm, hs2, hT2⟩
      have HBX := Lib.hid (HBX.out.touch hT2 (by omega) (by omega))
      have HS := Lib.hid hs2
      have HT := Lib.hid (HT.out.trans hT2)
      have HO := Lib.hid ho
      have HK := Lib.hid hok
      have HM := Lib.hid hTm
      have z2 := hT2.size
      clear ho hok hTm hs2 hT2
      go_wp2_with fail
      refine (l01Next_any S _ _ HS.out).mono ?_
      rintro e w3 ⟨r, rfl, r1, r2, -, hs3, hT3⟩
      have HBX := Lib.hid (HBX.out.touch hT3 (by omega) (by omega))
      have HS := Lib.hid hs3
      have HT := Lib.hid (HT.out.trans hT3)
      have HO := Lib.hid (HO.out.touch hT3 (by omega) (by omega))
      have z3 := hT3.size
      clear r1 r2 hs3 hT3
      by_cases hr2 : r = 0
      case pos =>
        subst hr2
        have HLT := Lib.hid (length_turnT T)
        go_wp2_with fail
        refine (l01Turn_p T _ _ (HO.out.rowsV HK.out c) HK.out).mono ?_
        rintro e w4 ⟨y, rfl, hrp, hx4⟩
        obtain ⟨yb, yo, yc, rfl⟩ := hrp.shape
        have z4 := hx4.size
        have HBX := Lib.hid (HBX.out.ext hx4 (by omega))
        have HS := Lib.hid (HS.out.ext hx4)
        have HT := Lib.hid (HT.out.trans (Touch.of_ext hx4))
        have HB := Lib.hid (braceIn_new (base := w.heap.size + 1) (HO.out.ext hx4 (by omega)) hrp (by omega) (by omega) (by omega) (by omega) HK.out (turn_ok HK.out) HLT.out)
        clear hrp hx4
        rw [HLT.out] at HB ⊢
        have g0 := HBX.out.1
        have g1 := HBX.out.2.1
        have g2 := HBX.out.2.2.1
        have g3 := HBX.out.2.2.2
        go_wp2
        refine bodyPost_ret (v := .agg #[.slice (some ⟨b, 0, none⟩) T.length c, .slice (some ⟨yb, yo, none⟩) T.length yc]) (by simp [results, Tryz.results34, go_sem, g0, g1]) rfl (drawB_end HB.out HM.out HS.out hlt HT.out)

      case neg =>
        go_wp2_with fail
        refine (l01Own2_own T _ _ (HO.out.rowsV HK.out c)).mono ?_
        rintro e w4 ⟨yb, yc, rfl, hoy, hx4⟩
        have z4 := hx4.size
        have HBX := Lib.hid (HBX.out.ext hx4 (by omega))
        have HS := Lib.hid (HS.out.ext hx4)
        have HT := Lib.hid (HT.out.trans (Touch.of_ext hx4))
        have HB := Lib.hid (braceIn_two (base := w.heap.size + 1) (HO.out.ext hx4 (by omega)) hoy (by omega) (by omega) (by omega) (.inl (by omega)) HK.out HK.out rfl yc)
        clear hoy hx4
        have g0 := HBX.out.1
        have g1 := HBX.out.2.1
        have g2 := HBX.out.2.2.1
        have g3 := HBX.out.2.2.2
        go_wp2
        refine bodyPost_ret (v := .agg #[.slice (some ⟨b, 0, none⟩) T.length c, .slice (some ⟨yb, 0, none⟩) T.length yc]) (by simp [results, Tryz.results34, go_sem, g0, g1]) rfl (drawB_end HB.out HM.out HS.out hlt HT.out)

    case neg =>
      by_cases hr1 : q0 = 1
      case pos =>
        subst hr1
        go_wp2_with fail
        go_loopw [6] (fun x wr => ∃ k : Nat, k ≤ 6 ∧ x = .int .i64 k ∧ Src S wr ∧ Touch S (S + 1) w wr ∧ BoxB w.heap.size wr ∧ w.heap.size + 1 ≤ wr.heap.size) (fun x _ => 6 - (intOf x).toNat)
        case atStart => exact ⟨0, Nat.zero_le _, rfl, HS.out, HT.out, HBX.out, zz1⟩
        case round =>
          clear HBX HS HT zz1
          obtain ⟨k, hk, rfl, hs1, hT1, hbx, zz1⟩ := hrel
          have HBX := Lib.hid hbx
          have HS := Lib.hid hs1
          have HT := Lib.hid hT1
          clear hs1 hT1 hbx
          by_cases hk6 : k < 6
          case neg =>
            have hki : ¬ (k : Int) < 6 := by omega
            go_wp2
            go_meet
            case rel => exact ⟨HS.out, HT.out, HBX.out, zz1⟩
          case pos =>
            have hki : (k : Int) < 6 := by omega
            go_wp2_with fail
            refine (l01Next_any S _ _ HS.out).mono ?_
            rintro e w2 ⟨r, rfl, r1, r2, -, hs2, hT2⟩
            obtain ⟨q, rfl⟩ := Int.eq_ofNat_of_zero_le r1
            have hq : q < most := by have := r2 (by omega); omega
            have z2 := hT2.size
            have HBX := Lib.hid (HBX.out.touch hT2 (by omega) (by omega))
            have HS := Lib.hid hs2
            have HT := Lib.hid (HT.out.trans hT2)
            clear r1 r2 hs2 hT2
            go_wp2_with fail
            rw [show (1 + (q : Int)) = ((q + 1 : Nat) : Int) by omega]
            obtain ⟨N, hN⟩ : ∃ N, N = q + 1 := ⟨_, rfl⟩
            rw [← hN]
            have hN1 : 1 ≤ N := by omega
            have hNm : N ≤ most := by omega
            clear hN hq
            refine (l01Next_any S _ _ HS.out).mono ?_
            rintro e w3 ⟨r, rfl, r1, r2, -, hs3, hT3⟩
            obtain ⟨m, rfl⟩ := Int.eq_ofNat_of_zero_le r1
            have hm : m < N := by have := r2 (by omega); omega
            have z3 := hT3.size
            have HBX := Lib.hid (HBX.out.touch hT3 (by omega) (by omega))
            have HS := Lib.hid hs3
            have HT := Lib.hid (HT.out.trans hT3)
            clear r1 r2 hs3 hT3
            have HL1 := Lib.hid (length_mkT N (cycF N))
            have HL2 := Lib.hid (length_mkT N (ringF N m))
            have HK1 := Lib.hid (show TableOk (mkT N (cycF N)) from (group_cyc hN1 (by omega)).1)
            have HK2 := Lib.hid (show TableOk (mkT N (ringF N m)) from ring_table hN1 (by omega) m)
            go_wp2_with fail
            refine (l11Ring_p N m _ hN1 (by omega) hm).mono ?_
            rintro e w4 ⟨b, c, y, hi, rfl, hoR, hrp, hhi, hx4⟩
            obtain ⟨yb, yo, yc, rfl⟩ := hrp.shape
            have z4 := hx4.size
            have HBX := Lib.hid (HBX.out.ext hx4 (by omega))
            have HS := Lib.hid (HS.out.ext hx4)
            have HT := Lib.hid (HT.out.trans (Touch.of_ext hx4))
            have hwhi : w3.heap.size ≤ hi := by have := hoR.1; have := hoR.2.1; omega
            have HB := Lib.hid (braceIn_new (base := w.heap.size + 1) hoR hrp (by omega) (by omega) hhi (Nat.le_refl _) HK1.out HK2.out (by rw [HL1.out, HL2.out]))
            clear hrp hx4 hoR
            rw [HL2.out]
            rw [HL2.out] at HB
            have hx5 : Ext w4 (w4.alloc (.cells #[.slice (some ⟨b, 0, none⟩) N c, .slice (some ⟨yb, yo, none⟩) N yc] 26)) := (Ext.refl _).alloc _
            have c0 := cell_new2a w4 (.slice (some ⟨b, 0, none⟩) N c) (.slice (some ⟨yb, yo, none⟩) N yc) 26
            have c1 := cell_new2b w4 (.slice (some ⟨b, 0, none⟩) N c) (.slice (some ⟨yb, yo, none⟩) N yc) 26
            go_wp2_with fail
            generalize (w4.alloc (.cells #[.slice (some ⟨b, 0, none⟩) N c, .slice (some ⟨yb, yo, none⟩) N yc] 26)) = w5 at *
            have z5 := hx5.size
            have HBX := Lib.hid (HBX.out.ext hx5 (by omega))
            have HS := Lib.hid (HS.out.ext hx5)
            have HT := Lib.hid (HT.out.trans (Touch.of_ext hx5))
            have HB := Lib.hid (HB.out.ext hx5)
            have HR1 := Lib.hid (show Rows w5 (.slice (some ⟨b, 0, none⟩) N c) (mkT N (cycF N)) from by have := HB.out.1.rowsV HK1.out c; rwa [HL1.out] at this)
            have HR2 := Lib.hid (HB.out.2.2.2.1.rows)
            refine (l11Is_any (mkT N (cycF N)) (mkT N (ringF N m)) _ _ _ HR1.out HR2.out).mono ?_
            rintro e w6 ⟨rfl, hx6⟩
            have z6 := hx6.size
            replace c0 := hx6.cell c0
            replace c1 := hx6.cell c1
            have HBX := Lib.hid (HBX.out.ext hx6 (by omega))
            have HS := Lib.hid (HS.out.ext hx6)
            have HT := Lib.hid (HT.out.trans (Touch.of_ext hx6))
            have HB := Lib.hid (HB.out.ext hx6)
            have HM := Lib.hid (show (mkT N (cycF N)).length ≤ most by rw [HL1.out]; exact hNm)
            clear hx5 hx6
            cases hbr : braceB (mkT N (cycF N)) (mkT N (ringF N m)) with
            | true =>
              have g0 := HBX.out.1
              have g1 := HBX.out.2.1
              have g2 := HBX.out.2.2.1
              have g3 := HBX.out.2.2.2
              have HE := Lib.hid (drawB_end (c := c) (p := .slice (some ⟨b, 0, none⟩) N c) (q := .slice (some ⟨yb, yo, none⟩) N yc) HB.out HM.out HS.out hlt HT.out)
              rw [HL1.out] at HE
              go_wp2
              exact bodyPost_ret (v := .agg #[.slice (some ⟨b, 0, none⟩) N c, .slice (some ⟨yb, yo, none⟩) N yc]) (by simp [results, Tryz.results34, go_sem, g0, g1]) rfl HE.out
            | false =>
              go_wp2
              go_roundw
              case rel => exact ⟨k + 1, by omega, by go_num, HS.out, HT.out, HBX.out, by omega⟩
              case measure => simp [intOf]; omega
      case neg =>
        by_cases hr2 : q0 = 2
        case neg =>
          go_wp2
          go_meet
          case rel => exact ⟨HS.out, HT.out, HBX.out, zz1⟩
        case pos =>
          subst hr2
          by_cases hm8 : 8 ≤ most
          case neg =>
            have hmi : ¬ (8 : Int) ≤ (most : Int) := by omega
            have hmi2 : (most : Int) < 8 := by omega
            go_wp2
            go_meet
            case rel => exact ⟨HS.out, HT.out, HBX.out, zz1⟩
          case pos =>
            have hmi : (8 : Int) ≤ (most : Int) := by omega
            go_wp2_with fail
            refine (R4.out hm8 _ HS.out).mono ?_
            rintro e w2 ⟨T, U, b1, c1, y1, lo1, hi1, rfl, hB1, hm1, hs2, hT2⟩
            obtain ⟨yb1, yo1, yc1, rfl⟩ := hB1.2.2.2.1.shape
            have z2 := hT2.size
            have HBX := Lib.hid (HBX.out.touch hT2 (by omega) (by omega))
            have HS := Lib.hid hs2
            have HT := Lib.hid (HT.out.trans hT2)
            have HB1 := Lib.hid hB1
            have HL1 := Lib.hid hB1.2.2.2.2.2.2
            clear hs2 hT2 hB1
            go_wp2_with fail
            refine (R2.out hm8 _ HS.out).mono ?_
            rintro e w3 ⟨T2, U2, b2, c2, y2, lo2, hi2, rfl, hB2, hm2, hs3, hT3⟩
            obtain ⟨yb2, yo2, yc2, rfl⟩ := hB2.2.2.2.1.shape
            have z3 := hT3.size
            have HBX := Lib.hid (HBX.out.touch hT3 (by omega) (by omega))
            have HS := Lib.hid hs3
            have HT := Lib.hid (HT.out.trans hT3)
            have HB1 := Lib.hid (HB1.out.touch hT3 (by omega))
            have HB2 := Lib.hid hB2
            have HL2 := Lib.hid hB2.2.2.2.2.2.2
            clear hs3 hT3 hB2
            obtain ⟨N, hN⟩ : ∃ N : Nat, N = T.length * T2.length := ⟨_, rfl⟩
            have hN8 : N ≤ 8 := by rw [hN]; exact Nat.mul_le_mul hm1 hm2
            have hN12 : N ≤ 12 := by omega
            have hN1 : 1 ≤ N := by rw [hN]; exact Nat.mul_pos HB1.out.2.2.2.2.1.1 HB2.out.2.2.2.2.1.1
            have HN := Lib.hid hN
            have HNU := Lib.hid (show N = U.length * U2.length by rw [hN, HL1.out, HL2.out])
            clear hN
            have HV1 := Lib.hid (HB1.out.1.rowsV HB1.out.2.2.2.2.1 c1)
            have HV2 := Lib.hid (HB2.out.1.rowsV HB2.out.2.2.2.2.1 c2)
            have HY1 := Lib.hid (HB1.out.2.2.2.1.rows)
            have HY2 := Lib.hid (HB2.out.2.2.2.1.rows)
            have hx4 : Ext w3 ((w3.alloc (.cells #[.slice (some ⟨b1, 0, none⟩) T.length c1, .slice (some ⟨yb1, yo1, none⟩) U.length yc1] 26)).alloc (.cells #[.slice (some ⟨b2, 0, none⟩) T2.length c2, .slice (some ⟨yb2, yo2, none⟩) U2.length yc2] 26)) := ((Ext.refl _).alloc _).alloc _
            have k0 : ((w3.alloc (.cells #[.slice (some ⟨b1, 0, none⟩) T.length c1, .slice (some ⟨yb1, yo1, none⟩) U.length yc1] 26)).alloc (.cells #[.slice (some ⟨b2, 0, none⟩) T2.length c2, .slice (some ⟨yb2, yo2, none⟩) U2.length yc2] 26)).cell? ⟨w3.heap.size, 0, none⟩ = some (.slice (some ⟨b1, 0, none⟩) T.length c1) := by simp [go_sem]
            have k1 : ((w3.alloc (.cells #[.slice (some ⟨b1, 0, none⟩) T.length c1, .slice (some ⟨yb1, yo1, none⟩) U.length yc1] 26)).alloc (.cells #[.slice (some ⟨b2, 0, none⟩) T2.length c2, .slice (some ⟨yb2, yo2, none⟩) U2.length yc2] 26)).cell? ⟨w3.heap.size, 1, none⟩ = some (.slice (some ⟨yb1, yo1, none⟩) U.length yc1) := by simp [go_sem]
            have d0 : ((w3.alloc (.cells #[.slice (some ⟨b1, 0, none⟩) T.length c1, .slice (some ⟨yb1, yo1, none⟩) U.length yc1] 26)).alloc (.cells #[.slice (some ⟨b2, 0, none⟩) T2.length c2, .slice (some ⟨yb2, yo2, none⟩) U2.length yc2] 26)).cell? ⟨w3.heap.size + 1, 0, none⟩ = some (.slice (some ⟨b2, 0, none⟩) T2.length c2) := by simp [go_sem]
            have d1 : ((w3.alloc (.cells #[.slice (some ⟨b1, 0, none⟩) T.length c1, .slice (some ⟨yb1, yo1, none⟩) U.length yc1] 26)).alloc (.cells #[.slice (some ⟨b2, 0, none⟩) T2.length c2, .slice (some ⟨yb2, yo2, none⟩) U2.length yc2] 26)).cell? ⟨w3.heap.size + 1, 1, none⟩ = some (.slice (some ⟨yb2, yo2, none⟩) U2.length yc2) := by simp [go_sem]
            go_wp2
            generalize ((w3.alloc (.cells #[.slice (some ⟨b1, 0, none⟩) T.length c1, .slice (some ⟨yb1, yo1, none⟩) U.length yc1] 26)).alloc (.cells #[.slice (some ⟨b2, 0, none⟩) T2.length c2, .slice (some ⟨yb2, yo2, none⟩) U2.length yc2] 26)) = w4 at *
            have z4 := hx4.size
            have HBX := Lib.hid (HBX.out.ext hx4 (by omega))
            have HS := Lib.hid (HS.out.ext hx4)
            have HT := Lib.hid (HT.out.trans (Touch.of_ext hx4))
            have HV1 := Lib.hid (HV1.out.ext hx4)
            have HV2 := Lib.hid (HV2.out.ext hx4)
            have HY1 := Lib.hid (HY1.out.ext hx4)
            have HY2 := Lib.hid (HY2.out.ext hx4)
            clear hx4
            have hX : Ext w4 w4 := Ext.refl w4
            have zd : w4.drew.heap.size = w4.heap.size := rfl
            have r0 := HBX.out.1
            have r1 := HBX.out.2.1
            have q0 := HBX.out.2.2.1
            have q1 := HBX.out.2.2.2
            go_region_with (first
              | (go_at_call 59; refine Calls.mono (l04Product_own ?_ ?_ _ _ _ N ?_ hN12 ?_ ?_ ?_ ?_) ?_; rotate_left 3; exact (HV1.out.ext ((hX.drew).trans hxB)); exact (HV2.out.ext ((hX.drew).trans hxB)); exact HB1.out.2.2.2.2.1; exact HB2.out.2.2.2.2.1; rotate_left; exact HN.out; rintro e wA ⟨bA, cA, rfl, hrA, hxA⟩; replace k0 := hxA.cell k0; replace k1 := hxA.cell k1; replace d0 := hxA.cell d0; replace d1 := hxA.cell d1; replace r0 := hxA.cell r0; replace r1 := hxA.cell r1; replace q0 := hxA.free q0 (by simp only []; have := hxB.size; omega); replace q1 := hxA.free q1 (by simp only []; have := hxB.size; omega))
              | (go_at_call 59; refine Calls.mono (l04Product_own ?_ ?_ _ _ _ N ?_ hN12 ?_ ?_ ?_ ?_) ?_; rotate_left 3; exact (HY1.out.ext ((hX.drew).trans hxA)); exact (HY2.out.ext ((hX.drew).trans hxA)); exact HB1.out.2.2.2.2.2.1; exact HB2.out.2.2.2.2.2.1; rotate_left; exact HNU.out; rintro e wB ⟨bB, cB, rfl, hrB, hxB⟩; replace k0 := hxB.cell k0; replace k1 := hxB.cell k1; replace d0 := hxB.cell d0; replace d1 := hxB.cell d1; replace r0 := hxB.cell r0; replace r1 := hxB.cell r1; replace q0 := hxB.free q0 (by simp only []; have := hxA.size; omega); replace q1 := hxB.free q1 (by simp only []; have := hxA.size; omega))
              | (go_at_call 59; refine Calls.mono (l04Product_own ?_ ?_ _ _ _ N ?_ hN12 ?_ ?_ ?_ ?_) ?_; rotate_left 3; exact (HV1.out.ext hX.drew); exact (HV2.out.ext hX.drew); exact HB1.out.2.2.2.2.1; exact HB2.out.2.2.2.2.1; rotate_left; exact HN.out; rintro e wA ⟨bA, cA, rfl, hrA, hxA⟩; replace k0 := hxA.cell (show w4.drew.cell? _ = some _ from k0); replace k1 := hxA.cell (show w4.drew.cell? _ = some _ from k1); replace d0 := hxA.cell (show w4.drew.cell? _ = some _ from d0); replace d1 := hxA.cell (show w4.drew.cell? _ = some _ from d1); replace r0 := hxA.cell (show w4.drew.cell? _ = some _ from r0); replace r1 := hxA.cell (show w4.drew.cell? _ = some _ from r1); replace q0 := hxA.free (show w4.drew.frozen? _ = false from q0) (by simp only []; omega); replace q1 := hxA.free (show w4.drew.frozen? _ = false from q1) (by simp only []; omega))
              | (go_at_call 59; refine Calls.mono (l04Product_own ?_ ?_ _ _ _ N ?_ hN12 ?_ ?_ ?_ ?_) ?_; rotate_left 3; exact (HY1.out.ext hX.drew); exact (HY2.out.ext hX.drew); exact HB1.out.2.2.2.2.2.1; exact HB2.out.2.2.2.2.2.1; rotate_left; exact HNU.out; rintro e wB ⟨bB, cB, rfl, hrB, hxB⟩; replace k0 := hxB.cell (show w4.drew.cell? _ = some _ from k0); replace k1 := hxB.cell (show w4.drew.cell? _ = some _ from k1); replace d0 := hxB.cell (show w4.drew.cell? _ = some _ from d0); replace d1 := hxB.cell (show w4.drew.cell? _ = some _ from d1); replace r0 := hxB.cell (show w4.drew.cell? _ = some _ from r0); replace r1 := hxB.cell (show w4.drew.cell? _ = some _ from r1); replace q0 := hxB.free (show w4.drew.frozen? _ = false from q0) (by simp only []; omega); replace q1 := hxB.free (show w4.drew.frozen? _ = false from q1) (by simp only []; omega)))
            all_goals
              have HLA := Lib.hid (length_mkT N (prodF T T2))
              have HLB := Lib.hid (length_mkT N (prodF U U2))
              have HKA := Lib.hid (prod_ok (N := N) HN.out hN12 HB1.out.2.2.2.2.1 HB2.out.2.2.2.2.1)
              have HKB := Lib.hid (prod_ok (N := N) HNU.out hN12 HB1.out.2.2.2.2.2.1 HB2.out.2.2.2.2.2.1)
              have HM := Lib.hid (show (mkT N (prodF T T2)).length ≤ most by rw [HLA.out]; omega)
              have zA := hxA.size
              have zB := hxB.size
              rw [HLA.out, HLB.out]
              first
                | (have HXX := Lib.hid ((hX.drew.trans hxA).trans hxB)
                   have HB := Lib.hid (braceIn_two (base := w.heap.size + 1) (hrA.ext hxB (Nat.le_refl _)) hrB (by omega) (by omega) (by omega) (.inl (by omega)) HKA.out HKB.out (by rw [HLA.out, HLB.out]) cB))
                | (have HXX := Lib.hid ((hX.drew.trans hxB).trans hxA)
                   have HB := Lib.hid (braceIn_two (base := w.heap.size + 1) hrA (hrB.ext hxA (Nat.le_refl _)) (by omega) (by omega) (by omega) (.inr (by omega)) HKA.out HKB.out (by rw [HLA.out, HLB.out]) cB))
              have HBX := Lib.hid (HBX.out.ext HXX.out (by omega))
              have HS := Lib.hid (HS.out.ext HXX.out)
              have HT := Lib.hid (HT.out.trans (Touch.of_ext HXX.out))
              have g0 := HBX.out.1
              have g1 := HBX.out.2.1
              have g2 := HBX.out.2.2.1
              have g3 := HBX.out.2.2.2
              have HE := Lib.hid (drawB_end (c := cA) (p := .slice (some ⟨bA, 0, none⟩) N cA) (q := .slice (some ⟨bB, 0, none⟩) N cB) HB.out HM.out HS.out hlt HT.out)
              rw [HLA.out, HLB.out] at HE
              go_wp2
              exact bodyPost_ret (v := .agg #[.slice (some ⟨bA, 0, none⟩) N cA, .slice (some ⟨bB, 0, none⟩) N cB]) (by simp [results, Tryz.results34, go_sem, g0, g1]) rfl HE.out
  case rest =>
    clear HBX HS HT zz1
    obtain ⟨hs1, hT1, hbx, zz1⟩ := hcut
    have HBX := Lib.hid hbx
    have HS := Lib.hid hs1
    have HT := Lib.hid hT1
    clear hs1 hT1 hbx
    go_upto_region 19 with fail
    go_cut [11] (fun v wx => ∃ N g d base, v = .slice (some ⟨g, 0, none⟩) (namedL N).length d ∧ 1 ≤ N ∧ N ≤ 7 ∧ N ≤ most ∧ GrowD 24 base wx v (namedL N) ∧ w.heap.size + 1 ≤ base ∧ Src S wx ∧ Touch S (S + 1) w wx ∧ BoxB w.heap.size wx ∧ w.heap.size + 1 ≤ wx.heap.size)
    case first =>
      go_wp2_with fail
      all_goals
        refine (l01Next_any S _ _ HS.out).mono ?_
        rintro e w2 ⟨r, rfl, r1, r2, -, hs2, hT2⟩
        obtain ⟨q, rfl⟩ := Int.eq_ofNat_of_zero_le r1
        have hq : q < most ∧ q < 7 := by have := r2 (by omega); omega
        have z2 := hT2.size
        have HBX := Lib.hid (HBX.out.touch hT2 (by omega) (by omega))
        have HS := Lib.hid hs2
        have HT := Lib.hid (HT.out.trans hT2)
        clear r1 r2 hs2 hT2
        go_wp2_with fail
        rw [show (1 + (q : Int)) = ((q + 1 : Nat) : Int) by omega]
        obtain ⟨N, hN⟩ : ∃ N, N = q + 1 := ⟨_, rfl⟩
        rw [← hN]
        have hN1 : 1 ≤ N := by omega
        have hN7 : N ≤ 7 := by omega
        have hNm : N ≤ most := by omega
        clear hN hq
        refine (l10Named_any N hN1 (by omega) _).mono ?_
        rintro e w3 ⟨v2, rfl, hgd, hx3⟩
        obtain ⟨g, d, rfl⟩ := hgd.slice (by have := namedL_len0 N; omega)
        have HD := Lib.hid hgd
        have z3 := hx3.size
        have HBX := Lib.hid (HBX.out.ext hx3 (by omega))
        have HS := Lib.hid (HS.out.ext hx3)
        have HT := Lib.hid (HT.out.trans (Touch.of_ext hx3))
        clear hgd hx3
        go_wp2
        go_meet
        case rel => exact ⟨N, g, d, _, rfl, hN1, hN7, hNm, HD.out, by omega, HS.out, HT.out, HBX.out, by omega⟩
    case rest =>
      clear HBX HS HT zz1
      obtain ⟨N, g, d, base, rfl, hN1, hN7, hNm, hgd, hbase, hs, hT, hbx, zz1⟩ := hcut
      have HBX := Lib.hid hbx
      have HS := Lib.hid hs
      have HT := Lib.hid hT
      have HD := Lib.hid hgd
      have HOK := Lib.hid (fun i hi => namedL_ok (n := N) hN1 (by omega) (i := i) hi)
      have HMEM := Lib.hid (fun i (hi : i < (namedL N).length) => tab_mem hi)
      have hlen := namedL_len0 N
      have HCI := Lib.hid (fun (T : List (List Int)) (v : Value) (w : World) (hv : Rows w v T) (hT : T ∈ namedL N) => l13Circles_any N T v w hv hN1 hN7 hT)
      obtain ⟨ts, hts⟩ : ∃ ts, ts = namedL N := ⟨_, rfl⟩
      rw [← hts] at HOK HMEM hlen HD HCI ⊢
      clear hs hT hbx hgd hts
      go_wp2_with fail
      refine (l01Next_any S _ _ HS.out).mono ?_
      rintro e w3 ⟨r, rfl, r1, r2, -, hs3, hT3⟩
      obtain ⟨j, rfl⟩ := Int.eq_ofNat_of_zero_le r1
      have hj : j < ts.length := by have := r2 (by omega); omega
      obtain ⟨b, c, p, e1, k1⟩ := HD.out.cell hj
      have hcg := HD.out.lt g rfl
      have e3 := hT3.cell e1 (by simp only []; omega)
      obtain ⟨b', c'', hbe, o1, o2, o3, o4⟩ := k1
      obtain ⟨rfl, rfl⟩ : b = b' ∧ c = c'' := by
        simp only [Value.slice.injEq, Option.some.injEq, Addr.mk.injEq] at hbe
        exact ⟨hbe.1.1, hbe.2.2⟩
      have HO := Lib.hid (o1.touch hT3 (by omega) o4)
      have z3 := hT3.size
      have HBX := Lib.hid (HBX.out.touch hT3 (by omega) (by omega))
      have HS := Lib.hid hs3
      have HT := Lib.hid (HT.out.trans hT3)
      have HTK := Lib.hid (HOK.out j hj)
      have HTM := Lib.hid (HMEM.out j hj)
      clear r1 r2 hs3 hT3 e1 o1 hbe HD HOK HMEM
      obtain ⟨T, hTe⟩ : ∃ T, T = tab ts j := ⟨_, rfl⟩
      rw [← hTe] at HO HTK HTM e3
      clear hTe o2
      have hTN := HTK.out.2
      have HTO := Lib.hid (groupB_iff.1 HTK.out.1).1
      have HTN := Lib.hid hTN
      have HRT := Lib.hid (HO.out.rowsV HTO.out c)
      rw [hTN] at e3 HRT
      clear hTN
      go_wp2_with fail
      refine (HCI.out T _ _ HRT.out HTM.out).mono ?_
      rintro e w4 ⟨v4, xs, base2, rfl, hcl, hne, hl42, hb2, hx4⟩
      have hnn : v4 ≠ .slice none 0 0 := fun e => by
        rcases hcl.cases with h | h
        · exact hne h.2
        · exact h e
      obtain ⟨g4, c4, rfl, hc4, hg4, hs4, hcl4⟩ := ownsRow_parts hcl.1 hnn
      have hxp : 1 ≤ xs.length := List.length_pos_iff.2 hne
      have HCE := Lib.hid hcl4
      have HCL := Lib.hid hcl.2.1
      have z4 := hx4.size
      have HBX := Lib.hid (HBX.out.ext hx4 (by omega))
      have HS := Lib.hid (HS.out.ext hx4)
      have HT := Lib.hid (HT.out.trans (Touch.of_ext hx4))
      have HO := Lib.hid (HO.out.ext hx4 (by omega))
      clear hcl hcl4 hx4 hne hnn
      go_wp2_with fail
      refine (l01Next_any S _ _ HS.out).mono ?_
      rintro e w5 ⟨r, rfl, r1, r2, -, hs5, hT5⟩
      obtain ⟨i, rfl⟩ := Int.eq_ofNat_of_zero_le r1
      have hi : i < xs.length := by have := r2 (by omega); omega
      obtain ⟨rv, hrv⟩ : ∃ rq, xs[i]? = some rq := ⟨_, List.getElem?_eq_getElem hi⟩
      have HCA := Lib.hid (HCL.out rv (List.mem_of_getElem? hrv))
      have e5 := hT5.cell (HCE.out i rv hrv) (by simp only []; omega)
      obtain ⟨yb, yo, yc, rfl⟩ := HCA.out.shape
      obtain ⟨U, hU1, hU2, hU3⟩ := HCA.out
      have z5 := hT5.size
      have HBX := Lib.hid (HBX.out.touch hT5 (by omega) (by omega))
      have HS := Lib.hid hs5
      have HT := Lib.hid (HT.out.trans hT5)
      have HO := Lib.hid (HO.out.touch hT5 (by omega) (by omega))
      have HB := Lib.hid (braceIn_new (base := w.heap.size + 1) HO.out (hU1.touch hT5 (fun k hk => by omega)) (by omega) (by omega) (by omega) (by omega) HTO.out hU2 (by rw [hU3, HTN.out]))
      have HUN := Lib.hid hU3
      have HM := Lib.hid (show T.length ≤ most by rw [HTN.out]; exact hNm)
      clear r1 r2 hs5 hT5 hU1 hU2 hU3 hrv HCA
      have hx6 : Ext w5 (w5.alloc (.cells #[.slice (some ⟨b, 0, none⟩) N c, .slice (some ⟨yb, yo, none⟩) N yc] 26)) := (Ext.refl _).alloc _
      have HCX := Lib.hid (BoxC.new w5 (.slice (some ⟨b, 0, none⟩) N c) (.slice (some ⟨yb, yo, none⟩) N yc) 26)
      have zs6 : (w5.alloc (.cells #[.slice (some ⟨b, 0, none⟩) N c, .slice (some ⟨yb, yo, none⟩) N yc] 26)).heap.size = w5.heap.size + 1 := by simp
      go_upto_region 24 with fail
      generalize (w5.alloc (.cells #[.slice (some ⟨b, 0, none⟩) N c, .slice (some ⟨yb, yo, none⟩) N yc] 26)) = w6 at *
      have z6 : w5.heap.size + 1 ≤ w6.heap.size := by omega
      clear zs6
      have HBX := Lib.hid (HBX.out.ext hx6 (by omega))
      have HS := Lib.hid (HS.out.ext hx6)
      have HT := Lib.hid (HT.out.trans (Touch.of_ext hx6))
      have HB := Lib.hid (HB.out.ext hx6)
      clear hx6 e3 e5 HO HRT HCE HCL HCI HTM hcg o3 o4
      go_cut [106] (fun v wx => ∃ bq : Bool, v = .bool bq ∧ (bq = true → 1 < N) ∧ Src S wx ∧ Touch S (S + 1) w wx ∧ Touch S (S + 1) w6 wx)
      case first =>
        by_cases hN : 1 < N
        case neg =>
          have hNi : ¬ (1 : Int) < (N : Int) := by omega
          have hNd : decide ((1 : Int) < (N : Int)) = false := by simp; omega
          go_wp2
          go_meet
          case rel => exact ⟨false, rfl, (fun h => by cases h), HS.out, HT.out, Touch.of_ext (Ext.refl _)⟩
        case pos =>
          have hNi : (1 : Int) < (N : Int) := by omega
          have hNd : decide ((1 : Int) < (N : Int)) = true := by simp; omega
          go_wp2_with (go_at_call 22; refine (l01Next_any S _ _ HS.out).mono ?_; rintro e w7 ⟨r, rfl, r1, r2, -, hs7, hT7⟩)
          go_meet
          case rel => exact ⟨_, rfl, fun _ => hN, hs7, HT.out.trans hT7, hT7⟩
      case rest =>
        obtain ⟨bq, rfl, hbN, hs7, hT7, hTw⟩ := hcut
        have z7 := hTw.size
        have HBX := Lib.hid (HBX.out.touch hTw (by omega) (by omega))
        have HCX := Lib.hid (HCX.out.keep (hTw.block w5.heap.size (by omega) (by omega)))
        have HB := Lib.hid (HB.out.touch hTw (by omega))
        have HS := Lib.hid hs7
        have HT := Lib.hid hT7
        clear hs7 hT7 hTw
        cases bq with
        | false =>
          have c0 := HCX.out.1
          have c1 := HCX.out.2.1
          have g0 := HBX.out.1
          have g1 := HBX.out.2.1
          have g2 := HBX.out.2.2.1
          have g3 := HBX.out.2.2.2
          have HE := Lib.hid (drawB_end (c := c) (p := .slice (some ⟨b, 0, none⟩) N c) (q := .slice (some ⟨yb, yo, none⟩) N yc) HB.out HM.out HS.out hlt HT.out)
          rw [HTN.out] at HE
          go_wp2
          exact bodyPost_ret (v := .agg #[.slice (some ⟨b, 0, none⟩) N c, .slice (some ⟨yb, yo, none⟩) N yc]) (by simp [results, Tryz.results34, go_sem, g0, g1]) rfl HE.out
        | true =>
          have hN2 : 1 < N := hbN rfl
          have hx8 := ext_box wc (.int .i64 0) 2
          have HG8 := Lib.hid (GrowI.one (e := 2) (base := wc.heap.size) (w := wc) (x := 0) (Nat.le_refl _))
          have z8 : wc.heap.size + 1 ≤ (wc.alloc (.cells #[.int .i64 0] 2)).heap.size := by simp
          go_wp2_with fail
          generalize (wc.alloc (.cells #[.int .i64 0] 2)) = w8 at *
          rw [show ((N : Int) - 1) = ((N - 1 : Nat) : Int) by omega]
          refine (l03DrawPerm_any S (N - 1) _ (HS.out.ext hx8) (by omega)).mono ?_
          rintro e w9 ⟨rs, bp, cp, rfl, hrp, hop, hs9, hT9⟩
          have HG9 := Lib.hid (HG8.out.touch hT9 (by omega))
          have z9 := hT9.size
          have HS := Lib.hid hs9
          have HT := Lib.hid ((HT.out.trans (Touch.of_ext hx8)).trans hT9)
          have HKE := Lib.hid (show ∀ k, w.heap.size ≤ k → k < wc.heap.size → w9.heap[k]? = wc.heap[k]? from fun k q1 q2 => (hT9.block k (by omega) (by omega)).trans (hx8.block k q2))
          have HR := Lib.hid hrp
          have HI := Lib.hid hop.2.2.1
          have hbp := hop.1
          have hbp2 := hop.2.1
          have hrl := hrp.1
          have HRL := Lib.hid hrl
          obtain ⟨R1, hR1⟩ : ∃ R1, R1 = rs.map (· + 1) := ⟨_, rfl⟩
          have HR1L := Lib.hid (show R1.length = N - 1 by rw [hR1, List.length_map]; exact hrl)
          have HR1X := Lib.hid (show ∀ k, k < N - 1 → ix R1 k = ix rs k + 1 from fun k hk => by
            rw [hR1, ix_eq, ix_eq]
            simp [List.getD, List.getElem?_eq_getElem (show k < rs.length by omega)])
          have HRP := Lib.hid (show RangeP (N - 1 + 1) (0 :: R1) by rw [hR1]; exact HR.out.shift)
          clear hR1 hs9 hT9 hop hrp HG8 hrl hx8
          go_wp2_with fail
          go_loopw [16, 18] (fun v i wr => ∃ k : Nat, k ≤ N - 1 ∧ i = .int .i64 k ∧ GrowI 2 wc.heap.size wr v (0 :: R1.take k) ∧ v ≠ .slice none 0 0 ∧ At wc.heap.size w9 v ∧ w9.heap.size ≤ wr.heap.size ∧ Touch wc.heap.size (wc.heap.size + 1) w9 wr) (fun _ i _ => N - 1 - (intOf i).toNat)
          case atStart => exact ⟨0, Nat.zero_le _, rfl, HG9.out, by simp, .inl rfl, Nat.le_refl _, Touch.of_ext (Ext.refl _)⟩
          case round =>
            clear HG9
            obtain ⟨k, hk, rfl, hg, hv, hat, hsz, hT⟩ := hrel
            have HGK := Lib.hid hg
            have HVK := Lib.hid hv
            have HAT := Lib.hid hat
            have HTK2 := Lib.hid hT
            clear hg hv hat hT
            by_cases hkl : k < N - 1
            case pos =>
              have e1 := (HTK2.out).cell (HI.out k (by rw [HRL.out]; exact hkl)) (by simp only []; omega)
              rw [Nat.zero_add] at e1
              have HTA := Lib.hid (show 0 :: (R1.take k ++ [ix rs k + 1]) = 0 :: R1.take (k + 1) by
                rw [List.take_add_one, List.getElem?_eq_getElem (by rw [HR1L.out]; exact hkl), ← HR1X.out k hkl, ix_eq]
                simp [List.getD, List.getElem?_eq_getElem (show k < R1.length by rw [HR1L.out]; exact hkl)])
              have HLK := Lib.hid (show (0 :: R1.take k).length ≤ 1048576 by simp; omega)
              have hix : 0 ≤ ix rs k ∧ ix rs k < 100 := by
                have := (HR.out.2 (ix rs k)).1 (ix_mem _ _ (by rw [HRL.out]; exact hkl))
                omega
              have HGA := Lib.hid (HGK.out.ext (ext_box wr (.int .i64 (ix rs k + 1)) 2))
              have zb : wr.heap.size + 1 = (wr.alloc (.cells #[.int .i64 (ix rs k + 1)] 2)).heap.size := by simp
              have zb1 : wc.heap.size ≤ (wr.alloc (.cells #[.int .i64 (ix rs k + 1)] 2)).heap.size := by omega
              have HTB := Lib.hid (HTK2.out.trans (Touch.of_ext (ext_box wr (.int .i64 (ix rs k + 1)) 2)))
              have zb2 : w9.heap.size ≤ (wr.alloc (.cells #[.int .i64 (ix rs k + 1)] 2)).heap.size := by omega
              have HZ := Lib.hid (And.intro zb1 zb2)
              clear zb zb1 zb2
              go_wp2_with (at_builtin; refine wpList_append_int_at rfl _ _ 29 2 rfl Tryz.underlying29 infoInt wc.heap.size _ _ rfl HGA.out wr.heap.size (ix rs k + 1) rfl (cell_new _ _ _) HLK.out HZ.out.1 ?_)
              intro v' w' hg' hgr' hv' hat'
              rw [HTA.out] at hg'
              have hnx := HAT.out.next HZ.out.2 hgr' hat' (by omega) HTB.out
              have hsz' : w9.heap.size ≤ w'.heap.size := Nat.le_trans HZ.out.2 hgr'.size
              have HG' := Lib.hid hg'
              have HV' := Lib.hid hv'
              have HN' := Lib.hid hnx
              clear hg' hgr' hv' hat' hnx
              go_wp2
              go_roundw
              case rel => exact ⟨k + 1, by omega, by go_num, HG'.out, HV'.out, HN'.out.1, hsz', HN'.out.2⟩
              case measure => simp [intOf]; omega
            case neg =>
              have hkk : k = N - 1 := by omega
              have HTF := Lib.hid (show (0 :: R1.take k) = 0 :: R1 by rw [List.take_of_length_le (by rw [HR1L.out, hkk]; exact Nat.le_refl _)])
              have HGF := Lib.hid (by have := HGK.out; rwa [HTF.out] at this : GrowI 2 wc.heap.size wr _ (0 :: R1))
              have HPM := Lib.hid (show IsoOk N [] [] (0 :: R1) by have := HRP.out.perm; rwa [show N - 1 + 1 = N by omega] at this)
              have HPL := Lib.hid HPM.out.1
              obtain ⟨bg, cg, rfl, hog⟩ := HGF.out.own HVK.out
              have HIP := Lib.hid (hog.2.2.1.ints (by rw [HPL.out]; omega) cg)
              rw [HPL.out] at HIP ⊢
              have HKW := Lib.hid (show ∀ k, w.heap.size ≤ k → k < wc.heap.size → wr.heap[k]? = wc.heap[k]? from fun k q1 q2 => (HTK2.out.block k (by omega) (by omega)).trans (HKE.out k q1 q2))
              have HB := Lib.hid (HB.out.keep (W' := wr) (fun k q1 q2 => HKW.out k (by omega) q2) (by omega))
              have HBX := Lib.hid (HBX.out.keep (HKW.out w.heap.size (Nat.le_refl _) (by omega)))
              have HCX := Lib.hid (HCX.out.keep (HKW.out w5.heap.size (by omega) (by omega)))
              have HT := Lib.hid (show Touch S (S + 1) w wr from ⟨HTK2.out.os.trans HT.out.os, HTK2.out.tape.trans HT.out.tape, HTK2.out.output.trans HT.out.output, Nat.le_trans HT.out.size HTK2.out.size, fun k hk hn => (HTK2.out.block k (by omega) (by omega)).trans (HT.out.block k hk hn)⟩)
              have HS := Lib.hid (HS.out.touch2 HTK2.out (by omega))
              have hzr : w5.heap.size + 1 ≤ wr.heap.size := by omega
              obtain ⟨P, hP⟩ : ∃ P, P = 0 :: R1 := ⟨_, rfl⟩
              rw [← hP] at HIP HPM
              have HRA := Lib.hid (by have := HB.out.1.rowsV HTO.out c; rwa [HTN.out] at this : Rows wr (.slice (some ⟨b, 0, none⟩) N c) T)
              have HRU := Lib.hid (HB.out.2.2.2.1.rows)
              have HUO := Lib.hid (HB.out.2.2.2.2.2.1)
              have HPT := Lib.hid (show IsoOk T.length [] [] P by rw [HTN.out]; exact HPM.out)
              have HPU := Lib.hid (show IsoOk U.length [] [] P by rw [HUN.out]; exact HPM.out)
              have HLT := Lib.hid (length_imgT T P)
              have HLU := Lib.hid (length_imgT U P)
              clear HTF hkk HGF HGK HVK HAT HTK2 HKW HKE HR HI HRL HR1L HR1X HRP hP HPL hog hbp hbp2 HPM
              have c0 := HCX.out.1
              have c1 := HCX.out.2.1
              have q2 := HCX.out.2.2.1
              have q3 := HCX.out.2.2.2
              have hX : Ext wr wr := Ext.refl wr
              have zd : wr.drew.heap.size = wr.heap.size := rfl
              go_upto_region 30 with fail
              go_region_with (first
                | (go_at_call 24; refine (l03Image_any T P _ _ _ (HRA.out.ext ((hX.drew).trans hxB)) (HIP.out.ext ((hX.drew).trans hxB)) HTO.out HPT.out).mono ?_; rintro e wA ⟨bA, cA, rfl, hrA, hxA⟩; replace c0 := hxA.cell c0; replace c1 := hxA.cell c1; replace q2 := hxA.free q2 (by simp only []; have := hxB.size; omega); replace q3 := hxA.free q3 (by simp only []; have := hxB.size; omega))
                | (go_at_call 24; refine (l03Image_any U P _ _ _ (HRU.out.ext ((hX.drew).trans hxA)) (HIP.out.ext ((hX.drew).trans hxA)) HUO.out HPU.out).mono ?_; rintro e wB ⟨bB, cB, rfl, hrB, hxB⟩; replace c0 := hxB.cell c0; replace c1 := hxB.cell c1; replace q2 := hxB.free q2 (by simp only []; have := hxA.size; omega); replace q3 := hxB.free q3 (by simp only []; have := hxA.size; omega))
                | (go_at_call 24; refine (l03Image_any T P _ _ _ (HRA.out.ext hX.drew) (HIP.out.ext hX.drew) HTO.out HPT.out).mono ?_; rintro e wA ⟨bA, cA, rfl, hrA, hxA⟩; replace c0 := hxA.cell (show wr.drew.cell? _ = some _ from c0); replace c1 := hxA.cell (show wr.drew.cell? _ = some _ from c1); replace q2 := hxA.free (show wr.drew.frozen? _ = false from q2) (by simp only []; omega); replace q3 := hxA.free (show wr.drew.frozen? _ = false from q3) (by simp only []; omega))
                | (go_at_call 24; refine (l03Image_any U P _ _ _ (HRU.out.ext hX.drew) (HIP.out.ext hX.drew) HUO.out HPU.out).mono ?_; rintro e wB ⟨bB, cB, rfl, hrB, hxB⟩; replace c0 := hxB.cell (show wr.drew.cell? _ = some _ from c0); replace c1 := hxB.cell (show wr.drew.cell? _ = some _ from c1); replace q2 := hxB.free (show wr.drew.frozen? _ = false from q2) (by simp only []; omega); replace q3 := hxB.free (show wr.drew.frozen? _ = false from q3) (by simp only []; omega)))
              all_goals
                have zA := hxA.size
                have zB := hxB.size
                have HKA := Lib.hid (imgT_ok HTO.out HPT.out)
                have HKB := Lib.hid (imgT_ok HUO.out HPU.out)
                first
                  | (have HXX := Lib.hid ((hX.drew.trans hxA).trans hxB)
                     have HB := Lib.hid (braceIn_two (base := w5.heap.size + 1) (hrA.ext hxB (Nat.le_refl _)) hrB (by omega) (by omega) (by omega) (.inl (by omega)) HKA.out HKB.out (by rw [HLT.out, HLU.out, HTN.out, HUN.out]) cB))
                  | (have HXX := Lib.hid ((hX.drew.trans hxB).trans hxA)
                     have HB := Lib.hid (braceIn_two (base := w5.heap.size + 1) hrA (hrB.ext hxA (Nat.le_refl _)) (by omega) (by omega) (by omega) (.inr (by omega)) HKA.out HKB.out (by rw [HLT.out, HLU.out, HTN.out, HUN.out]) cB))
                have HM := Lib.hid (show (imgT T P).length ≤ most by rw [HLT.out]; exact HM.out)
                rw [HLU.out, HUN.out] at HB
                rw [HLT.out, HLU.out, HTN.out, HUN.out]
                have HBX := Lib.hid (HBX.out.ext HXX.out (by omega))
                have HS := Lib.hid (HS.out.ext HXX.out)
                have HT := Lib.hid (HT.out.trans (Touch.of_ext HXX.out))
                have HBX := Lib.hid ((HBX.out.set (p := ⟨w5.heap.size, 0, none⟩) (by simp only []; omega) (.slice (some ⟨bA, 0, none⟩) N cA)).set (p := ⟨w5.heap.size, 1, none⟩) (by simp only []; omega) (.slice (some ⟨bB, 0, none⟩) N cB))
                have HS := Lib.hid ((HS.out.setCell (p := ⟨w5.heap.size, 0, none⟩) (by simp only []; omega) (.slice (some ⟨bA, 0, none⟩) N cA)).setCell (p := ⟨w5.heap.size, 1, none⟩) (by simp only []; omega) (.slice (some ⟨bB, 0, none⟩) N cB))
                have HT := Lib.hid ((HT.out.setIn (p := ⟨w5.heap.size, 0, none⟩) (by simp only []; omega) (.slice (some ⟨bA, 0, none⟩) N cA)).setIn (p := ⟨w5.heap.size, 1, none⟩) (by simp only []; omega) (.slice (some ⟨bB, 0, none⟩) N cB))
                have HB := Lib.hid (((HB.out.setOut (p := ⟨w5.heap.size, 0, none⟩) (by simp only []; omega) (.slice (some ⟨bA, 0, none⟩) N cA)).setOut (p := ⟨w5.heap.size, 1, none⟩) (by simp only []; omega) (.slice (some ⟨bB, 0, none⟩) N cB)).lower (base2 := w.heap.size + 1) (by omega))
                have HE := Lib.hid (drawB_end (c := cA) (p := .slice (some ⟨bA, 0, none⟩) N cA) (q := .slice (some ⟨bB, 0, none⟩) N cB) HB.out HM.out HS.out hlt HT.out)
                rw [HLT.out, HTN.out] at HE
                have e0 := kc_set2 (p := ⟨w5.heap.size, 1, none⟩) (u := .slice (some ⟨bB, 0, none⟩) N cB) (by simp) (World.cell?_setCell_same _ _ (.slice (some ⟨bA, 0, none⟩) N cA) c0)
                have e1 := World.cell?_setCell_same _ _ (.slice (some ⟨bB, 0, none⟩) N cB) (kc_set2 (p := ⟨w5.heap.size, 0, none⟩) (u := .slice (some ⟨bA, 0, none⟩) N cA) (by simp) c1)
                have g0 := HBX.out.1
                have g1 := HBX.out.2.1
                have g2 := HBX.out.2.2.1
                have g3 := HBX.out.2.2.2
                go_wp2
                exact bodyPost_ret (v := .agg #[.slice (some ⟨bA, 0, none⟩) N cA, .slice (some ⟨bB, 0, none⟩) N cB]) (by simp [results, Tryz.results34, go_sem, g0, g1]) rfl HE.out

theorem l11Draw_small (S most : Nat) (w : World) (hs : Src S w) (h1 : 1 ≤ most) (h12 : most < 8) : Calls Tryz.prog 34 #[.pointer (some ⟨S, 0, none⟩), .int .i64 most] w (DrawB S most w) :=
  l11Draw_step S most w hs h1 (by omega) (fun h => by omega) (fun h => by omega)

theorem l11Draw_any (S most : Nat) (w : World) (hs : Src S w) (h1 : 1 ≤ most) (h12 : most ≤ 8) : Calls Tryz.prog 34 #[.pointer (some ⟨S, 0, none⟩), .int .i64 most] w (DrawB S most w) :=
  l11Draw_step S most w hs h1 h12 (fun _ w hs => l11Draw_small S 4 w hs (by omega) (by omega)) (fun _ w hs => l11Draw_small S 2 w hs (by omega) (by omega))
end Go.Proofs.YthlafeefjonkdaaGreatDoor


namespace Go.Proofs.YthlafeefjonkdaaGreatDoor
set_option linter.unusedVariables false
set_option linter.unusedSimpArgs false
open Go.RowKit
attribute [local go_sem ↓] Go.wp_at_zero Go.wp_at_succ
open Go.Deep

theorem rowsP_setEnt {O : Nat → Prop} {lo hi : Nat} {w : World} {b c : Nat} {T : List (List Int)} {j k n : Nat} {x : Int} (h : OwnT lo hi w b 0 T) (hs : Small T) (hj : j < T.length) (hk : k < n) (hn : (row T j).length = n) {rb ro rc : Nat} (hc : w.cell? ⟨b, j, none⟩ = some (.slice (some ⟨rb, ro, none⟩) (row T j).length rc)) (hO : ∀ k, lo ≤ k → k < hi → O k) :
    RowsP O (w.setCell ⟨rb, ro + k, none⟩ (.int .i64 x)) (.slice (some ⟨b, 0, none⟩) T.length c) (T.set j ((row T j).set k x)) := by
  obtain ⟨h1, h2, B, Of, C, h3, h4, h5⟩ := h
  obtain ⟨a1, a2, a3⟩ := h3 j hj
  rw [Nat.zero_add, hc] at a1
  simp only [Option.some.injEq, Value.slice.injEq, Addr.mk.injEq, and_true, true_and] at a1
  obtain ⟨⟨e1, e2⟩, e3⟩ := a1
  refine ⟨by simpa using hs.1, b, 0, c, by simp, hO b h1 h2, fun i hi => ?_⟩
  rw [List.length_set] at hi
  obtain ⟨g1, g2, g3⟩ := h3 i hi
  refine ⟨B i, Of i, C i, ?_⟩
  by_cases e : i = j
  · subst e
    rw [row_set_eq hi, List.length_set]
    refine ⟨kc_set (by simp only []; omega) g1, hO _ g2.1 g2.2.1, hs.2 i, ?_⟩
    rw [e1, e2]
    refine IntsAt.set a2.2.2.1 k x (by omega) (by simp) (fun m hm hml => ?_) ?_
    · rw [ix_eq, ix_eq]; simp [List.getD, List.getElem?_set, Ne.symm hm]
    · rw [ix_eq]; simp [List.getD, show k < (row T i).length by omega]
  · rw [row_set_ne e]
    have hne : B i ≠ rb := fun hb => e (h4 i j hi hj (by omega))
    exact ⟨kc_set (by simp only []; omega) g1, hO _ g2.1 g2.2.1, hs.2 i, ki_set (by simp only []; omega) g2.2.2.1⟩

theorem rowsP_drop {O : Nat → Prop} {w : World} {b o n c c2 : Nat} {t : List (List Int)} (h : RowsP O w (.slice (some ⟨b, o, none⟩) n c) t) (hn : t.length = n) : RowsP O w (.slice (some ⟨b, o + 1, none⟩) (n - 1) c2) (t.drop 1) := by
  obtain ⟨h0, b', o', c', e, hb, h⟩ := h
  simp only [Value.slice.injEq, Option.some.injEq, Addr.mk.injEq, and_true] at e
  obtain ⟨⟨rfl, rfl⟩, -, rfl⟩ := e
  refine ⟨by simp; omega, b, o + 1, c2, by simp [hn], hb, fun i hi => ?_⟩
  rw [List.length_drop] at hi
  obtain ⟨b1, o1, c1, h1, h2, h3, h4⟩ := h (1 + i) (by omega)
  have e : row (t.drop 1) i = row t (1 + i) := by rw [row_eq, row_eq]; simp [List.getD, List.getElem?_drop, Nat.add_comm]
  rw [e]
  exact ⟨b1, o1, c1, by rw [Nat.add_assoc]; exact h1, h2, h3, h4⟩

theorem rowsP_front {O : Nat → Prop} {w : World} {b o n c c2 : Nat} {t : List (List Int)} (h : RowsP O w (.slice (some ⟨b, o, none⟩) n c) t) (hn : t.length = n) : RowsP O w (.slice (some ⟨b, o, none⟩) (n - 1) c2) (t.take (n - 1)) := by
  obtain ⟨h0, b', o', c', e, hb, h⟩ := h
  simp only [Value.slice.injEq, Option.some.injEq, Addr.mk.injEq, and_true] at e
  obtain ⟨⟨rfl, rfl⟩, -, rfl⟩ := e
  refine ⟨by simp; omega, b, o, c2, by simp; omega, hb, fun i hi => ?_⟩
  rw [List.length_take] at hi
  obtain ⟨b1, o1, c1, h1, h2, h3, h4⟩ := h i (by omega)
  have e : row (t.take (n - 1)) i = row t i := by rw [row_eq, row_eq]; simp [List.getD, List.getElem?_take, show i < n - 1 by omega, List.getElem?_eq_getElem (show i < t.length by omega)]
  rw [e]
  exact ⟨b1, o1, c1, h1, h2, h3, h4⟩

def DrawBA (S : Nat) (w : World) (e : Ending) (w' : World) : Prop :=
  ∃ v y T U, e = .returned (.agg #[v, y]) ∧ RowsP (fun k => w.heap.size ≤ k ∧ k < w'.heap.size) w' v T ∧ RowsP (fun k => w.heap.size ≤ k ∧ k < w'.heap.size) w' y U ∧ 1 ≤ T.length ∧ T.length ≤ 12 ∧ U.length ≤ 12 ∧ Src S w' ∧ Touch S (S + 1) w w'

theorem drawBA_end {S : Nat} {O : Nat → Prop} {w W : World} {v y p q : Value} {T U : List (List Int)} (h1 : RowsP O W v T) (h2 : RowsP O W y U) (hO : ∀ k, O k → w.heap.size + 1 ≤ k ∧ k < W.heap.size) (l0 : 1 ≤ T.length) (l1 : T.length ≤ 12) (l2 : U.length ≤ 12) (hs : Src S W) (hS : S < w.heap.size) (ht : Touch S (S + 1) w W) : DrawBA S w (.returned (.agg #[v, y])) ((W.setCell ⟨w.heap.size, 0, none⟩ p).setCell ⟨w.heap.size, 1, none⟩ q) :=
  ⟨v, y, T, U, rfl, ((h1.setOther (fun k hk => by have := hO k hk; simp only []; omega) _).setOther (fun k hk => by have := hO k hk; simp only []; omega) _).weaken (fun k hk => by have := hO k hk; simp; omega), ((h2.setOther (fun k hk => by have := hO k hk; simp only []; omega) _).setOther (fun k hk => by have := hO k hk; simp only []; omega) _).weaken (fun k hk => by have := hO k hk; simp; omega), l0, l1, l2, (hs.setCell (by simp only []; omega) _).setCell (by simp only []; omega) _, (ht.setIn (by simp only []; omega) _).setIn (by simp only []; omega) _⟩

theorem RowsP.lt {O : Nat → Prop} {w : World} {v : Value} {t : List (List Int)} (h : RowsP O w v t) (hT : TableOk t) : RowsP (fun k => O k ∧ k < w.heap.size) w v t := by
  obtain ⟨h0, b, o, c, rfl, hb, h⟩ := h
  refine ⟨h0, b, o, c, rfl, ⟨hb, ?_⟩, fun i hi => ?_⟩
  · obtain ⟨b1, o1, c1, h1, -⟩ := h 0 hT.1
    exact World.block_lt_of_cell? _ _ h1
  · obtain ⟨b1, o1, c1, h1, h2, h3, h4⟩ := h i hi
    exact ⟨b1, o1, c1, h1, ⟨h2, World.block_lt_of_cell? _ _ (h4 0 (by rw [hT.len hi]; exact hT.1))⟩, h3, h4⟩

theorem BoxC.set1 {B : Nat} {W : World} {v y : Value} (h : BoxC B W v y) (u : Value) : BoxC B (W.setCell ⟨B, 1, none⟩ u) v u :=
  ⟨kc_set2 (by simp) h.1, kc_same h.2.1, by rw [World.frozen?_setCell]; exact h.2.2.1, by rw [World.frozen?_setCell]; exact h.2.2.2⟩

theorem BoxC.set {B : Nat} {W : World} {v y : Value} (h : BoxC B W v y) {p : Addr} (hp : B ≠ p.block) (u : Value) : BoxC B (W.setCell p u) v y := h.keep (Below.heap_setCell _ _ _ _ hp)

set_option maxRecDepth 100000 in
set_option maxHeartbeats 8000000 in
theorem l11DrawAny_any (S most : Nat) (w : World) (hs : Src S w) (h1 : 1 ≤ most) (h12 : most ≤ 8) :
    Calls Tryz.prog 20 #[.pointer (some ⟨S, 0, none⟩), .int .i64 most] w (DrawBA S w) := by
  have hlt := hs.lt
  have hx0 : Ext w (w.alloc (.cells #[.slice none 0 0, .slice none 0 0] 26)) := (Ext.refl _).alloc _
  have HBX := Lib.hid (BoxB.new w 26)
  have z0 : w.heap.size + 1 ≤ (w.alloc (.cells #[.slice none 0 0, .slice none 0 0] 26)).heap.size := by simp
  have HS := Lib.hid (hs.ext hx0)
  have HT := Lib.hid (show Touch S (S + 1) w _ from Touch.of_ext hx0)
  clear hs hx0
  go_enter Tryz.func20, Tryz.ntmps20
  go_wp2_with fail
  generalize (w.alloc (.cells #[.slice none 0 0, .slice none 0 0] 26)) = w0 at *
  refine (l11Draw_any S most _ HS.out h1 h12).mono ?_
  rintro e w1 ⟨T, U, b, c, y, lo, hi, rfl, hB, hm, hs1, hT1⟩
  obtain ⟨yb, yo, yc, rfl⟩ := hB.2.2.2.1.shape
  have HL := Lib.hid hB.2.2.2.2.2.2
  have HO := Lib.hid hB.1
  have HRU := Lib.hid ((hB.2.2.2.1.lt hB.2.2.2.2.2.1).weaken (O' := fun k => w.heap.size + 1 ≤ k ∧ k < w1.heap.size ∧ ¬ (lo ≤ k ∧ k < hi)) (fun k hk => by omega))
  have hlo := hB.2.1
  have hhi := hB.2.2.1
  rw [HL.out]
  rw [HL.out] at HRU
  have HTO := Lib.hid hB.2.2.2.2.1
  have ht1 := hB.2.2.2.2.1.1
  have ht12 := hB.2.2.2.2.1.2.1
  have z1 := hT1.size
  have HBX := Lib.hid (HBX.out.touch hT1 (by omega) (by omega))
  have HS := Lib.hid hs1
  have HT := Lib.hid (HT.out.trans hT1)
  clear hB hs1 hT1
  have hx2 : Ext w1 (w1.alloc (.cells #[.slice (some ⟨b, 0, none⟩) T.length c, .slice (some ⟨yb, yo, none⟩) T.length yc] 26)) := (Ext.refl _).alloc _
  have HCX := Lib.hid (BoxC.new w1 (.slice (some ⟨b, 0, none⟩) T.length c) (.slice (some ⟨yb, yo, none⟩) T.length yc) 26)
  have zs2 : w1.heap.size + 1 ≤ (w1.alloc (.cells #[.slice (some ⟨b, 0, none⟩) T.length c, .slice (some ⟨yb, yo, none⟩) T.length yc] 26)).heap.size := by simp
  go_wp2_with fail
  generalize (w1.alloc (.cells #[.slice (some ⟨b, 0, none⟩) T.length c, .slice (some ⟨yb, yo, none⟩) T.length yc] 26)) = w2 at *
  have HBX := Lib.hid (HBX.out.ext hx2 (by omega))
  have HS := Lib.hid (HS.out.ext hx2)
  have HT := Lib.hid (HT.out.trans (Touch.of_ext hx2))
  have HO := Lib.hid (HO.out.ext hx2 hhi)
  have HRU := Lib.hid (HRU.out.ext hx2)
  clear hx2
  refine (l01Next_any S _ _ HS.out).mono ?_
  rintro e w3 ⟨r, rfl, r1, r2, -, hs3, hT3⟩
  have z3 := hT3.size
  have HBX := Lib.hid (HBX.out.touch hT3 (by omega) (by omega))
  have HCX := Lib.hid (HCX.out.keep (hT3.block w1.heap.size (by omega) (by omega)))
  have HS := Lib.hid hs3
  have HT := Lib.hid (HT.out.trans hT3)
  have HO := Lib.hid (HO.out.touch hT3 (by omega) (by omega))
  have HRU := Lib.hid (HRU.out.touch hT3 (fun k hk => by omega))
  have HRT := Lib.hid ((HO.out.rowsP HTO.out.small c).weaken (O' := fun k => w.heap.size + 1 ≤ k ∧ k ≠ w1.heap.size ∧ k < w3.heap.size) (fun k hk => by omega))
  have HRV := Lib.hid (HRU.out.weaken (O' := fun k => w.heap.size + 1 ≤ k ∧ k ≠ w1.heap.size ∧ k < w3.heap.size) (fun k hk => by omega))
  clear hs3 hT3 r2
  have k0 := HCX.out.1
  have k1 := HCX.out.2.1
  have k2 := HCX.out.2.2.1
  have k3 := HCX.out.2.2.2
  have g0 := HBX.out.1
  have g1 := HBX.out.2.1
  have g2 := HBX.out.2.2.1
  have g3 := HBX.out.2.2.2
  by_cases hr0 : r = 0
  case pos =>
    subst hr0
    clear r1 k0 k1 k2 k3 g0 g1 g2 g3
    have HX := HBX
    go_wp2_with fail
    refine (l10Draw_le S T.length _ HS.out ht1 ht12).mono ?_
    rintro e w4 ⟨V, vb, vc, lo2, hi2, rfl, ho, hlo2, hhi2, hok, hVm, hs4, hT4⟩
    have z4 := hT4.size
    have HBX := Lib.hid (HBX.out.touch hT4 (by omega) (by omega))
    have HCX := Lib.hid (HCX.out.keep (hT4.block w1.heap.size (by omega) (by omega)))
    have HRT := Lib.hid (HRT.out.touch hT4 (fun k hk => by omega))
    have HRT := Lib.hid (HRT.out.weaken (O' := fun k => w.heap.size + 1 ≤ k ∧ k ≠ w1.heap.size ∧ k < w4.heap.size) (fun k hk => by omega))
    have HR2 := Lib.hid ((ho.rowsP hok.small vc).weaken (O' := fun k => w.heap.size + 1 ≤ k ∧ k ≠ w1.heap.size ∧ k < w4.heap.size) (fun k hk => by omega))
    have k0 := HCX.out.1
    have k1 := HCX.out.2.1
    have k2 := HCX.out.2.2.1
    have k3 := HCX.out.2.2.2
    have HCX := Lib.hid (HCX.out.set1 (.slice (some ⟨vb, 0, none⟩) V.length vc))
    have HBX := Lib.hid (HBX.out.set (p := ⟨w1.heap.size, 1, none⟩) (by simp only []; omega) (.slice (some ⟨vb, 0, none⟩) V.length vc))
    have HE := Lib.hid (drawBA_end (w := w) (p := .slice (some ⟨b, 0, none⟩) T.length c) (q := .slice (some ⟨vb, 0, none⟩) V.length vc) (HRT.out.setOther (a := ⟨w1.heap.size, 1, none⟩) (fun k hk => hk.2.1) (.slice (some ⟨vb, 0, none⟩) V.length vc)) (HR2.out.setOther (a := ⟨w1.heap.size, 1, none⟩) (fun k hk => hk.2.1) (.slice (some ⟨vb, 0, none⟩) V.length vc)) (fun k hk => by first | (simp only [World.size_setCell]; omega) | omega) ht1 ht12 (by omega) (hs4.setCell (by simp only []; omega) _) hlt ((HT.out.trans hT4).setIn (by simp only []; omega) _))
    have c0 := HCX.out.1
    have c1 := HCX.out.2.1
    have g0 := HBX.out.1
    have g1 := HBX.out.2.1
    have g2 := HBX.out.2.2.1
    have g3 := HBX.out.2.2.2
    clear hT4 hs4 ho hok HX
    go_wp2
    exact bodyPost_ret (v := .agg #[.slice (some ⟨b, 0, none⟩) T.length c, .slice (some ⟨vb, 0, none⟩) V.length vc]) (by simp [results, Tryz.results20, go_sem, g0, g1]) rfl HE.out
  case neg =>
    by_cases hr1 : r = 1
    case pos =>
      subst hr1
      clear r1 hr0
      have hlen : ∀ i, i < T.length → (row T i).length = T.length := fun i hi => HTO.out.len hi
      have HLEN := Lib.hid hlen
      clear hlen
      have hbl := HO.out.1
      have hbh := HO.out.2.1
      clear g0 g1 g2 g3
      go_upto_region 7 with fail
      go_region_with (first
          | (go_at_call 22; refine (l01Next_any S _ _ (hsB.ext (by (repeat first | (with_reducible exact Ext.refl _) | (with_reducible assumption) | (with_reducible apply Ext.drew) | (with_reducible apply kx_drewN) | (with_reducible apply kx_alloc) | ((with_reducible refine kx_set ?_ ?_); (first | (simp only []; omega) | (simp; omega) | (focus (simp; done)))) )))).mono ?_; rintro e wC ⟨rC, rfl, r1, r2, -, hsC, hTC⟩; have hcC := hTC.cell (show World.cell? _ _ = _ from hcB) (by simp only []; omega); have kC := hTC.cell (show World.cell? _ _ = _ from kB) (by simp only []; omega); have hOC := hOB.touch (show Touch S (S + 1) wB wC by first | exact hTC | exact Touch.ofDrew hTC) (by omega) (by omega); have zC : wB.heap.size ≤ wC.heap.size := hTC.size; obtain ⟨eC, fC⟩ := own_at hOC hjA hjB (by rw [HLEN.out jA hjA]) hcC; clear r1 r2)
          | (go_at_call 22; refine (l01Next_any S _ _ (hsA.ext (by (repeat first | (with_reducible exact Ext.refl _) | (with_reducible assumption) | (with_reducible apply Ext.drew) | (with_reducible apply kx_drewN) | (with_reducible apply kx_alloc) | ((with_reducible refine kx_set ?_ ?_); (first | (simp only []; omega) | (simp; omega) | (focus (simp; done)))) )))).mono ?_; rintro e wB ⟨rB, rfl, r1, r2, -, hsB, hTB⟩; obtain ⟨jB, rfl⟩ := Int.eq_ofNat_of_zero_le r1; have hjB : jB < T.length := (by have := r2 (by omega); omega); have hcB := hTB.cell (show World.cell? _ _ = _ from hcA) (by simp only []; omega); have kB := hTB.cell (show World.cell? _ _ = _ from kA) (by simp only []; omega); have hOB := hOA.touch (show Touch S (S + 1) wA wB by first | exact hTB | exact Touch.ofDrew hTB) (by omega) (by omega); have zB : wA.heap.size ≤ wB.heap.size := hTB.size; clear r1 r2)
          | (go_at_call 22; refine (l01Next_any S _ _ (HS.out.ext (by (repeat first | (with_reducible exact Ext.refl _) | (with_reducible assumption) | (with_reducible apply Ext.drew) | (with_reducible apply kx_drewN) | (with_reducible apply kx_alloc) | ((with_reducible refine kx_set ?_ ?_); (first | (simp only []; omega) | (simp; omega) | (focus (simp; done)))) )))).mono ?_; rintro e wA ⟨rA, rfl, r1, r2, -, hsA, hTA⟩; obtain ⟨jA, rfl⟩ := Int.eq_ofNat_of_zero_le r1; have hjA : jA < T.length := (by have := r2 (by omega); omega); have hOA := HO.out.touch (show Touch S (S + 1) w3 wA by first | exact hTA | exact Touch.ofDrew hTA) (by omega) (by omega); obtain ⟨rb, ro, rc, hcA, hrO⟩ := hOA.get hjA; rw [Nat.zero_add, HLEN.out jA hjA] at hcA; have hrb := hrO.1; have hrb2 := hrO.2.1; have zA : w3.heap.size ≤ wA.heap.size := hTA.size; have kA := hTA.cell (show World.cell? _ _ = _ from k0) (by simp only []; omega); clear r1 r2 hrO))
      all_goals
        have hTA' := (show Touch S (S + 1) w3 wA by first | exact hTA | exact Touch.ofDrew hTA)
        have HRE := Lib.hid (rowsP_setEnt (c := c) (x := rC) hOC HTO.out.small hjA hjB (by rw [HLEN.out jA hjA]) (by rw [HLEN.out jA hjA]; exact hcC) (O := fun k => w.heap.size + 1 ≤ k ∧ k ≠ w1.heap.size ∧ k < w3.heap.size) (fun k q1 q2 => by omega))
        have HRW := Lib.hid (((((HRU.out.touch hTA' (fun k hk => by omega)).touch hTB (fun k hk => by omega)).touch hTC (fun k hk => by omega)).setOther (a := ⟨rb, ro + jB, none⟩) (fun k hk => by simp only []; omega) (.int .i64 rC)).weaken (O' := fun k => w.heap.size + 1 ≤ k ∧ k ≠ w1.heap.size ∧ k < w3.heap.size) (fun k hk => by omega))
        have HTE := Lib.hid ((((HT.out.trans hTA').trans hTB).trans hTC).setIn (p := ⟨rb, ro + jB, none⟩) (by simp only []; omega) (.int .i64 rC))
        have HSE := Lib.hid (hsC.setCell (p := ⟨rb, ro + jB, none⟩) (by simp only []; omega) (.int .i64 rC))
        have HBX := Lib.hid ((((HBX.out.touch hTA' (by omega) (by omega)).touch hTB (by omega) (by omega)).touch hTC (by omega) (by omega)).set (p := ⟨rb, ro + jB, none⟩) (by simp only []; omega) (.int .i64 rC))
        have HCX := Lib.hid ((HCX.out.keep ((hTC.block w1.heap.size (by omega) (by omega)).trans ((hTB.block w1.heap.size (by omega) (by omega)).trans (hTA'.block w1.heap.size (by omega) (by omega))))).set (p := ⟨rb, ro + jB, none⟩) (by simp only []; omega) (.int .i64 rC))
        have HE := Lib.hid (drawBA_end (w := w) (p := .slice (some ⟨b, 0, none⟩) T.length c) (q := .slice (some ⟨yb, yo, none⟩) T.length yc) HRE.out HRW.out (fun k hk => by first | (simp only [World.size_setCell]; omega) | omega) (by simpa using ht1) (by simpa using ht12) (by rw [HL.out]; exact ht12) HSE.out hlt HTE.out)
        have c0 := HCX.out.1
        have c1 := HCX.out.2.1
        have e0 := HBX.out.1
        have e1 := HBX.out.2.1
        have e2 := HBX.out.2.2.1
        have e3 := HBX.out.2.2.2
        go_wp2
        exact bodyPost_ret (v := .agg #[.slice (some ⟨b, 0, none⟩) T.length c, .slice (some ⟨yb, yo, none⟩) T.length yc]) (by simp [results, Tryz.results20, go_sem, e0, e1]) rfl HE.out
    case neg =>
      by_cases hr2 : r = 2
      case pos =>
        subst hr2
        clear r1 hr0 hr1
        have HLU := Lib.hid HL.out
        by_cases hc1 : yc = 1
        case pos =>
          subst hc1
          have HBX := Lib.hid (HBX.out.set (p := ⟨w1.heap.size, 1, none⟩) (by simp only []; omega) (.slice (some ⟨yb, yo, none⟩) (T.length - 1) 0))
          have HCX := Lib.hid (HCX.out.set1 (.slice (some ⟨yb, yo, none⟩) (T.length - 1) 0))
          have HE := Lib.hid (drawBA_end (w := w) (p := .slice (some ⟨b, 0, none⟩) T.length c) (q := .slice (some ⟨yb, yo, none⟩) (T.length - 1) 0) (HRT.out.setOther (a := ⟨w1.heap.size, 1, none⟩) (fun k hk => hk.2.1) (.slice (some ⟨yb, yo, none⟩) (T.length - 1) 0)) ((rowsP_front (c2 := 0) HRV.out HL.out).setOther (a := ⟨w1.heap.size, 1, none⟩) (fun k hk => hk.2.1) (.slice (some ⟨yb, yo, none⟩) (T.length - 1) 0)) (fun k hk => by first | (simp only [World.size_setCell]; omega) | omega) ht1 ht12 (by have := HL.out; simp; omega) (HS.out.setCell (by simp only []; omega) _) hlt (HT.out.setIn (by simp only []; omega) _))
          have c0 := HCX.out.1
          have c1 := HCX.out.2.1
          have e0 := HBX.out.1
          have e1 := HBX.out.2.1
          have e2 := HBX.out.2.2.1
          have e3 := HBX.out.2.2.2
          go_wp2
          exact bodyPost_ret (v := .agg #[.slice (some ⟨b, 0, none⟩) T.length c, .slice (some ⟨yb, yo, none⟩) (T.length - 1) 0]) (by simp [results, Tryz.results20, go_sem, e0, e1]) rfl HE.out
        case neg =>
          have HBX := Lib.hid (HBX.out.set (p := ⟨w1.heap.size, 1, none⟩) (by simp only []; omega) (.slice (some ⟨yb, yo + 1, none⟩) (T.length - 1) (yc - 1)))
          have HCX := Lib.hid (HCX.out.set1 (.slice (some ⟨yb, yo + 1, none⟩) (T.length - 1) (yc - 1)))
          have HE := Lib.hid (drawBA_end (w := w) (p := .slice (some ⟨b, 0, none⟩) T.length c) (q := .slice (some ⟨yb, yo + 1, none⟩) (T.length - 1) (yc - 1)) (HRT.out.setOther (a := ⟨w1.heap.size, 1, none⟩) (fun k hk => hk.2.1) (.slice (some ⟨yb, yo + 1, none⟩) (T.length - 1) (yc - 1))) ((rowsP_drop (c2 := yc - 1) HRV.out HL.out).setOther (a := ⟨w1.heap.size, 1, none⟩) (fun k hk => hk.2.1) (.slice (some ⟨yb, yo + 1, none⟩) (T.length - 1) (yc - 1))) (fun k hk => by first | (simp only [World.size_setCell]; omega) | omega) ht1 ht12 (by have := HL.out; simp; omega) (HS.out.setCell (by simp only []; omega) _) hlt (HT.out.setIn (by simp only []; omega) _))
          have c0 := HCX.out.1
          have c1 := HCX.out.2.1
          have e0 := HBX.out.1
          have e1 := HBX.out.2.1
          have e2 := HBX.out.2.2.1
          have e3 := HBX.out.2.2.2
          go_wp2
          exact bodyPost_ret (v := .agg #[.slice (some ⟨b, 0, none⟩) T.length c, .slice (some ⟨yb, yo + 1, none⟩) (T.length - 1) (yc - 1)]) (by simp [results, Tryz.results20, go_sem, e0, e1]) rfl HE.out
      case neg =>
        have HE := Lib.hid (drawBA_end (w := w) (p := .slice (some ⟨b, 0, none⟩) T.length c) (q := .slice (some ⟨yb, yo, none⟩) T.length yc) HRT.out HRV.out (fun k hk => by first | (simp only [World.size_setCell]; omega) | omega) ht1 ht12 (by rw [HL.out]; exact ht12) HS.out hlt HT.out)
        go_wp2
        exact bodyPost_ret (v := .agg #[.slice (some ⟨b, 0, none⟩) T.length c, .slice (some ⟨yb, yo, none⟩) T.length yc]) (by simp [results, Tryz.results20, go_sem, g0, g1]) rfl HE.out

end Go.Proofs.YthlafeefjonkdaaGreatDoor


namespace Go.Proofs.YthlafeefjonkdaaGreatDoor
set_option linter.unusedVariables false
set_option linter.unusedSimpArgs false
open Go.RowKit
attribute [local go_sem ↓] Go.wp_at_zero Go.wp_at_succ
open Go.Deep

def DrawnBB (w : World) (e : Ending) (w' : World) : Prop :=
  ∃ v y v2 y2 T U A D, e = .returned (.tuple #[.agg #[v, y], .agg #[v2, y2]]) ∧ Rows w' v T ∧ Rows w' y U ∧ Rows w' v2 A ∧ Rows w' y2 D ∧ 1 ≤ T.length ∧ T.length ≤ 12 ∧ U.length ≤ 12 ∧ 1 ≤ A.length ∧ A.length ≤ 12 ∧ D.length ≤ 12 ∧ Ext w w'

theorem RowsP.rowsSet4 {O : Nat → Prop} {w : World} {v : Value} {t : List (List Int)} (h : RowsP O w v t) {B C : Nat} (hO : ∀ k, O k → k ≠ B ∧ k ≠ C) (p q p2 q2 : Value) : Rows ((((w.setCell ⟨B, 0, none⟩ p).setCell ⟨B, 1, none⟩ q).setCell ⟨C, 0, none⟩ p2).setCell ⟨C, 1, none⟩ q2) v t :=
  ((((h.setOther (a := ⟨B, 0, none⟩) (fun k hk => (hO k hk).1) p).setOther (a := ⟨B, 1, none⟩) (fun k hk => (hO k hk).1) q).setOther (a := ⟨C, 0, none⟩) (fun k hk => (hO k hk).2) p2).setOther (a := ⟨C, 1, none⟩) (fun k hk => (hO k hk).2) q2).rows

theorem drawnBB_end {O : Nat → Prop} {w W : World} {v y v2 y2 p q p2 q2 : Value} {T U A D : List (List Int)} (h1 : RowsP O W v T) (h2 : RowsP O W y U) (h3 : RowsP O W v2 A) (h4 : RowsP O W y2 D) (hO : ∀ k, O k → w.heap.size + 2 ≤ k)
    (l0 : 1 ≤ T.length) (l1 : T.length ≤ 12) (l2 : U.length ≤ 12) (l3 : 1 ≤ A.length) (l4 : A.length ≤ 12) (l5 : D.length ≤ 12) (hX : Ext w W) :
    DrawnBB w (.returned (.tuple #[.agg #[v, y], .agg #[v2, y2]])) ((((W.setCell ⟨w.heap.size, 0, none⟩ p).setCell ⟨w.heap.size, 1, none⟩ q).setCell ⟨w.heap.size + 1, 0, none⟩ p2).setCell ⟨w.heap.size + 1, 1, none⟩ q2) := by
  have hO' : ∀ k, O k → k ≠ w.heap.size ∧ k ≠ w.heap.size + 1 := fun k hk => by have := hO k hk; omega
  exact ⟨v, y, v2, y2, T, U, A, D, rfl, h1.rowsSet4 hO' _ _ _ _, h2.rowsSet4 hO' _ _ _ _, h3.rowsSet4 hO' _ _ _ _, h4.rowsSet4 hO' _ _ _ _, l0, l1, l2, l3, l4, l5,
    (((hX.setNew (Nat.le_refl _) _).setNew (Nat.le_refl _) _).setNew (by simp) _).setNew (by simp) _⟩

set_option maxRecDepth 100000 in
set_option maxHeartbeats 8000000 in
theorem DrawBraceIsomorphism_any (bs : List Int) (v : Value) (w : World) (hv : BytesR w v bs) (hl : bs.length ≤ 4096) :
    Calls Tryz.prog 5 #[v] w (DrawnBB w) := by
  have hx0 : Ext w ((w.alloc (.cells #[.slice none 0 0, .slice none 0 0] 26)).alloc (.cells #[.slice none 0 0, .slice none 0 0] 26)) := ((Ext.refl _).alloc _).alloc _
  have HBX := Lib.hid ((BoxB.new w 26).ext ((Ext.refl _).alloc (.cells #[.slice none 0 0, .slice none 0 0] 26)) (by simp))
  have HBY := Lib.hid (BoxB.new (w.alloc (.cells #[.slice none 0 0, .slice none 0 0] 26)) 26)
  rw [show (w.alloc (.cells #[.slice none 0 0, .slice none 0 0] 26)).heap.size = w.heap.size + 1 by simp] at HBY
  have z0 : w.heap.size + 2 ≤ ((w.alloc (.cells #[.slice none 0 0, .slice none 0 0] 26)).alloc (.cells #[.slice none 0 0, .slice none 0 0] 26)).heap.size := by simp
  go_enter Tryz.func5, Tryz.ntmps5
  go_wp2_with fail
  generalize ((w.alloc (.cells #[.slice none 0 0, .slice none 0 0] 26)).alloc (.cells #[.slice none 0 0, .slice none 0 0] 26)) = w0 at *
  refine (l01From_any bs _ _ (hv.ext hx0) hl).mono ?_
  rintro e w1 ⟨S, rfl, hS, hs, hx1⟩
  have z1 := hx1.size
  have hSl := hs.lt
  go_wp2_with fail
  refine (l11DrawAny_any S 8 _ hs (by omega) (by omega)).mono ?_
  rintro e w2 ⟨v2, y2, T, U, rfl, hr, hu, l0, l1, l2, hs2, hT2⟩
  have HX := Lib.hid (hx0.trans (hx1.touch hT2 hS))
  have z2 := hT2.size
  have HS := Lib.hid hs2
  have HBX := Lib.hid ((HBX.out.ext hx1 (by omega)).keep (hT2.block w.heap.size (by omega) (by omega)))
  have HBY := Lib.hid ((HBY.out.ext hx1 (by omega)).keep (hT2.block (w.heap.size + 1) (by omega) (by omega)))
  obtain ⟨b, o, c, rfl⟩ := hr.shape
  obtain ⟨yb, yo, yc, rfl⟩ := hu.shape
  have HR := Lib.hid hr
  have HU := Lib.hid hu
  clear hr hu hs2 hT2 hs hx1 hx0
  have hx3 : Ext w2 (w2.alloc (.cells #[.slice (some ⟨b, o, none⟩) T.length c, .slice (some ⟨yb, yo, none⟩) U.length yc] 26)) := (Ext.refl _).alloc _
  have HCX := Lib.hid (BoxC.new w2 (.slice (some ⟨b, o, none⟩) T.length c) (.slice (some ⟨yb, yo, none⟩) U.length yc) 26)
  have z3 : w2.heap.size + 1 ≤ (w2.alloc (.cells #[.slice (some ⟨b, o, none⟩) T.length c, .slice (some ⟨yb, yo, none⟩) U.length yc] 26)).heap.size := by simp
  have k0 := HCX.out.1
  have k1 := HCX.out.2.1
  go_upto_region 4 with fail
  generalize (w2.alloc (.cells #[.slice (some ⟨b, o, none⟩) T.length c, .slice (some ⟨yb, yo, none⟩) U.length yc] 26)) = w3 at *
  have HBX := Lib.hid (HBX.out.ext hx3 (by omega))
  have HBY := Lib.hid (HBY.out.ext hx3 (by omega))
  have HS := Lib.hid (HS.out.ext hx3)
  have HR := Lib.hid (HR.out.ext hx3)
  have HU := Lib.hid (HU.out.ext hx3)
  have HX := Lib.hid (HX.out.trans hx3)
  clear hx3
  go_cut [27] (fun v wx => ∃ bq : Bool, v = .bool bq ∧ (bq = true → braceB T U = true ∧ 1 < T.length) ∧ Src S wx ∧ Touch S (S + 1) w3 wx)
  case first =>
    go_wp2_with fail
    refine (l11Is_any T U _ _ _ HR.out.rows HU.out.rows).mono ?_
    rintro e w4 ⟨rfl, hx4⟩
    cases hb : braceB T U with
    | false =>
      go_wp2
      go_meet
      case rel => exact ⟨false, rfl, (fun h => by cases h), HS.out.ext hx4, Touch.of_ext hx4⟩
    | true =>
      by_cases hN : 1 < T.length
      case neg =>
        have hNi : ¬ (1 : Int) < (T.length : Int) := by omega
        have hNd : decide ((1 : Int) < (T.length : Int)) = false := by simp; omega
        go_wp2
        go_meet
        case rel => exact ⟨false, rfl, (fun h => by cases h), HS.out.ext hx4, Touch.of_ext hx4⟩
      case pos =>
        have hNi : (1 : Int) < (T.length : Int) := by omega
        have hNd : decide ((1 : Int) < (T.length : Int)) = true := by simp; omega
        go_wp2_with (go_at_call 22; refine (l01Next_any S _ _ (HS.out.ext hx4)).mono ?_; rintro e w7 ⟨r, rfl, r1, r2, -, hs7, hT7⟩)
        go_meet
        case rel => exact ⟨_, rfl, fun _ => ⟨hb, hN⟩, hs7, (Touch.of_ext hx4).trans hT7⟩
  case rest =>
    obtain ⟨bq, rfl, hbN, hs5, hT5⟩ := hcut
    have z5 := hT5.size
    have HBX := Lib.hid (HBX.out.keep (hT5.block w.heap.size (by omega) (by omega)))
    have HBY := Lib.hid (HBY.out.keep (hT5.block (w.heap.size + 1) (by omega) (by omega)))
    have HCX := Lib.hid (HCX.out.keep (hT5.block w2.heap.size (by omega) (by omega)))
    have HR := Lib.hid (HR.out.touch hT5 (fun k hk => by omega))
    have HU := Lib.hid (HU.out.touch hT5 (fun k hk => by omega))
    have HX := Lib.hid (HX.out.touch hT5 (by omega))
    have HS := Lib.hid hs5
    clear hs5 hT5 k0 k1
    cases bq with
    | false =>
      clear hbN
      have c0 := HCX.out.1
      have c1 := HCX.out.2.1
      have zd : wc.drew.heap.size = wc.heap.size := rfl
      have HSD := Lib.hid (HS.out.ext (Ext.refl wc).drew)
      have HBD := Lib.hid (show BoxB w.heap.size wc.drew from HBX.out)
      have HYD := Lib.hid (show BoxB (w.heap.size + 1) wc.drew from HBY.out)
      go_upto_region 11 with fail
      go_region_with ((go_at_call 20; refine (l11DrawAny_any S 6 _ HSD.out (by omega) (by omega)).mono ?_; rintro e w6 ⟨v6, y6, A, D, rfl, hr6, hu6, l3, l4, l5, hs6, hT6⟩; obtain ⟨b6, o6, c6, rfl⟩ := hr6.shape; obtain ⟨b7, o7, c7, rfl⟩ := hu6.shape; have f0 := hT6.cell (show wc.drew.cell? _ = some _ from c0) (by simp only []; omega); have f1 := hT6.cell (show wc.drew.cell? _ = some _ from c1) (by simp only []; omega); have HB6 := Lib.hid (HBD.out.keep (hT6.block w.heap.size (by omega) (by omega))); have HY6 := Lib.hid (HYD.out.keep (hT6.block (w.heap.size + 1) (by omega) (by omega))); have g0 := HB6.out.1; have g1 := HB6.out.2.1; have g2 := HB6.out.2.2.1; have g3 := HB6.out.2.2.2; have y0 := HY6.out.1; have y1 := HY6.out.2.1; have y2 := HY6.out.2.2.1; have y3 := HY6.out.2.2.2))
      all_goals
        have z6 := hT6.size
        have HX := Lib.hid ((HX.out.drew).touch hT6 (by omega))
        have HR := Lib.hid ((((HR.out.ext (Ext.refl wc).drew).touch hT6 (fun k hk => by omega))).weaken (O' := fun k => w.heap.size + 2 ≤ k) (fun k hk => by omega))
        have HU := Lib.hid ((((HU.out.ext (Ext.refl wc).drew).touch hT6 (fun k hk => by omega))).weaken (O' := fun k => w.heap.size + 2 ≤ k) (fun k hk => by omega))
        have HR6 := Lib.hid (hr6.weaken (O' := fun k => w.heap.size + 2 ≤ k) (fun k hk => by omega))
        have HU6 := Lib.hid (hu6.weaken (O' := fun k => w.heap.size + 2 ≤ k) (fun k hk => by omega))
        clear hr6 hu6 hT6 hs6
        go_wp2
        exact bodyPost_ret (v := .tuple #[.agg #[.slice (some ⟨b, o, none⟩) T.length c, .slice (some ⟨yb, yo, none⟩) U.length yc], .agg #[.slice (some ⟨b6, o6, none⟩) A.length c6, .slice (some ⟨b7, o7, none⟩) D.length c7]]) (by simp [results, Tryz.results5, go_sem, g0, g1, y0, y1]) rfl (drawnBB_end HR.out HU.out HR6.out HU6.out (fun k hk => hk) l0 l1 l2 l3 l4 l5 HX.out)
    | true =>
      obtain ⟨hbr, hN2⟩ := hbN rfl
      obtain ⟨gT, gU, hUT⟩ := braceB_ok hbr
      have HTO := Lib.hid gT.1
      have HUO := Lib.hid gU.1
      have HUN := Lib.hid hUT.symm
      have hSw : S < wc.heap.size := HS.out.lt
      clear hbN hbr gT gU hUT
      have hx8 := ext_box wc (.int .i64 0) 2
      have HG8 := Lib.hid (GrowI.one (e := 2) (base := wc.heap.size) (w := wc) (x := 0) (Nat.le_refl _))
      have z8 : wc.heap.size + 1 ≤ (wc.alloc (.cells #[.int .i64 0] 2)).heap.size := by simp
      go_wp2_with fail
      generalize (wc.alloc (.cells #[.int .i64 0] 2)) = w8 at *
      rw [show ((T.length : Int) - 1) = ((T.length - 1 : Nat) : Int) by omega]
      refine (l03DrawPerm_any S (T.length - 1) _ (HS.out.ext hx8) (by omega)).mono ?_
      rintro e w9 ⟨rs, bp, cp, rfl, hrp, hop, hs9, hT9⟩
      have HG9 := Lib.hid (HG8.out.touch hT9 (by omega))
      have z9 := hT9.size
      have HX := Lib.hid ((HX.out.trans hx8).touch hT9 (by omega))
      have HKE := Lib.hid (show ∀ k, k ≠ S → k < wc.heap.size → w9.heap[k]? = wc.heap[k]? from fun k q1 q2 => (hT9.block k (by omega) (by omega)).trans (hx8.block k q2))
      have HR' := Lib.hid hrp
      have HI := Lib.hid hop.2.2.1
      have hbp := hop.1
      have hbp2 := hop.2.1
      have hrl := hrp.1
      have HRL := Lib.hid hrl
      obtain ⟨R1, hR1⟩ : ∃ R1, R1 = rs.map (· + 1) := ⟨_, rfl⟩
      have HR1L := Lib.hid (show R1.length = T.length - 1 by rw [hR1, List.length_map]; exact hrl)
      have HR1X := Lib.hid (show ∀ k, k < T.length - 1 → ix R1 k = ix rs k + 1 from fun k hk => by
        rw [hR1, ix_eq, ix_eq]
        simp [List.getD, List.getElem?_eq_getElem (show k < rs.length by omega)])
      have HRP := Lib.hid (show RangeP (T.length - 1 + 1) (0 :: R1) by rw [hR1]; exact HR'.out.shift)
      clear hR1 hs9 hT9 hop hrp HG8 hrl hx8
      go_wp2_with fail
      go_loopw [7, 9] (fun v i wr => ∃ k : Nat, k ≤ T.length - 1 ∧ i = .int .i64 k ∧ GrowI 2 wc.heap.size wr v (0 :: R1.take k) ∧ v ≠ .slice none 0 0 ∧ At wc.heap.size w9 v ∧ w9.heap.size ≤ wr.heap.size ∧ Touch wc.heap.size (wc.heap.size + 1) w9 wr) (fun _ i _ => T.length - 1 - (intOf i).toNat)
      case atStart => exact ⟨0, Nat.zero_le _, rfl, HG9.out, by simp, .inl rfl, Nat.le_refl _, Touch.of_ext (Ext.refl _)⟩
      case round =>
        clear HG9
        obtain ⟨k, hk, rfl, hg, hv, hat, hsz, hT⟩ := hrel
        have HGK := Lib.hid hg
        have HVK := Lib.hid hv
        have HAT := Lib.hid hat
        have HTK2 := Lib.hid hT
        clear hg hv hat hT
        by_cases hkl : k < T.length - 1
        case pos =>
          have e1 := (HTK2.out).cell (HI.out k (by rw [HRL.out]; exact hkl)) (by simp only []; omega)
          rw [Nat.zero_add] at e1
          have HTA := Lib.hid (show 0 :: (R1.take k ++ [ix rs k + 1]) = 0 :: R1.take (k + 1) by
            rw [List.take_add_one, List.getElem?_eq_getElem (by rw [HR1L.out]; exact hkl), ← HR1X.out k hkl, ix_eq]
            simp [List.getD, List.getElem?_eq_getElem (show k < R1.length by rw [HR1L.out]; exact hkl)])
          have HLK := Lib.hid (show (0 :: R1.take k).length ≤ 1048576 by simp; omega)
          have hix : 0 ≤ ix rs k ∧ ix rs k < 100 := by
            have := (HR'.out.2 (ix rs k)).1 (ix_mem _ _ (by rw [HRL.out]; exact hkl))
            omega
          have HGA := Lib.hid (HGK.out.ext (ext_box wr (.int .i64 (ix rs k + 1)) 2))
          have zb : wr.heap.size + 1 = (wr.alloc (.cells #[.int .i64 (ix rs k + 1)] 2)).heap.size := by simp
          have zb1 : wc.heap.size ≤ (wr.alloc (.cells #[.int .i64 (ix rs k + 1)] 2)).heap.size := by omega
          have HTB := Lib.hid (HTK2.out.trans (Touch.of_ext (ext_box wr (.int .i64 (ix rs k + 1)) 2)))
          have zb2 : w9.heap.size ≤ (wr.alloc (.cells #[.int .i64 (ix rs k + 1)] 2)).heap.size := by omega
          have HZ := Lib.hid (And.intro zb1 zb2)
          clear zb zb1 zb2
          go_wp2_with (at_builtin; refine wpList_append_int_at rfl _ _ 29 2 rfl Tryz.underlying29 infoInt wc.heap.size _ _ rfl HGA.out wr.heap.size (ix rs k + 1) rfl (cell_new _ _ _) HLK.out HZ.out.1 ?_)
          intro v' w' hg' hgr' hv' hat'
          rw [HTA.out] at hg'
          have hnx := HAT.out.next HZ.out.2 hgr' hat' (by omega) HTB.out
          have hsz' : w9.heap.size ≤ w'.heap.size := Nat.le_trans HZ.out.2 hgr'.size
          have HG' := Lib.hid hg'
          have HV' := Lib.hid hv'
          have HN' := Lib.hid hnx
          clear hg' hgr' hv' hat' hnx
          go_wp2
          go_roundw
          case rel => exact ⟨k + 1, by omega, by go_num, HG'.out, HV'.out, HN'.out.1, hsz', HN'.out.2⟩
          case measure => simp [intOf]; omega
        case neg =>
          have hkk : k = T.length - 1 := by omega
          have HTF := Lib.hid (show (0 :: R1.take k) = 0 :: R1 by rw [List.take_of_length_le (by rw [HR1L.out, hkk]; exact Nat.le_refl _)])
          have HGF := Lib.hid (by have := HGK.out; rwa [HTF.out] at this : GrowI 2 wc.heap.size wr _ (0 :: R1))
          have HPM := Lib.hid (show IsoOk T.length [] [] (0 :: R1) by have := HRP.out.perm; rwa [show T.length - 1 + 1 = T.length by omega] at this)
          have HPL := Lib.hid HPM.out.1
          obtain ⟨bg, cg, rfl, hog⟩ := HGF.out.own HVK.out
          have HIP := Lib.hid (hog.2.2.1.ints (by rw [HPL.out]; omega) cg)
          rw [HPL.out] at HIP ⊢
          have HKW := Lib.hid (show ∀ k, k ≠ S → k < wc.heap.size → wr.heap[k]? = wc.heap[k]? from fun k q1 q2 => (HTK2.out.block k (by omega) (by omega)).trans (HKE.out k q1 q2))
          have HR := Lib.hid (HR.out.keep0 (w' := wr) (fun k q1 q2 => HKW.out k (by omega) q2))
          have HU := Lib.hid (HU.out.keep0 (w' := wr) (fun k q1 q2 => HKW.out k (by omega) q2))
          have HBX := Lib.hid (HBX.out.keep (HKW.out w.heap.size (by omega) (by omega)))
          have HBY := Lib.hid (HBY.out.keep (HKW.out (w.heap.size + 1) (by omega) (by omega)))
          have HCX := Lib.hid (HCX.out.keep (HKW.out w2.heap.size (by omega) (by omega)))
          have HX := Lib.hid (HX.out.touch HTK2.out (by omega))
          obtain ⟨P, hP⟩ : ∃ P, P = 0 :: R1 := ⟨_, rfl⟩
          rw [← hP] at HIP HPM
          have HRA := Lib.hid HR.out.rows
          have HRU := Lib.hid HU.out.rows
          have HPT := Lib.hid (show IsoOk T.length [] [] P from HPM.out)
          have HPU := Lib.hid (show IsoOk U.length [] [] P by rw [HUN.out]; exact HPM.out)
          have HLT := Lib.hid (length_imgT T P)
          have HLU := Lib.hid (length_imgT U P)
          clear HTF hkk HGF HGK HVK HAT HTK2 HKW HKE HR' HI HRL HR1L HR1X HRP hP HPL hog hbp hbp2 HPM HS
          have c0 := HCX.out.1
          have c1 := HCX.out.2.1
          have g0 := HBX.out.1
          have g1 := HBX.out.2.1
          have g2 := HBX.out.2.2.1
          have g3 := HBX.out.2.2.2
          have y0 := HBY.out.1
          have y1 := HBY.out.2.1
          have y2 := HBY.out.2.2.1
          have y3 := HBY.out.2.2.2
          have hX : Ext wr wr := Ext.refl wr
          have zd : wr.drew.heap.size = wr.heap.size := rfl
          have zw : w.heap.size + 2 ≤ wr.heap.size := by omega
          go_upto_region 10 with fail
          go_region_with (first
            | (go_at_call 24; refine (l03Image_any T P _ _ _ (HRA.out.ext ((hX.drew).trans hxB)) (HIP.out.ext ((hX.drew).trans hxB)) HTO.out HPT.out).mono ?_; rintro e wA ⟨bA, cA, rfl, hrA, hxA⟩; replace c0 := hxA.cell c0; replace c1 := hxA.cell c1; replace g0 := hxA.cell g0; replace g1 := hxA.cell g1; replace y0 := hxA.cell y0; replace y1 := hxA.cell y1; replace g2 := hxA.free g2 (by simp only []; have := hxB.size; omega); replace g3 := hxA.free g3 (by simp only []; have := hxB.size; omega); replace y2 := hxA.free y2 (by simp only []; have := hxB.size; omega); replace y3 := hxA.free y3 (by simp only []; have := hxB.size; omega))
            | (go_at_call 24; refine (l03Image_any U P _ _ _ (HRU.out.ext ((hX.drew).trans hxA)) (HIP.out.ext ((hX.drew).trans hxA)) HUO.out HPU.out).mono ?_; rintro e wB ⟨bB, cB, rfl, hrB, hxB⟩; replace c0 := hxB.cell c0; replace c1 := hxB.cell c1; replace g0 := hxB.cell g0; replace g1 := hxB.cell g1; replace y0 := hxB.cell y0; replace y1 := hxB.cell y1; replace g2 := hxB.free g2 (by simp only []; have := hxA.size; omega); replace g3 := hxB.free g3 (by simp only []; have := hxA.size; omega); replace y2 := hxB.free y2 (by simp only []; have := hxA.size; omega); replace y3 := hxB.free y3 (by simp only []; have := hxA.size; omega))
            | (go_at_call 24; refine (l03Image_any T P _ _ _ (HRA.out.ext hX.drew) (HIP.out.ext hX.drew) HTO.out HPT.out).mono ?_; rintro e wA ⟨bA, cA, rfl, hrA, hxA⟩; replace c0 := hxA.cell (show wr.drew.cell? _ = some _ from c0); replace c1 := hxA.cell (show wr.drew.cell? _ = some _ from c1); replace g0 := hxA.cell (show wr.drew.cell? _ = some _ from g0); replace g1 := hxA.cell (show wr.drew.cell? _ = some _ from g1); replace y0 := hxA.cell (show wr.drew.cell? _ = some _ from y0); replace y1 := hxA.cell (show wr.drew.cell? _ = some _ from y1); replace g2 := hxA.free (show wr.drew.frozen? _ = false from g2) (by simp only []; omega); replace g3 := hxA.free (show wr.drew.frozen? _ = false from g3) (by simp only []; omega); replace y2 := hxA.free (show wr.drew.frozen? _ = false from y2) (by simp only []; omega); replace y3 := hxA.free (show wr.drew.frozen? _ = false from y3) (by simp only []; omega))
            | (go_at_call 24; refine (l03Image_any U P _ _ _ (HRU.out.ext hX.drew) (HIP.out.ext hX.drew) HUO.out HPU.out).mono ?_; rintro e wB ⟨bB, cB, rfl, hrB, hxB⟩; replace c0 := hxB.cell (show wr.drew.cell? _ = some _ from c0); replace c1 := hxB.cell (show wr.drew.cell? _ = some _ from c1); replace g0 := hxB.cell (show wr.drew.cell? _ = some _ from g0); replace g1 := hxB.cell (show wr.drew.cell? _ = some _ from g1); replace y0 := hxB.cell (show wr.drew.cell? _ = some _ from y0); replace y1 := hxB.cell (show wr.drew.cell? _ = some _ from y1); replace g2 := hxB.free (show wr.drew.frozen? _ = false from g2) (by simp only []; omega); replace g3 := hxB.free (show wr.drew.frozen? _ = false from g3) (by simp only []; omega); replace y2 := hxB.free (show wr.drew.frozen? _ = false from y2) (by simp only []; omega); replace y3 := hxB.free (show wr.drew.frozen? _ = false from y3) (by simp only []; omega)))
          all_goals
            have zA := hxA.size
            have zB := hxB.size
            have HKA := Lib.hid (imgT_ok HTO.out HPT.out)
            have HKB := Lib.hid (imgT_ok HUO.out HPU.out)
            first
              | (have HXX := Lib.hid ((hX.drew.trans hxA).trans hxB)
                 have HIA := Lib.hid (((hrA.rowsP HKA.out.small cA).ext hxB).weaken (O' := fun k => w.heap.size + 2 ≤ k) (fun k hk => by omega))
                 have HIB := Lib.hid ((hrB.rowsP HKB.out.small cB).weaken (O' := fun k => w.heap.size + 2 ≤ k) (fun k hk => by omega)))
              | (have HXX := Lib.hid ((hX.drew.trans hxB).trans hxA)
                 have HIA := Lib.hid ((hrA.rowsP HKA.out.small cA).weaken (O' := fun k => w.heap.size + 2 ≤ k) (fun k hk => by omega))
                 have HIB := Lib.hid (((hrB.rowsP HKB.out.small cB).ext hxA).weaken (O' := fun k => w.heap.size + 2 ≤ k) (fun k hk => by omega)))
            have HR := Lib.hid ((HR.out.ext HXX.out).weaken (O' := fun k => w.heap.size + 2 ≤ k) (fun k hk => by omega))
            have HU := Lib.hid ((HU.out.ext HXX.out).weaken (O' := fun k => w.heap.size + 2 ≤ k) (fun k hk => by omega))
            have HX := Lib.hid (HX.out.trans HXX.out)
            go_wp2
            exact bodyPost_ret (v := .tuple #[.agg #[.slice (some ⟨b, o, none⟩) T.length c, .slice (some ⟨yb, yo, none⟩) U.length yc], .agg #[.slice (some ⟨bA, 0, none⟩) (imgT T P).length cA, .slice (some ⟨bB, 0, none⟩) (imgT U P).length cB]]) (by simp [results, Tryz.results5, go_sem, g0, g1, y0, y1]) rfl (drawnBB_end HR.out HU.out HIA.out HIB.out (fun k hk => hk) l0 l1 l2 (by rw [HLT.out]; exact l0) (by rw [HLT.out]; exact l1) (by rw [HLU.out]; exact l2) HX.out)
end Go.Proofs.YthlafeefjonkdaaGreatDoor


namespace Go.Proofs.YthlafeefjonkdaaGreatDoor
set_option linter.unusedVariables false
set_option linter.unusedSimpArgs false

def splitL (b : UInt8) : List UInt8 → List (List UInt8)
  | [] => [[]]
  | c :: r => if c = b then [] :: splitL b r else match splitL b r with
    | h :: t => (c :: h) :: t
    | [] => [[c]]

theorem splitL_ne (b : UInt8) (l : List UInt8) : splitL b l ≠ [] := by
  cases l with
  | nil => simp [splitL]
  | cons c r =>
    unfold splitL
    split
    · simp
    · split <;> simp

theorem splitL_hit (b : UInt8) (r : List UInt8) : splitL b (b :: r) = [] :: splitL b r := by rw [splitL, if_pos rfl]

theorem splitL_miss {b c : UInt8} (h : c ≠ b) (r : List UInt8) : ∃ x t, splitL b r = x :: t ∧ splitL b (c :: r) = (c :: x) :: t := by
  obtain ⟨x, t, e⟩ := List.exists_cons_of_ne_nil (splitL_ne b r)
  refine ⟨x, t, e, ?_⟩
  rw [splitL, if_neg h, e]

theorem splitL_step (b c : UInt8) : ∀ (p : List UInt8) (out : List (List UInt8)) (q : List UInt8), splitL b p = out ++ [q] → splitL b (p ++ [c]) = if c = b then out ++ [q] ++ [[]] else out ++ [q ++ [c]] := by
  intro p
  induction p with
  | nil =>
    intro out q h
    rw [splitL] at h
    cases out with
    | nil =>
      simp only [List.nil_append, List.cons.injEq, and_true] at h
      subst h
      rw [List.nil_append]
      by_cases e : c = b
      · rw [if_pos e, e, splitL_hit, splitL]; rfl
      · rw [if_neg e]
        obtain ⟨x, t, e1, e2⟩ := splitL_miss e []
        rw [splitL] at e1
        simp only [List.cons.injEq] at e1
        obtain ⟨rfl, rfl⟩ := e1
        rw [e2]; rfl
    | cons a s =>
      exfalso
      have := congrArg List.length h
      simp at this
  | cons d r ih =>
    intro out q h
    rw [List.cons_append]
    by_cases hd : d = b
    · subst hd
      rw [splitL_hit] at h ⊢
      cases out with
      | nil =>
        exfalso
        have h1 := congrArg List.length h
        simp at h1
        exact splitL_ne d r h1
      | cons a s =>
        simp only [List.cons_append, List.cons.injEq] at h
        obtain ⟨rfl, h⟩ := h
        rw [ih s q h]
        split <;> rfl
    · obtain ⟨x, t, e1, e2⟩ := splitL_miss hd r
      obtain ⟨x2, t2, e3, e4⟩ := splitL_miss hd (r ++ [c])
      rw [e2] at h
      rw [e4]
      cases out with
      | nil =>
        simp only [List.nil_append, List.cons.injEq] at h
        obtain ⟨rfl, rfl⟩ := h
        have := ih [] x e1
        rw [e3] at this
        by_cases e : c = b
        · rw [if_pos e] at this ⊢
          simpa using this
        · rw [if_neg e] at this ⊢
          simp only [List.nil_append, List.cons.injEq] at this ⊢
          exact ⟨by rw [this.1]; rfl, this.2⟩
      | cons a s =>
        simp only [List.cons_append, List.cons.injEq] at h
        obtain ⟨rfl, rfl⟩ := h
        have := ih (x :: s) q (by rw [e1]; rfl)
        rw [e3] at this
        by_cases e : c = b
        · rw [if_pos e] at this ⊢
          simpa using this
        · rw [if_neg e] at this ⊢
          simpa using this

theorem splitL_none {b : UInt8} : ∀ {l : List UInt8}, b ∉ l → splitL b l = [l] := by
  intro l
  induction l with
  | nil => intro _; rfl
  | cons c r ih =>
    intro h
    have h1 : c ≠ b := fun e => h (by rw [e]; exact List.mem_cons_self)
    obtain ⟨x, t, e1, e2⟩ := splitL_miss h1 r
    rw [ih (fun e => h (List.mem_cons_of_mem _ e))] at e1
    simp only [List.cons.injEq] at e1
    obtain ⟨rfl, rfl⟩ := e1
    exact e2

theorem splitL_cut {b : UInt8} : ∀ {p : List UInt8} (_ : b ∉ p) (r : List UInt8), splitL b (p ++ b :: r) = p :: splitL b r := by
  intro p
  induction p with
  | nil => intro _ r; rw [List.nil_append, splitL_hit]
  | cons c q ih =>
    intro h r
    have h1 : c ≠ b := fun e => h (by rw [e]; exact List.mem_cons_self)
    rw [List.cons_append]
    obtain ⟨x, t, e1, e2⟩ := splitL_miss h1 (q ++ b :: r)
    rw [ih (fun e => h (List.mem_cons_of_mem _ e))] at e1
    simp only [List.cons.injEq] at e1
    obtain ⟨rfl, rfl⟩ := e1
    exact e2

theorem splitL_mem {b c : UInt8} (hc : c ≠ b) : ∀ {l : List UInt8}, c ∈ l → ∃ p, p ∈ splitL b l ∧ c ∈ p := by
  intro l
  induction l with
  | nil => intro h; cases h
  | cons d r ih =>
    intro h
    by_cases hd : d = b
    · subst hd
      rw [splitL_hit]
      rcases List.mem_cons.1 h with e | e
      · exact absurd e hc
      · obtain ⟨p, h1, h2⟩ := ih e
        exact ⟨p, List.mem_cons_of_mem _ h1, h2⟩
    · obtain ⟨x, t, e1, e2⟩ := splitL_miss hd r
      rw [e2]
      rcases List.mem_cons.1 h with e | e
      · exact ⟨d :: x, List.mem_cons_self, by rw [e]; exact List.mem_cons_self⟩
      · obtain ⟨p, h1, h2⟩ := ih e
        rw [e1] at h1
        rcases List.mem_cons.1 h1 with e3 | e3
        · exact ⟨d :: x, List.mem_cons_self, by rw [e3] at h2; exact List.mem_cons_of_mem _ h2⟩
        · exact ⟨p, List.mem_cons_of_mem _ e3, h2⟩

theorem splitL_length (b : UInt8) (l : List UInt8) : ((splitL b l).map List.length).sum + (splitL b l).length = l.length + 1 := by
  induction l with
  | nil => rfl
  | cons c r ih =>
    by_cases e : c = b
    · subst e
      rw [splitL_hit]
      simp only [List.map_cons, List.sum_cons, List.length_cons, List.length_nil] at ih ⊢
      omega
    · obtain ⟨x, t, e1, e2⟩ := splitL_miss e r
      rw [e2]
      rw [e1] at ih
      simp only [List.map_cons, List.sum_cons, List.length_cons] at ih ⊢
      omega

@[irreducible] def digV (c : UInt8) : Int := if 48 ≤ c.toNat ∧ c.toNat ≤ 57 then (c.toNat : Int) - 48 else if 97 ≤ c.toNat ∧ c.toNat ≤ 98 then (c.toNat : Int) - 97 + 10 else -1
@[irreducible] def goodL (l : List UInt8) : Bool := l.all fun c => decide (0 ≤ digV c)
@[irreducible] def digsL (l : List UInt8) : List Int := l.map digV
theorem goodL_nil : goodL [] = true := by unfold goodL; rfl
theorem goodL_snoc (l : List UInt8) (c : UInt8) : goodL (l ++ [c]) = (goodL l && decide (0 ≤ digV c)) := by unfold goodL; simp
theorem digsL_nil : digsL [] = [] := by unfold digsL; rfl
theorem digsL_snoc (l : List UInt8) (c : UInt8) : digsL (l ++ [c]) = digsL l ++ [digV c] := by unfold digsL; simp
theorem length_digsL (l : List UInt8) : (digsL l).length = l.length := by unfold digsL; simp
theorem goodL_mem {l : List UInt8} (h : goodL l = true) {c : UInt8} (hc : c ∈ l) : 0 ≤ digV c := by
  unfold goodL at h
  rw [List.all_eq_true] at h
  simpa using h c hc
theorem digV_no {c : UInt8} (h : c = 47 ∨ c = 124) : digV c = -1 := by
  rcases h with rfl | rfl <;> (unfold digV; decide)

@[irreducible] def tabL (l : List UInt8) : List (List Int) := (splitL 47 l).map digsL
@[irreducible] def readB (l : List UInt8) : Bool := (splitL 47 l).all goodL && tableB (tabL l)

theorem readB_bar {l : List UInt8} (h : (124 : UInt8) ∈ l) : readB l = false := by
  obtain ⟨p, h1, h2⟩ := splitL_mem (b := 47) (by decide) h
  unfold readB
  rw [Bool.and_eq_false_iff]
  left
  rw [List.all_eq_false]
  refine ⟨p, h1, fun e => ?_⟩
  have := goodL_mem e h2
  rw [digV_no (.inr rfl)] at this
  omega

theorem readB_nil : readB [] = false := by
  unfold readB tabL
  rw [Bool.and_eq_false_iff]
  right
  rw [tableB_no]
  intro h
  have h1 := h.len (x := 0) (by simp [splitL])
  rw [row_eq] at h1
  simp [splitL, digsL_nil] at h1

theorem readB_long {l : List UInt8} (h : 156 < l.length) : readB l = false := by
  rw [← Bool.not_eq_true]
  intro e
  unfold readB at e
  rw [Bool.and_eq_true, tableB_iff] at e
  have hT := e.2
  have hl : (tabL l).length = (splitL 47 l).length := by unfold tabL; simp
  have h12 := hT.2.1
  have hs := splitL_length 47 l
  have key : ((splitL 47 l).map List.length).sum ≤ (splitL 47 l).length * 12 := by
    have hb : ∀ p, p ∈ splitL 47 l → p.length ≤ 12 := by
      intro p hp
      obtain ⟨i, hi, rfl⟩ := List.getElem_of_mem hp
      have h2 := hT.len (x := i) (by rw [hl]; exact hi)
      have h3 : row (tabL l) i = digsL ((splitL 47 l)[i]) := by
        rw [row_eq]; unfold tabL; simp [List.getD, hi]
      rw [h3, length_digsL] at h2
      omega
    generalize splitL 47 l = s at hb
    induction s with
    | nil => simp
    | cons a s ih =>
      have i1 := ih (fun p hp => hb p (List.mem_cons_of_mem _ hp))
      have i2 := hb a List.mem_cons_self
      simp only [List.map_cons, List.sum_cons, List.length_cons] at i1 ⊢
      omega
  rw [hl] at h12
  omega

@[irreducible] noncomputable def okPB (l : List UInt8) : Bool := match splitL 124 l with
  | [a, c] => readB a && readB c && braceB (tabL a) (tabL c)
  | _ => false

theorem okP_two {l a c : List UInt8} (h : splitL 124 l = [a, c]) : okPB l = (readB a && readB c && braceB (tabL a) (tabL c)) := by unfold okPB; rw [h]

theorem okP_no {l : List UInt8} (h : (splitL 124 l).length ≠ 2) : okPB l = false := by
  unfold okPB
  split
  · rename_i e
    rw [e] at h
    exact absurd rfl h
  · rfl

theorem splitL_two {b : UInt8} {l : List UInt8} (h : b ∈ l) : 2 ≤ (splitL b l).length := by
  induction l with
  | nil => cases h
  | cons c r ih =>
    by_cases e : c = b
    · subst e
      rw [splitL_hit, List.length_cons]
      have := List.length_pos_iff.2 (splitL_ne c r)
      omega
    · obtain ⟨x, t, e1, e2⟩ := splitL_miss e r
      rw [e2, List.length_cons]
      have h2 : b ∈ r := by
        rcases List.mem_cons.1 h with e3 | e3
        · exact absurd e3.symm e
        · exact e3
      have := ih h2
      rw [e1, List.length_cons] at this
      exact this

theorem okP_hit {p : List UInt8} (hp : (124 : UInt8) ∉ p) (r : List UInt8) : okPB (p ++ 124 :: r) = (readB p && readB r && braceB (tabL p) (tabL r)) := by
  by_cases hr : (124 : UInt8) ∈ r
  · rw [readB_bar hr, Bool.and_false, Bool.false_and]
    refine okP_no ?_
    rw [splitL_cut hp, List.length_cons]
    have := splitL_two hr
    omega
  · exact okP_two (by rw [splitL_cut hp, splitL_none hr])

theorem okP_none {l : List UInt8} (h : (124 : UInt8) ∉ l) : okPB l = (readB l && readB [] && braceB (tabL l) (tabL [])) := by
  rw [readB_nil, Bool.and_false, Bool.false_and]
  exact okP_no (by rw [splitL_none h]; simp)
end Go.Proofs.YthlafeefjonkdaaGreatDoor
