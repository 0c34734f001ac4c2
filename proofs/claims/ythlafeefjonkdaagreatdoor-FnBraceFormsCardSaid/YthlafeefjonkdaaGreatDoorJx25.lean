/-
  The source of the draws: l01From, l01Next.
-/
import Derived.Laws.Bits64
import Derived.Test.YthlafeefjonkdaaGreatDoorJx22
namespace Go.Proofs.YthlafeefjonkdaaGreatDoor
set_option linter.unusedVariables false
set_option linter.unusedSimpArgs false
open Go.RowKit

def BytesR (w : World) (v : Value) (bs : List Int) : Prop := ∃ a c, v = .slice a bs.length c ∧ (∀ i, i < bs.length → 0 ≤ ix bs i ∧ ix bs i ≤ 255) ∧ (bs ≠ [] → ∃ b o, a = some ⟨b, o, none⟩ ∧ ∀ i, i < bs.length → w.cell? ⟨b, o + i, none⟩ = some (.int .u8 (ix bs i)))
theorem BytesR.ext {w w' : World} {v : Value} {bs : List Int} (h : BytesR w v bs) (hx : Ext w w') : BytesR w' v bs := by
  obtain ⟨a, c, rfl, h0, h⟩ := h
  refine ⟨a, c, rfl, h0, fun hl => ?_⟩
  obtain ⟨b, o, rfl, hc⟩ := h hl
  exact ⟨b, o, rfl, fun i hi => hx.cell (hc i hi)⟩
def Src (S : Nat) (w : World) : Prop := ∃ (a : Option Addr) (L c i : Nat) (h : Int), L ≤ 4096 ∧ i ≤ L ∧ 0 ≤ h ∧ h < 18446744073709551616 ∧
  w.cell? ⟨S, 0, none⟩ = some (.slice a L c) ∧ w.cell? ⟨S, 1, none⟩ = some (.int .i64 i) ∧ w.cell? ⟨S, 2, none⟩ = some (.int .u64 h) ∧ w.frozen? ⟨S, 1, none⟩ = false ∧ w.frozen? ⟨S, 2, none⟩ = false ∧
  (0 < L → ∃ b o, a = some ⟨b, o, none⟩ ∧ b < S ∧ ∀ j, j < L → ∃ x : Int, 0 ≤ x ∧ x ≤ 255 ∧ w.cell? ⟨b, o + j, none⟩ = some (.int .u8 x))
theorem Src.lt {S : Nat} {w : World} (h : Src S w) : S < w.heap.size := by
  obtain ⟨a, L, c, i, h, -, -, -, -, h0, -⟩ := h
  exact World.block_lt_of_cell? _ _ h0
theorem Src.ext {S : Nat} {w w' : World} (h : Src S w) (hx : Ext w w') : Src S w' := by
  have hl := h.lt
  obtain ⟨a, L, c, i, h, k1, k2, k3, k4, c0, c1, c2, f1, f2, hb⟩ := h
  refine ⟨a, L, c, i, h, k1, k2, k3, k4, hx.cell c0, hx.cell c1, hx.cell c2, hx.free f1 hl, hx.free f2 hl, fun h0 => ?_⟩
  obtain ⟨b, o, rfl, hne, hc⟩ := hb h0
  exact ⟨b, o, rfl, hne, fun j hj => by obtain ⟨x, x1, x2, x3⟩ := hc j hj; exact ⟨x, x1, x2, hx.cell x3⟩⟩

theorem Touch.set (w : World) (S k : Nat) (v : Value) : Touch S (S + 1) w (w.setCell ⟨S, k, none⟩ v) := Touch.of_marked ((Marked.refl _ _ _).setCell (p := ⟨S, k, none⟩) (Nat.le_refl _) (Nat.lt_succ_self _) v)
theorem u64_bd (n : Int) : 0 ≤ IntKind.u64.wrap n ∧ IntKind.u64.wrap n < 18446744073709551616 := by rw [IntKind.wrap_u64]; omega
theorem hash_bd {h : Int} (h0 : 0 ≤ h) (h1 : h < 18446744073709551616) : 0 ≤ wrap64 (bits BinOp.and IntKind.u64 (h / 8589934592) 16777215) ∧ wrap64 (bits BinOp.and IntKind.u64 (h / 8589934592) 16777215) < 16777216 := by
  obtain ⟨a, ha⟩ := Int.eq_ofNat_of_zero_le (a := h / 8589934592) (by omega)
  have hlt : a < 2 ^ 31 := by
    have : (a : Int) < 2147483648 := by omega
    omega
  have e := (bits_nat .u64 31 (by decide) (fun n h0 h1 => by rw [IntKind.wrap_u64]; omega) a 16777215 hlt (by decide)).1
  have hle : a &&& 16777215 ≤ 16777215 := Nat.and_le_right
  rw [ha, show (16777215 : Int) = ((16777215 : Nat) : Int) from rfl]
  rw [show ((a : Nat) : Int) = Int.ofNat a from rfl] at e
  have e' : bits BinOp.and IntKind.u64 (Int.ofNat a) ((16777215 : Nat) : Int) = ((a &&& 16777215 : Nat) : Int) := e
  first | rw [e'] | rw [show bits BinOp.and IntKind.u64 ((a : Nat) : Int) ((16777215 : Nat) : Int) = ((a &&& 16777215 : Nat) : Int) from e]
  unfold wrap64
  omega
theorem Src.touch2 {S lo hi : Nat} {w w' : World} (h : Src S w) (m : Touch lo hi w w') (hd : S < lo) : Src S w' := by
  have hl := h.lt
  obtain ⟨a, L, c, i, h, k1, k2, k3, k4, c0, c1, c2, f1, f2, hb⟩ := h
  have hS := m.block S hl (by omega)
  refine ⟨a, L, c, i, h, k1, k2, k3, k4, m.cell c0 (.inl hd), m.cell c1 (.inl hd), m.cell c2 (.inl hd), by rw [World.frozen?_of_block (w := w) (a := ⟨S, 1, none⟩) hS]; exact f1, by rw [World.frozen?_of_block (w := w) (a := ⟨S, 2, none⟩) hS]; exact f2, fun h0 => ?_⟩
  obtain ⟨b, o, rfl, hlb, hc⟩ := hb h0
  exact ⟨b, o, rfl, hlb, fun j hj => by obtain ⟨x, x1, x2, x3⟩ := hc j hj; exact ⟨x, x1, x2, m.cell x3 (.inl (by simp only []; omega))⟩⟩
def NumPost (S : Nat) (n : Int) (w : World) (e : Ending) (w' : World) : Prop :=
  ∃ r : Int, e = .returned (.int .i64 r) ∧ 0 ≤ r ∧ (1 ≤ n → r < n) ∧ (n < 1 → r = 0) ∧ Src S w' ∧ Touch S (S + 1) w w'

set_option maxRecDepth 100000 in
set_option maxHeartbeats 1000000 in
theorem l01Next_any (S : Nat) (n : Int) (w : World) (hs : Src S w) :
    Calls Tryz.prog 22 #[.pointer (some ⟨S, 0, none⟩), .int .i64 n] w (NumPost S n w) := by
  obtain ⟨a, L, c, i, h, k1, k2, k3, k4, c0, c1, c2, f1, f2, hb⟩ := id hs
  have HS := Lib.hid hs
  clear hs
  go_enter Tryz.func22, Tryz.ntmps22
  by_cases hn : n < 1
  case pos =>
    go_wp2
    go_ret
    exact ⟨0, rfl, Int.le_refl _, fun h => by omega, fun _ => rfl, HS.out, Touch.of_ext (Ext.refl _)⟩
  case neg =>
    go_wp2
    obtain ⟨H, hH⟩ : ∃ H, H = IntKind.u64.wrap (IntKind.u64.wrap (h * 6364136223846793005) + 1442695040888963407) := ⟨_, rfl⟩
    rw [← hH]
    have hHb : 0 ≤ H ∧ H < 18446744073709551616 := by rw [hH]; exact u64_bd _
    clear hH
    obtain ⟨X, hX⟩ : ∃ X, X = wrap64 (bits BinOp.and IntKind.u64 (H / 8589934592) 16777215) := ⟨_, rfl⟩
    rw [← hX]
    have hXb : 0 ≤ X ∧ X < 16777216 := by rw [hX]; exact hash_bd hHb.1 hHb.2
    clear hX
    obtain ⟨w1, hw1⟩ : ∃ w1, w1 = w.setCell ⟨S, 2, none⟩ (.int .u64 H) := ⟨_, rfl⟩
    rw [← hw1]
    have d0 : w1.cell? ⟨S, 0, none⟩ = some (.slice a L c) := by rw [hw1]; exact (World.cell?_setCell_other _ _ _ _ (by simp)).trans c0
    have d1 : w1.cell? ⟨S, 1, none⟩ = some (.int .i64 i) := by rw [hw1]; exact (World.cell?_setCell_other _ _ _ _ (by simp)).trans c1
    have d2 : w1.cell? ⟨S, 2, none⟩ = some (.int .u64 H) := by rw [hw1]; exact kc_same c2
    have e1 : w1.frozen? ⟨S, 1, none⟩ = false := by rw [hw1]; exact kf_set f1
    have e2 : w1.frozen? ⟨S, 2, none⟩ = false := by rw [hw1]; exact kf_set f2
    have hT : Touch S (S + 1) w w1 := by rw [hw1]; exact Touch.set _ _ _ _
    have hB : 0 < L → ∃ b o, a = some ⟨b, o, none⟩ ∧ b < S ∧ ∀ j, j < L → ∃ x : Int, 0 ≤ x ∧ x ≤ 255 ∧ w1.cell? ⟨b, o + j, none⟩ = some (.int .u8 x) := fun h0 => by
      obtain ⟨b, o, rfl, hlb, hc⟩ := hb h0
      have hne := Nat.ne_of_lt hlb
      refine ⟨b, o, rfl, hlb, fun j hj => ?_⟩
      obtain ⟨x, x1, x2, x3⟩ := hc j hj
      exact ⟨x, x1, x2, by rw [hw1, World.cell?_setCell_other _ _ _ _ (by first | exact fun h => hne (congrArg Addr.block h) | exact fun h => hne (congrArg Addr.block h).symm)]; exact x3⟩
    have HB := Lib.hid hB
    have HT := Lib.hid hT
    clear hw1 hb hB hT c0 c1 c2 f1 f2 HS
    by_cases hi : i < L
    case neg =>
      go_quiet (fail)
      go_wp2
      go_ret
      have hr := Int.emod_nonneg X (b := n) (by omega)
      have hr2 := Int.emod_lt_of_pos X (b := n) (by omega)
      refine ⟨X % n, rfl, hr, fun _ => hr2, fun h => by omega, ?_, HT.out.trans (Touch.of_ext (by (repeat first | (with_reducible exact Ext.refl _) | (with_reducible assumption) | (with_reducible apply Ext.drew) | (with_reducible apply kx_drewN) | (with_reducible apply kx_alloc) | ((with_reducible refine kx_set ?_ ?_); (first | (simp only []; omega) | (simp; omega) | (focus (simp; done)))) )))⟩
      exact Src.ext (w := w1) ⟨a, L, c, i, H, k1, k2, hHb.1, hHb.2, d0, d1, d2, e1, e2, HB.out⟩ (by (repeat first | (with_reducible exact Ext.refl _) | (with_reducible assumption) | (with_reducible apply Ext.drew) | (with_reducible apply kx_drewN) | (with_reducible apply kx_alloc) | ((with_reducible refine kx_set ?_ ?_); (first | (simp only []; omega) | (simp; omega) | (focus (simp; done)))) ))
    case pos =>
      obtain ⟨b, o, rfl, hne, hc⟩ := HB.out (by omega)
      obtain ⟨x, x1, x2, x3⟩ := hc i hi
      clear hc
      go_quiet (fail)
      go_wp2
      go_quiet (fail)
      go_wp2
      go_ret
      have hr := Int.emod_nonneg (X + x) (b := n) (by omega)
      have hr2 := Int.emod_lt_of_pos (X + x) (b := n) (by omega)
      refine ⟨(X + x) % n, rfl, hr, fun _ => hr2, fun h => by omega, ?_, HT.out.trans ?_⟩
      · obtain ⟨b', o', e', hne', hc'⟩ := HB.out (by omega)
        exact ⟨some ⟨b, o, none⟩, L, c, i + 1, H, k1, by omega, hHb.1, hHb.2, kc_set2 (by simp) (kc_drewN d0), kc_same (kc_drewN d1), kc_set2 (by simp) (kc_drewN d2), kf_set e1, kf_set e2, fun _ => ⟨b', o', e', hne', fun j hj => by
          obtain ⟨y, y1, y2, y3⟩ := hc' j hj
          exact ⟨y, y1, y2, kc_set (Nat.ne_of_lt hne') (kc_drewN y3)⟩⟩⟩
      · exact (Touch.of_ext (by (repeat first | (with_reducible exact Ext.refl _) | (with_reducible assumption) | (with_reducible apply Ext.drew) | (with_reducible apply kx_drewN) | (with_reducible apply kx_alloc) | ((with_reducible refine kx_set ?_ ?_); (first | (simp only []; omega) | (simp; omega) | (focus (simp; done)))) ))).trans (Touch.set _ _ _ _)
def FromPost (w : World) (e : Ending) (w' : World) : Prop := ∃ S, e = .returned (.pointer (some ⟨S, 0, none⟩)) ∧ w.heap.size ≤ S ∧ Src S w' ∧ Ext w w'

set_option maxRecDepth 100000 in
set_option maxHeartbeats 1000000 in
theorem l01From_any (bs : List Int) (v : Value) (w : World) (hv : BytesR w v bs) (hl : bs.length ≤ 4096) :
    Calls Tryz.prog 19 #[v] w (FromPost w) := by
  obtain ⟨a, c, rfl, hb, hc⟩ := hv
  have HB := Lib.hid hb
  have HC := Lib.hid hc
  clear hb hc
  go_enter Tryz.func19, Tryz.ntmps19
  go_wp2
  have hx0 : Ext w (w.alloc (.cells #[.slice a bs.length c, .int .i64 0, .int .u64 (6553 + bs.length)] 74)) := (Ext.refl _).alloc _
  have g0 : (w.alloc (.cells #[.slice a bs.length c, .int .i64 0, .int .u64 (6553 + bs.length)] 74)).cell? ⟨w.heap.size, 0, none⟩ = some (.slice a bs.length c) := by simp [go_sem]
  have g1 : (w.alloc (.cells #[.slice a bs.length c, .int .i64 0, .int .u64 (6553 + bs.length)] 74)).cell? ⟨w.heap.size, 1, none⟩ = some (.int .i64 0) := by simp [go_sem]
  have g2 : (w.alloc (.cells #[.slice a bs.length c, .int .i64 0, .int .u64 (6553 + bs.length)] 74)).cell? ⟨w.heap.size, 2, none⟩ = some (.int .u64 (6553 + bs.length)) := by simp [go_sem]
  have q1 : (w.alloc (.cells #[.slice a bs.length c, .int .i64 0, .int .u64 (6553 + bs.length)] 74)).frozen? ⟨w.heap.size, 1, none⟩ = false := by simp [go_sem]
  have q2 : (w.alloc (.cells #[.slice a bs.length c, .int .i64 0, .int .u64 (6553 + bs.length)] 74)).frozen? ⟨w.heap.size, 2, none⟩ = false := by simp [go_sem]
  go_loopw [4] (fun i wr => ∃ (m : Nat) (h : Int), m ≤ bs.length ∧ i = .int .i64 m ∧ 0 ≤ h ∧ h < 18446744073709551616 ∧ wr.cell? ⟨w.heap.size, 0, none⟩ = some (.slice a bs.length c) ∧ wr.cell? ⟨w.heap.size, 1, none⟩ = some (.int .i64 0) ∧ wr.cell? ⟨w.heap.size, 2, none⟩ = some (.int .u64 h) ∧ wr.frozen? ⟨w.heap.size, 1, none⟩ = false ∧ wr.frozen? ⟨w.heap.size, 2, none⟩ = false ∧ Ext w wr) (fun i _ => bs.length - (intOf i).toNat)
  case atStart => exact ⟨0, 6553 + bs.length, Nat.zero_le _, rfl, by omega, by omega, g0, g1, g2, q1, q2, hx0⟩
  case round =>
    clear hx0 g0 g1 g2 q1 q2
    obtain ⟨m, h, hm, rfl, h0, h1, c0, c1, c2, f1, f2, hx⟩ := hrel
    by_cases hlt : m < bs.length
    case neg =>
      have hlt' : ¬ (m : Int) < (bs.length : Int) := by omega
      go_wp2
      go_ret
      refine ⟨w.heap.size, rfl, Nat.le_refl _, ⟨a, bs.length, c, 0, h, hl, Nat.zero_le _, h0, h1, c0, c1, c2, f1, f2, fun hp => ?_⟩, hx⟩
      obtain ⟨b, o, rfl, hcc⟩ := HC.out (ne_nil_of_lt hp)
      refine ⟨b, o, rfl, ?_, fun j hj => ⟨ix bs j, (HB.out j hj).1, (HB.out j hj).2, hx.cell (hcc j hj)⟩⟩
      have := World.block_lt_of_cell? _ _ (hcc 0 hp)
      simp only [] at this
      omega
    case pos =>
      obtain ⟨b, o, rfl, hcc⟩ := HC.out (ne_nil_of_lt hlt)
      have e1 := hcc m hlt
      have hbl := World.block_lt_of_cell? _ _ e1
      simp only [] at hbl
      have e2 := hx.cell e1
      have hbd := HB.out m hlt
      clear hcc e1
      have h4 : (m : Int) < 4096 := by omega
      go_wp2
      go_region
      all_goals
        go_wp2
        go_roundw
        case rel =>
          exact ⟨m + 1, _, by omega, by go_num, (u64_bd _).1, (u64_bd _).2, kc_drew (kc_set2 (by simp) c0), kc_drew (kc_set2 (by simp) c1), kc_drew (kc_same c2), kf_drew (kf_set f1), kf_drew (kf_set f2), (hx.setNew (Nat.le_refl _) _).drew⟩
        case measure => simp [intOf]; omega
end Go.Proofs.YthlafeefjonkdaaGreatDoor


namespace Go.Proofs.YthlafeefjonkdaaGreatDoor
set_option linter.unusedVariables false
set_option linter.unusedSimpArgs false

structure ImgTo (t : List (List Int)) (p : List Int) (x y : Nat) (T : List (List Int)) : Prop where
  len : T.length = t.length
  rows : ∀ i, i < t.length → (row T i).length = t.length
  at_ : ∀ a b, a < t.length → b < t.length → (a < x ∨ (a = x ∧ b < y)) → ent T (ix p a).toNat (ix p b).toNat = ix p (ent t a b).toNat
theorem ImgTo.start {t : List (List Int)} (h : TableOk t) (p : List Int) : ImgTo t p 0 0 t := ⟨rfl, fun i hi => h.len hi, fun a b _ _ h => by omega⟩
theorem ImgTo.step {t T : List (List Int)} {p : List Int} {x y : Nat} (h : ImgTo t p x y T) (hp : IsoOk t.length [] [] p) (hx : x < t.length) (hy : y < t.length) : ImgTo t p x (y + 1) (setE T (ix p x).toNat (ix p y).toNat (ix p (ent t x y).toNat)) := by
  have b1 := (hp.bd hx).2
  have b2 := (hp.bd hy).2
  have hT : (ix p x).toNat < T.length := by rw [h.len]; exact b1
  refine ⟨by rw [length_setE]; exact h.len, fun i hi => by rw [length_row_setE _ _ _ _ _ hT]; exact h.rows i hi, fun a b ha hb hab => ?_⟩
  by_cases e : a = x ∧ b = y
  · obtain ⟨rfl, rfl⟩ := e
    exact ent_setE_same _ _ _ _ hT (by rw [h.rows _ b1]; exact b2)
  · have c1 := hp.bd ha
    have c2 := hp.bd hb
    have d1 := hp.bd hx
    have d2 := hp.bd hy
    rw [ent_setE_other _ _ _ _ _ _ hT ?_]
    · exact h.at_ a b ha hb (by omega)
    · by_cases e1 : a = x
      · right; intro e2; exact e ⟨e1, hp.inj hb hy (by omega)⟩
      · left; intro e2; exact e1 (hp.inj ha hx (by omega))
theorem ImgTo.next {t T : List (List Int)} {p : List Int} {x : Nat} (h : ImgTo t p x t.length T) : ImgTo t p (x + 1) 0 T := ⟨h.len, h.rows, fun a b ha hb hab => h.at_ a b ha hb (by omega)⟩
theorem table_ext {n : Nat} {S T : List (List Int)} (h1 : S.length = n) (h2 : T.length = n) (h3 : ∀ i, i < n → (row S i).length = n) (h4 : ∀ i, i < n → (row T i).length = n) (h : ∀ i j, i < n → j < n → ent S i j = ent T i j) : S = T :=
  row_ext (by omega) fun i hi => ix_ext (by rw [h3 i (by omega), h4 i (by omega)]) fun j hj => by
    rw [h3 i (by omega)] at hj
    rw [ent_def, ent_def]; exact h i j (by omega) hj
theorem length_imgT (t : List (List Int)) (p : List Int) : (imgT t p).length = t.length := length_mkT _ _
theorem row_imgT (t : List (List Int)) (p : List Int) {i : Nat} (h : i < t.length) : (row (imgT t p) i).length = t.length := by unfold imgT; rw [row_mkT _ _ _ h, length_partRow]
theorem ent_imgT (t : List (List Int)) (p : List Int) {i j : Nat} (h : i < t.length) (hj : j < t.length) : ent (imgT t p) i j = imgE t p i j := ent_mkT _ _ _ _ h hj
theorem ImgTo.done {t T : List (List Int)} {p : List Int} (h : ImgTo t p t.length 0 T) (hp : IsoOk t.length [] [] p) : T = imgT t p := by
  refine table_ext h.len (length_imgT _ _) h.rows (fun i hi => row_imgT _ _ hi) fun i j hi hj => ?_
  rw [ent_imgT _ _ hi hj]
  obtain ⟨a, ha, e1⟩ := hp.surj hi
  obtain ⟨b, hb, e2⟩ := hp.surj hj
  have := h.at_ a b ha hb (by omega)
  have h2 := imgE_at hp ha hb
  rw [e1, e2, Int.toNat_natCast, Int.toNat_natCast] at this h2
  rw [this, h2]
theorem imgT_ok {t : List (List Int)} {p : List Int} (h : TableOk t) (hp : IsoOk t.length [] [] p) : TableOk (imgT t p) := by
  refine ⟨by rw [length_imgT]; exact h.1, by rw [length_imgT]; exact h.2.1, fun i hi => ?_⟩
  rw [length_imgT] at hi ⊢
  refine ⟨row_imgT _ _ hi, fun j hj => ?_⟩
  rw [ent_imgT _ _ hi hj]
  obtain ⟨a, ha, e1⟩ := hp.surj hi
  obtain ⟨b, hb, e2⟩ := hp.surj hj
  have h2 := imgE_at hp ha hb
  rw [e1, e2, Int.toNat_natCast, Int.toNat_natCast] at h2
  rw [h2]
  have := h.bd ha hb
  have := hp.bd (x := (ent t a b).toNat) (by omega)
  omega
end Go.Proofs.YthlafeefjonkdaaGreatDoor


namespace Go.Proofs.YthlafeefjonkdaaGreatDoor
set_option linter.unusedVariables false
set_option linter.unusedSimpArgs false
open Go.RowKit
attribute [local go_sem ↓] Go.wp_at_zero Go.wp_at_succ
open Go.Deep

def RangeP (n : Nat) (l : List Int) : Prop := l.length = n ∧ ∀ z : Int, z ∈ l ↔ 0 ≤ z ∧ z < n
theorem RangeP.zero : RangeP 0 [] := ⟨rfl, fun z => by simp⟩
theorem RangeP.insert {n k : Nat} {l : List Int} (h : RangeP n l) : RangeP (n + 1) (l.take k ++ ((n : Int) :: l.drop k)) := by
  have hl := h.1
  refine ⟨?_, fun z => ?_⟩
  · rw [List.length_append, List.length_cons, List.length_take, List.length_drop]; omega
  · rw [List.mem_append, List.mem_cons]
    have := h.2 z
    rw [← List.take_append_drop k l, List.mem_append] at this
    constructor
    · rintro (e | e | e)
      · have := this.1 (.inl e); omega
      · omega
      · have := this.1 (.inr e); omega
    · intro hz
      by_cases e : z = (n : Int)
      · exact .inr (.inl e)
      · rcases this.2 ⟨hz.1, by omega⟩ with g | g
        · exact .inl g
        · exact .inr (.inr g)
theorem RangeP.perm {n : Nat} {l : List Int} (h : RangeP n l) : IsoOk n [] [] l := by
  refine isoOk_plain.2 ⟨h.1, (permOk_iff_has l).2 fun y hy => ?_⟩
  have : (y : Int) ∈ l := (h.2 y).2 ⟨by omega, by have := h.1; omega⟩
  rcases indexOf_spec l y with ⟨e, hn⟩ | ⟨i, hi, e, _⟩
  · obtain ⟨i, hi, e2⟩ := mem_ix this
    exact absurd e2 (hn i hi)
  · omega

theorem IntsAt.drop {w : World} {b : Nat} {l : List Int} (h : IntsAt w b 0 l) (m : Nat) : IntsAt w b m (l.drop m) := fun i hi => by
  rw [List.length_drop] at hi
  have := h (m + i) (by omega)
  rw [Nat.zero_add] at this
  rw [this, ix_eq, ix_eq]
  simp [List.getD, List.getElem?_drop]
theorem IntsAt.take {w : World} {b : Nat} {l : List Int} (h : IntsAt w b 0 l) (m : Nat) : IntsAt w b 0 (l.take m) := fun i hi => by
  rw [List.length_take] at hi
  have := h i (by omega)
  rw [this, ix_eq, ix_eq]
  simp [List.getD, List.getElem?_take, show i < m by omega]
theorem GrowI.litN {e : TypeId} {base n : Nat} {w : World} (hn : w.heap.size = n) (hb : base ≤ n) : GrowI e base (w.alloc (.cells #[] e)) (.slice (some ⟨n, 0, none⟩) 0 0) [] := by
  subst hn
  exact GrowI.lit hb
theorem GrowI.base {e : TypeId} {base b2 : Nat} {w : World} {v : Value} {l : List Int} (h : GrowI e base w v l) (hb : b2 ≤ base) : GrowI e b2 w v l := ownsRow_base h hb
def PermPost (S n : Nat) (w : World) (e : Ending) (w' : World) : Prop :=
  ∃ p b c, e = .returned (.slice (some ⟨b, 0, none⟩) n c) ∧ RangeP n p ∧ OwnI w.heap.size w'.heap.size w' b 0 p ∧ Src S w' ∧ Touch S (S + 1) w w'

theorem GrowI.touch {e : TypeId} {base lo hi : Nat} {w w' : World} {v : Value} {l : List Int} (h : GrowI e base w v l) (m : Touch lo hi w w') (hb : hi ≤ base) : GrowI e base w' v l :=
  ownsRow_block h (fun g hg => by have := h.lt hg; exact m.block g this.2 (by omega))

set_option maxRecDepth 100000 in
set_option maxHeartbeats 1000000 in
theorem l03DrawPerm_any (S n : Nat) (w : World) (hs : Src S w) (h12 : n ≤ 12) :
    Calls Tryz.prog 23 #[.pointer (some ⟨S, 0, none⟩), .int .i64 n] w (PermPost S n w) := by
  have hlt := hs.lt
  have HS := Lib.hid hs
  clear hs
  go_enter Tryz.func23, Tryz.ntmps23
  go_wp2_with fail
  have hx0 : Ext w (w.alloc (.cells #[] 2)) := (Ext.refl _).alloc _
  have hg0 := GrowI.lit (e := 2) (base := w.heap.size) (w := w) (Nat.le_refl _)
  go_loopw [5, 6] (fun v x wr => ∃ (k : Nat) (l : List Int), k ≤ n ∧ x = .int .i64 k ∧ RangeP k l ∧ GrowI 2 w.heap.size wr v l ∧ v ≠ .slice none 0 0 ∧ Src S wr ∧ Touch S (S + 1) w wr) (fun _ x _ => n - (intOf x).toNat)
  case atStart => exact ⟨0, [], Nat.zero_le _, rfl, RangeP.zero, hg0, by simp, HS.out.ext hx0, Touch.of_ext hx0⟩
  case round =>
    clear hx0 hg0
    obtain ⟨k, l, hk, rfl, hr, hg, hv, hs, hT⟩ := hrel
    have HR := Lib.hid hr
    have HG := Lib.hid hg
    have HV := Lib.hid hv
    have HS := Lib.hid hs
    have HT := Lib.hid hT
    clear hr hg hv hs hT
    by_cases hkl : k < n
    case neg =>
      have hkn : k = n := by omega
      subst hkn
      obtain ⟨bq, cq, rfl, hoq⟩ := HG.out.own HV.out
      have HLL := Lib.hid HR.out.1
      rw [HLL.out]
      go_wp2_with fail
      go_ret
      exact ⟨l, bq, cq, rfl, HR.out, hoq, HS.out, HT.out⟩
    case pos =>
      go_wp2_with fail
      refine (l01Next_any S _ _ HS.out).mono ?_
      rintro e w1 ⟨r, rfl, r1, r2, -, hs1, hT1⟩
      obtain ⟨m, rfl⟩ := Int.eq_ofNat_of_zero_le r1
      have hmk : m ≤ k := by have := r2 (by omega); omega
      clear r1 r2
      have z1 := HT.out.size
      have z2 := hT1.size
      have HG1 := Lib.hid (HG.out.touch hT1 (by omega))
      have HS1 := Lib.hid hs1
      have HT1 := Lib.hid (HT.out.trans hT1)
      clear hs1 hT1
      obtain ⟨g, cap, rfl, hoo⟩ := HG1.out.own HV.out
      have hll := HR.out.1
      have HLL := Lib.hid hll
      have hcap : l.length ≤ cap := by have := HG1.out; exact GrowI.room this
      have HI := Lib.hid hoo.2.2.1
      have hgl := hoo.1
      have hgh := hoo.2.1
      clear hoo
      rw [hll] at hcap ⊢
      clear hll
      -- the ways
      have HRR := HR.out.insert (k := m)
      have HRR := Lib.hid HRR
      by_cases hk0 : k = 0
      case pos =>
        subst hk0
        have hm0 : m = 0 := by omega
        subst hm0
        obtain rfl : l = [] := List.eq_nil_of_length_eq_zero HLL.out
        have HIN := Lib.hid (show RangeP (0 + 1) ([(0 : Int)]) from HRR.out)
        have HX0 := Lib.hid (show Ext w1 ((w1.alloc (.cells #[.int .i64 0] 2)).alloc (.cells #[] 2)) from ((Ext.refl w1).alloc _).alloc _)
        have HG0 := Lib.hid (GrowI.litN (e := 2) (base := w1.heap.size) (w := w1.alloc (.cells #[.int .i64 0] 2)) (n := w1.heap.size + 1) (by simp) (by omega))
        have HI0 := Lib.hid (show IntsAt ((w1.alloc (.cells #[.int .i64 0] 2)).alloc (.cells #[] 2)) w1.heap.size 0 [(0 : Int)] from fun j hj => by (have : j = 0 := by simpa using hj); subst this; simp [go_sem, ix_eq])
        go_wp2_with ((at_builtin; (refine wpList_append_ints rfl _ _ 29 2 rfl Tryz.underlying29 infoInt w1.heap.size (.slice (some ⟨w1.heap.size + 1, 0, none⟩) 0 0) [] rfl HG0.out w1.heap.size 0 1 [(0 : Int)] rfl HI0.out (by simp) (by simp) (by first | omega | (simp; done) | (simp; omega)) ?_)))
        intro v4 w4 hg4 hgr4 hn4
        have HVF := Lib.hid (show v4 ≠ .slice none 0 0 from by first | exact fun e => hn4 e | exact fun e => by have := (hn4.1 e).1; simp at this)
        have HGF := Lib.hid (GrowI.base hg4 (b2 := w.heap.size) (by omega))
        have HXF := Lib.hid (Ext.grown HX0.out hgr4 HG0.out (Nat.le_refl _))
        clear hg4 hgr4 hn4
        go_wp2_with fail
        go_roundw
        case rel => exact ⟨_, _, by omega, by go_num, HIN.out, HGF.out, HVF.out, HS1.out.ext HXF.out, HT1.out.trans (Touch.of_ext HXF.out)⟩
        case measure => simp [intOf]; omega
      case neg =>
        by_cases hm0 : m = 0
        case pos =>
          subst hm0
          have HIN := Lib.hid (show RangeP (k + 1) ((k : Int) :: l) from HRR.out)
          have HG1 := Lib.hid (show GrowI 2 w1.heap.size (w1.alloc (.cells #[.int .i64 (k : Int)] 2)) (.slice (some ⟨w1.heap.size, 0, none⟩) 1 1) [(k : Int)] from GrowI.one (Nat.le_refl _))
          have HX1 := Lib.hid (show Ext w1 (w1.alloc (.cells #[.int .i64 (k : Int)] 2)) from (Ext.refl w1).alloc _)
          go_wp2_with ((at_builtin; (refine wpList_append_ints rfl _ _ 29 2 rfl Tryz.underlying29 infoInt w1.heap.size (.slice (some ⟨w1.heap.size, 0, none⟩) 1 1) [(k : Int)] rfl HG1.out g 0 cap l (by rw [HLL.out] <;> rfl) (HI.out.ext HX1.out) (by have := HLL.out; first | omega | (simp; done) | (simp; omega)) (by have := HLL.out; first | omega | (simp; done) | (simp; omega)) (by first | omega | (simp; done) | (simp; omega)) ?_)))
          intro v2 w2 hg2 hgr2 hn2
          have hv2 := (show v2 ≠ .slice none 0 0 from by first | exact fun e => hn2 e | exact fun e => by have := (hn2.1 e).1; simp at this)
          have HX2 := Lib.hid (Ext.grown HX1.out hgr2 (GrowI.one (Nat.le_refl _)) (Nat.le_refl _))
          obtain ⟨g2, c2, rfl, ho2⟩ := hg2.own hv2
          have HI2 := Lib.hid ho2.2.2.1
          have z3 := HX2.out.size
          clear hg2 hgr2 hn2 hv2 ho2
          have HG2 := Lib.hid (show GrowI 2 w2.heap.size (w2.alloc (.cells #[] 2)) (.slice (some ⟨w2.heap.size, 0, none⟩) 0 0) [] from GrowI.lit (Nat.le_refl _))
          have HXL := Lib.hid (show Ext w2 (w2.alloc (.cells #[] 2)) from (Ext.refl w2).alloc _)
          go_wp2_with ((at_builtin; (refine wpList_append_ints rfl _ _ 29 2 rfl Tryz.underlying29 infoInt w2.heap.size (.slice (some ⟨w2.heap.size, 0, none⟩) 0 0) [] rfl HG2.out g2 0 c2 ([(k : Int)] ++ l) rfl (HI2.out.ext HXL.out) (by have := HLL.out; first | omega | (simp; done) | (simp; omega)) (by have := HLL.out; first | omega | (simp; done) | (simp; omega)) (by first | omega | (simp; done) | (simp; omega)) ?_)))
          intro v4 w4 hg4 hgr4 hn4
          have HVF := Lib.hid (show v4 ≠ .slice none 0 0 from by first | exact fun e => hn4 e | exact fun e => by have := (hn4.1 e).1; simp at this)
          have HGF := Lib.hid (GrowI.base hg4 (b2 := w.heap.size) (by omega))
          have HXF := Lib.hid (HX2.out.trans (Ext.grown HXL.out hgr4 (GrowI.lit (e := 2) (Nat.le_refl _)) (Nat.le_refl _)))
          clear hg4 hgr4 hn4
          go_wp2_with fail
          go_roundw
          case rel => exact ⟨_, _, by omega, by go_num, HIN.out, HGF.out, HVF.out, HS1.out.ext HXF.out, HT1.out.trans (Touch.of_ext HXF.out)⟩
          case measure => simp [intOf]; omega
        case neg =>
          by_cases hmk : m = k
          case pos =>
            subst hmk
            have hdr : l.drop m = [] := List.drop_of_length_le (by rw [HLL.out]; exact Nat.le_refl _)
            have hta : l.take m = l := List.take_of_length_le (by rw [HLL.out]; exact Nat.le_refl _)
            have HIN := Lib.hid (by have := HRR.out; rwa [hdr, hta] at this : RangeP (m + 1) (l ++ [(m : Int)]))
            clear hdr hta
            have HX0 := Lib.hid (show Ext w1 ((w1.alloc (.cells #[.int .i64 m] 2)).alloc (.cells #[] 2)) from ((Ext.refl w1).alloc _).alloc _)
            have HG0 := Lib.hid (GrowI.litN (e := 2) (base := w1.heap.size) (w := w1.alloc (.cells #[.int .i64 m] 2)) (n := w1.heap.size + 1) (by simp) (by omega))
            have HI0 := Lib.hid (show IntsAt ((w1.alloc (.cells #[.int .i64 m] 2)).alloc (.cells #[] 2)) w1.heap.size 0 [(m : Int)] from fun j hj => by (have : j = 0 := by simpa using hj); subst this; simp [go_sem, ix_eq])
            have HG1' := Lib.hid (GrowI.litN (e := 2) (base := w1.heap.size + 1) (w := w1.alloc (.cells #[.int .i64 m] 2)) (n := w1.heap.size + 1) (by simp) (by omega))
            by_cases hmc : m = cap
            case pos =>
              subst hmc
              go_wp2_with ((at_builtin; (refine wpList_append_ints rfl _ _ 29 2 rfl Tryz.underlying29 infoInt (w1.heap.size + 1) (.slice (some ⟨w1.heap.size + 1, 0, none⟩) 0 0) [] rfl HG1'.out g 0 m l (by rw [HLL.out] <;> rfl) (HI.out.ext HX0.out) (by have := HLL.out; first | omega | (simp; done) | (simp; omega)) (by have := HLL.out; first | omega | (simp; done) | (simp; omega)) (by first | omega | (simp; done) | (simp; omega)) ?_)))
              intro v3 w3 hg3 hgr3 hn3
              have hv3 := (show v3 ≠ .slice none 0 0 from by first | exact fun e => hn3 e | exact fun e => by have := (hn3.1 e).1; simp at this)
              have HX3 := Lib.hid (Ext.grown HX0.out hgr3 HG1'.out (by omega))
              have HI3 := Lib.hid (show IntsAt w3 w1.heap.size 0 [(m : Int)] from intsAt_grown HI0.out hgr3 (fun _ e => by have e : w1.heap.size = w1.heap.size + 1 := Option.some.inj e; omega))
              have HGR3 := Lib.hid hg3
              have z3 := HX3.out.size
              have z4 : w1.heap.size + 1 < w3.heap.size := by have := hgr3.size; simp at this; omega
              clear hg3 hgr3 hn3
              go_wp2_with ((at_builtin; (refine wpList_append_ints rfl _ _ 29 2 rfl Tryz.underlying29 infoInt (w1.heap.size + 1) v3 ([] ++ l) rfl HGR3.out w1.heap.size 0 1 [(m : Int)] rfl HI3.out (by have := HLL.out; first | omega | (simp; done) | (simp; omega)) (by have := HLL.out; first | omega | (simp; done) | (simp; omega)) (by first | omega | (simp; done) | (simp; omega)) ?_)))
              intro v4 w4 hg4 hgr4 hn4
              have HVF := Lib.hid (show v4 ≠ .slice none 0 0 from by first | exact fun e => hv3 (hn4.1 e).1 | exact fun e => hn4 e)
              have HGF := Lib.hid (GrowI.base hg4 (b2 := w.heap.size) (by omega))
              have HXF := Lib.hid (Ext.grown HX3.out hgr4 HGR3.out (by omega))
              clear hg4 hgr4 hn4
              go_wp2_with fail
              go_roundw
              case rel => exact ⟨_, _, by omega, by go_num, HIN.out, HGF.out, HVF.out, HS1.out.ext HXF.out, HT1.out.trans (Touch.of_ext HXF.out)⟩
              case measure => simp [intOf]; omega
            case neg =>
              go_wp2_with ((at_builtin; (refine wpList_append_ints rfl _ _ 29 2 rfl Tryz.underlying29 infoInt (w1.heap.size + 1) (.slice (some ⟨w1.heap.size + 1, 0, none⟩) 0 0) [] rfl HG1'.out g 0 cap l (by rw [HLL.out] <;> rfl) (HI.out.ext HX0.out) (by have := HLL.out; first | omega | (simp; done) | (simp; omega)) (by have := HLL.out; first | omega | (simp; done) | (simp; omega)) (by first | omega | (simp; done) | (simp; omega)) ?_)))
              intro v3 w3 hg3 hgr3 hn3
              have hv3 := (show v3 ≠ .slice none 0 0 from by first | exact fun e => hn3 e | exact fun e => by have := (hn3.1 e).1; simp at this)
              have HX3 := Lib.hid (Ext.grown HX0.out hgr3 HG1'.out (by omega))
              have HI3 := Lib.hid (show IntsAt w3 w1.heap.size 0 [(m : Int)] from intsAt_grown HI0.out hgr3 (fun _ e => by have e : w1.heap.size = w1.heap.size + 1 := Option.some.inj e; omega))
              have HGR3 := Lib.hid hg3
              have z3 := HX3.out.size
              have z4 : w1.heap.size + 1 < w3.heap.size := by have := hgr3.size; simp at this; omega
              clear hg3 hgr3 hn3
              go_wp2_with ((at_builtin; (refine wpList_append_ints rfl _ _ 29 2 rfl Tryz.underlying29 infoInt (w1.heap.size + 1) v3 ([] ++ l) rfl HGR3.out w1.heap.size 0 1 [(m : Int)] rfl HI3.out (by have := HLL.out; first | omega | (simp; done) | (simp; omega)) (by have := HLL.out; first | omega | (simp; done) | (simp; omega)) (by first | omega | (simp; done) | (simp; omega)) ?_)))
              intro v4 w4 hg4 hgr4 hn4
              have HVF := Lib.hid (show v4 ≠ .slice none 0 0 from by first | exact fun e => hv3 (hn4.1 e).1 | exact fun e => hn4 e)
              have HGF := Lib.hid (GrowI.base hg4 (b2 := w.heap.size) (by omega))
              have HXF := Lib.hid (Ext.grown HX3.out hgr4 HGR3.out (by omega))
              clear hg4 hgr4 hn4
              go_wp2_with fail
              go_roundw
              case rel => exact ⟨_, _, by omega, by go_num, HIN.out, HGF.out, HVF.out, HS1.out.ext HXF.out, HT1.out.trans (Touch.of_ext HXF.out)⟩
              case measure => simp [intOf]; omega
          case neg =>
            have hmk2 : m < k := by omega
            have hmcap : ¬ m = cap := by omega
            have HG1 := Lib.hid (show GrowI 2 w1.heap.size (w1.alloc (.cells #[.int .i64 (k : Int)] 2)) (.slice (some ⟨w1.heap.size, 0, none⟩) 1 1) [(k : Int)] from GrowI.one (Nat.le_refl _))
            have HX1 := Lib.hid (show Ext w1 (w1.alloc (.cells #[.int .i64 (k : Int)] 2)) from (Ext.refl w1).alloc _)
            go_wp2_with ((at_builtin; (refine wpList_append_ints rfl _ _ 29 2 rfl Tryz.underlying29 infoInt w1.heap.size (.slice (some ⟨w1.heap.size, 0, none⟩) 1 1) [(k : Int)] rfl HG1.out g m (cap - m) (l.drop m) (by rw [List.length_drop, HLL.out] <;> rfl) ((HI.out.drop m).ext HX1.out) (by have := HLL.out; first | omega | (simp; done) | (simp; omega)) (by have := HLL.out; first | omega | (simp; done) | (simp; omega)) (by first | omega | (simp; done) | (simp; omega)) ?_)))
            intro v2 w2 hg2 hgr2 hn2
            have hv2 := (show v2 ≠ .slice none 0 0 from by first | exact fun e => hn2 e | exact fun e => by have := (hn2.1 e).1; simp at this)
            have HX2 := Lib.hid (Ext.grown HX1.out hgr2 (GrowI.one (Nat.le_refl _)) (Nat.le_refl _))
            have HL2 := Lib.hid (show ((k : Int) :: l.drop m).length = k - m + 1 by simp [HLL.out] <;> omega)
            obtain ⟨g2, c2, hv2e, ho2⟩ := hg2.own hv2
            rw [HL2.out] at hv2e
            subst hv2e
            have HI2 := Lib.hid ho2.2.2.1
            have hg2l := ho2.2.1
            have z3 := HX2.out.size
            have HLT := Lib.hid (show (l.take m).length = m by rw [List.length_take, HLL.out]; omega)
            clear hg2 hgr2 hn2 hv2 ho2
            have HG2 := Lib.hid (show GrowI 2 w2.heap.size (w2.alloc (.cells #[] 2)) (.slice (some ⟨w2.heap.size, 0, none⟩) 0 0) [] from GrowI.lit (Nat.le_refl _))
            have HXL := Lib.hid (show Ext w2 (w2.alloc (.cells #[] 2)) from (Ext.refl w2).alloc _)
            go_wp2_with ((at_builtin; (refine wpList_append_ints rfl _ _ 29 2 rfl Tryz.underlying29 infoInt w2.heap.size (.slice (some ⟨w2.heap.size, 0, none⟩) 0 0) [] rfl HG2.out g 0 cap (l.take m) (by rw [HLT.out] <;> rfl) ((HI.out.take m).ext (HX2.out.trans HXL.out)) (by have := HLL.out; have := HLT.out; first | omega | (simp; done) | (simp; omega)) (by have := HLL.out; have := HLT.out; first | omega | (simp; done) | (simp; omega)) (by first | omega | (simp; done) | (simp; omega)) ?_)))
            intro v3 w3 hg3 hgr3 hn3
            have hv3 := (show v3 ≠ .slice none 0 0 from by first | exact fun e => hn3 e | exact fun e => by have := (hn3.1 e).1; simp at this)
            have HX3 := Lib.hid (Ext.grown HXL.out hgr3 (GrowI.lit (e := 2) (Nat.le_refl _)) (Nat.le_refl _))
            have HGR3 := Lib.hid hg3
            have z4 := HX3.out.size
            clear hg3 hgr3 hn3
            go_wp2_with ((at_builtin; (refine wpList_append_ints rfl _ _ 29 2 rfl Tryz.underlying29 infoInt w2.heap.size v3 ([] ++ l.take m) rfl HGR3.out g2 0 c2 ((k : Int) :: l.drop m) (by rw [HL2.out] <;> rfl) (HI2.out.ext HX3.out) (by have := HLL.out; first | omega | (simp; done) | (simp; omega)) (by have := HLL.out; first | omega | (simp; done) | (simp; omega)) (by first | omega | (simp; done) | (simp; omega)) ?_)))
            intro v4 w4 hg4 hgr4 hn4
            have HVF := Lib.hid (show v4 ≠ .slice none 0 0 from by first | exact fun e => hv3 (hn4.1 e).1 | exact fun e => hn4 e)
            have HGF := Lib.hid (GrowI.base hg4 (b2 := w.heap.size) (by omega))
            have HXF := Lib.hid (HX2.out.trans (Ext.grown HX3.out hgr4 HGR3.out (by omega)))
            have HIN := HRR
            clear hg4 hgr4 hn4
            go_wp2_with fail
            go_roundw
            case rel => exact ⟨_, _, by omega, by go_num, HIN.out, HGF.out, HVF.out, HS1.out.ext HXF.out, HT1.out.trans (Touch.of_ext HXF.out)⟩
            case measure => simp [intOf]; omega
end Go.Proofs.YthlafeefjonkdaaGreatDoor


namespace Go.Proofs.YthlafeefjonkdaaGreatDoor
set_option linter.unusedVariables false
set_option linter.unusedSimpArgs false
open Go.RowKit

set_option maxRecDepth 100000 in
theorem l10Cyclic_own (n : Nat) (w : World) (h1 : 1 ≤ n) (h2 : n ≤ 12) :
    Calls Tryz.prog 92 #[.int .i64 n] w (NewT (mkT n (cycF n)) w) := by
  have hlt := length_mkT n (cycF n)
  have HLT := Lib.hid hlt
  clear hlt
  go_enter Tryz.func92, Tryz.ntmps92
  go_wp2
  have hx0 : Ext w (w.alloc (.cells #[] 29)) := (Ext.refl _).alloc _
  have hg0 := MineT.lit (lo := w.heap.size) (w := w) (Nat.le_refl _)
  go_loopw [3, 4] (fun v x wr => ∃ k : Nat, k ≤ n ∧ x = .int .i64 k ∧ MineT w.heap.size NoO wr v ((mkT n (cycF n)).take k) ∧ v ≠ .slice none 0 0 ∧ Ext w wr) (fun _ x _ => n - (intOf x).toNat)
  case atStart => exact ⟨0, Nat.zero_le _, rfl, hg0, by simp, hx0⟩
  case round =>
    clear hx0 hg0
    obtain ⟨k, hk, rfl, hg, hv, hx⟩ := hrel
    have HV := Lib.hid hv
    clear hv
    by_cases hkl : k < n
    case neg =>
      have : (mkT n (cycF n)).take k = mkT n (cycF n) := List.take_of_length_le (by rw [HLT.out]; omega)
      rw [this] at hg
      obtain ⟨bq, cq, rfl, hoq⟩ := hg.newT HV.out
      go_wp2
      go_ret
      exact ⟨bq, cq, rfl, hoq, hx⟩
    case pos =>
      go_wp2
      obtain ⟨w2, rfl⟩ : ∃ w2 : World, w2 = wr := ⟨_, rfl⟩
      have hxa : Ext w2 (w2.alloc (.cells #[] 2)) := (Ext.refl _).alloc _
      have hi0 := GrowI.lit (e := 2) (base := w2.heap.size) (w := w2) (Nat.le_refl _)
      have hrl : (row (mkT n (cycF n)) k).length = n := by rw [row_mkT _ _ _ hkl, length_partRow]
      have HRL := Lib.hid hrl
      have hout := hg.lt
      have HO := Lib.hid hout
      clear hrl hout
      go_loopw [5, 6] (fun v y wr => ∃ j : Nat, j ≤ n ∧ y = .int .i64 j ∧ GrowI 2 w2.heap.size wr v ((row (mkT n (cycF n)) k).take j) ∧ v ≠ .slice none 0 0 ∧ Ext w2 wr) (fun _ y _ => n - (intOf y).toNat)
      case atStart => exact ⟨0, Nat.zero_le _, rfl, hi0, by simp, hxa⟩
      case round =>
        clear hxa hi0
        obtain ⟨j, hj, rfl, hi, hvr, hx2⟩ := hrel
        have HVR := Lib.hid hvr
        clear hvr
        by_cases hjl : j < n
        case neg =>
          have hta : (row (mkT n (cycF n)) k).take j = row (mkT n (cycF n)) k := List.take_of_length_le (by rw [HRL.out]; omega)
          rw [hta] at hi
          obtain ⟨br, cr, rfl, hoi⟩ := hi.own HVR.out
          have htl : ((mkT n (cycF n)).take k).length = k := by rw [List.length_take, HLT.out]; omega
          have HTL := Lib.hid htl
          go_wp2_with (at_builtin; refine wpList_append_row_mine rfl _ _ 24 rfl Tryz.underlying24 infoSl w.heap.size _ _ rfl hg (hx2.trans (ext_box _ _ _)) _ br cr _ rfl (cell_new _ _ _) (OwnI.alloc1 hoi) (by rw [HTL.out]; omega) (by have := hx.size; omega) ?_)
          intro v' w3 hg3 hgr hv3 hat3
          have hx3 : Ext w w3 := (hx.trans (hx2.trans (ext_box _ _ _))).grownOwn hgr (fun g e => (HO.out g e).1)
          clear hgr hat3
          go_wp2
          go_roundw
          case rel => exact ⟨k + 1, by omega, by go_num, by rw [take_row _ _ (by rw [HLT.out]; exact hkl)]; exact hg3, hv3, hx3⟩
          case measure => simp [intOf]; omega
        case pos =>
          have hlj : ((row (mkT n (cycF n)) k).take j).length = j := by rw [List.length_take, HRL.out]; omega
          have HLJ := Lib.hid hlj
          clear hlj
          have hmod := Int.emod_nonneg ((k : Int) + (j : Int)) (b := (n : Int)) (by omega)
          go_wp2_with (at_builtin; refine wpList_append_int rfl _ _ 29 2 rfl Tryz.underlying29 infoInt w2.heap.size _ _ rfl (hi.alloc _) _ _ rfl (cell_new _ _ _) (by rw [HLJ.out]; omega) (by have := hx2.size; simp; omega) ?_)
          intro v' w3 hi3 hgr hv3
          have hx3 : Ext w2 w3 := (hx2.trans (ext_box _ _ _)).grown hgr (hi.alloc _) (Nat.le_refl _)
          clear hgr
          go_wp2
          go_roundw
          case rel => exact ⟨j + 1, by omega, by go_num, by
            rw [take_ix _ _ (by rw [HRL.out]; exact hjl), row_mkT _ _ _ hkl, ix_partRow _ _ _ _ _ hjl, if_pos hjl]
            rw [row_mkT _ _ _ hkl, ← cycF_def n k j] at hi3
            exact hi3, hv3, hx3⟩
          case measure => simp [intOf]; omega
end Go.Proofs.YthlafeefjonkdaaGreatDoor


namespace Go.Proofs.YthlafeefjonkdaaGreatDoor
set_option linter.unusedVariables false
set_option linter.unusedSimpArgs false
open Go.RowKit

set_option maxRecDepth 100000 in
set_option maxHeartbeats 1000000 in
theorem l10Double_own (n s : Nat) (w : World) (h1 : 1 ≤ n) (h2 : n ≤ 12) (h3 : s ≤ 12) :
    Calls Tryz.prog 93 #[.int .i64 n, .int .i64 s] w (NewT (mkT (2 * n) (dblF n s)) w) := by
  have hlt := length_mkT (2 * n) (dblF n s)
  have HLT := Lib.hid hlt
  clear hlt
  go_enter Tryz.func93, Tryz.ntmps93
  go_wp2
  have hx0 : Ext w (w.alloc (.cells #[] 29)) := (Ext.refl _).alloc _
  have hg0 := MineT.lit (lo := w.heap.size) (w := w) (Nat.le_refl _)
  go_loopw [5, 6] (fun v x wr => ∃ k : Nat, k ≤ 2 * n ∧ x = .int .i64 k ∧ MineT w.heap.size NoO wr v ((mkT (2 * n) (dblF n s)).take k) ∧ v ≠ .slice none 0 0 ∧ Ext w wr) (fun _ x _ => 2 * n - (intOf x).toNat)
  case atStart => exact ⟨0, Nat.zero_le _, rfl, hg0, by simp, hx0⟩
  case round =>
    clear hx0 hg0
    obtain ⟨k, hk, rfl, hg, hv, hx⟩ := hrel
    have HV := Lib.hid hv
    clear hv
    by_cases hkl : k < 2 * n
    case neg =>
      have : (mkT (2 * n) (dblF n s)).take k = mkT (2 * n) (dblF n s) := List.take_of_length_le (by rw [HLT.out]; omega)
      rw [this] at hg
      obtain ⟨bq, cq, rfl, hoq⟩ := hg.newT HV.out
      go_wp2
      go_ret
      exact ⟨bq, cq, rfl, hoq, hx⟩
    case pos =>
      have hkI : (k : Int) < 2 * (n : Int) := by omega
      go_wp2
      obtain ⟨w2, rfl⟩ : ∃ w2 : World, w2 = wr := ⟨_, rfl⟩
      have hxa : Ext w2 (w2.alloc (.cells #[] 2)) := (Ext.refl _).alloc _
      have hi0 := GrowI.lit (e := 2) (base := w2.heap.size) (w := w2) (Nat.le_refl _)
      have hrl : (row (mkT (2 * n) (dblF n s)) k).length = 2 * n := by rw [row_mkT _ _ _ hkl, length_partRow]
      have HRL := Lib.hid hrl
      have hout := hg.lt
      have HO := Lib.hid hout
      clear hrl hout
      go_loopw [7, 8] (fun v y wr => ∃ j : Nat, j ≤ 2 * n ∧ y = .int .i64 j ∧ GrowI 2 w2.heap.size wr v ((row (mkT (2 * n) (dblF n s)) k).take j) ∧ v ≠ .slice none 0 0 ∧ Ext w2 wr) (fun _ y _ => 2 * n - (intOf y).toNat)
      case atStart => exact ⟨0, Nat.zero_le _, rfl, hi0, by simp, hxa⟩
      case round =>
        clear hxa hi0
        obtain ⟨j, hj, rfl, hi, hvr, hx2⟩ := hrel
        have HVR := Lib.hid hvr
        clear hvr
        by_cases hjl : j < 2 * n
        case neg =>
          have hta : (row (mkT (2 * n) (dblF n s)) k).take j = row (mkT (2 * n) (dblF n s)) k := List.take_of_length_le (by rw [HRL.out]; omega)
          rw [hta] at hi
          obtain ⟨br, cr, rfl, hoi⟩ := hi.own HVR.out
          have htl : ((mkT (2 * n) (dblF n s)).take k).length = k := by rw [List.length_take, HLT.out]; omega
          have HTL := Lib.hid htl
          go_wp2_with (at_builtin; refine wpList_append_row_mine rfl _ _ 24 rfl Tryz.underlying24 infoSl w.heap.size _ _ rfl hg (hx2.trans (ext_box _ _ _)) _ br cr _ rfl (cell_new _ _ _) (OwnI.alloc1 hoi) (by rw [HTL.out]; omega) (by have := hx.size; omega) ?_)
          intro v' w3 hg3 hgr hv3 hat3
          have hx3 : Ext w w3 := (hx.trans (hx2.trans (ext_box _ _ _))).grownOwn hgr (fun g e => (HO.out g e).1)
          clear hgr hat3
          go_wp2
          go_roundw
          case rel => exact ⟨k + 1, by omega, by go_num, by rw [take_row _ _ (by rw [HLT.out]; exact hkl)]; exact hg3, hv3, hx3⟩
          case measure => simp [intOf]; omega
        case pos =>
          have hlj : ((row (mkT (2 * n) (dblF n s)) k).take j).length = j := by rw [List.length_take, HRL.out]; omega
          have HLJ := Lib.hid hlj
          clear hlj
          have hk0 := Int.emod_nonneg (k : Int) (b := (n : Int)) (by omega)
          have hk1 := Int.emod_lt_of_pos (k : Int) (b := (n : Int)) (by omega)
          have hj0 := Int.emod_nonneg (j : Int) (b := (n : Int)) (by omega)
          have hj1 := Int.emod_lt_of_pos (j : Int) (b := (n : Int)) (by omega)
          have p0 := Int.emod_nonneg ((k : Int) + (j : Int)) (b := (n : Int)) (by omega)
          have p1 := Int.emod_lt_of_pos ((k : Int) + (j : Int)) (b := (n : Int)) (by omega)
          have q0 := Int.emod_nonneg ((k : Int) - (j : Int)) (b := (n : Int)) (by omega)
          have q1 := Int.emod_lt_of_pos ((k : Int) - (j : Int)) (b := (n : Int)) (by omega)
          have hjI : (j : Int) < 2 * (n : Int) := by omega
          go_wp2
          go_quiet (fail)
          obtain ⟨w4, hw4⟩ : ∃ w4 : World, w4 = wr.drewN nq := ⟨_, rfl⟩
          have hx4 : Ext w2 w4 := by rw [hw4]; exact hx2.drewN _
          have hi4 : GrowI 2 w2.heap.size w4 u7 ((row (mkT (2 * n) (dblF n s)) k).take j) := by rw [hw4]; exact hi.ext ((Ext.refl _).drewN _)
          rw [← hw4]
          clear hw4 hi hx2
          by_cases hkn : k < n <;> by_cases hjn : j < n
          all_goals
            go_wp2_with (at_builtin; refine wpList_append_int rfl _ _ 29 2 rfl Tryz.underlying29 infoInt w2.heap.size _ _ rfl (hi4.alloc _) _ _ rfl (cell_new _ _ _) (by rw [HLJ.out]; omega) (by have := hx4.size; simp; omega) ?_)
            intro v' w3 hi3 hgr hv3
            have hx3 : Ext w2 w3 := (hx4.trans (ext_box _ _ _)).grown hgr (hi4.alloc _) (Nat.le_refl _)
            clear hgr
            go_wp2
            go_roundw
            case rel => exact ⟨j + 1, by omega, by go_num, by
              rw [take_ix _ _ (by rw [HRL.out]; exact hjl), row_mkT _ _ _ hkl, ix_partRow _ _ _ _ _ hjl, if_pos hjl]
              rw [row_mkT _ _ _ hkl] at hi3
              first
                | (rw [dblF_1 ‹_› ‹_›]; exact hi3)
                | (rw [dblF_2 ‹_› (by omega)]; exact hi3)
                | (rw [dblF_3 (by omega) ‹_›]; exact hi3)
                | (rw [dblF_4 (by omega) (by omega)]; exact hi3), hv3, hx3⟩
            case measure => simp [intOf]; omega
end Go.Proofs.YthlafeefjonkdaaGreatDoor


namespace Go.Proofs.YthlafeefjonkdaaGreatDoor
set_option linter.unusedVariables false
set_option linter.unusedSimpArgs false
open Go.RowKit

def RT (w : World) (x : Value) (l : List Int) : Prop := l.length ≤ 1048576 ∧ ∃ b c, x = .slice (some ⟨b, 0, none⟩) l.length c ∧ IntsAt w b 0 l
def XT (w : World) (xs : List Value) (s : List (List Int)) : Prop := xs.length = s.length ∧ ∀ i, i < s.length → ∃ x, xs[i]? = some x ∧ RT w x (row s i)
theorem RT.ext {w w' : World} {x : Value} {l : List Int} (h : RT w x l) (hx : Ext w w') : RT w' x l := by
  obtain ⟨h0, b, c, rfl, h1⟩ := h
  exact ⟨h0, b, c, rfl, h1.ext hx⟩
theorem XT.one {w : World} {x : Value} {l : List Int} (h : RT w x l) : XT w [x] [l] := ⟨rfl, fun i hi => by
  have : i = 0 := by simpa using hi
  subst this
  exact ⟨x, rfl, by rw [row_eq]; exact h⟩⟩
theorem XT.ext {w w' : World} {xs : List Value} {s : List (List Int)} (h : XT w xs s) (hx : Ext w w') : XT w' xs s := ⟨h.1, fun i hi => by
  obtain ⟨x, h1, h2⟩ := h.2 i hi
  exact ⟨x, h1, h2.ext hx⟩⟩
theorem XT.append {w : World} {xs ys : List Value} {s t : List (List Int)} (h : XT w xs s) (k : XT w ys t) : XT w (xs ++ ys) (s ++ t) := by
  refine ⟨by simp [h.1, k.1], fun i hi => ?_⟩
  by_cases hs : i < s.length
  · obtain ⟨x, h1, h2⟩ := h.2 i hs
    refine ⟨x, by rw [List.getElem?_append_left (by rw [h.1]; exact hs)]; exact h1, ?_⟩
    rw [row_eq]
    rw [row_eq] at h2
    simpa [List.getD, List.getElem?_append_left hs] using h2
  · have hl : i - s.length < t.length := by simp at hi; omega
    obtain ⟨x, h1, h2⟩ := k.2 (i - s.length) hl
    refine ⟨x, by rw [List.getElem?_append_right (by rw [h.1]; omega), h.1]; exact h1, ?_⟩
    rw [row_eq]
    rw [row_eq] at h2
    simpa [List.getD, List.getElem?_append_right (Nat.le_of_not_lt hs)] using h2
theorem XT.take {w : World} {xs : List Value} {s : List (List Int)} (h : XT w xs s) (k : Nat) : XT w (xs.take k) (s.take k) := by
  refine ⟨by simp [h.1], fun i hi => ?_⟩
  have hi' : i < k ∧ i < s.length := by rw [List.length_take] at hi; omega
  obtain ⟨x, h1, h2⟩ := h.2 i hi'.2
  refine ⟨x, by rw [List.getElem?_take, if_pos hi'.1]; exact h1, ?_⟩
  rw [row_eq]
  rw [row_eq] at h2
  simpa [List.getD, List.getElem?_take, hi'.1] using h2
theorem XT.drop {w : World} {xs : List Value} {s : List (List Int)} (h : XT w xs s) (k : Nat) : XT w (xs.drop k) (s.drop k) := by
  refine ⟨by simp [h.1], fun i hi => ?_⟩
  have hi' : k + i < s.length := by rw [List.length_drop] at hi; omega
  obtain ⟨x, h1, h2⟩ := h.2 (k + i) hi'
  refine ⟨x, by rw [List.getElem?_drop]; exact h1, ?_⟩
  rw [row_eq]
  rw [row_eq] at h2
  simpa [List.getD, List.getElem?_drop] using h2
theorem XT.cell {w : World} {xs : List Value} {s : List (List Int)} (h : XT w xs s) : ∀ u ∈ xs, u.oneCell' = true := by
  intro u hu
  obtain ⟨i, hi, rfl⟩ := List.mem_iff_getElem.1 hu
  obtain ⟨x, h1, _, b, c, rfl, _⟩ := h.2 i (by rw [← h.1]; exact hi)
  rw [List.getElem?_eq_getElem hi] at h1
  have h1 := Option.some.inj h1
  rw [h1]; rfl
theorem GrowT.xt {e base : Nat} {w : World} {v : Value} {t : List (List Int)} (h : GrowT e base w v t) : ∃ xs, w.ownsRow base e 1 v t.length xs ∧ XT w xs t := by
  obtain ⟨xs, h1, h2⟩ := h
  refine ⟨xs, h1, by have := h1.1; simpa using this, fun i hi => ?_⟩
  obtain ⟨g0, b, c, g1, g2⟩ := h2 i hi
  exact ⟨_, g1, g0, b, c, rfl, g2⟩
theorem GrowT.of_xt {e base : Nat} {w : World} {v : Value} {t : List (List Int)} {xs : List Value} (h : w.ownsRow base e 1 v t.length xs) (k : XT w xs t) : GrowT e base w v t :=
  ⟨xs, h, fun i hi => by
    obtain ⟨x, h1, h0, b, c, rfl, h2⟩ := k.2 i hi
    exact ⟨h0, b, c, h1, h2⟩⟩
theorem RT.grown {w w' : World} {x : Value} {l : List Int} {g : Nat} {a : Option Addr} {n c : Nat} (h : RT w x l) (hg : w.grownBy w' (some g)) (hs : w.cell? ⟨g, 0, none⟩ = some (.slice a n c)) (hl : 0 < l.length) : RT w' x l := by
  obtain ⟨h0, b, c, rfl, h1⟩ := h
  refine ⟨h0, b, c, rfl, intsAt_grown h1 hg (fun _ e => ?_)⟩
  injection e with e
  have := h1 0 hl
  rw [Nat.zero_add, e, hs] at this
  cases this
theorem XT.grown {w w' : World} {xs : List Value} {s : List (List Int)} {g : Nat} {a : Option Addr} {n c : Nat} (h : XT w xs s) (hg : w.grownBy w' (some g)) (hs : w.cell? ⟨g, 0, none⟩ = some (.slice a n c)) (hr : ∀ i, i < s.length → 0 < (row s i).length) : XT w' xs s := ⟨h.1, fun i hi => by
  obtain ⟨x, h1, h2⟩ := h.2 i hi
  exact ⟨x, h1, h2.grown hg hs (hr i hi)⟩⟩
theorem GrowT.grown {e base : Nat} {w w' : World} {v : Value} {t : List (List Int)} {g : Nat} {a : Option Addr} {n c : Nat} (h : GrowT e base w v t) (hg : w.grownBy w' (some g)) (hs : w.cell? ⟨g, 0, none⟩ = some (.slice a n c)) (hr : ∀ i, i < t.length → 0 < (row t i).length) (hne : v.ownBlock ≠ some g) : GrowT e base w' v t := by
  obtain ⟨xs, h1, h2⟩ := h.xt
  exact GrowT.of_xt (World.ownsRow.kept h1 hg (.inr hne)) (h2.grown hg hs hr)
theorem GrowT.head {e base : Nat} {w : World} {v : Value} {t : List (List Int)} (h : GrowT e base w v t) (h0 : 0 < t.length) : ∃ g c b n d, v = .slice (some ⟨g, 0, none⟩) t.length c ∧ w.cell? ⟨g, 0, none⟩ = some (.slice (some ⟨b, 0, none⟩) n d) ∧ t.length ≤ c := by
  obtain ⟨xs, h1, h2⟩ := h
  rcases id h1.2 with ⟨rfl, hn⟩ | ⟨g, cap, cur, rfl, hb, hg, hnc, _, hcs, htake⟩
  · omega
  · obtain ⟨g0, b, c, g1, g2⟩ := h2 0 h0
    have := World.ownsRow.cells h1 (g := g) rfl 0 _ g1
    rw [Addr.add_lit] at this
    exact ⟨g, cap, b, _, c, rfl, this, hnc⟩
theorem GrowT.get {e base : Nat} {w : World} {v : Value} {t : List (List Int)} (h : GrowT e base w v t) {i : Nat} (hi : i < t.length) : ∃ g c b d, v = .slice (some ⟨g, 0, none⟩) t.length c ∧ w.cell? ⟨g, i, none⟩ = some (.slice (some ⟨b, 0, none⟩) (row t i).length d) ∧ IntsAt w b 0 (row t i) ∧ (row t i).length ≤ 1048576 := by
  obtain ⟨xs, h1, h2⟩ := h
  rcases id h1.2 with ⟨rfl, hn⟩ | ⟨g, cap, cur, rfl, hb, hg, hnc, _, hcs, htake⟩
  · omega
  · obtain ⟨g0, b, c, g1, g2⟩ := h2 i hi
    have := World.ownsRow.cells h1 (g := g) rfl i _ g1
    rw [Addr.add_lit, Nat.zero_add] at this
    exact ⟨g, cap, b, c, rfl, this, g2, g0⟩
theorem GrowT.one {e : Nat} {w : World} {b c : Nat} {l : List Int} {base : Nat} (hb : base ≤ w.heap.size) (hl : l.length ≤ 1048576) (h : IntsAt w b 0 l) : GrowT e base (w.alloc (.cells #[.slice (some ⟨b, 0, none⟩) l.length c] e)) (.slice (some ⟨w.heap.size, 0, none⟩) 1 1) [l] :=
  GrowT.of_xt (t := [l]) (ownsRow_one hb) (XT.one ⟨hl, b, c, rfl, h.ext ((Ext.refl w).alloc _)⟩)
end Go.Proofs.YthlafeefjonkdaaGreatDoor
