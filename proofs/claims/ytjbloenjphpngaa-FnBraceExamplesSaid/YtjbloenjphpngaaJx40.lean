/-
  The source of the draws: l01From, l01Next.
-/
import Derived.Test.YtjbloenjphpngaaProg
import Derived.Laws.BitsLemmas
import Derived.Laws.Bits64
import Derived.Deep.DeepCutAuto
import Derived.Deep.RegionWith
import Derived.BigQuiet
import Derived.Test.YtjbloenjphpngaaJx0
import Derived.Test.YtjbloenjphpngaaJx1
import Derived.Test.YtjbloenjphpngaaJx5
import Derived.Test.YtjbloenjphpngaaJx14
import Derived.Test.YtjbloenjphpngaaJx2
import Derived.Test.YtjbloenjphpngaaJx7
namespace Go.Proofs.Ytjbloenjphpngaa
set_option linter.unusedVariables false
set_option linter.unusedSimpArgs false
open Go.RowKit

/-- a slice of bytes -/
def BytesR (w : World) (v : Value) (bs : List Int) : Prop := ∃ a c, v = .slice a bs.length c ∧ (∀ i, i < bs.length → 0 ≤ ix bs i ∧ ix bs i ≤ 255) ∧ (bs ≠ [] → ∃ b o, a = some ⟨b, o, none⟩ ∧ ∀ i, i < bs.length → w.cell? ⟨b, o + i, none⟩ = some (.int .u8 (ix bs i)))
theorem BytesR.ext {w w' : World} {v : Value} {bs : List Int} (h : BytesR w v bs) (hx : Ext w w') : BytesR w' v bs := by
  obtain ⟨a, c, rfl, h0, h⟩ := h
  refine ⟨a, c, rfl, h0, fun hl => ?_⟩
  obtain ⟨b, o, rfl, hc⟩ := h hl
  exact ⟨b, o, rfl, fun i hi => hx.cell (hc i hi)⟩
/-- a source of numbers in block S -/
def Src (S : Nat) (w : World) : Prop := ∃ (a : Option Addr) (L c i : Nat) (h : Int), L ≤ 4096 ∧ i ≤ L ∧ 0 ≤ h ∧ h < 18446744073709551616 ∧
  w.cell? ⟨S, 0, none⟩ = some (.slice a L c) ∧ w.cell? ⟨S, 1, none⟩ = some (.int .i64 i) ∧ w.cell? ⟨S, 2, none⟩ = some (.int .u64 h) ∧ w.frozen? ⟨S, 1, none⟩ = false ∧ w.frozen? ⟨S, 2, none⟩ = false ∧
  (0 < L → ∃ b o, a = some ⟨b, o, none⟩ ∧ b < S ∧ ∀ j, j < L → ∃ x : Int, 0 ≤ x ∧ x ≤ 255 ∧ w.cell? ⟨b, o + j, none⟩ = some (.int .u8 x))
theorem Src.lt {S : Nat} {w : World} (h : Src S w) : S < w.heap.size := by
  obtain ⟨a, L, c, i, h, -, -, -, -, h0, -⟩ := h
  exact World.block_lt_of_cell? _ _ h0
theorem Src.ext {S : Nat} {w w' : World} (h : Src S w) (hx : Ext w w') : Src S w' := by
  have hl := h.lt
  obtain ⟨a, L, c, i, h, k1, k2, k3, k4, c0, c1, c2, f1, f2, hb⟩ := h
  refine ⟨a, L, c, i, h, k1, k2, k3, k4, hx.cell c0, hx.cell c1, hx.cell c2, hx.free f1 hl, hx.free f2 hl, fun h0 => ?_⟩
  obtain ⟨b, o, rfl, hne, hc⟩ := hb h0
  exact ⟨b, o, rfl, hne, fun j hj => by obtain ⟨x, x1, x2, x3⟩ := hc j hj; exact ⟨x, x1, x2, hx.cell x3⟩⟩

theorem Touch.set (w : World) (S k : Nat) (v : Value) : Touch S (S + 1) w (w.setCell ⟨S, k, none⟩ v) := Touch.of_marked ((Marked.refl _ _ _).setCell (p := ⟨S, k, none⟩) (Nat.le_refl _) (Nat.lt_succ_self _) v)
theorem u64_bd (n : Int) : 0 ≤ IntKind.u64.wrap n ∧ IntKind.u64.wrap n < 18446744073709551616 := by rw [IntKind.wrap_u64]; omega
/-- the bits that are kept of a hash -/
theorem hash_bd {h : Int} (h0 : 0 ≤ h) (h1 : h < 18446744073709551616) : 0 ≤ wrap64 (bits BinOp.and IntKind.u64 (h / 8589934592) 16777215) ∧ wrap64 (bits BinOp.and IntKind.u64 (h / 8589934592) 16777215) < 16777216 := by
  obtain ⟨a, ha⟩ := Int.eq_ofNat_of_zero_le (a := h / 8589934592) (by omega)
  have hlt : a < 2 ^ 31 := by
    have : (a : Int) < 2147483648 := by omega
    omega
  have e := (bits_nat .u64 31 (by decide) (fun n h0 h1 => by rw [IntKind.wrap_u64]; omega) a 16777215 hlt (by decide)).1
  have hle : a &&& 16777215 ≤ 16777215 := Nat.and_le_right
  rw [ha, show (16777215 : Int) = ((16777215 : Nat) : Int) from rfl]
  rw [show ((a : Nat) : Int) = Int.ofNat a from rfl] at e
  have e' : bits BinOp.and IntKind.u64 (Int.ofNat a) ((16777215 : Nat) : Int) = ((a &&& 16777215 : Nat) : Int) := e
  first | rw [e'] | rw [show bits BinOp.and IntKind.u64 ((a : Nat) : Int) ((16777215 : Nat) : Int) = ((a &&& 16777215 : Nat) : Int) from e]
  unfold wrap64
  omega
/-- the source is left alone -/
theorem Src.touch2 {S lo hi : Nat} {w w' : World} (h : Src S w) (m : Touch lo hi w w') (hd : S < lo) : Src S w' := by
  have hl := h.lt
  obtain ⟨a, L, c, i, h, k1, k2, k3, k4, c0, c1, c2, f1, f2, hb⟩ := h
  have hS := m.block S hl (by omega)
  refine ⟨a, L, c, i, h, k1, k2, k3, k4, m.cell c0 (.inl hd), m.cell c1 (.inl hd), m.cell c2 (.inl hd), by rw [World.frozen?_of_block (w := w) (a := ⟨S, 1, none⟩) hS]; exact f1, by rw [World.frozen?_of_block (w := w) (a := ⟨S, 2, none⟩) hS]; exact f2, fun h0 => ?_⟩
  obtain ⟨b, o, rfl, hlb, hc⟩ := hb h0
  exact ⟨b, o, rfl, hlb, fun j hj => by obtain ⟨x, x1, x2, x3⟩ := hc j hj; exact ⟨x, x1, x2, m.cell x3 (.inl (by simp only []; omega))⟩⟩
/-- a number is drawn -/
def NumPost (S : Nat) (n : Int) (w : World) (e : Ending) (w' : World) : Prop :=
  ∃ r : Int, e = .returned (.int .i64 r) ∧ 0 ≤ r ∧ (1 ≤ n → r < n) ∧ (n < 1 → r = 0) ∧ Src S w' ∧ Touch S (S + 1) w w'

set_option maxRecDepth 100000 in
set_option maxHeartbeats 1000000 in
theorem l01Next_any (S : Nat) (n : Int) (w : World) (hs : Src S w) :
    Calls Try.prog 32 #[.pointer (some ⟨S, 0, none⟩), .int .i64 n] w (NumPost S n w) := by
  obtain ⟨a, L, c, i, h, k1, k2, k3, k4, c0, c1, c2, f1, f2, hb⟩ := id hs
  have HS := Lib.hid hs
  clear hs
  go_enter Try.func32, Try.ntmps32
  by_cases hn : n < 1
  case pos =>
    go_wp2
    go_ret
    exact ⟨0, rfl, Int.le_refl _, fun h => by omega, fun _ => rfl, HS.out, Touch.of_ext (Ext.refl _)⟩
  case neg =>
    go_wp2
    obtain ⟨H, hH⟩ : ∃ H, H = IntKind.u64.wrap (IntKind.u64.wrap (h * 6364136223846793005) + 1442695040888963407) := ⟨_, rfl⟩
    rw [← hH]
    have hHb : 0 ≤ H ∧ H < 18446744073709551616 := by rw [hH]; exact u64_bd _
    clear hH
    obtain ⟨X, hX⟩ : ∃ X, X = wrap64 (bits BinOp.and IntKind.u64 (H / 8589934592) 16777215) := ⟨_, rfl⟩
    rw [← hX]
    have hXb : 0 ≤ X ∧ X < 16777216 := by rw [hX]; exact hash_bd hHb.1 hHb.2
    clear hX
    obtain ⟨w1, hw1⟩ : ∃ w1, w1 = w.setCell ⟨S, 2, none⟩ (.int .u64 H) := ⟨_, rfl⟩
    rw [← hw1]
    have d0 : w1.cell? ⟨S, 0, none⟩ = some (.slice a L c) := by rw [hw1]; exact (World.cell?_setCell_other _ _ _ _ (by simp)).trans c0
    have d1 : w1.cell? ⟨S, 1, none⟩ = some (.int .i64 i) := by rw [hw1]; exact (World.cell?_setCell_other _ _ _ _ (by simp)).trans c1
    have d2 : w1.cell? ⟨S, 2, none⟩ = some (.int .u64 H) := by rw [hw1]; exact kc_same c2
    have e1 : w1.frozen? ⟨S, 1, none⟩ = false := by rw [hw1]; exact kf_set f1
    have e2 : w1.frozen? ⟨S, 2, none⟩ = false := by rw [hw1]; exact kf_set f2
    have hT : Touch S (S + 1) w w1 := by rw [hw1]; exact Touch.set _ _ _ _
    have hB : 0 < L → ∃ b o, a = some ⟨b, o, none⟩ ∧ b < S ∧ ∀ j, j < L → ∃ x : Int, 0 ≤ x ∧ x ≤ 255 ∧ w1.cell? ⟨b, o + j, none⟩ = some (.int .u8 x) := fun h0 => by
      obtain ⟨b, o, rfl, hlb, hc⟩ := hb h0
      have hne := Nat.ne_of_lt hlb
      refine ⟨b, o, rfl, hlb, fun j hj => ?_⟩
      obtain ⟨x, x1, x2, x3⟩ := hc j hj
      exact ⟨x, x1, x2, by rw [hw1, World.cell?_setCell_other _ _ _ _ (by first | exact fun h => hne (congrArg Addr.block h) | exact fun h => hne (congrArg Addr.block h).symm)]; exact x3⟩
    have HB := Lib.hid hB
    have HT := Lib.hid hT
    clear hw1 hb hB hT c0 c1 c2 f1 f2 HS
    by_cases hi : i < L
    case neg =>
      go_quiet (fail)
      go_wp2
      go_ret
      have hr := Int.emod_nonneg X (b := n) (by omega)
      have hr2 := Int.emod_lt_of_pos X (b := n) (by omega)
      refine ⟨X % n, rfl, hr, fun _ => hr2, fun h => by omega, ?_, HT.out.trans (Touch.of_ext (by (repeat first | (with_reducible exact Ext.refl _) | (with_reducible assumption) | (with_reducible apply Ext.drew) | (with_reducible apply kx_drewN) | (with_reducible apply kx_alloc) | ((with_reducible refine kx_set ?_ ?_); (first | (simp only []; omega) | (simp; omega) | (focus (simp; done)))) )))⟩
      exact Src.ext (w := w1) ⟨a, L, c, i, H, k1, k2, hHb.1, hHb.2, d0, d1, d2, e1, e2, HB.out⟩ (by (repeat first | (with_reducible exact Ext.refl _) | (with_reducible assumption) | (with_reducible apply Ext.drew) | (with_reducible apply kx_drewN) | (with_reducible apply kx_alloc) | ((with_reducible refine kx_set ?_ ?_); (first | (simp only []; omega) | (simp; omega) | (focus (simp; done)))) ))
    case pos =>
      obtain ⟨b, o, rfl, hne, hc⟩ := HB.out (by omega)
      obtain ⟨x, x1, x2, x3⟩ := hc i hi
      clear hc
      go_quiet (fail)
      go_wp2
      go_quiet (fail)
      go_wp2
      go_ret
      have hr := Int.emod_nonneg (X + x) (b := n) (by omega)
      have hr2 := Int.emod_lt_of_pos (X + x) (b := n) (by omega)
      refine ⟨(X + x) % n, rfl, hr, fun _ => hr2, fun h => by omega, ?_, HT.out.trans ?_⟩
      · obtain ⟨b', o', e', hne', hc'⟩ := HB.out (by omega)
        exact ⟨some ⟨b, o, none⟩, L, c, i + 1, H, k1, by omega, hHb.1, hHb.2, kc_set2 (by simp) (kc_drewN d0), kc_same (kc_drewN d1), kc_set2 (by simp) (kc_drewN d2), kf_set e1, kf_set e2, fun _ => ⟨b', o', e', hne', fun j hj => by
          obtain ⟨y, y1, y2, y3⟩ := hc' j hj
          exact ⟨y, y1, y2, kc_set (Nat.ne_of_lt hne') (kc_drewN y3)⟩⟩⟩
      · exact (Touch.of_ext (by (repeat first | (with_reducible exact Ext.refl _) | (with_reducible assumption) | (with_reducible apply Ext.drew) | (with_reducible apply kx_drewN) | (with_reducible apply kx_alloc) | ((with_reducible refine kx_set ?_ ?_); (first | (simp only []; omega) | (simp; omega) | (focus (simp; done)))) ))).trans (Touch.set _ _ _ _)
/-- a source is made -/
def FromPost (w : World) (e : Ending) (w' : World) : Prop := ∃ S, e = .returned (.pointer (some ⟨S, 0, none⟩)) ∧ w.heap.size ≤ S ∧ Src S w' ∧ Ext w w'

set_option maxRecDepth 100000 in
set_option maxHeartbeats 1000000 in
theorem l01From_any (bs : List Int) (v : Value) (w : World) (hv : BytesR w v bs) (hl : bs.length ≤ 4096) :
    Calls Try.prog 30 #[v] w (FromPost w) := by
  obtain ⟨a, c, rfl, hb, hc⟩ := hv
  have HB := Lib.hid hb
  have HC := Lib.hid hc
  clear hb hc
  go_enter Try.func30, Try.ntmps30
  go_wp2
  have hx0 : Ext w (w.alloc (.cells #[.slice a bs.length c, .int .i64 0, .int .u64 (6553 + bs.length)] 70)) := (Ext.refl _).alloc _
  have g0 : (w.alloc (.cells #[.slice a bs.length c, .int .i64 0, .int .u64 (6553 + bs.length)] 70)).cell? ⟨w.heap.size, 0, none⟩ = some (.slice a bs.length c) := by simp [go_sem]
  have g1 : (w.alloc (.cells #[.slice a bs.length c, .int .i64 0, .int .u64 (6553 + bs.length)] 70)).cell? ⟨w.heap.size, 1, none⟩ = some (.int .i64 0) := by simp [go_sem]
  have g2 : (w.alloc (.cells #[.slice a bs.length c, .int .i64 0, .int .u64 (6553 + bs.length)] 70)).cell? ⟨w.heap.size, 2, none⟩ = some (.int .u64 (6553 + bs.length)) := by simp [go_sem]
  have q1 : (w.alloc (.cells #[.slice a bs.length c, .int .i64 0, .int .u64 (6553 + bs.length)] 70)).frozen? ⟨w.heap.size, 1, none⟩ = false := by simp [go_sem]
  have q2 : (w.alloc (.cells #[.slice a bs.length c, .int .i64 0, .int .u64 (6553 + bs.length)] 70)).frozen? ⟨w.heap.size, 2, none⟩ = false := by simp [go_sem]
  go_loopw [4] (fun i wr => ∃ (m : Nat) (h : Int), m ≤ bs.length ∧ i = .int .i64 m ∧ 0 ≤ h ∧ h < 18446744073709551616 ∧ wr.cell? ⟨w.heap.size, 0, none⟩ = some (.slice a bs.length c) ∧ wr.cell? ⟨w.heap.size, 1, none⟩ = some (.int .i64 0) ∧ wr.cell? ⟨w.heap.size, 2, none⟩ = some (.int .u64 h) ∧ wr.frozen? ⟨w.heap.size, 1, none⟩ = false ∧ wr.frozen? ⟨w.heap.size, 2, none⟩ = false ∧ Ext w wr) (fun i _ => bs.length - (intOf i).toNat)
  case atStart => exact ⟨0, 6553 + bs.length, Nat.zero_le _, rfl, by omega, by omega, g0, g1, g2, q1, q2, hx0⟩
  case round =>
    clear hx0 g0 g1 g2 q1 q2
    obtain ⟨m, h, hm, rfl, h0, h1, c0, c1, c2, f1, f2, hx⟩ := hrel
    by_cases hlt : m < bs.length
    case neg =>
      have hlt' : ¬ (m : Int) < (bs.length : Int) := by omega
      go_wp2
      go_ret
      refine ⟨w.heap.size, rfl, Nat.le_refl _, ⟨a, bs.length, c, 0, h, hl, Nat.zero_le _, h0, h1, c0, c1, c2, f1, f2, fun hp => ?_⟩, hx⟩
      obtain ⟨b, o, rfl, hcc⟩ := HC.out (ne_nil_of_lt hp)
      refine ⟨b, o, rfl, ?_, fun j hj => ⟨ix bs j, (HB.out j hj).1, (HB.out j hj).2, hx.cell (hcc j hj)⟩⟩
      have := World.block_lt_of_cell? _ _ (hcc 0 hp)
      simp only [] at this
      omega
    case pos =>
      obtain ⟨b, o, rfl, hcc⟩ := HC.out (ne_nil_of_lt hlt)
      have e1 := hcc m hlt
      have hbl := World.block_lt_of_cell? _ _ e1
      simp only [] at hbl
      have e2 := hx.cell e1
      have hbd := HB.out m hlt
      clear hcc e1
      have h4 : (m : Int) < 4096 := by omega
      go_wp2
      go_region
      all_goals
        go_wp2
        go_roundw
        case rel =>
          exact ⟨m + 1, _, by omega, by go_num, (u64_bd _).1, (u64_bd _).2, kc_drew (kc_set2 (by simp) c0), kc_drew (kc_set2 (by simp) c1), kc_drew (kc_same c2), kf_drew (kf_set f1), kf_drew (kf_set f2), (hx.setNew (Nat.le_refl _) _).drew⟩
        case measure => simp [intOf]; omega
end Go.Proofs.Ytjbloenjphpngaa
