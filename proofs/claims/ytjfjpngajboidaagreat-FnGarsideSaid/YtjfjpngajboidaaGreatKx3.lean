/-
  The source of the draws: l01From, l01Next.
-/
import Derived.Test.YtjfjpngajboidaaGreatProg
import Derived.Laws.Bits64
import Derived.Deep.DeepCutAuto
import Derived.Deep.RegionWith
import Derived.Test.YtjfjpngajboidaaGreatKx2
namespace Go.Proofs.YtjfjpngajboidaaGreat
set_option linter.unusedVariables false
set_option linter.unusedSimpArgs false
open Go.RowKit

def BytesR (w : World) (v : Value) (bs : List Int) : Prop := ∃ a c, v = .slice a bs.length c ∧ (∀ i, i < bs.length → 0 ≤ ix bs i ∧ ix bs i ≤ 255) ∧ (bs ≠ [] → ∃ b o, a = some ⟨b, o, none⟩ ∧ ∀ i, i < bs.length → w.cell? ⟨b, o + i, none⟩ = some (.int .u8 (ix bs i)))
theorem BytesR.ext {w w' : World} {v : Value} {bs : List Int} (h : BytesR w v bs) (hx : Ext w w') : BytesR w' v bs := by
  obtain ⟨a, c, rfl, h0, h⟩ := h
  refine ⟨a, c, rfl, h0, fun hl => ?_⟩
  obtain ⟨b, o, rfl, hc⟩ := h hl
  exact ⟨b, o, rfl, fun i hi => hx.cell (hc i hi)⟩
def Src (S : Nat) (w : World) : Prop := ∃ (a : Option Addr) (L c i : Nat) (h : Int), L ≤ 4096 ∧ i ≤ L ∧ 0 ≤ h ∧ h < 18446744073709551616 ∧
  w.cell? ⟨S, 0, none⟩ = some (.slice a L c) ∧ w.cell? ⟨S, 1, none⟩ = some (.int .i64 i) ∧ w.cell? ⟨S, 2, none⟩ = some (.int .u64 h) ∧ w.frozen? ⟨S, 1, none⟩ = false ∧ w.frozen? ⟨S, 2, none⟩ = false ∧
  (0 < L → ∃ b o, a = some ⟨b, o, none⟩ ∧ b < S ∧ ∀ j, j < L → ∃ x : Int, 0 ≤ x ∧ x ≤ 255 ∧ w.cell? ⟨b, o + j, none⟩ = some (.int .u8 x))
theorem Src.lt {S : Nat} {w : World} (h : Src S w) : S < w.heap.size := by
  obtain ⟨a, L, c, i, h, -, -, -, -, h0, -⟩ := h
  exact World.block_lt_of_cell? _ _ h0
theorem Src.ext {S : Nat} {w w' : World} (h : Src S w) (hx : Ext w w') : Src S w' := by
  have hl := h.lt
  obtain ⟨a, L, c, i, h, k1, k2, k3, k4, c0, c1, c2, f1, f2, hb⟩ := h
  refine ⟨a, L, c, i, h, k1, k2, k3, k4, hx.cell c0, hx.cell c1, hx.cell c2, hx.free f1 hl, hx.free f2 hl, fun h0 => ?_⟩
  obtain ⟨b, o, rfl, hne, hc⟩ := hb h0
  exact ⟨b, o, rfl, hne, fun j hj => by obtain ⟨x, x1, x2, x3⟩ := hc j hj; exact ⟨x, x1, x2, hx.cell x3⟩⟩

theorem Touch.set (w : World) (S k : Nat) (v : Value) : Touch S (S + 1) w (w.setCell ⟨S, k, none⟩ v) := Touch.of_marked ((Marked.refl _ _ _).setCell (p := ⟨S, k, none⟩) (Nat.le_refl _) (Nat.lt_succ_self _) v)
theorem u64_bd (n : Int) : 0 ≤ IntKind.u64.wrap n ∧ IntKind.u64.wrap n < 18446744073709551616 := by rw [IntKind.wrap_u64]; omega
theorem hash_bd {h : Int} (h0 : 0 ≤ h) (h1 : h < 18446744073709551616) : 0 ≤ wrap64 (bits BinOp.and IntKind.u64 (h / 8589934592) 16777215) ∧ wrap64 (bits BinOp.and IntKind.u64 (h / 8589934592) 16777215) < 16777216 := by
  obtain ⟨a, ha⟩ := Int.eq_ofNat_of_zero_le (a := h / 8589934592) (by omega)
  have hlt : a < 2 ^ 31 := by
    have : (a : Int) < 2147483648 := by omega
    omega
  have e := (bits_nat .u64 31 (by decide) (fun n h0 h1 => by rw [IntKind.wrap_u64]; omega) a 16777215 hlt (by decide)).1
  have hle : a &&& 16777215 ≤ 16777215 := Nat.and_le_right
  rw [ha, show (16777215 : Int) = ((16777215 : Nat) : Int) from rfl]
  rw [show ((a : Nat) : Int) = Int.ofNat a from rfl] at e
  have e' : bits BinOp.and IntKind.u64 (Int.ofNat a) ((16777215 : Nat) : Int) = ((a &&& 16777215 : Nat) : Int) := e
  first | rw [e'] | rw [show bits BinOp.and IntKind.u64 ((a : Nat) : Int) ((16777215 : Nat) : Int) = ((a &&& 16777215 : Nat) : Int) from e]
  unfold wrap64
  omega
theorem Src.touch2 {S lo hi : Nat} {w w' : World} (h : Src S w) (m : Touch lo hi w w') (hd : S < lo) : Src S w' := by
  have hl := h.lt
  obtain ⟨a, L, c, i, h, k1, k2, k3, k4, c0, c1, c2, f1, f2, hb⟩ := h
  have hS := m.block S hl (by omega)
  refine ⟨a, L, c, i, h, k1, k2, k3, k4, m.cell c0 (.inl hd), m.cell c1 (.inl hd), m.cell c2 (.inl hd), by rw [World.frozen?_of_block (w := w) (a := ⟨S, 1, none⟩) hS]; exact f1, by rw [World.frozen?_of_block (w := w) (a := ⟨S, 2, none⟩) hS]; exact f2, fun h0 => ?_⟩
  obtain ⟨b, o, rfl, hlb, hc⟩ := hb h0
  exact ⟨b, o, rfl, hlb, fun j hj => by obtain ⟨x, x1, x2, x3⟩ := hc j hj; exact ⟨x, x1, x2, m.cell x3 (.inl (by simp only []; omega))⟩⟩
def NumPost (S : Nat) (n : Int) (w : World) (e : Ending) (w' : World) : Prop :=
  ∃ r : Int, e = .returned (.int .i64 r) ∧ 0 ≤ r ∧ (1 ≤ n → r < n) ∧ (n < 1 → r = 0) ∧ Src S w' ∧ Touch S (S + 1) w w'

set_option maxRecDepth 100000 in
set_option maxHeartbeats 1000000 in
theorem l01Next_any (S : Nat) (n : Int) (w : World) (hs : Src S w) :
    Calls Tryz.prog 42 #[.pointer (some ⟨S, 0, none⟩), .int .i64 n] w (NumPost S n w) := by
  obtain ⟨a, L, c, i, h, k1, k2, k3, k4, c0, c1, c2, f1, f2, hb⟩ := id hs
  have HS := Lib.hid hs
  clear hs
  go_enter Tryz.func42, Tryz.ntmps42
  by_cases hn : n < 1
  case pos =>
    go_wp2
    go_ret
    exact ⟨0, rfl, Int.le_refl _, fun h => by omega, fun _ => rfl, HS.out, Touch.of_ext (Ext.refl _)⟩
  case neg =>
    go_wp2
    obtain ⟨H, hH⟩ : ∃ H, H = IntKind.u64.wrap (IntKind.u64.wrap (h * 6364136223846793005) + 1442695040888963407) := ⟨_, rfl⟩
    rw [← hH]
    have hHb : 0 ≤ H ∧ H < 18446744073709551616 := by rw [hH]; exact u64_bd _
    clear hH
    obtain ⟨X, hX⟩ : ∃ X, X = wrap64 (bits BinOp.and IntKind.u64 (H / 8589934592) 16777215) := ⟨_, rfl⟩
    rw [← hX]
    have hXb : 0 ≤ X ∧ X < 16777216 := by rw [hX]; exact hash_bd hHb.1 hHb.2
    clear hX
    obtain ⟨w1, hw1⟩ : ∃ w1, w1 = w.setCell ⟨S, 2, none⟩ (.int .u64 H) := ⟨_, rfl⟩
    rw [← hw1]
    have d0 : w1.cell? ⟨S, 0, none⟩ = some (.slice a L c) := by rw [hw1]; exact (World.cell?_setCell_other _ _ _ _ (by simp)).trans c0
    have d1 : w1.cell? ⟨S, 1, none⟩ = some (.int .i64 i) := by rw [hw1]; exact (World.cell?_setCell_other _ _ _ _ (by simp)).trans c1
    have d2 : w1.cell? ⟨S, 2, none⟩ = some (.int .u64 H) := by rw [hw1]; exact kc_same c2
    have e1 : w1.frozen? ⟨S, 1, none⟩ = false := by rw [hw1]; exact kf_set f1
    have e2 : w1.frozen? ⟨S, 2, none⟩ = false := by rw [hw1]; exact kf_set f2
    have hT : Touch S (S + 1) w w1 := by rw [hw1]; exact Touch.set _ _ _ _
    have hB : 0 < L → ∃ b o, a = some ⟨b, o, none⟩ ∧ b < S ∧ ∀ j, j < L → ∃ x : Int, 0 ≤ x ∧ x ≤ 255 ∧ w1.cell? ⟨b, o + j, none⟩ = some (.int .u8 x) := fun h0 => by
      obtain ⟨b, o, rfl, hlb, hc⟩ := hb h0
      have hne := Nat.ne_of_lt hlb
      refine ⟨b, o, rfl, hlb, fun j hj => ?_⟩
      obtain ⟨x, x1, x2, x3⟩ := hc j hj
      exact ⟨x, x1, x2, by rw [hw1, World.cell?_setCell_other _ _ _ _ (by first | exact fun h => hne (congrArg Addr.block h) | exact fun h => hne (congrArg Addr.block h).symm)]; exact x3⟩
    have HB := Lib.hid hB
    have HT := Lib.hid hT
    clear hw1 hb hB hT c0 c1 c2 f1 f2 HS
    by_cases hi : i < L
    case neg =>
      go_quiet (fail)
      go_wp2
      go_ret
      have hr := Int.emod_nonneg X (b := n) (by omega)
      have hr2 := Int.emod_lt_of_pos X (b := n) (by omega)
      refine ⟨X % n, rfl, hr, fun _ => hr2, fun h => by omega, ?_, HT.out.trans (Touch.of_ext (by (repeat first | (with_reducible exact Ext.refl _) | (with_reducible assumption) | (with_reducible apply Ext.drew) | (with_reducible apply kx_drewN) | (with_reducible apply kx_alloc) | ((with_reducible refine kx_set ?_ ?_); (first | (simp only []; omega) | (simp; omega) | (focus (simp; done)))) )))⟩
      exact Src.ext (w := w1) ⟨a, L, c, i, H, k1, k2, hHb.1, hHb.2, d0, d1, d2, e1, e2, HB.out⟩ (by (repeat first | (with_reducible exact Ext.refl _) | (with_reducible assumption) | (with_reducible apply Ext.drew) | (with_reducible apply kx_drewN) | (with_reducible apply kx_alloc) | ((with_reducible refine kx_set ?_ ?_); (first | (simp only []; omega) | (simp; omega) | (focus (simp; done)))) ))
    case pos =>
      obtain ⟨b, o, rfl, hne, hc⟩ := HB.out (by omega)
      obtain ⟨x, x1, x2, x3⟩ := hc i hi
      clear hc
      go_quiet (fail)
      go_wp2
      go_quiet (fail)
      go_wp2
      go_ret
      have hr := Int.emod_nonneg (X + x) (b := n) (by omega)
      have hr2 := Int.emod_lt_of_pos (X + x) (b := n) (by omega)
      refine ⟨(X + x) % n, rfl, hr, fun _ => hr2, fun h => by omega, ?_, HT.out.trans ?_⟩
      · obtain ⟨b', o', e', hne', hc'⟩ := HB.out (by omega)
        exact ⟨some ⟨b, o, none⟩, L, c, i + 1, H, k1, by omega, hHb.1, hHb.2, kc_set2 (by simp) (kc_drewN d0), kc_same (kc_drewN d1), kc_set2 (by simp) (kc_drewN d2), kf_set e1, kf_set e2, fun _ => ⟨b', o', e', hne', fun j hj => by
          obtain ⟨y, y1, y2, y3⟩ := hc' j hj
          exact ⟨y, y1, y2, kc_set (Nat.ne_of_lt hne') (kc_drewN y3)⟩⟩⟩
      · exact (Touch.of_ext (by (repeat first | (with_reducible exact Ext.refl _) | (with_reducible assumption) | (with_reducible apply Ext.drew) | (with_reducible apply kx_drewN) | (with_reducible apply kx_alloc) | ((with_reducible refine kx_set ?_ ?_); (first | (simp only []; omega) | (simp; omega) | (focus (simp; done)))) ))).trans (Touch.set _ _ _ _)
def FromPost (w : World) (e : Ending) (w' : World) : Prop := ∃ S, e = .returned (.pointer (some ⟨S, 0, none⟩)) ∧ w.heap.size ≤ S ∧ Src S w' ∧ Ext w w'

set_option maxRecDepth 100000 in
set_option maxHeartbeats 1000000 in
theorem l01From_any (bs : List Int) (v : Value) (w : World) (hv : BytesR w v bs) (hl : bs.length ≤ 4096) :
    Calls Tryz.prog 33 #[v] w (FromPost w) := by
  obtain ⟨a, c, rfl, hb, hc⟩ := hv
  have HB := Lib.hid hb
  have HC := Lib.hid hc
  clear hb hc
  go_enter Tryz.func33, Tryz.ntmps33
  go_wp2
  have hx0 : Ext w (w.alloc (.cells #[.slice a bs.length c, .int .i64 0, .int .u64 (6553 + bs.length)] 92)) := (Ext.refl _).alloc _
  have g0 : (w.alloc (.cells #[.slice a bs.length c, .int .i64 0, .int .u64 (6553 + bs.length)] 92)).cell? ⟨w.heap.size, 0, none⟩ = some (.slice a bs.length c) := by simp [go_sem]
  have g1 : (w.alloc (.cells #[.slice a bs.length c, .int .i64 0, .int .u64 (6553 + bs.length)] 92)).cell? ⟨w.heap.size, 1, none⟩ = some (.int .i64 0) := by simp [go_sem]
  have g2 : (w.alloc (.cells #[.slice a bs.length c, .int .i64 0, .int .u64 (6553 + bs.length)] 92)).cell? ⟨w.heap.size, 2, none⟩ = some (.int .u64 (6553 + bs.length)) := by simp [go_sem]
  have q1 : (w.alloc (.cells #[.slice a bs.length c, .int .i64 0, .int .u64 (6553 + bs.length)] 92)).frozen? ⟨w.heap.size, 1, none⟩ = false := by simp [go_sem]
  have q2 : (w.alloc (.cells #[.slice a bs.length c, .int .i64 0, .int .u64 (6553 + bs.length)] 92)).frozen? ⟨w.heap.size, 2, none⟩ = false := by simp [go_sem]
  go_loopw [4] (fun i wr => ∃ (m : Nat) (h : Int), m ≤ bs.length ∧ i = .int .i64 m ∧ 0 ≤ h ∧ h < 18446744073709551616 ∧ wr.cell? ⟨w.heap.size, 0, none⟩ = some (.slice a bs.length c) ∧ wr.cell? ⟨w.heap.size, 1, none⟩ = some (.int .i64 0) ∧ wr.cell? ⟨w.heap.size, 2, none⟩ = some (.int .u64 h) ∧ wr.frozen? ⟨w.heap.size, 1, none⟩ = false ∧ wr.frozen? ⟨w.heap.size, 2, none⟩ = false ∧ Ext w wr) (fun i _ => bs.length - (intOf i).toNat)
  case atStart => exact ⟨0, 6553 + bs.length, Nat.zero_le _, rfl, by omega, by omega, g0, g1, g2, q1, q2, hx0⟩
  case round =>
    clear hx0 g0 g1 g2 q1 q2
    obtain ⟨m, h, hm, rfl, h0, h1, c0, c1, c2, f1, f2, hx⟩ := hrel
    by_cases hlt : m < bs.length
    case neg =>
      have hlt' : ¬ (m : Int) < (bs.length : Int) := by omega
      go_wp2
      go_ret
      refine ⟨w.heap.size, rfl, Nat.le_refl _, ⟨a, bs.length, c, 0, h, hl, Nat.zero_le _, h0, h1, c0, c1, c2, f1, f2, fun hp => ?_⟩, hx⟩
      obtain ⟨b, o, rfl, hcc⟩ := HC.out (ne_nil_of_lt hp)
      refine ⟨b, o, rfl, ?_, fun j hj => ⟨ix bs j, (HB.out j hj).1, (HB.out j hj).2, hx.cell (hcc j hj)⟩⟩
      have := World.block_lt_of_cell? _ _ (hcc 0 hp)
      simp only [] at this
      omega
    case pos =>
      obtain ⟨b, o, rfl, hcc⟩ := HC.out (ne_nil_of_lt hlt)
      have e1 := hcc m hlt
      have hbl := World.block_lt_of_cell? _ _ e1
      simp only [] at hbl
      have e2 := hx.cell e1
      have hbd := HB.out m hlt
      clear hcc e1
      have h4 : (m : Int) < 4096 := by omega
      go_wp2
      go_region
      all_goals
        go_wp2
        go_roundw
        case rel =>
          exact ⟨m + 1, _, by omega, by go_num, (u64_bd _).1, (u64_bd _).2, kc_drew (kc_set2 (by simp) c0), kc_drew (kc_set2 (by simp) c1), kc_drew (kc_same c2), kf_drew (kf_set f1), kf_drew (kf_set f2), (hx.setNew (Nat.le_refl _) _).drew⟩
        case measure => simp [intOf]; omega
end Go.Proofs.YtjfjpngajboidaaGreat


namespace Go.Proofs.YtjfjpngajboidaaGreat
set_option linter.unusedVariables false
set_option linter.unusedSimpArgs false
open Go.RowKit

theorem infoInt : (Tryz.prog.info? 2).map (fun i => (i.zero, i.size, i.bytes)) = some (some (.int .i64 0), 1, 8) := by kernel_rfl
theorem infoSl : (Tryz.prog.info? 27).map (fun i => (i.zero, i.size, i.bytes)) = some (some (.slice none 0 0), 1, 24) := by kernel_rfl

def NewI (l : List Int) (w : World) (e : Ending) (w' : World) : Prop :=
  ∃ b c, e = .returned (.slice (some ⟨b, 0, none⟩) l.length c) ∧ OwnI w.heap.size w'.heap.size w' b 0 l ∧ Ext w w'
def NewT (t : List (List Int)) (w : World) (e : Ending) (w' : World) : Prop :=
  ∃ b c, e = .returned (.slice (some ⟨b, 0, none⟩) t.length c) ∧ OwnT w.heap.size w'.heap.size w' b 0 t ∧ Ext w w'

end Go.Proofs.YtjfjpngajboidaaGreat


namespace Go.Proofs.YtjfjpngajboidaaGreat
set_option linter.unusedVariables false
set_option linter.unusedSimpArgs false
open Go.RowKit

@[irreducible] def mkT (n : Nat) (f : Nat → Nat → Int) : List (List Int) := (List.range n).map fun x => (List.range n).map fun y => f x y
theorem length_mkT (n : Nat) (f : Nat → Nat → Int) : (mkT n f).length = n := by unfold mkT; simp
@[irreducible] def partRow (f : Nat → Nat → Int) (n x j : Nat) : List Int := (List.range n).map fun y => if y < j then f x y else 0
theorem length_partRow (f : Nat → Nat → Int) (n x j : Nat) : (partRow f n x j).length = n := by unfold partRow; simp
theorem ix_partRow (f : Nat → Nat → Int) (n x j y : Nat) (h : y < n) : ix (partRow f n x j) y = if y < j then f x y else 0 := by
  rw [ix_eq]; unfold partRow; simp [List.getD, h]
theorem row_mkT (n : Nat) (f : Nat → Nat → Int) (x : Nat) (h : x < n) : row (mkT n f) x = partRow f n x n := by
  apply ix_ext
  · rw [length_partRow, row_eq]; unfold mkT; simp [List.getD, h]
  · intro y hy
    have hy' : y < n := by rw [row_eq] at hy; unfold mkT at hy; simpa [List.getD, h] using hy
    rw [ix_partRow _ _ _ _ _ hy', if_pos hy', ix_eq, row_eq]; unfold mkT; simp [List.getD, h, hy']
theorem ent_mkT (n : Nat) (f : Nat → Nat → Int) (x y : Nat) (hx : x < n) (hy : y < n) : ent (mkT n f) x y = f x y := by
  rw [← ent_def, row_mkT _ _ _ hx, ix_partRow _ _ _ _ _ hy, if_pos hy]
def making (f : Nat → Nat → Int) (n k j : Nat) (i : Nat) : List Int := if i = k then partRow f n k j else partRow f n i n

theorem making_other (f : Nat → Nat → Int) (n k j i : Nat) (h : i ≠ k) : making f n k j i = partRow f n i n := by unfold making; rw [if_neg h]
theorem making_own (f : Nat → Nat → Int) (n k j : Nat) : making f n k j k = partRow f n k j := by unfold making; rw [if_pos rfl]
theorem making_all (f : Nat → Nat → Int) (n k i : Nat) : making f n k n i = partRow f n i n := by
  unfold making
  by_cases h : i = k
  · subst h; rw [if_pos rfl]
  · rw [if_neg h]
set_option maxRecDepth 100000 in
theorem tableBy_any (n : Nat) (f : Nat → Nat → Int) (F : Nat) (cap : Array Value) (w : World) (hn : n ≤ 1048576)
    (hcall : ∀ (args : Array Value) (w : World), (callFunc F args).run Tryz.prog w = .ok (.enter F args) w)
    (hf : ∀ w1 x y, Ext w w1 → x < n → y < n → Calls Tryz.prog F (#[.int .i64 (x : Nat), .int .i64 (y : Nat)] ++ cap) w1 fun e w' => e = .returned (.int .i64 (f x y)) ∧ Ext w1 w') :
    Calls Tryz.prog 123 #[.int .i64 n, .func (.func F) #[] cap] w (NewT (mkT n f) w) := by
  have HF := Lib.hid hf
  clear hf
  have hmk := run_make_row' (P := Tryz.prog) 24 27 (.slice none 0 0) 24 Tryz.underlying24 infoSl rfl .i64 .i64 n (by omega) (by omega)
  go_enter Tryz.func123, Tryz.ntmps123
  go_wp2_with fail
  clear hmk
  have hx0 : Ext w (w.alloc (.cells (madeCells #[Value.slice none 0 0] n) 27)) := (Ext.refl _).alloc _
  have hr0 := World.rowIs_made w (.slice none 0 0) n 27
  go_loopw [12] (fun i wr => ∃ k : Nat, k ≤ n ∧ i = .int .i64 k ∧ Build wr w.heap.size 27 n k (fun i => partRow f n i n) ∧ Ext w wr) (fun i _ => n - (intOf i).toNat)
  case atStart => exact ⟨0, Nat.zero_le _, rfl, Build.zero _ hr0, hx0⟩
  case round =>
    clear hx0 hr0
    obtain ⟨k, hk, rfl, hb, hx⟩ := hrel
    by_cases hlt : k < n
    case neg =>
      go_wp2
      go_ret
      exact ⟨w.heap.size, n, by rw [length_mkT]; rfl, hb.done (fun i hi => (row_mkT _ _ _ (by rw [length_mkT] at hi; exact hi)).symm) (by rw [length_mkT]; omega) (by rw [length_mkT]; omega) (Nat.le_refl _) (Nat.le_refl _), hx⟩
    case pos =>
      have hmk := run_make_row' (P := Tryz.prog) 27 2 (.int .i64 0) 8 Tryz.underlying27 infoInt rfl .i64 .i64 n (by omega) (by omega)
      have hlb := hb.lt
      have e1 := hb.cell hlt (Nat.le_refl _)
      have e2 := hb.frozen k
      go_wp2
      clear hmk e1 e2
      obtain ⟨w2, rfl⟩ : ∃ w2 : World, w2 = wr := ⟨_, rfl⟩
      have hxa : Ext w2 (w2.alloc (.cells (madeCells #[Value.int .i64 0] n) 2)) := (Ext.refl _).alloc _
      have hra := World.rowIs_made w2 (.int .i64 0) n 2
      have hb0 : Build ((w2.alloc (.cells (madeCells #[Value.int .i64 0] n) 2)).setCell ⟨w.heap.size, k, none⟩ (.slice (some ⟨w2.heap.size, 0, none⟩) n n)) w.heap.size 27 n (k + 1) (making f n k 0) :=
        (hb.congr (fun i hi => (making_other f n k 0 i (by omega)).symm)).succ hxa (by
          rw [making_own]
          exact ownI_of_row hra (by rw [length_partRow]; exact Nat.le_refl _) (fun i hi => by rw [ix_partRow _ _ _ _ _ (by rw [length_partRow] at hi; exact hi)]; rfl) (Nat.le_refl _) hra.lt) (by rw [making_own, length_partRow])
      have hc0 : ((w2.alloc (.cells (madeCells #[Value.int .i64 0] n) 2)).setCell ⟨w.heap.size, k, none⟩ (.slice (some ⟨w2.heap.size, 0, none⟩) n n)).cell? ⟨w.heap.size, k, none⟩ = some (.slice (some ⟨w2.heap.size, 0, none⟩) n n) :=
        World.cell?_setCell_same _ _ _ (hxa.cell (hb.cell hlt (Nat.le_refl _)))
      have hx0 : Ext w ((w2.alloc (.cells (madeCells #[Value.int .i64 0] n) 2)).setCell ⟨w.heap.size, k, none⟩ (.slice (some ⟨w2.heap.size, 0, none⟩) n n)) := (hx.trans hxa).setNew (Nat.le_refl _) _
      rw [World.setCell_alloc_past _ _ _ _ hlb] at hb0 hc0 hx0
      clear hxa hra hb hx
      go_loopw [25] (fun i wr => ∃ j : Nat, j ≤ n ∧ i = .int .i64 j ∧ Build wr w.heap.size 27 n (k + 1) (making f n k j) ∧ wr.cell? ⟨w.heap.size, k, none⟩ = some (.slice (some ⟨w2.heap.size, 0, none⟩) n n) ∧ Ext w wr) (fun i _ => n - (intOf i).toNat)
      case atStart => exact ⟨0, Nat.zero_le _, rfl, hb0, hc0, hx0⟩
      case round =>
        clear hb0 hc0 hx0
        obtain ⟨j, hj, rfl, hb, hc, hx⟩ := hrel
        by_cases hjl : j < n
        case neg =>
          go_wp2
          go_roundw
          case rel => exact ⟨k + 1, by omega, by go_num, hb.congr (fun i _ => by
            have : j = n := by omega
            subst this
            exact making_all f j k i), hx⟩
          case measure => simp [intOf]; omega
        case pos =>
          have hlen : (making f n k j k).length = n := by rw [making_own, length_partRow]
          go_wp2
          obtain ⟨b1, c1, hrc, hro⟩ := hb.row (k0 := k) (by omega) hlt
          rw [hc, hlen] at hrc
          simp only [Option.some.injEq, Value.slice.injEq, Addr.mk.injEq, and_true, true_and] at hrc
          obtain ⟨rfl, rfl⟩ := hrc
          have r1 := hro.2.2.1 j (by rw [hlen]; exact hjl)
          have r2 := hro.2.2.2 j (by rw [hlen]; exact hjl)
          have r3 := hro.2.1
          rw [Nat.zero_add] at r1 r2
          generalize ix (making f n k j k) j = z at r1
          clear hro
          have HL := Lib.hid hlen
          clear hlen
          go_region_with (refine (HF.out _ k j hx.drew hlt hjl).mono ?_; rintro e w3 ⟨rfl, hx3⟩; have d0 := hx3.cell (show wr.drew.cell? _ = some _ from hc); have d1 := hx3.cell (show wr.drew.cell? _ = some _ from r1); have d2 := hx3.free (show wr.drew.frozen? _ = false from r2) r3)
          all_goals
            go_wp2
            go_roundw
            case rel => exact ⟨j + 1, by omega, by go_num, hb.store (k0 := k) (by omega) hlt (by rw [HL.out]; exact hc) ((Ext.drew (Ext.refl _)).trans hx3) j _ (by rw [HL.out]; exact hjl) (fun i hi => by rw [making_other _ _ _ _ _ hi, making_other _ _ _ _ _ hi]) (by rw [making_own, making_own, length_partRow, length_partRow]) (fun i hi hi2 => by
                rw [HL.out] at hi2
                rw [making_own, making_own, ix_partRow _ _ _ _ _ hi2, ix_partRow _ _ _ _ _ hi2]
                by_cases h : i < j
                · rw [if_pos h, if_pos (by omega)]
                · rw [if_neg h, if_neg (by omega)]) (by rw [making_own, ix_partRow _ _ _ _ _ hjl, if_pos (by omega)]), by rw [World.cell?_setCell_other _ _ _ _ (fun h => by have := congrArg Addr.block h; simp only [] at this; omega)]; exact d0, ((hx.drew).trans hx3).setNew (by simp only []; omega) _⟩
            case measure => simp [intOf]; omega
end Go.Proofs.YtjfjpngajboidaaGreat


namespace Go.Proofs.YtjfjpngajboidaaGreat
set_option linter.unusedVariables false
set_option linter.unusedSimpArgs false

@[irreducible] def tab (ts : List (List (List Int))) (k : Nat) : List (List Int) := ts.getD k []
theorem tab_eq (ts : List (List (List Int))) (k : Nat) : tab ts k = ts.getD k [] := by unfold tab; rfl
theorem tab_one (t : List (List Int)) : tab [t] 0 = t := by rw [tab_eq]; rfl
theorem tab_two0 (t u : List (List Int)) : tab [t, u] 0 = t := by rw [tab_eq]; rfl
theorem tab_two1 (t u : List (List Int)) : tab [t, u] 1 = u := by rw [tab_eq]; rfl
def TabsOk (n : Nat) (ts : List (List (List Int))) : Prop := ∀ k, k < ts.length → TableOk (tab ts k) ∧ (tab ts k).length = n
theorem TabsOk.bd {n : Nat} {ts : List (List (List Int))} (h : TabsOk n ts) {k x y : Nat} (hk : k < ts.length) (hx : x < n) (hy : y < n) : 0 ≤ ent (tab ts k) x y ∧ (ent (tab ts k) x y).toNat < n := by
  obtain ⟨h1, h2⟩ := h k hk
  have := h1.bd (x := x) (y := y) (by omega) (by omega)
  omega
theorem TabsOk.one {t : List (List Int)} (h : TableOk t) : TabsOk t.length [t] := fun k hk => by
  have : k = 0 := by simpa using hk
  subst this
  rw [tab_one]; exact ⟨h, rfl⟩
theorem TabsOk.two {t u : List (List Int)} (h : TableOk t) (h2 : TableOk u) (hl : u.length = t.length) : TabsOk t.length [t, u] := fun k hk => by
  have : k = 0 ∨ k = 1 := by have := hk; simp at this; omega
  rcases this with rfl | rfl
  · rw [tab_two0]; exact ⟨h, rfl⟩
  · rw [tab_two1]; exact ⟨h2, hl⟩

def IsoOk (n : Nat) (az bz : List (List (List Int))) (p : List Int) : Prop :=
  p.length = n ∧ PermOk p ∧ ∀ k, k < az.length → ∀ x, x < n → ∀ y, y < n → ix p (ent (tab az k) x y).toNat = ent (tab bz k) (ix p x).toNat (ix p y).toNat
theorem IsoOk.bd {n : Nat} {az bz : List (List (List Int))} {p : List Int} (h : IsoOk n az bz p) {x : Nat} (hx : x < n) : 0 ≤ ix p x ∧ (ix p x).toNat < n := by
  obtain ⟨h1, ⟨h2, _⟩, _⟩ := h
  have := h2 x (by omega)
  omega
theorem IsoOk.inj {n : Nat} {az bz : List (List (List Int))} {p : List Int} (h : IsoOk n az bz p) {x y : Nat} (hx : x < n) (hy : y < n) (e : ix p x = ix p y) : x = y := by
  obtain ⟨h1, ⟨_, h2⟩, _⟩ := h
  rcases Nat.lt_trichotomy x y with g | g | g
  · exact absurd e (h2 y (by omega) x g)
  · exact g
  · exact absurd e.symm (h2 x (by omega) y g)
theorem IsoOk.surj {n : Nat} {az bz : List (List (List Int))} {p : List Int} (h : IsoOk n az bz p) {y : Nat} (hy : y < n) : ∃ x, x < n ∧ ix p x = (y : Int) := by
  obtain ⟨h1, h2, _⟩ := h
  have := (permOk_iff_has p).1 h2 y (by omega)
  rcases indexOf_spec p y with ⟨e, _⟩ | ⟨i, hi, _, e, _⟩
  · omega
  · exact ⟨i, by omega, e⟩

def allL (n : Nat) : Nat → List (List Int)
  | 0 => [[]]
  | m + 1 => (intRange n).flatMap fun v => (allL n m).map (v :: ·)
theorem mem_allL (n : Nat) : ∀ (m : Nat) (p : List Int), p ∈ allL n m ↔ p.length = m ∧ ∀ i, i < m → 0 ≤ ix p i ∧ ix p i < n
  | 0, p => by
    unfold allL
    rw [List.mem_singleton]
    constructor
    · rintro rfl; exact ⟨rfl, fun i hi => by omega⟩
    · rintro ⟨h, _⟩; exact List.length_eq_zero_iff.1 h
  | m + 1, p => by
    unfold allL
    rw [List.mem_flatMap]
    constructor
    · rintro ⟨v, hv, hp⟩
      rw [List.mem_map] at hp
      obtain ⟨q, hq, rfl⟩ := hp
      obtain ⟨h1, h2⟩ := (mem_allL n m q).1 hq
      refine ⟨by simp [h1], fun i hi => ?_⟩
      cases i with
      | zero => rw [ix_eq]; simpa using mem_intRange.1 hv
      | succ i =>
        have := h2 i (by omega)
        rw [ix_eq] at this ⊢
        simpa using this
    · rintro ⟨h1, h2⟩
      cases p with
      | nil => simp at h1
      | cons v q =>
        refine ⟨v, ?_, ?_⟩
        · have := h2 0 (by omega)
          rw [ix_eq] at this
          exact mem_intRange.2 (by simpa using this)
        · rw [List.mem_map]
          refine ⟨q, (mem_allL n m q).2 ⟨by simpa using h1, fun i hi => ?_⟩, rfl⟩
          have := h2 (i + 1) (by omega)
          rw [ix_eq] at this ⊢
          simpa using this
def LexLt (p q : List Int) : Prop := ∃ d, (∀ i, i < d → ix p i = ix q i) ∧ ix p d < ix q d
theorem sorted_allL (n : Nat) : ∀ m, (allL n m).Pairwise LexLt
  | 0 => by unfold allL; exact List.pairwise_singleton _ _
  | m + 1 => by
    unfold allL
    rw [List.pairwise_flatMap]
    refine ⟨fun v _ => ?_, ?_⟩
    · rw [List.pairwise_map]
      refine (sorted_allL n m).imp ?_
      rintro p q ⟨d, h1, h2⟩
      refine ⟨d + 1, fun i hi => ?_, ?_⟩
      · cases i with
        | zero => rw [ix_eq, ix_eq]; rfl
        | succ i =>
          have := h1 i (by omega)
          rw [ix_eq, ix_eq] at this ⊢
          simpa using this
      · rw [ix_eq, ix_eq] at h2 ⊢
        simpa using h2
    · unfold intRange
      rw [List.pairwise_map]
      refine List.pairwise_lt_range.imp ?_
      intro a b hab x hx y hy
      rw [List.mem_map] at hx hy
      obtain ⟨p, _, rfl⟩ := hx
      obtain ⟨q, _, rfl⟩ := hy
      refine ⟨0, fun i hi => by omega, ?_⟩
      rw [ix_eq, ix_eq]
      simpa using hab

def ExtP (f p : List Int) : Prop := ∀ i, i < f.length → 0 ≤ ix f i → ix p i = ix f i
theorem LexLt.irrefl (p : List Int) : ¬ LexLt p p := by
  rintro ⟨d, _, h⟩; omega
@[irreducible] def below (M : List (List Int)) (x k : Nat) : List (List Int) := M.filter fun p => decide (ix p x < (k : Int))
theorem ix_app {f g : List Int} {i : Nat} (h : i < f.length) : ix (f ++ g) i = ix f i := by
  rw [ix_eq, ix_eq]; simp [List.getD, List.getElem?_append_left h]
theorem ix_snoc (f : List Int) (v : Int) : ix (f ++ [v]) f.length = v := by rw [ix_eq]; simp
end Go.Proofs.YtjfjpngajboidaaGreat


namespace Go.Proofs.YtjfjpngajboidaaGreat
set_option linter.unusedVariables false
set_option linter.unusedSimpArgs false

/-! ### the order of lists -/
@[irreducible] def lessB (l m : List Int) : Bool := decide (l < m)
theorem lessB_iff {l m : List Int} : lessB l m = true ↔ l < m := by unfold lessB; simp
theorem lessB_no {l m : List Int} : lessB l m = false ↔ ¬ l < m := by unfold lessB; simp
theorem lessB_at (l m : List Int) (i : Nat) (hl : i < l.length) (hm : i < m.length) : lessB (l.drop i) (m.drop i) = if ix l i = ix m i then lessB (l.drop (i + 1)) (m.drop (i + 1)) else decide (ix l i < ix m i) := by
  rw [drop_cons l i hl, drop_cons m i hm]
  unfold lessB
  by_cases h : ix l i = ix m i
  · rw [if_pos h]
    simp [List.cons_lt_cons_iff, h]
  · rw [if_neg h]
    simp [List.cons_lt_cons_iff, h]
theorem lessB_end (l m : List Int) (i : Nat) (hl : i ≤ l.length) (hm : i ≤ m.length) (h : ¬ (i < l.length ∧ i < m.length)) : lessB (l.drop i) (m.drop i) = decide (l.length < m.length) := by
  unfold lessB
  by_cases h1 : i < l.length
  · have : m.drop i = [] := List.drop_of_length_le (by omega)
    rw [this]
    have h2 : ¬ l.length < m.length := by omega
    simp [h2]
  · have : l.drop i = [] := List.drop_of_length_le (by omega)
    rw [this]
    by_cases h2 : i < m.length
    · rw [drop_cons m i h2]
      have h3 : l.length < m.length := by omega
      simp [h3]
    · have : m.drop i = [] := List.drop_of_length_le (by omega)
      rw [this]
      have h3 : ¬ l.length < m.length := by omega
      simp [h3]
theorem less_irrefl (l : List Int) : ¬ l < l := List.lt_irrefl l
theorem less_trans {a b c : List Int} (h : a < b) (k : b < c) : a < c := List.lt_trans h k
theorem less_tri : ∀ (a b : List Int), a < b ∨ a = b ∨ b < a
  | [], [] => .inr (.inl rfl)
  | [], _ :: _ => .inl (by simp)
  | _ :: _, [] => .inr (.inr (by simp))
  | x :: r, y :: s => by
    rcases Int.lt_trichotomy x y with g | g | g
    · exact .inl (List.cons_lt_cons_iff.2 (.inl g))
    · subst g
      rcases less_tri r s with h | h | h
      · exact .inl (List.cons_lt_cons_iff.2 (.inr ⟨rfl, h⟩))
      · exact .inr (.inl (by rw [h]))
      · exact .inr (.inr (List.cons_lt_cons_iff.2 (.inr ⟨rfl, h⟩)))
    · exact .inr (.inr (List.cons_lt_cons_iff.2 (.inl g)))

@[irreducible] def sortI (l : List Int) : List Int := l.mergeSort (fun a b => decide (a ≤ b))
theorem sortI_perm (l : List Int) : (sortI l).Perm l := by unfold sortI; exact List.mergeSort_perm l _
theorem length_sortI (l : List Int) : (sortI l).length = l.length := (sortI_perm l).length_eq

/-! ### marks -/
@[irreducible] def ownN (u v x y : Int) : Int := (if u = y then 1 else 0) + (if v = y then 2 else 0) + (if u = x then 4 else 0) + (if v = x then 8 else 0)
@[irreducible] def ent1 (ts : List (List (List Int))) (c : List Int) (k x y : Nat) : Int :=
  ((ix c y * 64 + ix c (ent (tab ts k) x y).toNat) * 64 + ix c (ent (tab ts k) y x).toNat) * 16 + ownN (ent (tab ts k) x y) (ent (tab ts k) y x) x y
@[irreducible] def cntN (ts : List (List (List Int))) (k x y m : Nat) : Nat := (List.range m).countP fun z => decide (ent (tab ts k) y z = (x : Int))
@[irreducible] def ent2 (ts : List (List (List Int))) (c : List Int) (n k x y : Nat) : Int := 1099511627776 + ix c y * 64 + (cntN ts k x y n : Nat)
@[irreducible] def entL (ts : List (List (List Int))) (c : List Int) (n k x : Nat) : List Int := mkL n (ent1 ts c k x) ++ mkL n (ent2 ts c n k x)
theorem length_entL (ts : List (List (List Int))) (c : List Int) (n k x : Nat) : (entL ts c n k x).length = 2 * n := by
  unfold entL; rw [List.length_append, length_mkL, length_mkL]; omega
def markL (ts : List (List (List Int))) (c : List Int) (n x : Nat) : Nat → List Int
  | 0 => [ix c x]
  | K + 1 => markL ts c n x K ++ sortI (entL ts c n K x)
theorem length_markL (ts : List (List (List Int))) (c : List Int) (n x : Nat) : ∀ K, (markL ts c n x K).length = 1 + K * (2 * n)
  | 0 => by simp [markL]
  | K + 1 => by
    unfold markL
    rw [List.length_append, length_markL ts c n x K, length_sortI, length_entL]
    have : (K + 1) * (2 * n) = K * (2 * n) + 2 * n := Nat.succ_mul _ _
    omega
theorem markL_head (ts : List (List (List Int))) (c : List Int) (n x : Nat) : ∀ K, ix (markL ts c n x K) 0 = ix c x
  | 0 => by unfold markL; rw [ix_eq]; rfl
  | K + 1 => by
    unfold markL
    rw [ix_app (by rw [length_markL]; omega)]
    exact markL_head ts c n x K

/-! ### the kinds of marks -/
theorem sub_len {α : Type} [DecidableEq α] : ∀ {a b : List α}, a.Nodup → (∀ x, x ∈ a → x ∈ b) → a.length ≤ b.length
  | [], b, _, _ => Nat.zero_le _
  | x :: r, b, hn, hs => by
    rw [List.nodup_cons] at hn
    have hx : x ∈ b := hs x (by simp)
    have := sub_len (a := r) (b := b.erase x) hn.2 (fun y hy => by
      have hne : y ≠ x := fun e => hn.1 (e ▸ hy)
      exact (List.mem_erase_of_ne hne).2 (hs y (by simp [hy])))
    rw [List.length_erase_of_mem hx] at this
    have := List.length_pos_of_mem hx
    simp; omega
def Kinds (M K : List (List Int)) : Prop := K.Pairwise (· < ·) ∧ (∀ m, m ∈ K → m ∈ M) ∧ (∀ m, m ∈ M → m ∈ K)
theorem Kinds.nil : Kinds [] [] := ⟨List.Pairwise.nil, fun _ h => h, fun _ h => h⟩
theorem Kinds.nodup {M K : List (List Int)} (h : Kinds M K) : K.Nodup := by
  rw [List.nodup_iff_pairwise_ne]
  refine h.1.imp ?_
  intro a b hab e
  subst e
  exact less_irrefl _ hab
theorem Kinds.skip {M K : List (List Int)} (h : Kinds M K) {i : Nat} {m : List Int} (hi : i < K.length) (he : row K i = m) : Kinds (M ++ [m]) K := by
  refine ⟨h.1, fun x hx => List.mem_append_left _ (h.2.1 x hx), fun x hx => ?_⟩
  rcases List.mem_append.1 hx with g | g
  · exact h.2.2 x g
  · have : x = m := by simpa using g
    subst this
    rw [← he, row_eq]
    simp [List.getD, hi]
theorem Kinds.insert {M K : List (List Int)} (h : Kinds M K) {i : Nat} {m : List Int} (hi : i ≤ K.length) (h1 : ∀ j, j < i → row K j < m) (h2 : i < K.length → ¬ row K i < m ∧ row K i ≠ m) :
    Kinds (M ++ [m]) (K.take i ++ ([m] ++ K.drop i)) := by
  have hsplit : K = K.take i ++ K.drop i := (List.take_append_drop i K).symm
  have hp := h.1
  rw [hsplit, List.pairwise_append] at hp
  obtain ⟨p1, p2, p3⟩ := hp
  have ht : ∀ x, x ∈ K.take i → x < m := by
    intro x hx
    obtain ⟨j, hj, rfl⟩ := List.mem_iff_getElem.1 hx
    have hj' : j < i ∧ j < K.length := by rw [List.length_take] at hj; omega
    have := h1 j hj'.1
    rw [row_eq] at this
    simpa [List.getD, hj'.2] using this
  have hd : ∀ x, x ∈ K.drop i → m < x := by
    intro x hx
    have hlt : i < K.length := by
      apply Classical.byContradiction
      intro g
      rw [List.drop_of_length_le (by omega)] at hx
      simp at hx
    obtain ⟨a, b⟩ := h2 hlt
    have hm : m < row K i := by
      rcases less_tri (row K i) m with g | g | g
      · exact absurd g a
      · exact absurd g b
      · exact g
    rw [row_drop K i hlt] at hx p2
    rw [List.pairwise_cons] at p2
    rcases List.mem_cons.1 hx with g | g
    · rw [g]; exact hm
    · exact less_trans hm (p2.1 x g)
  refine ⟨?_, ?_, ?_⟩
  · rw [List.pairwise_append]
    refine ⟨p1, ?_, ?_⟩
    · rw [List.singleton_append, List.pairwise_cons]
      exact ⟨hd, p2⟩
    · intro x hx y hy
      rw [List.singleton_append] at hy
      rcases List.mem_cons.1 hy with g | g
      · rw [g]; exact ht x hx
      · exact p3 x hx y g
  · intro x hx
    rcases List.mem_append.1 hx with g | g
    · exact List.mem_append_left _ (h.2.1 x (List.mem_of_mem_take g))
    · rw [List.singleton_append] at g
      rcases List.mem_cons.1 g with g | g
      · exact List.mem_append_right _ (by simp [g])
      · exact List.mem_append_left _ (h.2.1 x (List.mem_of_mem_drop g))
  · intro x hx
    rcases List.mem_append.1 hx with g | g
    · have := h.2.2 x g
      rw [hsplit] at this
      rcases List.mem_append.1 this with g | g
      · exact List.mem_append_left _ g
      · exact List.mem_append_right _ (List.mem_append_right _ g)
    · have : x = m := by simpa using g
      exact List.mem_append_right _ (List.mem_append_left _ (by simp [this]))
@[irreducible] def placeL (K : List (List Int)) (m : List Int) : Nat := K.findIdx (fun x => decide (x = m))
theorem placeL_lt {K : List (List Int)} {m : List Int} (h : m ∈ K) : placeL K m < K.length := by
  unfold placeL
  exact List.findIdx_lt_length_of_exists ⟨m, h, by simp⟩
theorem placeL_at {K : List (List Int)} {m : List Int} (h : m ∈ K) : row K (placeL K m) = m := by
  have hl := placeL_lt h
  rw [row_eq]
  unfold placeL at hl ⊢
  have := List.findIdx_getElem (w := hl)
  simp [List.getD, hl] at this ⊢
  exact this
theorem placeL_ahead {K : List (List Int)} {m : List Int} {j : Nat} (h : j < placeL K m) : row K j ≠ m := by
  intro e
  unfold placeL at h
  have h1 := List.not_of_lt_findIdx h
  rw [row_eq] at e
  have hj : j < K.length := Nat.lt_of_lt_of_le h (List.findIdx_le_length)
  simp [List.getD, hj] at e h1
  exact h1 e
theorem Kinds.more {M K : List (List Int)} (h : Kinds M K) {number : Nat} (hc : ∀ c : Nat, c < number → ∃ i, i < M.length ∧ ix (row M i) 0 = (c : Int)) : number ≤ K.length := by
  have := sub_len (a := intRange number) (b := K.map fun m => ix m 0) (nodup_intRange _) (fun x hx => by
    have hx' := mem_intRange.1 hx
    obtain ⟨i, hi, e⟩ := hc x.toNat (by omega)
    rw [List.mem_map]
    refine ⟨row M i, h.2.2 _ ?_, by omega⟩
    rw [row_eq]; simp [List.getD, hi])
  rw [length_intRange] at this
  simpa using this
theorem Kinds.used {M K : List (List Int)} (h : Kinds M K) {c : Nat} (hc : c < K.length) : ∃ i, i < M.length ∧ placeL K (row M i) = c := by
  have hm : row K c ∈ K := by rw [row_eq]; simp [List.getD, hc]
  obtain ⟨i, hi, e⟩ := List.mem_iff_getElem.1 (h.2.1 _ hm)
  refine ⟨i, hi, ?_⟩
  have er : row M i = row K c := by rw [row_eq]; simp [List.getD, hi, e]
  rw [er]
  have hp := placeL_at hm
  have hl := placeL_lt hm
  rcases Nat.lt_trichotomy (placeL K (row K c)) c with g | g | g
  · have hn := h.nodup
    rw [List.nodup_iff_pairwise_ne, List.pairwise_iff_getElem] at hn
    have := hn _ _ hl hc g
    have e1 : K[placeL K (row K c)] = row K (placeL K (row K c)) := by rw [row_eq K (placeL K (row K c))]; simp [List.getD, hl]
    have e2 : K[c] = row K c := by rw [row_eq]; simp [List.getD, hc]
    rw [e1, e2] at this
    exact absurd hp this
  · exact g
  · exact absurd rfl (placeL_ahead g)
end Go.Proofs.YtjfjpngajboidaaGreat


namespace Go.Proofs.YtjfjpngajboidaaGreat
set_option linter.unusedVariables false
set_option linter.unusedSimpArgs false

theorem isoOk_plain {n : Nat} {p : List Int} : IsoOk n [] [] p ↔ p.length = n ∧ PermOk p := by
  constructor
  · intro h; exact ⟨h.1, h.2.1⟩
  · rintro ⟨h1, h2⟩; exact ⟨h1, h2, fun k hk => by simp at hk⟩
def Falls (p : List Int) (i : Nat) : Prop := ∀ j, i ≤ j → j + 1 < p.length → ix p (j + 1) < ix p j
def Rises (p : List Int) (i : Nat) : Prop := ∀ j, i ≤ j → j + 1 < p.length → ix p j < ix p (j + 1)
structure NextP (n : Nat) (p q : List Int) (i : Nat) : Prop where
  hin : i < n
  falls : Falls p (i + 1)
  same : ∀ j, j < i → ix q j = ix p j
  more : ix p i < ix q i
  least : ∀ j, i < j → j < n → ix p i < ix p j → ix q i ≤ ix p j
  rises : Rises q (i + 1)
theorem LexLt.trans {p q r : List Int} (h : LexLt p q) (k : LexLt q r) : LexLt p r := by
  obtain ⟨d, h1, h2⟩ := h
  obtain ⟨e, k1, k2⟩ := k
  rcases Nat.lt_trichotomy d e with g | g | g
  · exact ⟨d, fun i hi => (h1 i hi).trans (k1 i (by omega)), by rw [← k1 d g]; exact h2⟩
  · subst g; exact ⟨d, fun i hi => (h1 i hi).trans (k1 i hi), by omega⟩
  · exact ⟨e, fun i hi => (h1 i (by omega)).trans (k1 i hi), by rw [h1 e g]; exact k2⟩
theorem NextP.lt {n i : Nat} {p q : List Int} (h : NextP n p q i) : LexLt p q := ⟨i, fun j hj => (h.same j hj).symm, h.more⟩
end Go.Proofs.YtjfjpngajboidaaGreat
