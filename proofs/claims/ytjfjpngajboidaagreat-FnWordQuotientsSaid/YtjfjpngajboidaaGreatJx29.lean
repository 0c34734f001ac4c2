/-
  Contracts of the helpers of laws.go: likeRows5, roll, below.
-/
import Derived.Test.YtjfjpngajboidaaGreatJx12
namespace Go.Proofs.YtjfjpngajboidaaGreat
set_option linter.unusedVariables false
set_option linter.unusedSimpArgs false
open Go.RowKit

def RowsE (w : World) (v : Value) (t : List (List Int)) : Prop := t.length ≤ 1048576 ∧ (∃ a c, v = .slice a t.length c) ∧ (0 < t.length → Rows w v t)
theorem RowsE.of {w : World} {v : Value} {t : List (List Int)} (h : Rows w v t) : RowsE w v t := by
  obtain ⟨h0, b, o, c, rfl, hc⟩ := id h
  exact ⟨h0, ⟨_, _, rfl⟩, fun _ => h⟩

set_option maxRecDepth 100000 in
set_option maxHeartbeats 1000000 in
theorem likeRows5_same (t : List (List Int)) (v u : Value) (w : World) (hv : RowsE w v t) (hu : RowsE w u t) :
    Calls Tryz.prog 16 #[v, u] w fun e w' => e = .returned (.bool true) ∧ Drawn w w' := by
  obtain ⟨hl, ⟨a1, c1, rfl⟩, h1⟩ := hv
  obtain ⟨-, ⟨a2, c2, rfl⟩, h2⟩ := hu
  have H1 := Lib.hid h1
  have H2 := Lib.hid h2
  clear h1 h2
  go_enter Tryz.func16, Tryz.ntmps16
  go_wp2
  go_loopw [5] (fun i wr => ∃ k : Nat, k ≤ t.length ∧ i = .int .i64 k ∧ Drawn w wr) (fun i _ => t.length - (intOf i).toNat)
  case atStart => exact ⟨0, Nat.zero_le _, rfl, Drawn.refl _⟩
  case round =>
    obtain ⟨k, hk, rfl, hx⟩ := hrel
    by_cases hlt : k < t.length
    · have hki : (k : Int) < (t.length : Int) := by omega
      obtain ⟨-, b1, o1, d1, e1, hc1⟩ := H1.out (by omega)
      obtain ⟨-, b2, o2, d2, e2, hc2⟩ := H2.out (by omega)
      simp only [Value.slice.injEq, true_and] at e1 e2
      obtain ⟨rfl, rfl⟩ := e1
      obtain ⟨rfl, rfl⟩ := e2
      obtain ⟨r1, q1, i1⟩ := hc1 k hlt
      obtain ⟨r2, q2, i2⟩ := hc2 k hlt
      have j1 := hx.ext.cell q1
      have j2 := hx.ext.cell q2
      have I1 := Lib.hid (i1.toR.ext hx.ext)
      have I2 := Lib.hid (i2.toR.ext hx.ext)
      have hl1 := i1.1
      obtain ⟨-, x1, y1, z1, rfl, -⟩ := id i1
      obtain ⟨-, x2, y2, z2, rfl, -⟩ := id i2
      have HE := Lib.hid (show eqIB (row t k) (row t k) = true from eqIB_yes rfl)
      clear i1 i2 q1 q2
      go_wp2
      go_quiet ((go_at_call 11; exact Calls.quiet_of ((likeInts_any (row t k) (row t k) _ _ _ (I1.out.ext (by (repeat first | (with_reducible exact Ext.refl _) | (with_reducible assumption) | (with_reducible apply Ext.drew) | (with_reducible apply kx_drewN) | (with_reducible apply kx_alloc) | ((with_reducible refine kx_set ?_ ?_); (first | (simp only []; omega) | (simp; omega) | (focus (simp; done)))) ))) (I2.out.ext (by (repeat first | (with_reducible exact Ext.refl _) | (with_reducible assumption) | (with_reducible apply Ext.drew) | (with_reducible apply kx_drewN) | (with_reducible apply kx_alloc) | ((with_reducible refine kx_set ?_ ?_); (first | (simp only []; omega) | (simp; omega) | (focus (simp; done)))) ))) hl1).mono (fun e w' h => ⟨by rw [h.1, HE.out], h.2⟩))))
      go_wp2
      go_roundw
      case rel => exact ⟨k + 1, by omega, by go_num, hx.drewN _⟩
      case measure => simp [intOf]; omega
    · have hki : ¬ (k : Int) < (t.length : Int) := by omega
      go_wp2
      go_ret
      exact ⟨rfl, hx⟩

set_option maxRecDepth 100000 in
set_option maxHeartbeats 1000000 in
theorem below_any (S : Nat) (n : Int) (w : World) (hs : Src S w) :
    Calls Tryz.prog 18 #[.pointer (some ⟨S, 0, none⟩), .int .i64 n] w (NumPost S n w) := by
  obtain ⟨a, L, c, i, h, k1, k2, k3, k4, c0, c1, c2, f1, f2, hb⟩ := id hs
  have HS := Lib.hid hs
  clear hs
  go_enter Tryz.func18, Tryz.ntmps18
  by_cases hn : n < 1
  case pos =>
    go_wp2
    go_ret
    exact ⟨0, rfl, Int.le_refl _, fun h => by omega, fun _ => rfl, HS.out, Touch.of_ext (Ext.refl _)⟩
  case neg =>
    go_wp2
    obtain ⟨H, hH⟩ : ∃ H, H = IntKind.u64.wrap (IntKind.u64.wrap (h * 6364136223846793005) + 1442695040888963407) := ⟨_, rfl⟩
    rw [← hH]
    have hHb : 0 ≤ H ∧ H < 18446744073709551616 := by rw [hH]; exact u64_bd _
    clear hH
    obtain ⟨X, hX⟩ : ∃ X, X = wrap64 (bits BinOp.and IntKind.u64 (H / 8589934592) 16777215) := ⟨_, rfl⟩
    rw [← hX]
    have hXb : 0 ≤ X ∧ X < 16777216 := by rw [hX]; exact hash_bd hHb.1 hHb.2
    clear hX
    obtain ⟨w1, hw1⟩ : ∃ w1, w1 = w.setCell ⟨S, 2, none⟩ (.int .u64 H) := ⟨_, rfl⟩
    rw [← hw1]
    have d0 : w1.cell? ⟨S, 0, none⟩ = some (.slice a L c) := by rw [hw1]; exact (World.cell?_setCell_other _ _ _ _ (by simp)).trans c0
    have d1 : w1.cell? ⟨S, 1, none⟩ = some (.int .i64 i) := by rw [hw1]; exact (World.cell?_setCell_other _ _ _ _ (by simp)).trans c1
    have d2 : w1.cell? ⟨S, 2, none⟩ = some (.int .u64 H) := by rw [hw1]; exact kc_same c2
    have e1 : w1.frozen? ⟨S, 1, none⟩ = false := by rw [hw1]; exact kf_set f1
    have e2 : w1.frozen? ⟨S, 2, none⟩ = false := by rw [hw1]; exact kf_set f2
    have hT : Touch S (S + 1) w w1 := by rw [hw1]; exact Touch.set _ _ _ _
    have hB : 0 < L → ∃ b o, a = some ⟨b, o, none⟩ ∧ b < S ∧ ∀ j, j < L → ∃ x : Int, 0 ≤ x ∧ x ≤ 255 ∧ w1.cell? ⟨b, o + j, none⟩ = some (.int .u8 x) := fun h0 => by
      obtain ⟨b, o, rfl, hlb, hc⟩ := hb h0
      have hne := Nat.ne_of_lt hlb
      refine ⟨b, o, rfl, hlb, fun j hj => ?_⟩
      obtain ⟨x, x1, x2, x3⟩ := hc j hj
      exact ⟨x, x1, x2, by rw [hw1, World.cell?_setCell_other _ _ _ _ (by first | exact fun h => hne (congrArg Addr.block h) | exact fun h => hne (congrArg Addr.block h).symm)]; exact x3⟩
    have HB := Lib.hid hB
    have HT := Lib.hid hT
    clear hw1 hb hB hT c0 c1 c2 f1 f2 HS
    by_cases hi : i < L
    case neg =>
      go_quiet (fail)
      go_wp2
      go_ret
      have hr := Int.emod_nonneg X (b := n) (by omega)
      have hr2 := Int.emod_lt_of_pos X (b := n) (by omega)
      refine ⟨X % n, rfl, hr, fun _ => hr2, fun h => by omega, ?_, HT.out.trans (Touch.of_ext (by (repeat first | (with_reducible exact Ext.refl _) | (with_reducible assumption) | (with_reducible apply Ext.drew) | (with_reducible apply kx_drewN) | (with_reducible apply kx_alloc) | ((with_reducible refine kx_set ?_ ?_); (first | (simp only []; omega) | (simp; omega) | (focus (simp; done)))) )))⟩
      exact Src.ext (w := w1) ⟨a, L, c, i, H, k1, k2, hHb.1, hHb.2, d0, d1, d2, e1, e2, HB.out⟩ (by (repeat first | (with_reducible exact Ext.refl _) | (with_reducible assumption) | (with_reducible apply Ext.drew) | (with_reducible apply kx_drewN) | (with_reducible apply kx_alloc) | ((with_reducible refine kx_set ?_ ?_); (first | (simp only []; omega) | (simp; omega) | (focus (simp; done)))) ))
    case pos =>
      obtain ⟨b, o, rfl, hne, hc⟩ := HB.out (by omega)
      obtain ⟨x, x1, x2, x3⟩ := hc i hi
      clear hc
      go_quiet (fail)
      go_wp2
      go_quiet (fail)
      go_wp2
      go_ret
      have hr := Int.emod_nonneg (X + x) (b := n) (by omega)
      have hr2 := Int.emod_lt_of_pos (X + x) (b := n) (by omega)
      refine ⟨(X + x) % n, rfl, hr, fun _ => hr2, fun h => by omega, ?_, HT.out.trans ?_⟩
      · obtain ⟨b', o', e', hne', hc'⟩ := HB.out (by omega)
        exact ⟨some ⟨b, o, none⟩, L, c, i + 1, H, k1, by omega, hHb.1, hHb.2, kc_set2 (by simp) (kc_drewN d0), kc_same (kc_drewN d1), kc_set2 (by simp) (kc_drewN d2), kf_set e1, kf_set e2, fun _ => ⟨b', o', e', hne', fun j hj => by
          obtain ⟨y, y1, y2, y3⟩ := hc' j hj
          exact ⟨y, y1, y2, kc_set (Nat.ne_of_lt hne') (kc_drewN y3)⟩⟩⟩
      · exact (Touch.of_ext (by (repeat first | (with_reducible exact Ext.refl _) | (with_reducible assumption) | (with_reducible apply Ext.drew) | (with_reducible apply kx_drewN) | (with_reducible apply kx_alloc) | ((with_reducible refine kx_set ?_ ?_); (first | (simp only []; omega) | (simp; omega) | (focus (simp; done)))) ))).trans (Touch.set _ _ _ _)
set_option maxRecDepth 100000 in
set_option maxHeartbeats 1000000 in
theorem roll_any (bs : List Int) (v : Value) (w : World) (hv : BytesR w v bs) (hl : bs.length ≤ 4096) :
    Calls Tryz.prog 17 #[v, .int .u64 818] w (FromPost w) := by
  obtain ⟨a, c, rfl, hb, hc⟩ := hv
  have HB := Lib.hid hb
  have HC := Lib.hid hc
  clear hb hc
  go_enter Tryz.func17, Tryz.ntmps17
  go_wp2
  have hx0 : Ext w (w.alloc (.cells #[.slice a bs.length c, .int .i64 0, .int .u64 (4504726 + bs.length)] 66)) := (Ext.refl _).alloc _
  have g0 : (w.alloc (.cells #[.slice a bs.length c, .int .i64 0, .int .u64 (4504726 + bs.length)] 66)).cell? ⟨w.heap.size, 0, none⟩ = some (.slice a bs.length c) := by simp [go_sem]
  have g1 : (w.alloc (.cells #[.slice a bs.length c, .int .i64 0, .int .u64 (4504726 + bs.length)] 66)).cell? ⟨w.heap.size, 1, none⟩ = some (.int .i64 0) := by simp [go_sem]
  have g2 : (w.alloc (.cells #[.slice a bs.length c, .int .i64 0, .int .u64 (4504726 + bs.length)] 66)).cell? ⟨w.heap.size, 2, none⟩ = some (.int .u64 (4504726 + bs.length)) := by simp [go_sem]
  have q1 : (w.alloc (.cells #[.slice a bs.length c, .int .i64 0, .int .u64 (4504726 + bs.length)] 66)).frozen? ⟨w.heap.size, 1, none⟩ = false := by simp [go_sem]
  have q2 : (w.alloc (.cells #[.slice a bs.length c, .int .i64 0, .int .u64 (4504726 + bs.length)] 66)).frozen? ⟨w.heap.size, 2, none⟩ = false := by simp [go_sem]
  go_loopw [6] (fun i wr => ∃ (m : Nat) (h : Int), m ≤ bs.length ∧ i = .int .i64 m ∧ 0 ≤ h ∧ h < 18446744073709551616 ∧ wr.cell? ⟨w.heap.size, 0, none⟩ = some (.slice a bs.length c) ∧ wr.cell? ⟨w.heap.size, 1, none⟩ = some (.int .i64 0) ∧ wr.cell? ⟨w.heap.size, 2, none⟩ = some (.int .u64 h) ∧ wr.frozen? ⟨w.heap.size, 1, none⟩ = false ∧ wr.frozen? ⟨w.heap.size, 2, none⟩ = false ∧ Ext w wr) (fun i _ => bs.length - (intOf i).toNat)
  case atStart => exact ⟨0, 4504726 + bs.length, Nat.zero_le _, rfl, by omega, by omega, g0, g1, g2, q1, q2, hx0⟩
  case round =>
    clear hx0 g0 g1 g2 q1 q2
    obtain ⟨m, h, hm, rfl, h0, h1, c0, c1, c2, f1, f2, hx⟩ := hrel
    by_cases hlt : m < bs.length
    case neg =>
      have hlt' : ¬ (m : Int) < (bs.length : Int) := by omega
      go_wp2
      go_ret
      refine ⟨w.heap.size, rfl, Nat.le_refl _, ⟨a, bs.length, c, 0, h, hl, Nat.zero_le _, h0, h1, c0, c1, c2, f1, f2, fun hp => ?_⟩, hx⟩
      obtain ⟨b, o, rfl, hcc⟩ := HC.out (ne_nil_of_lt hp)
      refine ⟨b, o, rfl, ?_, fun j hj => ⟨ix bs j, (HB.out j hj).1, (HB.out j hj).2, hx.cell (hcc j hj)⟩⟩
      have := World.block_lt_of_cell? _ _ (hcc 0 hp)
      simp only [] at this
      omega
    case pos =>
      obtain ⟨b, o, rfl, hcc⟩ := HC.out (ne_nil_of_lt hlt)
      have e1 := hcc m hlt
      have hbl := World.block_lt_of_cell? _ _ e1
      simp only [] at hbl
      have e2 := hx.cell e1
      have hbd := HB.out m hlt
      clear hcc e1
      have h4 : (m : Int) < 4096 := by omega
      go_wp2
      go_region
      all_goals
        go_wp2
        go_roundw
        case rel =>
          exact ⟨m + 1, _, by omega, by go_num, (u64_bd _).1, (u64_bd _).2, kc_drew (kc_set2 (by simp) c0), kc_drew (kc_set2 (by simp) c1), kc_drew (kc_same c2), kf_drew (kf_set f1), kf_drew (kf_set f2), (hx.setNew (Nat.le_refl _) _).drew⟩
        case measure => simp [intOf]; omega
end Go.Proofs.YtjfjpngajboidaaGreat


namespace Go.Proofs.YtjfjpngajboidaaGreat
set_option linter.unusedVariables false
set_option linter.unusedSimpArgs false
open Go.RowKit
open Go.Deep

def TabsIn (base : Nat) (X : Nat → Prop)  (w : World) (b o n : Nat) (ts : List (List (List Int))) : Prop := b < base ∧ ¬ X b ∧ ∀ k, k < ts.length →
  ∃ b1 o1 c1, b1 < base ∧ ¬ X b1 ∧ w.cell? ⟨b, o + k, none⟩ = some (.slice (some ⟨b1, o1, none⟩) n c1) ∧ ∀ x, x < n →
    ∃ b2 o2 c2, b2 < base ∧ ¬ X b2 ∧ w.cell? ⟨b1, o1 + x, none⟩ = some (.slice (some ⟨b2, o2, none⟩) n c2) ∧ ∀ y, y < n → w.cell? ⟨b2, o2 + y, none⟩ = some (.int .i64 (ent (tab ts k) x y))
def KeepB (base : Nat) (X : Nat → Prop)  (w w' : World) : Prop := ∀ k, k < base → ¬ X k → w'.heap[k]? = w.heap[k]?
theorem KeepB.refl (base : Nat) (X : Nat → Prop)  (w : World) : KeepB base X w w := fun _ _ _ => rfl
theorem KeepB.trans {base : Nat} {X : Nat → Prop}  {a b c : World} (h : KeepB base X a b) (k : KeepB base X b c) : KeepB base X a c := fun i h1 h2 => (k i h1 h2).trans (h i h1 h2)
theorem KeepB.cell {base : Nat} {X : Nat → Prop}  {w w' : World} (h : KeepB base X w w') {b o : Nat} {v : Value} (h1 : b < base) (h2 : ¬ X b) (hc : w.cell? ⟨b, o, none⟩ = some v) : w'.cell? ⟨b, o, none⟩ = some v := by
  rw [World.cell?_of_block (w := w) (a := ⟨b, o, none⟩) (h b h1 h2)]; exact hc
theorem TabsIn.keep {base : Nat} {X : Nat → Prop}  {w w' : World} {b o n : Nat} {ts : List (List (List Int))} (h : TabsIn base X w b o n ts) (hk : KeepB base X w w') : TabsIn base X w' b o n ts := by
  obtain ⟨h1, h2, h3⟩ := h
  refine ⟨h1, h2, fun k hkl => ?_⟩
  obtain ⟨b1, o1, c1, g1, g2, g3, g4⟩ := h3 k hkl
  refine ⟨b1, o1, c1, g1, g2, hk.cell h1 h2 g3, fun x hx => ?_⟩
  obtain ⟨b2, o2, c2, k1, k2, k3, k4⟩ := g4 x hx
  exact ⟨b2, o2, c2, k1, k2, hk.cell g1 g2 k3, fun y hy => hk.cell k1 k2 (k4 y hy)⟩

def OwnP (M I U : Nat) (sv : Value) (b : Nat) : Prop := b = M ∨ b = I ∨ b = U ∨ sv.ownBlock = some b
def OwnsAt (vo vo' : Value) (w : World) : Prop := vo'.ownBlock = vo.ownBlock ∨ ∃ g, vo'.ownBlock = some g ∧ w.heap.size ≤ g
theorem OwnsAt.refl (v : Value) (w : World) : OwnsAt v v w := .inl rfl
theorem Only.mono {p q : Nat → Prop} {w w' : World} (h : Only p w w') (hpq : ∀ k, k < w.heap.size → p k → q k) : Only q w w' := ⟨h.os, h.tape, h.output, h.size, fun k hk hn => h.keep k hk (fun e => hn (hpq k hk e))⟩
theorem OwnsAt.trans {a b c : Value} {w w' : World} (h : OwnsAt a b w) (k : OwnsAt b c w') (hs : w.heap.size ≤ w'.heap.size) : OwnsAt a c w := by
  rcases k with e | ⟨g, e, hg⟩
  · rcases h with e2 | ⟨g, e2, hg⟩
    · exact .inl (e.trans e2)
    · exact .inr ⟨g, e.trans e2, hg⟩
  · exact .inr ⟨g, e, by omega⟩
theorem Only.next {M I U : Nat} {sv sv1 : Value} {w w1 w2 : World} (h : Only (OwnP M I U sv) w w1) (ha : OwnsAt sv sv1 w) (k : Only (OwnP M I U sv1) w1 w2) : Only (OwnP M I U sv) w w2 :=
  ⟨k.os.trans h.os, k.tape.trans h.tape, k.output.trans h.output, Nat.le_trans h.size k.size, fun i hi hn => (k.keep i (Nat.lt_of_lt_of_le hi h.size) (fun e => by
    rcases e with e | e | e | e
    · exact hn (.inl e)
    · exact hn (.inr (.inl e))
    · exact hn (.inr (.inr (.inl e)))
    · rcases ha with e2 | ⟨g, e2, hg⟩
      · exact hn (.inr (.inr (.inr (e2 ▸ e))))
      · rw [e2] at e
        injection e with e
        omega)).trans (h.keep i hi hn)⟩
theorem Only.ext {p : Nat → Prop} {w w' : World} (h : Ext w w') : Only p w w' := ⟨h.os, h.tape, h.output, h.size, fun k hk _ => h.block k hk⟩
theorem Only.keepB {p : Nat → Prop} {base : Nat} {X : Nat → Prop}  {w w' : World} (h : Only p w w') (hp : ∀ k, p k → base ≤ k) (hb : base ≤ w.heap.size) : KeepB base X w w' := fun k h1 _ => h.keep k (by omega) (fun e => by have := hp k e; omega)
theorem MapSt.ownLow {base : Nat} {w : World} {M I U : Nat} {v u : Value} {n : Nat} {f s : List Int} {sv : Value} (h : MapSt base w M I U v u n f s sv) : ∀ k, OwnP M I U sv k → base ≤ k := fun k e => by
  obtain ⟨l1, l2, l3⟩ := h.low
  rcases e with rfl | rfl | rfl | e
  · exact l1
  · exact l2
  · exact l3
  · exact (h.set.lt e).1
theorem MapSt.size {base : Nat} {w : World} {M I U : Nat} {v u : Value} {n : Nat} {f s : List Int} {sv : Value} (h : MapSt base w M I U v u n f s sv) : base ≤ w.heap.size := by
  have := h.img_lt
  have := h.low.1
  omega
theorem MapSt.drew {base : Nat} {w : World} {M I U : Nat} {v u : Value} {n : Nat} {f s : List Int} {sv : Value} (h : MapSt base w M I U v u n f s sv) : MapSt base w.drew M I U v u n f s sv := h.ext h.img_lt (Ext.refl w).drew
theorem MapSt.drewN {base : Nat} {w : World} {M I U : Nat} {v u : Value} {n : Nat} {f s : List Int} {sv : Value} (h : MapSt base w M I U v u n f s sv) (k : Nat) : MapSt base (w.drewN k) M I U v u n f s sv := h.ext h.img_lt ((Ext.refl w).drewN k)
theorem MapSt.put {base : Nat} {w : World} {M I U : Nat} {v u : Value} {n : Nat} {g s : List Int} {sv : Value} (h : MapSt base w M I U v u n g s sv) (hl : g.length = n) {x q : Nat} (hx : x < n) (hf : ix g x < 0) :
    MapSt base ((w.setCell ⟨I, x, none⟩ (.int .i64 (q : Int))).setCell ⟨U, q, none⟩ (.bool true)) M I U v u n (g.set x (q : Int)) s sv where
  c0 := kc_set (fun e => h.apart.2.1 e) (kc_set (fun e => h.apart.1 e) h.c0)
  c1 := kc_set (fun e => h.apart.2.1 e) (kc_set (fun e => h.apart.1 e) h.c1)
  c2 := kc_set (fun e => h.apart.2.1 e) (kc_set (fun e => h.apart.1 e) h.c2)
  c3 := kc_set (fun e => h.apart.2.1 e) (kc_set (fun e => h.apart.1 e) h.c3)
  c4 := kc_set (fun e => h.apart.2.1 e) (kc_set (fun e => h.apart.1 e) h.c4)
  fr := kf_set (kf_set h.fr)
  img := ((h.img.set x _).setOther (fun e => h.apart.2.2.1 e) _).congr fun i hi => by
    by_cases e : i = x
    · subst e; rw [if_pos rfl, ix_set_same _ _ _ (by rw [hl]; exact hx)]
    · rw [if_neg e, ix_set_other _ _ _ _ e]
  usd := ((h.usd.setOther (fun e => h.apart.2.2.1 e.symm) _).set q _).congr fun i hi => by
    rw [hasB_set hl hx hf]
    by_cases e : i = q
    · rw [if_pos e, if_pos e]
    · rw [if_neg e, if_neg e]
  set := (h.set.setOff (fun g hg => (h.apart.2.2.2 g hg).2.1) _).setOff (fun g hg => (h.apart.2.2.2 g hg).2.2) _
  apart := h.apart
  low := h.low
theorem MapSt.put2 {base : Nat} {w : World} {M I U : Nat} {v u : Value} {n : Nat} {g s : List Int} {sv : Value} (h : MapSt base w M I U v u n g s sv) (hl : g.length = n) {x q : Nat} (hx : x < n) (hf : ix g x < 0) :
    MapSt base ((w.setCell ⟨U, q, none⟩ (.bool true)).setCell ⟨I, x, none⟩ (.int .i64 (q : Int))) M I U v u n (g.set x (q : Int)) s sv where
  c0 := kc_set (fun e => h.apart.1 e) (kc_set (fun e => h.apart.2.1 e) h.c0)
  c1 := kc_set (fun e => h.apart.1 e) (kc_set (fun e => h.apart.2.1 e) h.c1)
  c2 := kc_set (fun e => h.apart.1 e) (kc_set (fun e => h.apart.2.1 e) h.c2)
  c3 := kc_set (fun e => h.apart.1 e) (kc_set (fun e => h.apart.2.1 e) h.c3)
  c4 := kc_set (fun e => h.apart.1 e) (kc_set (fun e => h.apart.2.1 e) h.c4)
  fr := kf_set (kf_set h.fr)
  img := ((h.img.setOther (fun e => h.apart.2.2.1 e) _).set x _).congr fun i hi => by
    by_cases e : i = x
    · subst e; rw [if_pos rfl, ix_set_same _ _ _ (by rw [hl]; exact hx)]
    · rw [if_neg e, ix_set_other _ _ _ _ e]
  usd := ((h.usd.set q _).setOther (fun e => h.apart.2.2.1 e.symm) _).congr fun i hi => by
    rw [hasB_set hl hx hf]
    by_cases e : i = q
    · rw [if_pos e, if_pos e]
    · rw [if_neg e, if_neg e]
  set := (h.set.setOff (fun g hg => (h.apart.2.2.2 g hg).2.2) _).setOff (fun g hg => (h.apart.2.2.2 g hg).2.1) _
  apart := h.apart
  low := h.low
theorem MapSt.app {base : Nat} {w w' : World} {M I U : Nat} {v u : Value} {n : Nat} {f s s' : List Int} {sv sv' : Value} {o : Obj} (h : MapSt base w M I U v u n f s sv) (hg : (w.alloc o).grownBy w' sv.ownBlock) (hs : GrowI 2 base w' sv' s') (hat : sv'.ownBlock = sv.ownBlock ∨ sv'.ownBlock = some (w.heap.size + 1)) :
    MapSt base (w'.setCell ⟨M, 4, none⟩ sv') M I U v u n f s' sv' := by
  have hx := h.ext h.img_lt ((Ext.refl w).alloc o)
  have hz : (w.alloc o).heap.size = w.heap.size + 1 := by simp
  have nM : M ≠ w.heap.size + 1 := by have := hx.img_lt; omega
  have nI : I ≠ w.heap.size + 1 := by have := hx.img.lt; omega
  have nU : U ≠ w.heap.size + 1 := by have := hx.usd.lt; omega
  have kM : some M ≠ sv.ownBlock := fun e => (h.apart.2.2.2 M e.symm).1 rfl
  have kI : some I ≠ sv.ownBlock := fun e => (h.apart.2.2.2 I e.symm).2.1 rfl
  have kU : some U ≠ sv.ownBlock := fun e => (h.apart.2.2.2 U e.symm).2.2 rfl
  have ap : ∀ g, sv'.ownBlock = some g → g ≠ M ∧ g ≠ I ∧ g ≠ U := fun g e => by
    rcases hat with e2 | e2
    · rw [e2] at e; exact h.apart.2.2.2 g e
    · rw [e2] at e; injection e with e
      subst e
      exact ⟨nM.symm, nI.symm, nU.symm⟩
  exact {
    c0 := kc_set2 (by simp) (hg.cell hx.c0 kM)
    c1 := kc_set2 (by simp) (hg.cell hx.c1 kM)
    c2 := kc_set2 (by simp) (hg.cell hx.c2 kM)
    c3 := kc_set2 (by simp) (hg.cell hx.c3 kM)
    c4 := kc_same (hg.cell hx.c4 kM)
    fr := kf_set (by
      have e := hg.block M hx.img_lt kM
      rw [World.frozen?_of_block (w := w.alloc o) (a := ⟨M, 4, none⟩) e]; exact hx.fr)
    img := (hx.img.of_block (hg.block I hx.img.lt kI)).setOther (fun e => h.apart.1 e.symm) _
    usd := (hx.usd.of_block (hg.block U hx.usd.lt kU)).setOther (fun e => h.apart.2.1 e.symm) _
    set := hs.setOff (fun g hg => (ap g hg).1) _
    apart := ⟨h.apart.1, h.apart.2.1, h.apart.2.2.1, ap⟩
    low := h.low }
theorem MapSt.row {base : Nat} {w : World} {M I U : Nat} {v u : Value} {n : Nat} {f s : List Int} {sv : Value} (h : MapSt base w M I U v u n f s sv) (hs : 0 < s.length) : ∃ S c, sv = .slice (some ⟨S, 0, none⟩) s.length c ∧ IntsAt w S 0 s := by
  obtain ⟨b, c, rfl, ho⟩ := h.set.own (fun e => by
    rcases h.set.2 with ⟨-, hn⟩ | ⟨g, cap, cur, rfl, _⟩
    · omega
    · simp at e)
  exact ⟨b, c, rfl, ho.2.2.1⟩
end Go.Proofs.YtjfjpngajboidaaGreat
