/-
  Contract of l03Refine: finer colours.
-/
import Derived.Test.YtbfhecckapgpnaaProg
import Derived.Deep.DeepCutAuto
import Derived.Deep.RegionWith
import Derived.Deep.RegionHeld3
import Derived.Deep.DrawnRows
import Derived.IntWalk
import Derived.Test.YtbfhecckapgpnaaKx0
import Derived.Test.YtbfhecckapgpnaaKx1
import Derived.Test.YtbfhecckapgpnaaKx2
import Derived.Test.YtbfhecckapgpnaaKx8
import Derived.Test.YtbfhecckapgpnaaKx9
import Derived.Test.YtbfhecckapgpnaaKx7
import Derived.Test.YtbfhecckapgpnaaKx5
import Derived.Test.YtbfhecckapgpnaaKx10
import Derived.Test.YtbfhecckapgpnaaKx6
import Derived.Test.YtbfhecckapgpnaaKx12
import Derived.Test.YtbfhecckapgpnaaKx14
import Derived.Test.YtbfhecckapgpnaaKx16
namespace Go.Proofs.Ytbfhecckapgpnaa
set_option linter.unusedVariables false
set_option linter.unusedSimpArgs false
open Go.RowKit
attribute [local go_sem ↓] Go.wp_at_zero Go.wp_at_succ

def SamTo (a b : List Int) (k : Nat) : Prop := ∀ i, i < k → ix a i = ix b i

theorem same_dr (l m : List Int) (v u : Value) (w : World) (hv : Ints w v l) (hu : Ints w u m) :
    Calls Try.prog 128 #[v, u] w fun e w' => e = .returned (.bool (eqIB l m)) ∧ Drawn w w' := by
  obtain ⟨hlen, b, o, c, rfl, hc⟩ := hv
  obtain ⟨hlen2, b2, o2, c2, rfl, hc2⟩ := hu
  by_cases hl : l.length = m.length
  case neg =>
    have hb : ((l.length : Int) != (m.length : Int)) = true := by simp; omega
    go_enter Try.func128, Try.ntmps128
    go_wp2
    go_ret
    exact ⟨ret_bool (eqIB_no (fun e => hl (by rw [e]))).symm, Drawn.refl _⟩
  case pos =>
    rw [← hl]
    have Hl := Lib.hid hl
    clear hl
    go_enter Try.func128, Try.ntmps128
    go_wp2
    go_loopw [5] (fun i wr => ∃ k : Nat, k ≤ l.length ∧ i = .int .i64 k ∧ SamTo l m k ∧ Drawn w wr) (fun i _ => l.length - (intOf i).toNat)
    case atStart => exact ⟨0, Nat.zero_le _, rfl, fun i hi => by omega, Drawn.refl _⟩
    case round =>
      obtain ⟨k, hk, rfl, hto, hx⟩ := hrel
      have HTO := Lib.hid hto
      clear hto
      by_cases hlt : k < l.length
      · have e1 := hc.ext hx.ext k hlt
        have e2 := hc2.ext hx.ext k (by have := Hl.out; omega)
        cases he : (ix l k != ix m k) with
        | true =>
          go_wp2
          go_quiet (fail)
          go_wp2
          go_ret
          exact ⟨ret_bool (eqIB_no (fun e => by rw [e] at he; simp at he)).symm, hx.drewN _⟩
        | false =>
          go_wp2
          go_quiet (fail)
          go_wp2
          go_roundw
          case rel => exact ⟨k + 1, by omega, by go_num, fun i hi => by
            by_cases e : i = k
            · rw [e]; simpa using he
            · exact HTO.out i (by omega), hx.drewN _⟩
          case measure => simp [intOf]; omega
      · go_wp2
        go_ret
        exact ⟨ret_bool (eqIB_yes (ix_ext Hl.out (fun i hi => HTO.out i (by omega)))).symm, hx⟩

theorem growI_setFar {e base : Nat} {w : World} {v : Value} {l : List Int} (h : GrowI e base w v l) {a : Addr} (hne : v.ownBlock ≠ some a.block) (u : Value) : GrowI e base (w.setCell a u) v l := by
  refine ⟨h.1, ?_⟩
  rcases h.2 with hn | ⟨g, cap, cur, rfl, hb, hg, rest⟩
  · exact .inl hn
  · exact .inr ⟨g, cap, cur, rfl, hb, by rw [Below.heap_setCell _ _ _ _ (fun e => hne (by simp [Value.ownBlock, e]))]; exact hg, rest⟩
theorem ints_take {w : World} {b n : Nat} {l : List Int} (h : IntsAt w b 0 l) (hn : n ≤ l.length) (hs : n ≤ 1048576) (c : Nat) : Ints w (.slice (some ⟨b, 0, none⟩) n c) (l.take n) := by
  have e : (l.take n).length = n := by rw [List.length_take]; omega
  refine ⟨by rw [e]; exact hs, b, 0, c, by rw [e], fun i hi => ?_⟩
  rw [ix_take (by omega)]
  exact h i (by omega)
theorem ints_drop {w : World} {b n m : Nat} {l : List Int} (h : IntsAt w b 0 l) (hm : m = l.length - n) (hs : l.length ≤ 1048576) (c : Nat) : Ints w (.slice (some ⟨b, n, none⟩) m c) (l.drop n) := by
  have e : (l.drop n).length = m := by rw [List.length_drop]; exact hm.symm
  refine ⟨by rw [List.length_drop]; omega, b, n, c, by rw [e], fun i hi => ?_⟩
  rw [ix_drop]
  rw [List.length_drop] at hi
  have := h (n + i) (by omega)
  rwa [Nat.zero_add] at this

/-- what refining tells -/
def RefPost (n : Nat) (az bz : List (List (List Int))) (c0 d0 : List Int) (w : World) (e : Ending) (w' : World) : Prop :=
  ∃ v1 v2 ok, e = .returned (.tuple #[v1, v2, .bool ok]) ∧ Ext w w' ∧
    (ok = true → ∃ l r b1 o1 c1 b2 o2 c2, v1 = .slice (some ⟨b1, o1, none⟩) n c1 ∧ v2 = .slice (some ⟨b2, o2, none⟩) n c2 ∧ (w.heap.size ≤ b1 ∧ b1 < w'.heap.size ∧ w.heap.size ≤ b2 ∧ b2 < w'.heap.size) ∧ IntsAt w' b1 o1 l ∧ IntsAt w' b2 o2 r ∧ ColOk n l ∧ ColOk n r ∧ ∀ p, IsoOk n az bz p → Resp n c0 d0 p → Resp n l r p) ∧
    (ok = false → ∀ p, IsoOk n az bz p → ¬ Resp n c0 d0 p)
def Keeps (n : Nat) (az bz : List (List (List Int))) (c0 d0 l r : List Int) : Prop := ∀ p, IsoOk n az bz p → Resp n c0 d0 p → Resp n l r p
theorem ownsRow_base {w : World} {base base' n size : Nat} {e : TypeId} {v : Value} {xs : List Value} (h : w.ownsRow base e size v n xs) (hb : base' ≤ base) : w.ownsRow base' e size v n xs := by
  refine ⟨h.1, ?_⟩
  rcases h.2 with hn | ⟨g, cap, cur, rfl, h1, rest⟩
  · exact .inl hn
  · exact .inr ⟨g, cap, cur, rfl, by omega, rest⟩
theorem ownsRow_len {w : World} {base n m size : Nat} {e : TypeId} {v : Value} {xs : List Value} (h : w.ownsRow base e size v n xs) (hn : n = m) : w.ownsRow base e size v m xs := hn ▸ h
theorem ownsRow_lit {w : World} {base : Nat} {e : TypeId} (hb : base ≤ w.heap.size) : (w.alloc (.cells #[] e)).ownsRow base e 1 (.slice (some ⟨w.heap.size, 0, none⟩) 0 0) 0 [] :=
  World.ownsRow_made w #[] 0 hb (Nat.zero_le _) rfl
theorem ownsRow_parts {w : World} {base n : Nat} {e : TypeId} {v : Value} {xs : List Value} (h : w.ownsRow base e 1 v n xs) (hv : v ≠ .slice none 0 0) :
    ∃ g cap, v = .slice (some ⟨g, 0, none⟩) n cap ∧ n ≤ cap ∧ base ≤ g ∧ g < w.heap.size ∧ ∀ i x, xs[i]? = some x → w.cell? ⟨g, i, none⟩ = some x := by
  rcases id h.2 with ⟨rfl, _⟩ | ⟨g, cap, cur, rfl, hb, hg, hnc, _⟩
  · exact absurd rfl hv
  · refine ⟨g, cap, rfl, hnc, hb, (h.lt g rfl).2, fun i x hi => ?_⟩
    have := h.cells (g := g) rfl i x hi
    rwa [Addr.add_lit, Nat.zero_add] at this

end Go.Proofs.Ytbfhecckapgpnaa
