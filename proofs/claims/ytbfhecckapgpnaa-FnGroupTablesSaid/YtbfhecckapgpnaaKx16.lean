/-
  Contract of l03Mark: the mark of an element.
-/
import Derived.Test.YtbfhecckapgpnaaProg
import Derived.Deep.DeepCutAuto
import Derived.Deep.RegionWith
import Derived.Deep.RegionHeld3
import Derived.Deep.DrawnRows
import Derived.IntWalk
import Derived.Test.YtbfhecckapgpnaaKx0
import Derived.Test.YtbfhecckapgpnaaKx1
import Derived.Test.YtbfhecckapgpnaaKx2
import Derived.Test.YtbfhecckapgpnaaKx8
import Derived.Test.YtbfhecckapgpnaaKx9
import Derived.Test.YtbfhecckapgpnaaKx7
import Derived.Test.YtbfhecckapgpnaaKx5
import Derived.Test.YtbfhecckapgpnaaKx6
import Derived.Test.YtbfhecckapgpnaaKx12
import Derived.Test.YtbfhecckapgpnaaKx15
import Derived.Test.YtbfhecckapgpnaaKx14
namespace Go.Proofs.Ytbfhecckapgpnaa
set_option linter.unusedVariables false
set_option linter.unusedSimpArgs false
open Go.RowKit
attribute [local go_sem ↓] Go.wp_at_zero Go.wp_at_succ

@[irreducible] def own1 (u y : Int) : Int := if u = y then 1 else 0
@[irreducible] def own2 (u v y : Int) : Int := own1 u y + (if v = y then 2 else 0)
@[irreducible] def ownH3 (u v x y : Int) : Int := own2 u v y + (if u = x then 4 else 0)
theorem own1_bd (u y : Int) : 0 ≤ own1 u y ∧ own1 u y ≤ 1 := by unfold own1; split <;> omega
theorem own2_bd (u v y : Int) : 0 ≤ own2 u v y ∧ own2 u v y ≤ 3 := by
  have := own1_bd u y
  unfold own2; split <;> omega
theorem ownH3_bd (u v x y : Int) : 0 ≤ ownH3 u v x y ∧ ownH3 u v x y ≤ 7 := by
  have := own2_bd u v y
  unfold ownH3; split <;> omega
theorem own4 (u v x y : Int) : ownN u v x y = ownH3 u v x y + (if v = x then 8 else 0) := by unfold ownN ownH3 own2 own1; rfl
theorem IntsAt.swap {w : World} {b : Nat} {l : List Int} (h : IntsAt w b 0 l) {j : Nat} (hj : j + 1 < l.length) :
    IntsAt ((w.setCell ⟨b, j + 1, none⟩ (.int .i64 (ix l j))).setCell ⟨b, j, none⟩ (.int .i64 (ix l (j + 1)))) b 0 (swapL l j) := by
  have h1 := h.set0 (l' := l.set (j + 1) (ix l j)) (j + 1) (ix l j) hj (by simp) (fun i hi hl => by rw [ix_set _ _ _ _ hl, if_neg (by omega)]) (by rw [ix_set _ _ _ _ hj, if_pos rfl])
  refine h1.set0 (l' := swapL l j) j (ix l (j + 1)) (by simp; omega) (by rw [length_swapL]; simp) (fun i hi hl => ?_) ?_
  · have hl' : i < l.length := by simpa using hl
    rw [ix_swapL _ _ _ hj hl', if_neg hi, ix_set _ _ _ _ hl']
    by_cases e : i = j + 1
    · rw [if_pos e, if_pos e.symm]
    · rw [if_neg e, if_neg (fun h => e h.symm)]
  · rw [ix_swapL _ _ _ hj (by omega), if_pos rfl]

theorem wpList_append_intsN {P : Program} {w : World} {ops : Array Oper} {rest : List Oper} {o : Oper} {a : Act} {Q : Exit → Act → World → Prop} (hgd : o.guard = none) (s x : Operand) (t e : TypeId)
    (ho : o.op = .call { callee := .builtin .append, args := #[s, x], argTypes := #[t, t] }) (ht : P.underlying t = some (.slice e)) (hinfo : (P.info? e).map (fun i => (i.zero, i.size, i.bytes)) = some (some (.int .i64 0), 1, 8))
    (base : Nat) (v : Value) (l : List Int) (hs : a.eval s = v) (hown : GrowI e base w v l) (b q c n : Nat) (m : List Int) (hn : m.length = n) (hx : a.eval x = .slice (some ⟨b, q, none⟩) n c) (hc : IntsAt w b q m)
    (hl : l.length ≤ 1048576) (hm : m.length ≤ 1048576) (hbase : base ≤ w.heap.size)
    (h : ∀ v' w', GrowI e base w' v' (l ++ m) → w.grownBy w' v.ownBlock → (v' = .slice none 0 0 ↔ v = .slice none 0 0 ∧ m.length = 0) → wpList P ops Q rest (a.put o.dst v') w') : wpList P ops Q (o :: rest) a w := by
  subst hn
  exact wpList_append_ints hgd s x t e ho ht hinfo base v l hs hown b q c m hx hc hl hm hbase h

theorem mark_wrap {a b c d : Int} (ha : 0 ≤ a ∧ a ≤ 60) (hb : 0 ≤ b ∧ b ≤ 60) (hc : 0 ≤ c ∧ c ≤ 60) (hd : 0 ≤ d ∧ d ≤ 15) :
    IntKind.i64.wrap (IntKind.i64.wrap (IntKind.i64.wrap (IntKind.i64.wrap (IntKind.i64.wrap (IntKind.i64.wrap (a * 64) + b) * 64) + c) * 16) + d) = ((a * 64 + b) * 64 + c) * 16 + d := by
  rw [IntWalk.i64_in (a * 64) (by omega), IntWalk.i64_in (a * 64 + b) (by omega), IntWalk.i64_in ((a * 64 + b) * 64) (by omega), IntWalk.i64_in ((a * 64 + b) * 64 + c) (by omega), IntWalk.i64_in (((a * 64 + b) * 64 + c) * 16) (by omega), IntWalk.i64_in _ (by omega)]

theorem mark_wrap2 {a d : Int} (ha : 0 ≤ a ∧ a ≤ 60) (hd : 0 ≤ d ∧ d ≤ 12) : IntKind.i64.wrap (IntKind.i64.wrap (1099511627776 + IntKind.i64.wrap (a * 64)) + d) = 1099511627776 + a * 64 + d := by
  rw [IntWalk.i64_in (a * 64) (by omega), IntWalk.i64_in (1099511627776 + a * 64) (by omega), IntWalk.i64_in _ (by omega)]

theorem ret_val {a b : Int} (h : a = b) : Value.int .i64 a = Value.int .i64 b := by rw [h]

end Go.Proofs.Ytbfhecckapgpnaa
