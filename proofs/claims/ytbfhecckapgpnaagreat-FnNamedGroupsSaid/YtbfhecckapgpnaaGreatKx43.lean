/-
  A map from digits to truth that the call makes: which lists are in it.
-/
import Derived.Test.YtbfhecckapgpnaaGreatProg
import Derived.Maps.Own
import Derived.Maps.OwnOps
import Derived.Maps.Views
import Derived.Test.YtbfhecckapgpnaaGreatKx0
import Derived.Test.YtbfhecckapgpnaaGreatKx1
import Derived.Test.YtbfhecckapgpnaaGreatKx2
import Derived.Test.YtbfhecckapgpnaaGreatKx41
import Derived.Test.YtbfhecckapgpnaaGreatKx42
namespace Go.Proofs.YtbfhecckapgpnaaGreat
set_option linter.unusedVariables false
set_option linter.unusedSimpArgs false
open Go.RowKit
open Go.Maps (Keyed)

theorem law_str : Keyed Tryz.prog 9 := Maps.string_keyed Tryz.underlying9
theorem zeroBool (w : World) : (zeroValue 4).run Tryz.prog w = .ok (.bool false) w := by kernel_rfl
/-- the lists S are in the map, by their digits -/
def SeenMap (w : World) (b n : Nat) (S : List (List Int)) : Prop :=
  ∃ D : DataW Unit, w.ownsMap Tryz.prog 9 (plainElem Tryz.prog 4) b n D ∧ ∀ p, (∀ i, i < p.length → 0 ≤ ix p i ∧ ix p i < 12) → D.atKey (.string (lineL p)) (.lit (.bool false)) = .lit (.bool (decide (p ∈ S)))
theorem digB_inj : ∀ a b : Fin 12, digB (a.val : Int) = digB (b.val : Int) → a = b := by unfold digB; decide
theorem lineL_inj : ∀ (p q : List Int), (∀ i, i < p.length → 0 ≤ ix p i ∧ ix p i < 12) → (∀ i, i < q.length → 0 ≤ ix q i ∧ ix q i < 12) → lineL p = lineL q → p = q := by
  intro p q hp hq h
  unfold lineL at h
  have hl : p.length = q.length := by have := congrArg List.length h; simpa using this
  refine ix_ext hl fun i hi => ?_
  have h1 := congrArg (fun l => l[i]?) h
  have e1 : ix p i = p[i] := by rw [ix_eq]; simp [List.getD, hi]
  have e2 : ix q i = q[i] := by rw [ix_eq]; simp [List.getD, show i < q.length by omega]
  simp [hi, show i < q.length by omega] at h1
  rw [← e1, ← e2] at h1
  have b1 := hp i hi
  have b2 := hq i (by omega)
  have := digB_inj ⟨(ix p i).toNat, by omega⟩ ⟨(ix q i).toNat, by omega⟩ (by simp only []; rw [Int.toNat_of_nonneg b1.1, Int.toNat_of_nonneg b2.1]; exact h1)
  have := congrArg Fin.val this
  simp at this
  omega
theorem SeenMap.made (w : World) : SeenMap (w.alloc (.map #[] 0)) w.heap.size 0 [] := ⟨.map [], World.ownsMap_made w _ _ _, fun p _ => by simp [DataW.atKey]⟩
theorem SeenMap.kept {w w' : World} {b n : Nat} {S : List (List Int)} {row : Option Nat} (h : SeenMap w b n S) (hg : w.grownBy w' row) (hne : some b ≠ row) : SeenMap w' b n S := by
  obtain ⟨D, h1, h2⟩ := h
  exact ⟨D, h1.kept hg hne, h2⟩
theorem SeenMap.ext {w w' : World} {b n : Nat} {S : List (List Int)} (h : SeenMap w b n S) (hx : Ext w w') : SeenMap w' b n S :=
  h.kept (row := none) ⟨hx.os, hx.tape, hx.output, hx.size, fun k hk _ => hx.block k hk⟩ (by simp)
theorem SeenMap.lt {w : World} {b n : Nat} {S : List (List Int)} (h : SeenMap w b n S) : b < w.heap.size := by
  obtain ⟨D, h1, _⟩ := h
  exact h1.lt
theorem keyOf_line {p : List Int} (hl : p.length ≤ 12) : keyOf Tryz.prog 9 (.string (strB (lineL p))) = some (.string (lineL p)) := by
  have := WideMaps.keyOf_string_mk (P := Tryz.prog) Tryz.underlying9 (s := strB (lineL p)) (by rw [strB_size, length_lineL]; unfold maxLen; omega)
  rwa [show (strB (lineL p)).data.toList = lineL p from rfl] at this
theorem SeenMap.put {w : World} {b n : Nat} {S : List (List Int)} {p : List Int} {D : DataW Unit} (h : w.ownsMap Tryz.prog 9 (plainElem Tryz.prog 4) b n D) (h2 : ∀ p, (∀ i, i < p.length → 0 ≤ ix p i ∧ ix p i < 12) → D.atKey (.string (lineL p)) (.lit (.bool false)) = .lit (.bool (decide (p ∈ S)))) (hp : ∀ i, i < p.length → 0 ≤ ix p i ∧ ix p i < 12) :
    ∀ q, (∀ i, i < q.length → 0 ≤ ix q i ∧ ix q i < 12) → (D.put (.string (lineL p)) (.lit (.bool true))).atKey (.string (lineL q)) (.lit (.bool false)) = .lit (.bool (decide (q ∈ S ++ [p]))) := by
  intro q hq
  obtain ⟨es, clock, -, -, -, hD⟩ := h
  by_cases e : q = p
  · subst e
    rw [Maps.atKey_put_same (k := .string (lineL q)) ⟨_, hD⟩ (show WideAt.IsKeyLit (.string _) from trivial)]
    simp
  · rw [Maps.atKey_put_other (fun h => e (lineL_inj q p hq hp (by injection h))), h2 q hq]
    simp [e]
section
variable {w : World} {ops : Array Oper} {rest : List Oper} {o : Oper} {a : Act} {Q : Exit → Act → World → Prop} {b n : Nat} {S : List (List Int)} {p : List Int}
set_option maxRecDepth 100000 in
theorem wpList_seen_lookup (hg : o.guard = none) (m x : Operand) (hop : o.op = Op.lookup 115 m x false) (hm : a.eval m = .map (some b)) (hown : SeenMap w b n S) (hx : a.eval x = .string (strB (lineL p))) (hp : ∀ i, i < p.length → 0 ≤ ix p i ∧ ix p i < 12) (hl : p.length ≤ 12)
    (hK : wpList Tryz.prog ops Q rest (a.put o.dst (.bool (decide (p ∈ S)))) w) : wpList Tryz.prog ops Q (o :: rest) a w := by
  obtain ⟨D, h1, h2⟩ := hown
  refine wpList_plain hg fun K' hK' => ?_
  obtain ⟨v, ps, hrun, hv⟩ := h1.lookup law_str Tryz.underlying115 (zeroBool w) (zd := .lit (.bool false)) (zp := []) (plainElem_bool Tryz.underlying4 false) (keyOf_line hl)
  rw [h2 p hp] at hv
  have hvb : v = .bool (decide (p ∈ S)) := by
    unfold plainElem at hv
    rw [Tryz.underlying4] at hv
    cases v <;> simp at hv
    rw [hv.1]
  subst hvb
  unfold Oper.wp
  simp [execOp, hop, hm, hx, hrun, Result.andThen]
  exact hK' _ _ hK
set_option maxRecDepth 100000 in
theorem wpList_seen_update (hg : o.guard = none) (m x v : Operand) (hop : o.op = Op.mapUpdate 115 m x v ∨ o.op = Op.insert 115 m x v) (hm : a.eval m = .map (some b)) (hown : SeenMap w b n S) (hn : n < maxLen) (hx : a.eval x = .string (strB (lineL p))) (hv : a.eval v = .bool true) (hp : ∀ i, i < p.length → 0 ≤ ix p i ∧ ix p i < 12) (hl : p.length ≤ 12)
    (hK : ∀ w', SeenMap w' b (n + 1) (S ++ [p]) → w.grownBy w' (some b) → wpList Tryz.prog ops Q rest (a.put o.dst undef) w') : wpList Tryz.prog ops Q (o :: rest) a w := by
  obtain ⟨D, h1, h2⟩ := hown
  refine wpList_plain hg fun K' hK' => ?_
  obtain ⟨w', hrun, r1, r2⟩ := h1.update law_str Tryz.underlying115 hn (keyOf_line hl) (plainElem_bool Tryz.underlying4 true)
  unfold Oper.wp
  rcases hop with hop | hop
  · simp [execOp, hop, hm, hx, hv, hrun, Result.andThen]
    exact hK' _ _ (hK w' ⟨_, r1, SeenMap.put h1 h2 hp⟩ r2)
  · simp [execOp, hop, hm, hx, hv, hrun, Result.andThen]
    exact hK' _ _ (hK w' ⟨_, r1, SeenMap.put h1 h2 hp⟩ r2)
end
end Go.Proofs.YtbfhecckapgpnaaGreat
