/-
  A map from digits to truth that the call makes: which lists are in it.
-/
import Derived.Maps.Own
import Derived.Maps.OwnOps
import Derived.Maps.Views
import Derived.Test.YtjfjpngajboidaaGreatKx34
import Derived.Test.YtjfjpngajboidaaGreatKx9
namespace Go.Proofs.YtjfjpngajboidaaGreat
set_option linter.unusedVariables false
set_option linter.unusedSimpArgs false
open Go.RowKit
open Go.Maps (Keyed)

theorem law_str : Keyed Tryz.prog 9 := Maps.string_keyed Tryz.underlying9
theorem zeroBool (w : World) : (zeroValue 4).run Tryz.prog w = .ok (.bool false) w := by kernel_rfl
def SeenMap (w : World) (b n : Nat) (S : List (List Int)) : Prop :=
  ∃ D : DataW Unit, w.ownsMap Tryz.prog 9 (plainElem Tryz.prog 4) b n D ∧ ∀ p, (∀ i, i < p.length → 0 ≤ ix p i ∧ ix p i < 12) → D.atKey (.string (lineL p)) (.lit (.bool false)) = .lit (.bool (decide (p ∈ S)))
theorem digB_inj : ∀ a b : Fin 12, digB (a.val : Int) = digB (b.val : Int) → a = b := by unfold digB; decide
theorem lineL_inj : ∀ (p q : List Int), (∀ i, i < p.length → 0 ≤ ix p i ∧ ix p i < 12) → (∀ i, i < q.length → 0 ≤ ix q i ∧ ix q i < 12) → lineL p = lineL q → p = q := by
  intro p q hp hq h
  unfold lineL at h
  have hl : p.length = q.length := by have := congrArg List.length h; simpa using this
  refine ix_ext hl fun i hi => ?_
  have h1 := congrArg (fun l => l[i]?) h
  have e1 : ix p i = p[i] := by rw [ix_eq]; simp [List.getD, hi]
  have e2 : ix q i = q[i] := by rw [ix_eq]; simp [List.getD, show i < q.length by omega]
  simp [hi, show i < q.length by omega] at h1
  rw [← e1, ← e2] at h1
  have b1 := hp i hi
  have b2 := hq i (by omega)
  have := digB_inj ⟨(ix p i).toNat, by omega⟩ ⟨(ix q i).toNat, by omega⟩ (by simp only []; rw [Int.toNat_of_nonneg b1.1, Int.toNat_of_nonneg b2.1]; exact h1)
  have := congrArg Fin.val this
  simp at this
  omega
theorem SeenMap.made (w : World) : SeenMap (w.alloc (.map #[] 0)) w.heap.size 0 [] := ⟨.map [], World.ownsMap_made w _ _ _, fun p _ => by simp [DataW.atKey]⟩
theorem SeenMap.kept {w w' : World} {b n : Nat} {S : List (List Int)} {row : Option Nat} (h : SeenMap w b n S) (hg : w.grownBy w' row) (hne : some b ≠ row) : SeenMap w' b n S := by
  obtain ⟨D, h1, h2⟩ := h
  exact ⟨D, h1.kept hg hne, h2⟩
theorem SeenMap.ext {w w' : World} {b n : Nat} {S : List (List Int)} (h : SeenMap w b n S) (hx : Ext w w') : SeenMap w' b n S :=
  h.kept (row := none) ⟨hx.os, hx.tape, hx.output, hx.size, fun k hk _ => hx.block k hk⟩ (by simp)
theorem SeenMap.lt {w : World} {b n : Nat} {S : List (List Int)} (h : SeenMap w b n S) : b < w.heap.size := by
  obtain ⟨D, h1, _⟩ := h
  exact h1.lt
theorem keyOf_line {p : List Int} (hl : p.length ≤ 12) : keyOf Tryz.prog 9 (.string (strB (lineL p))) = some (.string (lineL p)) := by
  have := WideMaps.keyOf_string_mk (P := Tryz.prog) Tryz.underlying9 (s := strB (lineL p)) (by rw [strB_size, length_lineL]; unfold maxLen; omega)
  rwa [show (strB (lineL p)).data.toList = lineL p from rfl] at this
theorem SeenMap.put {w : World} {b n : Nat} {S : List (List Int)} {p : List Int} {D : DataW Unit} (h : w.ownsMap Tryz.prog 9 (plainElem Tryz.prog 4) b n D) (h2 : ∀ p, (∀ i, i < p.length → 0 ≤ ix p i ∧ ix p i < 12) → D.atKey (.string (lineL p)) (.lit (.bool false)) = .lit (.bool (decide (p ∈ S)))) (hp : ∀ i, i < p.length → 0 ≤ ix p i ∧ ix p i < 12) :
    ∀ q, (∀ i, i < q.length → 0 ≤ ix q i ∧ ix q i < 12) → (D.put (.string (lineL p)) (.lit (.bool true))).atKey (.string (lineL q)) (.lit (.bool false)) = .lit (.bool (decide (q ∈ S ++ [p]))) := by
  intro q hq
  obtain ⟨es, clock, -, -, -, hD⟩ := h
  by_cases e : q = p
  · subst e
    rw [Maps.atKey_put_same (k := .string (lineL q)) ⟨_, hD⟩ (show WideAt.IsKeyLit (.string _) from trivial)]
    simp
  · rw [Maps.atKey_put_other (fun h => e (lineL_inj q p hq hp (by injection h))), h2 q hq]
    simp [e]
section
variable {w : World} {ops : Array Oper} {rest : List Oper} {o : Oper} {a : Act} {Q : Exit → Act → World → Prop} {b n : Nat} {S : List (List Int)} {p : List Int}
set_option maxRecDepth 100000 in
theorem wpList_seen_lookup (hg : o.guard = none) (m x : Operand) (hop : o.op = Op.lookup 107 m x false) (hm : a.eval m = .map (some b)) (hown : SeenMap w b n S) (hx : a.eval x = .string (strB (lineL p))) (hp : ∀ i, i < p.length → 0 ≤ ix p i ∧ ix p i < 12) (hl : p.length ≤ 12)
    (hK : wpList Tryz.prog ops Q rest (a.put o.dst (.bool (decide (p ∈ S)))) w) : wpList Tryz.prog ops Q (o :: rest) a w := by
  obtain ⟨D, h1, h2⟩ := hown
  refine wpList_plain hg fun K' hK' => ?_
  obtain ⟨v, ps, hrun, hv⟩ := h1.lookup law_str Tryz.underlying107 (zeroBool w) (zd := .lit (.bool false)) (zp := []) (plainElem_bool Tryz.underlying4 false) (keyOf_line hl)
  rw [h2 p hp] at hv
  have hvb : v = .bool (decide (p ∈ S)) := by
    unfold plainElem at hv
    rw [Tryz.underlying4] at hv
    cases v <;> simp at hv
    rw [hv.1]
  subst hvb
  unfold Oper.wp
  simp [execOp, hop, hm, hx, hrun, Result.andThen]
  exact hK' _ _ hK
set_option maxRecDepth 100000 in
theorem wpList_seen_update (hg : o.guard = none) (m x v : Operand) (hop : o.op = Op.mapUpdate 107 m x v ∨ o.op = Op.insert 107 m x v) (hm : a.eval m = .map (some b)) (hown : SeenMap w b n S) (hn : n < maxLen) (hx : a.eval x = .string (strB (lineL p))) (hv : a.eval v = .bool true) (hp : ∀ i, i < p.length → 0 ≤ ix p i ∧ ix p i < 12) (hl : p.length ≤ 12)
    (hK : ∀ w', SeenMap w' b (n + 1) (S ++ [p]) → w.grownBy w' (some b) → wpList Tryz.prog ops Q rest (a.put o.dst undef) w') : wpList Tryz.prog ops Q (o :: rest) a w := by
  obtain ⟨D, h1, h2⟩ := hown
  refine wpList_plain hg fun K' hK' => ?_
  obtain ⟨w', hrun, r1, r2⟩ := h1.update law_str Tryz.underlying107 hn (keyOf_line hl) (plainElem_bool Tryz.underlying4 true)
  unfold Oper.wp
  rcases hop with hop | hop
  · simp [execOp, hop, hm, hx, hv, hrun, Result.andThen]
    exact hK' _ _ (hK w' ⟨_, r1, SeenMap.put h1 h2 hp⟩ r2)
  · simp [execOp, hop, hm, hx, hv, hrun, Result.andThen]
    exact hK' _ _ (hK w' ⟨_, r1, SeenMap.put h1 h2 hp⟩ r2)
end
end Go.Proofs.YtjfjpngajboidaaGreat


namespace Go.Proofs.YtjfjpngajboidaaGreat
set_option linter.unusedVariables false
set_option linter.unusedSimpArgs false

def Goes (n : Nat) (f f' : List Int) : Prop := f'.length = n ∧ ∀ i, i < n → 0 ≤ ix f i → ix f' i = ix f i
theorem Goes.refl {n : Nat} {f : List Int} (h : f.length = n) : Goes n f f := ⟨h, fun _ _ _ => rfl⟩
theorem Goes.trans {n : Nat} {f g h : List Int} (a : Goes n f g) (b : Goes n g h) : Goes n f h := ⟨b.1, fun i hi h0 => by
  have e := a.2 i hi h0
  rw [b.2 i hi (by omega), e]⟩
def Good (az bz : List (List (List Int))) (f : List Int) (x y : Nat) : Prop :=
  ∀ k, k < az.length → 0 ≤ ix f (ent (tab az k) x y).toNat ∧ ix f (ent (tab az k) x y).toNat = ent (tab bz k) (ix f x).toNat (ix f y).toNat
theorem Good.goes {n : Nat} {az bz : List (List (List Int))} {f g : List Int} {x y : Nat} (hA : TabsOk n az) (h : Good az bz f x y) (hg : Goes n f g) (hx : x < n) (hy : y < n) (fx : 0 ≤ ix f x) (fy : 0 ≤ ix f y) : Good az bz g x y := fun k hk => by
  obtain ⟨h1, h2⟩ := h k hk
  have hb := hA.bd hk hx hy
  have e := hg.2 _ hb.2 h1
  rw [e, hg.2 x hx fx, hg.2 y hy fy]
  exact ⟨h1, h2⟩
structure PartOk (n : Nat) (f s : List Int) : Prop where
  len : f.length = n
  rng : ∀ x, x < n → -1 ≤ ix f x ∧ ix f x < (n : Int)
  inj : ∀ x, x < n → ∀ y, y < n → 0 ≤ ix f x → ix f x = ix f y → x = y
  mem : ∀ x : Nat, x < n → ((x : Int) ∈ s ↔ 0 ≤ ix f x)
  bd : ∀ i, i < s.length → 0 ≤ ix s i ∧ (ix s i).toNat < n
  nodup : s.Nodup
theorem ix_set_same (f : List Int) (x : Nat) (v : Int) (h : x < f.length) : ix (f.set x v) x = v := by
  rw [ix_eq]; simp [List.getD, h]
theorem ix_set_other (f : List Int) (x i : Nat) (v : Int) (h : i ≠ x) : ix (f.set x v) i = ix f i := by
  rw [ix_eq, ix_eq]; simp [List.getD, List.getElem?_set_ne (Ne.symm h)]
theorem extP_set {f p : List Int} {x : Nat} {v : Int} (hx : x < f.length) (hf : ix f x < 0) (hv : 0 ≤ v) : (ExtP f p ∧ ix p x = v) ↔ ExtP (f.set x v) p := by
  constructor
  · rintro ⟨h1, h2⟩ i hi h0
    rw [List.length_set] at hi
    by_cases e : i = x
    · subst e; rw [ix_set_same _ _ _ hi]; exact h2
    · rw [ix_set_other _ _ _ _ e] at h0 ⊢
      exact h1 i hi h0
  · intro h
    refine ⟨fun i hi h0 => ?_, ?_⟩
    · have e : i ≠ x := fun e => by subst e; omega
      have := h i (by rw [List.length_set]; exact hi) (by rw [ix_set_other _ _ _ _ e]; exact h0)
      rw [this, ix_set_other _ _ _ _ e]
    · have e := ix_set_same f x v hx
      rw [h x (by rw [List.length_set]; exact hx) (by rw [e]; exact hv), e]
theorem goes_set {n : Nat} {f : List Int} {x : Nat} {v : Int} (hl : f.length = n) (hf : ix f x < 0) : Goes n f (f.set x v) :=
  ⟨by rw [List.length_set]; exact hl, fun i _ h0 => ix_set_other _ _ _ _ (fun e => by subst e; omega)⟩
theorem mem_snoc_iff {s : List Int} {a b : Int} : a ∈ s ++ [b] ↔ a ∈ s ∨ a = b := by simp
theorem PartOk.set {n : Nat} {f s : List Int} {x v : Nat} (h : PartOk n f s) (hx : x < n) (hv : v < n) (hf : ix f x < 0) (hu : ∀ y, y < n → ix f y ≠ (v : Int)) : PartOk n (f.set x (v : Int)) (s ++ [(x : Int)]) where
  len := by rw [List.length_set]; exact h.len
  rng y hy := by
    by_cases e : y = x
    · subst e; rw [ix_set_same _ _ _ (by rw [h.len]; exact hy)]; omega
    · rw [ix_set_other _ _ _ _ e]; exact h.rng y hy
  inj y hy z hz h0 e := by
    have hxl : x < f.length := by rw [h.len]; exact hx
    by_cases ey : y = x
    · subst ey
      by_cases ez : z = y
      · exact ez.symm
      · rw [ix_set_same _ _ _ hxl, ix_set_other _ _ _ _ ez] at e
        exact absurd e.symm (hu z hz)
    · by_cases ez : z = x
      · subst ez
        rw [ix_set_same _ _ _ hxl, ix_set_other _ _ _ _ ey] at e
        exact absurd e (hu y hy)
      · rw [ix_set_other _ _ _ _ ey] at h0
        rw [ix_set_other _ _ _ _ ey, ix_set_other _ _ _ _ ez] at e
        exact h.inj y hy z hz h0 e
  mem y hy := by
    have hxl : x < f.length := by rw [h.len]; exact hx
    rw [mem_snoc_iff, h.mem y hy]
    by_cases e : y = x
    · subst e; rw [ix_set_same _ _ _ hxl]; constructor
      · intro _; omega
      · intro _; exact .inr rfl
    · rw [ix_set_other _ _ _ _ e]; constructor
      · rintro (h1 | h1)
        · exact h1
        · exact absurd (Int.ofNat.inj h1) e
      · exact .inl
  bd i hi := by
    by_cases e : i < s.length
    · rw [ix_app e]; exact h.bd i e
    · have : i = s.length := by simp at hi; omega
      subst this
      rw [ix_snoc]; omega
  nodup := by
    rw [List.nodup_append]
    refine ⟨h.nodup, by simp, fun a ha b hb e => ?_⟩
    have : b = (x : Int) := by simpa using hb
    subst this; subst e
    have := (h.mem x hx).1 ha
    omega
theorem used_no {n : Nat} {az bz : List (List (List Int))} {f p : List Int} {x y : Nat} {v : Int} (hl : f.length = n) (hp : IsoOk n az bz p) (he : ExtP f p) (hx : x < n) (hy : y < n) (hf : ix f x < 0) (hv : 0 ≤ v) (e : ix f y = v) : ix p x ≠ v := fun h => by
  have h1 := he y (by omega) (by omega)
  have := hp.inj hx hy (by omega)
  subst this
  omega
theorem ext_follows {n : Nat} {az bz : List (List (List Int))} {f p : List Int} {x y k : Nat} (hl : f.length = n) (hp : IsoOk n az bz p) (he : ExtP f p) (hx : x < n) (hy : y < n) (fx : 0 ≤ ix f x) (fy : 0 ≤ ix f y) (hk : k < az.length) : ix p (ent (tab az k) x y).toNat = ent (tab bz k) (ix f x).toNat (ix f y).toNat := by
  rw [hp.2.2 k hk x hx y hy, he x (by omega) fx, he y (by omega) fy]
end Go.Proofs.YtjfjpngajboidaaGreat


namespace Go.Proofs.YtjfjpngajboidaaGreat
set_option linter.unusedVariables false
set_option linter.unusedSimpArgs false

def PartF (n : Nat) (f : List Int) : Prop := f.length = n ∧ (∀ x, x < n → -1 ≤ ix f x ∧ ix f x < (n : Int)) ∧ ∀ x, x < n → ∀ y, y < n → 0 ≤ ix f x → ix f x = ix f y → x = y
theorem PartF.clear {n : Nat} {f : List Int} (h : PartF n f) {x : Nat} (hx : x < n) : PartF n (f.set x (-1)) := by
  obtain ⟨h1, h2, h3⟩ := h
  have hxl : x < f.length := by omega
  refine ⟨by rw [List.length_set]; exact h1, fun y hy => ?_, fun y hy z hz h0 e => ?_⟩
  · by_cases e : y = x
    · subst e; rw [ix_set_same _ _ _ hxl]; omega
    · rw [ix_set_other _ _ _ _ e]; exact h2 y hy
  · by_cases ey : y = x
    · subst ey; rw [ix_set_same _ _ _ hxl] at h0; omega
    · rw [ix_set_other _ _ _ _ ey] at h0
      rw [ix_set_other _ _ _ _ ey] at e
      by_cases ez : z = x
      · subst ez; rw [ix_set_same _ _ _ hxl] at e; omega
      · rw [ix_set_other _ _ _ _ ez] at e; exact h3 y hy z hz h0 e
theorem hasB_has {l : List Int} {v : Int} : hasB l v = true ↔ ∃ i, i < l.length ∧ ix l i = v := by
  rw [hasB_iff]
  rcases indexOf_spec l v with ⟨h, hn⟩ | ⟨i, hi, h, e, _⟩
  · constructor
    · intro h2; omega
    · rintro ⟨i, hi, e⟩; exact absurd e (hn i hi)
  · exact ⟨fun _ => ⟨i, hi, e⟩, fun _ => by omega⟩
theorem bool_ext {a b : Bool} (h : a = true ↔ b = true) : a = b := by cases a <;> cases b <;> simp_all
theorem hasB_clear {n : Nat} {f : List Int} (h : PartF n f) {x : Nat} (hx : x < n) (h0 : 0 ≤ ix f x) (i : Nat) : hasB (f.set x (-1)) i = if i = (ix f x).toNat then false else hasB f i := by
  obtain ⟨h1, h2, h3⟩ := h
  have hxl : x < f.length := by omega
  by_cases e : i = (ix f x).toNat
  · rw [if_pos e, ← Bool.not_eq_true, hasB_has]
    rintro ⟨y, hy, e2⟩
    rw [List.length_set] at hy
    by_cases ey : y = x
    · subst ey; rw [ix_set_same _ _ _ hxl] at e2; omega
    · rw [ix_set_other _ _ _ _ ey] at e2
      exact ey (h3 x hx y (by omega) h0 (by omega)).symm
  · rw [if_neg e]
    refine bool_ext ?_
    rw [hasB_has, hasB_has, List.length_set]
    constructor
    · rintro ⟨y, hy, e2⟩
      by_cases ey : y = x
      · subst ey; rw [ix_set_same _ _ _ hxl] at e2; omega
      · rw [ix_set_other _ _ _ _ ey] at e2; exact ⟨y, hy, e2⟩
    · rintro ⟨y, hy, e2⟩
      have ey : y ≠ x := fun h => by subst h; omega
      exact ⟨y, hy, by rw [ix_set_other _ _ _ _ ey]; exact e2⟩
theorem hasB_set {n : Nat} {f : List Int} (hl : f.length = n) {x v : Nat} (hx : x < n) (hf : ix f x < 0) (i : Nat) : hasB (f.set x (v : Int)) i = if i = v then true else hasB f i := by
  have hxl : x < f.length := by omega
  by_cases e : i = v
  · rw [if_pos e, hasB_has]
    subst e
    exact ⟨x, by rw [List.length_set]; exact hxl, ix_set_same _ _ _ hxl⟩
  · rw [if_neg e]
    refine bool_ext ?_
    rw [hasB_has, hasB_has, List.length_set]
    constructor
    · rintro ⟨y, hy, e2⟩
      by_cases ey : y = x
      · subst ey; rw [ix_set_same _ _ _ hxl] at e2; omega
      · rw [ix_set_other _ _ _ _ ey] at e2; exact ⟨y, hy, e2⟩
    · rintro ⟨y, hy, e2⟩
      have ey : y ≠ x := fun h => by subst h; omega
      exact ⟨y, hy, by rw [ix_set_other _ _ _ _ ey]; exact e2⟩
end Go.Proofs.YtjfjpngajboidaaGreat


namespace Go.Proofs.YtjfjpngajboidaaGreat
set_option linter.unusedVariables false
set_option linter.unusedSimpArgs false

def Gd (az bz : List (List (List Int))) (f : List Int) (k x y : Nat) : Prop :=
  0 ≤ ix f (ent (tab az k) x y).toNat ∧ ix f (ent (tab az k) x y).toNat = ent (tab bz k) (ix f x).toNat (ix f y).toNat
theorem Gd.goes {n : Nat} {az bz : List (List (List Int))} {f g : List Int} {k x y : Nat} (hA : TabsOk n az) (hk : k < az.length) (h : Gd az bz f k x y) (hg : Goes n f g) (hx : x < n) (hy : y < n) (fx : 0 ≤ ix f x) (fy : 0 ≤ ix f y) : Gd az bz g k x y := by
  obtain ⟨h1, h2⟩ := h
  have hb := hA.bd hk hx hy
  have e := hg.2 _ hb.2 h1
  unfold Gd
  rw [e, hg.2 x hx fx, hg.2 y hy fy]
  exact ⟨h1, h2⟩
structure AsgR (n : Nat) (az bz : List (List (List Int))) (f s : List Int) (x v : Nat) (r : Bool) (f' s' : List Int) : Prop where
  part : PartOk n f' s'
  goes : Goes n f f'
  more : ∃ l, s' = s ++ l
  new : ix f x < 0 → hasB f v = false → ∃ l, s' = s ++ [(x : Int)] ++ l
  here : r = true → ix f' x = (v : Int)
  good : r = true → ∀ a, a < n → ∀ b, b < n → ix f a < 0 → 0 ≤ ix f' a → 0 ≤ ix f' b → ∀ k, k < az.length → Gd az bz f' k a b ∧ Gd az bz f' k b a
  ext : r = true → ∀ p, IsoOk n az bz p → ExtP f p → ix p x = (v : Int) → ExtP f' p
  no : r = false → ∀ p, IsoOk n az bz p → ExtP f p → ix p x ≠ (v : Int)
theorem AsgR.old {n : Nat} {az bz : List (List (List Int))} {f s : List Int} {x v : Nat} (h : PartOk n f s) (hx : x < n) (hf : 0 ≤ ix f x) : AsgR n az bz f s x v (decide (ix f x = (v : Int))) f s where
  part := h
  goes := Goes.refl h.len
  more := ⟨[], by simp⟩
  new := fun h _ => by omega
  here := fun e => by simpa using e
  good := fun _ a _ b _ h1 h2 => by omega
  ext := fun _ p _ he _ => he
  no := fun e p _ he h2 => by
    have e1 := he x (by rw [h.len]; exact hx) hf
    have : ¬ ix f x = (v : Int) := by simpa using e
    omega
theorem AsgR.used {n : Nat} {az bz : List (List (List Int))} {f s : List Int} {x v : Nat} (h : PartOk n f s) (hx : x < n) (hf : ix f x < 0) (hu : hasB f v = true) : AsgR n az bz f s x v false f s where
  part := h
  goes := Goes.refl h.len
  more := ⟨[], by simp⟩
  new := fun _ h => by rw [hu] at h; cases h
  here := fun e => by cases e
  good := fun e => by cases e
  ext := fun e => by cases e
  no := fun _ p hp he => by
    obtain ⟨y, hy, e⟩ := hasB_has.1 hu
    exact used_no h.len hp he hx (by rw [← h.len]; exact hy) hf (by omega) e
structure Lp (n : Nat) (az bz : List (List (List Int))) (f s : List Int) (x v : Nat) (f1 s1 : List Int) (P : Nat → Nat → Nat → Prop) : Prop where
  part : PartOk n f1 s1
  goes : Goes n f f1
  more : ∃ l, s1 = s ++ [(x : Int)] ++ l
  here : ix f1 x = (v : Int)
  good : ∀ a, a < n → ∀ b, b < n → ix f a < 0 → a ≠ x → 0 ≤ ix f1 a → 0 ≤ ix f1 b → ∀ k, k < az.length → Gd az bz f1 k a b ∧ Gd az bz f1 k b a
  done : ∀ k a b, P k a b → k < az.length ∧ a < n ∧ b < n ∧ 0 ≤ ix f1 a ∧ 0 ≤ ix f1 b ∧ Gd az bz f1 k a b
  ext : ∀ p, IsoOk n az bz p → ExtP f p → ix p x = (v : Int) → ExtP f1 p
theorem Lp.start {n : Nat} {az bz : List (List (List Int))} {f s : List Int} {x v : Nat} (h : PartOk n f s) (hx : x < n) (hv : v < n) (hf : ix f x < 0) (hu : hasB f v = false) : Lp n az bz f s x v (f.set x (v : Int)) (s ++ [(x : Int)]) (fun _ _ _ => False) where
  part := h.set hx hv hf fun y hy e => by
    have := hasB_has.2 ⟨y, by rw [h.len]; exact hy, e⟩
    rw [hu] at this; cases this
  goes := goes_set h.len hf
  more := ⟨[], by simp⟩
  here := ix_set_same _ _ _ (by rw [h.len]; exact hx)
  good := fun a ha b hb h1 hne h2 => by
    rw [ix_set_other _ _ _ _ hne] at h2; omega
  done := fun _ _ _ e => e.elim
  ext := fun p _ he e => (extP_set (by rw [h.len]; exact hx) hf (by omega)).1 ⟨he, e⟩
theorem Lp.mono {n : Nat} {az bz : List (List (List Int))} {f s : List Int} {x v : Nat} {f1 s1 : List Int} {P P' : Nat → Nat → Nat → Prop} (h : Lp n az bz f s x v f1 s1 P) (hp : ∀ k a b, P' k a b → P k a b) : Lp n az bz f s x v f1 s1 P' where
  part := h.part
  goes := h.goes
  more := h.more
  here := h.here
  good := h.good
  done := fun k a b e => h.done k a b (hp k a b e)
  ext := h.ext
theorem Lp.call {n : Nat} {az bz : List (List (List Int))} {f s : List Int} {x v : Nat} {f1 s1 f2 s2 : List Int} {P : Nat → Nat → Nat → Prop} (hA : TabsOk n az) (h : Lp n az bz f s x v f1 s1 P) {k a b x' v' : Nat} (hk : k < az.length) (ha : a < n) (hb : b < n) (h1 : 0 ≤ ix f1 a) (h2 : 0 ≤ ix f1 b)
    (ex : ent (tab az k) a b = (x' : Int)) (ev : ent (tab bz k) (ix f1 a).toNat (ix f1 b).toNat = (v' : Int)) (g : AsgR n az bz f1 s1 x' v' true f2 s2) : Lp n az bz f s x v f2 s2 (fun k' a' b' => P k' a' b' ∨ (k' = k ∧ a' = a ∧ b' = b)) where
  part := g.part
  goes := h.goes.trans g.goes
  more := by
    obtain ⟨l, e⟩ := h.more
    obtain ⟨m, e2⟩ := g.more
    exact ⟨l ++ m, by rw [e2, e]; simp⟩
  here := by
    have hxn : x < n := by
      obtain ⟨l, e⟩ := h.more
      have hm : (x : Int) ∈ s1 := by rw [e]; simp
      obtain ⟨i, hi, e2⟩ := mem_ix hm
      have := h.part.bd i hi
      omega
    rw [g.goes.2 x hxn (by rw [h.here]; omega)]; exact h.here
  good := fun c hc d hd hn hne hc2 hd2 q hq => by
    by_cases g1 : 0 ≤ ix f1 c
    · by_cases g2 : 0 ≤ ix f1 d
      · obtain ⟨r1, r2⟩ := h.good c hc d hd hn hne g1 g2 q hq
        exact ⟨r1.goes hA hq g.goes hc hd g1 g2, r2.goes hA hq g.goes hd hc g2 g1⟩
      · obtain ⟨r1, r2⟩ := g.good rfl d hd c hc (by omega) hd2 hc2 q hq
        exact ⟨r2, r1⟩
    · exact g.good rfl c hc d hd (by omega) hc2 hd2 q hq
  done := fun k' a' b' e => by
    rcases e with e | ⟨rfl, rfl, rfl⟩
    · obtain ⟨d1, d2, d3, d4, d5, d6⟩ := h.done k' a' b' e
      refine ⟨d1, d2, d3, ?_, ?_, d6.goes hA d1 g.goes d2 d3 d4 d5⟩
      · rw [g.goes.2 a' d2 d4]; exact d4
      · rw [g.goes.2 b' d3 d5]; exact d5
    · have e1 := g.goes.2 a' ha h1
      have e2 := g.goes.2 b' hb h2
      refine ⟨hk, ha, hb, by rw [e1]; exact h1, by rw [e2]; exact h2, ?_⟩
      unfold Gd
      rw [ex, e1, e2, ev, Int.toNat_natCast, g.here rfl]
      exact ⟨by omega, rfl⟩
  ext := fun p hp he e => by
    have h3 := h.ext p hp he e
    refine g.ext rfl p hp h3 ?_
    have h4 := ext_follows h.part.len hp h3 ha hb h1 h2 hk
    rw [ex, ev, Int.toNat_natCast] at h4
    exact h4
theorem Lp.no {n : Nat} {az bz : List (List (List Int))} {f s : List Int} {x v : Nat} {f1 s1 f2 s2 : List Int} {P : Nat → Nat → Nat → Prop} (h : Lp n az bz f s x v f1 s1 P) {k a b x' v' : Nat} (hk : k < az.length) (ha : a < n) (hb : b < n) (h1 : 0 ≤ ix f1 a) (h2 : 0 ≤ ix f1 b)
    (ex : ent (tab az k) a b = (x' : Int)) (ev : ent (tab bz k) (ix f1 a).toNat (ix f1 b).toNat = (v' : Int)) (g : AsgR n az bz f1 s1 x' v' false f2 s2) : AsgR n az bz f s x v false f2 s2 where
  part := g.part
  goes := h.goes.trans g.goes
  more := by
    obtain ⟨l, e⟩ := h.more
    obtain ⟨m, e2⟩ := g.more
    exact ⟨[(x : Int)] ++ l ++ m, by rw [e2, e]; simp⟩
  new := fun _ _ => by
    obtain ⟨l, e⟩ := h.more
    obtain ⟨m, e2⟩ := g.more
    exact ⟨l ++ m, by rw [e2, e]; simp⟩
  here := fun e => by cases e
  good := fun e => by cases e
  ext := fun e => by cases e
  no := fun _ p hp he e => by
    have h3 := h.ext p hp he e
    refine g.no rfl p hp h3 ?_
    have h4 := ext_follows h.part.len hp h3 ha hb h1 h2 hk
    rw [ex, ev, Int.toNat_natCast] at h4
    exact h4
theorem Lp.fin {n : Nat} {az bz : List (List (List Int))} {f s : List Int} {x v : Nat} {f1 s1 : List Int} {P : Nat → Nat → Nat → Prop} (h : Lp n az bz f s x v f1 s1 P) (hall : ∀ k, k < az.length → ∀ j, j < s1.length → P k x (ix s1 j).toNat ∧ P k (ix s1 j).toNat x) : AsgR n az bz f s x v true f1 s1 where
  part := h.part
  goes := h.goes
  more := by
    obtain ⟨l, e⟩ := h.more
    exact ⟨[(x : Int)] ++ l, by rw [e]; simp⟩
  new := fun _ _ => h.more
  here := fun _ => h.here
  good := fun _ a ha b hb hn ha2 hb2 k hk => by
    by_cases e : a = x
    · subst e
      obtain ⟨j, hj, e2⟩ := mem_ix ((h.part.mem b hb).2 hb2)
      have := hall k hk j hj
      rw [e2, Int.toNat_natCast] at this
      exact ⟨(h.done _ _ _ this.1).2.2.2.2.2, (h.done _ _ _ this.2).2.2.2.2.2⟩
    · exact h.good a ha b hb hn e ha2 hb2 k hk
  ext := fun _ => h.ext
  no := fun e => by cases e
def PrO (az : List (List (List Int))) (x i : Nat) (s1 : List Int) (k a b : Nat) : Prop := k < az.length ∧ ∃ j, j < i ∧ ((a = x ∧ b = (ix s1 j).toNat) ∨ (b = x ∧ a = (ix s1 j).toNat))
def PrI (az : List (List (List Int))) (x i : Nat) (s1 : List Int) (y kk k a b : Nat) : Prop := PrO az x i s1 k a b ∨ (k < kk ∧ ((a = x ∧ b = y) ∨ (b = x ∧ a = y)))
theorem prO_app {az : List (List (List Int))} {x i : Nat} {s1 l : List Int} {k a b : Nat} (hi : i ≤ s1.length) (h : PrO az x i (s1 ++ l) k a b) : PrO az x i s1 k a b := by
  obtain ⟨h0, j, hj, h⟩ := h
  rw [ix_app (by omega)] at h
  exact ⟨h0, j, hj, h⟩
theorem prO_succ {az : List (List (List Int))} {x i : Nat} {s1 : List Int} {k a b y : Nat} (hy : (ix s1 i).toNat = y) (h : PrO az x (i + 1) s1 k a b) : PrI az x i s1 y az.length k a b := by
  obtain ⟨h0, j, hj, h⟩ := h
  by_cases e : j < i
  · exact .inl ⟨h0, j, e, h⟩
  · have : j = i := by omega
    subst this
    rw [hy] at h
    exact .inr ⟨h0, h⟩
end Go.Proofs.YtjfjpngajboidaaGreat


namespace Go.Proofs.YtjfjpngajboidaaGreat
set_option linter.unusedVariables false
set_option linter.unusedSimpArgs false

abbrev ARes := Bool × List Int × List Int
def tabsL (call : List Int → List Int → Nat → Nat → ARes) (az bz : List (List (List Int))) (x v y : Nat) : Nat → Nat → List Int → List Int → ARes
  | 0, _, f, s => (true, f, s)
  | m + 1, k, f, s =>
    let p := call f s (ent (tab az k) x y).toNat (ent (tab bz k) v (ix f y).toNat).toNat
    if p.1 then
      let q := call p.2.1 p.2.2 (ent (tab az k) y x).toNat (ent (tab bz k) (ix p.2.1 y).toNat v).toNat
      if q.1 then tabsL call az bz x v y m (k + 1) q.2.1 q.2.2 else q
    else p
def asgE (call : List Int → List Int → Nat → Nat → ARes) (az bz : List (List (List Int))) (x v : Nat) : Nat → Nat → List Int → List Int → ARes
  | 0, _, f, s => (true, f, s)
  | m + 1, i, f, s => if i < s.length then
      let p := tabsL call az bz x v (ix s i).toNat az.length 0 f s
      if p.1 then asgE call az bz x v m (i + 1) p.2.1 p.2.2 else p
    else (true, f, s)
def asgF (n : Nat) (az bz : List (List (List Int))) : Nat → List Int → List Int → Nat → Nat → ARes
  | 0, f, s, x, v => (decide (ix f x = (v : Int)), f, s)
  | d + 1, f, s, x, v => if 0 ≤ ix f x then (decide (ix f x = (v : Int)), f, s) else if hasB f v then (false, f, s) else asgE (asgF n az bz d) az bz x v n 0 (f.set x (v : Int)) (s ++ [(x : Int)])

section
variable {call : List Int → List Int → Nat → Nat → ARes} {az bz : List (List (List Int))} {x v y m k i : Nat} {f s : List Int}
def contL (call : List Int → List Int → Nat → Nat → ARes) (az bz : List (List (List Int))) (x v m i : Nat) (p : ARes) : ARes := if p.1 then asgE call az bz x v m (i + 1) p.2.1 p.2.2 else p
end

def CallOk (n : Nat) (az bz : List (List (List Int))) (d : Nat) (call : List Int → List Int → Nat → Nat → ARes) : Prop :=
  ∀ f s x v r f' s', n - s.length ≤ d → PartOk n f s → x < n → v < n → call f s x v = (r, f', s') → AsgR n az bz f s x v r f' s'

theorem PartOk.full {n : Nat} {f s : List Int} (h : PartOk n f s) (hl : n ≤ s.length) {x : Nat} (hx : x < n) : 0 ≤ ix f x := by
  have hp := (pigeon s (intRange n) h.nodup (fun z hz => by
    obtain ⟨i, hi, e⟩ := mem_ix hz
    have := h.bd i hi
    rw [mem_intRange]; omega) (by simpa [intRange] using hl)).1
  exact (h.mem x hx).1 (hp _ (mem_intRange.2 (by omega)))
theorem Lp.len {n : Nat} {az bz : List (List (List Int))} {f s : List Int} {x v : Nat} {f1 s1 : List Int} {P : Nat → Nat → Nat → Prop} (h : Lp n az bz f s x v f1 s1 P) : s.length + 1 ≤ s1.length := by
  obtain ⟨l, e⟩ := h.more
  rw [e]; simp
theorem Lp.mapped {n : Nat} {az bz : List (List (List Int))} {f s : List Int} {x v : Nat} {f1 s1 : List Int} {P : Nat → Nat → Nat → Prop} (h : Lp n az bz f s x v f1 s1 P) {y : Nat} (hy : y < n) (hm : (y : Int) ∈ s1) : 0 ≤ ix f1 y ∧ (ix f1 y).toNat < n := by
  have h1 := (h.part.mem y hy).1 hm
  have := h.part.rng y hy
  omega
structure Two (az bz : List (List (List Int))) (n k x y v q x1 v1 x2 v2 : Nat) : Prop where
  e1 : ent (tab az k) x y = (x1 : Int)
  e2 : ent (tab bz k) v q = (v1 : Int)
  e3 : ent (tab az k) y x = (x2 : Int)
  e4 : ent (tab bz k) q v = (v2 : Int)
  l1 : x1 < n
  l2 : v1 < n
  l3 : x2 < n
  l4 : v2 < n
theorem Lp.both {n d : Nat} {az bz : List (List (List Int))} {f s : List Int} {x v : Nat} {call : List Int → List Int → Nat → Nat → ARes} (hA : TabsOk n az) (hc : CallOk n az bz d call) (hd : n - s.length ≤ d + 1) {f2 s2 s1 l : List Int} {i y k x1 v1 x2 v2 q : Nat}
    (h : Lp n az bz f s x v f2 s2 (PrI az x i s1 y k)) (hx : x < n) (hy : y < n) (hym : (y : Int) ∈ s2) (hk : k < az.length) (hq : ix f2 y = (q : Int)) (ht : Two az bz n k x y v q x1 v1 x2 v2) (hs : s2 = s1 ++ l) :
    (∀ f3 s3, call f2 s2 x1 v1 = (false, f3, s3) → AsgR n az bz f s x v false f3 s3) ∧
    (∀ f3 s3, call f2 s2 x1 v1 = (true, f3, s3) → AsgR n az bz f2 s2 x1 v1 true f3 s3 ∧ ix f3 y = (q : Int) ∧ (∃ l, s3 = s1 ++ l) ∧ PartOk n f3 s3 ∧ n - s3.length ≤ d ∧
      (∀ f4 s4, call f3 s3 x2 v2 = (false, f4, s4) → AsgR n az bz f s x v false f4 s4) ∧
      (∀ f4 s4, call f3 s3 x2 v2 = (true, f4, s4) → Lp n az bz f s x v f4 s4 (PrI az x i s1 y (k + 1)) ∧ ∃ l, s4 = s1 ++ l)) := by
  have hfx : ix f2 x = (v : Int) := h.here
  have hlen := h.len
  have e2 : ent (tab bz k) (ix f2 x).toNat (ix f2 y).toNat = (v1 : Int) := by rw [hfx, hq]; exact ht.e2
  refine ⟨fun f3 s3 e => h.no hk hx hy (by omega) (by omega) ht.e1 e2 (hc _ _ _ _ _ _ _ (by omega) h.part ht.l1 ht.l2 e), fun f3 s3 e => ?_⟩
  have g := hc _ _ _ _ _ _ _ (by omega) h.part ht.l1 ht.l2 e
  have h3 := h.call hA hk hx hy (by omega) (by omega) ht.e1 e2 g
  have e3 : ix f3 y = (q : Int) := by rw [g.goes.2 y hy (by omega)]; exact hq
  have e3x : ix f3 x = (v : Int) := h3.here
  have hlen3 := h3.len
  have e4 : ent (tab bz k) (ix f3 y).toNat (ix f3 x).toNat = (v2 : Int) := by rw [e3, e3x]; exact ht.e4
  obtain ⟨l3, hl3⟩ := g.more
  refine ⟨g, e3, ⟨l ++ l3, by rw [hl3, hs]; simp⟩, h3.part, by omega, fun f4 s4 e' => h3.no hk hy hx (by omega) (by omega) ht.e3 e4 (hc _ _ _ _ _ _ _ (by omega) h3.part ht.l3 ht.l4 e'), fun f4 s4 e' => ?_⟩
  have g4 := hc _ _ _ _ _ _ _ (by omega) h3.part ht.l3 ht.l4 e'
  have h4 := h3.call hA hk hy hx (by omega) (by omega) ht.e3 e4 g4
  obtain ⟨l4, hl4⟩ := g4.more
  refine ⟨h4.mono fun k' a b hp => ?_, l ++ l3 ++ l4, by rw [hl4, hl3, hs]; simp⟩
  rcases hp with hp | ⟨hk', hp⟩
  · exact .inl (.inl (.inl hp))
  · by_cases e : k' < k
    · exact .inl (.inl (.inr ⟨e, hp⟩))
    · have : k' = k := by omega
      rcases hp with ⟨ha, hb⟩ | ⟨hb, ha⟩
      · exact .inl (.inr ⟨this, ha, hb⟩)
      · exact .inr ⟨this, ha, hb⟩
theorem Lp.next {n : Nat} {az bz : List (List (List Int))} {f s : List Int} {x v : Nat} {f1 s1 : List Int} {i y : Nat} (h : Lp n az bz f s x v f1 s1 (PrO az x i s1)) : Lp n az bz f s x v f1 s1 (PrI az x i s1 y 0) := h.mono fun k a b hp => by
  rcases hp with hp | ⟨hk, _⟩
  · exact hp
  · omega
theorem Lp.over {n : Nat} {az bz : List (List (List Int))} {f s : List Int} {x v : Nat} {f2 s2 s1 l : List Int} {i y : Nat} (h : Lp n az bz f s x v f2 s2 (PrI az x i s1 y az.length)) (hi : i < s1.length) (hy : (ix s1 i).toNat = y) (hs : s2 = s1 ++ l) : Lp n az bz f s x v f2 s2 (PrO az x (i + 1) s2) := h.mono fun k a b hp => by
  rw [hs] at hp
  exact prO_succ hy (prO_app (by omega) hp)
theorem Lp.all {n : Nat} {az bz : List (List (List Int))} {f s : List Int} {x v : Nat} {f1 s1 : List Int} (h : Lp n az bz f s x v f1 s1 (PrO az x s1.length s1)) : AsgR n az bz f s x v true f1 s1 :=
  h.fin fun k hk j hj => ⟨⟨hk, j, hj, .inl ⟨rfl, rfl⟩⟩, ⟨hk, j, hj, .inr ⟨rfl, rfl⟩⟩⟩
attribute [irreducible] asgF tabsL asgE contL
end Go.Proofs.YtjfjpngajboidaaGreat


namespace Go.Proofs.YtjfjpngajboidaaGreat
set_option linter.unusedVariables false
set_option linter.unusedSimpArgs false
open Go.RowKit
open Go.Deep

structure MapSt (base : Nat) (w : World) (M I U : Nat) (v u : Value) (n : Nat) (f s : List Int) (sv : Value) : Prop where
  c0 : w.cell? ⟨M, 0, none⟩ = some v
  c1 : w.cell? ⟨M, 1, none⟩ = some u
  c2 : w.cell? ⟨M, 2, none⟩ = some (.slice (some ⟨I, 0, none⟩) n n)
  c3 : w.cell? ⟨M, 3, none⟩ = some (.slice (some ⟨U, 0, none⟩) n n)
  c4 : w.cell? ⟨M, 4, none⟩ = some sv
  fr : w.frozen? ⟨M, 4, none⟩ = false
  img : w.rowIs I 2 n (fun i => .int .i64 (ix f i))
  usd : w.rowIs U 4 n (fun i => .bool (hasB f i))
  set : GrowI 2 base w sv s
  apart : M ≠ I ∧ M ≠ U ∧ I ≠ U ∧ ∀ g, sv.ownBlock = some g → g ≠ M ∧ g ≠ I ∧ g ≠ U
  low : base ≤ M ∧ base ≤ I ∧ base ≤ U
theorem MapSt.ext {base : Nat} {w w' : World} {M I U : Nat} {v u : Value} {n : Nat} {f s : List Int} {sv : Value} (h : MapSt base w M I U v u n f s sv) (hM : M < w.heap.size) (hx : Ext w w') : MapSt base w' M I U v u n f s sv where
  c0 := hx.cell h.c0
  c1 := hx.cell h.c1
  c2 := hx.cell h.c2
  c3 := hx.cell h.c3
  c4 := hx.cell h.c4
  fr := hx.free h.fr hM
  img := h.img.of_block (Below.block hx I h.img.lt)
  usd := h.usd.of_block (Below.block hx U h.usd.lt)
  set := h.set.ext hx
  apart := h.apart
  low := h.low
theorem GrowI.setOff {e base : Nat} {w : World} {v : Value} {l : List Int} (h : GrowI e base w v l) {a : Addr} (ha : ∀ g, v.ownBlock = some g → g ≠ a.block) (u : Value) : GrowI e base (w.setCell a u) v l := by
  refine ⟨h.1, ?_⟩
  rcases h.2 with hn | ⟨g, cap, cur, rfl, hb, hg, rest⟩
  · exact .inl hn
  · exact .inr ⟨g, cap, cur, rfl, hb, (blk_setCell_other _ _ _ _ (ha g rfl)).trans hg, rest⟩
theorem MapSt.cut {base : Nat} {w : World} {M I U S : Nat} {v u : Value} {n c k : Nat} {f s : List Int} (h : MapSt base w M I U v u n f s (.slice (some ⟨S, 0, none⟩) s.length c)) (hk : k ≤ s.length) :
    MapSt base (w.setCell ⟨M, 4, none⟩ (.slice (some ⟨S, 0, none⟩) k c)) M I U v u n f (s.take k) (.slice (some ⟨S, 0, none⟩) k c) where
  c0 := kc_set2 (by simp) h.c0
  c1 := kc_set2 (by simp) h.c1
  c2 := kc_set2 (by simp) h.c2
  c3 := kc_set2 (by simp) h.c3
  c4 := kc_same h.c4
  fr := kf_set h.fr
  img := h.img.setOther (fun e => h.apart.1 e.symm) _
  usd := h.usd.setOther (fun e => h.apart.2.1 e.symm) _
  set := (h.set.cut hk).setOff (fun g hg => (h.apart.2.2.2 g hg).1) _
  apart := ⟨h.apart.1, h.apart.2.1, h.apart.2.2.1, fun g hg => h.apart.2.2.2 g hg⟩
  low := h.low
end Go.Proofs.YtjfjpngajboidaaGreat
