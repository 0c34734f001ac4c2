/-
  The dihedral quandle is the Alexander quandle of n and n - 1 and the core of the cyclic group: plain.
-/
import Derived.Test.YtbfhecckapgpnaaJx0
import Derived.Test.YtbfhecckapgpnaaJx1
import Derived.Test.YtbfhecckapgpnaaJx2
import Derived.Test.YtbfhecckapgpnaaJx7
import Derived.Test.YtbfhecckapgpnaaJx22
import Derived.Test.YtbfhecckapgpnaaJx6
import Derived.Test.YtbfhecckapgpnaaJx12
import Derived.Test.YtbfhecckapgpnaaJx42
import Derived.Test.YtbfhecckapgpnaaJx31
import Derived.Test.YtbfhecckapgpnaaJx3
import Derived.Test.YtbfhecckapgpnaaJx20
import Derived.Test.YtbfhecckapgpnaaJx10
namespace Go.Proofs.Ytbfhecckapgpnaa
set_option linter.unusedVariables false
set_option linter.unusedSimpArgs false

def dhF (n x y : Nat) : Int := (((2 * x + n - y) % n : Nat) : Int)
theorem dh_check : ((List.range 13).all fun n => decide (n = 0) || (groupB (mkT n (cycF n)) && decide (mkT n (coreF (mkT n (cycF n))) = alT n (n - 1)) && decide (mkT n (dhF n) = alT n (n - 1)) && copB (n - 1) n)) = true := by decide +kernel
theorem dh_all {n : Nat} (h1 : 1 ≤ n) (h12 : n ≤ 12) : groupB (mkT n (cycF n)) = true ∧ mkT n (coreF (mkT n (cycF n))) = alT n (n - 1) ∧ mkT n (dhF n) = alT n (n - 1) ∧ copB (n - 1) n = true := by
  have h0 := dh_check
  rw [List.all_eq_true] at h0
  have h := h0 n (List.mem_range.2 (by omega))
  rw [decide_eq_false (by omega : ¬ n = 0), Bool.false_or, Bool.and_eq_true, Bool.and_eq_true, Bool.and_eq_true, decide_eq_true_eq, decide_eq_true_eq] at h
  exact ⟨h.1.1.1, h.1.1.2, h.1.2, h.2⟩
/-- what the program computes -/
theorem dh_val {n x y : Nat} (hx : x < n) (hy : y < n) : (2 * (x : Int) - y + n) % n = dhF n x y := by
  unfold dhF
  rw [show 2 * (x : Int) - y + n = ((2 * x + n - y : Nat) : Int) by omega, Int.natCast_emod]
end Go.Proofs.Ytbfhecckapgpnaa

/-
  A finite group on the numbers below n; subgroups' sizes are divisors: plain.
-/
namespace Go.Proofs.Ytbfhecckapgpnaa
set_option linter.unusedVariables false
set_option linter.unusedSimpArgs false

/-- m is the multiplication of a group on the numbers below n, v its inverse, 0 its unit -/
structure Grp (n : Nat) (m : Nat → Nat → Nat) (v : Nat → Nat) : Prop where
  bd : ∀ x, x < n → ∀ y, y < n → m x y < n
  vb : ∀ x, x < n → v x < n
  assoc : ∀ x, x < n → ∀ y, y < n → ∀ z, z < n → m (m x y) z = m x (m y z)
  ul : ∀ x, x < n → m 0 x = x
  ur : ∀ x, x < n → m x 0 = x
  vl : ∀ x, x < n → m (v x) x = 0
  vr : ∀ x, x < n → m x (v x) = 0
section
variable {n : Nat} {m : Nat → Nat → Nat} {v : Nat → Nat} (h : Grp n m v)
include h
theorem Grp.inj_l {x y z : Nat} (hx : x < n) (hy : y < n) (hz : z < n) (e : m x y = m x z) : y = z := by
  have h1 := congrArg (m (v x)) e
  rw [← h.assoc _ (h.vb x hx) x hx y hy, ← h.assoc _ (h.vb x hx) x hx z hz, h.vl x hx, h.ul y hy, h.ul z hz] at h1
  exact h1
theorem Grp.inj_r {x y z : Nat} (hx : x < n) (hy : y < n) (hz : z < n) (e : m y x = m z x) : y = z := by
  have h1 := congrArg (fun a => m a (v x)) e
  rw [h.assoc y hy x hx _ (h.vb x hx), h.assoc z hz x hx _ (h.vb x hx), h.vr x hx, h.ur y hy, h.ur z hz] at h1
  exact h1
theorem Grp.v_uniq {x y : Nat} (hx : x < n) (hy : y < n) (e : m x y = 0) : y = v x := h.inj_l hx hy (h.vb x hx) (by rw [e, h.vr x hx])
theorem Grp.v_v {x : Nat} (hx : x < n) : v (v x) = x := (h.v_uniq (h.vb x hx) hx (h.vl x hx)).symm
theorem Grp.v_mul {x y : Nat} (hx : x < n) (hy : y < n) : v (m x y) = m (v y) (v x) := by
  refine (h.v_uniq (h.bd x hx y hy) (h.bd _ (h.vb y hy) _ (h.vb x hx)) ?_).symm
  rw [h.assoc x hx y hy _ (h.bd _ (h.vb y hy) _ (h.vb x hx)), ← h.assoc y hy _ (h.vb y hy) _ (h.vb x hx), h.vr y hy, h.ul _ (h.vb x hx), h.vr x hx]
end
/-- S lists a subgroup -/
structure Sub (n : Nat) (m : Nat → Nat → Nat) (v : Nat → Nat) (S : List Nat) : Prop where
  nodup : S.Nodup
  bd : ∀ x, x ∈ S → x < n
  mul : ∀ x, x ∈ S → ∀ y, y ∈ S → m x y ∈ S
  inv : ∀ x, x ∈ S → v x ∈ S
theorem nodup_map_on {α β : Type} {f : α → β} : ∀ {l : List α}, l.Nodup → (∀ x, x ∈ l → ∀ y, y ∈ l → f x = f y → x = y) → (l.map f).Nodup
  | [], _, _ => List.nodup_nil
  | a :: l, hn, hi => by
    rw [List.nodup_cons] at hn
    rw [List.map_cons, List.nodup_cons]
    refine ⟨fun hm => ?_, nodup_map_on hn.2 (fun x hx y hy => hi x (by simp [hx]) y (by simp [hy]))⟩
    obtain ⟨b, hb, e⟩ := List.mem_map.1 hm
    have := hi b (by simp [hb]) a (by simp) e
    subst this
    exact hn.1 hb
/-- what is left when a part is taken away -/
theorem len_without {α : Type} [DecidableEq α] : ∀ (C L : List α), C.Nodup → L.Nodup → (∀ x, x ∈ C → x ∈ L) → (L.filter fun x => decide (x ∉ C)).length + C.length = L.length
  | [], L, _, _, _ => by simp
  | c :: C, L, hC, hL, hs => by
    rw [List.nodup_cons] at hC
    have ih := len_without C (L.erase c) hC.2 (hL.erase c) (fun x hx => by
      have hne : x ≠ c := fun e => by subst e; exact hC.1 hx
      exact (List.mem_erase_of_ne hne).2 (hs x (by simp [hx])))
    have hc : c ∈ L := hs c (by simp)
    have hl : (L.erase c).length + 1 = L.length := by
      have := List.length_erase_of_mem hc
      have : 0 < L.length := List.length_pos_of_mem hc
      omega
    have hf : (L.filter fun x => decide (x ∉ c :: C)) = ((L.erase c).filter fun x => decide (x ∉ C)) := by
      rw [hL.erase_eq_filter, List.filter_filter]
      refine List.filter_congr fun x _ => ?_
      by_cases e : x = c
      · subst e; simp
      · simp [e]
    rw [hf, List.length_cons]
    omega
/-- Lagrange -/
theorem lagrange {n : Nat} {m : Nat → Nat → Nat} {v : Nat → Nat} (h : Grp n m v) {S : List Nat} (hS : Sub n m v S) : ∀ (k : Nat) (L : List Nat), L.length ≤ k → L.Nodup → (∀ x, x ∈ L → x < n) → (∀ x, x ∈ L → ∀ s, s ∈ S → m x s ∈ L) → S ≠ [] → S.length ∣ L.length
  | 0, L, hk, _, _, _, _ => by
    have : L.length = 0 := by omega
    rw [this]; exact Nat.dvd_zero _
  | k + 1, L, hk, hn, hb, hc, hne => by
    cases L with
    | nil => exact Nat.dvd_zero _
    | cons x L' =>
      have hx : x < n := hb x (by simp)
      have hCn : (S.map (m x)).Nodup := nodup_map_on hS.nodup fun a ha b hb' e => h.inj_l hx (hS.bd a ha) (hS.bd b hb') e
      have hsub : ∀ y, y ∈ S.map (m x) → y ∈ x :: L' := fun y hy => by
        obtain ⟨s, hs, rfl⟩ := List.mem_map.1 hy
        exact hc x (by simp) s hs
      have hlen := len_without (S.map (m x)) (x :: L') hCn hn hsub
      rw [List.length_map] at hlen
      have hpos : 0 < S.length := List.length_pos_iff.2 hne
      have ih := lagrange h hS k ((x :: L').filter fun y => decide (y ∉ S.map (m x))) (by omega) (hn.filter _) (fun y hy => hb y (List.mem_filter.1 hy).1) (fun y hy s hs => by
        obtain ⟨h1, h2⟩ := List.mem_filter.1 hy
        rw [List.mem_filter]
        refine ⟨hc y h1 s hs, ?_⟩
        have h2 : y ∉ S.map (m x) := by simpa using h2
        have hyn := hb y h1
        have hsn := hS.bd s hs
        have : m y s ∉ S.map (m x) := fun hm => by
          obtain ⟨r, hr, e⟩ := List.mem_map.1 hm
          have hrn := hS.bd r hr
          refine h2 (List.mem_map.2 ⟨m r (v s), hS.mul r hr _ (hS.inv s hs), ?_⟩)
          rw [← h.assoc x hx r hrn _ (h.vb s hsn), e, h.assoc y hyn s hsn _ (h.vb s hsn), h.vr s hsn, h.ur y hyn]
        simpa using this) hne
      have e : (x :: L').length = ((x :: L').filter fun y => decide (y ∉ S.map (m x))).length + S.length := by omega
      rw [e]
      exact (Nat.dvd_add_right ih).2 (Nat.dvd_refl _)
theorem sub_divides {n : Nat} {m : Nat → Nat → Nat} {v : Nat → Nat} (h : Grp n m v) {S : List Nat} (hS : Sub n m v S) (hne : S ≠ []) : S.length ∣ n := by
  have := lagrange h hS n (List.range n) (by simp) List.nodup_range (fun x hx => List.mem_range.1 hx) (fun x hx s hs => List.mem_range.2 (h.bd x (List.mem_range.1 hx) s (hS.bd s hs))) hne
  simpa using this
/-- a group's table -/
def mulN (t : List (List Int)) (x y : Nat) : Nat := (ent t x y).toNat
theorem grp_of {t : List (List Int)} (hG : GroupOk t) : Grp t.length (mulN t) (fun x => (backF t x).toNat) := by
  have bd : ∀ x, x < t.length → ∀ y, y < t.length → 0 ≤ ent t x y ∧ (ent t x y).toNat < t.length := fun x hx y hy => by
    have := hG.1.bd (x := x) (y := y) hx hy
    omega
  have hn : 0 < t.length := hG.1.1
  have assoc : ∀ x, x < t.length → ∀ y, y < t.length → ∀ z, z < t.length → mulN t (mulN t x y) z = mulN t x (mulN t y z) := fun x hx y hy z hz => by
    unfold mulN; rw [grp_assoc hG hx hy hz]
  have ul : ∀ x, x < t.length → mulN t 0 x = x := fun x hx => by unfold mulN; rw [grp_unit_l hG hx]; rfl
  have ur : ∀ x, x < t.length → mulN t x 0 = x := fun x hx => by unfold mulN; rw [grp_unit_r hG hx]; rfl
  have vb : ∀ x, x < t.length → (backF t x).toNat < t.length := fun x hx => by have := backF_ok hG hx; omega
  have vr : ∀ x, x < t.length → mulN t x (backF t x).toNat = 0 := fun x hx => by unfold mulN; rw [(backF_ok hG hx).2.2]; rfl
  have bm : ∀ x, x < t.length → ∀ y, y < t.length → mulN t x y < t.length := fun x hx y hy => (bd x hx y hy).2
  refine ⟨bm, vb, assoc, ul, ur, fun x hx => ?_, vr⟩
  have h1 := vb x hx
  have h2 := vb _ h1
  have e := assoc _ h1 x hx _ h1
  rw [vr x hx, ur _ h1] at e
  have e2 := congrArg (fun a => mulN t a (backF t (backF t x).toNat).toNat) e
  rw [assoc _ (bm _ h1 x hx) _ h1 _ h2, vr _ h1, ur _ (bm _ h1 x hx)] at e2
  exact e2
end Go.Proofs.Ytbfhecckapgpnaa

/-
  The named groups of an order are not isomorphic; each is isomorphic to itself: plain.
-/
namespace Go.Proofs.Ytbfhecckapgpnaa
set_option linter.unusedVariables false
set_option linter.unusedSimpArgs false

/-- what an isomorphism carries is as often there as here -/
theorem count_iso {n : Nat} {P : Nat → Nat} {f g : Nat → Bool} (hb : ∀ x, x < n → P x < n) (hi : ∀ x, x < n → ∀ y, y < n → P x = P y → x = y) (hs : ∀ y, y < n → ∃ x, x < n ∧ P x = y) (h : ∀ x, x < n → f x = g (P x)) :
    ((List.range n).filter f).length = ((List.range n).filter g).length := by
  have e : ∀ x, x ∈ (List.range n).filter f → x < n := fun x hx => List.mem_range.1 (List.mem_filter.1 hx).1
  have h1 := nodup_le (((List.range n).filter f).map P) ((List.range n).filter g) (nodup_map_on (List.nodup_range.filter _) fun x hx y hy => hi x (e x hx) y (e y hy)) fun y hy => by
    obtain ⟨x, hx, rfl⟩ := List.mem_map.1 hy
    have hxn := e x hx
    rw [List.mem_filter, List.mem_range]
    exact ⟨hb x hxn, by rw [← h x hxn]; exact (List.mem_filter.1 hx).2⟩
  have h2 := nodup_le ((List.range n).filter g) (((List.range n).filter f).map P) (List.nodup_range.filter _) fun y hy => by
    obtain ⟨hy1, hy2⟩ := List.mem_filter.1 hy
    obtain ⟨x, hx, rfl⟩ := hs y (List.mem_range.1 hy1)
    exact List.mem_map.2 ⟨x, List.mem_filter.2 ⟨List.mem_range.2 hx, by rw [h x hx]; exact hy2⟩, rfl⟩
  rw [List.length_map] at h1 h2
  omega
/-- how many elements have a square (a cube) 0, and which commute with all -/
def cnt2 (t : List (List Int)) : Nat := ((List.range t.length).filter fun x => ent t x x == 0).length
def cnt3 (t : List (List Int)) : Nat := ((List.range t.length).filter fun x => ent t (ent t x x).toNat x == 0).length
def cntC (t : List (List Int)) : Nat := ((List.range t.length).filter fun x => (List.range t.length).all fun y => ent t x y == ent t y x).length
theorem inv_iso {t u : List (List Int)} (hT : GroupOk t) (hU : GroupOk u) (hl : u.length = t.length) {p : List Int} (hp : IsoOk t.length [t] [u] p) : cnt2 t = cnt2 u ∧ cnt3 t = cnt3 u ∧ cntC t = cntC u := by
  have h0 : ix p 0 = 0 := hp.zero (by simp) (by rw [tab_one]; exact hT) (by rw [tab_one]; exact hU) (by rw [tab_one]) (by rw [tab_one]; exact hl)
  have hpm : ∀ x, x < t.length → ∀ y, y < t.length → ix p (ent t x y).toNat = ent u (ix p x).toNat (ix p y).toNat := fun x hx y hy => by
    have := hp.2.2 0 (by simp) x hx y hy
    rwa [tab_one, tab_one] at this
  have bT : ∀ x, x < t.length → ∀ y, y < t.length → 0 ≤ ent t x y ∧ (ent t x y).toNat < t.length := fun x hx y hy => by
    have := hT.1.bd (x := x) (y := y) hx hy
    omega
  have bU : ∀ x, x < t.length → ∀ y, y < t.length → 0 ≤ ent u x y ∧ (ent u x y).toNat < t.length := fun x hx y hy => by
    have := hU.1.bd (x := x) (y := y) (by omega) (by omega)
    omega
  have hb : ∀ x, x < t.length → (ix p x).toNat < t.length := fun x hx => (hp.bd hx).2
  have hi : ∀ x, x < t.length → ∀ y, y < t.length → (ix p x).toNat = (ix p y).toNat → x = y := fun x hx y hy e => hp.inj hx hy (by have := hp.bd hx; have := hp.bd hy; omega)
  have hs : ∀ y, y < t.length → ∃ x, x < t.length ∧ (ix p x).toNat = y := fun y hy => by
    obtain ⟨x, hx, e⟩ := hp.surj hy
    exact ⟨x, hx, by omega⟩
  have hz : ∀ a : Int, 0 ≤ a → a.toNat < t.length → (a = 0 ↔ ix p a.toNat = 0) := fun a ha hat => by
    constructor
    · rintro rfl; exact h0
    · intro e
      have := hp.inj (x := a.toNat) (y := 0) hat (by omega) (by rw [e, h0])
      omega
  refine ⟨?_, ?_, ?_⟩
  · unfold cnt2
    rw [hl]
    refine count_iso hb hi hs fun x hx => ?_
    obtain ⟨a1, a2⟩ := bT x hx x hx
    have := hz _ a1 a2
    rw [hpm x hx x hx] at this
    rw [Bool.eq_iff_iff, beq_iff_eq, beq_iff_eq]
    exact this
  · unfold cnt3
    rw [hl]
    refine count_iso hb hi hs fun x hx => ?_
    obtain ⟨a1, a2⟩ := bT x hx x hx
    obtain ⟨c1, c2⟩ := bT _ a2 x hx
    have := hz _ c1 c2
    rw [hpm _ a2 x hx, hpm x hx x hx] at this
    rw [Bool.eq_iff_iff, beq_iff_eq, beq_iff_eq]
    exact this
  · unfold cntC
    rw [hl]
    refine count_iso hb hi hs fun x hx => ?_
    rw [Bool.eq_iff_iff, List.all_eq_true, List.all_eq_true]
    constructor
    · intro h y hy
      obtain ⟨z, hz1, rfl⟩ := hs y (List.mem_range.1 hy)
      have := h z (List.mem_range.2 hz1)
      rw [beq_iff_eq] at this ⊢
      rw [← hpm x hx z hz1, ← hpm z hz1 x hx, this]
    · intro h y hy
      have hy := List.mem_range.1 hy
      have := h _ (List.mem_range.2 (hb y hy))
      rw [beq_iff_eq] at this ⊢
      rw [← hpm x hx y hy, ← hpm y hy x hx] at this
      have q1 := bT x hx y hy
      have q2 := bT y hy x hx
      have := hp.inj q1.2 q2.2 this
      omega
theorem idL_isoT {t : List (List Int)} (hT : GroupOk t) : IsoOk t.length [t] [t] (idL t.length) := by
  have h := idL_perm t.length
  refine ⟨h.1, h.2.1, fun k hk x hx y hy => ?_⟩
  have : k = 0 := by simpa using hk
  subst this
  rw [tab_one]
  have := hT.1.bd (x := x) (y := y) hx hy
  rw [ix_idL _ _ hx, ix_idL _ _ hy, ix_idL _ _ (by omega), Int.toNat_natCast, Int.toNat_natCast]
  omega
/-- there is a first isomorphism exactly if there is one -/
theorem isoF_has {t u : List (List Int)} (hl : u.length = t.length) (h1 : 1 ≤ t.length) : isoF [t] [u] ≠ [] ↔ ∃ p, IsoOk t.length [t] [u] p := by
  constructor
  · intro h
    cases hL : isoL t.length [t] [u] with
    | nil => exact absurd (isoF_nil (by rw [tab_one]) hL) h
    | cons p r => exact ⟨p, mem_isoL.1 (by rw [hL]; simp)⟩
  · rintro ⟨p, hp⟩
    have hm := mem_isoL.2 hp
    cases hL : isoL t.length [t] [u] with
    | nil => rw [hL] at hm; cases hm
    | cons q r =>
      rw [isoF_cons (n := t.length) (by rw [tab_one]) (by rw [tab_one]; exact hl) hL]
      exact ne_nil_of_lt (isoF_ne h1 hL).2
theorem isoF_ok {t u : List (List Int)} (hl : u.length = t.length) (h1 : 1 ≤ t.length) (h : isoF [t] [u] ≠ []) : IsoOk t.length [t] [u] (isoF [t] [u]) := by
  cases hL : isoL t.length [t] [u] with
  | nil => exact absurd (isoF_nil (by rw [tab_one]) hL) h
  | cons p r =>
    rw [isoF_cons (n := t.length) (by rw [tab_one]) (by rw [tab_one]; exact hl) hL]
    exact mem_isoL.1 (by rw [hL]; simp)
/-- the invariants tell the named groups of an order apart -/
def invsOf (t : List (List Int)) : Nat × Nat × Nat := (cnt2 t, cnt3 t, cntC t)
theorem apart_check : (decide ([invsOf (cyT 4), invsOf (prodT (cyT 2) (cyT 2))].Nodup) && decide ([invsOf (cyT 6), invsOf (dbT 3 0)].Nodup) && decide ([invsOf (cyT 8), invsOf (prodT (cyT 2) (cyT 4)), invsOf (prodT (cyT 2) (prodT (cyT 2) (cyT 2))), invsOf (dbT 4 0), invsOf (dbT 4 2)].Nodup)
    && decide ([invsOf (cyT 9), invsOf (prodT (cyT 3) (cyT 3))].Nodup) && decide ([invsOf (cyT 10), invsOf (dbT 5 0)].Nodup) && decide ([invsOf (cyT 12), invsOf (prodT (cyT 2) (cyT 6)), invsOf (dbT 6 0), invsOf (dbT 6 3), invsOf evT].Nodup)) = true := by decide +kernel
theorem namedL_apart {n : Nat} (h1 : 1 ≤ n) (h12 : n ≤ 12) : ((namedL n).map invsOf).Nodup := by
  have hc := apart_check
  simp only [Bool.and_eq_true, decide_eq_true_eq] at hc
  obtain ⟨⟨⟨⟨⟨c4, c6⟩, c8⟩, c9⟩, c10⟩, c12⟩ := hc
  have h : n = 1 ∨ n = 2 ∨ n = 3 ∨ n = 4 ∨ n = 5 ∨ n = 6 ∨ n = 7 ∨ n = 8 ∨ n = 9 ∨ n = 10 ∨ n = 11 ∨ n = 12 := by omega
  rcases h with rfl | rfl | rfl | rfl | rfl | rfl | rfl | rfl | rfl | rfl | rfl | rfl
  · simp [namedL]
  · simp [namedL]
  · simp [namedL]
  · exact c4
  · simp [namedL]
  · exact c6
  · simp [namedL]
  · exact c8
  · exact c9
  · exact c10
  · simp [namedL]
  · show ([cyT 12, prodT (cyT 2) (cyT 6), dbT 6 0, dbT 6 3, gopV ((4 : Nat) : Int) evenE].map invsOf).Nodup
    rw [even_evT]
    exact c12
theorem tab_get {ts : List (List (List Int))} {i : Nat} (hi : i < ts.length) : tab ts i = ts[i] := by
  rw [tab_eq, List.getD_eq_getElem?_getD, List.getElem?_eq_getElem hi]; rfl
/-- the name of a named group -/
theorem named_self {n : Nat} (h1 : 1 ≤ n) (h12 : n ≤ 12) {i : Nat} (hi : i < (namedL n).length) : nameV (tab (namedL n) i) = i ∧ nameC (tab (namedL n) i) = 0 := by
  obtain ⟨g1, g2⟩ := namedL_ok h1 h12 hi
  have hG := groupB_iff.1 g1
  refine name_yes g1 (ts := namedL n) (by rw [g2]) hi ?_ fun j hj => ?_
  · exact (isoF_has rfl hG.1.1).2 ⟨_, idL_isoT hG⟩
  · apply Classical.byContradiction
    intro hne
    obtain ⟨k1, k2⟩ := namedL_ok h1 h12 (i := j) (by omega)
    have hl : (tab (namedL n) j).length = (tab (namedL n) i).length := by rw [g2, k2]
    obtain ⟨p, hp⟩ := (isoF_has hl hG.1.1).1 hne
    obtain ⟨e1, e2, e3⟩ := inv_iso hG (groupB_iff.1 k1) hl hp
    have hnd := namedL_apart h1 h12
    rw [List.Nodup, List.pairwise_iff_getElem] at hnd
    have := hnd j i (by simp; omega) (by simpa using hi) hj
    rw [List.getElem_map, List.getElem_map, ← tab_get, ← tab_get] at this
    exact this (by unfold invsOf; rw [e1, e2, e3])
end Go.Proofs.Ytbfhecckapgpnaa

/-
  Cosets, first elements of classes, the quotient's table: plain.
-/
namespace Go.Proofs.Ytbfhecckapgpnaa
set_option linter.unusedVariables false
set_option linter.unusedSimpArgs false

/-- the places, among the first i, where a label stands that is as large as what is found so far -/
def firTo (c : List Int) : Nat → List Int
  | 0 => []
  | i + 1 => if (ix c i == ((firTo c i).length : Int)) = true then firTo c i ++ [(i : Int)] else firTo c i
theorem firTo_zero (c : List Int) : firTo c 0 = [] := rfl
theorem firTo_yes {c : List Int} {i : Nat} (h : (ix c i == ((firTo c i).length : Int)) = true) : firTo c (i + 1) = firTo c i ++ [(i : Int)] := by simp only [firTo]; rw [if_pos h]
theorem firTo_no {c : List Int} {i : Nat} (h : (ix c i == ((firTo c i).length : Int)) = false) : firTo c (i + 1) = firTo c i := by simp only [firTo]; rw [if_neg (by rw [h]; simp)]
theorem firTo_len (c : List Int) : ∀ i, (firTo c i).length ≤ i
  | 0 => by simp [firTo]
  | i + 1 => by
    have := firTo_len c i
    cases h : (ix c i == ((firTo c i).length : Int)) with
    | true => rw [firTo_yes h]; simp; omega
    | false => rw [firTo_no h]; omega
theorem firTo_get (c : List Int) {k : Nat} (h : (ix c k == ((firTo c k).length : Int)) = true) : ∀ d, ix (firTo c (k + 1 + d)) (firTo c k).length = (k : Int) ∧ (firTo c k).length < (firTo c (k + 1 + d)).length
  | 0 => by rw [Nat.add_zero, firTo_yes h]; exact ⟨ix_append_one _ _, by simp⟩
  | d + 1 => by
    have ⟨h1, h2⟩ := firTo_get c h d
    rw [← Nat.add_assoc]
    cases hb : (ix c (k + 1 + d) == ((firTo c (k + 1 + d)).length : Int)) with
    | true => rw [firTo_yes hb, ix_append_left h2]; exact ⟨h1, by simp; omega⟩
    | false => rw [firTo_no hb]; exact ⟨h1, h2⟩
theorem firTo_at {c : List Int} {k n : Nat} (h : (ix c k == ((firTo c k).length : Int)) = true) (hk : k < n) : ix (firTo c n) (firTo c k).length = (k : Int) ∧ (firTo c k).length < (firTo c n).length := by
  have := firTo_get c h (n - (k + 1))
  rwa [show k + 1 + (n - (k + 1)) = n from by omega] at this
theorem firTo_mono (c : List Int) {k n : Nat} (h : k ≤ n) : (firTo c k).length ≤ (firTo c n).length := by
  induction n with
  | zero => have : k = 0 := by omega
            subst this; exact Nat.le_refl _
  | succ n ih =>
    rcases Nat.lt_or_ge n k with g | g
    · have : k = n + 1 := by omega
      subst this; exact Nat.le_refl _
    · have := ih g
      cases hb : (ix c n == ((firTo c n).length : Int)) with
      | true => rw [firTo_yes hb]; simp; omega
      | false => rw [firTo_no hb]; omega
theorem firTo_mem (c : List Int) : ∀ i j, j < (firTo c i).length → ∃ x : Nat, x < i ∧ ix (firTo c i) j = (x : Int)
  | 0, j, h => by simp [firTo] at h
  | i + 1, j, h => by
    cases hb : (ix c i == ((firTo c i).length : Int)) with
    | false =>
      rw [firTo_no hb] at h ⊢
      obtain ⟨x, h1, h2⟩ := firTo_mem c i j h
      exact ⟨x, by omega, h2⟩
    | true =>
      rw [firTo_yes hb] at h ⊢
      rcases Nat.lt_or_ge j (firTo c i).length with g | g
      · obtain ⟨x, h1, h2⟩ := firTo_mem c i j g
        exact ⟨x, by omega, by rw [ix_append_left g]; exact h2⟩
      · have : j = (firTo c i).length := by simp at h; omega
        subst this
        exact ⟨i, by omega, ix_append_one _ _⟩
theorem firTo_num (l : List Int) : ∀ i, i ≤ l.length → (firTo (numL l) i).length = (seenTo l i).length
  | 0, _ => rfl
  | i + 1, h => by
    have ih := firTo_num l i (by omega)
    have hi := ix_numL l i (by omega)
    cases hb : hasB (seenTo l i) (ix l i) with
    | true =>
      have h1 : numF l i < ((seenTo l i).length : Int) := by
        rw [numF_old hb]
        rcases indexOf_spec (seenTo l i) (ix l i) with ⟨h1, _⟩ | ⟨j, h1, h2, _⟩
        · rw [h1]; omega
        · rw [h2]; omega
      have h2 : (ix (numL l) i == ((firTo (numL l) i).length : Int)) = false := by
        rw [hi, ih]; simp; omega
      rw [firTo_no h2, seenTo_old hb, ih]
    | false =>
      have h2 : (ix (numL l) i == ((firTo (numL l) i).length : Int)) = true := by
        rw [hi, ih, numF_new hb]; simp
      rw [firTo_yes h2, seenTo_new hb]; simp [ih]
theorem num_le (l : List Int) {i : Nat} (h : i < l.length) : ix (numL l) i ≤ ((firTo (numL l) i).length : Int) := by
  rw [ix_numL l i h, firTo_num l i (by omega)]
  cases hb : hasB (seenTo l i) (ix l i) with
  | true =>
    rw [numF_old hb]
    rcases indexOf_spec (seenTo l i) (ix l i) with ⟨h1, _⟩ | ⟨j, h1, h2, _⟩
    · rw [h1]; omega
    · rw [h2]; omega
  | false => rw [numF_new hb]; exact Int.le_refl _

/-- the table of a quotient by classes -/
@[irreducible] def quoN (t : List (List Int)) (c : List Int) : Nat := (firTo c t.length).length
@[irreducible] def quoF (t : List (List Int)) (c : List Int) (i j : Nat) : Int := ix c (ent t (ix (firTo c t.length) i).toNat (ix (firTo c t.length) j).toNat).toNat
theorem quoN_def (t c) : (firTo c t.length).length = quoN t c := by unfold quoN; rfl
theorem quoF_def (t : List (List Int)) (c : List Int) (i j x y : Nat) (h1 : ix (firTo c t.length) i = (x : Int)) (h2 : ix (firTo c t.length) j = (y : Int)) : quoF t c i j = ix c (ent t x y).toNat := by unfold quoF; rw [h1, h2, Int.toNat_natCast, Int.toNat_natCast]
@[irreducible] def quoT (t : List (List Int)) (c : List Int) : List (List Int) := mkT (quoN t c) (quoF t c)
theorem quoT_def (t c) : mkT (quoN t c) (quoF t c) = quoT t c := by unfold quoT; rfl
theorem quoN_le (t c) : quoN t c ≤ t.length := by rw [← quoN_def]; exact firTo_len _ _
theorem quoN_at {t : List (List Int)} {c : List Int} {k : Nat} (hk : k < t.length) (h : (ix c k == ((firTo c k).length : Int)) = true) : (firTo c k).length < quoN t c := by
  rw [← quoN_def]; exact (firTo_at h hk).2
theorem quoN_mono {t : List (List Int)} {c : List Int} {k : Nat} (hk : k ≤ t.length) : (firTo c k).length ≤ quoN t c := by rw [← quoN_def]; exact firTo_mono c hk
theorem quoF_at {t : List (List Int)} {c : List Int} {k j : Nat} (hk : k < t.length) (hj : j < t.length) (h : (ix c k == ((firTo c k).length : Int)) = true) (g : (ix c j == ((firTo c j).length : Int)) = true) : quoF t c (firTo c k).length (firTo c j).length = ix c (ent t k j).toNat :=
  quoF_def _ _ _ _ _ _ (firTo_at h hk).1 (firTo_at g hj).1

/-- the least product of x with members -/
@[irreducible] def cosG (t : List (List Int)) (x : Nat) (e : List Int) : Int := e.foldl (fun a y => min a (ent t x y.toNat)) (x : Int)
theorem cosG_nil (t x) : cosG t x [] = (x : Int) := by unfold cosG; rfl
theorem cosG_add (t : List (List Int)) (x : Nat) (e : List Int) (y : Int) : cosG t x (e ++ [y]) = min (cosG t x e) (ent t x y.toNat) := by unfold cosG; simp
@[irreducible] def cosF (t : List (List Int)) (m x : Nat) : Int := cosG t x (elemsL m)
theorem cosF_def (t m x) : cosG t x (elemsL m) = cosF t m x := by unfold cosF; rfl
@[irreducible] def coL (t : List (List Int)) (m : Nat) : List Int := mkL t.length (cosF t m)
theorem length_coL (t m) : (coL t m).length = t.length := by unfold coL; exact length_mkL _ _
theorem ix_coL (t : List (List Int)) (m i : Nat) (h : i < t.length) : ix (coL t m) i = cosF t m i := by unfold coL; exact ix_mkL _ _ _ h
@[irreducible] def cosL (t : List (List Int)) (m : Nat) : List Int := numL (coL t m)
theorem cosL_def (t m) : numL (coL t m) = cosL t m := by unfold cosL; rfl
theorem length_cosL (t m) : (cosL t m).length = t.length := by rw [← cosL_def, length_numL, length_coL]
theorem cosL_le (t : List (List Int)) (m : Nat) {i : Nat} (h : i < t.length) : ix (cosL t m) i ≤ ((firTo (cosL t m) i).length : Int) := by
  rw [← cosL_def]; exact num_le _ (by rw [length_coL]; exact h)

/-- the code of QuotientGroup; its table -/
@[irreducible] def quoC (t : List (List Int)) (a : Int) : Int := if subC t a = 0 then (if normV t a = true then 0 else 5) else subC t a
@[irreducible] def quoV (t : List (List Int)) (a : Int) : List (List Int) := if quoC t a = 0 then quoT t (cosL t a.toNat) else []
theorem quo_bad {t a} (h : subC t a ≠ 0) : quoC t a = subC t a ∧ quoV t a = [] := by
  have h1 : quoC t a = subC t a := by unfold quoC; rw [if_neg h]
  exact ⟨h1, by unfold quoV; rw [if_neg (by rw [h1]; exact h)]⟩
theorem quo_no {t} {m : Nat} (h : subC t m = 0) (h2 : normB t m = false) : quoC t m = 5 ∧ quoV t m = [] := by
  have h1 : quoC t m = 5 := by unfold quoC; rw [if_pos h, if_neg (by rw [normV_good h, h2]; simp)]
  exact ⟨h1, by unfold quoV; rw [if_neg (by rw [h1]; decide)]⟩
theorem quo_yes {t} {m : Nat} (h : subC t m = 0) (h2 : normB t m = true) : quoC t m = 0 ∧ quoV t m = quoT t (cosL t m) := by
  have h1 : quoC t m = 0 := by unfold quoC; rw [if_pos h, if_pos (by rw [normV_good h, h2])]
  exact ⟨h1, by unfold quoV; rw [if_pos h1, Int.toNat_natCast]⟩
end Go.Proofs.Ytbfhecckapgpnaa

/-
  The quotient of a group by a normal subgroup is a group, with as many elements as the index: plain.
-/
namespace Go.Proofs.Ytbfhecckapgpnaa
set_option linter.unusedVariables false
set_option linter.unusedSimpArgs false

/-- the table of a multiplication on the numbers below n -/
theorem group_made {n : Nat} {f : Nat → Nat → Int} {g : Nat → Nat → Nat} (h1 : 1 ≤ n) (h2 : n ≤ 12) (hf : ∀ x, x < n → ∀ y, y < n → f x y = ((g x y : Nat) : Int)) (hb : ∀ x, x < n → ∀ y, y < n → g x y < n)
    (ha : ∀ x, x < n → ∀ y, y < n → ∀ z, z < n → g (g x y) z = g x (g y z)) (hl : ∀ x, x < n → g 0 x = x) (hr : ∀ x, x < n → g x 0 = x) (hi : ∀ x, x < n → ∀ y, y < n → ∀ z, z < n → g x y = g x z → y = z) : GroupOk (mkT n f) := by
  have e : ∀ x, x < n → ∀ y, y < n → ent (mkT n f) x y = ((g x y : Nat) : Int) := fun x hx y hy => by rw [ent_mkT _ _ _ _ hx hy, hf x hx y hy]
  have rl : ∀ x, x < n → (row (mkT n f) x).length = n := fun x hx => by rw [row_mkT _ _ _ hx]; exact length_partRow _ _ _ _
  have er : ∀ x y, ent (mkT n f) x y = ix (row (mkT n f) x) y := fun x y => by unfold ent; rfl
  unfold GroupOk TableOk
  rw [length_mkT]
  refine ⟨⟨h1, h2, fun x hx => ⟨rl x hx, fun y hy => ?_⟩⟩, fun x hx => ⟨?_, ?_⟩, fun x hx => ⟨⟨?_, ?_⟩, fun y hy z hz => ?_⟩⟩
  · rw [e x hx y hy]
    have := hb x hx y hy
    omega
  · rw [rl x hx]
    intro y hy
    rw [rl x hx, ← er, e x hx y hy]
    have := hb x hx y hy
    omega
  · rw [rl x hx]
    intro y hy z hz h
    rw [← er, ← er, e x hx y hy, e x hx z (by omega)] at h
    have := hi x hx y hy z (by omega) (by omega)
    omega
  · rw [e 0 (by omega) x hx, hl x hx]
  · rw [e x hx 0 (by omega), hr x hx]
  · rw [e x hx y hy, e y hy z hz, Int.toNat_natCast, Int.toNat_natCast, e _ (hb x hx y hy) z hz, e x hx _ (hb y hy z hz), ha x hx y hy z hz]
/-- a closed set that has 0 has the inverses -/
theorem sub_inv {t : List (List Int)} {mask : Nat} (hG : GroupOk t) (hm : mask < 2 ^ t.length) (hs : subB t mask = true) : bitB mask 0 = true ∧ (∀ x, x < t.length → ∀ y, y < t.length → bitB mask x = true → bitB mask y = true → bitB mask (mulN t x y) = true) ∧ ∀ x, x < t.length → bitB mask x = true → bitB mask (backF t x).toNat = true := by
  have h12 := hG.1.2.1
  rw [subB_def, Bool.and_eq_true] at hs
  obtain ⟨h0, hc⟩ := hs
  have hc := closedB_iff.1 hc
  have hmul : ∀ x, x < t.length → ∀ y, y < t.length → bitB mask x = true → bitB mask y = true → bitB mask (mulN t x y) = true := fun x hx y hy bx bY => hc x hx y hy bx bY
  refine ⟨h0, hmul, fun x hx bx => ?_⟩
  have hg := grp_of hG
  have hpw : ∀ k, bitB mask (pw t x k).toNat = true := fun k => by
    induction k with
    | zero => simpa [pw] using bx
    | succ k ih =>
      have h1 := pw_lt hG.1 hx k
      have := pw_mul hG hx k 0
      have h2 := hmul _ h1 _ (pw_lt hG.1 hx 0) ih (by simpa [pw] using bx)
      unfold mulN at h2
      rw [this] at h2
      exact h2
  obtain ⟨d, hd, hz⟩ := pw_zero hG hx
  cases d with
  | zero =>
    have hx0 : x = 0 := by simp only [pw] at hz; omega
    subst hx0
    have : (backF t 0).toNat = 0 := ((hg.v_uniq hx hx (hg.ul 0 hx))).symm
    rw [this]
    exact h0
  | succ d =>
    have h1 := pw_mul hG hx 0 d
    have h2 : mulN t x (pw t x d).toNat = 0 := by
      unfold mulN
      rw [Nat.zero_add] at h1
      have : (pw t x 0).toNat = x := by simp [pw]
      rw [this, hz] at h1
      rw [h1]; rfl
    rw [← hg.v_uniq hx (pw_lt hG.1 hx d) h2]
    exact hpw d
/-- the least of a list of numbers -/
theorem foldl_min (f : Int → Int) : ∀ (l : List Int) (a : Int), (l.foldl (fun a y => min a (f y)) a ≤ a ∧ ∀ y, y ∈ l → l.foldl (fun a y => min a (f y)) a ≤ f y) ∧ (l.foldl (fun a y => min a (f y)) a = a ∨ ∃ y, y ∈ l ∧ l.foldl (fun a y => min a (f y)) a = f y)
  | [], a => ⟨⟨Int.le_refl _, fun y hy => by simp at hy⟩, .inl rfl⟩
  | z :: l, a => by
    obtain ⟨⟨h1, h2⟩, h3⟩ := foldl_min f l (min a (f z))
    simp only [List.foldl_cons]
    refine ⟨⟨by omega, fun y hy => ?_⟩, ?_⟩
    · rcases List.mem_cons.1 hy with rfl | hy
      · omega
      · exact h2 y hy
    · rcases h3 with e | ⟨y, hy, e⟩
      · rw [e]
        rcases Int.min_def a (f z) ▸ (by omega : (min a (f z) = a ∨ min a (f z) = f z)) with e2 | e2
        · exact .inl e2
        · exact .inr ⟨z, by simp, e2⟩
      · exact .inr ⟨y, by simp [hy], e⟩
section
variable {t : List (List Int)} {mask : Nat} (hG : GroupOk t) (hm : mask < 2 ^ t.length) (hs : subB t mask = true)
include hG hm hs
/-- the label of a coset -/
theorem cosF_spec {x : Nat} (hx : x < t.length) : (∃ y, y < t.length ∧ bitB mask y = true ∧ cosF t mask x = ((mulN t x y : Nat) : Int)) ∧ ∀ y, y < t.length → bitB mask y = true → cosF t mask x ≤ ((mulN t x y : Nat) : Int) := by
  have h12 := hG.1.2.1
  have hg := grp_of hG
  obtain ⟨h0, -, -⟩ := sub_inv hG hm hs
  have hc : ∀ y : Nat, y < t.length → ent t x y = ((mulN t x y : Nat) : Int) := fun y hy => by
    have := hG.1.bd (x := x) (y := y) hx hy
    unfold mulN; omega
  obtain ⟨⟨h1, h2⟩, h3⟩ := foldl_min (fun y => ent t x y.toNat) (elemsL mask) (x : Int)
  have hco : cosF t mask x = (elemsL mask).foldl (fun a y => min a (ent t x y.toNat)) (x : Int) := by rw [← cosF_def]; unfold cosG; rfl
  rw [← hco] at h1 h2 h3
  refine ⟨?_, fun y hy hb => ?_⟩
  · rcases h3 with e | ⟨y, hy, e⟩
    · exact ⟨0, by omega, h0, by rw [e, hg.ur x hx]⟩
    · obtain ⟨i, hi, rfl⟩ := mem_ix hy
      obtain ⟨z, hz, hb, ez⟩ := elemsL_get hm (by omega) hi
      rw [ez, Int.toNat_natCast] at e
      exact ⟨z, hz, hb, by rw [e, hc z hz]⟩
  · obtain ⟨i, hi, e⟩ := elemsL_has hm (by omega) hb
    have := h2 _ (ix_mem _ _ hi)
    rw [e, Int.toNat_natCast, hc y hy] at this
    exact this
/-- labels are equal exactly for elements of one coset -/
theorem cosF_eq {x y : Nat} (hx : x < t.length) (hy : y < t.length) : cosF t mask x = cosF t mask y ↔ ∃ s, s < t.length ∧ bitB mask s = true ∧ y = mulN t x s := by
  have hg := grp_of hG
  obtain ⟨h0, hmul, hinv⟩ := sub_inv hG hm hs
  constructor
  · intro e
    obtain ⟨a, ha, ba, ea⟩ := (cosF_spec hG hm hs hx).1
    obtain ⟨b, hb, bb, eb⟩ := (cosF_spec hG hm hs hy).1
    have hvb := hg.vb b hb
    refine ⟨mulN t a (backF t b).toNat, hg.bd a ha _ hvb, hmul a ha _ hvb ba (hinv b hb bb), ?_⟩
    have e2 : mulN t x a = mulN t y b := by rw [ea, eb] at e; omega
    rw [← hg.assoc x hx a ha _ hvb, e2, hg.assoc y hy b hb _ hvb, hg.vr b hb, hg.ur y hy]
  · rintro ⟨s, hs1, bs, rfl⟩
    have key : ∀ x, x < t.length → ∀ s, s < t.length → bitB mask s = true → cosF t mask x ≤ cosF t mask (mulN t x s) := fun x hx s hs1 bs => by
      obtain ⟨b, hb, bb, eb⟩ := (cosF_spec hG hm hs (hg.bd x hx s hs1)).1
      rw [eb, hg.assoc x hx s hs1 b hb]
      exact (cosF_spec hG hm hs hx).2 _ (hg.bd s hs1 b hb) (hmul s hs1 b hb bs bb)
    have h1 := key x hx s hs1 bs
    have h2 := key _ hy _ (hg.vb s hs1) (hinv s hs1 bs)
    rw [hg.assoc x hx s hs1 _ (hg.vb s hs1), hg.vr s hs1, hg.ur x hx] at h2
    omega
end
/-- the number of a coset -/
def clsN (t : List (List Int)) (mask x : Nat) : Nat := (ix (cosL t mask) x).toNat
theorem firTo_lab (c : List Int) : ∀ i j, j < (firTo c i).length → ∃ x : Nat, x < i ∧ ix (firTo c i) j = (x : Int) ∧ ix c x = (j : Int)
  | 0, j, h => by simp [firTo] at h
  | i + 1, j, h => by
    cases hb : (ix c i == ((firTo c i).length : Int)) with
    | false =>
      rw [firTo_no hb] at h ⊢
      obtain ⟨x, h1, h2, h3⟩ := firTo_lab c i j h
      exact ⟨x, by omega, h2, h3⟩
    | true =>
      rw [firTo_yes hb] at h ⊢
      rcases Nat.lt_or_ge j (firTo c i).length with g | g
      · obtain ⟨x, h1, h2, h3⟩ := firTo_lab c i j g
        exact ⟨x, by omega, by rw [ix_append_left g]; exact h2, h3⟩
      · have : j = (firTo c i).length := by simp at h; omega
        subst this
        exact ⟨i, by omega, ix_append_one _ _, eq_of_beq hb⟩
/-- the first element with a number -/
def repN (t : List (List Int)) (mask i : Nat) : Nat := (ix (firTo (cosL t mask) t.length) i).toNat
theorem rep_ok {t : List (List Int)} {mask i : Nat} (hi : i < quoN t (cosL t mask)) : repN t mask i < t.length ∧ ix (firTo (cosL t mask) t.length) i = (repN t mask i : Int) ∧ clsN t mask (repN t mask i) = i := by
  rw [← quoN_def] at hi
  obtain ⟨x, h1, h2, h3⟩ := firTo_lab _ _ _ hi
  have : repN t mask i = x := by unfold repN; rw [h2, Int.toNat_natCast]
  rw [this]
  exact ⟨h1, h2, by unfold clsN; rw [h3, Int.toNat_natCast]⟩
theorem cls_bd {t : List (List Int)} {mask x : Nat} (hx : x < t.length) : clsN t mask x < quoN t (cosL t mask) ∧ ix (cosL t mask) x = (clsN t mask x : Int) := by
  have hl : x < (coL t mask).length := by rw [length_coL]; exact hx
  have hb := numF_bd (coL t mask) x
  have e : ix (cosL t mask) x = numF (coL t mask) x := by rw [← cosL_def, ix_numL _ _ hl]
  have hq : quoN t (cosL t mask) = (seenTo (coL t mask) t.length).length := by
    rw [← quoN_def, ← cosL_def, firTo_num _ _ (by rw [length_coL]; exact Nat.le_refl _)]
  have hn := numF_end (coL t mask) hx
  unfold clsN
  rw [e, hq]
  rcases indexOf_spec (seenTo (coL t mask) t.length) (ix (coL t mask) x) with ⟨h1, _⟩ | ⟨j, h1, h2, _⟩
  · rw [hn] at h1; omega
  · rw [hn] at h2; rw [h2]; simpa using h1
theorem cls_eq {t : List (List Int)} {mask x y : Nat} (hx : x < t.length) (hy : y < t.length) : clsN t mask x = clsN t mask y ↔ cosF t mask x = cosF t mask y := by
  have hlx : x < (coL t mask).length := by rw [length_coL]; exact hx
  have hly : y < (coL t mask).length := by rw [length_coL]; exact hy
  have ex : ix (cosL t mask) x = numF (coL t mask) x := by rw [← cosL_def, ix_numL _ _ hlx]
  have ey : ix (cosL t mask) y = numF (coL t mask) y := by rw [← cosL_def, ix_numL _ _ hly]
  have nx := numF_end (coL t mask) hx
  have ny := numF_end (coL t mask) hy
  rw [← ix_coL t mask x hx, ← ix_coL t mask y hy]
  constructor
  · intro h
    have h1 := (cls_bd (mask := mask) hx).2
    have h2 := (cls_bd (mask := mask) hy).2
    rw [h, ← h2, ex, ey, ← nx, ← ny] at h1
    have bx := numF_bd (coL t mask) x
    rcases indexOf_spec (seenTo (coL t mask) t.length) (ix (coL t mask) x) with ⟨g1, _⟩ | ⟨j, g1, g2, g3, _⟩
    · rw [nx] at g1; omega
    · rcases indexOf_spec (seenTo (coL t mask) t.length) (ix (coL t mask) y) with ⟨k1, _⟩ | ⟨k, k1, k2, k3, _⟩
      · rw [h1] at g2; rw [g2] at k1; omega
      · rw [h1, k2] at g2
        have : k = j := by omega
        subst this
        rw [← g3, ← k3]
  · intro h
    unfold clsN
    rw [ex, ey, ← nx, ← ny, h]
theorem cls_zero {t : List (List Int)} {mask : Nat} (hG : GroupOk t) (hm : mask < 2 ^ t.length) (hs : subB t mask = true) : clsN t mask 0 = 0 := by
  have h0 : 0 < t.length := hG.1.1
  have hl : 0 < (coL t mask).length := by rw [length_coL]; exact h0
  have := numF_bd (coL t mask) 0
  unfold clsN
  rw [← cosL_def, ix_numL _ _ hl]
  omega
theorem quo_pos {t : List (List Int)} {mask : Nat} (hG : GroupOk t) (hm : mask < 2 ^ t.length) (hs : subB t mask = true) : 1 ≤ quoN t (cosL t mask) := by
  have := (cls_bd (t := t) (mask := mask) (x := 0) hG.1.1).1
  omega
section
variable {t : List (List Int)} {mask : Nat} (hG : GroupOk t) (hm : mask < 2 ^ t.length) (hs : subB t mask = true)
include hG hm hs
theorem cls_rel {x y : Nat} (hx : x < t.length) (hy : y < t.length) : clsN t mask x = clsN t mask y ↔ ∃ s, s < t.length ∧ bitB mask s = true ∧ y = mulN t x s := by
  rw [cls_eq hx hy, cosF_eq hG hm hs hx hy]
/-- as many elements as cosets times as many as are in the subgroup -/
theorem quo_count : quoN t (cosL t mask) * ((List.range t.length).filter fun x => bitB mask x).length = t.length := by
  have hg := grp_of hG
  have hS : ∀ x, x ∈ ((List.range t.length).filter fun x => bitB mask x) → x < t.length ∧ bitB mask x = true := fun x hx => by
    obtain ⟨h1, h2⟩ := List.mem_filter.1 hx
    exact ⟨List.mem_range.1 h1, h2⟩
  have hSn : ((List.range t.length).filter fun x => bitB mask x).Nodup := List.nodup_range.filter _
  obtain ⟨S, hSe⟩ : ∃ S, S = (List.range t.length).filter fun x => bitB mask x := ⟨_, rfl⟩
  rw [← hSe] at hS hSn ⊢
  have hSm : ∀ x, x < t.length → bitB mask x = true → x ∈ S := fun x hx hb => by rw [hSe, List.mem_filter, List.mem_range]; exact ⟨hx, hb⟩
  clear hSe
  have hlen : ∀ k, k ≤ quoN t (cosL t mask) → ((List.range k).flatMap fun i => S.map (mulN t (repN t mask i))).length = k * S.length := fun k => by
    induction k with
    | zero => intro _; simp
    | succ k ih =>
      intro hk
      rw [List.range_succ, List.flatMap_append, List.length_append, ih (by omega)]
      simp [Nat.succ_mul]
  have hcls : ∀ i, i < quoN t (cosL t mask) → ∀ s, s ∈ S → clsN t mask (mulN t (repN t mask i) s) = i := fun i hi s hs' => by
    obtain ⟨r1, -, r3⟩ := rep_ok hi
    obtain ⟨s1, s2⟩ := hS s hs'
    have := (cls_rel hG hm hs r1 (hg.bd _ r1 s s1)).2 ⟨s, s1, s2, rfl⟩
    rw [← this, r3]
  have hnd : ∀ k, k ≤ quoN t (cosL t mask) → ((List.range k).flatMap fun i => S.map (mulN t (repN t mask i))).Nodup := fun k => by
    induction k with
    | zero => intro _; simp
    | succ k ih =>
      intro hk
      rw [List.range_succ, List.flatMap_append]
      refine List.nodup_append.2 ⟨ih (by omega), ?_, fun a ha b hb e => ?_⟩
      · simp only [List.flatMap_cons, List.flatMap_nil, List.append_nil]
        obtain ⟨r1, -, -⟩ := rep_ok (t := t) (mask := mask) (i := k) (by omega)
        exact nodup_map_on hSn fun x hx y hy e => hg.inj_l r1 (hS x hx).1 (hS y hy).1 e
      · subst e
        simp only [List.flatMap_cons, List.flatMap_nil, List.append_nil] at hb
        obtain ⟨i, hi, ha⟩ := List.mem_flatMap.1 ha
        have hi := List.mem_range.1 hi
        obtain ⟨s, hs1, rfl⟩ := List.mem_map.1 ha
        obtain ⟨s', hs2, e⟩ := List.mem_map.1 hb
        have e1 := hcls i (by omega) s hs1
        have e2 := hcls k (by omega) s' hs2
        rw [e, e1] at e2
        omega
  have h1 := hlen _ (Nat.le_refl _)
  have h2 := nodup_le ((List.range (quoN t (cosL t mask))).flatMap fun i => S.map (mulN t (repN t mask i))) (List.range t.length) (hnd _ (Nat.le_refl _)) fun x hx => by
    obtain ⟨i, hi, hx⟩ := List.mem_flatMap.1 hx
    obtain ⟨s, hs1, rfl⟩ := List.mem_map.1 hx
    exact List.mem_range.2 (hg.bd _ (rep_ok (List.mem_range.1 hi)).1 s (hS s hs1).1)
  have h3 := nodup_le (List.range t.length) ((List.range (quoN t (cosL t mask))).flatMap fun i => S.map (mulN t (repN t mask i))) List.nodup_range fun x hx => by
    have hx := List.mem_range.1 hx
    have hc := (cls_bd (mask := mask) hx).1
    obtain ⟨r1, -, r3⟩ := rep_ok hc
    obtain ⟨s, s1, s2, s3⟩ := (cls_rel hG hm hs r1 hx).1 r3
    exact List.mem_flatMap.2 ⟨_, List.mem_range.2 hc, List.mem_map.2 ⟨s, hSm s s1 s2, s3.symm⟩⟩
  rw [List.length_range] at h2 h3
  rw [h1] at h2 h3
  omega
/-- the quotient by a normal subgroup -/
theorem quo_group (hn : normB t mask = true) : GroupOk (quoT t (cosL t mask)) ∧ (quoT t (cosL t mask)).length = quoN t (cosL t mask) := by
  have hg := grp_of hG
  obtain ⟨h0, hmul, hinv⟩ := sub_inv hG hm hs
  have hnorm : ∀ x, x < t.length → ∀ y, y < t.length → bitB mask y = true → bitB mask (mulN t (mulN t x y) (backF t x).toNat) = true := fun x hx y hy hb => by
    have := normB_iff.1 hn x hx y hy hb
    rw [← conjF_def] at this
    exact this
  have hq12 : quoN t (cosL t mask) ≤ 12 := Nat.le_trans (quoN_le _ _) hG.1.2.1
  have hR : ∀ i, i < quoN t (cosL t mask) → repN t mask i < t.length := fun i hi => (rep_ok hi).1
  have hC : ∀ i, i < quoN t (cosL t mask) → clsN t mask (repN t mask i) = i := fun i hi => (rep_ok hi).2.2
  -- the number of a product follows from the numbers
  have hom : ∀ x, x < t.length → ∀ y, y < t.length → clsN t mask (mulN t (repN t mask (clsN t mask x)) (repN t mask (clsN t mask y))) = clsN t mask (mulN t x y) := fun x hx y hy => by
    obtain ⟨cx, -⟩ := cls_bd (mask := mask) hx
    obtain ⟨cy, -⟩ := cls_bd (mask := mask) hy
    have rx := hR _ cx
    have ry := hR _ cy
    obtain ⟨a, a1, a2, a3⟩ := (cls_rel hG hm hs rx hx).1 (hC _ cx)
    obtain ⟨b, b1, b2, b3⟩ := (cls_rel hG hm hs ry hy).1 (hC _ cy)
    obtain ⟨X, hX⟩ : ∃ X, X = repN t mask (clsN t mask x) := ⟨_, rfl⟩
    obtain ⟨Y, hY⟩ : ∃ Y, Y = repN t mask (clsN t mask y) := ⟨_, rfl⟩
    rw [← hX] at rx a3 ⊢
    rw [← hY] at ry b3 ⊢
    -- x y = X a Y b = X Y (v Y a Y) b
    have vY := hg.vb Y ry
    have nb := hnorm _ vY a a1 a2
    have hvv : (backF t (backF t Y).toNat).toNat = Y := hg.v_v ry
    rw [hvv] at nb
    have ca := hg.bd _ (hg.bd _ vY a a1) Y ry
    refine (cls_rel hG hm hs (hg.bd X rx Y ry) (hg.bd x hx y hy)).2 ⟨mulN t (mulN t (mulN t (backF t Y).toNat a) Y) b, hg.bd _ ca b b1, hmul _ ca b b1 nb b2, ?_⟩
    rw [a3, b3]
    rw [hg.assoc X rx Y ry _ (hg.bd _ ca b b1), ← hg.assoc Y ry _ ca b b1, ← hg.assoc Y ry _ (hg.bd _ vY a a1) Y ry, ← hg.assoc Y ry _ vY a a1, hg.vr Y ry, hg.ul a a1, hg.assoc X rx a a1 _ (hg.bd Y ry b b1), hg.assoc a a1 Y ry b b1]
  have hl : (quoT t (cosL t mask)).length = quoN t (cosL t mask) := by rw [← quoT_def, length_mkT]
  refine ⟨?_, hl⟩
  rw [← quoT_def]
  refine group_made (g := fun i j => clsN t mask (mulN t (repN t mask i) (repN t mask j))) (quo_pos hG hm hs) hq12 (fun i hi j hj => ?_) (fun i hi j hj => ?_) (fun i hi j hj k hk => ?_) (fun i hi => ?_) (fun i hi => ?_) (fun i hi j hj k hk e => ?_)
  · rw [quoF_def _ _ _ _ _ _ (rep_ok hi).2.1 (rep_ok hj).2.1]
    exact (cls_bd (mask := mask) (hg.bd _ (hR i hi) _ (hR j hj))).2
  · exact (cls_bd (hg.bd _ (hR i hi) _ (hR j hj))).1
  · have e1 := hom _ (hg.bd _ (hR i hi) _ (hR j hj)) _ (hR k hk)
    have e2 := hom _ (hR i hi) _ (hg.bd _ (hR j hj) _ (hR k hk))
    rw [hC k hk] at e1
    rw [hC i hi] at e2
    show clsN t mask (mulN t (repN t mask (clsN t mask (mulN t (repN t mask i) (repN t mask j)))) (repN t mask k)) = clsN t mask (mulN t (repN t mask i) (repN t mask (clsN t mask (mulN t (repN t mask j) (repN t mask k)))))
    rw [e1, e2, hg.assoc _ (hR i hi) _ (hR j hj) _ (hR k hk)]
  · have e1 := hom 0 hG.1.1 _ (hR i hi)
    rw [cls_zero hG hm hs, hC i hi, hg.ul _ (hR i hi), hC i hi] at e1
    exact e1
  · have e1 := hom _ (hR i hi) 0 hG.1.1
    rw [cls_zero hG hm hs, hC i hi, hg.ur _ (hR i hi), hC i hi] at e1
    exact e1
  · have e : clsN t mask (mulN t (repN t mask i) (repN t mask j)) = clsN t mask (mulN t (repN t mask i) (repN t mask k)) := e
    obtain ⟨s, s1, s2, s3⟩ := (cls_rel hG hm hs (hg.bd _ (hR i hi) _ (hR j hj)) (hg.bd _ (hR i hi) _ (hR k hk))).1 e
    rw [hg.assoc _ (hR i hi) _ (hR j hj) s s1] at s3
    have s4 := hg.inj_l (hR i hi) (hR k hk) (hg.bd _ (hR j hj) s s1) s3
    have := (cls_rel hG hm hs (hR j hj) (hR k hk)).2 ⟨s, s1, s2, s4⟩
    rw [hC j hj, hC k hk] at this
    exact this
end
end Go.Proofs.Ytbfhecckapgpnaa

/-
  What FnGroupTables says of a group: plain.
-/
namespace Go.Proofs.Ytbfhecckapgpnaa
set_option linter.unusedVariables false
set_option linter.unusedSimpArgs false

section
variable {t : List (List Int)} (hG : GroupOk t)
include hG
theorem pw_in {S : List Nat} (hb : ∀ x, x ∈ S → x < t.length) (hm : ∀ x, x ∈ S → ∀ y, y ∈ S → mulN t x y ∈ S) {x : Nat} (hx : x ∈ S) : ∀ k, (pw t x k).toNat ∈ S
  | 0 => by simpa [pw] using hx
  | k + 1 => by
    have h1 := pw_in hb hm hx k
    have h2 := hm _ h1 x hx
    have := pw_mul hG (hb x hx) k 0
    have e : (pw t x 0).toNat = x := by simp [pw]
    rw [e, Nat.add_zero] at this
    unfold mulN at h2
    rw [this] at h2
    exact h2
theorem inv_pw {x : Nat} (hx : x < t.length) : (x = 0 ∧ (backF t x).toNat = 0) ∨ ∃ d, (backF t x).toNat = (pw t x d).toNat := by
  have hg := grp_of hG
  obtain ⟨d, hd, hz⟩ := pw_zero hG hx
  cases d with
  | zero =>
    have hx0 : x = 0 := by simp only [pw] at hz; omega
    subst hx0
    exact .inl ⟨rfl, (hg.v_uniq hx hx (hg.ul 0 hx)).symm⟩
  | succ d =>
    have h1 := pw_mul hG hx 0 d
    have h2 : mulN t x (pw t x d).toNat = 0 := by
      unfold mulN
      rw [Nat.zero_add] at h1
      have : (pw t x 0).toNat = x := by simp [pw]
      rw [this, hz] at h1
      rw [h1]; rfl
    exact .inr ⟨d, (hg.v_uniq hx (pw_lt hG.1 hx d) h2).symm⟩
theorem sub_of_closed {S : List Nat} (hn : S.Nodup) (hb : ∀ x, x ∈ S → x < t.length) (hm : ∀ x, x ∈ S → ∀ y, y ∈ S → mulN t x y ∈ S) : Sub t.length (mulN t) (fun x => (backF t x).toNat) S :=
  ⟨hn, hb, hm, fun x hx => by
    show (backF t x).toNat ∈ S
    rcases inv_pw hG (hb x hx) with ⟨rfl, e⟩ | ⟨d, e⟩
    · rw [e]; exact hx
    · rw [e]; exact pw_in hG hb hm hx d⟩
/-- the order of an element is a divisor -/
theorem ord_div {x : Nat} (hx : x < t.length) : 0 < ordOf t x ∧ (t.length : Int) % ordOf t x = 0 := by
  obtain ⟨d, hd, e, hz, hmin⟩ := ordOf_spec hG hx
  have hlow : ∀ k, (pw t x k).toNat ∈ (List.range (d + 1)).map fun k => (pw t x k).toNat := fun k => by
    induction k using Nat.strongRecOn with
    | _ k ih =>
      by_cases hk : k ≤ d
      · exact List.mem_map.2 ⟨k, List.mem_range.2 (by omega), rfl⟩
      · have h1 := pw_mul hG hx d (k - d - 1)
        rw [hz, show d + (k - d - 1) + 1 = k by omega] at h1
        have h2 : ent t 0 (pw t x (k - d - 1)).toNat = ((pw t x (k - d - 1)).toNat : Int) := grp_unit_l hG (pw_lt hG.1 hx _)
        have h3 : (pw t x k).toNat = (pw t x (k - d - 1)).toNat := by
          rw [← h1]
          show (ent t 0 _).toNat = _
          rw [h2, Int.toNat_natCast]
        rw [h3]
        exact ih _ (by omega)
  have hbd := pw_bd hG.1 hx
  have hS : Sub t.length (mulN t) (fun x => (backF t x).toNat) ((List.range (d + 1)).map fun k => (pw t x k).toNat) := by
    refine sub_of_closed hG (nodup_map_on List.nodup_range fun i hi j hj eij => ?_) (fun y hy => ?_) (fun y hy z hz' => ?_)
    · have hi := List.mem_range.1 hi
      have hj := List.mem_range.1 hj
      have heq : pw t x i = pw t x j := by have := hbd i; have := hbd j; omega
      have key : ∀ i j, i < j → j ≤ d → pw t x i ≠ pw t x j := fun i j hij hjd heq => by
        have h1 := pw_mul hG hx i (j - i - 1)
        rw [show i + (j - i - 1) + 1 = j by omega, ← heq] at h1
        have h2 : ent t (pw t x i).toNat 0 = ((pw t x i).toNat : Int) := grp_unit_r hG (pw_lt hG.1 hx i)
        have h3 : ent t (pw t x i).toNat (pw t x (j - i - 1)).toNat = ent t (pw t x i).toNat 0 := by rw [h1, h2]; have := hbd i; omega
        have := grp_inj hG (pw_lt hG.1 hx i) (pw_lt hG.1 hx _) hG.1.1 h3
        exact hmin (j - i - 1) (by omega) (by have := hbd (j - i - 1); omega)
      rcases Nat.lt_trichotomy i j with g | g | g
      · exact absurd heq (key i j g (by omega))
      · exact g
      · exact absurd heq.symm (key j i g (by omega))
    · obtain ⟨k, -, rfl⟩ := List.mem_map.1 hy
      exact pw_lt hG.1 hx k
    · obtain ⟨i, -, rfl⟩ := List.mem_map.1 hy
      obtain ⟨j, -, rfl⟩ := List.mem_map.1 hz'
      unfold mulN
      rw [pw_mul hG hx i j]
      exact hlow _
  have := sub_divides (grp_of hG) hS (List.ne_nil_of_mem (hlow 0))
  rw [List.length_map, List.length_range] at this
  rw [e]
  refine ⟨by omega, ?_⟩
  obtain ⟨q, hq⟩ := this
  rw [hq]
  have : (((d + 1) * q : Nat) : Int) = ((d : Int) + 1) * (q : Int) := by simp
  rw [this]
  exact Int.mul_emod_right _ _
/-- how many elements a subgroup has -/
theorem elems_card {mask : Nat} (hm : mask < 2 ^ t.length) : (elemsL mask).length = ((List.range t.length).filter fun x => bitB mask x).length := by
  have h12 := hG.1.2.1
  rw [elemsL_eq hm (by omega)]
  unfold elemsTo
  rw [List.length_map]
theorem sub_div {mask : Nat} (hm : mask < 2 ^ t.length) (hs : subB t mask = true) : 0 < (elemsL mask).length ∧ (t.length : Int) % ((elemsL mask).length : Int) = 0 := by
  obtain ⟨h0, hmul, hinv⟩ := sub_inv hG hm hs
  rw [elems_card hG hm]
  have hS : Sub t.length (mulN t) (fun x => (backF t x).toNat) ((List.range t.length).filter fun x => bitB mask x) := by
    refine ⟨List.nodup_range.filter _, fun x hx => List.mem_range.1 (List.mem_filter.1 hx).1, fun x hx y hy => ?_, fun x hx => ?_⟩
    · obtain ⟨x1, x2⟩ := List.mem_filter.1 hx
      obtain ⟨y1, y2⟩ := List.mem_filter.1 hy
      have x1 := List.mem_range.1 x1
      have y1 := List.mem_range.1 y1
      exact List.mem_filter.2 ⟨List.mem_range.2 ((grp_of hG).bd x x1 y y1), hmul x x1 y y1 x2 y2⟩
    · obtain ⟨x1, x2⟩ := List.mem_filter.1 hx
      have x1 := List.mem_range.1 x1
      exact List.mem_filter.2 ⟨List.mem_range.2 ((grp_of hG).vb x x1), hinv x x1 x2⟩
  have hmem : 0 ∈ ((List.range t.length).filter fun x => bitB mask x) := List.mem_filter.2 ⟨List.mem_range.2 hG.1.1, h0⟩
  have := sub_divides (grp_of hG) hS (List.ne_nil_of_mem hmem)
  refine ⟨List.length_pos_of_mem hmem, ?_⟩
  obtain ⟨q, hq⟩ := this
  generalize ((List.range t.length).filter fun x => bitB mask x).length = k at hq ⊢
  rw [hq]
  have : ((k * q : Nat) : Int) = (k : Int) * (q : Int) := by simp
  rw [this]
  exact Int.mul_emod_right _ _
end
/-- the center as a number -/
def cenM (t : List (List Int)) : Nat := natSet (fun x => comB t x t.length) t.length
theorem cen_lt {t : List (List Int)} (hG : GroupOk t) : cenM t < 2 ^ t.length := natSet_lt _ _
section
variable {t : List (List Int)} (hG : GroupOk t)
include hG
theorem center_nat : centerI t = (cenM t : Int) := by
  rw [centerI_def]
  exact setOf_nat _ _ (by have := hG.1.2.1; omega)
theorem cen_bit {x : Nat} (hx : x < t.length) : bitB (cenM t) x = true ↔ ∀ y, y < t.length → mulN t x y = mulN t y x := by
  have h12 := hG.1.2.1
  rw [bitB_test (lt62 h12 (cen_lt hG))]
  unfold cenM
  rw [natSet_bit, decide_eq_true hx, Bool.true_and, comB_iff]
  constructor
  · intro h y hy
    unfold mulN
    rw [h y hy]
  · intro h y hy
    have := h y hy
    have h1 := hG.1.bd (x := x) (y := y) hx hy
    have h2 := hG.1.bd (x := y) (y := x) hy hx
    unfold mulN at this
    omega
theorem cen_sub : subB t (cenM t) = true := by
  have hg := grp_of hG
  have h0 : 0 < t.length := hG.1.1
  rw [subB_1 ((cen_bit hG h0).2 fun y hy => by rw [hg.ul y hy, hg.ur y hy])]
  refine closedB_yes fun x hx y hy bx bY => ?_
  have cx := (cen_bit hG hx).1 bx
  have cy := (cen_bit hG hy).1 bY
  refine (cen_bit hG (hg.bd x hx y hy)).2 fun z hz => ?_
  rw [hg.assoc x hx y hy z hz, cy z hz, ← hg.assoc x hx z hz y hy, cx z hz, hg.assoc z hz x hx y hy]
theorem cen_norm : normB t (cenM t) = true := by
  have hg := grp_of hG
  refine normB_yes fun x hx y hy bY => ?_
  have cy := (cen_bit hG hy).1 bY
  have : (conjF t x y).toNat = y := by
    rw [← conjF_def]
    show mulN t (mulN t x y) (backF t x).toNat = y
    rw [← cy x hx, hg.assoc y hy x hx _ (hg.vb x hx), hg.vr x hx, hg.ur y hy]
  rw [this]
  exact bY
theorem cen_code : subC t (cenM t) = 0 := by
  refine subC_0 (groupB_iff.2 hG) (inR_iff.2 ⟨by omega, ?_⟩) (cen_sub hG)
  have := cen_lt hG
  omega
theorem cen_in : (cenM t : Int) ∈ subsL t := by
  rw [subsL_def, subsTo_mem]
  exact ⟨cenM t, cen_lt hG, cen_sub hG, rfl⟩
/-- the opposite group -/
theorem opp_group : GroupOk (turnT t) := by
  have hg := grp_of hG
  rw [turnT_def]
  refine group_made (g := fun x y => mulN t y x) hG.1.1 hG.1.2.1 (fun x hx y hy => ?_) (fun x hx y hy => hg.bd y hy x hx) (fun x hx y hy z hz => ?_) (fun x hx => hg.ur x hx) (fun x hx => hg.ul x hx) (fun x hx y hy z hz e => hg.inj_r hx hy hz e)
  · rw [turnF_def]
    have := hG.1.bd (x := y) (y := x) hy hx
    unfold mulN; omega
  · exact (hg.assoc z hz y hy x hx).symm
theorem opp_iso : gisoC t (turnT t) = 0 := by
  have hg := grp_of hG
  have hU := opp_group hG
  have hl : (turnT t).length = t.length := length_turnT t
  have hiso : IsoOk t.length [t] [turnT t] (backs t) := by
    have hb : ∀ x, x < t.length → ix (backs t) x = ((backF t x).toNat : Int) := fun x hx => by
      rw [ix_backs t x hx]
      have := backF_ok hG hx
      omega
    refine ⟨length_backs t, ⟨fun i hi => ?_, fun i hi j hj e => ?_⟩, fun k hk x hx y hy => ?_⟩
    · rw [length_backs] at hi ⊢
      rw [hb i hi]
      have := hg.vb i hi
      have : (backF t i).toNat < t.length := this
      omega
    · rw [length_backs] at hi
      rw [hb i hi, hb j (by omega)] at e
      have e1 : (backF t j).toNat = (backF t i).toNat := by omega
      have h1 := hg.v_v (x := i) hi
      have h2 := hg.v_v (x := j) (by omega)
      have e1' : (fun x => (backF t x).toNat) j = (fun x => (backF t x).toNat) i := e1
      have : i = j := by rw [← h1, ← h2]; simp only [e1]
      omega
    · have : k = 0 := by simpa using hk
      subst this
      rw [tab_one, tab_one]
      have h1 := hG.1.bd (x := x) (y := y) hx hy
      have v1 : (backF t x).toNat < t.length := hg.vb x hx
      have v2 : (backF t y).toNat < t.length := hg.vb y hy
      rw [hb x hx, hb y hy, hb _ (by omega), Int.toNat_natCast, Int.toNat_natCast, ent_turnT t _ _ v1 v2]
      have h2 := hG.1.bd (x := (backF t y).toNat) (y := (backF t x).toNat) v2 v1
      have h3 := hg.v_mul hx hy
      have h3 : (backF t (ent t x y).toNat).toNat = (ent t (backF t y).toNat (backF t x).toNat).toNat := h3
      omega
  exact (giso_3 ⟨groupB_iff.2 hG, groupB_iff.2 hU⟩ ((isoF_has hl hG.1.1).2 ⟨_, hiso⟩)).2
/-- conjugation by an element is an automorphism -/
theorem conj_iso {y : Nat} (hy : y < t.length) : row (mkT t.length (conjF t)) y ∈ isoL t.length [t] [t] := by
  have hg := grp_of hG
  have hv := hg.vb y hy
  have hlen : (row (mkT t.length (conjF t)) y).length = t.length := by rw [row_mkT _ _ _ hy]; exact length_partRow _ _ _ _
  have hc : ∀ x, x < t.length → ix (row (mkT t.length (conjF t)) y) x = ((mulN t (mulN t y x) (backF t y).toNat : Nat) : Int) := fun x hx => by
    have : ix (row (mkT t.length (conjF t)) y) x = ent (mkT t.length (conjF t)) y x := by unfold ent; rfl
    rw [this, ent_mkT _ _ _ _ hy hx]
    have := conjF_bd hG hy hx
    rw [← conjF_def] at this ⊢
    show ent t (mulN t y x) _ = _
    have e : (ent t (mulN t y x) (backF t y).toNat).toNat = mulN t (mulN t y x) (backF t y).toNat := rfl
    rw [← e]
    have : 0 ≤ ent t (mulN t y x) (backF t y).toNat := this.1
    omega
  have hb : ∀ x, x < t.length → mulN t (mulN t y x) (backF t y).toNat < t.length := fun x hx => hg.bd _ (hg.bd y hy x hx) _ hv
  rw [mem_isoL]
  refine ⟨hlen, ⟨fun i hi => ?_, fun i hi j hj e => ?_⟩, fun k hk x hx z hz => ?_⟩
  · rw [hlen] at hi ⊢
    rw [hc i hi]
    have := hb i hi
    omega
  · rw [hlen] at hi
    rw [hc i hi, hc j (by omega)] at e
    have e1 : mulN t (mulN t y j) (backF t y).toNat = mulN t (mulN t y i) (backF t y).toNat := by omega
    have e2 := hg.inj_r hv (hg.bd y hy j (by omega)) (hg.bd y hy i hi) e1
    have := hg.inj_l hy (by omega) hi e2
    omega
  · have : k = 0 := by simpa using hk
    subst this
    rw [tab_one]
    have h1 := hG.1.bd (x := x) (y := z) hx hz
    rw [hc x hx, hc z hz, hc _ (by omega), Int.toNat_natCast, Int.toNat_natCast]
    have e : mulN t (mulN t y (mulN t x z)) (backF t y).toNat = mulN t (mulN t (mulN t y x) (backF t y).toNat) (mulN t (mulN t y z) (backF t y).toNat) := by
      have b1 := hg.bd y hy x hx
      have b2 := hg.bd y hy z hz
      rw [hg.assoc _ b1 _ hv _ (hg.bd _ b2 _ hv), ← hg.assoc _ hv _ b2 _ hv, ← hg.assoc _ hv y hy z hz, hg.vl y hy, hg.ul z hz, ← hg.assoc _ b1 z hz _ hv, hg.assoc y hy x hx z hz]
    have h2 := hG.1.bd (x := mulN t (mulN t y x) (backF t y).toNat) (y := mulN t (mulN t y z) (backF t y).toNat) (hb x hx) (hb z hz)
    have e' : mulN t (mulN t y (ent t x z).toNat) (backF t y).toNat = (ent t (mulN t (mulN t y x) (backF t y).toNat) (mulN t (mulN t y z) (backF t y).toNat)).toNat := e
    omega
/-- rows of the conjugation are equal exactly for elements of one coset of the center -/
theorem conj_rows {x y : Nat} (hx : x < t.length) (hy : y < t.length) : row (mkT t.length (conjF t)) x = row (mkT t.length (conjF t)) y ↔ ix (coL t (cenM t)) x = ix (coL t (cenM t)) y := by
  have hg := grp_of hG
  have hlen : ∀ y, y < t.length → (row (mkT t.length (conjF t)) y).length = t.length := fun y hy => by rw [row_mkT _ _ _ hy]; exact length_partRow _ _ _ _
  have hc : ∀ y, y < t.length → ∀ x, x < t.length → ix (row (mkT t.length (conjF t)) y) x = ((mulN t (mulN t y x) (backF t y).toNat : Nat) : Int) := fun y hy x hx => by
    have : ix (row (mkT t.length (conjF t)) y) x = ent (mkT t.length (conjF t)) y x := by unfold ent; rfl
    rw [this, ent_mkT _ _ _ _ hy hx]
    have := conjF_bd hG hy hx
    rw [← conjF_def] at this ⊢
    show ent t (mulN t y x) _ = _
    have e : (ent t (mulN t y x) (backF t y).toNat).toNat = mulN t (mulN t y x) (backF t y).toNat := rfl
    rw [← e]
    have : 0 ≤ ent t (mulN t y x) (backF t y).toNat := this.1
    omega
  rw [ix_coL _ _ _ hx, ix_coL _ _ _ hy, cosF_eq hG (cen_lt hG) (cen_sub hG) hx hy]
  constructor
  · intro h
    refine ⟨mulN t (backF t x).toNat y, hg.bd _ (hg.vb x hx) y hy, ?_, ?_⟩
    · refine (cen_bit hG (hg.bd _ (hg.vb x hx) y hy)).2 fun z hz => ?_
      have e : ix (row (mkT t.length (conjF t)) x) z = ix (row (mkT t.length (conjF t)) y) z := by rw [h]
      rw [hc x hx z hz, hc y hy z hz] at e
      have e : mulN t (mulN t x z) (backF t x).toNat = mulN t (mulN t y z) (backF t y).toNat := by omega
      -- x^-1 y z = z x^-1 y
      have vx : (backF t x).toNat < t.length := hg.vb x hx
      have vy : (backF t y).toNat < t.length := hg.vb y hy
      have e2 : mulN t (mulN t y z) (backF t y).toNat = mulN t (mulN t x z) (backF t x).toNat := e.symm
      have e3 := congrArg (fun a => mulN t (mulN t (backF t x).toNat a) y) e2
      have byz := hg.bd y hy z hz
      have bxz := hg.bd x hx z hz
      rw [hg.assoc _ vx _ (hg.bd _ byz _ vy) y hy, hg.assoc _ byz _ vy y hy, hg.vl y hy, hg.ur _ byz, ← hg.assoc _ vx y hy z hz] at e3
      rw [← hg.assoc _ vx _ bxz _ vx, ← hg.assoc _ vx x hx z hz, hg.vl x hx, hg.ul z hz, hg.assoc z hz _ vx y hy] at e3
      exact e3
    · rw [← hg.assoc x hx _ (hg.vb x hx) y hy, hg.vr x hx, hg.ul y hy]
  · rintro ⟨s, s1, s2, rfl⟩
    have cs := (cen_bit hG s1).1 s2
    refine ix_ext (by rw [hlen x hx, hlen _ hy]) fun z hz => ?_
    rw [hlen x hx] at hz
    rw [hc x hx z hz, hc _ hy z hz]
    have vx : (backF t x).toNat < t.length := hg.vb x hx
    have vs : (backF t s).toNat < t.length := hg.vb s s1
    have ev : (backF t (mulN t x s)).toNat = mulN t (backF t s).toNat (backF t x).toNat := hg.v_mul hx s1
    have e : mulN t (mulN t x z) (backF t x).toNat = mulN t (mulN t (mulN t x s) z) (backF t (mulN t x s)).toNat := by
      rw [ev, hg.assoc x hx s s1 z hz, cs z hz, ← hg.assoc x hx z hz s s1, hg.assoc _ (hg.bd x hx z hz) s s1 _ (hg.bd _ vs _ vx), ← hg.assoc s s1 _ vs _ vx, hg.vr s s1, hg.ul _ vx]
    rw [e]
end
/-- the rows that are not known before, in their order -/
def rowsNew (t : List (List Int)) : Nat → List (List Int)
  | 0 => []
  | k + 1 => if row t k ∈ rowsNew t k then rowsNew t k else rowsNew t k ++ [row t k]
theorem rowsNew_mem (t : List (List Int)) (r : List Int) : ∀ k, r ∈ rowsNew t k ↔ ∃ j, j < k ∧ row t j = r
  | 0 => by simp [rowsNew]
  | k + 1 => by
    have ih := rowsNew_mem t r k
    simp only [rowsNew]
    split
    · rename_i h
      rw [ih]
      constructor
      · rintro ⟨j, hj, e⟩; exact ⟨j, by omega, e⟩
      · rintro ⟨j, hj, e⟩
        by_cases hjk : j = k
        · subst hjk
          rw [e] at h
          exact ih.1 h
        · exact ⟨j, by omega, e⟩
    · rw [List.mem_append, List.mem_singleton, ih]
      constructor
      · rintro (⟨j, hj, e⟩ | e)
        · exact ⟨j, by omega, e⟩
        · exact ⟨k, by omega, e.symm⟩
      · rintro ⟨j, hj, e⟩
        by_cases hjk : j = k
        · subst hjk; exact .inr e.symm
        · exact .inl ⟨j, by omega, e⟩
theorem seenTo_mem (l : List Int) (z : Int) : ∀ k, z ∈ seenTo l k ↔ ∃ j, j < k ∧ ix l j = z
  | 0 => by simp [seenTo]
  | k + 1 => by
    have ih := seenTo_mem l z k
    cases hb : hasB (seenTo l k) (ix l k) with
    | true =>
      rw [seenTo_old hb, ih]
      constructor
      · rintro ⟨j, hj, e⟩; exact ⟨j, by omega, e⟩
      · rintro ⟨j, hj, e⟩
        by_cases hjk : j = k
        · subst hjk
          have := hasB_mem.1 hb
          rw [e] at this
          exact ih.1 this
        · exact ⟨j, by omega, e⟩
    | false =>
      rw [seenTo_new hb, List.mem_append, List.mem_singleton, ih]
      constructor
      · rintro (⟨j, hj, e⟩ | e)
        · exact ⟨j, by omega, e⟩
        · exact ⟨k, by omega, e.symm⟩
      · rintro ⟨j, hj, e⟩
        by_cases hjk : j = k
        · subst hjk; exact .inr e.symm
        · exact .inl ⟨j, by omega, e⟩
theorem rows_seen {t : List (List Int)} {l : List Int} {n : Nat} (h : ∀ i, i < n → ∀ j, j < n → (row t i = row t j ↔ ix l i = ix l j)) : ∀ k, k ≤ n → (rowsNew t k).length = (seenTo l k).length
  | 0, _ => rfl
  | k + 1, hk => by
    have ih := rows_seen h k (by omega)
    have e : row t k ∈ rowsNew t k ↔ ix l k ∈ seenTo l k := by
      rw [rowsNew_mem, seenTo_mem]
      constructor
      · rintro ⟨j, hj, e⟩; exact ⟨j, hj, (h j (by omega) k (by omega)).1 e⟩
      · rintro ⟨j, hj, e⟩; exact ⟨j, hj, (h j (by omega) k (by omega)).2 e⟩
    simp only [rowsNew]
    cases hb : hasB (seenTo l k) (ix l k) with
    | true => rw [seenTo_old hb, if_pos (e.2 (hasB_mem.1 hb)), ih]
    | false =>
      rw [seenTo_new hb, if_neg (fun hm => by rw [hasB_mem.2 (e.1 hm)] at hb; cases hb)]
      simp [ih]
/-- as many inner automorphisms as cosets of the center -/
theorem inner_count {t : List (List Int)} (hG : GroupOk t) : (rowsNew (mkT t.length (conjF t)) t.length).length = quoN t (cosL t (cenM t)) := by
  rw [rows_seen (l := coL t (cenM t)) (n := t.length) (fun i hi j hj => conj_rows hG hi hj) _ (Nat.le_refl _), ← quoN_def, ← cosL_def, firTo_num _ _ (by rw [length_coL]; exact Nat.le_refl _)]
end Go.Proofs.Ytbfhecckapgpnaa

/-
  The conjugation and the core of a group are quandles; conjugation is trivial exactly for abelian groups; dihedral tables: plain.
-/
namespace Go.Proofs.Ytbfhecckapgpnaa
set_option linter.unusedVariables false
set_option linter.unusedSimpArgs false

theorem ent_nat {t : List (List Int)} (hT : TableOk t) {x y : Nat} (hx : x < t.length) (hy : y < t.length) : ent t x y = ((mulN t x y : Nat) : Int) := by
  have := hT.bd (x := x) (y := y) hx hy
  unfold mulN
  omega
theorem rows_by {t : List (List Int)} (hG : GroupOk t) {f : Nat → Nat → Int} {g : Nat → Nat → Nat} (hb : ∀ x, x < t.length → ∀ y, y < t.length → g x y < t.length) (he : ∀ x, x < t.length → ∀ y, y < t.length → ent (mkT t.length f) x y = ((g x y : Nat) : Int)) (hi : ∀ x, x < t.length → ∀ y, y < t.length → ∀ z, z < t.length → g x y = g x z → y = z) : permRowsB (mkT t.length f) = true := by
  refine permRowsB_iff.2 fun x hx => ?_
  rw [length_mkT] at hx
  have hrl : (row (mkT t.length f) x).length = t.length := by rw [row_mkT _ _ _ hx]; exact length_partRow _ _ _ _
  refine ⟨fun y hy => ?_, fun y hy z hz e => ?_⟩
  · rw [hrl] at hy ⊢
    rw [ent_def, he x hx y hy]
    have := hb x hx y hy
    omega
  · rw [hrl] at hy
    rw [ent_def, ent_def, he x hx z (by omega), he x hx y hy] at e
    have := hi x hx z (by omega) y hy (by omega)
    omega
section
variable {t : List (List Int)} (hG : GroupOk t)
include hG
theorem conj_ent {x y : Nat} (hx : x < t.length) (hy : y < t.length) : ent (mkT t.length (conjF t)) x y = ((mulN t (mulN t x y) (backF t x).toNat : Nat) : Int) := by
  have hg := grp_of hG
  rw [ent_mkT _ _ _ _ hx hy, ← conjF_def, ← ent_nat hG.1 (hg.bd x hx y hy) (hg.vb x hx)]
  rfl
theorem core_ent {x y : Nat} (hx : x < t.length) (hy : y < t.length) : ent (mkT t.length (coreF t)) x y = ((mulN t (mulN t x (backF t y).toNat) x : Nat) : Int) := by
  have hg := grp_of hG
  rw [ent_mkT _ _ _ _ hx hy, ← coreF_def, ← ent_nat hG.1 (hg.bd x hx _ (hg.vb y hy)) hx]
  rfl
/-- a table by a multiplication -/
theorem table_by {f : Nat → Nat → Int} {g : Nat → Nat → Nat} (hb : ∀ x, x < t.length → ∀ y, y < t.length → g x y < t.length) (he : ∀ x, x < t.length → ∀ y, y < t.length → ent (mkT t.length f) x y = ((g x y : Nat) : Int)) : TableOk (mkT t.length f) := by
  refine ⟨by rw [length_mkT]; exact hG.1.1, by rw [length_mkT]; exact hG.1.2.1, fun x hx => ?_⟩
  rw [length_mkT] at hx ⊢
  refine ⟨by rw [row_mkT _ _ _ hx]; exact length_partRow _ _ _ _, fun y hy => ?_⟩
  rw [he x hx y hy]
  have := hb x hx y hy
  omega
theorem conj_quand : QuandOk (mkT t.length (conjF t)) := by
  have hg := grp_of hG
  have hb : ∀ x, x < t.length → ∀ y, y < t.length → mulN t (mulN t x y) (backF t x).toNat < t.length := fun x hx y hy => hg.bd _ (hg.bd x hx y hy) _ (hg.vb x hx)
  have he := fun x (hx : x < t.length) y (hy : y < t.length) => conj_ent hG hx hy
  refine ⟨⟨table_by hG hb he, rows_by hG hb he fun x hx y hy z hz e => ?_, ?_⟩, ?_⟩
  · exact hg.inj_l hx hy hz (hg.inj_r (hg.vb x hx) (hg.bd x hx y hy) (hg.bd x hx z hz) e)
  · rw [length_mkT]
    intro x hx y hy z hz
    rw [he y hy z hz, he x hx y hy, he x hx z hz, Int.toNat_natCast, Int.toNat_natCast, Int.toNat_natCast, he x hx _ (hb y hy z hz), he _ (hb x hx y hy) _ (hb x hx z hz)]
    have hm : ∀ u, u < t.length → ∀ w, w < t.length → mulN t (mulN t x (mulN t u w)) (backF t x).toNat = mulN t (mulN t (mulN t x u) (backF t x).toNat) (mulN t (mulN t x w) (backF t x).toNat) := fun u hu w hw => by
      have hv := hg.vb x hx
      have b1 := hg.bd x hx u hu
      have b2 := hg.bd x hx w hw
      rw [hg.assoc _ b1 _ hv _ (hg.bd _ b2 _ hv), ← hg.assoc _ hv _ b2 _ hv, ← hg.assoc _ hv x hx w hw, hg.vl x hx, hg.ul w hw, ← hg.assoc _ b1 w hw _ hv, hg.assoc x hx u hu w hw]
    have hvv : mulN t (mulN t x (backF t y).toNat) (backF t x).toNat = (backF t (mulN t (mulN t x y) (backF t x).toNat)).toNat := by
      refine hg.v_uniq (hb x hx y hy) (hb x hx _ (hg.vb y hy)) ?_
      rw [← hm y hy _ (hg.vb y hy), hg.vr y hy, hg.ur x hx, hg.vr x hx]
    rw [hm _ (hg.bd y hy z hz) _ (hg.vb y hy), hm y hy z hz, hvv]
  · rw [length_mkT]
    intro x hx
    rw [he x hx x hx, hg.assoc x hx x hx _ (hg.vb x hx), hg.vr x hx, hg.ur x hx]
theorem core_invol : InvolOk (mkT t.length (coreF t)) := by
  have hg := grp_of hG
  have hb : ∀ x, x < t.length → ∀ y, y < t.length → mulN t (mulN t x (backF t y).toNat) x < t.length := fun x hx y hy => hg.bd _ (hg.bd x hx _ (hg.vb y hy)) x hx
  unfold InvolOk
  rw [length_mkT]
  intro x hx y hy
  have hv := hg.vb x hx
  have hvy := hg.vb y hy
  rw [core_ent hG hx hy, Int.toNat_natCast, core_ent hG hx (hb x hx y hy)]
  have e : (backF t (mulN t (mulN t x (backF t y).toNat) x)).toNat = mulN t (backF t x).toNat (mulN t y (backF t x).toNat) := by
    have h1 := hg.v_mul (hg.bd x hx _ hvy) hx
    have h2 := hg.v_mul hx hvy
    have h3 := hg.v_v hy
    try simp only [] at h1 h2 h3
    rw [h1, h2, h3]
  rw [e, ← hg.assoc x hx _ hv _ (hg.bd y hy _ hv), hg.vr x hx, hg.ul _ (hg.bd y hy _ hv), hg.assoc y hy _ hv x hx, hg.vl x hx, hg.ur y hy]
theorem core_quand : QuandOk (mkT t.length (coreF t)) := by
  have hg := grp_of hG
  have hb : ∀ x, x < t.length → ∀ y, y < t.length → mulN t (mulN t x (backF t y).toNat) x < t.length := fun x hx y hy => hg.bd _ (hg.bd x hx _ (hg.vb y hy)) x hx
  have he := fun x (hx : x < t.length) y (hy : y < t.length) => core_ent hG hx hy
  refine ⟨⟨table_by hG hb he, rows_by hG hb he fun x hx y hy z hz e => ?_, ?_⟩, ?_⟩
  · have h1 := hg.inj_l hx (hg.vb y hy) (hg.vb z hz) (hg.inj_r hx (hg.bd x hx _ (hg.vb y hy)) (hg.bd x hx _ (hg.vb z hz)) e)
    have h2 := congrArg (fun a => (backF t a).toNat) h1
    try simp only [] at h2
    have h3 := hg.v_v hy
    have h4 := hg.v_v hz
    try simp only [] at h3 h4
    rw [h3, h4] at h2
    exact h2
  · rw [length_mkT]
    intro x hx y hy z hz
    rw [he y hy z hz, he x hx y hy, he x hx z hz, Int.toNat_natCast, Int.toNat_natCast, Int.toNat_natCast, he x hx _ (hb y hy z hz), he _ (hb x hx y hy) _ (hb x hx z hz)]
    have hv := hg.vb x hx
    have hvy := hg.vb y hy
    have hvz := hg.vb z hz
    have inv : ∀ a, a < t.length → ∀ b, b < t.length → (backF t (mulN t (mulN t a (backF t b).toNat) a)).toNat = mulN t (backF t a).toNat (mulN t b (backF t a).toNat) := fun a ha b hb' => by
      have h1 := hg.v_mul (hg.bd a ha _ (hg.vb b hb')) ha
      have h2 := hg.v_mul ha (hg.vb b hb')
      have h3 := hg.v_v hb'
      try simp only [] at h1 h2 h3
      rw [h1, h2, h3]
    rw [inv y hy z hz, inv x hx z hz]
    -- x v(y) (z v(y)) x  against (x v(y) x) (v(x) (z v(x))) (x v(y) x)
    obtain ⟨X, hX⟩ : ∃ X, X = (backF t x).toNat := ⟨_, rfl⟩
    obtain ⟨Y, hY⟩ : ∃ Y, Y = (backF t y).toNat := ⟨_, rfl⟩
    rw [← hX] at hv ⊢
    rw [← hY] at hvy ⊢
    have hxX : mulN t x X = 0 := by rw [hX]; exact hg.vr x hx
    have hXx : mulN t X x = 0 := by rw [hX]; exact hg.vl x hx
    have p1 := hg.bd x hx Y hvy
    have p2 := hg.bd z hz Y hvy
    have p3 := hg.bd z hz X hv
    have p4 := hg.bd _ p1 x hx
    rw [hg.assoc _ p1 x hx _ (hg.bd X hv _ p3), ← hg.assoc x hx X hv _ p3, hxX, hg.ul _ p3, hg.assoc _ p1 _ p3 _ p4, hg.assoc z hz X hv _ p4, hg.assoc x hx Y hvy x hx, ← hg.assoc X hv x hx _ (hg.bd Y hvy x hx), hXx, hg.ul _ (hg.bd Y hvy x hx), ← hg.assoc x hx Y hvy _ p2, hg.assoc _ p1 _ p2 x hx, hg.assoc z hz Y hvy x hx]
  · rw [length_mkT]
    intro x hx
    rw [he x hx x hx, hg.vr x hx, hg.ul x hx]
/-- conjugation is trivial exactly for abelian groups -/
theorem conj_triv : eqTB (mkT t.length (conjF t)) (mkT t.length (fun _ y => (y : Int))) = abelB t := by
  have hg := grp_of hG
  rw [Bool.eq_iff_iff, eqTB_iff, abelB_iff hG.1]
  constructor
  · intro e x hx y hyx
    have hy : y < t.length := by omega
    have h1 : ent (mkT t.length (conjF t)) x y = ent (mkT t.length (fun _ y => (y : Int))) x y := by rw [e]
    rw [conj_ent hG hx hy, ent_mkT _ _ _ _ hx hy] at h1
    have h2 : mulN t (mulN t x y) (backF t x).toNat = y := by omega
    have h3 := congrArg (fun a => mulN t a x) h2
    try simp only [] at h3
    rw [hg.assoc _ (hg.bd x hx y hy) _ (hg.vb x hx) x hx, hg.vl x hx, hg.ur _ (hg.bd x hx y hy)] at h3
    rw [ent_nat hG.1 hx hy, ent_nat hG.1 hy hx, h3]
  · intro h
    have key : ∀ x, x < t.length → ∀ y, y < t.length → conjF t x y = (y : Int) := fun x hx y hy => by
      have h1 := conj_ent hG hx hy
      rw [ent_mkT _ _ _ _ hx hy] at h1
      have h2 : ent t x y = ent t y x := by
        rcases Nat.lt_trichotomy y x with g | g | g
        · exact h x hx y g
        · rw [g]
        · exact (h y hy x g).symm
      rw [ent_nat hG.1 hx hy, ent_nat hG.1 hy hx] at h2
      have h3 : mulN t x y = mulN t y x := by omega
      rw [h1, h3, hg.assoc y hy x hx _ (hg.vb x hx), hg.vr x hx, hg.ur y hy]
    refine row_ext (by rw [length_mkT, length_mkT]) fun i hi => ?_
    rw [length_mkT] at hi
    refine ix_ext (by rw [row_mkT _ _ _ hi, row_mkT _ _ _ hi, length_partRow, length_partRow]) fun j hj => ?_
    rw [row_mkT _ _ _ hi, length_partRow] at hj
    rw [ent_def, ent_def, ent_mkT _ _ _ _ hi hj, ent_mkT _ _ _ _ hi hj, key i hi j hj]
end
end Go.Proofs.Ytbfhecckapgpnaa
