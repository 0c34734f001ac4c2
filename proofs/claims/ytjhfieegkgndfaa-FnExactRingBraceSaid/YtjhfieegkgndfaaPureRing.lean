/-
  The brace of remainders: which it is. Plain.
-/
import Derived.Test.YtjhfieegkgndfaaBase
import Derived.Test.YtjhfieegkgndfaaBase2
import Derived.Test.YtjhfieegkgndfaaPure1
import Derived.Test.YtjhfieegkgndfaaPureOrd
import Derived.Test.YtjhfieegkgndfaaPureInv
import Derived.Test.YtjhfieegkgndfaaW8
import Derived.Test.YtjhfieegkgndfaaW12
import Derived.Test.YtjhfieegkgndfaaW13
import Derived.Test.YtjhfieegkgndfaaPureTurn
import Derived.Test.YtjhfieegkgndfaaPureBr
namespace Go.Proofs.Ytjhfieegkgndfaa
set_option linter.unusedVariables false
set_option linter.unusedSimpArgs false

/-- p holds below k -/
def allN : Nat → (Nat → Bool) → Bool
  | 0, _ => true
  | k + 1, p => p k && allN k p
theorem allN_iff {p : Nat → Bool} : ∀ {k : Nat}, allN k p = true ↔ ∀ x, x < k → p x = true
  | 0 => by simp [allN]
  | k + 1 => by
    unfold allN
    rw [Bool.and_eq_true, allN_iff]
    constructor
    · intro h; exact all_succ h.2 h.1
    · intro h; exact ⟨h k (by omega), fun x hx => h x (by omega)⟩
def rA (n x y : Nat) : Nat := (x + y) % n
def rC (n k x y : Nat) : Nat := (x + y + k * x * y) % n
def okP (n : Nat) (g : Nat → Nat → Nat) : Bool := allN n fun x => allN n fun y => allN y fun z => !(Nat.beq (g x z) (g x y))
def okU (n : Nat) (g : Nat → Nat → Nat) : Bool := allN n fun x => Nat.beq (g 0 x) x && Nat.beq (g x 0) x
def okA (n : Nat) (g : Nat → Nat → Nat) : Bool := allN n fun x => allN n fun y => allN n fun z => Nat.beq (g (g x y) z) (g x (g y z))
def okB (n : Nat) (g : Nat → Nat → Nat) : Bool := allN n fun x => allN n fun y => allN n fun z => Nat.beq (g x (rA n y z)) (rA n (rA n (g x y) ((n - x) % n)) (g x z))
/-- p is a prime -/
def isPr (p : Nat) : Bool := Nat.ble 2 p && allN p fun d => Nat.ble d 1 || !(Nat.beq (p % d) 0)
/-- p is a prime divisor of n and not of k -/
def badP (n k p : Nat) : Bool := isPr p && Nat.beq (n % p) 0 && !(Nat.beq (k % p) 0)
def goodR (n k : Nat) : Bool := allN (n + 1) fun p => !(badP n k p)
def ringChk (n k : Nat) : Bool := (Nat.beq (if okP n (rC n k) then 1 else 0) (if goodR n k then 1 else 0)) && okU n (rC n k) && (okA n (rC n k) && okB n (rC n k))
set_option maxRecDepth 100000 in
theorem ring_all : allN 13 (fun n => allN n fun k => ringChk n k) = true := by decide +kernel

theorem ring_one {n k : Nat} (h2 : n ≤ 12) (hk : k < n) : (okP n (rC n k) = goodR n k) ∧ okU n (rC n k) = true ∧ okA n (rC n k) = true ∧ okB n (rC n k) = true := by
  have := allN_iff.1 (allN_iff.1 ring_all n (by omega)) k hk
  unfold ringChk at this
  simp only [Bool.and_eq_true] at this
  obtain ⟨⟨h1, h2⟩, h3, h4⟩ := this
  refine ⟨?_, h2, h3, h4⟩
  have h1 := Nat.eq_of_beq_eq_true h1
  cases e : okP n (rC n k) <;> cases e' : goodR n k <;> rw [e, e'] at h1 <;> simp at h1 <;> rfl

/-- values of the brace of remainders -/
@[irreducible] def ringF (n k x y : Nat) : Int := ((x : Int) + (y : Int) + (k : Int) * (x : Int) * (y : Int)) % (n : Int)
theorem ringF_def (n k x y : Nat) : ringF n k x y = ((x : Int) + (y : Int) + (k : Int) * (x : Int) * (y : Int)) % (n : Int) := by unfold ringF; rfl
theorem ringF_nat (n k x y : Nat) : ringF n k x y = ((rC n k x y : Nat) : Int) := by rw [ringF_def]; unfold rC; simp
theorem cycF_nat (n x y : Nat) : cycF n x y = ((rA n x y : Nat) : Int) := by rw [cycF_def]; unfold rA; simp
theorem rC_lt {n k x y : Nat} (h : 0 < n) : rC n k x y < n := Nat.mod_lt _ h
theorem rA_lt {n x y : Nat} (h : 0 < n) : rA n x y < n := Nat.mod_lt _ h
theorem rA_rC (n x y : Nat) : rA n x y = rC n 0 x y := by unfold rA rC; simp

theorem table_nat {n : Nat} {f : Nat → Nat → Int} {g : Nat → Nat → Nat} (h1 : 1 ≤ n) (h2 : n ≤ 12) (hf : ∀ x y, f x y = ((g x y : Nat) : Int)) (hg : ∀ x y, g x y < n) : TableOk (mkT n f) := by
  refine ⟨by rw [length_mkT]; exact h1, by rw [length_mkT]; exact h2, fun x hx => ?_⟩
  rw [length_mkT] at hx ⊢
  refine ⟨length_row_mkT n f x hx, fun y hy => ?_⟩
  rw [ent_mkT _ _ _ _ hx hy, hf]
  have := hg x y
  omega
theorem perm_nat {n : Nat} {f : Nat → Nat → Int} {g : Nat → Nat → Nat} (hf : ∀ x y, f x y = ((g x y : Nat) : Int)) (hg : ∀ x y, g x y < n) : PermRows (mkT n f) n ↔ okP n g = true := by
  unfold okP
  rw [allN_iff]
  constructor
  · intro h x hx
    rw [allN_iff]
    intro y hy
    rw [allN_iff]
    intro z hz
    have hp := (h x hx).2
    rw [length_row_mkT n f x hx] at hp
    have := hp y hy z hz
    rw [ent_def, ent_def, ent_mkT _ _ _ _ hx hy, ent_mkT _ _ _ _ hx (by omega), hf, hf] at this
    cases e : Nat.beq (g x z) (g x y) with
    | false => rfl
    | true => exact absurd (by rw [Nat.eq_of_beq_eq_true e]) this
  · intro h x hx
    refine ⟨fun y hy => ?_, fun y hy z hz => ?_⟩
    · rw [length_row_mkT n f x hx] at hy ⊢
      rw [ent_def, ent_mkT _ _ _ _ hx hy, hf]
      have := hg x y
      omega
    · rw [length_row_mkT n f x hx] at hy
      rw [ent_def, ent_def, ent_mkT _ _ _ _ hx hy, ent_mkT _ _ _ _ hx (by omega), hf, hf]
      have := allN_iff.1 (allN_iff.1 (h x hx) y hy) z hz
      intro e
      have e : g x z = g x y := by omega
      rw [e] at this
      simp at this
theorem group_nat {n : Nat} {f : Nat → Nat → Int} {g : Nat → Nat → Nat} (h1 : 1 ≤ n) (h2 : n ≤ 12) (hf : ∀ x y, f x y = ((g x y : Nat) : Int)) (hg : ∀ x y, g x y < n) (hU : okU n g = true) (hA : okA n g = true) : GroupOk (mkT n f) ↔ okP n g = true := by
  unfold GroupOk
  rw [length_mkT, perm_nat hf hg]
  constructor
  · intro h; exact h.2.1
  · intro h
    refine ⟨table_nat h1 h2 hf hg, h, fun x hx => ⟨⟨?_, ?_⟩, fun y hy z hz => ?_⟩⟩
    · have := allN_iff.1 hU x hx
      rw [Bool.and_eq_true] at this
      rw [ent_mkT _ _ _ _ (by omega) hx, hf, Nat.eq_of_beq_eq_true this.1]
    · have := allN_iff.1 hU x hx
      rw [Bool.and_eq_true] at this
      rw [ent_mkT _ _ _ _ hx (by omega), hf, Nat.eq_of_beq_eq_true this.2]
    · have := Nat.eq_of_beq_eq_true (allN_iff.1 (allN_iff.1 (allN_iff.1 hA x hx) y hy) z hz)
      have a1 := hg x y
      have a2 := hg y z
      rw [ent_mkT _ _ _ _ hx hy, ent_mkT _ _ _ _ hy hz, hf, hf, Int.toNat_natCast, Int.toNat_natCast, ent_mkT _ _ _ _ a1 hz, ent_mkT _ _ _ _ hx a2, hf, hf, this]
theorem group_cyc {n : Nat} (h1 : 1 ≤ n) (h2 : n ≤ 12) : GroupOk (mkT n (cycF n)) := by
  obtain ⟨a, b, c, d⟩ := ring_one (n := n) (k := 0) h2 (by omega)
  have hf : ∀ x y, cycF n x y = ((rC n 0 x y : Nat) : Int) := fun x y => by rw [cycF_nat, rA_rC]
  rw [group_nat h1 h2 hf (fun x y => rC_lt (by omega)) b c, a]
  unfold goodR
  rw [allN_iff]
  intro p hp
  unfold badP
  simp
theorem back_cyc {n x : Nat} (h1 : 1 ≤ n) (h2 : n ≤ 12) (hx : x < n) : (backF (mkT n (cycF n)) x).toNat = (n - x) % n := by
  have hG := group_cyc h1 h2
  obtain ⟨b0, b1, b2⟩ := backF_ok hG (x := x) (by rw [length_mkT]; exact hx)
  rw [length_mkT] at b1
  have hb : (backF (mkT n (cycF n)) x).toNat < n := by omega
  generalize (backF (mkT n (cycF n)) x).toNat = b at *
  rw [ent_mkT _ _ _ _ hx hb, cycF_nat] at b2
  unfold rA at b2
  have b2 : (x + b) % n = 0 := by omega
  by_cases e : x = 0
  · subst e
    rw [Nat.zero_add, Nat.mod_eq_of_lt hb] at b2
    subst b2; simp
  · rw [Nat.mod_eq_of_lt (by omega)]
    have hn : n ≤ x + b := by
      apply Classical.byContradiction
      intro h
      rw [Nat.mod_eq_of_lt (by omega)] at b2
      omega
    rw [Nat.mod_eq_sub_mod hn, Nat.mod_eq_of_lt (by omega)] at b2
    omega
/-- the remainders make a brace exactly if each prime divisor of n is one of k -/
theorem brace_ring {n k : Nat} (h1 : 1 ≤ n) (h2 : n ≤ 12) (hk : k < n) : braceB (mkT n (cycF n)) (mkT n (ringF n k)) = goodR n k := by
  obtain ⟨a, b, c, d⟩ := ring_one h2 hk
  have hC := group_cyc h1 h2
  have hR := group_nat h1 h2 (ringF_nat n k) (fun x y => rC_lt (by omega)) b c
  rw [a] at hR
  cases e : goodR n k with
  | false =>
    rw [e] at hR
    exact braceB_1 (twoB_2 (groupB_no (by simpa using hR)))
  | true =>
    refine braceB_yes (twoB_yes (groupB_yes hC) (groupB_yes (hR.2 e)) (by rw [length_mkT, length_mkT])) (faultL_none ?_)
    rw [length_mkT]
    intro x hx y hy z hz
    rw [length_mkT] at hy hz
    rw [← leftF_def, ← rightF_def]
    have := Nat.eq_of_beq_eq_true (allN_iff.1 (allN_iff.1 (allN_iff.1 d x hx) y hy) z hz)
    have a1 : rC n k x y < n := rC_lt (by omega)
    have a2 : rC n k x z < n := rC_lt (by omega)
    have a3 : (n - x) % n < n := Nat.mod_lt _ (by omega)
    have a4 : rA n y z < n := rA_lt (by omega)
    have a5 : rA n (rC n k x y) ((n - x) % n) < n := rA_lt (by omega)
    rw [ent_mkT _ _ _ _ hy hz, ent_mkT n (ringF n k) _ _ hx hy, ent_mkT n (ringF n k) _ _ hx hz, cycF_nat, ringF_nat, ringF_nat, Int.toNat_natCast, Int.toNat_natCast, Int.toNat_natCast, ent_mkT _ _ _ _ hx a4, back_cyc h1 h2 hx, ent_mkT _ _ _ _ a1 a3, cycF_nat, Int.toNat_natCast, ent_mkT _ _ _ _ a5 a2, cycF_nat, ringF_nat, this]
end Go.Proofs.Ytjhfieegkgndfaa
