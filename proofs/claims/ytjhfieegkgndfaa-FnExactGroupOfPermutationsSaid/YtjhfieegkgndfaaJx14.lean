/-
  Lists of tables in memory; contract of l01Less.
-/
import Derived.Test.YtjhfieegkgndfaaProg
import Derived.Deep.DeepCutAuto
import Derived.Deep.RegionWith
import Derived.Deep.RegionHeld3
import Derived.Deep.DrawnRows
import Derived.Test.YtjhfieegkgndfaaJx0
import Derived.Test.YtjhfieegkgndfaaJx1
import Derived.Test.YtjhfieegkgndfaaJx3
import Derived.Test.YtjhfieegkgndfaaJx9
import Derived.Test.YtjhfieegkgndfaaJx2
import Derived.Test.YtjhfieegkgndfaaJx4
import Derived.Test.YtjhfieegkgndfaaJx5
import Derived.Test.YtjhfieegkgndfaaJx7
import Derived.Test.YtjhfieegkgndfaaJx8
import Derived.Test.YtjhfieegkgndfaaJx11
namespace Go.Proofs.Ytjhfieegkgndfaa
set_option linter.unusedVariables false
set_option linter.unusedSimpArgs false
open Go.RowKit
attribute [local go_sem ↓] Go.wp_at_zero Go.wp_at_succ

/-- from ⟨b, o⟩ on lie slices that hold the tables ts -/
def TabsAt (w : World) (b o : Nat) (ts : List (List (List Int))) : Prop := ∀ k, k < ts.length → ∃ r, w.cell? ⟨b, o + k, none⟩ = some r ∧ Rows w r (tab ts k)

/-- v is a slice that holds the tables ts -/
def Tabs (w : World) (v : Value) (ts : List (List (List Int))) : Prop := ts.length ≤ 1048576 ∧ ∃ b o c, v = .slice (some ⟨b, o, none⟩) ts.length c ∧ TabsAt w b o ts
theorem TabsAt.ext {w w' : World} {b o : Nat} {ts : List (List (List Int))} (h : TabsAt w b o ts) (hx : Ext w w') : TabsAt w' b o ts := fun k hk => by
  obtain ⟨r, h1, h2⟩ := h k hk
  exact ⟨r, hx.cell h1, h2.ext hx⟩
theorem Tabs.ext {w w' : World} {v : Value} {ts : List (List (List Int))} (h : Tabs w v ts) (hx : Ext w w') : Tabs w' v ts := by
  obtain ⟨hl, b, o, c, rfl, hc⟩ := h
  exact ⟨hl, b, o, c, rfl, hc.ext hx⟩
theorem TabsAt.get {w : World} {b o : Nat} {ts : List (List (List Int))} (h : TabsAt w b o ts) {k : Nat} (hk : k < ts.length) :
    ∃ b1 o1 c1, w.cell? ⟨b, o + k, none⟩ = some (.slice (some ⟨b1, o1, none⟩) (tab ts k).length c1) ∧ RowsAt w b1 o1 (tab ts k) := by
  obtain ⟨r, h1, _, b1, o1, c1, rfl, h2⟩ := h k hk
  exact ⟨b1, o1, c1, h1, h2⟩

/-- an entry of table k: the three cells on the way to it -/
theorem TabsAt.read {w : World} {b o n : Nat} {ts : List (List (List Int))} (h : TabsAt w b o ts) (hT : TabsOk n ts) {k : Nat} (hk : k < ts.length) :
    ∃ b1 o1 c1, w.cell? ⟨b, o + k, none⟩ = some (.slice (some ⟨b1, o1, none⟩) n c1) ∧ ∀ x, x < n → ∃ b2 o2 c2, w.cell? ⟨b1, o1 + x, none⟩ = some (.slice (some ⟨b2, o2, none⟩) n c2) ∧ ∀ y, y < n → w.cell? ⟨b2, o2 + y, none⟩ = some (.int .i64 (ent (tab ts k) x y)) := by
  obtain ⟨b1, o1, c1, h1, h2⟩ := h.get hk
  obtain ⟨t1, t2⟩ := hT k hk
  rw [t2] at h1
  refine ⟨b1, o1, c1, h1, fun x hx => ?_⟩
  obtain ⟨b2, o2, c2, g1, g2, _⟩ := h2.get (i := x) (by omega)
  have hl := t1.len (x := x) (by omega)
  rw [hl, t2] at g1
  exact ⟨b2, o2, c2, g1, fun y hy => g2.ent (by rw [hl, t2]) hy⟩

set_option maxHeartbeats 400000 in
theorem l01Less_any (l m : List Int) (v u : Value) (w : World) (hv : Ints w v l) (hu : Ints w u m) :
    Calls Try.prog 77 #[v, u] w fun e w' => e = .returned (.bool (lessB l m)) ∧ Drawn w w' := by
  obtain ⟨hlen, b, o, c, rfl, hc⟩ := hv
  obtain ⟨hlen2, b2, o2, c2, rfl, hc2⟩ := hu
  go_enter Try.func77, Try.ntmps77
  go_wp2
  go_loopw [5] (fun i wr => ∃ k : Nat, k ≤ l.length ∧ k ≤ m.length ∧ i = .int .i64 k ∧ lessB l m = lessB (l.drop k) (m.drop k) ∧ Drawn w wr) (fun i _ => l.length - (intOf i).toNat)
  case atStart => exact ⟨0, Nat.zero_le _, Nat.zero_le _, rfl, rfl, Drawn.refl w⟩
  case round =>
    obtain ⟨k, hk, hk2, rfl, he, hd⟩ := hrel
    have HE := Lib.hid he
    clear he
    by_cases h1 : k < l.length
    · by_cases h2 : k < m.length
      · have e1 := (hc.ext hd.ext) k h1
        have e2 := (hc2.ext hd.ext) k h2
        have HA := Lib.hid (lessB_at l m k h1 h2)
        by_cases hne : ix l k = ix m k
        · have hb : (ix l k != ix m k) = false := by simp [hne]
          have HN := Lib.hid hne
          clear hne
          go_wp2
          go_quiet (fail)
          go_wp2
          go_roundw
          case rel => exact ⟨k + 1, by omega, by omega, by go_num, by rw [HE.out, HA.out, if_pos HN.out], hd.drewN _⟩
          case measure => simp [intOf]; omega
        · have hb : (ix l k != ix m k) = true := by simp [hne]
          have HN := Lib.hid hne
          clear hne
          go_wp2
          go_quiet (fail)
          go_wp2
          go_quiet (fail)
          go_wp2
          go_ret
          exact ⟨ret_bool (by rw [HE.out, HA.out, if_neg HN.out]), (hd.drewN _).drewN _⟩
      · have HA := Lib.hid (lessB_end l m k hk hk2 (by omega))
        go_wp2
        go_ret
        exact ⟨ret_bool (by rw [HE.out, HA.out]), hd⟩
    · have HA := Lib.hid (lessB_end l m k hk hk2 (by omega))
      go_wp2
      go_ret
      exact ⟨ret_bool (by rw [HE.out, HA.out]), hd⟩

end Go.Proofs.Ytjhfieegkgndfaa
