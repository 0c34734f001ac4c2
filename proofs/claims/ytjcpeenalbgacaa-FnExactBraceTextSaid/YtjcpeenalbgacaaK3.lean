/-
  Contracts of the laws' own helpers at lists and tables that are results.
-/
import Derived.Test.YtjcpeenalbgacaaProg
import Derived.Test.YtjcpeenalbgacaaBase
import Derived.Test.YtjcpeenalbgacaaBase2
import Derived.Test.YtjcpeenalbgacaaRet
import Derived.Test.YtjcpeenalbgacaaPure1
import Derived.Test.YtjcpeenalbgacaaW7
import Derived.Test.YtjcpeenalbgacaaW8
import Derived.Test.YtjcpeenalbgacaaW9
import Derived.Test.YtjcpeenalbgacaaW10
import Derived.Test.YtjcpeenalbgacaaK1
import Derived.Test.YtjcpeenalbgacaaK2
namespace Go.Proofs.Ytjcpeenalbgacaa
set_option linter.unusedVariables false
set_option linter.unusedSimpArgs false
open Go.RowKit

/-- a list and a code are returned (reference) -/
def RetIC (l : List Int) (c : Int) (w : World) (e : Ending) (w' : World) : Prop := ∃ v, e = .returned (.tuple #[v, .int .i64 c]) ∧ IntsR w' v l ∧ Ext w w'
/-- a list, in new memory, and a code are returned (program) -/
def NewIC (l : List Int) (c : Int) (w : World) (e : Ending) (w' : World) : Prop := ∃ v, e = .returned (.tuple #[v, .int .i64 c]) ∧ OwnIV w.heap.size w'.heap.size w' v l ∧ Ext w w'
/-- a table and a code are returned (reference) -/
def RetTC (t : List (List Int)) (c : Int) (w : World) (e : Ending) (w' : World) : Prop := ∃ v, e = .returned (.tuple #[v, .int .i64 c]) ∧ RowsR w' v t ∧ Ext w w'
/-- a table, in new memory, and a code are returned (program) -/
def NewTC (t : List (List Int)) (c : Int) (w : World) (e : Ending) (w' : World) : Prop := ∃ v, e = .returned (.tuple #[v, .int .i64 c]) ∧ OwnV w.heap.size w'.heap.size w' v t ∧ Ext w w'

theorem markInt64S_new (lo hi : Nat) (l : List Int) (v : Value) (k : Int) (w : World) (hv : OwnIV lo hi w v l) (hh : hi ≤ w.heap.size) (h0 : 0 ≤ k) (h1 : k ≤ 281474976710656) :
    Calls Try.prog 22 #[v, .int .i64 k] w fun e w' => e = .returned (.int .i64 (k + l.length)) ∧ OwnIV lo hi w' v (numRow k l.length) ∧ Touch lo hi w w' := by
  obtain ⟨hl, a, c, rfl, hc⟩ := hv
  by_cases hne : l = []
  · subst hne
    go_enter Try.func22, Try.ntmps22
    go_wp2
    go_loopw [1, 5] (fun q i wr => i = .int .i64 0 ∧ q = .int .i64 k ∧ w = wr) (fun _ i _ => 0)
    case atStart => exact ⟨rfl, rfl, rfl⟩
    case round =>
      obtain ⟨rfl, rfl, rfl⟩ := hrel
      go_wp2
      go_ret
      exact ⟨ret_int (by simp), ⟨by simp, a, c, by simp, fun h => absurd rfl h⟩, Touch.of_ext (Ext.refl _)⟩
  · obtain ⟨b, o, rfl, ho⟩ := hc hne
    refine (markInt64S_own lo hi l b o c k w (fun _ => ho) hl h0 (by omega)).mono ?_
    rintro e w1 ⟨rfl, h2, -, h4⟩
    exact ⟨rfl, ⟨by simpa using hl, some ⟨b, o, none⟩, c, by simp, fun _ => ⟨b, o, rfl, h2 hne⟩⟩, Touch.of_marked (h4.mono ho.1 (by have := ho.2.1; omega))⟩

theorem heldInt64S_new (l : List Int) (v : Value) (k : Int) (w : World) (hv : IntsR w v (numRow k l.length)) (hs : l.length ≤ 1048576) (h0 : 0 ≤ k) (h1 : k ≤ 281474976710656) :
    Calls Try.prog 23 #[v, .int .i64 k] w fun e w' => e = .returned (.int .i64 (k + l.length)) ∧ Ext w w' :=
  (heldInt64S_any (numRow k l.length) l.length v k w hv rfl hs h0 (by omega)).mono fun _ _ ⟨h1, h2⟩ => ⟨h1, h2.ext⟩

theorem markInt64SS_new (lo hi : Nat) (t : List (List Int)) (v : Value) (k : Int) (w : World) (hv : OwnV lo hi w v t) (hh : hi ≤ w.heap.size) (h0 : 0 ≤ k) (h1 : k ≤ 281474976710656) :
    Calls Try.prog 52 #[v, .int .i64 k] w fun e w' => e = .returned (.int .i64 (k + total t)) ∧ OwnV lo hi w' v (markTo t k t.length) ∧ Touch lo hi w w' :=
  (markInt64SS_any lo hi t v k w hv h0 (by omega)).mono fun _ _ ⟨h1, h2, h3⟩ => ⟨h1, h2, Touch.of_marked h3⟩

theorem heldInt64SS_new (t : List (List Int)) (v : Value) (k : Int) (w : World) (hv : RowsR w v (markTo t k t.length)) (hs : Small t) (h0 : 0 ≤ k) (h1 : k ≤ 281474976710656) :
    Calls Try.prog 53 #[v, .int .i64 k] w fun e w' => e = .returned (.int .i64 (k + total t)) ∧ Ext w w' :=
  (heldInt64SS_any t v k w hv hs h0 (by omega)).mono fun _ _ ⟨h1, h2⟩ => ⟨h1, h2.ext⟩
end Go.Proofs.Ytjcpeenalbgacaa
