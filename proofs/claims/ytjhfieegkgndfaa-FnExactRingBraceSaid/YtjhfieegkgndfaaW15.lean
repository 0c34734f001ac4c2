/-
  Contracts: the cyclic groups and those of two halves: the program; both sides' exported functions.
-/
import Derived.Test.YtjhfieegkgndfaaProg
import Derived.Test.YtjhfieegkgndfaaBase
import Derived.Test.YtjhfieegkgndfaaBase2
import Derived.Test.YtjhfieegkgndfaaPure1
import Derived.Test.YtjhfieegkgndfaaGrow
import Derived.Test.YtjhfieegkgndfaaW1
import Derived.Test.YtjhfieegkgndfaaW8
import Derived.Test.YtjhfieegkgndfaaW10
import Derived.Test.YtjhfieegkgndfaaW12
import Derived.Test.YtjhfieegkgndfaaW13
import Derived.Test.YtjhfieegkgndfaaW14
namespace Go.Proofs.Ytjhfieegkgndfaa
set_option linter.unusedVariables false
set_option linter.unusedSimpArgs false
open Go.RowKit

theorem cyclic1_any (n x y B : Nat) (w : World) (hB : w.cell? ⟨B, 0, none⟩ = some (.int .i64 n)) (h1 : 1 ≤ n) (hn : n ≤ 12) (hx : x < n) (hy : y < n) :
    Calls Try.prog 65 #[.int .i64 x, .int .i64 y, .pointer (some ⟨B, 0, none⟩)] w fun e w' => e = .returned (.int .i64 (cycF n x y)) ∧ Ext w w' := by
  rw [cycF_def]
  go_enter Try.func65, Try.ntmps65
  go_wp2
  go_ret
  exact ⟨rfl, Ext.refl _⟩
theorem callCyclic1 (args : Array Value) (w : World) : (callFunc 65 args).run Try.prog w = .ok (.enter 65 args) w :=
  callFunc_enter Try.func65 (by kernel_rfl) rfl args w

set_option maxRecDepth 100000 in
theorem twoHalves1_any (n s x y B C : Nat) (w : World) (hB : w.cell? ⟨B, 0, none⟩ = some (.int .i64 n)) (hC : w.cell? ⟨C, 0, none⟩ = some (.int .i64 s)) (h1 : 1 ≤ n) (hn : n ≤ 12) (hs : s ≤ 12) (hx : x < 2 * n) (hy : y < 2 * n) :
    Calls Try.prog 120 #[.int .i64 x, .int .i64 y, .pointer (some ⟨B, 0, none⟩), .pointer (some ⟨C, 0, none⟩)] w fun e w' => e = .returned (.int .i64 (dblF n s x y)) ∧ Ext w w' := by
  have hk0 := Int.emod_nonneg (x : Int) (b := (n : Int)) (by omega)
  have hk1 := Int.emod_lt_of_pos (x : Int) (b := (n : Int)) (by omega)
  have hj0 := Int.emod_nonneg (y : Int) (b := (n : Int)) (by omega)
  have hj1 := Int.emod_lt_of_pos (y : Int) (b := (n : Int)) (by omega)
  have p0 := Int.emod_nonneg ((x : Int) + (y : Int)) (b := (n : Int)) (by omega)
  have p1 := Int.emod_lt_of_pos ((x : Int) + (y : Int)) (b := (n : Int)) (by omega)
  have q0 := Int.emod_nonneg ((x : Int) - (y : Int)) (b := (n : Int)) (by omega)
  have q1 := Int.emod_lt_of_pos ((x : Int) - (y : Int)) (b := (n : Int)) (by omega)
  by_cases hxn : x < n <;> by_cases hyn : y < n
  · rw [dblF_1 hxn hyn]
    go_enter Try.func120, Try.ntmps120
    go_wp2
    go_quiet (fail)
    go_wp2
    go_ret
    exact ⟨ret_int (by first | rfl | simp), (Ext.refl _).drewN _⟩
  · rw [dblF_2 hxn hyn]
    go_enter Try.func120, Try.ntmps120
    go_wp2
    go_quiet (fail)
    go_wp2
    go_quiet (fail)
    go_wp2
    go_ret
    exact ⟨ret_int (by first | rfl | simp), ((Ext.refl _).drewN _).drewN _⟩
  · rw [dblF_3 hxn hyn]
    go_enter Try.func120, Try.ntmps120
    go_wp2
    go_quiet (fail)
    go_wp2
    go_quiet (fail)
    go_wp2
    go_ret
    exact ⟨ret_int (by first | rfl | simp), ((Ext.refl _).drewN _).drewN _⟩
  · rw [dblF_4 hxn hyn]
    go_enter Try.func120, Try.ntmps120
    go_wp2
    go_quiet (fail)
    go_wp2
    go_ret
    exact ⟨ret_int (by first | rfl | simp), (Ext.refl _).drewN _⟩
theorem callTwoHalves1 (args : Array Value) (w : World) : (callFunc 120 args).run Try.prog w = .ok (.enter 120 args) w :=
  callFunc_enter Try.func120 (by kernel_rfl) rfl args w

theorem cyclic_any (n : Nat) (w : World) (h1 : 1 ≤ n) (hn : n ≤ 12) :
    Calls Try.prog 40 #[.int .i64 n] w (NewG (mkT n (cycF n)) w) := by
  go_enter Try.func40, Try.ntmps40
  go_wp2_with fail
  have hx0 := ext_box2 w (.int .i64 n) (.slice none 0 0) 3 37
  have c0 : ((w.alloc (.cells #[.int .i64 n] 3)).alloc (.cells #[.slice none 0 0] 37)).cell? ⟨w.heap.size, 0, none⟩ = some (.int .i64 n) := by simp [go_sem]
  refine (tableBy_any n (cycF n) 65 #[.pointer (some ⟨w.heap.size, 0, none⟩)] _ (by omega) callCyclic1 (fun w1 x y hx hxn hyn => by rw [app21]; exact cyclic1_any n x y w.heap.size w1 (hx.cell c0) h1 hn hxn hyn)).mono ?_
  rintro e w1 ⟨b, c, rfl, ho, hx1⟩
  rw [length_mkT] at *
  have f1 := hx1.cell (p := ⟨w.heap.size + 1, 0, none⟩) (v := .slice none 0 0) (by simp [go_sem])
  have f2 := hx1.free (p := ⟨w.heap.size + 1, 0, none⟩) (by simp [go_sem]) (by simp)
  have hsz := hx1.size
  simp at hsz
  go_wp2
  refine bodyPost_ret (v := .agg #[.slice (some ⟨b, 0, none⟩) n c]) (by simp [results, Try.results40, go_sem, f1]) rfl ⟨b, c, by rw [length_mkT], ?_, (hx0.trans hx1).setNew (by simp <;> omega) _⟩
  exact ((ho.setOther (.inl (by simp)) _).mono (by simp <;> omega) (by simp))

theorem twoHalves_any (n s : Nat) (w : World) (h1 : 1 ≤ n) (hn : n ≤ 12) (hs : s ≤ 12) :
    Calls Try.prog 91 #[.int .i64 n, .int .i64 s] w (NewG (mkT (2 * n) (dblF n s)) w) := by
  go_enter Try.func91, Try.ntmps91
  go_wp2_with fail
  have hx0 : Ext w (((w.alloc (.cells #[.int .i64 n] 3)).alloc (.cells #[.int .i64 s] 3)).alloc (.cells #[.slice none 0 0] 37)) := (ext_box2 w _ _ _ _).alloc _
  have c0 : (((w.alloc (.cells #[.int .i64 n] 3)).alloc (.cells #[.int .i64 s] 3)).alloc (.cells #[.slice none 0 0] 37)).cell? ⟨w.heap.size, 0, none⟩ = some (.int .i64 n) := by simp [go_sem]
  have d0 : (((w.alloc (.cells #[.int .i64 n] 3)).alloc (.cells #[.int .i64 s] 3)).alloc (.cells #[.slice none 0 0] 37)).cell? ⟨w.heap.size + 1, 0, none⟩ = some (.int .i64 s) := by simp [go_sem]
  rw [show (2 * (n : Int)) = ((2 * n : Nat) : Int) by omega]
  refine (tableBy_any (2 * n) (dblF n s) 120 #[.pointer (some ⟨w.heap.size, 0, none⟩), .pointer (some ⟨w.heap.size + 1, 0, none⟩)] _ (by omega) callTwoHalves1 (fun w1 x y hx hxn hyn => by rw [app22]; exact twoHalves1_any n s x y w.heap.size (w.heap.size + 1) w1 (hx.cell c0) (hx.cell d0) h1 hn hs hxn hyn)).mono ?_
  rintro e w1 ⟨b, c, rfl, ho, hx1⟩
  rw [length_mkT] at *
  have f1 := hx1.cell (p := ⟨w.heap.size + 1 + 1, 0, none⟩) (v := .slice none 0 0) (by simp [go_sem])
  have f2 := hx1.free (p := ⟨w.heap.size + 1 + 1, 0, none⟩) (by simp [go_sem]) (by simp)
  have hsz := hx1.size
  simp at hsz
  go_wp2
  refine bodyPost_ret (v := .agg #[.slice (some ⟨b, 0, none⟩) (2 * n) c]) (by simp [results, Try.results91, go_sem, f1]) rfl ⟨b, c, by rw [length_mkT], ?_, (hx0.trans hx1).setNew (by simp <;> omega) _⟩
  exact ((ho.setOther (.inl (by simp)) _).mono (by simp <;> omega) (by simp))
end Go.Proofs.Ytjhfieegkgndfaa
