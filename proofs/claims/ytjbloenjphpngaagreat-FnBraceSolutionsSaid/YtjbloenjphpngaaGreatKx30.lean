/-
  Contracts of the program's functions on racks, at racks: rackFault, isIdentity, kinkOf, IsRack, IsQuandle, IsMedialRack, IsInvolutoryRack.
-/
import Derived.Test.YtjbloenjphpngaaGreatProg
import Derived.Deep.DeepCutAuto
import Derived.Deep.RegionWith
import Derived.BigQuiet
import Derived.Deep.OwnRows
import Derived.Test.YtjbloenjphpngaaGreatKx0
import Derived.Test.YtjbloenjphpngaaGreatKx1
import Derived.Test.YtjbloenjphpngaaGreatKx6
import Derived.Test.YtjbloenjphpngaaGreatKx7
import Derived.Test.YtjbloenjphpngaaGreatKx8
import Derived.Test.YtjbloenjphpngaaGreatKx4
import Derived.Test.YtjbloenjphpngaaGreatKx3
import Derived.Test.YtjbloenjphpngaaGreatKx29
import Derived.Test.YtjbloenjphpngaaGreatKx2
namespace Go.Proofs.YtjbloenjphpngaaGreat
set_option linter.unusedVariables false
set_option linter.unusedSimpArgs false
open Go.RowKit
attribute [local go_sem ↓] Go.wp_at_zero Go.wp_at_succ
open Go.Deep

set_option maxRecDepth 100000 in
set_option maxHeartbeats 1000000 in
theorem rackFault_ok (t : List (List Int)) (v : Value) (w : World) (hv : Rows w v t) (hR : RackOk t) :
    Calls Tryz.prog 60 #[v] w fun e w' => e = .returned (.slice none 0 0) ∧ Ext w w' := by
  obtain ⟨hlen, b, o, c, rfl, hc⟩ := id hv
  have h12 := hR.tab.2.1
  obtain ⟨n, hn⟩ : ∃ n, n = t.length := ⟨_, rfl⟩
  rw [← hn] at h12 ⊢
  have HN := Lib.hid hn
  have HT := Lib.hid hR.tab
  have HL := Lib.hid hR.law
  have HC := Lib.hid hc
  clear hc hn hR hv
  go_enter Tryz.func60, Tryz.ntmps60
  go_wp2
  go_loopw [10] (fun i wr => ∃ x : Nat, x ≤ n ∧ i = .int .i64 x ∧ Drawn w wr) (fun i _ => n - (intOf i).toNat)
  case atStart => exact ⟨0, Nat.zero_le _, rfl, Drawn.refl _⟩
  case round =>
    obtain ⟨x, hx, rfl, hd⟩ := hrel
    by_cases hxl : x < n
    case neg =>
      go_wp2
      go_ret
      exact ⟨rfl, hd.ext⟩
    case pos =>
      have hd0 := hd
      go_wp2
      go_loopw [14] (fun i wy => ∃ y : Nat, y ≤ n ∧ i = .int .i64 y ∧ Drawn w wy) (fun i _ => n - (intOf i).toNat)
      case atStart => exact ⟨0, Nat.zero_le _, rfl, hd0⟩
      case round =>
        obtain ⟨y, hy, rfl, hd⟩ := hrel
        by_cases hyl : y < n
        case neg =>
          go_wp2
          go_roundw
          case rel => exact ⟨x + 1, by omega, by go_num, hd⟩
          case measure => simp [intOf]; omega
        case pos =>
          have hd1 := hd
          go_wp2
          go_loopw [18] (fun i wz => ∃ z : Nat, z ≤ n ∧ i = .int .i64 z ∧ Drawn w wz) (fun i _ => n - (intOf i).toNat)
          case atStart => exact ⟨0, Nat.zero_le _, rfl, hd1⟩
          case round =>
            obtain ⟨z, hz, rfl, hd⟩ := hrel
            by_cases hzl : z < n
            case neg =>
              go_wp2
              go_roundw
              case rel => exact ⟨y + 1, by omega, by go_num, hd⟩
              case measure => simp [intOf]; omega
            case pos =>
              obtain ⟨dx, sx, mx, r1, q1⟩ := (HC.out.ext hd.ext).read HT.out HN.out.symm hxl
              obtain ⟨dy, sy, my, r2, q2⟩ := (HC.out.ext hd.ext).read HT.out HN.out.symm hyl
              obtain ⟨e1, e1a, e1b⟩ := q2 z hzl
              obtain ⟨e2, e2a, e2b⟩ := q1 y hyl
              obtain ⟨e3, e3a, e3b⟩ := q1 z hzl
              obtain ⟨A, hA⟩ := Int.eq_ofNat_of_zero_le e1a
              obtain ⟨B, hB⟩ := Int.eq_ofNat_of_zero_le e2a
              obtain ⟨C, hC⟩ := Int.eq_ofNat_of_zero_le e3a
              rw [hA] at e1 e1b
              rw [hB] at e2 e2b
              rw [hC] at e3 e3b
              have hAn : A < n := by omega
              have hBn : B < n := by omega
              have hCn : C < n := by omega
              obtain ⟨e4, -, -⟩ := q1 A hAn
              obtain ⟨db, sb, mb, r3, q3⟩ := (HC.out.ext hd.ext).read HT.out HN.out.symm hBn
              obtain ⟨e5, -, -⟩ := q3 C hCn
              have hlaw : ent t x A = ent t B C := by
                have := HL.out x (by rw [← HN.out]; exact hxl) y (by rw [← HN.out]; exact hyl) z (by rw [← HN.out]; exact hzl)
                rwa [hA, hB, hC] at this
              rw [← hlaw] at e5
              have HD := Lib.hid hd
              clear q1 q2 q3 hA hB hC hlaw e1a e2a e3a hd
              go_wp2
              go_quiet (fail)
              go_wp2
              go_roundw
              case rel => exact ⟨z + 1, by omega, by go_num, HD.out.drewN _⟩
              case measure => simp [intOf]; omega

set_option maxRecDepth 100000 in
set_option maxHeartbeats 1000000 in
theorem IsRack_ok (t : List (List Int)) (v : Value) (w : World) (hv : Rows w v t) (hR : RackOk t) :
    Calls Tryz.prog 34 #[.agg #[v]] w fun e w' => e = .returned (.bool true) ∧ Ext w w' := by
  obtain ⟨b, o, c, rfl⟩ : ∃ b o c, v = .slice (some ⟨b, o, none⟩) t.length c := by
    obtain ⟨-, b, o, c, e, -⟩ := hv
    exact ⟨b, o, c, e⟩
  have hxg := ext_box w (.slice (some ⟨b, o, none⟩) t.length c) 37
  have bg := cell_new w (.slice (some ⟨b, o, none⟩) t.length c) 37
  have hT := tableB_iff.2 hR.tab
  have hp := hR.perm
  go_enter Tryz.func34, Tryz.ntmps34
  go_wp2_with fail
  generalize (w.alloc (.cells #[.slice (some ⟨b, o, none⟩) t.length c] 37)) = w1 at *
  refine (IsTable_any t _ _ (hv.ext hxg)).mono ?_
  rintro e w2 ⟨rfl, hx⟩
  rw [hT]
  have hX := hxg.trans hx
  have b2 := hx.cell bg
  clear hx hxg bg
  go_wp2_with fail
  refine (permutationRows_any t _ _ (hv.ext hX)).mono ?_
  rintro e w3 ⟨rfl, hx⟩
  rw [hp]
  replace hX := hX.trans hx
  have b3 := hx.cell b2
  clear hx b2
  go_wp2_with fail
  refine (rackFault_ok t _ _ (hv.ext hX) hR).mono ?_
  rintro e w4 ⟨rfl, hx⟩
  replace hX := hX.trans hx
  have he : ∀ w : World, (binOp .eql 53 (.slice none 0 0) (.slice none 0 0)).run Tryz.prog w = .ok (.bool true) w := fun _ => rfl
  go_wp2
  go_ret
  exact ⟨rfl, hX⟩

end Go.Proofs.YtjbloenjphpngaaGreat

/-
  Contracts of IsTwoSidedBrace.
-/
namespace Go.Proofs.YtjbloenjphpngaaGreat
set_option linter.unusedVariables false
set_option linter.unusedSimpArgs false
open Go.RowKit

/-- (x + y) o z -/
@[irreducible] def leftS (t u : List (List Int)) (x y z : Nat) : Int := ent u (ent t x y).toNat z
/-- ((x o z) - z) + (y o z) -/
@[irreducible] def rightS (t u : List (List Int)) (x y z : Nat) : Int := ent t (ent t (ent u x z).toNat (backF t z).toNat).toNat (ent u y z).toNat
def TsZ (t u : List (List Int)) (x y k : Nat) : Prop := ∀ z, z < k → leftS t u x y z = rightS t u x y z
def TsY (t u : List (List Int)) (x k : Nat) : Prop := ∀ y, y < k → TsZ t u x y t.length
def TsX (t u : List (List Int)) (k : Nat) : Prop := ∀ x, x < k → TsY t u x t.length
instance (t u x y k) : Decidable (TsZ t u x y k) := by unfold TsZ; infer_instance
instance (t u x k) : Decidable (TsY t u x k) := by unfold TsY; infer_instance
instance (t u k) : Decidable (TsX t u k) := by unfold TsX; infer_instance
end Go.Proofs.YtjbloenjphpngaaGreat

/-
  Contracts: racks by a function; the core quandle.
-/
namespace Go.Proofs.YtjbloenjphpngaaGreat
set_option linter.unusedVariables false
set_option linter.unusedSimpArgs false
open Go.RowKit

theorem callRackBy1 (args : Array Value) (w : World) : (callFunc 59 args).run Tryz.prog w = .ok (.enter 59 args) w :=
  callFunc_enter Tryz.func59 (by kernel_rfl) rfl args w

theorem rackBy1_any (F : Nat) (cap : Array Value) (f : Int) (x y B : Nat) (w : World) (hB : w.cell? ⟨B, 0, none⟩ = some (.func (.func F) #[] cap))
    (hcall : ∀ (args : Array Value) (w : World), (callFunc F args).run Tryz.prog w = .ok (.enter F args) w)
    (hf : Calls Tryz.prog F (#[.int .i64 (x : Nat), .int .i64 (y : Nat)] ++ cap) w fun e w' => e = .returned (.int .i64 f) ∧ Ext w w') :
    Calls Tryz.prog 59 #[.int .i64 x, .int .i64 y, .pointer (some ⟨B, 0, none⟩)] w fun e w' => e = .returned (.int .i64 f) ∧ Ext w w' := by
  go_enter Tryz.func59, Tryz.ntmps59
  go_wp2_with fail
  refine hf.mono ?_
  rintro e w1 ⟨rfl, hx1⟩
  go_wp2
  go_ret
  exact ⟨rfl, hx1⟩

theorem rackBy_any (n : Nat) (f : Nat → Nat → Int) (F : Nat) (cap : Array Value) (w : World) (hn : n ≤ 1048576)
    (hcall : ∀ (args : Array Value) (w : World), (callFunc F args).run Tryz.prog w = .ok (.enter F args) w)
    (hf : ∀ w1 x y, Ext w w1 → x < n → y < n → Calls Tryz.prog F (#[.int .i64 (x : Nat), .int .i64 (y : Nat)] ++ cap) w1 fun e w' => e = .returned (.int .i64 (f x y)) ∧ Ext w1 w') :
    Calls Tryz.prog 32 #[.int .i64 n, .func (.func F) #[] cap] w (NewG (mkT n f) w) := by
  have hx0 : Ext w ((w.alloc (.cells #[.func (.func F) #[] cap] 56)).alloc (.cells #[.slice none 0 0] 37)) := ((Ext.refl _).alloc _).alloc _
  have b0 : ((w.alloc (.cells #[.func (.func F) #[] cap] 56)).alloc (.cells #[.slice none 0 0] 37)).cell? ⟨w.heap.size, 0, none⟩ = some (.func (.func F) #[] cap) := by simp [go_sem]
  have r0 : ((w.alloc (.cells #[.func (.func F) #[] cap] 56)).alloc (.cells #[.slice none 0 0] 37)).cell? ⟨w.heap.size + 1, 0, none⟩ = some (.slice none 0 0) := by simp [go_sem]
  have q0 : ((w.alloc (.cells #[.func (.func F) #[] cap] 56)).alloc (.cells #[.slice none 0 0] 37)).frozen? ⟨w.heap.size + 1, 0, none⟩ = false := by simp [go_sem]
  have z0 : w.heap.size + 2 = ((w.alloc (.cells #[.func (.func F) #[] cap] 56)).alloc (.cells #[.slice none 0 0] 37)).heap.size := by simp
  have HF := Lib.hid hf
  have HC := Lib.hid hcall
  clear hf hcall
  go_enter Tryz.func32, Tryz.ntmps32
  go_wp2_with fail
  generalize (w.alloc (.cells #[.func (.func F) #[] cap] 56)).alloc (.cells #[.slice none 0 0] 37) = A at *
  refine (tableBy_any n f 59 #[.pointer (some ⟨w.heap.size, 0, none⟩)] _ hn callRackBy1 (fun w1 x y h1 hx hy => by
    rw [app21]
    exact rackBy1_any F cap (f x y) x y w.heap.size w1 (h1.cell b0) HC.out (HF.out w1 x y (hx0.trans h1) hx hy))).mono ?_
  rintro e w1 ⟨b1, c1, rfl, ho, hx1⟩
  have f1 := hx1.cell r0
  have f2 := hx1.free q0 (by simp only []; omega)
  have zz := hx1.size
  go_wp2
  refine bodyPost_ret (v := .agg #[.slice (some ⟨b1, 0, none⟩) (mkT n f).length c1]) (by simp [results, Tryz.results32, go_sem, f1]) rfl ⟨b1, c1, rfl, ?_, (hx0.trans hx1).setNew (by simp only []; omega) _⟩
  have := (ho.setOther (a := ⟨w.heap.size + 1, 0, none⟩) (.inl (by simp only []; omega)) (.slice (some ⟨b1, 0, none⟩) (mkT n f).length c1)).mono (lo' := w.heap.size) (hi' := w1.heap.size) (by omega) (Nat.le_refl _)
  simpa using this
end Go.Proofs.YtjbloenjphpngaaGreat
