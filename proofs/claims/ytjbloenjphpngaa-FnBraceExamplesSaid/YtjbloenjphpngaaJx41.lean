/-
  A permutation is drawn: l03DrawPerm.
-/
import Derived.Test.YtjbloenjphpngaaProg
import Derived.Deep.DeepCutAuto
import Derived.Deep.RegionWith
import Derived.BigQuiet
import Derived.Test.YtjbloenjphpngaaJx0
import Derived.Test.YtjbloenjphpngaaJx1
import Derived.Test.YtjbloenjphpngaaJx5
import Derived.Test.YtjbloenjphpngaaJx14
import Derived.Test.YtjbloenjphpngaaJx8
import Derived.Test.YtjbloenjphpngaaJx9
import Derived.Test.YtjbloenjphpngaaJx2
import Derived.Test.YtjbloenjphpngaaJx7
import Derived.Test.YtjbloenjphpngaaJx3
import Derived.Test.YtjbloenjphpngaaJx20
import Derived.Test.YtjbloenjphpngaaJx16
import Derived.Test.YtjbloenjphpngaaJx24
import Derived.Test.YtjbloenjphpngaaJx33
import Derived.Test.YtjbloenjphpngaaJx34
import Derived.Test.YtjbloenjphpngaaJx40
namespace Go.Proofs.Ytjbloenjphpngaa
set_option linter.unusedVariables false
set_option linter.unusedSimpArgs false
open Go.RowKit
attribute [local go_sem ↓] Go.wp_at_zero Go.wp_at_succ
open Go.Deep

/-- the numbers below n, in some order -/
def RangeP (n : Nat) (l : List Int) : Prop := l.length = n ∧ ∀ z : Int, z ∈ l ↔ 0 ≤ z ∧ z < n
theorem RangeP.zero : RangeP 0 [] := ⟨rfl, fun z => by simp⟩
theorem RangeP.insert {n k : Nat} {l : List Int} (h : RangeP n l) : RangeP (n + 1) (l.take k ++ ((n : Int) :: l.drop k)) := by
  have hl := h.1
  refine ⟨?_, fun z => ?_⟩
  · rw [List.length_append, List.length_cons, List.length_take, List.length_drop]; omega
  · rw [List.mem_append, List.mem_cons]
    have := h.2 z
    rw [← List.take_append_drop k l, List.mem_append] at this
    constructor
    · rintro (e | e | e)
      · have := this.1 (.inl e); omega
      · omega
      · have := this.1 (.inr e); omega
    · intro hz
      by_cases e : z = (n : Int)
      · exact .inr (.inl e)
      · rcases this.2 ⟨hz.1, by omega⟩ with g | g
        · exact .inl g
        · exact .inr (.inr g)
theorem RangeP.perm {n : Nat} {l : List Int} (h : RangeP n l) : IsoOk n [] [] l := by
  refine isoOk_plain.2 ⟨h.1, (permOk_iff_has l).2 fun y hy => ?_⟩
  have : (y : Int) ∈ l := (h.2 y).2 ⟨by omega, by have := h.1; omega⟩
  rcases indexOf_spec l y with ⟨e, hn⟩ | ⟨i, hi, e, _⟩
  · obtain ⟨i, hi, e2⟩ := mem_ix this
    exact absurd e2 (hn i hi)
  · omega

theorem IntsAt.drop {w : World} {b : Nat} {l : List Int} (h : IntsAt w b 0 l) (m : Nat) : IntsAt w b m (l.drop m) := fun i hi => by
  rw [List.length_drop] at hi
  have := h (m + i) (by omega)
  rw [Nat.zero_add] at this
  rw [this, ix_eq, ix_eq]
  simp [List.getD, List.getElem?_drop]
theorem IntsAt.take {w : World} {b : Nat} {l : List Int} (h : IntsAt w b 0 l) (m : Nat) : IntsAt w b 0 (l.take m) := fun i hi => by
  rw [List.length_take] at hi
  have := h i (by omega)
  rw [this, ix_eq, ix_eq]
  simp [List.getD, List.getElem?_take, show i < m by omega]
theorem GrowI.litN {e : TypeId} {base n : Nat} {w : World} (hn : w.heap.size = n) (hb : base ≤ n) : GrowI e base (w.alloc (.cells #[] e)) (.slice (some ⟨n, 0, none⟩) 0 0) [] := by
  subst hn
  exact GrowI.lit hb
theorem GrowI.base {e : TypeId} {base b2 : Nat} {w : World} {v : Value} {l : List Int} (h : GrowI e base w v l) (hb : b2 ≤ base) : GrowI e b2 w v l := ownsRow_base h hb
/-- a permutation of n elements is drawn, in new memory -/
def PermPost (S n : Nat) (w : World) (e : Ending) (w' : World) : Prop :=
  ∃ p b c, e = .returned (.slice (some ⟨b, 0, none⟩) n c) ∧ RangeP n p ∧ OwnI w.heap.size w'.heap.size w' b 0 p ∧ Src S w' ∧ Touch S (S + 1) w w'

theorem GrowI.touch {e : TypeId} {base lo hi : Nat} {w w' : World} {v : Value} {l : List Int} (h : GrowI e base w v l) (m : Touch lo hi w w') (hb : hi ≤ base) : GrowI e base w' v l :=
  ownsRow_block h (fun g hg => by have := h.lt hg; exact m.block g this.2 (by omega))

set_option maxRecDepth 100000 in
set_option maxHeartbeats 1000000 in
theorem l03DrawPerm_any (S n : Nat) (w : World) (hs : Src S w) (h12 : n ≤ 12) :
    Calls Try.prog 78 #[.pointer (some ⟨S, 0, none⟩), .int .i64 n] w (PermPost S n w) := by
  have hlt := hs.lt
  have HS := Lib.hid hs
  clear hs
  go_enter Try.func78, Try.ntmps78
  go_wp2_with fail
  have hx0 : Ext w (w.alloc (.cells #[] 2)) := (Ext.refl _).alloc _
  have hg0 := GrowI.lit (e := 2) (base := w.heap.size) (w := w) (Nat.le_refl _)
  go_loopw [5, 6] (fun v x wr => ∃ (k : Nat) (l : List Int), k ≤ n ∧ x = .int .i64 k ∧ RangeP k l ∧ GrowI 2 w.heap.size wr v l ∧ v ≠ .slice none 0 0 ∧ Src S wr ∧ Touch S (S + 1) w wr) (fun _ x _ => n - (intOf x).toNat)
  case atStart => exact ⟨0, [], Nat.zero_le _, rfl, RangeP.zero, hg0, by simp, HS.out.ext hx0, Touch.of_ext hx0⟩
  case round =>
    clear hx0 hg0
    obtain ⟨k, l, hk, rfl, hr, hg, hv, hs, hT⟩ := hrel
    have HR := Lib.hid hr
    have HG := Lib.hid hg
    have HV := Lib.hid hv
    have HS := Lib.hid hs
    have HT := Lib.hid hT
    clear hr hg hv hs hT
    by_cases hkl : k < n
    case neg =>
      have hkn : k = n := by omega
      subst hkn
      obtain ⟨bq, cq, rfl, hoq⟩ := HG.out.own HV.out
      have HLL := Lib.hid HR.out.1
      rw [HLL.out]
      go_wp2_with fail
      go_ret
      exact ⟨l, bq, cq, rfl, HR.out, hoq, HS.out, HT.out⟩
    case pos =>
      go_wp2_with fail
      refine (l01Next_any S _ _ HS.out).mono ?_
      rintro e w1 ⟨r, rfl, r1, r2, -, hs1, hT1⟩
      obtain ⟨m, rfl⟩ := Int.eq_ofNat_of_zero_le r1
      have hmk : m ≤ k := by have := r2 (by omega); omega
      clear r1 r2
      have z1 := HT.out.size
      have z2 := hT1.size
      have HG1 := Lib.hid (HG.out.touch hT1 (by omega))
      have HS1 := Lib.hid hs1
      have HT1 := Lib.hid (HT.out.trans hT1)
      clear hs1 hT1
      obtain ⟨g, cap, rfl, hoo⟩ := HG1.out.own HV.out
      have hll := HR.out.1
      have HLL := Lib.hid hll
      have hcap : l.length ≤ cap := by have := HG1.out; exact GrowI.room this
      have HI := Lib.hid hoo.2.2.1
      have hgl := hoo.1
      have hgh := hoo.2.1
      clear hoo
      rw [hll] at hcap ⊢
      clear hll
      -- the ways
      have HRR := HR.out.insert (k := m)
      have HRR := Lib.hid HRR
      by_cases hk0 : k = 0
      case pos =>
        subst hk0
        have hm0 : m = 0 := by omega
        subst hm0
        obtain rfl : l = [] := List.eq_nil_of_length_eq_zero HLL.out
        have HIN := Lib.hid (show RangeP (0 + 1) ([(0 : Int)]) from HRR.out)
        have HX0 := Lib.hid (show Ext w1 ((w1.alloc (.cells #[.int .i64 0] 2)).alloc (.cells #[] 2)) from ((Ext.refl w1).alloc _).alloc _)
        have HG0 := Lib.hid (GrowI.litN (e := 2) (base := w1.heap.size) (w := w1.alloc (.cells #[.int .i64 0] 2)) (n := w1.heap.size + 1) (by simp) (by omega))
        have HI0 := Lib.hid (show IntsAt ((w1.alloc (.cells #[.int .i64 0] 2)).alloc (.cells #[] 2)) w1.heap.size 0 [(0 : Int)] from fun j hj => by (have : j = 0 := by simpa using hj); subst this; simp [go_sem, ix_eq])
        go_wp2_with ((at_builtin; (refine wpList_append_ints rfl _ _ 28 2 rfl Try.underlying28 infoInt w1.heap.size (.slice (some ⟨w1.heap.size + 1, 0, none⟩) 0 0) [] rfl HG0.out w1.heap.size 0 1 [(0 : Int)] rfl HI0.out (by simp) (by simp) (by first | omega | (simp; done) | (simp; omega)) ?_)))
        intro v4 w4 hg4 hgr4 hn4
        have HVF := Lib.hid (show v4 ≠ .slice none 0 0 from by first | exact fun e => hn4 e | exact fun e => by have := (hn4.1 e).1; simp at this)
        have HGF := Lib.hid (GrowI.base hg4 (b2 := w.heap.size) (by omega))
        have HXF := Lib.hid (Ext.grown HX0.out hgr4 HG0.out (Nat.le_refl _))
        clear hg4 hgr4 hn4
        go_wp2_with fail
        go_roundw
        case rel => exact ⟨_, _, by omega, by go_num, HIN.out, HGF.out, HVF.out, HS1.out.ext HXF.out, HT1.out.trans (Touch.of_ext HXF.out)⟩
        case measure => simp [intOf]; omega
      case neg =>
        by_cases hm0 : m = 0
        case pos =>
          subst hm0
          have HIN := Lib.hid (show RangeP (k + 1) ((k : Int) :: l) from HRR.out)
          have HG1 := Lib.hid (show GrowI 2 w1.heap.size (w1.alloc (.cells #[.int .i64 (k : Int)] 2)) (.slice (some ⟨w1.heap.size, 0, none⟩) 1 1) [(k : Int)] from GrowI.one (Nat.le_refl _))
          have HX1 := Lib.hid (show Ext w1 (w1.alloc (.cells #[.int .i64 (k : Int)] 2)) from (Ext.refl w1).alloc _)
          go_wp2_with ((at_builtin; (refine wpList_append_ints rfl _ _ 28 2 rfl Try.underlying28 infoInt w1.heap.size (.slice (some ⟨w1.heap.size, 0, none⟩) 1 1) [(k : Int)] rfl HG1.out g 0 cap l (by rw [HLL.out] <;> rfl) (HI.out.ext HX1.out) (by have := HLL.out; first | omega | (simp; done) | (simp; omega)) (by have := HLL.out; first | omega | (simp; done) | (simp; omega)) (by first | omega | (simp; done) | (simp; omega)) ?_)))
          intro v2 w2 hg2 hgr2 hn2
          have hv2 := (show v2 ≠ .slice none 0 0 from by first | exact fun e => hn2 e | exact fun e => by have := (hn2.1 e).1; simp at this)
          have HX2 := Lib.hid (Ext.grown HX1.out hgr2 (GrowI.one (Nat.le_refl _)) (Nat.le_refl _))
          obtain ⟨g2, c2, rfl, ho2⟩ := hg2.own hv2
          have HI2 := Lib.hid ho2.2.2.1
          have z3 := HX2.out.size
          clear hg2 hgr2 hn2 hv2 ho2
          have HG2 := Lib.hid (show GrowI 2 w2.heap.size (w2.alloc (.cells #[] 2)) (.slice (some ⟨w2.heap.size, 0, none⟩) 0 0) [] from GrowI.lit (Nat.le_refl _))
          have HXL := Lib.hid (show Ext w2 (w2.alloc (.cells #[] 2)) from (Ext.refl w2).alloc _)
          go_wp2_with ((at_builtin; (refine wpList_append_ints rfl _ _ 28 2 rfl Try.underlying28 infoInt w2.heap.size (.slice (some ⟨w2.heap.size, 0, none⟩) 0 0) [] rfl HG2.out g2 0 c2 ([(k : Int)] ++ l) rfl (HI2.out.ext HXL.out) (by have := HLL.out; first | omega | (simp; done) | (simp; omega)) (by have := HLL.out; first | omega | (simp; done) | (simp; omega)) (by first | omega | (simp; done) | (simp; omega)) ?_)))
          intro v4 w4 hg4 hgr4 hn4
          have HVF := Lib.hid (show v4 ≠ .slice none 0 0 from by first | exact fun e => hn4 e | exact fun e => by have := (hn4.1 e).1; simp at this)
          have HGF := Lib.hid (GrowI.base hg4 (b2 := w.heap.size) (by omega))
          have HXF := Lib.hid (HX2.out.trans (Ext.grown HXL.out hgr4 (GrowI.lit (e := 2) (Nat.le_refl _)) (Nat.le_refl _)))
          clear hg4 hgr4 hn4
          go_wp2_with fail
          go_roundw
          case rel => exact ⟨_, _, by omega, by go_num, HIN.out, HGF.out, HVF.out, HS1.out.ext HXF.out, HT1.out.trans (Touch.of_ext HXF.out)⟩
          case measure => simp [intOf]; omega
        case neg =>
          by_cases hmk : m = k
          case pos =>
            subst hmk
            have hdr : l.drop m = [] := List.drop_of_length_le (by rw [HLL.out]; exact Nat.le_refl _)
            have hta : l.take m = l := List.take_of_length_le (by rw [HLL.out]; exact Nat.le_refl _)
            have HIN := Lib.hid (by have := HRR.out; rwa [hdr, hta] at this : RangeP (m + 1) (l ++ [(m : Int)]))
            clear hdr hta
            have HX0 := Lib.hid (show Ext w1 ((w1.alloc (.cells #[.int .i64 m] 2)).alloc (.cells #[] 2)) from ((Ext.refl w1).alloc _).alloc _)
            have HG0 := Lib.hid (GrowI.litN (e := 2) (base := w1.heap.size) (w := w1.alloc (.cells #[.int .i64 m] 2)) (n := w1.heap.size + 1) (by simp) (by omega))
            have HI0 := Lib.hid (show IntsAt ((w1.alloc (.cells #[.int .i64 m] 2)).alloc (.cells #[] 2)) w1.heap.size 0 [(m : Int)] from fun j hj => by (have : j = 0 := by simpa using hj); subst this; simp [go_sem, ix_eq])
            have HG1' := Lib.hid (GrowI.litN (e := 2) (base := w1.heap.size + 1) (w := w1.alloc (.cells #[.int .i64 m] 2)) (n := w1.heap.size + 1) (by simp) (by omega))
            by_cases hmc : m = cap
            case pos =>
              subst hmc
              go_wp2_with ((at_builtin; (refine wpList_append_ints rfl _ _ 28 2 rfl Try.underlying28 infoInt (w1.heap.size + 1) (.slice (some ⟨w1.heap.size + 1, 0, none⟩) 0 0) [] rfl HG1'.out g 0 m l (by rw [HLL.out] <;> rfl) (HI.out.ext HX0.out) (by have := HLL.out; first | omega | (simp; done) | (simp; omega)) (by have := HLL.out; first | omega | (simp; done) | (simp; omega)) (by first | omega | (simp; done) | (simp; omega)) ?_)))
              intro v3 w3 hg3 hgr3 hn3
              have hv3 := (show v3 ≠ .slice none 0 0 from by first | exact fun e => hn3 e | exact fun e => by have := (hn3.1 e).1; simp at this)
              have HX3 := Lib.hid (Ext.grown HX0.out hgr3 HG1'.out (by omega))
              have HI3 := Lib.hid (show IntsAt w3 w1.heap.size 0 [(m : Int)] from intsAt_grown HI0.out hgr3 (fun _ e => by have e : w1.heap.size = w1.heap.size + 1 := Option.some.inj e; omega))
              have HGR3 := Lib.hid hg3
              have z3 := HX3.out.size
              have z4 : w1.heap.size + 1 < w3.heap.size := by have := hgr3.size; simp at this; omega
              clear hg3 hgr3 hn3
              go_wp2_with ((at_builtin; (refine wpList_append_ints rfl _ _ 28 2 rfl Try.underlying28 infoInt (w1.heap.size + 1) v3 ([] ++ l) rfl HGR3.out w1.heap.size 0 1 [(m : Int)] rfl HI3.out (by have := HLL.out; first | omega | (simp; done) | (simp; omega)) (by have := HLL.out; first | omega | (simp; done) | (simp; omega)) (by first | omega | (simp; done) | (simp; omega)) ?_)))
              intro v4 w4 hg4 hgr4 hn4
              have HVF := Lib.hid (show v4 ≠ .slice none 0 0 from by first | exact fun e => hv3 (hn4.1 e).1 | exact fun e => hn4 e)
              have HGF := Lib.hid (GrowI.base hg4 (b2 := w.heap.size) (by omega))
              have HXF := Lib.hid (Ext.grown HX3.out hgr4 HGR3.out (by omega))
              clear hg4 hgr4 hn4
              go_wp2_with fail
              go_roundw
              case rel => exact ⟨_, _, by omega, by go_num, HIN.out, HGF.out, HVF.out, HS1.out.ext HXF.out, HT1.out.trans (Touch.of_ext HXF.out)⟩
              case measure => simp [intOf]; omega
            case neg =>
              go_wp2_with ((at_builtin; (refine wpList_append_ints rfl _ _ 28 2 rfl Try.underlying28 infoInt (w1.heap.size + 1) (.slice (some ⟨w1.heap.size + 1, 0, none⟩) 0 0) [] rfl HG1'.out g 0 cap l (by rw [HLL.out] <;> rfl) (HI.out.ext HX0.out) (by have := HLL.out; first | omega | (simp; done) | (simp; omega)) (by have := HLL.out; first | omega | (simp; done) | (simp; omega)) (by first | omega | (simp; done) | (simp; omega)) ?_)))
              intro v3 w3 hg3 hgr3 hn3
              have hv3 := (show v3 ≠ .slice none 0 0 from by first | exact fun e => hn3 e | exact fun e => by have := (hn3.1 e).1; simp at this)
              have HX3 := Lib.hid (Ext.grown HX0.out hgr3 HG1'.out (by omega))
              have HI3 := Lib.hid (show IntsAt w3 w1.heap.size 0 [(m : Int)] from intsAt_grown HI0.out hgr3 (fun _ e => by have e : w1.heap.size = w1.heap.size + 1 := Option.some.inj e; omega))
              have HGR3 := Lib.hid hg3
              have z3 := HX3.out.size
              have z4 : w1.heap.size + 1 < w3.heap.size := by have := hgr3.size; simp at this; omega
              clear hg3 hgr3 hn3
              go_wp2_with ((at_builtin; (refine wpList_append_ints rfl _ _ 28 2 rfl Try.underlying28 infoInt (w1.heap.size + 1) v3 ([] ++ l) rfl HGR3.out w1.heap.size 0 1 [(m : Int)] rfl HI3.out (by have := HLL.out; first | omega | (simp; done) | (simp; omega)) (by have := HLL.out; first | omega | (simp; done) | (simp; omega)) (by first | omega | (simp; done) | (simp; omega)) ?_)))
              intro v4 w4 hg4 hgr4 hn4
              have HVF := Lib.hid (show v4 ≠ .slice none 0 0 from by first | exact fun e => hv3 (hn4.1 e).1 | exact fun e => hn4 e)
              have HGF := Lib.hid (GrowI.base hg4 (b2 := w.heap.size) (by omega))
              have HXF := Lib.hid (Ext.grown HX3.out hgr4 HGR3.out (by omega))
              clear hg4 hgr4 hn4
              go_wp2_with fail
              go_roundw
              case rel => exact ⟨_, _, by omega, by go_num, HIN.out, HGF.out, HVF.out, HS1.out.ext HXF.out, HT1.out.trans (Touch.of_ext HXF.out)⟩
              case measure => simp [intOf]; omega
          case neg =>
            have hmk2 : m < k := by omega
            have hmcap : ¬ m = cap := by omega
            have HG1 := Lib.hid (show GrowI 2 w1.heap.size (w1.alloc (.cells #[.int .i64 (k : Int)] 2)) (.slice (some ⟨w1.heap.size, 0, none⟩) 1 1) [(k : Int)] from GrowI.one (Nat.le_refl _))
            have HX1 := Lib.hid (show Ext w1 (w1.alloc (.cells #[.int .i64 (k : Int)] 2)) from (Ext.refl w1).alloc _)
            go_wp2_with ((at_builtin; (refine wpList_append_ints rfl _ _ 28 2 rfl Try.underlying28 infoInt w1.heap.size (.slice (some ⟨w1.heap.size, 0, none⟩) 1 1) [(k : Int)] rfl HG1.out g m (cap - m) (l.drop m) (by rw [List.length_drop, HLL.out] <;> rfl) ((HI.out.drop m).ext HX1.out) (by have := HLL.out; first | omega | (simp; done) | (simp; omega)) (by have := HLL.out; first | omega | (simp; done) | (simp; omega)) (by first | omega | (simp; done) | (simp; omega)) ?_)))
            intro v2 w2 hg2 hgr2 hn2
            have hv2 := (show v2 ≠ .slice none 0 0 from by first | exact fun e => hn2 e | exact fun e => by have := (hn2.1 e).1; simp at this)
            have HX2 := Lib.hid (Ext.grown HX1.out hgr2 (GrowI.one (Nat.le_refl _)) (Nat.le_refl _))
            have HL2 := Lib.hid (show ((k : Int) :: l.drop m).length = k - m + 1 by simp [HLL.out] <;> omega)
            obtain ⟨g2, c2, hv2e, ho2⟩ := hg2.own hv2
            rw [HL2.out] at hv2e
            subst hv2e
            have HI2 := Lib.hid ho2.2.2.1
            have hg2l := ho2.2.1
            have z3 := HX2.out.size
            have HLT := Lib.hid (show (l.take m).length = m by rw [List.length_take, HLL.out]; omega)
            clear hg2 hgr2 hn2 hv2 ho2
            have HG2 := Lib.hid (show GrowI 2 w2.heap.size (w2.alloc (.cells #[] 2)) (.slice (some ⟨w2.heap.size, 0, none⟩) 0 0) [] from GrowI.lit (Nat.le_refl _))
            have HXL := Lib.hid (show Ext w2 (w2.alloc (.cells #[] 2)) from (Ext.refl w2).alloc _)
            go_wp2_with ((at_builtin; (refine wpList_append_ints rfl _ _ 28 2 rfl Try.underlying28 infoInt w2.heap.size (.slice (some ⟨w2.heap.size, 0, none⟩) 0 0) [] rfl HG2.out g 0 cap (l.take m) (by rw [HLT.out] <;> rfl) ((HI.out.take m).ext (HX2.out.trans HXL.out)) (by have := HLL.out; have := HLT.out; first | omega | (simp; done) | (simp; omega)) (by have := HLL.out; have := HLT.out; first | omega | (simp; done) | (simp; omega)) (by first | omega | (simp; done) | (simp; omega)) ?_)))
            intro v3 w3 hg3 hgr3 hn3
            have hv3 := (show v3 ≠ .slice none 0 0 from by first | exact fun e => hn3 e | exact fun e => by have := (hn3.1 e).1; simp at this)
            have HX3 := Lib.hid (Ext.grown HXL.out hgr3 (GrowI.lit (e := 2) (Nat.le_refl _)) (Nat.le_refl _))
            have HGR3 := Lib.hid hg3
            have z4 := HX3.out.size
            clear hg3 hgr3 hn3
            go_wp2_with ((at_builtin; (refine wpList_append_ints rfl _ _ 28 2 rfl Try.underlying28 infoInt w2.heap.size v3 ([] ++ l.take m) rfl HGR3.out g2 0 c2 ((k : Int) :: l.drop m) (by rw [HL2.out] <;> rfl) (HI2.out.ext HX3.out) (by have := HLL.out; first | omega | (simp; done) | (simp; omega)) (by have := HLL.out; first | omega | (simp; done) | (simp; omega)) (by first | omega | (simp; done) | (simp; omega)) ?_)))
            intro v4 w4 hg4 hgr4 hn4
            have HVF := Lib.hid (show v4 ≠ .slice none 0 0 from by first | exact fun e => hv3 (hn4.1 e).1 | exact fun e => hn4 e)
            have HGF := Lib.hid (GrowI.base hg4 (b2 := w.heap.size) (by omega))
            have HXF := Lib.hid (HX2.out.trans (Ext.grown HX3.out hgr4 HGR3.out (by omega)))
            have HIN := HRR
            clear hg4 hgr4 hn4
            go_wp2_with fail
            go_roundw
            case rel => exact ⟨_, _, by omega, by go_num, HIN.out, HGF.out, HVF.out, HS1.out.ext HXF.out, HT1.out.trans (Touch.of_ext HXF.out)⟩
            case measure => simp [intOf]; omega
end Go.Proofs.Ytjbloenjphpngaa
