/-
  Draws of the reference: l01Tables.
-/
import Derived.Test.YtjfjpngajboidaaGreatKx23
namespace Go.Proofs.YtjfjpngajboidaaGreat
set_option linter.unusedVariables false
set_option linter.unusedSimpArgs false
open Go.RowKit
attribute [local go_sem ↓] Go.wp_at_zero Go.wp_at_succ
open Go.Deep

structure TabD (tS tI S lo n k : Nat) (w0 w : World) (a1 c1 f cf : Nat) (B : Nat → Nat) (xs : List Value) (t : List (List Int)) (p : List Int) : Prop where
  gt : GT tS tI lo n k w (.slice (some ⟨a1, 0, none⟩) k c1) B xs t
  fi : GrowI tI lo w (.slice (some ⟨f, 0, none⟩) n cf) p
  ne : a1 ≠ f
  src : Src S w
  tc : Touch S (S + 1) w0 w
theorem TabD.next {tS tI S lo n k : Nat} {w0 w w' : World} {a1 c1 f cf : Nat} {B : Nat → Nat} {xs : List Value} {t : List (List Int)} {p : List Int} (h : TabD tS tI S lo n k w0 w a1 c1 f cf B xs t p) (hs : Src S w') (hT : Touch S (S + 1) w w') (hS : S < lo) : TabD tS tI S lo n k w0 w' a1 c1 f cf B xs t p :=
  ⟨h.gt.touch hT hS, h.fi.touchS hT (fun e => by have := (h.fi.lt e).1; omega), h.ne, hs, h.tc.trans hT⟩
theorem TabD.put {tS tI S lo n k : Nat} {w0 w : World} {a1 c1 f cf : Nat} {B : Nat → Nat} {xs : List Value} {t : List (List Int)} {p : List Int} (h : TabD tS tI S lo n k w0 w a1 c1 f cf B xs t p) {g j : Nat} (hg : w0.heap.size ≤ g) (hS : S < w0.heap.size) (h1 : a1 ≠ g) (h2 : f ≠ g) (h3 : ∀ i, i < k → B i ≠ g) (x : Int) : TabD tS tI S lo n k w0 (w.setCell ⟨g, j, none⟩ (.int .i64 x)) a1 c1 f cf B xs t p := by
  have hgb : w.grownBy (w.setCell ⟨g, j, none⟩ (.int .i64 x)) (some g) := ⟨rfl, rfl, rfl, by simp, fun k hk hne => Below.heap_setCell _ _ _ _ (fun e => hne (by rw [e]))⟩
  exact ⟨h.gt.other hgb (fun e => h1 (Option.some.inj e)) h3, h.fi.kept hgb (fun e => h2 (Option.some.inj e)), h.ne, src_setCell h.src (p := ⟨g, j, none⟩) (by simp only []; omega) _, touch_setIn h.tc (p := ⟨g, j, none⟩) hg _⟩
def RetGT (S n : Nat) (w : World) (e : Ending) (w' : World) : Prop := ∃ g c B xs t, e = .returned (.slice (some ⟨g, 0, none⟩) n c) ∧ GT 27 2 w.heap.size n n w' (.slice (some ⟨g, 0, none⟩) n c) B xs t ∧ Src S w' ∧ Touch S (S + 1) w w'

set_option maxRecDepth 100000 in
set_option maxHeartbeats 4000000 in
theorem l01Tables_any (S n : Nat) (w : World) (hs : Src S w) (h1 : 1 ≤ n) (h13 : n ≤ 13) :
    Calls Tryz.prog 102 #[.pointer (some ⟨S, 0, none⟩), .int .i64 n] w (RetGT S n w) := by
  have hlt := hs.lt
  have hx0 : Ext w (w.alloc (.cells #[] 27)) := (Ext.refl _).alloc _
  have HG0 := Lib.hid (GT.nil 27 2 w.heap.size n w (Nat.le_refl _))
  have HS0 := Lib.hid (hs.ext hx0)
  have HT0 := Lib.hid (Touch.of_ext (lo := S) (hi := S + 1) hx0)
  have hz0 : (w.alloc (.cells #[] 27)).heap.size = w.heap.size + 1 := by simp
  clear hs hx0
  go_enter Tryz.func102, Tryz.ntmps102
  go_wp2_with fail
  generalize (w.alloc (.cells #[] 27)) = w0 at *
  refine (l01Next_any S _ _ HS0.out).mono ?_
  rintro e w1 ⟨r, rfl, r1, r2, -, hs1, hT1⟩
  have HG1 := Lib.hid (HG0.out.touch hT1 hlt)
  have HT1 := Lib.hid (HT0.out.trans hT1)
  have hz1 := hT1.size
  have HS1 := Lib.hid hs1
  clear hT1 HT0 HG0 HS0 hs1 r2
  go_wp2_with fail
  refine (l01Draw_any S n _ HS1.out h1 (by omega)).mono ?_
  rintro e w2 ⟨p, f, cf, rfl, hpl, hp, hgf, hs2, hT2⟩
  have hfl := hgf.lt (k := f) rfl
  have HD := Lib.hid (show TabD 27 2 S w.heap.size n 0 w w2 w.heap.size 0 f cf (fun _ => 0) [] [] p from ⟨HG1.out.touch hT2 hlt, ownsRow_base hgf (by omega), by omega, hs2, HT1.out.trans hT2⟩)
  have HPL := Lib.hid hpl
  clear hgf hs2 hT2 HG1 HT1 HS1 hp hfl hpl
  go_wp2_with fail
  go_loopw [5, 8] (fun vt vi wr => ∃ (k a1 c1 : Nat) (B : Nat → Nat) (xs : List Value) (t : List (List Int)), k ≤ n ∧ vi = .int .i64 k ∧ vt = .slice (some ⟨a1, 0, none⟩) k c1 ∧ TabD 27 2 S w.heap.size n k w wr a1 c1 f cf B xs t p) (fun _ vi _ => n - (intOf vi).toNat)
  case atStart => exact ⟨0, _, _, _, _, _, Nat.zero_le _, rfl, rfl, HD.out⟩
  case round =>
    clear HD hz1
    obtain ⟨k, a1, c1, B, xs, t, hk, rfl, rfl, hd⟩ := hrel
    have HD := Lib.hid hd
    clear hd
    by_cases hkn : k < n
    case neg =>
      have hkk : k = n := by omega
      subst hkk
      have hki : ¬ (k : Int) < (k : Int) := by omega
      go_wp2
      go_ret
      exact ⟨a1, c1, B, xs, t, rfl, HD.out.gt, HD.out.src, HD.out.tc⟩
    case pos =>
      have hki : (k : Int) < (n : Int) := by omega
      go_wp2_with fail
      refine (l01Draw_any S n _ HD.out.src h1 (by omega)).mono ?_
      rintro e w3 ⟨q, g, cg, rfl, hql, hq, hg, hs3, hT3⟩
      have hgl := hg.lt (k := g) rfl
      have ha1 := HD.out.gt.own.lt a1 rfl
      have hfl := HD.out.fi.lt (k := f) rfl
      have hag : a1 ≠ g := by omega
      have hfg : f ≠ g := by omega
      have HBG := Lib.hid (show ∀ i, i < k → B i ≠ g from fun i hi => by have := (HD.out.gt.lt hi).2; omega)
      have hwg : w.heap.size ≤ g := by have := HD.out.tc.size; omega
      have HD3 := Lib.hid (HD.out.next hs3 hT3 hlt)
      have HQ3 := Lib.hid (show GrowI 2 w.heap.size w3 (.slice (some ⟨g, 0, none⟩) n cg) q from ownsRow_base hg HD.out.tc.size)
      have HQL := Lib.hid hql
      clear HD hs3 hT3 hg hql hq hgl ha1 hfl
      go_upto_block 2 with fail
      go_cut [] (fun wx => ∃ q, q.length = n ∧ GrowI 2 w.heap.size wx (.slice (some ⟨g, 0, none⟩) n cg) q ∧ TabD 27 2 S w.heap.size n k w wx a1 c1 f cf B xs t p)
      case first =>
        by_cases hr0 : r = 0
        case pos =>
          subst hr0
          go_wp2_with fail
          go_loopw [10] (fun vi wr => ∃ (y : Nat) (q : List Int), y ≤ n ∧ vi = .int .i64 y ∧ q.length = n ∧ GrowI 2 w.heap.size wr (.slice (some ⟨g, 0, none⟩) n cg) q ∧ TabD 27 2 S w.heap.size n k w wr a1 c1 f cf B xs t p) (fun vi _ => n - (intOf vi).toNat)
          case atStart => exact ⟨0, q, Nat.zero_le _, rfl, HQL.out, HQ3.out, HD3.out⟩
          case round =>
            clear HQL HQ3 HD3
            obtain ⟨y, q, hy, rfl, hql, hg, hd⟩ := hrel
            have HQL := Lib.hid hql
            have HQ := Lib.hid hg
            have HD := Lib.hid hd
            clear hql hg hd
            by_cases hyn : y < n
            case neg =>
              have hyi : ¬ (y : Int) < (n : Int) := by omega
              go_wp2
              go_meet
              case rel => exact ⟨q, HQL.out, HQ.out, HD.out⟩
            case pos =>
              have hyi : (y : Int) < (n : Int) := by omega
              go_wp2_with fail
              refine (l01Next_any S _ _ HD.out.src).mono ?_
              rintro e w4 ⟨x, rfl, x1, x2, -, hs4, hT4⟩
              have HD4 := Lib.hid (HD.out.next hs4 hT4 hlt)
              have hq4 := HQ.out.touchS hT4 (fun e => by have := Option.some.inj (show some g = some S from e); omega)
              obtain ⟨b', c', he, ho⟩ := hq4.own (by simp)
              simp only [Value.slice.injEq, Option.some.injEq, Addr.mk.injEq, and_true] at he
              obtain ⟨rfl, -, rfl⟩ := he
              have m1 := ho.2.2.1 y (by rw [HQL.out]; exact hyn)
              have m2 := ho.2.2.2 y (by rw [HQL.out]; exact hyn)
              rw [Nat.zero_add] at m1 m2
              have HQ5 := Lib.hid (hq4.putI (n := n) HQL.out.symm y x)
              have HD5 := Lib.hid (HD4.out.put (g := g) (j := y) hwg hlt hag hfg HBG.out x)
              clear ho hq4 HD4 HQ HD hs4 hT4 x1 x2
              go_wp2
              go_roundw
              case rel => exact ⟨y + 1, q.set y x, by omega, by go_num, by simp [HQL.out], HQ5.out, HD5.out⟩
              case measure => simp [intOf]; omega
        case neg =>
          by_cases hr1 : r = 1
          case pos =>
            subst hr1
            go_wp2_with fail
            go_loopw [11] (fun vi wr => ∃ (y : Nat) (q : List Int), y ≤ n ∧ vi = .int .i64 y ∧ q.length = n ∧ GrowI 2 w.heap.size wr (.slice (some ⟨g, 0, none⟩) n cg) q ∧ TabD 27 2 S w.heap.size n k w wr a1 c1 f cf B xs t p) (fun vi _ => n - (intOf vi).toNat)
            case atStart => exact ⟨0, q, Nat.zero_le _, rfl, HQL.out, HQ3.out, HD3.out⟩
            case round =>
              clear HQL HQ3 HD3
              obtain ⟨y, q, hy, rfl, hql, hg, hd⟩ := hrel
              have HQL := Lib.hid hql
              have HQ := Lib.hid hg
              have HD := Lib.hid hd
              clear hql hg hd
              by_cases hyn : y < n
              case neg =>
                have hyi : ¬ (y : Int) < (n : Int) := by omega
                go_wp2
                go_meet
                case rel => exact ⟨q, HQL.out, HQ.out, HD.out⟩
              case pos =>
                have hyi : (y : Int) < (n : Int) := by omega
                obtain ⟨b', c', he, ho⟩ := HQ.out.own (by simp)
                simp only [Value.slice.injEq, Option.some.injEq, Addr.mk.injEq, and_true] at he
                obtain ⟨rfl, -, rfl⟩ := he
                have m1 := ho.2.2.1 y (by rw [HQL.out]; exact hyn)
                have m2 := ho.2.2.2 y (by rw [HQL.out]; exact hyn)
                rw [Nat.zero_add] at m1 m2
                obtain ⟨z, hz⟩ : ∃ z : Nat, z = (k + y) % n := ⟨_, rfl⟩
                have hzn : z < n := by rw [hz]; exact Nat.mod_lt _ (by omega)
                have hzi1 : ((k : Int) + (y : Int)).tmod (n : Int) = (z : Int) := by rw [Int.tmod_eq_emod_of_nonneg (by omega), hz]; push_cast; rfl
                have hzi2 : ((k : Int) + (y : Int)) % (n : Int) = (z : Int) := by rw [hz]; push_cast; rfl
                have hn0 : (n : Int) ≠ 0 := by omega
                have hwz : IntKind.i64.wrap (z : Int) = (z : Int) := IntWalk.i64_in _ (by omega)
                have hwk : IntKind.i64.wrap ((k : Int) + (y : Int)) = (k : Int) + (y : Int) := IntWalk.i64_in _ (by omega)
                obtain ⟨b', c', he, hf⟩ := HD.out.fi.own (by simp)
                simp only [Value.slice.injEq, Option.some.injEq, Addr.mk.injEq, and_true] at he
                obtain ⟨rfl, -, rfl⟩ := he
                have m3 := hf.2.2.1 z (by rw [HPL.out]; exact hzn)
                rw [Nat.zero_add] at m3
                obtain ⟨x, hx⟩ : ∃ x, x = ix p z := ⟨_, rfl⟩
                rw [← hx] at m3
                have HQ5 := Lib.hid (HQ.out.putI (n := n) HQL.out.symm y x)
                have HD5 := Lib.hid (HD.out.put (g := g) (j := y) hwg hlt hag hfg HBG.out x)
                clear ho hf HQ HD hz hx
                go_wp2
                go_roundw
                case rel => exact ⟨y + 1, q.set y x, by omega, by go_num, by simp [HQL.out], HQ5.out, HD5.out⟩
                case measure => simp [intOf]; omega
          case neg =>
            go_wp2
            go_meet
            case rel => exact ⟨q, HQL.out, HQ3.out, HD3.out⟩
      case rest =>
        clear HQL HQ3 HD3
        obtain ⟨q, hql, hg, hd⟩ := hcut
        have HD := Lib.hid hd
        have HOWN := Lib.hid (ownsRow_ext hd.gt.own ((Ext.refl wc).alloc (.cells #[.slice (some ⟨g, 0, none⟩) n cg] 27)))
        have HXB := Lib.hid (ext_box wc (.slice (some ⟨g, 0, none⟩) n cg) 27)
        have HQ := Lib.hid hg
        have HQL := Lib.hid hql
        have zb : w.heap.size ≤ (wc.alloc (.cells #[.slice (some ⟨g, 0, none⟩) n cg] 27)).heap.size := by have := hd.tc.size; simp; omega
        clear hd hg hql
        go_wp2_with (at_builtin; refine wpList_append_one rfl _ _ 24 27 rfl Tryz.underlying24 infoSl w.heap.size _ _ xs rfl HOWN.out _ _ (show Value.oneCell' (.slice _ _ _) = true from rfl) rfl (cell_new _ _ _) (by omega) zb ?_)
        intro v' w8 hown8 hgr8 hv8 hbl8
        obtain ⟨g', c', rfl⟩ : ∃ g' c', v' = .slice (some ⟨g', 0, none⟩) (k + 1) c' := by
          rcases hown8.2 with ⟨h0, _⟩ | ⟨g, cap, cur, rfl, _⟩
          · exact absurd h0 hv8
          · exact ⟨_, _, rfl⟩
        have hGT := HD.out.gt.app HXB.out HQ.out HQL.out (fun e => hag (Option.some.inj e)) HBG.out hown8 hgr8 (hbl8.imp id (fun e => e.trans (by simp)))
        have ha1 := HD.out.gt.own.lt a1 rfl
        have hfl := HD.out.fi.lt (k := f) rfl
        have hSl := HD.out.src.lt
        have hne : g' ≠ f := fun e => by
          rcases hbl8 with e2 | e2
          · exact HD.out.ne ((Option.some.inj e2).symm.trans e)
          · have := Option.some.inj e2
            simp at this
            omega
        have hfi8 := (HD.out.fi.ext HXB.out).kept hgr8 (fun e => HD.out.ne (Option.some.inj e).symm)
        have hs8 : Src S w8 := (HD.out.src.ext HXB.out).touch2 (lo := a1) (hi := a1 + 1) ⟨hgr8.os, hgr8.tape, hgr8.output, hgr8.size, fun k hk hne => hgr8.block k hk (fun e => by have : k = a1 := Option.some.inj e; omega)⟩ (by omega)
        have hT8 : Touch S (S + 1) w w8 := ⟨hgr8.os.trans (touch_ext HD.out.tc HXB.out).os, hgr8.tape.trans (touch_ext HD.out.tc HXB.out).tape, hgr8.output.trans (touch_ext HD.out.tc HXB.out).output, Nat.le_trans (touch_ext HD.out.tc HXB.out).size hgr8.size, fun k hk hne => (hgr8.block k (Nat.lt_of_lt_of_le hk (touch_ext HD.out.tc HXB.out).size) (fun e => by have : k = a1 := Option.some.inj e; omega)).trans ((touch_ext HD.out.tc HXB.out).block k hk hne)⟩
        clear hown8 hgr8 hbl8 hv8 HOWN
        go_wp2
        go_roundw
        case rel => exact ⟨k + 1, _, _, _, _, _, by omega, by go_num, rfl, hGT, hfi8, hne, hs8, hT8⟩
        case measure => simp [intOf]; omega
end Go.Proofs.YtjfjpngajboidaaGreat


namespace Go.Proofs.YtjfjpngajboidaaGreat
set_option linter.unusedVariables false
set_option linter.unusedSimpArgs false
open Go.RowKit
attribute [local go_sem ↓] Go.wp_at_zero Go.wp_at_succ
open Go.Deep

def DrawR (S m : Nat) (w : World) (e : Ending) (w' : World) : Prop := ∃ b n c t, e = .returned (.slice (some ⟨b, 0, none⟩) n c) ∧ t.length = n ∧ n ≤ m ∧ RowsP (fun k => w.heap.size ≤ k) w' (.slice (some ⟨b, 0, none⟩) n c) t ∧ Src S w' ∧ Touch S (S + 1) w w'
theorem touch_grownE {S g : Nat} {a w w' : World} (h : Touch S (S + 1) a w) (hg : w.grownBy w' (some g)) (ha : a.heap.size ≤ g) : Touch S (S + 1) a w' :=
  ⟨hg.os.trans h.os, hg.tape.trans h.tape, hg.output.trans h.output, Nat.le_trans h.size hg.size, fun k hk hne => (hg.block k (Nat.lt_of_lt_of_le hk h.size) (fun e => by have : k = g := Option.some.inj e; omega)).trans (h.block k hk hne)⟩
theorem src_grownE {S g : Nat} {w w' : World} (h : Src S w) (hg : w.grownBy w' (some g)) (hS : S < g) : Src S w' :=
  h.touch2 (lo := g) (hi := g + 1) ⟨hg.os, hg.tape, hg.output, hg.size, fun k hk hne => hg.block k hk (fun e => by have : k = g := Option.some.inj e; omega)⟩ hS
theorem l01Pick_lit (S : Nat) (l : List Int) (b c n : Nat) (w : World) (hv : IntsAt w b 0 l) (hn : n = l.length) (hl : l.length ≤ 1048576) (hb : b ≠ S) (hs : Src S w) (h1 : 1 ≤ l.length) :
    Calls Tryz.prog 45 #[.pointer (some ⟨S, 0, none⟩), .slice (some ⟨b, 0, none⟩) n c] w fun e w' => ∃ j : Nat, j < l.length ∧ e = .returned (.int .i64 (ix l j)) ∧ Src S w' ∧ Touch S (S + 1) w w' := by
  subst hn
  exact l01Pick_any S l _ w (hv.ints hl c) hs h1 (fun w' hT => ⟨hl, b, 0, c, rfl, fun i hi => hT.cell (hv i hi) (by simp only []; omega)⟩)
theorem row_litE {w : World} {g : Nat} (hg : g = w.heap.size) (l : List Int) (e : Nat) : IntsAt (w.alloc (.cells (l.map (Value.int .i64)).toArray e)) g 0 l := by
  subst hg
  intro i hi
  have e1 : ix l i = l[i] := by rw [ix_eq, List.getD_eq_getElem?_getD, List.getElem?_eq_getElem hi]; rfl
  rw [e1]
  simp [go_sem, hi]

set_option maxRecDepth 100000 in
set_option maxHeartbeats 4000000 in
theorem l01Bad_any (S n : Nat) (w : World) (hs : Src S w) (h1 : 1 ≤ n) (h12 : n ≤ 12) :
    Calls Tryz.prog 103 #[.pointer (some ⟨S, 0, none⟩), .int .i64 n] w (DrawR S 13 w) := by
  have hlt := hs.lt
  have HS0 := Lib.hid hs
  clear hs
  go_enter Tryz.func103, Tryz.ntmps103
  go_wp2_with fail
  refine (l01Tables_any S n w HS0.out h1 (by omega)).mono ?_
  rintro e w1 ⟨g, c, B, xs, t, rfl, hg, hs1, hT1⟩
  have HG1 := Lib.hid hg
  have HT1 := Lib.hid hT1
  have HS1 := Lib.hid hs1
  clear hg hs1 hT1 HS0
  go_wp2_with fail
  refine (l01Next_any S _ _ HS1.out).mono ?_
  rintro e w2 ⟨r, rfl, r1, r2, -, hs2, hT2⟩
  have HG := Lib.hid (HG1.out.touch hT2 hlt)
  have HT := Lib.hid (HT1.out.trans hT2)
  have HS := Lib.hid hs2
  have hgl := HG.out.own.lt g rfl
  have hz := HT.out.size
  clear hT2 HG1 HT1 HS1 hs2 r2
  by_cases hr0 : r = 0
  case pos =>
    subst hr0
    go_wp2_with fail
    refine (l01Unit_any n w2 (by omega)).mono ?_
    rintro e w3 ⟨b, d, rfl, hu, hx3⟩
    rw [length_idL] at hu ⊢
    have hbl := hu.lt (k := b) rfl
    have hgb : g ≠ b := by omega
    have HBb := Lib.hid (show ∀ i, i < n → B i ≠ b from fun i hi => by have := (HG.out.lt hi).2; omega)
    have HG3 := Lib.hid (HG.out.ext hx3)
    have HOWN := Lib.hid (ownsRow_ext HG3.out.own (ext_box w3 (.slice (some ⟨b, 0, none⟩) n d) 27))
    have HXB := Lib.hid (ext_box w3 (.slice (some ⟨b, 0, none⟩) n d) 27)
    have HU := Lib.hid (show GrowI 2 w.heap.size w3 (.slice (some ⟨b, 0, none⟩) n d) (idL n) from ownsRow_base hu hz)
    have HT3 := Lib.hid (touch_ext (touch_ext HT.out hx3) HXB.out)
    have HS3 := Lib.hid ((HS.out.ext hx3).ext HXB.out)
    have zb := HT3.out.size
    clear hu hx3 hbl HG HT HS
    go_wp2_with (at_builtin; refine wpList_append_one rfl _ _ 24 27 rfl Tryz.underlying24 infoSl w.heap.size _ _ xs rfl HOWN.out _ _ (show Value.oneCell' (.slice _ _ _) = true from rfl) rfl (cell_new _ _ _) (by omega) zb ?_)
    intro v' w8 hown8 hgr8 hv8 hbl8
    obtain ⟨g', c', rfl⟩ : ∃ g' c', v' = .slice (some ⟨g', 0, none⟩) (n + 1) c' := by
      rcases hown8.2 with ⟨h0, _⟩ | ⟨g, cap, cur, rfl, _⟩
      · exact absurd h0 hv8
      · exact ⟨_, _, rfl⟩
    have hGT := HG3.out.app HXB.out HU.out (length_idL n) (fun e => hgb (Option.some.inj e)) HBb.out hown8 hgr8 (hbl8.imp id (fun e => e.trans (by simp)))
    have hT8 := touch_grownE HT3.out hgr8 hgl.1
    have hs8 := src_grownE (g := g) HS3.out hgr8 (by omega)
    have ht8 := (hGT.tab (by omega) (by omega)).rowsP
    clear hown8 hgr8 hbl8 hv8 HOWN
    go_wp2
    go_ret
    exact ⟨g', n + 1, c', _, rfl, hGT.l, by omega, ht8, hs8, hT8⟩
  case neg =>
    by_cases hr1 : r = 1
    case pos =>
      subst hr1
      obtain ⟨d, x1, x2, x3, x4⟩ := HG.out.rw 0 (by omega)
      have c0 := HG.out.own.cellAt 0 (by omega)
      rw [x1] at c0
      have f0 := World.ownsRow.frozenAt HG.out.own 0
      have hgB : g ≠ B 0 := fun e => x4 (by rw [← e]; rfl)
      have hBl := HG.out.lt (i := 0) (by omega)
      have HOWN := Lib.hid (x2.alloc (.cells #[.int .i64 0] 2))
      have HX := Lib.hid (show Ext w2 (w2.alloc (.cells #[.int .i64 0] 2)) from (Ext.refl _).alloc _)
      have X3 := Lib.hid x3
      have hzb : w.heap.size ≤ (w2.alloc (.cells #[.int .i64 0] 2)).heap.size := by simp; omega
      clear x1 x2 x3 x4
      go_wp2_with (at_builtin; refine wpList_append_int_at rfl _ _ 27 2 rfl Tryz.underlying27 infoInt w.heap.size _ _ rfl HOWN.out _ _ rfl (cell_new _ _ _) (by rw [X3.out]; omega) hzb ?_)
      intro v' w8 hi8 hgr8 hv8 hbl8
      obtain ⟨bp, cp, rfl, ho8⟩ := hi8.own hv8
      have hll : (row t 0 ++ [0]).length = n + 1 := by simp [X3.out]
      obtain ⟨t', hrp, hln⟩ := HG.out.grow0 (w' := w8) (bp := bp) (cp := cp) (p := row t 0 ++ [0]) (by omega) (by omega) (by omega) HX.out ho8.1 (by rw [hll]; omega) ho8.2.2.1 hgr8
      rw [hll] at hrp
      have c8 : w8.cell? ⟨g, 0, none⟩ = some (.slice (some ⟨B 0, 0, none⟩) n d) := by
        rw [World.cell?_of_block (w := w2.alloc (.cells #[.int .i64 0] 2)) (a := ⟨g, 0, none⟩) (hgr8.block g (by simp; omega) (fun e => hgB (Option.some.inj e)))]
        exact HX.out.cell c0
      have f8 : w8.frozen? ⟨g, 0, none⟩ = false := by
        rw [World.frozen?_of_block (w := w2) (a := ⟨g, 0, none⟩) ((hgr8.block g (by simp; omega) (fun e => hgB (Option.some.inj e))).trans (HX.out.block g hgl.2))]
        exact f0
      have hT8 := touch_setIn (touch_grownE (touch_ext HT.out HX.out) hgr8 hBl.1) (p := ⟨g, 0, none⟩) hgl.1 (.slice (some ⟨bp, 0, none⟩) (n + 1) cp)
      have hs8 := src_setCell (src_grownE (g := B 0) (HS.out.ext HX.out) hgr8 (by omega)) (p := ⟨g, 0, none⟩) (by simp only []; omega) (.slice (some ⟨bp, 0, none⟩) (n + 1) cp)
      have HRP := Lib.hid hrp
      clear hi8 hgr8 hbl8 hv8 HOWN hrp c0 f0 ho8
      go_wp2
      go_ret
      exact ⟨g, n, c, t', rfl, hln, by omega, HRP.out, hs8, hT8⟩
    case neg =>
      by_cases hr2 : r = 2
      case pos =>
        subst hr2
        obtain ⟨d, x1, x2, x3, x4⟩ := HG.out.rw 0 (by omega)
        have c0 := HG.out.own.cellAt 0 (by omega)
        rw [x1] at c0
        obtain ⟨b', c', he, ho⟩ := x2.own (by simp)
        simp only [Value.slice.injEq, Option.some.injEq, Addr.mk.injEq, and_true] at he
        obtain ⟨rfl, e2, rfl⟩ := he
        have m1 := ho.2.2.1 0 (by omega)
        have m2 := ho.2.2.2 0 (by omega)
        rw [Nat.zero_add] at m1 m2
        have hBl := ho.1
        have hBS : B 0 ≠ S := by omega
        have HRP := Lib.hid (HG.out.tab (by omega) (by omega)).rowsP
        clear x1 x2 x3 x4 ho e2
        have hni : (1 : Int) ≤ (n : Int) := by omega
        have hgS : g ≠ S := by omega
        have kA : ∀ W, Touch S (S + 1) w2 W → W.cell? ⟨g, 0, none⟩ = some (.slice (some ⟨B 0, 0, none⟩) n d) := fun W hW => hW.cell c0 (by simp only []; omega)
        have kB : ∀ W, Touch S (S + 1) w2 W → W.cell? ⟨B 0, 0, none⟩ = some (.int .i64 (ix (row t 0) 0)) ∧ W.frozen? ⟨B 0, 0, none⟩ = false := fun W hW => ⟨hW.cell m1 (by simp only []; omega), by rw [World.frozen?_of_block (w := w2) (a := ⟨B 0, 0, none⟩) (hW.block _ (World.block_lt_of_cell? _ _ m1) (by simp only []; omega))]; exact m2⟩
        have KA := Lib.hid kA
        have KB := Lib.hid kB
        clear kA kB
        go_wp2_with fail
        have kA := KA.out _ (Touch.of_ext (Ext.refl w2))
        have kB := (KB.out _ (Touch.of_ext (Ext.refl w2))).1
        go_region_with ((go_at_call 45; refine (l01Pick_lit S [-1, (n : Int), 1099511627776] _ _ _ _ (by first | exact row_litE (w := w2) rfl [-1, (n : Int), 1099511627776] 2 | exact row_litE (w := w2.drew) rfl [-1, (n : Int), 1099511627776] 2) rfl (by simp) (by have := HT.out.size; omega) (HS.out.ext (by (repeat first | (with_reducible exact Ext.refl _) | (with_reducible assumption) | (with_reducible apply Ext.drew) | (with_reducible apply kx_drewN) | (with_reducible apply kx_alloc) | ((with_reducible refine kx_set ?_ ?_); (first | (simp only []; omega) | (simp; omega) | (focus (simp; done)))) ))) (by simp)).mono ?_; rintro e w3 ⟨j, hj, rfl, hs3, hT3⟩; have hT3 := (show Touch S (S + 1) w2 w3 from (Touch.of_ext (lo := S) (hi := S + 1) (show Ext w2 _ by (repeat first | (with_reducible exact Ext.refl _) | (with_reducible assumption) | (with_reducible apply Ext.drew) | (with_reducible apply kx_drewN) | (with_reducible apply kx_alloc) | ((with_reducible refine kx_set ?_ ?_); (first | (simp only []; omega) | (simp; omega) | (focus (simp; done)))) ))).trans hT3); have kA := KA.out _ hT3; obtain ⟨kB, kC⟩ := KB.out _ hT3))
        all_goals
          obtain ⟨t', hrp, hln⟩ := (HRP.out.touch hT3 (fun k hk => by have := hlt; omega)).setInt kB (ix [-1, (n : Int), 1099511627776] j)
          have hs8 := src_setCell hs3 (p := ⟨B 0, 0, none⟩) (by simp only []; omega) (.int .i64 (ix [-1, (n : Int), 1099511627776] j))
          have hT8 := touch_setIn (HT.out.trans hT3) (p := ⟨B 0, 0, none⟩) hBl (.int .i64 (ix [-1, (n : Int), 1099511627776] j))
          go_wp2
          go_ret
          exact ⟨g, n, c, t', rfl, hln.trans HG.out.l, by omega, hrp, hs8, hT8⟩
      case neg =>
        by_cases hr3 : r = 3
        case pos =>
          subst hr3
          have hT8 := touch_ext HT.out (show Ext w2 (w2.alloc (.cells #[] 27)) from (Ext.refl _).alloc _)
          have hs8 := HS.out.ext (show Ext w2 (w2.alloc (.cells #[] 27)) from (Ext.refl _).alloc _)
          go_wp2
          go_ret
          exact ⟨w2.heap.size, 0, 0, [], rfl, rfl, by omega, ⟨by simp, _, 0, 0, rfl, hz, fun i hi => by simp at hi⟩, hs8, hT8⟩
        case neg =>
          by_cases hr4 : r = 4
          case pos =>
            subst hr4
            go_wp2_with fail
            refine (l01Tables_any S 13 w2 HS.out (by omega) (by omega)).mono ?_
            rintro e w3 ⟨g3, c3, B3, xs3, t3, rfl, hg3, hs3, hT3⟩
            have ht8 := ((hg3.tab (by omega) (by omega)).rowsP).weaken (O' := fun k => w.heap.size ≤ k) (fun k hk => Nat.le_trans hz hk)
            have hT8 := HT.out.trans hT3
            have HL := Lib.hid hg3.l
            clear hg3 hT3
            go_wp2
            go_ret
            exact ⟨g3, 13, c3, t3, rfl, HL.out, by omega, ht8, hs3, hT8⟩
          case neg =>
            go_wp2
            go_ret
            exact ⟨g, n, c, t, rfl, HG.out.l, by omega, (HG.out.tab (by omega) (by omega)).rowsP, HS.out, HT.out⟩
end Go.Proofs.YtjfjpngajboidaaGreat
