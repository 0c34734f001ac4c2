/-
  The great loop of FnGroupTables, a theorem of its own.
-/
import Derived.Test.YtbfhecckapgpnaaProg
import Derived.Deep.DeepCutAuto
import Derived.Deep.RegionWith
import Derived.BigQuiet
import Derived.Maps.AppendAt
import Derived.Test.YtbfhecckapgpnaaKx0
import Derived.Test.YtbfhecckapgpnaaKx1
import Derived.Test.YtbfhecckapgpnaaKx2
import Derived.Test.YtbfhecckapgpnaaKx8
import Derived.Test.YtbfhecckapgpnaaKx9
import Derived.Test.YtbfhecckapgpnaaKx7
import Derived.Test.YtbfhecckapgpnaaKx3
import Derived.Test.YtbfhecckapgpnaaKx22
import Derived.Test.YtbfhecckapgpnaaKx20
import Derived.Test.YtbfhecckapgpnaaKx40
import Derived.Test.YtbfhecckapgpnaaKx10
import Derived.Test.YtbfhecckapgpnaaKx12
import Derived.Test.YtbfhecckapgpnaaKx13
import Derived.Test.YtbfhecckapgpnaaKx33
import Derived.Test.YtbfhecckapgpnaaKx44
import Derived.Test.YtbfhecckapgpnaaKx27
import Derived.Test.YtbfhecckapgpnaaKx28
import Derived.Test.YtbfhecckapgpnaaKx4
import Derived.Test.YtbfhecckapgpnaaKx39
import Derived.Test.YtbfhecckapgpnaaKx11
namespace Go.Proofs.Ytbfhecckapgpnaa
set_option linter.unusedVariables false
set_option linter.unusedSimpArgs false
open Go.RowKit
attribute [local go_sem ↓] Go.wp_at_zero Go.wp_at_succ
open Go.Deep

/-- a table of rows is no nil -/
theorem OwnV.rows {lo hi : Nat} {w : World} {v : Value} {t : List (List Int)} (h : OwnV lo hi w v t) (hl : 1 ≤ t.length) : Rows w v t := by
  obtain ⟨h0, a, c, rfl, h⟩ := h
  obtain ⟨b, o, rfl, hc⟩ := h (ne_nil_of_lt (k := 0) hl)
  exact (hc.rowsAt h0).rows h0.1 c
theorem tmod_zero {a b : Int} (ha : 0 ≤ a) (h : a % b = 0) : a.tmod b = 0 := by rw [Int.tmod_eq_emod_of_nonneg ha]; exact h
/-- v is a slice of the call's own (new since wB) of slices that hold the rows of s in memory of wB -/
def GrowB (e : Nat) (wB w : World) (v : Value) (s : List (List Int)) : Prop := ∃ xs, w.ownsRow wB.heap.size e 1 v s.length xs ∧ XS wB xs s
theorem GrowB.lit {e : Nat} {w : World} : GrowB e w (w.alloc (.cells #[] e)) (.slice (some ⟨w.heap.size, 0, none⟩) 0 0) [] := by
  obtain ⟨xs, h1, h2⟩ := GrowX.lit (e := e) (base := w.heap.size) (w := w) (Nat.le_refl _)
  have : xs = [] := List.length_eq_zero_iff.1 h2.1
  subst this
  exact ⟨[], h1, XS.nil _⟩
theorem GrowB.parts {e : Nat} {wB w : World} {v : Value} {s : List (List Int)} (h : GrowB e wB w v s) (hv : v ≠ .slice none 0 0) :
    ∃ g cap xs, v = .slice (some ⟨g, 0, none⟩) s.length cap ∧ s.length ≤ cap ∧ wB.heap.size ≤ g ∧ g < w.heap.size ∧ XS wB xs s ∧ (∀ i x, xs[i]? = some x → w.cell? ⟨g, i, none⟩ = some x) ∧ w.ownsRow wB.heap.size e 1 v s.length xs := by
  obtain ⟨xs, h1, h2⟩ := h
  rcases id h1.2 with ⟨rfl, _⟩ | ⟨g, cap, cur, rfl, hb, hg, hnc, _⟩
  · exact absurd rfl hv
  · refine ⟨g, cap, xs, rfl, hnc, hb, (h1.lt g rfl).2, h2, fun i x hi => ?_, h1⟩
    have := h1.cells (g := g) rfl i x hi
    rwa [Addr.add_lit, Nat.zero_add] at this
theorem rowsNew_le (t : List (List Int)) : ∀ k, (rowsNew t k).length ≤ k
  | 0 => Nat.le_refl _
  | k + 1 => by
    have := rowsNew_le t k
    simp only [rowsNew]
    split
    · omega
    · simp; omega
theorem mem_take_row {l : List (List Int)} {r : List Int} {j : Nat} (h : j < l.length) : r ∈ l.take (j + 1) ↔ r ∈ l.take j ∨ row l j = r := by
  rw [List.take_add_one, List.mem_append, row_eq]
  simp [List.getD, h, eq_comm]
theorem Ints.shape {w : World} {v : Value} {l : List Int} (h : Ints w v l) : ∃ b o c, v = .slice (some ⟨b, o, none⟩) l.length c := by
  obtain ⟨-, b, o, c, e, -⟩ := h
  exact ⟨b, o, c, e⟩
theorem rowsR_at {w : World} {a : Option Addr} {n c k : Nat} {t : List (List Int)} (h : RowsR w (.slice a n c) t) (hk : k < t.length) : ∃ b o, a = some ⟨b, o, none⟩ ∧ ∀ i, i < t.length → ∃ r, w.cell? ⟨b, o + i, none⟩ = some r ∧ IntsR w r (row t i) := by
  obtain ⟨a', c', e, h⟩ := h
  cases e
  exact h (ne_nil_of_lt hk)
theorem intsR_at {w : World} {a : Option Addr} {n c k : Nat} {l : List Int} (h : IntsR w (.slice a n c) l) (hk : k < l.length) : ∃ b o, a = some ⟨b, o, none⟩ ∧ IntsAt w b o l := by
  obtain ⟨a', c', e, h⟩ := h
  cases e
  exact h (ne_nil_of_lt hk)
/-- the order of an element is a divisor -/
theorem ordInV_div {t : List (List Int)} {a : Int} (hG : GroupOk t) (h : elemC t a = 0) : 0 < ordInV t a ∧ (t.length : Int).tmod (ordInV t a) = 0 := by
  have hg := groupB_iff.2 hG
  have hin : 0 ≤ a ∧ a ≤ (t.length : Int) - 1 := by
    apply Classical.byContradiction
    intro hn
    rw [elemC_2 hg hn] at h
    cases h
  obtain ⟨x, rfl⟩ := Int.eq_ofNat_of_zero_le hin.1
  rw [ordInV_good h]
  have := ord_div hG (x := x) (by omega)
  exact ⟨this.1, tmod_zero (by omega) this.2⟩
/-- a subgroup of the list -/
theorem subs_pop {t : List (List Int)} (hG : GroupOk t) {i : Nat} (hi : i < (subsL t).length) : ∃ m : Nat, ix (subsL t) i = (m : Int) ∧ m < 2 ^ 62 ∧ 0 < popN m ∧ popN m ≤ m ∧ (t.length : Int).tmod (popN m) = 0 := by
  have hm := ix_mem _ _ hi
  obtain ⟨m, h1, h2, h3⟩ : ∃ m : Nat, m < 2 ^ t.length ∧ subB t m = true ∧ ix (subsL t) i = (m : Int) := by
    rw [subsL_def] at hm ⊢
    obtain ⟨m, h1, h2, h3⟩ := subsTo_mem.1 hm
    exact ⟨m, h1, h2, h3⟩
  have h12 := hG.1.2.1
  have h62 : m < 2 ^ 62 := lt62 h12 h1
  have hd := sub_div hG h1 h2
  rw [elems_card hG h1, ← popN_bit h1 (by omega)] at hd
  exact ⟨m, h3, h62, hd.1, popN_le m, tmod_zero (by omega) hd.2⟩

/-- the loops of a code, the outermost -/
def loopsOf : Code → List Code
  | .loop c => [.loop c]
  | .seq a b => loopsOf a ++ loopsOf b
  | .block _ c => loopsOf c
  | .scope c => loopsOf c
  | .cond _ a b => loopsOf a ++ loopsOf b
  | _ => []
noncomputable def gtLoop : Code := ((Try.f4.body.map loopsOf).getD []).getD 1 .skip

set_option maxRecDepth 1000000 in
set_option maxHeartbeats 8000000 in
theorem gtLoop_ok {n : Nat} {C A : List (List Int)} {K : Act → World → Prop} {Q' : Exit → Act → World → Prop} {w13 : World} {B18 cb cf cc : Nat} {aa : Option Addr} {ac : Nat}
    (u0 u1 u2 u3 u4 u5 u6 u7 u8 u9 u10 u11 u12 u13 u14 u15 u16 u17 u19 u21 u22 u23 u24 u25 u26 u29 u30 u31 u32 u33 u34 u35 u36 u37 u38 u39 u40 u41 u42 u43 u44 u45 u46 u47 u48 u49 u50 u51 u52 u53 u54 u55 u56 u57 u58 u59 u60 u61 u62 u63 u64 u65 u66 u67 u68 u69 u70 u71 u72 u73 u74 u75 u76 u77 u78 u79 u80 u81 u82 u83 u84 u85 u86 u87 u88 u89 u90 u91 u92 u93 u94 u95 u96 u97 u98 u99 u100 u101 u102 u103 u104 u105 u106 u107 u108 u109 u110 u111 u112 u113 u114 u115 u116 u117 u118 u119 u120 u121 u122 u123 u124 u125 u126 u127 u128 u129 u130 u131 u132 u133 u134 u135 u136 u137 u138 u139 u140 u141 u142 u143 u144 u145 u146 u147 u148 u149 u150 u151 u152 u153 u154 u155 u156 u157 u158 u159 u160 u161 u162 u163 u164 u165 u166 u167 u168 u169 u170 u171 u172 u173 u174 u175 u176 u177 u178 u179 u180 u181 u182 u183 u184 u185 u186 u187 u188 u189 u190 u191 u192 u193 u194 u195 u196 u197 u198 u199 u200 u201 u202 u203 u204 u205 u206 u207 u208 u209 u210 u211 u212 u213 u214 u215 u216 u217 u218 u219 u220 u221 u222 u223 u224 u225 u226 u227 u228 u229 u230 u231 u232 u233 u234 u235 u236 u237 u238 u239 u240 u241 u242 u243 u244 u245 u246 u247 u248 u249 u250 u251 u252 u253 u254 u255 u256 u257 u258 u259 : Value)
    (h12 : n ≤ 12) (hal : A.length ≤ 1048576) (HCL : RowKit.Hid (C.length = n)) (HRL : RowKit.Hid (∀ k, k < n → (row C k).length = n)) (HIN : RowKit.Hid (∀ k, k < n → row C k ∈ A)) (HAS : RowKit.Hid (∀ i : Nat, (row A i).length ≤ 1048576))
    (HAA : RowKit.Hid (RowsR w13 (.slice aa A.length ac) A)) (HCA : RowKit.Hid (RowsAt w13 cb cf C)) (bc : w13.cell? ⟨B18, 0, none⟩ = some (.slice (some ⟨cb, cf, none⟩) n cc))
    (hK : ∀ (v2 v28 v29 v30 v31 v32 v183 v184 v185 v186 v187 v188 v189 v190 v191 v192 v193 v194 v195 v196 v197 v198 v199 v200 v201 v202 v203 v204 v205 v206 v207 v208 v209 v210 v211 v212 v213 v214 v215 v216 v217 v218 v219 v220 v221 v222 v223 v224 v225 v226 v227 v228 v229 v230 v231 v232 v233 v234 v235 v236 v237 v238 v239 : Value) (g cap : Nat) (wr : World), Ext w13 wr → K ⟨#[u0, u1, v2, u3, u4, u5, u6, u7, u8, u9, u10, u11, u12, u13, u14, u15, u16, u17, .pointer (some ⟨B18, 0, none⟩), u19, .slice aa A.length ac, u21, u22, u23, u24, u25, u26, .slice (some ⟨g, 0, none⟩) (rowsNew C n).length cap, v28, v29, v30, v31, v32, u33, u34, u35, u36, u37, u38, u39, u40, u41, u42, u43, u44, u45, u46, u47, u48, u49, u50, u51, u52, u53, u54, u55, u56, u57, u58, u59, u60, u61, u62, u63, u64, u65, u66, u67, u68, u69, u70, u71, u72, u73, u74, u75, u76, u77, u78, u79, u80, u81, u82, u83, u84, u85, u86, u87, u88, u89, u90, u91, u92, u93, u94, u95, u96, u97, u98, u99, u100, u101, u102, u103, u104, u105, u106, u107, u108, u109, u110, u111, u112, u113, u114, u115, u116, u117, u118, u119, u120, u121, u122, u123, u124, u125, u126, u127, u128, u129, u130, u131, u132, u133, u134, u135, u136, u137, u138, u139, u140, u141, u142, u143, u144, u145, u146, u147, u148, u149, u150, u151, u152, u153, u154, u155, u156, u157, u158, u159, u160, u161, u162, u163, u164, u165, u166, u167, u168, u169, u170, u171, u172, u173, u174, u175, u176, u177, u178, u179, u180, u181, u182, v183, v184, v185, v186, v187, v188, v189, v190, v191, v192, v193, v194, v195, v196, v197, v198, v199, v200, v201, v202, v203, v204, v205, v206, v207, v208, v209, v210, v211, v212, v213, v214, v215, v216, v217, v218, v219, v220, v221, v222, v223, v224, v225, v226, v227, v228, v229, v230, v231, v232, v233, v234, v235, v236, v237, v238, v239, u240, u241, u242, u243, u244, u245, u246, u247, u248, u249, u250, u251, u252, u253, u254, u255, u256, u257, u258, u259], []⟩ wr) :
    Code.wp Try.prog gtLoop (Exit.inBlock 2 (Exit.then K Q')) ⟨#[u0, u1, u2, u3, u4, u5, u6, u7, u8, u9, u10, u11, u12, u13, u14, u15, u16, u17, .pointer (some ⟨B18, 0, none⟩), u19, .slice aa A.length ac, u21, u22, u23, u24, u25, u26, .slice (some ⟨w13.heap.size, 0, none⟩) 0 0, .int .i64 0, u29, u30, u31, u32, u33, u34, u35, u36, u37, u38, u39, u40, u41, u42, u43, u44, u45, u46, u47, u48, u49, u50, u51, u52, u53, u54, u55, u56, u57, u58, u59, u60, u61, u62, u63, u64, u65, u66, u67, u68, u69, u70, u71, u72, u73, u74, u75, u76, u77, u78, u79, u80, u81, u82, u83, u84, u85, u86, u87, u88, u89, u90, u91, u92, u93, u94, u95, u96, u97, u98, u99, u100, u101, u102, u103, u104, u105, u106, u107, u108, u109, u110, u111, u112, u113, u114, u115, u116, u117, u118, u119, u120, u121, u122, u123, u124, u125, u126, u127, u128, u129, u130, u131, u132, u133, u134, u135, u136, u137, u138, u139, u140, u141, u142, u143, u144, u145, u146, u147, u148, u149, u150, u151, u152, u153, u154, u155, u156, u157, u158, u159, u160, u161, u162, u163, u164, u165, u166, u167, u168, u169, u170, u171, u172, u173, u174, u175, u176, u177, u178, u179, u180, u181, u182, u183, u184, u185, u186, u187, u188, u189, u190, u191, u192, u193, u194, u195, u196, u197, u198, u199, u200, u201, u202, u203, u204, u205, u206, u207, u208, u209, u210, u211, u212, u213, u214, u215, u216, u217, u218, u219, u220, u221, u222, u223, u224, u225, u226, u227, u228, u229, u230, u231, u232, u233, u234, u235, u236, u237, u238, u239, u240, u241, u242, u243, u244, u245, u246, u247, u248, u249, u250, u251, u252, u253, u254, u255, u256, u257, u258, u259], []⟩ (w13.alloc (.cells #[] 45)) := by
  have HK := Lib.hid hK
  clear hK
  have hxr : Ext w13 (w13.alloc (.cells #[] 45)) := (Ext.refl _).alloc _
  have HG0 := Lib.hid (GrowB.lit (e := 45) (w := w13))
  have bc0 := hxr.cell bc
  conv => arg 2; whnf
  conv => arg 4; zeta
  go_loopw [27, 28] (fun rv i wr => ∃ k : Nat, k ≤ n ∧ i = .int .i64 k ∧ GrowB 45 w13 wr rv (rowsNew C k) ∧ rv ≠ .slice none 0 0 ∧ Ext w13 wr) (fun _ i _ => n - (intOf i).toNat)
  case atStart => exact ⟨0, Nat.zero_le _, rfl, HG0.out, by simp, hxr⟩
  case round =>
    clear HG0 bc0 hxr
    obtain ⟨k, hk, rfl, hgr, hrv, hxw⟩ := hrel
    have hsl2 : (rowsNew C k).length ≤ k := rowsNew_le C k
    obtain ⟨g, cap, xs, rfl, hcap, hgb, hgl, hxs, hxc, hown⟩ := hgr.parts hrv
    have HXS := Lib.hid hxs
    have HXC := Lib.hid hxc
    have HOW := Lib.hid hown
    clear hgr hrv hxs hxc hown
    have bcw := hxw.cell bc
    have HX := Lib.hid hxw
    by_cases hlt : k < n
    case pos =>
      obtain ⟨d, s, m, e1, e2, e3⟩ := HCA.out.get (i := k) (by rw [HCL.out]; exact hlt)
      rw [HRL.out k hlt] at e1
      have e1w := hxw.cell e1
      have HI := Lib.hid (show Ints wr (.slice (some ⟨d, s, none⟩) n m) (row C k) from ⟨e3, d, s, m, by rw [HRL.out k hlt], e2.ext hxw⟩)
      have HE1 := Lib.hid e1
      have HE2 := Lib.hid e2
      clear e1 e2 hxw
      obtain ⟨S, hS⟩ : ∃ S, S = rowsNew C k := ⟨_, rfl⟩
      rw [← hS] at hsl2 hcap HXS HOW ⊢
      have HS := Lib.hid hS
      clear hS
      go_wp2
      go_loopw [29, 31] (fun p i wi => ∃ (q : Bool) (j : Nat), j ≤ S.length ∧ p = .bool q ∧ i = .int .i64 j ∧ (q = true ↔ row C k ∈ S.take j) ∧ Drawn wr wi) (fun _ i _ => S.length - (intOf i).toNat)
      case atStart => exact ⟨false, 0, Nat.zero_le _, rfl, rfl, by simp, Drawn.refl _⟩
      case round =>
        obtain ⟨q, j, hj, rfl, rfl, hq, hd⟩ := hrel
        have HQJ := Lib.hid hq
        clear hq
        have bci := hd.ext.cell bcw
        have e1i := hd.ext.cell e1w
        by_cases hjl : j < S.length
        case pos =>
          obtain ⟨x1, x2, x3⟩ := HXS.out.2 j hjl
          replace x3 := x3.ext HX.out
          have xci := hd.ext.cell (HXC.out j x1 x2)
          obtain ⟨xb, xo, xc, rfl⟩ := x3.shape
          cases q with
          | true =>
            go_wp2
            go_quiet (fail)
            go_wp2
            go_roundw
            case rel => exact ⟨true, j + 1, by omega, rfl, by go_num, by simp only [true_iff]; rw [List.take_add_one]; exact List.mem_append_left _ (HQJ.out.1 (by first | rfl | trivial)), hd.drewN _⟩
            case measure => simp [intOf]; omega
          | false =>
            go_wp2
            go_quiet ((go_at_call 37; exact Calls.quiet_of (likeInts_any _ _ _ _ _ ((x3.ext hd.ext).toR.ext ((Ext.refl _).drewN _)) ((HI.out.ext hd.ext).toR.ext ((Ext.refl _).drewN _)) x3.1)))
            go_wp2
            go_roundw
            case rel => exact ⟨eqIB (row S j) (row C k), j + 1, by omega, rfl, by go_num, by rw [eqIB_iff, mem_take_row hjl, ← HQJ.out]; simp, hd.drewN _⟩
            case measure => simp [intOf]; omega
        case neg =>
          have HKN := Lib.hid (show (q = true ↔ row C k ∈ S) by rw [HQJ.out, List.take_of_length_le (by omega)])
          clear HQJ
          have bci := hd.ext.cell bcw
          have e1i := hd.ext.cell e1w
          have HDW := Lib.hid hd
          clear hd bcw e1w
          go_wp2
          go_loopw [30, 32] (fun p i wj => ∃ (q2 : Bool) (j : Nat), j ≤ A.length ∧ p = .bool q2 ∧ i = .int .i64 j ∧ (q2 = true ↔ row C k ∈ A.take j) ∧ Drawn wr wj) (fun _ i _ => A.length - (intOf i).toNat)
          case atStart => exact ⟨false, 0, Nat.zero_le _, rfl, rfl, by simp, Drawn.refl _⟩
          case round =>
            clear bci e1i
            obtain ⟨q2, j2, hj2, rfl, rfl, hq2, hd3⟩ := hrel
            have hd2 := HDW.out.trans hd3
            have HQ2 := Lib.hid hq2
            clear hq2
            have bci := hd2.ext.cell (HX.out.cell bc)
            have e1i := hd2.ext.cell (HX.out.cell HE1.out)
            by_cases hjl2 : j2 < A.length
            case pos =>
              obtain ⟨ab, ao, rfl, ha⟩ := rowsR_at HAA.out hjl2
              obtain ⟨r, r1, r2⟩ := ha j2 hjl2
              obtain ⟨ra, rc, rfl, -⟩ := id r2
              have r1i := hd2.ext.cell (HX.out.cell r1)
              have HR2 := Lib.hid (r2.ext (HX.out.trans hd2.ext))
              clear ha r1 r2
              have HAL := Lib.hid (show (row A j2).length ≤ 1048576 by
                exact HAS.out j2)
              cases q2 with
              | true =>
                go_wp2
                go_quiet (fail)
                go_wp2
                go_roundw
                case rel => exact ⟨true, j2 + 1, by omega, rfl, by go_num, by simp only [true_iff]; rw [List.take_add_one]; exact List.mem_append_left _ (HQ2.out.1 (by first | rfl | trivial)), hd3.drewN _⟩
                case measure => simp [intOf]; omega
              | false =>
                go_wp2
                go_quiet ((go_at_call 37; exact Calls.quiet_of (likeInts_any _ _ _ _ _ (HR2.out.ext ((Ext.refl _).drewN _)) ((HI.out.ext hd2.ext).toR.ext ((Ext.refl _).drewN _)) HAL.out)))
                go_wp2
                go_roundw
                case rel => exact ⟨eqIB (row A j2) (row C k), j2 + 1, by omega, rfl, by go_num, by rw [eqIB_iff, mem_take_row hjl2, ← HQ2.out]; simp, hd3.drewN _⟩
                case measure => simp [intOf]; omega
            case neg =>
              obtain rfl : q2 = true := HQ2.out.2 (by rw [List.take_of_length_le (by omega)]; exact (HIN.out k hlt))
              clear HQ2
              have hS := HS.out
              subst hS
              have hxX := HX.out.trans hd2.ext
              cases q with
              | true =>
                have HRN := Lib.hid (show rowsNew C (k + 1) = rowsNew C k by simp only [rowsNew]; rw [if_pos (HKN.out.1 (by first | rfl | trivial))])
                have HGB := Lib.hid (show GrowB 45 w13 wr (.slice (some ⟨g, 0, none⟩) (rowsNew C k).length cap) (rowsNew C (k + 1)) by rw [HRN.out]; exact ⟨xs, ownsRow_ext HOW.out hd2.ext, HXS.out⟩)
                clear hd3
                go_wp2
                go_roundw
                case rel => exact ⟨k + 1, by omega, by go_num, HGB.out, by simp, hxX⟩
                case measure => simp [intOf]; omega
              | false =>
                have HRN := Lib.hid (show rowsNew C (k + 1) = rowsNew C k ++ [row C k] by simp only [rowsNew]; rw [if_neg (fun h => by have := HKN.out.2 h; cases this)])
                have HIR := Lib.hid (show Ints w13 (.slice (some ⟨d, s, none⟩) n m) (row C k) from ⟨HI.out.1, d, s, m, by rw [HRL.out k hlt], HE2.out⟩)
                have HOB := Lib.hid (ownsRow_ext HOW.out (hd2.ext.trans (ext_box wr (.slice (some ⟨d, s, none⟩) n m) 45)))
                have HXB := Lib.hid (hxX.trans (ext_box wr (.slice (some ⟨d, s, none⟩) n m) 45))
                have HZB := Lib.hid (show w13.heap.size ≤ (wr.alloc (.cells #[.slice (some ⟨d, s, none⟩) n m] 45)).heap.size from HXB.out.size)
                clear hd3
                go_wp2_with (at_builtin; refine wpList_append_xs rfl _ _ 25 45 rfl Try.underlying25 infoSl w13.heap.size (.slice (some ⟨g, 0, none⟩) (rowsNew C k).length cap) (rowsNew C k).length xs rfl HOB.out (by simp) wr.heap.size 0 1 1 [.slice (some ⟨d, s, none⟩) n m] rfl rfl (fun i x hi => by cases i with | zero => (simp at hi; subst hi; exact cell_new _ _ _) | succ i => simp at hi) (fun u hu => by simp at hu; subst hu; rfl) (by omega) (by omega) HZB.out ?_)
                intro v' w' hown' hgr' hv'
                have HXN := Lib.hid (Ext.grown HXB.out hgr' HOB.out (Nat.le_refl _))
                have HGB := Lib.hid (show GrowB 45 w13 w' v' (rowsNew C (k + 1)) by
                  rw [HRN.out]
                  refine ⟨xs ++ [.slice (some ⟨d, s, none⟩) n m], ?_, HXS.out.append (XS.one HIR.out)⟩
                  rw [List.length_append]
                  exact hown')
                have HVN := Lib.hid hv'
                clear hown' hgr' hv'
                go_wp2
                go_roundw
                case rel => exact ⟨k + 1, by omega, by go_num, HGB.out, HVN.out, HXN.out⟩
                case measure => simp [intOf]; omega
    case neg =>
      obtain rfl : k = n := by omega
      go_wp2
      exact HK.out _ _ _ _ _ _ _ _ _ _ _ _ _ _ _ _ _ _ _ _ _ _ _ _ _ _ _ _ _ _ _ _ _ _ _ _ _ _ _ _ _ _ _ _ _ _ _ _ _ _ _ _ _ _ _ _ _ _ _ _ _ _ _ _ _ _ HX.out
end Go.Proofs.Ytbfhecckapgpnaa
