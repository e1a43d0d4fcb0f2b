/- The end of GearAgain: what stands behind both chunk rows. -/
import Derived.Test.YtbckibjpaiealaaGA3
import Derived.Test.YtbckibjpaiealaaGW
import Derived.Deep.DrawnRows
import Derived.Deep.RegionHeldLaw
set_option linter.unusedVariables false
set_option linter.unusedSimpArgs false
namespace Go.Proofs.Ytbckibjpaiealaa.F
open Go.RowKit Go.Proofs.YtbckibjpaiealaaW.PrintWords
attribute [local go_sem ↓] Go.wp_at_zero Go.wp_at_succ

/-- Region k of a body. -/
def regionAt (k : Nat) : Code → Code
  | .seq (.region i o d) b => match i == k with
    | true => .region i o d
    | false => regionAt k b
  | .seq _ b => regionAt k b
  | c => c
noncomputable def gaTail : Code := regionAt 19 (Try.f6.body.getD .skip)

set_option maxRecDepth 20000 in
set_option maxHeartbeats 8000000 in
theorem GearAgain_tail {u0 u1 u2 u3 u4 u5 u6 u7 u8 u9 u10 u11 u13 u15 u16 u17 u18 u19 u21 u23 u24 u25 u26 u27 u28 u29 u30 u31 u32 u33 u34 u35 u36 u37 u38 u39 u40 u41 u42 u43 u44 u45 u46 u47 u48 u49 u50 u51 u52 u53 u54 u55 u56 u57 u58 u59 u60 u61 u62 u63 u64 u65 u66 u67 u68 u69 u70 u71 u72 u73 u74 u75 u76 u77 u78 u79 u80 u81 u82 u83 u84 u85 u86 u87 u88 u89 u90 u91 u92 u93 u94 u95 u96 u97 u98 u99 u100 u101 u102 u103 u104 u105 u106 u107 u108 u109 u110 u111 u112 u113 u114 u115 u116 u117 u118 u119 u120 u121 : Value} {A7 A9 E4 E5 : Option Addr} {c7 c9 e4 e5 : Nat} {l1 l2 cs ds ch : List (List Nat)} {w w9 : World} {K : Act → World → Prop} (hK : ∀ a w', Code.wp Try.prog .ret (bodyPost Try.prog Try.f6 fun e w' => e = .returned (.bool true) ∧ Below w.heap.size w w') a w' → K a w') (hc1 : l1 = cs ++ ch) (hc2 : l2 = ds ++ ch) (hc7 : l1.length ≤ c7) (hc9 : l2.length ≤ c9)
    (rr7 : RR w9 A7 l1) (rr9 : RR w9 A9 l2) (hbf : Below w.heap.size w w9) :
    Code.wp Try.prog gaTail (Exit.then K (bodyPost Try.prog Try.f6 fun e w' => e = .returned (.bool true) ∧ Below w.heap.size w w')) ⟨#[u0, u1, u2, u3, u4, u5, u6, u7, u8, u9, u10, u11, .slice E4 cs.length e4, u13, .slice E5 ds.length e5, u15, u16, u17, u18, u19, .slice A7 l1.length c7, u21, .slice A9 l2.length c9, u23, u24, u25, u26, u27, u28, u29, u30, u31, u32, u33, u34, u35, u36, u37, u38, u39, u40, u41, u42, u43, u44, u45, u46, u47, u48, u49, u50, u51, u52, u53, u54, u55, u56, u57, u58, u59, u60, u61, u62, u63, u64, u65, u66, u67, u68, u69, u70, u71, u72, u73, u74, u75, u76, u77, u78, u79, u80, u81, u82, u83, u84, u85, u86, u87, u88, u89, u90, u91, u92, u93, u94, u95, u96, u97, u98, u99, u100, u101, u102, u103, u104, u105, u106, u107, u108, u109, u110, u111, u112, u113, u114, u115, u116, u117, u118, u119, u120, u121], []⟩ w9 := by
  obtain ⟨i9, hi9, hsz9⟩ := info_sl'
  have hll1 : l1.length = cs.length + ch.length := by rw [hc1, List.length_append]
  have hll2 : l2.length = ds.length + ch.length := by rw [hc2, List.length_append]
  obtain ⟨X7, hx7, hy7⟩ := RR.cut (P := Try.prog) 34 32 Try.underlying34 hi9 hsz9 A7 l1.length c7 cs.length (by omega) hc7
  obtain ⟨X9, hx9, hy9⟩ := RR.cut (P := Try.prog) 34 32 Try.underlying34 hi9 hsz9 A9 l2.length c9 ds.length (by omega) hc9
  rw [show l1.length - cs.length = ch.length by omega] at hx7
  rw [show l2.length - ds.length = ch.length by omega] at hx9
  have q7 := fun W (h : RR W A7 l1) => hy7 W l1 rfl h
  have q9 := fun W (h : RR W A9 l2) => hy9 W l2 rfl h
  rw [hc1, List.drop_left] at q7
  rw [hc2, List.drop_left] at q9
  rw [← hc1] at q7
  rw [← hc2] at q9
  have hm7 := rr7.max
  have hm9 := rr9.max
  have hb1 : (cs.length : Int) ≤ l1.length := by omega
  have hb2 : (ds.length : Int) ≤ l2.length := by omega
  have hb3 : (l1.length : Int) ≤ c7 := by omega
  have hb4 : (l2.length : Int) ≤ c9 := by omega
  have hb5 : (0 : Int) ≤ (cs.length : Int) := by omega
  have hb6 : (0 : Int) ≤ (ds.length : Int) := by omega
  have hsame : ∀ W, Below w9.heap.size w9 W → Calls Try.prog 17 #[.slice X7 ch.length (c7 - cs.length), .slice X9 ch.length (c9 - ds.length)] W fun e w' => e = .returned (.bool true) ∧ ∃ n, w' = W.drewN n := fun W hb => Same_c X7 X9 _ _ ch W (q7 _ (rr7.below hb)) (q9 _ (rr9.below hb))
  have HSAME := Lib.hid hsame
  have HBF := Lib.hid hbf
  clear hc1 hc2 hll1 hll2 hy7 hy9 hi9 hsz9 q7 q9 rr7 rr9 hbf hsame
  conv => arg 2; whnf
  go_region_held_law (fun _ => True) (trivial) ((first | (go_at_call 9; (with_reducible refine (live_c _).mono ?_); rintro e w10 ⟨rfl, hb10⟩; have hbb10 : Below w9.heap.size w9 w10 := ⟨hb10.os, hb10.tape, hb10.output, hb10.size, hb10.block⟩) | (go_at_call 17; (with_reducible refine (HSAME.out _ ?hbb).mono ?_); exact hbb10; rintro e w11 ⟨rfl, n11, rfl⟩)))
  go_wp2_with fail
  go_ret
  exact ⟨rfl, pw_below_drewN (HBF.out.trans (hbb10.mono HBF.out.size)) n11⟩
end Go.Proofs.Ytbckibjpaiealaa.F
