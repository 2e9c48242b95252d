import Derived.Test.YtcknmcfomkbenaaPFx0
import Derived.Test.YtcknmcfomkbenaaPFx4
import Derived.Test.YtcknmcfomkbenaaPFx6
import Derived.Test.YtcknmcfomkbenaaPFx7
namespace Go.Proofs.Ytcknmcfomkbenaa.PF
open Go.RowKit Go.Proofs.YtcknmcfomkbenaaW.PrintWords Go.Proofs.YtcknmcfomkbenaaW.PrintLast Go.Proofs.YtcknmcfomkbenaaW.PrintMore
attribute [local go_sem] max2_int min2_int max_two min_two max_three min_three max_four min_four   -- for this text's walks alone
set_option linter.unusedVariables false
set_option linter.unusedSimpArgs false
mutual
def portolanref04_Ins.j0 : Nat → Int → Bool → List (S30) → Int → Int → Int → Int → Int → Int → List Int → Option (Bool)
 | 0, _, _, _, _, _, _, _, _, _, _ => none
 | k + 1, x1, x31, x234000, x235000, x235001, x235002, x235003, x235004, x235005, x235006 => if x31 = true then (some false) else (if 0 ≤ x1 then (if x1 < (x234000.length : Int) then ((portolanref04_Uses.f k x235000 x235001 x235002 x235003 x235004 x235005 x235006).bind fun t240 => ((portolanref04_Sets.f k x235000 x235001 x235002 x235003 x235004 x235005 x235006).bind fun bt243 => (if bt243.2 = true then (if t240.length < 17592186044416 then (portolanref04_Ins.j1 k (t240 ++ [bt243.1]) x234000 x235000 x235001 x235002 x235003 x235004 x235005 x235006 ((rd_T30 x234000 x1).f0) ((rd_T30 x234000 x1).f1) ((rd_T30 x234000 x1).f2) ((rd_T30 x234000 x1).f3) ((rd_T30 x234000 x1).f4)) else (none)) else (portolanref04_Ins.j1 k t240 x234000 x235000 x235001 x235002 x235003 x235004 x235005 x235006 ((rd_T30 x234000 x1).f0) ((rd_T30 x234000 x1).f1) ((rd_T30 x234000 x1).f2) ((rd_T30 x234000 x1).f3) ((rd_T30 x234000 x1).f4))))) else (none)) else (none))
def portolanref04_Ins.j1 : Nat → List Int → List (S30) → Int → Int → Int → Int → Int → Int → List Int → List Int → List Int → Int → Int → List (S50) → Option (Bool)
 | 0, _, _, _, _, _, _, _, _, _, _, _, _, _, _ => none
 | k + 1, x8, x234000, x235000, x235001, x235002, x235003, x235004, x235005, x235006, x240000, x240001, x240002, x240003, x240004 => portolanref04_Ins.l0 k x8 0 x234000 x235000 x235001 x235002 x235003 x235004 x235005 x235006 x240000 x240001 x240002 x240003 x240004
def portolanref04_Ins.l0 : Nat → List Int → Int → List (S30) → Int → Int → Int → Int → Int → Int → List Int → List Int → List Int → Int → Int → List (S50) → Option (Bool)
 | 0, _, _, _, _, _, _, _, _, _, _, _, _, _, _, _ => none
 | k + 1, x8, x11, x234000, x235000, x235001, x235002, x235003, x235004, x235005, x235006, x240000, x240001, x240002, x240003, x240004 => if x11 < (x8.length : Int) then (if 0 ≤ x11 then ((portolanref04_within.f (rd x8 x11) 0 (wrap64 ((x240000.length : Int) - 1))).bind fun t249 => (if t249 = true then (portolanref04_Ins.l0 k x8 (wrap64 (x11 + 1)) x234000 x235000 x235001 x235002 x235003 x235004 x235005 x235006 x240000 x240001 x240002 x240003 x240004) else (some false))) else (none)) else ((portolanref04_Next.f x235000 x235001 x235002 x235003 x235004 x235005 x235006).bind fun t250 => (portolanref04_Ins.l1 k t250 0 x234000 x235000 x235001 x235002 x235003 x235004 x235005 x235006 x240000 x240001 x240002 x240003 x240004))
def portolanref04_Ins.l1 : Nat → List Int → Int → List (S30) → Int → Int → Int → Int → Int → Int → List Int → List Int → List Int → Int → Int → List (S50) → Option (Bool)
 | 0, _, _, _, _, _, _, _, _, _, _, _, _, _, _, _ => none
 | k + 1, x12, x13, x234000, x235000, x235001, x235002, x235003, x235004, x235005, x235006, x240000, x240001, x240002, x240003, x240004 => if x13 < (x12.length : Int) then (if 0 ≤ x13 then ((portolanref04_within.f (rd x12 x13) 1 (wrap64 ((x240004.length : Int) - 1))).bind fun t254 => (if t254 = true then (portolanref04_Ins.l1 k x12 (wrap64 (x13 + 1)) x234000 x235000 x235001 x235002 x235003 x235004 x235005 x235006 x240000 x240001 x240002 x240003 x240004) else (some false))) else (none)) else (if x235000 = 19 then ((portolanref04_within.f x235004 0 (wrap64 ((x234000.length : Int) - 1))).bind fun t255 => (if t255 = true then (if 0 ≤ x235004 then (if x235004 < (x234000.length : Int) then (some ((x235006.length : Int) == ((rd_T30 x234000 x235004).f2))) else (none)) else (none)) else (some false))) else (if x235000 = 1 then ((portolanref04_within.f x235004 (-2147483648) 2147483648).bind fun t257 => (some t257)) else (if x235000 = 16 then ((portolanref04_within.f x235004 (-8) 8).bind fun t258 => (some t258)) else (if x235000 = 10 then ((portolanref04_within.f x235004 0 8).bind fun t259 => (if t259 = true then ((portolanref04_within.f x235005 0 8).bind fun t260 => (some t260)) else (some false))) else (if x235000 = 11 then ((portolanref04_within.f x235004 0 7).bind fun t261 => (some t261)) else (if x235000 = 12 then ((portolanref04_within.f x235004 0 7).bind fun t262 => (some t262)) else (if x235000 = 13 then ((portolanref04_within.f x235004 0 7).bind fun t263 => (some t263)) else (if x235000 = 14 then ((portolanref04_within.f x235004 0 7).bind fun t264 => (some t264)) else (if x235000 = 15 then ((portolanref04_within.f x235004 0 7).bind fun t265 => (some t265)) else (some true))))))))))
end
def portolanref04_Ins.f (k : Nat) (l0_0 : List (S30)) (a1 : Int) (a2_0 : Int) (a2_1 : Int) (a2_2 : Int) (a2_3 : Int) (a2_4 : Int) (a2_5 : Int) (l2_6 : List Int) : Option (Bool) := (portolanref04_within.f a1 0 (wrap64 ((l0_0.length : Int) - 1))).bind fun t235 => (if t235 = true then ((portolanref03_Parts.f k a2_0).bind fun t236 => (if t236.toList = ([] : List UInt8) then (portolanref04_Ins.j0 k a1 true l0_0 a2_0 a2_1 a2_2 a2_3 a2_4 a2_5 l2_6) else ((portolanref04_bare.f a2_0 a2_1 a2_2 a2_3 a2_4 a2_5 l2_6).bind fun t237 => (portolanref04_Ins.j0 k a1 (!t237) l0_0 a2_0 a2_1 a2_2 a2_3 a2_4 a2_5 l2_6)))) else (portolanref04_Ins.j0 k a1 true l0_0 a2_0 a2_1 a2_2 a2_3 a2_4 a2_5 l2_6))
set_option maxHeartbeats 8000000 in
set_option maxRecDepth 100000 in
theorem portolanref04_Ins.calls (k : Nat) (A0_0 : Option Addr) (c0_0 : Nat) (l0_0 : List (S30)) (a1 : Int) (a2_0 : Int) (a2_1 : Int) (a2_2 : Int) (a2_3 : Int) (a2_4 : Int) (a2_5 : Int) (A2_6 : Option Addr) (c2_6 : Nat) (l2_6 : List Int) (r : Bool) (w : World) (hr0_0 : Kd.C k30 w A0_0 l0_0.length l0_0) (hc0_0 : l0_0.length ≤ c0_0) (hr2_6 : Kd.C (Kd.int .i64) w A2_6 l2_6.length l2_6) (hc2_6 : l2_6.length ≤ c2_6) (h : portolanref04_Ins.f k l0_0 a1 a2_0 a2_1 a2_2 a2_3 a2_4 a2_5 l2_6 = some r) :
  Calls Try.prog 88 #[.agg #[.slice A0_0 l0_0.length c0_0], .int .i64 a1, .agg #[.int .i64 a2_0, .int .i64 a2_1, .int .i64 a2_2, .int .i64 a2_3, .int .i64 a2_4, .int .i64 a2_5, .slice A2_6 l2_6.length c2_6]] w fun e w' => e = .returned (.bool r) ∧ Below w.heap.size w w' := by
 have hu24 := Try.underlying24
 have hu52 := Try.underlying52
 have hu30 := Try.underlying30
 have HR0_0 := Aside0.mk hr0_0
 have HC0_0 := Aside0.mk hc0_0
 clear hr0_0 hc0_0
 have HR2_6 := Aside0.mk hr2_6
 have HC2_6 := Aside0.mk hc2_6
 clear hr2_6 hc2_6
 have HB := Aside0.mk (Below.refl w.heap.size w)
 have H : ((portolanref04_within.f a1 0 (wrap64 ((l0_0.length : Int) - 1))).bind fun t235 => (if t235 = true then ((portolanref03_Parts.f k a2_0).bind fun t236 => (if t236.toList = ([] : List UInt8) then (portolanref04_Ins.j0 k a1 true l0_0 a2_0 a2_1 a2_2 a2_3 a2_4 a2_5 l2_6) else ((portolanref04_bare.f a2_0 a2_1 a2_2 a2_3 a2_4 a2_5 l2_6).bind fun t237 => (portolanref04_Ins.j0 k a1 (!t237) l0_0 a2_0 a2_1 a2_2 a2_3 a2_4 a2_5 l2_6)))) else (portolanref04_Ins.j0 k a1 true l0_0 a2_0 a2_1 a2_2 a2_3 a2_4 a2_5 l2_6))) = some r := h
 clear h
 have HC4 := Aside0.mk H
 clear H
 go_enter Try.func88, Try.ntmps88
 go_upto_region 1 with (first | ((with_reducible refine gate_dst (N := 3) rfl ?_); (try (refine gate_guard (by rfl) ?_; dsimp only)); refine box_event ?hg (N := 3) ?hd (cs := #[.slice A0_0 l0_0.length c0_0]) (t := 24) ?hr ?_; (case hd => rfl); (case hg => rfl); (case hr => first | (go_simp; done) | (go_simp; rfl)); intro gb233 hg w5 hbox hb; have n0_ := Aside0.mk (below_step (by repeat (first | (with_reducible first | exact HB.out | apply zq5 | apply zq4 | apply zq6) | exact HB.out)) hb); have n1_ := Aside0.mk (hbox); have n2_ := Aside0.mk ((by rw [hg]; exact (below_size (by repeat (first | (with_reducible first | exact HB.out | apply zq5 | apply zq4 | apply zq6) | exact HB.out))) : w.heap.size ≤ gb233)); have n3_ := Aside0.mk ((by rw [hg]; exact (below_size (by repeat (first | (with_reducible first | exact HB.out | apply zq5 | apply zq4 | apply zq6) | exact HB.out))) : w.heap.size ≤ gb233)); clear HB; have HB := n0_; have BK233 := n1_; have GW233 := n2_; have GE233 := n3_; clear n0_ n1_ n2_ n3_; clear hb hbox hg) | ((with_reducible refine gate_dst (N := 5) rfl ?_); (try (refine gate_guard (by rfl) ?_; dsimp only)); refine box_event ?hg (N := 5) ?hd (cs := #[.int .i64 a2_0, .int .i64 a2_1, .int .i64 a2_2, .int .i64 a2_3, .int .i64 a2_4, .int .i64 a2_5, .slice A2_6 l2_6.length c2_6]) (t := 52) ?hr ?_; (case hd => rfl); (case hg => rfl); (case hr => first | (go_simp; done) | (go_simp; rfl)); intro gb234 hg w6 hbox hb; have n0_ := Aside0.mk (blk_below (g := gb233) (o := .cells #[.slice A0_0 l0_0.length c0_0] 24 (0, 0)) (by (with_reducible repeat (first | refine zq1 ?_ _ | refine zq2 ?_ | refine zq3 ?_ _)); exact BK233.out) hb); have n1_ := Aside0.mk (below_step (by repeat (first | (with_reducible first | exact HB.out | apply zq5 | apply zq4 | apply zq6 | refine below_set ?_ GE233.out) | exact HB.out)) hb); have n2_ := Aside0.mk (hbox); have n3_ := Aside0.mk ((by rw [hg]; exact (below_size (by repeat (first | (with_reducible first | exact HB.out | apply zq5 | apply zq4 | apply zq6 | refine below_set ?_ GE233.out) | exact HB.out))) : w.heap.size ≤ gb234)); have n4_ := Aside0.mk ((by rw [hg]; exact (below_size (by repeat (first | (with_reducible first | exact HB.out | apply zq5 | apply zq4 | apply zq6 | refine below_set ?_ GE233.out) | exact HB.out))) : w.heap.size ≤ gb234)); have n5_ := Aside0.mk ((by rw [hg]; exact Nat.ne_of_lt (blk_lt (g := gb233) (o := .cells #[.slice A0_0 l0_0.length c0_0] 24 (0, 0)) (by (with_reducible repeat (first | refine zq1 ?_ _ | refine zq2 ?_ | refine zq3 ?_ _)); exact BK233.out)) : gb233 ≠ gb234)); have n6_ := Aside0.mk ((by rw [hg]; exact Nat.ne_of_gt (blk_lt (g := gb233) (o := .cells #[.slice A0_0 l0_0.length c0_0] 24 (0, 0)) (by (with_reducible repeat (first | refine zq1 ?_ _ | refine zq2 ?_ | refine zq3 ?_ _)); exact BK233.out)) : gb234 ≠ gb233)); clear BK233; clear HB; have BK233 := n0_; have HB := n1_; have BK234 := n2_; have GW234 := n3_; have GE234 := n4_; have NB233_234 := n5_; have NB234_233 := n6_; clear n0_ n1_ n2_ n3_ n4_ n5_ n6_; clear hb hbox hg))
 repeat (go_quiet (first | ((with_reducible refine gate_dst (N := 3) rfl ?_); (try (refine gate_guard (by rfl) ?_; dsimp only)); refine box_event ?hg (N := 3) ?hd (cs := #[.slice A0_0 l0_0.length c0_0]) (t := 24) ?hr ?_; (case hd => rfl); (case hg => rfl); (case hr => first | (go_simp; done) | (go_simp; rfl)); intro gb233 hg w5 hbox hb; have n0_ := Aside0.mk (below_step (by repeat (first | (with_reducible first | exact HB.out | apply zq5 | apply zq4 | apply zq6) | exact HB.out)) hb); have n1_ := Aside0.mk (hbox); have n2_ := Aside0.mk ((by rw [hg]; exact (below_size (by repeat (first | (with_reducible first | exact HB.out | apply zq5 | apply zq4 | apply zq6) | exact HB.out))) : w.heap.size ≤ gb233)); have n3_ := Aside0.mk ((by rw [hg]; exact (below_size (by repeat (first | (with_reducible first | exact HB.out | apply zq5 | apply zq4 | apply zq6) | exact HB.out))) : w.heap.size ≤ gb233)); clear HB; have HB := n0_; have BK233 := n1_; have GW233 := n2_; have GE233 := n3_; clear n0_ n1_ n2_ n3_; clear hb hbox hg) | ((with_reducible refine gate_dst (N := 5) rfl ?_); (try (refine gate_guard (by rfl) ?_; dsimp only)); refine box_event ?hg (N := 5) ?hd (cs := #[.int .i64 a2_0, .int .i64 a2_1, .int .i64 a2_2, .int .i64 a2_3, .int .i64 a2_4, .int .i64 a2_5, .slice A2_6 l2_6.length c2_6]) (t := 52) ?hr ?_; (case hd => rfl); (case hg => rfl); (case hr => first | (go_simp; done) | (go_simp; rfl)); intro gb234 hg w6 hbox hb; have n0_ := Aside0.mk (blk_below (g := gb233) (o := .cells #[.slice A0_0 l0_0.length c0_0] 24 (0, 0)) (by (with_reducible repeat (first | refine zq1 ?_ _ | refine zq2 ?_ | refine zq3 ?_ _)); exact BK233.out) hb); have n1_ := Aside0.mk (below_step (by repeat (first | (with_reducible first | exact HB.out | apply zq5 | apply zq4 | apply zq6 | refine below_set ?_ GE233.out) | exact HB.out)) hb); have n2_ := Aside0.mk (hbox); have n3_ := Aside0.mk ((by rw [hg]; exact (below_size (by repeat (first | (with_reducible first | exact HB.out | apply zq5 | apply zq4 | apply zq6 | refine below_set ?_ GE233.out) | exact HB.out))) : w.heap.size ≤ gb234)); have n4_ := Aside0.mk ((by rw [hg]; exact (below_size (by repeat (first | (with_reducible first | exact HB.out | apply zq5 | apply zq4 | apply zq6 | refine below_set ?_ GE233.out) | exact HB.out))) : w.heap.size ≤ gb234)); have n5_ := Aside0.mk ((by rw [hg]; exact Nat.ne_of_lt (blk_lt (g := gb233) (o := .cells #[.slice A0_0 l0_0.length c0_0] 24 (0, 0)) (by (with_reducible repeat (first | refine zq1 ?_ _ | refine zq2 ?_ | refine zq3 ?_ _)); exact BK233.out)) : gb233 ≠ gb234)); have n6_ := Aside0.mk ((by rw [hg]; exact Nat.ne_of_gt (blk_lt (g := gb233) (o := .cells #[.slice A0_0 l0_0.length c0_0] 24 (0, 0)) (by (with_reducible repeat (first | refine zq1 ?_ _ | refine zq2 ?_ | refine zq3 ?_ _)); exact BK233.out)) : gb234 ≠ gb233)); clear BK233; clear HB; have BK233 := n0_; have HB := n1_; have BK234 := n2_; have GW234 := n3_; have GE234 := n4_; have NB233_234 := n5_; have NB234_233 := n6_; clear n0_ n1_ n2_ n3_ n4_ n5_ n6_; clear hb hbox hg)); go_upto_region 1 with (first | ((with_reducible refine gate_dst (N := 3) rfl ?_); (try (refine gate_guard (by rfl) ?_; dsimp only)); refine box_event ?hg (N := 3) ?hd (cs := #[.slice A0_0 l0_0.length c0_0]) (t := 24) ?hr ?_; (case hd => rfl); (case hg => rfl); (case hr => first | (go_simp; done) | (go_simp; rfl)); intro gb233 hg w5 hbox hb; have n0_ := Aside0.mk (below_step (by repeat (first | (with_reducible first | exact HB.out | apply zq5 | apply zq4 | apply zq6) | exact HB.out)) hb); have n1_ := Aside0.mk (hbox); have n2_ := Aside0.mk ((by rw [hg]; exact (below_size (by repeat (first | (with_reducible first | exact HB.out | apply zq5 | apply zq4 | apply zq6) | exact HB.out))) : w.heap.size ≤ gb233)); have n3_ := Aside0.mk ((by rw [hg]; exact (below_size (by repeat (first | (with_reducible first | exact HB.out | apply zq5 | apply zq4 | apply zq6) | exact HB.out))) : w.heap.size ≤ gb233)); clear HB; have HB := n0_; have BK233 := n1_; have GW233 := n2_; have GE233 := n3_; clear n0_ n1_ n2_ n3_; clear hb hbox hg) | ((with_reducible refine gate_dst (N := 5) rfl ?_); (try (refine gate_guard (by rfl) ?_; dsimp only)); refine box_event ?hg (N := 5) ?hd (cs := #[.int .i64 a2_0, .int .i64 a2_1, .int .i64 a2_2, .int .i64 a2_3, .int .i64 a2_4, .int .i64 a2_5, .slice A2_6 l2_6.length c2_6]) (t := 52) ?hr ?_; (case hd => rfl); (case hg => rfl); (case hr => first | (go_simp; done) | (go_simp; rfl)); intro gb234 hg w6 hbox hb; have n0_ := Aside0.mk (blk_below (g := gb233) (o := .cells #[.slice A0_0 l0_0.length c0_0] 24 (0, 0)) (by (with_reducible repeat (first | refine zq1 ?_ _ | refine zq2 ?_ | refine zq3 ?_ _)); exact BK233.out) hb); have n1_ := Aside0.mk (below_step (by repeat (first | (with_reducible first | exact HB.out | apply zq5 | apply zq4 | apply zq6 | refine below_set ?_ GE233.out) | exact HB.out)) hb); have n2_ := Aside0.mk (hbox); have n3_ := Aside0.mk ((by rw [hg]; exact (below_size (by repeat (first | (with_reducible first | exact HB.out | apply zq5 | apply zq4 | apply zq6 | refine below_set ?_ GE233.out) | exact HB.out))) : w.heap.size ≤ gb234)); have n4_ := Aside0.mk ((by rw [hg]; exact (below_size (by repeat (first | (with_reducible first | exact HB.out | apply zq5 | apply zq4 | apply zq6 | refine below_set ?_ GE233.out) | exact HB.out))) : w.heap.size ≤ gb234)); have n5_ := Aside0.mk ((by rw [hg]; exact Nat.ne_of_lt (blk_lt (g := gb233) (o := .cells #[.slice A0_0 l0_0.length c0_0] 24 (0, 0)) (by (with_reducible repeat (first | refine zq1 ?_ _ | refine zq2 ?_ | refine zq3 ?_ _)); exact BK233.out)) : gb233 ≠ gb234)); have n6_ := Aside0.mk ((by rw [hg]; exact Nat.ne_of_gt (blk_lt (g := gb233) (o := .cells #[.slice A0_0 l0_0.length c0_0] 24 (0, 0)) (by (with_reducible repeat (first | refine zq1 ?_ _ | refine zq2 ?_ | refine zq3 ?_ _)); exact BK233.out)) : gb234 ≠ gb233)); clear BK233; clear HB; have BK233 := n0_; have HB := n1_; have BK234 := n2_; have GW234 := n3_; have GE234 := n4_; have NB233_234 := n5_; have NB234_233 := n6_; clear n0_ n1_ n2_ n3_ n4_ n5_ n6_; clear hb hbox hg)))
 (try simp only [Act.put, List.setIfInBounds_toArray, List.set_cons_zero, List.set_cons_succ])
 go_cut [31] (fun v31 wc => ∃ (kq : Nat) (x31_3 : Bool), v31 = .bool x31_3 ∧ Aside0 (portolanref04_Ins.j0 kq a1 x31_3 l0_0 a2_0 a2_1 a2_2 a2_3 a2_4 a2_5 l2_6 = some r) ∧ Aside0 (kq ≤ k) ∧ Aside0 (wc.heap[gb233]? = some (.cells #[(.slice A0_0 l0_0.length c0_0)] 24 (0, 0))) ∧ Aside0 (wc.heap[gb234]? = some (.cells #[.int .i64 a2_0, .int .i64 a2_1, .int .i64 a2_2, .int .i64 a2_3, .int .i64 a2_4, .int .i64 a2_5, (.slice A2_6 l2_6.length c2_6)] 52 (0, 0))) ∧ Aside0 (Below w.heap.size w wc))
 case first =>
  have H := HC4.out
  clear HC4
  replace H := Option.bind_eq_some_iff.mp H
  obtain ⟨t235, A70, H⟩ := H
  replace H : (if t235 = true then ((portolanref03_Parts.f k a2_0).bind fun t236 => (if t236.toList = ([] : List UInt8) then (portolanref04_Ins.j0 k a1 true l0_0 a2_0 a2_1 a2_2 a2_3 a2_4 a2_5 l2_6) else ((portolanref04_bare.f a2_0 a2_1 a2_2 a2_3 a2_4 a2_5 l2_6).bind fun t237 => (portolanref04_Ins.j0 k a1 (!t237) l0_0 a2_0 a2_1 a2_2 a2_3 a2_4 a2_5 l2_6)))) else (portolanref04_Ins.j0 k a1 true l0_0 a2_0 a2_1 a2_2 a2_3 a2_4 a2_5 l2_6)) = some r := H
  have A7 := Aside0.mk A70
  clear A70
  by_cases c8 : t235 = true
  ·subst c8
   have H1 : ((portolanref03_Parts.f k a2_0).bind fun t236 => (if t236.toList = ([] : List UInt8) then (portolanref04_Ins.j0 k a1 true l0_0 a2_0 a2_1 a2_2 a2_3 a2_4 a2_5 l2_6) else ((portolanref04_bare.f a2_0 a2_1 a2_2 a2_3 a2_4 a2_5 l2_6).bind fun t237 => (portolanref04_Ins.j0 k a1 (!t237) l0_0 a2_0 a2_1 a2_2 a2_3 a2_4 a2_5 l2_6)))) = some r := by first | (rw [if_pos rfl] at H; exact H) | rfl
   clear H
   have H := H1
   clear H1
   replace H := Option.bind_eq_some_iff.mp H
   obtain ⟨t236, A90, H⟩ := H
   replace H : (if t236.toList = ([] : List UInt8) then (portolanref04_Ins.j0 k a1 true l0_0 a2_0 a2_1 a2_2 a2_3 a2_4 a2_5 l2_6) else ((portolanref04_bare.f a2_0 a2_1 a2_2 a2_3 a2_4 a2_5 l2_6).bind fun t237 => (portolanref04_Ins.j0 k a1 (!t237) l0_0 a2_0 a2_1 a2_2 a2_3 a2_4 a2_5 l2_6))) = some r := H
   have A9 := Aside0.mk A90
   clear A90
   by_cases c10 : t236.toList = ([] : List UInt8)
   ·rw [if_pos c10] at H
    have c10b0 : (t236.toList == ([] : List UInt8)) = true := beq_iff_eq.mpr c10
    have c10b1 : (t236.toList != ([] : List UInt8)) = false := bne_eq_false_iff_eq.mpr c10
    clear c10
    (first | rw [c10b0] | (simp only [i64_w, i32_w]; rw [c10b0]) | skip)
    have H' := Aside0.mk H
    clear H
    have hnb11 := NB233_234.out
    have hnc11 := NB234_233.out
    have hcz12_0 : w6.cell? ⟨gb233, 0, none⟩ = some (.slice A0_0 l0_0.length c0_0) := (blk_cell BK233.out 0).trans rfl
    have hfz12_0 := blk_frozen BK233.out 0
    have hcz13_0 : w6.cell? ⟨gb234, 0, none⟩ = some (.int .i64 a2_0) := (blk_cell BK234.out 0).trans rfl
    have hcz13_1 : w6.cell? ⟨gb234, 1, none⟩ = some (.int .i64 a2_1) := (blk_cell BK234.out 1).trans rfl
    have hcz13_2 : w6.cell? ⟨gb234, 2, none⟩ = some (.int .i64 a2_2) := (blk_cell BK234.out 2).trans rfl
    have hcz13_3 : w6.cell? ⟨gb234, 3, none⟩ = some (.int .i64 a2_3) := (blk_cell BK234.out 3).trans rfl
    have hcz13_4 : w6.cell? ⟨gb234, 4, none⟩ = some (.int .i64 a2_4) := (blk_cell BK234.out 4).trans rfl
    have hcz13_5 : w6.cell? ⟨gb234, 5, none⟩ = some (.int .i64 a2_5) := (blk_cell BK234.out 5).trans rfl
    have hcz13_6 : w6.cell? ⟨gb234, 6, none⟩ = some (.slice A2_6 l2_6.length c2_6) := (blk_cell BK234.out 6).trans rfl
    have hfz13_0 := blk_frozen BK234.out 0
    have hfz13_1 := blk_frozen BK234.out 1
    have hfz13_2 := blk_frozen BK234.out 2
    have hfz13_3 := blk_frozen BK234.out 3
    have hfz13_4 := blk_frozen BK234.out 4
    have hfz13_5 := blk_frozen BK234.out 5
    have hfz13_6 := blk_frozen BK234.out 6
    go_wp2_with (first | (go_at_call 86; (with_reducible refine (portolanref04_within.calls a1 0 (wrap64 ((l0_0.length : Int) - 1)) true _ A7.out).mono ?_); rintro e w' ⟨rfl, ⟨nd, rfl⟩⟩; (try first | exact ⟨rfl, _, World.drewN_drewN _ _ _⟩ | exact ⟨rfl, _, Eq.trans (World.drewN_drewN _ _ _) (congrArg (World.drewN _) (Nat.add_assoc _ _ _))⟩)) | (go_at_call 113; (with_reducible refine (portolanref03_Parts.calls k a2_0 t236 _ A9.out).mono ?_); rintro e w' ⟨rfl, ⟨nd, rfl⟩⟩; (try first | exact ⟨rfl, _, World.drewN_drewN _ _ _⟩ | exact ⟨rfl, _, Eq.trans (World.drewN_drewN _ _ _) (congrArg (World.drewN _) (Nat.add_assoc _ _ _))⟩)))
    repeat (go_quiet (first | (go_at_call 86; (with_reducible refine (portolanref04_within.calls a1 0 (wrap64 ((l0_0.length : Int) - 1)) true _ A7.out).mono ?_); rintro e w' ⟨rfl, ⟨nd, rfl⟩⟩; (try first | exact ⟨rfl, _, World.drewN_drewN _ _ _⟩ | exact ⟨rfl, _, Eq.trans (World.drewN_drewN _ _ _) (congrArg (World.drewN _) (Nat.add_assoc _ _ _))⟩)) | (go_at_call 113; (with_reducible refine (portolanref03_Parts.calls k a2_0 t236 _ A9.out).mono ?_); rintro e w' ⟨rfl, ⟨nd, rfl⟩⟩; (try first | exact ⟨rfl, _, World.drewN_drewN _ _ _⟩ | exact ⟨rfl, _, Eq.trans (World.drewN_drewN _ _ _) (congrArg (World.drewN _) (Nat.add_assoc _ _ _))⟩))); try go_wp2_with (first | (go_at_call 86; (with_reducible refine (portolanref04_within.calls a1 0 (wrap64 ((l0_0.length : Int) - 1)) true _ A7.out).mono ?_); rintro e w' ⟨rfl, ⟨nd, rfl⟩⟩; (try first | exact ⟨rfl, _, World.drewN_drewN _ _ _⟩ | exact ⟨rfl, _, Eq.trans (World.drewN_drewN _ _ _) (congrArg (World.drewN _) (Nat.add_assoc _ _ _))⟩)) | (go_at_call 113; (with_reducible refine (portolanref03_Parts.calls k a2_0 t236 _ A9.out).mono ?_); rintro e w' ⟨rfl, ⟨nd, rfl⟩⟩; (try first | exact ⟨rfl, _, World.drewN_drewN _ _ _⟩ | exact ⟨rfl, _, Eq.trans (World.drewN_drewN _ _ _) (congrArg (World.drewN _) (Nat.add_assoc _ _ _))⟩))))
    go_meet
    case rel => exact ⟨_, (true), (by first | rfl | (simp; done) | (simp [*]; done)), H', ⟨by first | omega | exact Nat.le_refl _⟩, ⟨by (with_reducible repeat (first | refine zq1 ?_ _ | refine zq2 ?_ | refine zq3 ?_ _)); exact BK233.out⟩, ⟨by (with_reducible repeat (first | refine zq1 ?_ _ | refine zq2 ?_ | refine zq3 ?_ _)); exact BK234.out⟩, ⟨by repeat (first | (with_reducible first | exact HB.out | apply zq5 | apply zq4 | apply zq6 | refine below_set ?_ GE233.out | refine below_set ?_ GE234.out) | exact HB.out)⟩⟩
   ·rw [if_neg c10] at H
    have c10b0 : (t236.toList == ([] : List UInt8)) = false := beq_eq_false_iff_ne.mpr c10
    have c10b1 : (t236.toList != ([] : List UInt8)) = true := bne_iff_ne.mpr c10
    (first | rw [c10b0] | (simp only [i64_w, i32_w]; rw [c10b0]) | skip)
    replace H := Option.bind_eq_some_iff.mp H
    obtain ⟨t237, A140, H⟩ := H
    replace H : (portolanref04_Ins.j0 k a1 (!t237) l0_0 a2_0 a2_1 a2_2 a2_3 a2_4 a2_5 l2_6) = some r := H
    have A14 := Aside0.mk A140
    clear A140
    have H' := Aside0.mk H
    clear H
    have hnb15 := NB233_234.out
    have hnc15 := NB234_233.out
    have hcz16_0 : w6.cell? ⟨gb233, 0, none⟩ = some (.slice A0_0 l0_0.length c0_0) := (blk_cell BK233.out 0).trans rfl
    have hfz16_0 := blk_frozen BK233.out 0
    have hcz17_0 : w6.cell? ⟨gb234, 0, none⟩ = some (.int .i64 a2_0) := (blk_cell BK234.out 0).trans rfl
    have hcz17_1 : w6.cell? ⟨gb234, 1, none⟩ = some (.int .i64 a2_1) := (blk_cell BK234.out 1).trans rfl
    have hcz17_2 : w6.cell? ⟨gb234, 2, none⟩ = some (.int .i64 a2_2) := (blk_cell BK234.out 2).trans rfl
    have hcz17_3 : w6.cell? ⟨gb234, 3, none⟩ = some (.int .i64 a2_3) := (blk_cell BK234.out 3).trans rfl
    have hcz17_4 : w6.cell? ⟨gb234, 4, none⟩ = some (.int .i64 a2_4) := (blk_cell BK234.out 4).trans rfl
    have hcz17_5 : w6.cell? ⟨gb234, 5, none⟩ = some (.int .i64 a2_5) := (blk_cell BK234.out 5).trans rfl
    have hcz17_6 : w6.cell? ⟨gb234, 6, none⟩ = some (.slice A2_6 l2_6.length c2_6) := (blk_cell BK234.out 6).trans rfl
    have hfz17_0 := blk_frozen BK234.out 0
    have hfz17_1 := blk_frozen BK234.out 1
    have hfz17_2 := blk_frozen BK234.out 2
    have hfz17_3 := blk_frozen BK234.out 3
    have hfz17_4 := blk_frozen BK234.out 4
    have hfz17_5 := blk_frozen BK234.out 5
    have hfz17_6 := blk_frozen BK234.out 6
    go_wp2_with (first | (go_at_call 86; (with_reducible refine (portolanref04_within.calls a1 0 (wrap64 ((l0_0.length : Int) - 1)) true _ A7.out).mono ?_); rintro e w' ⟨rfl, ⟨nd, rfl⟩⟩; (try first | exact ⟨rfl, _, World.drewN_drewN _ _ _⟩ | exact ⟨rfl, _, Eq.trans (World.drewN_drewN _ _ _) (congrArg (World.drewN _) (Nat.add_assoc _ _ _))⟩)) | (go_at_call 113; (with_reducible refine (portolanref03_Parts.calls k a2_0 t236 _ A9.out).mono ?_); rintro e w' ⟨rfl, ⟨nd, rfl⟩⟩; (try first | exact ⟨rfl, _, World.drewN_drewN _ _ _⟩ | exact ⟨rfl, _, Eq.trans (World.drewN_drewN _ _ _) (congrArg (World.drewN _) (Nat.add_assoc _ _ _))⟩)) | (go_at_call 114; (with_reducible refine (portolanref04_bare.calls a2_0 a2_1 a2_2 a2_3 a2_4 a2_5 _ _ l2_6 t237 _ ?side1 ?side2 A14.out).mono ?_); (case side1 => repeat (first | exact (Kd.C_below HR2_6.out (by repeat (first | (with_reducible first | exact HB.out | apply zq5 | apply zq4 | apply zq6 | refine below_set ?_ GE233.out | refine below_set ?_ GE234.out) | exact HB.out))) | (with_reducible refine Kd.C_alloc ?_ _) | (with_reducible refine Kd.C_drewN ?_ _) | (with_reducible refine Kd.C_drew ?_))); (case side2 => exact HC2_6.out); rintro e w18 ⟨rfl, hb⟩; have n0_ := Aside0.mk (blk_below (g := gb233) (o := .cells #[.slice A0_0 l0_0.length c0_0] 24 (0, 0)) (by (with_reducible repeat (first | refine zq1 ?_ _ | refine zq2 ?_ | refine zq3 ?_ _)); exact BK233.out) hb); have n1_ := Aside0.mk (blk_below (g := gb234) (o := .cells #[.int .i64 a2_0, .int .i64 a2_1, .int .i64 a2_2, .int .i64 a2_3, .int .i64 a2_4, .int .i64 a2_5, .slice A2_6 l2_6.length c2_6] 52 (0, 0)) (by (with_reducible repeat (first | refine zq1 ?_ _ | refine zq2 ?_ | refine zq3 ?_ _)); exact BK234.out) hb); have n2_ := Aside0.mk (below_step (by repeat (first | (with_reducible first | exact HB.out | apply zq5 | apply zq4 | apply zq6 | refine below_set ?_ GE233.out | refine below_set ?_ GE234.out) | exact HB.out)) hb); clear BK233; clear BK234; clear HB; have BK233 := n0_; have BK234 := n1_; have HB := n2_; clear n0_ n1_ n2_; (try clear hb); (try clear hb2); (try clear hk); (try clear hi)))
    repeat (go_quiet (first | (go_at_call 86; (with_reducible refine (portolanref04_within.calls a1 0 (wrap64 ((l0_0.length : Int) - 1)) true _ A7.out).mono ?_); rintro e w' ⟨rfl, ⟨nd, rfl⟩⟩; (try first | exact ⟨rfl, _, World.drewN_drewN _ _ _⟩ | exact ⟨rfl, _, Eq.trans (World.drewN_drewN _ _ _) (congrArg (World.drewN _) (Nat.add_assoc _ _ _))⟩)) | (go_at_call 113; (with_reducible refine (portolanref03_Parts.calls k a2_0 t236 _ A9.out).mono ?_); rintro e w' ⟨rfl, ⟨nd, rfl⟩⟩; (try first | exact ⟨rfl, _, World.drewN_drewN _ _ _⟩ | exact ⟨rfl, _, Eq.trans (World.drewN_drewN _ _ _) (congrArg (World.drewN _) (Nat.add_assoc _ _ _))⟩)) | (go_at_call 114; (with_reducible refine (portolanref04_bare.calls a2_0 a2_1 a2_2 a2_3 a2_4 a2_5 _ _ l2_6 t237 _ ?side1 ?side2 A14.out).mono ?_); (case side1 => repeat (first | exact (Kd.C_below HR2_6.out (by repeat (first | (with_reducible first | exact HB.out | apply zq5 | apply zq4 | apply zq6 | refine below_set ?_ GE233.out | refine below_set ?_ GE234.out) | exact HB.out))) | (with_reducible refine Kd.C_alloc ?_ _) | (with_reducible refine Kd.C_drewN ?_ _) | (with_reducible refine Kd.C_drew ?_))); (case side2 => exact HC2_6.out); rintro e w18 ⟨rfl, hb⟩; have n0_ := Aside0.mk (blk_below (g := gb233) (o := .cells #[.slice A0_0 l0_0.length c0_0] 24 (0, 0)) (by (with_reducible repeat (first | refine zq1 ?_ _ | refine zq2 ?_ | refine zq3 ?_ _)); exact BK233.out) hb); have n1_ := Aside0.mk (blk_below (g := gb234) (o := .cells #[.int .i64 a2_0, .int .i64 a2_1, .int .i64 a2_2, .int .i64 a2_3, .int .i64 a2_4, .int .i64 a2_5, .slice A2_6 l2_6.length c2_6] 52 (0, 0)) (by (with_reducible repeat (first | refine zq1 ?_ _ | refine zq2 ?_ | refine zq3 ?_ _)); exact BK234.out) hb); have n2_ := Aside0.mk (below_step (by repeat (first | (with_reducible first | exact HB.out | apply zq5 | apply zq4 | apply zq6 | refine below_set ?_ GE233.out | refine below_set ?_ GE234.out) | exact HB.out)) hb); clear BK233; clear BK234; clear HB; have BK233 := n0_; have BK234 := n1_; have HB := n2_; clear n0_ n1_ n2_; (try clear hb); (try clear hb2); (try clear hk); (try clear hi))); try go_wp2_with (first | (go_at_call 86; (with_reducible refine (portolanref04_within.calls a1 0 (wrap64 ((l0_0.length : Int) - 1)) true _ A7.out).mono ?_); rintro e w' ⟨rfl, ⟨nd, rfl⟩⟩; (try first | exact ⟨rfl, _, World.drewN_drewN _ _ _⟩ | exact ⟨rfl, _, Eq.trans (World.drewN_drewN _ _ _) (congrArg (World.drewN _) (Nat.add_assoc _ _ _))⟩)) | (go_at_call 113; (with_reducible refine (portolanref03_Parts.calls k a2_0 t236 _ A9.out).mono ?_); rintro e w' ⟨rfl, ⟨nd, rfl⟩⟩; (try first | exact ⟨rfl, _, World.drewN_drewN _ _ _⟩ | exact ⟨rfl, _, Eq.trans (World.drewN_drewN _ _ _) (congrArg (World.drewN _) (Nat.add_assoc _ _ _))⟩)) | (go_at_call 114; (with_reducible refine (portolanref04_bare.calls a2_0 a2_1 a2_2 a2_3 a2_4 a2_5 _ _ l2_6 t237 _ ?side1 ?side2 A14.out).mono ?_); (case side1 => repeat (first | exact (Kd.C_below HR2_6.out (by repeat (first | (with_reducible first | exact HB.out | apply zq5 | apply zq4 | apply zq6 | refine below_set ?_ GE233.out | refine below_set ?_ GE234.out) | exact HB.out))) | (with_reducible refine Kd.C_alloc ?_ _) | (with_reducible refine Kd.C_drewN ?_ _) | (with_reducible refine Kd.C_drew ?_))); (case side2 => exact HC2_6.out); rintro e w18 ⟨rfl, hb⟩; have n0_ := Aside0.mk (blk_below (g := gb233) (o := .cells #[.slice A0_0 l0_0.length c0_0] 24 (0, 0)) (by (with_reducible repeat (first | refine zq1 ?_ _ | refine zq2 ?_ | refine zq3 ?_ _)); exact BK233.out) hb); have n1_ := Aside0.mk (blk_below (g := gb234) (o := .cells #[.int .i64 a2_0, .int .i64 a2_1, .int .i64 a2_2, .int .i64 a2_3, .int .i64 a2_4, .int .i64 a2_5, .slice A2_6 l2_6.length c2_6] 52 (0, 0)) (by (with_reducible repeat (first | refine zq1 ?_ _ | refine zq2 ?_ | refine zq3 ?_ _)); exact BK234.out) hb); have n2_ := Aside0.mk (below_step (by repeat (first | (with_reducible first | exact HB.out | apply zq5 | apply zq4 | apply zq6 | refine below_set ?_ GE233.out | refine below_set ?_ GE234.out) | exact HB.out)) hb); clear BK233; clear BK234; clear HB; have BK233 := n0_; have BK234 := n1_; have HB := n2_; clear n0_ n1_ n2_; (try clear hb); (try clear hb2); (try clear hk); (try clear hi))))
    go_meet
    case rel => exact ⟨_, (!t237), (by first | rfl | (simp; done) | (simp [*]; done)), H', ⟨by first | omega | exact Nat.le_refl _⟩, ⟨by (with_reducible repeat (first | refine zq1 ?_ _ | refine zq2 ?_ | refine zq3 ?_ _)); exact BK233.out⟩, ⟨by (with_reducible repeat (first | refine zq1 ?_ _ | refine zq2 ?_ | refine zq3 ?_ _)); exact BK234.out⟩, ⟨by repeat (first | (with_reducible first | exact HB.out | apply zq5 | apply zq4 | apply zq6 | refine below_set ?_ GE233.out | refine below_set ?_ GE234.out) | exact HB.out)⟩⟩
  ·replace c8 := Bool.eq_false_iff.mpr c8
   subst c8
   have H1 : (portolanref04_Ins.j0 k a1 true l0_0 a2_0 a2_1 a2_2 a2_3 a2_4 a2_5 l2_6) = some r := by first | (rw [if_neg (show ¬ (false = true) by decide)] at H; exact H) | rfl
   clear H
   have H := H1
   clear H1
   have H' := Aside0.mk H
   clear H
   have hnb19 := NB233_234.out
   have hnc19 := NB234_233.out
   have hcz20_0 : w6.cell? ⟨gb233, 0, none⟩ = some (.slice A0_0 l0_0.length c0_0) := (blk_cell BK233.out 0).trans rfl
   have hfz20_0 := blk_frozen BK233.out 0
   go_wp2_with (first | (go_at_call 86; (with_reducible refine (portolanref04_within.calls a1 0 (wrap64 ((l0_0.length : Int) - 1)) false _ A7.out).mono ?_); rintro e w' ⟨rfl, ⟨nd, rfl⟩⟩; (try first | exact ⟨rfl, _, World.drewN_drewN _ _ _⟩ | exact ⟨rfl, _, Eq.trans (World.drewN_drewN _ _ _) (congrArg (World.drewN _) (Nat.add_assoc _ _ _))⟩)))
   repeat (go_quiet (first | (go_at_call 86; (with_reducible refine (portolanref04_within.calls a1 0 (wrap64 ((l0_0.length : Int) - 1)) false _ A7.out).mono ?_); rintro e w' ⟨rfl, ⟨nd, rfl⟩⟩; (try first | exact ⟨rfl, _, World.drewN_drewN _ _ _⟩ | exact ⟨rfl, _, Eq.trans (World.drewN_drewN _ _ _) (congrArg (World.drewN _) (Nat.add_assoc _ _ _))⟩))); try go_wp2_with (first | (go_at_call 86; (with_reducible refine (portolanref04_within.calls a1 0 (wrap64 ((l0_0.length : Int) - 1)) false _ A7.out).mono ?_); rintro e w' ⟨rfl, ⟨nd, rfl⟩⟩; (try first | exact ⟨rfl, _, World.drewN_drewN _ _ _⟩ | exact ⟨rfl, _, Eq.trans (World.drewN_drewN _ _ _) (congrArg (World.drewN _) (Nat.add_assoc _ _ _))⟩))))
   go_meet
   case rel => exact ⟨_, (true), (by first | rfl | (simp; done) | (simp [*]; done)), H', ⟨by first | omega | exact Nat.le_refl _⟩, ⟨by (with_reducible repeat (first | refine zq1 ?_ _ | refine zq2 ?_ | refine zq3 ?_ _)); exact BK233.out⟩, ⟨by (with_reducible repeat (first | refine zq1 ?_ _ | refine zq2 ?_ | refine zq3 ?_ _)); exact BK234.out⟩, ⟨by repeat (first | (with_reducible first | exact HB.out | apply zq5 | apply zq4 | apply zq6 | refine below_set ?_ GE233.out | refine below_set ?_ GE234.out) | exact HB.out)⟩⟩
 case rest =>
  clear HC4
  try clear c1
  try clear c2
  try clear p2
  try clear p6
  try clear c8
  try clear c10
  try clear c10b0
  try clear c10b1
  try clear c11
  try clear c15
  try clear c19
  try clear hcz12_0
  try clear hcz13_0
  try clear hcz13_1
  try clear hcz13_2
  try clear hcz13_3
  try clear hcz13_4
  try clear hcz13_5
  try clear hcz13_6
  try clear hcz16_0
  try clear hcz17_0
  try clear hcz17_1
  try clear hcz17_2
  try clear hcz17_3
  try clear hcz17_4
  try clear hcz17_5
  try clear hcz17_6
  try clear hcz20_0
  try clear hfz12_0
  try clear hfz13_0
  try clear hfz13_1
  try clear hfz13_2
  try clear hfz13_3
  try clear hfz13_4
  try clear hfz13_5
  try clear hfz13_6
  try clear hfz16_0
  try clear hfz17_0
  try clear hfz17_1
  try clear hfz17_2
  try clear hfz17_3
  try clear hfz17_4
  try clear hfz17_5
  try clear hfz17_6
  try clear hfz20_0
  obtain ⟨kq, x31_3, rfl, HA, HJ3, BK233, BK234, HB⟩ := hcut
  cases kq with
  | zero => exact absurd HA.out (by simp [portolanref04_Ins.j0])
  | succ kj3 =>
   have H := HA.out
   clear HA
   simp only [portolanref04_Ins.j0] at H
   by_cases c21 : x31_3 = true
   ·subst c21
    have H1 : (some false) = some r := by first | (rw [if_pos rfl] at H; exact H) | rfl
    clear H
    have H := H1
    clear H1
    obtain rfl := Option.some.inj H
    go_wp2
    repeat (go_quiet (fail); try go_wp2)
    go_ret
    exact ⟨by first | rfl | (simp [errW_none, errW_some] <;> rfl) | (simp [*, errW_none, errW_some] <;> rfl), by repeat (first | (with_reducible first | exact HB.out | apply zq5 | apply zq4 | apply zq6 | refine below_set ?_ GE233.out | refine below_set ?_ GE234.out) | exact HB.out)⟩
   ·replace c21 := Bool.eq_false_iff.mpr c21
    subst c21
    have H1 : (if 0 ≤ a1 then (if a1 < (l0_0.length : Int) then ((portolanref04_Uses.f kj3 a2_0 a2_1 a2_2 a2_3 a2_4 a2_5 l2_6).bind fun t240 => ((portolanref04_Sets.f kj3 a2_0 a2_1 a2_2 a2_3 a2_4 a2_5 l2_6).bind fun bt243 => (if bt243.2 = true then (if t240.length < 17592186044416 then (portolanref04_Ins.j1 kj3 (t240 ++ [bt243.1]) l0_0 a2_0 a2_1 a2_2 a2_3 a2_4 a2_5 l2_6 ((rd_T30 l0_0 a1).f0) ((rd_T30 l0_0 a1).f1) ((rd_T30 l0_0 a1).f2) ((rd_T30 l0_0 a1).f3) ((rd_T30 l0_0 a1).f4)) else (none)) else (portolanref04_Ins.j1 kj3 t240 l0_0 a2_0 a2_1 a2_2 a2_3 a2_4 a2_5 l2_6 ((rd_T30 l0_0 a1).f0) ((rd_T30 l0_0 a1).f1) ((rd_T30 l0_0 a1).f2) ((rd_T30 l0_0 a1).f3) ((rd_T30 l0_0 a1).f4))))) else (none)) else (none)) = some r := by first | (rw [if_neg (show ¬ (false = true) by decide)] at H; exact H) | rfl
    clear H
    have H := H1
    clear H1
    by_cases c22 : 0 ≤ a1
    ·rw [if_pos c22] at H
     have c22b0 : decide (0 ≤ a1) = true := decide_eq_true c22
     clear c22
     by_cases c23 : a1 < (l0_0.length : Int)
     ·rw [if_pos c23] at H
      have c23b0 : decide (a1 < (l0_0.length : Int)) = true := decide_eq_true c23
      clear c23
      replace H := Option.bind_eq_some_iff.mp H
      obtain ⟨t240, A240, H⟩ := H
      replace H : ((portolanref04_Sets.f kj3 a2_0 a2_1 a2_2 a2_3 a2_4 a2_5 l2_6).bind fun bt243 => (if bt243.2 = true then (if t240.length < 17592186044416 then (portolanref04_Ins.j1 kj3 (t240 ++ [bt243.1]) l0_0 a2_0 a2_1 a2_2 a2_3 a2_4 a2_5 l2_6 ((rd_T30 l0_0 a1).f0) ((rd_T30 l0_0 a1).f1) ((rd_T30 l0_0 a1).f2) ((rd_T30 l0_0 a1).f3) ((rd_T30 l0_0 a1).f4)) else (none)) else (portolanref04_Ins.j1 kj3 t240 l0_0 a2_0 a2_1 a2_2 a2_3 a2_4 a2_5 l2_6 ((rd_T30 l0_0 a1).f0) ((rd_T30 l0_0 a1).f1) ((rd_T30 l0_0 a1).f2) ((rd_T30 l0_0 a1).f3) ((rd_T30 l0_0 a1).f4)))) = some r := H
      have A24 := Aside0.mk A240
      clear A240
      replace H := Option.bind_eq_some_iff.mp H
      obtain ⟨⟨t243, t244⟩, A250, H⟩ := H
      replace H : (if t244 = true then (if t240.length < 17592186044416 then (portolanref04_Ins.j1 kj3 (t240 ++ [t243]) l0_0 a2_0 a2_1 a2_2 a2_3 a2_4 a2_5 l2_6 ((rd_T30 l0_0 a1).f0) ((rd_T30 l0_0 a1).f1) ((rd_T30 l0_0 a1).f2) ((rd_T30 l0_0 a1).f3) ((rd_T30 l0_0 a1).f4)) else (none)) else (portolanref04_Ins.j1 kj3 t240 l0_0 a2_0 a2_1 a2_2 a2_3 a2_4 a2_5 l2_6 ((rd_T30 l0_0 a1).f0) ((rd_T30 l0_0 a1).f1) ((rd_T30 l0_0 a1).f2) ((rd_T30 l0_0 a1).f3) ((rd_T30 l0_0 a1).f4))) = some r := H
      have A25 := Aside0.mk A250
      clear A250
      have HC26 := Aside0.mk H
      clear H
      have hnb27 := NB233_234.out
      have hnc27 := NB234_233.out
      have hcz28_0 : wc.cell? ⟨gb233, 0, none⟩ = some (.slice A0_0 l0_0.length c0_0) := (blk_cell BK233.out 0).trans rfl
      have hfz28_0 := blk_frozen BK233.out 0
      have p238 : 0 ≤ (a1 : Int) := of_decide_eq_true (by first | (with_reducible assumption) | assumption)
      have q238 : a1 < (l0_0.length : Int) := of_decide_eq_true (by first | (with_reducible assumption) | assumption)
      obtain ⟨ad238, A238_0, c238_0, A238_1, c238_1, A238_4, c238_4, e238, hx238_0, hx238_1, hx238_2, hx238_3, hx238_4, hl238_0, hi238_0, hl238_1, hi238_1, hl238_4, hi238_4⟩ := at_T30 HR0_0.out a1 p238 q238
      cases e238
      replace hx238_0 := (HB.out.cell (World.block_lt_of_cell? w _ hx238_0)).trans hx238_0
      replace hx238_1 := (HB.out.cell (World.block_lt_of_cell? w _ hx238_1)).trans hx238_1
      replace hx238_2 := (HB.out.cell (World.block_lt_of_cell? w _ hx238_2)).trans hx238_2
      replace hx238_3 := (HB.out.cell (World.block_lt_of_cell? w _ hx238_3)).trans hx238_3
      replace hx238_4 := (HB.out.cell (World.block_lt_of_cell? w _ hx238_4)).trans hx238_4
      have HR238_0 := Aside0.mk hi238_0
      have HC238_0 := Aside0.mk hl238_0
      clear hi238_0 hl238_0
      have HR238_1 := Aside0.mk hi238_1
      have HC238_1 := Aside0.mk hl238_1
      clear hi238_1 hl238_1
      have HR238_4 := Aside0.mk hi238_4
      have HC238_4 := Aside0.mk hl238_4
      clear hi238_4 hl238_4
      replace p238 := eq_true p238
      replace q238 := eq_true q238
      go_upto_if 44 with (first | ((with_reducible refine gate_dst (N := 7) rfl ?_); (try (refine gate_guard (by rfl) ?_; dsimp only)); refine box_event ?hg (N := 7) ?hd (cs := #[.slice none 0 0, .slice none 0 0, .int .i64 0, .int .i64 0, .slice none 0 0]) (t := 30) ?hr ?_; (case hd => rfl); (case hg => rfl); (case hr => first | (go_simp; done) | (go_simp; rfl)); intro gb239 hg w29 hbox hb; have n0_ := Aside0.mk (blk_below (g := gb233) (o := .cells #[.slice (some ad238) l0_0.length c0_0] 24 (0, 0)) (by (with_reducible repeat (first | refine zq1 ?_ _ | refine zq2 ?_ | refine zq3 ?_ _)); exact BK233.out) hb); have n1_ := Aside0.mk (blk_below (g := gb234) (o := .cells #[.int .i64 a2_0, .int .i64 a2_1, .int .i64 a2_2, .int .i64 a2_3, .int .i64 a2_4, .int .i64 a2_5, .slice A2_6 l2_6.length c2_6] 52 (0, 0)) (by (with_reducible repeat (first | refine zq1 ?_ _ | refine zq2 ?_ | refine zq3 ?_ _)); exact BK234.out) hb); have n2_ := Aside0.mk (below_step (by repeat (first | (with_reducible first | exact HB.out | apply zq5 | apply zq4 | apply zq6 | refine below_set ?_ GE233.out | refine below_set ?_ GE234.out) | exact HB.out)) hb); have n3_ := Aside0.mk (hbox); have n4_ := Aside0.mk ((by rw [hg]; exact (below_size (by repeat (first | (with_reducible first | exact HB.out | apply zq5 | apply zq4 | apply zq6 | refine below_set ?_ GE233.out | refine below_set ?_ GE234.out) | exact HB.out))) : w.heap.size ≤ gb239)); have n5_ := Aside0.mk ((by rw [hg]; exact (below_size (by repeat (first | (with_reducible first | exact HB.out | apply zq5 | apply zq4 | apply zq6 | refine below_set ?_ GE233.out | refine below_set ?_ GE234.out) | exact HB.out))) : w.heap.size ≤ gb239)); have n6_ := Aside0.mk ((by rw [hg]; exact Nat.ne_of_lt (blk_lt (g := gb233) (o := .cells #[.slice (some ad238) l0_0.length c0_0] 24 (0, 0)) (by (with_reducible repeat (first | refine zq1 ?_ _ | refine zq2 ?_ | refine zq3 ?_ _)); exact BK233.out)) : gb233 ≠ gb239)); have n7_ := Aside0.mk ((by rw [hg]; exact Nat.ne_of_gt (blk_lt (g := gb233) (o := .cells #[.slice (some ad238) l0_0.length c0_0] 24 (0, 0)) (by (with_reducible repeat (first | refine zq1 ?_ _ | refine zq2 ?_ | refine zq3 ?_ _)); exact BK233.out)) : gb239 ≠ gb233)); have n8_ := Aside0.mk ((by rw [hg]; exact Nat.ne_of_lt (blk_lt (g := gb234) (o := .cells #[.int .i64 a2_0, .int .i64 a2_1, .int .i64 a2_2, .int .i64 a2_3, .int .i64 a2_4, .int .i64 a2_5, .slice A2_6 l2_6.length c2_6] 52 (0, 0)) (by (with_reducible repeat (first | refine zq1 ?_ _ | refine zq2 ?_ | refine zq3 ?_ _)); exact BK234.out)) : gb234 ≠ gb239)); have n9_ := Aside0.mk ((by rw [hg]; exact Nat.ne_of_gt (blk_lt (g := gb234) (o := .cells #[.int .i64 a2_0, .int .i64 a2_1, .int .i64 a2_2, .int .i64 a2_3, .int .i64 a2_4, .int .i64 a2_5, .slice A2_6 l2_6.length c2_6] 52 (0, 0)) (by (with_reducible repeat (first | refine zq1 ?_ _ | refine zq2 ?_ | refine zq3 ?_ _)); exact BK234.out)) : gb239 ≠ gb234)); clear BK233; clear BK234; clear HB; have BK233 := n0_; have BK234 := n1_; have HB := n2_; have BK239 := n3_; have GW239 := n4_; have GE239 := n5_; have NB233_239 := n6_; have NB239_233 := n7_; have NB234_239 := n8_; have NB239_234 := n9_; clear n0_ n1_ n2_ n3_ n4_ n5_ n6_ n7_ n8_ n9_; clear hb hbox hg; have hnb30 := NB239_233.out; have hnc30 := NB233_239.out; have hnb31 := NB239_234.out; have hnc31 := NB234_239.out; have hcz32_0 : w29.cell? ⟨gb239, 0, none⟩ = some (.slice none 0 0) := (blk_cell BK239.out 0).trans rfl; have hcz32_1 : w29.cell? ⟨gb239, 1, none⟩ = some (.slice none 0 0) := (blk_cell BK239.out 1).trans rfl; have hcz32_2 : w29.cell? ⟨gb239, 2, none⟩ = some (.int .i64 0) := (blk_cell BK239.out 2).trans rfl; have hcz32_3 : w29.cell? ⟨gb239, 3, none⟩ = some (.int .i64 0) := (blk_cell BK239.out 3).trans rfl; have hcz32_4 : w29.cell? ⟨gb239, 4, none⟩ = some (.slice none 0 0) := (blk_cell BK239.out 4).trans rfl; have hfz32_0 := blk_frozen BK239.out 0; have hfz32_1 := blk_frozen BK239.out 1; have hfz32_2 := blk_frozen BK239.out 2; have hfz32_3 := blk_frozen BK239.out 3; have hfz32_4 := blk_frozen BK239.out 4; have hcz33_0 : w29.cell? ⟨gb234, 0, none⟩ = some (.int .i64 a2_0) := (blk_cell BK234.out 0).trans rfl; have hcz33_1 : w29.cell? ⟨gb234, 1, none⟩ = some (.int .i64 a2_1) := (blk_cell BK234.out 1).trans rfl; have hcz33_2 : w29.cell? ⟨gb234, 2, none⟩ = some (.int .i64 a2_2) := (blk_cell BK234.out 2).trans rfl; have hcz33_3 : w29.cell? ⟨gb234, 3, none⟩ = some (.int .i64 a2_3) := (blk_cell BK234.out 3).trans rfl; have hcz33_4 : w29.cell? ⟨gb234, 4, none⟩ = some (.int .i64 a2_4) := (blk_cell BK234.out 4).trans rfl; have hcz33_5 : w29.cell? ⟨gb234, 5, none⟩ = some (.int .i64 a2_5) := (blk_cell BK234.out 5).trans rfl; have hcz33_6 : w29.cell? ⟨gb234, 6, none⟩ = some (.slice A2_6 l2_6.length c2_6) := (blk_cell BK234.out 6).trans rfl; have hfz33_0 := blk_frozen BK234.out 0; have hfz33_1 := blk_frozen BK234.out 1; have hfz33_2 := blk_frozen BK234.out 2; have hfz33_3 := blk_frozen BK234.out 3; have hfz33_4 := blk_frozen BK234.out 4; have hfz33_5 := blk_frozen BK234.out 5; have hfz33_6 := blk_frozen BK234.out 6) | (go_at_call 74; (with_reducible refine (portolanref04_Uses.calls kj3 a2_0 a2_1 a2_2 a2_3 a2_4 a2_5 _ _ l2_6 t240 _ ?side1 ?side2 A24.out).mono ?_); (case side1 => exact Kd.C_below HR2_6.out (by repeat (first | (with_reducible first | exact HB.out | apply zq5 | apply zq4 | apply zq6 | refine below_set ?_ GE233.out | refine below_set ?_ GE234.out | refine below_set ?_ GE239.out) | exact HB.out))); (case side2 => exact HC2_6.out); rintro e w34 ⟨v241, rfl, ho0, hb⟩; have n0_ := Aside0.mk (Kd.R_lower ho0 (below_size (by repeat (first | (with_reducible first | exact HB.out | apply zq5 | apply zq4 | apply zq6 | refine below_set ?_ GE233.out | refine below_set ?_ GE234.out | refine below_set ?_ GE239.out) | exact HB.out)))); have n1_ := Aside0.mk (blk_below (g := gb233) (o := .cells #[.slice (some ad238) l0_0.length c0_0] 24 (0, 0)) (by (with_reducible repeat (first | refine zq1 ?_ _ | refine zq2 ?_ | refine zq3 ?_ _)); refine blk_far ?_ NB233_239.out _; (with_reducible repeat (first | refine zq1 ?_ _ | refine zq2 ?_ | refine zq3 ?_ _)); refine blk_far ?_ NB233_239.out _; (with_reducible repeat (first | refine zq1 ?_ _ | refine zq2 ?_ | refine zq3 ?_ _)); refine blk_far ?_ NB233_239.out _; (with_reducible repeat (first | refine zq1 ?_ _ | refine zq2 ?_ | refine zq3 ?_ _)); refine blk_far ?_ NB233_239.out _; (with_reducible repeat (first | refine zq1 ?_ _ | refine zq2 ?_ | refine zq3 ?_ _)); refine blk_far ?_ NB233_239.out _; (with_reducible repeat (first | refine zq1 ?_ _ | refine zq2 ?_ | refine zq3 ?_ _)); exact BK233.out) hb); have n2_ := Aside0.mk (blk_below (g := gb234) (o := .cells #[.int .i64 a2_0, .int .i64 a2_1, .int .i64 a2_2, .int .i64 a2_3, .int .i64 a2_4, .int .i64 a2_5, .slice A2_6 l2_6.length c2_6] 52 (0, 0)) (by (with_reducible repeat (first | refine zq1 ?_ _ | refine zq2 ?_ | refine zq3 ?_ _)); refine blk_far ?_ NB234_239.out _; (with_reducible repeat (first | refine zq1 ?_ _ | refine zq2 ?_ | refine zq3 ?_ _)); refine blk_far ?_ NB234_239.out _; (with_reducible repeat (first | refine zq1 ?_ _ | refine zq2 ?_ | refine zq3 ?_ _)); refine blk_far ?_ NB234_239.out _; (with_reducible repeat (first | refine zq1 ?_ _ | refine zq2 ?_ | refine zq3 ?_ _)); refine blk_far ?_ NB234_239.out _; (with_reducible repeat (first | refine zq1 ?_ _ | refine zq2 ?_ | refine zq3 ?_ _)); refine blk_far ?_ NB234_239.out _; (with_reducible repeat (first | refine zq1 ?_ _ | refine zq2 ?_ | refine zq3 ?_ _)); exact BK234.out) hb); have n3_ := Aside0.mk (blk_below (g := gb239) (o := .cells #[.slice A238_0 ((rd_T30 l0_0 a1).f0).length c238_0, .slice A238_1 ((rd_T30 l0_0 a1).f1).length c238_1, .int .i64 ((rd_T30 l0_0 a1).f2), .int .i64 ((rd_T30 l0_0 a1).f3), .slice A238_4 ((rd_T30 l0_0 a1).f4).length c238_4] 30 (0, 0)) (by (with_reducible repeat (first | refine zq1 ?_ _ | refine zq2 ?_ | refine zq3 ?_ _)); refine blk_put (cs := #[.slice A238_0 ((rd_T30 l0_0 a1).f0).length c238_0, .slice A238_1 ((rd_T30 l0_0 a1).f1).length c238_1, .int .i64 ((rd_T30 l0_0 a1).f2), .int .i64 ((rd_T30 l0_0 a1).f3), .slice none 0 0]) ?_ 4 _ rfl; (with_reducible repeat (first | refine zq1 ?_ _ | refine zq2 ?_ | refine zq3 ?_ _)); refine blk_put (cs := #[.slice A238_0 ((rd_T30 l0_0 a1).f0).length c238_0, .slice A238_1 ((rd_T30 l0_0 a1).f1).length c238_1, .int .i64 ((rd_T30 l0_0 a1).f2), .int .i64 0, .slice none 0 0]) ?_ 3 _ rfl; (with_reducible repeat (first | refine zq1 ?_ _ | refine zq2 ?_ | refine zq3 ?_ _)); refine blk_put (cs := #[.slice A238_0 ((rd_T30 l0_0 a1).f0).length c238_0, .slice A238_1 ((rd_T30 l0_0 a1).f1).length c238_1, .int .i64 0, .int .i64 0, .slice none 0 0]) ?_ 2 _ rfl; (with_reducible repeat (first | refine zq1 ?_ _ | refine zq2 ?_ | refine zq3 ?_ _)); refine blk_put (cs := #[.slice A238_0 ((rd_T30 l0_0 a1).f0).length c238_0, .slice none 0 0, .int .i64 0, .int .i64 0, .slice none 0 0]) ?_ 1 _ rfl; (with_reducible repeat (first | refine zq1 ?_ _ | refine zq2 ?_ | refine zq3 ?_ _)); refine blk_put (cs := #[.slice none 0 0, .slice none 0 0, .int .i64 0, .int .i64 0, .slice none 0 0]) ?_ 0 _ rfl; (with_reducible repeat (first | refine zq1 ?_ _ | refine zq2 ?_ | refine zq3 ?_ _)); exact BK239.out) hb); have n4_ := Aside0.mk (below_step (by repeat (first | (with_reducible first | exact HB.out | apply zq5 | apply zq4 | apply zq6 | refine below_set ?_ GE233.out | refine below_set ?_ GE234.out | refine below_set ?_ GE239.out) | exact HB.out)) hb); clear BK233; clear BK234; clear BK239; clear HB; have HO242 := n0_; have BK233 := n1_; have BK234 := n2_; have BK239 := n3_; have HB := n4_; clear n0_ n1_ n2_ n3_ n4_; (try clear hb); (try clear hb2); (try clear hk); (try clear hi); (try clear ho0); have hcz35_0 : w34.cell? ⟨gb234, 0, none⟩ = some (.int .i64 a2_0) := (blk_cell BK234.out 0).trans rfl; have hcz35_1 : w34.cell? ⟨gb234, 1, none⟩ = some (.int .i64 a2_1) := (blk_cell BK234.out 1).trans rfl; have hcz35_2 : w34.cell? ⟨gb234, 2, none⟩ = some (.int .i64 a2_2) := (blk_cell BK234.out 2).trans rfl; have hcz35_3 : w34.cell? ⟨gb234, 3, none⟩ = some (.int .i64 a2_3) := (blk_cell BK234.out 3).trans rfl; have hcz35_4 : w34.cell? ⟨gb234, 4, none⟩ = some (.int .i64 a2_4) := (blk_cell BK234.out 4).trans rfl; have hcz35_5 : w34.cell? ⟨gb234, 5, none⟩ = some (.int .i64 a2_5) := (blk_cell BK234.out 5).trans rfl; have hcz35_6 : w34.cell? ⟨gb234, 6, none⟩ = some (.slice A2_6 l2_6.length c2_6) := (blk_cell BK234.out 6).trans rfl; have hfz35_0 := blk_frozen BK234.out 0; have hfz35_1 := blk_frozen BK234.out 1; have hfz35_2 := blk_frozen BK234.out 2; have hfz35_3 := blk_frozen BK234.out 3; have hfz35_4 := blk_frozen BK234.out 4; have hfz35_5 := blk_frozen BK234.out 5; have hfz35_6 := blk_frozen BK234.out 6) | (go_at_call 103; (with_reducible refine (portolanref04_Sets.calls kj3 a2_0 a2_1 a2_2 a2_3 a2_4 a2_5 _ _ l2_6 t243 t244 _ ?side1 ?side2 A25.out).mono ?_); (case side1 => repeat (first | exact (Kd.C_below HR2_6.out HB.out) | (with_reducible refine Kd.C_alloc ?_ _) | (with_reducible refine Kd.C_drewN ?_ _) | (with_reducible refine Kd.C_drew ?_))); (case side2 => exact HC2_6.out); rintro e w36 ⟨rfl, hb⟩; have n0_ := Aside0.mk (Kd.R_below (by (with_reducible repeat (first | apply Kd.R_alloc | apply Kd.R_drewN | apply Kd.R_drew)); exact HO242.out) hb); have n1_ := Aside0.mk (blk_below (g := gb233) (o := .cells #[.slice (some ad238) l0_0.length c0_0] 24 (0, 0)) (by (with_reducible repeat (first | refine zq1 ?_ _ | refine zq2 ?_ | refine zq3 ?_ _)); exact BK233.out) hb); have n2_ := Aside0.mk (blk_below (g := gb234) (o := .cells #[.int .i64 a2_0, .int .i64 a2_1, .int .i64 a2_2, .int .i64 a2_3, .int .i64 a2_4, .int .i64 a2_5, .slice A2_6 l2_6.length c2_6] 52 (0, 0)) (by (with_reducible repeat (first | refine zq1 ?_ _ | refine zq2 ?_ | refine zq3 ?_ _)); exact BK234.out) hb); have n3_ := Aside0.mk (blk_below (g := gb239) (o := .cells #[.slice A238_0 ((rd_T30 l0_0 a1).f0).length c238_0, .slice A238_1 ((rd_T30 l0_0 a1).f1).length c238_1, .int .i64 ((rd_T30 l0_0 a1).f2), .int .i64 ((rd_T30 l0_0 a1).f3), .slice A238_4 ((rd_T30 l0_0 a1).f4).length c238_4] 30 (0, 0)) (by (with_reducible repeat (first | refine zq1 ?_ _ | refine zq2 ?_ | refine zq3 ?_ _)); exact BK239.out) hb); have n4_ := Aside0.mk (below_step (by repeat (first | (with_reducible first | exact HB.out | apply zq5 | apply zq4 | apply zq6 | refine below_set ?_ GE233.out | refine below_set ?_ GE234.out | refine below_set ?_ GE239.out) | exact HB.out)) hb); clear HO242; clear BK233; clear BK234; clear BK239; clear HB; have HO242 := n0_; have BK233 := n1_; have BK234 := n2_; have BK239 := n3_; have HB := n4_; clear n0_ n1_ n2_ n3_ n4_; (try clear hb); (try clear hb2); (try clear hk); (try clear hi)))
      repeat (go_quiet (first | ((with_reducible refine gate_dst (N := 7) rfl ?_); (try (refine gate_guard (by rfl) ?_; dsimp only)); refine box_event ?hg (N := 7) ?hd (cs := #[.slice none 0 0, .slice none 0 0, .int .i64 0, .int .i64 0, .slice none 0 0]) (t := 30) ?hr ?_; (case hd => rfl); (case hg => rfl); (case hr => first | (go_simp; done) | (go_simp; rfl)); intro gb239 hg w29 hbox hb; have n0_ := Aside0.mk (blk_below (g := gb233) (o := .cells #[.slice (some ad238) l0_0.length c0_0] 24 (0, 0)) (by (with_reducible repeat (first | refine zq1 ?_ _ | refine zq2 ?_ | refine zq3 ?_ _)); exact BK233.out) hb); have n1_ := Aside0.mk (blk_below (g := gb234) (o := .cells #[.int .i64 a2_0, .int .i64 a2_1, .int .i64 a2_2, .int .i64 a2_3, .int .i64 a2_4, .int .i64 a2_5, .slice A2_6 l2_6.length c2_6] 52 (0, 0)) (by (with_reducible repeat (first | refine zq1 ?_ _ | refine zq2 ?_ | refine zq3 ?_ _)); exact BK234.out) hb); have n2_ := Aside0.mk (below_step (by repeat (first | (with_reducible first | exact HB.out | apply zq5 | apply zq4 | apply zq6 | refine below_set ?_ GE233.out | refine below_set ?_ GE234.out) | exact HB.out)) hb); have n3_ := Aside0.mk (hbox); have n4_ := Aside0.mk ((by rw [hg]; exact (below_size (by repeat (first | (with_reducible first | exact HB.out | apply zq5 | apply zq4 | apply zq6 | refine below_set ?_ GE233.out | refine below_set ?_ GE234.out) | exact HB.out))) : w.heap.size ≤ gb239)); have n5_ := Aside0.mk ((by rw [hg]; exact (below_size (by repeat (first | (with_reducible first | exact HB.out | apply zq5 | apply zq4 | apply zq6 | refine below_set ?_ GE233.out | refine below_set ?_ GE234.out) | exact HB.out))) : w.heap.size ≤ gb239)); have n6_ := Aside0.mk ((by rw [hg]; exact Nat.ne_of_lt (blk_lt (g := gb233) (o := .cells #[.slice (some ad238) l0_0.length c0_0] 24 (0, 0)) (by (with_reducible repeat (first | refine zq1 ?_ _ | refine zq2 ?_ | refine zq3 ?_ _)); exact BK233.out)) : gb233 ≠ gb239)); have n7_ := Aside0.mk ((by rw [hg]; exact Nat.ne_of_gt (blk_lt (g := gb233) (o := .cells #[.slice (some ad238) l0_0.length c0_0] 24 (0, 0)) (by (with_reducible repeat (first | refine zq1 ?_ _ | refine zq2 ?_ | refine zq3 ?_ _)); exact BK233.out)) : gb239 ≠ gb233)); have n8_ := Aside0.mk ((by rw [hg]; exact Nat.ne_of_lt (blk_lt (g := gb234) (o := .cells #[.int .i64 a2_0, .int .i64 a2_1, .int .i64 a2_2, .int .i64 a2_3, .int .i64 a2_4, .int .i64 a2_5, .slice A2_6 l2_6.length c2_6] 52 (0, 0)) (by (with_reducible repeat (first | refine zq1 ?_ _ | refine zq2 ?_ | refine zq3 ?_ _)); exact BK234.out)) : gb234 ≠ gb239)); have n9_ := Aside0.mk ((by rw [hg]; exact Nat.ne_of_gt (blk_lt (g := gb234) (o := .cells #[.int .i64 a2_0, .int .i64 a2_1, .int .i64 a2_2, .int .i64 a2_3, .int .i64 a2_4, .int .i64 a2_5, .slice A2_6 l2_6.length c2_6] 52 (0, 0)) (by (with_reducible repeat (first | refine zq1 ?_ _ | refine zq2 ?_ | refine zq3 ?_ _)); exact BK234.out)) : gb239 ≠ gb234)); clear BK233; clear BK234; clear HB; have BK233 := n0_; have BK234 := n1_; have HB := n2_; have BK239 := n3_; have GW239 := n4_; have GE239 := n5_; have NB233_239 := n6_; have NB239_233 := n7_; have NB234_239 := n8_; have NB239_234 := n9_; clear n0_ n1_ n2_ n3_ n4_ n5_ n6_ n7_ n8_ n9_; clear hb hbox hg; have hnb30 := NB239_233.out; have hnc30 := NB233_239.out; have hnb31 := NB239_234.out; have hnc31 := NB234_239.out; have hcz32_0 : w29.cell? ⟨gb239, 0, none⟩ = some (.slice none 0 0) := (blk_cell BK239.out 0).trans rfl; have hcz32_1 : w29.cell? ⟨gb239, 1, none⟩ = some (.slice none 0 0) := (blk_cell BK239.out 1).trans rfl; have hcz32_2 : w29.cell? ⟨gb239, 2, none⟩ = some (.int .i64 0) := (blk_cell BK239.out 2).trans rfl; have hcz32_3 : w29.cell? ⟨gb239, 3, none⟩ = some (.int .i64 0) := (blk_cell BK239.out 3).trans rfl; have hcz32_4 : w29.cell? ⟨gb239, 4, none⟩ = some (.slice none 0 0) := (blk_cell BK239.out 4).trans rfl; have hfz32_0 := blk_frozen BK239.out 0; have hfz32_1 := blk_frozen BK239.out 1; have hfz32_2 := blk_frozen BK239.out 2; have hfz32_3 := blk_frozen BK239.out 3; have hfz32_4 := blk_frozen BK239.out 4; have hcz33_0 : w29.cell? ⟨gb234, 0, none⟩ = some (.int .i64 a2_0) := (blk_cell BK234.out 0).trans rfl; have hcz33_1 : w29.cell? ⟨gb234, 1, none⟩ = some (.int .i64 a2_1) := (blk_cell BK234.out 1).trans rfl; have hcz33_2 : w29.cell? ⟨gb234, 2, none⟩ = some (.int .i64 a2_2) := (blk_cell BK234.out 2).trans rfl; have hcz33_3 : w29.cell? ⟨gb234, 3, none⟩ = some (.int .i64 a2_3) := (blk_cell BK234.out 3).trans rfl; have hcz33_4 : w29.cell? ⟨gb234, 4, none⟩ = some (.int .i64 a2_4) := (blk_cell BK234.out 4).trans rfl; have hcz33_5 : w29.cell? ⟨gb234, 5, none⟩ = some (.int .i64 a2_5) := (blk_cell BK234.out 5).trans rfl; have hcz33_6 : w29.cell? ⟨gb234, 6, none⟩ = some (.slice A2_6 l2_6.length c2_6) := (blk_cell BK234.out 6).trans rfl; have hfz33_0 := blk_frozen BK234.out 0; have hfz33_1 := blk_frozen BK234.out 1; have hfz33_2 := blk_frozen BK234.out 2; have hfz33_3 := blk_frozen BK234.out 3; have hfz33_4 := blk_frozen BK234.out 4; have hfz33_5 := blk_frozen BK234.out 5; have hfz33_6 := blk_frozen BK234.out 6) | (go_at_call 74; (with_reducible refine (portolanref04_Uses.calls kj3 a2_0 a2_1 a2_2 a2_3 a2_4 a2_5 _ _ l2_6 t240 _ ?side1 ?side2 A24.out).mono ?_); (case side1 => exact Kd.C_below HR2_6.out (by repeat (first | (with_reducible first | exact HB.out | apply zq5 | apply zq4 | apply zq6 | refine below_set ?_ GE233.out | refine below_set ?_ GE234.out | refine below_set ?_ GE239.out) | exact HB.out))); (case side2 => exact HC2_6.out); rintro e w34 ⟨v241, rfl, ho0, hb⟩; have n0_ := Aside0.mk (Kd.R_lower ho0 (below_size (by repeat (first | (with_reducible first | exact HB.out | apply zq5 | apply zq4 | apply zq6 | refine below_set ?_ GE233.out | refine below_set ?_ GE234.out | refine below_set ?_ GE239.out) | exact HB.out)))); have n1_ := Aside0.mk (blk_below (g := gb233) (o := .cells #[.slice (some ad238) l0_0.length c0_0] 24 (0, 0)) (by (with_reducible repeat (first | refine zq1 ?_ _ | refine zq2 ?_ | refine zq3 ?_ _)); refine blk_far ?_ NB233_239.out _; (with_reducible repeat (first | refine zq1 ?_ _ | refine zq2 ?_ | refine zq3 ?_ _)); refine blk_far ?_ NB233_239.out _; (with_reducible repeat (first | refine zq1 ?_ _ | refine zq2 ?_ | refine zq3 ?_ _)); refine blk_far ?_ NB233_239.out _; (with_reducible repeat (first | refine zq1 ?_ _ | refine zq2 ?_ | refine zq3 ?_ _)); refine blk_far ?_ NB233_239.out _; (with_reducible repeat (first | refine zq1 ?_ _ | refine zq2 ?_ | refine zq3 ?_ _)); refine blk_far ?_ NB233_239.out _; (with_reducible repeat (first | refine zq1 ?_ _ | refine zq2 ?_ | refine zq3 ?_ _)); exact BK233.out) hb); have n2_ := Aside0.mk (blk_below (g := gb234) (o := .cells #[.int .i64 a2_0, .int .i64 a2_1, .int .i64 a2_2, .int .i64 a2_3, .int .i64 a2_4, .int .i64 a2_5, .slice A2_6 l2_6.length c2_6] 52 (0, 0)) (by (with_reducible repeat (first | refine zq1 ?_ _ | refine zq2 ?_ | refine zq3 ?_ _)); refine blk_far ?_ NB234_239.out _; (with_reducible repeat (first | refine zq1 ?_ _ | refine zq2 ?_ | refine zq3 ?_ _)); refine blk_far ?_ NB234_239.out _; (with_reducible repeat (first | refine zq1 ?_ _ | refine zq2 ?_ | refine zq3 ?_ _)); refine blk_far ?_ NB234_239.out _; (with_reducible repeat (first | refine zq1 ?_ _ | refine zq2 ?_ | refine zq3 ?_ _)); refine blk_far ?_ NB234_239.out _; (with_reducible repeat (first | refine zq1 ?_ _ | refine zq2 ?_ | refine zq3 ?_ _)); refine blk_far ?_ NB234_239.out _; (with_reducible repeat (first | refine zq1 ?_ _ | refine zq2 ?_ | refine zq3 ?_ _)); exact BK234.out) hb); have n3_ := Aside0.mk (blk_below (g := gb239) (o := .cells #[.slice A238_0 ((rd_T30 l0_0 a1).f0).length c238_0, .slice A238_1 ((rd_T30 l0_0 a1).f1).length c238_1, .int .i64 ((rd_T30 l0_0 a1).f2), .int .i64 ((rd_T30 l0_0 a1).f3), .slice A238_4 ((rd_T30 l0_0 a1).f4).length c238_4] 30 (0, 0)) (by (with_reducible repeat (first | refine zq1 ?_ _ | refine zq2 ?_ | refine zq3 ?_ _)); refine blk_put (cs := #[.slice A238_0 ((rd_T30 l0_0 a1).f0).length c238_0, .slice A238_1 ((rd_T30 l0_0 a1).f1).length c238_1, .int .i64 ((rd_T30 l0_0 a1).f2), .int .i64 ((rd_T30 l0_0 a1).f3), .slice none 0 0]) ?_ 4 _ rfl; (with_reducible repeat (first | refine zq1 ?_ _ | refine zq2 ?_ | refine zq3 ?_ _)); refine blk_put (cs := #[.slice A238_0 ((rd_T30 l0_0 a1).f0).length c238_0, .slice A238_1 ((rd_T30 l0_0 a1).f1).length c238_1, .int .i64 ((rd_T30 l0_0 a1).f2), .int .i64 0, .slice none 0 0]) ?_ 3 _ rfl; (with_reducible repeat (first | refine zq1 ?_ _ | refine zq2 ?_ | refine zq3 ?_ _)); refine blk_put (cs := #[.slice A238_0 ((rd_T30 l0_0 a1).f0).length c238_0, .slice A238_1 ((rd_T30 l0_0 a1).f1).length c238_1, .int .i64 0, .int .i64 0, .slice none 0 0]) ?_ 2 _ rfl; (with_reducible repeat (first | refine zq1 ?_ _ | refine zq2 ?_ | refine zq3 ?_ _)); refine blk_put (cs := #[.slice A238_0 ((rd_T30 l0_0 a1).f0).length c238_0, .slice none 0 0, .int .i64 0, .int .i64 0, .slice none 0 0]) ?_ 1 _ rfl; (with_reducible repeat (first | refine zq1 ?_ _ | refine zq2 ?_ | refine zq3 ?_ _)); refine blk_put (cs := #[.slice none 0 0, .slice none 0 0, .int .i64 0, .int .i64 0, .slice none 0 0]) ?_ 0 _ rfl; (with_reducible repeat (first | refine zq1 ?_ _ | refine zq2 ?_ | refine zq3 ?_ _)); exact BK239.out) hb); have n4_ := Aside0.mk (below_step (by repeat (first | (with_reducible first | exact HB.out | apply zq5 | apply zq4 | apply zq6 | refine below_set ?_ GE233.out | refine below_set ?_ GE234.out | refine below_set ?_ GE239.out) | exact HB.out)) hb); clear BK233; clear BK234; clear BK239; clear HB; have HO242 := n0_; have BK233 := n1_; have BK234 := n2_; have BK239 := n3_; have HB := n4_; clear n0_ n1_ n2_ n3_ n4_; (try clear hb); (try clear hb2); (try clear hk); (try clear hi); (try clear ho0); have hcz35_0 : w34.cell? ⟨gb234, 0, none⟩ = some (.int .i64 a2_0) := (blk_cell BK234.out 0).trans rfl; have hcz35_1 : w34.cell? ⟨gb234, 1, none⟩ = some (.int .i64 a2_1) := (blk_cell BK234.out 1).trans rfl; have hcz35_2 : w34.cell? ⟨gb234, 2, none⟩ = some (.int .i64 a2_2) := (blk_cell BK234.out 2).trans rfl; have hcz35_3 : w34.cell? ⟨gb234, 3, none⟩ = some (.int .i64 a2_3) := (blk_cell BK234.out 3).trans rfl; have hcz35_4 : w34.cell? ⟨gb234, 4, none⟩ = some (.int .i64 a2_4) := (blk_cell BK234.out 4).trans rfl; have hcz35_5 : w34.cell? ⟨gb234, 5, none⟩ = some (.int .i64 a2_5) := (blk_cell BK234.out 5).trans rfl; have hcz35_6 : w34.cell? ⟨gb234, 6, none⟩ = some (.slice A2_6 l2_6.length c2_6) := (blk_cell BK234.out 6).trans rfl; have hfz35_0 := blk_frozen BK234.out 0; have hfz35_1 := blk_frozen BK234.out 1; have hfz35_2 := blk_frozen BK234.out 2; have hfz35_3 := blk_frozen BK234.out 3; have hfz35_4 := blk_frozen BK234.out 4; have hfz35_5 := blk_frozen BK234.out 5; have hfz35_6 := blk_frozen BK234.out 6) | (go_at_call 103; (with_reducible refine (portolanref04_Sets.calls kj3 a2_0 a2_1 a2_2 a2_3 a2_4 a2_5 _ _ l2_6 t243 t244 _ ?side1 ?side2 A25.out).mono ?_); (case side1 => repeat (first | exact (Kd.C_below HR2_6.out HB.out) | (with_reducible refine Kd.C_alloc ?_ _) | (with_reducible refine Kd.C_drewN ?_ _) | (with_reducible refine Kd.C_drew ?_))); (case side2 => exact HC2_6.out); rintro e w36 ⟨rfl, hb⟩; have n0_ := Aside0.mk (Kd.R_below (by (with_reducible repeat (first | apply Kd.R_alloc | apply Kd.R_drewN | apply Kd.R_drew)); exact HO242.out) hb); have n1_ := Aside0.mk (blk_below (g := gb233) (o := .cells #[.slice (some ad238) l0_0.length c0_0] 24 (0, 0)) (by (with_reducible repeat (first | refine zq1 ?_ _ | refine zq2 ?_ | refine zq3 ?_ _)); exact BK233.out) hb); have n2_ := Aside0.mk (blk_below (g := gb234) (o := .cells #[.int .i64 a2_0, .int .i64 a2_1, .int .i64 a2_2, .int .i64 a2_3, .int .i64 a2_4, .int .i64 a2_5, .slice A2_6 l2_6.length c2_6] 52 (0, 0)) (by (with_reducible repeat (first | refine zq1 ?_ _ | refine zq2 ?_ | refine zq3 ?_ _)); exact BK234.out) hb); have n3_ := Aside0.mk (blk_below (g := gb239) (o := .cells #[.slice A238_0 ((rd_T30 l0_0 a1).f0).length c238_0, .slice A238_1 ((rd_T30 l0_0 a1).f1).length c238_1, .int .i64 ((rd_T30 l0_0 a1).f2), .int .i64 ((rd_T30 l0_0 a1).f3), .slice A238_4 ((rd_T30 l0_0 a1).f4).length c238_4] 30 (0, 0)) (by (with_reducible repeat (first | refine zq1 ?_ _ | refine zq2 ?_ | refine zq3 ?_ _)); exact BK239.out) hb); have n4_ := Aside0.mk (below_step (by repeat (first | (with_reducible first | exact HB.out | apply zq5 | apply zq4 | apply zq6 | refine below_set ?_ GE233.out | refine below_set ?_ GE234.out | refine below_set ?_ GE239.out) | exact HB.out)) hb); clear HO242; clear BK233; clear BK234; clear BK239; clear HB; have HO242 := n0_; have BK233 := n1_; have BK234 := n2_; have BK239 := n3_; have HB := n4_; clear n0_ n1_ n2_ n3_ n4_; (try clear hb); (try clear hb2); (try clear hk); (try clear hi))); go_upto_if 44 with (first | ((with_reducible refine gate_dst (N := 7) rfl ?_); (try (refine gate_guard (by rfl) ?_; dsimp only)); refine box_event ?hg (N := 7) ?hd (cs := #[.slice none 0 0, .slice none 0 0, .int .i64 0, .int .i64 0, .slice none 0 0]) (t := 30) ?hr ?_; (case hd => rfl); (case hg => rfl); (case hr => first | (go_simp; done) | (go_simp; rfl)); intro gb239 hg w29 hbox hb; have n0_ := Aside0.mk (blk_below (g := gb233) (o := .cells #[.slice (some ad238) l0_0.length c0_0] 24 (0, 0)) (by (with_reducible repeat (first | refine zq1 ?_ _ | refine zq2 ?_ | refine zq3 ?_ _)); exact BK233.out) hb); have n1_ := Aside0.mk (blk_below (g := gb234) (o := .cells #[.int .i64 a2_0, .int .i64 a2_1, .int .i64 a2_2, .int .i64 a2_3, .int .i64 a2_4, .int .i64 a2_5, .slice A2_6 l2_6.length c2_6] 52 (0, 0)) (by (with_reducible repeat (first | refine zq1 ?_ _ | refine zq2 ?_ | refine zq3 ?_ _)); exact BK234.out) hb); have n2_ := Aside0.mk (below_step (by repeat (first | (with_reducible first | exact HB.out | apply zq5 | apply zq4 | apply zq6 | refine below_set ?_ GE233.out | refine below_set ?_ GE234.out) | exact HB.out)) hb); have n3_ := Aside0.mk (hbox); have n4_ := Aside0.mk ((by rw [hg]; exact (below_size (by repeat (first | (with_reducible first | exact HB.out | apply zq5 | apply zq4 | apply zq6 | refine below_set ?_ GE233.out | refine below_set ?_ GE234.out) | exact HB.out))) : w.heap.size ≤ gb239)); have n5_ := Aside0.mk ((by rw [hg]; exact (below_size (by repeat (first | (with_reducible first | exact HB.out | apply zq5 | apply zq4 | apply zq6 | refine below_set ?_ GE233.out | refine below_set ?_ GE234.out) | exact HB.out))) : w.heap.size ≤ gb239)); have n6_ := Aside0.mk ((by rw [hg]; exact Nat.ne_of_lt (blk_lt (g := gb233) (o := .cells #[.slice (some ad238) l0_0.length c0_0] 24 (0, 0)) (by (with_reducible repeat (first | refine zq1 ?_ _ | refine zq2 ?_ | refine zq3 ?_ _)); exact BK233.out)) : gb233 ≠ gb239)); have n7_ := Aside0.mk ((by rw [hg]; exact Nat.ne_of_gt (blk_lt (g := gb233) (o := .cells #[.slice (some ad238) l0_0.length c0_0] 24 (0, 0)) (by (with_reducible repeat (first | refine zq1 ?_ _ | refine zq2 ?_ | refine zq3 ?_ _)); exact BK233.out)) : gb239 ≠ gb233)); have n8_ := Aside0.mk ((by rw [hg]; exact Nat.ne_of_lt (blk_lt (g := gb234) (o := .cells #[.int .i64 a2_0, .int .i64 a2_1, .int .i64 a2_2, .int .i64 a2_3, .int .i64 a2_4, .int .i64 a2_5, .slice A2_6 l2_6.length c2_6] 52 (0, 0)) (by (with_reducible repeat (first | refine zq1 ?_ _ | refine zq2 ?_ | refine zq3 ?_ _)); exact BK234.out)) : gb234 ≠ gb239)); have n9_ := Aside0.mk ((by rw [hg]; exact Nat.ne_of_gt (blk_lt (g := gb234) (o := .cells #[.int .i64 a2_0, .int .i64 a2_1, .int .i64 a2_2, .int .i64 a2_3, .int .i64 a2_4, .int .i64 a2_5, .slice A2_6 l2_6.length c2_6] 52 (0, 0)) (by (with_reducible repeat (first | refine zq1 ?_ _ | refine zq2 ?_ | refine zq3 ?_ _)); exact BK234.out)) : gb239 ≠ gb234)); clear BK233; clear BK234; clear HB; have BK233 := n0_; have BK234 := n1_; have HB := n2_; have BK239 := n3_; have GW239 := n4_; have GE239 := n5_; have NB233_239 := n6_; have NB239_233 := n7_; have NB234_239 := n8_; have NB239_234 := n9_; clear n0_ n1_ n2_ n3_ n4_ n5_ n6_ n7_ n8_ n9_; clear hb hbox hg; have hnb30 := NB239_233.out; have hnc30 := NB233_239.out; have hnb31 := NB239_234.out; have hnc31 := NB234_239.out; have hcz32_0 : w29.cell? ⟨gb239, 0, none⟩ = some (.slice none 0 0) := (blk_cell BK239.out 0).trans rfl; have hcz32_1 : w29.cell? ⟨gb239, 1, none⟩ = some (.slice none 0 0) := (blk_cell BK239.out 1).trans rfl; have hcz32_2 : w29.cell? ⟨gb239, 2, none⟩ = some (.int .i64 0) := (blk_cell BK239.out 2).trans rfl; have hcz32_3 : w29.cell? ⟨gb239, 3, none⟩ = some (.int .i64 0) := (blk_cell BK239.out 3).trans rfl; have hcz32_4 : w29.cell? ⟨gb239, 4, none⟩ = some (.slice none 0 0) := (blk_cell BK239.out 4).trans rfl; have hfz32_0 := blk_frozen BK239.out 0; have hfz32_1 := blk_frozen BK239.out 1; have hfz32_2 := blk_frozen BK239.out 2; have hfz32_3 := blk_frozen BK239.out 3; have hfz32_4 := blk_frozen BK239.out 4; have hcz33_0 : w29.cell? ⟨gb234, 0, none⟩ = some (.int .i64 a2_0) := (blk_cell BK234.out 0).trans rfl; have hcz33_1 : w29.cell? ⟨gb234, 1, none⟩ = some (.int .i64 a2_1) := (blk_cell BK234.out 1).trans rfl; have hcz33_2 : w29.cell? ⟨gb234, 2, none⟩ = some (.int .i64 a2_2) := (blk_cell BK234.out 2).trans rfl; have hcz33_3 : w29.cell? ⟨gb234, 3, none⟩ = some (.int .i64 a2_3) := (blk_cell BK234.out 3).trans rfl; have hcz33_4 : w29.cell? ⟨gb234, 4, none⟩ = some (.int .i64 a2_4) := (blk_cell BK234.out 4).trans rfl; have hcz33_5 : w29.cell? ⟨gb234, 5, none⟩ = some (.int .i64 a2_5) := (blk_cell BK234.out 5).trans rfl; have hcz33_6 : w29.cell? ⟨gb234, 6, none⟩ = some (.slice A2_6 l2_6.length c2_6) := (blk_cell BK234.out 6).trans rfl; have hfz33_0 := blk_frozen BK234.out 0; have hfz33_1 := blk_frozen BK234.out 1; have hfz33_2 := blk_frozen BK234.out 2; have hfz33_3 := blk_frozen BK234.out 3; have hfz33_4 := blk_frozen BK234.out 4; have hfz33_5 := blk_frozen BK234.out 5; have hfz33_6 := blk_frozen BK234.out 6) | (go_at_call 74; (with_reducible refine (portolanref04_Uses.calls kj3 a2_0 a2_1 a2_2 a2_3 a2_4 a2_5 _ _ l2_6 t240 _ ?side1 ?side2 A24.out).mono ?_); (case side1 => exact Kd.C_below HR2_6.out (by repeat (first | (with_reducible first | exact HB.out | apply zq5 | apply zq4 | apply zq6 | refine below_set ?_ GE233.out | refine below_set ?_ GE234.out | refine below_set ?_ GE239.out) | exact HB.out))); (case side2 => exact HC2_6.out); rintro e w34 ⟨v241, rfl, ho0, hb⟩; have n0_ := Aside0.mk (Kd.R_lower ho0 (below_size (by repeat (first | (with_reducible first | exact HB.out | apply zq5 | apply zq4 | apply zq6 | refine below_set ?_ GE233.out | refine below_set ?_ GE234.out | refine below_set ?_ GE239.out) | exact HB.out)))); have n1_ := Aside0.mk (blk_below (g := gb233) (o := .cells #[.slice (some ad238) l0_0.length c0_0] 24 (0, 0)) (by (with_reducible repeat (first | refine zq1 ?_ _ | refine zq2 ?_ | refine zq3 ?_ _)); refine blk_far ?_ NB233_239.out _; (with_reducible repeat (first | refine zq1 ?_ _ | refine zq2 ?_ | refine zq3 ?_ _)); refine blk_far ?_ NB233_239.out _; (with_reducible repeat (first | refine zq1 ?_ _ | refine zq2 ?_ | refine zq3 ?_ _)); refine blk_far ?_ NB233_239.out _; (with_reducible repeat (first | refine zq1 ?_ _ | refine zq2 ?_ | refine zq3 ?_ _)); refine blk_far ?_ NB233_239.out _; (with_reducible repeat (first | refine zq1 ?_ _ | refine zq2 ?_ | refine zq3 ?_ _)); refine blk_far ?_ NB233_239.out _; (with_reducible repeat (first | refine zq1 ?_ _ | refine zq2 ?_ | refine zq3 ?_ _)); exact BK233.out) hb); have n2_ := Aside0.mk (blk_below (g := gb234) (o := .cells #[.int .i64 a2_0, .int .i64 a2_1, .int .i64 a2_2, .int .i64 a2_3, .int .i64 a2_4, .int .i64 a2_5, .slice A2_6 l2_6.length c2_6] 52 (0, 0)) (by (with_reducible repeat (first | refine zq1 ?_ _ | refine zq2 ?_ | refine zq3 ?_ _)); refine blk_far ?_ NB234_239.out _; (with_reducible repeat (first | refine zq1 ?_ _ | refine zq2 ?_ | refine zq3 ?_ _)); refine blk_far ?_ NB234_239.out _; (with_reducible repeat (first | refine zq1 ?_ _ | refine zq2 ?_ | refine zq3 ?_ _)); refine blk_far ?_ NB234_239.out _; (with_reducible repeat (first | refine zq1 ?_ _ | refine zq2 ?_ | refine zq3 ?_ _)); refine blk_far ?_ NB234_239.out _; (with_reducible repeat (first | refine zq1 ?_ _ | refine zq2 ?_ | refine zq3 ?_ _)); refine blk_far ?_ NB234_239.out _; (with_reducible repeat (first | refine zq1 ?_ _ | refine zq2 ?_ | refine zq3 ?_ _)); exact BK234.out) hb); have n3_ := Aside0.mk (blk_below (g := gb239) (o := .cells #[.slice A238_0 ((rd_T30 l0_0 a1).f0).length c238_0, .slice A238_1 ((rd_T30 l0_0 a1).f1).length c238_1, .int .i64 ((rd_T30 l0_0 a1).f2), .int .i64 ((rd_T30 l0_0 a1).f3), .slice A238_4 ((rd_T30 l0_0 a1).f4).length c238_4] 30 (0, 0)) (by (with_reducible repeat (first | refine zq1 ?_ _ | refine zq2 ?_ | refine zq3 ?_ _)); refine blk_put (cs := #[.slice A238_0 ((rd_T30 l0_0 a1).f0).length c238_0, .slice A238_1 ((rd_T30 l0_0 a1).f1).length c238_1, .int .i64 ((rd_T30 l0_0 a1).f2), .int .i64 ((rd_T30 l0_0 a1).f3), .slice none 0 0]) ?_ 4 _ rfl; (with_reducible repeat (first | refine zq1 ?_ _ | refine zq2 ?_ | refine zq3 ?_ _)); refine blk_put (cs := #[.slice A238_0 ((rd_T30 l0_0 a1).f0).length c238_0, .slice A238_1 ((rd_T30 l0_0 a1).f1).length c238_1, .int .i64 ((rd_T30 l0_0 a1).f2), .int .i64 0, .slice none 0 0]) ?_ 3 _ rfl; (with_reducible repeat (first | refine zq1 ?_ _ | refine zq2 ?_ | refine zq3 ?_ _)); refine blk_put (cs := #[.slice A238_0 ((rd_T30 l0_0 a1).f0).length c238_0, .slice A238_1 ((rd_T30 l0_0 a1).f1).length c238_1, .int .i64 0, .int .i64 0, .slice none 0 0]) ?_ 2 _ rfl; (with_reducible repeat (first | refine zq1 ?_ _ | refine zq2 ?_ | refine zq3 ?_ _)); refine blk_put (cs := #[.slice A238_0 ((rd_T30 l0_0 a1).f0).length c238_0, .slice none 0 0, .int .i64 0, .int .i64 0, .slice none 0 0]) ?_ 1 _ rfl; (with_reducible repeat (first | refine zq1 ?_ _ | refine zq2 ?_ | refine zq3 ?_ _)); refine blk_put (cs := #[.slice none 0 0, .slice none 0 0, .int .i64 0, .int .i64 0, .slice none 0 0]) ?_ 0 _ rfl; (with_reducible repeat (first | refine zq1 ?_ _ | refine zq2 ?_ | refine zq3 ?_ _)); exact BK239.out) hb); have n4_ := Aside0.mk (below_step (by repeat (first | (with_reducible first | exact HB.out | apply zq5 | apply zq4 | apply zq6 | refine below_set ?_ GE233.out | refine below_set ?_ GE234.out | refine below_set ?_ GE239.out) | exact HB.out)) hb); clear BK233; clear BK234; clear BK239; clear HB; have HO242 := n0_; have BK233 := n1_; have BK234 := n2_; have BK239 := n3_; have HB := n4_; clear n0_ n1_ n2_ n3_ n4_; (try clear hb); (try clear hb2); (try clear hk); (try clear hi); (try clear ho0); have hcz35_0 : w34.cell? ⟨gb234, 0, none⟩ = some (.int .i64 a2_0) := (blk_cell BK234.out 0).trans rfl; have hcz35_1 : w34.cell? ⟨gb234, 1, none⟩ = some (.int .i64 a2_1) := (blk_cell BK234.out 1).trans rfl; have hcz35_2 : w34.cell? ⟨gb234, 2, none⟩ = some (.int .i64 a2_2) := (blk_cell BK234.out 2).trans rfl; have hcz35_3 : w34.cell? ⟨gb234, 3, none⟩ = some (.int .i64 a2_3) := (blk_cell BK234.out 3).trans rfl; have hcz35_4 : w34.cell? ⟨gb234, 4, none⟩ = some (.int .i64 a2_4) := (blk_cell BK234.out 4).trans rfl; have hcz35_5 : w34.cell? ⟨gb234, 5, none⟩ = some (.int .i64 a2_5) := (blk_cell BK234.out 5).trans rfl; have hcz35_6 : w34.cell? ⟨gb234, 6, none⟩ = some (.slice A2_6 l2_6.length c2_6) := (blk_cell BK234.out 6).trans rfl; have hfz35_0 := blk_frozen BK234.out 0; have hfz35_1 := blk_frozen BK234.out 1; have hfz35_2 := blk_frozen BK234.out 2; have hfz35_3 := blk_frozen BK234.out 3; have hfz35_4 := blk_frozen BK234.out 4; have hfz35_5 := blk_frozen BK234.out 5; have hfz35_6 := blk_frozen BK234.out 6) | (go_at_call 103; (with_reducible refine (portolanref04_Sets.calls kj3 a2_0 a2_1 a2_2 a2_3 a2_4 a2_5 _ _ l2_6 t243 t244 _ ?side1 ?side2 A25.out).mono ?_); (case side1 => repeat (first | exact (Kd.C_below HR2_6.out HB.out) | (with_reducible refine Kd.C_alloc ?_ _) | (with_reducible refine Kd.C_drewN ?_ _) | (with_reducible refine Kd.C_drew ?_))); (case side2 => exact HC2_6.out); rintro e w36 ⟨rfl, hb⟩; have n0_ := Aside0.mk (Kd.R_below (by (with_reducible repeat (first | apply Kd.R_alloc | apply Kd.R_drewN | apply Kd.R_drew)); exact HO242.out) hb); have n1_ := Aside0.mk (blk_below (g := gb233) (o := .cells #[.slice (some ad238) l0_0.length c0_0] 24 (0, 0)) (by (with_reducible repeat (first | refine zq1 ?_ _ | refine zq2 ?_ | refine zq3 ?_ _)); exact BK233.out) hb); have n2_ := Aside0.mk (blk_below (g := gb234) (o := .cells #[.int .i64 a2_0, .int .i64 a2_1, .int .i64 a2_2, .int .i64 a2_3, .int .i64 a2_4, .int .i64 a2_5, .slice A2_6 l2_6.length c2_6] 52 (0, 0)) (by (with_reducible repeat (first | refine zq1 ?_ _ | refine zq2 ?_ | refine zq3 ?_ _)); exact BK234.out) hb); have n3_ := Aside0.mk (blk_below (g := gb239) (o := .cells #[.slice A238_0 ((rd_T30 l0_0 a1).f0).length c238_0, .slice A238_1 ((rd_T30 l0_0 a1).f1).length c238_1, .int .i64 ((rd_T30 l0_0 a1).f2), .int .i64 ((rd_T30 l0_0 a1).f3), .slice A238_4 ((rd_T30 l0_0 a1).f4).length c238_4] 30 (0, 0)) (by (with_reducible repeat (first | refine zq1 ?_ _ | refine zq2 ?_ | refine zq3 ?_ _)); exact BK239.out) hb); have n4_ := Aside0.mk (below_step (by repeat (first | (with_reducible first | exact HB.out | apply zq5 | apply zq4 | apply zq6 | refine below_set ?_ GE233.out | refine below_set ?_ GE234.out | refine below_set ?_ GE239.out) | exact HB.out)) hb); clear HO242; clear BK233; clear BK234; clear BK239; clear HB; have HO242 := n0_; have BK233 := n1_; have BK234 := n2_; have BK239 := n3_; have HB := n4_; clear n0_ n1_ n2_ n3_ n4_; (try clear hb); (try clear hb2); (try clear hk); (try clear hi))))
      (try simp only [Act.put, List.setIfInBounds_toArray, List.set_cons_zero, List.set_cons_succ])
      go_cut [8] (fun v8 wc => ∃ (kq : Nat) (x8_25 : List Int), Aside0 (portolanref04_Ins.j1 kq x8_25 l0_0 a2_0 a2_1 a2_2 a2_3 a2_4 a2_5 l2_6 ((rd_T30 l0_0 a1).f0) ((rd_T30 l0_0 a1).f1) ((rd_T30 l0_0 a1).f2) ((rd_T30 l0_0 a1).f3) ((rd_T30 l0_0 a1).f4) = some r) ∧ Aside0 (kq ≤ kj3) ∧ Aside0 (Kd.R (Kd.int .i64) 3 wc w.heap.size (fun _ => True) v8 x8_25) ∧ Aside0 (wc.heap[gb233]? = some (.cells #[(.slice (some ad238) l0_0.length c0_0)] 24 (0, 0))) ∧ Aside0 (wc.heap[gb234]? = some (.cells #[.int .i64 a2_0, .int .i64 a2_1, .int .i64 a2_2, .int .i64 a2_3, .int .i64 a2_4, .int .i64 a2_5, (.slice A2_6 l2_6.length c2_6)] 52 (0, 0))) ∧ Aside0 (wc.heap[gb239]? = some (.cells #[(.slice A238_0 ((rd_T30 l0_0 a1).f0).length c238_0), (.slice A238_1 ((rd_T30 l0_0 a1).f1).length c238_1), .int .i64 ((rd_T30 l0_0 a1).f2), .int .i64 ((rd_T30 l0_0 a1).f3), (.slice A238_4 ((rd_T30 l0_0 a1).f4).length c238_4)] 30 (0, 0))) ∧ Aside0 (Below w.heap.size w wc))
      case first =>
       have H := HC26.out
       clear HC26
       by_cases c37 : t244 = true
       ·subst c37
        have H1 : (if t240.length < 17592186044416 then (portolanref04_Ins.j1 kj3 (t240 ++ [t243]) l0_0 a2_0 a2_1 a2_2 a2_3 a2_4 a2_5 l2_6 ((rd_T30 l0_0 a1).f0) ((rd_T30 l0_0 a1).f1) ((rd_T30 l0_0 a1).f2) ((rd_T30 l0_0 a1).f3) ((rd_T30 l0_0 a1).f4)) else (none)) = some r := by first | (rw [if_pos rfl] at H; exact H) | rfl
        clear H
        have H := H1
        clear H1
        by_cases c38 : t240.length < 17592186044416
        ·rw [if_pos c38] at H
         have LMc38 := Aside0.mk c38
         clear c38
         obtain ⟨y245, hy245⟩ : ∃ y_ : List Int, y_ = (t240 ++ [t243]) := ⟨_, rfl⟩
         replace H : (portolanref04_Ins.j1 kj3 y245 l0_0 a2_0 a2_1 a2_2 a2_3 a2_4 a2_5 l2_6 ((rd_T30 l0_0 a1).f0) ((rd_T30 l0_0 a1).f1) ((rd_T30 l0_0 a1).f2) ((rd_T30 l0_0 a1).f3) ((rd_T30 l0_0 a1).f4)) = some r := by first | (rw [hy245]; with_reducible exact H) | (have H2_ := (Option.bind_some _ _).symm.trans H; rw [hy245]; with_reducible exact H2_) | (have H2_ := (Option.bind_some _ _).symm.trans H; with_reducible exact H2_) | with_reducible exact H | (rw [hy245]; exact H) | exact H
         have Ny245 := Aside0.mk hy245
         clear hy245
         have H' := Aside0.mk H
         clear H
         go_wp2_with (first | ((with_reducible refine gate_builtin (b := .append) (xs := #[.tmp 45, .tmp 47]) rfl ?_); (try (refine gate_guard (by rfl) ?_; dsimp only)); at_builtin; refine Kd.R_append (Kd.int .i64) (w0 := w) w.heap.size rfl (.tmp 45) (.tmp 47) 27 3 (.int .i64 0) 8 rfl Try.underlying27 info3 rfl (by decide) (by omega) v241 t240 t243 [.int .i64 t243] (fun _ => True) (fun _ => False) rfl rfl ?aP (fun _ hk => hk.elim) ?aF ?aO ?aB ?aS ?aL ?_; (case aP => exact rfl); (case aB => exact (by repeat (first | (with_reducible first | exact HB.out | apply zq5 | apply zq4 | apply zq6 | refine below_set ?_ GE233.out | refine below_set ?_ GE234.out | refine below_set ?_ GE239.out) | exact HB.out))); (case aF => exact (fun _ _ => trivial)); (case aO => exact (by (with_reducible repeat (first | apply Kd.R_alloc | apply Kd.R_drewN | apply Kd.R_drew)); exact HO242.out)); (case aS => exact (below_size (by repeat (first | (with_reducible first | exact HB.out | apply zq5 | apply zq4 | apply zq6 | refine below_set ?_ GE233.out | refine below_set ?_ GE234.out | refine below_set ?_ GE239.out) | exact HB.out)))); (case aL => have := LMc38.out; omega); intro v246 w39 ho hb hg hat; rw [← Ny245.out] at ho; have n0_ := Aside0.mk (blk_grown (g := gb233) (o := .cells #[.slice (some ad238) l0_0.length c0_0] 24 (0, 0)) (by (with_reducible repeat (first | refine zq1 ?_ _ | refine zq2 ?_ | refine zq3 ?_ _)); exact BK233.out) hg (Kd.R_ne HO242.out BK233.out (by decide))); have n1_ := Aside0.mk (blk_grown (g := gb234) (o := .cells #[.int .i64 a2_0, .int .i64 a2_1, .int .i64 a2_2, .int .i64 a2_3, .int .i64 a2_4, .int .i64 a2_5, .slice A2_6 l2_6.length c2_6] 52 (0, 0)) (by (with_reducible repeat (first | refine zq1 ?_ _ | refine zq2 ?_ | refine zq3 ?_ _)); exact BK234.out) hg (Kd.R_ne HO242.out BK234.out (by decide))); have n2_ := Aside0.mk (blk_grown (g := gb239) (o := .cells #[.slice A238_0 ((rd_T30 l0_0 a1).f0).length c238_0, .slice A238_1 ((rd_T30 l0_0 a1).f1).length c238_1, .int .i64 ((rd_T30 l0_0 a1).f2), .int .i64 ((rd_T30 l0_0 a1).f3), .slice A238_4 ((rd_T30 l0_0 a1).f4).length c238_4] 30 (0, 0)) (by (with_reducible repeat (first | refine zq1 ?_ _ | refine zq2 ?_ | refine zq3 ?_ _)); exact BK239.out) hg (Kd.R_ne HO242.out BK239.out (by decide))); have n3_ := Aside0.mk (hb); have n4_ := Aside0.mk (ho); clear BK233; clear BK234; clear BK239; clear HB; clear HO242; have BK233 := n0_; have BK234 := n1_; have BK239 := n2_; have HB := n3_; have HO247 := n4_; clear n0_ n1_ n2_ n3_ n4_; clear ho hb hg hat))
         repeat (go_quiet (first | ((with_reducible refine gate_builtin (b := .append) (xs := #[.tmp 45, .tmp 47]) rfl ?_); (try (refine gate_guard (by rfl) ?_; dsimp only)); at_builtin; refine Kd.R_append (Kd.int .i64) (w0 := w) w.heap.size rfl (.tmp 45) (.tmp 47) 27 3 (.int .i64 0) 8 rfl Try.underlying27 info3 rfl (by decide) (by omega) v241 t240 t243 [.int .i64 t243] (fun _ => True) (fun _ => False) rfl rfl ?aP (fun _ hk => hk.elim) ?aF ?aO ?aB ?aS ?aL ?_; (case aP => exact rfl); (case aB => exact (by repeat (first | (with_reducible first | exact HB.out | apply zq5 | apply zq4 | apply zq6 | refine below_set ?_ GE233.out | refine below_set ?_ GE234.out | refine below_set ?_ GE239.out) | exact HB.out))); (case aF => exact (fun _ _ => trivial)); (case aO => exact (by (with_reducible repeat (first | apply Kd.R_alloc | apply Kd.R_drewN | apply Kd.R_drew)); exact HO242.out)); (case aS => exact (below_size (by repeat (first | (with_reducible first | exact HB.out | apply zq5 | apply zq4 | apply zq6 | refine below_set ?_ GE233.out | refine below_set ?_ GE234.out | refine below_set ?_ GE239.out) | exact HB.out)))); (case aL => have := LMc38.out; omega); intro v246 w39 ho hb hg hat; rw [← Ny245.out] at ho; have n0_ := Aside0.mk (blk_grown (g := gb233) (o := .cells #[.slice (some ad238) l0_0.length c0_0] 24 (0, 0)) (by (with_reducible repeat (first | refine zq1 ?_ _ | refine zq2 ?_ | refine zq3 ?_ _)); exact BK233.out) hg (Kd.R_ne HO242.out BK233.out (by decide))); have n1_ := Aside0.mk (blk_grown (g := gb234) (o := .cells #[.int .i64 a2_0, .int .i64 a2_1, .int .i64 a2_2, .int .i64 a2_3, .int .i64 a2_4, .int .i64 a2_5, .slice A2_6 l2_6.length c2_6] 52 (0, 0)) (by (with_reducible repeat (first | refine zq1 ?_ _ | refine zq2 ?_ | refine zq3 ?_ _)); exact BK234.out) hg (Kd.R_ne HO242.out BK234.out (by decide))); have n2_ := Aside0.mk (blk_grown (g := gb239) (o := .cells #[.slice A238_0 ((rd_T30 l0_0 a1).f0).length c238_0, .slice A238_1 ((rd_T30 l0_0 a1).f1).length c238_1, .int .i64 ((rd_T30 l0_0 a1).f2), .int .i64 ((rd_T30 l0_0 a1).f3), .slice A238_4 ((rd_T30 l0_0 a1).f4).length c238_4] 30 (0, 0)) (by (with_reducible repeat (first | refine zq1 ?_ _ | refine zq2 ?_ | refine zq3 ?_ _)); exact BK239.out) hg (Kd.R_ne HO242.out BK239.out (by decide))); have n3_ := Aside0.mk (hb); have n4_ := Aside0.mk (ho); clear BK233; clear BK234; clear BK239; clear HB; clear HO242; have BK233 := n0_; have BK234 := n1_; have BK239 := n2_; have HB := n3_; have HO247 := n4_; clear n0_ n1_ n2_ n3_ n4_; clear ho hb hg hat)); try go_wp2_with (first | ((with_reducible refine gate_builtin (b := .append) (xs := #[.tmp 45, .tmp 47]) rfl ?_); (try (refine gate_guard (by rfl) ?_; dsimp only)); at_builtin; refine Kd.R_append (Kd.int .i64) (w0 := w) w.heap.size rfl (.tmp 45) (.tmp 47) 27 3 (.int .i64 0) 8 rfl Try.underlying27 info3 rfl (by decide) (by omega) v241 t240 t243 [.int .i64 t243] (fun _ => True) (fun _ => False) rfl rfl ?aP (fun _ hk => hk.elim) ?aF ?aO ?aB ?aS ?aL ?_; (case aP => exact rfl); (case aB => exact (by repeat (first | (with_reducible first | exact HB.out | apply zq5 | apply zq4 | apply zq6 | refine below_set ?_ GE233.out | refine below_set ?_ GE234.out | refine below_set ?_ GE239.out) | exact HB.out))); (case aF => exact (fun _ _ => trivial)); (case aO => exact (by (with_reducible repeat (first | apply Kd.R_alloc | apply Kd.R_drewN | apply Kd.R_drew)); exact HO242.out)); (case aS => exact (below_size (by repeat (first | (with_reducible first | exact HB.out | apply zq5 | apply zq4 | apply zq6 | refine below_set ?_ GE233.out | refine below_set ?_ GE234.out | refine below_set ?_ GE239.out) | exact HB.out)))); (case aL => have := LMc38.out; omega); intro v246 w39 ho hb hg hat; rw [← Ny245.out] at ho; have n0_ := Aside0.mk (blk_grown (g := gb233) (o := .cells #[.slice (some ad238) l0_0.length c0_0] 24 (0, 0)) (by (with_reducible repeat (first | refine zq1 ?_ _ | refine zq2 ?_ | refine zq3 ?_ _)); exact BK233.out) hg (Kd.R_ne HO242.out BK233.out (by decide))); have n1_ := Aside0.mk (blk_grown (g := gb234) (o := .cells #[.int .i64 a2_0, .int .i64 a2_1, .int .i64 a2_2, .int .i64 a2_3, .int .i64 a2_4, .int .i64 a2_5, .slice A2_6 l2_6.length c2_6] 52 (0, 0)) (by (with_reducible repeat (first | refine zq1 ?_ _ | refine zq2 ?_ | refine zq3 ?_ _)); exact BK234.out) hg (Kd.R_ne HO242.out BK234.out (by decide))); have n2_ := Aside0.mk (blk_grown (g := gb239) (o := .cells #[.slice A238_0 ((rd_T30 l0_0 a1).f0).length c238_0, .slice A238_1 ((rd_T30 l0_0 a1).f1).length c238_1, .int .i64 ((rd_T30 l0_0 a1).f2), .int .i64 ((rd_T30 l0_0 a1).f3), .slice A238_4 ((rd_T30 l0_0 a1).f4).length c238_4] 30 (0, 0)) (by (with_reducible repeat (first | refine zq1 ?_ _ | refine zq2 ?_ | refine zq3 ?_ _)); exact BK239.out) hg (Kd.R_ne HO242.out BK239.out (by decide))); have n3_ := Aside0.mk (hb); have n4_ := Aside0.mk (ho); clear BK233; clear BK234; clear BK239; clear HB; clear HO242; have BK233 := n0_; have BK234 := n1_; have BK239 := n2_; have HB := n3_; have HO247 := n4_; clear n0_ n1_ n2_ n3_ n4_; clear ho hb hg hat)))
         go_meet
         case rel => exact ⟨_, (y245), H', ⟨by have := HJ3.out; first | omega | exact Nat.le_refl _⟩, ⟨by (with_reducible repeat (first | apply Kd.R_alloc | apply Kd.R_drewN | apply Kd.R_drew)); exact HO247.out⟩, ⟨by (with_reducible repeat (first | refine zq1 ?_ _ | refine zq2 ?_ | refine zq3 ?_ _)); exact BK233.out⟩, ⟨by (with_reducible repeat (first | refine zq1 ?_ _ | refine zq2 ?_ | refine zq3 ?_ _)); exact BK234.out⟩, ⟨by (with_reducible repeat (first | refine zq1 ?_ _ | refine zq2 ?_ | refine zq3 ?_ _)); exact BK239.out⟩, ⟨by repeat (first | (with_reducible first | exact HB.out | apply zq5 | apply zq4 | apply zq6 | refine below_set ?_ GE233.out | refine below_set ?_ GE234.out | refine below_set ?_ GE239.out) | exact HB.out)⟩⟩
        ·rw [if_neg c38] at H
         exact absurd H (by simp)
       ·replace c37 := Bool.eq_false_iff.mpr c37
        subst c37
        have H1 : (portolanref04_Ins.j1 kj3 t240 l0_0 a2_0 a2_1 a2_2 a2_3 a2_4 a2_5 l2_6 ((rd_T30 l0_0 a1).f0) ((rd_T30 l0_0 a1).f1) ((rd_T30 l0_0 a1).f2) ((rd_T30 l0_0 a1).f3) ((rd_T30 l0_0 a1).f4)) = some r := by first | (rw [if_neg (show ¬ (false = true) by decide)] at H; exact H) | rfl
        clear H
        have H := H1
        clear H1
        have H' := Aside0.mk H
        clear H
        go_wp2
        repeat (go_quiet (fail); try go_wp2)
        go_meet
        case rel => exact ⟨_, (t240), H', ⟨by have := HJ3.out; first | omega | exact Nat.le_refl _⟩, ⟨by (with_reducible repeat (first | apply Kd.R_alloc | apply Kd.R_drewN | apply Kd.R_drew)); exact HO242.out⟩, ⟨by (with_reducible repeat (first | refine zq1 ?_ _ | refine zq2 ?_ | refine zq3 ?_ _)); exact BK233.out⟩, ⟨by (with_reducible repeat (first | refine zq1 ?_ _ | refine zq2 ?_ | refine zq3 ?_ _)); exact BK234.out⟩, ⟨by (with_reducible repeat (first | refine zq1 ?_ _ | refine zq2 ?_ | refine zq3 ?_ _)); exact BK239.out⟩, ⟨by repeat (first | (with_reducible first | exact HB.out | apply zq5 | apply zq4 | apply zq6 | refine below_set ?_ GE233.out | refine below_set ?_ GE234.out | refine below_set ?_ GE239.out) | exact HB.out)⟩⟩
      case rest =>
       clear HC26
       try clear c1
       try clear c2
       try clear p2
       try clear q2
       try clear hx2
       try clear c3
       try clear p6
       try clear c8
       try clear c10
       try clear c10b0
       try clear c10b1
       try clear c11
       try clear c15
       try clear c19
       try clear c21
       try clear c22
       try clear c22b0
       try clear c23
       try clear c23b0
       try clear p23
       try clear q23
       try clear hx23
       try clear c27
       try clear c30
       try clear c31
       try clear c37
       try clear c38
       try clear hcz12_0
       try clear hcz13_0
       try clear hcz13_1
       try clear hcz13_2
       try clear hcz13_3
       try clear hcz13_4
       try clear hcz13_5
       try clear hcz13_6
       try clear hcz16_0
       try clear hcz17_0
       try clear hcz17_1
       try clear hcz17_2
       try clear hcz17_3
       try clear hcz17_4
       try clear hcz17_5
       try clear hcz17_6
       try clear hcz20_0
       try clear hcz28_0
       try clear hcz32_0
       try clear hcz32_1
       try clear hcz32_2
       try clear hcz32_3
       try clear hcz32_4
       try clear hcz33_0
       try clear hcz33_1
       try clear hcz33_2
       try clear hcz33_3
       try clear hcz33_4
       try clear hcz33_5
       try clear hcz33_6
       try clear hcz35_0
       try clear hcz35_1
       try clear hcz35_2
       try clear hcz35_3
       try clear hcz35_4
       try clear hcz35_5
       try clear hcz35_6
       try clear hfz12_0
       try clear hfz13_0
       try clear hfz13_1
       try clear hfz13_2
       try clear hfz13_3
       try clear hfz13_4
       try clear hfz13_5
       try clear hfz13_6
       try clear hfz16_0
       try clear hfz17_0
       try clear hfz17_1
       try clear hfz17_2
       try clear hfz17_3
       try clear hfz17_4
       try clear hfz17_5
       try clear hfz17_6
       try clear hfz20_0
       try clear hfz28_0
       try clear hfz32_0
       try clear hfz32_1
       try clear hfz32_2
       try clear hfz32_3
       try clear hfz32_4
       try clear hfz33_0
       try clear hfz33_1
       try clear hfz33_2
       try clear hfz33_3
       try clear hfz33_4
       try clear hfz33_5
       try clear hfz33_6
       try clear hfz35_0
       try clear hfz35_1
       try clear hfz35_2
       try clear hfz35_3
       try clear hfz35_4
       try clear hfz35_5
       try clear hfz35_6
       try clear hx238_0
       try clear hx238_1
       try clear hx238_2
       try clear hx238_3
       try clear hx238_4
       try clear p2
       try clear p238
       try clear p6
       try clear q238
       obtain ⟨kq, x8_25, HA, HJ25, HO_8, BK233, BK234, BK239, HB⟩ := hcut
       cases kq with
       | zero => exact absurd HA.out (by simp [portolanref04_Ins.j1])
       | succ kj25 =>
        have H := HA.out
        clear HA
        simp only [portolanref04_Ins.j1] at H
        have H' := Aside0.mk H
        clear H
        go_wp2
        repeat (go_quiet (fail); try go_wp2)
        go_loopg [11] kj25 (fun kq v11 w' => ∃ (x11_3 : Int), v11 = .int .i64 x11_3 ∧ Aside0 (portolanref04_Ins.l0 kq x8_25 x11_3 l0_0 a2_0 a2_1 a2_2 a2_3 a2_4 a2_5 l2_6 ((rd_T30 l0_0 a1).f0) ((rd_T30 l0_0 a1).f1) ((rd_T30 l0_0 a1).f2) ((rd_T30 l0_0 a1).f3) ((rd_T30 l0_0 a1).f4) = some r) ∧ Aside0 (kq ≤ kj25) ∧ Aside0 (Kd.R (Kd.int .i64) 3 w' w.heap.size (fun _ => True) u8 x8_25) ∧ Aside0 (w'.heap[gb233]? = some (.cells #[(.slice (some ad238) l0_0.length c0_0)] 24 (0, 0))) ∧ Aside0 (w'.heap[gb234]? = some (.cells #[.int .i64 a2_0, .int .i64 a2_1, .int .i64 a2_2, .int .i64 a2_3, .int .i64 a2_4, .int .i64 a2_5, (.slice A2_6 l2_6.length c2_6)] 52 (0, 0))) ∧ Aside0 (w'.heap[gb239]? = some (.cells #[(.slice A238_0 ((rd_T30 l0_0 a1).f0).length c238_0), (.slice A238_1 ((rd_T30 l0_0 a1).f1).length c238_1), .int .i64 ((rd_T30 l0_0 a1).f2), .int .i64 ((rd_T30 l0_0 a1).f3), (.slice A238_4 ((rd_T30 l0_0 a1).f4).length c238_4)] 30 (0, 0))) ∧ Aside0 (Below w.heap.size w w'))
        case atStart => exact ⟨(0), (by first | rfl | (simp; done) | (simp [*]; done)), H', ⟨Nat.le_refl _⟩, ⟨by (with_reducible repeat (first | apply Kd.R_alloc | apply Kd.R_drewN | apply Kd.R_drew)); exact HO_8.out⟩, ⟨by (with_reducible repeat (first | refine zq1 ?_ _ | refine zq2 ?_ | refine zq3 ?_ _)); exact BK233.out⟩, ⟨by (with_reducible repeat (first | refine zq1 ?_ _ | refine zq2 ?_ | refine zq3 ?_ _)); exact BK234.out⟩, ⟨by (with_reducible repeat (first | refine zq1 ?_ _ | refine zq2 ?_ | refine zq3 ?_ _)); exact BK239.out⟩, ⟨by repeat (first | (with_reducible first | exact HB.out | apply zq5 | apply zq4 | apply zq6 | refine below_set ?_ GE233.out | refine below_set ?_ GE234.out | refine below_set ?_ GE239.out) | exact HB.out)⟩⟩
        case round =>
         clear H'
         try clear c1
         try clear c2
         try clear p2
         try clear q2
         try clear hx2
         try clear c3
         try clear p6
         try clear c8
         try clear c10
         try clear c10b0
         try clear c10b1
         try clear c11
         try clear c15
         try clear c19
         try clear c21
         try clear c22
         try clear c22b0
         try clear c23
         try clear c23b0
         try clear p23
         try clear q23
         try clear hx23
         try clear c27
         try clear c30
         try clear c31
         try clear c37
         try clear c38
         try clear hcz12_0
         try clear hcz13_0
         try clear hcz13_1
         try clear hcz13_2
         try clear hcz13_3
         try clear hcz13_4
         try clear hcz13_5
         try clear hcz13_6
         try clear hcz16_0
         try clear hcz17_0
         try clear hcz17_1
         try clear hcz17_2
         try clear hcz17_3
         try clear hcz17_4
         try clear hcz17_5
         try clear hcz17_6
         try clear hcz20_0
         try clear hcz28_0
         try clear hcz32_0
         try clear hcz32_1
         try clear hcz32_2
         try clear hcz32_3
         try clear hcz32_4
         try clear hcz33_0
         try clear hcz33_1
         try clear hcz33_2
         try clear hcz33_3
         try clear hcz33_4
         try clear hcz33_5
         try clear hcz33_6
         try clear hcz35_0
         try clear hcz35_1
         try clear hcz35_2
         try clear hcz35_3
         try clear hcz35_4
         try clear hcz35_5
         try clear hcz35_6
         try clear hfz12_0
         try clear hfz13_0
         try clear hfz13_1
         try clear hfz13_2
         try clear hfz13_3
         try clear hfz13_4
         try clear hfz13_5
         try clear hfz13_6
         try clear hfz16_0
         try clear hfz17_0
         try clear hfz17_1
         try clear hfz17_2
         try clear hfz17_3
         try clear hfz17_4
         try clear hfz17_5
         try clear hfz17_6
         try clear hfz20_0
         try clear hfz28_0
         try clear hfz32_0
         try clear hfz32_1
         try clear hfz32_2
         try clear hfz32_3
         try clear hfz32_4
         try clear hfz33_0
         try clear hfz33_1
         try clear hfz33_2
         try clear hfz33_3
         try clear hfz33_4
         try clear hfz33_5
         try clear hfz33_6
         try clear hfz35_0
         try clear hfz35_1
         try clear hfz35_2
         try clear hfz35_3
         try clear hfz35_4
         try clear hfz35_5
         try clear hfz35_6
         try clear hx238_0
         try clear hx238_1
         try clear hx238_2
         try clear hx238_3
         try clear hx238_4
         try clear p2
         try clear p23
         try clear p238
         try clear p6
         try clear q2
         try clear q23
         try clear q238
         obtain ⟨x11_3, rfl, HA, HK3, HO_8, BK233, BK234, BK239, HB⟩ := hrel
         cases gk with
         | zero => exact absurd HA.out (by simp [portolanref04_Ins.l0])
         | succ k3 =>
          have H := HA.out
          clear HA
          simp only [portolanref04_Ins.l0] at H
          by_cases c40 : x11_3 < (x8_25.length : Int)
          ·rw [if_pos c40] at H
           have c40b0 : decide (x11_3 < (x8_25.length : Int)) = true := decide_eq_true c40
           clear c40
           by_cases c41 : 0 ≤ x11_3
           ·rw [if_pos c41] at H
            have c41b0 : decide (0 ≤ x11_3) = true := decide_eq_true c41
            clear c41
            replace H := Option.bind_eq_some_iff.mp H
            obtain ⟨t249, A420, H⟩ := H
            replace H : (if t249 = true then (portolanref04_Ins.l0 k3 x8_25 (wrap64 (x11_3 + 1)) l0_0 a2_0 a2_1 a2_2 a2_3 a2_4 a2_5 l2_6 ((rd_T30 l0_0 a1).f0) ((rd_T30 l0_0 a1).f1) ((rd_T30 l0_0 a1).f2) ((rd_T30 l0_0 a1).f3) ((rd_T30 l0_0 a1).f4)) else (some false)) = some r := H
            have A42 := Aside0.mk A420
            clear A420
            by_cases c43 : t249 = true
            ·subst c43
             have H1 : (portolanref04_Ins.l0 k3 x8_25 (wrap64 (x11_3 + 1)) l0_0 a2_0 a2_1 a2_2 a2_3 a2_4 a2_5 l2_6 ((rd_T30 l0_0 a1).f0) ((rd_T30 l0_0 a1).f1) ((rd_T30 l0_0 a1).f2) ((rd_T30 l0_0 a1).f3) ((rd_T30 l0_0 a1).f4)) = some r := by first | (rw [if_pos rfl] at H; exact H) | rfl
             clear H
             have H := H1
             clear H1
             have H' := Aside0.mk H
             clear H
             obtain ⟨Ao44, co44, eo44⟩ := Kd.R_slice HO_8.out
             subst eo44
             have p248 : 0 ≤ (x11_3 : Int) := of_decide_eq_true (by first | (with_reducible assumption) | assumption)
             have q248 : x11_3 < (x8_25.length : Int) := of_decide_eq_true (by first | (with_reducible assumption) | assumption)
             obtain ⟨ad248, e248, hx248_0⟩ := Kd.at_int (Kd.R_reads' HO_8.out).2.2 x11_3 p248 q248
             cases e248
             replace p248 := eq_true p248
             replace q248 := eq_true q248
             have hnb45 := NB239_233.out
             have hnc45 := NB233_239.out
             have hnb46 := NB239_234.out
             have hnc46 := NB234_239.out
             have hcz47_0 : wr.cell? ⟨gb239, 0, none⟩ = some (.slice A238_0 ((rd_T30 l0_0 a1).f0).length c238_0) := (blk_cell BK239.out 0).trans rfl
             have hcz47_1 : wr.cell? ⟨gb239, 1, none⟩ = some (.slice A238_1 ((rd_T30 l0_0 a1).f1).length c238_1) := (blk_cell BK239.out 1).trans rfl
             have hcz47_2 : wr.cell? ⟨gb239, 2, none⟩ = some (.int .i64 ((rd_T30 l0_0 a1).f2)) := (blk_cell BK239.out 2).trans rfl
             have hcz47_3 : wr.cell? ⟨gb239, 3, none⟩ = some (.int .i64 ((rd_T30 l0_0 a1).f3)) := (blk_cell BK239.out 3).trans rfl
             have hcz47_4 : wr.cell? ⟨gb239, 4, none⟩ = some (.slice A238_4 ((rd_T30 l0_0 a1).f4).length c238_4) := (blk_cell BK239.out 4).trans rfl
             have hfz47_0 := blk_frozen BK239.out 0
             have hfz47_1 := blk_frozen BK239.out 1
             have hfz47_2 := blk_frozen BK239.out 2
             have hfz47_3 := blk_frozen BK239.out 3
             have hfz47_4 := blk_frozen BK239.out 4
             go_wp2_with (first | (go_at_call 86; (with_reducible refine (portolanref04_within.calls (rd x8_25 x11_3) 0 (wrap64 ((((rd_T30 l0_0 a1).f0).length : Int) - 1)) true _ A42.out).mono ?_); rintro e w' ⟨rfl, ⟨nd, rfl⟩⟩; (try first | exact ⟨rfl, _, World.drewN_drewN _ _ _⟩ | exact ⟨rfl, _, Eq.trans (World.drewN_drewN _ _ _) (congrArg (World.drewN _) (Nat.add_assoc _ _ _))⟩)))
             repeat (go_quiet (first | (go_at_call 86; (with_reducible refine (portolanref04_within.calls (rd x8_25 x11_3) 0 (wrap64 ((((rd_T30 l0_0 a1).f0).length : Int) - 1)) true _ A42.out).mono ?_); rintro e w' ⟨rfl, ⟨nd, rfl⟩⟩; (try first | exact ⟨rfl, _, World.drewN_drewN _ _ _⟩ | exact ⟨rfl, _, Eq.trans (World.drewN_drewN _ _ _) (congrArg (World.drewN _) (Nat.add_assoc _ _ _))⟩))); try go_wp2_with (first | (go_at_call 86; (with_reducible refine (portolanref04_within.calls (rd x8_25 x11_3) 0 (wrap64 ((((rd_T30 l0_0 a1).f0).length : Int) - 1)) true _ A42.out).mono ?_); rintro e w' ⟨rfl, ⟨nd, rfl⟩⟩; (try first | exact ⟨rfl, _, World.drewN_drewN _ _ _⟩ | exact ⟨rfl, _, Eq.trans (World.drewN_drewN _ _ _) (congrArg (World.drewN _) (Nat.add_assoc _ _ _))⟩))))
             go_roundg k3
             case measure => have := HJ3.out; have := HJ25.out; have := HK3.out; omega
             case rel => exact ⟨(wrap64 (x11_3 + 1)), (by first | rfl | (simp; done) | (simp [*]; done)), H', ⟨by have := HJ3.out; have := HJ25.out; have := HK3.out; omega⟩, ⟨by (with_reducible repeat (first | apply Kd.R_alloc | apply Kd.R_drewN | apply Kd.R_drew)); exact HO_8.out⟩, ⟨by (with_reducible repeat (first | refine zq1 ?_ _ | refine zq2 ?_ | refine zq3 ?_ _)); exact BK233.out⟩, ⟨by (with_reducible repeat (first | refine zq1 ?_ _ | refine zq2 ?_ | refine zq3 ?_ _)); exact BK234.out⟩, ⟨by (with_reducible repeat (first | refine zq1 ?_ _ | refine zq2 ?_ | refine zq3 ?_ _)); exact BK239.out⟩, ⟨by repeat (first | (with_reducible first | exact HB.out | apply zq5 | apply zq4 | apply zq6 | refine below_set ?_ GE233.out | refine below_set ?_ GE234.out | refine below_set ?_ GE239.out) | exact HB.out)⟩⟩
            ·replace c43 := Bool.eq_false_iff.mpr c43
             subst c43
             have H1 : (some false) = some r := by first | (rw [if_neg (show ¬ (false = true) by decide)] at H; exact H) | rfl
             clear H
             have H := H1
             clear H1
             obtain rfl := Option.some.inj H
             obtain ⟨Ao48, co48, eo48⟩ := Kd.R_slice HO_8.out
             subst eo48
             have p248 : 0 ≤ (x11_3 : Int) := of_decide_eq_true (by first | (with_reducible assumption) | assumption)
             have q248 : x11_3 < (x8_25.length : Int) := of_decide_eq_true (by first | (with_reducible assumption) | assumption)
             obtain ⟨ad248, e248, hx248_0⟩ := Kd.at_int (Kd.R_reads' HO_8.out).2.2 x11_3 p248 q248
             cases e248
             replace p248 := eq_true p248
             replace q248 := eq_true q248
             have hnb49 := NB239_233.out
             have hnc49 := NB233_239.out
             have hnb50 := NB239_234.out
             have hnc50 := NB234_239.out
             have hcz51_0 : wr.cell? ⟨gb239, 0, none⟩ = some (.slice A238_0 ((rd_T30 l0_0 a1).f0).length c238_0) := (blk_cell BK239.out 0).trans rfl
             have hcz51_1 : wr.cell? ⟨gb239, 1, none⟩ = some (.slice A238_1 ((rd_T30 l0_0 a1).f1).length c238_1) := (blk_cell BK239.out 1).trans rfl
             have hcz51_2 : wr.cell? ⟨gb239, 2, none⟩ = some (.int .i64 ((rd_T30 l0_0 a1).f2)) := (blk_cell BK239.out 2).trans rfl
             have hcz51_3 : wr.cell? ⟨gb239, 3, none⟩ = some (.int .i64 ((rd_T30 l0_0 a1).f3)) := (blk_cell BK239.out 3).trans rfl
             have hcz51_4 : wr.cell? ⟨gb239, 4, none⟩ = some (.slice A238_4 ((rd_T30 l0_0 a1).f4).length c238_4) := (blk_cell BK239.out 4).trans rfl
             have hfz51_0 := blk_frozen BK239.out 0
             have hfz51_1 := blk_frozen BK239.out 1
             have hfz51_2 := blk_frozen BK239.out 2
             have hfz51_3 := blk_frozen BK239.out 3
             have hfz51_4 := blk_frozen BK239.out 4
             go_wp2_with (first | (go_at_call 86; (with_reducible refine (portolanref04_within.calls (rd x8_25 x11_3) 0 (wrap64 ((((rd_T30 l0_0 a1).f0).length : Int) - 1)) false _ A42.out).mono ?_); rintro e w' ⟨rfl, ⟨nd, rfl⟩⟩; (try first | exact ⟨rfl, _, World.drewN_drewN _ _ _⟩ | exact ⟨rfl, _, Eq.trans (World.drewN_drewN _ _ _) (congrArg (World.drewN _) (Nat.add_assoc _ _ _))⟩)))
             repeat (go_quiet (first | (go_at_call 86; (with_reducible refine (portolanref04_within.calls (rd x8_25 x11_3) 0 (wrap64 ((((rd_T30 l0_0 a1).f0).length : Int) - 1)) false _ A42.out).mono ?_); rintro e w' ⟨rfl, ⟨nd, rfl⟩⟩; (try first | exact ⟨rfl, _, World.drewN_drewN _ _ _⟩ | exact ⟨rfl, _, Eq.trans (World.drewN_drewN _ _ _) (congrArg (World.drewN _) (Nat.add_assoc _ _ _))⟩))); try go_wp2_with (first | (go_at_call 86; (with_reducible refine (portolanref04_within.calls (rd x8_25 x11_3) 0 (wrap64 ((((rd_T30 l0_0 a1).f0).length : Int) - 1)) false _ A42.out).mono ?_); rintro e w' ⟨rfl, ⟨nd, rfl⟩⟩; (try first | exact ⟨rfl, _, World.drewN_drewN _ _ _⟩ | exact ⟨rfl, _, Eq.trans (World.drewN_drewN _ _ _) (congrArg (World.drewN _) (Nat.add_assoc _ _ _))⟩))))
             go_ret
             exact ⟨by first | rfl | (simp [errW_none, errW_some] <;> rfl) | (simp [*, errW_none, errW_some] <;> rfl), by repeat (first | (with_reducible first | exact HB.out | apply zq5 | apply zq4 | apply zq6 | refine below_set ?_ GE233.out | refine below_set ?_ GE234.out | refine below_set ?_ GE239.out) | exact HB.out)⟩
           ·rw [if_neg c41] at H
            exact absurd H (by simp)
          ·rw [if_neg c40] at H
           have c40b0 : decide (x11_3 < (x8_25.length : Int)) = false := decide_eq_false c40
           clear c40
           replace H := Option.bind_eq_some_iff.mp H
           obtain ⟨t250, A520, H⟩ := H
           replace H : (portolanref04_Ins.l1 k3 t250 0 l0_0 a2_0 a2_1 a2_2 a2_3 a2_4 a2_5 l2_6 ((rd_T30 l0_0 a1).f0) ((rd_T30 l0_0 a1).f1) ((rd_T30 l0_0 a1).f2) ((rd_T30 l0_0 a1).f3) ((rd_T30 l0_0 a1).f4)) = some r := H
           have A52 := Aside0.mk A520
           clear A520
           have H' := Aside0.mk H
           clear H
           obtain ⟨Ao53, co53, eo53⟩ := Kd.R_slice HO_8.out
           subst eo53
           have hnb54 := NB234_233.out
           have hnc54 := NB233_234.out
           have hnb55 := NB234_239.out
           have hnc55 := NB239_234.out
           have hcz56_0 : wr.cell? ⟨gb234, 0, none⟩ = some (.int .i64 a2_0) := (blk_cell BK234.out 0).trans rfl
           have hcz56_1 : wr.cell? ⟨gb234, 1, none⟩ = some (.int .i64 a2_1) := (blk_cell BK234.out 1).trans rfl
           have hcz56_2 : wr.cell? ⟨gb234, 2, none⟩ = some (.int .i64 a2_2) := (blk_cell BK234.out 2).trans rfl
           have hcz56_3 : wr.cell? ⟨gb234, 3, none⟩ = some (.int .i64 a2_3) := (blk_cell BK234.out 3).trans rfl
           have hcz56_4 : wr.cell? ⟨gb234, 4, none⟩ = some (.int .i64 a2_4) := (blk_cell BK234.out 4).trans rfl
           have hcz56_5 : wr.cell? ⟨gb234, 5, none⟩ = some (.int .i64 a2_5) := (blk_cell BK234.out 5).trans rfl
           have hcz56_6 : wr.cell? ⟨gb234, 6, none⟩ = some (.slice A2_6 l2_6.length c2_6) := (blk_cell BK234.out 6).trans rfl
           have hfz56_0 := blk_frozen BK234.out 0
           have hfz56_1 := blk_frozen BK234.out 1
           have hfz56_2 := blk_frozen BK234.out 2
           have hfz56_3 := blk_frozen BK234.out 3
           have hfz56_4 := blk_frozen BK234.out 4
           have hfz56_5 := blk_frozen BK234.out 5
           have hfz56_6 := blk_frozen BK234.out 6
           go_wp2_with (first | (go_at_call 58; (with_reducible refine (portolanref04_Next.calls a2_0 a2_1 a2_2 a2_3 a2_4 a2_5 _ _ l2_6 t250 _ ?side1 ?side2 A52.out).mono ?_); (case side1 => repeat (first | exact (Kd.C_below HR2_6.out HB.out) | (with_reducible refine Kd.C_alloc ?_ _) | (with_reducible refine Kd.C_drewN ?_ _) | (with_reducible refine Kd.C_drew ?_))); (case side2 => exact HC2_6.out); rintro e w57 ⟨v251, rfl, ho0, hb⟩; have n0_ := Aside0.mk (Kd.R_elder' (by (with_reducible repeat (first | apply Kd.R_alloc | apply Kd.R_drewN | apply Kd.R_drew)); exact HO_8.out) (Kd.R_base ho0) hb); have n1_ := Aside0.mk (Kd.R_lower (Kd.R_new' ho0 (Kd.R_lt (by (with_reducible repeat (first | apply Kd.R_alloc | apply Kd.R_drewN | apply Kd.R_drew)); exact HO_8.out))) (below_size (by repeat (first | (with_reducible first | exact HB.out | apply zq5 | apply zq4 | apply zq6 | refine below_set ?_ GE233.out | refine below_set ?_ GE234.out | refine below_set ?_ GE239.out) | exact HB.out)))); have n2_ := Aside0.mk (blk_below (g := gb233) (o := .cells #[.slice (some ad238) l0_0.length c0_0] 24 (0, 0)) (by (with_reducible repeat (first | refine zq1 ?_ _ | refine zq2 ?_ | refine zq3 ?_ _)); exact BK233.out) hb); have n3_ := Aside0.mk (blk_below (g := gb234) (o := .cells #[.int .i64 a2_0, .int .i64 a2_1, .int .i64 a2_2, .int .i64 a2_3, .int .i64 a2_4, .int .i64 a2_5, .slice A2_6 l2_6.length c2_6] 52 (0, 0)) (by (with_reducible repeat (first | refine zq1 ?_ _ | refine zq2 ?_ | refine zq3 ?_ _)); exact BK234.out) hb); have n4_ := Aside0.mk (blk_below (g := gb239) (o := .cells #[.slice A238_0 ((rd_T30 l0_0 a1).f0).length c238_0, .slice A238_1 ((rd_T30 l0_0 a1).f1).length c238_1, .int .i64 ((rd_T30 l0_0 a1).f2), .int .i64 ((rd_T30 l0_0 a1).f3), .slice A238_4 ((rd_T30 l0_0 a1).f4).length c238_4] 30 (0, 0)) (by (with_reducible repeat (first | refine zq1 ?_ _ | refine zq2 ?_ | refine zq3 ?_ _)); exact BK239.out) hb); have n5_ := Aside0.mk (below_step (by repeat (first | (with_reducible first | exact HB.out | apply zq5 | apply zq4 | apply zq6 | refine below_set ?_ GE233.out | refine below_set ?_ GE234.out | refine below_set ?_ GE239.out) | exact HB.out)) hb); clear HO_8; clear BK233; clear BK234; clear BK239; clear HB; have HO_8 := n0_; have HO252 := n1_; have BK233 := n2_; have BK234 := n3_; have BK239 := n4_; have HB := n5_; clear n0_ n1_ n2_ n3_ n4_ n5_; (try clear hb); (try clear hb2); (try clear hk); (try clear hi); (try clear ho0)))
           repeat (go_quiet (first | (go_at_call 58; (with_reducible refine (portolanref04_Next.calls a2_0 a2_1 a2_2 a2_3 a2_4 a2_5 _ _ l2_6 t250 _ ?side1 ?side2 A52.out).mono ?_); (case side1 => repeat (first | exact (Kd.C_below HR2_6.out HB.out) | (with_reducible refine Kd.C_alloc ?_ _) | (with_reducible refine Kd.C_drewN ?_ _) | (with_reducible refine Kd.C_drew ?_))); (case side2 => exact HC2_6.out); rintro e w57 ⟨v251, rfl, ho0, hb⟩; have n0_ := Aside0.mk (Kd.R_elder' (by (with_reducible repeat (first | apply Kd.R_alloc | apply Kd.R_drewN | apply Kd.R_drew)); exact HO_8.out) (Kd.R_base ho0) hb); have n1_ := Aside0.mk (Kd.R_lower (Kd.R_new' ho0 (Kd.R_lt (by (with_reducible repeat (first | apply Kd.R_alloc | apply Kd.R_drewN | apply Kd.R_drew)); exact HO_8.out))) (below_size (by repeat (first | (with_reducible first | exact HB.out | apply zq5 | apply zq4 | apply zq6 | refine below_set ?_ GE233.out | refine below_set ?_ GE234.out | refine below_set ?_ GE239.out) | exact HB.out)))); have n2_ := Aside0.mk (blk_below (g := gb233) (o := .cells #[.slice (some ad238) l0_0.length c0_0] 24 (0, 0)) (by (with_reducible repeat (first | refine zq1 ?_ _ | refine zq2 ?_ | refine zq3 ?_ _)); exact BK233.out) hb); have n3_ := Aside0.mk (blk_below (g := gb234) (o := .cells #[.int .i64 a2_0, .int .i64 a2_1, .int .i64 a2_2, .int .i64 a2_3, .int .i64 a2_4, .int .i64 a2_5, .slice A2_6 l2_6.length c2_6] 52 (0, 0)) (by (with_reducible repeat (first | refine zq1 ?_ _ | refine zq2 ?_ | refine zq3 ?_ _)); exact BK234.out) hb); have n4_ := Aside0.mk (blk_below (g := gb239) (o := .cells #[.slice A238_0 ((rd_T30 l0_0 a1).f0).length c238_0, .slice A238_1 ((rd_T30 l0_0 a1).f1).length c238_1, .int .i64 ((rd_T30 l0_0 a1).f2), .int .i64 ((rd_T30 l0_0 a1).f3), .slice A238_4 ((rd_T30 l0_0 a1).f4).length c238_4] 30 (0, 0)) (by (with_reducible repeat (first | refine zq1 ?_ _ | refine zq2 ?_ | refine zq3 ?_ _)); exact BK239.out) hb); have n5_ := Aside0.mk (below_step (by repeat (first | (with_reducible first | exact HB.out | apply zq5 | apply zq4 | apply zq6 | refine below_set ?_ GE233.out | refine below_set ?_ GE234.out | refine below_set ?_ GE239.out) | exact HB.out)) hb); clear HO_8; clear BK233; clear BK234; clear BK239; clear HB; have HO_8 := n0_; have HO252 := n1_; have BK233 := n2_; have BK234 := n3_; have BK239 := n4_; have HB := n5_; clear n0_ n1_ n2_ n3_ n4_ n5_; (try clear hb); (try clear hb2); (try clear hk); (try clear hi); (try clear ho0))); try go_wp2_with (first | (go_at_call 58; (with_reducible refine (portolanref04_Next.calls a2_0 a2_1 a2_2 a2_3 a2_4 a2_5 _ _ l2_6 t250 _ ?side1 ?side2 A52.out).mono ?_); (case side1 => repeat (first | exact (Kd.C_below HR2_6.out HB.out) | (with_reducible refine Kd.C_alloc ?_ _) | (with_reducible refine Kd.C_drewN ?_ _) | (with_reducible refine Kd.C_drew ?_))); (case side2 => exact HC2_6.out); rintro e w57 ⟨v251, rfl, ho0, hb⟩; have n0_ := Aside0.mk (Kd.R_elder' (by (with_reducible repeat (first | apply Kd.R_alloc | apply Kd.R_drewN | apply Kd.R_drew)); exact HO_8.out) (Kd.R_base ho0) hb); have n1_ := Aside0.mk (Kd.R_lower (Kd.R_new' ho0 (Kd.R_lt (by (with_reducible repeat (first | apply Kd.R_alloc | apply Kd.R_drewN | apply Kd.R_drew)); exact HO_8.out))) (below_size (by repeat (first | (with_reducible first | exact HB.out | apply zq5 | apply zq4 | apply zq6 | refine below_set ?_ GE233.out | refine below_set ?_ GE234.out | refine below_set ?_ GE239.out) | exact HB.out)))); have n2_ := Aside0.mk (blk_below (g := gb233) (o := .cells #[.slice (some ad238) l0_0.length c0_0] 24 (0, 0)) (by (with_reducible repeat (first | refine zq1 ?_ _ | refine zq2 ?_ | refine zq3 ?_ _)); exact BK233.out) hb); have n3_ := Aside0.mk (blk_below (g := gb234) (o := .cells #[.int .i64 a2_0, .int .i64 a2_1, .int .i64 a2_2, .int .i64 a2_3, .int .i64 a2_4, .int .i64 a2_5, .slice A2_6 l2_6.length c2_6] 52 (0, 0)) (by (with_reducible repeat (first | refine zq1 ?_ _ | refine zq2 ?_ | refine zq3 ?_ _)); exact BK234.out) hb); have n4_ := Aside0.mk (blk_below (g := gb239) (o := .cells #[.slice A238_0 ((rd_T30 l0_0 a1).f0).length c238_0, .slice A238_1 ((rd_T30 l0_0 a1).f1).length c238_1, .int .i64 ((rd_T30 l0_0 a1).f2), .int .i64 ((rd_T30 l0_0 a1).f3), .slice A238_4 ((rd_T30 l0_0 a1).f4).length c238_4] 30 (0, 0)) (by (with_reducible repeat (first | refine zq1 ?_ _ | refine zq2 ?_ | refine zq3 ?_ _)); exact BK239.out) hb); have n5_ := Aside0.mk (below_step (by repeat (first | (with_reducible first | exact HB.out | apply zq5 | apply zq4 | apply zq6 | refine below_set ?_ GE233.out | refine below_set ?_ GE234.out | refine below_set ?_ GE239.out) | exact HB.out)) hb); clear HO_8; clear BK233; clear BK234; clear BK239; clear HB; have HO_8 := n0_; have HO252 := n1_; have BK233 := n2_; have BK234 := n3_; have BK239 := n4_; have HB := n5_; clear n0_ n1_ n2_ n3_ n4_ n5_; (try clear hb); (try clear hb2); (try clear hk); (try clear hi); (try clear ho0))))
           go_loopg [13] k3 (fun kq v13 w' => ∃ (x13_4 : Int), v13 = .int .i64 x13_4 ∧ Aside0 (portolanref04_Ins.l1 kq t250 x13_4 l0_0 a2_0 a2_1 a2_2 a2_3 a2_4 a2_5 l2_6 ((rd_T30 l0_0 a1).f0) ((rd_T30 l0_0 a1).f1) ((rd_T30 l0_0 a1).f2) ((rd_T30 l0_0 a1).f3) ((rd_T30 l0_0 a1).f4) = some r) ∧ Aside0 (kq ≤ k3) ∧ Aside0 (Kd.R (Kd.int .i64) 3 w' w.heap.size (fun _ => True) v251 t250) ∧ Aside0 (w'.heap[gb233]? = some (.cells #[(.slice (some ad238) l0_0.length c0_0)] 24 (0, 0))) ∧ Aside0 (w'.heap[gb234]? = some (.cells #[.int .i64 a2_0, .int .i64 a2_1, .int .i64 a2_2, .int .i64 a2_3, .int .i64 a2_4, .int .i64 a2_5, (.slice A2_6 l2_6.length c2_6)] 52 (0, 0))) ∧ Aside0 (w'.heap[gb239]? = some (.cells #[(.slice A238_0 ((rd_T30 l0_0 a1).f0).length c238_0), (.slice A238_1 ((rd_T30 l0_0 a1).f1).length c238_1), .int .i64 ((rd_T30 l0_0 a1).f2), .int .i64 ((rd_T30 l0_0 a1).f3), (.slice A238_4 ((rd_T30 l0_0 a1).f4).length c238_4)] 30 (0, 0))) ∧ Aside0 (Below w.heap.size w w'))
           case atStart => exact ⟨(0), (by first | rfl | (simp; done) | (simp [*]; done)), H', ⟨Nat.le_refl _⟩, ⟨by (with_reducible repeat (first | apply Kd.R_alloc | apply Kd.R_drewN | apply Kd.R_drew)); exact Kd.R_mono HO252.out (fun _ hk => trivial)⟩, ⟨by (with_reducible repeat (first | refine zq1 ?_ _ | refine zq2 ?_ | refine zq3 ?_ _)); exact BK233.out⟩, ⟨by (with_reducible repeat (first | refine zq1 ?_ _ | refine zq2 ?_ | refine zq3 ?_ _)); exact BK234.out⟩, ⟨by (with_reducible repeat (first | refine zq1 ?_ _ | refine zq2 ?_ | refine zq3 ?_ _)); exact BK239.out⟩, ⟨by repeat (first | (with_reducible first | exact HB.out | apply zq5 | apply zq4 | apply zq6 | refine below_set ?_ GE233.out | refine below_set ?_ GE234.out | refine below_set ?_ GE239.out) | exact HB.out)⟩⟩
           case round =>
            clear H'
            try clear c1
            try clear c2
            try clear p2
            try clear q2
            try clear hx2
            try clear c3
            try clear c4
            try clear c5
            try clear p6
            try clear c8
            try clear c10
            try clear c10b0
            try clear c10b1
            try clear c11
            try clear c15
            try clear c19
            try clear c21
            try clear c22
            try clear c22b0
            try clear c23
            try clear c23b0
            try clear p23
            try clear q23
            try clear hx23
            try clear p24
            try clear q24
            try clear hx24
            try clear c27
            try clear c30
            try clear c31
            try clear c37
            try clear c38
            try clear c40
            try clear c40b0
            try clear c41
            try clear c41b0
            try clear c43
            try clear c45
            try clear c46
            try clear c49
            try clear c50
            try clear c54
            try clear c55
            try clear hcz12_0
            try clear hcz13_0
            try clear hcz13_1
            try clear hcz13_2
            try clear hcz13_3
            try clear hcz13_4
            try clear hcz13_5
            try clear hcz13_6
            try clear hcz16_0
            try clear hcz17_0
            try clear hcz17_1
            try clear hcz17_2
            try clear hcz17_3
            try clear hcz17_4
            try clear hcz17_5
            try clear hcz17_6
            try clear hcz20_0
            try clear hcz28_0
            try clear hcz32_0
            try clear hcz32_1
            try clear hcz32_2
            try clear hcz32_3
            try clear hcz32_4
            try clear hcz33_0
            try clear hcz33_1
            try clear hcz33_2
            try clear hcz33_3
            try clear hcz33_4
            try clear hcz33_5
            try clear hcz33_6
            try clear hcz35_0
            try clear hcz35_1
            try clear hcz35_2
            try clear hcz35_3
            try clear hcz35_4
            try clear hcz35_5
            try clear hcz35_6
            try clear hcz47_0
            try clear hcz47_1
            try clear hcz47_2
            try clear hcz47_3
            try clear hcz47_4
            try clear hcz51_0
            try clear hcz51_1
            try clear hcz51_2
            try clear hcz51_3
            try clear hcz51_4
            try clear hcz56_0
            try clear hcz56_1
            try clear hcz56_2
            try clear hcz56_3
            try clear hcz56_4
            try clear hcz56_5
            try clear hcz56_6
            try clear hfz12_0
            try clear hfz13_0
            try clear hfz13_1
            try clear hfz13_2
            try clear hfz13_3
            try clear hfz13_4
            try clear hfz13_5
            try clear hfz13_6
            try clear hfz16_0
            try clear hfz17_0
            try clear hfz17_1
            try clear hfz17_2
            try clear hfz17_3
            try clear hfz17_4
            try clear hfz17_5
            try clear hfz17_6
            try clear hfz20_0
            try clear hfz28_0
            try clear hfz32_0
            try clear hfz32_1
            try clear hfz32_2
            try clear hfz32_3
            try clear hfz32_4
            try clear hfz33_0
            try clear hfz33_1
            try clear hfz33_2
            try clear hfz33_3
            try clear hfz33_4
            try clear hfz33_5
            try clear hfz33_6
            try clear hfz35_0
            try clear hfz35_1
            try clear hfz35_2
            try clear hfz35_3
            try clear hfz35_4
            try clear hfz35_5
            try clear hfz35_6
            try clear hfz47_0
            try clear hfz47_1
            try clear hfz47_2
            try clear hfz47_3
            try clear hfz47_4
            try clear hfz51_0
            try clear hfz51_1
            try clear hfz51_2
            try clear hfz51_3
            try clear hfz51_4
            try clear hfz56_0
            try clear hfz56_1
            try clear hfz56_2
            try clear hfz56_3
            try clear hfz56_4
            try clear hfz56_5
            try clear hfz56_6
            try clear hx238_0
            try clear hx238_1
            try clear hx238_2
            try clear hx238_3
            try clear hx238_4
            try clear hx248_0
            try clear p2
            try clear p23
            try clear p238
            try clear p248
            try clear p6
            try clear q2
            try clear q23
            try clear q238
            try clear q248
            obtain ⟨x13_4, rfl, HA, HK4, HO_12, BK233, BK234, BK239, HB⟩ := hrel
            cases gk with
            | zero => exact absurd HA.out (by simp [portolanref04_Ins.l1])
            | succ k4 =>
             have H := HA.out
             clear HA
             simp only [portolanref04_Ins.l1] at H
             by_cases c58 : x13_4 < (t250.length : Int)
             ·rw [if_pos c58] at H
              have c58b0 : decide (x13_4 < (t250.length : Int)) = true := decide_eq_true c58
              clear c58
              by_cases c59 : 0 ≤ x13_4
              ·rw [if_pos c59] at H
               have c59b0 : decide (0 ≤ x13_4) = true := decide_eq_true c59
               clear c59
               replace H := Option.bind_eq_some_iff.mp H
               obtain ⟨t254, A600, H⟩ := H
               replace H : (if t254 = true then (portolanref04_Ins.l1 k4 t250 (wrap64 (x13_4 + 1)) l0_0 a2_0 a2_1 a2_2 a2_3 a2_4 a2_5 l2_6 ((rd_T30 l0_0 a1).f0) ((rd_T30 l0_0 a1).f1) ((rd_T30 l0_0 a1).f2) ((rd_T30 l0_0 a1).f3) ((rd_T30 l0_0 a1).f4)) else (some false)) = some r := H
               have A60 := Aside0.mk A600
               clear A600
               by_cases c61 : t254 = true
               ·subst c61
                have H1 : (portolanref04_Ins.l1 k4 t250 (wrap64 (x13_4 + 1)) l0_0 a2_0 a2_1 a2_2 a2_3 a2_4 a2_5 l2_6 ((rd_T30 l0_0 a1).f0) ((rd_T30 l0_0 a1).f1) ((rd_T30 l0_0 a1).f2) ((rd_T30 l0_0 a1).f3) ((rd_T30 l0_0 a1).f4)) = some r := by first | (rw [if_pos rfl] at H; exact H) | rfl
                clear H
                have H := H1
                clear H1
                have H' := Aside0.mk H
                clear H
                obtain ⟨Ao62, co62, eo62⟩ := Kd.R_slice HO_12.out
                subst eo62
                have p253 : 0 ≤ (x13_4 : Int) := of_decide_eq_true (by first | (with_reducible assumption) | assumption)
                have q253 : x13_4 < (t250.length : Int) := of_decide_eq_true (by first | (with_reducible assumption) | assumption)
                obtain ⟨ad253, e253, hx253_0⟩ := Kd.at_int (Kd.R_reads' HO_12.out).2.2 x13_4 p253 q253
                cases e253
                replace p253 := eq_true p253
                replace q253 := eq_true q253
                have hnb63 := NB239_233.out
                have hnc63 := NB233_239.out
                have hnb64 := NB239_234.out
                have hnc64 := NB234_239.out
                have hcz65_0 : wr.cell? ⟨gb239, 0, none⟩ = some (.slice A238_0 ((rd_T30 l0_0 a1).f0).length c238_0) := (blk_cell BK239.out 0).trans rfl
                have hcz65_1 : wr.cell? ⟨gb239, 1, none⟩ = some (.slice A238_1 ((rd_T30 l0_0 a1).f1).length c238_1) := (blk_cell BK239.out 1).trans rfl
                have hcz65_2 : wr.cell? ⟨gb239, 2, none⟩ = some (.int .i64 ((rd_T30 l0_0 a1).f2)) := (blk_cell BK239.out 2).trans rfl
                have hcz65_3 : wr.cell? ⟨gb239, 3, none⟩ = some (.int .i64 ((rd_T30 l0_0 a1).f3)) := (blk_cell BK239.out 3).trans rfl
                have hcz65_4 : wr.cell? ⟨gb239, 4, none⟩ = some (.slice A238_4 ((rd_T30 l0_0 a1).f4).length c238_4) := (blk_cell BK239.out 4).trans rfl
                have hfz65_0 := blk_frozen BK239.out 0
                have hfz65_1 := blk_frozen BK239.out 1
                have hfz65_2 := blk_frozen BK239.out 2
                have hfz65_3 := blk_frozen BK239.out 3
                have hfz65_4 := blk_frozen BK239.out 4
                go_wp2_with (first | (go_at_call 86; (with_reducible refine (portolanref04_within.calls (rd t250 x13_4) 1 (wrap64 ((((rd_T30 l0_0 a1).f4).length : Int) - 1)) true _ A60.out).mono ?_); rintro e w' ⟨rfl, ⟨nd, rfl⟩⟩; (try first | exact ⟨rfl, _, World.drewN_drewN _ _ _⟩ | exact ⟨rfl, _, Eq.trans (World.drewN_drewN _ _ _) (congrArg (World.drewN _) (Nat.add_assoc _ _ _))⟩)))
                repeat (go_quiet (first | (go_at_call 86; (with_reducible refine (portolanref04_within.calls (rd t250 x13_4) 1 (wrap64 ((((rd_T30 l0_0 a1).f4).length : Int) - 1)) true _ A60.out).mono ?_); rintro e w' ⟨rfl, ⟨nd, rfl⟩⟩; (try first | exact ⟨rfl, _, World.drewN_drewN _ _ _⟩ | exact ⟨rfl, _, Eq.trans (World.drewN_drewN _ _ _) (congrArg (World.drewN _) (Nat.add_assoc _ _ _))⟩))); try go_wp2_with (first | (go_at_call 86; (with_reducible refine (portolanref04_within.calls (rd t250 x13_4) 1 (wrap64 ((((rd_T30 l0_0 a1).f4).length : Int) - 1)) true _ A60.out).mono ?_); rintro e w' ⟨rfl, ⟨nd, rfl⟩⟩; (try first | exact ⟨rfl, _, World.drewN_drewN _ _ _⟩ | exact ⟨rfl, _, Eq.trans (World.drewN_drewN _ _ _) (congrArg (World.drewN _) (Nat.add_assoc _ _ _))⟩))))
                go_roundg k4
                case measure => have := HJ3.out; have := HJ25.out; have := HK3.out; have := HK4.out; omega
                case rel => exact ⟨(wrap64 (x13_4 + 1)), (by first | rfl | (simp; done) | (simp [*]; done)), H', ⟨by have := HJ3.out; have := HJ25.out; have := HK3.out; have := HK4.out; omega⟩, ⟨by (with_reducible repeat (first | apply Kd.R_alloc | apply Kd.R_drewN | apply Kd.R_drew)); exact HO_12.out⟩, ⟨by (with_reducible repeat (first | refine zq1 ?_ _ | refine zq2 ?_ | refine zq3 ?_ _)); exact BK233.out⟩, ⟨by (with_reducible repeat (first | refine zq1 ?_ _ | refine zq2 ?_ | refine zq3 ?_ _)); exact BK234.out⟩, ⟨by (with_reducible repeat (first | refine zq1 ?_ _ | refine zq2 ?_ | refine zq3 ?_ _)); exact BK239.out⟩, ⟨by repeat (first | (with_reducible first | exact HB.out | apply zq5 | apply zq4 | apply zq6 | refine below_set ?_ GE233.out | refine below_set ?_ GE234.out | refine below_set ?_ GE239.out) | exact HB.out)⟩⟩
               ·replace c61 := Bool.eq_false_iff.mpr c61
                subst c61
                have H1 : (some false) = some r := by first | (rw [if_neg (show ¬ (false = true) by decide)] at H; exact H) | rfl
                clear H
                have H := H1
                clear H1
                obtain rfl := Option.some.inj H
                obtain ⟨Ao66, co66, eo66⟩ := Kd.R_slice HO_12.out
                subst eo66
                have p253 : 0 ≤ (x13_4 : Int) := of_decide_eq_true (by first | (with_reducible assumption) | assumption)
                have q253 : x13_4 < (t250.length : Int) := of_decide_eq_true (by first | (with_reducible assumption) | assumption)
                obtain ⟨ad253, e253, hx253_0⟩ := Kd.at_int (Kd.R_reads' HO_12.out).2.2 x13_4 p253 q253
                cases e253
                replace p253 := eq_true p253
                replace q253 := eq_true q253
                have hnb67 := NB239_233.out
                have hnc67 := NB233_239.out
                have hnb68 := NB239_234.out
                have hnc68 := NB234_239.out
                have hcz69_0 : wr.cell? ⟨gb239, 0, none⟩ = some (.slice A238_0 ((rd_T30 l0_0 a1).f0).length c238_0) := (blk_cell BK239.out 0).trans rfl
                have hcz69_1 : wr.cell? ⟨gb239, 1, none⟩ = some (.slice A238_1 ((rd_T30 l0_0 a1).f1).length c238_1) := (blk_cell BK239.out 1).trans rfl
                have hcz69_2 : wr.cell? ⟨gb239, 2, none⟩ = some (.int .i64 ((rd_T30 l0_0 a1).f2)) := (blk_cell BK239.out 2).trans rfl
                have hcz69_3 : wr.cell? ⟨gb239, 3, none⟩ = some (.int .i64 ((rd_T30 l0_0 a1).f3)) := (blk_cell BK239.out 3).trans rfl
                have hcz69_4 : wr.cell? ⟨gb239, 4, none⟩ = some (.slice A238_4 ((rd_T30 l0_0 a1).f4).length c238_4) := (blk_cell BK239.out 4).trans rfl
                have hfz69_0 := blk_frozen BK239.out 0
                have hfz69_1 := blk_frozen BK239.out 1
                have hfz69_2 := blk_frozen BK239.out 2
                have hfz69_3 := blk_frozen BK239.out 3
                have hfz69_4 := blk_frozen BK239.out 4
                go_wp2_with (first | (go_at_call 86; (with_reducible refine (portolanref04_within.calls (rd t250 x13_4) 1 (wrap64 ((((rd_T30 l0_0 a1).f4).length : Int) - 1)) false _ A60.out).mono ?_); rintro e w' ⟨rfl, ⟨nd, rfl⟩⟩; (try first | exact ⟨rfl, _, World.drewN_drewN _ _ _⟩ | exact ⟨rfl, _, Eq.trans (World.drewN_drewN _ _ _) (congrArg (World.drewN _) (Nat.add_assoc _ _ _))⟩)))
                repeat (go_quiet (first | (go_at_call 86; (with_reducible refine (portolanref04_within.calls (rd t250 x13_4) 1 (wrap64 ((((rd_T30 l0_0 a1).f4).length : Int) - 1)) false _ A60.out).mono ?_); rintro e w' ⟨rfl, ⟨nd, rfl⟩⟩; (try first | exact ⟨rfl, _, World.drewN_drewN _ _ _⟩ | exact ⟨rfl, _, Eq.trans (World.drewN_drewN _ _ _) (congrArg (World.drewN _) (Nat.add_assoc _ _ _))⟩))); try go_wp2_with (first | (go_at_call 86; (with_reducible refine (portolanref04_within.calls (rd t250 x13_4) 1 (wrap64 ((((rd_T30 l0_0 a1).f4).length : Int) - 1)) false _ A60.out).mono ?_); rintro e w' ⟨rfl, ⟨nd, rfl⟩⟩; (try first | exact ⟨rfl, _, World.drewN_drewN _ _ _⟩ | exact ⟨rfl, _, Eq.trans (World.drewN_drewN _ _ _) (congrArg (World.drewN _) (Nat.add_assoc _ _ _))⟩))))
                go_ret
                exact ⟨by first | rfl | (simp [errW_none, errW_some] <;> rfl) | (simp [*, errW_none, errW_some] <;> rfl), by repeat (first | (with_reducible first | exact HB.out | apply zq5 | apply zq4 | apply zq6 | refine below_set ?_ GE233.out | refine below_set ?_ GE234.out | refine below_set ?_ GE239.out) | exact HB.out)⟩
              ·rw [if_neg c59] at H
               exact absurd H (by simp)
             ·rw [if_neg c58] at H
              have c58b0 : decide (x13_4 < (t250.length : Int)) = false := decide_eq_false c58
              clear c58
              by_cases c70 : a2_0 = 19
              ·rw [if_pos c70] at H
               have c70b0 : (a2_0 == 19) = true := beq_iff_eq.mpr c70
               have c70b1 : (a2_0 != 19) = false := bne_eq_false_iff_eq.mpr c70
               clear c70
               replace H := Option.bind_eq_some_iff.mp H
               obtain ⟨t255, A710, H⟩ := H
               replace H : (if t255 = true then (if 0 ≤ a2_4 then (if a2_4 < (l0_0.length : Int) then (some ((l2_6.length : Int) == ((rd_T30 l0_0 a2_4).f2))) else (none)) else (none)) else (some false)) = some r := H
               have A71 := Aside0.mk A710
               clear A710
               by_cases c72 : t255 = true
               ·subst c72
                have H1 : (if 0 ≤ a2_4 then (if a2_4 < (l0_0.length : Int) then (some ((l2_6.length : Int) == ((rd_T30 l0_0 a2_4).f2))) else (none)) else (none)) = some r := by first | (rw [if_pos rfl] at H; exact H) | rfl
                clear H
                have H := H1
                clear H1
                by_cases c73 : 0 ≤ a2_4
                ·rw [if_pos c73] at H
                 have c73b0 : decide (0 ≤ a2_4) = true := decide_eq_true c73
                 clear c73
                 by_cases c74 : a2_4 < (l0_0.length : Int)
                 ·rw [if_pos c74] at H
                  have c74b0 : decide (a2_4 < (l0_0.length : Int)) = true := decide_eq_true c74
                  clear c74
                  obtain rfl := Option.some.inj H
                  obtain ⟨Ao75, co75, eo75⟩ := Kd.R_slice HO_12.out
                  subst eo75
                  have hnb76 := NB234_233.out
                  have hnc76 := NB233_234.out
                  have hnb77 := NB234_239.out
                  have hnc77 := NB239_234.out
                  have hcz78_0 : wr.cell? ⟨gb234, 0, none⟩ = some (.int .i64 a2_0) := (blk_cell BK234.out 0).trans rfl
                  have hcz78_1 : wr.cell? ⟨gb234, 1, none⟩ = some (.int .i64 a2_1) := (blk_cell BK234.out 1).trans rfl
                  have hcz78_2 : wr.cell? ⟨gb234, 2, none⟩ = some (.int .i64 a2_2) := (blk_cell BK234.out 2).trans rfl
                  have hcz78_3 : wr.cell? ⟨gb234, 3, none⟩ = some (.int .i64 a2_3) := (blk_cell BK234.out 3).trans rfl
                  have hcz78_4 : wr.cell? ⟨gb234, 4, none⟩ = some (.int .i64 a2_4) := (blk_cell BK234.out 4).trans rfl
                  have hcz78_5 : wr.cell? ⟨gb234, 5, none⟩ = some (.int .i64 a2_5) := (blk_cell BK234.out 5).trans rfl
                  have hcz78_6 : wr.cell? ⟨gb234, 6, none⟩ = some (.slice A2_6 l2_6.length c2_6) := (blk_cell BK234.out 6).trans rfl
                  have hfz78_0 := blk_frozen BK234.out 0
                  have hfz78_1 := blk_frozen BK234.out 1
                  have hfz78_2 := blk_frozen BK234.out 2
                  have hfz78_3 := blk_frozen BK234.out 3
                  have hfz78_4 := blk_frozen BK234.out 4
                  have hfz78_5 := blk_frozen BK234.out 5
                  have hfz78_6 := blk_frozen BK234.out 6
                  have hnb79 := NB233_239.out
                  have hnc79 := NB239_233.out
                  have hcz80_0 : wr.cell? ⟨gb233, 0, none⟩ = some (.slice (some ad238) l0_0.length c0_0) := (blk_cell BK233.out 0).trans rfl
                  have hfz80_0 := blk_frozen BK233.out 0
                  have p256 : 0 ≤ (a2_4 : Int) := of_decide_eq_true (by first | (with_reducible assumption) | assumption)
                  have q256 : a2_4 < (l0_0.length : Int) := of_decide_eq_true (by first | (with_reducible assumption) | assumption)
                  obtain ⟨ad256, A256_0, c256_0, A256_1, c256_1, A256_4, c256_4, e256, hx256_0, hx256_1, hx256_2, hx256_3, hx256_4, hl256_0, hi256_0, hl256_1, hi256_1, hl256_4, hi256_4⟩ := at_T30 HR0_0.out a2_4 p256 q256
                  obtain rfl : ad238 = ad256 := (by injection e256)
                  replace hx256_0 := (HB.out.cell (World.block_lt_of_cell? w _ hx256_0)).trans hx256_0
                  replace hx256_1 := (HB.out.cell (World.block_lt_of_cell? w _ hx256_1)).trans hx256_1
                  replace hx256_2 := (HB.out.cell (World.block_lt_of_cell? w _ hx256_2)).trans hx256_2
                  replace hx256_3 := (HB.out.cell (World.block_lt_of_cell? w _ hx256_3)).trans hx256_3
                  replace hx256_4 := (HB.out.cell (World.block_lt_of_cell? w _ hx256_4)).trans hx256_4
                  have HR256_0 := Aside0.mk hi256_0
                  have HC256_0 := Aside0.mk hl256_0
                  clear hi256_0 hl256_0
                  have HR256_1 := Aside0.mk hi256_1
                  have HC256_1 := Aside0.mk hl256_1
                  clear hi256_1 hl256_1
                  have HR256_4 := Aside0.mk hi256_4
                  have HC256_4 := Aside0.mk hl256_4
                  clear hi256_4 hl256_4
                  replace p256 := eq_true p256
                  replace q256 := eq_true q256
                  go_wp2_with (first | (go_at_call 86; (with_reducible refine (portolanref04_within.calls a2_4 0 (wrap64 ((l0_0.length : Int) - 1)) true _ A71.out).mono ?_); rintro e w' ⟨rfl, ⟨nd, rfl⟩⟩; (try first | exact ⟨rfl, _, World.drewN_drewN _ _ _⟩ | exact ⟨rfl, _, Eq.trans (World.drewN_drewN _ _ _) (congrArg (World.drewN _) (Nat.add_assoc _ _ _))⟩)))
                  repeat (go_quiet (first | (go_at_call 86; (with_reducible refine (portolanref04_within.calls a2_4 0 (wrap64 ((l0_0.length : Int) - 1)) true _ A71.out).mono ?_); rintro e w' ⟨rfl, ⟨nd, rfl⟩⟩; (try first | exact ⟨rfl, _, World.drewN_drewN _ _ _⟩ | exact ⟨rfl, _, Eq.trans (World.drewN_drewN _ _ _) (congrArg (World.drewN _) (Nat.add_assoc _ _ _))⟩))); try go_wp2_with (first | (go_at_call 86; (with_reducible refine (portolanref04_within.calls a2_4 0 (wrap64 ((l0_0.length : Int) - 1)) true _ A71.out).mono ?_); rintro e w' ⟨rfl, ⟨nd, rfl⟩⟩; (try first | exact ⟨rfl, _, World.drewN_drewN _ _ _⟩ | exact ⟨rfl, _, Eq.trans (World.drewN_drewN _ _ _) (congrArg (World.drewN _) (Nat.add_assoc _ _ _))⟩))))
                  go_ret
                  exact ⟨by first | rfl | (simp [errW_none, errW_some] <;> rfl) | (simp [*, errW_none, errW_some] <;> rfl), by repeat (first | (with_reducible first | exact HB.out | apply zq5 | apply zq4 | apply zq6 | refine below_set ?_ GE233.out | refine below_set ?_ GE234.out | refine below_set ?_ GE239.out) | exact HB.out)⟩
                 ·rw [if_neg c74] at H
                  exact absurd H (by simp)
                ·rw [if_neg c73] at H
                 exact absurd H (by simp)
               ·replace c72 := Bool.eq_false_iff.mpr c72
                subst c72
                have H1 : (some false) = some r := by first | (rw [if_neg (show ¬ (false = true) by decide)] at H; exact H) | rfl
                clear H
                have H := H1
                clear H1
                obtain rfl := Option.some.inj H
                obtain ⟨Ao81, co81, eo81⟩ := Kd.R_slice HO_12.out
                subst eo81
                have hnb82 := NB234_233.out
                have hnc82 := NB233_234.out
                have hnb83 := NB234_239.out
                have hnc83 := NB239_234.out
                have hcz84_0 : wr.cell? ⟨gb234, 0, none⟩ = some (.int .i64 a2_0) := (blk_cell BK234.out 0).trans rfl
                have hcz84_1 : wr.cell? ⟨gb234, 1, none⟩ = some (.int .i64 a2_1) := (blk_cell BK234.out 1).trans rfl
                have hcz84_2 : wr.cell? ⟨gb234, 2, none⟩ = some (.int .i64 a2_2) := (blk_cell BK234.out 2).trans rfl
                have hcz84_3 : wr.cell? ⟨gb234, 3, none⟩ = some (.int .i64 a2_3) := (blk_cell BK234.out 3).trans rfl
                have hcz84_4 : wr.cell? ⟨gb234, 4, none⟩ = some (.int .i64 a2_4) := (blk_cell BK234.out 4).trans rfl
                have hcz84_5 : wr.cell? ⟨gb234, 5, none⟩ = some (.int .i64 a2_5) := (blk_cell BK234.out 5).trans rfl
                have hcz84_6 : wr.cell? ⟨gb234, 6, none⟩ = some (.slice A2_6 l2_6.length c2_6) := (blk_cell BK234.out 6).trans rfl
                have hfz84_0 := blk_frozen BK234.out 0
                have hfz84_1 := blk_frozen BK234.out 1
                have hfz84_2 := blk_frozen BK234.out 2
                have hfz84_3 := blk_frozen BK234.out 3
                have hfz84_4 := blk_frozen BK234.out 4
                have hfz84_5 := blk_frozen BK234.out 5
                have hfz84_6 := blk_frozen BK234.out 6
                have hnb85 := NB233_239.out
                have hnc85 := NB239_233.out
                have hcz86_0 : wr.cell? ⟨gb233, 0, none⟩ = some (.slice (some ad238) l0_0.length c0_0) := (blk_cell BK233.out 0).trans rfl
                have hfz86_0 := blk_frozen BK233.out 0
                go_wp2_with (first | (go_at_call 86; (with_reducible refine (portolanref04_within.calls a2_4 0 (wrap64 ((l0_0.length : Int) - 1)) false _ A71.out).mono ?_); rintro e w' ⟨rfl, ⟨nd, rfl⟩⟩; (try first | exact ⟨rfl, _, World.drewN_drewN _ _ _⟩ | exact ⟨rfl, _, Eq.trans (World.drewN_drewN _ _ _) (congrArg (World.drewN _) (Nat.add_assoc _ _ _))⟩)))
                repeat (go_quiet (first | (go_at_call 86; (with_reducible refine (portolanref04_within.calls a2_4 0 (wrap64 ((l0_0.length : Int) - 1)) false _ A71.out).mono ?_); rintro e w' ⟨rfl, ⟨nd, rfl⟩⟩; (try first | exact ⟨rfl, _, World.drewN_drewN _ _ _⟩ | exact ⟨rfl, _, Eq.trans (World.drewN_drewN _ _ _) (congrArg (World.drewN _) (Nat.add_assoc _ _ _))⟩))); try go_wp2_with (first | (go_at_call 86; (with_reducible refine (portolanref04_within.calls a2_4 0 (wrap64 ((l0_0.length : Int) - 1)) false _ A71.out).mono ?_); rintro e w' ⟨rfl, ⟨nd, rfl⟩⟩; (try first | exact ⟨rfl, _, World.drewN_drewN _ _ _⟩ | exact ⟨rfl, _, Eq.trans (World.drewN_drewN _ _ _) (congrArg (World.drewN _) (Nat.add_assoc _ _ _))⟩))))
                go_ret
                exact ⟨by first | rfl | (simp [errW_none, errW_some] <;> rfl) | (simp [*, errW_none, errW_some] <;> rfl), by repeat (first | (with_reducible first | exact HB.out | apply zq5 | apply zq4 | apply zq6 | refine below_set ?_ GE233.out | refine below_set ?_ GE234.out | refine below_set ?_ GE239.out) | exact HB.out)⟩
              ·rw [if_neg c70] at H
               have c70b0 : (a2_0 == 19) = false := beq_eq_false_iff_ne.mpr c70
               have c70b1 : (a2_0 != 19) = true := bne_iff_ne.mpr c70
               by_cases c87 : a2_0 = 1
               ·rw [if_pos c87] at H
                have c87b0 : (a2_0 == 1) = true := beq_iff_eq.mpr c87
                have c87b1 : (a2_0 != 1) = false := bne_eq_false_iff_eq.mpr c87
                clear c87
                replace H := Option.bind_eq_some_iff.mp H
                obtain ⟨t257, A880, H⟩ := H
                replace H : (some t257) = some r := H
                have A88 := Aside0.mk A880
                clear A880
                obtain rfl := Option.some.inj H
                obtain ⟨Ao89, co89, eo89⟩ := Kd.R_slice HO_12.out
                subst eo89
                have hnb90 := NB234_233.out
                have hnc90 := NB233_234.out
                have hnb91 := NB234_239.out
                have hnc91 := NB239_234.out
                have hcz92_0 : wr.cell? ⟨gb234, 0, none⟩ = some (.int .i64 a2_0) := (blk_cell BK234.out 0).trans rfl
                have hcz92_1 : wr.cell? ⟨gb234, 1, none⟩ = some (.int .i64 a2_1) := (blk_cell BK234.out 1).trans rfl
                have hcz92_2 : wr.cell? ⟨gb234, 2, none⟩ = some (.int .i64 a2_2) := (blk_cell BK234.out 2).trans rfl
                have hcz92_3 : wr.cell? ⟨gb234, 3, none⟩ = some (.int .i64 a2_3) := (blk_cell BK234.out 3).trans rfl
                have hcz92_4 : wr.cell? ⟨gb234, 4, none⟩ = some (.int .i64 a2_4) := (blk_cell BK234.out 4).trans rfl
                have hcz92_5 : wr.cell? ⟨gb234, 5, none⟩ = some (.int .i64 a2_5) := (blk_cell BK234.out 5).trans rfl
                have hcz92_6 : wr.cell? ⟨gb234, 6, none⟩ = some (.slice A2_6 l2_6.length c2_6) := (blk_cell BK234.out 6).trans rfl
                have hfz92_0 := blk_frozen BK234.out 0
                have hfz92_1 := blk_frozen BK234.out 1
                have hfz92_2 := blk_frozen BK234.out 2
                have hfz92_3 := blk_frozen BK234.out 3
                have hfz92_4 := blk_frozen BK234.out 4
                have hfz92_5 := blk_frozen BK234.out 5
                have hfz92_6 := blk_frozen BK234.out 6
                go_wp2_with (first | (go_at_call 86; (with_reducible refine (portolanref04_within.calls a2_4 (-2147483648) 2147483648 t257 _ A88.out).mono ?_); rintro e w' ⟨rfl, ⟨nd, rfl⟩⟩; (try first | exact ⟨rfl, _, World.drewN_drewN _ _ _⟩ | exact ⟨rfl, _, Eq.trans (World.drewN_drewN _ _ _) (congrArg (World.drewN _) (Nat.add_assoc _ _ _))⟩)))
                repeat (go_quiet (first | (go_at_call 86; (with_reducible refine (portolanref04_within.calls a2_4 (-2147483648) 2147483648 t257 _ A88.out).mono ?_); rintro e w' ⟨rfl, ⟨nd, rfl⟩⟩; (try first | exact ⟨rfl, _, World.drewN_drewN _ _ _⟩ | exact ⟨rfl, _, Eq.trans (World.drewN_drewN _ _ _) (congrArg (World.drewN _) (Nat.add_assoc _ _ _))⟩))); try go_wp2_with (first | (go_at_call 86; (with_reducible refine (portolanref04_within.calls a2_4 (-2147483648) 2147483648 t257 _ A88.out).mono ?_); rintro e w' ⟨rfl, ⟨nd, rfl⟩⟩; (try first | exact ⟨rfl, _, World.drewN_drewN _ _ _⟩ | exact ⟨rfl, _, Eq.trans (World.drewN_drewN _ _ _) (congrArg (World.drewN _) (Nat.add_assoc _ _ _))⟩))))
                go_ret
                exact ⟨by first | rfl | (simp [errW_none, errW_some] <;> rfl) | (simp [*, errW_none, errW_some] <;> rfl), by repeat (first | (with_reducible first | exact HB.out | apply zq5 | apply zq4 | apply zq6 | refine below_set ?_ GE233.out | refine below_set ?_ GE234.out | refine below_set ?_ GE239.out) | exact HB.out)⟩
               ·rw [if_neg c87] at H
                have c87b0 : (a2_0 == 1) = false := beq_eq_false_iff_ne.mpr c87
                have c87b1 : (a2_0 != 1) = true := bne_iff_ne.mpr c87
                by_cases c93 : a2_0 = 16
                ·rw [if_pos c93] at H
                 have c93b0 : (a2_0 == 16) = true := beq_iff_eq.mpr c93
                 have c93b1 : (a2_0 != 16) = false := bne_eq_false_iff_eq.mpr c93
                 clear c93
                 replace H := Option.bind_eq_some_iff.mp H
                 obtain ⟨t258, A940, H⟩ := H
                 replace H : (some t258) = some r := H
                 have A94 := Aside0.mk A940
                 clear A940
                 obtain rfl := Option.some.inj H
                 obtain ⟨Ao95, co95, eo95⟩ := Kd.R_slice HO_12.out
                 subst eo95
                 have hnb96 := NB234_233.out
                 have hnc96 := NB233_234.out
                 have hnb97 := NB234_239.out
                 have hnc97 := NB239_234.out
                 have hcz98_0 : wr.cell? ⟨gb234, 0, none⟩ = some (.int .i64 a2_0) := (blk_cell BK234.out 0).trans rfl
                 have hcz98_1 : wr.cell? ⟨gb234, 1, none⟩ = some (.int .i64 a2_1) := (blk_cell BK234.out 1).trans rfl
                 have hcz98_2 : wr.cell? ⟨gb234, 2, none⟩ = some (.int .i64 a2_2) := (blk_cell BK234.out 2).trans rfl
                 have hcz98_3 : wr.cell? ⟨gb234, 3, none⟩ = some (.int .i64 a2_3) := (blk_cell BK234.out 3).trans rfl
                 have hcz98_4 : wr.cell? ⟨gb234, 4, none⟩ = some (.int .i64 a2_4) := (blk_cell BK234.out 4).trans rfl
                 have hcz98_5 : wr.cell? ⟨gb234, 5, none⟩ = some (.int .i64 a2_5) := (blk_cell BK234.out 5).trans rfl
                 have hcz98_6 : wr.cell? ⟨gb234, 6, none⟩ = some (.slice A2_6 l2_6.length c2_6) := (blk_cell BK234.out 6).trans rfl
                 have hfz98_0 := blk_frozen BK234.out 0
                 have hfz98_1 := blk_frozen BK234.out 1
                 have hfz98_2 := blk_frozen BK234.out 2
                 have hfz98_3 := blk_frozen BK234.out 3
                 have hfz98_4 := blk_frozen BK234.out 4
                 have hfz98_5 := blk_frozen BK234.out 5
                 have hfz98_6 := blk_frozen BK234.out 6
                 go_wp2_with (first | (go_at_call 86; (with_reducible refine (portolanref04_within.calls a2_4 (-8) 8 t258 _ A94.out).mono ?_); rintro e w' ⟨rfl, ⟨nd, rfl⟩⟩; (try first | exact ⟨rfl, _, World.drewN_drewN _ _ _⟩ | exact ⟨rfl, _, Eq.trans (World.drewN_drewN _ _ _) (congrArg (World.drewN _) (Nat.add_assoc _ _ _))⟩)))
                 repeat (go_quiet (first | (go_at_call 86; (with_reducible refine (portolanref04_within.calls a2_4 (-8) 8 t258 _ A94.out).mono ?_); rintro e w' ⟨rfl, ⟨nd, rfl⟩⟩; (try first | exact ⟨rfl, _, World.drewN_drewN _ _ _⟩ | exact ⟨rfl, _, Eq.trans (World.drewN_drewN _ _ _) (congrArg (World.drewN _) (Nat.add_assoc _ _ _))⟩))); try go_wp2_with (first | (go_at_call 86; (with_reducible refine (portolanref04_within.calls a2_4 (-8) 8 t258 _ A94.out).mono ?_); rintro e w' ⟨rfl, ⟨nd, rfl⟩⟩; (try first | exact ⟨rfl, _, World.drewN_drewN _ _ _⟩ | exact ⟨rfl, _, Eq.trans (World.drewN_drewN _ _ _) (congrArg (World.drewN _) (Nat.add_assoc _ _ _))⟩))))
                 go_ret
                 exact ⟨by first | rfl | (simp [errW_none, errW_some] <;> rfl) | (simp [*, errW_none, errW_some] <;> rfl), by repeat (first | (with_reducible first | exact HB.out | apply zq5 | apply zq4 | apply zq6 | refine below_set ?_ GE233.out | refine below_set ?_ GE234.out | refine below_set ?_ GE239.out) | exact HB.out)⟩
                ·rw [if_neg c93] at H
                 have c93b0 : (a2_0 == 16) = false := beq_eq_false_iff_ne.mpr c93
                 have c93b1 : (a2_0 != 16) = true := bne_iff_ne.mpr c93
                 by_cases c99 : a2_0 = 10
                 ·rw [if_pos c99] at H
                  have c99b0 : (a2_0 == 10) = true := beq_iff_eq.mpr c99
                  have c99b1 : (a2_0 != 10) = false := bne_eq_false_iff_eq.mpr c99
                  clear c99
                  replace H := Option.bind_eq_some_iff.mp H
                  obtain ⟨t259, A1000, H⟩ := H
                  replace H : (if t259 = true then ((portolanref04_within.f a2_5 0 8).bind fun t260 => (some t260)) else (some false)) = some r := H
                  have A100 := Aside0.mk A1000
                  clear A1000
                  by_cases c101 : t259 = true
                  ·subst c101
                   have H1 : ((portolanref04_within.f a2_5 0 8).bind fun t260 => (some t260)) = some r := by first | (rw [if_pos rfl] at H; exact H) | rfl
                   clear H
                   have H := H1
                   clear H1
                   replace H := Option.bind_eq_some_iff.mp H
                   obtain ⟨t260, A1020, H⟩ := H
                   replace H : (some t260) = some r := H
                   have A102 := Aside0.mk A1020
                   clear A1020
                   obtain rfl := Option.some.inj H
                   obtain ⟨Ao103, co103, eo103⟩ := Kd.R_slice HO_12.out
                   subst eo103
                   have hnb104 := NB234_233.out
                   have hnc104 := NB233_234.out
                   have hnb105 := NB234_239.out
                   have hnc105 := NB239_234.out
                   have hcz106_0 : wr.cell? ⟨gb234, 0, none⟩ = some (.int .i64 a2_0) := (blk_cell BK234.out 0).trans rfl
                   have hcz106_1 : wr.cell? ⟨gb234, 1, none⟩ = some (.int .i64 a2_1) := (blk_cell BK234.out 1).trans rfl
                   have hcz106_2 : wr.cell? ⟨gb234, 2, none⟩ = some (.int .i64 a2_2) := (blk_cell BK234.out 2).trans rfl
                   have hcz106_3 : wr.cell? ⟨gb234, 3, none⟩ = some (.int .i64 a2_3) := (blk_cell BK234.out 3).trans rfl
                   have hcz106_4 : wr.cell? ⟨gb234, 4, none⟩ = some (.int .i64 a2_4) := (blk_cell BK234.out 4).trans rfl
                   have hcz106_5 : wr.cell? ⟨gb234, 5, none⟩ = some (.int .i64 a2_5) := (blk_cell BK234.out 5).trans rfl
                   have hcz106_6 : wr.cell? ⟨gb234, 6, none⟩ = some (.slice A2_6 l2_6.length c2_6) := (blk_cell BK234.out 6).trans rfl
                   have hfz106_0 := blk_frozen BK234.out 0
                   have hfz106_1 := blk_frozen BK234.out 1
                   have hfz106_2 := blk_frozen BK234.out 2
                   have hfz106_3 := blk_frozen BK234.out 3
                   have hfz106_4 := blk_frozen BK234.out 4
                   have hfz106_5 := blk_frozen BK234.out 5
                   have hfz106_6 := blk_frozen BK234.out 6
                   go_wp2_with (first | (go_at_call 86; (with_reducible refine (portolanref04_within.calls a2_4 0 8 true _ A100.out).mono ?_); rintro e w' ⟨rfl, ⟨nd, rfl⟩⟩; (try first | exact ⟨rfl, _, World.drewN_drewN _ _ _⟩ | exact ⟨rfl, _, Eq.trans (World.drewN_drewN _ _ _) (congrArg (World.drewN _) (Nat.add_assoc _ _ _))⟩)) | (go_at_call 86; (with_reducible refine (portolanref04_within.calls a2_5 0 8 t260 _ A102.out).mono ?_); rintro e w' ⟨rfl, ⟨nd, rfl⟩⟩; (try first | exact ⟨rfl, _, World.drewN_drewN _ _ _⟩ | exact ⟨rfl, _, Eq.trans (World.drewN_drewN _ _ _) (congrArg (World.drewN _) (Nat.add_assoc _ _ _))⟩)))
                   repeat (go_quiet (first | (go_at_call 86; (with_reducible refine (portolanref04_within.calls a2_4 0 8 true _ A100.out).mono ?_); rintro e w' ⟨rfl, ⟨nd, rfl⟩⟩; (try first | exact ⟨rfl, _, World.drewN_drewN _ _ _⟩ | exact ⟨rfl, _, Eq.trans (World.drewN_drewN _ _ _) (congrArg (World.drewN _) (Nat.add_assoc _ _ _))⟩)) | (go_at_call 86; (with_reducible refine (portolanref04_within.calls a2_5 0 8 t260 _ A102.out).mono ?_); rintro e w' ⟨rfl, ⟨nd, rfl⟩⟩; (try first | exact ⟨rfl, _, World.drewN_drewN _ _ _⟩ | exact ⟨rfl, _, Eq.trans (World.drewN_drewN _ _ _) (congrArg (World.drewN _) (Nat.add_assoc _ _ _))⟩))); try go_wp2_with (first | (go_at_call 86; (with_reducible refine (portolanref04_within.calls a2_4 0 8 true _ A100.out).mono ?_); rintro e w' ⟨rfl, ⟨nd, rfl⟩⟩; (try first | exact ⟨rfl, _, World.drewN_drewN _ _ _⟩ | exact ⟨rfl, _, Eq.trans (World.drewN_drewN _ _ _) (congrArg (World.drewN _) (Nat.add_assoc _ _ _))⟩)) | (go_at_call 86; (with_reducible refine (portolanref04_within.calls a2_5 0 8 t260 _ A102.out).mono ?_); rintro e w' ⟨rfl, ⟨nd, rfl⟩⟩; (try first | exact ⟨rfl, _, World.drewN_drewN _ _ _⟩ | exact ⟨rfl, _, Eq.trans (World.drewN_drewN _ _ _) (congrArg (World.drewN _) (Nat.add_assoc _ _ _))⟩))))
                   go_ret
                   exact ⟨by first | rfl | (simp [errW_none, errW_some] <;> rfl) | (simp [*, errW_none, errW_some] <;> rfl), by repeat (first | (with_reducible first | exact HB.out | apply zq5 | apply zq4 | apply zq6 | refine below_set ?_ GE233.out | refine below_set ?_ GE234.out | refine below_set ?_ GE239.out) | exact HB.out)⟩
                  ·replace c101 := Bool.eq_false_iff.mpr c101
                   subst c101
                   have H1 : (some false) = some r := by first | (rw [if_neg (show ¬ (false = true) by decide)] at H; exact H) | rfl
                   clear H
                   have H := H1
                   clear H1
                   obtain rfl := Option.some.inj H
                   obtain ⟨Ao107, co107, eo107⟩ := Kd.R_slice HO_12.out
                   subst eo107
                   have hnb108 := NB234_233.out
                   have hnc108 := NB233_234.out
                   have hnb109 := NB234_239.out
                   have hnc109 := NB239_234.out
                   have hcz110_0 : wr.cell? ⟨gb234, 0, none⟩ = some (.int .i64 a2_0) := (blk_cell BK234.out 0).trans rfl
                   have hcz110_1 : wr.cell? ⟨gb234, 1, none⟩ = some (.int .i64 a2_1) := (blk_cell BK234.out 1).trans rfl
                   have hcz110_2 : wr.cell? ⟨gb234, 2, none⟩ = some (.int .i64 a2_2) := (blk_cell BK234.out 2).trans rfl
                   have hcz110_3 : wr.cell? ⟨gb234, 3, none⟩ = some (.int .i64 a2_3) := (blk_cell BK234.out 3).trans rfl
                   have hcz110_4 : wr.cell? ⟨gb234, 4, none⟩ = some (.int .i64 a2_4) := (blk_cell BK234.out 4).trans rfl
                   have hcz110_5 : wr.cell? ⟨gb234, 5, none⟩ = some (.int .i64 a2_5) := (blk_cell BK234.out 5).trans rfl
                   have hcz110_6 : wr.cell? ⟨gb234, 6, none⟩ = some (.slice A2_6 l2_6.length c2_6) := (blk_cell BK234.out 6).trans rfl
                   have hfz110_0 := blk_frozen BK234.out 0
                   have hfz110_1 := blk_frozen BK234.out 1
                   have hfz110_2 := blk_frozen BK234.out 2
                   have hfz110_3 := blk_frozen BK234.out 3
                   have hfz110_4 := blk_frozen BK234.out 4
                   have hfz110_5 := blk_frozen BK234.out 5
                   have hfz110_6 := blk_frozen BK234.out 6
                   go_wp2_with (first | (go_at_call 86; (with_reducible refine (portolanref04_within.calls a2_4 0 8 false _ A100.out).mono ?_); rintro e w' ⟨rfl, ⟨nd, rfl⟩⟩; (try first | exact ⟨rfl, _, World.drewN_drewN _ _ _⟩ | exact ⟨rfl, _, Eq.trans (World.drewN_drewN _ _ _) (congrArg (World.drewN _) (Nat.add_assoc _ _ _))⟩)))
                   repeat (go_quiet (first | (go_at_call 86; (with_reducible refine (portolanref04_within.calls a2_4 0 8 false _ A100.out).mono ?_); rintro e w' ⟨rfl, ⟨nd, rfl⟩⟩; (try first | exact ⟨rfl, _, World.drewN_drewN _ _ _⟩ | exact ⟨rfl, _, Eq.trans (World.drewN_drewN _ _ _) (congrArg (World.drewN _) (Nat.add_assoc _ _ _))⟩))); try go_wp2_with (first | (go_at_call 86; (with_reducible refine (portolanref04_within.calls a2_4 0 8 false _ A100.out).mono ?_); rintro e w' ⟨rfl, ⟨nd, rfl⟩⟩; (try first | exact ⟨rfl, _, World.drewN_drewN _ _ _⟩ | exact ⟨rfl, _, Eq.trans (World.drewN_drewN _ _ _) (congrArg (World.drewN _) (Nat.add_assoc _ _ _))⟩))))
                   go_ret
                   exact ⟨by first | rfl | (simp [errW_none, errW_some] <;> rfl) | (simp [*, errW_none, errW_some] <;> rfl), by repeat (first | (with_reducible first | exact HB.out | apply zq5 | apply zq4 | apply zq6 | refine below_set ?_ GE233.out | refine below_set ?_ GE234.out | refine below_set ?_ GE239.out) | exact HB.out)⟩
                 ·rw [if_neg c99] at H
                  have c99b0 : (a2_0 == 10) = false := beq_eq_false_iff_ne.mpr c99
                  have c99b1 : (a2_0 != 10) = true := bne_iff_ne.mpr c99
                  by_cases c111 : a2_0 = 11
                  ·rw [if_pos c111] at H
                   have c111b0 : (a2_0 == 11) = true := beq_iff_eq.mpr c111
                   have c111b1 : (a2_0 != 11) = false := bne_eq_false_iff_eq.mpr c111
                   clear c111
                   replace H := Option.bind_eq_some_iff.mp H
                   obtain ⟨t261, A1120, H⟩ := H
                   replace H : (some t261) = some r := H
                   have A112 := Aside0.mk A1120
                   clear A1120
                   obtain rfl := Option.some.inj H
                   obtain ⟨Ao113, co113, eo113⟩ := Kd.R_slice HO_12.out
                   subst eo113
                   have hnb114 := NB234_233.out
                   have hnc114 := NB233_234.out
                   have hnb115 := NB234_239.out
                   have hnc115 := NB239_234.out
                   have hcz116_0 : wr.cell? ⟨gb234, 0, none⟩ = some (.int .i64 a2_0) := (blk_cell BK234.out 0).trans rfl
                   have hcz116_1 : wr.cell? ⟨gb234, 1, none⟩ = some (.int .i64 a2_1) := (blk_cell BK234.out 1).trans rfl
                   have hcz116_2 : wr.cell? ⟨gb234, 2, none⟩ = some (.int .i64 a2_2) := (blk_cell BK234.out 2).trans rfl
                   have hcz116_3 : wr.cell? ⟨gb234, 3, none⟩ = some (.int .i64 a2_3) := (blk_cell BK234.out 3).trans rfl
                   have hcz116_4 : wr.cell? ⟨gb234, 4, none⟩ = some (.int .i64 a2_4) := (blk_cell BK234.out 4).trans rfl
                   have hcz116_5 : wr.cell? ⟨gb234, 5, none⟩ = some (.int .i64 a2_5) := (blk_cell BK234.out 5).trans rfl
                   have hcz116_6 : wr.cell? ⟨gb234, 6, none⟩ = some (.slice A2_6 l2_6.length c2_6) := (blk_cell BK234.out 6).trans rfl
                   have hfz116_0 := blk_frozen BK234.out 0
                   have hfz116_1 := blk_frozen BK234.out 1
                   have hfz116_2 := blk_frozen BK234.out 2
                   have hfz116_3 := blk_frozen BK234.out 3
                   have hfz116_4 := blk_frozen BK234.out 4
                   have hfz116_5 := blk_frozen BK234.out 5
                   have hfz116_6 := blk_frozen BK234.out 6
                   go_wp2_with (first | (go_at_call 86; (with_reducible refine (portolanref04_within.calls a2_4 0 7 t261 _ A112.out).mono ?_); rintro e w' ⟨rfl, ⟨nd, rfl⟩⟩; (try first | exact ⟨rfl, _, World.drewN_drewN _ _ _⟩ | exact ⟨rfl, _, Eq.trans (World.drewN_drewN _ _ _) (congrArg (World.drewN _) (Nat.add_assoc _ _ _))⟩)))
                   repeat (go_quiet (first | (go_at_call 86; (with_reducible refine (portolanref04_within.calls a2_4 0 7 t261 _ A112.out).mono ?_); rintro e w' ⟨rfl, ⟨nd, rfl⟩⟩; (try first | exact ⟨rfl, _, World.drewN_drewN _ _ _⟩ | exact ⟨rfl, _, Eq.trans (World.drewN_drewN _ _ _) (congrArg (World.drewN _) (Nat.add_assoc _ _ _))⟩))); try go_wp2_with (first | (go_at_call 86; (with_reducible refine (portolanref04_within.calls a2_4 0 7 t261 _ A112.out).mono ?_); rintro e w' ⟨rfl, ⟨nd, rfl⟩⟩; (try first | exact ⟨rfl, _, World.drewN_drewN _ _ _⟩ | exact ⟨rfl, _, Eq.trans (World.drewN_drewN _ _ _) (congrArg (World.drewN _) (Nat.add_assoc _ _ _))⟩))))
                   go_ret
                   exact ⟨by first | rfl | (simp [errW_none, errW_some] <;> rfl) | (simp [*, errW_none, errW_some] <;> rfl), by repeat (first | (with_reducible first | exact HB.out | apply zq5 | apply zq4 | apply zq6 | refine below_set ?_ GE233.out | refine below_set ?_ GE234.out | refine below_set ?_ GE239.out) | exact HB.out)⟩
                  ·rw [if_neg c111] at H
                   have c111b0 : (a2_0 == 11) = false := beq_eq_false_iff_ne.mpr c111
                   have c111b1 : (a2_0 != 11) = true := bne_iff_ne.mpr c111
                   by_cases c117 : a2_0 = 12
                   ·rw [if_pos c117] at H
                    have c117b0 : (a2_0 == 12) = true := beq_iff_eq.mpr c117
                    have c117b1 : (a2_0 != 12) = false := bne_eq_false_iff_eq.mpr c117
                    clear c117
                    replace H := Option.bind_eq_some_iff.mp H
                    obtain ⟨t262, A1180, H⟩ := H
                    replace H : (some t262) = some r := H
                    have A118 := Aside0.mk A1180
                    clear A1180
                    obtain rfl := Option.some.inj H
                    obtain ⟨Ao119, co119, eo119⟩ := Kd.R_slice HO_12.out
                    subst eo119
                    have hnb120 := NB234_233.out
                    have hnc120 := NB233_234.out
                    have hnb121 := NB234_239.out
                    have hnc121 := NB239_234.out
                    have hcz122_0 : wr.cell? ⟨gb234, 0, none⟩ = some (.int .i64 a2_0) := (blk_cell BK234.out 0).trans rfl
                    have hcz122_1 : wr.cell? ⟨gb234, 1, none⟩ = some (.int .i64 a2_1) := (blk_cell BK234.out 1).trans rfl
                    have hcz122_2 : wr.cell? ⟨gb234, 2, none⟩ = some (.int .i64 a2_2) := (blk_cell BK234.out 2).trans rfl
                    have hcz122_3 : wr.cell? ⟨gb234, 3, none⟩ = some (.int .i64 a2_3) := (blk_cell BK234.out 3).trans rfl
                    have hcz122_4 : wr.cell? ⟨gb234, 4, none⟩ = some (.int .i64 a2_4) := (blk_cell BK234.out 4).trans rfl
                    have hcz122_5 : wr.cell? ⟨gb234, 5, none⟩ = some (.int .i64 a2_5) := (blk_cell BK234.out 5).trans rfl
                    have hcz122_6 : wr.cell? ⟨gb234, 6, none⟩ = some (.slice A2_6 l2_6.length c2_6) := (blk_cell BK234.out 6).trans rfl
                    have hfz122_0 := blk_frozen BK234.out 0
                    have hfz122_1 := blk_frozen BK234.out 1
                    have hfz122_2 := blk_frozen BK234.out 2
                    have hfz122_3 := blk_frozen BK234.out 3
                    have hfz122_4 := blk_frozen BK234.out 4
                    have hfz122_5 := blk_frozen BK234.out 5
                    have hfz122_6 := blk_frozen BK234.out 6
                    go_wp2_with (first | (go_at_call 86; (with_reducible refine (portolanref04_within.calls a2_4 0 7 t262 _ A118.out).mono ?_); rintro e w' ⟨rfl, ⟨nd, rfl⟩⟩; (try first | exact ⟨rfl, _, World.drewN_drewN _ _ _⟩ | exact ⟨rfl, _, Eq.trans (World.drewN_drewN _ _ _) (congrArg (World.drewN _) (Nat.add_assoc _ _ _))⟩)))
                    repeat (go_quiet (first | (go_at_call 86; (with_reducible refine (portolanref04_within.calls a2_4 0 7 t262 _ A118.out).mono ?_); rintro e w' ⟨rfl, ⟨nd, rfl⟩⟩; (try first | exact ⟨rfl, _, World.drewN_drewN _ _ _⟩ | exact ⟨rfl, _, Eq.trans (World.drewN_drewN _ _ _) (congrArg (World.drewN _) (Nat.add_assoc _ _ _))⟩))); try go_wp2_with (first | (go_at_call 86; (with_reducible refine (portolanref04_within.calls a2_4 0 7 t262 _ A118.out).mono ?_); rintro e w' ⟨rfl, ⟨nd, rfl⟩⟩; (try first | exact ⟨rfl, _, World.drewN_drewN _ _ _⟩ | exact ⟨rfl, _, Eq.trans (World.drewN_drewN _ _ _) (congrArg (World.drewN _) (Nat.add_assoc _ _ _))⟩))))
                    go_ret
                    exact ⟨by first | rfl | (simp [errW_none, errW_some] <;> rfl) | (simp [*, errW_none, errW_some] <;> rfl), by repeat (first | (with_reducible first | exact HB.out | apply zq5 | apply zq4 | apply zq6 | refine below_set ?_ GE233.out | refine below_set ?_ GE234.out | refine below_set ?_ GE239.out) | exact HB.out)⟩
                   ·rw [if_neg c117] at H
                    have c117b0 : (a2_0 == 12) = false := beq_eq_false_iff_ne.mpr c117
                    have c117b1 : (a2_0 != 12) = true := bne_iff_ne.mpr c117
                    by_cases c123 : a2_0 = 13
                    ·rw [if_pos c123] at H
                     have c123b0 : (a2_0 == 13) = true := beq_iff_eq.mpr c123
                     have c123b1 : (a2_0 != 13) = false := bne_eq_false_iff_eq.mpr c123
                     clear c123
                     replace H := Option.bind_eq_some_iff.mp H
                     obtain ⟨t263, A1240, H⟩ := H
                     replace H : (some t263) = some r := H
                     have A124 := Aside0.mk A1240
                     clear A1240
                     obtain rfl := Option.some.inj H
                     obtain ⟨Ao125, co125, eo125⟩ := Kd.R_slice HO_12.out
                     subst eo125
                     have hnb126 := NB234_233.out
                     have hnc126 := NB233_234.out
                     have hnb127 := NB234_239.out
                     have hnc127 := NB239_234.out
                     have hcz128_0 : wr.cell? ⟨gb234, 0, none⟩ = some (.int .i64 a2_0) := (blk_cell BK234.out 0).trans rfl
                     have hcz128_1 : wr.cell? ⟨gb234, 1, none⟩ = some (.int .i64 a2_1) := (blk_cell BK234.out 1).trans rfl
                     have hcz128_2 : wr.cell? ⟨gb234, 2, none⟩ = some (.int .i64 a2_2) := (blk_cell BK234.out 2).trans rfl
                     have hcz128_3 : wr.cell? ⟨gb234, 3, none⟩ = some (.int .i64 a2_3) := (blk_cell BK234.out 3).trans rfl
                     have hcz128_4 : wr.cell? ⟨gb234, 4, none⟩ = some (.int .i64 a2_4) := (blk_cell BK234.out 4).trans rfl
                     have hcz128_5 : wr.cell? ⟨gb234, 5, none⟩ = some (.int .i64 a2_5) := (blk_cell BK234.out 5).trans rfl
                     have hcz128_6 : wr.cell? ⟨gb234, 6, none⟩ = some (.slice A2_6 l2_6.length c2_6) := (blk_cell BK234.out 6).trans rfl
                     have hfz128_0 := blk_frozen BK234.out 0
                     have hfz128_1 := blk_frozen BK234.out 1
                     have hfz128_2 := blk_frozen BK234.out 2
                     have hfz128_3 := blk_frozen BK234.out 3
                     have hfz128_4 := blk_frozen BK234.out 4
                     have hfz128_5 := blk_frozen BK234.out 5
                     have hfz128_6 := blk_frozen BK234.out 6
                     go_wp2_with (first | (go_at_call 86; (with_reducible refine (portolanref04_within.calls a2_4 0 7 t263 _ A124.out).mono ?_); rintro e w' ⟨rfl, ⟨nd, rfl⟩⟩; (try first | exact ⟨rfl, _, World.drewN_drewN _ _ _⟩ | exact ⟨rfl, _, Eq.trans (World.drewN_drewN _ _ _) (congrArg (World.drewN _) (Nat.add_assoc _ _ _))⟩)))
                     repeat (go_quiet (first | (go_at_call 86; (with_reducible refine (portolanref04_within.calls a2_4 0 7 t263 _ A124.out).mono ?_); rintro e w' ⟨rfl, ⟨nd, rfl⟩⟩; (try first | exact ⟨rfl, _, World.drewN_drewN _ _ _⟩ | exact ⟨rfl, _, Eq.trans (World.drewN_drewN _ _ _) (congrArg (World.drewN _) (Nat.add_assoc _ _ _))⟩))); try go_wp2_with (first | (go_at_call 86; (with_reducible refine (portolanref04_within.calls a2_4 0 7 t263 _ A124.out).mono ?_); rintro e w' ⟨rfl, ⟨nd, rfl⟩⟩; (try first | exact ⟨rfl, _, World.drewN_drewN _ _ _⟩ | exact ⟨rfl, _, Eq.trans (World.drewN_drewN _ _ _) (congrArg (World.drewN _) (Nat.add_assoc _ _ _))⟩))))
                     go_ret
                     exact ⟨by first | rfl | (simp [errW_none, errW_some] <;> rfl) | (simp [*, errW_none, errW_some] <;> rfl), by repeat (first | (with_reducible first | exact HB.out | apply zq5 | apply zq4 | apply zq6 | refine below_set ?_ GE233.out | refine below_set ?_ GE234.out | refine below_set ?_ GE239.out) | exact HB.out)⟩
                    ·rw [if_neg c123] at H
                     have c123b0 : (a2_0 == 13) = false := beq_eq_false_iff_ne.mpr c123
                     have c123b1 : (a2_0 != 13) = true := bne_iff_ne.mpr c123
                     by_cases c129 : a2_0 = 14
                     ·rw [if_pos c129] at H
                      have c129b0 : (a2_0 == 14) = true := beq_iff_eq.mpr c129
                      have c129b1 : (a2_0 != 14) = false := bne_eq_false_iff_eq.mpr c129
                      clear c129
                      replace H := Option.bind_eq_some_iff.mp H
                      obtain ⟨t264, A1300, H⟩ := H
                      replace H : (some t264) = some r := H
                      have A130 := Aside0.mk A1300
                      clear A1300
                      obtain rfl := Option.some.inj H
                      obtain ⟨Ao131, co131, eo131⟩ := Kd.R_slice HO_12.out
                      subst eo131
                      have hnb132 := NB234_233.out
                      have hnc132 := NB233_234.out
                      have hnb133 := NB234_239.out
                      have hnc133 := NB239_234.out
                      have hcz134_0 : wr.cell? ⟨gb234, 0, none⟩ = some (.int .i64 a2_0) := (blk_cell BK234.out 0).trans rfl
                      have hcz134_1 : wr.cell? ⟨gb234, 1, none⟩ = some (.int .i64 a2_1) := (blk_cell BK234.out 1).trans rfl
                      have hcz134_2 : wr.cell? ⟨gb234, 2, none⟩ = some (.int .i64 a2_2) := (blk_cell BK234.out 2).trans rfl
                      have hcz134_3 : wr.cell? ⟨gb234, 3, none⟩ = some (.int .i64 a2_3) := (blk_cell BK234.out 3).trans rfl
                      have hcz134_4 : wr.cell? ⟨gb234, 4, none⟩ = some (.int .i64 a2_4) := (blk_cell BK234.out 4).trans rfl
                      have hcz134_5 : wr.cell? ⟨gb234, 5, none⟩ = some (.int .i64 a2_5) := (blk_cell BK234.out 5).trans rfl
                      have hcz134_6 : wr.cell? ⟨gb234, 6, none⟩ = some (.slice A2_6 l2_6.length c2_6) := (blk_cell BK234.out 6).trans rfl
                      have hfz134_0 := blk_frozen BK234.out 0
                      have hfz134_1 := blk_frozen BK234.out 1
                      have hfz134_2 := blk_frozen BK234.out 2
                      have hfz134_3 := blk_frozen BK234.out 3
                      have hfz134_4 := blk_frozen BK234.out 4
                      have hfz134_5 := blk_frozen BK234.out 5
                      have hfz134_6 := blk_frozen BK234.out 6
                      go_wp2_with (first | (go_at_call 86; (with_reducible refine (portolanref04_within.calls a2_4 0 7 t264 _ A130.out).mono ?_); rintro e w' ⟨rfl, ⟨nd, rfl⟩⟩; (try first | exact ⟨rfl, _, World.drewN_drewN _ _ _⟩ | exact ⟨rfl, _, Eq.trans (World.drewN_drewN _ _ _) (congrArg (World.drewN _) (Nat.add_assoc _ _ _))⟩)))
                      repeat (go_quiet (first | (go_at_call 86; (with_reducible refine (portolanref04_within.calls a2_4 0 7 t264 _ A130.out).mono ?_); rintro e w' ⟨rfl, ⟨nd, rfl⟩⟩; (try first | exact ⟨rfl, _, World.drewN_drewN _ _ _⟩ | exact ⟨rfl, _, Eq.trans (World.drewN_drewN _ _ _) (congrArg (World.drewN _) (Nat.add_assoc _ _ _))⟩))); try go_wp2_with (first | (go_at_call 86; (with_reducible refine (portolanref04_within.calls a2_4 0 7 t264 _ A130.out).mono ?_); rintro e w' ⟨rfl, ⟨nd, rfl⟩⟩; (try first | exact ⟨rfl, _, World.drewN_drewN _ _ _⟩ | exact ⟨rfl, _, Eq.trans (World.drewN_drewN _ _ _) (congrArg (World.drewN _) (Nat.add_assoc _ _ _))⟩))))
                      go_ret
                      exact ⟨by first | rfl | (simp [errW_none, errW_some] <;> rfl) | (simp [*, errW_none, errW_some] <;> rfl), by repeat (first | (with_reducible first | exact HB.out | apply zq5 | apply zq4 | apply zq6 | refine below_set ?_ GE233.out | refine below_set ?_ GE234.out | refine below_set ?_ GE239.out) | exact HB.out)⟩
                     ·rw [if_neg c129] at H
                      have c129b0 : (a2_0 == 14) = false := beq_eq_false_iff_ne.mpr c129
                      have c129b1 : (a2_0 != 14) = true := bne_iff_ne.mpr c129
                      by_cases c135 : a2_0 = 15
                      ·rw [if_pos c135] at H
                       have c135b0 : (a2_0 == 15) = true := beq_iff_eq.mpr c135
                       have c135b1 : (a2_0 != 15) = false := bne_eq_false_iff_eq.mpr c135
                       clear c135
                       replace H := Option.bind_eq_some_iff.mp H
                       obtain ⟨t265, A1360, H⟩ := H
                       replace H : (some t265) = some r := H
                       have A136 := Aside0.mk A1360
                       clear A1360
                       obtain rfl := Option.some.inj H
                       obtain ⟨Ao137, co137, eo137⟩ := Kd.R_slice HO_12.out
                       subst eo137
                       have hnb138 := NB234_233.out
                       have hnc138 := NB233_234.out
                       have hnb139 := NB234_239.out
                       have hnc139 := NB239_234.out
                       have hcz140_0 : wr.cell? ⟨gb234, 0, none⟩ = some (.int .i64 a2_0) := (blk_cell BK234.out 0).trans rfl
                       have hcz140_1 : wr.cell? ⟨gb234, 1, none⟩ = some (.int .i64 a2_1) := (blk_cell BK234.out 1).trans rfl
                       have hcz140_2 : wr.cell? ⟨gb234, 2, none⟩ = some (.int .i64 a2_2) := (blk_cell BK234.out 2).trans rfl
                       have hcz140_3 : wr.cell? ⟨gb234, 3, none⟩ = some (.int .i64 a2_3) := (blk_cell BK234.out 3).trans rfl
                       have hcz140_4 : wr.cell? ⟨gb234, 4, none⟩ = some (.int .i64 a2_4) := (blk_cell BK234.out 4).trans rfl
                       have hcz140_5 : wr.cell? ⟨gb234, 5, none⟩ = some (.int .i64 a2_5) := (blk_cell BK234.out 5).trans rfl
                       have hcz140_6 : wr.cell? ⟨gb234, 6, none⟩ = some (.slice A2_6 l2_6.length c2_6) := (blk_cell BK234.out 6).trans rfl
                       have hfz140_0 := blk_frozen BK234.out 0
                       have hfz140_1 := blk_frozen BK234.out 1
                       have hfz140_2 := blk_frozen BK234.out 2
                       have hfz140_3 := blk_frozen BK234.out 3
                       have hfz140_4 := blk_frozen BK234.out 4
                       have hfz140_5 := blk_frozen BK234.out 5
                       have hfz140_6 := blk_frozen BK234.out 6
                       go_wp2_with (first | (go_at_call 86; (with_reducible refine (portolanref04_within.calls a2_4 0 7 t265 _ A136.out).mono ?_); rintro e w' ⟨rfl, ⟨nd, rfl⟩⟩; (try first | exact ⟨rfl, _, World.drewN_drewN _ _ _⟩ | exact ⟨rfl, _, Eq.trans (World.drewN_drewN _ _ _) (congrArg (World.drewN _) (Nat.add_assoc _ _ _))⟩)))
                       repeat (go_quiet (first | (go_at_call 86; (with_reducible refine (portolanref04_within.calls a2_4 0 7 t265 _ A136.out).mono ?_); rintro e w' ⟨rfl, ⟨nd, rfl⟩⟩; (try first | exact ⟨rfl, _, World.drewN_drewN _ _ _⟩ | exact ⟨rfl, _, Eq.trans (World.drewN_drewN _ _ _) (congrArg (World.drewN _) (Nat.add_assoc _ _ _))⟩))); try go_wp2_with (first | (go_at_call 86; (with_reducible refine (portolanref04_within.calls a2_4 0 7 t265 _ A136.out).mono ?_); rintro e w' ⟨rfl, ⟨nd, rfl⟩⟩; (try first | exact ⟨rfl, _, World.drewN_drewN _ _ _⟩ | exact ⟨rfl, _, Eq.trans (World.drewN_drewN _ _ _) (congrArg (World.drewN _) (Nat.add_assoc _ _ _))⟩))))
                       go_ret
                       exact ⟨by first | rfl | (simp [errW_none, errW_some] <;> rfl) | (simp [*, errW_none, errW_some] <;> rfl), by repeat (first | (with_reducible first | exact HB.out | apply zq5 | apply zq4 | apply zq6 | refine below_set ?_ GE233.out | refine below_set ?_ GE234.out | refine below_set ?_ GE239.out) | exact HB.out)⟩
                      ·rw [if_neg c135] at H
                       have c135b0 : (a2_0 == 15) = false := beq_eq_false_iff_ne.mpr c135
                       have c135b1 : (a2_0 != 15) = true := bne_iff_ne.mpr c135
                       obtain rfl := Option.some.inj H
                       obtain ⟨Ao141, co141, eo141⟩ := Kd.R_slice HO_12.out
                       subst eo141
                       have hnb142 := NB234_233.out
                       have hnc142 := NB233_234.out
                       have hnb143 := NB234_239.out
                       have hnc143 := NB239_234.out
                       have hcz144_0 : wr.cell? ⟨gb234, 0, none⟩ = some (.int .i64 a2_0) := (blk_cell BK234.out 0).trans rfl
                       have hcz144_1 : wr.cell? ⟨gb234, 1, none⟩ = some (.int .i64 a2_1) := (blk_cell BK234.out 1).trans rfl
                       have hcz144_2 : wr.cell? ⟨gb234, 2, none⟩ = some (.int .i64 a2_2) := (blk_cell BK234.out 2).trans rfl
                       have hcz144_3 : wr.cell? ⟨gb234, 3, none⟩ = some (.int .i64 a2_3) := (blk_cell BK234.out 3).trans rfl
                       have hcz144_4 : wr.cell? ⟨gb234, 4, none⟩ = some (.int .i64 a2_4) := (blk_cell BK234.out 4).trans rfl
                       have hcz144_5 : wr.cell? ⟨gb234, 5, none⟩ = some (.int .i64 a2_5) := (blk_cell BK234.out 5).trans rfl
                       have hcz144_6 : wr.cell? ⟨gb234, 6, none⟩ = some (.slice A2_6 l2_6.length c2_6) := (blk_cell BK234.out 6).trans rfl
                       have hfz144_0 := blk_frozen BK234.out 0
                       have hfz144_1 := blk_frozen BK234.out 1
                       have hfz144_2 := blk_frozen BK234.out 2
                       have hfz144_3 := blk_frozen BK234.out 3
                       have hfz144_4 := blk_frozen BK234.out 4
                       have hfz144_5 := blk_frozen BK234.out 5
                       have hfz144_6 := blk_frozen BK234.out 6
                       go_wp2
                       repeat (go_quiet (fail); try go_wp2)
                       go_ret
                       exact ⟨by first | rfl | (simp [errW_none, errW_some] <;> rfl) | (simp [*, errW_none, errW_some] <;> rfl), by repeat (first | (with_reducible first | exact HB.out | apply zq5 | apply zq4 | apply zq6 | refine below_set ?_ GE233.out | refine below_set ?_ GE234.out | refine below_set ?_ GE239.out) | exact HB.out)⟩
     ·rw [if_neg c23] at H
      exact absurd H (by simp)
    ·rw [if_neg c22] at H
     exact absurd H (by simp)
end Go.Proofs.Ytcknmcfomkbenaa.PF
