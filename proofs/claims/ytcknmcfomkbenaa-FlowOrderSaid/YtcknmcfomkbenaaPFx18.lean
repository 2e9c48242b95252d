import Derived.Test.YtcknmcfomkbenaaPFx0
import Derived.Test.YtcknmcfomkbenaaPFx3
import Derived.Test.YtcknmcfomkbenaaPFx10
import Derived.Test.YtcknmcfomkbenaaPFx14
import Derived.Test.YtcknmcfomkbenaaPFx15
import Derived.Test.YtcknmcfomkbenaaWZ
namespace Go.Proofs.Ytcknmcfomkbenaa.PF
open Go.RowKit Go.Proofs.YtcknmcfomkbenaaW.PrintWords Go.Proofs.YtcknmcfomkbenaaW.PrintLast Go.Proofs.YtcknmcfomkbenaaW.PrintMore
attribute [local go_sem] max2_int min2_int max_two min_two max_three min_three max_four min_four   -- for this text's walks alone
set_option linter.unusedVariables false
set_option linter.unusedSimpArgs false
mutual
def portolanlaw05_FlowOrder.l0 : Nat → Int → List (S30) → Option (Bool)
 | 0, _, _ => none
 | k + 1, x3, x425000 => if x3 < (x425000.length : Int) then (if 0 ≤ x3 then ((flow_Order.f ((rd_T30 x425000 x3).f0) ((rd_T30 x425000 x3).f1) ((rd_T30 x425000 x3).f2) ((rd_T30 x425000 x3).f3) ((rd_T30 x425000 x3).f4)).bind fun t429 => ((flow_Reach.f ((rd_T30 x425000 x3).f0) ((rd_T30 x425000 x3).f1) ((rd_T30 x425000 x3).f2) ((rd_T30 x425000 x3).f3) ((rd_T30 x425000 x3).f4)).bind fun t432 => (if (t429.length : Int) = (t432.length : Int) then (if (t429.length : Int) = 0 then (portolanlaw05_FlowOrder.j1 k x3 t429 true x425000 ((rd_T30 x425000 x3).f0) ((rd_T30 x425000 x3).f1) ((rd_T30 x425000 x3).f2) ((rd_T30 x425000 x3).f3) ((rd_T30 x425000 x3).f4)) else (if 0 < (t429.length : Int) then (portolanlaw05_FlowOrder.j1 k x3 t429 ((rd t429 0) != 0) x425000 ((rd_T30 x425000 x3).f0) ((rd_T30 x425000 x3).f1) ((rd_T30 x425000 x3).f2) ((rd_T30 x425000 x3).f3) ((rd_T30 x425000 x3).f4)) else (none))) else (portolanlaw05_FlowOrder.j1 k x3 t429 true x425000 ((rd_T30 x425000 x3).f0) ((rd_T30 x425000 x3).f1) ((rd_T30 x425000 x3).f2) ((rd_T30 x425000 x3).f3) ((rd_T30 x425000 x3).f4))))) else (none)) else (some true)
def portolanlaw05_FlowOrder.j1 : Nat → Int → List Int → Bool → List (S30) → List Int → List Int → Int → Int → List (S50) → Option (Bool)
 | 0, _, _, _, _, _, _, _, _, _ => none
 | k + 1, x3, x5, x49, x425000, x429000, x429001, x429002, x429003, x429004 => if x49 = true then (some false) else (if 0 ≤ (x429004.length : Int) then (if ((x429004.length : Int) : Int).toNat ≤ 35184372088832 then (portolanlaw05_FlowOrder.l1 k x3 x5 (List.replicate ((x429004.length : Int) : Int).toNat 0) 0 x425000 x429000 x429001 x429002 x429003 x429004) else (none)) else (none))
def portolanlaw05_FlowOrder.l1 : Nat → Int → List Int → List Int → Int → List (S30) → List Int → List Int → Int → Int → List (S50) → Option (Bool)
 | 0, _, _, _, _, _, _, _, _, _, _ => none
 | k + 1, x3, x5, x7, x8, x425000, x429000, x429001, x429002, x429003, x429004 => if x8 < (x5.length : Int) then (if 0 ≤ x8 then (if (rd x5 x8) < 0 then (some false) else (if (rd x5 x8) ≥ (x7.length : Int) then (some false) else (if 0 ≤ (rd x5 x8) then (if (rd x5 x8) < (x7.length : Int) then (if (rd x7 (rd x5 x8)) = 0 then (portolanlaw05_FlowOrder.l1 k x3 x5 (x7.set ((rd x5 x8) : Int).toNat (wrap64 (x8 + 1))) (wrap64 (x8 + 1)) x425000 x429000 x429001 x429002 x429003 x429004) else (some false)) else (none)) else (none)))) else (none)) else ((flow_Edges.f k x429000 x429001 x429002 x429003 x429004).bind fun t445 => (portolanlaw05_FlowOrder.l2 k x3 x7 false false t445 0 x425000 x429000 x429001 x429002 x429003 x429004))
def portolanlaw05_FlowOrder.l2 : Nat → Int → List Int → Bool → Bool → List (S40) → Int → List (S30) → List Int → List Int → Int → Int → List (S50) → Option (Bool)
 | 0, _, _, _, _, _, _, _, _, _, _, _, _ => none
 | k + 1, x3, x7, x9, x10, x11, x12, x425000, x429000, x429001, x429002, x429003, x429004 => if x12 < (x11.length : Int) then (if 0 ≤ x12 then (if 0 ≤ ((rd_T40 x11 x12).f0) then (if ((rd_T40 x11 x12).f0) < (x7.length : Int) then (if (rd x7 ((rd_T40 x11 x12).f0)) = 0 then (portolanlaw05_FlowOrder.l2 k x3 x7 x9 x10 x11 (wrap64 (x12 + 1)) x425000 x429000 x429001 x429002 x429003 x429004) else (if x9 = true then (if x10 = true then (portolanlaw05_FlowOrder.l2 k x3 x7 true true x11 (wrap64 (x12 + 1)) x425000 x429000 x429001 x429002 x429003 x429004) else (if 0 ≤ ((rd_T40 x11 x12).f1) then (if ((rd_T40 x11 x12).f1) < (x7.length : Int) then (portolanlaw05_FlowOrder.l2 k x3 x7 true (decide ((rd x7 ((rd_T40 x11 x12).f1)) ≤ (rd x7 ((rd_T40 x11 x12).f0)))) x11 (wrap64 (x12 + 1)) x425000 x429000 x429001 x429002 x429003 x429004) else (none)) else (none))) else ((portolanref05_Within.f k x429000 x429001 x429002 x429003 x429004 ((rd_T40 x11 x12).f1) (-1)).bind fun t453 => (if ((rd_T40 x11 x12).f0) < (t453.length : Int) then (if x10 = true then (portolanlaw05_FlowOrder.l2 k x3 x7 (rdOf false t453 ((rd_T40 x11 x12).f0)) true x11 (wrap64 (x12 + 1)) x425000 x429000 x429001 x429002 x429003 x429004) else (if 0 ≤ ((rd_T40 x11 x12).f1) then (if ((rd_T40 x11 x12).f1) < (x7.length : Int) then (portolanlaw05_FlowOrder.l2 k x3 x7 (rdOf false t453 ((rd_T40 x11 x12).f0)) (decide ((rd x7 ((rd_T40 x11 x12).f1)) ≤ (rd x7 ((rd_T40 x11 x12).f0)))) x11 (wrap64 (x12 + 1)) x425000 x429000 x429001 x429002 x429003 x429004) else (none)) else (none))) else (none))))) else (none)) else (none)) else (none)) else (if x10 = true then (if x9 = true then (portolanlaw05_FlowOrder.l0 k (wrap64 (x3 + 1)) x425000) else (some false)) else (portolanlaw05_FlowOrder.l0 k (wrap64 (x3 + 1)) x425000))
end
def portolanlaw05_FlowOrder.f (k : Nat) (l0_0 : List (S30)) : Option (Bool) := (portolanlaw05_alive.f k).bind fun t425 => (if t425 = true then ((portolanlaw05_out.f k l0_0).bind fun t426 => (if t426 = true then (some true) else (portolanlaw05_FlowOrder.l0 k 0 l0_0))) else (some false))
def portolanlaw05_FlowOrder.T27 : Bool × List (List Nat × List Nat) := (true, [([], []), ([0], [0]), ([1], [1]), ([1], [1]), ([3, 1], [1, 3]), ([2, 4, 1, 1], [1, 2, 4]), ([1], [1]), ([6, 1], [1, 6]), ([5, 7, 1], [1, 5, 7]), ([8, 1], [1, 8]), ([1, 9], [1, 9]), ([10, 5, 0, 1, 2, 3, 4, 5, 6, 7, 8, 9, 10], [0, 10])])
def portolanlaw05_FlowOrder.B27 : List Nat := [0, 1, 3, 3, 11, 31, 3, 67, 255, 511, 1023, 2047]
theorem portolanlaw05_FlowOrder.tab27 : rtab .any (opsOf Try.f6 27) = portolanlaw05_FlowOrder.T27 := by kernel_rfl
theorem portolanlaw05_FlowOrder.bits27 : waitsOk portolanlaw05_FlowOrder.T27.2 portolanlaw05_FlowOrder.B27 = true := by kernel_rfl
def portolanlaw05_FlowOrder.T28 : Bool × List (List Nat × List Nat) := (true, [([], []), ([0], [0]), ([1], [1]), ([1], [1]), ([3, 1], [1, 3]), ([2, 4, 1], [1, 2, 4]), ([5, 1], [1, 5]), ([1], [1]), ([1], [1]), ([8, 1], [1, 8]), ([7, 9, 1], [1, 7, 9]), ([10, 1], [1, 10]), ([6, 11, 1], [1, 6, 11]), ([1, 12], [1, 12]), ([13, 1, 0, 1, 2, 3, 4, 5, 6, 7, 8, 9, 10, 11, 12, 13], [0, 13])])
def portolanlaw05_FlowOrder.B28 : List Nat := [0, 1, 3, 3, 11, 31, 63, 3, 3, 259, 899, 1923, 4095, 8191, 16383]
theorem portolanlaw05_FlowOrder.tab28 : rtab .any (opsOf Try.f6 28) = portolanlaw05_FlowOrder.T28 := by kernel_rfl
theorem portolanlaw05_FlowOrder.bits28 : waitsOk portolanlaw05_FlowOrder.T28.2 portolanlaw05_FlowOrder.B28 = true := by kernel_rfl
set_option maxHeartbeats 8000000 in
set_option maxRecDepth 100000 in
theorem portolanlaw05_FlowOrder.calls (k : Nat) (A0_0 : Option Addr) (c0_0 : Nat) (l0_0 : List (S30)) (w : World) (hr0_0 : Kd.C k30 w A0_0 l0_0.length l0_0) (hc0_0 : l0_0.length ≤ c0_0) (h : portolanlaw05_FlowOrder.f k l0_0 = some true) :
  Calls Try.prog 6 #[.agg #[.slice A0_0 l0_0.length c0_0]] w fun e w' => e = .returned (.bool true) ∧ Below w.heap.size w w' := by
 have hu24 := Try.underlying24
 have hu30 := Try.underlying30
 have hu40 := Try.underlying40
 have HR0_0 := Aside0.mk hr0_0
 have HC0_0 := Aside0.mk hc0_0
 clear hr0_0 hc0_0
 have HB := Aside0.mk (Below.refl w.heap.size w)
 have H : ((portolanlaw05_alive.f k).bind fun t425 => (if t425 = true then ((portolanlaw05_out.f k l0_0).bind fun t426 => (if t426 = true then (some true) else (portolanlaw05_FlowOrder.l0 k 0 l0_0))) else (some false))) = some true := h
 clear h
 replace H := Option.bind_eq_some_iff.mp H
 obtain ⟨t425, A20, H⟩ := H
 replace H : (if t425 = true then ((portolanlaw05_out.f k l0_0).bind fun t426 => (if t426 = true then (some true) else (portolanlaw05_FlowOrder.l0 k 0 l0_0))) else (some false)) = some true := H
 have A2 := Aside0.mk A20
 clear A20
 by_cases c3 : t425 = true
 ·subst c3
  have H1 : ((portolanlaw05_out.f k l0_0).bind fun t426 => (if t426 = true then (some true) else (portolanlaw05_FlowOrder.l0 k 0 l0_0))) = some true := by first | (rw [if_pos rfl] at H; exact H) | rfl
  clear H
  have H := H1
  clear H1
  replace H := Option.bind_eq_some_iff.mp H
  obtain ⟨t426, A40, H⟩ := H
  replace H : (if t426 = true then (some true) else (portolanlaw05_FlowOrder.l0 k 0 l0_0)) = some true := H
  have A4 := Aside0.mk A40
  clear A40
  by_cases c5 : t426 = true
  ·subst c5
   have H1 : (some true) = some true := by first | (rw [if_pos rfl] at H; exact H) | rfl
   clear H
   have H := H1
   clear H1
   clear H
   go_enter Try.func6, Try.ntmps6
   go_wp2_with (first | ((with_reducible refine gate_dst (N := 1) rfl ?_); (try (refine gate_guard (by rfl) ?_; dsimp only)); refine box_event ?hg (N := 1) ?hd (cs := #[.slice A0_0 l0_0.length c0_0]) (t := 24) ?hr ?_; (case hd => rfl); (case hg => rfl); (case hr => first | (go_simp; done) | (go_simp; rfl)); intro gb424 hg w6 hbox hb; have n0_ := Aside0.mk (below_step (by repeat (first | (with_reducible first | exact HB.out | apply zq5 | apply zq4 | apply zq6) | exact HB.out)) hb); have n1_ := Aside0.mk (hbox); have n2_ := Aside0.mk ((by rw [hg]; exact (below_size (by repeat (first | (with_reducible first | exact HB.out | apply zq5 | apply zq4 | apply zq6) | exact HB.out))) : w.heap.size ≤ gb424)); have n3_ := Aside0.mk ((by rw [hg]; exact (below_size (by repeat (first | (with_reducible first | exact HB.out | apply zq5 | apply zq4 | apply zq6) | exact HB.out))) : w.heap.size ≤ gb424)); clear HB; have HB := n0_; have BK424 := n1_; have GW424 := n2_; have GE424 := n3_; clear n0_ n1_ n2_ n3_; clear hb hbox hg) | ((with_reducible refine gate_callee (f := 16) rfl ?_); refine goesL_ (some 14) rfl rfl Try.func16 (by kernel_rfl) rfl #[] rfl (by (try simp only [List.map_toArray, List.map_cons, List.map_nil]); first | done | rfl | (simp only [List.length_drop, List.length_take]; rfl)) ?_; (with_reducible refine (portolanlaw05_alive.calls k  true _ A2.out).mono ?_); rintro e w7 ⟨rfl, hb⟩; refine ⟨_, rfl, ?_⟩; have n0_ := Aside0.mk (blk_below (g := gb424) (o := .cells #[.slice A0_0 l0_0.length c0_0] 24 (0, 0)) (by (with_reducible repeat (first | refine zq1 ?_ _ | refine zq2 ?_ | refine zq3 ?_ _)); exact BK424.out) hb); have n1_ := Aside0.mk (below_step (by repeat (first | (with_reducible first | exact HB.out | apply zq5 | apply zq4 | apply zq6 | refine below_set ?_ GE424.out) | exact HB.out)) hb); clear BK424; clear HB; have BK424 := n0_; have HB := n1_; clear n0_ n1_; (try clear hb); (try clear hb2); (try clear hk); (try clear hi); have hcz8_0 : w7.cell? ⟨gb424, 0, none⟩ = some (.slice A0_0 l0_0.length c0_0) := (blk_cell BK424.out 0).trans rfl; have hfz8_0 := blk_frozen BK424.out 0) | ((with_reducible refine gate_callee (f := 17) rfl ?_); refine goesL_ (some 17) rfl rfl Try.func17 (by kernel_rfl) rfl #[.agg #[.slice A0_0 l0_0.length c0_0]] rfl (by (try simp only [List.map_toArray, List.map_cons, List.map_nil]); first | done | rfl | (simp only [List.length_drop, List.length_take]; rfl)) ?_; (with_reducible refine (portolanlaw05_out.calls k _ _ l0_0 true _ ?side1 ?side2 A4.out).mono ?_); (case side1 => repeat (first | exact (Kd.C_below HR0_0.out HB.out) | (with_reducible refine Kd.C_alloc ?_ _) | (with_reducible refine Kd.C_drewN ?_ _) | (with_reducible refine Kd.C_drew ?_))); (case side2 => exact HC0_0.out); rintro e w9 ⟨rfl, hb⟩; refine ⟨_, rfl, ?_⟩; have n0_ := Aside0.mk (blk_below (g := gb424) (o := .cells #[.slice A0_0 l0_0.length c0_0] 24 (0, 0)) (by (with_reducible repeat (first | refine zq1 ?_ _ | refine zq2 ?_ | refine zq3 ?_ _)); exact BK424.out) hb); have n1_ := Aside0.mk (below_step (by repeat (first | (with_reducible first | exact HB.out | apply zq5 | apply zq4 | apply zq6 | refine below_set ?_ GE424.out) | exact HB.out)) hb); clear BK424; clear HB; have BK424 := n0_; have HB := n1_; clear n0_ n1_; (try clear hb); (try clear hb2); (try clear hk); (try clear hi)))
   go_ret
   exact ⟨by first | rfl | (simp [errW_none, errW_some] <;> rfl) | (simp [*, errW_none, errW_some] <;> rfl), by repeat (first | (with_reducible first | exact HB.out | apply zq5 | apply zq4 | apply zq6 | refine below_set ?_ GE424.out) | exact HB.out)⟩
  ·replace c5 := Bool.eq_false_iff.mpr c5
   subst c5
   have H1 : (portolanlaw05_FlowOrder.l0 k 0 l0_0) = some true := by first | (rw [if_neg (show ¬ (false = true) by decide)] at H; exact H) | rfl
   clear H
   have H := H1
   clear H1
   have H' := Aside0.mk H
   clear H
   go_enter Try.func6, Try.ntmps6
   go_wp2_with (first | ((with_reducible refine gate_dst (N := 1) rfl ?_); (try (refine gate_guard (by rfl) ?_; dsimp only)); refine box_event ?hg (N := 1) ?hd (cs := #[.slice A0_0 l0_0.length c0_0]) (t := 24) ?hr ?_; (case hd => rfl); (case hg => rfl); (case hr => first | (go_simp; done) | (go_simp; rfl)); intro gb424 hg w10 hbox hb; have n0_ := Aside0.mk (below_step (by repeat (first | (with_reducible first | exact HB.out | apply zq5 | apply zq4 | apply zq6) | exact HB.out)) hb); have n1_ := Aside0.mk (hbox); have n2_ := Aside0.mk ((by rw [hg]; exact (below_size (by repeat (first | (with_reducible first | exact HB.out | apply zq5 | apply zq4 | apply zq6) | exact HB.out))) : w.heap.size ≤ gb424)); have n3_ := Aside0.mk ((by rw [hg]; exact (below_size (by repeat (first | (with_reducible first | exact HB.out | apply zq5 | apply zq4 | apply zq6) | exact HB.out))) : w.heap.size ≤ gb424)); clear HB; have HB := n0_; have BK424 := n1_; have GW424 := n2_; have GE424 := n3_; clear n0_ n1_ n2_ n3_; clear hb hbox hg) | ((with_reducible refine gate_callee (f := 16) rfl ?_); refine goesL_ (some 14) rfl rfl Try.func16 (by kernel_rfl) rfl #[] rfl (by (try simp only [List.map_toArray, List.map_cons, List.map_nil]); first | done | rfl | (simp only [List.length_drop, List.length_take]; rfl)) ?_; (with_reducible refine (portolanlaw05_alive.calls k  true _ A2.out).mono ?_); rintro e w11 ⟨rfl, hb⟩; refine ⟨_, rfl, ?_⟩; have n0_ := Aside0.mk (blk_below (g := gb424) (o := .cells #[.slice A0_0 l0_0.length c0_0] 24 (0, 0)) (by (with_reducible repeat (first | refine zq1 ?_ _ | refine zq2 ?_ | refine zq3 ?_ _)); exact BK424.out) hb); have n1_ := Aside0.mk (below_step (by repeat (first | (with_reducible first | exact HB.out | apply zq5 | apply zq4 | apply zq6 | refine below_set ?_ GE424.out) | exact HB.out)) hb); clear BK424; clear HB; have BK424 := n0_; have HB := n1_; clear n0_ n1_; (try clear hb); (try clear hb2); (try clear hk); (try clear hi); have hcz12_0 : w11.cell? ⟨gb424, 0, none⟩ = some (.slice A0_0 l0_0.length c0_0) := (blk_cell BK424.out 0).trans rfl; have hfz12_0 := blk_frozen BK424.out 0) | ((with_reducible refine gate_callee (f := 17) rfl ?_); refine goesL_ (some 17) rfl rfl Try.func17 (by kernel_rfl) rfl #[.agg #[.slice A0_0 l0_0.length c0_0]] rfl (by (try simp only [List.map_toArray, List.map_cons, List.map_nil]); first | done | rfl | (simp only [List.length_drop, List.length_take]; rfl)) ?_; (with_reducible refine (portolanlaw05_out.calls k _ _ l0_0 false _ ?side1 ?side2 A4.out).mono ?_); (case side1 => repeat (first | exact (Kd.C_below HR0_0.out HB.out) | (with_reducible refine Kd.C_alloc ?_ _) | (with_reducible refine Kd.C_drewN ?_ _) | (with_reducible refine Kd.C_drew ?_))); (case side2 => exact HC0_0.out); rintro e w13 ⟨rfl, hb⟩; refine ⟨_, rfl, ?_⟩; have n0_ := Aside0.mk (blk_below (g := gb424) (o := .cells #[.slice A0_0 l0_0.length c0_0] 24 (0, 0)) (by (with_reducible repeat (first | refine zq1 ?_ _ | refine zq2 ?_ | refine zq3 ?_ _)); exact BK424.out) hb); have n1_ := Aside0.mk (below_step (by repeat (first | (with_reducible first | exact HB.out | apply zq5 | apply zq4 | apply zq6 | refine below_set ?_ GE424.out) | exact HB.out)) hb); clear BK424; clear HB; have BK424 := n0_; have HB := n1_; clear n0_ n1_; (try clear hb); (try clear hb2); (try clear hk); (try clear hi)))
   go_loopg [3] k (fun kq v3 w' => ∃ (x3_1 : Int), v3 = .int .i64 x3_1 ∧ Aside0 (portolanlaw05_FlowOrder.l0 kq x3_1 l0_0 = some true) ∧ Aside0 (kq ≤ k) ∧ Aside0 (w'.heap[gb424]? = some (.cells #[(.slice A0_0 l0_0.length c0_0)] 24 (0, 0))) ∧ Aside0 (Below w.heap.size w w'))
   case atStart => exact ⟨(0), (by first | rfl | (simp; done) | (simp [*]; done)), H', ⟨Nat.le_refl _⟩, ⟨by (with_reducible repeat (first | refine zq1 ?_ _ | refine zq2 ?_ | refine zq3 ?_ _)); exact BK424.out⟩, ⟨by repeat (first | (with_reducible first | exact HB.out | apply zq5 | apply zq4 | apply zq6 | refine below_set ?_ GE424.out) | exact HB.out)⟩⟩
   case round =>
    clear H'
    try clear c1
    try clear p2
    try clear c3
    try clear c5
    try clear c6
    try clear hcz12_0
    try clear hcz8_0
    try clear hfz12_0
    try clear hfz8_0
    obtain ⟨x3_1, rfl, HA, HK1, BK424, HB⟩ := hrel
    cases gk with
    | zero => exact absurd HA.out (by simp [portolanlaw05_FlowOrder.l0])
    | succ k1 =>
     have H := HA.out
     clear HA
     simp only [portolanlaw05_FlowOrder.l0] at H
     by_cases c14 : x3_1 < (l0_0.length : Int)
     ·rw [if_pos c14] at H
      have c14b0 : decide (x3_1 < (l0_0.length : Int)) = true := decide_eq_true c14
      clear c14
      by_cases c15 : 0 ≤ x3_1
      ·rw [if_pos c15] at H
       have c15b0 : decide (0 ≤ x3_1) = true := decide_eq_true c15
       clear c15
       replace H := Option.bind_eq_some_iff.mp H
       obtain ⟨t429, A160, H⟩ := H
       replace H : ((flow_Reach.f ((rd_T30 l0_0 x3_1).f0) ((rd_T30 l0_0 x3_1).f1) ((rd_T30 l0_0 x3_1).f2) ((rd_T30 l0_0 x3_1).f3) ((rd_T30 l0_0 x3_1).f4)).bind fun t432 => (if (t429.length : Int) = (t432.length : Int) then (if (t429.length : Int) = 0 then (portolanlaw05_FlowOrder.j1 k1 x3_1 t429 true l0_0 ((rd_T30 l0_0 x3_1).f0) ((rd_T30 l0_0 x3_1).f1) ((rd_T30 l0_0 x3_1).f2) ((rd_T30 l0_0 x3_1).f3) ((rd_T30 l0_0 x3_1).f4)) else (if 0 < (t429.length : Int) then (portolanlaw05_FlowOrder.j1 k1 x3_1 t429 ((rd t429 0) != 0) l0_0 ((rd_T30 l0_0 x3_1).f0) ((rd_T30 l0_0 x3_1).f1) ((rd_T30 l0_0 x3_1).f2) ((rd_T30 l0_0 x3_1).f3) ((rd_T30 l0_0 x3_1).f4)) else (none))) else (portolanlaw05_FlowOrder.j1 k1 x3_1 t429 true l0_0 ((rd_T30 l0_0 x3_1).f0) ((rd_T30 l0_0 x3_1).f1) ((rd_T30 l0_0 x3_1).f2) ((rd_T30 l0_0 x3_1).f3) ((rd_T30 l0_0 x3_1).f4)))) = some true := H
       have A16 := Aside0.mk A160
       clear A160
       replace H := Option.bind_eq_some_iff.mp H
       obtain ⟨t432, A170, H⟩ := H
       replace H : (if (t429.length : Int) = (t432.length : Int) then (if (t429.length : Int) = 0 then (portolanlaw05_FlowOrder.j1 k1 x3_1 t429 true l0_0 ((rd_T30 l0_0 x3_1).f0) ((rd_T30 l0_0 x3_1).f1) ((rd_T30 l0_0 x3_1).f2) ((rd_T30 l0_0 x3_1).f3) ((rd_T30 l0_0 x3_1).f4)) else (if 0 < (t429.length : Int) then (portolanlaw05_FlowOrder.j1 k1 x3_1 t429 ((rd t429 0) != 0) l0_0 ((rd_T30 l0_0 x3_1).f0) ((rd_T30 l0_0 x3_1).f1) ((rd_T30 l0_0 x3_1).f2) ((rd_T30 l0_0 x3_1).f3) ((rd_T30 l0_0 x3_1).f4)) else (none))) else (portolanlaw05_FlowOrder.j1 k1 x3_1 t429 true l0_0 ((rd_T30 l0_0 x3_1).f0) ((rd_T30 l0_0 x3_1).f1) ((rd_T30 l0_0 x3_1).f2) ((rd_T30 l0_0 x3_1).f3) ((rd_T30 l0_0 x3_1).f4))) = some true := H
       have A17 := Aside0.mk A170
       clear A170
       have HC18 := Aside0.mk H
       clear H
       have hcz19_0 : wr.cell? ⟨gb424, 0, none⟩ = some (.slice A0_0 l0_0.length c0_0) := (blk_cell BK424.out 0).trans rfl
       have hfz19_0 := blk_frozen BK424.out 0
       have p427 : 0 ≤ (x3_1 : Int) := of_decide_eq_true (by first | (with_reducible assumption) | assumption)
       have q427 : x3_1 < (l0_0.length : Int) := of_decide_eq_true (by first | (with_reducible assumption) | assumption)
       obtain ⟨ad427, A427_0, c427_0, A427_1, c427_1, A427_4, c427_4, e427, hx427_0, hx427_1, hx427_2, hx427_3, hx427_4, hl427_0, hi427_0, hl427_1, hi427_1, hl427_4, hi427_4⟩ := at_T30 HR0_0.out x3_1 p427 q427
       cases e427
       replace hx427_0 := (HB.out.cell (World.block_lt_of_cell? w _ hx427_0)).trans hx427_0
       replace hx427_1 := (HB.out.cell (World.block_lt_of_cell? w _ hx427_1)).trans hx427_1
       replace hx427_2 := (HB.out.cell (World.block_lt_of_cell? w _ hx427_2)).trans hx427_2
       replace hx427_3 := (HB.out.cell (World.block_lt_of_cell? w _ hx427_3)).trans hx427_3
       replace hx427_4 := (HB.out.cell (World.block_lt_of_cell? w _ hx427_4)).trans hx427_4
       have HR427_0 := Aside0.mk hi427_0
       have HC427_0 := Aside0.mk hl427_0
       clear hi427_0 hl427_0
       have HR427_1 := Aside0.mk hi427_1
       have HC427_1 := Aside0.mk hl427_1
       clear hi427_1 hl427_1
       have HR427_4 := Aside0.mk hi427_4
       have HC427_4 := Aside0.mk hl427_4
       clear hi427_4 hl427_4
       replace p427 := eq_true p427
       replace q427 := eq_true q427
       try go_wp2_with (first | ((with_reducible refine gate_dst (N := 4) rfl ?_); (try (refine gate_guard (by rfl) ?_; dsimp only)); refine box_event ?hg (N := 4) ?hd (cs := #[.slice none 0 0, .slice none 0 0, .int .i64 0, .int .i64 0, .slice none 0 0]) (t := 30) ?hr ?_; (case hd => rfl); (case hg => rfl); (case hr => first | (go_simp; done) | (go_simp; rfl)); intro gb428 hg w20 hbox hb; have n0_ := Aside0.mk (blk_below (g := gb424) (o := .cells #[.slice (some ad427) l0_0.length c0_0] 24 (0, 0)) (by (with_reducible repeat (first | refine zq1 ?_ _ | refine zq2 ?_ | refine zq3 ?_ _)); exact BK424.out) hb); have n1_ := Aside0.mk (below_step (by repeat (first | (with_reducible first | exact HB.out | apply zq5 | apply zq4 | apply zq6 | refine below_set ?_ GE424.out) | exact HB.out)) hb); have n2_ := Aside0.mk (hbox); have n3_ := Aside0.mk ((by rw [hg]; exact (below_size (by repeat (first | (with_reducible first | exact HB.out | apply zq5 | apply zq4 | apply zq6 | refine below_set ?_ GE424.out) | exact HB.out))) : w.heap.size ≤ gb428)); have n4_ := Aside0.mk ((by rw [hg]; exact (below_size (by repeat (first | (with_reducible first | exact HB.out | apply zq5 | apply zq4 | apply zq6 | refine below_set ?_ GE424.out) | exact HB.out))) : w.heap.size ≤ gb428)); have n5_ := Aside0.mk ((by rw [hg]; exact Nat.ne_of_lt (blk_lt (g := gb424) (o := .cells #[.slice (some ad427) l0_0.length c0_0] 24 (0, 0)) (by (with_reducible repeat (first | refine zq1 ?_ _ | refine zq2 ?_ | refine zq3 ?_ _)); exact BK424.out)) : gb424 ≠ gb428)); have n6_ := Aside0.mk ((by rw [hg]; exact Nat.ne_of_gt (blk_lt (g := gb424) (o := .cells #[.slice (some ad427) l0_0.length c0_0] 24 (0, 0)) (by (with_reducible repeat (first | refine zq1 ?_ _ | refine zq2 ?_ | refine zq3 ?_ _)); exact BK424.out)) : gb428 ≠ gb424)); clear BK424; clear HB; have BK424 := n0_; have HB := n1_; have BK428 := n2_; have GW428 := n3_; have GE428 := n4_; have NB424_428 := n5_; have NB428_424 := n6_; clear n0_ n1_ n2_ n3_ n4_ n5_ n6_; clear hb hbox hg; have hnb21 := NB428_424.out; have hnc21 := NB424_428.out; have hcz22_0 : w20.cell? ⟨gb428, 0, none⟩ = some (.slice none 0 0) := (blk_cell BK428.out 0).trans rfl; have hcz22_1 : w20.cell? ⟨gb428, 1, none⟩ = some (.slice none 0 0) := (blk_cell BK428.out 1).trans rfl; have hcz22_2 : w20.cell? ⟨gb428, 2, none⟩ = some (.int .i64 0) := (blk_cell BK428.out 2).trans rfl; have hcz22_3 : w20.cell? ⟨gb428, 3, none⟩ = some (.int .i64 0) := (blk_cell BK428.out 3).trans rfl; have hcz22_4 : w20.cell? ⟨gb428, 4, none⟩ = some (.slice none 0 0) := (blk_cell BK428.out 4).trans rfl; have hfz22_0 := blk_frozen BK428.out 0; have hfz22_1 := blk_frozen BK428.out 1; have hfz22_2 := blk_frozen BK428.out 2; have hfz22_3 := blk_frozen BK428.out 3; have hfz22_4 := blk_frozen BK428.out 4))
       have n0_ : Aside0 ((((((w20.setCell ⟨gb428, 0, none⟩ (.slice A427_0 ((rd_T30 l0_0 x3_1).f0).length c427_0)).setCell ⟨gb428, 1, none⟩ (.slice A427_1 ((rd_T30 l0_0 x3_1).f1).length c427_1)).setCell ⟨gb428, 2, none⟩ (.int .i64 ((rd_T30 l0_0 x3_1).f2))).setCell ⟨gb428, 3, none⟩ (.int .i64 ((rd_T30 l0_0 x3_1).f3))).setCell ⟨gb428, 4, none⟩ (.slice A427_4 ((rd_T30 l0_0 x3_1).f4).length c427_4)).heap[gb424]? = some (.cells #[.slice (some ad427) l0_0.length c0_0] 24 (0, 0))) := ⟨by (with_reducible repeat (first | refine zq1 ?_ _ | refine zq2 ?_ | refine zq3 ?_ _)); refine blk_far ?_ NB424_428.out _; (with_reducible repeat (first | refine zq1 ?_ _ | refine zq2 ?_ | refine zq3 ?_ _)); refine blk_far ?_ NB424_428.out _; (with_reducible repeat (first | refine zq1 ?_ _ | refine zq2 ?_ | refine zq3 ?_ _)); refine blk_far ?_ NB424_428.out _; (with_reducible repeat (first | refine zq1 ?_ _ | refine zq2 ?_ | refine zq3 ?_ _)); refine blk_far ?_ NB424_428.out _; (with_reducible repeat (first | refine zq1 ?_ _ | refine zq2 ?_ | refine zq3 ?_ _)); refine blk_far ?_ NB424_428.out _; (with_reducible repeat (first | refine zq1 ?_ _ | refine zq2 ?_ | refine zq3 ?_ _)); exact BK424.out⟩
       have n1_ : Aside0 ((((((w20.setCell ⟨gb428, 0, none⟩ (.slice A427_0 ((rd_T30 l0_0 x3_1).f0).length c427_0)).setCell ⟨gb428, 1, none⟩ (.slice A427_1 ((rd_T30 l0_0 x3_1).f1).length c427_1)).setCell ⟨gb428, 2, none⟩ (.int .i64 ((rd_T30 l0_0 x3_1).f2))).setCell ⟨gb428, 3, none⟩ (.int .i64 ((rd_T30 l0_0 x3_1).f3))).setCell ⟨gb428, 4, none⟩ (.slice A427_4 ((rd_T30 l0_0 x3_1).f4).length c427_4)).heap[gb428]? = some (.cells #[.slice A427_0 ((rd_T30 l0_0 x3_1).f0).length c427_0, .slice A427_1 ((rd_T30 l0_0 x3_1).f1).length c427_1, .int .i64 ((rd_T30 l0_0 x3_1).f2), .int .i64 ((rd_T30 l0_0 x3_1).f3), .slice A427_4 ((rd_T30 l0_0 x3_1).f4).length c427_4] 30 (0, 0))) := ⟨by (with_reducible repeat (first | refine zq1 ?_ _ | refine zq2 ?_ | refine zq3 ?_ _)); refine blk_put (cs := #[.slice A427_0 ((rd_T30 l0_0 x3_1).f0).length c427_0, .slice A427_1 ((rd_T30 l0_0 x3_1).f1).length c427_1, .int .i64 ((rd_T30 l0_0 x3_1).f2), .int .i64 ((rd_T30 l0_0 x3_1).f3), .slice none 0 0]) ?_ 4 _ rfl; (with_reducible repeat (first | refine zq1 ?_ _ | refine zq2 ?_ | refine zq3 ?_ _)); refine blk_put (cs := #[.slice A427_0 ((rd_T30 l0_0 x3_1).f0).length c427_0, .slice A427_1 ((rd_T30 l0_0 x3_1).f1).length c427_1, .int .i64 ((rd_T30 l0_0 x3_1).f2), .int .i64 0, .slice none 0 0]) ?_ 3 _ rfl; (with_reducible repeat (first | refine zq1 ?_ _ | refine zq2 ?_ | refine zq3 ?_ _)); refine blk_put (cs := #[.slice A427_0 ((rd_T30 l0_0 x3_1).f0).length c427_0, .slice A427_1 ((rd_T30 l0_0 x3_1).f1).length c427_1, .int .i64 0, .int .i64 0, .slice none 0 0]) ?_ 2 _ rfl; (with_reducible repeat (first | refine zq1 ?_ _ | refine zq2 ?_ | refine zq3 ?_ _)); refine blk_put (cs := #[.slice A427_0 ((rd_T30 l0_0 x3_1).f0).length c427_0, .slice none 0 0, .int .i64 0, .int .i64 0, .slice none 0 0]) ?_ 1 _ rfl; (with_reducible repeat (first | refine zq1 ?_ _ | refine zq2 ?_ | refine zq3 ?_ _)); refine blk_put (cs := #[.slice none 0 0, .slice none 0 0, .int .i64 0, .int .i64 0, .slice none 0 0]) ?_ 0 _ rfl; (with_reducible repeat (first | refine zq1 ?_ _ | refine zq2 ?_ | refine zq3 ?_ _)); exact BK428.out⟩
       have n2_ : Aside0 (Below w.heap.size w (((((w20.setCell ⟨gb428, 0, none⟩ (.slice A427_0 ((rd_T30 l0_0 x3_1).f0).length c427_0)).setCell ⟨gb428, 1, none⟩ (.slice A427_1 ((rd_T30 l0_0 x3_1).f1).length c427_1)).setCell ⟨gb428, 2, none⟩ (.int .i64 ((rd_T30 l0_0 x3_1).f2))).setCell ⟨gb428, 3, none⟩ (.int .i64 ((rd_T30 l0_0 x3_1).f3))).setCell ⟨gb428, 4, none⟩ (.slice A427_4 ((rd_T30 l0_0 x3_1).f4).length c427_4))) := ⟨by repeat (first | (with_reducible first | exact HB.out | apply zq5 | apply zq4 | apply zq6 | refine below_set ?_ GE424.out | refine below_set ?_ GE428.out) | exact HB.out)⟩
       (try clear BK424)
       (try clear BK428)
       (try clear HB)
       generalize (((((w20.setCell ⟨gb428, 0, none⟩ (.slice A427_0 ((rd_T30 l0_0 x3_1).f0).length c427_0)).setCell ⟨gb428, 1, none⟩ (.slice A427_1 ((rd_T30 l0_0 x3_1).f1).length c427_1)).setCell ⟨gb428, 2, none⟩ (.int .i64 ((rd_T30 l0_0 x3_1).f2))).setCell ⟨gb428, 3, none⟩ (.int .i64 ((rd_T30 l0_0 x3_1).f3))).setCell ⟨gb428, 4, none⟩ (.slice A427_4 ((rd_T30 l0_0 x3_1).f4).length c427_4)) = w23 at n0_ n1_ n2_ ⊢
       have BK424 := n0_
       have BK428 := n1_
       have HB := n2_
       clear n0_ n1_ n2_
       have n0_ := Aside0.mk (blk_drew BK424.out)
       have n1_ := Aside0.mk (blk_drew BK428.out)
       have n2_ := Aside0.mk (below_drew1 HB.out)
       clear BK424
       clear BK428
       clear HB
       have BK424 := n0_
       have BK428 := n1_
       have HB := n2_
       clear n0_ n1_ n2_
       refine start_ (n := 6) (S := fun w' => w'.cell? ⟨gb428, 0, none⟩ = some (.slice A427_0 ((rd_T30 l0_0 x3_1).f0).length c427_0) ∧ w'.cell? ⟨gb428, 1, none⟩ = some (.slice A427_1 ((rd_T30 l0_0 x3_1).f1).length c427_1) ∧ w'.cell? ⟨gb428, 2, none⟩ = some (.int .i64 ((rd_T30 l0_0 x3_1).f2)) ∧ w'.cell? ⟨gb428, 3, none⟩ = some (.int .i64 ((rd_T30 l0_0 x3_1).f3)) ∧ w'.cell? ⟨gb428, 4, none⟩ = some (.slice A427_4 ((rd_T30 l0_0 x3_1).f4).length c427_4)) (ds := []) #[false, false, false, false, false, false] (by kernel_rfl) rfl rfl ⟨(blk_cell BK428.out 0).trans rfl, (blk_cell BK428.out 1).trans rfl, (blk_cell BK428.out 2).trans rfl, (blk_cell BK428.out 3).trans rfl, (blk_cell BK428.out 4).trans rfl⟩ (fun hHeld => ?_)
       generalize w23.drew = w24 at BK424 BK428 HB hHeld ⊢
       refine take_ (i := 0) (N := some 30) (v := ?_) (a' := ?_) #[true, false, false, false, false, false] rfl rfl (by kernel_rfl) (fun _ _ _ h => h) (Or.inl ⟨by rfl, ?_⟩) hHeld ?_ ?_
       rotate_left
       ·rintro w' ⟨s0, s1, s2, s3, s4⟩
        go_simp
        with_reducible rfl
       rotate_left
       ·simp only [Act.put, List.setIfInBounds_toArray, List.set_cons_zero, List.set_cons_succ, i64_w, i32_w]
        rfl
       refine take_ (i := 2) (N := some 32) (v := ?_) (a' := ?_) #[true, false, true, false, false, false] rfl rfl (by kernel_rfl) (fun _ _ _ h => h) (Or.inl ⟨by rfl, ?_⟩) hHeld ?_ ?_
       rotate_left
       ·rintro w' ⟨s0, s1, s2, s3, s4⟩
        go_simp
        with_reducible rfl
       rotate_left
       ·simp only [Act.put, List.setIfInBounds_toArray, List.set_cons_zero, List.set_cons_succ, i64_w, i32_w]
        rfl
       refine one_ (i := 1) (N := some 31) #[true, true, true, false, false, false] rfl rfl (by kernel_rfl) (by decide) (fun K hK => ?_)
       refine goes_ Try.func30 (by kernel_rfl) rfl #[.agg #[.slice A427_0 ((rd_T30 l0_0 x3_1).f0).length c427_0, .slice A427_1 ((rd_T30 l0_0 x3_1).f1).length c427_1, .int .i64 ((rd_T30 l0_0 x3_1).f2), .int .i64 ((rd_T30 l0_0 x3_1).f3), .slice A427_4 ((rd_T30 l0_0 x3_1).f4).length c427_4]] (by rfl) rfl rfl (by (try simp only [List.map_toArray, List.map_cons, List.map_nil]); first | done | rfl | (simp only [List.length_drop, List.length_take]; rfl)) ?_
       with_reducible refine (flow_Order.calls _ _ ((rd_T30 l0_0 x3_1).f0) _ _ ((rd_T30 l0_0 x3_1).f1) ((rd_T30 l0_0 x3_1).f2) ((rd_T30 l0_0 x3_1).f3) _ _ ((rd_T30 l0_0 x3_1).f4) t429 _ ?side1 ?side2 ?side3 ?side4 ?side5 ?side6 A16.out).mono ?_
       (case side1 => repeat (first | exact (Kd.C_below HR427_0.out HB.out) | (with_reducible refine Kd.C_alloc ?_ _) | (with_reducible refine Kd.C_drewN ?_ _) | (with_reducible refine Kd.C_drew ?_)))
       (case side2 => exact HC427_0.out)
       (case side3 => repeat (first | exact (Kd.C_below HR427_1.out HB.out) | (with_reducible refine Kd.C_alloc ?_ _) | (with_reducible refine Kd.C_drewN ?_ _) | (with_reducible refine Kd.C_drew ?_)))
       (case side4 => exact HC427_1.out)
       (case side5 => repeat (first | exact (Kd.C_below HR427_4.out HB.out) | (with_reducible refine Kd.C_alloc ?_ _) | (with_reducible refine Kd.C_drewN ?_ _) | (with_reducible refine Kd.C_drew ?_)))
       (case side6 => exact HC427_4.out)
       rintro e w25 ⟨v430, rfl, ho0, hb⟩
       refine ⟨_, rfl, ?_⟩
       have n0_ := Aside0.mk (Kd.R_lower ho0 (below_size (by repeat (first | (with_reducible first | exact HB.out | apply zq5 | apply zq4 | apply zq6 | refine below_set ?_ GE424.out | refine below_set ?_ GE428.out) | exact HB.out))))
       have n1_ := Aside0.mk (blk_below (g := gb424) (o := .cells #[.slice (some ad427) l0_0.length c0_0] 24 (0, 0)) (by (with_reducible repeat (first | refine zq1 ?_ _ | refine zq2 ?_ | refine zq3 ?_ _)); exact BK424.out) hb)
       have n2_ := Aside0.mk (blk_below (g := gb428) (o := .cells #[.slice A427_0 ((rd_T30 l0_0 x3_1).f0).length c427_0, .slice A427_1 ((rd_T30 l0_0 x3_1).f1).length c427_1, .int .i64 ((rd_T30 l0_0 x3_1).f2), .int .i64 ((rd_T30 l0_0 x3_1).f3), .slice A427_4 ((rd_T30 l0_0 x3_1).f4).length c427_4] 30 (0, 0)) (by (with_reducible repeat (first | refine zq1 ?_ _ | refine zq2 ?_ | refine zq3 ?_ _)); exact BK428.out) hb)
       have n3_ := Aside0.mk (below_step (by repeat (first | (with_reducible first | exact HB.out | apply zq5 | apply zq4 | apply zq6 | refine below_set ?_ GE424.out | refine below_set ?_ GE428.out) | exact HB.out)) hb)
       clear BK424
       clear BK428
       clear HB
       have HO431 := n0_
       have BK424 := n1_
       have BK428 := n2_
       have HB := n3_
       clear n0_ n1_ n2_ n3_
       (try clear hb)
       (try clear hb2)
       (try clear hk)
       (try clear hi)
       (try clear ho0)
       refine hK.out _ _ ⟨(blk_cell BK428.out 0).trans rfl, (blk_cell BK428.out 1).trans rfl, (blk_cell BK428.out 2).trans rfl, (blk_cell BK428.out 3).trans rfl, (blk_cell BK428.out 4).trans rfl⟩ (fun hHeld => ?_)
       clear hK K
       refine norm_ (a' := ?_) ?_ ?_
       rotate_left
       ·show Act.put _ (some 31) _ = _
        simp only [Act.put, List.setIfInBounds_toArray, List.set_cons_zero, List.set_cons_succ, i64_w, i32_w]
        rfl
       refine one_ (i := 3) (N := some 33) #[true, true, true, true, false, false] rfl rfl (by kernel_rfl) (by decide) (fun K hK => ?_)
       refine goes_ Try.func28 (by kernel_rfl) rfl #[.agg #[.slice A427_0 ((rd_T30 l0_0 x3_1).f0).length c427_0, .slice A427_1 ((rd_T30 l0_0 x3_1).f1).length c427_1, .int .i64 ((rd_T30 l0_0 x3_1).f2), .int .i64 ((rd_T30 l0_0 x3_1).f3), .slice A427_4 ((rd_T30 l0_0 x3_1).f4).length c427_4]] (by rfl) rfl rfl (by (try simp only [List.map_toArray, List.map_cons, List.map_nil]); first | done | rfl | (simp only [List.length_drop, List.length_take]; rfl)) ?_
       with_reducible refine (flow_Reach.calls _ _ ((rd_T30 l0_0 x3_1).f0) _ _ ((rd_T30 l0_0 x3_1).f1) ((rd_T30 l0_0 x3_1).f2) ((rd_T30 l0_0 x3_1).f3) _ _ ((rd_T30 l0_0 x3_1).f4) t432 _ ?side1 ?side2 ?side3 ?side4 ?side5 ?side6 A17.out).mono ?_
       (case side1 => repeat (first | exact (Kd.C_below HR427_0.out HB.out) | (with_reducible refine Kd.C_alloc ?_ _) | (with_reducible refine Kd.C_drewN ?_ _) | (with_reducible refine Kd.C_drew ?_)))
       (case side2 => exact HC427_0.out)
       (case side3 => repeat (first | exact (Kd.C_below HR427_1.out HB.out) | (with_reducible refine Kd.C_alloc ?_ _) | (with_reducible refine Kd.C_drewN ?_ _) | (with_reducible refine Kd.C_drew ?_)))
       (case side4 => exact HC427_1.out)
       (case side5 => repeat (first | exact (Kd.C_below HR427_4.out HB.out) | (with_reducible refine Kd.C_alloc ?_ _) | (with_reducible refine Kd.C_drewN ?_ _) | (with_reducible refine Kd.C_drew ?_)))
       (case side6 => exact HC427_4.out)
       rintro e w26 ⟨v433, rfl, ho0, hb⟩
       refine ⟨_, rfl, ?_⟩
       have n0_ := Aside0.mk (Kd.R_elder' (by (with_reducible repeat (first | apply Kd.R_alloc | apply Kd.R_drewN | apply Kd.R_drew)); exact HO431.out) (Kd.R_base ho0) hb)
       have n1_ := Aside0.mk (Kd.R_lower (Kd.R_new' ho0 (Kd.R_lt (by (with_reducible repeat (first | apply Kd.R_alloc | apply Kd.R_drewN | apply Kd.R_drew)); exact HO431.out))) (below_size (by repeat (first | (with_reducible first | exact HB.out | apply zq5 | apply zq4 | apply zq6 | refine below_set ?_ GE424.out | refine below_set ?_ GE428.out) | exact HB.out))))
       have n2_ := Aside0.mk (blk_below (g := gb424) (o := .cells #[.slice (some ad427) l0_0.length c0_0] 24 (0, 0)) (by (with_reducible repeat (first | refine zq1 ?_ _ | refine zq2 ?_ | refine zq3 ?_ _)); exact BK424.out) hb)
       have n3_ := Aside0.mk (blk_below (g := gb428) (o := .cells #[.slice A427_0 ((rd_T30 l0_0 x3_1).f0).length c427_0, .slice A427_1 ((rd_T30 l0_0 x3_1).f1).length c427_1, .int .i64 ((rd_T30 l0_0 x3_1).f2), .int .i64 ((rd_T30 l0_0 x3_1).f3), .slice A427_4 ((rd_T30 l0_0 x3_1).f4).length c427_4] 30 (0, 0)) (by (with_reducible repeat (first | refine zq1 ?_ _ | refine zq2 ?_ | refine zq3 ?_ _)); exact BK428.out) hb)
       have n4_ := Aside0.mk (below_step (by repeat (first | (with_reducible first | exact HB.out | apply zq5 | apply zq4 | apply zq6 | refine below_set ?_ GE424.out | refine below_set ?_ GE428.out) | exact HB.out)) hb)
       clear HO431
       clear BK424
       clear BK428
       clear HB
       have HO431 := n0_
       have HO434 := n1_
       have BK424 := n2_
       have BK428 := n3_
       have HB := n4_
       clear n0_ n1_ n2_ n3_ n4_
       (try clear hb)
       (try clear hb2)
       (try clear hk)
       (try clear hi)
       (try clear ho0)
       refine hK.out _ _ ⟨(blk_cell BK428.out 0).trans rfl, (blk_cell BK428.out 1).trans rfl, (blk_cell BK428.out 2).trans rfl, (blk_cell BK428.out 3).trans rfl, (blk_cell BK428.out 4).trans rfl⟩ (fun hHeld => ?_)
       clear hK K
       refine norm_ (a' := ?_) ?_ ?_
       rotate_left
       ·show Act.put _ (some 33) _ = _
        simp only [Act.put, List.setIfInBounds_toArray, List.set_cons_zero, List.set_cons_succ, i64_w, i32_w]
        rfl
       refine pure_ (i := 4) (N := some 5) (v := ?_) (a' := ?_) #[true, true, true, true, true, false] rfl rfl (by kernel_rfl) (fun _ _ _ h => h) (Or.inl ⟨by rfl, ?_⟩) ?_ ?_
       rotate_left
       ·intro w'
        go_simp
        with_reducible rfl
       rotate_left
       ·simp only [Act.put, List.setIfInBounds_toArray, List.set_cons_zero, List.set_cons_succ, i64_w, i32_w]
        rfl
       refine pure_ (i := 5) (N := some 6) (v := ?_) (a' := ?_) #[true, true, true, true, true, true] rfl rfl (by kernel_rfl) (fun _ _ _ h => h) (Or.inl ⟨by rfl, ?_⟩) ?_ ?_
       rotate_left
       ·intro w'
        go_simp
        with_reducible rfl
       rotate_left
       ·simp only [Act.put, List.setIfInBounds_toArray, List.set_cons_zero, List.set_cons_succ, i64_w, i32_w]
        rfl
       refine done_ (by kernel_rfl) ?_
       go_upto_region 10 with (fail)
       go_cut [49] (fun v49 wc => ∃ (kq : Nat) (x49_17 : Bool), v49 = .bool x49_17 ∧ Aside0 (portolanlaw05_FlowOrder.j1 kq x3_1 t429 x49_17 l0_0 ((rd_T30 l0_0 x3_1).f0) ((rd_T30 l0_0 x3_1).f1) ((rd_T30 l0_0 x3_1).f2) ((rd_T30 l0_0 x3_1).f3) ((rd_T30 l0_0 x3_1).f4) = some true) ∧ Aside0 (kq ≤ k1) ∧ Aside0 (Kd.R (Kd.int .i64) 3 wc w.heap.size (fun _ => True) v430 t429) ∧ Aside0 (wc.heap[gb424]? = some (.cells #[(.slice (some ad427) l0_0.length c0_0)] 24 (0, 0))) ∧ Aside0 (wc.heap[gb428]? = some (.cells #[(.slice A427_0 ((rd_T30 l0_0 x3_1).f0).length c427_0), (.slice A427_1 ((rd_T30 l0_0 x3_1).f1).length c427_1), .int .i64 ((rd_T30 l0_0 x3_1).f2), .int .i64 ((rd_T30 l0_0 x3_1).f3), (.slice A427_4 ((rd_T30 l0_0 x3_1).f4).length c427_4)] 30 (0, 0))) ∧ Aside0 (Below w.heap.size w wc))
       case first =>
        have H := HC18.out
        clear HC18
        by_cases c27 : (t429.length : Int) = (t432.length : Int)
        ·rw [if_pos c27] at H
         have c27b0 : ((t429.length : Int) == (t432.length : Int)) = true := beq_iff_eq.mpr c27
         have c27b1 : ((t429.length : Int) != (t432.length : Int)) = false := bne_eq_false_iff_eq.mpr c27
         have c27b2 : (t429.length == t432.length) = true := by first | simpa using c27 | (simp at c27 ⊢; omega)
         clear c27
         (first | rw [c27b0] | (simp only [i64_w, i32_w]; rw [c27b0]) | skip)
         by_cases c28 : (t429.length : Int) = 0
         ·rw [if_pos c28] at H
          have c28b0 : ((t429.length : Int) == 0) = true := beq_iff_eq.mpr c28
          have c28b1 : ((t429.length : Int) != 0) = false := bne_eq_false_iff_eq.mpr c28
          clear c28
          have H' := Aside0.mk H
          clear H
          obtain ⟨Ao29, co29, eo29⟩ := Kd.R_slice HO431.out
          subst eo29
          obtain ⟨Ao30, co30, eo30⟩ := Kd.R_slice HO434.out
          subst eo30
          go_wp2
          go_meet
          case rel => exact ⟨_, (true), (by first | rfl | (simp; done) | (simp [*]; done)), H', ⟨by have := HK1.out; first | omega | exact Nat.le_refl _⟩, ⟨by (with_reducible repeat (first | apply Kd.R_alloc | apply Kd.R_drewN | apply Kd.R_drew)); exact Kd.R_mono HO431.out (fun _ hk => trivial)⟩, ⟨by (with_reducible repeat (first | refine zq1 ?_ _ | refine zq2 ?_ | refine zq3 ?_ _)); exact BK424.out⟩, ⟨by (with_reducible repeat (first | refine zq1 ?_ _ | refine zq2 ?_ | refine zq3 ?_ _)); exact BK428.out⟩, ⟨by repeat (first | (with_reducible first | exact HB.out | apply zq5 | apply zq4 | apply zq6 | refine below_set ?_ GE424.out | refine below_set ?_ GE428.out) | exact HB.out)⟩⟩
         ·rw [if_neg c28] at H
          have c28b0 : ((t429.length : Int) == 0) = false := beq_eq_false_iff_ne.mpr c28
          have c28b1 : ((t429.length : Int) != 0) = true := bne_iff_ne.mpr c28
          have c28b2 : ¬ (t429 = []) := fun h_ => c28 (by rw [h_]; rfl)
          by_cases c31 : 0 < (t429.length : Int)
          ·rw [if_pos c31] at H
           have c31b0 : decide (0 < (t429.length : Int)) = true := decide_eq_true c31
           have c31b1 : decide (0 < t429.length) = true := decide_eq_true (by omega)
           clear c31
           have H' := Aside0.mk H
           clear H
           obtain ⟨Ao32, co32, eo32⟩ := Kd.R_slice HO431.out
           subst eo32
           obtain ⟨Ao33, co33, eo33⟩ := Kd.R_slice HO434.out
           subst eo33
           have p435 : 0 ≤ (0 : Int) := (by omega)
           have q435 : 0 < (t429.length : Int) := of_decide_eq_true (by first | (with_reducible assumption) | assumption)
           obtain ⟨ad435, e435, hx435_0⟩ := Kd.at_int (Kd.R_reads' HO431.out).2.2 0 p435 q435
           cases e435
           have qi435 : (0 < t429.length) = True := eq_true (by omega)
           (try rw [show ((0 : Int)).toNat = 0 from rfl] at hx435_0)
           (try rw [Addr.add_zero'] at hx435_0)
           replace p435 := eq_true p435
           replace q435 := eq_true q435
           go_wp2
           go_meet
           case rel => exact ⟨_, (((rd t429 0) != 0)), (by first | rfl | (simp; done) | (simp [*]; done)), H', ⟨by have := HK1.out; first | omega | exact Nat.le_refl _⟩, ⟨by (with_reducible repeat (first | apply Kd.R_alloc | apply Kd.R_drewN | apply Kd.R_drew)); exact Kd.R_mono HO431.out (fun _ hk => trivial)⟩, ⟨by (with_reducible repeat (first | refine zq1 ?_ _ | refine zq2 ?_ | refine zq3 ?_ _)); exact BK424.out⟩, ⟨by (with_reducible repeat (first | refine zq1 ?_ _ | refine zq2 ?_ | refine zq3 ?_ _)); exact BK428.out⟩, ⟨by repeat (first | (with_reducible first | exact HB.out | apply zq5 | apply zq4 | apply zq6 | refine below_set ?_ GE424.out | refine below_set ?_ GE428.out) | exact HB.out)⟩⟩
          ·rw [if_neg c31] at H
           exact absurd H (by simp)
        ·rw [if_neg c27] at H
         have c27b0 : ((t429.length : Int) == (t432.length : Int)) = false := beq_eq_false_iff_ne.mpr c27
         have c27b1 : ((t429.length : Int) != (t432.length : Int)) = true := bne_iff_ne.mpr c27
         have c27b2 : (t429.length == t432.length) = false := by first | simpa using c27 | (simp at c27 ⊢; omega)
         (first | rw [c27b0] | (simp only [i64_w, i32_w]; rw [c27b0]) | skip)
         have H' := Aside0.mk H
         clear H
         obtain ⟨Ao34, co34, eo34⟩ := Kd.R_slice HO431.out
         subst eo34
         obtain ⟨Ao35, co35, eo35⟩ := Kd.R_slice HO434.out
         subst eo35
         go_wp2
         go_meet
         case rel => exact ⟨_, (true), (by first | rfl | (simp; done) | (simp [*]; done)), H', ⟨by have := HK1.out; first | omega | exact Nat.le_refl _⟩, ⟨by (with_reducible repeat (first | apply Kd.R_alloc | apply Kd.R_drewN | apply Kd.R_drew)); exact Kd.R_mono HO431.out (fun _ hk => trivial)⟩, ⟨by (with_reducible repeat (first | refine zq1 ?_ _ | refine zq2 ?_ | refine zq3 ?_ _)); exact BK424.out⟩, ⟨by (with_reducible repeat (first | refine zq1 ?_ _ | refine zq2 ?_ | refine zq3 ?_ _)); exact BK428.out⟩, ⟨by repeat (first | (with_reducible first | exact HB.out | apply zq5 | apply zq4 | apply zq6 | refine below_set ?_ GE424.out | refine below_set ?_ GE428.out) | exact HB.out)⟩⟩
       case rest =>
        clear HC18
        try clear c1
        try clear c2
        try clear p2
        try clear c3
        try clear c4
        try clear p4
        try clear q4
        try clear hx4
        try clear qi4
        try clear c5
        try clear c6
        try clear c14
        try clear c14b0
        try clear c15
        try clear c15b0
        try clear c16
        try clear c17
        try clear c21
        try clear c27
        try clear c27b0
        try clear c27b1
        try clear c27b2
        try clear c28
        try clear c28b0
        try clear c28b1
        try clear c28b2
        try clear c30
        try clear c31
        try clear c31b0
        try clear c31b1
        try clear hcz12_0
        try clear hcz19_0
        try clear hcz22_0
        try clear hcz22_1
        try clear hcz22_2
        try clear hcz22_3
        try clear hcz22_4
        try clear hcz8_0
        try clear hfz12_0
        try clear hfz19_0
        try clear hfz22_0
        try clear hfz22_1
        try clear hfz22_2
        try clear hfz22_3
        try clear hfz22_4
        try clear hfz8_0
        try clear hx427_0
        try clear hx427_1
        try clear hx427_2
        try clear hx427_3
        try clear hx427_4
        try clear hx435_0
        try clear p2
        try clear p427
        try clear p435
        try clear q427
        try clear q435
        obtain ⟨kq, x49_17, rfl, HA, HJ17, HO_5, BK424, BK428, HB⟩ := hcut
        cases kq with
        | zero => exact absurd HA.out (by simp [portolanlaw05_FlowOrder.j1])
        | succ kj17 =>
         have H := HA.out
         clear HA
         simp only [portolanlaw05_FlowOrder.j1] at H
         by_cases c36 : x49_17 = true
         ·subst c36
          have H1 : (some false) = some true := by first | (rw [if_pos rfl] at H; exact H) | rfl
          clear H
          have H := H1
          clear H1
          exact absurd (Option.some.inj H) (by decide)
         ·replace c36 := Bool.eq_false_iff.mpr c36
          subst c36
          have H1 : (if 0 ≤ (((rd_T30 l0_0 x3_1).f4).length : Int) then (if ((((rd_T30 l0_0 x3_1).f4).length : Int) : Int).toNat ≤ 35184372088832 then (portolanlaw05_FlowOrder.l1 kj17 x3_1 t429 (List.replicate ((((rd_T30 l0_0 x3_1).f4).length : Int) : Int).toNat 0) 0 l0_0 ((rd_T30 l0_0 x3_1).f0) ((rd_T30 l0_0 x3_1).f1) ((rd_T30 l0_0 x3_1).f2) ((rd_T30 l0_0 x3_1).f3) ((rd_T30 l0_0 x3_1).f4)) else (none)) else (none)) = some true := by first | (rw [if_neg (show ¬ (false = true) by decide)] at H; exact H) | rfl
          clear H
          have H := H1
          clear H1
          by_cases c37 : 0 ≤ (((rd_T30 l0_0 x3_1).f4).length : Int)
          ·rw [if_pos c37] at H
           have c37b0 := eq_true c37
           have c37b1 : decide (0 ≤ (((rd_T30 l0_0 x3_1).f4).length : Int)) = true := decide_eq_true c37
           clear c37
           by_cases c38 : ((((rd_T30 l0_0 x3_1).f4).length : Int) : Int).toNat ≤ 35184372088832
           ·rw [if_pos c38] at H
            have c38b0 := eq_true c38
            have c38b1 : decide (((((rd_T30 l0_0 x3_1).f4).length : Int) : Int).toNat ≤ 35184372088832) = true := decide_eq_true c38
            clear c38
            obtain ⟨y436, hy436⟩ : ∃ y_ : List Int, y_ = (List.replicate ((((rd_T30 l0_0 x3_1).f4).length : Int) : Int).toNat 0) := ⟨_, rfl⟩
            replace H : (portolanlaw05_FlowOrder.l1 kj17 x3_1 t429 y436 0 l0_0 ((rd_T30 l0_0 x3_1).f0) ((rd_T30 l0_0 x3_1).f1) ((rd_T30 l0_0 x3_1).f2) ((rd_T30 l0_0 x3_1).f3) ((rd_T30 l0_0 x3_1).f4)) = some true := by first | (rw [hy436]; with_reducible exact H) | (have H2_ := (Option.bind_some _ _).symm.trans H; rw [hy436]; with_reducible exact H2_) | (have H2_ := (Option.bind_some _ _).symm.trans H; with_reducible exact H2_) | with_reducible exact H | (rw [hy436]; exact H) | exact H
            have Ny436 := Aside0.mk hy436
            clear hy436
            have H' := Aside0.mk H
            clear H
            have hnb39 := NB428_424.out
            have hnc39 := NB424_428.out
            have hcz40_0 : wc.cell? ⟨gb428, 0, none⟩ = some (.slice A427_0 ((rd_T30 l0_0 x3_1).f0).length c427_0) := (blk_cell BK428.out 0).trans rfl
            have hcz40_1 : wc.cell? ⟨gb428, 1, none⟩ = some (.slice A427_1 ((rd_T30 l0_0 x3_1).f1).length c427_1) := (blk_cell BK428.out 1).trans rfl
            have hcz40_2 : wc.cell? ⟨gb428, 2, none⟩ = some (.int .i64 ((rd_T30 l0_0 x3_1).f2)) := (blk_cell BK428.out 2).trans rfl
            have hcz40_3 : wc.cell? ⟨gb428, 3, none⟩ = some (.int .i64 ((rd_T30 l0_0 x3_1).f3)) := (blk_cell BK428.out 3).trans rfl
            have hcz40_4 : wc.cell? ⟨gb428, 4, none⟩ = some (.slice A427_4 ((rd_T30 l0_0 x3_1).f4).length c427_4) := (blk_cell BK428.out 4).trans rfl
            have hfz40_0 := blk_frozen BK428.out 0
            have hfz40_1 := blk_frozen BK428.out 1
            have hfz40_2 := blk_frozen BK428.out 2
            have hfz40_3 := blk_frozen BK428.out 3
            have hfz40_4 := blk_frozen BK428.out 4
            go_wp2_with (first | ((with_reducible refine gate_dst (N := 53) rfl ?_); (try (refine gate_guard (by rfl) ?_; dsimp only)); refine Kd.R_make (Kd.int .i64) _ 3 rfl (N := 53) rfl 27 _ _ rfl (((rd_T30 l0_0 x3_1).f4).length : Int) rfl rfl Try.underlying27 (.int .i64 0) 8 info3 rfl (by decide) (by omega) 0 (ok := fun _ => True) (okp := fun _ => True) rfl (fun _ hk => hk) trivial (of_decide_eq_true (by first | (with_reducible assumption) | assumption)) (Nat.le_trans (Nat.mul_le_mul_right _ (of_decide_eq_true (by first | (with_reducible assumption) | assumption) : (((rd_T30 l0_0 x3_1).f4).length : Int).toNat ≤ 35184372088832)) (by omega)) (Below.refl _ _) (Nat.le_refl _) ?_; intro v437 w41 ho42 hb hg_ hnew_; clear hg_ hnew_; (first | rw [← Ny436.out] at ho42 | (simp only [Int.reduceToNat] at ho42; rw [← Ny436.out] at ho42)); have n0_ := Aside0.mk (Kd.R_elder' (by (with_reducible repeat (first | apply Kd.R_alloc | apply Kd.R_drewN | apply Kd.R_drew)); exact HO_5.out) (Kd.R_base ho42) hb); have n1_ := Aside0.mk (Kd.R_lower (Kd.R_new' ho42 (Kd.R_lt (by (with_reducible repeat (first | apply Kd.R_alloc | apply Kd.R_drewN | apply Kd.R_drew)); exact HO_5.out))) (below_size (by repeat (first | (with_reducible first | exact HB.out | apply zq5 | apply zq4 | apply zq6 | refine below_set ?_ GE424.out | refine below_set ?_ GE428.out) | exact HB.out)))); have n2_ := Aside0.mk (blk_below (g := gb424) (o := .cells #[.slice (some ad427) l0_0.length c0_0] 24 (0, 0)) (by (with_reducible repeat (first | refine zq1 ?_ _ | refine zq2 ?_ | refine zq3 ?_ _)); exact BK424.out) hb); have n3_ := Aside0.mk (blk_below (g := gb428) (o := .cells #[.slice A427_0 ((rd_T30 l0_0 x3_1).f0).length c427_0, .slice A427_1 ((rd_T30 l0_0 x3_1).f1).length c427_1, .int .i64 ((rd_T30 l0_0 x3_1).f2), .int .i64 ((rd_T30 l0_0 x3_1).f3), .slice A427_4 ((rd_T30 l0_0 x3_1).f4).length c427_4] 30 (0, 0)) (by (with_reducible repeat (first | refine zq1 ?_ _ | refine zq2 ?_ | refine zq3 ?_ _)); exact BK428.out) hb); have n4_ := Aside0.mk (below_step (by repeat (first | (with_reducible first | exact HB.out | apply zq5 | apply zq4 | apply zq6 | refine below_set ?_ GE424.out | refine below_set ?_ GE428.out) | exact HB.out)) hb); clear HO_5; clear BK424; clear BK428; clear HB; have HO_5 := n0_; have HO438 := n1_; have BK424 := n2_; have BK428 := n3_; have HB := n4_; clear n0_ n1_ n2_ n3_ n4_; clear hb ho42))
            go_loopg [8] kj17 (fun kq v8 w' => ∃ (x7_3 : List Int) (x8_3 : Int), v8 = .int .i64 x8_3 ∧ Aside0 (portolanlaw05_FlowOrder.l1 kq x3_1 t429 x7_3 x8_3 l0_0 ((rd_T30 l0_0 x3_1).f0) ((rd_T30 l0_0 x3_1).f1) ((rd_T30 l0_0 x3_1).f2) ((rd_T30 l0_0 x3_1).f3) ((rd_T30 l0_0 x3_1).f4) = some true) ∧ Aside0 (kq ≤ kj17) ∧ Aside0 (Kd.R (Kd.int .i64) 3 w' w.heap.size (fun k_ => some k_ ≠ (v437 : Value).ownBlock) v430 t429) ∧ Aside0 (Kd.R (Kd.int .i64) 3 w' w.heap.size (fun k_ => some k_ ≠ (v430 : Value).ownBlock) v437 x7_3) ∧ Aside0 (w'.heap[gb424]? = some (.cells #[(.slice (some ad427) l0_0.length c0_0)] 24 (0, 0))) ∧ Aside0 (w'.heap[gb428]? = some (.cells #[(.slice A427_0 ((rd_T30 l0_0 x3_1).f0).length c427_0), (.slice A427_1 ((rd_T30 l0_0 x3_1).f1).length c427_1), .int .i64 ((rd_T30 l0_0 x3_1).f2), .int .i64 ((rd_T30 l0_0 x3_1).f3), (.slice A427_4 ((rd_T30 l0_0 x3_1).f4).length c427_4)] 30 (0, 0))) ∧ Aside0 (Below w.heap.size w w'))
            case atStart => exact ⟨(y436), (0), (by first | rfl | (simp; done) | (simp [*]; done)), H', ⟨Nat.le_refl _⟩, ⟨by (with_reducible repeat (first | apply Kd.R_alloc | apply Kd.R_drewN | apply Kd.R_drew)); exact Kd.R_mono HO_5.out (fun _ hk => hk.2)⟩, ⟨by (with_reducible repeat (first | apply Kd.R_alloc | apply Kd.R_drewN | apply Kd.R_drew)); exact Kd.R_mono HO438.out (fun _ hk => hk.2)⟩, ⟨by (with_reducible repeat (first | refine zq1 ?_ _ | refine zq2 ?_ | refine zq3 ?_ _)); exact BK424.out⟩, ⟨by (with_reducible repeat (first | refine zq1 ?_ _ | refine zq2 ?_ | refine zq3 ?_ _)); exact BK428.out⟩, ⟨by repeat (first | (with_reducible first | exact HB.out | apply zq5 | apply zq4 | apply zq6 | refine below_set ?_ GE424.out | refine below_set ?_ GE428.out) | exact HB.out)⟩⟩
            case round =>
             clear H'
             try clear c1
             try clear c2
             try clear p2
             try clear c3
             try clear c4
             try clear p4
             try clear q4
             try clear hx4
             try clear qi4
             try clear c5
             try clear c6
             try clear c14
             try clear c14b0
             try clear c15
             try clear c15b0
             try clear c16
             try clear c17
             try clear c21
             try clear c27
             try clear c27b0
             try clear c27b1
             try clear c27b2
             try clear c28
             try clear c28b0
             try clear c28b1
             try clear c28b2
             try clear c30
             try clear c31
             try clear c31b0
             try clear c31b1
             try clear c36
             try clear c37
             try clear c37b0
             try clear c37b1
             try clear c38
             try clear c38b0
             try clear c38b1
             try clear c39
             try clear c42
             try clear p42
             try clear q42
             try clear hx42
             try clear hcz12_0
             try clear hcz19_0
             try clear hcz22_0
             try clear hcz22_1
             try clear hcz22_2
             try clear hcz22_3
             try clear hcz22_4
             try clear hcz40_0
             try clear hcz40_1
             try clear hcz40_2
             try clear hcz40_3
             try clear hcz40_4
             try clear hcz8_0
             try clear hfz12_0
             try clear hfz19_0
             try clear hfz22_0
             try clear hfz22_1
             try clear hfz22_2
             try clear hfz22_3
             try clear hfz22_4
             try clear hfz40_0
             try clear hfz40_1
             try clear hfz40_2
             try clear hfz40_3
             try clear hfz40_4
             try clear hfz8_0
             try clear hx427_0
             try clear hx427_1
             try clear hx427_2
             try clear hx427_3
             try clear hx427_4
             try clear hx435_0
             try clear p2
             try clear p4
             try clear p427
             try clear p435
             try clear q4
             try clear q427
             try clear q435
             obtain ⟨x7_3, x8_3, rfl, HA, HK3, HO_5, HO_7, BK424, BK428, HB⟩ := hrel
             cases gk with
             | zero => exact absurd HA.out (by simp [portolanlaw05_FlowOrder.l1])
             | succ k3 =>
              have H := HA.out
              clear HA
              simp only [portolanlaw05_FlowOrder.l1] at H
              by_cases c43 : x8_3 < (t429.length : Int)
              ·rw [if_pos c43] at H
               have c43b0 : decide (x8_3 < (t429.length : Int)) = true := decide_eq_true c43
               clear c43
               by_cases c44 : 0 ≤ x8_3
               ·rw [if_pos c44] at H
                have c44b0 : decide (0 ≤ x8_3) = true := decide_eq_true c44
                clear c44
                by_cases c45 : (rd t429 x8_3) < 0
                ·rw [if_pos c45] at H
                 have c45b0 : decide ((rd t429 x8_3) < 0) = true := decide_eq_true c45
                 clear c45
                 exact absurd (Option.some.inj H) (by decide)
                ·rw [if_neg c45] at H
                 have c45b0 : decide ((rd t429 x8_3) < 0) = false := decide_eq_false c45
                 clear c45
                 by_cases c46 : (rd t429 x8_3) ≥ (x7_3.length : Int)
                 ·rw [if_pos c46] at H
                  have c46b0 : decide ((x7_3.length : Int) ≤ (rd t429 x8_3)) = true := decide_eq_true c46
                  clear c46
                  exact absurd (Option.some.inj H) (by decide)
                 ·rw [if_neg c46] at H
                  have c46b0 : decide ((x7_3.length : Int) ≤ (rd t429 x8_3)) = false := decide_eq_false c46
                  clear c46
                  by_cases c47 : 0 ≤ (rd t429 x8_3)
                  ·rw [if_pos c47] at H
                   have c47b0 : decide (0 ≤ (rd t429 x8_3)) = true := decide_eq_true c47
                   clear c47
                   by_cases c48 : (rd t429 x8_3) < (x7_3.length : Int)
                   ·rw [if_pos c48] at H
                    have c48b0 : decide ((rd t429 x8_3) < (x7_3.length : Int)) = true := decide_eq_true c48
                    clear c48
                    by_cases c49 : (rd x7_3 (rd t429 x8_3)) = 0
                    ·rw [if_pos c49] at H
                     have c49b0 : ((rd x7_3 (rd t429 x8_3)) == 0) = true := beq_iff_eq.mpr c49
                     have c49b1 : ((rd x7_3 (rd t429 x8_3)) != 0) = false := bne_eq_false_iff_eq.mpr c49
                     clear c49
                     obtain ⟨y444, hy444⟩ : ∃ y_ : List Int, y_ = (x7_3.set ((rd t429 x8_3) : Int).toNat (wrap64 (x8_3 + 1))) := ⟨_, rfl⟩
                     replace H : (portolanlaw05_FlowOrder.l1 k3 x3_1 t429 y444 (wrap64 (x8_3 + 1)) l0_0 ((rd_T30 l0_0 x3_1).f0) ((rd_T30 l0_0 x3_1).f1) ((rd_T30 l0_0 x3_1).f2) ((rd_T30 l0_0 x3_1).f3) ((rd_T30 l0_0 x3_1).f4)) = some true := by first | (rw [hy444]; with_reducible exact H) | (have H2_ := (Option.bind_some _ _).symm.trans H; rw [hy444]; with_reducible exact H2_) | (have H2_ := (Option.bind_some _ _).symm.trans H; with_reducible exact H2_) | with_reducible exact H | (rw [hy444]; exact H) | exact H
                     have Ny444 := Aside0.mk hy444
                     clear hy444
                     have H' := Aside0.mk H
                     clear H
                     obtain ⟨Ao51, co51, eo51⟩ := Kd.R_slice HO_5.out
                     subst eo51
                     have p439 : 0 ≤ (x8_3 : Int) := of_decide_eq_true (by first | (with_reducible assumption) | assumption)
                     have q439 : x8_3 < (t429.length : Int) := of_decide_eq_true (by first | (with_reducible assumption) | assumption)
                     obtain ⟨ad439, e439, hx439_0⟩ := Kd.at_int (Kd.R_reads' HO_5.out).2.2 x8_3 p439 q439
                     cases e439
                     replace p439 := eq_true p439
                     replace q439 := eq_true q439
                     have p440 : 0 ≤ (x8_3 : Int) := of_decide_eq_true (by first | (with_reducible assumption) | assumption)
                     have q440 : x8_3 < (t429.length : Int) := of_decide_eq_true (by first | (with_reducible assumption) | assumption)
                     obtain ⟨ad440, e440, hx440_0⟩ := Kd.at_int (Kd.R_reads' HO_5.out).2.2 x8_3 p440 q440
                     obtain rfl : ad439 = ad440 := (by injection e440)
                     replace p440 := eq_true p440
                     replace q440 := eq_true q440
                     obtain ⟨Ao52, co52, eo52⟩ := Kd.R_slice HO_7.out
                     subst eo52
                     have p441 : 0 ≤ (x8_3 : Int) := of_decide_eq_true (by first | (with_reducible assumption) | assumption)
                     have q441 : x8_3 < (t429.length : Int) := of_decide_eq_true (by first | (with_reducible assumption) | assumption)
                     obtain ⟨ad441, e441, hx441_0⟩ := Kd.at_int (Kd.R_reads' HO_5.out).2.2 x8_3 p441 q441
                     obtain rfl : ad439 = ad441 := (by injection e441)
                     replace p441 := eq_true p441
                     replace q441 := eq_true q441
                     have p442 : 0 ≤ ((rd t429 x8_3) : Int) := of_decide_eq_true (by first | (with_reducible assumption) | assumption)
                     have q442 : (rd t429 x8_3) < (x7_3.length : Int) := of_decide_eq_true (by first | (with_reducible assumption) | assumption)
                     obtain ⟨ad442, e442, hx442_0⟩ := Kd.at_int (Kd.R_reads' HO_7.out).2.2 (rd t429 x8_3) p442 q442
                     cases e442
                     replace p442 := eq_true p442
                     replace q442 := eq_true q442
                     have p443 : 0 ≤ (x8_3 : Int) := of_decide_eq_true (by first | (with_reducible assumption) | assumption)
                     have q443 : x8_3 < (t429.length : Int) := of_decide_eq_true (by first | (with_reducible assumption) | assumption)
                     obtain ⟨ad443, e443, hx443_0⟩ := Kd.at_int (Kd.R_reads' HO_5.out).2.2 x8_3 p443 q443
                     obtain rfl : ad439 = ad443 := (by injection e443)
                     replace p443 := eq_true p443
                     replace q443 := eq_true q443
                     have p50 : 0 ≤ ((rd t429 x8_3) : Int) := of_decide_eq_true (by first | (with_reducible assumption) | assumption)
                     have q50 : ((rd t429 x8_3) : Int) < ((x7_3.length : Int) : Int) := of_decide_eq_true (by first | (with_reducible assumption) | assumption)
                     obtain ⟨go50, co50, eo50, gb50, gl50, cl50, HG50⟩ := Kd.R_form HO_7.out (by omega)
                     (first | cases eo50 | (injection eo50 with ea_ en_ ec_; (first | subst ea_ | (injection ea_ with ea_; subst ea_)); subst ec_; clear en_))
                     have GB50 := Aside0.mk gb50
                     have GG50 := Aside0.mk HG50
                     clear gb50 gl50 HG50
                     (first | simp only [add_plain] at hx442_0 | skip)
                     obtain ⟨hx50_0, hf50_0⟩ := Kd.R_celln 0 HO_7.out ((rd t429 x8_3) : Int) p50 q50
                     replace p50 := eq_true p50
                     replace q50 := eq_true q50
                     have HP53 := Kd.R_putg HO_7.out ((rd t429 x8_3) : Int) (wrap64 (x8_3 + 1))
                     go_wp2_with (first | ((with_reducible refine gate_store (t := 3) (p := 91) rfl ?_); refine store_event (t := 3) (p := 91) (v := ?vo_w54) (w1 := (wr.setCell ⟨go50, ((rd t429 x8_3) : Int).toNat, none⟩ (.int .i64 (wrap64 (x8_3 + 1))))) ?hg ?ho ?hn ?hr ?_; (case ho => rfl); (case hg => rfl); (case hn => rfl); (case hr => first | (go_simp; done) | (go_simp; rfl)); intro w54 hw; have hg : wr.grownBy w54 (some go50) := (by rw [hw]; exact HP53.2); have hp_ : Kd.R (Kd.int .i64) 3 w54 w.heap.size (fun k_ => some k_ ≠ (.slice (some ad439) t429.length co51 : Value).ownBlock) (.slice (some ⟨go50, 0, none⟩) x7_3.length co52) y444 := (by rw [hw, Ny444.out]; exact HP53.1); clear HP53; have n0_ := Aside0.mk (Kd.R_after (v := (.slice (some ⟨go50, 0, none⟩) x7_3.length co52)) (v1 := (.slice (some ⟨go50, 0, none⟩) x7_3.length co52)) (ok := (fun _ => True)) (by (with_reducible repeat (first | apply Kd.R_alloc | apply Kd.R_drewN | apply Kd.R_drew)); exact Kd.R_mono HO_5.out (fun _ hk => ⟨trivial, hk⟩)) hg (.inl rfl)); have n1_ := Aside0.mk (hp_); have n2_ := Aside0.mk (blk_grown (g := gb424) (o := .cells #[.slice (some ad427) l0_0.length c0_0] 24 (0, 0)) (by (with_reducible repeat (first | refine zq1 ?_ _ | refine zq2 ?_ | refine zq3 ?_ _)); exact BK424.out) hg (Kd.R_ne HO_7.out BK424.out (by decide))); have n3_ := Aside0.mk (blk_grown (g := gb428) (o := .cells #[.slice A427_0 ((rd_T30 l0_0 x3_1).f0).length c427_0, .slice A427_1 ((rd_T30 l0_0 x3_1).f1).length c427_1, .int .i64 ((rd_T30 l0_0 x3_1).f2), .int .i64 ((rd_T30 l0_0 x3_1).f3), .slice A427_4 ((rd_T30 l0_0 x3_1).f4).length c427_4] 30 (0, 0)) (by (with_reducible repeat (first | refine zq1 ?_ _ | refine zq2 ?_ | refine zq3 ?_ _)); exact BK428.out) hg (Kd.R_ne HO_7.out BK428.out (by decide))); have n4_ := Aside0.mk ((by rw [hw]; exact below_set (HB.out) GB50.out : Below w.heap.size w w54)); clear HO_5; clear HO_7; clear BK424; clear BK428; clear HB; have HO_5 := n0_; have HO_7 := n1_; have BK424 := n2_; have BK428 := n3_; have HB := n4_; clear n0_ n1_ n2_ n3_ n4_; clear hg hw hp_))
                     go_roundg k3
                     case measure => have := HK1.out; have := HJ17.out; have := HK3.out; omega
                     case rel => exact ⟨(y444), (wrap64 (x8_3 + 1)), (by first | rfl | (simp; done) | (simp [*]; done)), H', ⟨by have := HK1.out; have := HJ17.out; have := HK3.out; omega⟩, ⟨by (with_reducible repeat (first | apply Kd.R_alloc | apply Kd.R_drewN | apply Kd.R_drew)); exact Kd.R_mono HO_5.out (fun _ hk => hk.2)⟩, ⟨by (with_reducible repeat (first | apply Kd.R_alloc | apply Kd.R_drewN | apply Kd.R_drew)); exact HO_7.out⟩, ⟨by (with_reducible repeat (first | refine zq1 ?_ _ | refine zq2 ?_ | refine zq3 ?_ _)); exact BK424.out⟩, ⟨by (with_reducible repeat (first | refine zq1 ?_ _ | refine zq2 ?_ | refine zq3 ?_ _)); exact BK428.out⟩, ⟨by repeat (first | (with_reducible first | exact HB.out | apply zq5 | apply zq4 | apply zq6 | refine below_set ?_ GE424.out | refine below_set ?_ GE428.out) | exact HB.out)⟩⟩
                    ·rw [if_neg c49] at H
                     have c49b0 : ((rd x7_3 (rd t429 x8_3)) == 0) = false := beq_eq_false_iff_ne.mpr c49
                     have c49b1 : ((rd x7_3 (rd t429 x8_3)) != 0) = true := bne_iff_ne.mpr c49
                     exact absurd (Option.some.inj H) (by decide)
                   ·rw [if_neg c48] at H
                    exact absurd H (by simp)
                  ·rw [if_neg c47] at H
                   exact absurd H (by simp)
               ·rw [if_neg c44] at H
                exact absurd H (by simp)
              ·rw [if_neg c43] at H
               have c43b0 : decide (x8_3 < (t429.length : Int)) = false := decide_eq_false c43
               clear c43
               replace H := Option.bind_eq_some_iff.mp H
               obtain ⟨t445, A550, H⟩ := H
               replace H : (portolanlaw05_FlowOrder.l2 k3 x3_1 x7_3 false false t445 0 l0_0 ((rd_T30 l0_0 x3_1).f0) ((rd_T30 l0_0 x3_1).f1) ((rd_T30 l0_0 x3_1).f2) ((rd_T30 l0_0 x3_1).f3) ((rd_T30 l0_0 x3_1).f4)) = some true := H
               have A55 := Aside0.mk A550
               clear A550
               have H' := Aside0.mk H
               clear H
               obtain ⟨Ao56, co56, eo56⟩ := Kd.R_slice HO_5.out
               subst eo56
               have hnb57 := NB428_424.out
               have hnc57 := NB424_428.out
               have hcz58_0 : wr.cell? ⟨gb428, 0, none⟩ = some (.slice A427_0 ((rd_T30 l0_0 x3_1).f0).length c427_0) := (blk_cell BK428.out 0).trans rfl
               have hcz58_1 : wr.cell? ⟨gb428, 1, none⟩ = some (.slice A427_1 ((rd_T30 l0_0 x3_1).f1).length c427_1) := (blk_cell BK428.out 1).trans rfl
               have hcz58_2 : wr.cell? ⟨gb428, 2, none⟩ = some (.int .i64 ((rd_T30 l0_0 x3_1).f2)) := (blk_cell BK428.out 2).trans rfl
               have hcz58_3 : wr.cell? ⟨gb428, 3, none⟩ = some (.int .i64 ((rd_T30 l0_0 x3_1).f3)) := (blk_cell BK428.out 3).trans rfl
               have hcz58_4 : wr.cell? ⟨gb428, 4, none⟩ = some (.slice A427_4 ((rd_T30 l0_0 x3_1).f4).length c427_4) := (blk_cell BK428.out 4).trans rfl
               have hfz58_0 := blk_frozen BK428.out 0
               have hfz58_1 := blk_frozen BK428.out 1
               have hfz58_2 := blk_frozen BK428.out 2
               have hfz58_3 := blk_frozen BK428.out 3
               have hfz58_4 := blk_frozen BK428.out 4
               go_wp2_with (first | ((with_reducible refine gate_callee (f := 24) rfl ?_); refine goesL_ (some 93) rfl rfl Try.func24 (by kernel_rfl) rfl #[.agg #[.slice A427_0 ((rd_T30 l0_0 x3_1).f0).length c427_0, .slice A427_1 ((rd_T30 l0_0 x3_1).f1).length c427_1, .int .i64 ((rd_T30 l0_0 x3_1).f2), .int .i64 ((rd_T30 l0_0 x3_1).f3), .slice A427_4 ((rd_T30 l0_0 x3_1).f4).length c427_4]] rfl (by (try simp only [List.map_toArray, List.map_cons, List.map_nil]); first | done | rfl | (simp only [List.length_drop, List.length_take]; rfl)) ?_; (with_reducible refine (flow_Edges.calls k3 _ _ ((rd_T30 l0_0 x3_1).f0) _ _ ((rd_T30 l0_0 x3_1).f1) ((rd_T30 l0_0 x3_1).f2) ((rd_T30 l0_0 x3_1).f3) _ _ ((rd_T30 l0_0 x3_1).f4) t445 _ ?side1 ?side2 ?side3 ?side4 ?side5 ?side6 A55.out).mono ?_); (case side1 => repeat (first | exact (Kd.C_below HR427_0.out HB.out) | (with_reducible refine Kd.C_alloc ?_ _) | (with_reducible refine Kd.C_drewN ?_ _) | (with_reducible refine Kd.C_drew ?_))); (case side2 => exact HC427_0.out); (case side3 => repeat (first | exact (Kd.C_below HR427_1.out HB.out) | (with_reducible refine Kd.C_alloc ?_ _) | (with_reducible refine Kd.C_drewN ?_ _) | (with_reducible refine Kd.C_drew ?_))); (case side4 => exact HC427_1.out); (case side5 => repeat (first | exact (Kd.C_below HR427_4.out HB.out) | (with_reducible refine Kd.C_alloc ?_ _) | (with_reducible refine Kd.C_drewN ?_ _) | (with_reducible refine Kd.C_drew ?_))); (case side6 => exact HC427_4.out); rintro e w59 ⟨v446, rfl, ho0, hb⟩; refine ⟨_, rfl, ?_⟩; have n0_ := Aside0.mk (Kd.R_below (by (with_reducible repeat (first | apply Kd.R_alloc | apply Kd.R_drewN | apply Kd.R_drew)); exact HO_5.out) hb); have n1_ := Aside0.mk (Kd.R_below (by (with_reducible repeat (first | apply Kd.R_alloc | apply Kd.R_drewN | apply Kd.R_drew)); exact HO_7.out) hb); have n2_ := Aside0.mk (Kd.R_lower ho0 (below_size (by repeat (first | (with_reducible first | exact HB.out | apply zq5 | apply zq4 | apply zq6 | refine below_set ?_ GE424.out | refine below_set ?_ GE428.out) | exact HB.out)))); have n3_ := Aside0.mk (blk_below (g := gb424) (o := .cells #[.slice (some ad427) l0_0.length c0_0] 24 (0, 0)) (by (with_reducible repeat (first | refine zq1 ?_ _ | refine zq2 ?_ | refine zq3 ?_ _)); exact BK424.out) hb); have n4_ := Aside0.mk (blk_below (g := gb428) (o := .cells #[.slice A427_0 ((rd_T30 l0_0 x3_1).f0).length c427_0, .slice A427_1 ((rd_T30 l0_0 x3_1).f1).length c427_1, .int .i64 ((rd_T30 l0_0 x3_1).f2), .int .i64 ((rd_T30 l0_0 x3_1).f3), .slice A427_4 ((rd_T30 l0_0 x3_1).f4).length c427_4] 30 (0, 0)) (by (with_reducible repeat (first | refine zq1 ?_ _ | refine zq2 ?_ | refine zq3 ?_ _)); exact BK428.out) hb); have n5_ := Aside0.mk (below_step (by repeat (first | (with_reducible first | exact HB.out | apply zq5 | apply zq4 | apply zq6 | refine below_set ?_ GE424.out | refine below_set ?_ GE428.out) | exact HB.out)) hb); clear HO_5; clear HO_7; clear BK424; clear BK428; clear HB; have HO_5 := n0_; have HO_7 := n1_; have HO447 := n2_; have BK424 := n3_; have BK428 := n4_; have HB := n5_; clear n0_ n1_ n2_ n3_ n4_ n5_; (try clear hb); (try clear hb2); (try clear hk); (try clear hi); (try clear ho0)))
               go_loopg [9, 10, 12] k3 (fun kq v9 v10 v12 w' => ∃ (x9_4 : Bool) (x10_4 : Bool) (x12_4 : Int), v9 = .bool x9_4 ∧ v10 = .bool x10_4 ∧ v12 = .int .i64 x12_4 ∧ Aside0 (portolanlaw05_FlowOrder.l2 kq x3_1 x7_3 x9_4 x10_4 t445 x12_4 l0_0 ((rd_T30 l0_0 x3_1).f0) ((rd_T30 l0_0 x3_1).f1) ((rd_T30 l0_0 x3_1).f2) ((rd_T30 l0_0 x3_1).f3) ((rd_T30 l0_0 x3_1).f4) = some true) ∧ Aside0 (kq ≤ k3) ∧ Aside0 (Kd.R (Kd.int .i64) 3 w' w.heap.size (fun _ => True) v437 x7_3) ∧ Aside0 (Kd.R k40 40 w' w.heap.size (fun _ => True) v446 t445) ∧ Aside0 (w'.heap[gb424]? = some (.cells #[(.slice (some ad427) l0_0.length c0_0)] 24 (0, 0))) ∧ Aside0 (w'.heap[gb428]? = some (.cells #[(.slice A427_0 ((rd_T30 l0_0 x3_1).f0).length c427_0), (.slice A427_1 ((rd_T30 l0_0 x3_1).f1).length c427_1), .int .i64 ((rd_T30 l0_0 x3_1).f2), .int .i64 ((rd_T30 l0_0 x3_1).f3), (.slice A427_4 ((rd_T30 l0_0 x3_1).f4).length c427_4)] 30 (0, 0))) ∧ Aside0 (Below w.heap.size w w'))
               case atStart => exact ⟨(false), (false), (0), (by first | rfl | (simp; done) | (simp [*]; done)), (by first | rfl | (simp; done) | (simp [*]; done)), (by first | rfl | (simp; done) | (simp [*]; done)), H', ⟨Nat.le_refl _⟩, ⟨by (with_reducible repeat (first | apply Kd.R_alloc | apply Kd.R_drewN | apply Kd.R_drew)); exact Kd.R_mono HO_7.out (fun _ hk => trivial)⟩, ⟨by (with_reducible repeat (first | apply Kd.R_alloc | apply Kd.R_drewN | apply Kd.R_drew)); exact HO447.out⟩, ⟨by (with_reducible repeat (first | refine zq1 ?_ _ | refine zq2 ?_ | refine zq3 ?_ _)); exact BK424.out⟩, ⟨by (with_reducible repeat (first | refine zq1 ?_ _ | refine zq2 ?_ | refine zq3 ?_ _)); exact BK428.out⟩, ⟨by repeat (first | (with_reducible first | exact HB.out | apply zq5 | apply zq4 | apply zq6 | refine below_set ?_ GE424.out | refine below_set ?_ GE428.out) | exact HB.out)⟩⟩
               case round =>
                clear H'
                try clear c1
                try clear c2
                try clear p2
                try clear c3
                try clear c4
                try clear p4
                try clear q4
                try clear hx4
                try clear qi4
                try clear c5
                try clear p5
                try clear q5
                try clear hx5
                try clear hf5
                try clear c6
                try clear p6
                try clear c14
                try clear c14b0
                try clear c15
                try clear c15b0
                try clear c16
                try clear c17
                try clear c21
                try clear c24
                try clear c27
                try clear c27b0
                try clear c27b1
                try clear c27b2
                try clear c28
                try clear c28b0
                try clear c28b1
                try clear c28b2
                try clear c30
                try clear c31
                try clear c31b0
                try clear c31b1
                try clear c36
                try clear c37
                try clear c37b0
                try clear c37b1
                try clear c38
                try clear c38b0
                try clear c38b1
                try clear c39
                try clear c42
                try clear p42
                try clear q42
                try clear hx42
                try clear c43
                try clear c43b0
                try clear p43
                try clear q43
                try clear hx43
                try clear qi43
                try clear c44
                try clear c44b0
                try clear p44
                try clear q44
                try clear hx44
                try clear c45
                try clear c45b0
                try clear c46
                try clear c46b0
                try clear c47
                try clear c47b0
                try clear c48
                try clear c48b0
                try clear c49
                try clear c49b0
                try clear c49b1
                try clear p50
                try clear q50
                try clear hx50
                try clear hf50
                try clear c57
                try clear hcz12_0
                try clear hcz19_0
                try clear hcz22_0
                try clear hcz22_1
                try clear hcz22_2
                try clear hcz22_3
                try clear hcz22_4
                try clear hcz40_0
                try clear hcz40_1
                try clear hcz40_2
                try clear hcz40_3
                try clear hcz40_4
                try clear hcz58_0
                try clear hcz58_1
                try clear hcz58_2
                try clear hcz58_3
                try clear hcz58_4
                try clear hcz8_0
                try clear hfz12_0
                try clear hfz19_0
                try clear hfz22_0
                try clear hfz22_1
                try clear hfz22_2
                try clear hfz22_3
                try clear hfz22_4
                try clear hfz40_0
                try clear hfz40_1
                try clear hfz40_2
                try clear hfz40_3
                try clear hfz40_4
                try clear hfz58_0
                try clear hfz58_1
                try clear hfz58_2
                try clear hfz58_3
                try clear hfz58_4
                try clear hfz8_0
                try clear hx427_0
                try clear hx427_1
                try clear hx427_2
                try clear hx427_3
                try clear hx427_4
                try clear hx435_0
                try clear hx439_0
                try clear hx440_0
                try clear hx441_0
                try clear hx442_0
                try clear hx443_0
                try clear hx50_0
                try clear p2
                try clear p4
                try clear p42
                try clear p427
                try clear p435
                try clear p439
                try clear p440
                try clear p441
                try clear p442
                try clear p443
                try clear p50
                try clear q4
                try clear q42
                try clear q427
                try clear q435
                try clear q439
                try clear q440
                try clear q441
                try clear q442
                try clear q443
                try clear q50
                obtain ⟨x9_4, x10_4, x12_4, rfl, rfl, rfl, HA, HK4, HO_7, HO_11, BK424, BK428, HB⟩ := hrel
                cases gk with
                | zero => exact absurd HA.out (by simp [portolanlaw05_FlowOrder.l2])
                | succ k4 =>
                 have H := HA.out
                 clear HA
                 simp only [portolanlaw05_FlowOrder.l2] at H
                 by_cases c60 : x12_4 < (t445.length : Int)
                 ·rw [if_pos c60] at H
                  have c60b0 : decide (x12_4 < (t445.length : Int)) = true := decide_eq_true c60
                  clear c60
                  by_cases c61 : 0 ≤ x12_4
                  ·rw [if_pos c61] at H
                   have c61b0 : decide (0 ≤ x12_4) = true := decide_eq_true c61
                   clear c61
                   by_cases c62 : 0 ≤ ((rd_T40 t445 x12_4).f0)
                   ·rw [if_pos c62] at H
                    have c62b0 : decide (0 ≤ ((rd_T40 t445 x12_4).f0)) = true := decide_eq_true c62
                    clear c62
                    by_cases c63 : ((rd_T40 t445 x12_4).f0) < (x7_3.length : Int)
                    ·rw [if_pos c63] at H
                     have c63b0 : decide (((rd_T40 t445 x12_4).f0) < (x7_3.length : Int)) = true := decide_eq_true c63
                     clear c63
                     by_cases c64 : (rd x7_3 ((rd_T40 t445 x12_4).f0)) = 0
                     ·rw [if_pos c64] at H
                      have c64b0 : ((rd x7_3 ((rd_T40 t445 x12_4).f0)) == 0) = true := beq_iff_eq.mpr c64
                      have c64b1 : ((rd x7_3 ((rd_T40 t445 x12_4).f0)) != 0) = false := bne_eq_false_iff_eq.mpr c64
                      clear c64
                      have H' := Aside0.mk H
                      clear H
                      obtain ⟨Ao65, co65, eo65⟩ := Kd.R_slice HO_11.out
                      subst eo65
                      have p448 : 0 ≤ (x12_4 : Int) := of_decide_eq_true (by first | (with_reducible assumption) | assumption)
                      have q448 : x12_4 < (t445.length : Int) := of_decide_eq_true (by first | (with_reducible assumption) | assumption)
                      obtain ⟨ad448, e448, hx448_0, hx448_1⟩ := at_T40 (Kd.R_reads' HO_11.out).2.2 x12_4 p448 q448
                      cases e448
                      replace p448 := eq_true p448
                      replace q448 := eq_true q448
                      go_wp2_with (first | ((with_reducible refine gate_dst (N := 13) rfl ?_); (try (refine gate_guard (by rfl) ?_; dsimp only)); refine box_event ?hg (N := 13) ?hd (cs := #[.int .i64 0, .int .i64 0]) (t := 40) ?hr ?_; (case hd => rfl); (case hg => rfl); (case hr => first | (go_simp; done) | (go_simp; rfl)); intro gb449 hg w66 hbox hb; have n0_ := Aside0.mk (Kd.R_below (by (with_reducible repeat (first | apply Kd.R_alloc | apply Kd.R_drewN | apply Kd.R_drew)); exact HO_7.out) hb); have n1_ := Aside0.mk (Kd.R_below (Kd.R_elderB (by (with_reducible repeat (first | apply Kd.R_alloc | apply Kd.R_drewN | apply Kd.R_drew)); exact HO_11.out) gb449 (Nat.le_of_eq hg.symm)) hb); have n2_ := Aside0.mk (blk_below (g := gb424) (o := .cells #[.slice (some ad427) l0_0.length c0_0] 24 (0, 0)) (by (with_reducible repeat (first | refine zq1 ?_ _ | refine zq2 ?_ | refine zq3 ?_ _)); exact BK424.out) hb); have n3_ := Aside0.mk (blk_below (g := gb428) (o := .cells #[.slice A427_0 ((rd_T30 l0_0 x3_1).f0).length c427_0, .slice A427_1 ((rd_T30 l0_0 x3_1).f1).length c427_1, .int .i64 ((rd_T30 l0_0 x3_1).f2), .int .i64 ((rd_T30 l0_0 x3_1).f3), .slice A427_4 ((rd_T30 l0_0 x3_1).f4).length c427_4] 30 (0, 0)) (by (with_reducible repeat (first | refine zq1 ?_ _ | refine zq2 ?_ | refine zq3 ?_ _)); exact BK428.out) hb); have n4_ := Aside0.mk (below_step (by repeat (first | (with_reducible first | exact HB.out | apply zq5 | apply zq4 | apply zq6 | refine below_set ?_ GE424.out | refine below_set ?_ GE428.out) | exact HB.out)) hb); have n5_ := Aside0.mk (hbox); have n6_ := Aside0.mk ((by rw [hg]; exact (below_size (by repeat (first | (with_reducible first | exact HB.out | apply zq5 | apply zq4 | apply zq6 | refine below_set ?_ GE424.out | refine below_set ?_ GE428.out) | exact HB.out))) : w.heap.size ≤ gb449)); have n7_ := Aside0.mk ((by rw [hg]; exact (below_size (by repeat (first | (with_reducible first | exact HB.out | apply zq5 | apply zq4 | apply zq6 | refine below_set ?_ GE424.out | refine below_set ?_ GE428.out) | exact HB.out))) : w.heap.size ≤ gb449)); have n8_ := Aside0.mk ((by rw [hg]; exact Nat.ne_of_lt (blk_lt (g := gb424) (o := .cells #[.slice (some ad427) l0_0.length c0_0] 24 (0, 0)) (by (with_reducible repeat (first | refine zq1 ?_ _ | refine zq2 ?_ | refine zq3 ?_ _)); exact BK424.out)) : gb424 ≠ gb449)); have n9_ := Aside0.mk ((by rw [hg]; exact Nat.ne_of_gt (blk_lt (g := gb424) (o := .cells #[.slice (some ad427) l0_0.length c0_0] 24 (0, 0)) (by (with_reducible repeat (first | refine zq1 ?_ _ | refine zq2 ?_ | refine zq3 ?_ _)); exact BK424.out)) : gb449 ≠ gb424)); have n10_ := Aside0.mk ((by rw [hg]; exact Nat.ne_of_lt (blk_lt (g := gb428) (o := .cells #[.slice A427_0 ((rd_T30 l0_0 x3_1).f0).length c427_0, .slice A427_1 ((rd_T30 l0_0 x3_1).f1).length c427_1, .int .i64 ((rd_T30 l0_0 x3_1).f2), .int .i64 ((rd_T30 l0_0 x3_1).f3), .slice A427_4 ((rd_T30 l0_0 x3_1).f4).length c427_4] 30 (0, 0)) (by (with_reducible repeat (first | refine zq1 ?_ _ | refine zq2 ?_ | refine zq3 ?_ _)); exact BK428.out)) : gb428 ≠ gb449)); have n11_ := Aside0.mk ((by rw [hg]; exact Nat.ne_of_gt (blk_lt (g := gb428) (o := .cells #[.slice A427_0 ((rd_T30 l0_0 x3_1).f0).length c427_0, .slice A427_1 ((rd_T30 l0_0 x3_1).f1).length c427_1, .int .i64 ((rd_T30 l0_0 x3_1).f2), .int .i64 ((rd_T30 l0_0 x3_1).f3), .slice A427_4 ((rd_T30 l0_0 x3_1).f4).length c427_4] 30 (0, 0)) (by (with_reducible repeat (first | refine zq1 ?_ _ | refine zq2 ?_ | refine zq3 ?_ _)); exact BK428.out)) : gb449 ≠ gb428)); clear HO_7; clear HO_11; clear BK424; clear BK428; clear HB; have HO_7 := n0_; have HO_11 := n1_; have BK424 := n2_; have BK428 := n3_; have HB := n4_; have BK449 := n5_; have GW449 := n6_; have GE449 := n7_; have NB424_449 := n8_; have NB449_424 := n9_; have NB428_449 := n10_; have NB449_428 := n11_; clear n0_ n1_ n2_ n3_ n4_ n5_ n6_ n7_ n8_ n9_ n10_ n11_; clear hb hbox hg; have hnb67 := NB449_424.out; have hnc67 := NB424_449.out; have hnb68 := NB449_428.out; have hnc68 := NB428_449.out; have hcz69_0 : w66.cell? ⟨gb449, 0, none⟩ = some (.int .i64 0) := (blk_cell BK449.out 0).trans rfl; have hcz69_1 : w66.cell? ⟨gb449, 1, none⟩ = some (.int .i64 0) := (blk_cell BK449.out 1).trans rfl; have hfz69_0 := blk_frozen BK449.out 0; have hfz69_1 := blk_frozen BK449.out 1; obtain ⟨Ao70, co70, eo70⟩ := Kd.R_slice HO_7.out; subst eo70; have p450 : 0 ≤ (((rd_T40 t445 x12_4).f0) : Int) := of_decide_eq_true (by first | (with_reducible assumption) | assumption); have q450 : ((rd_T40 t445 x12_4).f0) < (x7_3.length : Int) := of_decide_eq_true (by first | (with_reducible assumption) | assumption); obtain ⟨ad450, e450, hx450_0⟩ := Kd.at_int (Kd.R_reads' HO_7.out).2.2 ((rd_T40 t445 x12_4).f0) p450 q450; cases e450; have hn450_0 : ad450.block ≠ gb449 := Kd.own_blk (Kd.R_ne HO_7.out BK449.out (by decide)); have hn450_1 : ad450.block ≠ gb449 := Kd.own_blk (Kd.R_ne HO_7.out BK449.out (by decide)); replace hx450_0 := (cell_far (p := ⟨gb449, 0, none⟩) (by first | (rw [add_block]; exact hn450_0) | (show (Addr.add _ _).block ≠ _; rw [add_block]; exact hn450_0) | exact hn450_0) (.int .i64 ((rd_T40 t445 x12_4).f0))).trans hx450_0; replace hx450_0 := (cell_far (p := ⟨gb449, 1, none⟩) (by first | (rw [add_block]; exact hn450_1) | (show (Addr.add _ _).block ≠ _; rw [add_block]; exact hn450_1) | exact hn450_1) (.int .i64 ((rd_T40 t445 x12_4).f1))).trans hx450_0; clear hn450_0; clear hn450_1; replace p450 := eq_true p450; replace q450 := eq_true q450))
                      go_roundg k4
                      case measure => have := HK1.out; have := HJ17.out; have := HK3.out; have := HK4.out; omega
                      case rel => exact ⟨(x9_4), (x10_4), (wrap64 (x12_4 + 1)), (by first | rfl | (simp; done) | (simp [*]; done)), (by first | rfl | (simp; done) | (simp [*]; done)), (by first | rfl | (simp; done) | (simp [*]; done)), H', ⟨by have := HK1.out; have := HJ17.out; have := HK3.out; have := HK4.out; omega⟩, ⟨by (with_reducible repeat (first | apply Kd.R_alloc | apply Kd.R_drewN | apply Kd.R_drew)); exact Kd.R_mono (Kd.R_far (p := ⟨gb449, 1, none⟩) (Kd.R_far (p := ⟨gb449, 0, none⟩) (Kd.R_types HO_7.out BK449.out (by decide)) (fun _ hk => hk.2) (.int .i64 ((rd_T40 t445 x12_4).f0))) (fun _ hk => hk.2) (.int .i64 ((rd_T40 t445 x12_4).f1))) (fun _ hk => trivial)⟩, ⟨by (with_reducible repeat (first | apply Kd.R_alloc | apply Kd.R_drewN | apply Kd.R_drew)); exact Kd.R_mono (Kd.R_far (p := ⟨gb449, 1, none⟩) (Kd.R_far (p := ⟨gb449, 0, none⟩) (Kd.R_mono HO_11.out (fun k_ hk => (⟨hk, hk.2⟩ : _ ∧ k_ ≠ gb449))) (fun _ hk => hk.2) (.int .i64 ((rd_T40 t445 x12_4).f0))) (fun _ hk => hk.2) (.int .i64 ((rd_T40 t445 x12_4).f1))) (fun _ hk => trivial)⟩, ⟨by (with_reducible repeat (first | refine zq1 ?_ _ | refine zq2 ?_ | refine zq3 ?_ _)); refine blk_far ?_ NB424_449.out _; (with_reducible repeat (first | refine zq1 ?_ _ | refine zq2 ?_ | refine zq3 ?_ _)); refine blk_far ?_ NB424_449.out _; (with_reducible repeat (first | refine zq1 ?_ _ | refine zq2 ?_ | refine zq3 ?_ _)); exact BK424.out⟩, ⟨by (with_reducible repeat (first | refine zq1 ?_ _ | refine zq2 ?_ | refine zq3 ?_ _)); refine blk_far ?_ NB428_449.out _; (with_reducible repeat (first | refine zq1 ?_ _ | refine zq2 ?_ | refine zq3 ?_ _)); refine blk_far ?_ NB428_449.out _; (with_reducible repeat (first | refine zq1 ?_ _ | refine zq2 ?_ | refine zq3 ?_ _)); exact BK428.out⟩, ⟨by repeat (first | (with_reducible first | exact HB.out | apply zq5 | apply zq4 | apply zq6 | refine below_set ?_ GE424.out | refine below_set ?_ GE428.out | refine below_set ?_ GE449.out) | exact HB.out)⟩⟩
                     ·rw [if_neg c64] at H
                      have c64b0 : ((rd x7_3 ((rd_T40 t445 x12_4).f0)) == 0) = false := beq_eq_false_iff_ne.mpr c64
                      have c64b1 : ((rd x7_3 ((rd_T40 t445 x12_4).f0)) != 0) = true := bne_iff_ne.mpr c64
                      by_cases c71 : x9_4 = true
                      ·subst c71
                       have H1 : (if x10_4 = true then (portolanlaw05_FlowOrder.l2 k4 x3_1 x7_3 true true t445 (wrap64 (x12_4 + 1)) l0_0 ((rd_T30 l0_0 x3_1).f0) ((rd_T30 l0_0 x3_1).f1) ((rd_T30 l0_0 x3_1).f2) ((rd_T30 l0_0 x3_1).f3) ((rd_T30 l0_0 x3_1).f4)) else (if 0 ≤ ((rd_T40 t445 x12_4).f1) then (if ((rd_T40 t445 x12_4).f1) < (x7_3.length : Int) then (portolanlaw05_FlowOrder.l2 k4 x3_1 x7_3 true (decide ((rd x7_3 ((rd_T40 t445 x12_4).f1)) ≤ (rd x7_3 ((rd_T40 t445 x12_4).f0)))) t445 (wrap64 (x12_4 + 1)) l0_0 ((rd_T30 l0_0 x3_1).f0) ((rd_T30 l0_0 x3_1).f1) ((rd_T30 l0_0 x3_1).f2) ((rd_T30 l0_0 x3_1).f3) ((rd_T30 l0_0 x3_1).f4)) else (none)) else (none))) = some true := by first | (rw [if_pos rfl] at H; exact H) | rfl
                       clear H
                       have H := H1
                       clear H1
                       by_cases c72 : x10_4 = true
                       ·subst c72
                        have H1 : (portolanlaw05_FlowOrder.l2 k4 x3_1 x7_3 true true t445 (wrap64 (x12_4 + 1)) l0_0 ((rd_T30 l0_0 x3_1).f0) ((rd_T30 l0_0 x3_1).f1) ((rd_T30 l0_0 x3_1).f2) ((rd_T30 l0_0 x3_1).f3) ((rd_T30 l0_0 x3_1).f4)) = some true := by first | (rw [if_pos rfl] at H; exact H) | rfl
                        clear H
                        have H := H1
                        clear H1
                        have H' := Aside0.mk H
                        clear H
                        obtain ⟨Ao73, co73, eo73⟩ := Kd.R_slice HO_11.out
                        subst eo73
                        have p448 : 0 ≤ (x12_4 : Int) := of_decide_eq_true (by first | (with_reducible assumption) | assumption)
                        have q448 : x12_4 < (t445.length : Int) := of_decide_eq_true (by first | (with_reducible assumption) | assumption)
                        obtain ⟨ad448, e448, hx448_0, hx448_1⟩ := at_T40 (Kd.R_reads' HO_11.out).2.2 x12_4 p448 q448
                        cases e448
                        replace p448 := eq_true p448
                        replace q448 := eq_true q448
                        try go_wp2_with (first | ((with_reducible refine gate_dst (N := 13) rfl ?_); (try (refine gate_guard (by rfl) ?_; dsimp only)); refine box_event ?hg (N := 13) ?hd (cs := #[.int .i64 0, .int .i64 0]) (t := 40) ?hr ?_; (case hd => rfl); (case hg => rfl); (case hr => first | (go_simp; done) | (go_simp; rfl)); intro gb449 hg w74 hbox hb; have n0_ := Aside0.mk (Kd.R_below (by (with_reducible repeat (first | apply Kd.R_alloc | apply Kd.R_drewN | apply Kd.R_drew)); exact HO_7.out) hb); have n1_ := Aside0.mk (Kd.R_below (Kd.R_elderB (by (with_reducible repeat (first | apply Kd.R_alloc | apply Kd.R_drewN | apply Kd.R_drew)); exact HO_11.out) gb449 (Nat.le_of_eq hg.symm)) hb); have n2_ := Aside0.mk (blk_below (g := gb424) (o := .cells #[.slice (some ad427) l0_0.length c0_0] 24 (0, 0)) (by (with_reducible repeat (first | refine zq1 ?_ _ | refine zq2 ?_ | refine zq3 ?_ _)); exact BK424.out) hb); have n3_ := Aside0.mk (blk_below (g := gb428) (o := .cells #[.slice A427_0 ((rd_T30 l0_0 x3_1).f0).length c427_0, .slice A427_1 ((rd_T30 l0_0 x3_1).f1).length c427_1, .int .i64 ((rd_T30 l0_0 x3_1).f2), .int .i64 ((rd_T30 l0_0 x3_1).f3), .slice A427_4 ((rd_T30 l0_0 x3_1).f4).length c427_4] 30 (0, 0)) (by (with_reducible repeat (first | refine zq1 ?_ _ | refine zq2 ?_ | refine zq3 ?_ _)); exact BK428.out) hb); have n4_ := Aside0.mk (below_step (by repeat (first | (with_reducible first | exact HB.out | apply zq5 | apply zq4 | apply zq6 | refine below_set ?_ GE424.out | refine below_set ?_ GE428.out) | exact HB.out)) hb); have n5_ := Aside0.mk (hbox); have n6_ := Aside0.mk ((by rw [hg]; exact (below_size (by repeat (first | (with_reducible first | exact HB.out | apply zq5 | apply zq4 | apply zq6 | refine below_set ?_ GE424.out | refine below_set ?_ GE428.out) | exact HB.out))) : w.heap.size ≤ gb449)); have n7_ := Aside0.mk ((by rw [hg]; exact (below_size (by repeat (first | (with_reducible first | exact HB.out | apply zq5 | apply zq4 | apply zq6 | refine below_set ?_ GE424.out | refine below_set ?_ GE428.out) | exact HB.out))) : w.heap.size ≤ gb449)); have n8_ := Aside0.mk ((by rw [hg]; exact Nat.ne_of_lt (blk_lt (g := gb424) (o := .cells #[.slice (some ad427) l0_0.length c0_0] 24 (0, 0)) (by (with_reducible repeat (first | refine zq1 ?_ _ | refine zq2 ?_ | refine zq3 ?_ _)); exact BK424.out)) : gb424 ≠ gb449)); have n9_ := Aside0.mk ((by rw [hg]; exact Nat.ne_of_gt (blk_lt (g := gb424) (o := .cells #[.slice (some ad427) l0_0.length c0_0] 24 (0, 0)) (by (with_reducible repeat (first | refine zq1 ?_ _ | refine zq2 ?_ | refine zq3 ?_ _)); exact BK424.out)) : gb449 ≠ gb424)); have n10_ := Aside0.mk ((by rw [hg]; exact Nat.ne_of_lt (blk_lt (g := gb428) (o := .cells #[.slice A427_0 ((rd_T30 l0_0 x3_1).f0).length c427_0, .slice A427_1 ((rd_T30 l0_0 x3_1).f1).length c427_1, .int .i64 ((rd_T30 l0_0 x3_1).f2), .int .i64 ((rd_T30 l0_0 x3_1).f3), .slice A427_4 ((rd_T30 l0_0 x3_1).f4).length c427_4] 30 (0, 0)) (by (with_reducible repeat (first | refine zq1 ?_ _ | refine zq2 ?_ | refine zq3 ?_ _)); exact BK428.out)) : gb428 ≠ gb449)); have n11_ := Aside0.mk ((by rw [hg]; exact Nat.ne_of_gt (blk_lt (g := gb428) (o := .cells #[.slice A427_0 ((rd_T30 l0_0 x3_1).f0).length c427_0, .slice A427_1 ((rd_T30 l0_0 x3_1).f1).length c427_1, .int .i64 ((rd_T30 l0_0 x3_1).f2), .int .i64 ((rd_T30 l0_0 x3_1).f3), .slice A427_4 ((rd_T30 l0_0 x3_1).f4).length c427_4] 30 (0, 0)) (by (with_reducible repeat (first | refine zq1 ?_ _ | refine zq2 ?_ | refine zq3 ?_ _)); exact BK428.out)) : gb449 ≠ gb428)); clear HO_7; clear HO_11; clear BK424; clear BK428; clear HB; have HO_7 := n0_; have HO_11 := n1_; have BK424 := n2_; have BK428 := n3_; have HB := n4_; have BK449 := n5_; have GW449 := n6_; have GE449 := n7_; have NB424_449 := n8_; have NB449_424 := n9_; have NB428_449 := n10_; have NB449_428 := n11_; clear n0_ n1_ n2_ n3_ n4_ n5_ n6_ n7_ n8_ n9_ n10_ n11_; clear hb hbox hg; have hnb75 := NB449_424.out; have hnc75 := NB424_449.out; have hnb76 := NB449_428.out; have hnc76 := NB428_449.out; have hcz77_0 : w74.cell? ⟨gb449, 0, none⟩ = some (.int .i64 0) := (blk_cell BK449.out 0).trans rfl; have hcz77_1 : w74.cell? ⟨gb449, 1, none⟩ = some (.int .i64 0) := (blk_cell BK449.out 1).trans rfl; have hfz77_0 := blk_frozen BK449.out 0; have hfz77_1 := blk_frozen BK449.out 1; obtain ⟨Ao78, co78, eo78⟩ := Kd.R_slice HO_7.out; subst eo78; have p450 : 0 ≤ (((rd_T40 t445 x12_4).f0) : Int) := of_decide_eq_true (by first | (with_reducible assumption) | assumption); have q450 : ((rd_T40 t445 x12_4).f0) < (x7_3.length : Int) := of_decide_eq_true (by first | (with_reducible assumption) | assumption); obtain ⟨ad450, e450, hx450_0⟩ := Kd.at_int (Kd.R_reads' HO_7.out).2.2 ((rd_T40 t445 x12_4).f0) p450 q450; cases e450; have hn450_0 : ad450.block ≠ gb449 := Kd.own_blk (Kd.R_ne HO_7.out BK449.out (by decide)); have hn450_1 : ad450.block ≠ gb449 := Kd.own_blk (Kd.R_ne HO_7.out BK449.out (by decide)); replace hx450_0 := (cell_far (p := ⟨gb449, 0, none⟩) (by first | (rw [add_block]; exact hn450_0) | (show (Addr.add _ _).block ≠ _; rw [add_block]; exact hn450_0) | exact hn450_0) (.int .i64 ((rd_T40 t445 x12_4).f0))).trans hx450_0; replace hx450_0 := (cell_far (p := ⟨gb449, 1, none⟩) (by first | (rw [add_block]; exact hn450_1) | (show (Addr.add _ _).block ≠ _; rw [add_block]; exact hn450_1) | exact hn450_1) (.int .i64 ((rd_T40 t445 x12_4).f1))).trans hx450_0; clear hn450_0; clear hn450_1; replace p450 := eq_true p450; replace q450 := eq_true q450))
                        have n0_ : Aside0 (Kd.R (Kd.int .i64) 3 ((w74.setCell ⟨gb449, 0, none⟩ (.int .i64 ((rd_T40 t445 x12_4).f0))).setCell ⟨gb449, 1, none⟩ (.int .i64 ((rd_T40 t445 x12_4).f1))) w.heap.size (fun _ => True) (.slice (some ad450) x7_3.length co78) x7_3) := ⟨by (with_reducible repeat (first | apply Kd.R_alloc | apply Kd.R_drewN | apply Kd.R_drew)); exact Kd.R_mono (Kd.R_far (p := ⟨gb449, 1, none⟩) (Kd.R_far (p := ⟨gb449, 0, none⟩) (Kd.R_types HO_7.out BK449.out (by decide)) (fun _ hk => hk.2) (.int .i64 ((rd_T40 t445 x12_4).f0))) (fun _ hk => hk.2) (.int .i64 ((rd_T40 t445 x12_4).f1))) (fun _ hk => trivial)⟩
                        have n1_ : Aside0 (Kd.R k40 40 ((w74.setCell ⟨gb449, 0, none⟩ (.int .i64 ((rd_T40 t445 x12_4).f0))).setCell ⟨gb449, 1, none⟩ (.int .i64 ((rd_T40 t445 x12_4).f1))) w.heap.size (fun k_ => k_ ≠ gb449) (.slice (some ad448) t445.length co73) t445) := ⟨by (with_reducible repeat (first | apply Kd.R_alloc | apply Kd.R_drewN | apply Kd.R_drew)); exact Kd.R_mono (Kd.R_far (p := ⟨gb449, 1, none⟩) (Kd.R_far (p := ⟨gb449, 0, none⟩) (Kd.R_mono HO_11.out (fun k_ hk => (⟨hk, hk.2⟩ : _ ∧ k_ ≠ gb449))) (fun _ hk => hk.2) (.int .i64 ((rd_T40 t445 x12_4).f0))) (fun _ hk => hk.2) (.int .i64 ((rd_T40 t445 x12_4).f1))) (fun _ hk => hk.1.2)⟩
                        have n2_ : Aside0 (((w74.setCell ⟨gb449, 0, none⟩ (.int .i64 ((rd_T40 t445 x12_4).f0))).setCell ⟨gb449, 1, none⟩ (.int .i64 ((rd_T40 t445 x12_4).f1))).heap[gb424]? = some (.cells #[.slice (some ad427) l0_0.length c0_0] 24 (0, 0))) := ⟨by (with_reducible repeat (first | refine zq1 ?_ _ | refine zq2 ?_ | refine zq3 ?_ _)); refine blk_far ?_ NB424_449.out _; (with_reducible repeat (first | refine zq1 ?_ _ | refine zq2 ?_ | refine zq3 ?_ _)); refine blk_far ?_ NB424_449.out _; (with_reducible repeat (first | refine zq1 ?_ _ | refine zq2 ?_ | refine zq3 ?_ _)); exact BK424.out⟩
                        have n3_ : Aside0 (((w74.setCell ⟨gb449, 0, none⟩ (.int .i64 ((rd_T40 t445 x12_4).f0))).setCell ⟨gb449, 1, none⟩ (.int .i64 ((rd_T40 t445 x12_4).f1))).heap[gb428]? = some (.cells #[.slice A427_0 ((rd_T30 l0_0 x3_1).f0).length c427_0, .slice A427_1 ((rd_T30 l0_0 x3_1).f1).length c427_1, .int .i64 ((rd_T30 l0_0 x3_1).f2), .int .i64 ((rd_T30 l0_0 x3_1).f3), .slice A427_4 ((rd_T30 l0_0 x3_1).f4).length c427_4] 30 (0, 0))) := ⟨by (with_reducible repeat (first | refine zq1 ?_ _ | refine zq2 ?_ | refine zq3 ?_ _)); refine blk_far ?_ NB428_449.out _; (with_reducible repeat (first | refine zq1 ?_ _ | refine zq2 ?_ | refine zq3 ?_ _)); refine blk_far ?_ NB428_449.out _; (with_reducible repeat (first | refine zq1 ?_ _ | refine zq2 ?_ | refine zq3 ?_ _)); exact BK428.out⟩
                        have n4_ : Aside0 (((w74.setCell ⟨gb449, 0, none⟩ (.int .i64 ((rd_T40 t445 x12_4).f0))).setCell ⟨gb449, 1, none⟩ (.int .i64 ((rd_T40 t445 x12_4).f1))).heap[gb449]? = some (.cells #[.int .i64 ((rd_T40 t445 x12_4).f0), .int .i64 ((rd_T40 t445 x12_4).f1)] 40 (0, 0))) := ⟨by (with_reducible repeat (first | refine zq1 ?_ _ | refine zq2 ?_ | refine zq3 ?_ _)); refine blk_put (cs := #[.int .i64 ((rd_T40 t445 x12_4).f0), .int .i64 0]) ?_ 1 _ rfl; (with_reducible repeat (first | refine zq1 ?_ _ | refine zq2 ?_ | refine zq3 ?_ _)); refine blk_put (cs := #[.int .i64 0, .int .i64 0]) ?_ 0 _ rfl; (with_reducible repeat (first | refine zq1 ?_ _ | refine zq2 ?_ | refine zq3 ?_ _)); exact BK449.out⟩
                        have n5_ : Aside0 (Below w.heap.size w ((w74.setCell ⟨gb449, 0, none⟩ (.int .i64 ((rd_T40 t445 x12_4).f0))).setCell ⟨gb449, 1, none⟩ (.int .i64 ((rd_T40 t445 x12_4).f1)))) := ⟨by repeat (first | (with_reducible first | exact HB.out | apply zq5 | apply zq4 | apply zq6 | refine below_set ?_ GE424.out | refine below_set ?_ GE428.out | refine below_set ?_ GE449.out) | exact HB.out)⟩
                        (try clear HO_7)
                        (try clear HO_11)
                        (try clear BK424)
                        (try clear BK428)
                        (try clear BK449)
                        (try clear HB)
                        generalize ((w74.setCell ⟨gb449, 0, none⟩ (.int .i64 ((rd_T40 t445 x12_4).f0))).setCell ⟨gb449, 1, none⟩ (.int .i64 ((rd_T40 t445 x12_4).f1))) = w79 at n0_ n1_ n2_ n3_ n4_ n5_ ⊢
                        have HO_7 := n0_
                        have HO_11 := n1_
                        have BK424 := n2_
                        have BK428 := n3_
                        have BK449 := n4_
                        have HB := n5_
                        clear n0_ n1_ n2_ n3_ n4_ n5_
                        have n0_ := Aside0.mk (Kd.R_drew HO_7.out)
                        have n1_ := Aside0.mk (Kd.R_drew HO_11.out)
                        have n2_ := Aside0.mk (blk_drew BK424.out)
                        have n3_ := Aside0.mk (blk_drew BK428.out)
                        have n4_ := Aside0.mk (blk_drew BK449.out)
                        have n5_ := Aside0.mk (below_drew1 HB.out)
                        clear HO_7
                        clear HO_11
                        clear BK424
                        clear BK428
                        clear BK449
                        clear HB
                        have HO_7 := n0_
                        have HO_11 := n1_
                        have BK424 := n2_
                        have BK428 := n3_
                        have BK449 := n4_
                        have HB := n5_
                        clear n0_ n1_ n2_ n3_ n4_ n5_
                        refine start_ (n := 12) (S := fun w' => True) (ds := []) #[false, false, false, false, false, false, false, false, false, false, false, false] (by kernel_rfl) rfl rfl trivial (fun hHeld => ?_); refine with_tabW portolanlaw05_FlowOrder.tab27 portolanlaw05_FlowOrder.bits27 (fun HT_ HW_ => ?_)
                        generalize w79.drew = w80 at HO_7 HO_11 BK424 BK428 BK449 HB hHeld ⊢
                        refine pure_ (i := 0) (N := some 110) (v := ?_) (a' := ?_) #[true, false, false, false, false, false, false, false, false, false, false, false] rfl rfl (any_of HT_.out (by kernel_rfl)) (fun _ _ _ h => h) (Or.inl ⟨by rfl, ?_⟩) ?_ ?_
                        rotate_left
                        ·intro w'
                         go_simp
                         with_reducible rfl
                        rotate_left
                        ·simp only [Act.put, List.setIfInBounds_toArray, List.set_cons_zero, List.set_cons_succ, i64_w, i32_w]
                         rfl
                        refine pure_ (i := 1) (N := some 111) (v := ?_) (a' := ?_) #[true, true, false, false, false, false, false, false, false, false, false, false] rfl rfl (any_of HT_.out (by kernel_rfl)) (fun _ _ _ h => h) (Or.inl ⟨by rfl, ?_⟩) ?_ ?_
                        rotate_left
                        ·intro w'
                         go_simp
                         with_reducible rfl
                        rotate_left
                        ·simp only [Act.put, List.setIfInBounds_toArray, List.set_cons_zero, List.set_cons_succ, i64_w, i32_w]
                         rfl
                        refine pure_ (i := 2) (N := some 112) (v := undef) (a' := ?_) #[true, true, true, false, false, false, false, false, false, false, false, false] rfl rfl (any_of HT_.out (by kernel_rfl)) (fun _ _ _ h => h) (Or.inr ⟨by rfl, rfl⟩) ?_ ?_
                        rotate_left
                        ·simp only [Act.put, List.setIfInBounds_toArray, List.set_cons_zero, List.set_cons_succ, i64_w, i32_w]
                         rfl
                        refine pure_ (i := 3) (N := some 113) (v := undef) (a' := ?_) #[true, true, true, true, false, false, false, false, false, false, false, false] rfl rfl (any_of HT_.out (by kernel_rfl)) (fun _ _ _ h => h) (Or.inr ⟨by rfl, rfl⟩) ?_ ?_
                        rotate_left
                        ·simp only [Act.put, List.setIfInBounds_toArray, List.set_cons_zero, List.set_cons_succ, i64_w, i32_w]
                         rfl
                        refine pure_ (i := 4) (N := some 114) (v := undef) (a' := ?_) #[true, true, true, true, true, false, false, false, false, false, false, false] rfl rfl (any_of HT_.out (by kernel_rfl)) (fun _ _ _ h => h) (Or.inr ⟨by rfl, rfl⟩) ?_ ?_
                        rotate_left
                        ·simp only [Act.put, List.setIfInBounds_toArray, List.set_cons_zero, List.set_cons_succ, i64_w, i32_w]
                         rfl
                        refine pure_ (i := 5) (N := some 115) (v := undef) (a' := ?_) #[true, true, true, true, true, true, false, false, false, false, false, false] rfl rfl (any_of HT_.out (by kernel_rfl)) (fun _ _ _ h => h) (Or.inr ⟨by rfl, rfl⟩) ?_ ?_
                        rotate_left
                        ·simp only [Act.put, List.setIfInBounds_toArray, List.set_cons_zero, List.set_cons_succ, i64_w, i32_w]
                         rfl
                        refine pure_ (i := 6) (N := some 116) (v := undef) (a' := ?_) #[true, true, true, true, true, true, true, false, false, false, false, false] rfl rfl (any_of HT_.out (by kernel_rfl)) (fun _ _ _ h => h) (Or.inr ⟨by rfl, rfl⟩) ?_ ?_
                        rotate_left
                        ·simp only [Act.put, List.setIfInBounds_toArray, List.set_cons_zero, List.set_cons_succ, i64_w, i32_w]
                         rfl
                        refine pure_ (i := 7) (N := some 117) (v := undef) (a' := ?_) #[true, true, true, true, true, true, true, true, false, false, false, false] rfl rfl (any_of HT_.out (by kernel_rfl)) (fun _ _ _ h => h) (Or.inr ⟨by rfl, rfl⟩) ?_ ?_
                        rotate_left
                        ·simp only [Act.put, List.setIfInBounds_toArray, List.set_cons_zero, List.set_cons_succ, i64_w, i32_w]
                         rfl
                        refine pure_ (i := 8) (N := some 118) (v := undef) (a' := ?_) #[true, true, true, true, true, true, true, true, true, false, false, false] rfl rfl (any_of HT_.out (by kernel_rfl)) (fun _ _ _ h => h) (Or.inr ⟨by rfl, rfl⟩) ?_ ?_
                        rotate_left
                        ·simp only [Act.put, List.setIfInBounds_toArray, List.set_cons_zero, List.set_cons_succ, i64_w, i32_w]
                         rfl
                        refine pure_ (i := 9) (N := some 119) (v := undef) (a' := ?_) #[true, true, true, true, true, true, true, true, true, true, false, false] rfl rfl (any_of HT_.out (by kernel_rfl)) (fun _ _ _ h => h) (Or.inr ⟨by rfl, rfl⟩) ?_ ?_
                        rotate_left
                        ·simp only [Act.put, List.setIfInBounds_toArray, List.set_cons_zero, List.set_cons_succ, i64_w, i32_w]
                         rfl
                        refine pure_ (i := 10) (N := some 120) (v := ?_) (a' := ?_) #[true, true, true, true, true, true, true, true, true, true, true, false] rfl rfl (any_of HT_.out (by kernel_rfl)) (fun _ _ _ h => h) (Or.inl ⟨by rfl, ?_⟩) ?_ ?_
                        rotate_left
                        ·intro w'
                         go_simp
                         with_reducible rfl
                        rotate_left
                        ·simp only [Act.put, List.setIfInBounds_toArray, List.set_cons_zero, List.set_cons_succ, i64_w, i32_w]
                         rfl
                        refine pure_ (i := 11) (N := some 9) (v := ?_) (a' := ?_) #[true, true, true, true, true, true, true, true, true, true, true, true] rfl rfl (any_of HT_.out (by kernel_rfl)) (fun _ _ _ h => h) (Or.inl ⟨by rfl, ?_⟩) ?_ ?_
                        rotate_left
                        ·intro w'
                         go_simp
                         with_reducible rfl
                        rotate_left
                        ·simp only [Act.put, List.setIfInBounds_toArray, List.set_cons_zero, List.set_cons_succ, i64_w, i32_w]
                         rfl
                        refine done_ (done_of HT_.out (by kernel_rfl)) ?_
                        try go_wp2
                        have n0_ := Aside0.mk (Kd.R_drew HO_7.out)
                        have n1_ := Aside0.mk (Kd.R_drew HO_11.out)
                        have n2_ := Aside0.mk (blk_drew BK424.out)
                        have n3_ := Aside0.mk (blk_drew BK428.out)
                        have n4_ := Aside0.mk (blk_drew BK449.out)
                        have n5_ := Aside0.mk (below_drew1 HB.out)
                        clear HO_7
                        clear HO_11
                        clear BK424
                        clear BK428
                        clear BK449
                        clear HB
                        have HO_7 := n0_
                        have HO_11 := n1_
                        have BK424 := n2_
                        have BK428 := n3_
                        have BK449 := n4_
                        have HB := n5_
                        clear n0_ n1_ n2_ n3_ n4_ n5_
                        refine start_ (n := 15) (S := fun w' => True) (ds := []) #[false, false, false, false, false, false, false, false, false, false, false, false, false, false, false] (by kernel_rfl) rfl rfl trivial (fun hHeld => ?_); refine with_tabW portolanlaw05_FlowOrder.tab28 portolanlaw05_FlowOrder.bits28 (fun HT_ HW_ => ?_)
                        generalize w80.drew = w81 at HO_7 HO_11 BK424 BK428 BK449 HB hHeld ⊢
                        refine pure_ (i := 0) (N := some 121) (v := ?_) (a' := ?_) #[true, false, false, false, false, false, false, false, false, false, false, false, false, false, false] rfl rfl (any_of HT_.out (by kernel_rfl)) (fun _ _ _ h => h) (Or.inl ⟨by rfl, ?_⟩) ?_ ?_
                        rotate_left
                        ·intro w'
                         go_simp
                         with_reducible rfl
                        rotate_left
                        ·simp only [Act.put, List.setIfInBounds_toArray, List.set_cons_zero, List.set_cons_succ, i64_w, i32_w]
                         rfl
                        refine pure_ (i := 1) (N := some 122) (v := ?_) (a' := ?_) #[true, true, false, false, false, false, false, false, false, false, false, false, false, false, false] rfl rfl (any_of HT_.out (by kernel_rfl)) (fun _ _ _ h => h) (Or.inl ⟨by rfl, ?_⟩) ?_ ?_
                        rotate_left
                        ·intro w'
                         go_simp
                         with_reducible rfl
                        rotate_left
                        ·simp only [Act.put, List.setIfInBounds_toArray, List.set_cons_zero, List.set_cons_succ, i64_w, i32_w]
                         rfl
                        refine pure_ (i := 2) (N := some 123) (v := undef) (a' := ?_) #[true, true, true, false, false, false, false, false, false, false, false, false, false, false, false] rfl rfl (any_of HT_.out (by kernel_rfl)) (fun _ _ _ h => h) (Or.inr ⟨by rfl, rfl⟩) ?_ ?_
                        rotate_left
                        ·simp only [Act.put, List.setIfInBounds_toArray, List.set_cons_zero, List.set_cons_succ, i64_w, i32_w]
                         rfl
                        refine pure_ (i := 3) (N := some 124) (v := undef) (a' := ?_) #[true, true, true, true, false, false, false, false, false, false, false, false, false, false, false] rfl rfl (any_of HT_.out (by kernel_rfl)) (fun _ _ _ h => h) (Or.inr ⟨by rfl, rfl⟩) ?_ ?_
                        rotate_left
                        ·simp only [Act.put, List.setIfInBounds_toArray, List.set_cons_zero, List.set_cons_succ, i64_w, i32_w]
                         rfl
                        refine pure_ (i := 4) (N := some 125) (v := undef) (a' := ?_) #[true, true, true, true, true, false, false, false, false, false, false, false, false, false, false] rfl rfl (any_of HT_.out (by kernel_rfl)) (fun _ _ _ h => h) (Or.inr ⟨by rfl, rfl⟩) ?_ ?_
                        rotate_left
                        ·simp only [Act.put, List.setIfInBounds_toArray, List.set_cons_zero, List.set_cons_succ, i64_w, i32_w]
                         rfl
                        refine pure_ (i := 5) (N := some 126) (v := undef) (a' := ?_) #[true, true, true, true, true, true, false, false, false, false, false, false, false, false, false] rfl rfl (any_of HT_.out (by kernel_rfl)) (fun _ _ _ h => h) (Or.inr ⟨by rfl, rfl⟩) ?_ ?_
                        rotate_left
                        ·simp only [Act.put, List.setIfInBounds_toArray, List.set_cons_zero, List.set_cons_succ, i64_w, i32_w]
                         rfl
                        refine pure_ (i := 6) (N := some 127) (v := undef) (a' := ?_) #[true, true, true, true, true, true, true, false, false, false, false, false, false, false, false] rfl rfl (any_of HT_.out (by kernel_rfl)) (fun _ _ _ h => h) (Or.inr ⟨by rfl, rfl⟩) ?_ ?_
                        rotate_left
                        ·simp only [Act.put, List.setIfInBounds_toArray, List.set_cons_zero, List.set_cons_succ, i64_w, i32_w]
                         rfl
                        refine pure_ (i := 7) (N := some 128) (v := undef) (a' := ?_) #[true, true, true, true, true, true, true, true, false, false, false, false, false, false, false] rfl rfl (any_of HT_.out (by kernel_rfl)) (fun _ _ _ h => h) (Or.inr ⟨by rfl, rfl⟩) ?_ ?_
                        rotate_left
                        ·simp only [Act.put, List.setIfInBounds_toArray, List.set_cons_zero, List.set_cons_succ, i64_w, i32_w]
                         rfl
                        refine pure_ (i := 8) (N := some 129) (v := undef) (a' := ?_) #[true, true, true, true, true, true, true, true, true, false, false, false, false, false, false] rfl rfl (any_of HT_.out (by kernel_rfl)) (fun _ _ _ h => h) (Or.inr ⟨by rfl, rfl⟩) ?_ ?_
                        rotate_left
                        ·simp only [Act.put, List.setIfInBounds_toArray, List.set_cons_zero, List.set_cons_succ, i64_w, i32_w]
                         rfl
                        refine pure_ (i := 9) (N := some 130) (v := undef) (a' := ?_) #[true, true, true, true, true, true, true, true, true, true, false, false, false, false, false] rfl rfl (any_of HT_.out (by kernel_rfl)) (fun _ _ _ h => h) (Or.inr ⟨by rfl, rfl⟩) ?_ ?_
                        rotate_left
                        ·simp only [Act.put, List.setIfInBounds_toArray, List.set_cons_zero, List.set_cons_succ, i64_w, i32_w]
                         rfl
                        refine pure_ (i := 10) (N := some 131) (v := undef) (a' := ?_) #[true, true, true, true, true, true, true, true, true, true, true, false, false, false, false] rfl rfl (any_of HT_.out (by kernel_rfl)) (fun _ _ _ h => h) (Or.inr ⟨by rfl, rfl⟩) ?_ ?_
                        rotate_left
                        ·simp only [Act.put, List.setIfInBounds_toArray, List.set_cons_zero, List.set_cons_succ, i64_w, i32_w]
                         rfl
                        refine pure_ (i := 11) (N := some 132) (v := undef) (a' := ?_) #[true, true, true, true, true, true, true, true, true, true, true, true, false, false, false] rfl rfl (any_of HT_.out (by kernel_rfl)) (fun _ _ _ h => h) (Or.inr ⟨by rfl, rfl⟩) ?_ ?_
                        rotate_left
                        ·simp only [Act.put, List.setIfInBounds_toArray, List.set_cons_zero, List.set_cons_succ, i64_w, i32_w]
                         rfl
                        refine pure_ (i := 12) (N := some 133) (v := undef) (a' := ?_) #[true, true, true, true, true, true, true, true, true, true, true, true, true, false, false] rfl rfl (any_of HT_.out (by kernel_rfl)) (fun _ _ _ h => h) (Or.inr ⟨by rfl, rfl⟩) ?_ ?_
                        rotate_left
                        ·simp only [Act.put, List.setIfInBounds_toArray, List.set_cons_zero, List.set_cons_succ, i64_w, i32_w]
                         rfl
                        refine pure_ (i := 13) (N := some 134) (v := ?_) (a' := ?_) #[true, true, true, true, true, true, true, true, true, true, true, true, true, true, false] rfl rfl (any_of HT_.out (by kernel_rfl)) (fun _ _ _ h => h) (Or.inl ⟨by rfl, ?_⟩) ?_ ?_
                        rotate_left
                        ·intro w'
                         go_simp
                         with_reducible rfl
                        rotate_left
                        ·simp only [Act.put, List.setIfInBounds_toArray, List.set_cons_zero, List.set_cons_succ, i64_w, i32_w]
                         rfl
                        refine pure_ (i := 14) (N := some 10) (v := ?_) (a' := ?_) #[true, true, true, true, true, true, true, true, true, true, true, true, true, true, true] rfl rfl (any_of HT_.out (by kernel_rfl)) (fun _ _ _ h => h) (Or.inl ⟨by rfl, ?_⟩) ?_ ?_
                        rotate_left
                        ·intro w'
                         go_simp
                         with_reducible rfl
                        rotate_left
                        ·simp only [Act.put, List.setIfInBounds_toArray, List.set_cons_zero, List.set_cons_succ, i64_w, i32_w]
                         rfl
                        refine done_ (done_of HT_.out (by kernel_rfl)) ?_
                        try go_wp2
                        go_roundg k4
                        case measure => have := HK1.out; have := HJ17.out; have := HK3.out; have := HK4.out; omega
                        case rel => exact ⟨(true), (true), (wrap64 (x12_4 + 1)), (by first | rfl | (simp; done) | (simp [*]; done)), (by first | rfl | (simp; done) | (simp [*]; done)), (by first | rfl | (simp; done) | (simp [*]; done)), H', ⟨by have := HK1.out; have := HJ17.out; have := HK3.out; have := HK4.out; omega⟩, ⟨by (with_reducible repeat (first | apply Kd.R_alloc | apply Kd.R_drewN | apply Kd.R_drew)); exact HO_7.out⟩, ⟨by (with_reducible repeat (first | apply Kd.R_alloc | apply Kd.R_drewN | apply Kd.R_drew)); exact Kd.R_mono HO_11.out (fun _ hk => trivial)⟩, ⟨by (with_reducible repeat (first | refine zq1 ?_ _ | refine zq2 ?_ | refine zq3 ?_ _)); exact BK424.out⟩, ⟨by (with_reducible repeat (first | refine zq1 ?_ _ | refine zq2 ?_ | refine zq3 ?_ _)); exact BK428.out⟩, ⟨by repeat (first | (with_reducible first | exact HB.out | apply zq5 | apply zq4 | apply zq6 | refine below_set ?_ GE424.out | refine below_set ?_ GE428.out | refine below_set ?_ GE449.out) | exact HB.out)⟩⟩
                       ·replace c72 := Bool.eq_false_iff.mpr c72
                        subst c72
                        have H1 : (if 0 ≤ ((rd_T40 t445 x12_4).f1) then (if ((rd_T40 t445 x12_4).f1) < (x7_3.length : Int) then (portolanlaw05_FlowOrder.l2 k4 x3_1 x7_3 true (decide ((rd x7_3 ((rd_T40 t445 x12_4).f1)) ≤ (rd x7_3 ((rd_T40 t445 x12_4).f0)))) t445 (wrap64 (x12_4 + 1)) l0_0 ((rd_T30 l0_0 x3_1).f0) ((rd_T30 l0_0 x3_1).f1) ((rd_T30 l0_0 x3_1).f2) ((rd_T30 l0_0 x3_1).f3) ((rd_T30 l0_0 x3_1).f4)) else (none)) else (none)) = some true := by first | (rw [if_neg (show ¬ (false = true) by decide)] at H; exact H) | rfl
                        clear H
                        have H := H1
                        clear H1
                        by_cases c82 : 0 ≤ ((rd_T40 t445 x12_4).f1)
                        ·rw [if_pos c82] at H
                         have c82b0 : decide (0 ≤ ((rd_T40 t445 x12_4).f1)) = true := decide_eq_true c82
                         clear c82
                         by_cases c83 : ((rd_T40 t445 x12_4).f1) < (x7_3.length : Int)
                         ·rw [if_pos c83] at H
                          have c83b0 : decide (((rd_T40 t445 x12_4).f1) < (x7_3.length : Int)) = true := decide_eq_true c83
                          clear c83
                          have H' := Aside0.mk H
                          clear H
                          obtain ⟨Ao84, co84, eo84⟩ := Kd.R_slice HO_11.out
                          subst eo84
                          have p448 : 0 ≤ (x12_4 : Int) := of_decide_eq_true (by first | (with_reducible assumption) | assumption)
                          have q448 : x12_4 < (t445.length : Int) := of_decide_eq_true (by first | (with_reducible assumption) | assumption)
                          obtain ⟨ad448, e448, hx448_0, hx448_1⟩ := at_T40 (Kd.R_reads' HO_11.out).2.2 x12_4 p448 q448
                          cases e448
                          replace p448 := eq_true p448
                          replace q448 := eq_true q448
                          try go_wp2_with (first | ((with_reducible refine gate_dst (N := 13) rfl ?_); (try (refine gate_guard (by rfl) ?_; dsimp only)); refine box_event ?hg (N := 13) ?hd (cs := #[.int .i64 0, .int .i64 0]) (t := 40) ?hr ?_; (case hd => rfl); (case hg => rfl); (case hr => first | (go_simp; done) | (go_simp; rfl)); intro gb449 hg w85 hbox hb; have n0_ := Aside0.mk (Kd.R_below (by (with_reducible repeat (first | apply Kd.R_alloc | apply Kd.R_drewN | apply Kd.R_drew)); exact HO_7.out) hb); have n1_ := Aside0.mk (Kd.R_below (Kd.R_elderB (by (with_reducible repeat (first | apply Kd.R_alloc | apply Kd.R_drewN | apply Kd.R_drew)); exact HO_11.out) gb449 (Nat.le_of_eq hg.symm)) hb); have n2_ := Aside0.mk (blk_below (g := gb424) (o := .cells #[.slice (some ad427) l0_0.length c0_0] 24 (0, 0)) (by (with_reducible repeat (first | refine zq1 ?_ _ | refine zq2 ?_ | refine zq3 ?_ _)); exact BK424.out) hb); have n3_ := Aside0.mk (blk_below (g := gb428) (o := .cells #[.slice A427_0 ((rd_T30 l0_0 x3_1).f0).length c427_0, .slice A427_1 ((rd_T30 l0_0 x3_1).f1).length c427_1, .int .i64 ((rd_T30 l0_0 x3_1).f2), .int .i64 ((rd_T30 l0_0 x3_1).f3), .slice A427_4 ((rd_T30 l0_0 x3_1).f4).length c427_4] 30 (0, 0)) (by (with_reducible repeat (first | refine zq1 ?_ _ | refine zq2 ?_ | refine zq3 ?_ _)); exact BK428.out) hb); have n4_ := Aside0.mk (below_step (by repeat (first | (with_reducible first | exact HB.out | apply zq5 | apply zq4 | apply zq6 | refine below_set ?_ GE424.out | refine below_set ?_ GE428.out) | exact HB.out)) hb); have n5_ := Aside0.mk (hbox); have n6_ := Aside0.mk ((by rw [hg]; exact (below_size (by repeat (first | (with_reducible first | exact HB.out | apply zq5 | apply zq4 | apply zq6 | refine below_set ?_ GE424.out | refine below_set ?_ GE428.out) | exact HB.out))) : w.heap.size ≤ gb449)); have n7_ := Aside0.mk ((by rw [hg]; exact (below_size (by repeat (first | (with_reducible first | exact HB.out | apply zq5 | apply zq4 | apply zq6 | refine below_set ?_ GE424.out | refine below_set ?_ GE428.out) | exact HB.out))) : w.heap.size ≤ gb449)); have n8_ := Aside0.mk ((by rw [hg]; exact Nat.ne_of_lt (blk_lt (g := gb424) (o := .cells #[.slice (some ad427) l0_0.length c0_0] 24 (0, 0)) (by (with_reducible repeat (first | refine zq1 ?_ _ | refine zq2 ?_ | refine zq3 ?_ _)); exact BK424.out)) : gb424 ≠ gb449)); have n9_ := Aside0.mk ((by rw [hg]; exact Nat.ne_of_gt (blk_lt (g := gb424) (o := .cells #[.slice (some ad427) l0_0.length c0_0] 24 (0, 0)) (by (with_reducible repeat (first | refine zq1 ?_ _ | refine zq2 ?_ | refine zq3 ?_ _)); exact BK424.out)) : gb449 ≠ gb424)); have n10_ := Aside0.mk ((by rw [hg]; exact Nat.ne_of_lt (blk_lt (g := gb428) (o := .cells #[.slice A427_0 ((rd_T30 l0_0 x3_1).f0).length c427_0, .slice A427_1 ((rd_T30 l0_0 x3_1).f1).length c427_1, .int .i64 ((rd_T30 l0_0 x3_1).f2), .int .i64 ((rd_T30 l0_0 x3_1).f3), .slice A427_4 ((rd_T30 l0_0 x3_1).f4).length c427_4] 30 (0, 0)) (by (with_reducible repeat (first | refine zq1 ?_ _ | refine zq2 ?_ | refine zq3 ?_ _)); exact BK428.out)) : gb428 ≠ gb449)); have n11_ := Aside0.mk ((by rw [hg]; exact Nat.ne_of_gt (blk_lt (g := gb428) (o := .cells #[.slice A427_0 ((rd_T30 l0_0 x3_1).f0).length c427_0, .slice A427_1 ((rd_T30 l0_0 x3_1).f1).length c427_1, .int .i64 ((rd_T30 l0_0 x3_1).f2), .int .i64 ((rd_T30 l0_0 x3_1).f3), .slice A427_4 ((rd_T30 l0_0 x3_1).f4).length c427_4] 30 (0, 0)) (by (with_reducible repeat (first | refine zq1 ?_ _ | refine zq2 ?_ | refine zq3 ?_ _)); exact BK428.out)) : gb449 ≠ gb428)); clear HO_7; clear HO_11; clear BK424; clear BK428; clear HB; have HO_7 := n0_; have HO_11 := n1_; have BK424 := n2_; have BK428 := n3_; have HB := n4_; have BK449 := n5_; have GW449 := n6_; have GE449 := n7_; have NB424_449 := n8_; have NB449_424 := n9_; have NB428_449 := n10_; have NB449_428 := n11_; clear n0_ n1_ n2_ n3_ n4_ n5_ n6_ n7_ n8_ n9_ n10_ n11_; clear hb hbox hg; have hnb86 := NB449_424.out; have hnc86 := NB424_449.out; have hnb87 := NB449_428.out; have hnc87 := NB428_449.out; have hcz88_0 : w85.cell? ⟨gb449, 0, none⟩ = some (.int .i64 0) := (blk_cell BK449.out 0).trans rfl; have hcz88_1 : w85.cell? ⟨gb449, 1, none⟩ = some (.int .i64 0) := (blk_cell BK449.out 1).trans rfl; have hfz88_0 := blk_frozen BK449.out 0; have hfz88_1 := blk_frozen BK449.out 1; obtain ⟨Ao89, co89, eo89⟩ := Kd.R_slice HO_7.out; subst eo89; have p450 : 0 ≤ (((rd_T40 t445 x12_4).f0) : Int) := of_decide_eq_true (by first | (with_reducible assumption) | assumption); have q450 : ((rd_T40 t445 x12_4).f0) < (x7_3.length : Int) := of_decide_eq_true (by first | (with_reducible assumption) | assumption); obtain ⟨ad450, e450, hx450_0⟩ := Kd.at_int (Kd.R_reads' HO_7.out).2.2 ((rd_T40 t445 x12_4).f0) p450 q450; cases e450; have hn450_0 : ad450.block ≠ gb449 := Kd.own_blk (Kd.R_ne HO_7.out BK449.out (by decide)); have hn450_1 : ad450.block ≠ gb449 := Kd.own_blk (Kd.R_ne HO_7.out BK449.out (by decide)); replace hx450_0 := (cell_far (p := ⟨gb449, 0, none⟩) (by first | (rw [add_block]; exact hn450_0) | (show (Addr.add _ _).block ≠ _; rw [add_block]; exact hn450_0) | exact hn450_0) (.int .i64 ((rd_T40 t445 x12_4).f0))).trans hx450_0; replace hx450_0 := (cell_far (p := ⟨gb449, 1, none⟩) (by first | (rw [add_block]; exact hn450_1) | (show (Addr.add _ _).block ≠ _; rw [add_block]; exact hn450_1) | exact hn450_1) (.int .i64 ((rd_T40 t445 x12_4).f1))).trans hx450_0; clear hn450_0; clear hn450_1; replace p450 := eq_true p450; replace q450 := eq_true q450))
                          have n0_ : Aside0 (Kd.R (Kd.int .i64) 3 ((w85.setCell ⟨gb449, 0, none⟩ (.int .i64 ((rd_T40 t445 x12_4).f0))).setCell ⟨gb449, 1, none⟩ (.int .i64 ((rd_T40 t445 x12_4).f1))) w.heap.size (fun _ => True) (.slice (some ad450) x7_3.length co89) x7_3) := ⟨by (with_reducible repeat (first | apply Kd.R_alloc | apply Kd.R_drewN | apply Kd.R_drew)); exact Kd.R_mono (Kd.R_far (p := ⟨gb449, 1, none⟩) (Kd.R_far (p := ⟨gb449, 0, none⟩) (Kd.R_types HO_7.out BK449.out (by decide)) (fun _ hk => hk.2) (.int .i64 ((rd_T40 t445 x12_4).f0))) (fun _ hk => hk.2) (.int .i64 ((rd_T40 t445 x12_4).f1))) (fun _ hk => trivial)⟩
                          have n1_ : Aside0 (Kd.R k40 40 ((w85.setCell ⟨gb449, 0, none⟩ (.int .i64 ((rd_T40 t445 x12_4).f0))).setCell ⟨gb449, 1, none⟩ (.int .i64 ((rd_T40 t445 x12_4).f1))) w.heap.size (fun k_ => k_ ≠ gb449) (.slice (some ad448) t445.length co84) t445) := ⟨by (with_reducible repeat (first | apply Kd.R_alloc | apply Kd.R_drewN | apply Kd.R_drew)); exact Kd.R_mono (Kd.R_far (p := ⟨gb449, 1, none⟩) (Kd.R_far (p := ⟨gb449, 0, none⟩) (Kd.R_mono HO_11.out (fun k_ hk => (⟨hk, hk.2⟩ : _ ∧ k_ ≠ gb449))) (fun _ hk => hk.2) (.int .i64 ((rd_T40 t445 x12_4).f0))) (fun _ hk => hk.2) (.int .i64 ((rd_T40 t445 x12_4).f1))) (fun _ hk => hk.1.2)⟩
                          have n2_ : Aside0 (((w85.setCell ⟨gb449, 0, none⟩ (.int .i64 ((rd_T40 t445 x12_4).f0))).setCell ⟨gb449, 1, none⟩ (.int .i64 ((rd_T40 t445 x12_4).f1))).heap[gb424]? = some (.cells #[.slice (some ad427) l0_0.length c0_0] 24 (0, 0))) := ⟨by (with_reducible repeat (first | refine zq1 ?_ _ | refine zq2 ?_ | refine zq3 ?_ _)); refine blk_far ?_ NB424_449.out _; (with_reducible repeat (first | refine zq1 ?_ _ | refine zq2 ?_ | refine zq3 ?_ _)); refine blk_far ?_ NB424_449.out _; (with_reducible repeat (first | refine zq1 ?_ _ | refine zq2 ?_ | refine zq3 ?_ _)); exact BK424.out⟩
                          have n3_ : Aside0 (((w85.setCell ⟨gb449, 0, none⟩ (.int .i64 ((rd_T40 t445 x12_4).f0))).setCell ⟨gb449, 1, none⟩ (.int .i64 ((rd_T40 t445 x12_4).f1))).heap[gb428]? = some (.cells #[.slice A427_0 ((rd_T30 l0_0 x3_1).f0).length c427_0, .slice A427_1 ((rd_T30 l0_0 x3_1).f1).length c427_1, .int .i64 ((rd_T30 l0_0 x3_1).f2), .int .i64 ((rd_T30 l0_0 x3_1).f3), .slice A427_4 ((rd_T30 l0_0 x3_1).f4).length c427_4] 30 (0, 0))) := ⟨by (with_reducible repeat (first | refine zq1 ?_ _ | refine zq2 ?_ | refine zq3 ?_ _)); refine blk_far ?_ NB428_449.out _; (with_reducible repeat (first | refine zq1 ?_ _ | refine zq2 ?_ | refine zq3 ?_ _)); refine blk_far ?_ NB428_449.out _; (with_reducible repeat (first | refine zq1 ?_ _ | refine zq2 ?_ | refine zq3 ?_ _)); exact BK428.out⟩
                          have n4_ : Aside0 (((w85.setCell ⟨gb449, 0, none⟩ (.int .i64 ((rd_T40 t445 x12_4).f0))).setCell ⟨gb449, 1, none⟩ (.int .i64 ((rd_T40 t445 x12_4).f1))).heap[gb449]? = some (.cells #[.int .i64 ((rd_T40 t445 x12_4).f0), .int .i64 ((rd_T40 t445 x12_4).f1)] 40 (0, 0))) := ⟨by (with_reducible repeat (first | refine zq1 ?_ _ | refine zq2 ?_ | refine zq3 ?_ _)); refine blk_put (cs := #[.int .i64 ((rd_T40 t445 x12_4).f0), .int .i64 0]) ?_ 1 _ rfl; (with_reducible repeat (first | refine zq1 ?_ _ | refine zq2 ?_ | refine zq3 ?_ _)); refine blk_put (cs := #[.int .i64 0, .int .i64 0]) ?_ 0 _ rfl; (with_reducible repeat (first | refine zq1 ?_ _ | refine zq2 ?_ | refine zq3 ?_ _)); exact BK449.out⟩
                          have n5_ : Aside0 (Below w.heap.size w ((w85.setCell ⟨gb449, 0, none⟩ (.int .i64 ((rd_T40 t445 x12_4).f0))).setCell ⟨gb449, 1, none⟩ (.int .i64 ((rd_T40 t445 x12_4).f1)))) := ⟨by repeat (first | (with_reducible first | exact HB.out | apply zq5 | apply zq4 | apply zq6 | refine below_set ?_ GE424.out | refine below_set ?_ GE428.out | refine below_set ?_ GE449.out) | exact HB.out)⟩
                          (try clear HO_7)
                          (try clear HO_11)
                          (try clear BK424)
                          (try clear BK428)
                          (try clear BK449)
                          (try clear HB)
                          generalize ((w85.setCell ⟨gb449, 0, none⟩ (.int .i64 ((rd_T40 t445 x12_4).f0))).setCell ⟨gb449, 1, none⟩ (.int .i64 ((rd_T40 t445 x12_4).f1))) = w90 at n0_ n1_ n2_ n3_ n4_ n5_ ⊢
                          have HO_7 := n0_
                          have HO_11 := n1_
                          have BK424 := n2_
                          have BK428 := n3_
                          have BK449 := n4_
                          have HB := n5_
                          clear n0_ n1_ n2_ n3_ n4_ n5_
                          have n0_ := Aside0.mk (Kd.R_drew HO_7.out)
                          have n1_ := Aside0.mk (Kd.R_drew HO_11.out)
                          have n2_ := Aside0.mk (blk_drew BK424.out)
                          have n3_ := Aside0.mk (blk_drew BK428.out)
                          have n4_ := Aside0.mk (blk_drew BK449.out)
                          have n5_ := Aside0.mk (below_drew1 HB.out)
                          clear HO_7
                          clear HO_11
                          clear BK424
                          clear BK428
                          clear BK449
                          clear HB
                          have HO_7 := n0_
                          have HO_11 := n1_
                          have BK424 := n2_
                          have BK428 := n3_
                          have BK449 := n4_
                          have HB := n5_
                          clear n0_ n1_ n2_ n3_ n4_ n5_
                          refine start_ (n := 12) (S := fun w' => True) (ds := []) #[false, false, false, false, false, false, false, false, false, false, false, false] (by kernel_rfl) rfl rfl trivial (fun hHeld => ?_); refine with_tabW portolanlaw05_FlowOrder.tab27 portolanlaw05_FlowOrder.bits27 (fun HT_ HW_ => ?_)
                          generalize w90.drew = w91 at HO_7 HO_11 BK424 BK428 BK449 HB hHeld ⊢
                          refine pure_ (i := 0) (N := some 110) (v := ?_) (a' := ?_) #[true, false, false, false, false, false, false, false, false, false, false, false] rfl rfl (any_of HT_.out (by kernel_rfl)) (fun _ _ _ h => h) (Or.inl ⟨by rfl, ?_⟩) ?_ ?_
                          rotate_left
                          ·intro w'
                           go_simp
                           with_reducible rfl
                          rotate_left
                          ·simp only [Act.put, List.setIfInBounds_toArray, List.set_cons_zero, List.set_cons_succ, i64_w, i32_w]
                           rfl
                          refine pure_ (i := 1) (N := some 111) (v := ?_) (a' := ?_) #[true, true, false, false, false, false, false, false, false, false, false, false] rfl rfl (any_of HT_.out (by kernel_rfl)) (fun _ _ _ h => h) (Or.inl ⟨by rfl, ?_⟩) ?_ ?_
                          rotate_left
                          ·intro w'
                           go_simp
                           with_reducible rfl
                          rotate_left
                          ·simp only [Act.put, List.setIfInBounds_toArray, List.set_cons_zero, List.set_cons_succ, i64_w, i32_w]
                           rfl
                          refine pure_ (i := 2) (N := some 112) (v := undef) (a' := ?_) #[true, true, true, false, false, false, false, false, false, false, false, false] rfl rfl (any_of HT_.out (by kernel_rfl)) (fun _ _ _ h => h) (Or.inr ⟨by rfl, rfl⟩) ?_ ?_
                          rotate_left
                          ·simp only [Act.put, List.setIfInBounds_toArray, List.set_cons_zero, List.set_cons_succ, i64_w, i32_w]
                           rfl
                          refine pure_ (i := 3) (N := some 113) (v := undef) (a' := ?_) #[true, true, true, true, false, false, false, false, false, false, false, false] rfl rfl (any_of HT_.out (by kernel_rfl)) (fun _ _ _ h => h) (Or.inr ⟨by rfl, rfl⟩) ?_ ?_
                          rotate_left
                          ·simp only [Act.put, List.setIfInBounds_toArray, List.set_cons_zero, List.set_cons_succ, i64_w, i32_w]
                           rfl
                          refine pure_ (i := 4) (N := some 114) (v := undef) (a' := ?_) #[true, true, true, true, true, false, false, false, false, false, false, false] rfl rfl (any_of HT_.out (by kernel_rfl)) (fun _ _ _ h => h) (Or.inr ⟨by rfl, rfl⟩) ?_ ?_
                          rotate_left
                          ·simp only [Act.put, List.setIfInBounds_toArray, List.set_cons_zero, List.set_cons_succ, i64_w, i32_w]
                           rfl
                          refine pure_ (i := 5) (N := some 115) (v := undef) (a' := ?_) #[true, true, true, true, true, true, false, false, false, false, false, false] rfl rfl (any_of HT_.out (by kernel_rfl)) (fun _ _ _ h => h) (Or.inr ⟨by rfl, rfl⟩) ?_ ?_
                          rotate_left
                          ·simp only [Act.put, List.setIfInBounds_toArray, List.set_cons_zero, List.set_cons_succ, i64_w, i32_w]
                           rfl
                          refine pure_ (i := 6) (N := some 116) (v := undef) (a' := ?_) #[true, true, true, true, true, true, true, false, false, false, false, false] rfl rfl (any_of HT_.out (by kernel_rfl)) (fun _ _ _ h => h) (Or.inr ⟨by rfl, rfl⟩) ?_ ?_
                          rotate_left
                          ·simp only [Act.put, List.setIfInBounds_toArray, List.set_cons_zero, List.set_cons_succ, i64_w, i32_w]
                           rfl
                          refine pure_ (i := 7) (N := some 117) (v := undef) (a' := ?_) #[true, true, true, true, true, true, true, true, false, false, false, false] rfl rfl (any_of HT_.out (by kernel_rfl)) (fun _ _ _ h => h) (Or.inr ⟨by rfl, rfl⟩) ?_ ?_
                          rotate_left
                          ·simp only [Act.put, List.setIfInBounds_toArray, List.set_cons_zero, List.set_cons_succ, i64_w, i32_w]
                           rfl
                          refine pure_ (i := 8) (N := some 118) (v := undef) (a' := ?_) #[true, true, true, true, true, true, true, true, true, false, false, false] rfl rfl (any_of HT_.out (by kernel_rfl)) (fun _ _ _ h => h) (Or.inr ⟨by rfl, rfl⟩) ?_ ?_
                          rotate_left
                          ·simp only [Act.put, List.setIfInBounds_toArray, List.set_cons_zero, List.set_cons_succ, i64_w, i32_w]
                           rfl
                          refine pure_ (i := 9) (N := some 119) (v := undef) (a' := ?_) #[true, true, true, true, true, true, true, true, true, true, false, false] rfl rfl (any_of HT_.out (by kernel_rfl)) (fun _ _ _ h => h) (Or.inr ⟨by rfl, rfl⟩) ?_ ?_
                          rotate_left
                          ·simp only [Act.put, List.setIfInBounds_toArray, List.set_cons_zero, List.set_cons_succ, i64_w, i32_w]
                           rfl
                          refine pure_ (i := 10) (N := some 120) (v := ?_) (a' := ?_) #[true, true, true, true, true, true, true, true, true, true, true, false] rfl rfl (any_of HT_.out (by kernel_rfl)) (fun _ _ _ h => h) (Or.inl ⟨by rfl, ?_⟩) ?_ ?_
                          rotate_left
                          ·intro w'
                           go_simp
                           with_reducible rfl
                          rotate_left
                          ·simp only [Act.put, List.setIfInBounds_toArray, List.set_cons_zero, List.set_cons_succ, i64_w, i32_w]
                           rfl
                          refine pure_ (i := 11) (N := some 9) (v := ?_) (a' := ?_) #[true, true, true, true, true, true, true, true, true, true, true, true] rfl rfl (any_of HT_.out (by kernel_rfl)) (fun _ _ _ h => h) (Or.inl ⟨by rfl, ?_⟩) ?_ ?_
                          rotate_left
                          ·intro w'
                           go_simp
                           with_reducible rfl
                          rotate_left
                          ·simp only [Act.put, List.setIfInBounds_toArray, List.set_cons_zero, List.set_cons_succ, i64_w, i32_w]
                           rfl
                          refine done_ (done_of HT_.out (by kernel_rfl)) ?_
                          try go_wp2
                          have n0_ := Aside0.mk (Kd.R_drew HO_7.out)
                          have n1_ := Aside0.mk (Kd.R_drew HO_11.out)
                          have n2_ := Aside0.mk (blk_drew BK424.out)
                          have n3_ := Aside0.mk (blk_drew BK428.out)
                          have n4_ := Aside0.mk (blk_drew BK449.out)
                          have n5_ := Aside0.mk (below_drew1 HB.out)
                          clear HO_7
                          clear HO_11
                          clear BK424
                          clear BK428
                          clear BK449
                          clear HB
                          have HO_7 := n0_
                          have HO_11 := n1_
                          have BK424 := n2_
                          have BK428 := n3_
                          have BK449 := n4_
                          have HB := n5_
                          clear n0_ n1_ n2_ n3_ n4_ n5_
                          have p451 : 0 ≤ (((rd_T40 t445 x12_4).f1) : Int) := of_decide_eq_true (by first | (with_reducible assumption) | assumption)
                          have q451 : ((rd_T40 t445 x12_4).f1) < (x7_3.length : Int) := of_decide_eq_true (by first | (with_reducible assumption) | assumption)
                          obtain ⟨ad451, e451, hx451_0⟩ := Kd.at_int (Kd.R_reads' HO_7.out).2.2 ((rd_T40 t445 x12_4).f1) p451 q451
                          obtain rfl : ad450 = ad451 := (by injection e451)
                          replace p451 := eq_true p451
                          replace q451 := eq_true q451
                          have p452 : 0 ≤ (((rd_T40 t445 x12_4).f0) : Int) := of_decide_eq_true (by first | (with_reducible assumption) | assumption)
                          have q452 : ((rd_T40 t445 x12_4).f0) < (x7_3.length : Int) := of_decide_eq_true (by first | (with_reducible assumption) | assumption)
                          obtain ⟨ad452, e452, hx452_0⟩ := Kd.at_int (Kd.R_reads' HO_7.out).2.2 ((rd_T40 t445 x12_4).f0) p452 q452
                          obtain rfl : ad450 = ad452 := (by injection e452)
                          replace p452 := eq_true p452
                          replace q452 := eq_true q452
                          refine start_ (n := 15) (S := fun w' => w'.cell? ⟨gb449, 0, none⟩ = some (.int .i64 ((rd_T40 t445 x12_4).f0)) ∧ w'.cell? ⟨gb449, 1, none⟩ = some (.int .i64 ((rd_T40 t445 x12_4).f1)) ∧ w'.cell? (ad450.add (((rd_T40 t445 x12_4).f1)).toNat) = some (.int .i64 (rd x7_3 ((rd_T40 t445 x12_4).f1))) ∧ w'.cell? (ad450.add (((rd_T40 t445 x12_4).f0)).toNat) = some (.int .i64 (rd x7_3 ((rd_T40 t445 x12_4).f0)))) (ds := []) #[false, false, false, false, false, false, false, false, false, false, false, false, false, false, false] (by kernel_rfl) rfl rfl ⟨(blk_cell BK449.out 0).trans rfl, (blk_cell BK449.out 1).trans rfl, hx451_0, hx452_0⟩ (fun hHeld => ?_); refine with_tabW portolanlaw05_FlowOrder.tab28 portolanlaw05_FlowOrder.bits28 (fun HT_ HW_ => ?_)
                          generalize w91.drew = w92 at HO_7 HO_11 BK424 BK428 BK449 HB hx451_0 hx452_0 hHeld ⊢
                          refine pure_ (i := 0) (N := some 121) (v := ?_) (a' := ?_) #[true, false, false, false, false, false, false, false, false, false, false, false, false, false, false] rfl rfl (any_of HT_.out (by kernel_rfl)) (fun _ _ _ h => h) (Or.inl ⟨by rfl, ?_⟩) ?_ ?_
                          rotate_left
                          ·intro w'
                           go_simp
                           with_reducible rfl
                          rotate_left
                          ·simp only [Act.put, List.setIfInBounds_toArray, List.set_cons_zero, List.set_cons_succ, i64_w, i32_w]
                           rfl
                          refine pure_ (i := 1) (N := some 122) (v := ?_) (a' := ?_) #[true, true, false, false, false, false, false, false, false, false, false, false, false, false, false] rfl rfl (any_of HT_.out (by kernel_rfl)) (fun _ _ _ h => h) (Or.inl ⟨by rfl, ?_⟩) ?_ ?_
                          rotate_left
                          ·intro w'
                           go_simp
                           with_reducible rfl
                          rotate_left
                          ·simp only [Act.put, List.setIfInBounds_toArray, List.set_cons_zero, List.set_cons_succ, i64_w, i32_w]
                           rfl
                          refine pure_ (i := 2) (N := some 123) (v := ?_) (a' := ?_) #[true, true, true, false, false, false, false, false, false, false, false, false, false, false, false] rfl rfl (any_of HT_.out (by kernel_rfl)) (fun _ _ _ h => h) (Or.inl ⟨by rfl, ?_⟩) ?_ ?_
                          rotate_left
                          ·intro w'
                           go_simp
                           with_reducible rfl
                          rotate_left
                          ·simp only [Act.put, List.setIfInBounds_toArray, List.set_cons_zero, List.set_cons_succ, i64_w, i32_w]
                           rfl
                          refine pure_ (i := 3) (N := some 124) (v := ?_) (a' := ?_) #[true, true, true, true, false, false, false, false, false, false, false, false, false, false, false] rfl rfl (any_of HT_.out (by kernel_rfl)) (fun _ _ _ h => h) (Or.inl ⟨by rfl, ?_⟩) ?_ ?_
                          rotate_left
                          ·intro w'
                           go_simp
                           with_reducible rfl
                          rotate_left
                          ·simp only [Act.put, List.setIfInBounds_toArray, List.set_cons_zero, List.set_cons_succ, i64_w, i32_w]
                           rfl
                          refine pure_ (i := 7) (N := some 128) (v := ?_) (a' := ?_) #[true, true, true, true, false, false, false, true, false, false, false, false, false, false, false] rfl rfl (any_of HT_.out (by kernel_rfl)) (fun _ _ _ h => h) (Or.inl ⟨by rfl, ?_⟩) ?_ ?_
                          rotate_left
                          ·intro w'
                           go_simp
                           with_reducible rfl
                          rotate_left
                          ·simp only [Act.put, List.setIfInBounds_toArray, List.set_cons_zero, List.set_cons_succ, i64_w, i32_w]
                           rfl
                          refine pure_ (i := 8) (N := some 129) (v := ?_) (a' := ?_) #[true, true, true, true, false, false, false, true, true, false, false, false, false, false, false] rfl rfl (any_of HT_.out (by kernel_rfl)) (fun _ _ _ h => h) (Or.inl ⟨by rfl, ?_⟩) ?_ ?_
                          rotate_left
                          ·intro w'
                           go_simp
                           with_reducible rfl
                          rotate_left
                          ·simp only [Act.put, List.setIfInBounds_toArray, List.set_cons_zero, List.set_cons_succ, i64_w, i32_w]
                           rfl
                          refine take_ (i := 4) (N := some 125) (v := ?_) (a' := ?_) #[true, true, true, true, true, false, false, true, true, false, false, false, false, false, false] rfl rfl (take_ofW HT_.out HW_.out (by kernel_rfl)) (fun _ _ _ h => h) (Or.inl ⟨by rfl, ?_⟩) hHeld ?_ ?_
                          rotate_left
                          ·rintro w' ⟨s0, s1, s2, s3⟩
                           go_simp
                           with_reducible rfl
                          rotate_left
                          ·simp only [Act.put, List.setIfInBounds_toArray, List.set_cons_zero, List.set_cons_succ, i64_w, i32_w]
                           rfl
                          refine pure_ (i := 5) (N := some 126) (v := ?_) (a' := ?_) #[true, true, true, true, true, true, false, true, true, false, false, false, false, false, false] rfl rfl (any_of HT_.out (by kernel_rfl)) (fun _ _ _ h => h) (Or.inl ⟨by rfl, ?_⟩) ?_ ?_
                          rotate_left
                          ·intro w'
                           go_simp
                           with_reducible rfl
                          rotate_left
                          ·simp only [Act.put, List.setIfInBounds_toArray, List.set_cons_zero, List.set_cons_succ, i64_w, i32_w]
                           rfl
                          refine take_ (i := 6) (N := some 127) (v := ?_) (a' := ?_) #[true, true, true, true, true, true, true, true, true, false, false, false, false, false, false] rfl rfl (take_ofW HT_.out HW_.out (by kernel_rfl)) (fun _ _ _ h => h) (Or.inl ⟨by rfl, ?_⟩) hHeld ?_ ?_
                          rotate_left
                          ·rintro w' ⟨s0, s1, s2, s3⟩
                           go_simp
                           with_reducible rfl
                          rotate_left
                          ·simp only [Act.put, List.setIfInBounds_toArray, List.set_cons_zero, List.set_cons_succ, i64_w, i32_w]
                           rfl
                          refine take_ (i := 9) (N := some 130) (v := ?_) (a' := ?_) #[true, true, true, true, true, true, true, true, true, true, false, false, false, false, false] rfl rfl (take_ofW HT_.out HW_.out (by kernel_rfl)) (fun _ _ _ h => h) (Or.inl ⟨by rfl, ?_⟩) hHeld ?_ ?_
                          rotate_left
                          ·rintro w' ⟨s0, s1, s2, s3⟩
                           go_simp
                           with_reducible rfl
                          rotate_left
                          ·simp only [Act.put, List.setIfInBounds_toArray, List.set_cons_zero, List.set_cons_succ, i64_w, i32_w]
                           rfl
                          refine pure_ (i := 10) (N := some 131) (v := ?_) (a' := ?_) #[true, true, true, true, true, true, true, true, true, true, true, false, false, false, false] rfl rfl (any_of HT_.out (by kernel_rfl)) (fun _ _ _ h => h) (Or.inl ⟨by rfl, ?_⟩) ?_ ?_
                          rotate_left
                          ·intro w'
                           go_simp
                           with_reducible rfl
                          rotate_left
                          ·simp only [Act.put, List.setIfInBounds_toArray, List.set_cons_zero, List.set_cons_succ, i64_w, i32_w]
                           rfl
                          refine take_ (i := 11) (N := some 132) (v := ?_) (a' := ?_) #[true, true, true, true, true, true, true, true, true, true, true, true, false, false, false] rfl rfl (take_ofW HT_.out HW_.out (by kernel_rfl)) (fun _ _ _ h => h) (Or.inl ⟨by rfl, ?_⟩) hHeld ?_ ?_
                          rotate_left
                          ·rintro w' ⟨s0, s1, s2, s3⟩
                           go_simp
                           with_reducible rfl
                          rotate_left
                          ·simp only [Act.put, List.setIfInBounds_toArray, List.set_cons_zero, List.set_cons_succ, i64_w, i32_w]
                           rfl
                          refine pure_ (i := 12) (N := some 133) (v := ?_) (a' := ?_) #[true, true, true, true, true, true, true, true, true, true, true, true, true, false, false] rfl rfl (any_of HT_.out (by kernel_rfl)) (fun _ _ _ h => h) (Or.inl ⟨by rfl, ?_⟩) ?_ ?_
                          rotate_left
                          ·intro w'
                           go_simp
                           with_reducible rfl
                          rotate_left
                          ·simp only [Act.put, List.setIfInBounds_toArray, List.set_cons_zero, List.set_cons_succ, i64_w, i32_w]
                           rfl
                          refine pure_ (i := 13) (N := some 134) (v := ?_) (a' := ?_) #[true, true, true, true, true, true, true, true, true, true, true, true, true, true, false] rfl rfl (any_of HT_.out (by kernel_rfl)) (fun _ _ _ h => h) (Or.inl ⟨by rfl, ?_⟩) ?_ ?_
                          rotate_left
                          ·intro w'
                           go_simp
                           with_reducible rfl
                          rotate_left
                          ·simp only [Act.put, List.setIfInBounds_toArray, List.set_cons_zero, List.set_cons_succ, i64_w, i32_w]
                           rfl
                          refine pure_ (i := 14) (N := some 10) (v := ?_) (a' := ?_) #[true, true, true, true, true, true, true, true, true, true, true, true, true, true, true] rfl rfl (any_of HT_.out (by kernel_rfl)) (fun _ _ _ h => h) (Or.inl ⟨by rfl, ?_⟩) ?_ ?_
                          rotate_left
                          ·intro w'
                           go_simp
                           with_reducible rfl
                          rotate_left
                          ·simp only [Act.put, List.setIfInBounds_toArray, List.set_cons_zero, List.set_cons_succ, i64_w, i32_w]
                           rfl
                          refine done_ (done_of HT_.out (by kernel_rfl)) ?_
                          try go_wp2
                          go_roundg k4
                          case measure => have := HK1.out; have := HJ17.out; have := HK3.out; have := HK4.out; omega
                          case rel => exact ⟨(true), (decide ((rd x7_3 ((rd_T40 t445 x12_4).f1)) ≤ (rd x7_3 ((rd_T40 t445 x12_4).f0)))), (wrap64 (x12_4 + 1)), (by first | rfl | (simp; done) | (simp [*]; done)), (by first | rfl | (simp; done) | (simp [*]; done)), (by first | rfl | (simp; done) | (simp [*]; done)), H', ⟨by have := HK1.out; have := HJ17.out; have := HK3.out; have := HK4.out; omega⟩, ⟨by (with_reducible repeat (first | apply Kd.R_alloc | apply Kd.R_drewN | apply Kd.R_drew)); exact HO_7.out⟩, ⟨by (with_reducible repeat (first | apply Kd.R_alloc | apply Kd.R_drewN | apply Kd.R_drew)); exact Kd.R_mono HO_11.out (fun _ hk => trivial)⟩, ⟨by (with_reducible repeat (first | refine zq1 ?_ _ | refine zq2 ?_ | refine zq3 ?_ _)); exact BK424.out⟩, ⟨by (with_reducible repeat (first | refine zq1 ?_ _ | refine zq2 ?_ | refine zq3 ?_ _)); exact BK428.out⟩, ⟨by repeat (first | (with_reducible first | exact HB.out | apply zq5 | apply zq4 | apply zq6 | refine below_set ?_ GE424.out | refine below_set ?_ GE428.out | refine below_set ?_ GE449.out) | exact HB.out)⟩⟩
                         ·rw [if_neg c83] at H
                          exact absurd H (by simp)
                        ·rw [if_neg c82] at H
                         exact absurd H (by simp)
                      ·replace c71 := Bool.eq_false_iff.mpr c71
                       subst c71
                       have H1 : ((portolanref05_Within.f k4 ((rd_T30 l0_0 x3_1).f0) ((rd_T30 l0_0 x3_1).f1) ((rd_T30 l0_0 x3_1).f2) ((rd_T30 l0_0 x3_1).f3) ((rd_T30 l0_0 x3_1).f4) ((rd_T40 t445 x12_4).f1) (-1)).bind fun t453 => (if ((rd_T40 t445 x12_4).f0) < (t453.length : Int) then (if x10_4 = true then (portolanlaw05_FlowOrder.l2 k4 x3_1 x7_3 (rdOf false t453 ((rd_T40 t445 x12_4).f0)) true t445 (wrap64 (x12_4 + 1)) l0_0 ((rd_T30 l0_0 x3_1).f0) ((rd_T30 l0_0 x3_1).f1) ((rd_T30 l0_0 x3_1).f2) ((rd_T30 l0_0 x3_1).f3) ((rd_T30 l0_0 x3_1).f4)) else (if 0 ≤ ((rd_T40 t445 x12_4).f1) then (if ((rd_T40 t445 x12_4).f1) < (x7_3.length : Int) then (portolanlaw05_FlowOrder.l2 k4 x3_1 x7_3 (rdOf false t453 ((rd_T40 t445 x12_4).f0)) (decide ((rd x7_3 ((rd_T40 t445 x12_4).f1)) ≤ (rd x7_3 ((rd_T40 t445 x12_4).f0)))) t445 (wrap64 (x12_4 + 1)) l0_0 ((rd_T30 l0_0 x3_1).f0) ((rd_T30 l0_0 x3_1).f1) ((rd_T30 l0_0 x3_1).f2) ((rd_T30 l0_0 x3_1).f3) ((rd_T30 l0_0 x3_1).f4)) else (none)) else (none))) else (none))) = some true := by first | (rw [if_neg (show ¬ (false = true) by decide)] at H; exact H) | rfl
                       clear H
                       have H := H1
                       clear H1
                       replace H := Option.bind_eq_some_iff.mp H
                       obtain ⟨t453, A930, H⟩ := H
                       replace H : (if ((rd_T40 t445 x12_4).f0) < (t453.length : Int) then (if x10_4 = true then (portolanlaw05_FlowOrder.l2 k4 x3_1 x7_3 (rdOf false t453 ((rd_T40 t445 x12_4).f0)) true t445 (wrap64 (x12_4 + 1)) l0_0 ((rd_T30 l0_0 x3_1).f0) ((rd_T30 l0_0 x3_1).f1) ((rd_T30 l0_0 x3_1).f2) ((rd_T30 l0_0 x3_1).f3) ((rd_T30 l0_0 x3_1).f4)) else (if 0 ≤ ((rd_T40 t445 x12_4).f1) then (if ((rd_T40 t445 x12_4).f1) < (x7_3.length : Int) then (portolanlaw05_FlowOrder.l2 k4 x3_1 x7_3 (rdOf false t453 ((rd_T40 t445 x12_4).f0)) (decide ((rd x7_3 ((rd_T40 t445 x12_4).f1)) ≤ (rd x7_3 ((rd_T40 t445 x12_4).f0)))) t445 (wrap64 (x12_4 + 1)) l0_0 ((rd_T30 l0_0 x3_1).f0) ((rd_T30 l0_0 x3_1).f1) ((rd_T30 l0_0 x3_1).f2) ((rd_T30 l0_0 x3_1).f3) ((rd_T30 l0_0 x3_1).f4)) else (none)) else (none))) else (none)) = some true := H
                       have A93 := Aside0.mk A930
                       clear A930
                       by_cases c94 : ((rd_T40 t445 x12_4).f0) < (t453.length : Int)
                       ·rw [if_pos c94] at H
                        have c94b0 : decide (((rd_T40 t445 x12_4).f0) < (t453.length : Int)) = true := decide_eq_true c94
                        clear c94
                        by_cases c95 : x10_4 = true
                        ·subst c95
                         have H1 : (portolanlaw05_FlowOrder.l2 k4 x3_1 x7_3 (rdOf false t453 ((rd_T40 t445 x12_4).f0)) true t445 (wrap64 (x12_4 + 1)) l0_0 ((rd_T30 l0_0 x3_1).f0) ((rd_T30 l0_0 x3_1).f1) ((rd_T30 l0_0 x3_1).f2) ((rd_T30 l0_0 x3_1).f3) ((rd_T30 l0_0 x3_1).f4)) = some true := by first | (rw [if_pos rfl] at H; exact H) | rfl
                         clear H
                         have H := H1
                         clear H1
                         have H' := Aside0.mk H
                         clear H
                         obtain ⟨Ao96, co96, eo96⟩ := Kd.R_slice HO_11.out
                         subst eo96
                         have p448 : 0 ≤ (x12_4 : Int) := of_decide_eq_true (by first | (with_reducible assumption) | assumption)
                         have q448 : x12_4 < (t445.length : Int) := of_decide_eq_true (by first | (with_reducible assumption) | assumption)
                         obtain ⟨ad448, e448, hx448_0, hx448_1⟩ := at_T40 (Kd.R_reads' HO_11.out).2.2 x12_4 p448 q448
                         cases e448
                         replace p448 := eq_true p448
                         replace q448 := eq_true q448
                         try go_wp2_with (first | ((with_reducible refine gate_dst (N := 13) rfl ?_); (try (refine gate_guard (by rfl) ?_; dsimp only)); refine box_event ?hg (N := 13) ?hd (cs := #[.int .i64 0, .int .i64 0]) (t := 40) ?hr ?_; (case hd => rfl); (case hg => rfl); (case hr => first | (go_simp; done) | (go_simp; rfl)); intro gb449 hg w97 hbox hb; have n0_ := Aside0.mk (Kd.R_below (by (with_reducible repeat (first | apply Kd.R_alloc | apply Kd.R_drewN | apply Kd.R_drew)); exact HO_7.out) hb); have n1_ := Aside0.mk (Kd.R_below (Kd.R_elderB (by (with_reducible repeat (first | apply Kd.R_alloc | apply Kd.R_drewN | apply Kd.R_drew)); exact HO_11.out) gb449 (Nat.le_of_eq hg.symm)) hb); have n2_ := Aside0.mk (blk_below (g := gb424) (o := .cells #[.slice (some ad427) l0_0.length c0_0] 24 (0, 0)) (by (with_reducible repeat (first | refine zq1 ?_ _ | refine zq2 ?_ | refine zq3 ?_ _)); exact BK424.out) hb); have n3_ := Aside0.mk (blk_below (g := gb428) (o := .cells #[.slice A427_0 ((rd_T30 l0_0 x3_1).f0).length c427_0, .slice A427_1 ((rd_T30 l0_0 x3_1).f1).length c427_1, .int .i64 ((rd_T30 l0_0 x3_1).f2), .int .i64 ((rd_T30 l0_0 x3_1).f3), .slice A427_4 ((rd_T30 l0_0 x3_1).f4).length c427_4] 30 (0, 0)) (by (with_reducible repeat (first | refine zq1 ?_ _ | refine zq2 ?_ | refine zq3 ?_ _)); exact BK428.out) hb); have n4_ := Aside0.mk (below_step (by repeat (first | (with_reducible first | exact HB.out | apply zq5 | apply zq4 | apply zq6 | refine below_set ?_ GE424.out | refine below_set ?_ GE428.out) | exact HB.out)) hb); have n5_ := Aside0.mk (hbox); have n6_ := Aside0.mk ((by rw [hg]; exact (below_size (by repeat (first | (with_reducible first | exact HB.out | apply zq5 | apply zq4 | apply zq6 | refine below_set ?_ GE424.out | refine below_set ?_ GE428.out) | exact HB.out))) : w.heap.size ≤ gb449)); have n7_ := Aside0.mk ((by rw [hg]; exact (below_size (by repeat (first | (with_reducible first | exact HB.out | apply zq5 | apply zq4 | apply zq6 | refine below_set ?_ GE424.out | refine below_set ?_ GE428.out) | exact HB.out))) : w.heap.size ≤ gb449)); have n8_ := Aside0.mk ((by rw [hg]; exact Nat.ne_of_lt (blk_lt (g := gb424) (o := .cells #[.slice (some ad427) l0_0.length c0_0] 24 (0, 0)) (by (with_reducible repeat (first | refine zq1 ?_ _ | refine zq2 ?_ | refine zq3 ?_ _)); exact BK424.out)) : gb424 ≠ gb449)); have n9_ := Aside0.mk ((by rw [hg]; exact Nat.ne_of_gt (blk_lt (g := gb424) (o := .cells #[.slice (some ad427) l0_0.length c0_0] 24 (0, 0)) (by (with_reducible repeat (first | refine zq1 ?_ _ | refine zq2 ?_ | refine zq3 ?_ _)); exact BK424.out)) : gb449 ≠ gb424)); have n10_ := Aside0.mk ((by rw [hg]; exact Nat.ne_of_lt (blk_lt (g := gb428) (o := .cells #[.slice A427_0 ((rd_T30 l0_0 x3_1).f0).length c427_0, .slice A427_1 ((rd_T30 l0_0 x3_1).f1).length c427_1, .int .i64 ((rd_T30 l0_0 x3_1).f2), .int .i64 ((rd_T30 l0_0 x3_1).f3), .slice A427_4 ((rd_T30 l0_0 x3_1).f4).length c427_4] 30 (0, 0)) (by (with_reducible repeat (first | refine zq1 ?_ _ | refine zq2 ?_ | refine zq3 ?_ _)); exact BK428.out)) : gb428 ≠ gb449)); have n11_ := Aside0.mk ((by rw [hg]; exact Nat.ne_of_gt (blk_lt (g := gb428) (o := .cells #[.slice A427_0 ((rd_T30 l0_0 x3_1).f0).length c427_0, .slice A427_1 ((rd_T30 l0_0 x3_1).f1).length c427_1, .int .i64 ((rd_T30 l0_0 x3_1).f2), .int .i64 ((rd_T30 l0_0 x3_1).f3), .slice A427_4 ((rd_T30 l0_0 x3_1).f4).length c427_4] 30 (0, 0)) (by (with_reducible repeat (first | refine zq1 ?_ _ | refine zq2 ?_ | refine zq3 ?_ _)); exact BK428.out)) : gb449 ≠ gb428)); clear HO_7; clear HO_11; clear BK424; clear BK428; clear HB; have HO_7 := n0_; have HO_11 := n1_; have BK424 := n2_; have BK428 := n3_; have HB := n4_; have BK449 := n5_; have GW449 := n6_; have GE449 := n7_; have NB424_449 := n8_; have NB449_424 := n9_; have NB428_449 := n10_; have NB449_428 := n11_; clear n0_ n1_ n2_ n3_ n4_ n5_ n6_ n7_ n8_ n9_ n10_ n11_; clear hb hbox hg; have hnb98 := NB449_424.out; have hnc98 := NB424_449.out; have hnb99 := NB449_428.out; have hnc99 := NB428_449.out; have hcz100_0 : w97.cell? ⟨gb449, 0, none⟩ = some (.int .i64 0) := (blk_cell BK449.out 0).trans rfl; have hcz100_1 : w97.cell? ⟨gb449, 1, none⟩ = some (.int .i64 0) := (blk_cell BK449.out 1).trans rfl; have hfz100_0 := blk_frozen BK449.out 0; have hfz100_1 := blk_frozen BK449.out 1; obtain ⟨Ao101, co101, eo101⟩ := Kd.R_slice HO_7.out; subst eo101; have p450 : 0 ≤ (((rd_T40 t445 x12_4).f0) : Int) := of_decide_eq_true (by first | (with_reducible assumption) | assumption); have q450 : ((rd_T40 t445 x12_4).f0) < (x7_3.length : Int) := of_decide_eq_true (by first | (with_reducible assumption) | assumption); obtain ⟨ad450, e450, hx450_0⟩ := Kd.at_int (Kd.R_reads' HO_7.out).2.2 ((rd_T40 t445 x12_4).f0) p450 q450; cases e450; have hn450_0 : ad450.block ≠ gb449 := Kd.own_blk (Kd.R_ne HO_7.out BK449.out (by decide)); have hn450_1 : ad450.block ≠ gb449 := Kd.own_blk (Kd.R_ne HO_7.out BK449.out (by decide)); replace hx450_0 := (cell_far (p := ⟨gb449, 0, none⟩) (by first | (rw [add_block]; exact hn450_0) | (show (Addr.add _ _).block ≠ _; rw [add_block]; exact hn450_0) | exact hn450_0) (.int .i64 ((rd_T40 t445 x12_4).f0))).trans hx450_0; replace hx450_0 := (cell_far (p := ⟨gb449, 1, none⟩) (by first | (rw [add_block]; exact hn450_1) | (show (Addr.add _ _).block ≠ _; rw [add_block]; exact hn450_1) | exact hn450_1) (.int .i64 ((rd_T40 t445 x12_4).f1))).trans hx450_0; clear hn450_0; clear hn450_1; replace p450 := eq_true p450; replace q450 := eq_true q450))
                         have n0_ : Aside0 (Kd.R (Kd.int .i64) 3 ((w97.setCell ⟨gb449, 0, none⟩ (.int .i64 ((rd_T40 t445 x12_4).f0))).setCell ⟨gb449, 1, none⟩ (.int .i64 ((rd_T40 t445 x12_4).f1))) w.heap.size (fun _ => True) (.slice (some ad450) x7_3.length co101) x7_3) := ⟨by (with_reducible repeat (first | apply Kd.R_alloc | apply Kd.R_drewN | apply Kd.R_drew)); exact Kd.R_mono (Kd.R_far (p := ⟨gb449, 1, none⟩) (Kd.R_far (p := ⟨gb449, 0, none⟩) (Kd.R_types HO_7.out BK449.out (by decide)) (fun _ hk => hk.2) (.int .i64 ((rd_T40 t445 x12_4).f0))) (fun _ hk => hk.2) (.int .i64 ((rd_T40 t445 x12_4).f1))) (fun _ hk => trivial)⟩
                         have n1_ : Aside0 (Kd.R k40 40 ((w97.setCell ⟨gb449, 0, none⟩ (.int .i64 ((rd_T40 t445 x12_4).f0))).setCell ⟨gb449, 1, none⟩ (.int .i64 ((rd_T40 t445 x12_4).f1))) w.heap.size (fun k_ => k_ ≠ gb449) (.slice (some ad448) t445.length co96) t445) := ⟨by (with_reducible repeat (first | apply Kd.R_alloc | apply Kd.R_drewN | apply Kd.R_drew)); exact Kd.R_mono (Kd.R_far (p := ⟨gb449, 1, none⟩) (Kd.R_far (p := ⟨gb449, 0, none⟩) (Kd.R_mono HO_11.out (fun k_ hk => (⟨hk, hk.2⟩ : _ ∧ k_ ≠ gb449))) (fun _ hk => hk.2) (.int .i64 ((rd_T40 t445 x12_4).f0))) (fun _ hk => hk.2) (.int .i64 ((rd_T40 t445 x12_4).f1))) (fun _ hk => hk.1.2)⟩
                         have n2_ : Aside0 (((w97.setCell ⟨gb449, 0, none⟩ (.int .i64 ((rd_T40 t445 x12_4).f0))).setCell ⟨gb449, 1, none⟩ (.int .i64 ((rd_T40 t445 x12_4).f1))).heap[gb424]? = some (.cells #[.slice (some ad427) l0_0.length c0_0] 24 (0, 0))) := ⟨by (with_reducible repeat (first | refine zq1 ?_ _ | refine zq2 ?_ | refine zq3 ?_ _)); refine blk_far ?_ NB424_449.out _; (with_reducible repeat (first | refine zq1 ?_ _ | refine zq2 ?_ | refine zq3 ?_ _)); refine blk_far ?_ NB424_449.out _; (with_reducible repeat (first | refine zq1 ?_ _ | refine zq2 ?_ | refine zq3 ?_ _)); exact BK424.out⟩
                         have n3_ : Aside0 (((w97.setCell ⟨gb449, 0, none⟩ (.int .i64 ((rd_T40 t445 x12_4).f0))).setCell ⟨gb449, 1, none⟩ (.int .i64 ((rd_T40 t445 x12_4).f1))).heap[gb428]? = some (.cells #[.slice A427_0 ((rd_T30 l0_0 x3_1).f0).length c427_0, .slice A427_1 ((rd_T30 l0_0 x3_1).f1).length c427_1, .int .i64 ((rd_T30 l0_0 x3_1).f2), .int .i64 ((rd_T30 l0_0 x3_1).f3), .slice A427_4 ((rd_T30 l0_0 x3_1).f4).length c427_4] 30 (0, 0))) := ⟨by (with_reducible repeat (first | refine zq1 ?_ _ | refine zq2 ?_ | refine zq3 ?_ _)); refine blk_far ?_ NB428_449.out _; (with_reducible repeat (first | refine zq1 ?_ _ | refine zq2 ?_ | refine zq3 ?_ _)); refine blk_far ?_ NB428_449.out _; (with_reducible repeat (first | refine zq1 ?_ _ | refine zq2 ?_ | refine zq3 ?_ _)); exact BK428.out⟩
                         have n4_ : Aside0 (((w97.setCell ⟨gb449, 0, none⟩ (.int .i64 ((rd_T40 t445 x12_4).f0))).setCell ⟨gb449, 1, none⟩ (.int .i64 ((rd_T40 t445 x12_4).f1))).heap[gb449]? = some (.cells #[.int .i64 ((rd_T40 t445 x12_4).f0), .int .i64 ((rd_T40 t445 x12_4).f1)] 40 (0, 0))) := ⟨by (with_reducible repeat (first | refine zq1 ?_ _ | refine zq2 ?_ | refine zq3 ?_ _)); refine blk_put (cs := #[.int .i64 ((rd_T40 t445 x12_4).f0), .int .i64 0]) ?_ 1 _ rfl; (with_reducible repeat (first | refine zq1 ?_ _ | refine zq2 ?_ | refine zq3 ?_ _)); refine blk_put (cs := #[.int .i64 0, .int .i64 0]) ?_ 0 _ rfl; (with_reducible repeat (first | refine zq1 ?_ _ | refine zq2 ?_ | refine zq3 ?_ _)); exact BK449.out⟩
                         have n5_ : Aside0 (Below w.heap.size w ((w97.setCell ⟨gb449, 0, none⟩ (.int .i64 ((rd_T40 t445 x12_4).f0))).setCell ⟨gb449, 1, none⟩ (.int .i64 ((rd_T40 t445 x12_4).f1)))) := ⟨by repeat (first | (with_reducible first | exact HB.out | apply zq5 | apply zq4 | apply zq6 | refine below_set ?_ GE424.out | refine below_set ?_ GE428.out | refine below_set ?_ GE449.out) | exact HB.out)⟩
                         (try clear HO_7)
                         (try clear HO_11)
                         (try clear BK424)
                         (try clear BK428)
                         (try clear BK449)
                         (try clear HB)
                         generalize ((w97.setCell ⟨gb449, 0, none⟩ (.int .i64 ((rd_T40 t445 x12_4).f0))).setCell ⟨gb449, 1, none⟩ (.int .i64 ((rd_T40 t445 x12_4).f1))) = w102 at n0_ n1_ n2_ n3_ n4_ n5_ ⊢
                         have HO_7 := n0_
                         have HO_11 := n1_
                         have BK424 := n2_
                         have BK428 := n3_
                         have BK449 := n4_
                         have HB := n5_
                         clear n0_ n1_ n2_ n3_ n4_ n5_
                         have n0_ := Aside0.mk (Kd.R_drew HO_7.out)
                         have n1_ := Aside0.mk (Kd.R_drew HO_11.out)
                         have n2_ := Aside0.mk (blk_drew BK424.out)
                         have n3_ := Aside0.mk (blk_drew BK428.out)
                         have n4_ := Aside0.mk (blk_drew BK449.out)
                         have n5_ := Aside0.mk (below_drew1 HB.out)
                         clear HO_7
                         clear HO_11
                         clear BK424
                         clear BK428
                         clear BK449
                         clear HB
                         have HO_7 := n0_
                         have HO_11 := n1_
                         have BK424 := n2_
                         have BK428 := n3_
                         have BK449 := n4_
                         have HB := n5_
                         clear n0_ n1_ n2_ n3_ n4_ n5_
                         refine start_ (n := 12) (S := fun w' => w'.cell? ⟨gb428, 0, none⟩ = some (.slice A427_0 ((rd_T30 l0_0 x3_1).f0).length c427_0) ∧ w'.cell? ⟨gb428, 1, none⟩ = some (.slice A427_1 ((rd_T30 l0_0 x3_1).f1).length c427_1) ∧ w'.cell? ⟨gb428, 2, none⟩ = some (.int .i64 ((rd_T30 l0_0 x3_1).f2)) ∧ w'.cell? ⟨gb428, 3, none⟩ = some (.int .i64 ((rd_T30 l0_0 x3_1).f3)) ∧ w'.cell? ⟨gb428, 4, none⟩ = some (.slice A427_4 ((rd_T30 l0_0 x3_1).f4).length c427_4) ∧ w'.cell? ⟨gb449, 0, none⟩ = some (.int .i64 ((rd_T40 t445 x12_4).f0)) ∧ w'.cell? ⟨gb449, 1, none⟩ = some (.int .i64 ((rd_T40 t445 x12_4).f1))) (ds := []) #[false, false, false, false, false, false, false, false, false, false, false, false] (by kernel_rfl) rfl rfl ⟨(blk_cell BK428.out 0).trans rfl, (blk_cell BK428.out 1).trans rfl, (blk_cell BK428.out 2).trans rfl, (blk_cell BK428.out 3).trans rfl, (blk_cell BK428.out 4).trans rfl, (blk_cell BK449.out 0).trans rfl, (blk_cell BK449.out 1).trans rfl⟩ (fun hHeld => ?_); refine with_tabW portolanlaw05_FlowOrder.tab27 portolanlaw05_FlowOrder.bits27 (fun HT_ HW_ => ?_)
                         generalize w102.drew = w103 at HO_7 HO_11 BK424 BK428 BK449 HB hHeld ⊢
                         refine pure_ (i := 0) (N := some 110) (v := ?_) (a' := ?_) #[true, false, false, false, false, false, false, false, false, false, false, false] rfl rfl (any_of HT_.out (by kernel_rfl)) (fun _ _ _ h => h) (Or.inl ⟨by rfl, ?_⟩) ?_ ?_
                         rotate_left
                         ·intro w'
                          go_simp
                          with_reducible rfl
                         rotate_left
                         ·simp only [Act.put, List.setIfInBounds_toArray, List.set_cons_zero, List.set_cons_succ, i64_w, i32_w]
                          rfl
                         refine pure_ (i := 1) (N := some 111) (v := ?_) (a' := ?_) #[true, true, false, false, false, false, false, false, false, false, false, false] rfl rfl (any_of HT_.out (by kernel_rfl)) (fun _ _ _ h => h) (Or.inl ⟨by rfl, ?_⟩) ?_ ?_
                         rotate_left
                         ·intro w'
                          go_simp
                          with_reducible rfl
                         rotate_left
                         ·simp only [Act.put, List.setIfInBounds_toArray, List.set_cons_zero, List.set_cons_succ, i64_w, i32_w]
                          rfl
                         refine pure_ (i := 3) (N := some 113) (v := ?_) (a' := ?_) #[true, true, false, true, false, false, false, false, false, false, false, false] rfl rfl (any_of HT_.out (by kernel_rfl)) (fun _ _ _ h => h) (Or.inl ⟨by rfl, ?_⟩) ?_ ?_
                         rotate_left
                         ·intro w'
                          go_simp
                          with_reducible rfl
                         rotate_left
                         ·simp only [Act.put, List.setIfInBounds_toArray, List.set_cons_zero, List.set_cons_succ, i64_w, i32_w]
                          rfl
                         refine pure_ (i := 6) (N := some 116) (v := ?_) (a' := ?_) #[true, true, false, true, false, false, true, false, false, false, false, false] rfl rfl (any_of HT_.out (by kernel_rfl)) (fun _ _ _ h => h) (Or.inl ⟨by rfl, ?_⟩) ?_ ?_
                         rotate_left
                         ·intro w'
                          go_simp
                          with_reducible rfl
                         rotate_left
                         ·simp only [Act.put, List.setIfInBounds_toArray, List.set_cons_zero, List.set_cons_succ, i64_w, i32_w]
                          rfl
                         refine take_ (i := 2) (N := some 112) (v := ?_) (a' := ?_) #[true, true, true, true, false, false, true, false, false, false, false, false] rfl rfl (take_ofW HT_.out HW_.out (by kernel_rfl)) (fun _ _ _ h => h) (Or.inl ⟨by rfl, ?_⟩) hHeld ?_ ?_
                         rotate_left
                         ·rintro w' ⟨s0, s1, s2, s3, s4, s5, s6⟩
                          go_simp
                          with_reducible rfl
                         rotate_left
                         ·simp only [Act.put, List.setIfInBounds_toArray, List.set_cons_zero, List.set_cons_succ, i64_w, i32_w]
                          rfl
                         refine take_ (i := 4) (N := some 114) (v := ?_) (a' := ?_) #[true, true, true, true, true, false, true, false, false, false, false, false] rfl rfl (take_ofW HT_.out HW_.out (by kernel_rfl)) (fun _ _ _ h => h) (Or.inl ⟨by rfl, ?_⟩) hHeld ?_ ?_
                         rotate_left
                         ·rintro w' ⟨s0, s1, s2, s3, s4, s5, s6⟩
                          go_simp
                          with_reducible rfl
                         rotate_left
                         ·simp only [Act.put, List.setIfInBounds_toArray, List.set_cons_zero, List.set_cons_succ, i64_w, i32_w]
                          rfl
                         refine take_ (i := 7) (N := some 117) (v := ?_) (a' := ?_) #[true, true, true, true, true, false, true, true, false, false, false, false] rfl rfl (take_ofW HT_.out HW_.out (by kernel_rfl)) (fun _ _ _ h => h) (Or.inl ⟨by rfl, ?_⟩) hHeld ?_ ?_
                         rotate_left
                         ·rintro w' ⟨s0, s1, s2, s3, s4, s5, s6⟩
                          go_simp
                          with_reducible rfl
                         rotate_left
                         ·simp only [Act.put, List.setIfInBounds_toArray, List.set_cons_zero, List.set_cons_succ, i64_w, i32_w]
                          rfl
                         refine one_ (i := 5) (N := some 115) #[true, true, true, true, true, true, true, true, false, false, false, false] rfl rfl (one_of HT_.out (by kernel_rfl)) (by decide) (fun K hK => ?_)
                         refine goes_ Try.func32 (by kernel_rfl) rfl #[.agg #[.slice A427_0 ((rd_T30 l0_0 x3_1).f0).length c427_0, .slice A427_1 ((rd_T30 l0_0 x3_1).f1).length c427_1, .int .i64 ((rd_T30 l0_0 x3_1).f2), .int .i64 ((rd_T30 l0_0 x3_1).f3), .slice A427_4 ((rd_T30 l0_0 x3_1).f4).length c427_4], .int .i64 ((rd_T40 t445 x12_4).f1), .int .i64 (-1)] (by rfl) rfl rfl (by (try simp only [List.map_toArray, List.map_cons, List.map_nil]); first | done | rfl | (simp only [List.length_drop, List.length_take]; rfl)) ?_
                         with_reducible refine (portolanref05_Within.calls k4 _ _ ((rd_T30 l0_0 x3_1).f0) _ _ ((rd_T30 l0_0 x3_1).f1) ((rd_T30 l0_0 x3_1).f2) ((rd_T30 l0_0 x3_1).f3) _ _ ((rd_T30 l0_0 x3_1).f4) ((rd_T40 t445 x12_4).f1) (-1) t453 _ ?side1 ?side2 ?side3 ?side4 ?side5 ?side6 A93.out).mono ?_
                         (case side1 => repeat (first | exact (Kd.C_below HR427_0.out HB.out) | (with_reducible refine Kd.C_alloc ?_ _) | (with_reducible refine Kd.C_drewN ?_ _) | (with_reducible refine Kd.C_drew ?_)))
                         (case side2 => exact HC427_0.out)
                         (case side3 => repeat (first | exact (Kd.C_below HR427_1.out HB.out) | (with_reducible refine Kd.C_alloc ?_ _) | (with_reducible refine Kd.C_drewN ?_ _) | (with_reducible refine Kd.C_drew ?_)))
                         (case side4 => exact HC427_1.out)
                         (case side5 => repeat (first | exact (Kd.C_below HR427_4.out HB.out) | (with_reducible refine Kd.C_alloc ?_ _) | (with_reducible refine Kd.C_drewN ?_ _) | (with_reducible refine Kd.C_drew ?_)))
                         (case side6 => exact HC427_4.out)
                         rintro e w104 ⟨v454, rfl, ho0, hb⟩
                         refine ⟨_, rfl, ?_⟩
                         have n0_ := Aside0.mk (Kd.R_below (by (with_reducible repeat (first | apply Kd.R_alloc | apply Kd.R_drewN | apply Kd.R_drew)); exact HO_7.out) hb)
                         have n1_ := Aside0.mk (Kd.R_below (by (with_reducible repeat (first | apply Kd.R_alloc | apply Kd.R_drewN | apply Kd.R_drew)); exact HO_11.out) hb)
                         have n2_ := Aside0.mk (Kd.R_lower ho0 (below_size (by repeat (first | (with_reducible first | exact HB.out | apply zq5 | apply zq4 | apply zq6 | refine below_set ?_ GE424.out | refine below_set ?_ GE428.out | refine below_set ?_ GE449.out) | exact HB.out))))
                         have n3_ := Aside0.mk (blk_below (g := gb424) (o := .cells #[.slice (some ad427) l0_0.length c0_0] 24 (0, 0)) (by (with_reducible repeat (first | refine zq1 ?_ _ | refine zq2 ?_ | refine zq3 ?_ _)); exact BK424.out) hb)
                         have n4_ := Aside0.mk (blk_below (g := gb428) (o := .cells #[.slice A427_0 ((rd_T30 l0_0 x3_1).f0).length c427_0, .slice A427_1 ((rd_T30 l0_0 x3_1).f1).length c427_1, .int .i64 ((rd_T30 l0_0 x3_1).f2), .int .i64 ((rd_T30 l0_0 x3_1).f3), .slice A427_4 ((rd_T30 l0_0 x3_1).f4).length c427_4] 30 (0, 0)) (by (with_reducible repeat (first | refine zq1 ?_ _ | refine zq2 ?_ | refine zq3 ?_ _)); exact BK428.out) hb)
                         have n5_ := Aside0.mk (blk_below (g := gb449) (o := .cells #[.int .i64 ((rd_T40 t445 x12_4).f0), .int .i64 ((rd_T40 t445 x12_4).f1)] 40 (0, 0)) (by (with_reducible repeat (first | refine zq1 ?_ _ | refine zq2 ?_ | refine zq3 ?_ _)); exact BK449.out) hb)
                         have n6_ := Aside0.mk (below_step (by repeat (first | (with_reducible first | exact HB.out | apply zq5 | apply zq4 | apply zq6 | refine below_set ?_ GE424.out | refine below_set ?_ GE428.out | refine below_set ?_ GE449.out) | exact HB.out)) hb)
                         clear HO_7
                         clear HO_11
                         clear BK424
                         clear BK428
                         clear BK449
                         clear HB
                         have HO_7 := n0_
                         have HO_11 := n1_
                         have HO455 := n2_
                         have BK424 := n3_
                         have BK428 := n4_
                         have BK449 := n5_
                         have HB := n6_
                         clear n0_ n1_ n2_ n3_ n4_ n5_ n6_
                         (try clear hb)
                         (try clear hb2)
                         (try clear hk)
                         (try clear hi)
                         (try clear ho0)
                         obtain ⟨Ao105, co105, eo105⟩ := Kd.R_slice HO455.out
                         (first | subst eo105 | (injection eo105 with f1_ f2_ f3_; have f4_ := f1_.symm; have f5_ := f3_.symm; clear f1_ f2_ f3_; subst f4_; subst f5_))
                         have p456 : 0 ≤ (((rd_T40 t445 x12_4).f0) : Int) := of_decide_eq_true (by first | (with_reducible assumption) | assumption)
                         have q456 : ((rd_T40 t445 x12_4).f0) < (t453.length : Int) := of_decide_eq_true (by first | (with_reducible assumption) | assumption)
                         obtain ⟨ad456, e456, hx456_0⟩ := Kd.at_bool (Kd.R_reads' HO455.out).2.2 ((rd_T40 t445 x12_4).f0) p456 q456
                         cases e456
                         replace p456 := eq_true p456
                         replace q456 := eq_true q456
                         refine hK.out _ _ ⟨(blk_cell BK428.out 0).trans rfl, (blk_cell BK428.out 1).trans rfl, (blk_cell BK428.out 2).trans rfl, (blk_cell BK428.out 3).trans rfl, (blk_cell BK428.out 4).trans rfl, (blk_cell BK449.out 0).trans rfl, (blk_cell BK449.out 1).trans rfl⟩ (fun hHeld => ?_)
                         clear hK K
                         refine norm_ (a' := ?_) ?_ ?_
                         rotate_left
                         ·show Act.put _ (some 115) _ = _
                          simp only [Act.put, List.setIfInBounds_toArray, List.set_cons_zero, List.set_cons_succ, i64_w, i32_w]
                          rfl
                         refine pure_ (i := 8) (N := some 118) (v := ?_) (a' := ?_) #[true, true, true, true, true, true, true, true, true, false, false, false] rfl rfl (any_of HT_.out (by kernel_rfl)) (fun _ _ _ h => h) (Or.inl ⟨by rfl, ?_⟩) ?_ ?_
                         rotate_left
                         ·intro w'
                          go_simp
                          with_reducible rfl
                         rotate_left
                         ·simp only [Act.put, List.setIfInBounds_toArray, List.set_cons_zero, List.set_cons_succ, i64_w, i32_w]
                          rfl
                         refine one_yield (S' := fun w' => w'.cell? (ad456.add (((rd_T40 t445 x12_4).f0)).toNat) = some (.bool (rdOf false t453 ((rd_T40 t445 x12_4).f0)))) (i := 9) (N := some 119) (v := ?_) (a' := ?_) #[true, true, true, true, true, true, true, true, true, true, false, false] rfl rfl (one_of HT_.out (by kernel_rfl)) (by decide) (Or.inl ⟨by rfl, ?_⟩) hx456_0 hHeld ?_ ?_
                         rotate_left
                         ·rintro w' s0
                          go_simp
                          with_reducible rfl
                         rotate_left
                         ·simp only [Act.put, List.setIfInBounds_toArray, List.set_cons_zero, List.set_cons_succ, i64_w, i32_w]
                          rfl
                         refine pure_ (i := 10) (N := some 120) (v := ?_) (a' := ?_) #[true, true, true, true, true, true, true, true, true, true, true, false] rfl rfl (any_of HT_.out (by kernel_rfl)) (fun _ _ _ h => h) (Or.inl ⟨by rfl, ?_⟩) ?_ ?_
                         rotate_left
                         ·intro w'
                          go_simp
                          with_reducible rfl
                         rotate_left
                         ·simp only [Act.put, List.setIfInBounds_toArray, List.set_cons_zero, List.set_cons_succ, i64_w, i32_w]
                          rfl
                         refine pure_ (i := 11) (N := some 9) (v := ?_) (a' := ?_) #[true, true, true, true, true, true, true, true, true, true, true, true] rfl rfl (any_of HT_.out (by kernel_rfl)) (fun _ _ _ h => h) (Or.inl ⟨by rfl, ?_⟩) ?_ ?_
                         rotate_left
                         ·intro w'
                          go_simp
                          with_reducible rfl
                         rotate_left
                         ·simp only [Act.put, List.setIfInBounds_toArray, List.set_cons_zero, List.set_cons_succ, i64_w, i32_w]
                          rfl
                         refine done_ (done_of HT_.out (by kernel_rfl)) ?_
                         try go_wp2
                         have n0_ := Aside0.mk (Kd.R_drew HO_7.out)
                         have n1_ := Aside0.mk (Kd.R_drew HO_11.out)
                         have n2_ := Aside0.mk (Kd.R_drew HO455.out)
                         have n3_ := Aside0.mk (blk_drew BK424.out)
                         have n4_ := Aside0.mk (blk_drew BK428.out)
                         have n5_ := Aside0.mk (blk_drew BK449.out)
                         have n6_ := Aside0.mk (below_drew1 HB.out)
                         clear HO_7
                         clear HO_11
                         clear HO455
                         clear BK424
                         clear BK428
                         clear BK449
                         clear HB
                         have HO_7 := n0_
                         have HO_11 := n1_
                         have HO455 := n2_
                         have BK424 := n3_
                         have BK428 := n4_
                         have BK449 := n5_
                         have HB := n6_
                         clear n0_ n1_ n2_ n3_ n4_ n5_ n6_
                         refine start_ (n := 15) (S := fun w' => True) (ds := []) #[false, false, false, false, false, false, false, false, false, false, false, false, false, false, false] (by kernel_rfl) rfl rfl trivial (fun hHeld => ?_); refine with_tabW portolanlaw05_FlowOrder.tab28 portolanlaw05_FlowOrder.bits28 (fun HT_ HW_ => ?_)
                         generalize w104.drew = w106 at HO_7 HO_11 HO455 BK424 BK428 BK449 HB hHeld ⊢
                         refine pure_ (i := 0) (N := some 121) (v := ?_) (a' := ?_) #[true, false, false, false, false, false, false, false, false, false, false, false, false, false, false] rfl rfl (any_of HT_.out (by kernel_rfl)) (fun _ _ _ h => h) (Or.inl ⟨by rfl, ?_⟩) ?_ ?_
                         rotate_left
                         ·intro w'
                          go_simp
                          with_reducible rfl
                         rotate_left
                         ·simp only [Act.put, List.setIfInBounds_toArray, List.set_cons_zero, List.set_cons_succ, i64_w, i32_w]
                          rfl
                         refine pure_ (i := 1) (N := some 122) (v := ?_) (a' := ?_) #[true, true, false, false, false, false, false, false, false, false, false, false, false, false, false] rfl rfl (any_of HT_.out (by kernel_rfl)) (fun _ _ _ h => h) (Or.inl ⟨by rfl, ?_⟩) ?_ ?_
                         rotate_left
                         ·intro w'
                          go_simp
                          with_reducible rfl
                         rotate_left
                         ·simp only [Act.put, List.setIfInBounds_toArray, List.set_cons_zero, List.set_cons_succ, i64_w, i32_w]
                          rfl
                         refine pure_ (i := 2) (N := some 123) (v := undef) (a' := ?_) #[true, true, true, false, false, false, false, false, false, false, false, false, false, false, false] rfl rfl (any_of HT_.out (by kernel_rfl)) (fun _ _ _ h => h) (Or.inr ⟨by rfl, rfl⟩) ?_ ?_
                         rotate_left
                         ·simp only [Act.put, List.setIfInBounds_toArray, List.set_cons_zero, List.set_cons_succ, i64_w, i32_w]
                          rfl
                         refine pure_ (i := 3) (N := some 124) (v := undef) (a' := ?_) #[true, true, true, true, false, false, false, false, false, false, false, false, false, false, false] rfl rfl (any_of HT_.out (by kernel_rfl)) (fun _ _ _ h => h) (Or.inr ⟨by rfl, rfl⟩) ?_ ?_
                         rotate_left
                         ·simp only [Act.put, List.setIfInBounds_toArray, List.set_cons_zero, List.set_cons_succ, i64_w, i32_w]
                          rfl
                         refine pure_ (i := 4) (N := some 125) (v := undef) (a' := ?_) #[true, true, true, true, true, false, false, false, false, false, false, false, false, false, false] rfl rfl (any_of HT_.out (by kernel_rfl)) (fun _ _ _ h => h) (Or.inr ⟨by rfl, rfl⟩) ?_ ?_
                         rotate_left
                         ·simp only [Act.put, List.setIfInBounds_toArray, List.set_cons_zero, List.set_cons_succ, i64_w, i32_w]
                          rfl
                         refine pure_ (i := 5) (N := some 126) (v := undef) (a' := ?_) #[true, true, true, true, true, true, false, false, false, false, false, false, false, false, false] rfl rfl (any_of HT_.out (by kernel_rfl)) (fun _ _ _ h => h) (Or.inr ⟨by rfl, rfl⟩) ?_ ?_
                         rotate_left
                         ·simp only [Act.put, List.setIfInBounds_toArray, List.set_cons_zero, List.set_cons_succ, i64_w, i32_w]
                          rfl
                         refine pure_ (i := 6) (N := some 127) (v := undef) (a' := ?_) #[true, true, true, true, true, true, true, false, false, false, false, false, false, false, false] rfl rfl (any_of HT_.out (by kernel_rfl)) (fun _ _ _ h => h) (Or.inr ⟨by rfl, rfl⟩) ?_ ?_
                         rotate_left
                         ·simp only [Act.put, List.setIfInBounds_toArray, List.set_cons_zero, List.set_cons_succ, i64_w, i32_w]
                          rfl
                         refine pure_ (i := 7) (N := some 128) (v := undef) (a' := ?_) #[true, true, true, true, true, true, true, true, false, false, false, false, false, false, false] rfl rfl (any_of HT_.out (by kernel_rfl)) (fun _ _ _ h => h) (Or.inr ⟨by rfl, rfl⟩) ?_ ?_
                         rotate_left
                         ·simp only [Act.put, List.setIfInBounds_toArray, List.set_cons_zero, List.set_cons_succ, i64_w, i32_w]
                          rfl
                         refine pure_ (i := 8) (N := some 129) (v := undef) (a' := ?_) #[true, true, true, true, true, true, true, true, true, false, false, false, false, false, false] rfl rfl (any_of HT_.out (by kernel_rfl)) (fun _ _ _ h => h) (Or.inr ⟨by rfl, rfl⟩) ?_ ?_
                         rotate_left
                         ·simp only [Act.put, List.setIfInBounds_toArray, List.set_cons_zero, List.set_cons_succ, i64_w, i32_w]
                          rfl
                         refine pure_ (i := 9) (N := some 130) (v := undef) (a' := ?_) #[true, true, true, true, true, true, true, true, true, true, false, false, false, false, false] rfl rfl (any_of HT_.out (by kernel_rfl)) (fun _ _ _ h => h) (Or.inr ⟨by rfl, rfl⟩) ?_ ?_
                         rotate_left
                         ·simp only [Act.put, List.setIfInBounds_toArray, List.set_cons_zero, List.set_cons_succ, i64_w, i32_w]
                          rfl
                         refine pure_ (i := 10) (N := some 131) (v := undef) (a' := ?_) #[true, true, true, true, true, true, true, true, true, true, true, false, false, false, false] rfl rfl (any_of HT_.out (by kernel_rfl)) (fun _ _ _ h => h) (Or.inr ⟨by rfl, rfl⟩) ?_ ?_
                         rotate_left
                         ·simp only [Act.put, List.setIfInBounds_toArray, List.set_cons_zero, List.set_cons_succ, i64_w, i32_w]
                          rfl
                         refine pure_ (i := 11) (N := some 132) (v := undef) (a' := ?_) #[true, true, true, true, true, true, true, true, true, true, true, true, false, false, false] rfl rfl (any_of HT_.out (by kernel_rfl)) (fun _ _ _ h => h) (Or.inr ⟨by rfl, rfl⟩) ?_ ?_
                         rotate_left
                         ·simp only [Act.put, List.setIfInBounds_toArray, List.set_cons_zero, List.set_cons_succ, i64_w, i32_w]
                          rfl
                         refine pure_ (i := 12) (N := some 133) (v := undef) (a' := ?_) #[true, true, true, true, true, true, true, true, true, true, true, true, true, false, false] rfl rfl (any_of HT_.out (by kernel_rfl)) (fun _ _ _ h => h) (Or.inr ⟨by rfl, rfl⟩) ?_ ?_
                         rotate_left
                         ·simp only [Act.put, List.setIfInBounds_toArray, List.set_cons_zero, List.set_cons_succ, i64_w, i32_w]
                          rfl
                         refine pure_ (i := 13) (N := some 134) (v := ?_) (a' := ?_) #[true, true, true, true, true, true, true, true, true, true, true, true, true, true, false] rfl rfl (any_of HT_.out (by kernel_rfl)) (fun _ _ _ h => h) (Or.inl ⟨by rfl, ?_⟩) ?_ ?_
                         rotate_left
                         ·intro w'
                          go_simp
                          with_reducible rfl
                         rotate_left
                         ·simp only [Act.put, List.setIfInBounds_toArray, List.set_cons_zero, List.set_cons_succ, i64_w, i32_w]
                          rfl
                         refine pure_ (i := 14) (N := some 10) (v := ?_) (a' := ?_) #[true, true, true, true, true, true, true, true, true, true, true, true, true, true, true] rfl rfl (any_of HT_.out (by kernel_rfl)) (fun _ _ _ h => h) (Or.inl ⟨by rfl, ?_⟩) ?_ ?_
                         rotate_left
                         ·intro w'
                          go_simp
                          with_reducible rfl
                         rotate_left
                         ·simp only [Act.put, List.setIfInBounds_toArray, List.set_cons_zero, List.set_cons_succ, i64_w, i32_w]
                          rfl
                         refine done_ (done_of HT_.out (by kernel_rfl)) ?_
                         try go_wp2
                         go_roundg k4
                         case measure => have := HK1.out; have := HJ17.out; have := HK3.out; have := HK4.out; omega
                         case rel => exact ⟨(rdOf false t453 ((rd_T40 t445 x12_4).f0)), (true), (wrap64 (x12_4 + 1)), (by first | rfl | (simp; done) | (simp [*]; done)), (by first | rfl | (simp; done) | (simp [*]; done)), (by first | rfl | (simp; done) | (simp [*]; done)), H', ⟨by have := HK1.out; have := HJ17.out; have := HK3.out; have := HK4.out; omega⟩, ⟨by (with_reducible repeat (first | apply Kd.R_alloc | apply Kd.R_drewN | apply Kd.R_drew)); exact HO_7.out⟩, ⟨by (with_reducible repeat (first | apply Kd.R_alloc | apply Kd.R_drewN | apply Kd.R_drew)); exact Kd.R_mono HO_11.out (fun _ hk => trivial)⟩, ⟨by (with_reducible repeat (first | refine zq1 ?_ _ | refine zq2 ?_ | refine zq3 ?_ _)); exact BK424.out⟩, ⟨by (with_reducible repeat (first | refine zq1 ?_ _ | refine zq2 ?_ | refine zq3 ?_ _)); exact BK428.out⟩, ⟨by repeat (first | (with_reducible first | exact HB.out | apply zq5 | apply zq4 | apply zq6 | refine below_set ?_ GE424.out | refine below_set ?_ GE428.out | refine below_set ?_ GE449.out) | exact HB.out)⟩⟩
                        ·replace c95 := Bool.eq_false_iff.mpr c95
                         subst c95
                         have H1 : (if 0 ≤ ((rd_T40 t445 x12_4).f1) then (if ((rd_T40 t445 x12_4).f1) < (x7_3.length : Int) then (portolanlaw05_FlowOrder.l2 k4 x3_1 x7_3 (rdOf false t453 ((rd_T40 t445 x12_4).f0)) (decide ((rd x7_3 ((rd_T40 t445 x12_4).f1)) ≤ (rd x7_3 ((rd_T40 t445 x12_4).f0)))) t445 (wrap64 (x12_4 + 1)) l0_0 ((rd_T30 l0_0 x3_1).f0) ((rd_T30 l0_0 x3_1).f1) ((rd_T30 l0_0 x3_1).f2) ((rd_T30 l0_0 x3_1).f3) ((rd_T30 l0_0 x3_1).f4)) else (none)) else (none)) = some true := by first | (rw [if_neg (show ¬ (false = true) by decide)] at H; exact H) | rfl
                         clear H
                         have H := H1
                         clear H1
                         by_cases c107 : 0 ≤ ((rd_T40 t445 x12_4).f1)
                         ·rw [if_pos c107] at H
                          have c107b0 : decide (0 ≤ ((rd_T40 t445 x12_4).f1)) = true := decide_eq_true c107
                          clear c107
                          by_cases c108 : ((rd_T40 t445 x12_4).f1) < (x7_3.length : Int)
                          ·rw [if_pos c108] at H
                           have c108b0 : decide (((rd_T40 t445 x12_4).f1) < (x7_3.length : Int)) = true := decide_eq_true c108
                           clear c108
                           have H' := Aside0.mk H
                           clear H
                           obtain ⟨Ao109, co109, eo109⟩ := Kd.R_slice HO_11.out
                           subst eo109
                           have p448 : 0 ≤ (x12_4 : Int) := of_decide_eq_true (by first | (with_reducible assumption) | assumption)
                           have q448 : x12_4 < (t445.length : Int) := of_decide_eq_true (by first | (with_reducible assumption) | assumption)
                           obtain ⟨ad448, e448, hx448_0, hx448_1⟩ := at_T40 (Kd.R_reads' HO_11.out).2.2 x12_4 p448 q448
                           cases e448
                           replace p448 := eq_true p448
                           replace q448 := eq_true q448
                           try go_wp2_with (first | ((with_reducible refine gate_dst (N := 13) rfl ?_); (try (refine gate_guard (by rfl) ?_; dsimp only)); refine box_event ?hg (N := 13) ?hd (cs := #[.int .i64 0, .int .i64 0]) (t := 40) ?hr ?_; (case hd => rfl); (case hg => rfl); (case hr => first | (go_simp; done) | (go_simp; rfl)); intro gb449 hg w110 hbox hb; have n0_ := Aside0.mk (Kd.R_below (by (with_reducible repeat (first | apply Kd.R_alloc | apply Kd.R_drewN | apply Kd.R_drew)); exact HO_7.out) hb); have n1_ := Aside0.mk (Kd.R_below (Kd.R_elderB (by (with_reducible repeat (first | apply Kd.R_alloc | apply Kd.R_drewN | apply Kd.R_drew)); exact HO_11.out) gb449 (Nat.le_of_eq hg.symm)) hb); have n2_ := Aside0.mk (blk_below (g := gb424) (o := .cells #[.slice (some ad427) l0_0.length c0_0] 24 (0, 0)) (by (with_reducible repeat (first | refine zq1 ?_ _ | refine zq2 ?_ | refine zq3 ?_ _)); exact BK424.out) hb); have n3_ := Aside0.mk (blk_below (g := gb428) (o := .cells #[.slice A427_0 ((rd_T30 l0_0 x3_1).f0).length c427_0, .slice A427_1 ((rd_T30 l0_0 x3_1).f1).length c427_1, .int .i64 ((rd_T30 l0_0 x3_1).f2), .int .i64 ((rd_T30 l0_0 x3_1).f3), .slice A427_4 ((rd_T30 l0_0 x3_1).f4).length c427_4] 30 (0, 0)) (by (with_reducible repeat (first | refine zq1 ?_ _ | refine zq2 ?_ | refine zq3 ?_ _)); exact BK428.out) hb); have n4_ := Aside0.mk (below_step (by repeat (first | (with_reducible first | exact HB.out | apply zq5 | apply zq4 | apply zq6 | refine below_set ?_ GE424.out | refine below_set ?_ GE428.out) | exact HB.out)) hb); have n5_ := Aside0.mk (hbox); have n6_ := Aside0.mk ((by rw [hg]; exact (below_size (by repeat (first | (with_reducible first | exact HB.out | apply zq5 | apply zq4 | apply zq6 | refine below_set ?_ GE424.out | refine below_set ?_ GE428.out) | exact HB.out))) : w.heap.size ≤ gb449)); have n7_ := Aside0.mk ((by rw [hg]; exact (below_size (by repeat (first | (with_reducible first | exact HB.out | apply zq5 | apply zq4 | apply zq6 | refine below_set ?_ GE424.out | refine below_set ?_ GE428.out) | exact HB.out))) : w.heap.size ≤ gb449)); have n8_ := Aside0.mk ((by rw [hg]; exact Nat.ne_of_lt (blk_lt (g := gb424) (o := .cells #[.slice (some ad427) l0_0.length c0_0] 24 (0, 0)) (by (with_reducible repeat (first | refine zq1 ?_ _ | refine zq2 ?_ | refine zq3 ?_ _)); exact BK424.out)) : gb424 ≠ gb449)); have n9_ := Aside0.mk ((by rw [hg]; exact Nat.ne_of_gt (blk_lt (g := gb424) (o := .cells #[.slice (some ad427) l0_0.length c0_0] 24 (0, 0)) (by (with_reducible repeat (first | refine zq1 ?_ _ | refine zq2 ?_ | refine zq3 ?_ _)); exact BK424.out)) : gb449 ≠ gb424)); have n10_ := Aside0.mk ((by rw [hg]; exact Nat.ne_of_lt (blk_lt (g := gb428) (o := .cells #[.slice A427_0 ((rd_T30 l0_0 x3_1).f0).length c427_0, .slice A427_1 ((rd_T30 l0_0 x3_1).f1).length c427_1, .int .i64 ((rd_T30 l0_0 x3_1).f2), .int .i64 ((rd_T30 l0_0 x3_1).f3), .slice A427_4 ((rd_T30 l0_0 x3_1).f4).length c427_4] 30 (0, 0)) (by (with_reducible repeat (first | refine zq1 ?_ _ | refine zq2 ?_ | refine zq3 ?_ _)); exact BK428.out)) : gb428 ≠ gb449)); have n11_ := Aside0.mk ((by rw [hg]; exact Nat.ne_of_gt (blk_lt (g := gb428) (o := .cells #[.slice A427_0 ((rd_T30 l0_0 x3_1).f0).length c427_0, .slice A427_1 ((rd_T30 l0_0 x3_1).f1).length c427_1, .int .i64 ((rd_T30 l0_0 x3_1).f2), .int .i64 ((rd_T30 l0_0 x3_1).f3), .slice A427_4 ((rd_T30 l0_0 x3_1).f4).length c427_4] 30 (0, 0)) (by (with_reducible repeat (first | refine zq1 ?_ _ | refine zq2 ?_ | refine zq3 ?_ _)); exact BK428.out)) : gb449 ≠ gb428)); clear HO_7; clear HO_11; clear BK424; clear BK428; clear HB; have HO_7 := n0_; have HO_11 := n1_; have BK424 := n2_; have BK428 := n3_; have HB := n4_; have BK449 := n5_; have GW449 := n6_; have GE449 := n7_; have NB424_449 := n8_; have NB449_424 := n9_; have NB428_449 := n10_; have NB449_428 := n11_; clear n0_ n1_ n2_ n3_ n4_ n5_ n6_ n7_ n8_ n9_ n10_ n11_; clear hb hbox hg; have hnb111 := NB449_424.out; have hnc111 := NB424_449.out; have hnb112 := NB449_428.out; have hnc112 := NB428_449.out; have hcz113_0 : w110.cell? ⟨gb449, 0, none⟩ = some (.int .i64 0) := (blk_cell BK449.out 0).trans rfl; have hcz113_1 : w110.cell? ⟨gb449, 1, none⟩ = some (.int .i64 0) := (blk_cell BK449.out 1).trans rfl; have hfz113_0 := blk_frozen BK449.out 0; have hfz113_1 := blk_frozen BK449.out 1; obtain ⟨Ao114, co114, eo114⟩ := Kd.R_slice HO_7.out; subst eo114; have p450 : 0 ≤ (((rd_T40 t445 x12_4).f0) : Int) := of_decide_eq_true (by first | (with_reducible assumption) | assumption); have q450 : ((rd_T40 t445 x12_4).f0) < (x7_3.length : Int) := of_decide_eq_true (by first | (with_reducible assumption) | assumption); obtain ⟨ad450, e450, hx450_0⟩ := Kd.at_int (Kd.R_reads' HO_7.out).2.2 ((rd_T40 t445 x12_4).f0) p450 q450; cases e450; have hn450_0 : ad450.block ≠ gb449 := Kd.own_blk (Kd.R_ne HO_7.out BK449.out (by decide)); have hn450_1 : ad450.block ≠ gb449 := Kd.own_blk (Kd.R_ne HO_7.out BK449.out (by decide)); replace hx450_0 := (cell_far (p := ⟨gb449, 0, none⟩) (by first | (rw [add_block]; exact hn450_0) | (show (Addr.add _ _).block ≠ _; rw [add_block]; exact hn450_0) | exact hn450_0) (.int .i64 ((rd_T40 t445 x12_4).f0))).trans hx450_0; replace hx450_0 := (cell_far (p := ⟨gb449, 1, none⟩) (by first | (rw [add_block]; exact hn450_1) | (show (Addr.add _ _).block ≠ _; rw [add_block]; exact hn450_1) | exact hn450_1) (.int .i64 ((rd_T40 t445 x12_4).f1))).trans hx450_0; clear hn450_0; clear hn450_1; replace p450 := eq_true p450; replace q450 := eq_true q450))
                           have n0_ : Aside0 (Kd.R (Kd.int .i64) 3 ((w110.setCell ⟨gb449, 0, none⟩ (.int .i64 ((rd_T40 t445 x12_4).f0))).setCell ⟨gb449, 1, none⟩ (.int .i64 ((rd_T40 t445 x12_4).f1))) w.heap.size (fun _ => True) (.slice (some ad450) x7_3.length co114) x7_3) := ⟨by (with_reducible repeat (first | apply Kd.R_alloc | apply Kd.R_drewN | apply Kd.R_drew)); exact Kd.R_mono (Kd.R_far (p := ⟨gb449, 1, none⟩) (Kd.R_far (p := ⟨gb449, 0, none⟩) (Kd.R_types HO_7.out BK449.out (by decide)) (fun _ hk => hk.2) (.int .i64 ((rd_T40 t445 x12_4).f0))) (fun _ hk => hk.2) (.int .i64 ((rd_T40 t445 x12_4).f1))) (fun _ hk => trivial)⟩
                           have n1_ : Aside0 (Kd.R k40 40 ((w110.setCell ⟨gb449, 0, none⟩ (.int .i64 ((rd_T40 t445 x12_4).f0))).setCell ⟨gb449, 1, none⟩ (.int .i64 ((rd_T40 t445 x12_4).f1))) w.heap.size (fun k_ => k_ ≠ gb449) (.slice (some ad448) t445.length co109) t445) := ⟨by (with_reducible repeat (first | apply Kd.R_alloc | apply Kd.R_drewN | apply Kd.R_drew)); exact Kd.R_mono (Kd.R_far (p := ⟨gb449, 1, none⟩) (Kd.R_far (p := ⟨gb449, 0, none⟩) (Kd.R_mono HO_11.out (fun k_ hk => (⟨hk, hk.2⟩ : _ ∧ k_ ≠ gb449))) (fun _ hk => hk.2) (.int .i64 ((rd_T40 t445 x12_4).f0))) (fun _ hk => hk.2) (.int .i64 ((rd_T40 t445 x12_4).f1))) (fun _ hk => hk.1.2)⟩
                           have n2_ : Aside0 (((w110.setCell ⟨gb449, 0, none⟩ (.int .i64 ((rd_T40 t445 x12_4).f0))).setCell ⟨gb449, 1, none⟩ (.int .i64 ((rd_T40 t445 x12_4).f1))).heap[gb424]? = some (.cells #[.slice (some ad427) l0_0.length c0_0] 24 (0, 0))) := ⟨by (with_reducible repeat (first | refine zq1 ?_ _ | refine zq2 ?_ | refine zq3 ?_ _)); refine blk_far ?_ NB424_449.out _; (with_reducible repeat (first | refine zq1 ?_ _ | refine zq2 ?_ | refine zq3 ?_ _)); refine blk_far ?_ NB424_449.out _; (with_reducible repeat (first | refine zq1 ?_ _ | refine zq2 ?_ | refine zq3 ?_ _)); exact BK424.out⟩
                           have n3_ : Aside0 (((w110.setCell ⟨gb449, 0, none⟩ (.int .i64 ((rd_T40 t445 x12_4).f0))).setCell ⟨gb449, 1, none⟩ (.int .i64 ((rd_T40 t445 x12_4).f1))).heap[gb428]? = some (.cells #[.slice A427_0 ((rd_T30 l0_0 x3_1).f0).length c427_0, .slice A427_1 ((rd_T30 l0_0 x3_1).f1).length c427_1, .int .i64 ((rd_T30 l0_0 x3_1).f2), .int .i64 ((rd_T30 l0_0 x3_1).f3), .slice A427_4 ((rd_T30 l0_0 x3_1).f4).length c427_4] 30 (0, 0))) := ⟨by (with_reducible repeat (first | refine zq1 ?_ _ | refine zq2 ?_ | refine zq3 ?_ _)); refine blk_far ?_ NB428_449.out _; (with_reducible repeat (first | refine zq1 ?_ _ | refine zq2 ?_ | refine zq3 ?_ _)); refine blk_far ?_ NB428_449.out _; (with_reducible repeat (first | refine zq1 ?_ _ | refine zq2 ?_ | refine zq3 ?_ _)); exact BK428.out⟩
                           have n4_ : Aside0 (((w110.setCell ⟨gb449, 0, none⟩ (.int .i64 ((rd_T40 t445 x12_4).f0))).setCell ⟨gb449, 1, none⟩ (.int .i64 ((rd_T40 t445 x12_4).f1))).heap[gb449]? = some (.cells #[.int .i64 ((rd_T40 t445 x12_4).f0), .int .i64 ((rd_T40 t445 x12_4).f1)] 40 (0, 0))) := ⟨by (with_reducible repeat (first | refine zq1 ?_ _ | refine zq2 ?_ | refine zq3 ?_ _)); refine blk_put (cs := #[.int .i64 ((rd_T40 t445 x12_4).f0), .int .i64 0]) ?_ 1 _ rfl; (with_reducible repeat (first | refine zq1 ?_ _ | refine zq2 ?_ | refine zq3 ?_ _)); refine blk_put (cs := #[.int .i64 0, .int .i64 0]) ?_ 0 _ rfl; (with_reducible repeat (first | refine zq1 ?_ _ | refine zq2 ?_ | refine zq3 ?_ _)); exact BK449.out⟩
                           have n5_ : Aside0 (Below w.heap.size w ((w110.setCell ⟨gb449, 0, none⟩ (.int .i64 ((rd_T40 t445 x12_4).f0))).setCell ⟨gb449, 1, none⟩ (.int .i64 ((rd_T40 t445 x12_4).f1)))) := ⟨by repeat (first | (with_reducible first | exact HB.out | apply zq5 | apply zq4 | apply zq6 | refine below_set ?_ GE424.out | refine below_set ?_ GE428.out | refine below_set ?_ GE449.out) | exact HB.out)⟩
                           (try clear HO_7)
                           (try clear HO_11)
                           (try clear BK424)
                           (try clear BK428)
                           (try clear BK449)
                           (try clear HB)
                           generalize ((w110.setCell ⟨gb449, 0, none⟩ (.int .i64 ((rd_T40 t445 x12_4).f0))).setCell ⟨gb449, 1, none⟩ (.int .i64 ((rd_T40 t445 x12_4).f1))) = w115 at n0_ n1_ n2_ n3_ n4_ n5_ ⊢
                           have HO_7 := n0_
                           have HO_11 := n1_
                           have BK424 := n2_
                           have BK428 := n3_
                           have BK449 := n4_
                           have HB := n5_
                           clear n0_ n1_ n2_ n3_ n4_ n5_
                           have n0_ := Aside0.mk (Kd.R_drew HO_7.out)
                           have n1_ := Aside0.mk (Kd.R_drew HO_11.out)
                           have n2_ := Aside0.mk (blk_drew BK424.out)
                           have n3_ := Aside0.mk (blk_drew BK428.out)
                           have n4_ := Aside0.mk (blk_drew BK449.out)
                           have n5_ := Aside0.mk (below_drew1 HB.out)
                           clear HO_7
                           clear HO_11
                           clear BK424
                           clear BK428
                           clear BK449
                           clear HB
                           have HO_7 := n0_
                           have HO_11 := n1_
                           have BK424 := n2_
                           have BK428 := n3_
                           have BK449 := n4_
                           have HB := n5_
                           clear n0_ n1_ n2_ n3_ n4_ n5_
                           refine start_ (n := 12) (S := fun w' => w'.cell? ⟨gb428, 0, none⟩ = some (.slice A427_0 ((rd_T30 l0_0 x3_1).f0).length c427_0) ∧ w'.cell? ⟨gb428, 1, none⟩ = some (.slice A427_1 ((rd_T30 l0_0 x3_1).f1).length c427_1) ∧ w'.cell? ⟨gb428, 2, none⟩ = some (.int .i64 ((rd_T30 l0_0 x3_1).f2)) ∧ w'.cell? ⟨gb428, 3, none⟩ = some (.int .i64 ((rd_T30 l0_0 x3_1).f3)) ∧ w'.cell? ⟨gb428, 4, none⟩ = some (.slice A427_4 ((rd_T30 l0_0 x3_1).f4).length c427_4) ∧ w'.cell? ⟨gb449, 0, none⟩ = some (.int .i64 ((rd_T40 t445 x12_4).f0)) ∧ w'.cell? ⟨gb449, 1, none⟩ = some (.int .i64 ((rd_T40 t445 x12_4).f1))) (ds := []) #[false, false, false, false, false, false, false, false, false, false, false, false] (by kernel_rfl) rfl rfl ⟨(blk_cell BK428.out 0).trans rfl, (blk_cell BK428.out 1).trans rfl, (blk_cell BK428.out 2).trans rfl, (blk_cell BK428.out 3).trans rfl, (blk_cell BK428.out 4).trans rfl, (blk_cell BK449.out 0).trans rfl, (blk_cell BK449.out 1).trans rfl⟩ (fun hHeld => ?_); refine with_tabW portolanlaw05_FlowOrder.tab27 portolanlaw05_FlowOrder.bits27 (fun HT_ HW_ => ?_)
                           generalize w115.drew = w116 at HO_7 HO_11 BK424 BK428 BK449 HB hHeld ⊢
                           refine pure_ (i := 0) (N := some 110) (v := ?_) (a' := ?_) #[true, false, false, false, false, false, false, false, false, false, false, false] rfl rfl (any_of HT_.out (by kernel_rfl)) (fun _ _ _ h => h) (Or.inl ⟨by rfl, ?_⟩) ?_ ?_
                           rotate_left
                           ·intro w'
                            go_simp
                            with_reducible rfl
                           rotate_left
                           ·simp only [Act.put, List.setIfInBounds_toArray, List.set_cons_zero, List.set_cons_succ, i64_w, i32_w]
                            rfl
                           refine pure_ (i := 1) (N := some 111) (v := ?_) (a' := ?_) #[true, true, false, false, false, false, false, false, false, false, false, false] rfl rfl (any_of HT_.out (by kernel_rfl)) (fun _ _ _ h => h) (Or.inl ⟨by rfl, ?_⟩) ?_ ?_
                           rotate_left
                           ·intro w'
                            go_simp
                            with_reducible rfl
                           rotate_left
                           ·simp only [Act.put, List.setIfInBounds_toArray, List.set_cons_zero, List.set_cons_succ, i64_w, i32_w]
                            rfl
                           refine pure_ (i := 3) (N := some 113) (v := ?_) (a' := ?_) #[true, true, false, true, false, false, false, false, false, false, false, false] rfl rfl (any_of HT_.out (by kernel_rfl)) (fun _ _ _ h => h) (Or.inl ⟨by rfl, ?_⟩) ?_ ?_
                           rotate_left
                           ·intro w'
                            go_simp
                            with_reducible rfl
                           rotate_left
                           ·simp only [Act.put, List.setIfInBounds_toArray, List.set_cons_zero, List.set_cons_succ, i64_w, i32_w]
                            rfl
                           refine pure_ (i := 6) (N := some 116) (v := ?_) (a' := ?_) #[true, true, false, true, false, false, true, false, false, false, false, false] rfl rfl (any_of HT_.out (by kernel_rfl)) (fun _ _ _ h => h) (Or.inl ⟨by rfl, ?_⟩) ?_ ?_
                           rotate_left
                           ·intro w'
                            go_simp
                            with_reducible rfl
                           rotate_left
                           ·simp only [Act.put, List.setIfInBounds_toArray, List.set_cons_zero, List.set_cons_succ, i64_w, i32_w]
                            rfl
                           refine take_ (i := 2) (N := some 112) (v := ?_) (a' := ?_) #[true, true, true, true, false, false, true, false, false, false, false, false] rfl rfl (take_ofW HT_.out HW_.out (by kernel_rfl)) (fun _ _ _ h => h) (Or.inl ⟨by rfl, ?_⟩) hHeld ?_ ?_
                           rotate_left
                           ·rintro w' ⟨s0, s1, s2, s3, s4, s5, s6⟩
                            go_simp
                            with_reducible rfl
                           rotate_left
                           ·simp only [Act.put, List.setIfInBounds_toArray, List.set_cons_zero, List.set_cons_succ, i64_w, i32_w]
                            rfl
                           refine take_ (i := 4) (N := some 114) (v := ?_) (a' := ?_) #[true, true, true, true, true, false, true, false, false, false, false, false] rfl rfl (take_ofW HT_.out HW_.out (by kernel_rfl)) (fun _ _ _ h => h) (Or.inl ⟨by rfl, ?_⟩) hHeld ?_ ?_
                           rotate_left
                           ·rintro w' ⟨s0, s1, s2, s3, s4, s5, s6⟩
                            go_simp
                            with_reducible rfl
                           rotate_left
                           ·simp only [Act.put, List.setIfInBounds_toArray, List.set_cons_zero, List.set_cons_succ, i64_w, i32_w]
                            rfl
                           refine take_ (i := 7) (N := some 117) (v := ?_) (a' := ?_) #[true, true, true, true, true, false, true, true, false, false, false, false] rfl rfl (take_ofW HT_.out HW_.out (by kernel_rfl)) (fun _ _ _ h => h) (Or.inl ⟨by rfl, ?_⟩) hHeld ?_ ?_
                           rotate_left
                           ·rintro w' ⟨s0, s1, s2, s3, s4, s5, s6⟩
                            go_simp
                            with_reducible rfl
                           rotate_left
                           ·simp only [Act.put, List.setIfInBounds_toArray, List.set_cons_zero, List.set_cons_succ, i64_w, i32_w]
                            rfl
                           refine one_ (i := 5) (N := some 115) #[true, true, true, true, true, true, true, true, false, false, false, false] rfl rfl (one_of HT_.out (by kernel_rfl)) (by decide) (fun K hK => ?_)
                           refine goes_ Try.func32 (by kernel_rfl) rfl #[.agg #[.slice A427_0 ((rd_T30 l0_0 x3_1).f0).length c427_0, .slice A427_1 ((rd_T30 l0_0 x3_1).f1).length c427_1, .int .i64 ((rd_T30 l0_0 x3_1).f2), .int .i64 ((rd_T30 l0_0 x3_1).f3), .slice A427_4 ((rd_T30 l0_0 x3_1).f4).length c427_4], .int .i64 ((rd_T40 t445 x12_4).f1), .int .i64 (-1)] (by rfl) rfl rfl (by (try simp only [List.map_toArray, List.map_cons, List.map_nil]); first | done | rfl | (simp only [List.length_drop, List.length_take]; rfl)) ?_
                           with_reducible refine (portolanref05_Within.calls k4 _ _ ((rd_T30 l0_0 x3_1).f0) _ _ ((rd_T30 l0_0 x3_1).f1) ((rd_T30 l0_0 x3_1).f2) ((rd_T30 l0_0 x3_1).f3) _ _ ((rd_T30 l0_0 x3_1).f4) ((rd_T40 t445 x12_4).f1) (-1) t453 _ ?side1 ?side2 ?side3 ?side4 ?side5 ?side6 A93.out).mono ?_
                           (case side1 => repeat (first | exact (Kd.C_below HR427_0.out HB.out) | (with_reducible refine Kd.C_alloc ?_ _) | (with_reducible refine Kd.C_drewN ?_ _) | (with_reducible refine Kd.C_drew ?_)))
                           (case side2 => exact HC427_0.out)
                           (case side3 => repeat (first | exact (Kd.C_below HR427_1.out HB.out) | (with_reducible refine Kd.C_alloc ?_ _) | (with_reducible refine Kd.C_drewN ?_ _) | (with_reducible refine Kd.C_drew ?_)))
                           (case side4 => exact HC427_1.out)
                           (case side5 => repeat (first | exact (Kd.C_below HR427_4.out HB.out) | (with_reducible refine Kd.C_alloc ?_ _) | (with_reducible refine Kd.C_drewN ?_ _) | (with_reducible refine Kd.C_drew ?_)))
                           (case side6 => exact HC427_4.out)
                           rintro e w117 ⟨v454, rfl, ho0, hb⟩
                           refine ⟨_, rfl, ?_⟩
                           have n0_ := Aside0.mk (Kd.R_below (by (with_reducible repeat (first | apply Kd.R_alloc | apply Kd.R_drewN | apply Kd.R_drew)); exact HO_7.out) hb)
                           have n1_ := Aside0.mk (Kd.R_below (by (with_reducible repeat (first | apply Kd.R_alloc | apply Kd.R_drewN | apply Kd.R_drew)); exact HO_11.out) hb)
                           have n2_ := Aside0.mk (Kd.R_lower ho0 (below_size (by repeat (first | (with_reducible first | exact HB.out | apply zq5 | apply zq4 | apply zq6 | refine below_set ?_ GE424.out | refine below_set ?_ GE428.out | refine below_set ?_ GE449.out) | exact HB.out))))
                           have n3_ := Aside0.mk (blk_below (g := gb424) (o := .cells #[.slice (some ad427) l0_0.length c0_0] 24 (0, 0)) (by (with_reducible repeat (first | refine zq1 ?_ _ | refine zq2 ?_ | refine zq3 ?_ _)); exact BK424.out) hb)
                           have n4_ := Aside0.mk (blk_below (g := gb428) (o := .cells #[.slice A427_0 ((rd_T30 l0_0 x3_1).f0).length c427_0, .slice A427_1 ((rd_T30 l0_0 x3_1).f1).length c427_1, .int .i64 ((rd_T30 l0_0 x3_1).f2), .int .i64 ((rd_T30 l0_0 x3_1).f3), .slice A427_4 ((rd_T30 l0_0 x3_1).f4).length c427_4] 30 (0, 0)) (by (with_reducible repeat (first | refine zq1 ?_ _ | refine zq2 ?_ | refine zq3 ?_ _)); exact BK428.out) hb)
                           have n5_ := Aside0.mk (blk_below (g := gb449) (o := .cells #[.int .i64 ((rd_T40 t445 x12_4).f0), .int .i64 ((rd_T40 t445 x12_4).f1)] 40 (0, 0)) (by (with_reducible repeat (first | refine zq1 ?_ _ | refine zq2 ?_ | refine zq3 ?_ _)); exact BK449.out) hb)
                           have n6_ := Aside0.mk (below_step (by repeat (first | (with_reducible first | exact HB.out | apply zq5 | apply zq4 | apply zq6 | refine below_set ?_ GE424.out | refine below_set ?_ GE428.out | refine below_set ?_ GE449.out) | exact HB.out)) hb)
                           clear HO_7
                           clear HO_11
                           clear BK424
                           clear BK428
                           clear BK449
                           clear HB
                           have HO_7 := n0_
                           have HO_11 := n1_
                           have HO455 := n2_
                           have BK424 := n3_
                           have BK428 := n4_
                           have BK449 := n5_
                           have HB := n6_
                           clear n0_ n1_ n2_ n3_ n4_ n5_ n6_
                           (try clear hb)
                           (try clear hb2)
                           (try clear hk)
                           (try clear hi)
                           (try clear ho0)
                           obtain ⟨Ao118, co118, eo118⟩ := Kd.R_slice HO455.out
                           (first | subst eo118 | (injection eo118 with f1_ f2_ f3_; have f4_ := f1_.symm; have f5_ := f3_.symm; clear f1_ f2_ f3_; subst f4_; subst f5_))
                           have p456 : 0 ≤ (((rd_T40 t445 x12_4).f0) : Int) := of_decide_eq_true (by first | (with_reducible assumption) | assumption)
                           have q456 : ((rd_T40 t445 x12_4).f0) < (t453.length : Int) := of_decide_eq_true (by first | (with_reducible assumption) | assumption)
                           obtain ⟨ad456, e456, hx456_0⟩ := Kd.at_bool (Kd.R_reads' HO455.out).2.2 ((rd_T40 t445 x12_4).f0) p456 q456
                           cases e456
                           replace p456 := eq_true p456
                           replace q456 := eq_true q456
                           refine hK.out _ _ ⟨(blk_cell BK428.out 0).trans rfl, (blk_cell BK428.out 1).trans rfl, (blk_cell BK428.out 2).trans rfl, (blk_cell BK428.out 3).trans rfl, (blk_cell BK428.out 4).trans rfl, (blk_cell BK449.out 0).trans rfl, (blk_cell BK449.out 1).trans rfl⟩ (fun hHeld => ?_)
                           clear hK K
                           refine norm_ (a' := ?_) ?_ ?_
                           rotate_left
                           ·show Act.put _ (some 115) _ = _
                            simp only [Act.put, List.setIfInBounds_toArray, List.set_cons_zero, List.set_cons_succ, i64_w, i32_w]
                            rfl
                           refine pure_ (i := 8) (N := some 118) (v := ?_) (a' := ?_) #[true, true, true, true, true, true, true, true, true, false, false, false] rfl rfl (any_of HT_.out (by kernel_rfl)) (fun _ _ _ h => h) (Or.inl ⟨by rfl, ?_⟩) ?_ ?_
                           rotate_left
                           ·intro w'
                            go_simp
                            with_reducible rfl
                           rotate_left
                           ·simp only [Act.put, List.setIfInBounds_toArray, List.set_cons_zero, List.set_cons_succ, i64_w, i32_w]
                            rfl
                           refine one_yield (S' := fun w' => w'.cell? (ad456.add (((rd_T40 t445 x12_4).f0)).toNat) = some (.bool (rdOf false t453 ((rd_T40 t445 x12_4).f0)))) (i := 9) (N := some 119) (v := ?_) (a' := ?_) #[true, true, true, true, true, true, true, true, true, true, false, false] rfl rfl (one_of HT_.out (by kernel_rfl)) (by decide) (Or.inl ⟨by rfl, ?_⟩) hx456_0 hHeld ?_ ?_
                           rotate_left
                           ·rintro w' s0
                            go_simp
                            with_reducible rfl
                           rotate_left
                           ·simp only [Act.put, List.setIfInBounds_toArray, List.set_cons_zero, List.set_cons_succ, i64_w, i32_w]
                            rfl
                           refine pure_ (i := 10) (N := some 120) (v := ?_) (a' := ?_) #[true, true, true, true, true, true, true, true, true, true, true, false] rfl rfl (any_of HT_.out (by kernel_rfl)) (fun _ _ _ h => h) (Or.inl ⟨by rfl, ?_⟩) ?_ ?_
                           rotate_left
                           ·intro w'
                            go_simp
                            with_reducible rfl
                           rotate_left
                           ·simp only [Act.put, List.setIfInBounds_toArray, List.set_cons_zero, List.set_cons_succ, i64_w, i32_w]
                            rfl
                           refine pure_ (i := 11) (N := some 9) (v := ?_) (a' := ?_) #[true, true, true, true, true, true, true, true, true, true, true, true] rfl rfl (any_of HT_.out (by kernel_rfl)) (fun _ _ _ h => h) (Or.inl ⟨by rfl, ?_⟩) ?_ ?_
                           rotate_left
                           ·intro w'
                            go_simp
                            with_reducible rfl
                           rotate_left
                           ·simp only [Act.put, List.setIfInBounds_toArray, List.set_cons_zero, List.set_cons_succ, i64_w, i32_w]
                            rfl
                           refine done_ (done_of HT_.out (by kernel_rfl)) ?_
                           try go_wp2
                           have n0_ := Aside0.mk (Kd.R_drew HO_7.out)
                           have n1_ := Aside0.mk (Kd.R_drew HO_11.out)
                           have n2_ := Aside0.mk (Kd.R_drew HO455.out)
                           have n3_ := Aside0.mk (blk_drew BK424.out)
                           have n4_ := Aside0.mk (blk_drew BK428.out)
                           have n5_ := Aside0.mk (blk_drew BK449.out)
                           have n6_ := Aside0.mk (below_drew1 HB.out)
                           clear HO_7
                           clear HO_11
                           clear HO455
                           clear BK424
                           clear BK428
                           clear BK449
                           clear HB
                           have HO_7 := n0_
                           have HO_11 := n1_
                           have HO455 := n2_
                           have BK424 := n3_
                           have BK428 := n4_
                           have BK449 := n5_
                           have HB := n6_
                           clear n0_ n1_ n2_ n3_ n4_ n5_ n6_
                           have p457 : 0 ≤ (((rd_T40 t445 x12_4).f1) : Int) := of_decide_eq_true (by first | (with_reducible assumption) | assumption)
                           have q457 : ((rd_T40 t445 x12_4).f1) < (x7_3.length : Int) := of_decide_eq_true (by first | (with_reducible assumption) | assumption)
                           obtain ⟨ad457, e457, hx457_0⟩ := Kd.at_int (Kd.R_reads' HO_7.out).2.2 ((rd_T40 t445 x12_4).f1) p457 q457
                           obtain rfl : ad450 = ad457 := (by injection e457)
                           replace p457 := eq_true p457
                           replace q457 := eq_true q457
                           have p458 : 0 ≤ (((rd_T40 t445 x12_4).f0) : Int) := of_decide_eq_true (by first | (with_reducible assumption) | assumption)
                           have q458 : ((rd_T40 t445 x12_4).f0) < (x7_3.length : Int) := of_decide_eq_true (by first | (with_reducible assumption) | assumption)
                           obtain ⟨ad458, e458, hx458_0⟩ := Kd.at_int (Kd.R_reads' HO_7.out).2.2 ((rd_T40 t445 x12_4).f0) p458 q458
                           obtain rfl : ad450 = ad458 := (by injection e458)
                           replace p458 := eq_true p458
                           replace q458 := eq_true q458
                           refine start_ (n := 15) (S := fun w' => w'.cell? ⟨gb449, 0, none⟩ = some (.int .i64 ((rd_T40 t445 x12_4).f0)) ∧ w'.cell? ⟨gb449, 1, none⟩ = some (.int .i64 ((rd_T40 t445 x12_4).f1)) ∧ w'.cell? (ad450.add (((rd_T40 t445 x12_4).f1)).toNat) = some (.int .i64 (rd x7_3 ((rd_T40 t445 x12_4).f1))) ∧ w'.cell? (ad450.add (((rd_T40 t445 x12_4).f0)).toNat) = some (.int .i64 (rd x7_3 ((rd_T40 t445 x12_4).f0)))) (ds := []) #[false, false, false, false, false, false, false, false, false, false, false, false, false, false, false] (by kernel_rfl) rfl rfl ⟨(blk_cell BK449.out 0).trans rfl, (blk_cell BK449.out 1).trans rfl, hx457_0, hx458_0⟩ (fun hHeld => ?_); refine with_tabW portolanlaw05_FlowOrder.tab28 portolanlaw05_FlowOrder.bits28 (fun HT_ HW_ => ?_)
                           generalize w117.drew = w119 at HO_7 HO_11 HO455 BK424 BK428 BK449 HB hx457_0 hx458_0 hHeld ⊢
                           refine pure_ (i := 0) (N := some 121) (v := ?_) (a' := ?_) #[true, false, false, false, false, false, false, false, false, false, false, false, false, false, false] rfl rfl (any_of HT_.out (by kernel_rfl)) (fun _ _ _ h => h) (Or.inl ⟨by rfl, ?_⟩) ?_ ?_
                           rotate_left
                           ·intro w'
                            go_simp
                            with_reducible rfl
                           rotate_left
                           ·simp only [Act.put, List.setIfInBounds_toArray, List.set_cons_zero, List.set_cons_succ, i64_w, i32_w]
                            rfl
                           refine pure_ (i := 1) (N := some 122) (v := ?_) (a' := ?_) #[true, true, false, false, false, false, false, false, false, false, false, false, false, false, false] rfl rfl (any_of HT_.out (by kernel_rfl)) (fun _ _ _ h => h) (Or.inl ⟨by rfl, ?_⟩) ?_ ?_
                           rotate_left
                           ·intro w'
                            go_simp
                            with_reducible rfl
                           rotate_left
                           ·simp only [Act.put, List.setIfInBounds_toArray, List.set_cons_zero, List.set_cons_succ, i64_w, i32_w]
                            rfl
                           refine pure_ (i := 2) (N := some 123) (v := ?_) (a' := ?_) #[true, true, true, false, false, false, false, false, false, false, false, false, false, false, false] rfl rfl (any_of HT_.out (by kernel_rfl)) (fun _ _ _ h => h) (Or.inl ⟨by rfl, ?_⟩) ?_ ?_
                           rotate_left
                           ·intro w'
                            go_simp
                            with_reducible rfl
                           rotate_left
                           ·simp only [Act.put, List.setIfInBounds_toArray, List.set_cons_zero, List.set_cons_succ, i64_w, i32_w]
                            rfl
                           refine pure_ (i := 3) (N := some 124) (v := ?_) (a' := ?_) #[true, true, true, true, false, false, false, false, false, false, false, false, false, false, false] rfl rfl (any_of HT_.out (by kernel_rfl)) (fun _ _ _ h => h) (Or.inl ⟨by rfl, ?_⟩) ?_ ?_
                           rotate_left
                           ·intro w'
                            go_simp
                            with_reducible rfl
                           rotate_left
                           ·simp only [Act.put, List.setIfInBounds_toArray, List.set_cons_zero, List.set_cons_succ, i64_w, i32_w]
                            rfl
                           refine pure_ (i := 7) (N := some 128) (v := ?_) (a' := ?_) #[true, true, true, true, false, false, false, true, false, false, false, false, false, false, false] rfl rfl (any_of HT_.out (by kernel_rfl)) (fun _ _ _ h => h) (Or.inl ⟨by rfl, ?_⟩) ?_ ?_
                           rotate_left
                           ·intro w'
                            go_simp
                            with_reducible rfl
                           rotate_left
                           ·simp only [Act.put, List.setIfInBounds_toArray, List.set_cons_zero, List.set_cons_succ, i64_w, i32_w]
                            rfl
                           refine pure_ (i := 8) (N := some 129) (v := ?_) (a' := ?_) #[true, true, true, true, false, false, false, true, true, false, false, false, false, false, false] rfl rfl (any_of HT_.out (by kernel_rfl)) (fun _ _ _ h => h) (Or.inl ⟨by rfl, ?_⟩) ?_ ?_
                           rotate_left
                           ·intro w'
                            go_simp
                            with_reducible rfl
                           rotate_left
                           ·simp only [Act.put, List.setIfInBounds_toArray, List.set_cons_zero, List.set_cons_succ, i64_w, i32_w]
                            rfl
                           refine take_ (i := 4) (N := some 125) (v := ?_) (a' := ?_) #[true, true, true, true, true, false, false, true, true, false, false, false, false, false, false] rfl rfl (take_ofW HT_.out HW_.out (by kernel_rfl)) (fun _ _ _ h => h) (Or.inl ⟨by rfl, ?_⟩) hHeld ?_ ?_
                           rotate_left
                           ·rintro w' ⟨s0, s1, s2, s3⟩
                            go_simp
                            with_reducible rfl
                           rotate_left
                           ·simp only [Act.put, List.setIfInBounds_toArray, List.set_cons_zero, List.set_cons_succ, i64_w, i32_w]
                            rfl
                           refine pure_ (i := 5) (N := some 126) (v := ?_) (a' := ?_) #[true, true, true, true, true, true, false, true, true, false, false, false, false, false, false] rfl rfl (any_of HT_.out (by kernel_rfl)) (fun _ _ _ h => h) (Or.inl ⟨by rfl, ?_⟩) ?_ ?_
                           rotate_left
                           ·intro w'
                            go_simp
                            with_reducible rfl
                           rotate_left
                           ·simp only [Act.put, List.setIfInBounds_toArray, List.set_cons_zero, List.set_cons_succ, i64_w, i32_w]
                            rfl
                           refine take_ (i := 6) (N := some 127) (v := ?_) (a' := ?_) #[true, true, true, true, true, true, true, true, true, false, false, false, false, false, false] rfl rfl (take_ofW HT_.out HW_.out (by kernel_rfl)) (fun _ _ _ h => h) (Or.inl ⟨by rfl, ?_⟩) hHeld ?_ ?_
                           rotate_left
                           ·rintro w' ⟨s0, s1, s2, s3⟩
                            go_simp
                            with_reducible rfl
                           rotate_left
                           ·simp only [Act.put, List.setIfInBounds_toArray, List.set_cons_zero, List.set_cons_succ, i64_w, i32_w]
                            rfl
                           refine take_ (i := 9) (N := some 130) (v := ?_) (a' := ?_) #[true, true, true, true, true, true, true, true, true, true, false, false, false, false, false] rfl rfl (take_ofW HT_.out HW_.out (by kernel_rfl)) (fun _ _ _ h => h) (Or.inl ⟨by rfl, ?_⟩) hHeld ?_ ?_
                           rotate_left
                           ·rintro w' ⟨s0, s1, s2, s3⟩
                            go_simp
                            with_reducible rfl
                           rotate_left
                           ·simp only [Act.put, List.setIfInBounds_toArray, List.set_cons_zero, List.set_cons_succ, i64_w, i32_w]
                            rfl
                           refine pure_ (i := 10) (N := some 131) (v := ?_) (a' := ?_) #[true, true, true, true, true, true, true, true, true, true, true, false, false, false, false] rfl rfl (any_of HT_.out (by kernel_rfl)) (fun _ _ _ h => h) (Or.inl ⟨by rfl, ?_⟩) ?_ ?_
                           rotate_left
                           ·intro w'
                            go_simp
                            with_reducible rfl
                           rotate_left
                           ·simp only [Act.put, List.setIfInBounds_toArray, List.set_cons_zero, List.set_cons_succ, i64_w, i32_w]
                            rfl
                           refine take_ (i := 11) (N := some 132) (v := ?_) (a' := ?_) #[true, true, true, true, true, true, true, true, true, true, true, true, false, false, false] rfl rfl (take_ofW HT_.out HW_.out (by kernel_rfl)) (fun _ _ _ h => h) (Or.inl ⟨by rfl, ?_⟩) hHeld ?_ ?_
                           rotate_left
                           ·rintro w' ⟨s0, s1, s2, s3⟩
                            go_simp
                            with_reducible rfl
                           rotate_left
                           ·simp only [Act.put, List.setIfInBounds_toArray, List.set_cons_zero, List.set_cons_succ, i64_w, i32_w]
                            rfl
                           refine pure_ (i := 12) (N := some 133) (v := ?_) (a' := ?_) #[true, true, true, true, true, true, true, true, true, true, true, true, true, false, false] rfl rfl (any_of HT_.out (by kernel_rfl)) (fun _ _ _ h => h) (Or.inl ⟨by rfl, ?_⟩) ?_ ?_
                           rotate_left
                           ·intro w'
                            go_simp
                            with_reducible rfl
                           rotate_left
                           ·simp only [Act.put, List.setIfInBounds_toArray, List.set_cons_zero, List.set_cons_succ, i64_w, i32_w]
                            rfl
                           refine pure_ (i := 13) (N := some 134) (v := ?_) (a' := ?_) #[true, true, true, true, true, true, true, true, true, true, true, true, true, true, false] rfl rfl (any_of HT_.out (by kernel_rfl)) (fun _ _ _ h => h) (Or.inl ⟨by rfl, ?_⟩) ?_ ?_
                           rotate_left
                           ·intro w'
                            go_simp
                            with_reducible rfl
                           rotate_left
                           ·simp only [Act.put, List.setIfInBounds_toArray, List.set_cons_zero, List.set_cons_succ, i64_w, i32_w]
                            rfl
                           refine pure_ (i := 14) (N := some 10) (v := ?_) (a' := ?_) #[true, true, true, true, true, true, true, true, true, true, true, true, true, true, true] rfl rfl (any_of HT_.out (by kernel_rfl)) (fun _ _ _ h => h) (Or.inl ⟨by rfl, ?_⟩) ?_ ?_
                           rotate_left
                           ·intro w'
                            go_simp
                            with_reducible rfl
                           rotate_left
                           ·simp only [Act.put, List.setIfInBounds_toArray, List.set_cons_zero, List.set_cons_succ, i64_w, i32_w]
                            rfl
                           refine done_ (done_of HT_.out (by kernel_rfl)) ?_
                           try go_wp2
                           go_roundg k4
                           case measure => have := HK1.out; have := HJ17.out; have := HK3.out; have := HK4.out; omega
                           case rel => exact ⟨(rdOf false t453 ((rd_T40 t445 x12_4).f0)), (decide ((rd x7_3 ((rd_T40 t445 x12_4).f1)) ≤ (rd x7_3 ((rd_T40 t445 x12_4).f0)))), (wrap64 (x12_4 + 1)), (by first | rfl | (simp; done) | (simp [*]; done)), (by first | rfl | (simp; done) | (simp [*]; done)), (by first | rfl | (simp; done) | (simp [*]; done)), H', ⟨by have := HK1.out; have := HJ17.out; have := HK3.out; have := HK4.out; omega⟩, ⟨by (with_reducible repeat (first | apply Kd.R_alloc | apply Kd.R_drewN | apply Kd.R_drew)); exact HO_7.out⟩, ⟨by (with_reducible repeat (first | apply Kd.R_alloc | apply Kd.R_drewN | apply Kd.R_drew)); exact Kd.R_mono HO_11.out (fun _ hk => trivial)⟩, ⟨by (with_reducible repeat (first | refine zq1 ?_ _ | refine zq2 ?_ | refine zq3 ?_ _)); exact BK424.out⟩, ⟨by (with_reducible repeat (first | refine zq1 ?_ _ | refine zq2 ?_ | refine zq3 ?_ _)); exact BK428.out⟩, ⟨by repeat (first | (with_reducible first | exact HB.out | apply zq5 | apply zq4 | apply zq6 | refine below_set ?_ GE424.out | refine below_set ?_ GE428.out | refine below_set ?_ GE449.out) | exact HB.out)⟩⟩
                          ·rw [if_neg c108] at H
                           exact absurd H (by simp)
                         ·rw [if_neg c107] at H
                          exact absurd H (by simp)
                       ·rw [if_neg c94] at H
                        exact absurd H (by simp)
                    ·rw [if_neg c63] at H
                     exact absurd H (by simp)
                   ·rw [if_neg c62] at H
                    exact absurd H (by simp)
                  ·rw [if_neg c61] at H
                   exact absurd H (by simp)
                 ·rw [if_neg c60] at H
                  have c60b0 : decide (x12_4 < (t445.length : Int)) = false := decide_eq_false c60
                  clear c60
                  by_cases c120 : x10_4 = true
                  ·subst c120
                   have H1 : (if x9_4 = true then (portolanlaw05_FlowOrder.l0 k4 (wrap64 (x3_1 + 1)) l0_0) else (some false)) = some true := by first | (rw [if_pos rfl] at H; exact H) | rfl
                   clear H
                   have H := H1
                   clear H1
                   by_cases c121 : x9_4 = true
                   ·subst c121
                    have H1 : (portolanlaw05_FlowOrder.l0 k4 (wrap64 (x3_1 + 1)) l0_0) = some true := by first | (rw [if_pos rfl] at H; exact H) | rfl
                    clear H
                    have H := H1
                    clear H1
                    have H' := Aside0.mk H
                    clear H
                    obtain ⟨Ao122, co122, eo122⟩ := Kd.R_slice HO_11.out
                    subst eo122
                    go_wp2
                    go_roundg k4
                    case measure => have := HK1.out; have := HJ17.out; have := HK3.out; have := HK4.out; omega
                    case rel => exact ⟨(wrap64 (x3_1 + 1)), (by first | rfl | (simp; done) | (simp [*]; done)), H', ⟨by have := HK1.out; have := HJ17.out; have := HK3.out; have := HK4.out; omega⟩, ⟨by (with_reducible repeat (first | refine zq1 ?_ _ | refine zq2 ?_ | refine zq3 ?_ _)); exact BK424.out⟩, ⟨by repeat (first | (with_reducible first | exact HB.out | apply zq5 | apply zq4 | apply zq6 | refine below_set ?_ GE424.out | refine below_set ?_ GE428.out) | exact HB.out)⟩⟩
                   ·replace c121 := Bool.eq_false_iff.mpr c121
                    subst c121
                    have H1 : (some false) = some true := by first | (rw [if_neg (show ¬ (false = true) by decide)] at H; exact H) | rfl
                    clear H
                    have H := H1
                    clear H1
                    exact absurd (Option.some.inj H) (by decide)
                  ·replace c120 := Bool.eq_false_iff.mpr c120
                   subst c120
                   have H1 : (portolanlaw05_FlowOrder.l0 k4 (wrap64 (x3_1 + 1)) l0_0) = some true := by first | (rw [if_neg (show ¬ (false = true) by decide)] at H; exact H) | rfl
                   clear H
                   have H := H1
                   clear H1
                   have H' := Aside0.mk H
                   clear H
                   obtain ⟨Ao123, co123, eo123⟩ := Kd.R_slice HO_11.out
                   subst eo123
                   go_wp2
                   go_roundg k4
                   case measure => have := HK1.out; have := HJ17.out; have := HK3.out; have := HK4.out; omega
                   case rel => exact ⟨(wrap64 (x3_1 + 1)), (by first | rfl | (simp; done) | (simp [*]; done)), H', ⟨by have := HK1.out; have := HJ17.out; have := HK3.out; have := HK4.out; omega⟩, ⟨by (with_reducible repeat (first | refine zq1 ?_ _ | refine zq2 ?_ | refine zq3 ?_ _)); exact BK424.out⟩, ⟨by repeat (first | (with_reducible first | exact HB.out | apply zq5 | apply zq4 | apply zq6 | refine below_set ?_ GE424.out | refine below_set ?_ GE428.out) | exact HB.out)⟩⟩
           ·rw [if_neg c38] at H
            exact absurd H (by simp)
          ·rw [if_neg c37] at H
           exact absurd H (by simp)
      ·rw [if_neg c15] at H
       exact absurd H (by simp)
     ·rw [if_neg c14] at H
      have c14b0 : decide (x3_1 < (l0_0.length : Int)) = false := decide_eq_false c14
      clear c14
      clear H
      have hcz124_0 : wr.cell? ⟨gb424, 0, none⟩ = some (.slice A0_0 l0_0.length c0_0) := (blk_cell BK424.out 0).trans rfl
      have hfz124_0 := blk_frozen BK424.out 0
      go_wp2
      go_ret
      exact ⟨by first | rfl | (simp [errW_none, errW_some] <;> rfl) | (simp [*, errW_none, errW_some] <;> rfl), by repeat (first | (with_reducible first | exact HB.out | apply zq5 | apply zq4 | apply zq6 | refine below_set ?_ GE424.out) | exact HB.out)⟩
 ·replace c3 := Bool.eq_false_iff.mpr c3
  subst c3
  have H1 : (some false) = some true := by first | (rw [if_neg (show ¬ (false = true) by decide)] at H; exact H) | rfl
  clear H
  have H := H1
  clear H1
  exact absurd (Option.some.inj H) (by decide)
end Go.Proofs.Ytcknmcfomkbenaa.PF
