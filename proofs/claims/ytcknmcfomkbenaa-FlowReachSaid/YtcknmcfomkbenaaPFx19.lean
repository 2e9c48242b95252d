import Derived.Test.YtcknmcfomkbenaaPFx0
import Derived.Test.YtcknmcfomkbenaaPFx2
import Derived.Test.YtcknmcfomkbenaaPFx3
import Derived.Test.YtcknmcfomkbenaaPFx10
import Derived.Test.YtcknmcfomkbenaaPFx14
namespace Go.Proofs.Ytcknmcfomkbenaa.PF
open Go.RowKit Go.Proofs.YtcknmcfomkbenaaW.PrintWords Go.Proofs.YtcknmcfomkbenaaW.PrintLast Go.Proofs.YtcknmcfomkbenaaW.PrintMore
attribute [local go_sem] max2_int min2_int max_two min_two max_three min_three max_four min_four   -- for this text's walks alone
set_option linter.unusedVariables false
set_option linter.unusedSimpArgs false
mutual
def portolanlaw05_FlowReach.l0 : Nat → Int → List (S30) → Option (Bool)
 | 0, _, _ => none
 | k + 1, x3, x460000 => if x3 < (x460000.length : Int) then (if 0 ≤ x3 then (if 0 ≤ (((rd_T30 x460000 x3).f4).length : Int) then (if ((((rd_T30 x460000 x3).f4).length : Int) : Int).toNat ≤ 281474976710656 then ((flow_Reach.f ((rd_T30 x460000 x3).f0) ((rd_T30 x460000 x3).f1) ((rd_T30 x460000 x3).f2) ((rd_T30 x460000 x3).f3) ((rd_T30 x460000 x3).f4)).bind fun t467 => (portolanlaw05_FlowReach.l1 k x3 (List.replicate ((((rd_T30 x460000 x3).f4).length : Int) : Int).toNat false) t467 0 x460000 ((rd_T30 x460000 x3).f0) ((rd_T30 x460000 x3).f1) ((rd_T30 x460000 x3).f2) ((rd_T30 x460000 x3).f3) ((rd_T30 x460000 x3).f4))) else (none)) else (none)) else (none)) else (some true)
def portolanlaw05_FlowReach.l1 : Nat → Int → List Bool → List Int → Int → List (S30) → List Int → List Int → Int → Int → List (S50) → Option (Bool)
 | 0, _, _, _, _, _, _, _, _, _, _ => none
 | k + 1, x3, x5, x6, x7, x460000, x464000, x464001, x464002, x464003, x464004 => if x7 < (x6.length : Int) then (if 0 ≤ x7 then (if (rd x6 x7) < 0 then (some false) else (if (rd x6 x7) ≥ (x5.length : Int) then (some false) else (if 0 ≤ (rd x6 x7) then (if (rd x6 x7) < (x5.length : Int) then (if rdOf false x5 (rd x6 x7) = true then (some false) else (portolanlaw05_FlowReach.l1 k x3 (x5.set ((rd x6 x7) : Int).toNat true) x6 (wrap64 (x7 + 1)) x460000 x464000 x464001 x464002 x464003 x464004)) else (none)) else (none)))) else (none)) else (portolanlaw05_FlowReach.l2 k x3 x5 0 x460000 x464000 x464001 x464002 x464003 x464004)
def portolanlaw05_FlowReach.l2 : Nat → Int → List Bool → Int → List (S30) → List Int → List Int → Int → Int → List (S50) → Option (Bool)
 | 0, _, _, _, _, _, _, _, _, _ => none
 | k + 1, x3, x5, x8, x460000, x464000, x464001, x464002, x464003, x464004 => if x8 < (x5.length : Int) then ((flow_Next.f k x464000 x464001 x464002 x464003 x464004 x8).bind fun t477 => ((flow_Prev.f k x464000 x464001 x464002 x464003 x464004 x8).bind fun t480 => (portolanlaw05_FlowReach.l3 k x3 x5 x8 t477 t480 0 x460000 x464000 x464001 x464002 x464003 x464004))) else (if 0 < (x5.length : Int) then (if rdOf false x5 0 = true then (portolanlaw05_FlowReach.l0 k (wrap64 (x3 + 1)) x460000) else (some false)) else (none))
def portolanlaw05_FlowReach.l3 : Nat → Int → List Bool → Int → List Int → List Int → Int → List (S30) → List Int → List Int → Int → Int → List (S50) → Option (Bool)
 | 0, _, _, _, _, _, _, _, _, _, _, _, _ => none
 | k + 1, x3, x5, x8, x9, x10, x11, x460000, x464000, x464001, x464002, x464003, x464004 => if x11 < (x9.length : Int) then (if 0 ≤ x8 then (if x8 < (x5.length : Int) then (portolanlaw05_FlowReach.j4 k x3 x5 x8 x9 x10 x11 (rdOf false x5 x8) x460000 x464000 x464001 x464002 x464003 x464004) else (none)) else (none)) else (portolanlaw05_FlowReach.j4 k x3 x5 x8 x9 x10 x11 false x460000 x464000 x464001 x464002 x464003 x464004)
def portolanlaw05_FlowReach.j4 : Nat → Int → List Bool → Int → List Int → List Int → Int → Bool → List (S30) → List Int → List Int → Int → Int → List (S50) → Option (Bool)
 | 0, _, _, _, _, _, _, _, _, _, _, _, _, _ => none
 | k + 1, x3, x5, x8, x9, x10, x11, x92, x460000, x464000, x464001, x464002, x464003, x464004 => if x92 = true then (if 0 ≤ x11 then (if x11 < (x9.length : Int) then (if 0 ≤ (rd x9 x11) then (if (rd x9 x11) < (x5.length : Int) then (if (rdOf false x5 (rd x9 x11) = true) then (portolanlaw05_FlowReach.l3 k x3 x5 x8 x9 x10 (wrap64 (x11 + 1)) x460000 x464000 x464001 x464002 x464003 x464004) else (some false)) else (none)) else (none)) else (none)) else (none)) else (portolanlaw05_FlowReach.l4 k x3 x5 x8 x10 (x8 == 0) 0 x460000 x464000 x464001 x464002 x464003 x464004)
def portolanlaw05_FlowReach.l4 : Nat → Int → List Bool → Int → List Int → Bool → Int → List (S30) → List Int → List Int → Int → Int → List (S50) → Option (Bool)
 | 0, _, _, _, _, _, _, _, _, _, _, _, _ => none
 | k + 1, x3, x5, x8, x10, x12, x13, x460000, x464000, x464001, x464002, x464003, x464004 => if x13 < (x10.length : Int) then (if x12 = true then (portolanlaw05_FlowReach.l4 k x3 x5 x8 x10 true (wrap64 (x13 + 1)) x460000 x464000 x464001 x464002 x464003 x464004) else (if 0 ≤ x13 then (if 0 ≤ (rd x10 x13) then (if (rd x10 x13) < (x5.length : Int) then (portolanlaw05_FlowReach.l4 k x3 x5 x8 x10 (rdOf false x5 (rd x10 x13)) (wrap64 (x13 + 1)) x460000 x464000 x464001 x464002 x464003 x464004) else (none)) else (none)) else (none))) else (if 0 ≤ x8 then (if x8 < (x5.length : Int) then (if rdOf false x5 x8 = true then (if x12 = true then (portolanlaw05_FlowReach.l2 k x3 x5 (wrap64 (x8 + 1)) x460000 x464000 x464001 x464002 x464003 x464004) else (some false)) else (portolanlaw05_FlowReach.l2 k x3 x5 (wrap64 (x8 + 1)) x460000 x464000 x464001 x464002 x464003 x464004)) else (none)) else (none))
end
def portolanlaw05_FlowReach.f (k : Nat) (l0_0 : List (S30)) : Option (Bool) := (portolanlaw05_alive.f k).bind fun t460 => (if t460 = true then ((portolanlaw05_out.f k l0_0).bind fun t461 => (if t461 = true then (some true) else (portolanlaw05_FlowReach.l0 k 0 l0_0))) else (some false))
def portolanlaw05_FlowReach.T20 : Bool × List (List Nat × List Nat) := (true, [([], []), ([], []), ([0, 1], [0, 1]), ([], []), ([], []), ([3, 4, 2], [3, 4]), ([2, 5, 0, 1, 2], [2]), ([5, 6, 0, 1, 2, 3, 4, 5, 6], [5])])
def portolanlaw05_FlowReach.B20 : List Nat := [0, 0, 3, 0, 0, 31, 63, 127]
theorem portolanlaw05_FlowReach.tab20 : rtab .any (opsOf Try.f7 20) = portolanlaw05_FlowReach.T20 := by kernel_rfl
theorem portolanlaw05_FlowReach.bits20 : waitsOk portolanlaw05_FlowReach.T20.2 portolanlaw05_FlowReach.B20 = true := by kernel_rfl
set_option maxHeartbeats 8000000 in
set_option maxRecDepth 100000 in
theorem portolanlaw05_FlowReach.calls (k : Nat) (A0_0 : Option Addr) (c0_0 : Nat) (l0_0 : List (S30)) (w : World) (hr0_0 : Kd.C k30 w A0_0 l0_0.length l0_0) (hc0_0 : l0_0.length ≤ c0_0) (h : portolanlaw05_FlowReach.f k l0_0 = some true) :
  Calls Try.prog 7 #[.agg #[.slice A0_0 l0_0.length c0_0]] w fun e w' => e = .returned (.bool true) ∧ Below w.heap.size w w' := by
 have hu24 := Try.underlying24
 have hu30 := Try.underlying30
 have HR0_0 := Aside0.mk hr0_0
 have HC0_0 := Aside0.mk hc0_0
 clear hr0_0 hc0_0
 have HB := Aside0.mk (Below.refl w.heap.size w)
 have H : ((portolanlaw05_alive.f k).bind fun t460 => (if t460 = true then ((portolanlaw05_out.f k l0_0).bind fun t461 => (if t461 = true then (some true) else (portolanlaw05_FlowReach.l0 k 0 l0_0))) else (some false))) = some true := h
 clear h
 replace H := Option.bind_eq_some_iff.mp H
 obtain ⟨t460, A20, H⟩ := H
 replace H : (if t460 = true then ((portolanlaw05_out.f k l0_0).bind fun t461 => (if t461 = true then (some true) else (portolanlaw05_FlowReach.l0 k 0 l0_0))) else (some false)) = some true := H
 have A2 := Aside0.mk A20
 clear A20
 by_cases c3 : t460 = true
 ·subst c3
  have H1 : ((portolanlaw05_out.f k l0_0).bind fun t461 => (if t461 = true then (some true) else (portolanlaw05_FlowReach.l0 k 0 l0_0))) = some true := by first | (rw [if_pos rfl] at H; exact H) | rfl
  clear H
  have H := H1
  clear H1
  replace H := Option.bind_eq_some_iff.mp H
  obtain ⟨t461, A40, H⟩ := H
  replace H : (if t461 = true then (some true) else (portolanlaw05_FlowReach.l0 k 0 l0_0)) = some true := H
  have A4 := Aside0.mk A40
  clear A40
  by_cases c5 : t461 = true
  ·subst c5
   have H1 : (some true) = some true := by first | (rw [if_pos rfl] at H; exact H) | rfl
   clear H
   have H := H1
   clear H1
   clear H
   go_enter Try.func7, Try.ntmps7
   go_wp2_with (first | ((with_reducible refine gate_dst (N := 1) rfl ?_); (try (refine gate_guard (by rfl) ?_; dsimp only)); refine box_event ?hg (N := 1) ?hd (cs := #[.slice A0_0 l0_0.length c0_0]) (t := 24) ?hr ?_; (case hd => rfl); (case hg => rfl); (case hr => first | (go_simp; done) | (go_simp; rfl)); intro gb459 hg w6 hbox hb; have n0_ := Aside0.mk (below_step (by repeat (first | (with_reducible first | exact HB.out | apply zq5 | apply zq4 | apply zq6) | exact HB.out)) hb); have n1_ := Aside0.mk (hbox); have n2_ := Aside0.mk ((by rw [hg]; exact (below_size (by repeat (first | (with_reducible first | exact HB.out | apply zq5 | apply zq4 | apply zq6) | exact HB.out))) : w.heap.size ≤ gb459)); have n3_ := Aside0.mk ((by rw [hg]; exact (below_size (by repeat (first | (with_reducible first | exact HB.out | apply zq5 | apply zq4 | apply zq6) | exact HB.out))) : w.heap.size ≤ gb459)); clear HB; have HB := n0_; have BK459 := n1_; have GW459 := n2_; have GE459 := n3_; clear n0_ n1_ n2_ n3_; clear hb hbox hg) | ((with_reducible refine gate_callee (f := 16) rfl ?_); refine goesL_ (some 14) rfl rfl Try.func16 (by kernel_rfl) rfl #[] rfl (by (try simp only [List.map_toArray, List.map_cons, List.map_nil]); first | done | rfl | (simp only [List.length_drop, List.length_take]; rfl)) ?_; (with_reducible refine (portolanlaw05_alive.calls k  true _ A2.out).mono ?_); rintro e w7 ⟨rfl, hb⟩; refine ⟨_, rfl, ?_⟩; have n0_ := Aside0.mk (blk_below (g := gb459) (o := .cells #[.slice A0_0 l0_0.length c0_0] 24 (0, 0)) (by (with_reducible repeat (first | refine zq1 ?_ _ | refine zq2 ?_ | refine zq3 ?_ _)); exact BK459.out) hb); have n1_ := Aside0.mk (below_step (by repeat (first | (with_reducible first | exact HB.out | apply zq5 | apply zq4 | apply zq6 | refine below_set ?_ GE459.out) | exact HB.out)) hb); clear BK459; clear HB; have BK459 := n0_; have HB := n1_; clear n0_ n1_; (try clear hb); (try clear hb2); (try clear hk); (try clear hi); have hcz8_0 : w7.cell? ⟨gb459, 0, none⟩ = some (.slice A0_0 l0_0.length c0_0) := (blk_cell BK459.out 0).trans rfl; have hfz8_0 := blk_frozen BK459.out 0) | ((with_reducible refine gate_callee (f := 17) rfl ?_); refine goesL_ (some 17) rfl rfl Try.func17 (by kernel_rfl) rfl #[.agg #[.slice A0_0 l0_0.length c0_0]] rfl (by (try simp only [List.map_toArray, List.map_cons, List.map_nil]); first | done | rfl | (simp only [List.length_drop, List.length_take]; rfl)) ?_; (with_reducible refine (portolanlaw05_out.calls k _ _ l0_0 true _ ?side1 ?side2 A4.out).mono ?_); (case side1 => repeat (first | exact (Kd.C_below HR0_0.out HB.out) | (with_reducible refine Kd.C_alloc ?_ _) | (with_reducible refine Kd.C_drewN ?_ _) | (with_reducible refine Kd.C_drew ?_))); (case side2 => exact HC0_0.out); rintro e w9 ⟨rfl, hb⟩; refine ⟨_, rfl, ?_⟩; have n0_ := Aside0.mk (blk_below (g := gb459) (o := .cells #[.slice A0_0 l0_0.length c0_0] 24 (0, 0)) (by (with_reducible repeat (first | refine zq1 ?_ _ | refine zq2 ?_ | refine zq3 ?_ _)); exact BK459.out) hb); have n1_ := Aside0.mk (below_step (by repeat (first | (with_reducible first | exact HB.out | apply zq5 | apply zq4 | apply zq6 | refine below_set ?_ GE459.out) | exact HB.out)) hb); clear BK459; clear HB; have BK459 := n0_; have HB := n1_; clear n0_ n1_; (try clear hb); (try clear hb2); (try clear hk); (try clear hi)))
   go_ret
   exact ⟨by first | rfl | (simp [errW_none, errW_some] <;> rfl) | (simp [*, errW_none, errW_some] <;> rfl), by repeat (first | (with_reducible first | exact HB.out | apply zq5 | apply zq4 | apply zq6 | refine below_set ?_ GE459.out) | exact HB.out)⟩
  ·replace c5 := Bool.eq_false_iff.mpr c5
   subst c5
   have H1 : (portolanlaw05_FlowReach.l0 k 0 l0_0) = some true := by first | (rw [if_neg (show ¬ (false = true) by decide)] at H; exact H) | rfl
   clear H
   have H := H1
   clear H1
   have H' := Aside0.mk H
   clear H
   go_enter Try.func7, Try.ntmps7
   go_wp2_with (first | ((with_reducible refine gate_dst (N := 1) rfl ?_); (try (refine gate_guard (by rfl) ?_; dsimp only)); refine box_event ?hg (N := 1) ?hd (cs := #[.slice A0_0 l0_0.length c0_0]) (t := 24) ?hr ?_; (case hd => rfl); (case hg => rfl); (case hr => first | (go_simp; done) | (go_simp; rfl)); intro gb459 hg w10 hbox hb; have n0_ := Aside0.mk (below_step (by repeat (first | (with_reducible first | exact HB.out | apply zq5 | apply zq4 | apply zq6) | exact HB.out)) hb); have n1_ := Aside0.mk (hbox); have n2_ := Aside0.mk ((by rw [hg]; exact (below_size (by repeat (first | (with_reducible first | exact HB.out | apply zq5 | apply zq4 | apply zq6) | exact HB.out))) : w.heap.size ≤ gb459)); have n3_ := Aside0.mk ((by rw [hg]; exact (below_size (by repeat (first | (with_reducible first | exact HB.out | apply zq5 | apply zq4 | apply zq6) | exact HB.out))) : w.heap.size ≤ gb459)); clear HB; have HB := n0_; have BK459 := n1_; have GW459 := n2_; have GE459 := n3_; clear n0_ n1_ n2_ n3_; clear hb hbox hg) | ((with_reducible refine gate_callee (f := 16) rfl ?_); refine goesL_ (some 14) rfl rfl Try.func16 (by kernel_rfl) rfl #[] rfl (by (try simp only [List.map_toArray, List.map_cons, List.map_nil]); first | done | rfl | (simp only [List.length_drop, List.length_take]; rfl)) ?_; (with_reducible refine (portolanlaw05_alive.calls k  true _ A2.out).mono ?_); rintro e w11 ⟨rfl, hb⟩; refine ⟨_, rfl, ?_⟩; have n0_ := Aside0.mk (blk_below (g := gb459) (o := .cells #[.slice A0_0 l0_0.length c0_0] 24 (0, 0)) (by (with_reducible repeat (first | refine zq1 ?_ _ | refine zq2 ?_ | refine zq3 ?_ _)); exact BK459.out) hb); have n1_ := Aside0.mk (below_step (by repeat (first | (with_reducible first | exact HB.out | apply zq5 | apply zq4 | apply zq6 | refine below_set ?_ GE459.out) | exact HB.out)) hb); clear BK459; clear HB; have BK459 := n0_; have HB := n1_; clear n0_ n1_; (try clear hb); (try clear hb2); (try clear hk); (try clear hi); have hcz12_0 : w11.cell? ⟨gb459, 0, none⟩ = some (.slice A0_0 l0_0.length c0_0) := (blk_cell BK459.out 0).trans rfl; have hfz12_0 := blk_frozen BK459.out 0) | ((with_reducible refine gate_callee (f := 17) rfl ?_); refine goesL_ (some 17) rfl rfl Try.func17 (by kernel_rfl) rfl #[.agg #[.slice A0_0 l0_0.length c0_0]] rfl (by (try simp only [List.map_toArray, List.map_cons, List.map_nil]); first | done | rfl | (simp only [List.length_drop, List.length_take]; rfl)) ?_; (with_reducible refine (portolanlaw05_out.calls k _ _ l0_0 false _ ?side1 ?side2 A4.out).mono ?_); (case side1 => repeat (first | exact (Kd.C_below HR0_0.out HB.out) | (with_reducible refine Kd.C_alloc ?_ _) | (with_reducible refine Kd.C_drewN ?_ _) | (with_reducible refine Kd.C_drew ?_))); (case side2 => exact HC0_0.out); rintro e w13 ⟨rfl, hb⟩; refine ⟨_, rfl, ?_⟩; have n0_ := Aside0.mk (blk_below (g := gb459) (o := .cells #[.slice A0_0 l0_0.length c0_0] 24 (0, 0)) (by (with_reducible repeat (first | refine zq1 ?_ _ | refine zq2 ?_ | refine zq3 ?_ _)); exact BK459.out) hb); have n1_ := Aside0.mk (below_step (by repeat (first | (with_reducible first | exact HB.out | apply zq5 | apply zq4 | apply zq6 | refine below_set ?_ GE459.out) | exact HB.out)) hb); clear BK459; clear HB; have BK459 := n0_; have HB := n1_; clear n0_ n1_; (try clear hb); (try clear hb2); (try clear hk); (try clear hi)))
   go_loopg [3] k (fun kq v3 w' => ∃ (x3_1 : Int), v3 = .int .i64 x3_1 ∧ Aside0 (portolanlaw05_FlowReach.l0 kq x3_1 l0_0 = some true) ∧ Aside0 (kq ≤ k) ∧ Aside0 (w'.heap[gb459]? = some (.cells #[(.slice A0_0 l0_0.length c0_0)] 24 (0, 0))) ∧ Aside0 (Below w.heap.size w w'))
   case atStart => exact ⟨(0), (by first | rfl | (simp; done) | (simp [*]; done)), H', ⟨Nat.le_refl _⟩, ⟨by (with_reducible repeat (first | refine zq1 ?_ _ | refine zq2 ?_ | refine zq3 ?_ _)); exact BK459.out⟩, ⟨by repeat (first | (with_reducible first | exact HB.out | apply zq5 | apply zq4 | apply zq6 | refine below_set ?_ GE459.out) | exact HB.out)⟩⟩
   case round =>
    clear H'
    try clear c1
    try clear p2
    try clear c3
    try clear c5
    try clear c7
    try clear hcz12_0
    try clear hcz8_0
    try clear hfz12_0
    try clear hfz8_0
    obtain ⟨x3_1, rfl, HA, HK1, BK459, HB⟩ := hrel
    cases gk with
    | zero => exact absurd HA.out (by simp [portolanlaw05_FlowReach.l0])
    | succ k1 =>
     have H := HA.out
     clear HA
     simp only [portolanlaw05_FlowReach.l0] at H
     by_cases c14 : x3_1 < (l0_0.length : Int)
     ·rw [if_pos c14] at H
      have c14b0 : decide (x3_1 < (l0_0.length : Int)) = true := decide_eq_true c14
      clear c14
      by_cases c15 : 0 ≤ x3_1
      ·rw [if_pos c15] at H
       have c15b0 : decide (0 ≤ x3_1) = true := decide_eq_true c15
       clear c15
       by_cases c16 : 0 ≤ (((rd_T30 l0_0 x3_1).f4).length : Int)
       ·rw [if_pos c16] at H
        have c16b0 := eq_true c16
        have c16b1 : decide (0 ≤ (((rd_T30 l0_0 x3_1).f4).length : Int)) = true := decide_eq_true c16
        clear c16
        by_cases c17 : ((((rd_T30 l0_0 x3_1).f4).length : Int) : Int).toNat ≤ 281474976710656
        ·rw [if_pos c17] at H
         have c17b0 := eq_true c17
         have c17b1 : decide (((((rd_T30 l0_0 x3_1).f4).length : Int) : Int).toNat ≤ 281474976710656) = true := decide_eq_true c17
         clear c17
         obtain ⟨y464, hy464⟩ : ∃ y_ : List Bool, y_ = (List.replicate ((((rd_T30 l0_0 x3_1).f4).length : Int) : Int).toNat false) := ⟨_, rfl⟩
         replace H : ((flow_Reach.f ((rd_T30 l0_0 x3_1).f0) ((rd_T30 l0_0 x3_1).f1) ((rd_T30 l0_0 x3_1).f2) ((rd_T30 l0_0 x3_1).f3) ((rd_T30 l0_0 x3_1).f4)).bind fun t467 => (portolanlaw05_FlowReach.l1 k1 x3_1 y464 t467 0 l0_0 ((rd_T30 l0_0 x3_1).f0) ((rd_T30 l0_0 x3_1).f1) ((rd_T30 l0_0 x3_1).f2) ((rd_T30 l0_0 x3_1).f3) ((rd_T30 l0_0 x3_1).f4))) = some true := by first | (rw [hy464]; with_reducible exact H) | (have H2_ := (Option.bind_some _ _).symm.trans H; rw [hy464]; with_reducible exact H2_) | (have H2_ := (Option.bind_some _ _).symm.trans H; with_reducible exact H2_) | with_reducible exact H | (rw [hy464]; exact H) | exact H
         have Ny464 := Aside0.mk hy464
         clear hy464
         replace H := Option.bind_eq_some_iff.mp H
         obtain ⟨t467, A180, H⟩ := H
         replace H : (portolanlaw05_FlowReach.l1 k1 x3_1 y464 t467 0 l0_0 ((rd_T30 l0_0 x3_1).f0) ((rd_T30 l0_0 x3_1).f1) ((rd_T30 l0_0 x3_1).f2) ((rd_T30 l0_0 x3_1).f3) ((rd_T30 l0_0 x3_1).f4)) = some true := H
         have A18 := Aside0.mk A180
         clear A180
         have H' := Aside0.mk H
         clear H
         have hcz19_0 : wr.cell? ⟨gb459, 0, none⟩ = some (.slice A0_0 l0_0.length c0_0) := (blk_cell BK459.out 0).trans rfl
         have hfz19_0 := blk_frozen BK459.out 0
         have p462 : 0 ≤ (x3_1 : Int) := of_decide_eq_true (by first | (with_reducible assumption) | assumption)
         have q462 : x3_1 < (l0_0.length : Int) := of_decide_eq_true (by first | (with_reducible assumption) | assumption)
         obtain ⟨ad462, A462_0, c462_0, A462_1, c462_1, A462_4, c462_4, e462, hx462_0, hx462_1, hx462_2, hx462_3, hx462_4, hl462_0, hi462_0, hl462_1, hi462_1, hl462_4, hi462_4⟩ := at_T30 HR0_0.out x3_1 p462 q462
         cases e462
         replace hx462_0 := (HB.out.cell (World.block_lt_of_cell? w _ hx462_0)).trans hx462_0
         replace hx462_1 := (HB.out.cell (World.block_lt_of_cell? w _ hx462_1)).trans hx462_1
         replace hx462_2 := (HB.out.cell (World.block_lt_of_cell? w _ hx462_2)).trans hx462_2
         replace hx462_3 := (HB.out.cell (World.block_lt_of_cell? w _ hx462_3)).trans hx462_3
         replace hx462_4 := (HB.out.cell (World.block_lt_of_cell? w _ hx462_4)).trans hx462_4
         have HR462_0 := Aside0.mk hi462_0
         have HC462_0 := Aside0.mk hl462_0
         clear hi462_0 hl462_0
         have HR462_1 := Aside0.mk hi462_1
         have HC462_1 := Aside0.mk hl462_1
         clear hi462_1 hl462_1
         have HR462_4 := Aside0.mk hi462_4
         have HC462_4 := Aside0.mk hl462_4
         clear hi462_4 hl462_4
         replace p462 := eq_true p462
         replace q462 := eq_true q462
         go_wp2_with (first | ((with_reducible refine gate_dst (N := 4) rfl ?_); (try (refine gate_guard (by rfl) ?_; dsimp only)); refine box_event ?hg (N := 4) ?hd (cs := #[.slice none 0 0, .slice none 0 0, .int .i64 0, .int .i64 0, .slice none 0 0]) (t := 30) ?hr ?_; (case hd => rfl); (case hg => rfl); (case hr => first | (go_simp; done) | (go_simp; rfl)); intro gb463 hg w20 hbox hb; have n0_ := Aside0.mk (blk_below (g := gb459) (o := .cells #[.slice (some ad462) l0_0.length c0_0] 24 (0, 0)) (by (with_reducible repeat (first | refine zq1 ?_ _ | refine zq2 ?_ | refine zq3 ?_ _)); exact BK459.out) hb); have n1_ := Aside0.mk (below_step (by repeat (first | (with_reducible first | exact HB.out | apply zq5 | apply zq4 | apply zq6 | refine below_set ?_ GE459.out) | exact HB.out)) hb); have n2_ := Aside0.mk (hbox); have n3_ := Aside0.mk ((by rw [hg]; exact (below_size (by repeat (first | (with_reducible first | exact HB.out | apply zq5 | apply zq4 | apply zq6 | refine below_set ?_ GE459.out) | exact HB.out))) : w.heap.size ≤ gb463)); have n4_ := Aside0.mk ((by rw [hg]; exact (below_size (by repeat (first | (with_reducible first | exact HB.out | apply zq5 | apply zq4 | apply zq6 | refine below_set ?_ GE459.out) | exact HB.out))) : w.heap.size ≤ gb463)); have n5_ := Aside0.mk ((by rw [hg]; exact Nat.ne_of_lt (blk_lt (g := gb459) (o := .cells #[.slice (some ad462) l0_0.length c0_0] 24 (0, 0)) (by (with_reducible repeat (first | refine zq1 ?_ _ | refine zq2 ?_ | refine zq3 ?_ _)); exact BK459.out)) : gb459 ≠ gb463)); have n6_ := Aside0.mk ((by rw [hg]; exact Nat.ne_of_gt (blk_lt (g := gb459) (o := .cells #[.slice (some ad462) l0_0.length c0_0] 24 (0, 0)) (by (with_reducible repeat (first | refine zq1 ?_ _ | refine zq2 ?_ | refine zq3 ?_ _)); exact BK459.out)) : gb463 ≠ gb459)); clear BK459; clear HB; have BK459 := n0_; have HB := n1_; have BK463 := n2_; have GW463 := n3_; have GE463 := n4_; have NB459_463 := n5_; have NB463_459 := n6_; clear n0_ n1_ n2_ n3_ n4_ n5_ n6_; clear hb hbox hg; have hnb21 := NB463_459.out; have hnc21 := NB459_463.out; have hcz22_0 : w20.cell? ⟨gb463, 0, none⟩ = some (.slice none 0 0) := (blk_cell BK463.out 0).trans rfl; have hcz22_1 : w20.cell? ⟨gb463, 1, none⟩ = some (.slice none 0 0) := (blk_cell BK463.out 1).trans rfl; have hcz22_2 : w20.cell? ⟨gb463, 2, none⟩ = some (.int .i64 0) := (blk_cell BK463.out 2).trans rfl; have hcz22_3 : w20.cell? ⟨gb463, 3, none⟩ = some (.int .i64 0) := (blk_cell BK463.out 3).trans rfl; have hcz22_4 : w20.cell? ⟨gb463, 4, none⟩ = some (.slice none 0 0) := (blk_cell BK463.out 4).trans rfl; have hfz22_0 := blk_frozen BK463.out 0; have hfz22_1 := blk_frozen BK463.out 1; have hfz22_2 := blk_frozen BK463.out 2; have hfz22_3 := blk_frozen BK463.out 3; have hfz22_4 := blk_frozen BK463.out 4) | ((with_reducible refine gate_dst (N := 33) rfl ?_); (try (refine gate_guard (by rfl) ?_; dsimp only)); refine Kd.R_make Kd.bool _ 4 rfl (N := 33) rfl 43 _ _ rfl (((rd_T30 l0_0 x3_1).f4).length : Int) rfl rfl Try.underlying43 (.bool false) 1 info4 rfl (by decide) (by omega) false (ok := fun _ => True) (okp := fun _ => True) rfl (fun _ hk => hk) trivial (of_decide_eq_true (by first | (with_reducible assumption) | assumption)) (Nat.le_trans (Nat.mul_le_mul_right _ (of_decide_eq_true (by first | (with_reducible assumption) | assumption) : (((rd_T30 l0_0 x3_1).f4).length : Int).toNat ≤ 281474976710656)) (by omega)) (Below.refl _ _) (Nat.le_refl _) ?_; intro v465 w23 ho24 hb hg_ hnew_; clear hg_ hnew_; (first | rw [← Ny464.out] at ho24 | (simp only [Int.reduceToNat] at ho24; rw [← Ny464.out] at ho24)); have n0_ := Aside0.mk (Kd.R_lower ho24 (below_size (by repeat (first | (with_reducible first | exact HB.out | apply zq5 | apply zq4 | apply zq6 | refine below_set ?_ GE459.out | refine below_set ?_ GE463.out) | exact HB.out)))); have n1_ := Aside0.mk (blk_below (g := gb459) (o := .cells #[.slice (some ad462) l0_0.length c0_0] 24 (0, 0)) (by (with_reducible repeat (first | refine zq1 ?_ _ | refine zq2 ?_ | refine zq3 ?_ _)); refine blk_far ?_ NB459_463.out _; (with_reducible repeat (first | refine zq1 ?_ _ | refine zq2 ?_ | refine zq3 ?_ _)); refine blk_far ?_ NB459_463.out _; (with_reducible repeat (first | refine zq1 ?_ _ | refine zq2 ?_ | refine zq3 ?_ _)); refine blk_far ?_ NB459_463.out _; (with_reducible repeat (first | refine zq1 ?_ _ | refine zq2 ?_ | refine zq3 ?_ _)); refine blk_far ?_ NB459_463.out _; (with_reducible repeat (first | refine zq1 ?_ _ | refine zq2 ?_ | refine zq3 ?_ _)); refine blk_far ?_ NB459_463.out _; (with_reducible repeat (first | refine zq1 ?_ _ | refine zq2 ?_ | refine zq3 ?_ _)); exact BK459.out) hb); have n2_ := Aside0.mk (blk_below (g := gb463) (o := .cells #[.slice A462_0 ((rd_T30 l0_0 x3_1).f0).length c462_0, .slice A462_1 ((rd_T30 l0_0 x3_1).f1).length c462_1, .int .i64 ((rd_T30 l0_0 x3_1).f2), .int .i64 ((rd_T30 l0_0 x3_1).f3), .slice A462_4 ((rd_T30 l0_0 x3_1).f4).length c462_4] 30 (0, 0)) (by (with_reducible repeat (first | refine zq1 ?_ _ | refine zq2 ?_ | refine zq3 ?_ _)); refine blk_put (cs := #[.slice A462_0 ((rd_T30 l0_0 x3_1).f0).length c462_0, .slice A462_1 ((rd_T30 l0_0 x3_1).f1).length c462_1, .int .i64 ((rd_T30 l0_0 x3_1).f2), .int .i64 ((rd_T30 l0_0 x3_1).f3), .slice none 0 0]) ?_ 4 _ rfl; (with_reducible repeat (first | refine zq1 ?_ _ | refine zq2 ?_ | refine zq3 ?_ _)); refine blk_put (cs := #[.slice A462_0 ((rd_T30 l0_0 x3_1).f0).length c462_0, .slice A462_1 ((rd_T30 l0_0 x3_1).f1).length c462_1, .int .i64 ((rd_T30 l0_0 x3_1).f2), .int .i64 0, .slice none 0 0]) ?_ 3 _ rfl; (with_reducible repeat (first | refine zq1 ?_ _ | refine zq2 ?_ | refine zq3 ?_ _)); refine blk_put (cs := #[.slice A462_0 ((rd_T30 l0_0 x3_1).f0).length c462_0, .slice A462_1 ((rd_T30 l0_0 x3_1).f1).length c462_1, .int .i64 0, .int .i64 0, .slice none 0 0]) ?_ 2 _ rfl; (with_reducible repeat (first | refine zq1 ?_ _ | refine zq2 ?_ | refine zq3 ?_ _)); refine blk_put (cs := #[.slice A462_0 ((rd_T30 l0_0 x3_1).f0).length c462_0, .slice none 0 0, .int .i64 0, .int .i64 0, .slice none 0 0]) ?_ 1 _ rfl; (with_reducible repeat (first | refine zq1 ?_ _ | refine zq2 ?_ | refine zq3 ?_ _)); refine blk_put (cs := #[.slice none 0 0, .slice none 0 0, .int .i64 0, .int .i64 0, .slice none 0 0]) ?_ 0 _ rfl; (with_reducible repeat (first | refine zq1 ?_ _ | refine zq2 ?_ | refine zq3 ?_ _)); exact BK463.out) hb); have n3_ := Aside0.mk (below_step (by repeat (first | (with_reducible first | exact HB.out | apply zq5 | apply zq4 | apply zq6 | refine below_set ?_ GE459.out | refine below_set ?_ GE463.out) | exact HB.out)) hb); clear BK459; clear BK463; clear HB; have HO466 := n0_; have BK459 := n1_; have BK463 := n2_; have HB := n3_; clear n0_ n1_ n2_ n3_; clear hb ho24; have hcz25_0 : w23.cell? ⟨gb463, 0, none⟩ = some (.slice A462_0 ((rd_T30 l0_0 x3_1).f0).length c462_0) := (blk_cell BK463.out 0).trans rfl; have hcz25_1 : w23.cell? ⟨gb463, 1, none⟩ = some (.slice A462_1 ((rd_T30 l0_0 x3_1).f1).length c462_1) := (blk_cell BK463.out 1).trans rfl; have hcz25_2 : w23.cell? ⟨gb463, 2, none⟩ = some (.int .i64 ((rd_T30 l0_0 x3_1).f2)) := (blk_cell BK463.out 2).trans rfl; have hcz25_3 : w23.cell? ⟨gb463, 3, none⟩ = some (.int .i64 ((rd_T30 l0_0 x3_1).f3)) := (blk_cell BK463.out 3).trans rfl; have hcz25_4 : w23.cell? ⟨gb463, 4, none⟩ = some (.slice A462_4 ((rd_T30 l0_0 x3_1).f4).length c462_4) := (blk_cell BK463.out 4).trans rfl; have hfz25_0 := blk_frozen BK463.out 0; have hfz25_1 := blk_frozen BK463.out 1; have hfz25_2 := blk_frozen BK463.out 2; have hfz25_3 := blk_frozen BK463.out 3; have hfz25_4 := blk_frozen BK463.out 4) | ((with_reducible refine gate_callee (f := 28) rfl ?_); refine goesL_ (some 35) rfl rfl Try.func28 (by kernel_rfl) rfl #[.agg #[.slice A462_0 ((rd_T30 l0_0 x3_1).f0).length c462_0, .slice A462_1 ((rd_T30 l0_0 x3_1).f1).length c462_1, .int .i64 ((rd_T30 l0_0 x3_1).f2), .int .i64 ((rd_T30 l0_0 x3_1).f3), .slice A462_4 ((rd_T30 l0_0 x3_1).f4).length c462_4]] rfl (by (try simp only [List.map_toArray, List.map_cons, List.map_nil]); first | done | rfl | (simp only [List.length_drop, List.length_take]; rfl)) ?_; (with_reducible refine (flow_Reach.calls _ _ ((rd_T30 l0_0 x3_1).f0) _ _ ((rd_T30 l0_0 x3_1).f1) ((rd_T30 l0_0 x3_1).f2) ((rd_T30 l0_0 x3_1).f3) _ _ ((rd_T30 l0_0 x3_1).f4) t467 _ ?side1 ?side2 ?side3 ?side4 ?side5 ?side6 A18.out).mono ?_); (case side1 => repeat (first | exact (Kd.C_below HR462_0.out HB.out) | (with_reducible refine Kd.C_alloc ?_ _) | (with_reducible refine Kd.C_drewN ?_ _) | (with_reducible refine Kd.C_drew ?_))); (case side2 => exact HC462_0.out); (case side3 => repeat (first | exact (Kd.C_below HR462_1.out HB.out) | (with_reducible refine Kd.C_alloc ?_ _) | (with_reducible refine Kd.C_drewN ?_ _) | (with_reducible refine Kd.C_drew ?_))); (case side4 => exact HC462_1.out); (case side5 => repeat (first | exact (Kd.C_below HR462_4.out HB.out) | (with_reducible refine Kd.C_alloc ?_ _) | (with_reducible refine Kd.C_drewN ?_ _) | (with_reducible refine Kd.C_drew ?_))); (case side6 => exact HC462_4.out); rintro e w26 ⟨v468, rfl, ho0, hb⟩; refine ⟨_, rfl, ?_⟩; have n0_ := Aside0.mk (Kd.R_below (by (with_reducible repeat (first | apply Kd.R_alloc | apply Kd.R_drewN | apply Kd.R_drew)); exact HO466.out) hb); have n1_ := Aside0.mk (Kd.R_lower ho0 (below_size (by repeat (first | (with_reducible first | exact HB.out | apply zq5 | apply zq4 | apply zq6 | refine below_set ?_ GE459.out | refine below_set ?_ GE463.out) | exact HB.out)))); have n2_ := Aside0.mk (blk_below (g := gb459) (o := .cells #[.slice (some ad462) l0_0.length c0_0] 24 (0, 0)) (by (with_reducible repeat (first | refine zq1 ?_ _ | refine zq2 ?_ | refine zq3 ?_ _)); exact BK459.out) hb); have n3_ := Aside0.mk (blk_below (g := gb463) (o := .cells #[.slice A462_0 ((rd_T30 l0_0 x3_1).f0).length c462_0, .slice A462_1 ((rd_T30 l0_0 x3_1).f1).length c462_1, .int .i64 ((rd_T30 l0_0 x3_1).f2), .int .i64 ((rd_T30 l0_0 x3_1).f3), .slice A462_4 ((rd_T30 l0_0 x3_1).f4).length c462_4] 30 (0, 0)) (by (with_reducible repeat (first | refine zq1 ?_ _ | refine zq2 ?_ | refine zq3 ?_ _)); exact BK463.out) hb); have n4_ := Aside0.mk (below_step (by repeat (first | (with_reducible first | exact HB.out | apply zq5 | apply zq4 | apply zq6 | refine below_set ?_ GE459.out | refine below_set ?_ GE463.out) | exact HB.out)) hb); clear HO466; clear BK459; clear BK463; clear HB; have HO466 := n0_; have HO469 := n1_; have BK459 := n2_; have BK463 := n3_; have HB := n4_; clear n0_ n1_ n2_ n3_ n4_; (try clear hb); (try clear hb2); (try clear hk); (try clear hi); (try clear ho0)))
         go_loopg [7] k1 (fun kq v7 w' => ∃ (x5_2 : List Bool) (x7_2 : Int), v7 = .int .i64 x7_2 ∧ Aside0 (portolanlaw05_FlowReach.l1 kq x3_1 x5_2 t467 x7_2 l0_0 ((rd_T30 l0_0 x3_1).f0) ((rd_T30 l0_0 x3_1).f1) ((rd_T30 l0_0 x3_1).f2) ((rd_T30 l0_0 x3_1).f3) ((rd_T30 l0_0 x3_1).f4) = some true) ∧ Aside0 (kq ≤ k1) ∧ Aside0 (Kd.R Kd.bool 4 w' w.heap.size (fun _ => True) v465 x5_2) ∧ Aside0 (Kd.R (Kd.int .i64) 3 w' w.heap.size (fun _ => True) v468 t467) ∧ Aside0 (w'.heap[gb459]? = some (.cells #[(.slice (some ad462) l0_0.length c0_0)] 24 (0, 0))) ∧ Aside0 (w'.heap[gb463]? = some (.cells #[(.slice A462_0 ((rd_T30 l0_0 x3_1).f0).length c462_0), (.slice A462_1 ((rd_T30 l0_0 x3_1).f1).length c462_1), .int .i64 ((rd_T30 l0_0 x3_1).f2), .int .i64 ((rd_T30 l0_0 x3_1).f3), (.slice A462_4 ((rd_T30 l0_0 x3_1).f4).length c462_4)] 30 (0, 0))) ∧ Aside0 (Below w.heap.size w w'))
         case atStart => exact ⟨(y464), (0), (by first | rfl | (simp; done) | (simp [*]; done)), H', ⟨Nat.le_refl _⟩, ⟨by (with_reducible repeat (first | apply Kd.R_alloc | apply Kd.R_drewN | apply Kd.R_drew)); exact HO466.out⟩, ⟨by (with_reducible repeat (first | apply Kd.R_alloc | apply Kd.R_drewN | apply Kd.R_drew)); exact HO469.out⟩, ⟨by (with_reducible repeat (first | refine zq1 ?_ _ | refine zq2 ?_ | refine zq3 ?_ _)); exact BK459.out⟩, ⟨by (with_reducible repeat (first | refine zq1 ?_ _ | refine zq2 ?_ | refine zq3 ?_ _)); exact BK463.out⟩, ⟨by repeat (first | (with_reducible first | exact HB.out | apply zq5 | apply zq4 | apply zq6 | refine below_set ?_ GE459.out | refine below_set ?_ GE463.out) | exact HB.out)⟩⟩
         case round =>
          clear H'
          try clear c1
          try clear c2
          try clear p2
          try clear c3
          try clear c4
          try clear p4
          try clear q4
          try clear hx4
          try clear c5
          try clear c7
          try clear c14
          try clear c14b0
          try clear c15
          try clear c15b0
          try clear c16
          try clear c16b0
          try clear c16b1
          try clear c17
          try clear c17b0
          try clear c17b1
          try clear c21
          try clear hcz12_0
          try clear hcz19_0
          try clear hcz22_0
          try clear hcz22_1
          try clear hcz22_2
          try clear hcz22_3
          try clear hcz22_4
          try clear hcz25_0
          try clear hcz25_1
          try clear hcz25_2
          try clear hcz25_3
          try clear hcz25_4
          try clear hcz8_0
          try clear hfz12_0
          try clear hfz19_0
          try clear hfz22_0
          try clear hfz22_1
          try clear hfz22_2
          try clear hfz22_3
          try clear hfz22_4
          try clear hfz25_0
          try clear hfz25_1
          try clear hfz25_2
          try clear hfz25_3
          try clear hfz25_4
          try clear hfz8_0
          try clear hx462_0
          try clear hx462_1
          try clear hx462_2
          try clear hx462_3
          try clear hx462_4
          try clear p2
          try clear p462
          try clear q462
          obtain ⟨x5_2, x7_2, rfl, HA, HK2, HO_5, HO_6, BK459, BK463, HB⟩ := hrel
          cases gk with
          | zero => exact absurd HA.out (by simp [portolanlaw05_FlowReach.l1])
          | succ k2 =>
           have H := HA.out
           clear HA
           simp only [portolanlaw05_FlowReach.l1] at H
           by_cases c27 : x7_2 < (t467.length : Int)
           ·rw [if_pos c27] at H
            have c27b0 : decide (x7_2 < (t467.length : Int)) = true := decide_eq_true c27
            clear c27
            by_cases c28 : 0 ≤ x7_2
            ·rw [if_pos c28] at H
             have c28b0 : decide (0 ≤ x7_2) = true := decide_eq_true c28
             clear c28
             by_cases c29 : (rd t467 x7_2) < 0
             ·rw [if_pos c29] at H
              have c29b0 : decide ((rd t467 x7_2) < 0) = true := decide_eq_true c29
              clear c29
              exact absurd (Option.some.inj H) (by decide)
             ·rw [if_neg c29] at H
              have c29b0 : decide ((rd t467 x7_2) < 0) = false := decide_eq_false c29
              clear c29
              by_cases c30 : (rd t467 x7_2) ≥ (x5_2.length : Int)
              ·rw [if_pos c30] at H
               have c30b0 : decide ((x5_2.length : Int) ≤ (rd t467 x7_2)) = true := decide_eq_true c30
               clear c30
               exact absurd (Option.some.inj H) (by decide)
              ·rw [if_neg c30] at H
               have c30b0 : decide ((x5_2.length : Int) ≤ (rd t467 x7_2)) = false := decide_eq_false c30
               clear c30
               by_cases c31 : 0 ≤ (rd t467 x7_2)
               ·rw [if_pos c31] at H
                have c31b0 : decide (0 ≤ (rd t467 x7_2)) = true := decide_eq_true c31
                clear c31
                by_cases c32 : (rd t467 x7_2) < (x5_2.length : Int)
                ·rw [if_pos c32] at H
                 have c32b0 : decide ((rd t467 x7_2) < (x5_2.length : Int)) = true := decide_eq_true c32
                 clear c32
                 obtain ⟨bq33, hbq33⟩ : ∃ b_ : Bool, b_ = (rdOf false x5_2 (rd t467 x7_2)) := ⟨_, rfl⟩
                 replace H : (if bq33 = true then (some false) else (portolanlaw05_FlowReach.l1 k2 x3_1 (x5_2.set ((rd t467 x7_2) : Int).toNat true) t467 (wrap64 (x7_2 + 1)) l0_0 ((rd_T30 l0_0 x3_1).f0) ((rd_T30 l0_0 x3_1).f1) ((rd_T30 l0_0 x3_1).f2) ((rd_T30 l0_0 x3_1).f3) ((rd_T30 l0_0 x3_1).f4))) = some true := by rw [← hbq33] at H; exact H
                 have Nbq33 := Aside0.mk hbq33
                 clear hbq33
                 by_cases c34 : bq33 = true
                 ·subst c34
                  have H1 : (some false) = some true := by first | (rw [if_pos rfl] at H; exact H) | rfl
                  clear H
                  have H := H1
                  clear H1
                  exact absurd (Option.some.inj H) (by decide)
                 ·replace c34 := Bool.eq_false_iff.mpr c34
                  subst c34
                  have H1 : (portolanlaw05_FlowReach.l1 k2 x3_1 (x5_2.set ((rd t467 x7_2) : Int).toNat true) t467 (wrap64 (x7_2 + 1)) l0_0 ((rd_T30 l0_0 x3_1).f0) ((rd_T30 l0_0 x3_1).f1) ((rd_T30 l0_0 x3_1).f2) ((rd_T30 l0_0 x3_1).f3) ((rd_T30 l0_0 x3_1).f4)) = some true := by first | (rw [if_neg (show ¬ (false = true) by decide)] at H; exact H) | rfl
                  clear H
                  have H := H1
                  clear H1
                  obtain ⟨y475, hy475⟩ : ∃ y_ : List Bool, y_ = (x5_2.set ((rd t467 x7_2) : Int).toNat true) := ⟨_, rfl⟩
                  replace H : (portolanlaw05_FlowReach.l1 k2 x3_1 y475 t467 (wrap64 (x7_2 + 1)) l0_0 ((rd_T30 l0_0 x3_1).f0) ((rd_T30 l0_0 x3_1).f1) ((rd_T30 l0_0 x3_1).f2) ((rd_T30 l0_0 x3_1).f3) ((rd_T30 l0_0 x3_1).f4)) = some true := by first | (rw [hy475]; with_reducible exact H) | (have H2_ := (Option.bind_some _ _).symm.trans H; rw [hy475]; with_reducible exact H2_) | (have H2_ := (Option.bind_some _ _).symm.trans H; with_reducible exact H2_) | with_reducible exact H | (rw [hy475]; exact H) | exact H
                  have Ny475 := Aside0.mk hy475
                  clear hy475
                  have H' := Aside0.mk H
                  clear H
                  obtain ⟨Ao36, co36, eo36⟩ := Kd.R_slice HO_6.out
                  subst eo36
                  have p470 : 0 ≤ (x7_2 : Int) := of_decide_eq_true (by first | (with_reducible assumption) | assumption)
                  have q470 : x7_2 < (t467.length : Int) := of_decide_eq_true (by first | (with_reducible assumption) | assumption)
                  obtain ⟨ad470, e470, hx470_0⟩ := Kd.at_int (Kd.R_reads' HO_6.out).2.2 x7_2 p470 q470
                  cases e470
                  replace p470 := eq_true p470
                  replace q470 := eq_true q470
                  have p471 : 0 ≤ (x7_2 : Int) := of_decide_eq_true (by first | (with_reducible assumption) | assumption)
                  have q471 : x7_2 < (t467.length : Int) := of_decide_eq_true (by first | (with_reducible assumption) | assumption)
                  obtain ⟨ad471, e471, hx471_0⟩ := Kd.at_int (Kd.R_reads' HO_6.out).2.2 x7_2 p471 q471
                  obtain rfl : ad470 = ad471 := (by injection e471)
                  replace p471 := eq_true p471
                  replace q471 := eq_true q471
                  obtain ⟨Ao37, co37, eo37⟩ := Kd.R_slice HO_5.out
                  subst eo37
                  have p472 : 0 ≤ (x7_2 : Int) := of_decide_eq_true (by first | (with_reducible assumption) | assumption)
                  have q472 : x7_2 < (t467.length : Int) := of_decide_eq_true (by first | (with_reducible assumption) | assumption)
                  obtain ⟨ad472, e472, hx472_0⟩ := Kd.at_int (Kd.R_reads' HO_6.out).2.2 x7_2 p472 q472
                  obtain rfl : ad470 = ad472 := (by injection e472)
                  replace p472 := eq_true p472
                  replace q472 := eq_true q472
                  have p473 : 0 ≤ ((rd t467 x7_2) : Int) := of_decide_eq_true (by first | (with_reducible assumption) | assumption)
                  have q473 : (rd t467 x7_2) < (x5_2.length : Int) := of_decide_eq_true (by first | (with_reducible assumption) | assumption)
                  obtain ⟨ad473, e473, hx473_0⟩ := Kd.at_bool (Kd.R_reads' HO_5.out).2.2 (rd t467 x7_2) p473 q473
                  (try rw [← Nbq33.out] at hx473_0)
                  cases e473
                  replace p473 := eq_true p473
                  replace q473 := eq_true q473
                  have p474 : 0 ≤ (x7_2 : Int) := of_decide_eq_true (by first | (with_reducible assumption) | assumption)
                  have q474 : x7_2 < (t467.length : Int) := of_decide_eq_true (by first | (with_reducible assumption) | assumption)
                  obtain ⟨ad474, e474, hx474_0⟩ := Kd.at_int (Kd.R_reads' HO_6.out).2.2 x7_2 p474 q474
                  obtain rfl : ad470 = ad474 := (by injection e474)
                  replace p474 := eq_true p474
                  replace q474 := eq_true q474
                  have p35 : 0 ≤ ((rd t467 x7_2) : Int) := of_decide_eq_true (by first | (with_reducible assumption) | assumption)
                  have q35 : ((rd t467 x7_2) : Int) < ((x5_2.length : Int) : Int) := of_decide_eq_true (by first | (with_reducible assumption) | assumption)
                  obtain ⟨go35, co35, eo35, gb35, gl35, cl35, HG35⟩ := Kd.R_form HO_5.out (by omega)
                  (first | cases eo35 | (injection eo35 with ea_ en_ ec_; (first | subst ea_ | (injection ea_ with ea_; subst ea_)); subst ec_; clear en_))
                  have GB35 := Aside0.mk gb35
                  have GG35 := Aside0.mk HG35
                  clear gb35 gl35 HG35
                  (first | simp only [add_plain] at hx473_0 | skip)
                  obtain ⟨hx35_0, hf35_0⟩ := Kd.R_celln false HO_5.out ((rd t467 x7_2) : Int) p35 q35
                  replace p35 := eq_true p35
                  replace q35 := eq_true q35
                  have HP38 := Kd.R_putg HO_5.out ((rd t467 x7_2) : Int) true
                  go_wp2_with (first | ((with_reducible refine gate_store (t := 4) (p := 70) rfl ?_); refine store_event (t := 4) (p := 70) (v := ?vo_w39) (w1 := (wr.setCell ⟨go35, ((rd t467 x7_2) : Int).toNat, none⟩ (.bool true))) ?hg ?ho ?hn ?hr ?_; (case ho => rfl); (case hg => rfl); (case hn => rfl); (case hr => first | (go_simp; done) | (go_simp; rfl)); intro w39 hw; have hg : wr.grownBy w39 (some go35) := (by rw [hw]; exact HP38.2); have hp_ : Kd.R Kd.bool 4 w39 w.heap.size (fun _ => True) (.slice (some ⟨go35, 0, none⟩) x5_2.length co37) y475 := (by rw [hw, Ny475.out]; exact HP38.1); clear HP38; have n0_ := Aside0.mk (hp_); have n1_ := Aside0.mk (Kd.R_over' (v := (.slice (some ⟨go35, 0, none⟩) x5_2.length co37)) (by (with_reducible repeat (first | apply Kd.R_alloc | apply Kd.R_drewN | apply Kd.R_drew)); exact HO_6.out) (Kd.R_typed HO_5.out) (by decide) hg); have n2_ := Aside0.mk (blk_grown (g := gb459) (o := .cells #[.slice (some ad462) l0_0.length c0_0] 24 (0, 0)) (by (with_reducible repeat (first | refine zq1 ?_ _ | refine zq2 ?_ | refine zq3 ?_ _)); exact BK459.out) hg (Kd.R_ne HO_5.out BK459.out (by decide))); have n3_ := Aside0.mk (blk_grown (g := gb463) (o := .cells #[.slice A462_0 ((rd_T30 l0_0 x3_1).f0).length c462_0, .slice A462_1 ((rd_T30 l0_0 x3_1).f1).length c462_1, .int .i64 ((rd_T30 l0_0 x3_1).f2), .int .i64 ((rd_T30 l0_0 x3_1).f3), .slice A462_4 ((rd_T30 l0_0 x3_1).f4).length c462_4] 30 (0, 0)) (by (with_reducible repeat (first | refine zq1 ?_ _ | refine zq2 ?_ | refine zq3 ?_ _)); exact BK463.out) hg (Kd.R_ne HO_5.out BK463.out (by decide))); have n4_ := Aside0.mk ((by rw [hw]; exact below_set (HB.out) GB35.out : Below w.heap.size w w39)); clear HO_5; clear HO_6; clear BK459; clear BK463; clear HB; have HO_5 := n0_; have HO_6 := n1_; have BK459 := n2_; have BK463 := n3_; have HB := n4_; clear n0_ n1_ n2_ n3_ n4_; clear hg hw hp_))
                  go_roundg k2
                  case measure => have := HK1.out; have := HK2.out; omega
                  case rel => exact ⟨(y475), (wrap64 (x7_2 + 1)), (by first | rfl | (simp; done) | (simp [*]; done)), H', ⟨by have := HK1.out; have := HK2.out; omega⟩, ⟨by (with_reducible repeat (first | apply Kd.R_alloc | apply Kd.R_drewN | apply Kd.R_drew)); exact HO_5.out⟩, ⟨by (with_reducible repeat (first | apply Kd.R_alloc | apply Kd.R_drewN | apply Kd.R_drew)); exact HO_6.out⟩, ⟨by (with_reducible repeat (first | refine zq1 ?_ _ | refine zq2 ?_ | refine zq3 ?_ _)); exact BK459.out⟩, ⟨by (with_reducible repeat (first | refine zq1 ?_ _ | refine zq2 ?_ | refine zq3 ?_ _)); exact BK463.out⟩, ⟨by repeat (first | (with_reducible first | exact HB.out | apply zq5 | apply zq4 | apply zq6 | refine below_set ?_ GE459.out | refine below_set ?_ GE463.out) | exact HB.out)⟩⟩
                ·rw [if_neg c32] at H
                 exact absurd H (by simp)
               ·rw [if_neg c31] at H
                exact absurd H (by simp)
            ·rw [if_neg c28] at H
             exact absurd H (by simp)
           ·rw [if_neg c27] at H
            have c27b0 : decide (x7_2 < (t467.length : Int)) = false := decide_eq_false c27
            clear c27
            have H' := Aside0.mk H
            clear H
            obtain ⟨Ao40, co40, eo40⟩ := Kd.R_slice HO_6.out
            subst eo40
            go_wp2
            go_loopg [8] k2 (fun kq v8 w' => ∃ (x8_3 : Int), v8 = .int .i64 x8_3 ∧ Aside0 (portolanlaw05_FlowReach.l2 kq x3_1 x5_2 x8_3 l0_0 ((rd_T30 l0_0 x3_1).f0) ((rd_T30 l0_0 x3_1).f1) ((rd_T30 l0_0 x3_1).f2) ((rd_T30 l0_0 x3_1).f3) ((rd_T30 l0_0 x3_1).f4) = some true) ∧ Aside0 (kq ≤ k2) ∧ Aside0 (Kd.R Kd.bool 4 w' w.heap.size (fun _ => True) v465 x5_2) ∧ Aside0 (w'.heap[gb459]? = some (.cells #[(.slice (some ad462) l0_0.length c0_0)] 24 (0, 0))) ∧ Aside0 (w'.heap[gb463]? = some (.cells #[(.slice A462_0 ((rd_T30 l0_0 x3_1).f0).length c462_0), (.slice A462_1 ((rd_T30 l0_0 x3_1).f1).length c462_1), .int .i64 ((rd_T30 l0_0 x3_1).f2), .int .i64 ((rd_T30 l0_0 x3_1).f3), (.slice A462_4 ((rd_T30 l0_0 x3_1).f4).length c462_4)] 30 (0, 0))) ∧ Aside0 (Below w.heap.size w w'))
            case atStart => exact ⟨(0), (by first | rfl | (simp; done) | (simp [*]; done)), H', ⟨Nat.le_refl _⟩, ⟨by (with_reducible repeat (first | apply Kd.R_alloc | apply Kd.R_drewN | apply Kd.R_drew)); exact HO_5.out⟩, ⟨by (with_reducible repeat (first | refine zq1 ?_ _ | refine zq2 ?_ | refine zq3 ?_ _)); exact BK459.out⟩, ⟨by (with_reducible repeat (first | refine zq1 ?_ _ | refine zq2 ?_ | refine zq3 ?_ _)); exact BK463.out⟩, ⟨by repeat (first | (with_reducible first | exact HB.out | apply zq5 | apply zq4 | apply zq6 | refine below_set ?_ GE459.out | refine below_set ?_ GE463.out) | exact HB.out)⟩⟩
            case round =>
             clear H'
             try clear c1
             try clear c2
             try clear p2
             try clear c3
             try clear p3
             try clear q3
             try clear hx3
             try clear hf3
             try clear c4
             try clear p4
             try clear q4
             try clear hx4
             try clear c5
             try clear p6
             try clear c7
             try clear c14
             try clear c14b0
             try clear c15
             try clear c15b0
             try clear c16
             try clear c16b0
             try clear c16b1
             try clear c17
             try clear c17b0
             try clear c17b1
             try clear c21
             try clear c27
             try clear c27b0
             try clear c28
             try clear c28b0
             try clear c29
             try clear c29b0
             try clear c30
             try clear c30b0
             try clear c31
             try clear c31b0
             try clear c32
             try clear c32b0
             try clear q33
             try clear c34
             try clear p35
             try clear q35
             try clear hx35
             try clear hf35
             try clear hcz12_0
             try clear hcz19_0
             try clear hcz22_0
             try clear hcz22_1
             try clear hcz22_2
             try clear hcz22_3
             try clear hcz22_4
             try clear hcz25_0
             try clear hcz25_1
             try clear hcz25_2
             try clear hcz25_3
             try clear hcz25_4
             try clear hcz8_0
             try clear hfz12_0
             try clear hfz19_0
             try clear hfz22_0
             try clear hfz22_1
             try clear hfz22_2
             try clear hfz22_3
             try clear hfz22_4
             try clear hfz25_0
             try clear hfz25_1
             try clear hfz25_2
             try clear hfz25_3
             try clear hfz25_4
             try clear hfz8_0
             try clear hx35_0
             try clear hx462_0
             try clear hx462_1
             try clear hx462_2
             try clear hx462_3
             try clear hx462_4
             try clear hx470_0
             try clear hx471_0
             try clear hx472_0
             try clear hx473_0
             try clear hx474_0
             try clear p2
             try clear p35
             try clear p4
             try clear p462
             try clear p470
             try clear p471
             try clear p472
             try clear p473
             try clear p474
             try clear q35
             try clear q4
             try clear q462
             try clear q470
             try clear q471
             try clear q472
             try clear q473
             try clear q474
             obtain ⟨x8_3, rfl, HA, HK3, HO_5, BK459, BK463, HB⟩ := hrel
             cases gk with
             | zero => exact absurd HA.out (by simp [portolanlaw05_FlowReach.l2])
             | succ k3 =>
              have H := HA.out
              clear HA
              simp only [portolanlaw05_FlowReach.l2] at H
              by_cases c41 : x8_3 < (x5_2.length : Int)
              ·rw [if_pos c41] at H
               have c41b0 : decide (x8_3 < (x5_2.length : Int)) = true := decide_eq_true c41
               clear c41
               replace H := Option.bind_eq_some_iff.mp H
               obtain ⟨t477, A420, H⟩ := H
               replace H : ((flow_Prev.f k3 ((rd_T30 l0_0 x3_1).f0) ((rd_T30 l0_0 x3_1).f1) ((rd_T30 l0_0 x3_1).f2) ((rd_T30 l0_0 x3_1).f3) ((rd_T30 l0_0 x3_1).f4) x8_3).bind fun t480 => (portolanlaw05_FlowReach.l3 k3 x3_1 x5_2 x8_3 t477 t480 0 l0_0 ((rd_T30 l0_0 x3_1).f0) ((rd_T30 l0_0 x3_1).f1) ((rd_T30 l0_0 x3_1).f2) ((rd_T30 l0_0 x3_1).f3) ((rd_T30 l0_0 x3_1).f4))) = some true := H
               have A42 := Aside0.mk A420
               clear A420
               replace H := Option.bind_eq_some_iff.mp H
               obtain ⟨t480, A430, H⟩ := H
               replace H : (portolanlaw05_FlowReach.l3 k3 x3_1 x5_2 x8_3 t477 t480 0 l0_0 ((rd_T30 l0_0 x3_1).f0) ((rd_T30 l0_0 x3_1).f1) ((rd_T30 l0_0 x3_1).f2) ((rd_T30 l0_0 x3_1).f3) ((rd_T30 l0_0 x3_1).f4)) = some true := H
               have A43 := Aside0.mk A430
               clear A430
               have H' := Aside0.mk H
               clear H
               obtain ⟨Ao44, co44, eo44⟩ := Kd.R_slice HO_5.out
               subst eo44
               try go_wp2
               have n0_ := Aside0.mk (Kd.R_drew HO_5.out)
               have n1_ := Aside0.mk (blk_drew BK459.out)
               have n2_ := Aside0.mk (blk_drew BK463.out)
               have n3_ := Aside0.mk (below_drew1 HB.out)
               clear HO_5
               clear BK459
               clear BK463
               clear HB
               have HO_5 := n0_
               have BK459 := n1_
               have BK463 := n2_
               have HB := n3_
               clear n0_ n1_ n2_ n3_
               refine start_ (n := 8) (S := fun w' => w'.cell? ⟨gb463, 0, none⟩ = some (.slice A462_0 ((rd_T30 l0_0 x3_1).f0).length c462_0) ∧ w'.cell? ⟨gb463, 1, none⟩ = some (.slice A462_1 ((rd_T30 l0_0 x3_1).f1).length c462_1) ∧ w'.cell? ⟨gb463, 2, none⟩ = some (.int .i64 ((rd_T30 l0_0 x3_1).f2)) ∧ w'.cell? ⟨gb463, 3, none⟩ = some (.int .i64 ((rd_T30 l0_0 x3_1).f3)) ∧ w'.cell? ⟨gb463, 4, none⟩ = some (.slice A462_4 ((rd_T30 l0_0 x3_1).f4).length c462_4)) (ds := []) #[false, false, false, false, false, false, false, false] (by kernel_rfl) rfl rfl ⟨(blk_cell BK463.out 0).trans rfl, (blk_cell BK463.out 1).trans rfl, (blk_cell BK463.out 2).trans rfl, (blk_cell BK463.out 3).trans rfl, (blk_cell BK463.out 4).trans rfl⟩ (fun hHeld => ?_); refine with_tabW portolanlaw05_FlowReach.tab20 portolanlaw05_FlowReach.bits20 (fun HT_ HW_ => ?_)
               generalize wr.drew = w45 at HO_5 BK459 BK463 HB hHeld ⊢
               refine pure_ (i := 1) (N := some 78) (v := ?_) (a' := ?_) #[false, true, false, false, false, false, false, false] rfl rfl (any_of HT_.out (by kernel_rfl)) (fun _ _ _ h => h) (Or.inl ⟨by rfl, ?_⟩) ?_ ?_
               rotate_left
               ·intro w'
                go_simp
                with_reducible rfl
               rotate_left
               ·simp only [Act.put, List.setIfInBounds_toArray, List.set_cons_zero, List.set_cons_succ, i64_w, i32_w]
                rfl
               refine pure_ (i := 4) (N := some 81) (v := ?_) (a' := ?_) #[false, true, false, false, true, false, false, false] rfl rfl (any_of HT_.out (by kernel_rfl)) (fun _ _ _ h => h) (Or.inl ⟨by rfl, ?_⟩) ?_ ?_
               rotate_left
               ·intro w'
                go_simp
                with_reducible rfl
               rotate_left
               ·simp only [Act.put, List.setIfInBounds_toArray, List.set_cons_zero, List.set_cons_succ, i64_w, i32_w]
                rfl
               refine take_ (i := 0) (N := some 77) (v := ?_) (a' := ?_) #[true, true, false, false, true, false, false, false] rfl rfl (take_ofW HT_.out HW_.out (by kernel_rfl)) (fun _ _ _ h => h) (Or.inl ⟨by rfl, ?_⟩) hHeld ?_ ?_
               rotate_left
               ·rintro w' ⟨s0, s1, s2, s3, s4⟩
                go_simp
                with_reducible rfl
               rotate_left
               ·simp only [Act.put, List.setIfInBounds_toArray, List.set_cons_zero, List.set_cons_succ, i64_w, i32_w]
                rfl
               refine take_ (i := 3) (N := some 80) (v := ?_) (a' := ?_) #[true, true, false, true, true, false, false, false] rfl rfl (take_ofW HT_.out HW_.out (by kernel_rfl)) (fun _ _ _ h => h) (Or.inl ⟨by rfl, ?_⟩) hHeld ?_ ?_
               rotate_left
               ·rintro w' ⟨s0, s1, s2, s3, s4⟩
                go_simp
                with_reducible rfl
               rotate_left
               ·simp only [Act.put, List.setIfInBounds_toArray, List.set_cons_zero, List.set_cons_succ, i64_w, i32_w]
                rfl
               refine one_ (i := 2) (N := some 79) #[true, true, true, true, true, false, false, false] rfl rfl (one_of HT_.out (by kernel_rfl)) (by decide) (fun K hK => ?_)
               refine goes_ Try.func19 (by kernel_rfl) rfl #[.agg #[.slice A462_0 ((rd_T30 l0_0 x3_1).f0).length c462_0, .slice A462_1 ((rd_T30 l0_0 x3_1).f1).length c462_1, .int .i64 ((rd_T30 l0_0 x3_1).f2), .int .i64 ((rd_T30 l0_0 x3_1).f3), .slice A462_4 ((rd_T30 l0_0 x3_1).f4).length c462_4], .int .i64 x8_3] (by rfl) rfl rfl (by (try simp only [List.map_toArray, List.map_cons, List.map_nil]); first | done | rfl | (simp only [List.length_drop, List.length_take]; rfl)) ?_
               with_reducible refine (flow_Next.calls k3 _ _ ((rd_T30 l0_0 x3_1).f0) _ _ ((rd_T30 l0_0 x3_1).f1) ((rd_T30 l0_0 x3_1).f2) ((rd_T30 l0_0 x3_1).f3) _ _ ((rd_T30 l0_0 x3_1).f4) x8_3 t477 _ ?side1 ?side2 ?side3 ?side4 ?side5 ?side6 A42.out).mono ?_
               (case side1 => repeat (first | exact (Kd.C_below HR462_0.out HB.out) | (with_reducible refine Kd.C_alloc ?_ _) | (with_reducible refine Kd.C_drewN ?_ _) | (with_reducible refine Kd.C_drew ?_)))
               (case side2 => exact HC462_0.out)
               (case side3 => repeat (first | exact (Kd.C_below HR462_1.out HB.out) | (with_reducible refine Kd.C_alloc ?_ _) | (with_reducible refine Kd.C_drewN ?_ _) | (with_reducible refine Kd.C_drew ?_)))
               (case side4 => exact HC462_1.out)
               (case side5 => repeat (first | exact (Kd.C_below HR462_4.out HB.out) | (with_reducible refine Kd.C_alloc ?_ _) | (with_reducible refine Kd.C_drewN ?_ _) | (with_reducible refine Kd.C_drew ?_)))
               (case side6 => exact HC462_4.out)
               rintro e w46 ⟨v478, rfl, ho0, hb⟩
               refine ⟨_, rfl, ?_⟩
               have n0_ := Aside0.mk (Kd.R_below (by (with_reducible repeat (first | apply Kd.R_alloc | apply Kd.R_drewN | apply Kd.R_drew)); exact HO_5.out) hb)
               have n1_ := Aside0.mk (Kd.R_lower ho0 (below_size (by repeat (first | (with_reducible first | exact HB.out | apply zq5 | apply zq4 | apply zq6 | refine below_set ?_ GE459.out | refine below_set ?_ GE463.out) | exact HB.out))))
               have n2_ := Aside0.mk (blk_below (g := gb459) (o := .cells #[.slice (some ad462) l0_0.length c0_0] 24 (0, 0)) (by (with_reducible repeat (first | refine zq1 ?_ _ | refine zq2 ?_ | refine zq3 ?_ _)); exact BK459.out) hb)
               have n3_ := Aside0.mk (blk_below (g := gb463) (o := .cells #[.slice A462_0 ((rd_T30 l0_0 x3_1).f0).length c462_0, .slice A462_1 ((rd_T30 l0_0 x3_1).f1).length c462_1, .int .i64 ((rd_T30 l0_0 x3_1).f2), .int .i64 ((rd_T30 l0_0 x3_1).f3), .slice A462_4 ((rd_T30 l0_0 x3_1).f4).length c462_4] 30 (0, 0)) (by (with_reducible repeat (first | refine zq1 ?_ _ | refine zq2 ?_ | refine zq3 ?_ _)); exact BK463.out) hb)
               have n4_ := Aside0.mk (below_step (by repeat (first | (with_reducible first | exact HB.out | apply zq5 | apply zq4 | apply zq6 | refine below_set ?_ GE459.out | refine below_set ?_ GE463.out) | exact HB.out)) hb)
               clear HO_5
               clear BK459
               clear BK463
               clear HB
               have HO_5 := n0_
               have HO479 := n1_
               have BK459 := n2_
               have BK463 := n3_
               have HB := n4_
               clear n0_ n1_ n2_ n3_ n4_
               (try clear hb)
               (try clear hb2)
               (try clear hk)
               (try clear hi)
               (try clear ho0)
               refine hK.out _ _ ⟨(blk_cell BK463.out 0).trans rfl, (blk_cell BK463.out 1).trans rfl, (blk_cell BK463.out 2).trans rfl, (blk_cell BK463.out 3).trans rfl, (blk_cell BK463.out 4).trans rfl⟩ (fun hHeld => ?_)
               clear hK K
               refine norm_ (a' := ?_) ?_ ?_
               rotate_left
               ·show Act.put _ (some 79) _ = _
                simp only [Act.put, List.setIfInBounds_toArray, List.set_cons_zero, List.set_cons_succ, i64_w, i32_w]
                rfl
               refine one_ (i := 5) (N := some 82) #[true, true, true, true, true, true, false, false] rfl rfl (one_of HT_.out (by kernel_rfl)) (by decide) (fun K hK => ?_)
               refine goes_ Try.func21 (by kernel_rfl) rfl #[.agg #[.slice A462_0 ((rd_T30 l0_0 x3_1).f0).length c462_0, .slice A462_1 ((rd_T30 l0_0 x3_1).f1).length c462_1, .int .i64 ((rd_T30 l0_0 x3_1).f2), .int .i64 ((rd_T30 l0_0 x3_1).f3), .slice A462_4 ((rd_T30 l0_0 x3_1).f4).length c462_4], .int .i64 x8_3] (by rfl) rfl rfl (by (try simp only [List.map_toArray, List.map_cons, List.map_nil]); first | done | rfl | (simp only [List.length_drop, List.length_take]; rfl)) ?_
               with_reducible refine (flow_Prev.calls k3 _ _ ((rd_T30 l0_0 x3_1).f0) _ _ ((rd_T30 l0_0 x3_1).f1) ((rd_T30 l0_0 x3_1).f2) ((rd_T30 l0_0 x3_1).f3) _ _ ((rd_T30 l0_0 x3_1).f4) x8_3 t480 _ ?side1 ?side2 ?side3 ?side4 ?side5 ?side6 A43.out).mono ?_
               (case side1 => repeat (first | exact (Kd.C_below HR462_0.out HB.out) | (with_reducible refine Kd.C_alloc ?_ _) | (with_reducible refine Kd.C_drewN ?_ _) | (with_reducible refine Kd.C_drew ?_)))
               (case side2 => exact HC462_0.out)
               (case side3 => repeat (first | exact (Kd.C_below HR462_1.out HB.out) | (with_reducible refine Kd.C_alloc ?_ _) | (with_reducible refine Kd.C_drewN ?_ _) | (with_reducible refine Kd.C_drew ?_)))
               (case side4 => exact HC462_1.out)
               (case side5 => repeat (first | exact (Kd.C_below HR462_4.out HB.out) | (with_reducible refine Kd.C_alloc ?_ _) | (with_reducible refine Kd.C_drewN ?_ _) | (with_reducible refine Kd.C_drew ?_)))
               (case side6 => exact HC462_4.out)
               rintro e w47 ⟨v481, rfl, ho0, hb⟩
               refine ⟨_, rfl, ?_⟩
               have n0_ := Aside0.mk (Kd.R_below (by (with_reducible repeat (first | apply Kd.R_alloc | apply Kd.R_drewN | apply Kd.R_drew)); exact HO_5.out) hb)
               have n1_ := Aside0.mk (Kd.R_elder' (by (with_reducible repeat (first | apply Kd.R_alloc | apply Kd.R_drewN | apply Kd.R_drew)); exact HO479.out) (Kd.R_base ho0) hb)
               have n2_ := Aside0.mk (Kd.R_lower (Kd.R_new' ho0 (Kd.R_lt (by (with_reducible repeat (first | apply Kd.R_alloc | apply Kd.R_drewN | apply Kd.R_drew)); exact HO479.out))) (below_size (by repeat (first | (with_reducible first | exact HB.out | apply zq5 | apply zq4 | apply zq6 | refine below_set ?_ GE459.out | refine below_set ?_ GE463.out) | exact HB.out))))
               have n3_ := Aside0.mk (blk_below (g := gb459) (o := .cells #[.slice (some ad462) l0_0.length c0_0] 24 (0, 0)) (by (with_reducible repeat (first | refine zq1 ?_ _ | refine zq2 ?_ | refine zq3 ?_ _)); exact BK459.out) hb)
               have n4_ := Aside0.mk (blk_below (g := gb463) (o := .cells #[.slice A462_0 ((rd_T30 l0_0 x3_1).f0).length c462_0, .slice A462_1 ((rd_T30 l0_0 x3_1).f1).length c462_1, .int .i64 ((rd_T30 l0_0 x3_1).f2), .int .i64 ((rd_T30 l0_0 x3_1).f3), .slice A462_4 ((rd_T30 l0_0 x3_1).f4).length c462_4] 30 (0, 0)) (by (with_reducible repeat (first | refine zq1 ?_ _ | refine zq2 ?_ | refine zq3 ?_ _)); exact BK463.out) hb)
               have n5_ := Aside0.mk (below_step (by repeat (first | (with_reducible first | exact HB.out | apply zq5 | apply zq4 | apply zq6 | refine below_set ?_ GE459.out | refine below_set ?_ GE463.out) | exact HB.out)) hb)
               clear HO_5
               clear HO479
               clear BK459
               clear BK463
               clear HB
               have HO_5 := n0_
               have HO479 := n1_
               have HO482 := n2_
               have BK459 := n3_
               have BK463 := n4_
               have HB := n5_
               clear n0_ n1_ n2_ n3_ n4_ n5_
               (try clear hb)
               (try clear hb2)
               (try clear hk)
               (try clear hi)
               (try clear ho0)
               refine hK.out _ _ ⟨(blk_cell BK463.out 0).trans rfl, (blk_cell BK463.out 1).trans rfl, (blk_cell BK463.out 2).trans rfl, (blk_cell BK463.out 3).trans rfl, (blk_cell BK463.out 4).trans rfl⟩ (fun hHeld => ?_)
               clear hK K
               refine norm_ (a' := ?_) ?_ ?_
               rotate_left
               ·show Act.put _ (some 82) _ = _
                simp only [Act.put, List.setIfInBounds_toArray, List.set_cons_zero, List.set_cons_succ, i64_w, i32_w]
                rfl
               refine pure_ (i := 6) (N := some 9) (v := ?_) (a' := ?_) #[true, true, true, true, true, true, true, false] rfl rfl (any_of HT_.out (by kernel_rfl)) (fun _ _ _ h => h) (Or.inl ⟨by rfl, ?_⟩) ?_ ?_
               rotate_left
               ·intro w'
                go_simp
                with_reducible rfl
               rotate_left
               ·simp only [Act.put, List.setIfInBounds_toArray, List.set_cons_zero, List.set_cons_succ, i64_w, i32_w]
                rfl
               refine pure_ (i := 7) (N := some 10) (v := ?_) (a' := ?_) #[true, true, true, true, true, true, true, true] rfl rfl (any_of HT_.out (by kernel_rfl)) (fun _ _ _ h => h) (Or.inl ⟨by rfl, ?_⟩) ?_ ?_
               rotate_left
               ·intro w'
                go_simp
                with_reducible rfl
               rotate_left
               ·simp only [Act.put, List.setIfInBounds_toArray, List.set_cons_zero, List.set_cons_succ, i64_w, i32_w]
                rfl
               refine done_ (done_of HT_.out (by kernel_rfl)) ?_
               try go_wp2
               go_loopg [11] k3 (fun kq v11 w' => ∃ (x11_4 : Int), v11 = .int .i64 x11_4 ∧ Aside0 (portolanlaw05_FlowReach.l3 kq x3_1 x5_2 x8_3 t477 t480 x11_4 l0_0 ((rd_T30 l0_0 x3_1).f0) ((rd_T30 l0_0 x3_1).f1) ((rd_T30 l0_0 x3_1).f2) ((rd_T30 l0_0 x3_1).f3) ((rd_T30 l0_0 x3_1).f4) = some true) ∧ Aside0 (kq ≤ k3) ∧ Aside0 (Kd.R Kd.bool 4 w' w.heap.size (fun _ => True) (.slice Ao44 x5_2.length co44) x5_2) ∧ Aside0 (Kd.R (Kd.int .i64) 3 w' w.heap.size (fun k_ => some k_ ≠ (v481 : Value).ownBlock) v478 t477) ∧ Aside0 (Kd.R (Kd.int .i64) 3 w' w.heap.size (fun k_ => some k_ ≠ (v478 : Value).ownBlock) v481 t480) ∧ Aside0 (w'.heap[gb459]? = some (.cells #[(.slice (some ad462) l0_0.length c0_0)] 24 (0, 0))) ∧ Aside0 (w'.heap[gb463]? = some (.cells #[(.slice A462_0 ((rd_T30 l0_0 x3_1).f0).length c462_0), (.slice A462_1 ((rd_T30 l0_0 x3_1).f1).length c462_1), .int .i64 ((rd_T30 l0_0 x3_1).f2), .int .i64 ((rd_T30 l0_0 x3_1).f3), (.slice A462_4 ((rd_T30 l0_0 x3_1).f4).length c462_4)] 30 (0, 0))) ∧ Aside0 (Below w.heap.size w w'))
               case atStart => exact ⟨(0), (by first | rfl | (simp; done) | (simp [*]; done)), H', ⟨Nat.le_refl _⟩, ⟨by (with_reducible repeat (first | apply Kd.R_alloc | apply Kd.R_drewN | apply Kd.R_drew)); exact HO_5.out⟩, ⟨by (with_reducible repeat (first | apply Kd.R_alloc | apply Kd.R_drewN | apply Kd.R_drew)); exact Kd.R_mono HO479.out (fun _ hk => hk.2)⟩, ⟨by (with_reducible repeat (first | apply Kd.R_alloc | apply Kd.R_drewN | apply Kd.R_drew)); exact Kd.R_mono HO482.out (fun _ hk => hk.2)⟩, ⟨by (with_reducible repeat (first | refine zq1 ?_ _ | refine zq2 ?_ | refine zq3 ?_ _)); exact BK459.out⟩, ⟨by (with_reducible repeat (first | refine zq1 ?_ _ | refine zq2 ?_ | refine zq3 ?_ _)); exact BK463.out⟩, ⟨by repeat (first | (with_reducible first | exact HB.out | apply zq5 | apply zq4 | apply zq6 | refine below_set ?_ GE459.out | refine below_set ?_ GE463.out) | exact HB.out)⟩⟩
               case round =>
                clear H'
                try clear c1
                try clear c2
                try clear p2
                try clear c3
                try clear p3
                try clear q3
                try clear hx3
                try clear hf3
                try clear c4
                try clear p4
                try clear q4
                try clear hx4
                try clear c5
                try clear p6
                try clear c7
                try clear c14
                try clear c14b0
                try clear c15
                try clear c15b0
                try clear c16
                try clear c16b0
                try clear c16b1
                try clear c17
                try clear c17b0
                try clear c17b1
                try clear c19
                try clear c21
                try clear c27
                try clear c27b0
                try clear c28
                try clear c28b0
                try clear c29
                try clear c29b0
                try clear c30
                try clear c30b0
                try clear c31
                try clear c31b0
                try clear c32
                try clear c32b0
                try clear q33
                try clear c34
                try clear p35
                try clear q35
                try clear hx35
                try clear hf35
                try clear c41
                try clear c41b0
                try clear c46
                try clear p46
                try clear q46
                try clear hx46
                try clear p47
                try clear q47
                try clear hx47
                try clear hcz12_0
                try clear hcz19_0
                try clear hcz22_0
                try clear hcz22_1
                try clear hcz22_2
                try clear hcz22_3
                try clear hcz22_4
                try clear hcz25_0
                try clear hcz25_1
                try clear hcz25_2
                try clear hcz25_3
                try clear hcz25_4
                try clear hcz8_0
                try clear hfz12_0
                try clear hfz19_0
                try clear hfz22_0
                try clear hfz22_1
                try clear hfz22_2
                try clear hfz22_3
                try clear hfz22_4
                try clear hfz25_0
                try clear hfz25_1
                try clear hfz25_2
                try clear hfz25_3
                try clear hfz25_4
                try clear hfz8_0
                try clear hx35_0
                try clear hx462_0
                try clear hx462_1
                try clear hx462_2
                try clear hx462_3
                try clear hx462_4
                try clear hx470_0
                try clear hx471_0
                try clear hx472_0
                try clear hx473_0
                try clear hx474_0
                try clear p2
                try clear p3
                try clear p35
                try clear p4
                try clear p462
                try clear p470
                try clear p471
                try clear p472
                try clear p473
                try clear p474
                try clear p6
                try clear q3
                try clear q33
                try clear q35
                try clear q4
                try clear q462
                try clear q470
                try clear q471
                try clear q472
                try clear q473
                try clear q474
                obtain ⟨x11_4, rfl, HA, HK4, HO_5, HO_9, HO_10, BK459, BK463, HB⟩ := hrel
                cases gk with
                | zero => exact absurd HA.out (by simp [portolanlaw05_FlowReach.l3])
                | succ k4 =>
                 have H := HA.out
                 clear HA
                 simp only [portolanlaw05_FlowReach.l3] at H
                 have HC48 := Aside0.mk H
                 clear H
                 go_upto_region 22 with (fail)
                 go_cut [92] (fun v92 wc => ∃ (kq : Nat) (x92_47 : Bool), v92 = .bool x92_47 ∧ Aside0 (portolanlaw05_FlowReach.j4 kq x3_1 x5_2 x8_3 t477 t480 x11_4 x92_47 l0_0 ((rd_T30 l0_0 x3_1).f0) ((rd_T30 l0_0 x3_1).f1) ((rd_T30 l0_0 x3_1).f2) ((rd_T30 l0_0 x3_1).f3) ((rd_T30 l0_0 x3_1).f4) = some true) ∧ Aside0 (kq ≤ k4) ∧ Aside0 (Kd.R Kd.bool 4 wc w.heap.size (fun _ => True) (.slice Ao44 x5_2.length co44) x5_2) ∧ Aside0 (Kd.R (Kd.int .i64) 3 wc w.heap.size (fun k_ => some k_ ≠ (v481 : Value).ownBlock) v478 t477) ∧ Aside0 (Kd.R (Kd.int .i64) 3 wc w.heap.size (fun k_ => some k_ ≠ (v478 : Value).ownBlock) v481 t480) ∧ Aside0 (wc.heap[gb459]? = some (.cells #[(.slice (some ad462) l0_0.length c0_0)] 24 (0, 0))) ∧ Aside0 (wc.heap[gb463]? = some (.cells #[(.slice A462_0 ((rd_T30 l0_0 x3_1).f0).length c462_0), (.slice A462_1 ((rd_T30 l0_0 x3_1).f1).length c462_1), .int .i64 ((rd_T30 l0_0 x3_1).f2), .int .i64 ((rd_T30 l0_0 x3_1).f3), (.slice A462_4 ((rd_T30 l0_0 x3_1).f4).length c462_4)] 30 (0, 0))) ∧ Aside0 (Below w.heap.size w wc))
                 case first =>
                  have H := HC48.out
                  clear HC48
                  by_cases c49 : x11_4 < (t477.length : Int)
                  ·rw [if_pos c49] at H
                   have c49b0 : decide (x11_4 < (t477.length : Int)) = true := decide_eq_true c49
                   clear c49
                   (first | rw [c49b0] | (simp only [i64_w, i32_w]; rw [c49b0]) | skip)
                   by_cases c50 : 0 ≤ x8_3
                   ·rw [if_pos c50] at H
                    have c50b0 : decide (0 ≤ x8_3) = true := decide_eq_true c50
                    clear c50
                    by_cases c51 : x8_3 < (x5_2.length : Int)
                    ·rw [if_pos c51] at H
                     have c51b0 : decide (x8_3 < (x5_2.length : Int)) = true := decide_eq_true c51
                     clear c51
                     have H' := Aside0.mk H
                     clear H
                     obtain ⟨Ao52, co52, eo52⟩ := Kd.R_slice HO_9.out
                     subst eo52
                     have p483 : 0 ≤ (x8_3 : Int) := of_decide_eq_true (by first | (with_reducible assumption) | assumption)
                     have q483 : x8_3 < (x5_2.length : Int) := of_decide_eq_true (by first | (with_reducible assumption) | assumption)
                     obtain ⟨ad483, e483, hx483_0⟩ := Kd.at_bool (Kd.R_reads' HO_5.out).2.2 x8_3 p483 q483
                     cases e483
                     replace p483 := eq_true p483
                     replace q483 := eq_true q483
                     go_wp2
                     go_meet
                     case rel => exact ⟨_, (rdOf false x5_2 x8_3), (by first | rfl | (simp; done) | (simp [*]; done)), H', ⟨by have := HK1.out; have := HK2.out; have := HK3.out; have := HK4.out; first | omega | exact Nat.le_refl _⟩, ⟨by (with_reducible repeat (first | apply Kd.R_alloc | apply Kd.R_drewN | apply Kd.R_drew)); exact HO_5.out⟩, ⟨by (with_reducible repeat (first | apply Kd.R_alloc | apply Kd.R_drewN | apply Kd.R_drew)); exact HO_9.out⟩, ⟨by (with_reducible repeat (first | apply Kd.R_alloc | apply Kd.R_drewN | apply Kd.R_drew)); exact HO_10.out⟩, ⟨by (with_reducible repeat (first | refine zq1 ?_ _ | refine zq2 ?_ | refine zq3 ?_ _)); exact BK459.out⟩, ⟨by (with_reducible repeat (first | refine zq1 ?_ _ | refine zq2 ?_ | refine zq3 ?_ _)); exact BK463.out⟩, ⟨by repeat (first | (with_reducible first | exact HB.out | apply zq5 | apply zq4 | apply zq6 | refine below_set ?_ GE459.out | refine below_set ?_ GE463.out) | exact HB.out)⟩⟩
                    ·rw [if_neg c51] at H
                     exact absurd H (by simp)
                   ·rw [if_neg c50] at H
                    exact absurd H (by simp)
                  ·rw [if_neg c49] at H
                   have c49b0 : decide (x11_4 < (t477.length : Int)) = false := decide_eq_false c49
                   clear c49
                   (first | rw [c49b0] | (simp only [i64_w, i32_w]; rw [c49b0]) | skip)
                   have H' := Aside0.mk H
                   clear H
                   obtain ⟨Ao53, co53, eo53⟩ := Kd.R_slice HO_9.out
                   subst eo53
                   go_wp2
                   go_meet
                   case rel => exact ⟨_, (false), (by first | rfl | (simp; done) | (simp [*]; done)), H', ⟨by have := HK1.out; have := HK2.out; have := HK3.out; have := HK4.out; first | omega | exact Nat.le_refl _⟩, ⟨by (with_reducible repeat (first | apply Kd.R_alloc | apply Kd.R_drewN | apply Kd.R_drew)); exact HO_5.out⟩, ⟨by (with_reducible repeat (first | apply Kd.R_alloc | apply Kd.R_drewN | apply Kd.R_drew)); exact HO_9.out⟩, ⟨by (with_reducible repeat (first | apply Kd.R_alloc | apply Kd.R_drewN | apply Kd.R_drew)); exact HO_10.out⟩, ⟨by (with_reducible repeat (first | refine zq1 ?_ _ | refine zq2 ?_ | refine zq3 ?_ _)); exact BK459.out⟩, ⟨by (with_reducible repeat (first | refine zq1 ?_ _ | refine zq2 ?_ | refine zq3 ?_ _)); exact BK463.out⟩, ⟨by repeat (first | (with_reducible first | exact HB.out | apply zq5 | apply zq4 | apply zq6 | refine below_set ?_ GE459.out | refine below_set ?_ GE463.out) | exact HB.out)⟩⟩
                 case rest =>
                  clear HC48
                  try clear c1
                  try clear c2
                  try clear p2
                  try clear c3
                  try clear p3
                  try clear q3
                  try clear hx3
                  try clear hf3
                  try clear c4
                  try clear p4
                  try clear q4
                  try clear hx4
                  try clear c5
                  try clear p6
                  try clear c7
                  try clear c14
                  try clear c14b0
                  try clear c15
                  try clear c15b0
                  try clear c16
                  try clear c16b0
                  try clear c16b1
                  try clear c17
                  try clear c17b0
                  try clear c17b1
                  try clear c19
                  try clear c21
                  try clear c27
                  try clear c27b0
                  try clear c28
                  try clear c28b0
                  try clear c29
                  try clear c29b0
                  try clear c30
                  try clear c30b0
                  try clear c31
                  try clear c31b0
                  try clear c32
                  try clear c32b0
                  try clear q33
                  try clear c34
                  try clear p35
                  try clear q35
                  try clear hx35
                  try clear hf35
                  try clear c41
                  try clear c41b0
                  try clear c46
                  try clear p46
                  try clear q46
                  try clear hx46
                  try clear p47
                  try clear q47
                  try clear hx47
                  try clear p48
                  try clear q48
                  try clear hx48
                  try clear c49
                  try clear c49b0
                  try clear c50
                  try clear c50b0
                  try clear c51
                  try clear c51b0
                  try clear hcz12_0
                  try clear hcz19_0
                  try clear hcz22_0
                  try clear hcz22_1
                  try clear hcz22_2
                  try clear hcz22_3
                  try clear hcz22_4
                  try clear hcz25_0
                  try clear hcz25_1
                  try clear hcz25_2
                  try clear hcz25_3
                  try clear hcz25_4
                  try clear hcz8_0
                  try clear hfz12_0
                  try clear hfz19_0
                  try clear hfz22_0
                  try clear hfz22_1
                  try clear hfz22_2
                  try clear hfz22_3
                  try clear hfz22_4
                  try clear hfz25_0
                  try clear hfz25_1
                  try clear hfz25_2
                  try clear hfz25_3
                  try clear hfz25_4
                  try clear hfz8_0
                  try clear hx35_0
                  try clear hx462_0
                  try clear hx462_1
                  try clear hx462_2
                  try clear hx462_3
                  try clear hx462_4
                  try clear hx470_0
                  try clear hx471_0
                  try clear hx472_0
                  try clear hx473_0
                  try clear hx474_0
                  try clear hx483_0
                  try clear p2
                  try clear p3
                  try clear p35
                  try clear p4
                  try clear p46
                  try clear p462
                  try clear p47
                  try clear p470
                  try clear p471
                  try clear p472
                  try clear p473
                  try clear p474
                  try clear p483
                  try clear p6
                  try clear q3
                  try clear q33
                  try clear q35
                  try clear q4
                  try clear q46
                  try clear q462
                  try clear q47
                  try clear q470
                  try clear q471
                  try clear q472
                  try clear q473
                  try clear q474
                  try clear q483
                  obtain ⟨kq, x92_47, rfl, HA, HJ47, HO_5, HO_9, HO_10, BK459, BK463, HB⟩ := hcut
                  cases kq with
                  | zero => exact absurd HA.out (by simp [portolanlaw05_FlowReach.j4])
                  | succ kj47 =>
                   have H := HA.out
                   clear HA
                   simp only [portolanlaw05_FlowReach.j4] at H
                   by_cases c54 : x92_47 = true
                   ·subst c54
                    have H1 : (if 0 ≤ x11_4 then (if x11_4 < (t477.length : Int) then (if 0 ≤ (rd t477 x11_4) then (if (rd t477 x11_4) < (x5_2.length : Int) then (if (rdOf false x5_2 (rd t477 x11_4) = true) then (portolanlaw05_FlowReach.l3 kj47 x3_1 x5_2 x8_3 t477 t480 (wrap64 (x11_4 + 1)) l0_0 ((rd_T30 l0_0 x3_1).f0) ((rd_T30 l0_0 x3_1).f1) ((rd_T30 l0_0 x3_1).f2) ((rd_T30 l0_0 x3_1).f3) ((rd_T30 l0_0 x3_1).f4)) else (some false)) else (none)) else (none)) else (none)) else (none)) = some true := by first | (rw [if_pos rfl] at H; exact H) | rfl
                    clear H
                    have H := H1
                    clear H1
                    by_cases c55 : 0 ≤ x11_4
                    ·rw [if_pos c55] at H
                     have c55b0 : decide (0 ≤ x11_4) = true := decide_eq_true c55
                     clear c55
                     by_cases c56 : x11_4 < (t477.length : Int)
                     ·rw [if_pos c56] at H
                      have c56b0 : decide (x11_4 < (t477.length : Int)) = true := decide_eq_true c56
                      clear c56
                      by_cases c57 : 0 ≤ (rd t477 x11_4)
                      ·rw [if_pos c57] at H
                       have c57b0 : decide (0 ≤ (rd t477 x11_4)) = true := decide_eq_true c57
                       clear c57
                       by_cases c58 : (rd t477 x11_4) < (x5_2.length : Int)
                       ·rw [if_pos c58] at H
                        have c58b0 : decide ((rd t477 x11_4) < (x5_2.length : Int)) = true := decide_eq_true c58
                        clear c58
                        obtain ⟨bq59, hbq59⟩ : ∃ b_ : Bool, b_ = (rdOf false x5_2 (rd t477 x11_4)) := ⟨_, rfl⟩
                        replace H : (if (bq59 = true) then (portolanlaw05_FlowReach.l3 kj47 x3_1 x5_2 x8_3 t477 t480 (wrap64 (x11_4 + 1)) l0_0 ((rd_T30 l0_0 x3_1).f0) ((rd_T30 l0_0 x3_1).f1) ((rd_T30 l0_0 x3_1).f2) ((rd_T30 l0_0 x3_1).f3) ((rd_T30 l0_0 x3_1).f4)) else (some false)) = some true := by rw [← hbq59] at H; exact H
                        have Nbq59 := Aside0.mk hbq59
                        clear hbq59
                        by_cases c60 : (bq59 = true)
                        ·subst c60
                         have H1 : (portolanlaw05_FlowReach.l3 kj47 x3_1 x5_2 x8_3 t477 t480 (wrap64 (x11_4 + 1)) l0_0 ((rd_T30 l0_0 x3_1).f0) ((rd_T30 l0_0 x3_1).f1) ((rd_T30 l0_0 x3_1).f2) ((rd_T30 l0_0 x3_1).f3) ((rd_T30 l0_0 x3_1).f4)) = some true := by first | (rw [if_pos rfl] at H; exact H) | rfl
                         clear H
                         have H := H1
                         clear H1
                         have H' := Aside0.mk H
                         clear H
                         obtain ⟨Ao61, co61, eo61⟩ := Kd.R_slice HO_9.out
                         subst eo61
                         have p484 : 0 ≤ (x11_4 : Int) := of_decide_eq_true (by first | (with_reducible assumption) | assumption)
                         have q484 : x11_4 < (t477.length : Int) := of_decide_eq_true (by first | (with_reducible assumption) | assumption)
                         obtain ⟨ad484, e484, hx484_0⟩ := Kd.at_int (Kd.R_reads' HO_9.out).2.2 x11_4 p484 q484
                         cases e484
                         replace p484 := eq_true p484
                         replace q484 := eq_true q484
                         have p485 : 0 ≤ ((rd t477 x11_4) : Int) := of_decide_eq_true (by first | (with_reducible assumption) | assumption)
                         have q485 : (rd t477 x11_4) < (x5_2.length : Int) := of_decide_eq_true (by first | (with_reducible assumption) | assumption)
                         obtain ⟨ad485, e485, hx485_0⟩ := Kd.at_bool (Kd.R_reads' HO_5.out).2.2 (rd t477 x11_4) p485 q485
                         (try rw [← Nbq59.out] at hx485_0)
                         cases e485
                         replace p485 := eq_true p485
                         replace q485 := eq_true q485
                         go_wp2
                         go_roundg kj47
                         case measure => have := HK1.out; have := HK2.out; have := HK3.out; have := HK4.out; have := HJ47.out; omega
                         case rel => exact ⟨(wrap64 (x11_4 + 1)), (by first | rfl | (simp; done) | (simp [*]; done)), H', ⟨by have := HK1.out; have := HK2.out; have := HK3.out; have := HK4.out; have := HJ47.out; omega⟩, ⟨by (with_reducible repeat (first | apply Kd.R_alloc | apply Kd.R_drewN | apply Kd.R_drew)); exact HO_5.out⟩, ⟨by (with_reducible repeat (first | apply Kd.R_alloc | apply Kd.R_drewN | apply Kd.R_drew)); exact HO_9.out⟩, ⟨by (with_reducible repeat (first | apply Kd.R_alloc | apply Kd.R_drewN | apply Kd.R_drew)); exact HO_10.out⟩, ⟨by (with_reducible repeat (first | refine zq1 ?_ _ | refine zq2 ?_ | refine zq3 ?_ _)); exact BK459.out⟩, ⟨by (with_reducible repeat (first | refine zq1 ?_ _ | refine zq2 ?_ | refine zq3 ?_ _)); exact BK463.out⟩, ⟨by repeat (first | (with_reducible first | exact HB.out | apply zq5 | apply zq4 | apply zq6 | refine below_set ?_ GE459.out | refine below_set ?_ GE463.out) | exact HB.out)⟩⟩
                        ·replace c60 := Bool.eq_false_iff.mpr c60
                         subst c60
                         have H1 : (some false) = some true := by first | (rw [if_neg (show ¬ (false = true) by decide)] at H; exact H) | rfl
                         clear H
                         have H := H1
                         clear H1
                         exact absurd (Option.some.inj H) (by decide)
                       ·rw [if_neg c58] at H
                        exact absurd H (by simp)
                      ·rw [if_neg c57] at H
                       exact absurd H (by simp)
                     ·rw [if_neg c56] at H
                      exact absurd H (by simp)
                    ·rw [if_neg c55] at H
                     exact absurd H (by simp)
                   ·replace c54 := Bool.eq_false_iff.mpr c54
                    subst c54
                    have H1 : (portolanlaw05_FlowReach.l4 kj47 x3_1 x5_2 x8_3 t480 (x8_3 == 0) 0 l0_0 ((rd_T30 l0_0 x3_1).f0) ((rd_T30 l0_0 x3_1).f1) ((rd_T30 l0_0 x3_1).f2) ((rd_T30 l0_0 x3_1).f3) ((rd_T30 l0_0 x3_1).f4)) = some true := by first | (rw [if_neg (show ¬ (false = true) by decide)] at H; exact H) | rfl
                    clear H
                    have H := H1
                    clear H1
                    have H' := Aside0.mk H
                    clear H
                    go_wp2
                    go_loopg [12, 13] kj47 (fun kq v12 v13 w' => ∃ (x12_6 : Bool) (x13_6 : Int), v12 = .bool x12_6 ∧ v13 = .int .i64 x13_6 ∧ Aside0 (portolanlaw05_FlowReach.l4 kq x3_1 x5_2 x8_3 t480 x12_6 x13_6 l0_0 ((rd_T30 l0_0 x3_1).f0) ((rd_T30 l0_0 x3_1).f1) ((rd_T30 l0_0 x3_1).f2) ((rd_T30 l0_0 x3_1).f3) ((rd_T30 l0_0 x3_1).f4) = some true) ∧ Aside0 (kq ≤ kj47) ∧ Aside0 (Kd.R Kd.bool 4 w' w.heap.size (fun _ => True) (.slice Ao44 x5_2.length co44) x5_2) ∧ Aside0 (Kd.R (Kd.int .i64) 3 w' w.heap.size (fun _ => True) v481 t480) ∧ Aside0 (w'.heap[gb459]? = some (.cells #[(.slice (some ad462) l0_0.length c0_0)] 24 (0, 0))) ∧ Aside0 (w'.heap[gb463]? = some (.cells #[(.slice A462_0 ((rd_T30 l0_0 x3_1).f0).length c462_0), (.slice A462_1 ((rd_T30 l0_0 x3_1).f1).length c462_1), .int .i64 ((rd_T30 l0_0 x3_1).f2), .int .i64 ((rd_T30 l0_0 x3_1).f3), (.slice A462_4 ((rd_T30 l0_0 x3_1).f4).length c462_4)] 30 (0, 0))) ∧ Aside0 (Below w.heap.size w w'))
                    case atStart => exact ⟨((x8_3 == 0)), (0), (by first | rfl | (simp; done) | (simp [*]; done)), (by first | rfl | (simp; done) | (simp [*]; done)), H', ⟨Nat.le_refl _⟩, ⟨by (with_reducible repeat (first | apply Kd.R_alloc | apply Kd.R_drewN | apply Kd.R_drew)); exact HO_5.out⟩, ⟨by (with_reducible repeat (first | apply Kd.R_alloc | apply Kd.R_drewN | apply Kd.R_drew)); exact Kd.R_mono HO_10.out (fun _ hk => trivial)⟩, ⟨by (with_reducible repeat (first | refine zq1 ?_ _ | refine zq2 ?_ | refine zq3 ?_ _)); exact BK459.out⟩, ⟨by (with_reducible repeat (first | refine zq1 ?_ _ | refine zq2 ?_ | refine zq3 ?_ _)); exact BK463.out⟩, ⟨by repeat (first | (with_reducible first | exact HB.out | apply zq5 | apply zq4 | apply zq6 | refine below_set ?_ GE459.out | refine below_set ?_ GE463.out) | exact HB.out)⟩⟩
                    case round =>
                     clear H'
                     try clear c1
                     try clear c2
                     try clear p2
                     try clear c3
                     try clear p3
                     try clear q3
                     try clear hx3
                     try clear hf3
                     try clear c4
                     try clear p4
                     try clear q4
                     try clear hx4
                     try clear c5
                     try clear q5
                     try clear c6
                     try clear p6
                     try clear c7
                     try clear c14
                     try clear c14b0
                     try clear c15
                     try clear c15b0
                     try clear c16
                     try clear c16b0
                     try clear c16b1
                     try clear c17
                     try clear c17b0
                     try clear c17b1
                     try clear c19
                     try clear c21
                     try clear c27
                     try clear c27b0
                     try clear c28
                     try clear c28b0
                     try clear c29
                     try clear c29b0
                     try clear c30
                     try clear c30b0
                     try clear c31
                     try clear c31b0
                     try clear c32
                     try clear c32b0
                     try clear q33
                     try clear c34
                     try clear p35
                     try clear q35
                     try clear hx35
                     try clear hf35
                     try clear c41
                     try clear c41b0
                     try clear c46
                     try clear p46
                     try clear q46
                     try clear hx46
                     try clear p47
                     try clear q47
                     try clear hx47
                     try clear p48
                     try clear q48
                     try clear hx48
                     try clear c49
                     try clear c49b0
                     try clear c50
                     try clear c50b0
                     try clear c51
                     try clear c51b0
                     try clear c54
                     try clear c55
                     try clear c55b0
                     try clear c56
                     try clear c56b0
                     try clear c57
                     try clear c57b0
                     try clear c58
                     try clear c58b0
                     try clear q59
                     try clear c60
                     try clear hcz12_0
                     try clear hcz19_0
                     try clear hcz22_0
                     try clear hcz22_1
                     try clear hcz22_2
                     try clear hcz22_3
                     try clear hcz22_4
                     try clear hcz25_0
                     try clear hcz25_1
                     try clear hcz25_2
                     try clear hcz25_3
                     try clear hcz25_4
                     try clear hcz8_0
                     try clear hfz12_0
                     try clear hfz19_0
                     try clear hfz22_0
                     try clear hfz22_1
                     try clear hfz22_2
                     try clear hfz22_3
                     try clear hfz22_4
                     try clear hfz25_0
                     try clear hfz25_1
                     try clear hfz25_2
                     try clear hfz25_3
                     try clear hfz25_4
                     try clear hfz8_0
                     try clear hx35_0
                     try clear hx462_0
                     try clear hx462_1
                     try clear hx462_2
                     try clear hx462_3
                     try clear hx462_4
                     try clear hx470_0
                     try clear hx471_0
                     try clear hx472_0
                     try clear hx473_0
                     try clear hx474_0
                     try clear hx483_0
                     try clear hx484_0
                     try clear hx485_0
                     try clear p2
                     try clear p3
                     try clear p35
                     try clear p4
                     try clear p46
                     try clear p462
                     try clear p47
                     try clear p470
                     try clear p471
                     try clear p472
                     try clear p473
                     try clear p474
                     try clear p48
                     try clear p483
                     try clear p484
                     try clear p485
                     try clear p6
                     try clear q3
                     try clear q33
                     try clear q35
                     try clear q4
                     try clear q46
                     try clear q462
                     try clear q47
                     try clear q470
                     try clear q471
                     try clear q472
                     try clear q473
                     try clear q474
                     try clear q48
                     try clear q483
                     try clear q484
                     try clear q485
                     obtain ⟨x12_6, x13_6, rfl, rfl, HA, HK6, HO_5, HO_10, BK459, BK463, HB⟩ := hrel
                     cases gk with
                     | zero => exact absurd HA.out (by simp [portolanlaw05_FlowReach.l4])
                     | succ k6 =>
                      have H := HA.out
                      clear HA
                      simp only [portolanlaw05_FlowReach.l4] at H
                      by_cases c62 : x13_6 < (t480.length : Int)
                      ·rw [if_pos c62] at H
                       have c62b0 : decide (x13_6 < (t480.length : Int)) = true := decide_eq_true c62
                       clear c62
                       by_cases c63 : x12_6 = true
                       ·subst c63
                        have H1 : (portolanlaw05_FlowReach.l4 k6 x3_1 x5_2 x8_3 t480 true (wrap64 (x13_6 + 1)) l0_0 ((rd_T30 l0_0 x3_1).f0) ((rd_T30 l0_0 x3_1).f1) ((rd_T30 l0_0 x3_1).f2) ((rd_T30 l0_0 x3_1).f3) ((rd_T30 l0_0 x3_1).f4)) = some true := by first | (rw [if_pos rfl] at H; exact H) | rfl
                        clear H
                        have H := H1
                        clear H1
                        have H' := Aside0.mk H
                        clear H
                        obtain ⟨Ao64, co64, eo64⟩ := Kd.R_slice HO_10.out
                        subst eo64
                        go_wp2
                        go_roundg k6
                        case measure => have := HK1.out; have := HK2.out; have := HK3.out; have := HK4.out; have := HJ47.out; have := HK6.out; omega
                        case rel => exact ⟨(true), (wrap64 (x13_6 + 1)), (by first | rfl | (simp; done) | (simp [*]; done)), (by first | rfl | (simp; done) | (simp [*]; done)), H', ⟨by have := HK1.out; have := HK2.out; have := HK3.out; have := HK4.out; have := HJ47.out; have := HK6.out; omega⟩, ⟨by (with_reducible repeat (first | apply Kd.R_alloc | apply Kd.R_drewN | apply Kd.R_drew)); exact HO_5.out⟩, ⟨by (with_reducible repeat (first | apply Kd.R_alloc | apply Kd.R_drewN | apply Kd.R_drew)); exact HO_10.out⟩, ⟨by (with_reducible repeat (first | refine zq1 ?_ _ | refine zq2 ?_ | refine zq3 ?_ _)); exact BK459.out⟩, ⟨by (with_reducible repeat (first | refine zq1 ?_ _ | refine zq2 ?_ | refine zq3 ?_ _)); exact BK463.out⟩, ⟨by repeat (first | (with_reducible first | exact HB.out | apply zq5 | apply zq4 | apply zq6 | refine below_set ?_ GE459.out | refine below_set ?_ GE463.out) | exact HB.out)⟩⟩
                       ·replace c63 := Bool.eq_false_iff.mpr c63
                        subst c63
                        have H1 : (if 0 ≤ x13_6 then (if 0 ≤ (rd t480 x13_6) then (if (rd t480 x13_6) < (x5_2.length : Int) then (portolanlaw05_FlowReach.l4 k6 x3_1 x5_2 x8_3 t480 (rdOf false x5_2 (rd t480 x13_6)) (wrap64 (x13_6 + 1)) l0_0 ((rd_T30 l0_0 x3_1).f0) ((rd_T30 l0_0 x3_1).f1) ((rd_T30 l0_0 x3_1).f2) ((rd_T30 l0_0 x3_1).f3) ((rd_T30 l0_0 x3_1).f4)) else (none)) else (none)) else (none)) = some true := by first | (rw [if_neg (show ¬ (false = true) by decide)] at H; exact H) | rfl
                        clear H
                        have H := H1
                        clear H1
                        by_cases c65 : 0 ≤ x13_6
                        ·rw [if_pos c65] at H
                         have c65b0 : decide (0 ≤ x13_6) = true := decide_eq_true c65
                         clear c65
                         by_cases c66 : 0 ≤ (rd t480 x13_6)
                         ·rw [if_pos c66] at H
                          have c66b0 : decide (0 ≤ (rd t480 x13_6)) = true := decide_eq_true c66
                          clear c66
                          by_cases c67 : (rd t480 x13_6) < (x5_2.length : Int)
                          ·rw [if_pos c67] at H
                           have c67b0 : decide ((rd t480 x13_6) < (x5_2.length : Int)) = true := decide_eq_true c67
                           clear c67
                           have H' := Aside0.mk H
                           clear H
                           obtain ⟨Ao68, co68, eo68⟩ := Kd.R_slice HO_10.out
                           subst eo68
                           have p486 : 0 ≤ (x13_6 : Int) := of_decide_eq_true (by first | (with_reducible assumption) | assumption)
                           have q486 : x13_6 < (t480.length : Int) := of_decide_eq_true (by first | (with_reducible assumption) | assumption)
                           obtain ⟨ad486, e486, hx486_0⟩ := Kd.at_int (Kd.R_reads' HO_10.out).2.2 x13_6 p486 q486
                           cases e486
                           replace p486 := eq_true p486
                           replace q486 := eq_true q486
                           have p487 : 0 ≤ ((rd t480 x13_6) : Int) := of_decide_eq_true (by first | (with_reducible assumption) | assumption)
                           have q487 : (rd t480 x13_6) < (x5_2.length : Int) := of_decide_eq_true (by first | (with_reducible assumption) | assumption)
                           obtain ⟨ad487, e487, hx487_0⟩ := Kd.at_bool (Kd.R_reads' HO_5.out).2.2 (rd t480 x13_6) p487 q487
                           cases e487
                           replace p487 := eq_true p487
                           replace q487 := eq_true q487
                           go_wp2
                           go_roundg k6
                           case measure => have := HK1.out; have := HK2.out; have := HK3.out; have := HK4.out; have := HJ47.out; have := HK6.out; omega
                           case rel => exact ⟨(rdOf false x5_2 (rd t480 x13_6)), (wrap64 (x13_6 + 1)), (by first | rfl | (simp; done) | (simp [*]; done)), (by first | rfl | (simp; done) | (simp [*]; done)), H', ⟨by have := HK1.out; have := HK2.out; have := HK3.out; have := HK4.out; have := HJ47.out; have := HK6.out; omega⟩, ⟨by (with_reducible repeat (first | apply Kd.R_alloc | apply Kd.R_drewN | apply Kd.R_drew)); exact HO_5.out⟩, ⟨by (with_reducible repeat (first | apply Kd.R_alloc | apply Kd.R_drewN | apply Kd.R_drew)); exact HO_10.out⟩, ⟨by (with_reducible repeat (first | refine zq1 ?_ _ | refine zq2 ?_ | refine zq3 ?_ _)); exact BK459.out⟩, ⟨by (with_reducible repeat (first | refine zq1 ?_ _ | refine zq2 ?_ | refine zq3 ?_ _)); exact BK463.out⟩, ⟨by repeat (first | (with_reducible first | exact HB.out | apply zq5 | apply zq4 | apply zq6 | refine below_set ?_ GE459.out | refine below_set ?_ GE463.out) | exact HB.out)⟩⟩
                          ·rw [if_neg c67] at H
                           exact absurd H (by simp)
                         ·rw [if_neg c66] at H
                          exact absurd H (by simp)
                        ·rw [if_neg c65] at H
                         exact absurd H (by simp)
                      ·rw [if_neg c62] at H
                       have c62b0 : decide (x13_6 < (t480.length : Int)) = false := decide_eq_false c62
                       clear c62
                       by_cases c69 : 0 ≤ x8_3
                       ·rw [if_pos c69] at H
                        have c69b0 : decide (0 ≤ x8_3) = true := decide_eq_true c69
                        clear c69
                        by_cases c70 : x8_3 < (x5_2.length : Int)
                        ·rw [if_pos c70] at H
                         have c70b0 : decide (x8_3 < (x5_2.length : Int)) = true := decide_eq_true c70
                         clear c70
                         obtain ⟨bq71, hbq71⟩ : ∃ b_ : Bool, b_ = (rdOf false x5_2 x8_3) := ⟨_, rfl⟩
                         replace H : (if bq71 = true then (if x12_6 = true then (portolanlaw05_FlowReach.l2 k6 x3_1 x5_2 (wrap64 (x8_3 + 1)) l0_0 ((rd_T30 l0_0 x3_1).f0) ((rd_T30 l0_0 x3_1).f1) ((rd_T30 l0_0 x3_1).f2) ((rd_T30 l0_0 x3_1).f3) ((rd_T30 l0_0 x3_1).f4)) else (some false)) else (portolanlaw05_FlowReach.l2 k6 x3_1 x5_2 (wrap64 (x8_3 + 1)) l0_0 ((rd_T30 l0_0 x3_1).f0) ((rd_T30 l0_0 x3_1).f1) ((rd_T30 l0_0 x3_1).f2) ((rd_T30 l0_0 x3_1).f3) ((rd_T30 l0_0 x3_1).f4))) = some true := by rw [← hbq71] at H; exact H
                         have Nbq71 := Aside0.mk hbq71
                         clear hbq71
                         by_cases c72 : bq71 = true
                         ·subst c72
                          have H1 : (if x12_6 = true then (portolanlaw05_FlowReach.l2 k6 x3_1 x5_2 (wrap64 (x8_3 + 1)) l0_0 ((rd_T30 l0_0 x3_1).f0) ((rd_T30 l0_0 x3_1).f1) ((rd_T30 l0_0 x3_1).f2) ((rd_T30 l0_0 x3_1).f3) ((rd_T30 l0_0 x3_1).f4)) else (some false)) = some true := by first | (rw [if_pos rfl] at H; exact H) | rfl
                          clear H
                          have H := H1
                          clear H1
                          by_cases c73 : x12_6 = true
                          ·subst c73
                           have H1 : (portolanlaw05_FlowReach.l2 k6 x3_1 x5_2 (wrap64 (x8_3 + 1)) l0_0 ((rd_T30 l0_0 x3_1).f0) ((rd_T30 l0_0 x3_1).f1) ((rd_T30 l0_0 x3_1).f2) ((rd_T30 l0_0 x3_1).f3) ((rd_T30 l0_0 x3_1).f4)) = some true := by first | (rw [if_pos rfl] at H; exact H) | rfl
                           clear H
                           have H := H1
                           clear H1
                           have H' := Aside0.mk H
                           clear H
                           obtain ⟨Ao74, co74, eo74⟩ := Kd.R_slice HO_10.out
                           subst eo74
                           have p488 : 0 ≤ (x8_3 : Int) := of_decide_eq_true (by first | (with_reducible assumption) | assumption)
                           have q488 : x8_3 < (x5_2.length : Int) := of_decide_eq_true (by first | (with_reducible assumption) | assumption)
                           obtain ⟨ad488, e488, hx488_0⟩ := Kd.at_bool (Kd.R_reads' HO_5.out).2.2 x8_3 p488 q488
                           (try rw [← Nbq71.out] at hx488_0)
                           cases e488
                           replace p488 := eq_true p488
                           replace q488 := eq_true q488
                           go_wp2
                           go_roundg k6
                           case measure => have := HK1.out; have := HK2.out; have := HK3.out; have := HK4.out; have := HJ47.out; have := HK6.out; omega
                           case rel => exact ⟨(wrap64 (x8_3 + 1)), (by first | rfl | (simp; done) | (simp [*]; done)), H', ⟨by have := HK1.out; have := HK2.out; have := HK3.out; have := HK4.out; have := HJ47.out; have := HK6.out; omega⟩, ⟨by (with_reducible repeat (first | apply Kd.R_alloc | apply Kd.R_drewN | apply Kd.R_drew)); exact HO_5.out⟩, ⟨by (with_reducible repeat (first | refine zq1 ?_ _ | refine zq2 ?_ | refine zq3 ?_ _)); exact BK459.out⟩, ⟨by (with_reducible repeat (first | refine zq1 ?_ _ | refine zq2 ?_ | refine zq3 ?_ _)); exact BK463.out⟩, ⟨by repeat (first | (with_reducible first | exact HB.out | apply zq5 | apply zq4 | apply zq6 | refine below_set ?_ GE459.out | refine below_set ?_ GE463.out) | exact HB.out)⟩⟩
                          ·replace c73 := Bool.eq_false_iff.mpr c73
                           subst c73
                           have H1 : (some false) = some true := by first | (rw [if_neg (show ¬ (false = true) by decide)] at H; exact H) | rfl
                           clear H
                           have H := H1
                           clear H1
                           exact absurd (Option.some.inj H) (by decide)
                         ·replace c72 := Bool.eq_false_iff.mpr c72
                          subst c72
                          have H1 : (portolanlaw05_FlowReach.l2 k6 x3_1 x5_2 (wrap64 (x8_3 + 1)) l0_0 ((rd_T30 l0_0 x3_1).f0) ((rd_T30 l0_0 x3_1).f1) ((rd_T30 l0_0 x3_1).f2) ((rd_T30 l0_0 x3_1).f3) ((rd_T30 l0_0 x3_1).f4)) = some true := by first | (rw [if_neg (show ¬ (false = true) by decide)] at H; exact H) | rfl
                          clear H
                          have H := H1
                          clear H1
                          have H' := Aside0.mk H
                          clear H
                          obtain ⟨Ao75, co75, eo75⟩ := Kd.R_slice HO_10.out
                          subst eo75
                          have p488 : 0 ≤ (x8_3 : Int) := of_decide_eq_true (by first | (with_reducible assumption) | assumption)
                          have q488 : x8_3 < (x5_2.length : Int) := of_decide_eq_true (by first | (with_reducible assumption) | assumption)
                          obtain ⟨ad488, e488, hx488_0⟩ := Kd.at_bool (Kd.R_reads' HO_5.out).2.2 x8_3 p488 q488
                          (try rw [← Nbq71.out] at hx488_0)
                          cases e488
                          replace p488 := eq_true p488
                          replace q488 := eq_true q488
                          go_wp2
                          go_roundg k6
                          case measure => have := HK1.out; have := HK2.out; have := HK3.out; have := HK4.out; have := HJ47.out; have := HK6.out; omega
                          case rel => exact ⟨(wrap64 (x8_3 + 1)), (by first | rfl | (simp; done) | (simp [*]; done)), H', ⟨by have := HK1.out; have := HK2.out; have := HK3.out; have := HK4.out; have := HJ47.out; have := HK6.out; omega⟩, ⟨by (with_reducible repeat (first | apply Kd.R_alloc | apply Kd.R_drewN | apply Kd.R_drew)); exact HO_5.out⟩, ⟨by (with_reducible repeat (first | refine zq1 ?_ _ | refine zq2 ?_ | refine zq3 ?_ _)); exact BK459.out⟩, ⟨by (with_reducible repeat (first | refine zq1 ?_ _ | refine zq2 ?_ | refine zq3 ?_ _)); exact BK463.out⟩, ⟨by repeat (first | (with_reducible first | exact HB.out | apply zq5 | apply zq4 | apply zq6 | refine below_set ?_ GE459.out | refine below_set ?_ GE463.out) | exact HB.out)⟩⟩
                        ·rw [if_neg c70] at H
                         exact absurd H (by simp)
                       ·rw [if_neg c69] at H
                        exact absurd H (by simp)
              ·rw [if_neg c41] at H
               have c41b0 : decide (x8_3 < (x5_2.length : Int)) = false := decide_eq_false c41
               clear c41
               by_cases c76 : 0 < (x5_2.length : Int)
               ·rw [if_pos c76] at H
                have c76b0 : decide (0 < (x5_2.length : Int)) = true := decide_eq_true c76
                have c76b1 : decide (0 < x5_2.length) = true := decide_eq_true (by omega)
                clear c76
                obtain ⟨bq77, hbq77⟩ : ∃ b_ : Bool, b_ = (rdOf false x5_2 0) := ⟨_, rfl⟩
                replace H : (if bq77 = true then (portolanlaw05_FlowReach.l0 k3 (wrap64 (x3_1 + 1)) l0_0) else (some false)) = some true := by rw [← hbq77] at H; exact H
                have Nbq77 := Aside0.mk hbq77
                clear hbq77
                by_cases c78 : bq77 = true
                ·subst c78
                 have H1 : (portolanlaw05_FlowReach.l0 k3 (wrap64 (x3_1 + 1)) l0_0) = some true := by first | (rw [if_pos rfl] at H; exact H) | rfl
                 clear H
                 have H := H1
                 clear H1
                 have H' := Aside0.mk H
                 clear H
                 obtain ⟨Ao79, co79, eo79⟩ := Kd.R_slice HO_5.out
                 subst eo79
                 have p476 : 0 ≤ (0 : Int) := (by omega)
                 have q476 : 0 < (x5_2.length : Int) := of_decide_eq_true (by first | (with_reducible assumption) | assumption)
                 obtain ⟨ad476, e476, hx476_0⟩ := Kd.at_bool (Kd.R_reads' HO_5.out).2.2 0 p476 q476
                 (try rw [← Nbq77.out] at hx476_0)
                 cases e476
                 have qi476 : (0 < x5_2.length) = True := eq_true (by omega)
                 (try rw [show ((0 : Int)).toNat = 0 from rfl] at hx476_0)
                 (try rw [Addr.add_zero'] at hx476_0)
                 replace p476 := eq_true p476
                 replace q476 := eq_true q476
                 go_wp2
                 go_roundg k3
                 case measure => have := HK1.out; have := HK2.out; have := HK3.out; omega
                 case rel => exact ⟨(wrap64 (x3_1 + 1)), (by first | rfl | (simp; done) | (simp [*]; done)), H', ⟨by have := HK1.out; have := HK2.out; have := HK3.out; omega⟩, ⟨by (with_reducible repeat (first | refine zq1 ?_ _ | refine zq2 ?_ | refine zq3 ?_ _)); exact BK459.out⟩, ⟨by repeat (first | (with_reducible first | exact HB.out | apply zq5 | apply zq4 | apply zq6 | refine below_set ?_ GE459.out | refine below_set ?_ GE463.out) | exact HB.out)⟩⟩
                ·replace c78 := Bool.eq_false_iff.mpr c78
                 subst c78
                 have H1 : (some false) = some true := by first | (rw [if_neg (show ¬ (false = true) by decide)] at H; exact H) | rfl
                 clear H
                 have H := H1
                 clear H1
                 exact absurd (Option.some.inj H) (by decide)
               ·rw [if_neg c76] at H
                exact absurd H (by simp)
        ·rw [if_neg c17] at H
         exact absurd H (by simp)
       ·rw [if_neg c16] at H
        exact absurd H (by simp)
      ·rw [if_neg c15] at H
       exact absurd H (by simp)
     ·rw [if_neg c14] at H
      have c14b0 : decide (x3_1 < (l0_0.length : Int)) = false := decide_eq_false c14
      clear c14
      clear H
      have hcz80_0 : wr.cell? ⟨gb459, 0, none⟩ = some (.slice A0_0 l0_0.length c0_0) := (blk_cell BK459.out 0).trans rfl
      have hfz80_0 := blk_frozen BK459.out 0
      go_wp2
      go_ret
      exact ⟨by first | rfl | (simp [errW_none, errW_some] <;> rfl) | (simp [*, errW_none, errW_some] <;> rfl), by repeat (first | (with_reducible first | exact HB.out | apply zq5 | apply zq4 | apply zq6 | refine below_set ?_ GE459.out) | exact HB.out)⟩
 ·replace c3 := Bool.eq_false_iff.mpr c3
  subst c3
  have H1 : (some false) = some true := by first | (rw [if_neg (show ¬ (false = true) by decide)] at H; exact H) | rfl
  clear H
  have H := H1
  clear H1
  exact absurd (Option.some.inj H) (by decide)
end Go.Proofs.Ytcknmcfomkbenaa.PF
