import Derived.Test.YtcknmcfomkbenaaPFx0
import Derived.Test.YtcknmcfomkbenaaPFx4
import Derived.Test.YtcknmcfomkbenaaPFx5
import Derived.Test.YtcknmcfomkbenaaPFx8
namespace Go.Proofs.Ytcknmcfomkbenaa.PF
open Go.RowKit Go.Proofs.YtcknmcfomkbenaaW.PrintWords Go.Proofs.YtcknmcfomkbenaaW.PrintLast Go.Proofs.YtcknmcfomkbenaaW.PrintMore
attribute [local go_sem] max2_int min2_int max_two min_two max_three min_three max_four min_four   -- for this text's walks alone
set_option linter.unusedVariables false
set_option linter.unusedSimpArgs false
mutual
def portolanref04_Check.j0 : Nat → Bool → List (S30) → Option (Int)
 | 0, _, _ => none
 | k + 1, x27, x267000 => if x27 = true then (some 5) else (portolanref04_Check.l0 k 0 x267000)
def portolanref04_Check.l0 : Nat → Int → List (S30) → Option (Int)
 | 0, _, _ => none
 | k + 1, x3, x267000 => if x3 < (x267000.length : Int) then (if 0 ≤ x3 then ((portolanref04_Func.f k ((rd_T30 x267000 x3).f0) ((rd_T30 x267000 x3).f1) ((rd_T30 x267000 x3).f2) ((rd_T30 x267000 x3).f3) ((rd_T30 x267000 x3).f4)).bind fun t272 => (if t272 = true then (portolanref04_Check.l1 k x3 0 x267000 ((rd_T30 x267000 x3).f0) ((rd_T30 x267000 x3).f1) ((rd_T30 x267000 x3).f2) ((rd_T30 x267000 x3).f3) ((rd_T30 x267000 x3).f4)) else (some 5))) else (none)) else (some 0)
def portolanref04_Check.l1 : Nat → Int → Int → List (S30) → List Int → List Int → Int → Int → List (S50) → Option (Int)
 | 0, _, _, _, _, _, _, _, _ => none
 | k + 1, x3, x5, x267000, x272000, x272001, x272002, x272003, x272004 => if x5 < (x272004.length : Int) then (portolanref04_Check.l2 k x3 x5 0 x267000 x272000 x272001 x272002 x272003 x272004) else (portolanref04_Check.l0 k (wrap64 (x3 + 1)) x267000)
def portolanref04_Check.l2 : Nat → Int → Int → Int → List (S30) → List Int → List Int → Int → Int → List (S50) → Option (Int)
 | 0, _, _, _, _, _, _, _, _, _ => none
 | k + 1, x3, x5, x6, x267000, x272000, x272001, x272002, x272003, x272004 => if 0 ≤ x5 then (if x5 < (x272004.length : Int) then (if x6 < (((rd_T50 x272004 x5).f0).length : Int) then (if 0 ≤ x6 then ((portolanref04_Ins.f k x267000 x3 ((rd_T52 ((rd_T50 x272004 x5).f0) x6).f0) ((rd_T52 ((rd_T50 x272004 x5).f0) x6).f1) ((rd_T52 ((rd_T50 x272004 x5).f0) x6).f2) ((rd_T52 ((rd_T50 x272004 x5).f0) x6).f3) ((rd_T52 ((rd_T50 x272004 x5).f0) x6).f4) ((rd_T52 ((rd_T50 x272004 x5).f0) x6).f5) ((rd_T52 ((rd_T50 x272004 x5).f0) x6).f6)).bind fun t276 => (if t276 = true then (portolanref04_Check.l2 k x3 x5 (wrap64 (x6 + 1)) x267000 x272000 x272001 x272002 x272003 x272004) else (some 5))) else (none)) else (portolanref04_Check.l1 k x3 (wrap64 (x5 + 1)) x267000 x272000 x272001 x272002 x272003 x272004)) else (none)) else (none)
end
def portolanref04_Check.f (k : Nat) (l0_0 : List (S30)) : Option (Int) := (portolanref04_within.f (l0_0.length : Int) 1 8).bind fun t267 => (if t267 = true then (if 0 < (l0_0.length : Int) then (if ((rd_T30 l0_0 0).f2) = 0 then (portolanref04_Check.j0 k (((rd_T30 l0_0 0).f3) != 0) l0_0) else (portolanref04_Check.j0 k true l0_0)) else (none)) else (portolanref04_Check.j0 k true l0_0))
def portolanref04_Check.T15 : Bool × List (List Nat × List Nat) := (true, [([], []), ([], []), ([], []), ([2], [2]), ([], []), ([3, 4], [3, 4]), ([5], [5]), ([6], [6]), ([], []), ([7, 8], [7, 8]), ([9], [9]), ([0, 1, 10], [0, 1, 10]), ([11], [11])])
def portolanref04_Check.B15 : List Nat := [0, 0, 0, 4, 0, 28, 60, 124, 0, 508, 1020, 2047, 4095]
theorem portolanref04_Check.tab15 : rtab .any (opsOf Try.f56 15) = portolanref04_Check.T15 := by kernel_rfl
theorem portolanref04_Check.bits15 : waitsOk portolanref04_Check.T15.2 portolanref04_Check.B15 = true := by kernel_rfl
set_option maxHeartbeats 8000000 in
set_option maxRecDepth 100000 in
theorem portolanref04_Check.calls (k : Nat) (A0_0 : Option Addr) (c0_0 : Nat) (l0_0 : List (S30)) (r : Int) (w : World) (hr0_0 : Kd.C k30 w A0_0 l0_0.length l0_0) (hc0_0 : l0_0.length ≤ c0_0) (h : portolanref04_Check.f k l0_0 = some r) :
  Calls Try.prog 56 #[.agg #[.slice A0_0 l0_0.length c0_0]] w fun e w' => e = .returned (.int .i64 r) ∧ Below w.heap.size w w' := by
 have hu24 := Try.underlying24
 have hu30 := Try.underlying30
 have hu52 := Try.underlying52
 have HR0_0 := Aside0.mk hr0_0
 have HC0_0 := Aside0.mk hc0_0
 clear hr0_0 hc0_0
 have HB := Aside0.mk (Below.refl w.heap.size w)
 have H : ((portolanref04_within.f (l0_0.length : Int) 1 8).bind fun t267 => (if t267 = true then (if 0 < (l0_0.length : Int) then (if ((rd_T30 l0_0 0).f2) = 0 then (portolanref04_Check.j0 k (((rd_T30 l0_0 0).f3) != 0) l0_0) else (portolanref04_Check.j0 k true l0_0)) else (none)) else (portolanref04_Check.j0 k true l0_0))) = some r := h
 clear h
 have HC2 := Aside0.mk H
 clear H
 go_enter Try.func56, Try.ntmps56
 go_upto_region 1 with (first | ((with_reducible refine gate_dst (N := 1) rfl ?_); refine box_event ?hg (N := 1) ?hd (cs := #[.slice A0_0 l0_0.length c0_0]) (t := 24) ?hr ?_; (case hd => rfl); (case hg => rfl); (case hr => first | (go_simp; done) | (go_simp; rfl)); intro gb266 hg w3 hbox hb; have n0_ := Aside0.mk (below_step (by repeat (first | (with_reducible first | exact HB.out | apply zq5 | apply zq4 | apply zq6) | exact HB.out)) hb); have n1_ := Aside0.mk (hbox); have n2_ := Aside0.mk ((by rw [hg]; exact (below_size (by repeat (first | (with_reducible first | exact HB.out | apply zq5 | apply zq4 | apply zq6) | exact HB.out))) : w.heap.size ≤ gb266)); have n3_ := Aside0.mk ((by rw [hg]; exact (below_size (by repeat (first | (with_reducible first | exact HB.out | apply zq5 | apply zq4 | apply zq6) | exact HB.out))) : w.heap.size ≤ gb266)); clear HB; have HB := n0_; have BK266 := n1_; have GW266 := n2_; have GE266 := n3_; clear n0_ n1_ n2_ n3_; clear hb hbox hg))
 (try simp only [Act.put, List.setIfInBounds_toArray, List.set_cons_zero, List.set_cons_succ])
 go_cut [27] (fun v27 wc => ∃ (kq : Nat) (x27_1 : Bool), v27 = .bool x27_1 ∧ Aside0 (portolanref04_Check.j0 kq x27_1 l0_0 = some r) ∧ Aside0 (kq ≤ k) ∧ Aside0 (wc.heap[gb266]? = some (.cells #[(.slice A0_0 l0_0.length c0_0)] 24 (0, 0))) ∧ Aside0 (Below w.heap.size w wc))
 case first =>
  have H := HC2.out
  clear HC2
  replace H := Option.bind_eq_some_iff.mp H
  obtain ⟨t267, A40, H⟩ := H
  replace H : (if t267 = true then (if 0 < (l0_0.length : Int) then (if ((rd_T30 l0_0 0).f2) = 0 then (portolanref04_Check.j0 k (((rd_T30 l0_0 0).f3) != 0) l0_0) else (portolanref04_Check.j0 k true l0_0)) else (none)) else (portolanref04_Check.j0 k true l0_0)) = some r := H
  have A4 := Aside0.mk A40
  clear A40
  by_cases c5 : t267 = true
  ·subst c5
   have H1 : (if 0 < (l0_0.length : Int) then (if ((rd_T30 l0_0 0).f2) = 0 then (portolanref04_Check.j0 k (((rd_T30 l0_0 0).f3) != 0) l0_0) else (portolanref04_Check.j0 k true l0_0)) else (none)) = some r := by first | (rw [if_pos rfl] at H; exact H) | rfl
   clear H
   have H := H1
   clear H1
   by_cases c6 : 0 < (l0_0.length : Int)
   ·rw [if_pos c6] at H
    have c6b0 : decide (0 < (l0_0.length : Int)) = true := decide_eq_true c6
    have c6b1 : decide (0 < l0_0.length) = true := decide_eq_true (by omega)
    clear c6
    (first | rw [c6b0] | (simp only [i64_w, i32_w]; rw [c6b0]) | skip)
    by_cases c7 : ((rd_T30 l0_0 0).f2) = 0
    ·rw [if_pos c7] at H
     have c7b0 : (((rd_T30 l0_0 0).f2) == 0) = true := beq_iff_eq.mpr c7
     have c7b1 : (((rd_T30 l0_0 0).f2) != 0) = false := bne_eq_false_iff_eq.mpr c7
     clear c7
     have H' := Aside0.mk H
     clear H
     have hcz8_0 : w3.cell? ⟨gb266, 0, none⟩ = some (.slice A0_0 l0_0.length c0_0) := (blk_cell BK266.out 0).trans rfl
     have hfz8_0 := blk_frozen BK266.out 0
     go_wp2_with (first | ((with_reducible refine gate_callee (f := 86) rfl ?_); refine goesL_ (some 10) rfl rfl Try.func86 (by kernel_rfl) rfl #[.int .i64 (l0_0.length : Int), .int .i64 1, .int .i64 8] rfl (by (try simp only [List.map_toArray, List.map_cons, List.map_nil]); first | done | rfl | (simp only [List.length_drop, List.length_take]; rfl)) ?_; (with_reducible refine (portolanref04_within.calls (l0_0.length : Int) 1 8 true _ A4.out).mono ?_); rintro e w' ⟨rfl, ⟨nd, rfl⟩⟩; refine ⟨_, rfl, ?_⟩; have p268 : 0 ≤ (0 : Int) := (by omega); have q268 : 0 < (l0_0.length : Int) := of_decide_eq_true (by first | (with_reducible assumption) | assumption); obtain ⟨ad268, A268_0, c268_0, A268_1, c268_1, A268_4, c268_4, e268, hx268_0, hx268_1, hx268_2, hx268_3, hx268_4, hl268_0, hi268_0, hl268_1, hi268_1, hl268_4, hi268_4⟩ := at_T30 HR0_0.out 0 p268 q268; cases e268; have qi268 : (0 < l0_0.length) = True := eq_true (by omega); (try rw [show ((0 : Int)).toNat = 0 from rfl] at hx268_0); (try rw [show 0 * 5 = 0 from rfl] at hx268_0); (try rw [Addr.add_zero'] at hx268_0); (try rw [show ((0 : Int)).toNat = 0 from rfl] at hx268_1); (try rw [show 0 * 5 = 0 from rfl] at hx268_1); (try rw [Addr.add_zero'] at hx268_1); (try rw [show ((0 : Int)).toNat = 0 from rfl] at hx268_2); (try rw [show 0 * 5 = 0 from rfl] at hx268_2); (try rw [Addr.add_zero'] at hx268_2); (try rw [show ((0 : Int)).toNat = 0 from rfl] at hx268_3); (try rw [show 0 * 5 = 0 from rfl] at hx268_3); (try rw [Addr.add_zero'] at hx268_3); (try rw [show ((0 : Int)).toNat = 0 from rfl] at hx268_4); (try rw [show 0 * 5 = 0 from rfl] at hx268_4); (try rw [Addr.add_zero'] at hx268_4); replace hx268_0 := (HB.out.cell (World.block_lt_of_cell? w _ hx268_0)).trans hx268_0; replace hx268_1 := (HB.out.cell (World.block_lt_of_cell? w _ hx268_1)).trans hx268_1; replace hx268_2 := (HB.out.cell (World.block_lt_of_cell? w _ hx268_2)).trans hx268_2; replace hx268_3 := (HB.out.cell (World.block_lt_of_cell? w _ hx268_3)).trans hx268_3; replace hx268_4 := (HB.out.cell (World.block_lt_of_cell? w _ hx268_4)).trans hx268_4; have HR268_0 := Aside0.mk hi268_0; have HC268_0 := Aside0.mk hl268_0; clear hi268_0 hl268_0; have HR268_1 := Aside0.mk hi268_1; have HC268_1 := Aside0.mk hl268_1; clear hi268_1 hl268_1; have HR268_4 := Aside0.mk hi268_4; have HC268_4 := Aside0.mk hl268_4; clear hi268_4 hl268_4; replace p268 := eq_true p268; replace q268 := eq_true q268; have p269 : 0 ≤ (0 : Int) := (by omega); have q269 : 0 < (l0_0.length : Int) := of_decide_eq_true (by first | (with_reducible assumption) | assumption); obtain ⟨ad269, A269_0, c269_0, A269_1, c269_1, A269_4, c269_4, e269, hx269_0, hx269_1, hx269_2, hx269_3, hx269_4, hl269_0, hi269_0, hl269_1, hi269_1, hl269_4, hi269_4⟩ := at_T30 HR0_0.out 0 p269 q269; obtain rfl : ad268 = ad269 := (by injection e269); have qi269 : (0 < l0_0.length) = True := eq_true (by omega); (try rw [show ((0 : Int)).toNat = 0 from rfl] at hx269_0); (try rw [show 0 * 5 = 0 from rfl] at hx269_0); (try rw [Addr.add_zero'] at hx269_0); (try rw [show ((0 : Int)).toNat = 0 from rfl] at hx269_1); (try rw [show 0 * 5 = 0 from rfl] at hx269_1); (try rw [Addr.add_zero'] at hx269_1); (try rw [show ((0 : Int)).toNat = 0 from rfl] at hx269_2); (try rw [show 0 * 5 = 0 from rfl] at hx269_2); (try rw [Addr.add_zero'] at hx269_2); (try rw [show ((0 : Int)).toNat = 0 from rfl] at hx269_3); (try rw [show 0 * 5 = 0 from rfl] at hx269_3); (try rw [Addr.add_zero'] at hx269_3); (try rw [show ((0 : Int)).toNat = 0 from rfl] at hx269_4); (try rw [show 0 * 5 = 0 from rfl] at hx269_4); (try rw [Addr.add_zero'] at hx269_4); replace hx269_0 := (HB.out.cell (World.block_lt_of_cell? w _ hx269_0)).trans hx269_0; replace hx269_1 := (HB.out.cell (World.block_lt_of_cell? w _ hx269_1)).trans hx269_1; replace hx269_2 := (HB.out.cell (World.block_lt_of_cell? w _ hx269_2)).trans hx269_2; replace hx269_3 := (HB.out.cell (World.block_lt_of_cell? w _ hx269_3)).trans hx269_3; replace hx269_4 := (HB.out.cell (World.block_lt_of_cell? w _ hx269_4)).trans hx269_4; have HR269_0 := Aside0.mk hi269_0; have HC269_0 := Aside0.mk hl269_0; clear hi269_0 hl269_0; have HR269_1 := Aside0.mk hi269_1; have HC269_1 := Aside0.mk hl269_1; clear hi269_1 hl269_1; have HR269_4 := Aside0.mk hi269_4; have HC269_4 := Aside0.mk hl269_4; clear hi269_4 hl269_4; replace p269 := eq_true p269; replace q269 := eq_true q269; have ea_ := Option.some.inj (hx268_0.symm.trans hx269_0); injection ea_ with ea_ en_ ec_; subst ea_; subst ec_; clear en_; have ea_ := Option.some.inj (hx268_1.symm.trans hx269_1); injection ea_ with ea_ en_ ec_; subst ea_; subst ec_; clear en_; have ea_ := Option.some.inj (hx268_4.symm.trans hx269_4); injection ea_ with ea_ en_ ec_; subst ea_; subst ec_; clear en_))
     go_meet
     case rel => exact ⟨_, ((((rd_T30 l0_0 0).f3) != 0)), (by first | rfl | (simp; done) | (simp [*]; done)), H', ⟨by first | omega | exact Nat.le_refl _⟩, ⟨by (with_reducible repeat (first | refine zq1 ?_ _ | refine zq2 ?_ | refine zq3 ?_ _)); exact BK266.out⟩, ⟨by repeat (first | (with_reducible first | exact HB.out | apply zq5 | apply zq4 | apply zq6 | refine below_set ?_ GE266.out) | exact HB.out)⟩⟩
    ·rw [if_neg c7] at H
     have c7b0 : (((rd_T30 l0_0 0).f2) == 0) = false := beq_eq_false_iff_ne.mpr c7
     have c7b1 : (((rd_T30 l0_0 0).f2) != 0) = true := bne_iff_ne.mpr c7
     have H' := Aside0.mk H
     clear H
     have hcz9_0 : w3.cell? ⟨gb266, 0, none⟩ = some (.slice A0_0 l0_0.length c0_0) := (blk_cell BK266.out 0).trans rfl
     have hfz9_0 := blk_frozen BK266.out 0
     go_wp2_with (first | ((with_reducible refine gate_callee (f := 86) rfl ?_); refine goesL_ (some 10) rfl rfl Try.func86 (by kernel_rfl) rfl #[.int .i64 (l0_0.length : Int), .int .i64 1, .int .i64 8] rfl (by (try simp only [List.map_toArray, List.map_cons, List.map_nil]); first | done | rfl | (simp only [List.length_drop, List.length_take]; rfl)) ?_; (with_reducible refine (portolanref04_within.calls (l0_0.length : Int) 1 8 true _ A4.out).mono ?_); rintro e w' ⟨rfl, ⟨nd, rfl⟩⟩; refine ⟨_, rfl, ?_⟩; have p268 : 0 ≤ (0 : Int) := (by omega); have q268 : 0 < (l0_0.length : Int) := of_decide_eq_true (by first | (with_reducible assumption) | assumption); obtain ⟨ad268, A268_0, c268_0, A268_1, c268_1, A268_4, c268_4, e268, hx268_0, hx268_1, hx268_2, hx268_3, hx268_4, hl268_0, hi268_0, hl268_1, hi268_1, hl268_4, hi268_4⟩ := at_T30 HR0_0.out 0 p268 q268; cases e268; have qi268 : (0 < l0_0.length) = True := eq_true (by omega); (try rw [show ((0 : Int)).toNat = 0 from rfl] at hx268_0); (try rw [show 0 * 5 = 0 from rfl] at hx268_0); (try rw [Addr.add_zero'] at hx268_0); (try rw [show ((0 : Int)).toNat = 0 from rfl] at hx268_1); (try rw [show 0 * 5 = 0 from rfl] at hx268_1); (try rw [Addr.add_zero'] at hx268_1); (try rw [show ((0 : Int)).toNat = 0 from rfl] at hx268_2); (try rw [show 0 * 5 = 0 from rfl] at hx268_2); (try rw [Addr.add_zero'] at hx268_2); (try rw [show ((0 : Int)).toNat = 0 from rfl] at hx268_3); (try rw [show 0 * 5 = 0 from rfl] at hx268_3); (try rw [Addr.add_zero'] at hx268_3); (try rw [show ((0 : Int)).toNat = 0 from rfl] at hx268_4); (try rw [show 0 * 5 = 0 from rfl] at hx268_4); (try rw [Addr.add_zero'] at hx268_4); replace hx268_0 := (HB.out.cell (World.block_lt_of_cell? w _ hx268_0)).trans hx268_0; replace hx268_1 := (HB.out.cell (World.block_lt_of_cell? w _ hx268_1)).trans hx268_1; replace hx268_2 := (HB.out.cell (World.block_lt_of_cell? w _ hx268_2)).trans hx268_2; replace hx268_3 := (HB.out.cell (World.block_lt_of_cell? w _ hx268_3)).trans hx268_3; replace hx268_4 := (HB.out.cell (World.block_lt_of_cell? w _ hx268_4)).trans hx268_4; have HR268_0 := Aside0.mk hi268_0; have HC268_0 := Aside0.mk hl268_0; clear hi268_0 hl268_0; have HR268_1 := Aside0.mk hi268_1; have HC268_1 := Aside0.mk hl268_1; clear hi268_1 hl268_1; have HR268_4 := Aside0.mk hi268_4; have HC268_4 := Aside0.mk hl268_4; clear hi268_4 hl268_4; replace p268 := eq_true p268; replace q268 := eq_true q268))
     go_meet
     case rel => exact ⟨_, (true), (by first | rfl | (simp; done) | (simp [*]; done)), H', ⟨by first | omega | exact Nat.le_refl _⟩, ⟨by (with_reducible repeat (first | refine zq1 ?_ _ | refine zq2 ?_ | refine zq3 ?_ _)); exact BK266.out⟩, ⟨by repeat (first | (with_reducible first | exact HB.out | apply zq5 | apply zq4 | apply zq6 | refine below_set ?_ GE266.out) | exact HB.out)⟩⟩
   ·rw [if_neg c6] at H
    exact absurd H (by simp)
  ·replace c5 := Bool.eq_false_iff.mpr c5
   subst c5
   have H1 : (portolanref04_Check.j0 k true l0_0) = some r := by first | (rw [if_neg (show ¬ (false = true) by decide)] at H; exact H) | rfl
   clear H
   have H := H1
   clear H1
   have H' := Aside0.mk H
   clear H
   have hcz10_0 : w3.cell? ⟨gb266, 0, none⟩ = some (.slice A0_0 l0_0.length c0_0) := (blk_cell BK266.out 0).trans rfl
   have hfz10_0 := blk_frozen BK266.out 0
   go_wp2_with (first | ((with_reducible refine gate_callee (f := 86) rfl ?_); refine goesL_ (some 10) rfl rfl Try.func86 (by kernel_rfl) rfl #[.int .i64 (l0_0.length : Int), .int .i64 1, .int .i64 8] rfl (by (try simp only [List.map_toArray, List.map_cons, List.map_nil]); first | done | rfl | (simp only [List.length_drop, List.length_take]; rfl)) ?_; (with_reducible refine (portolanref04_within.calls (l0_0.length : Int) 1 8 false _ A4.out).mono ?_); rintro e w' ⟨rfl, ⟨nd, rfl⟩⟩; refine ⟨_, rfl, ?_⟩))
   go_meet
   case rel => exact ⟨_, (true), (by first | rfl | (simp; done) | (simp [*]; done)), H', ⟨by first | omega | exact Nat.le_refl _⟩, ⟨by (with_reducible repeat (first | refine zq1 ?_ _ | refine zq2 ?_ | refine zq3 ?_ _)); exact BK266.out⟩, ⟨by repeat (first | (with_reducible first | exact HB.out | apply zq5 | apply zq4 | apply zq6 | refine below_set ?_ GE266.out) | exact HB.out)⟩⟩
 case rest =>
  clear HC2
  try clear c2
  try clear p2
  try clear q2
  try clear hx2
  try clear qi2
  try clear c5
  try clear c6
  try clear c6b0
  try clear c6b1
  try clear c7
  try clear c7b0
  try clear c7b1
  try clear c8
  try clear hcz10_0
  try clear hcz8_0
  try clear hcz9_0
  try clear hfz10_0
  try clear hfz8_0
  try clear hfz9_0
  try clear hx268_0
  try clear hx268_1
  try clear hx268_2
  try clear hx268_3
  try clear hx268_4
  try clear hx269_0
  try clear hx269_1
  try clear hx269_2
  try clear hx269_3
  try clear hx269_4
  try clear p268
  try clear p269
  try clear q268
  try clear q269
  obtain ⟨kq, x27_1, rfl, HA, HJ1, BK266, HB⟩ := hcut
  cases kq with
  | zero => exact absurd HA.out (by simp [portolanref04_Check.j0])
  | succ kj1 =>
   have H := HA.out
   clear HA
   simp only [portolanref04_Check.j0] at H
   by_cases c11 : x27_1 = true
   ·subst c11
    have H1 : (some 5) = some r := by first | (rw [if_pos rfl] at H; exact H) | rfl
    clear H
    have H := H1
    clear H1
    obtain rfl := Option.some.inj H
    go_wp2
    go_ret
    exact ⟨by first | rfl | (simp [errW_none, errW_some] <;> rfl) | (simp [*, errW_none, errW_some] <;> rfl), by repeat (first | (with_reducible first | exact HB.out | apply zq5 | apply zq4 | apply zq6 | refine below_set ?_ GE266.out) | exact HB.out)⟩
   ·replace c11 := Bool.eq_false_iff.mpr c11
    subst c11
    have H1 : (portolanref04_Check.l0 kj1 0 l0_0) = some r := by first | (rw [if_neg (show ¬ (false = true) by decide)] at H; exact H) | rfl
    clear H
    have H := H1
    clear H1
    have H' := Aside0.mk H
    clear H
    go_wp2
    go_loopg [3] kj1 (fun kq v3 w' => ∃ (x3_2 : Int), v3 = .int .i64 x3_2 ∧ Aside0 (portolanref04_Check.l0 kq x3_2 l0_0 = some r) ∧ Aside0 (kq ≤ kj1) ∧ Aside0 (w'.heap[gb266]? = some (.cells #[(.slice A0_0 l0_0.length c0_0)] 24 (0, 0))) ∧ Aside0 (Below w.heap.size w w'))
    case atStart => exact ⟨(0), (by first | rfl | (simp; done) | (simp [*]; done)), H', ⟨Nat.le_refl _⟩, ⟨by (with_reducible repeat (first | refine zq1 ?_ _ | refine zq2 ?_ | refine zq3 ?_ _)); exact BK266.out⟩, ⟨by repeat (first | (with_reducible first | exact HB.out | apply zq5 | apply zq4 | apply zq6 | refine below_set ?_ GE266.out) | exact HB.out)⟩⟩
    case round =>
     clear H'
     try clear c1
     try clear c2
     try clear p2
     try clear q2
     try clear hx2
     try clear qi2
     try clear c5
     try clear c6
     try clear c6b0
     try clear c6b1
     try clear c7
     try clear c7b0
     try clear c7b1
     try clear c8
     try clear c11
     try clear hcz10_0
     try clear hcz8_0
     try clear hcz9_0
     try clear hfz10_0
     try clear hfz8_0
     try clear hfz9_0
     try clear hx268_0
     try clear hx268_1
     try clear hx268_2
     try clear hx268_3
     try clear hx268_4
     try clear hx269_0
     try clear hx269_1
     try clear hx269_2
     try clear hx269_3
     try clear hx269_4
     try clear p2
     try clear p268
     try clear p269
     try clear q2
     try clear q268
     try clear q269
     obtain ⟨x3_2, rfl, HA, HK2, BK266, HB⟩ := hrel
     cases gk with
     | zero => exact absurd HA.out (by simp [portolanref04_Check.l0])
     | succ k2 =>
      have H := HA.out
      clear HA
      simp only [portolanref04_Check.l0] at H
      by_cases c12 : x3_2 < (l0_0.length : Int)
      ·rw [if_pos c12] at H
       have c12b0 : decide (x3_2 < (l0_0.length : Int)) = true := decide_eq_true c12
       clear c12
       by_cases c13 : 0 ≤ x3_2
       ·rw [if_pos c13] at H
        have c13b0 : decide (0 ≤ x3_2) = true := decide_eq_true c13
        clear c13
        replace H := Option.bind_eq_some_iff.mp H
        obtain ⟨t272, A140, H⟩ := H
        replace H : (if t272 = true then (portolanref04_Check.l1 k2 x3_2 0 l0_0 ((rd_T30 l0_0 x3_2).f0) ((rd_T30 l0_0 x3_2).f1) ((rd_T30 l0_0 x3_2).f2) ((rd_T30 l0_0 x3_2).f3) ((rd_T30 l0_0 x3_2).f4)) else (some 5)) = some r := H
        have A14 := Aside0.mk A140
        clear A140
        by_cases c15 : t272 = true
        ·subst c15
         have H1 : (portolanref04_Check.l1 k2 x3_2 0 l0_0 ((rd_T30 l0_0 x3_2).f0) ((rd_T30 l0_0 x3_2).f1) ((rd_T30 l0_0 x3_2).f2) ((rd_T30 l0_0 x3_2).f3) ((rd_T30 l0_0 x3_2).f4)) = some r := by first | (rw [if_pos rfl] at H; exact H) | rfl
         clear H
         have H := H1
         clear H1
         have H' := Aside0.mk H
         clear H
         have hcz16_0 : wr.cell? ⟨gb266, 0, none⟩ = some (.slice A0_0 l0_0.length c0_0) := (blk_cell BK266.out 0).trans rfl
         have hfz16_0 := blk_frozen BK266.out 0
         have p270 : 0 ≤ (x3_2 : Int) := of_decide_eq_true (by first | (with_reducible assumption) | assumption)
         have q270 : x3_2 < (l0_0.length : Int) := of_decide_eq_true (by first | (with_reducible assumption) | assumption)
         obtain ⟨ad270, A270_0, c270_0, A270_1, c270_1, A270_4, c270_4, e270, hx270_0, hx270_1, hx270_2, hx270_3, hx270_4, hl270_0, hi270_0, hl270_1, hi270_1, hl270_4, hi270_4⟩ := at_T30 HR0_0.out x3_2 p270 q270
         cases e270
         replace hx270_0 := (HB.out.cell (World.block_lt_of_cell? w _ hx270_0)).trans hx270_0
         replace hx270_1 := (HB.out.cell (World.block_lt_of_cell? w _ hx270_1)).trans hx270_1
         replace hx270_2 := (HB.out.cell (World.block_lt_of_cell? w _ hx270_2)).trans hx270_2
         replace hx270_3 := (HB.out.cell (World.block_lt_of_cell? w _ hx270_3)).trans hx270_3
         replace hx270_4 := (HB.out.cell (World.block_lt_of_cell? w _ hx270_4)).trans hx270_4
         have HR270_0 := Aside0.mk hi270_0
         have HC270_0 := Aside0.mk hl270_0
         clear hi270_0 hl270_0
         have HR270_1 := Aside0.mk hi270_1
         have HC270_1 := Aside0.mk hl270_1
         clear hi270_1 hl270_1
         have HR270_4 := Aside0.mk hi270_4
         have HC270_4 := Aside0.mk hl270_4
         clear hi270_4 hl270_4
         replace p270 := eq_true p270
         replace q270 := eq_true q270
         go_wp2_with (first | ((with_reducible refine gate_dst (N := 4) rfl ?_); refine box_event ?hg (N := 4) ?hd (cs := #[.slice none 0 0, .slice none 0 0, .int .i64 0, .int .i64 0, .slice none 0 0]) (t := 30) ?hr ?_; (case hd => rfl); (case hg => rfl); (case hr => first | (go_simp; done) | (go_simp; rfl)); intro gb271 hg w17 hbox hb; have n0_ := Aside0.mk (blk_below (g := gb266) (o := .cells #[.slice (some ad270) l0_0.length c0_0] 24 (0, 0)) (by (with_reducible repeat (first | refine zq1 ?_ _ | refine zq2 ?_ | refine zq3 ?_ _)); exact BK266.out) hb); have n1_ := Aside0.mk (below_step (by repeat (first | (with_reducible first | exact HB.out | apply zq5 | apply zq4 | apply zq6 | refine below_set ?_ GE266.out) | exact HB.out)) hb); have n2_ := Aside0.mk (hbox); have n3_ := Aside0.mk ((by rw [hg]; exact (below_size (by repeat (first | (with_reducible first | exact HB.out | apply zq5 | apply zq4 | apply zq6 | refine below_set ?_ GE266.out) | exact HB.out))) : w.heap.size ≤ gb271)); have n4_ := Aside0.mk ((by rw [hg]; exact (below_size (by repeat (first | (with_reducible first | exact HB.out | apply zq5 | apply zq4 | apply zq6 | refine below_set ?_ GE266.out) | exact HB.out))) : w.heap.size ≤ gb271)); have n5_ := Aside0.mk ((by rw [hg]; exact Nat.ne_of_lt (blk_lt (g := gb266) (o := .cells #[.slice (some ad270) l0_0.length c0_0] 24 (0, 0)) (by (with_reducible repeat (first | refine zq1 ?_ _ | refine zq2 ?_ | refine zq3 ?_ _)); exact BK266.out)) : gb266 ≠ gb271)); have n6_ := Aside0.mk ((by rw [hg]; exact Nat.ne_of_gt (blk_lt (g := gb266) (o := .cells #[.slice (some ad270) l0_0.length c0_0] 24 (0, 0)) (by (with_reducible repeat (first | refine zq1 ?_ _ | refine zq2 ?_ | refine zq3 ?_ _)); exact BK266.out)) : gb271 ≠ gb266)); clear BK266; clear HB; have BK266 := n0_; have HB := n1_; have BK271 := n2_; have GW271 := n3_; have GE271 := n4_; have NB266_271 := n5_; have NB271_266 := n6_; clear n0_ n1_ n2_ n3_ n4_ n5_ n6_; clear hb hbox hg; have hnb18 := NB271_266.out; have hnc18 := NB266_271.out; have hcz19_0 : w17.cell? ⟨gb271, 0, none⟩ = some (.slice none 0 0) := (blk_cell BK271.out 0).trans rfl; have hcz19_1 : w17.cell? ⟨gb271, 1, none⟩ = some (.slice none 0 0) := (blk_cell BK271.out 1).trans rfl; have hcz19_2 : w17.cell? ⟨gb271, 2, none⟩ = some (.int .i64 0) := (blk_cell BK271.out 2).trans rfl; have hcz19_3 : w17.cell? ⟨gb271, 3, none⟩ = some (.int .i64 0) := (blk_cell BK271.out 3).trans rfl; have hcz19_4 : w17.cell? ⟨gb271, 4, none⟩ = some (.slice none 0 0) := (blk_cell BK271.out 4).trans rfl; have hfz19_0 := blk_frozen BK271.out 0; have hfz19_1 := blk_frozen BK271.out 1; have hfz19_2 := blk_frozen BK271.out 2; have hfz19_3 := blk_frozen BK271.out 3; have hfz19_4 := blk_frozen BK271.out 4) | ((with_reducible refine gate_callee (f := 87) rfl ?_); refine goesL_ (some 41) rfl rfl Try.func87 (by kernel_rfl) rfl #[.agg #[.slice A270_0 ((rd_T30 l0_0 x3_2).f0).length c270_0, .slice A270_1 ((rd_T30 l0_0 x3_2).f1).length c270_1, .int .i64 ((rd_T30 l0_0 x3_2).f2), .int .i64 ((rd_T30 l0_0 x3_2).f3), .slice A270_4 ((rd_T30 l0_0 x3_2).f4).length c270_4]] rfl (by (try simp only [List.map_toArray, List.map_cons, List.map_nil]); first | done | rfl | (simp only [List.length_drop, List.length_take]; rfl)) ?_; (with_reducible refine (portolanref04_Func.calls k2 _ _ ((rd_T30 l0_0 x3_2).f0) _ _ ((rd_T30 l0_0 x3_2).f1) ((rd_T30 l0_0 x3_2).f2) ((rd_T30 l0_0 x3_2).f3) _ _ ((rd_T30 l0_0 x3_2).f4) true _ ?side1 ?side2 ?side3 ?side4 ?side5 ?side6 A14.out).mono ?_); (case side1 => exact Kd.C_below HR270_0.out (by repeat (first | (with_reducible first | exact HB.out | apply zq5 | apply zq4 | apply zq6 | refine below_set ?_ GE266.out | refine below_set ?_ GE271.out) | exact HB.out))); (case side2 => exact HC270_0.out); (case side3 => exact Kd.C_below HR270_1.out (by repeat (first | (with_reducible first | exact HB.out | apply zq5 | apply zq4 | apply zq6 | refine below_set ?_ GE266.out | refine below_set ?_ GE271.out) | exact HB.out))); (case side4 => exact HC270_1.out); (case side5 => exact Kd.C_below HR270_4.out (by repeat (first | (with_reducible first | exact HB.out | apply zq5 | apply zq4 | apply zq6 | refine below_set ?_ GE266.out | refine below_set ?_ GE271.out) | exact HB.out))); (case side6 => exact HC270_4.out); rintro e w20 ⟨rfl, hb⟩; refine ⟨_, rfl, ?_⟩; have n0_ := Aside0.mk (blk_below (g := gb266) (o := .cells #[.slice (some ad270) l0_0.length c0_0] 24 (0, 0)) (by (with_reducible repeat (first | refine zq1 ?_ _ | refine zq2 ?_ | refine zq3 ?_ _)); refine blk_far ?_ NB266_271.out _; (with_reducible repeat (first | refine zq1 ?_ _ | refine zq2 ?_ | refine zq3 ?_ _)); refine blk_far ?_ NB266_271.out _; (with_reducible repeat (first | refine zq1 ?_ _ | refine zq2 ?_ | refine zq3 ?_ _)); refine blk_far ?_ NB266_271.out _; (with_reducible repeat (first | refine zq1 ?_ _ | refine zq2 ?_ | refine zq3 ?_ _)); refine blk_far ?_ NB266_271.out _; (with_reducible repeat (first | refine zq1 ?_ _ | refine zq2 ?_ | refine zq3 ?_ _)); refine blk_far ?_ NB266_271.out _; (with_reducible repeat (first | refine zq1 ?_ _ | refine zq2 ?_ | refine zq3 ?_ _)); exact BK266.out) hb); have n1_ := Aside0.mk (blk_below (g := gb271) (o := .cells #[.slice A270_0 ((rd_T30 l0_0 x3_2).f0).length c270_0, .slice A270_1 ((rd_T30 l0_0 x3_2).f1).length c270_1, .int .i64 ((rd_T30 l0_0 x3_2).f2), .int .i64 ((rd_T30 l0_0 x3_2).f3), .slice A270_4 ((rd_T30 l0_0 x3_2).f4).length c270_4] 30 (0, 0)) (by (with_reducible repeat (first | refine zq1 ?_ _ | refine zq2 ?_ | refine zq3 ?_ _)); refine blk_put (cs := #[.slice A270_0 ((rd_T30 l0_0 x3_2).f0).length c270_0, .slice A270_1 ((rd_T30 l0_0 x3_2).f1).length c270_1, .int .i64 ((rd_T30 l0_0 x3_2).f2), .int .i64 ((rd_T30 l0_0 x3_2).f3), .slice none 0 0]) ?_ 4 _ rfl; (with_reducible repeat (first | refine zq1 ?_ _ | refine zq2 ?_ | refine zq3 ?_ _)); refine blk_put (cs := #[.slice A270_0 ((rd_T30 l0_0 x3_2).f0).length c270_0, .slice A270_1 ((rd_T30 l0_0 x3_2).f1).length c270_1, .int .i64 ((rd_T30 l0_0 x3_2).f2), .int .i64 0, .slice none 0 0]) ?_ 3 _ rfl; (with_reducible repeat (first | refine zq1 ?_ _ | refine zq2 ?_ | refine zq3 ?_ _)); refine blk_put (cs := #[.slice A270_0 ((rd_T30 l0_0 x3_2).f0).length c270_0, .slice A270_1 ((rd_T30 l0_0 x3_2).f1).length c270_1, .int .i64 0, .int .i64 0, .slice none 0 0]) ?_ 2 _ rfl; (with_reducible repeat (first | refine zq1 ?_ _ | refine zq2 ?_ | refine zq3 ?_ _)); refine blk_put (cs := #[.slice A270_0 ((rd_T30 l0_0 x3_2).f0).length c270_0, .slice none 0 0, .int .i64 0, .int .i64 0, .slice none 0 0]) ?_ 1 _ rfl; (with_reducible repeat (first | refine zq1 ?_ _ | refine zq2 ?_ | refine zq3 ?_ _)); refine blk_put (cs := #[.slice none 0 0, .slice none 0 0, .int .i64 0, .int .i64 0, .slice none 0 0]) ?_ 0 _ rfl; (with_reducible repeat (first | refine zq1 ?_ _ | refine zq2 ?_ | refine zq3 ?_ _)); exact BK271.out) hb); have n2_ := Aside0.mk (below_step (by repeat (first | (with_reducible first | exact HB.out | apply zq5 | apply zq4 | apply zq6 | refine below_set ?_ GE266.out | refine below_set ?_ GE271.out) | exact HB.out)) hb); clear BK266; clear BK271; clear HB; have BK266 := n0_; have BK271 := n1_; have HB := n2_; clear n0_ n1_ n2_; (try clear hb); (try clear hb2); (try clear hk); (try clear hi)))
         go_loopg [5] k2 (fun kq v5 w' => ∃ (x5_3 : Int), v5 = .int .i64 x5_3 ∧ Aside0 (portolanref04_Check.l1 kq x3_2 x5_3 l0_0 ((rd_T30 l0_0 x3_2).f0) ((rd_T30 l0_0 x3_2).f1) ((rd_T30 l0_0 x3_2).f2) ((rd_T30 l0_0 x3_2).f3) ((rd_T30 l0_0 x3_2).f4) = some r) ∧ Aside0 (kq ≤ k2) ∧ Aside0 (w'.heap[gb266]? = some (.cells #[(.slice (some ad270) l0_0.length c0_0)] 24 (0, 0))) ∧ Aside0 (w'.heap[gb271]? = some (.cells #[(.slice A270_0 ((rd_T30 l0_0 x3_2).f0).length c270_0), (.slice A270_1 ((rd_T30 l0_0 x3_2).f1).length c270_1), .int .i64 ((rd_T30 l0_0 x3_2).f2), .int .i64 ((rd_T30 l0_0 x3_2).f3), (.slice A270_4 ((rd_T30 l0_0 x3_2).f4).length c270_4)] 30 (0, 0))) ∧ Aside0 (Below w.heap.size w w'))
         case atStart => exact ⟨(0), (by first | rfl | (simp; done) | (simp [*]; done)), H', ⟨Nat.le_refl _⟩, ⟨by (with_reducible repeat (first | refine zq1 ?_ _ | refine zq2 ?_ | refine zq3 ?_ _)); exact BK266.out⟩, ⟨by (with_reducible repeat (first | refine zq1 ?_ _ | refine zq2 ?_ | refine zq3 ?_ _)); exact BK271.out⟩, ⟨by repeat (first | (with_reducible first | exact HB.out | apply zq5 | apply zq4 | apply zq6 | refine below_set ?_ GE266.out | refine below_set ?_ GE271.out) | exact HB.out)⟩⟩
         case round =>
          clear H'
          try clear c1
          try clear c2
          try clear p2
          try clear q2
          try clear hx2
          try clear qi2
          try clear c5
          try clear c6
          try clear c6b0
          try clear c6b1
          try clear c7
          try clear c7b0
          try clear c7b1
          try clear c8
          try clear c11
          try clear c12
          try clear c12b0
          try clear c13
          try clear c13b0
          try clear c15
          try clear c18
          try clear hcz10_0
          try clear hcz16_0
          try clear hcz19_0
          try clear hcz19_1
          try clear hcz19_2
          try clear hcz19_3
          try clear hcz19_4
          try clear hcz8_0
          try clear hcz9_0
          try clear hfz10_0
          try clear hfz16_0
          try clear hfz19_0
          try clear hfz19_1
          try clear hfz19_2
          try clear hfz19_3
          try clear hfz19_4
          try clear hfz8_0
          try clear hfz9_0
          try clear hx268_0
          try clear hx268_1
          try clear hx268_2
          try clear hx268_3
          try clear hx268_4
          try clear hx269_0
          try clear hx269_1
          try clear hx269_2
          try clear hx269_3
          try clear hx269_4
          try clear hx270_0
          try clear hx270_1
          try clear hx270_2
          try clear hx270_3
          try clear hx270_4
          try clear p2
          try clear p268
          try clear p269
          try clear p270
          try clear q2
          try clear q268
          try clear q269
          try clear q270
          obtain ⟨x5_3, rfl, HA, HK3, BK266, BK271, HB⟩ := hrel
          cases gk with
          | zero => exact absurd HA.out (by simp [portolanref04_Check.l1])
          | succ k3 =>
           have H := HA.out
           clear HA
           simp only [portolanref04_Check.l1] at H
           by_cases c21 : x5_3 < (((rd_T30 l0_0 x3_2).f4).length : Int)
           ·rw [if_pos c21] at H
            have c21b0 : decide (x5_3 < (((rd_T30 l0_0 x3_2).f4).length : Int)) = true := decide_eq_true c21
            clear c21
            have H' := Aside0.mk H
            clear H
            have hnb22 := NB271_266.out
            have hnc22 := NB266_271.out
            have hcz23_0 : wr.cell? ⟨gb271, 0, none⟩ = some (.slice A270_0 ((rd_T30 l0_0 x3_2).f0).length c270_0) := (blk_cell BK271.out 0).trans rfl
            have hcz23_1 : wr.cell? ⟨gb271, 1, none⟩ = some (.slice A270_1 ((rd_T30 l0_0 x3_2).f1).length c270_1) := (blk_cell BK271.out 1).trans rfl
            have hcz23_2 : wr.cell? ⟨gb271, 2, none⟩ = some (.int .i64 ((rd_T30 l0_0 x3_2).f2)) := (blk_cell BK271.out 2).trans rfl
            have hcz23_3 : wr.cell? ⟨gb271, 3, none⟩ = some (.int .i64 ((rd_T30 l0_0 x3_2).f3)) := (blk_cell BK271.out 3).trans rfl
            have hcz23_4 : wr.cell? ⟨gb271, 4, none⟩ = some (.slice A270_4 ((rd_T30 l0_0 x3_2).f4).length c270_4) := (blk_cell BK271.out 4).trans rfl
            have hfz23_0 := blk_frozen BK271.out 0
            have hfz23_1 := blk_frozen BK271.out 1
            have hfz23_2 := blk_frozen BK271.out 2
            have hfz23_3 := blk_frozen BK271.out 3
            have hfz23_4 := blk_frozen BK271.out 4
            go_wp2
            go_loopg [6] k3 (fun kq v6 w' => ∃ (x6_4 : Int), v6 = .int .i64 x6_4 ∧ Aside0 (portolanref04_Check.l2 kq x3_2 x5_3 x6_4 l0_0 ((rd_T30 l0_0 x3_2).f0) ((rd_T30 l0_0 x3_2).f1) ((rd_T30 l0_0 x3_2).f2) ((rd_T30 l0_0 x3_2).f3) ((rd_T30 l0_0 x3_2).f4) = some r) ∧ Aside0 (kq ≤ k3) ∧ Aside0 (w'.heap[gb266]? = some (.cells #[(.slice (some ad270) l0_0.length c0_0)] 24 (0, 0))) ∧ Aside0 (w'.heap[gb271]? = some (.cells #[(.slice A270_0 ((rd_T30 l0_0 x3_2).f0).length c270_0), (.slice A270_1 ((rd_T30 l0_0 x3_2).f1).length c270_1), .int .i64 ((rd_T30 l0_0 x3_2).f2), .int .i64 ((rd_T30 l0_0 x3_2).f3), (.slice A270_4 ((rd_T30 l0_0 x3_2).f4).length c270_4)] 30 (0, 0))) ∧ Aside0 (Below w.heap.size w w'))
            case atStart => exact ⟨(0), (by first | rfl | (simp; done) | (simp [*]; done)), H', ⟨Nat.le_refl _⟩, ⟨by (with_reducible repeat (first | refine zq1 ?_ _ | refine zq2 ?_ | refine zq3 ?_ _)); exact BK266.out⟩, ⟨by (with_reducible repeat (first | refine zq1 ?_ _ | refine zq2 ?_ | refine zq3 ?_ _)); exact BK271.out⟩, ⟨by repeat (first | (with_reducible first | exact HB.out | apply zq5 | apply zq4 | apply zq6 | refine below_set ?_ GE266.out | refine below_set ?_ GE271.out) | exact HB.out)⟩⟩
            case round =>
             clear H'
             try clear c1
             try clear c2
             try clear p2
             try clear q2
             try clear hx2
             try clear qi2
             try clear c5
             try clear c6
             try clear c6b0
             try clear c6b1
             try clear c7
             try clear c7b0
             try clear c7b1
             try clear c8
             try clear c11
             try clear c12
             try clear c12b0
             try clear c13
             try clear c13b0
             try clear c15
             try clear c18
             try clear c21
             try clear c21b0
             try clear c22
             try clear hcz10_0
             try clear hcz16_0
             try clear hcz19_0
             try clear hcz19_1
             try clear hcz19_2
             try clear hcz19_3
             try clear hcz19_4
             try clear hcz23_0
             try clear hcz23_1
             try clear hcz23_2
             try clear hcz23_3
             try clear hcz23_4
             try clear hcz8_0
             try clear hcz9_0
             try clear hfz10_0
             try clear hfz16_0
             try clear hfz19_0
             try clear hfz19_1
             try clear hfz19_2
             try clear hfz19_3
             try clear hfz19_4
             try clear hfz23_0
             try clear hfz23_1
             try clear hfz23_2
             try clear hfz23_3
             try clear hfz23_4
             try clear hfz8_0
             try clear hfz9_0
             try clear hx268_0
             try clear hx268_1
             try clear hx268_2
             try clear hx268_3
             try clear hx268_4
             try clear hx269_0
             try clear hx269_1
             try clear hx269_2
             try clear hx269_3
             try clear hx269_4
             try clear hx270_0
             try clear hx270_1
             try clear hx270_2
             try clear hx270_3
             try clear hx270_4
             try clear p2
             try clear p268
             try clear p269
             try clear p270
             try clear q2
             try clear q268
             try clear q269
             try clear q270
             obtain ⟨x6_4, rfl, HA, HK4, BK266, BK271, HB⟩ := hrel
             cases gk with
             | zero => exact absurd HA.out (by simp [portolanref04_Check.l2])
             | succ k4 =>
              have H := HA.out
              clear HA
              simp only [portolanref04_Check.l2] at H
              by_cases c24 : 0 ≤ x5_3
              ·rw [if_pos c24] at H
               have c24b0 : decide (0 ≤ x5_3) = true := decide_eq_true c24
               clear c24
               by_cases c25 : x5_3 < (((rd_T30 l0_0 x3_2).f4).length : Int)
               ·rw [if_pos c25] at H
                have c25b0 : decide (x5_3 < (((rd_T30 l0_0 x3_2).f4).length : Int)) = true := decide_eq_true c25
                clear c25
                by_cases c26 : x6_4 < (((rd_T50 ((rd_T30 l0_0 x3_2).f4) x5_3).f0).length : Int)
                ·rw [if_pos c26] at H
                 have c26b0 : decide (x6_4 < (((rd_T50 ((rd_T30 l0_0 x3_2).f4) x5_3).f0).length : Int)) = true := decide_eq_true c26
                 clear c26
                 by_cases c27 : 0 ≤ x6_4
                 ·rw [if_pos c27] at H
                  have c27b0 : decide (0 ≤ x6_4) = true := decide_eq_true c27
                  clear c27
                  replace H := Option.bind_eq_some_iff.mp H
                  obtain ⟨t276, A280, H⟩ := H
                  replace H : (if t276 = true then (portolanref04_Check.l2 k4 x3_2 x5_3 (wrap64 (x6_4 + 1)) l0_0 ((rd_T30 l0_0 x3_2).f0) ((rd_T30 l0_0 x3_2).f1) ((rd_T30 l0_0 x3_2).f2) ((rd_T30 l0_0 x3_2).f3) ((rd_T30 l0_0 x3_2).f4)) else (some 5)) = some r := H
                  have A28 := Aside0.mk A280
                  clear A280
                  by_cases c29 : t276 = true
                  ·subst c29
                   have H1 : (portolanref04_Check.l2 k4 x3_2 x5_3 (wrap64 (x6_4 + 1)) l0_0 ((rd_T30 l0_0 x3_2).f0) ((rd_T30 l0_0 x3_2).f1) ((rd_T30 l0_0 x3_2).f2) ((rd_T30 l0_0 x3_2).f3) ((rd_T30 l0_0 x3_2).f4)) = some r := by first | (rw [if_pos rfl] at H; exact H) | rfl
                   clear H
                   have H := H1
                   clear H1
                   have H' := Aside0.mk H
                   clear H
                   have hnb30 := NB271_266.out
                   have hnc30 := NB266_271.out
                   have hcz31_0 : wr.cell? ⟨gb271, 0, none⟩ = some (.slice A270_0 ((rd_T30 l0_0 x3_2).f0).length c270_0) := (blk_cell BK271.out 0).trans rfl
                   have hcz31_1 : wr.cell? ⟨gb271, 1, none⟩ = some (.slice A270_1 ((rd_T30 l0_0 x3_2).f1).length c270_1) := (blk_cell BK271.out 1).trans rfl
                   have hcz31_2 : wr.cell? ⟨gb271, 2, none⟩ = some (.int .i64 ((rd_T30 l0_0 x3_2).f2)) := (blk_cell BK271.out 2).trans rfl
                   have hcz31_3 : wr.cell? ⟨gb271, 3, none⟩ = some (.int .i64 ((rd_T30 l0_0 x3_2).f3)) := (blk_cell BK271.out 3).trans rfl
                   have hcz31_4 : wr.cell? ⟨gb271, 4, none⟩ = some (.slice A270_4 ((rd_T30 l0_0 x3_2).f4).length c270_4) := (blk_cell BK271.out 4).trans rfl
                   have hfz31_0 := blk_frozen BK271.out 0
                   have hfz31_1 := blk_frozen BK271.out 1
                   have hfz31_2 := blk_frozen BK271.out 2
                   have hfz31_3 := blk_frozen BK271.out 3
                   have hfz31_4 := blk_frozen BK271.out 4
                   have p273 : 0 ≤ (x5_3 : Int) := of_decide_eq_true (by first | (with_reducible assumption) | assumption)
                   have q273 : x5_3 < (((rd_T30 l0_0 x3_2).f4).length : Int) := of_decide_eq_true (by first | (with_reducible assumption) | assumption)
                   obtain ⟨ad273, A273_0, c273_0, e273, hx273_0, hl273_0, hi273_0⟩ := at_T50 HR270_4.out x5_3 p273 q273
                   cases e273
                   replace hx273_0 := (HB.out.cell (World.block_lt_of_cell? w _ hx273_0)).trans hx273_0
                   have HR273_0 := Aside0.mk hi273_0
                   have HC273_0 := Aside0.mk hl273_0
                   clear hi273_0 hl273_0
                   replace p273 := eq_true p273
                   replace q273 := eq_true q273
                   try go_wp2
                   have n0_ := Aside0.mk (blk_drew BK266.out)
                   have n1_ := Aside0.mk (blk_drew BK271.out)
                   have n2_ := Aside0.mk (below_drew1 HB.out)
                   clear BK266
                   clear BK271
                   clear HB
                   have BK266 := n0_
                   have BK271 := n1_
                   have HB := n2_
                   clear n0_ n1_ n2_
                   have p274 : 0 ≤ (x5_3 : Int) := of_decide_eq_true (by first | (with_reducible assumption) | assumption)
                   have q274 : x5_3 < (((rd_T30 l0_0 x3_2).f4).length : Int) := of_decide_eq_true (by first | (with_reducible assumption) | assumption)
                   obtain ⟨ad274, A274_0, c274_0, e274, hx274_0, hl274_0, hi274_0⟩ := at_T50 HR270_4.out x5_3 p274 q274
                   have hw274_0 := hx274_0
                   obtain rfl : ad273 = ad274 := (by injection e274)
                   replace hx274_0 := (HB.out.cell (World.block_lt_of_cell? w _ hx274_0)).trans hx274_0
                   have HR274_0 := Aside0.mk hi274_0
                   have HC274_0 := Aside0.mk hl274_0
                   clear hi274_0 hl274_0
                   replace p274 := eq_true p274
                   replace q274 := eq_true q274
                   have p275 : 0 ≤ (x6_4 : Int) := of_decide_eq_true (by first | (with_reducible assumption) | assumption)
                   have q275 : x6_4 < (((rd_T50 ((rd_T30 l0_0 x3_2).f4) x5_3).f0).length : Int) := of_decide_eq_true (by first | (with_reducible assumption) | assumption)
                   obtain ⟨ad275, A275_6, c275_6, e275, hx275_0, hx275_1, hx275_2, hx275_3, hx275_4, hx275_5, hx275_6, hl275_6, hi275_6⟩ := at_T52 HR274_0.out x6_4 p275 q275
                   have hw275_6 := hx275_6
                   have hw275_5 := hx275_5
                   have hw275_4 := hx275_4
                   have hw275_3 := hx275_3
                   have hw275_2 := hx275_2
                   have hw275_1 := hx275_1
                   have hw275_0 := hx275_0
                   cases e275
                   replace hx275_0 := (HB.out.cell (World.block_lt_of_cell? w _ hx275_0)).trans hx275_0
                   replace hx275_1 := (HB.out.cell (World.block_lt_of_cell? w _ hx275_1)).trans hx275_1
                   replace hx275_2 := (HB.out.cell (World.block_lt_of_cell? w _ hx275_2)).trans hx275_2
                   replace hx275_3 := (HB.out.cell (World.block_lt_of_cell? w _ hx275_3)).trans hx275_3
                   replace hx275_4 := (HB.out.cell (World.block_lt_of_cell? w _ hx275_4)).trans hx275_4
                   replace hx275_5 := (HB.out.cell (World.block_lt_of_cell? w _ hx275_5)).trans hx275_5
                   replace hx275_6 := (HB.out.cell (World.block_lt_of_cell? w _ hx275_6)).trans hx275_6
                   have HR275_6 := Aside0.mk hi275_6
                   have HC275_6 := Aside0.mk hl275_6
                   clear hi275_6 hl275_6
                   replace p275 := eq_true p275
                   replace q275 := eq_true q275
                   refine start_ (n := 13) (S := fun w' => w'.cell? ⟨gb266, 0, none⟩ = some (.slice (some ad270) l0_0.length c0_0) ∧ w'.cell? ⟨gb271, 0, none⟩ = some (.slice A270_0 ((rd_T30 l0_0 x3_2).f0).length c270_0) ∧ w'.cell? ⟨gb271, 1, none⟩ = some (.slice A270_1 ((rd_T30 l0_0 x3_2).f1).length c270_1) ∧ w'.cell? ⟨gb271, 2, none⟩ = some (.int .i64 ((rd_T30 l0_0 x3_2).f2)) ∧ w'.cell? ⟨gb271, 3, none⟩ = some (.int .i64 ((rd_T30 l0_0 x3_2).f3)) ∧ w'.cell? ⟨gb271, 4, none⟩ = some (.slice (some ad273) ((rd_T30 l0_0 x3_2).f4).length c270_4) ∧ w'.cell? (ad273.add (x5_3).toNat) = some (.slice (some ad275) ((rd_T50 ((rd_T30 l0_0 x3_2).f4) x5_3).f0).length c274_0) ∧ w'.cell? (ad275.add ((x6_4).toNat * 7)) = some (.int .i64 ((rd_T52 ((rd_T50 ((rd_T30 l0_0 x3_2).f4) x5_3).f0) x6_4).f0)) ∧ w'.cell? ⟨(ad275.add ((x6_4).toNat * 7)).block, (ad275.add ((x6_4).toNat * 7)).off + 1, none⟩ = some (.int .i64 ((rd_T52 ((rd_T50 ((rd_T30 l0_0 x3_2).f4) x5_3).f0) x6_4).f1)) ∧ w'.cell? ⟨(ad275.add ((x6_4).toNat * 7)).block, (ad275.add ((x6_4).toNat * 7)).off + 2, none⟩ = some (.int .i64 ((rd_T52 ((rd_T50 ((rd_T30 l0_0 x3_2).f4) x5_3).f0) x6_4).f2)) ∧ w'.cell? ⟨(ad275.add ((x6_4).toNat * 7)).block, (ad275.add ((x6_4).toNat * 7)).off + 3, none⟩ = some (.int .i64 ((rd_T52 ((rd_T50 ((rd_T30 l0_0 x3_2).f4) x5_3).f0) x6_4).f3)) ∧ w'.cell? ⟨(ad275.add ((x6_4).toNat * 7)).block, (ad275.add ((x6_4).toNat * 7)).off + 4, none⟩ = some (.int .i64 ((rd_T52 ((rd_T50 ((rd_T30 l0_0 x3_2).f4) x5_3).f0) x6_4).f4)) ∧ w'.cell? ⟨(ad275.add ((x6_4).toNat * 7)).block, (ad275.add ((x6_4).toNat * 7)).off + 5, none⟩ = some (.int .i64 ((rd_T52 ((rd_T50 ((rd_T30 l0_0 x3_2).f4) x5_3).f0) x6_4).f5)) ∧ w'.cell? ⟨(ad275.add ((x6_4).toNat * 7)).block, (ad275.add ((x6_4).toNat * 7)).off + 6, none⟩ = some (.slice A275_6 ((rd_T52 ((rd_T50 ((rd_T30 l0_0 x3_2).f4) x5_3).f0) x6_4).f6).length c275_6)) (ds := []) #[false, false, false, false, false, false, false, false, false, false, false, false, false] (by kernel_rfl) rfl rfl ⟨(blk_cell BK266.out 0).trans rfl, (blk_cell BK271.out 0).trans rfl, (blk_cell BK271.out 1).trans rfl, (blk_cell BK271.out 2).trans rfl, (blk_cell BK271.out 3).trans rfl, (blk_cell BK271.out 4).trans rfl, ((HB.out.cell (World.block_lt_of_cell? w _ hw274_0)).trans hw274_0), ((HB.out.cell (World.block_lt_of_cell? w _ hw275_0)).trans hw275_0), ((HB.out.cell (World.block_lt_of_cell? w _ hw275_1)).trans hw275_1), ((HB.out.cell (World.block_lt_of_cell? w _ hw275_2)).trans hw275_2), ((HB.out.cell (World.block_lt_of_cell? w _ hw275_3)).trans hw275_3), ((HB.out.cell (World.block_lt_of_cell? w _ hw275_4)).trans hw275_4), ((HB.out.cell (World.block_lt_of_cell? w _ hw275_5)).trans hw275_5), ((HB.out.cell (World.block_lt_of_cell? w _ hw275_6)).trans hw275_6)⟩ (fun hHeld => ?_); refine with_tabW portolanref04_Check.tab15 portolanref04_Check.bits15 (fun HT_ HW_ => ?_)
                   generalize wr.drew = w32 at BK266 BK271 HB HR274_0 HR275_6 hx274_0 hx275_0 hx275_1 hx275_2 hx275_3 hx275_4 hx275_5 hx275_6 hHeld ⊢
                   refine pure_ (i := 1) (N := some 62) (v := ?_) (a' := ?_) #[false, true, false, false, false, false, false, false, false, false, false, false, false] rfl rfl (any_of HT_.out (by kernel_rfl)) (fun _ _ _ h => h) (Or.inl ⟨by rfl, ?_⟩) ?_ ?_
                   rotate_left
                   ·intro w'
                    go_simp
                    with_reducible rfl
                   rotate_left
                   ·simp only [Act.put, List.setIfInBounds_toArray, List.set_cons_zero, List.set_cons_succ, i64_w, i32_w]
                    rfl
                   refine pure_ (i := 2) (N := some 63) (v := ?_) (a' := ?_) #[false, true, true, false, false, false, false, false, false, false, false, false, false] rfl rfl (any_of HT_.out (by kernel_rfl)) (fun _ _ _ h => h) (Or.inl ⟨by rfl, ?_⟩) ?_ ?_
                   rotate_left
                   ·intro w'
                    go_simp
                    with_reducible rfl
                   rotate_left
                   ·simp only [Act.put, List.setIfInBounds_toArray, List.set_cons_zero, List.set_cons_succ, i64_w, i32_w]
                    rfl
                   refine pure_ (i := 4) (N := some 65) (v := ?_) (a' := ?_) #[false, true, true, false, true, false, false, false, false, false, false, false, false] rfl rfl (any_of HT_.out (by kernel_rfl)) (fun _ _ _ h => h) (Or.inl ⟨by rfl, ?_⟩) ?_ ?_
                   rotate_left
                   ·intro w'
                    go_simp
                    with_reducible rfl
                   rotate_left
                   ·simp only [Act.put, List.setIfInBounds_toArray, List.set_cons_zero, List.set_cons_succ, i64_w, i32_w]
                    rfl
                   refine pure_ (i := 8) (N := some 69) (v := ?_) (a' := ?_) #[false, true, true, false, true, false, false, false, true, false, false, false, false] rfl rfl (any_of HT_.out (by kernel_rfl)) (fun _ _ _ h => h) (Or.inl ⟨by rfl, ?_⟩) ?_ ?_
                   rotate_left
                   ·intro w'
                    go_simp
                    with_reducible rfl
                   rotate_left
                   ·simp only [Act.put, List.setIfInBounds_toArray, List.set_cons_zero, List.set_cons_succ, i64_w, i32_w]
                    rfl
                   refine take_ (i := 0) (N := some 61) (v := ?_) (a' := ?_) #[true, true, true, false, true, false, false, false, true, false, false, false, false] rfl rfl (take_ofW HT_.out HW_.out (by kernel_rfl)) (fun _ _ _ h => h) (Or.inl ⟨by rfl, ?_⟩) hHeld ?_ ?_
                   rotate_left
                   ·rintro w' ⟨s0, s1, s2, s3, s4, s5, s6, s7, s8, s9, s10, s11, s12, s13⟩
                    go_simp
                    with_reducible rfl
                   rotate_left
                   ·simp only [Act.put, List.setIfInBounds_toArray, List.set_cons_zero, List.set_cons_succ, i64_w, i32_w]
                    rfl
                   refine take_ (i := 3) (N := some 64) (v := ?_) (a' := ?_) #[true, true, true, true, true, false, false, false, true, false, false, false, false] rfl rfl (take_ofW HT_.out HW_.out (by kernel_rfl)) (fun _ _ _ h => h) (Or.inl ⟨by rfl, ?_⟩) hHeld ?_ ?_
                   rotate_left
                   ·rintro w' ⟨s0, s1, s2, s3, s4, s5, s6, s7, s8, s9, s10, s11, s12, s13⟩
                    go_simp
                    with_reducible rfl
                   rotate_left
                   ·simp only [Act.put, List.setIfInBounds_toArray, List.set_cons_zero, List.set_cons_succ, i64_w, i32_w]
                    rfl
                   refine pure_ (i := 5) (N := some 66) (v := ?_) (a' := ?_) #[true, true, true, true, true, true, false, false, true, false, false, false, false] rfl rfl (any_of HT_.out (by kernel_rfl)) (fun _ _ _ h => h) (Or.inl ⟨by rfl, ?_⟩) ?_ ?_
                   rotate_left
                   ·intro w'
                    go_simp
                    with_reducible rfl
                   rotate_left
                   ·simp only [Act.put, List.setIfInBounds_toArray, List.set_cons_zero, List.set_cons_succ, i64_w, i32_w]
                    rfl
                   refine pure_ (i := 6) (N := some 67) (v := ?_) (a' := ?_) #[true, true, true, true, true, true, true, false, true, false, false, false, false] rfl rfl (any_of HT_.out (by kernel_rfl)) (fun _ _ _ h => h) (Or.inl ⟨by rfl, ?_⟩) ?_ ?_
                   rotate_left
                   ·intro w'
                    go_simp
                    with_reducible rfl
                   rotate_left
                   ·simp only [Act.put, List.setIfInBounds_toArray, List.set_cons_zero, List.set_cons_succ, i64_w, i32_w]
                    rfl
                   refine take_ (i := 7) (N := some 68) (v := ?_) (a' := ?_) #[true, true, true, true, true, true, true, true, true, false, false, false, false] rfl rfl (take_ofW HT_.out HW_.out (by kernel_rfl)) (fun _ _ _ h => h) (Or.inl ⟨by rfl, ?_⟩) hHeld ?_ ?_
                   rotate_left
                   ·rintro w' ⟨s0, s1, s2, s3, s4, s5, s6, s7, s8, s9, s10, s11, s12, s13⟩
                    go_simp
                    with_reducible rfl
                   rotate_left
                   ·simp only [Act.put, List.setIfInBounds_toArray, List.set_cons_zero, List.set_cons_succ, i64_w, i32_w]
                    rfl
                   refine pure_ (i := 9) (N := some 70) (v := ?_) (a' := ?_) #[true, true, true, true, true, true, true, true, true, true, false, false, false] rfl rfl (any_of HT_.out (by kernel_rfl)) (fun _ _ _ h => h) (Or.inl ⟨by rfl, ?_⟩) ?_ ?_
                   rotate_left
                   ·intro w'
                    go_simp
                    with_reducible rfl
                   rotate_left
                   ·simp only [Act.put, List.setIfInBounds_toArray, List.set_cons_zero, List.set_cons_succ, i64_w, i32_w]
                    rfl
                   refine take_ (i := 10) (N := some 71) (v := ?_) (a' := ?_) #[true, true, true, true, true, true, true, true, true, true, true, false, false] rfl rfl (take_ofW HT_.out HW_.out (by kernel_rfl)) (fun _ _ _ h => h) (Or.inl ⟨by rfl, ?_⟩) hHeld ?_ ?_
                   rotate_left
                   ·rintro w' ⟨s0, s1, s2, s3, s4, s5, s6, s7, s8, s9, s10, s11, s12, s13⟩
                    go_simp
                    with_reducible rfl
                   rotate_left
                   ·simp only [Act.put, List.setIfInBounds_toArray, List.set_cons_zero, List.set_cons_succ, i64_w, i32_w]
                    rfl
                   refine one_ (i := 11) (N := some 72) #[true, true, true, true, true, true, true, true, true, true, true, true, false] rfl rfl (one_of HT_.out (by kernel_rfl)) (by decide) (fun K hK => ?_)
                   refine goes_ Try.func88 (by kernel_rfl) rfl #[.agg #[.slice (some ad270) l0_0.length c0_0], .int .i64 x3_2, .agg #[.int .i64 ((rd_T52 ((rd_T50 ((rd_T30 l0_0 x3_2).f4) x5_3).f0) x6_4).f0), .int .i64 ((rd_T52 ((rd_T50 ((rd_T30 l0_0 x3_2).f4) x5_3).f0) x6_4).f1), .int .i64 ((rd_T52 ((rd_T50 ((rd_T30 l0_0 x3_2).f4) x5_3).f0) x6_4).f2), .int .i64 ((rd_T52 ((rd_T50 ((rd_T30 l0_0 x3_2).f4) x5_3).f0) x6_4).f3), .int .i64 ((rd_T52 ((rd_T50 ((rd_T30 l0_0 x3_2).f4) x5_3).f0) x6_4).f4), .int .i64 ((rd_T52 ((rd_T50 ((rd_T30 l0_0 x3_2).f4) x5_3).f0) x6_4).f5), .slice A275_6 ((rd_T52 ((rd_T50 ((rd_T30 l0_0 x3_2).f4) x5_3).f0) x6_4).f6).length c275_6]] (by rfl) rfl rfl (by (try simp only [List.map_toArray, List.map_cons, List.map_nil]); first | done | rfl | (simp only [List.length_drop, List.length_take]; rfl)) ?_
                   with_reducible refine (portolanref04_Ins.calls k4 _ _ l0_0 x3_2 ((rd_T52 ((rd_T50 ((rd_T30 l0_0 x3_2).f4) x5_3).f0) x6_4).f0) ((rd_T52 ((rd_T50 ((rd_T30 l0_0 x3_2).f4) x5_3).f0) x6_4).f1) ((rd_T52 ((rd_T50 ((rd_T30 l0_0 x3_2).f4) x5_3).f0) x6_4).f2) ((rd_T52 ((rd_T50 ((rd_T30 l0_0 x3_2).f4) x5_3).f0) x6_4).f3) ((rd_T52 ((rd_T50 ((rd_T30 l0_0 x3_2).f4) x5_3).f0) x6_4).f4) ((rd_T52 ((rd_T50 ((rd_T30 l0_0 x3_2).f4) x5_3).f0) x6_4).f5) _ _ ((rd_T52 ((rd_T50 ((rd_T30 l0_0 x3_2).f4) x5_3).f0) x6_4).f6) true _ ?side1 ?side2 ?side3 ?side4 A28.out).mono ?_
                   (case side1 => repeat (first | exact (Kd.C_below HR0_0.out HB.out) | (with_reducible refine Kd.C_alloc ?_ _) | (with_reducible refine Kd.C_drewN ?_ _) | (with_reducible refine Kd.C_drew ?_)))
                   (case side2 => exact HC0_0.out)
                   (case side3 => repeat (first | exact (Kd.C_below HR275_6.out HB.out) | (with_reducible refine Kd.C_alloc ?_ _) | (with_reducible refine Kd.C_drewN ?_ _) | (with_reducible refine Kd.C_drew ?_)))
                   (case side4 => exact HC275_6.out)
                   rintro e w33 ⟨rfl, hb⟩
                   refine ⟨_, rfl, ?_⟩
                   have n0_ := Aside0.mk (blk_below (g := gb266) (o := .cells #[.slice (some ad270) l0_0.length c0_0] 24 (0, 0)) (by (with_reducible repeat (first | refine zq1 ?_ _ | refine zq2 ?_ | refine zq3 ?_ _)); exact BK266.out) hb)
                   have n1_ := Aside0.mk (blk_below (g := gb271) (o := .cells #[.slice A270_0 ((rd_T30 l0_0 x3_2).f0).length c270_0, .slice A270_1 ((rd_T30 l0_0 x3_2).f1).length c270_1, .int .i64 ((rd_T30 l0_0 x3_2).f2), .int .i64 ((rd_T30 l0_0 x3_2).f3), .slice (some ad273) ((rd_T30 l0_0 x3_2).f4).length c270_4] 30 (0, 0)) (by (with_reducible repeat (first | refine zq1 ?_ _ | refine zq2 ?_ | refine zq3 ?_ _)); exact BK271.out) hb)
                   have n2_ := Aside0.mk (below_step (by repeat (first | (with_reducible first | exact HB.out | apply zq5 | apply zq4 | apply zq6 | refine below_set ?_ GE266.out | refine below_set ?_ GE271.out) | exact HB.out)) hb)
                   clear BK266
                   clear BK271
                   clear HB
                   have BK266 := n0_
                   have BK271 := n1_
                   have HB := n2_
                   clear n0_ n1_ n2_
                   (try clear hb)
                   (try clear hb2)
                   (try clear hk)
                   (try clear hi)
                   refine hK.out _ _ ⟨(blk_cell BK266.out 0).trans rfl, (blk_cell BK271.out 0).trans rfl, (blk_cell BK271.out 1).trans rfl, (blk_cell BK271.out 2).trans rfl, (blk_cell BK271.out 3).trans rfl, (blk_cell BK271.out 4).trans rfl, ((HB.out.cell (World.block_lt_of_cell? w _ hw274_0)).trans hw274_0), ((HB.out.cell (World.block_lt_of_cell? w _ hw275_0)).trans hw275_0), ((HB.out.cell (World.block_lt_of_cell? w _ hw275_1)).trans hw275_1), ((HB.out.cell (World.block_lt_of_cell? w _ hw275_2)).trans hw275_2), ((HB.out.cell (World.block_lt_of_cell? w _ hw275_3)).trans hw275_3), ((HB.out.cell (World.block_lt_of_cell? w _ hw275_4)).trans hw275_4), ((HB.out.cell (World.block_lt_of_cell? w _ hw275_5)).trans hw275_5), ((HB.out.cell (World.block_lt_of_cell? w _ hw275_6)).trans hw275_6)⟩ (fun hHeld => ?_)
                   clear hK K
                   refine norm_ (a' := ?_) ?_ ?_
                   rotate_left
                   ·show Act.put _ (some 72) _ = _
                    simp only [Act.put, List.setIfInBounds_toArray, List.set_cons_zero, List.set_cons_succ, i64_w, i32_w]
                    rfl
                   refine pure_ (i := 12) (N := some 73) (v := ?_) (a' := ?_) #[true, true, true, true, true, true, true, true, true, true, true, true, true] rfl rfl (any_of HT_.out (by kernel_rfl)) (fun _ _ _ h => h) (Or.inl ⟨by rfl, ?_⟩) ?_ ?_
                   rotate_left
                   ·intro w'
                    go_simp
                    with_reducible rfl
                   rotate_left
                   ·simp only [Act.put, List.setIfInBounds_toArray, List.set_cons_zero, List.set_cons_succ, i64_w, i32_w]
                    rfl
                   refine done_ (done_of HT_.out (by kernel_rfl)) ?_
                   try go_wp2
                   go_roundg k4
                   case measure => have := HJ1.out; have := HK2.out; have := HK3.out; have := HK4.out; omega
                   case rel => exact ⟨(wrap64 (x6_4 + 1)), (by first | rfl | (simp; done) | (simp [*]; done)), H', ⟨by have := HJ1.out; have := HK2.out; have := HK3.out; have := HK4.out; omega⟩, ⟨by (with_reducible repeat (first | refine zq1 ?_ _ | refine zq2 ?_ | refine zq3 ?_ _)); exact BK266.out⟩, ⟨by (with_reducible repeat (first | refine zq1 ?_ _ | refine zq2 ?_ | refine zq3 ?_ _)); exact BK271.out⟩, ⟨by repeat (first | (with_reducible first | exact HB.out | apply zq5 | apply zq4 | apply zq6 | refine below_set ?_ GE266.out | refine below_set ?_ GE271.out) | exact HB.out)⟩⟩
                  ·replace c29 := Bool.eq_false_iff.mpr c29
                   subst c29
                   have H1 : (some 5) = some r := by first | (rw [if_neg (show ¬ (false = true) by decide)] at H; exact H) | rfl
                   clear H
                   have H := H1
                   clear H1
                   obtain rfl := Option.some.inj H
                   have hnb34 := NB271_266.out
                   have hnc34 := NB266_271.out
                   have hcz35_0 : wr.cell? ⟨gb271, 0, none⟩ = some (.slice A270_0 ((rd_T30 l0_0 x3_2).f0).length c270_0) := (blk_cell BK271.out 0).trans rfl
                   have hcz35_1 : wr.cell? ⟨gb271, 1, none⟩ = some (.slice A270_1 ((rd_T30 l0_0 x3_2).f1).length c270_1) := (blk_cell BK271.out 1).trans rfl
                   have hcz35_2 : wr.cell? ⟨gb271, 2, none⟩ = some (.int .i64 ((rd_T30 l0_0 x3_2).f2)) := (blk_cell BK271.out 2).trans rfl
                   have hcz35_3 : wr.cell? ⟨gb271, 3, none⟩ = some (.int .i64 ((rd_T30 l0_0 x3_2).f3)) := (blk_cell BK271.out 3).trans rfl
                   have hcz35_4 : wr.cell? ⟨gb271, 4, none⟩ = some (.slice A270_4 ((rd_T30 l0_0 x3_2).f4).length c270_4) := (blk_cell BK271.out 4).trans rfl
                   have hfz35_0 := blk_frozen BK271.out 0
                   have hfz35_1 := blk_frozen BK271.out 1
                   have hfz35_2 := blk_frozen BK271.out 2
                   have hfz35_3 := blk_frozen BK271.out 3
                   have hfz35_4 := blk_frozen BK271.out 4
                   have p273 : 0 ≤ (x5_3 : Int) := of_decide_eq_true (by first | (with_reducible assumption) | assumption)
                   have q273 : x5_3 < (((rd_T30 l0_0 x3_2).f4).length : Int) := of_decide_eq_true (by first | (with_reducible assumption) | assumption)
                   obtain ⟨ad273, A273_0, c273_0, e273, hx273_0, hl273_0, hi273_0⟩ := at_T50 HR270_4.out x5_3 p273 q273
                   cases e273
                   replace hx273_0 := (HB.out.cell (World.block_lt_of_cell? w _ hx273_0)).trans hx273_0
                   have HR273_0 := Aside0.mk hi273_0
                   have HC273_0 := Aside0.mk hl273_0
                   clear hi273_0 hl273_0
                   replace p273 := eq_true p273
                   replace q273 := eq_true q273
                   try go_wp2
                   have n0_ := Aside0.mk (blk_drew BK266.out)
                   have n1_ := Aside0.mk (blk_drew BK271.out)
                   have n2_ := Aside0.mk (below_drew1 HB.out)
                   clear BK266
                   clear BK271
                   clear HB
                   have BK266 := n0_
                   have BK271 := n1_
                   have HB := n2_
                   clear n0_ n1_ n2_
                   have p274 : 0 ≤ (x5_3 : Int) := of_decide_eq_true (by first | (with_reducible assumption) | assumption)
                   have q274 : x5_3 < (((rd_T30 l0_0 x3_2).f4).length : Int) := of_decide_eq_true (by first | (with_reducible assumption) | assumption)
                   obtain ⟨ad274, A274_0, c274_0, e274, hx274_0, hl274_0, hi274_0⟩ := at_T50 HR270_4.out x5_3 p274 q274
                   have hw274_0 := hx274_0
                   obtain rfl : ad273 = ad274 := (by injection e274)
                   replace hx274_0 := (HB.out.cell (World.block_lt_of_cell? w _ hx274_0)).trans hx274_0
                   have HR274_0 := Aside0.mk hi274_0
                   have HC274_0 := Aside0.mk hl274_0
                   clear hi274_0 hl274_0
                   replace p274 := eq_true p274
                   replace q274 := eq_true q274
                   have p275 : 0 ≤ (x6_4 : Int) := of_decide_eq_true (by first | (with_reducible assumption) | assumption)
                   have q275 : x6_4 < (((rd_T50 ((rd_T30 l0_0 x3_2).f4) x5_3).f0).length : Int) := of_decide_eq_true (by first | (with_reducible assumption) | assumption)
                   obtain ⟨ad275, A275_6, c275_6, e275, hx275_0, hx275_1, hx275_2, hx275_3, hx275_4, hx275_5, hx275_6, hl275_6, hi275_6⟩ := at_T52 HR274_0.out x6_4 p275 q275
                   have hw275_6 := hx275_6
                   have hw275_5 := hx275_5
                   have hw275_4 := hx275_4
                   have hw275_3 := hx275_3
                   have hw275_2 := hx275_2
                   have hw275_1 := hx275_1
                   have hw275_0 := hx275_0
                   cases e275
                   replace hx275_0 := (HB.out.cell (World.block_lt_of_cell? w _ hx275_0)).trans hx275_0
                   replace hx275_1 := (HB.out.cell (World.block_lt_of_cell? w _ hx275_1)).trans hx275_1
                   replace hx275_2 := (HB.out.cell (World.block_lt_of_cell? w _ hx275_2)).trans hx275_2
                   replace hx275_3 := (HB.out.cell (World.block_lt_of_cell? w _ hx275_3)).trans hx275_3
                   replace hx275_4 := (HB.out.cell (World.block_lt_of_cell? w _ hx275_4)).trans hx275_4
                   replace hx275_5 := (HB.out.cell (World.block_lt_of_cell? w _ hx275_5)).trans hx275_5
                   replace hx275_6 := (HB.out.cell (World.block_lt_of_cell? w _ hx275_6)).trans hx275_6
                   have HR275_6 := Aside0.mk hi275_6
                   have HC275_6 := Aside0.mk hl275_6
                   clear hi275_6 hl275_6
                   replace p275 := eq_true p275
                   replace q275 := eq_true q275
                   refine start_ (n := 13) (S := fun w' => w'.cell? ⟨gb266, 0, none⟩ = some (.slice (some ad270) l0_0.length c0_0) ∧ w'.cell? ⟨gb271, 0, none⟩ = some (.slice A270_0 ((rd_T30 l0_0 x3_2).f0).length c270_0) ∧ w'.cell? ⟨gb271, 1, none⟩ = some (.slice A270_1 ((rd_T30 l0_0 x3_2).f1).length c270_1) ∧ w'.cell? ⟨gb271, 2, none⟩ = some (.int .i64 ((rd_T30 l0_0 x3_2).f2)) ∧ w'.cell? ⟨gb271, 3, none⟩ = some (.int .i64 ((rd_T30 l0_0 x3_2).f3)) ∧ w'.cell? ⟨gb271, 4, none⟩ = some (.slice (some ad273) ((rd_T30 l0_0 x3_2).f4).length c270_4) ∧ w'.cell? (ad273.add (x5_3).toNat) = some (.slice (some ad275) ((rd_T50 ((rd_T30 l0_0 x3_2).f4) x5_3).f0).length c274_0) ∧ w'.cell? (ad275.add ((x6_4).toNat * 7)) = some (.int .i64 ((rd_T52 ((rd_T50 ((rd_T30 l0_0 x3_2).f4) x5_3).f0) x6_4).f0)) ∧ w'.cell? ⟨(ad275.add ((x6_4).toNat * 7)).block, (ad275.add ((x6_4).toNat * 7)).off + 1, none⟩ = some (.int .i64 ((rd_T52 ((rd_T50 ((rd_T30 l0_0 x3_2).f4) x5_3).f0) x6_4).f1)) ∧ w'.cell? ⟨(ad275.add ((x6_4).toNat * 7)).block, (ad275.add ((x6_4).toNat * 7)).off + 2, none⟩ = some (.int .i64 ((rd_T52 ((rd_T50 ((rd_T30 l0_0 x3_2).f4) x5_3).f0) x6_4).f2)) ∧ w'.cell? ⟨(ad275.add ((x6_4).toNat * 7)).block, (ad275.add ((x6_4).toNat * 7)).off + 3, none⟩ = some (.int .i64 ((rd_T52 ((rd_T50 ((rd_T30 l0_0 x3_2).f4) x5_3).f0) x6_4).f3)) ∧ w'.cell? ⟨(ad275.add ((x6_4).toNat * 7)).block, (ad275.add ((x6_4).toNat * 7)).off + 4, none⟩ = some (.int .i64 ((rd_T52 ((rd_T50 ((rd_T30 l0_0 x3_2).f4) x5_3).f0) x6_4).f4)) ∧ w'.cell? ⟨(ad275.add ((x6_4).toNat * 7)).block, (ad275.add ((x6_4).toNat * 7)).off + 5, none⟩ = some (.int .i64 ((rd_T52 ((rd_T50 ((rd_T30 l0_0 x3_2).f4) x5_3).f0) x6_4).f5)) ∧ w'.cell? ⟨(ad275.add ((x6_4).toNat * 7)).block, (ad275.add ((x6_4).toNat * 7)).off + 6, none⟩ = some (.slice A275_6 ((rd_T52 ((rd_T50 ((rd_T30 l0_0 x3_2).f4) x5_3).f0) x6_4).f6).length c275_6)) (ds := []) #[false, false, false, false, false, false, false, false, false, false, false, false, false] (by kernel_rfl) rfl rfl ⟨(blk_cell BK266.out 0).trans rfl, (blk_cell BK271.out 0).trans rfl, (blk_cell BK271.out 1).trans rfl, (blk_cell BK271.out 2).trans rfl, (blk_cell BK271.out 3).trans rfl, (blk_cell BK271.out 4).trans rfl, ((HB.out.cell (World.block_lt_of_cell? w _ hw274_0)).trans hw274_0), ((HB.out.cell (World.block_lt_of_cell? w _ hw275_0)).trans hw275_0), ((HB.out.cell (World.block_lt_of_cell? w _ hw275_1)).trans hw275_1), ((HB.out.cell (World.block_lt_of_cell? w _ hw275_2)).trans hw275_2), ((HB.out.cell (World.block_lt_of_cell? w _ hw275_3)).trans hw275_3), ((HB.out.cell (World.block_lt_of_cell? w _ hw275_4)).trans hw275_4), ((HB.out.cell (World.block_lt_of_cell? w _ hw275_5)).trans hw275_5), ((HB.out.cell (World.block_lt_of_cell? w _ hw275_6)).trans hw275_6)⟩ (fun hHeld => ?_); refine with_tabW portolanref04_Check.tab15 portolanref04_Check.bits15 (fun HT_ HW_ => ?_)
                   generalize wr.drew = w36 at BK266 BK271 HB HR274_0 HR275_6 hx274_0 hx275_0 hx275_1 hx275_2 hx275_3 hx275_4 hx275_5 hx275_6 hHeld ⊢
                   refine pure_ (i := 1) (N := some 62) (v := ?_) (a' := ?_) #[false, true, false, false, false, false, false, false, false, false, false, false, false] rfl rfl (any_of HT_.out (by kernel_rfl)) (fun _ _ _ h => h) (Or.inl ⟨by rfl, ?_⟩) ?_ ?_
                   rotate_left
                   ·intro w'
                    go_simp
                    with_reducible rfl
                   rotate_left
                   ·simp only [Act.put, List.setIfInBounds_toArray, List.set_cons_zero, List.set_cons_succ, i64_w, i32_w]
                    rfl
                   refine pure_ (i := 2) (N := some 63) (v := ?_) (a' := ?_) #[false, true, true, false, false, false, false, false, false, false, false, false, false] rfl rfl (any_of HT_.out (by kernel_rfl)) (fun _ _ _ h => h) (Or.inl ⟨by rfl, ?_⟩) ?_ ?_
                   rotate_left
                   ·intro w'
                    go_simp
                    with_reducible rfl
                   rotate_left
                   ·simp only [Act.put, List.setIfInBounds_toArray, List.set_cons_zero, List.set_cons_succ, i64_w, i32_w]
                    rfl
                   refine pure_ (i := 4) (N := some 65) (v := ?_) (a' := ?_) #[false, true, true, false, true, false, false, false, false, false, false, false, false] rfl rfl (any_of HT_.out (by kernel_rfl)) (fun _ _ _ h => h) (Or.inl ⟨by rfl, ?_⟩) ?_ ?_
                   rotate_left
                   ·intro w'
                    go_simp
                    with_reducible rfl
                   rotate_left
                   ·simp only [Act.put, List.setIfInBounds_toArray, List.set_cons_zero, List.set_cons_succ, i64_w, i32_w]
                    rfl
                   refine pure_ (i := 8) (N := some 69) (v := ?_) (a' := ?_) #[false, true, true, false, true, false, false, false, true, false, false, false, false] rfl rfl (any_of HT_.out (by kernel_rfl)) (fun _ _ _ h => h) (Or.inl ⟨by rfl, ?_⟩) ?_ ?_
                   rotate_left
                   ·intro w'
                    go_simp
                    with_reducible rfl
                   rotate_left
                   ·simp only [Act.put, List.setIfInBounds_toArray, List.set_cons_zero, List.set_cons_succ, i64_w, i32_w]
                    rfl
                   refine take_ (i := 0) (N := some 61) (v := ?_) (a' := ?_) #[true, true, true, false, true, false, false, false, true, false, false, false, false] rfl rfl (take_ofW HT_.out HW_.out (by kernel_rfl)) (fun _ _ _ h => h) (Or.inl ⟨by rfl, ?_⟩) hHeld ?_ ?_
                   rotate_left
                   ·rintro w' ⟨s0, s1, s2, s3, s4, s5, s6, s7, s8, s9, s10, s11, s12, s13⟩
                    go_simp
                    with_reducible rfl
                   rotate_left
                   ·simp only [Act.put, List.setIfInBounds_toArray, List.set_cons_zero, List.set_cons_succ, i64_w, i32_w]
                    rfl
                   refine take_ (i := 3) (N := some 64) (v := ?_) (a' := ?_) #[true, true, true, true, true, false, false, false, true, false, false, false, false] rfl rfl (take_ofW HT_.out HW_.out (by kernel_rfl)) (fun _ _ _ h => h) (Or.inl ⟨by rfl, ?_⟩) hHeld ?_ ?_
                   rotate_left
                   ·rintro w' ⟨s0, s1, s2, s3, s4, s5, s6, s7, s8, s9, s10, s11, s12, s13⟩
                    go_simp
                    with_reducible rfl
                   rotate_left
                   ·simp only [Act.put, List.setIfInBounds_toArray, List.set_cons_zero, List.set_cons_succ, i64_w, i32_w]
                    rfl
                   refine pure_ (i := 5) (N := some 66) (v := ?_) (a' := ?_) #[true, true, true, true, true, true, false, false, true, false, false, false, false] rfl rfl (any_of HT_.out (by kernel_rfl)) (fun _ _ _ h => h) (Or.inl ⟨by rfl, ?_⟩) ?_ ?_
                   rotate_left
                   ·intro w'
                    go_simp
                    with_reducible rfl
                   rotate_left
                   ·simp only [Act.put, List.setIfInBounds_toArray, List.set_cons_zero, List.set_cons_succ, i64_w, i32_w]
                    rfl
                   refine pure_ (i := 6) (N := some 67) (v := ?_) (a' := ?_) #[true, true, true, true, true, true, true, false, true, false, false, false, false] rfl rfl (any_of HT_.out (by kernel_rfl)) (fun _ _ _ h => h) (Or.inl ⟨by rfl, ?_⟩) ?_ ?_
                   rotate_left
                   ·intro w'
                    go_simp
                    with_reducible rfl
                   rotate_left
                   ·simp only [Act.put, List.setIfInBounds_toArray, List.set_cons_zero, List.set_cons_succ, i64_w, i32_w]
                    rfl
                   refine take_ (i := 7) (N := some 68) (v := ?_) (a' := ?_) #[true, true, true, true, true, true, true, true, true, false, false, false, false] rfl rfl (take_ofW HT_.out HW_.out (by kernel_rfl)) (fun _ _ _ h => h) (Or.inl ⟨by rfl, ?_⟩) hHeld ?_ ?_
                   rotate_left
                   ·rintro w' ⟨s0, s1, s2, s3, s4, s5, s6, s7, s8, s9, s10, s11, s12, s13⟩
                    go_simp
                    with_reducible rfl
                   rotate_left
                   ·simp only [Act.put, List.setIfInBounds_toArray, List.set_cons_zero, List.set_cons_succ, i64_w, i32_w]
                    rfl
                   refine pure_ (i := 9) (N := some 70) (v := ?_) (a' := ?_) #[true, true, true, true, true, true, true, true, true, true, false, false, false] rfl rfl (any_of HT_.out (by kernel_rfl)) (fun _ _ _ h => h) (Or.inl ⟨by rfl, ?_⟩) ?_ ?_
                   rotate_left
                   ·intro w'
                    go_simp
                    with_reducible rfl
                   rotate_left
                   ·simp only [Act.put, List.setIfInBounds_toArray, List.set_cons_zero, List.set_cons_succ, i64_w, i32_w]
                    rfl
                   refine take_ (i := 10) (N := some 71) (v := ?_) (a' := ?_) #[true, true, true, true, true, true, true, true, true, true, true, false, false] rfl rfl (take_ofW HT_.out HW_.out (by kernel_rfl)) (fun _ _ _ h => h) (Or.inl ⟨by rfl, ?_⟩) hHeld ?_ ?_
                   rotate_left
                   ·rintro w' ⟨s0, s1, s2, s3, s4, s5, s6, s7, s8, s9, s10, s11, s12, s13⟩
                    go_simp
                    with_reducible rfl
                   rotate_left
                   ·simp only [Act.put, List.setIfInBounds_toArray, List.set_cons_zero, List.set_cons_succ, i64_w, i32_w]
                    rfl
                   refine one_ (i := 11) (N := some 72) #[true, true, true, true, true, true, true, true, true, true, true, true, false] rfl rfl (one_of HT_.out (by kernel_rfl)) (by decide) (fun K hK => ?_)
                   refine goes_ Try.func88 (by kernel_rfl) rfl #[.agg #[.slice (some ad270) l0_0.length c0_0], .int .i64 x3_2, .agg #[.int .i64 ((rd_T52 ((rd_T50 ((rd_T30 l0_0 x3_2).f4) x5_3).f0) x6_4).f0), .int .i64 ((rd_T52 ((rd_T50 ((rd_T30 l0_0 x3_2).f4) x5_3).f0) x6_4).f1), .int .i64 ((rd_T52 ((rd_T50 ((rd_T30 l0_0 x3_2).f4) x5_3).f0) x6_4).f2), .int .i64 ((rd_T52 ((rd_T50 ((rd_T30 l0_0 x3_2).f4) x5_3).f0) x6_4).f3), .int .i64 ((rd_T52 ((rd_T50 ((rd_T30 l0_0 x3_2).f4) x5_3).f0) x6_4).f4), .int .i64 ((rd_T52 ((rd_T50 ((rd_T30 l0_0 x3_2).f4) x5_3).f0) x6_4).f5), .slice A275_6 ((rd_T52 ((rd_T50 ((rd_T30 l0_0 x3_2).f4) x5_3).f0) x6_4).f6).length c275_6]] (by rfl) rfl rfl (by (try simp only [List.map_toArray, List.map_cons, List.map_nil]); first | done | rfl | (simp only [List.length_drop, List.length_take]; rfl)) ?_
                   with_reducible refine (portolanref04_Ins.calls k4 _ _ l0_0 x3_2 ((rd_T52 ((rd_T50 ((rd_T30 l0_0 x3_2).f4) x5_3).f0) x6_4).f0) ((rd_T52 ((rd_T50 ((rd_T30 l0_0 x3_2).f4) x5_3).f0) x6_4).f1) ((rd_T52 ((rd_T50 ((rd_T30 l0_0 x3_2).f4) x5_3).f0) x6_4).f2) ((rd_T52 ((rd_T50 ((rd_T30 l0_0 x3_2).f4) x5_3).f0) x6_4).f3) ((rd_T52 ((rd_T50 ((rd_T30 l0_0 x3_2).f4) x5_3).f0) x6_4).f4) ((rd_T52 ((rd_T50 ((rd_T30 l0_0 x3_2).f4) x5_3).f0) x6_4).f5) _ _ ((rd_T52 ((rd_T50 ((rd_T30 l0_0 x3_2).f4) x5_3).f0) x6_4).f6) false _ ?side1 ?side2 ?side3 ?side4 A28.out).mono ?_
                   (case side1 => repeat (first | exact (Kd.C_below HR0_0.out HB.out) | (with_reducible refine Kd.C_alloc ?_ _) | (with_reducible refine Kd.C_drewN ?_ _) | (with_reducible refine Kd.C_drew ?_)))
                   (case side2 => exact HC0_0.out)
                   (case side3 => repeat (first | exact (Kd.C_below HR275_6.out HB.out) | (with_reducible refine Kd.C_alloc ?_ _) | (with_reducible refine Kd.C_drewN ?_ _) | (with_reducible refine Kd.C_drew ?_)))
                   (case side4 => exact HC275_6.out)
                   rintro e w37 ⟨rfl, hb⟩
                   refine ⟨_, rfl, ?_⟩
                   have n0_ := Aside0.mk (blk_below (g := gb266) (o := .cells #[.slice (some ad270) l0_0.length c0_0] 24 (0, 0)) (by (with_reducible repeat (first | refine zq1 ?_ _ | refine zq2 ?_ | refine zq3 ?_ _)); exact BK266.out) hb)
                   have n1_ := Aside0.mk (blk_below (g := gb271) (o := .cells #[.slice A270_0 ((rd_T30 l0_0 x3_2).f0).length c270_0, .slice A270_1 ((rd_T30 l0_0 x3_2).f1).length c270_1, .int .i64 ((rd_T30 l0_0 x3_2).f2), .int .i64 ((rd_T30 l0_0 x3_2).f3), .slice (some ad273) ((rd_T30 l0_0 x3_2).f4).length c270_4] 30 (0, 0)) (by (with_reducible repeat (first | refine zq1 ?_ _ | refine zq2 ?_ | refine zq3 ?_ _)); exact BK271.out) hb)
                   have n2_ := Aside0.mk (below_step (by repeat (first | (with_reducible first | exact HB.out | apply zq5 | apply zq4 | apply zq6 | refine below_set ?_ GE266.out | refine below_set ?_ GE271.out) | exact HB.out)) hb)
                   clear BK266
                   clear BK271
                   clear HB
                   have BK266 := n0_
                   have BK271 := n1_
                   have HB := n2_
                   clear n0_ n1_ n2_
                   (try clear hb)
                   (try clear hb2)
                   (try clear hk)
                   (try clear hi)
                   refine hK.out _ _ ⟨(blk_cell BK266.out 0).trans rfl, (blk_cell BK271.out 0).trans rfl, (blk_cell BK271.out 1).trans rfl, (blk_cell BK271.out 2).trans rfl, (blk_cell BK271.out 3).trans rfl, (blk_cell BK271.out 4).trans rfl, ((HB.out.cell (World.block_lt_of_cell? w _ hw274_0)).trans hw274_0), ((HB.out.cell (World.block_lt_of_cell? w _ hw275_0)).trans hw275_0), ((HB.out.cell (World.block_lt_of_cell? w _ hw275_1)).trans hw275_1), ((HB.out.cell (World.block_lt_of_cell? w _ hw275_2)).trans hw275_2), ((HB.out.cell (World.block_lt_of_cell? w _ hw275_3)).trans hw275_3), ((HB.out.cell (World.block_lt_of_cell? w _ hw275_4)).trans hw275_4), ((HB.out.cell (World.block_lt_of_cell? w _ hw275_5)).trans hw275_5), ((HB.out.cell (World.block_lt_of_cell? w _ hw275_6)).trans hw275_6)⟩ (fun hHeld => ?_)
                   clear hK K
                   refine norm_ (a' := ?_) ?_ ?_
                   rotate_left
                   ·show Act.put _ (some 72) _ = _
                    simp only [Act.put, List.setIfInBounds_toArray, List.set_cons_zero, List.set_cons_succ, i64_w, i32_w]
                    rfl
                   refine pure_ (i := 12) (N := some 73) (v := ?_) (a' := ?_) #[true, true, true, true, true, true, true, true, true, true, true, true, true] rfl rfl (any_of HT_.out (by kernel_rfl)) (fun _ _ _ h => h) (Or.inl ⟨by rfl, ?_⟩) ?_ ?_
                   rotate_left
                   ·intro w'
                    go_simp
                    with_reducible rfl
                   rotate_left
                   ·simp only [Act.put, List.setIfInBounds_toArray, List.set_cons_zero, List.set_cons_succ, i64_w, i32_w]
                    rfl
                   refine done_ (done_of HT_.out (by kernel_rfl)) ?_
                   try go_wp2
                   go_ret
                   exact ⟨by first | rfl | (simp [errW_none, errW_some] <;> rfl) | (simp [*, errW_none, errW_some] <;> rfl), by repeat (first | (with_reducible first | exact HB.out | apply zq5 | apply zq4 | apply zq6 | refine below_set ?_ GE266.out | refine below_set ?_ GE271.out) | exact HB.out)⟩
                 ·rw [if_neg c27] at H
                  exact absurd H (by simp)
                ·rw [if_neg c26] at H
                 have c26b0 : decide (x6_4 < (((rd_T50 ((rd_T30 l0_0 x3_2).f4) x5_3).f0).length : Int)) = false := decide_eq_false c26
                 clear c26
                 have H' := Aside0.mk H
                 clear H
                 have hnb38 := NB271_266.out
                 have hnc38 := NB266_271.out
                 have hcz39_0 : wr.cell? ⟨gb271, 0, none⟩ = some (.slice A270_0 ((rd_T30 l0_0 x3_2).f0).length c270_0) := (blk_cell BK271.out 0).trans rfl
                 have hcz39_1 : wr.cell? ⟨gb271, 1, none⟩ = some (.slice A270_1 ((rd_T30 l0_0 x3_2).f1).length c270_1) := (blk_cell BK271.out 1).trans rfl
                 have hcz39_2 : wr.cell? ⟨gb271, 2, none⟩ = some (.int .i64 ((rd_T30 l0_0 x3_2).f2)) := (blk_cell BK271.out 2).trans rfl
                 have hcz39_3 : wr.cell? ⟨gb271, 3, none⟩ = some (.int .i64 ((rd_T30 l0_0 x3_2).f3)) := (blk_cell BK271.out 3).trans rfl
                 have hcz39_4 : wr.cell? ⟨gb271, 4, none⟩ = some (.slice A270_4 ((rd_T30 l0_0 x3_2).f4).length c270_4) := (blk_cell BK271.out 4).trans rfl
                 have hfz39_0 := blk_frozen BK271.out 0
                 have hfz39_1 := blk_frozen BK271.out 1
                 have hfz39_2 := blk_frozen BK271.out 2
                 have hfz39_3 := blk_frozen BK271.out 3
                 have hfz39_4 := blk_frozen BK271.out 4
                 have p273 : 0 ≤ (x5_3 : Int) := of_decide_eq_true (by first | (with_reducible assumption) | assumption)
                 have q273 : x5_3 < (((rd_T30 l0_0 x3_2).f4).length : Int) := of_decide_eq_true (by first | (with_reducible assumption) | assumption)
                 obtain ⟨ad273, A273_0, c273_0, e273, hx273_0, hl273_0, hi273_0⟩ := at_T50 HR270_4.out x5_3 p273 q273
                 cases e273
                 replace hx273_0 := (HB.out.cell (World.block_lt_of_cell? w _ hx273_0)).trans hx273_0
                 have HR273_0 := Aside0.mk hi273_0
                 have HC273_0 := Aside0.mk hl273_0
                 clear hi273_0 hl273_0
                 replace p273 := eq_true p273
                 replace q273 := eq_true q273
                 go_wp2
                 go_roundg k4
                 case measure => have := HJ1.out; have := HK2.out; have := HK3.out; have := HK4.out; omega
                 case rel => exact ⟨(wrap64 (x5_3 + 1)), (by first | rfl | (simp; done) | (simp [*]; done)), H', ⟨by have := HJ1.out; have := HK2.out; have := HK3.out; have := HK4.out; omega⟩, ⟨by (with_reducible repeat (first | refine zq1 ?_ _ | refine zq2 ?_ | refine zq3 ?_ _)); exact BK266.out⟩, ⟨by (with_reducible repeat (first | refine zq1 ?_ _ | refine zq2 ?_ | refine zq3 ?_ _)); exact BK271.out⟩, ⟨by repeat (first | (with_reducible first | exact HB.out | apply zq5 | apply zq4 | apply zq6 | refine below_set ?_ GE266.out | refine below_set ?_ GE271.out) | exact HB.out)⟩⟩
               ·rw [if_neg c25] at H
                exact absurd H (by simp)
              ·rw [if_neg c24] at H
               exact absurd H (by simp)
           ·rw [if_neg c21] at H
            have c21b0 : decide (x5_3 < (((rd_T30 l0_0 x3_2).f4).length : Int)) = false := decide_eq_false c21
            clear c21
            have H' := Aside0.mk H
            clear H
            have hnb40 := NB271_266.out
            have hnc40 := NB266_271.out
            have hcz41_0 : wr.cell? ⟨gb271, 0, none⟩ = some (.slice A270_0 ((rd_T30 l0_0 x3_2).f0).length c270_0) := (blk_cell BK271.out 0).trans rfl
            have hcz41_1 : wr.cell? ⟨gb271, 1, none⟩ = some (.slice A270_1 ((rd_T30 l0_0 x3_2).f1).length c270_1) := (blk_cell BK271.out 1).trans rfl
            have hcz41_2 : wr.cell? ⟨gb271, 2, none⟩ = some (.int .i64 ((rd_T30 l0_0 x3_2).f2)) := (blk_cell BK271.out 2).trans rfl
            have hcz41_3 : wr.cell? ⟨gb271, 3, none⟩ = some (.int .i64 ((rd_T30 l0_0 x3_2).f3)) := (blk_cell BK271.out 3).trans rfl
            have hcz41_4 : wr.cell? ⟨gb271, 4, none⟩ = some (.slice A270_4 ((rd_T30 l0_0 x3_2).f4).length c270_4) := (blk_cell BK271.out 4).trans rfl
            have hfz41_0 := blk_frozen BK271.out 0
            have hfz41_1 := blk_frozen BK271.out 1
            have hfz41_2 := blk_frozen BK271.out 2
            have hfz41_3 := blk_frozen BK271.out 3
            have hfz41_4 := blk_frozen BK271.out 4
            go_wp2
            go_roundg k3
            case measure => have := HJ1.out; have := HK2.out; have := HK3.out; omega
            case rel => exact ⟨(wrap64 (x3_2 + 1)), (by first | rfl | (simp; done) | (simp [*]; done)), H', ⟨by have := HJ1.out; have := HK2.out; have := HK3.out; omega⟩, ⟨by (with_reducible repeat (first | refine zq1 ?_ _ | refine zq2 ?_ | refine zq3 ?_ _)); exact BK266.out⟩, ⟨by repeat (first | (with_reducible first | exact HB.out | apply zq5 | apply zq4 | apply zq6 | refine below_set ?_ GE266.out | refine below_set ?_ GE271.out) | exact HB.out)⟩⟩
        ·replace c15 := Bool.eq_false_iff.mpr c15
         subst c15
         have H1 : (some 5) = some r := by first | (rw [if_neg (show ¬ (false = true) by decide)] at H; exact H) | rfl
         clear H
         have H := H1
         clear H1
         obtain rfl := Option.some.inj H
         have hcz42_0 : wr.cell? ⟨gb266, 0, none⟩ = some (.slice A0_0 l0_0.length c0_0) := (blk_cell BK266.out 0).trans rfl
         have hfz42_0 := blk_frozen BK266.out 0
         have p270 : 0 ≤ (x3_2 : Int) := of_decide_eq_true (by first | (with_reducible assumption) | assumption)
         have q270 : x3_2 < (l0_0.length : Int) := of_decide_eq_true (by first | (with_reducible assumption) | assumption)
         obtain ⟨ad270, A270_0, c270_0, A270_1, c270_1, A270_4, c270_4, e270, hx270_0, hx270_1, hx270_2, hx270_3, hx270_4, hl270_0, hi270_0, hl270_1, hi270_1, hl270_4, hi270_4⟩ := at_T30 HR0_0.out x3_2 p270 q270
         cases e270
         replace hx270_0 := (HB.out.cell (World.block_lt_of_cell? w _ hx270_0)).trans hx270_0
         replace hx270_1 := (HB.out.cell (World.block_lt_of_cell? w _ hx270_1)).trans hx270_1
         replace hx270_2 := (HB.out.cell (World.block_lt_of_cell? w _ hx270_2)).trans hx270_2
         replace hx270_3 := (HB.out.cell (World.block_lt_of_cell? w _ hx270_3)).trans hx270_3
         replace hx270_4 := (HB.out.cell (World.block_lt_of_cell? w _ hx270_4)).trans hx270_4
         have HR270_0 := Aside0.mk hi270_0
         have HC270_0 := Aside0.mk hl270_0
         clear hi270_0 hl270_0
         have HR270_1 := Aside0.mk hi270_1
         have HC270_1 := Aside0.mk hl270_1
         clear hi270_1 hl270_1
         have HR270_4 := Aside0.mk hi270_4
         have HC270_4 := Aside0.mk hl270_4
         clear hi270_4 hl270_4
         replace p270 := eq_true p270
         replace q270 := eq_true q270
         go_wp2_with (first | ((with_reducible refine gate_dst (N := 4) rfl ?_); refine box_event ?hg (N := 4) ?hd (cs := #[.slice none 0 0, .slice none 0 0, .int .i64 0, .int .i64 0, .slice none 0 0]) (t := 30) ?hr ?_; (case hd => rfl); (case hg => rfl); (case hr => first | (go_simp; done) | (go_simp; rfl)); intro gb271 hg w43 hbox hb; have n0_ := Aside0.mk (blk_below (g := gb266) (o := .cells #[.slice (some ad270) l0_0.length c0_0] 24 (0, 0)) (by (with_reducible repeat (first | refine zq1 ?_ _ | refine zq2 ?_ | refine zq3 ?_ _)); exact BK266.out) hb); have n1_ := Aside0.mk (below_step (by repeat (first | (with_reducible first | exact HB.out | apply zq5 | apply zq4 | apply zq6 | refine below_set ?_ GE266.out) | exact HB.out)) hb); have n2_ := Aside0.mk (hbox); have n3_ := Aside0.mk ((by rw [hg]; exact (below_size (by repeat (first | (with_reducible first | exact HB.out | apply zq5 | apply zq4 | apply zq6 | refine below_set ?_ GE266.out) | exact HB.out))) : w.heap.size ≤ gb271)); have n4_ := Aside0.mk ((by rw [hg]; exact (below_size (by repeat (first | (with_reducible first | exact HB.out | apply zq5 | apply zq4 | apply zq6 | refine below_set ?_ GE266.out) | exact HB.out))) : w.heap.size ≤ gb271)); have n5_ := Aside0.mk ((by rw [hg]; exact Nat.ne_of_lt (blk_lt (g := gb266) (o := .cells #[.slice (some ad270) l0_0.length c0_0] 24 (0, 0)) (by (with_reducible repeat (first | refine zq1 ?_ _ | refine zq2 ?_ | refine zq3 ?_ _)); exact BK266.out)) : gb266 ≠ gb271)); have n6_ := Aside0.mk ((by rw [hg]; exact Nat.ne_of_gt (blk_lt (g := gb266) (o := .cells #[.slice (some ad270) l0_0.length c0_0] 24 (0, 0)) (by (with_reducible repeat (first | refine zq1 ?_ _ | refine zq2 ?_ | refine zq3 ?_ _)); exact BK266.out)) : gb271 ≠ gb266)); clear BK266; clear HB; have BK266 := n0_; have HB := n1_; have BK271 := n2_; have GW271 := n3_; have GE271 := n4_; have NB266_271 := n5_; have NB271_266 := n6_; clear n0_ n1_ n2_ n3_ n4_ n5_ n6_; clear hb hbox hg; have hnb44 := NB271_266.out; have hnc44 := NB266_271.out; have hcz45_0 : w43.cell? ⟨gb271, 0, none⟩ = some (.slice none 0 0) := (blk_cell BK271.out 0).trans rfl; have hcz45_1 : w43.cell? ⟨gb271, 1, none⟩ = some (.slice none 0 0) := (blk_cell BK271.out 1).trans rfl; have hcz45_2 : w43.cell? ⟨gb271, 2, none⟩ = some (.int .i64 0) := (blk_cell BK271.out 2).trans rfl; have hcz45_3 : w43.cell? ⟨gb271, 3, none⟩ = some (.int .i64 0) := (blk_cell BK271.out 3).trans rfl; have hcz45_4 : w43.cell? ⟨gb271, 4, none⟩ = some (.slice none 0 0) := (blk_cell BK271.out 4).trans rfl; have hfz45_0 := blk_frozen BK271.out 0; have hfz45_1 := blk_frozen BK271.out 1; have hfz45_2 := blk_frozen BK271.out 2; have hfz45_3 := blk_frozen BK271.out 3; have hfz45_4 := blk_frozen BK271.out 4) | ((with_reducible refine gate_callee (f := 87) rfl ?_); refine goesL_ (some 41) rfl rfl Try.func87 (by kernel_rfl) rfl #[.agg #[.slice A270_0 ((rd_T30 l0_0 x3_2).f0).length c270_0, .slice A270_1 ((rd_T30 l0_0 x3_2).f1).length c270_1, .int .i64 ((rd_T30 l0_0 x3_2).f2), .int .i64 ((rd_T30 l0_0 x3_2).f3), .slice A270_4 ((rd_T30 l0_0 x3_2).f4).length c270_4]] rfl (by (try simp only [List.map_toArray, List.map_cons, List.map_nil]); first | done | rfl | (simp only [List.length_drop, List.length_take]; rfl)) ?_; (with_reducible refine (portolanref04_Func.calls k2 _ _ ((rd_T30 l0_0 x3_2).f0) _ _ ((rd_T30 l0_0 x3_2).f1) ((rd_T30 l0_0 x3_2).f2) ((rd_T30 l0_0 x3_2).f3) _ _ ((rd_T30 l0_0 x3_2).f4) false _ ?side1 ?side2 ?side3 ?side4 ?side5 ?side6 A14.out).mono ?_); (case side1 => exact Kd.C_below HR270_0.out (by repeat (first | (with_reducible first | exact HB.out | apply zq5 | apply zq4 | apply zq6 | refine below_set ?_ GE266.out | refine below_set ?_ GE271.out) | exact HB.out))); (case side2 => exact HC270_0.out); (case side3 => exact Kd.C_below HR270_1.out (by repeat (first | (with_reducible first | exact HB.out | apply zq5 | apply zq4 | apply zq6 | refine below_set ?_ GE266.out | refine below_set ?_ GE271.out) | exact HB.out))); (case side4 => exact HC270_1.out); (case side5 => exact Kd.C_below HR270_4.out (by repeat (first | (with_reducible first | exact HB.out | apply zq5 | apply zq4 | apply zq6 | refine below_set ?_ GE266.out | refine below_set ?_ GE271.out) | exact HB.out))); (case side6 => exact HC270_4.out); rintro e w46 ⟨rfl, hb⟩; refine ⟨_, rfl, ?_⟩; have n0_ := Aside0.mk (blk_below (g := gb266) (o := .cells #[.slice (some ad270) l0_0.length c0_0] 24 (0, 0)) (by (with_reducible repeat (first | refine zq1 ?_ _ | refine zq2 ?_ | refine zq3 ?_ _)); refine blk_far ?_ NB266_271.out _; (with_reducible repeat (first | refine zq1 ?_ _ | refine zq2 ?_ | refine zq3 ?_ _)); refine blk_far ?_ NB266_271.out _; (with_reducible repeat (first | refine zq1 ?_ _ | refine zq2 ?_ | refine zq3 ?_ _)); refine blk_far ?_ NB266_271.out _; (with_reducible repeat (first | refine zq1 ?_ _ | refine zq2 ?_ | refine zq3 ?_ _)); refine blk_far ?_ NB266_271.out _; (with_reducible repeat (first | refine zq1 ?_ _ | refine zq2 ?_ | refine zq3 ?_ _)); refine blk_far ?_ NB266_271.out _; (with_reducible repeat (first | refine zq1 ?_ _ | refine zq2 ?_ | refine zq3 ?_ _)); exact BK266.out) hb); have n1_ := Aside0.mk (blk_below (g := gb271) (o := .cells #[.slice A270_0 ((rd_T30 l0_0 x3_2).f0).length c270_0, .slice A270_1 ((rd_T30 l0_0 x3_2).f1).length c270_1, .int .i64 ((rd_T30 l0_0 x3_2).f2), .int .i64 ((rd_T30 l0_0 x3_2).f3), .slice A270_4 ((rd_T30 l0_0 x3_2).f4).length c270_4] 30 (0, 0)) (by (with_reducible repeat (first | refine zq1 ?_ _ | refine zq2 ?_ | refine zq3 ?_ _)); refine blk_put (cs := #[.slice A270_0 ((rd_T30 l0_0 x3_2).f0).length c270_0, .slice A270_1 ((rd_T30 l0_0 x3_2).f1).length c270_1, .int .i64 ((rd_T30 l0_0 x3_2).f2), .int .i64 ((rd_T30 l0_0 x3_2).f3), .slice none 0 0]) ?_ 4 _ rfl; (with_reducible repeat (first | refine zq1 ?_ _ | refine zq2 ?_ | refine zq3 ?_ _)); refine blk_put (cs := #[.slice A270_0 ((rd_T30 l0_0 x3_2).f0).length c270_0, .slice A270_1 ((rd_T30 l0_0 x3_2).f1).length c270_1, .int .i64 ((rd_T30 l0_0 x3_2).f2), .int .i64 0, .slice none 0 0]) ?_ 3 _ rfl; (with_reducible repeat (first | refine zq1 ?_ _ | refine zq2 ?_ | refine zq3 ?_ _)); refine blk_put (cs := #[.slice A270_0 ((rd_T30 l0_0 x3_2).f0).length c270_0, .slice A270_1 ((rd_T30 l0_0 x3_2).f1).length c270_1, .int .i64 0, .int .i64 0, .slice none 0 0]) ?_ 2 _ rfl; (with_reducible repeat (first | refine zq1 ?_ _ | refine zq2 ?_ | refine zq3 ?_ _)); refine blk_put (cs := #[.slice A270_0 ((rd_T30 l0_0 x3_2).f0).length c270_0, .slice none 0 0, .int .i64 0, .int .i64 0, .slice none 0 0]) ?_ 1 _ rfl; (with_reducible repeat (first | refine zq1 ?_ _ | refine zq2 ?_ | refine zq3 ?_ _)); refine blk_put (cs := #[.slice none 0 0, .slice none 0 0, .int .i64 0, .int .i64 0, .slice none 0 0]) ?_ 0 _ rfl; (with_reducible repeat (first | refine zq1 ?_ _ | refine zq2 ?_ | refine zq3 ?_ _)); exact BK271.out) hb); have n2_ := Aside0.mk (below_step (by repeat (first | (with_reducible first | exact HB.out | apply zq5 | apply zq4 | apply zq6 | refine below_set ?_ GE266.out | refine below_set ?_ GE271.out) | exact HB.out)) hb); clear BK266; clear BK271; clear HB; have BK266 := n0_; have BK271 := n1_; have HB := n2_; clear n0_ n1_ n2_; (try clear hb); (try clear hb2); (try clear hk); (try clear hi)))
         go_ret
         exact ⟨by first | rfl | (simp [errW_none, errW_some] <;> rfl) | (simp [*, errW_none, errW_some] <;> rfl), by repeat (first | (with_reducible first | exact HB.out | apply zq5 | apply zq4 | apply zq6 | refine below_set ?_ GE266.out | refine below_set ?_ GE271.out) | exact HB.out)⟩
       ·rw [if_neg c13] at H
        exact absurd H (by simp)
      ·rw [if_neg c12] at H
       have c12b0 : decide (x3_2 < (l0_0.length : Int)) = false := decide_eq_false c12
       clear c12
       obtain rfl := Option.some.inj H
       have hcz47_0 : wr.cell? ⟨gb266, 0, none⟩ = some (.slice A0_0 l0_0.length c0_0) := (blk_cell BK266.out 0).trans rfl
       have hfz47_0 := blk_frozen BK266.out 0
       go_wp2
       go_ret
       exact ⟨by first | rfl | (simp [errW_none, errW_some] <;> rfl) | (simp [*, errW_none, errW_some] <;> rfl), by repeat (first | (with_reducible first | exact HB.out | apply zq5 | apply zq4 | apply zq6 | refine below_set ?_ GE266.out) | exact HB.out)⟩
end Go.Proofs.Ytcknmcfomkbenaa.PF
