import Derived.Test.YtcknmcfomkbenaaPFx0
namespace Go.Proofs.Ytcknmcfomkbenaa.PF
open Go.RowKit Go.Proofs.YtcknmcfomkbenaaW.PrintWords Go.Proofs.YtcknmcfomkbenaaW.PrintLast Go.Proofs.YtcknmcfomkbenaaW.PrintMore
attribute [local go_sem] max2_int min2_int max_two min_two max_three min_three max_four min_four   -- for this text's walks alone
set_option linter.unusedVariables false
set_option linter.unusedSimpArgs false
def portolanref04_Next.f (a0_0 : Int) (a0_1 : Int) (a0_2 : Int) (a0_3 : Int) (a0_4 : Int) (a0_5 : Int) (l0_6 : List Int) : Option (List Int) := if a0_0 = 21 then (some (([a0_4] : List Int))) else (if a0_0 = 22 then (if a0_4 = a0_5 then (some (([a0_4] : List Int))) else (some (([mn a0_4 a0_5, mx a0_4 a0_5] : List Int)))) else (some ([] : List Int)))
set_option maxHeartbeats 8000000 in
set_option maxRecDepth 100000 in
theorem portolanref04_Next.calls (a0_0 : Int) (a0_1 : Int) (a0_2 : Int) (a0_3 : Int) (a0_4 : Int) (a0_5 : Int) (A0_6 : Option Addr) (c0_6 : Nat) (l0_6 : List Int) (r : List Int) (w : World) (hr0_6 : Kd.C (Kd.int .i64) w A0_6 l0_6.length l0_6) (hc0_6 : l0_6.length ≤ c0_6) (h : portolanref04_Next.f a0_0 a0_1 a0_2 a0_3 a0_4 a0_5 l0_6 = some r) :
  Calls Try.prog 58 #[.agg #[.int .i64 a0_0, .int .i64 a0_1, .int .i64 a0_2, .int .i64 a0_3, .int .i64 a0_4, .int .i64 a0_5, .slice A0_6 l0_6.length c0_6]] w fun e w' => ∃ v0_ : Value, e = .returned (v0_) ∧ Kd.R (Kd.int .i64) 3 w' w.heap.size (fun _ => True) v0_ r ∧ Below w.heap.size w w' := by
 have hu52 := Try.underlying52; have HR0_6 := Aside0.mk hr0_6; have HC0_6 := Aside0.mk hc0_6; clear hr0_6 hc0_6; have HB := Aside0.mk (Below.refl w.heap.size w); have H : (if a0_0 = 21 then (some (([a0_4] : List Int))) else (if a0_0 = 22 then (if a0_4 = a0_5 then (some (([a0_4] : List Int))) else (some (([mn a0_4 a0_5, mx a0_4 a0_5] : List Int)))) else (some ([] : List Int)))) = some r := h; clear h; by_cases c2 : a0_0 = 21
 ·rw [if_pos c2] at H
  have c2b0 : (a0_0 == 21) = true := beq_iff_eq.mpr c2; have c2b1 : (a0_0 != 21) = false := bne_eq_false_iff_eq.mpr c2; clear c2; obtain ⟨y201, hy201⟩ : ∃ y_ : List Int, y_ = (([a0_4] : List Int)) := ⟨_, rfl⟩
  replace H : (some y201) = some r := by first | (rw [hy201]; with_reducible exact H) | (have H2_ := (Option.bind_some _ _).symm.trans H; rw [hy201]; with_reducible exact H2_) | (have H2_ := (Option.bind_some _ _).symm.trans H; with_reducible exact H2_) | with_reducible exact H | (rw [hy201]; exact H) | exact H
  have Ny201 := Aside0.mk hy201; clear hy201; obtain rfl := Option.some.inj H; go_enter Try.func58, Try.ntmps58; go_wp2_with (first | ((with_reducible refine gate_dst (N := 1) rfl ?_); refine box_event ?hg (N := 1) ?hd (cs := #[.int .i64 a0_0, .int .i64 a0_1, .int .i64 a0_2, .int .i64 a0_3, .int .i64 a0_4, .int .i64 a0_5, .slice A0_6 l0_6.length c0_6]) (t := 52) ?hr ?_; (case hd => rfl); (case hg => rfl); (case hr => first | (go_simp; done) | (go_simp; rfl)); intro gb200 hg w3 hbox hb; have n0_ := Aside0.mk (below_step (by repeat (first | (with_reducible first | exact HB.out | apply zq5 | apply zq4 | apply zq6) | exact HB.out)) hb); have n1_ := Aside0.mk (hbox); have n2_ := Aside0.mk ((by rw [hg]; exact (below_size (by repeat (first | (with_reducible first | exact HB.out | apply zq5 | apply zq4 | apply zq6) | exact HB.out))) : w.heap.size ≤ gb200)); have n3_ := Aside0.mk ((by rw [hg]; exact (below_size (by repeat (first | (with_reducible first | exact HB.out | apply zq5 | apply zq4 | apply zq6) | exact HB.out))) : w.heap.size ≤ gb200)); clear HB; have HB := n0_; have BK200 := n1_; have GW200 := n2_; have GE200 := n3_; clear n0_ n1_ n2_ n3_; clear hb hbox hg; have hcz4_0 : w3.cell? ⟨gb200, 0, none⟩ = some (.int .i64 a0_0) := (blk_cell BK200.out 0).trans rfl; have hcz4_1 : w3.cell? ⟨gb200, 1, none⟩ = some (.int .i64 a0_1) := (blk_cell BK200.out 1).trans rfl; have hcz4_2 : w3.cell? ⟨gb200, 2, none⟩ = some (.int .i64 a0_2) := (blk_cell BK200.out 2).trans rfl; have hcz4_3 : w3.cell? ⟨gb200, 3, none⟩ = some (.int .i64 a0_3) := (blk_cell BK200.out 3).trans rfl; have hcz4_4 : w3.cell? ⟨gb200, 4, none⟩ = some (.int .i64 a0_4) := (blk_cell BK200.out 4).trans rfl; have hcz4_5 : w3.cell? ⟨gb200, 5, none⟩ = some (.int .i64 a0_5) := (blk_cell BK200.out 5).trans rfl; have hcz4_6 : w3.cell? ⟨gb200, 6, none⟩ = some (.slice A0_6 l0_6.length c0_6) := (blk_cell BK200.out 6).trans rfl; have hfz4_0 := blk_frozen BK200.out 0; have hfz4_1 := blk_frozen BK200.out 1; have hfz4_2 := blk_frozen BK200.out 2; have hfz4_3 := blk_frozen BK200.out 3; have hfz4_4 := blk_frozen BK200.out 4; have hfz4_5 := blk_frozen BK200.out 5; have hfz4_6 := blk_frozen BK200.out 6) | ((with_reducible refine gate_dst (N := 9) rfl ?_); refine Kd.R_lit (Kd.int .i64) _ 3 ?hg (N := 9) ?hd (xs := ([a0_4] : List Int)) (inner := [.int .i64 a0_4]) (ok := fun _ => True) (okp := fun _ => True) ?hr ?hp (fun _ hk => hk) trivial (Below.refl _ _) (Nat.le_refl _) (by simp) ?_; (case hd => rfl); (case hg => rfl); (case hr => first | (go_simp; done) | (go_simp; rfl)); (case hp => exact (Reps.one (show Kd.M (Kd.int .i64) _ _ _ a0_4 [.int .i64 a0_4] from rfl) (Reps.none _ _))); intro v202 w5 ho6 hb hg_ hnew_; clear hg_ hnew_; (first | rw [← Ny201.out] at ho6 | (simp only [Int.reduceToNat] at ho6; rw [← Ny201.out] at ho6)); have n0_ := Aside0.mk (Kd.R_lower ho6 (below_size (by repeat (first | (with_reducible first | exact HB.out | apply zq5 | apply zq4 | apply zq6 | refine below_set ?_ GE200.out) | exact HB.out)))); have n1_ := Aside0.mk (blk_below (g := gb200) (o := .cells #[.int .i64 a0_0, .int .i64 a0_1, .int .i64 a0_2, .int .i64 a0_3, .int .i64 a0_4, .int .i64 a0_5, .slice A0_6 l0_6.length c0_6] 52 (0, 0)) (by (with_reducible repeat (first | refine zq1 ?_ _ | refine zq2 ?_ | refine zq3 ?_ _)); exact BK200.out) hb); have n2_ := Aside0.mk (below_step (by repeat (first | (with_reducible first | exact HB.out | apply zq5 | apply zq4 | apply zq6 | refine below_set ?_ GE200.out) | exact HB.out)) hb); clear BK200; clear HB; have HO203 := n0_; have BK200 := n1_; have HB := n2_; clear n0_ n1_ n2_; clear hb ho6)); go_ret
  exact ⟨_, by first | rfl | (simp [errW_none, errW_some] <;> rfl) | (simp [*, errW_none, errW_some] <;> rfl), by (with_reducible repeat (first | apply Kd.R_alloc | apply Kd.R_drewN | apply Kd.R_drew)); exact HO203.out, by repeat (first | (with_reducible first | exact HB.out | apply zq5 | apply zq4 | apply zq6 | refine below_set ?_ GE200.out) | exact HB.out)⟩
 ·rw [if_neg c2] at H
  have c2b0 : (a0_0 == 21) = false := beq_eq_false_iff_ne.mpr c2; have c2b1 : (a0_0 != 21) = true := bne_iff_ne.mpr c2; by_cases c7 : a0_0 = 22
  ·rw [if_pos c7] at H
   have c7b0 : (a0_0 == 22) = true := beq_iff_eq.mpr c7; have c7b1 : (a0_0 != 22) = false := bne_eq_false_iff_eq.mpr c7; clear c7; by_cases c8 : a0_4 = a0_5
   ·rw [if_pos c8] at H
    have c8b0 : (a0_4 == a0_5) = true := beq_iff_eq.mpr c8; have c8b1 : (a0_4 != a0_5) = false := bne_eq_false_iff_eq.mpr c8; clear c8; obtain ⟨y204, hy204⟩ : ∃ y_ : List Int, y_ = (([a0_4] : List Int)) := ⟨_, rfl⟩
    replace H : (some y204) = some r := by first | (rw [hy204]; with_reducible exact H) | (have H2_ := (Option.bind_some _ _).symm.trans H; rw [hy204]; with_reducible exact H2_) | (have H2_ := (Option.bind_some _ _).symm.trans H; with_reducible exact H2_) | with_reducible exact H | (rw [hy204]; exact H) | exact H
    have Ny204 := Aside0.mk hy204; clear hy204; obtain rfl := Option.some.inj H; go_enter Try.func58, Try.ntmps58; go_wp2_with (first | ((with_reducible refine gate_dst (N := 1) rfl ?_); refine box_event ?hg (N := 1) ?hd (cs := #[.int .i64 a0_0, .int .i64 a0_1, .int .i64 a0_2, .int .i64 a0_3, .int .i64 a0_4, .int .i64 a0_5, .slice A0_6 l0_6.length c0_6]) (t := 52) ?hr ?_; (case hd => rfl); (case hg => rfl); (case hr => first | (go_simp; done) | (go_simp; rfl)); intro gb200 hg w9 hbox hb; have n0_ := Aside0.mk (below_step (by repeat (first | (with_reducible first | exact HB.out | apply zq5 | apply zq4 | apply zq6) | exact HB.out)) hb); have n1_ := Aside0.mk (hbox); have n2_ := Aside0.mk ((by rw [hg]; exact (below_size (by repeat (first | (with_reducible first | exact HB.out | apply zq5 | apply zq4 | apply zq6) | exact HB.out))) : w.heap.size ≤ gb200)); have n3_ := Aside0.mk ((by rw [hg]; exact (below_size (by repeat (first | (with_reducible first | exact HB.out | apply zq5 | apply zq4 | apply zq6) | exact HB.out))) : w.heap.size ≤ gb200)); clear HB; have HB := n0_; have BK200 := n1_; have GW200 := n2_; have GE200 := n3_; clear n0_ n1_ n2_ n3_; clear hb hbox hg; have hcz10_0 : w9.cell? ⟨gb200, 0, none⟩ = some (.int .i64 a0_0) := (blk_cell BK200.out 0).trans rfl; have hcz10_1 : w9.cell? ⟨gb200, 1, none⟩ = some (.int .i64 a0_1) := (blk_cell BK200.out 1).trans rfl; have hcz10_2 : w9.cell? ⟨gb200, 2, none⟩ = some (.int .i64 a0_2) := (blk_cell BK200.out 2).trans rfl; have hcz10_3 : w9.cell? ⟨gb200, 3, none⟩ = some (.int .i64 a0_3) := (blk_cell BK200.out 3).trans rfl; have hcz10_4 : w9.cell? ⟨gb200, 4, none⟩ = some (.int .i64 a0_4) := (blk_cell BK200.out 4).trans rfl; have hcz10_5 : w9.cell? ⟨gb200, 5, none⟩ = some (.int .i64 a0_5) := (blk_cell BK200.out 5).trans rfl; have hcz10_6 : w9.cell? ⟨gb200, 6, none⟩ = some (.slice A0_6 l0_6.length c0_6) := (blk_cell BK200.out 6).trans rfl; have hfz10_0 := blk_frozen BK200.out 0; have hfz10_1 := blk_frozen BK200.out 1; have hfz10_2 := blk_frozen BK200.out 2; have hfz10_3 := blk_frozen BK200.out 3; have hfz10_4 := blk_frozen BK200.out 4; have hfz10_5 := blk_frozen BK200.out 5; have hfz10_6 := blk_frozen BK200.out 6) | ((with_reducible refine gate_dst (N := 19) rfl ?_); refine Kd.R_lit (Kd.int .i64) _ 3 ?hg (N := 19) ?hd (xs := ([a0_4] : List Int)) (inner := [.int .i64 a0_4]) (ok := fun _ => True) (okp := fun _ => True) ?hr ?hp (fun _ hk => hk) trivial (Below.refl _ _) (Nat.le_refl _) (by simp) ?_; (case hd => rfl); (case hg => rfl); (case hr => first | (go_simp; done) | (go_simp; rfl)); (case hp => exact (Reps.one (show Kd.M (Kd.int .i64) _ _ _ a0_4 [.int .i64 a0_4] from rfl) (Reps.none _ _))); intro v205 w11 ho12 hb hg_ hnew_; clear hg_ hnew_; (first | rw [← Ny204.out] at ho12 | (simp only [Int.reduceToNat] at ho12; rw [← Ny204.out] at ho12)); have n0_ := Aside0.mk (Kd.R_lower ho12 (below_size (by repeat (first | (with_reducible first | exact HB.out | apply zq5 | apply zq4 | apply zq6 | refine below_set ?_ GE200.out) | exact HB.out)))); have n1_ := Aside0.mk (blk_below (g := gb200) (o := .cells #[.int .i64 a0_0, .int .i64 a0_1, .int .i64 a0_2, .int .i64 a0_3, .int .i64 a0_4, .int .i64 a0_5, .slice A0_6 l0_6.length c0_6] 52 (0, 0)) (by (with_reducible repeat (first | refine zq1 ?_ _ | refine zq2 ?_ | refine zq3 ?_ _)); exact BK200.out) hb); have n2_ := Aside0.mk (below_step (by repeat (first | (with_reducible first | exact HB.out | apply zq5 | apply zq4 | apply zq6 | refine below_set ?_ GE200.out) | exact HB.out)) hb); clear BK200; clear HB; have HO206 := n0_; have BK200 := n1_; have HB := n2_; clear n0_ n1_ n2_; clear hb ho12)); go_ret
    exact ⟨_, by first | rfl | (simp [errW_none, errW_some] <;> rfl) | (simp [*, errW_none, errW_some] <;> rfl), by (with_reducible repeat (first | apply Kd.R_alloc | apply Kd.R_drewN | apply Kd.R_drew)); exact HO206.out, by repeat (first | (with_reducible first | exact HB.out | apply zq5 | apply zq4 | apply zq6 | refine below_set ?_ GE200.out) | exact HB.out)⟩
   ·rw [if_neg c8] at H
    have c8b0 : (a0_4 == a0_5) = false := beq_eq_false_iff_ne.mpr c8; have c8b1 : (a0_4 != a0_5) = true := bne_iff_ne.mpr c8; obtain ⟨ji13, hji13⟩ : ∃ j_ : Int, (mn a0_4 a0_5) = j_ := ⟨_, rfl⟩
    replace H : (some (([ji13, mx a0_4 a0_5] : List Int))) = some r := by first | (rw [hji13] at H; exact H) | (simp only [hji13] at H ⊢; exact H)
    have hji13_ : (if a0_5 < a0_4 then a0_5 else a0_4) = ji13 := hji13; obtain ⟨ji14, hji14⟩ : ∃ j_ : Int, (mx a0_4 a0_5) = j_ := ⟨_, rfl⟩
    replace H : (some (([ji13, ji14] : List Int))) = some r := by first | (rw [hji14] at H; exact H) | (simp only [hji14] at H ⊢; exact H)
    have hji14_ : (if a0_4 < a0_5 then a0_5 else a0_4) = ji14 := hji14; obtain ⟨y207, hy207⟩ : ∃ y_ : List Int, y_ = (([ji13, ji14] : List Int)) := ⟨_, rfl⟩
    replace H : (some y207) = some r := by first | (rw [hy207]; with_reducible exact H) | (have H2_ := (Option.bind_some _ _).symm.trans H; rw [hy207]; with_reducible exact H2_) | (have H2_ := (Option.bind_some _ _).symm.trans H; with_reducible exact H2_) | with_reducible exact H | (rw [hy207]; exact H) | exact H
    have Ny207 := Aside0.mk hy207; clear hy207; obtain rfl := Option.some.inj H; go_enter Try.func58, Try.ntmps58; go_wp2_with (first | ((with_reducible refine gate_dst (N := 1) rfl ?_); refine box_event ?hg (N := 1) ?hd (cs := #[.int .i64 a0_0, .int .i64 a0_1, .int .i64 a0_2, .int .i64 a0_3, .int .i64 a0_4, .int .i64 a0_5, .slice A0_6 l0_6.length c0_6]) (t := 52) ?hr ?_; (case hd => rfl); (case hg => rfl); (case hr => first | (go_simp; done) | (go_simp; rfl)); intro gb200 hg w15 hbox hb; have n0_ := Aside0.mk (below_step (by repeat (first | (with_reducible first | exact HB.out | apply zq5 | apply zq4 | apply zq6) | exact HB.out)) hb); have n1_ := Aside0.mk (hbox); have n2_ := Aside0.mk ((by rw [hg]; exact (below_size (by repeat (first | (with_reducible first | exact HB.out | apply zq5 | apply zq4 | apply zq6) | exact HB.out))) : w.heap.size ≤ gb200)); have n3_ := Aside0.mk ((by rw [hg]; exact (below_size (by repeat (first | (with_reducible first | exact HB.out | apply zq5 | apply zq4 | apply zq6) | exact HB.out))) : w.heap.size ≤ gb200)); clear HB; have HB := n0_; have BK200 := n1_; have GW200 := n2_; have GE200 := n3_; clear n0_ n1_ n2_ n3_; clear hb hbox hg; have hcz16_0 : w15.cell? ⟨gb200, 0, none⟩ = some (.int .i64 a0_0) := (blk_cell BK200.out 0).trans rfl; have hcz16_1 : w15.cell? ⟨gb200, 1, none⟩ = some (.int .i64 a0_1) := (blk_cell BK200.out 1).trans rfl; have hcz16_2 : w15.cell? ⟨gb200, 2, none⟩ = some (.int .i64 a0_2) := (blk_cell BK200.out 2).trans rfl; have hcz16_3 : w15.cell? ⟨gb200, 3, none⟩ = some (.int .i64 a0_3) := (blk_cell BK200.out 3).trans rfl; have hcz16_4 : w15.cell? ⟨gb200, 4, none⟩ = some (.int .i64 a0_4) := (blk_cell BK200.out 4).trans rfl; have hcz16_5 : w15.cell? ⟨gb200, 5, none⟩ = some (.int .i64 a0_5) := (blk_cell BK200.out 5).trans rfl; have hcz16_6 : w15.cell? ⟨gb200, 6, none⟩ = some (.slice A0_6 l0_6.length c0_6) := (blk_cell BK200.out 6).trans rfl; have hfz16_0 := blk_frozen BK200.out 0; have hfz16_1 := blk_frozen BK200.out 1; have hfz16_2 := blk_frozen BK200.out 2; have hfz16_3 := blk_frozen BK200.out 3; have hfz16_4 := blk_frozen BK200.out 4; have hfz16_5 := blk_frozen BK200.out 5; have hfz16_6 := blk_frozen BK200.out 6) | ((with_reducible refine gate_dst (N := 30) rfl ?_); refine Kd.R_lit (Kd.int .i64) _ 3 ?hg (N := 30) ?hd (xs := ([ji13, ji14] : List Int)) (inner := [.int .i64 ji13, .int .i64 ji14]) (ok := fun _ => True) (okp := fun _ => True) ?hr ?hp (fun _ hk => hk) trivial (Below.refl _ _) (Nat.le_refl _) (by simp) ?_; (case hd => rfl); (case hg => rfl); (case hr => first | (go_simp; done) | (go_simp; rfl)); (case hp => exact (Reps.one (show Kd.M (Kd.int .i64) _ _ _ ji13 [.int .i64 ji13] from rfl) (Reps.one (show Kd.M (Kd.int .i64) _ _ _ ji14 [.int .i64 ji14] from rfl) (Reps.none _ _)))); intro v208 w17 ho18 hb hg_ hnew_; clear hg_ hnew_; (first | rw [← Ny207.out] at ho18 | (simp only [Int.reduceToNat] at ho18; rw [← Ny207.out] at ho18)); have n0_ := Aside0.mk (Kd.R_lower ho18 (below_size (by repeat (first | (with_reducible first | exact HB.out | apply zq5 | apply zq4 | apply zq6 | refine below_set ?_ GE200.out) | exact HB.out)))); have n1_ := Aside0.mk (blk_below (g := gb200) (o := .cells #[.int .i64 a0_0, .int .i64 a0_1, .int .i64 a0_2, .int .i64 a0_3, .int .i64 a0_4, .int .i64 a0_5, .slice A0_6 l0_6.length c0_6] 52 (0, 0)) (by (with_reducible repeat (first | refine zq1 ?_ _ | refine zq2 ?_ | refine zq3 ?_ _)); exact BK200.out) hb); have n2_ := Aside0.mk (below_step (by repeat (first | (with_reducible first | exact HB.out | apply zq5 | apply zq4 | apply zq6 | refine below_set ?_ GE200.out) | exact HB.out)) hb); clear BK200; clear HB; have HO209 := n0_; have BK200 := n1_; have HB := n2_; clear n0_ n1_ n2_; clear hb ho18)); go_ret
    exact ⟨_, by first | rfl | (simp [errW_none, errW_some] <;> rfl) | (simp only [← hji13, ← hji14]; first | rfl | (simp [errW_none, errW_some] <;> rfl)) | (simp [*, errW_none, errW_some] <;> rfl), by (with_reducible repeat (first | apply Kd.R_alloc | apply Kd.R_drewN | apply Kd.R_drew)); exact HO209.out, by repeat (first | (with_reducible first | exact HB.out | apply zq5 | apply zq4 | apply zq6 | refine below_set ?_ GE200.out) | exact HB.out)⟩
  ·rw [if_neg c7] at H
   have c7b0 : (a0_0 == 22) = false := beq_eq_false_iff_ne.mpr c7; have c7b1 : (a0_0 != 22) = true := bne_iff_ne.mpr c7; obtain rfl := Option.some.inj H; go_enter Try.func58, Try.ntmps58; go_wp2_with (first | ((with_reducible refine gate_dst (N := 1) rfl ?_); refine box_event ?hg (N := 1) ?hd (cs := #[.int .i64 a0_0, .int .i64 a0_1, .int .i64 a0_2, .int .i64 a0_3, .int .i64 a0_4, .int .i64 a0_5, .slice A0_6 l0_6.length c0_6]) (t := 52) ?hr ?_; (case hd => rfl); (case hg => rfl); (case hr => first | (go_simp; done) | (go_simp; rfl)); intro gb200 hg w19 hbox hb; have n0_ := Aside0.mk (below_step (by repeat (first | (with_reducible first | exact HB.out | apply zq5 | apply zq4 | apply zq6) | exact HB.out)) hb); have n1_ := Aside0.mk (hbox); have n2_ := Aside0.mk ((by rw [hg]; exact (below_size (by repeat (first | (with_reducible first | exact HB.out | apply zq5 | apply zq4 | apply zq6) | exact HB.out))) : w.heap.size ≤ gb200)); have n3_ := Aside0.mk ((by rw [hg]; exact (below_size (by repeat (first | (with_reducible first | exact HB.out | apply zq5 | apply zq4 | apply zq6) | exact HB.out))) : w.heap.size ≤ gb200)); clear HB; have HB := n0_; have BK200 := n1_; have GW200 := n2_; have GE200 := n3_; clear n0_ n1_ n2_ n3_; clear hb hbox hg; have hcz20_0 : w19.cell? ⟨gb200, 0, none⟩ = some (.int .i64 a0_0) := (blk_cell BK200.out 0).trans rfl; have hcz20_1 : w19.cell? ⟨gb200, 1, none⟩ = some (.int .i64 a0_1) := (blk_cell BK200.out 1).trans rfl; have hcz20_2 : w19.cell? ⟨gb200, 2, none⟩ = some (.int .i64 a0_2) := (blk_cell BK200.out 2).trans rfl; have hcz20_3 : w19.cell? ⟨gb200, 3, none⟩ = some (.int .i64 a0_3) := (blk_cell BK200.out 3).trans rfl; have hcz20_4 : w19.cell? ⟨gb200, 4, none⟩ = some (.int .i64 a0_4) := (blk_cell BK200.out 4).trans rfl; have hcz20_5 : w19.cell? ⟨gb200, 5, none⟩ = some (.int .i64 a0_5) := (blk_cell BK200.out 5).trans rfl; have hcz20_6 : w19.cell? ⟨gb200, 6, none⟩ = some (.slice A0_6 l0_6.length c0_6) := (blk_cell BK200.out 6).trans rfl; have hfz20_0 := blk_frozen BK200.out 0; have hfz20_1 := blk_frozen BK200.out 1; have hfz20_2 := blk_frozen BK200.out 2; have hfz20_3 := blk_frozen BK200.out 3; have hfz20_4 := blk_frozen BK200.out 4; have hfz20_5 := blk_frozen BK200.out 5; have hfz20_6 := blk_frozen BK200.out 6)); go_ret
   exact ⟨_, by first | rfl | (simp [errW_none, errW_some] <;> rfl) | (simp [*, errW_none, errW_some] <;> rfl), by first | exact Kd.R_nil _ _ _ _ _ | exact Kd.N_nil _ _ _ _ _ | exact Kd.V_nil _ _ _ _ _ | exact Kd.Q_nil _ _ _ _ _ | exact Kd.S_nil _ _ _ _ _, by repeat (first | (with_reducible first | exact HB.out | apply zq5 | apply zq4 | apply zq6 | refine below_set ?_ GE200.out) | exact HB.out)⟩
mutual
def portolanref03_Parts.j0 : Nat → Int → Bool → Option (ByteArray)
 | 0, _, _ => none
 | k + 1, x3, x6 => if x6 = true then (some (⟨#[68, 65]⟩ : ByteArray)) else (if x3 = 3 then (portolanref03_Parts.j1 k x3 (x3 == 3)) else (if x3 = 4 then (portolanref03_Parts.j1 k x3 (x3 == 4)) else (if x3 = 5 then (portolanref03_Parts.j1 k x3 (x3 == 5)) else (if x3 = 6 then (portolanref03_Parts.j1 k x3 (x3 == 6)) else (portolanref03_Parts.j1 k x3 (x3 == 9))))))
def portolanref03_Parts.j1 : Nat → Int → Bool → Option (ByteArray)
 | 0, _, _ => none
 | k + 1, x3, x10 => if x10 = true then (some (⟨#[68, 65, 66]⟩ : ByteArray)) else (if x3 = 7 then (some (⟨#[68]⟩ : ByteArray)) else (if x3 = 10 then (some (⟨#[68, 78, 77]⟩ : ByteArray)) else (if x3 = 11 then (portolanref03_Parts.j2 k x3 (x3 == 11)) else (if x3 = 13 then (portolanref03_Parts.j2 k x3 (x3 == 13)) else (portolanref03_Parts.j2 k x3 (x3 == 15))))))
def portolanref03_Parts.j2 : Nat → Int → Bool → Option (ByteArray)
 | 0, _, _ => none
 | k + 1, x3, x20 => if x20 = true then (some (⟨#[68, 65, 78]⟩ : ByteArray)) else (if x3 = 12 then (portolanref03_Parts.j3 k x3 (x3 == 12)) else (portolanref03_Parts.j3 k x3 (x3 == 14)))
def portolanref03_Parts.j3 : Nat → Int → Bool → Option (ByteArray)
 | 0, _, _ => none
 | k + 1, x3, x24 => if x24 = true then (some (⟨#[65, 78, 66]⟩ : ByteArray)) else (if x3 = 16 then (some (⟨#[68, 65, 110]⟩ : ByteArray)) else (if x3 = 18 then (some (⟨#[65, 66]⟩ : ByteArray)) else (if x3 = 19 then (some (⟨#[68, 78, 76]⟩ : ByteArray)) else (if x3 = 20 then (portolanref03_Parts.j4 k x3 (x3 == 20)) else (portolanref03_Parts.j4 k x3 (x3 == 23))))))
def portolanref03_Parts.j4 : Nat → Int → Bool → Option (ByteArray)
 | 0, _, _ => none
 | k + 1, x3, x33 => if x33 = true then (some (⟨#[65]⟩ : ByteArray)) else (if x3 = 21 then (some (⟨#[78]⟩ : ByteArray)) else (if x3 = 22 then (some (⟨#[65, 78, 77]⟩ : ByteArray)) else (some (⟨#[]⟩ : ByteArray))))
end
def portolanref03_Parts.f (k : Nat) (a0 : Int) : Option (ByteArray) := if a0 = 1 then (some (⟨#[68, 110]⟩ : ByteArray)) else (if a0 = 2 then (portolanref03_Parts.j0 k a0 (a0 == 2)) else (if a0 = 8 then (portolanref03_Parts.j0 k a0 (a0 == 8)) else (portolanref03_Parts.j0 k a0 (a0 == 17))))
set_option maxHeartbeats 8000000 in
set_option maxRecDepth 100000 in
theorem portolanref03_Parts.calls (k : Nat) (a0 : Int) (r : ByteArray) (w : World) (h : portolanref03_Parts.f k a0 = some r) :
  Calls Try.prog 113 #[.int .i64 a0] w fun e w' => e = .returned (.string r) ∧ Drawn0 w w' := by
 have H : (if a0 = 1 then (some (⟨#[68, 110]⟩ : ByteArray)) else (if a0 = 2 then (portolanref03_Parts.j0 k a0 (a0 == 2)) else (if a0 = 8 then (portolanref03_Parts.j0 k a0 (a0 == 8)) else (portolanref03_Parts.j0 k a0 (a0 == 17))))) = some r := h; clear h; by_cases c2 : a0 = 1
 ·rw [if_pos c2] at H
  have c2b0 : (a0 == 1) = true := beq_iff_eq.mpr c2; have c2b1 : (a0 != 1) = false := bne_eq_false_iff_eq.mpr c2; clear c2; obtain rfl := Option.some.inj H; go_enter Try.func113, Try.ntmps113; go_wp2; go_ret
  exact ⟨by first | rfl | (simp; done) | (simp [*]; done), by repeat (first | exact Drawn0.refl _ | apply Drawn0.step)⟩
 ·rw [if_neg c2] at H
  have c2b0 : (a0 == 1) = false := beq_eq_false_iff_ne.mpr c2; have c2b1 : (a0 != 1) = true := bne_iff_ne.mpr c2; have HC3 := Aside0.mk H; clear H; go_enter Try.func113, Try.ntmps113; go_upto_if 6 with (fail)
  go_cut [6] (fun v6 wc => ∃ (kq : Nat) (x6_2 : Bool), v6 = .bool x6_2 ∧ Aside0 (portolanref03_Parts.j0 kq a0 x6_2 = some r) ∧ Aside0 (kq ≤ k) ∧ Drawn0 w wc)
  case first =>
   have H := HC3.out; clear HC3; by_cases c4 : a0 = 2
   ·rw [if_pos c4] at H
    have c4b0 : (a0 == 2) = true := beq_iff_eq.mpr c4; have c4b1 : (a0 != 2) = false := bne_eq_false_iff_eq.mpr c4; clear c4; (first | rw [c4b0] | (simp only [i64_w, i32_w]; rw [c4b0]) | skip)
    have H' := Aside0.mk H; clear H; go_wp2; go_meet
    case rel => exact ⟨_, ((a0 == 2)), (by first | rfl | (simp; done) | (simp [*]; done)), H', ⟨by first | omega | exact Nat.le_refl _⟩, by repeat (first | exact Drawn0.refl _ | apply Drawn0.step)⟩
   ·rw [if_neg c4] at H
    have c4b0 : (a0 == 2) = false := beq_eq_false_iff_ne.mpr c4; have c4b1 : (a0 != 2) = true := bne_iff_ne.mpr c4; (first | rw [c4b0] | (simp only [i64_w, i32_w]; rw [c4b0]) | skip)
    by_cases c5 : a0 = 8
    ·rw [if_pos c5] at H
     have c5b0 : (a0 == 8) = true := beq_iff_eq.mpr c5; have c5b1 : (a0 != 8) = false := bne_eq_false_iff_eq.mpr c5; clear c5; have H' := Aside0.mk H; clear H; go_wp2; go_meet
     case rel => exact ⟨_, ((a0 == 8)), (by first | rfl | (simp; done) | (simp [*]; done)), H', ⟨by first | omega | exact Nat.le_refl _⟩, by repeat (first | exact Drawn0.refl _ | apply Drawn0.step)⟩
    ·rw [if_neg c5] at H
     have c5b0 : (a0 == 8) = false := beq_eq_false_iff_ne.mpr c5; have c5b1 : (a0 != 8) = true := bne_iff_ne.mpr c5; have H' := Aside0.mk H; clear H; go_wp2; go_meet
     case rel => exact ⟨_, ((a0 == 17)), (by first | rfl | (simp; done) | (simp [*]; done)), H', ⟨by first | omega | exact Nat.le_refl _⟩, by repeat (first | exact Drawn0.refl _ | apply Drawn0.step)⟩
  case rest =>
   clear HC3; try clear c2
   obtain ⟨kq, x6_2, rfl, HA, HJ2, ⟨mc2, rfl⟩⟩ := hcut; cases kq with
   | zero => exact absurd HA.out (by simp [portolanref03_Parts.j0])
   | succ kj2 =>
    have H := HA.out; clear HA; simp only [portolanref03_Parts.j0] at H; by_cases c6 : x6_2 = true
    ·subst c6
     have H1 : (some (⟨#[68, 65]⟩ : ByteArray)) = some r := by first | (rw [if_pos rfl] at H; exact H) | rfl
     clear H; have H := H1; clear H1; obtain rfl := Option.some.inj H; go_wp2; go_ret
     exact ⟨by first | rfl | (simp; done) | (simp [*]; done), by repeat (first | exact Drawn0.refl _ | apply Drawn0.step)⟩
    ·replace c6 := Bool.eq_false_iff.mpr c6
     subst c6; have H1 : (if a0 = 3 then (portolanref03_Parts.j1 kj2 a0 (a0 == 3)) else (if a0 = 4 then (portolanref03_Parts.j1 kj2 a0 (a0 == 4)) else (if a0 = 5 then (portolanref03_Parts.j1 kj2 a0 (a0 == 5)) else (if a0 = 6 then (portolanref03_Parts.j1 kj2 a0 (a0 == 6)) else (portolanref03_Parts.j1 kj2 a0 (a0 == 9)))))) = some r := by first | (rw [if_neg (show ¬ (false = true) by decide)] at H; exact H) | rfl
     clear H; have H := H1; clear H1; have HC7 := Aside0.mk H; clear H; go_upto_if 10 with (fail)
     go_cut [10] (fun v10 wc => ∃ (kq : Nat) (x10_6 : Bool), v10 = .bool x10_6 ∧ Aside0 (portolanref03_Parts.j1 kq a0 x10_6 = some r) ∧ Aside0 (kq ≤ kj2) ∧ Drawn0 w wc)
     case first =>
      have H := HC7.out; clear HC7; by_cases c8 : a0 = 3
      ·rw [if_pos c8] at H
       have c8b0 : (a0 == 3) = true := beq_iff_eq.mpr c8; have c8b1 : (a0 != 3) = false := bne_eq_false_iff_eq.mpr c8; clear c8; (first | rw [c8b0] | (simp only [i64_w, i32_w]; rw [c8b0]) | skip)
       have H' := Aside0.mk H; clear H; go_wp2; go_meet
       case rel => exact ⟨_, ((a0 == 3)), (by first | rfl | (simp; done) | (simp [*]; done)), H', ⟨by have := HJ2.out; first | omega | exact Nat.le_refl _⟩, by repeat (first | exact Drawn0.refl _ | apply Drawn0.step)⟩
      ·rw [if_neg c8] at H
       have c8b0 : (a0 == 3) = false := beq_eq_false_iff_ne.mpr c8; have c8b1 : (a0 != 3) = true := bne_iff_ne.mpr c8; (first | rw [c8b0] | (simp only [i64_w, i32_w]; rw [c8b0]) | skip)
       by_cases c9 : a0 = 4
       ·rw [if_pos c9] at H
        have c9b0 : (a0 == 4) = true := beq_iff_eq.mpr c9; have c9b1 : (a0 != 4) = false := bne_eq_false_iff_eq.mpr c9; clear c9; have H' := Aside0.mk H; clear H; go_wp2; go_meet
        case rel => exact ⟨_, ((a0 == 4)), (by first | rfl | (simp; done) | (simp [*]; done)), H', ⟨by have := HJ2.out; first | omega | exact Nat.le_refl _⟩, by repeat (first | exact Drawn0.refl _ | apply Drawn0.step)⟩
       ·rw [if_neg c9] at H
        have c9b0 : (a0 == 4) = false := beq_eq_false_iff_ne.mpr c9; have c9b1 : (a0 != 4) = true := bne_iff_ne.mpr c9; by_cases c10 : a0 = 5
        ·rw [if_pos c10] at H
         have c10b0 : (a0 == 5) = true := beq_iff_eq.mpr c10; have c10b1 : (a0 != 5) = false := bne_eq_false_iff_eq.mpr c10; clear c10; have H' := Aside0.mk H; clear H; go_wp2; go_meet
         case rel => exact ⟨_, ((a0 == 5)), (by first | rfl | (simp; done) | (simp [*]; done)), H', ⟨by have := HJ2.out; first | omega | exact Nat.le_refl _⟩, by repeat (first | exact Drawn0.refl _ | apply Drawn0.step)⟩
        ·rw [if_neg c10] at H
         have c10b0 : (a0 == 5) = false := beq_eq_false_iff_ne.mpr c10; have c10b1 : (a0 != 5) = true := bne_iff_ne.mpr c10; by_cases c11 : a0 = 6
         ·rw [if_pos c11] at H
          have c11b0 : (a0 == 6) = true := beq_iff_eq.mpr c11; have c11b1 : (a0 != 6) = false := bne_eq_false_iff_eq.mpr c11; clear c11; have H' := Aside0.mk H; clear H; go_wp2; go_meet
          case rel => exact ⟨_, ((a0 == 6)), (by first | rfl | (simp; done) | (simp [*]; done)), H', ⟨by have := HJ2.out; first | omega | exact Nat.le_refl _⟩, by repeat (first | exact Drawn0.refl _ | apply Drawn0.step)⟩
         ·rw [if_neg c11] at H
          have c11b0 : (a0 == 6) = false := beq_eq_false_iff_ne.mpr c11; have c11b1 : (a0 != 6) = true := bne_iff_ne.mpr c11; have H' := Aside0.mk H; clear H; go_wp2; go_meet
          case rel => exact ⟨_, ((a0 == 9)), (by first | rfl | (simp; done) | (simp [*]; done)), H', ⟨by have := HJ2.out; first | omega | exact Nat.le_refl _⟩, by repeat (first | exact Drawn0.refl _ | apply Drawn0.step)⟩
     case rest =>
      clear HC7; (try clear c2); (try clear c6); obtain ⟨kq, x10_6, rfl, HA, HJ6, ⟨mc6, rfl⟩⟩ := hcut; cases kq with
      | zero => exact absurd HA.out (by simp [portolanref03_Parts.j1])
      | succ kj6 =>
       have H := HA.out; clear HA; simp only [portolanref03_Parts.j1] at H; by_cases c12 : x10_6 = true
       ·subst c12
        have H1 : (some (⟨#[68, 65, 66]⟩ : ByteArray)) = some r := by first | (rw [if_pos rfl] at H; exact H) | rfl
        clear H; have H := H1; clear H1; obtain rfl := Option.some.inj H; go_wp2; go_ret
        exact ⟨by first | rfl | (simp; done) | (simp [*]; done), by repeat (first | exact Drawn0.refl _ | apply Drawn0.step)⟩
       ·replace c12 := Bool.eq_false_iff.mpr c12
        subst c12; have H1 : (if a0 = 7 then (some (⟨#[68]⟩ : ByteArray)) else (if a0 = 10 then (some (⟨#[68, 78, 77]⟩ : ByteArray)) else (if a0 = 11 then (portolanref03_Parts.j2 kj6 a0 (a0 == 11)) else (if a0 = 13 then (portolanref03_Parts.j2 kj6 a0 (a0 == 13)) else (portolanref03_Parts.j2 kj6 a0 (a0 == 15)))))) = some r := by first | (rw [if_neg (show ¬ (false = true) by decide)] at H; exact H) | rfl
        clear H; have H := H1; clear H1; by_cases c13 : a0 = 7
        ·rw [if_pos c13] at H
         have c13b0 : (a0 == 7) = true := beq_iff_eq.mpr c13; have c13b1 : (a0 != 7) = false := bne_eq_false_iff_eq.mpr c13; clear c13; obtain rfl := Option.some.inj H; go_wp2; go_ret
         exact ⟨by first | rfl | (simp; done) | (simp [*]; done), by repeat (first | exact Drawn0.refl _ | apply Drawn0.step)⟩
        ·rw [if_neg c13] at H
         have c13b0 : (a0 == 7) = false := beq_eq_false_iff_ne.mpr c13; have c13b1 : (a0 != 7) = true := bne_iff_ne.mpr c13; by_cases c14 : a0 = 10
         ·rw [if_pos c14] at H
          have c14b0 : (a0 == 10) = true := beq_iff_eq.mpr c14; have c14b1 : (a0 != 10) = false := bne_eq_false_iff_eq.mpr c14; clear c14; obtain rfl := Option.some.inj H; go_wp2; go_ret
          exact ⟨by first | rfl | (simp; done) | (simp [*]; done), by repeat (first | exact Drawn0.refl _ | apply Drawn0.step)⟩
         ·rw [if_neg c14] at H
          have c14b0 : (a0 == 10) = false := beq_eq_false_iff_ne.mpr c14; have c14b1 : (a0 != 10) = true := bne_iff_ne.mpr c14; have HC15 := Aside0.mk H; clear H; go_upto_if 20 with (fail)
          go_cut [20] (fun v20 wc => ∃ (kq : Nat) (x20_14 : Bool), v20 = .bool x20_14 ∧ Aside0 (portolanref03_Parts.j2 kq a0 x20_14 = some r) ∧ Aside0 (kq ≤ kj6) ∧ Drawn0 w wc)
          case first =>
           have H := HC15.out; clear HC15; by_cases c16 : a0 = 11
           ·rw [if_pos c16] at H
            have c16b0 : (a0 == 11) = true := beq_iff_eq.mpr c16; have c16b1 : (a0 != 11) = false := bne_eq_false_iff_eq.mpr c16; clear c16; (first | rw [c16b0] | (simp only [i64_w, i32_w]; rw [c16b0]) | skip)
            have H' := Aside0.mk H; clear H; go_wp2; go_meet
            case rel => exact ⟨_, ((a0 == 11)), (by first | rfl | (simp; done) | (simp [*]; done)), H', ⟨by have := HJ2.out; have := HJ6.out; first | omega | exact Nat.le_refl _⟩, by repeat (first | exact Drawn0.refl _ | apply Drawn0.step)⟩
           ·rw [if_neg c16] at H
            have c16b0 : (a0 == 11) = false := beq_eq_false_iff_ne.mpr c16; have c16b1 : (a0 != 11) = true := bne_iff_ne.mpr c16; (first | rw [c16b0] | (simp only [i64_w, i32_w]; rw [c16b0]) | skip)
            by_cases c17 : a0 = 13
            ·rw [if_pos c17] at H
             have c17b0 : (a0 == 13) = true := beq_iff_eq.mpr c17; have c17b1 : (a0 != 13) = false := bne_eq_false_iff_eq.mpr c17; clear c17; have H' := Aside0.mk H; clear H; go_wp2; go_meet
             case rel => exact ⟨_, ((a0 == 13)), (by first | rfl | (simp; done) | (simp [*]; done)), H', ⟨by have := HJ2.out; have := HJ6.out; first | omega | exact Nat.le_refl _⟩, by repeat (first | exact Drawn0.refl _ | apply Drawn0.step)⟩
            ·rw [if_neg c17] at H
             have c17b0 : (a0 == 13) = false := beq_eq_false_iff_ne.mpr c17; have c17b1 : (a0 != 13) = true := bne_iff_ne.mpr c17; have H' := Aside0.mk H; clear H; go_wp2; go_meet
             case rel => exact ⟨_, ((a0 == 15)), (by first | rfl | (simp; done) | (simp [*]; done)), H', ⟨by have := HJ2.out; have := HJ6.out; first | omega | exact Nat.le_refl _⟩, by repeat (first | exact Drawn0.refl _ | apply Drawn0.step)⟩
          case rest =>
           clear HC15; (try clear c2); (try clear c6); (try clear c12); obtain ⟨kq, x20_14, rfl, HA, HJ14, ⟨mc14, rfl⟩⟩ := hcut; cases kq with
           | zero => exact absurd HA.out (by simp [portolanref03_Parts.j2])
           | succ kj14 =>
            have H := HA.out; clear HA; simp only [portolanref03_Parts.j2] at H; by_cases c18 : x20_14 = true
            ·subst c18
             have H1 : (some (⟨#[68, 65, 78]⟩ : ByteArray)) = some r := by first | (rw [if_pos rfl] at H; exact H) | rfl
             clear H; have H := H1; clear H1; obtain rfl := Option.some.inj H; go_wp2; go_ret
             exact ⟨by first | rfl | (simp; done) | (simp [*]; done), by repeat (first | exact Drawn0.refl _ | apply Drawn0.step)⟩
            ·replace c18 := Bool.eq_false_iff.mpr c18
             subst c18; have H1 : (if a0 = 12 then (portolanref03_Parts.j3 kj14 a0 (a0 == 12)) else (portolanref03_Parts.j3 kj14 a0 (a0 == 14))) = some r := by first | (rw [if_neg (show ¬ (false = true) by decide)] at H; exact H) | rfl
             clear H; have H := H1; clear H1; have HC19 := Aside0.mk H; clear H; go_upto_if 24 with (fail)
             go_cut [24] (fun v24 wc => ∃ (kq : Nat) (x24_18 : Bool), v24 = .bool x24_18 ∧ Aside0 (portolanref03_Parts.j3 kq a0 x24_18 = some r) ∧ Aside0 (kq ≤ kj14) ∧ Drawn0 w wc)
             case first =>
              have H := HC19.out; clear HC19; by_cases c20 : a0 = 12
              ·rw [if_pos c20] at H
               have c20b0 : (a0 == 12) = true := beq_iff_eq.mpr c20; have c20b1 : (a0 != 12) = false := bne_eq_false_iff_eq.mpr c20; clear c20; (first | rw [c20b0] | (simp only [i64_w, i32_w]; rw [c20b0]) | skip)
               have H' := Aside0.mk H; clear H; go_wp2; go_meet
               case rel => exact ⟨_, ((a0 == 12)), (by first | rfl | (simp; done) | (simp [*]; done)), H', ⟨by have := HJ2.out; have := HJ6.out; have := HJ14.out; first | omega | exact Nat.le_refl _⟩, by repeat (first | exact Drawn0.refl _ | apply Drawn0.step)⟩
              ·rw [if_neg c20] at H
               have c20b0 : (a0 == 12) = false := beq_eq_false_iff_ne.mpr c20; have c20b1 : (a0 != 12) = true := bne_iff_ne.mpr c20; (first | rw [c20b0] | (simp only [i64_w, i32_w]; rw [c20b0]) | skip)
               have H' := Aside0.mk H; clear H; go_wp2; go_meet
               case rel => exact ⟨_, ((a0 == 14)), (by first | rfl | (simp; done) | (simp [*]; done)), H', ⟨by have := HJ2.out; have := HJ6.out; have := HJ14.out; first | omega | exact Nat.le_refl _⟩, by repeat (first | exact Drawn0.refl _ | apply Drawn0.step)⟩
             case rest =>
              clear HC19; (try clear c2); (try clear c6); (try clear c12); (try clear c18); obtain ⟨kq, x24_18, rfl, HA, HJ18, ⟨mc18, rfl⟩⟩ := hcut; cases kq with
              | zero => exact absurd HA.out (by simp [portolanref03_Parts.j3])
              | succ kj18 =>
               have H := HA.out; clear HA; simp only [portolanref03_Parts.j3] at H; by_cases c21 : x24_18 = true
               ·subst c21
                have H1 : (some (⟨#[65, 78, 66]⟩ : ByteArray)) = some r := by first | (rw [if_pos rfl] at H; exact H) | rfl
                clear H; have H := H1; clear H1; obtain rfl := Option.some.inj H; go_wp2; go_ret
                exact ⟨by first | rfl | (simp; done) | (simp [*]; done), by repeat (first | exact Drawn0.refl _ | apply Drawn0.step)⟩
               ·replace c21 := Bool.eq_false_iff.mpr c21
                subst c21; have H1 : (if a0 = 16 then (some (⟨#[68, 65, 110]⟩ : ByteArray)) else (if a0 = 18 then (some (⟨#[65, 66]⟩ : ByteArray)) else (if a0 = 19 then (some (⟨#[68, 78, 76]⟩ : ByteArray)) else (if a0 = 20 then (portolanref03_Parts.j4 kj18 a0 (a0 == 20)) else (portolanref03_Parts.j4 kj18 a0 (a0 == 23)))))) = some r := by first | (rw [if_neg (show ¬ (false = true) by decide)] at H; exact H) | rfl
                clear H; have H := H1; clear H1; by_cases c22 : a0 = 16
                ·rw [if_pos c22] at H
                 have c22b0 : (a0 == 16) = true := beq_iff_eq.mpr c22; have c22b1 : (a0 != 16) = false := bne_eq_false_iff_eq.mpr c22; clear c22; obtain rfl := Option.some.inj H; go_wp2; go_ret
                 exact ⟨by first | rfl | (simp; done) | (simp [*]; done), by repeat (first | exact Drawn0.refl _ | apply Drawn0.step)⟩
                ·rw [if_neg c22] at H
                 have c22b0 : (a0 == 16) = false := beq_eq_false_iff_ne.mpr c22; have c22b1 : (a0 != 16) = true := bne_iff_ne.mpr c22; by_cases c23 : a0 = 18
                 ·rw [if_pos c23] at H
                  have c23b0 : (a0 == 18) = true := beq_iff_eq.mpr c23; have c23b1 : (a0 != 18) = false := bne_eq_false_iff_eq.mpr c23; clear c23; obtain rfl := Option.some.inj H; go_wp2; go_ret
                  exact ⟨by first | rfl | (simp; done) | (simp [*]; done), by repeat (first | exact Drawn0.refl _ | apply Drawn0.step)⟩
                 ·rw [if_neg c23] at H
                  have c23b0 : (a0 == 18) = false := beq_eq_false_iff_ne.mpr c23; have c23b1 : (a0 != 18) = true := bne_iff_ne.mpr c23; by_cases c24 : a0 = 19
                  ·rw [if_pos c24] at H
                   have c24b0 : (a0 == 19) = true := beq_iff_eq.mpr c24; have c24b1 : (a0 != 19) = false := bne_eq_false_iff_eq.mpr c24; clear c24; obtain rfl := Option.some.inj H; go_wp2; go_ret
                   exact ⟨by first | rfl | (simp; done) | (simp [*]; done), by repeat (first | exact Drawn0.refl _ | apply Drawn0.step)⟩
                  ·rw [if_neg c24] at H
                   have c24b0 : (a0 == 19) = false := beq_eq_false_iff_ne.mpr c24; have c24b1 : (a0 != 19) = true := bne_iff_ne.mpr c24; have HC25 := Aside0.mk H; clear H; go_upto_if 33 with (fail)
                   go_cut [33] (fun v33 wc => ∃ (kq : Nat) (x33_24 : Bool), v33 = .bool x33_24 ∧ Aside0 (portolanref03_Parts.j4 kq a0 x33_24 = some r) ∧ Aside0 (kq ≤ kj18) ∧ Drawn0 w wc)
                   case first =>
                    have H := HC25.out; clear HC25; by_cases c26 : a0 = 20
                    ·rw [if_pos c26] at H
                     have c26b0 : (a0 == 20) = true := beq_iff_eq.mpr c26; have c26b1 : (a0 != 20) = false := bne_eq_false_iff_eq.mpr c26; clear c26; (first | rw [c26b0] | (simp only [i64_w, i32_w]; rw [c26b0]) | skip)
                     have H' := Aside0.mk H; clear H; go_wp2; go_meet
                     case rel => exact ⟨_, ((a0 == 20)), (by first | rfl | (simp; done) | (simp [*]; done)), H', ⟨by have := HJ2.out; have := HJ6.out; have := HJ14.out; have := HJ18.out; first | omega | exact Nat.le_refl _⟩, by repeat (first | exact Drawn0.refl _ | apply Drawn0.step)⟩
                    ·rw [if_neg c26] at H
                     have c26b0 : (a0 == 20) = false := beq_eq_false_iff_ne.mpr c26; have c26b1 : (a0 != 20) = true := bne_iff_ne.mpr c26; (first | rw [c26b0] | (simp only [i64_w, i32_w]; rw [c26b0]) | skip)
                     have H' := Aside0.mk H; clear H; go_wp2; go_meet
                     case rel => exact ⟨_, ((a0 == 23)), (by first | rfl | (simp; done) | (simp [*]; done)), H', ⟨by have := HJ2.out; have := HJ6.out; have := HJ14.out; have := HJ18.out; first | omega | exact Nat.le_refl _⟩, by repeat (first | exact Drawn0.refl _ | apply Drawn0.step)⟩
                   case rest =>
                    clear HC25; (try clear c2); (try clear c6); (try clear c12); (try clear c18); (try clear c21); obtain ⟨kq, x33_24, rfl, HA, HJ24, ⟨mc24, rfl⟩⟩ := hcut; cases kq with
                    | zero => exact absurd HA.out (by simp [portolanref03_Parts.j4])
                    | succ kj24 =>
                     have H := HA.out; clear HA; simp only [portolanref03_Parts.j4] at H; by_cases c27 : x33_24 = true
                     ·subst c27
                      have H1 : (some (⟨#[65]⟩ : ByteArray)) = some r := by first | (rw [if_pos rfl] at H; exact H) | rfl
                      clear H; have H := H1; clear H1; obtain rfl := Option.some.inj H; go_wp2; go_ret
                      exact ⟨by first | rfl | (simp; done) | (simp [*]; done), by repeat (first | exact Drawn0.refl _ | apply Drawn0.step)⟩
                     ·replace c27 := Bool.eq_false_iff.mpr c27
                      subst c27; have H1 : (if a0 = 21 then (some (⟨#[78]⟩ : ByteArray)) else (if a0 = 22 then (some (⟨#[65, 78, 77]⟩ : ByteArray)) else (some (⟨#[]⟩ : ByteArray)))) = some r := by first | (rw [if_neg (show ¬ (false = true) by decide)] at H; exact H) | rfl
                      clear H; have H := H1; clear H1; by_cases c28 : a0 = 21
                      ·rw [if_pos c28] at H
                       have c28b0 : (a0 == 21) = true := beq_iff_eq.mpr c28; have c28b1 : (a0 != 21) = false := bne_eq_false_iff_eq.mpr c28; clear c28; obtain rfl := Option.some.inj H; go_wp2; go_ret
                       exact ⟨by first | rfl | (simp; done) | (simp [*]; done), by repeat (first | exact Drawn0.refl _ | apply Drawn0.step)⟩
                      ·rw [if_neg c28] at H
                       have c28b0 : (a0 == 21) = false := beq_eq_false_iff_ne.mpr c28; have c28b1 : (a0 != 21) = true := bne_iff_ne.mpr c28; by_cases c29 : a0 = 22
                       ·rw [if_pos c29] at H
                        have c29b0 : (a0 == 22) = true := beq_iff_eq.mpr c29; have c29b1 : (a0 != 22) = false := bne_eq_false_iff_eq.mpr c29; clear c29; obtain rfl := Option.some.inj H; go_wp2; go_ret
                        exact ⟨by first | rfl | (simp; done) | (simp [*]; done), by repeat (first | exact Drawn0.refl _ | apply Drawn0.step)⟩
                       ·rw [if_neg c29] at H
                        have c29b0 : (a0 == 22) = false := beq_eq_false_iff_ne.mpr c29; have c29b1 : (a0 != 22) = true := bne_iff_ne.mpr c29; obtain rfl := Option.some.inj H; go_wp2; go_ret
                        exact ⟨by first | rfl | (simp; done) | (simp [*]; done), by repeat (first | exact Drawn0.refl _ | apply Drawn0.step)⟩
end Go.Proofs.Ytcknmcfomkbenaa.PF
