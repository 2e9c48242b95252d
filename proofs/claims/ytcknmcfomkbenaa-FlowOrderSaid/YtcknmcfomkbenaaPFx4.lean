import Derived.Test.YtcknmcfomkbenaaPFx0
namespace Go.Proofs.Ytcknmcfomkbenaa.PF
open Go.RowKit Go.Proofs.YtcknmcfomkbenaaW.PrintWords Go.Proofs.YtcknmcfomkbenaaW.PrintLast Go.Proofs.YtcknmcfomkbenaaW.PrintMore
attribute [local go_sem] max2_int min2_int max_two min_two max_three min_three max_four min_four   -- for this text's walks alone
set_option linter.unusedVariables false
set_option linter.unusedSimpArgs false
mutual
def portolanref03_Great.l0 : Nat → Int → Int → List (S30) → Option (Bool)
 | 0, _, _, _ => none
 | k + 1, x3, x4, x177000 => if x4 < (x177000.length : Int) then (portolanref03_Great.j1 k x3 x4 (decide (x3 ≤ 3000)) x177000) else (portolanref03_Great.j1 k x3 x4 false x177000)
def portolanref03_Great.j1 : Nat → Int → Int → Bool → List (S30) → Option (Bool)
 | 0, _, _, _, _ => none
 | k + 1, x3, x4, x19, x177000 => if x19 = true then (if 0 ≤ x4 then (if x4 < (x177000.length : Int) then (portolanref03_Great.l1 k (wrap64 ((wrap64 ((wrap64 (x3 + (((rd_T30 x177000 x4).f0).length : Int))) + (((rd_T30 x177000 x4).f1).length : Int))) + (((rd_T30 x177000 x4).f4).length : Int))) x4 0 x177000 ((rd_T30 x177000 x4).f0) ((rd_T30 x177000 x4).f1) ((rd_T30 x177000 x4).f2) ((rd_T30 x177000 x4).f3) ((rd_T30 x177000 x4).f4)) else (none)) else (none)) else (some (decide (x3 > 3000)))
def portolanref03_Great.l1 : Nat → Int → Int → Int → List (S30) → List Int → List Int → Int → Int → List (S50) → Option (Bool)
 | 0, _, _, _, _, _, _, _, _, _ => none
 | k + 1, x3, x4, x6, x177000, x179000, x179001, x179002, x179003, x179004 => if x6 < (x179004.length : Int) then (portolanref03_Great.j3 k x3 x4 x6 (decide (x3 ≤ 3000)) x177000 x179000 x179001 x179002 x179003 x179004) else (portolanref03_Great.j3 k x3 x4 x6 false x177000 x179000 x179001 x179002 x179003 x179004)
def portolanref03_Great.j3 : Nat → Int → Int → Int → Bool → List (S30) → List Int → List Int → Int → Int → List (S50) → Option (Bool)
 | 0, _, _, _, _, _, _, _, _, _, _ => none
 | k + 1, x3, x4, x6, x48, x177000, x179000, x179001, x179002, x179003, x179004 => if x48 = true then (if 0 ≤ x6 then (if x6 < (x179004.length : Int) then (portolanref03_Great.l2 k (wrap64 (x3 + (((rd_T50 x179004 x6).f0).length : Int))) x4 x6 0 x177000 x179000 x179001 x179002 x179003 x179004) else (none)) else (none)) else (portolanref03_Great.l0 k x3 (wrap64 (x4 + 1)) x177000)
def portolanref03_Great.l2 : Nat → Int → Int → Int → Int → List (S30) → List Int → List Int → Int → Int → List (S50) → Option (Bool)
 | 0, _, _, _, _, _, _, _, _, _, _ => none
 | k + 1, x3, x4, x6, x7, x177000, x179000, x179001, x179002, x179003, x179004 => if 0 ≤ x6 then (if x6 < (x179004.length : Int) then (if x7 < (((rd_T50 x179004 x6).f0).length : Int) then (if x3 ≤ 3000 then (if 0 ≤ x7 then (portolanref03_Great.l2 k (wrap64 (x3 + (((rd_T52 ((rd_T50 x179004 x6).f0) x7).f6).length : Int))) x4 x6 (wrap64 (x7 + 1)) x177000 x179000 x179001 x179002 x179003 x179004) else (none)) else (portolanref03_Great.l1 k x3 x4 (wrap64 (x6 + 1)) x177000 x179000 x179001 x179002 x179003 x179004)) else (portolanref03_Great.l1 k x3 x4 (wrap64 (x6 + 1)) x177000 x179000 x179001 x179002 x179003 x179004)) else (none)) else (none)
end
def portolanref03_Great.f (k : Nat) (l0_0 : List (S30)) : Option (Bool) := portolanref03_Great.l0 k (l0_0.length : Int) 0 l0_0
set_option maxHeartbeats 8000000 in
set_option maxRecDepth 100000 in
theorem portolanref03_Great.calls (k : Nat) (A0_0 : Option Addr) (c0_0 : Nat) (l0_0 : List (S30)) (r : Bool) (w : World) (hr0_0 : Kd.C k30 w A0_0 l0_0.length l0_0) (hc0_0 : l0_0.length ≤ c0_0) (h : portolanref03_Great.f k l0_0 = some r) :
  Calls Try.prog 55 #[.agg #[.slice A0_0 l0_0.length c0_0]] w fun e w' => e = .returned (.bool r) ∧ Below w.heap.size w w' := by
 have hu24 := Try.underlying24
 have hu30 := Try.underlying30
 have HR0_0 := Aside0.mk hr0_0
 have HC0_0 := Aside0.mk hc0_0
 clear hr0_0 hc0_0
 have HB := Aside0.mk (Below.refl w.heap.size w)
 have H : (portolanref03_Great.l0 k (l0_0.length : Int) 0 l0_0) = some r := h
 clear h
 have H' := Aside0.mk H
 clear H
 go_enter Try.func55, Try.ntmps55
 go_wp2_with (first | ((with_reducible refine gate_dst (N := 1) rfl ?_); refine box_event ?hg (N := 1) ?hd (cs := #[.slice A0_0 l0_0.length c0_0]) (t := 24) ?hr ?_; (case hd => rfl); (case hg => rfl); (case hr => first | (go_simp; done) | (go_simp; rfl)); intro gb176 hg w2 hbox hb; have n0_ := Aside0.mk (below_step (by repeat (first | (with_reducible first | exact HB.out | apply zq5 | apply zq4 | apply zq6) | exact HB.out)) hb); have n1_ := Aside0.mk (hbox); have n2_ := Aside0.mk ((by rw [hg]; exact (below_size (by repeat (first | (with_reducible first | exact HB.out | apply zq5 | apply zq4 | apply zq6) | exact HB.out))) : w.heap.size ≤ gb176)); have n3_ := Aside0.mk ((by rw [hg]; exact (below_size (by repeat (first | (with_reducible first | exact HB.out | apply zq5 | apply zq4 | apply zq6) | exact HB.out))) : w.heap.size ≤ gb176)); clear HB; have HB := n0_; have BK176 := n1_; have GW176 := n2_; have GE176 := n3_; clear n0_ n1_ n2_ n3_; clear hb hbox hg; have hcz3_0 : w2.cell? ⟨gb176, 0, none⟩ = some (.slice A0_0 l0_0.length c0_0) := (blk_cell BK176.out 0).trans rfl; have hfz3_0 := blk_frozen BK176.out 0))
 go_loopg [3, 4] k (fun kq v3 v4 w' => ∃ (x3_1 : Int) (x4_1 : Int), v3 = .int .i64 x3_1 ∧ v4 = .int .i64 x4_1 ∧ Aside0 (portolanref03_Great.l0 kq x3_1 x4_1 l0_0 = some r) ∧ Aside0 (kq ≤ k) ∧ Aside0 (w'.heap[gb176]? = some (.cells #[(.slice A0_0 l0_0.length c0_0)] 24 (0, 0))) ∧ Aside0 (Below w.heap.size w w'))
 case atStart => exact ⟨((l0_0.length : Int)), (0), (by first | rfl | (simp; done) | (simp [*]; done)), (by first | rfl | (simp; done) | (simp [*]; done)), H', ⟨Nat.le_refl _⟩, ⟨by (with_reducible repeat (first | refine zq1 ?_ _ | refine zq2 ?_ | refine zq3 ?_ _)); exact BK176.out⟩, ⟨by repeat (first | (with_reducible first | exact HB.out | apply zq5 | apply zq4 | apply zq6 | refine below_set ?_ GE176.out) | exact HB.out)⟩⟩
 case round =>
  clear H'
  try clear p2
  try clear hcz3_0
  try clear hfz3_0
  obtain ⟨x3_1, x4_1, rfl, rfl, HA, HK1, BK176, HB⟩ := hrel
  cases gk with
  | zero => exact absurd HA.out (by simp [portolanref03_Great.l0])
  | succ k1 =>
   have H := HA.out
   clear HA
   simp only [portolanref03_Great.l0] at H
   have HC4 := Aside0.mk H
   clear H
   go_upto_region 3 with (fail)
   go_cut [19] (fun v19 wc => ∃ (kq : Nat) (x19_3 : Bool), v19 = .bool x19_3 ∧ Aside0 (portolanref03_Great.j1 kq x3_1 x4_1 x19_3 l0_0 = some r) ∧ Aside0 (kq ≤ k1) ∧ Aside0 (wc.heap[gb176]? = some (.cells #[(.slice A0_0 l0_0.length c0_0)] 24 (0, 0))) ∧ Aside0 (Below w.heap.size w wc))
   case first =>
    have H := HC4.out
    clear HC4
    by_cases c5 : x4_1 < (l0_0.length : Int)
    ·rw [if_pos c5] at H
     have c5b0 : decide (x4_1 < (l0_0.length : Int)) = true := decide_eq_true c5
     clear c5
     (first | rw [c5b0] | (simp only [i64_w, i32_w]; rw [c5b0]) | skip)
     have H' := Aside0.mk H
     clear H
     have hcz6_0 : wr.cell? ⟨gb176, 0, none⟩ = some (.slice A0_0 l0_0.length c0_0) := (blk_cell BK176.out 0).trans rfl
     have hfz6_0 := blk_frozen BK176.out 0
     go_wp2
     go_meet
     case rel => exact ⟨_, (decide (x3_1 ≤ 3000)), (by first | rfl | (simp; done) | (simp [*]; done)), H', ⟨by have := HK1.out; first | omega | exact Nat.le_refl _⟩, ⟨by (with_reducible repeat (first | refine zq1 ?_ _ | refine zq2 ?_ | refine zq3 ?_ _)); exact BK176.out⟩, ⟨by repeat (first | (with_reducible first | exact HB.out | apply zq5 | apply zq4 | apply zq6 | refine below_set ?_ GE176.out) | exact HB.out)⟩⟩
    ·rw [if_neg c5] at H
     have c5b0 : decide (x4_1 < (l0_0.length : Int)) = false := decide_eq_false c5
     clear c5
     (first | rw [c5b0] | (simp only [i64_w, i32_w]; rw [c5b0]) | skip)
     have H' := Aside0.mk H
     clear H
     have hcz7_0 : wr.cell? ⟨gb176, 0, none⟩ = some (.slice A0_0 l0_0.length c0_0) := (blk_cell BK176.out 0).trans rfl
     have hfz7_0 := blk_frozen BK176.out 0
     go_wp2
     go_meet
     case rel => exact ⟨_, (false), (by first | rfl | (simp; done) | (simp [*]; done)), H', ⟨by have := HK1.out; first | omega | exact Nat.le_refl _⟩, ⟨by (with_reducible repeat (first | refine zq1 ?_ _ | refine zq2 ?_ | refine zq3 ?_ _)); exact BK176.out⟩, ⟨by repeat (first | (with_reducible first | exact HB.out | apply zq5 | apply zq4 | apply zq6 | refine below_set ?_ GE176.out) | exact HB.out)⟩⟩
   case rest =>
    clear HC4
    try clear p2
    try clear c5
    try clear c5b0
    try clear hcz3_0
    try clear hcz6_0
    try clear hcz7_0
    try clear hfz3_0
    try clear hfz6_0
    try clear hfz7_0
    try clear p2
    obtain ⟨kq, x19_3, rfl, HA, HJ3, BK176, HB⟩ := hcut
    cases kq with
    | zero => exact absurd HA.out (by simp [portolanref03_Great.j1])
    | succ kj3 =>
     have H := HA.out
     clear HA
     simp only [portolanref03_Great.j1] at H
     by_cases c8 : x19_3 = true
     ·subst c8
      have H1 : (if 0 ≤ x4_1 then (if x4_1 < (l0_0.length : Int) then (portolanref03_Great.l1 kj3 (wrap64 ((wrap64 ((wrap64 (x3_1 + (((rd_T30 l0_0 x4_1).f0).length : Int))) + (((rd_T30 l0_0 x4_1).f1).length : Int))) + (((rd_T30 l0_0 x4_1).f4).length : Int))) x4_1 0 l0_0 ((rd_T30 l0_0 x4_1).f0) ((rd_T30 l0_0 x4_1).f1) ((rd_T30 l0_0 x4_1).f2) ((rd_T30 l0_0 x4_1).f3) ((rd_T30 l0_0 x4_1).f4)) else (none)) else (none)) = some r := by first | (rw [if_pos rfl] at H; exact H) | rfl
      clear H
      have H := H1
      clear H1
      by_cases c9 : 0 ≤ x4_1
      ·rw [if_pos c9] at H
       have c9b0 : decide (0 ≤ x4_1) = true := decide_eq_true c9
       clear c9
       by_cases c10 : x4_1 < (l0_0.length : Int)
       ·rw [if_pos c10] at H
        have c10b0 : decide (x4_1 < (l0_0.length : Int)) = true := decide_eq_true c10
        clear c10
        have H' := Aside0.mk H
        clear H
        have hcz11_0 : wc.cell? ⟨gb176, 0, none⟩ = some (.slice A0_0 l0_0.length c0_0) := (blk_cell BK176.out 0).trans rfl
        have hfz11_0 := blk_frozen BK176.out 0
        have p177 : 0 ≤ (x4_1 : Int) := of_decide_eq_true (by first | (with_reducible assumption) | assumption)
        have q177 : x4_1 < (l0_0.length : Int) := of_decide_eq_true (by first | (with_reducible assumption) | assumption)
        obtain ⟨ad177, A177_0, c177_0, A177_1, c177_1, A177_4, c177_4, e177, hx177_0, hx177_1, hx177_2, hx177_3, hx177_4, hl177_0, hi177_0, hl177_1, hi177_1, hl177_4, hi177_4⟩ := at_T30 HR0_0.out x4_1 p177 q177
        cases e177
        replace hx177_0 := (HB.out.cell (World.block_lt_of_cell? w _ hx177_0)).trans hx177_0
        replace hx177_1 := (HB.out.cell (World.block_lt_of_cell? w _ hx177_1)).trans hx177_1
        replace hx177_2 := (HB.out.cell (World.block_lt_of_cell? w _ hx177_2)).trans hx177_2
        replace hx177_3 := (HB.out.cell (World.block_lt_of_cell? w _ hx177_3)).trans hx177_3
        replace hx177_4 := (HB.out.cell (World.block_lt_of_cell? w _ hx177_4)).trans hx177_4
        have HR177_0 := Aside0.mk hi177_0
        have HC177_0 := Aside0.mk hl177_0
        clear hi177_0 hl177_0
        have HR177_1 := Aside0.mk hi177_1
        have HC177_1 := Aside0.mk hl177_1
        clear hi177_1 hl177_1
        have HR177_4 := Aside0.mk hi177_4
        have HC177_4 := Aside0.mk hl177_4
        clear hi177_4 hl177_4
        replace p177 := eq_true p177
        replace q177 := eq_true q177
        go_wp2_with (first | ((with_reducible refine gate_dst (N := 5) rfl ?_); refine box_event ?hg (N := 5) ?hd (cs := #[.slice none 0 0, .slice none 0 0, .int .i64 0, .int .i64 0, .slice none 0 0]) (t := 30) ?hr ?_; (case hd => rfl); (case hg => rfl); (case hr => first | (go_simp; done) | (go_simp; rfl)); intro gb178 hg w12 hbox hb; have n0_ := Aside0.mk (blk_below (g := gb176) (o := .cells #[.slice (some ad177) l0_0.length c0_0] 24 (0, 0)) (by (with_reducible repeat (first | refine zq1 ?_ _ | refine zq2 ?_ | refine zq3 ?_ _)); exact BK176.out) hb); have n1_ := Aside0.mk (below_step (by repeat (first | (with_reducible first | exact HB.out | apply zq5 | apply zq4 | apply zq6 | refine below_set ?_ GE176.out) | exact HB.out)) hb); have n2_ := Aside0.mk (hbox); have n3_ := Aside0.mk ((by rw [hg]; exact (below_size (by repeat (first | (with_reducible first | exact HB.out | apply zq5 | apply zq4 | apply zq6 | refine below_set ?_ GE176.out) | exact HB.out))) : w.heap.size ≤ gb178)); have n4_ := Aside0.mk ((by rw [hg]; exact (below_size (by repeat (first | (with_reducible first | exact HB.out | apply zq5 | apply zq4 | apply zq6 | refine below_set ?_ GE176.out) | exact HB.out))) : w.heap.size ≤ gb178)); have n5_ := Aside0.mk ((by rw [hg]; exact Nat.ne_of_lt (blk_lt (g := gb176) (o := .cells #[.slice (some ad177) l0_0.length c0_0] 24 (0, 0)) (by (with_reducible repeat (first | refine zq1 ?_ _ | refine zq2 ?_ | refine zq3 ?_ _)); exact BK176.out)) : gb176 ≠ gb178)); have n6_ := Aside0.mk ((by rw [hg]; exact Nat.ne_of_gt (blk_lt (g := gb176) (o := .cells #[.slice (some ad177) l0_0.length c0_0] 24 (0, 0)) (by (with_reducible repeat (first | refine zq1 ?_ _ | refine zq2 ?_ | refine zq3 ?_ _)); exact BK176.out)) : gb178 ≠ gb176)); clear BK176; clear HB; have BK176 := n0_; have HB := n1_; have BK178 := n2_; have GW178 := n3_; have GE178 := n4_; have NB176_178 := n5_; have NB178_176 := n6_; clear n0_ n1_ n2_ n3_ n4_ n5_ n6_; clear hb hbox hg; have hnb13 := NB178_176.out; have hnc13 := NB176_178.out; have hcz14_0 : w12.cell? ⟨gb178, 0, none⟩ = some (.slice none 0 0) := (blk_cell BK178.out 0).trans rfl; have hcz14_1 : w12.cell? ⟨gb178, 1, none⟩ = some (.slice none 0 0) := (blk_cell BK178.out 1).trans rfl; have hcz14_2 : w12.cell? ⟨gb178, 2, none⟩ = some (.int .i64 0) := (blk_cell BK178.out 2).trans rfl; have hcz14_3 : w12.cell? ⟨gb178, 3, none⟩ = some (.int .i64 0) := (blk_cell BK178.out 3).trans rfl; have hcz14_4 : w12.cell? ⟨gb178, 4, none⟩ = some (.slice none 0 0) := (blk_cell BK178.out 4).trans rfl; have hfz14_0 := blk_frozen BK178.out 0; have hfz14_1 := blk_frozen BK178.out 1; have hfz14_2 := blk_frozen BK178.out 2; have hfz14_3 := blk_frozen BK178.out 3; have hfz14_4 := blk_frozen BK178.out 4))
        go_loopg [3, 6] kj3 (fun kq v3 v6 w' => ∃ (x3_3 : Int) (x6_3 : Int), v3 = .int .i64 x3_3 ∧ v6 = .int .i64 x6_3 ∧ Aside0 (portolanref03_Great.l1 kq x3_3 x4_1 x6_3 l0_0 ((rd_T30 l0_0 x4_1).f0) ((rd_T30 l0_0 x4_1).f1) ((rd_T30 l0_0 x4_1).f2) ((rd_T30 l0_0 x4_1).f3) ((rd_T30 l0_0 x4_1).f4) = some r) ∧ Aside0 (kq ≤ kj3) ∧ Aside0 (w'.heap[gb176]? = some (.cells #[(.slice (some ad177) l0_0.length c0_0)] 24 (0, 0))) ∧ Aside0 (w'.heap[gb178]? = some (.cells #[(.slice A177_0 ((rd_T30 l0_0 x4_1).f0).length c177_0), (.slice A177_1 ((rd_T30 l0_0 x4_1).f1).length c177_1), .int .i64 ((rd_T30 l0_0 x4_1).f2), .int .i64 ((rd_T30 l0_0 x4_1).f3), (.slice A177_4 ((rd_T30 l0_0 x4_1).f4).length c177_4)] 30 (0, 0))) ∧ Aside0 (Below w.heap.size w w'))
        case atStart => exact ⟨(wrap64 ((wrap64 ((wrap64 (x3_1 + (((rd_T30 l0_0 x4_1).f0).length : Int))) + (((rd_T30 l0_0 x4_1).f1).length : Int))) + (((rd_T30 l0_0 x4_1).f4).length : Int))), (0), (by first | rfl | (simp; done) | (simp [*]; done)), (by first | rfl | (simp; done) | (simp [*]; done)), H', ⟨Nat.le_refl _⟩, ⟨by (with_reducible repeat (first | refine zq1 ?_ _ | refine zq2 ?_ | refine zq3 ?_ _)); refine blk_far ?_ NB176_178.out _; (with_reducible repeat (first | refine zq1 ?_ _ | refine zq2 ?_ | refine zq3 ?_ _)); refine blk_far ?_ NB176_178.out _; (with_reducible repeat (first | refine zq1 ?_ _ | refine zq2 ?_ | refine zq3 ?_ _)); refine blk_far ?_ NB176_178.out _; (with_reducible repeat (first | refine zq1 ?_ _ | refine zq2 ?_ | refine zq3 ?_ _)); refine blk_far ?_ NB176_178.out _; (with_reducible repeat (first | refine zq1 ?_ _ | refine zq2 ?_ | refine zq3 ?_ _)); refine blk_far ?_ NB176_178.out _; (with_reducible repeat (first | refine zq1 ?_ _ | refine zq2 ?_ | refine zq3 ?_ _)); exact BK176.out⟩, ⟨by (with_reducible repeat (first | refine zq1 ?_ _ | refine zq2 ?_ | refine zq3 ?_ _)); refine blk_put (cs := #[.slice A177_0 ((rd_T30 l0_0 x4_1).f0).length c177_0, .slice A177_1 ((rd_T30 l0_0 x4_1).f1).length c177_1, .int .i64 ((rd_T30 l0_0 x4_1).f2), .int .i64 ((rd_T30 l0_0 x4_1).f3), .slice none 0 0]) ?_ 4 _ rfl; (with_reducible repeat (first | refine zq1 ?_ _ | refine zq2 ?_ | refine zq3 ?_ _)); refine blk_put (cs := #[.slice A177_0 ((rd_T30 l0_0 x4_1).f0).length c177_0, .slice A177_1 ((rd_T30 l0_0 x4_1).f1).length c177_1, .int .i64 ((rd_T30 l0_0 x4_1).f2), .int .i64 0, .slice none 0 0]) ?_ 3 _ rfl; (with_reducible repeat (first | refine zq1 ?_ _ | refine zq2 ?_ | refine zq3 ?_ _)); refine blk_put (cs := #[.slice A177_0 ((rd_T30 l0_0 x4_1).f0).length c177_0, .slice A177_1 ((rd_T30 l0_0 x4_1).f1).length c177_1, .int .i64 0, .int .i64 0, .slice none 0 0]) ?_ 2 _ rfl; (with_reducible repeat (first | refine zq1 ?_ _ | refine zq2 ?_ | refine zq3 ?_ _)); refine blk_put (cs := #[.slice A177_0 ((rd_T30 l0_0 x4_1).f0).length c177_0, .slice none 0 0, .int .i64 0, .int .i64 0, .slice none 0 0]) ?_ 1 _ rfl; (with_reducible repeat (first | refine zq1 ?_ _ | refine zq2 ?_ | refine zq3 ?_ _)); refine blk_put (cs := #[.slice none 0 0, .slice none 0 0, .int .i64 0, .int .i64 0, .slice none 0 0]) ?_ 0 _ rfl; (with_reducible repeat (first | refine zq1 ?_ _ | refine zq2 ?_ | refine zq3 ?_ _)); exact BK178.out⟩, ⟨by repeat (first | (with_reducible first | exact HB.out | apply zq5 | apply zq4 | apply zq6 | refine below_set ?_ GE176.out | refine below_set ?_ GE178.out) | exact HB.out)⟩⟩
        case round =>
         clear H'
         try clear c1
         try clear p1
         try clear q1
         try clear hx1
         try clear p2
         try clear c5
         try clear c5b0
         try clear p6
         try clear c8
         try clear c9
         try clear c9b0
         try clear c10
         try clear c10b0
         try clear c13
         try clear hcz11_0
         try clear hcz14_0
         try clear hcz14_1
         try clear hcz14_2
         try clear hcz14_3
         try clear hcz14_4
         try clear hcz3_0
         try clear hcz6_0
         try clear hcz7_0
         try clear hfz11_0
         try clear hfz14_0
         try clear hfz14_1
         try clear hfz14_2
         try clear hfz14_3
         try clear hfz14_4
         try clear hfz3_0
         try clear hfz6_0
         try clear hfz7_0
         try clear hx177_0
         try clear hx177_1
         try clear hx177_2
         try clear hx177_3
         try clear hx177_4
         try clear p177
         try clear p2
         try clear q177
         obtain ⟨x3_3, x6_3, rfl, rfl, HA, HK3, BK176, BK178, HB⟩ := hrel
         cases gk with
         | zero => exact absurd HA.out (by simp [portolanref03_Great.l1])
         | succ k3 =>
          have H := HA.out
          clear HA
          simp only [portolanref03_Great.l1] at H
          have HC15 := Aside0.mk H
          clear H
          go_upto_region 8 with (fail)
          go_cut [48] (fun v48 wc => ∃ (kq : Nat) (x48_14 : Bool), v48 = .bool x48_14 ∧ Aside0 (portolanref03_Great.j3 kq x3_3 x4_1 x6_3 x48_14 l0_0 ((rd_T30 l0_0 x4_1).f0) ((rd_T30 l0_0 x4_1).f1) ((rd_T30 l0_0 x4_1).f2) ((rd_T30 l0_0 x4_1).f3) ((rd_T30 l0_0 x4_1).f4) = some r) ∧ Aside0 (kq ≤ k3) ∧ Aside0 (wc.heap[gb176]? = some (.cells #[(.slice (some ad177) l0_0.length c0_0)] 24 (0, 0))) ∧ Aside0 (wc.heap[gb178]? = some (.cells #[(.slice A177_0 ((rd_T30 l0_0 x4_1).f0).length c177_0), (.slice A177_1 ((rd_T30 l0_0 x4_1).f1).length c177_1), .int .i64 ((rd_T30 l0_0 x4_1).f2), .int .i64 ((rd_T30 l0_0 x4_1).f3), (.slice A177_4 ((rd_T30 l0_0 x4_1).f4).length c177_4)] 30 (0, 0))) ∧ Aside0 (Below w.heap.size w wc))
          case first =>
           have H := HC15.out
           clear HC15
           by_cases c16 : x6_3 < (((rd_T30 l0_0 x4_1).f4).length : Int)
           ·rw [if_pos c16] at H
            have c16b0 : decide (x6_3 < (((rd_T30 l0_0 x4_1).f4).length : Int)) = true := decide_eq_true c16
            clear c16
            (first | rw [c16b0] | (simp only [i64_w, i32_w]; rw [c16b0]) | skip)
            have H' := Aside0.mk H
            clear H
            have hnb17 := NB178_176.out
            have hnc17 := NB176_178.out
            have hcz18_0 : wr.cell? ⟨gb178, 0, none⟩ = some (.slice A177_0 ((rd_T30 l0_0 x4_1).f0).length c177_0) := (blk_cell BK178.out 0).trans rfl
            have hcz18_1 : wr.cell? ⟨gb178, 1, none⟩ = some (.slice A177_1 ((rd_T30 l0_0 x4_1).f1).length c177_1) := (blk_cell BK178.out 1).trans rfl
            have hcz18_2 : wr.cell? ⟨gb178, 2, none⟩ = some (.int .i64 ((rd_T30 l0_0 x4_1).f2)) := (blk_cell BK178.out 2).trans rfl
            have hcz18_3 : wr.cell? ⟨gb178, 3, none⟩ = some (.int .i64 ((rd_T30 l0_0 x4_1).f3)) := (blk_cell BK178.out 3).trans rfl
            have hcz18_4 : wr.cell? ⟨gb178, 4, none⟩ = some (.slice A177_4 ((rd_T30 l0_0 x4_1).f4).length c177_4) := (blk_cell BK178.out 4).trans rfl
            have hfz18_0 := blk_frozen BK178.out 0
            have hfz18_1 := blk_frozen BK178.out 1
            have hfz18_2 := blk_frozen BK178.out 2
            have hfz18_3 := blk_frozen BK178.out 3
            have hfz18_4 := blk_frozen BK178.out 4
            go_wp2
            go_meet
            case rel => exact ⟨_, (decide (x3_3 ≤ 3000)), (by first | rfl | (simp; done) | (simp [*]; done)), H', ⟨by have := HK1.out; have := HJ3.out; have := HK3.out; first | omega | exact Nat.le_refl _⟩, ⟨by (with_reducible repeat (first | refine zq1 ?_ _ | refine zq2 ?_ | refine zq3 ?_ _)); exact BK176.out⟩, ⟨by (with_reducible repeat (first | refine zq1 ?_ _ | refine zq2 ?_ | refine zq3 ?_ _)); exact BK178.out⟩, ⟨by repeat (first | (with_reducible first | exact HB.out | apply zq5 | apply zq4 | apply zq6 | refine below_set ?_ GE176.out | refine below_set ?_ GE178.out) | exact HB.out)⟩⟩
           ·rw [if_neg c16] at H
            have c16b0 : decide (x6_3 < (((rd_T30 l0_0 x4_1).f4).length : Int)) = false := decide_eq_false c16
            clear c16
            (first | rw [c16b0] | (simp only [i64_w, i32_w]; rw [c16b0]) | skip)
            have H' := Aside0.mk H
            clear H
            have hnb19 := NB178_176.out
            have hnc19 := NB176_178.out
            have hcz20_0 : wr.cell? ⟨gb178, 0, none⟩ = some (.slice A177_0 ((rd_T30 l0_0 x4_1).f0).length c177_0) := (blk_cell BK178.out 0).trans rfl
            have hcz20_1 : wr.cell? ⟨gb178, 1, none⟩ = some (.slice A177_1 ((rd_T30 l0_0 x4_1).f1).length c177_1) := (blk_cell BK178.out 1).trans rfl
            have hcz20_2 : wr.cell? ⟨gb178, 2, none⟩ = some (.int .i64 ((rd_T30 l0_0 x4_1).f2)) := (blk_cell BK178.out 2).trans rfl
            have hcz20_3 : wr.cell? ⟨gb178, 3, none⟩ = some (.int .i64 ((rd_T30 l0_0 x4_1).f3)) := (blk_cell BK178.out 3).trans rfl
            have hcz20_4 : wr.cell? ⟨gb178, 4, none⟩ = some (.slice A177_4 ((rd_T30 l0_0 x4_1).f4).length c177_4) := (blk_cell BK178.out 4).trans rfl
            have hfz20_0 := blk_frozen BK178.out 0
            have hfz20_1 := blk_frozen BK178.out 1
            have hfz20_2 := blk_frozen BK178.out 2
            have hfz20_3 := blk_frozen BK178.out 3
            have hfz20_4 := blk_frozen BK178.out 4
            go_wp2
            go_meet
            case rel => exact ⟨_, (false), (by first | rfl | (simp; done) | (simp [*]; done)), H', ⟨by have := HK1.out; have := HJ3.out; have := HK3.out; first | omega | exact Nat.le_refl _⟩, ⟨by (with_reducible repeat (first | refine zq1 ?_ _ | refine zq2 ?_ | refine zq3 ?_ _)); exact BK176.out⟩, ⟨by (with_reducible repeat (first | refine zq1 ?_ _ | refine zq2 ?_ | refine zq3 ?_ _)); exact BK178.out⟩, ⟨by repeat (first | (with_reducible first | exact HB.out | apply zq5 | apply zq4 | apply zq6 | refine below_set ?_ GE176.out | refine below_set ?_ GE178.out) | exact HB.out)⟩⟩
          case rest =>
           clear HC15
           try clear c1
           try clear p1
           try clear q1
           try clear hx1
           try clear p2
           try clear c5
           try clear c5b0
           try clear p6
           try clear c8
           try clear c9
           try clear c9b0
           try clear c10
           try clear c10b0
           try clear c13
           try clear c16
           try clear c16b0
           try clear c17
           try clear p17
           try clear q17
           try clear hx17
           try clear c19
           try clear hcz11_0
           try clear hcz14_0
           try clear hcz14_1
           try clear hcz14_2
           try clear hcz14_3
           try clear hcz14_4
           try clear hcz18_0
           try clear hcz18_1
           try clear hcz18_2
           try clear hcz18_3
           try clear hcz18_4
           try clear hcz20_0
           try clear hcz20_1
           try clear hcz20_2
           try clear hcz20_3
           try clear hcz20_4
           try clear hcz3_0
           try clear hcz6_0
           try clear hcz7_0
           try clear hfz11_0
           try clear hfz14_0
           try clear hfz14_1
           try clear hfz14_2
           try clear hfz14_3
           try clear hfz14_4
           try clear hfz18_0
           try clear hfz18_1
           try clear hfz18_2
           try clear hfz18_3
           try clear hfz18_4
           try clear hfz20_0
           try clear hfz20_1
           try clear hfz20_2
           try clear hfz20_3
           try clear hfz20_4
           try clear hfz3_0
           try clear hfz6_0
           try clear hfz7_0
           try clear hx177_0
           try clear hx177_1
           try clear hx177_2
           try clear hx177_3
           try clear hx177_4
           try clear p1
           try clear p177
           try clear p2
           try clear p6
           try clear q1
           try clear q177
           obtain ⟨kq, x48_14, rfl, HA, HJ14, BK176, BK178, HB⟩ := hcut
           cases kq with
           | zero => exact absurd HA.out (by simp [portolanref03_Great.j3])
           | succ kj14 =>
            have H := HA.out
            clear HA
            simp only [portolanref03_Great.j3] at H
            by_cases c21 : x48_14 = true
            ·subst c21
             have H1 : (if 0 ≤ x6_3 then (if x6_3 < (((rd_T30 l0_0 x4_1).f4).length : Int) then (portolanref03_Great.l2 kj14 (wrap64 (x3_3 + (((rd_T50 ((rd_T30 l0_0 x4_1).f4) x6_3).f0).length : Int))) x4_1 x6_3 0 l0_0 ((rd_T30 l0_0 x4_1).f0) ((rd_T30 l0_0 x4_1).f1) ((rd_T30 l0_0 x4_1).f2) ((rd_T30 l0_0 x4_1).f3) ((rd_T30 l0_0 x4_1).f4)) else (none)) else (none)) = some r := by first | (rw [if_pos rfl] at H; exact H) | rfl
             clear H
             have H := H1
             clear H1
             by_cases c22 : 0 ≤ x6_3
             ·rw [if_pos c22] at H
              have c22b0 : decide (0 ≤ x6_3) = true := decide_eq_true c22
              clear c22
              by_cases c23 : x6_3 < (((rd_T30 l0_0 x4_1).f4).length : Int)
              ·rw [if_pos c23] at H
               have c23b0 : decide (x6_3 < (((rd_T30 l0_0 x4_1).f4).length : Int)) = true := decide_eq_true c23
               clear c23
               have H' := Aside0.mk H
               clear H
               have hnb24 := NB178_176.out
               have hnc24 := NB176_178.out
               have hcz25_0 : wc.cell? ⟨gb178, 0, none⟩ = some (.slice A177_0 ((rd_T30 l0_0 x4_1).f0).length c177_0) := (blk_cell BK178.out 0).trans rfl
               have hcz25_1 : wc.cell? ⟨gb178, 1, none⟩ = some (.slice A177_1 ((rd_T30 l0_0 x4_1).f1).length c177_1) := (blk_cell BK178.out 1).trans rfl
               have hcz25_2 : wc.cell? ⟨gb178, 2, none⟩ = some (.int .i64 ((rd_T30 l0_0 x4_1).f2)) := (blk_cell BK178.out 2).trans rfl
               have hcz25_3 : wc.cell? ⟨gb178, 3, none⟩ = some (.int .i64 ((rd_T30 l0_0 x4_1).f3)) := (blk_cell BK178.out 3).trans rfl
               have hcz25_4 : wc.cell? ⟨gb178, 4, none⟩ = some (.slice A177_4 ((rd_T30 l0_0 x4_1).f4).length c177_4) := (blk_cell BK178.out 4).trans rfl
               have hfz25_0 := blk_frozen BK178.out 0
               have hfz25_1 := blk_frozen BK178.out 1
               have hfz25_2 := blk_frozen BK178.out 2
               have hfz25_3 := blk_frozen BK178.out 3
               have hfz25_4 := blk_frozen BK178.out 4
               have p179 : 0 ≤ (x6_3 : Int) := of_decide_eq_true (by first | (with_reducible assumption) | assumption)
               have q179 : x6_3 < (((rd_T30 l0_0 x4_1).f4).length : Int) := of_decide_eq_true (by first | (with_reducible assumption) | assumption)
               obtain ⟨ad179, A179_0, c179_0, e179, hx179_0, hl179_0, hi179_0⟩ := at_T50 HR177_4.out x6_3 p179 q179
               cases e179
               replace hx179_0 := (HB.out.cell (World.block_lt_of_cell? w _ hx179_0)).trans hx179_0
               have HR179_0 := Aside0.mk hi179_0
               have HC179_0 := Aside0.mk hl179_0
               clear hi179_0 hl179_0
               replace p179 := eq_true p179
               replace q179 := eq_true q179
               go_wp2
               go_loopg [3, 7] kj14 (fun kq v3 v7 w' => ∃ (x3_5 : Int) (x7_5 : Int), v3 = .int .i64 x3_5 ∧ v7 = .int .i64 x7_5 ∧ Aside0 (portolanref03_Great.l2 kq x3_5 x4_1 x6_3 x7_5 l0_0 ((rd_T30 l0_0 x4_1).f0) ((rd_T30 l0_0 x4_1).f1) ((rd_T30 l0_0 x4_1).f2) ((rd_T30 l0_0 x4_1).f3) ((rd_T30 l0_0 x4_1).f4) = some r) ∧ Aside0 (kq ≤ kj14) ∧ Aside0 (w'.heap[gb176]? = some (.cells #[(.slice (some ad177) l0_0.length c0_0)] 24 (0, 0))) ∧ Aside0 (w'.heap[gb178]? = some (.cells #[(.slice A177_0 ((rd_T30 l0_0 x4_1).f0).length c177_0), (.slice A177_1 ((rd_T30 l0_0 x4_1).f1).length c177_1), .int .i64 ((rd_T30 l0_0 x4_1).f2), .int .i64 ((rd_T30 l0_0 x4_1).f3), (.slice (some ad179) ((rd_T30 l0_0 x4_1).f4).length c177_4)] 30 (0, 0))) ∧ Aside0 (Below w.heap.size w w'))
               case atStart => exact ⟨(wrap64 (x3_3 + (((rd_T50 ((rd_T30 l0_0 x4_1).f4) x6_3).f0).length : Int))), (0), (by first | rfl | (simp; done) | (simp [*]; done)), (by first | rfl | (simp; done) | (simp [*]; done)), H', ⟨Nat.le_refl _⟩, ⟨by (with_reducible repeat (first | refine zq1 ?_ _ | refine zq2 ?_ | refine zq3 ?_ _)); exact BK176.out⟩, ⟨by (with_reducible repeat (first | refine zq1 ?_ _ | refine zq2 ?_ | refine zq3 ?_ _)); exact BK178.out⟩, ⟨by repeat (first | (with_reducible first | exact HB.out | apply zq5 | apply zq4 | apply zq6 | refine below_set ?_ GE176.out | refine below_set ?_ GE178.out) | exact HB.out)⟩⟩
               case round =>
                clear H'
                try clear c1
                try clear p1
                try clear q1
                try clear hx1
                try clear c2
                try clear p2
                try clear c5
                try clear c5b0
                try clear p6
                try clear c8
                try clear c9
                try clear c9b0
                try clear c10
                try clear c10b0
                try clear c13
                try clear c16
                try clear c16b0
                try clear c17
                try clear p17
                try clear q17
                try clear hx17
                try clear c19
                try clear c21
                try clear c22
                try clear c22b0
                try clear c23
                try clear c23b0
                try clear c24
                try clear hcz11_0
                try clear hcz14_0
                try clear hcz14_1
                try clear hcz14_2
                try clear hcz14_3
                try clear hcz14_4
                try clear hcz18_0
                try clear hcz18_1
                try clear hcz18_2
                try clear hcz18_3
                try clear hcz18_4
                try clear hcz20_0
                try clear hcz20_1
                try clear hcz20_2
                try clear hcz20_3
                try clear hcz20_4
                try clear hcz25_0
                try clear hcz25_1
                try clear hcz25_2
                try clear hcz25_3
                try clear hcz25_4
                try clear hcz3_0
                try clear hcz6_0
                try clear hcz7_0
                try clear hfz11_0
                try clear hfz14_0
                try clear hfz14_1
                try clear hfz14_2
                try clear hfz14_3
                try clear hfz14_4
                try clear hfz18_0
                try clear hfz18_1
                try clear hfz18_2
                try clear hfz18_3
                try clear hfz18_4
                try clear hfz20_0
                try clear hfz20_1
                try clear hfz20_2
                try clear hfz20_3
                try clear hfz20_4
                try clear hfz25_0
                try clear hfz25_1
                try clear hfz25_2
                try clear hfz25_3
                try clear hfz25_4
                try clear hfz3_0
                try clear hfz6_0
                try clear hfz7_0
                try clear hx177_0
                try clear hx177_1
                try clear hx177_2
                try clear hx177_3
                try clear hx177_4
                try clear hx179_0
                try clear p1
                try clear p17
                try clear p177
                try clear p179
                try clear p2
                try clear p6
                try clear q1
                try clear q17
                try clear q177
                try clear q179
                obtain ⟨x3_5, x7_5, rfl, rfl, HA, HK5, BK176, BK178, HB⟩ := hrel
                cases gk with
                | zero => exact absurd HA.out (by simp [portolanref03_Great.l2])
                | succ k5 =>
                 have H := HA.out
                 clear HA
                 simp only [portolanref03_Great.l2] at H
                 by_cases c26 : 0 ≤ x6_3
                 ·rw [if_pos c26] at H
                  have c26b0 : decide (0 ≤ x6_3) = true := decide_eq_true c26
                  clear c26
                  by_cases c27 : x6_3 < (((rd_T30 l0_0 x4_1).f4).length : Int)
                  ·rw [if_pos c27] at H
                   have c27b0 : decide (x6_3 < (((rd_T30 l0_0 x4_1).f4).length : Int)) = true := decide_eq_true c27
                   clear c27
                   by_cases c28 : x7_5 < (((rd_T50 ((rd_T30 l0_0 x4_1).f4) x6_3).f0).length : Int)
                   ·rw [if_pos c28] at H
                    have c28b0 : decide (x7_5 < (((rd_T50 ((rd_T30 l0_0 x4_1).f4) x6_3).f0).length : Int)) = true := decide_eq_true c28
                    clear c28
                    by_cases c29 : x3_5 ≤ 3000
                    ·rw [if_pos c29] at H
                     have c29b0 : decide (x3_5 ≤ 3000) = true := decide_eq_true c29
                     clear c29
                     by_cases c30 : 0 ≤ x7_5
                     ·rw [if_pos c30] at H
                      have c30b0 : decide (0 ≤ x7_5) = true := decide_eq_true c30
                      clear c30
                      have H' := Aside0.mk H
                      clear H
                      have hnb31 := NB178_176.out
                      have hnc31 := NB176_178.out
                      have hcz32_0 : wr.cell? ⟨gb178, 0, none⟩ = some (.slice A177_0 ((rd_T30 l0_0 x4_1).f0).length c177_0) := (blk_cell BK178.out 0).trans rfl
                      have hcz32_1 : wr.cell? ⟨gb178, 1, none⟩ = some (.slice A177_1 ((rd_T30 l0_0 x4_1).f1).length c177_1) := (blk_cell BK178.out 1).trans rfl
                      have hcz32_2 : wr.cell? ⟨gb178, 2, none⟩ = some (.int .i64 ((rd_T30 l0_0 x4_1).f2)) := (blk_cell BK178.out 2).trans rfl
                      have hcz32_3 : wr.cell? ⟨gb178, 3, none⟩ = some (.int .i64 ((rd_T30 l0_0 x4_1).f3)) := (blk_cell BK178.out 3).trans rfl
                      have hcz32_4 : wr.cell? ⟨gb178, 4, none⟩ = some (.slice (some ad179) ((rd_T30 l0_0 x4_1).f4).length c177_4) := (blk_cell BK178.out 4).trans rfl
                      have hfz32_0 := blk_frozen BK178.out 0
                      have hfz32_1 := blk_frozen BK178.out 1
                      have hfz32_2 := blk_frozen BK178.out 2
                      have hfz32_3 := blk_frozen BK178.out 3
                      have hfz32_4 := blk_frozen BK178.out 4
                      have p180 : 0 ≤ (x6_3 : Int) := of_decide_eq_true (by first | (with_reducible assumption) | assumption)
                      have q180 : x6_3 < (((rd_T30 l0_0 x4_1).f4).length : Int) := of_decide_eq_true (by first | (with_reducible assumption) | assumption)
                      obtain ⟨ad180, A180_0, c180_0, e180, hx180_0, hl180_0, hi180_0⟩ := at_T50 HR177_4.out x6_3 p180 q180
                      obtain rfl : ad179 = ad180 := (by injection e180)
                      replace hx180_0 := (HB.out.cell (World.block_lt_of_cell? w _ hx180_0)).trans hx180_0
                      have HR180_0 := Aside0.mk hi180_0
                      have HC180_0 := Aside0.mk hl180_0
                      clear hi180_0 hl180_0
                      replace p180 := eq_true p180
                      replace q180 := eq_true q180
                      have p181 : 0 ≤ (x6_3 : Int) := of_decide_eq_true (by first | (with_reducible assumption) | assumption)
                      have q181 : x6_3 < (((rd_T30 l0_0 x4_1).f4).length : Int) := of_decide_eq_true (by first | (with_reducible assumption) | assumption)
                      obtain ⟨ad181, A181_0, c181_0, e181, hx181_0, hl181_0, hi181_0⟩ := at_T50 HR177_4.out x6_3 p181 q181
                      obtain rfl : ad179 = ad181 := (by injection e181)
                      replace hx181_0 := (HB.out.cell (World.block_lt_of_cell? w _ hx181_0)).trans hx181_0
                      have HR181_0 := Aside0.mk hi181_0
                      have HC181_0 := Aside0.mk hl181_0
                      clear hi181_0 hl181_0
                      replace p181 := eq_true p181
                      replace q181 := eq_true q181
                      have ea_ := Option.some.inj (hx180_0.symm.trans hx181_0)
                      injection ea_ with ea_ en_ ec_
                      subst ea_
                      subst ec_
                      clear en_
                      have p182 : 0 ≤ (x7_5 : Int) := of_decide_eq_true (by first | (with_reducible assumption) | assumption)
                      have q182 : x7_5 < (((rd_T50 ((rd_T30 l0_0 x4_1).f4) x6_3).f0).length : Int) := of_decide_eq_true (by first | (with_reducible assumption) | assumption)
                      obtain ⟨ad182, A182_6, c182_6, e182, hx182_0, hx182_1, hx182_2, hx182_3, hx182_4, hx182_5, hx182_6, hl182_6, hi182_6⟩ := at_T52 HR181_0.out x7_5 p182 q182
                      cases e182
                      replace hx182_0 := (HB.out.cell (World.block_lt_of_cell? w _ hx182_0)).trans hx182_0
                      replace hx182_1 := (HB.out.cell (World.block_lt_of_cell? w _ hx182_1)).trans hx182_1
                      replace hx182_2 := (HB.out.cell (World.block_lt_of_cell? w _ hx182_2)).trans hx182_2
                      replace hx182_3 := (HB.out.cell (World.block_lt_of_cell? w _ hx182_3)).trans hx182_3
                      replace hx182_4 := (HB.out.cell (World.block_lt_of_cell? w _ hx182_4)).trans hx182_4
                      replace hx182_5 := (HB.out.cell (World.block_lt_of_cell? w _ hx182_5)).trans hx182_5
                      replace hx182_6 := (HB.out.cell (World.block_lt_of_cell? w _ hx182_6)).trans hx182_6
                      have HR182_6 := Aside0.mk hi182_6
                      have HC182_6 := Aside0.mk hl182_6
                      clear hi182_6 hl182_6
                      replace p182 := eq_true p182
                      replace q182 := eq_true q182
                      go_wp2
                      go_roundg k5
                      case measure => have := HK1.out; have := HJ3.out; have := HK3.out; have := HJ14.out; have := HK5.out; omega
                      case rel => exact ⟨(wrap64 (x3_5 + (((rd_T52 ((rd_T50 ((rd_T30 l0_0 x4_1).f4) x6_3).f0) x7_5).f6).length : Int))), (wrap64 (x7_5 + 1)), (by first | rfl | (simp; done) | (simp [*]; done)), (by first | rfl | (simp; done) | (simp [*]; done)), H', ⟨by have := HK1.out; have := HJ3.out; have := HK3.out; have := HJ14.out; have := HK5.out; omega⟩, ⟨by (with_reducible repeat (first | refine zq1 ?_ _ | refine zq2 ?_ | refine zq3 ?_ _)); exact BK176.out⟩, ⟨by (with_reducible repeat (first | refine zq1 ?_ _ | refine zq2 ?_ | refine zq3 ?_ _)); exact BK178.out⟩, ⟨by repeat (first | (with_reducible first | exact HB.out | apply zq5 | apply zq4 | apply zq6 | refine below_set ?_ GE176.out | refine below_set ?_ GE178.out) | exact HB.out)⟩⟩
                     ·rw [if_neg c30] at H
                      exact absurd H (by simp)
                    ·rw [if_neg c29] at H
                     have c29b0 : decide (x3_5 ≤ 3000) = false := decide_eq_false c29
                     clear c29
                     have H' := Aside0.mk H
                     clear H
                     have hnb33 := NB178_176.out
                     have hnc33 := NB176_178.out
                     have hcz34_0 : wr.cell? ⟨gb178, 0, none⟩ = some (.slice A177_0 ((rd_T30 l0_0 x4_1).f0).length c177_0) := (blk_cell BK178.out 0).trans rfl
                     have hcz34_1 : wr.cell? ⟨gb178, 1, none⟩ = some (.slice A177_1 ((rd_T30 l0_0 x4_1).f1).length c177_1) := (blk_cell BK178.out 1).trans rfl
                     have hcz34_2 : wr.cell? ⟨gb178, 2, none⟩ = some (.int .i64 ((rd_T30 l0_0 x4_1).f2)) := (blk_cell BK178.out 2).trans rfl
                     have hcz34_3 : wr.cell? ⟨gb178, 3, none⟩ = some (.int .i64 ((rd_T30 l0_0 x4_1).f3)) := (blk_cell BK178.out 3).trans rfl
                     have hcz34_4 : wr.cell? ⟨gb178, 4, none⟩ = some (.slice (some ad179) ((rd_T30 l0_0 x4_1).f4).length c177_4) := (blk_cell BK178.out 4).trans rfl
                     have hfz34_0 := blk_frozen BK178.out 0
                     have hfz34_1 := blk_frozen BK178.out 1
                     have hfz34_2 := blk_frozen BK178.out 2
                     have hfz34_3 := blk_frozen BK178.out 3
                     have hfz34_4 := blk_frozen BK178.out 4
                     have p180 : 0 ≤ (x6_3 : Int) := of_decide_eq_true (by first | (with_reducible assumption) | assumption)
                     have q180 : x6_3 < (((rd_T30 l0_0 x4_1).f4).length : Int) := of_decide_eq_true (by first | (with_reducible assumption) | assumption)
                     obtain ⟨ad180, A180_0, c180_0, e180, hx180_0, hl180_0, hi180_0⟩ := at_T50 HR177_4.out x6_3 p180 q180
                     obtain rfl : ad179 = ad180 := (by injection e180)
                     replace hx180_0 := (HB.out.cell (World.block_lt_of_cell? w _ hx180_0)).trans hx180_0
                     have HR180_0 := Aside0.mk hi180_0
                     have HC180_0 := Aside0.mk hl180_0
                     clear hi180_0 hl180_0
                     replace p180 := eq_true p180
                     replace q180 := eq_true q180
                     go_wp2
                     go_roundg k5
                     case measure => have := HK1.out; have := HJ3.out; have := HK3.out; have := HJ14.out; have := HK5.out; omega
                     case rel => exact ⟨(x3_5), (wrap64 (x6_3 + 1)), (by first | rfl | (simp; done) | (simp [*]; done)), (by first | rfl | (simp; done) | (simp [*]; done)), H', ⟨by have := HK1.out; have := HJ3.out; have := HK3.out; have := HJ14.out; have := HK5.out; omega⟩, ⟨by (with_reducible repeat (first | refine zq1 ?_ _ | refine zq2 ?_ | refine zq3 ?_ _)); exact BK176.out⟩, ⟨by (with_reducible repeat (first | refine zq1 ?_ _ | refine zq2 ?_ | refine zq3 ?_ _)); exact BK178.out⟩, ⟨by repeat (first | (with_reducible first | exact HB.out | apply zq5 | apply zq4 | apply zq6 | refine below_set ?_ GE176.out | refine below_set ?_ GE178.out) | exact HB.out)⟩⟩
                   ·rw [if_neg c28] at H
                    have c28b0 : decide (x7_5 < (((rd_T50 ((rd_T30 l0_0 x4_1).f4) x6_3).f0).length : Int)) = false := decide_eq_false c28
                    clear c28
                    have H' := Aside0.mk H
                    clear H
                    have hnb35 := NB178_176.out
                    have hnc35 := NB176_178.out
                    have hcz36_0 : wr.cell? ⟨gb178, 0, none⟩ = some (.slice A177_0 ((rd_T30 l0_0 x4_1).f0).length c177_0) := (blk_cell BK178.out 0).trans rfl
                    have hcz36_1 : wr.cell? ⟨gb178, 1, none⟩ = some (.slice A177_1 ((rd_T30 l0_0 x4_1).f1).length c177_1) := (blk_cell BK178.out 1).trans rfl
                    have hcz36_2 : wr.cell? ⟨gb178, 2, none⟩ = some (.int .i64 ((rd_T30 l0_0 x4_1).f2)) := (blk_cell BK178.out 2).trans rfl
                    have hcz36_3 : wr.cell? ⟨gb178, 3, none⟩ = some (.int .i64 ((rd_T30 l0_0 x4_1).f3)) := (blk_cell BK178.out 3).trans rfl
                    have hcz36_4 : wr.cell? ⟨gb178, 4, none⟩ = some (.slice (some ad179) ((rd_T30 l0_0 x4_1).f4).length c177_4) := (blk_cell BK178.out 4).trans rfl
                    have hfz36_0 := blk_frozen BK178.out 0
                    have hfz36_1 := blk_frozen BK178.out 1
                    have hfz36_2 := blk_frozen BK178.out 2
                    have hfz36_3 := blk_frozen BK178.out 3
                    have hfz36_4 := blk_frozen BK178.out 4
                    have p180 : 0 ≤ (x6_3 : Int) := of_decide_eq_true (by first | (with_reducible assumption) | assumption)
                    have q180 : x6_3 < (((rd_T30 l0_0 x4_1).f4).length : Int) := of_decide_eq_true (by first | (with_reducible assumption) | assumption)
                    obtain ⟨ad180, A180_0, c180_0, e180, hx180_0, hl180_0, hi180_0⟩ := at_T50 HR177_4.out x6_3 p180 q180
                    obtain rfl : ad179 = ad180 := (by injection e180)
                    replace hx180_0 := (HB.out.cell (World.block_lt_of_cell? w _ hx180_0)).trans hx180_0
                    have HR180_0 := Aside0.mk hi180_0
                    have HC180_0 := Aside0.mk hl180_0
                    clear hi180_0 hl180_0
                    replace p180 := eq_true p180
                    replace q180 := eq_true q180
                    go_wp2
                    go_roundg k5
                    case measure => have := HK1.out; have := HJ3.out; have := HK3.out; have := HJ14.out; have := HK5.out; omega
                    case rel => exact ⟨(x3_5), (wrap64 (x6_3 + 1)), (by first | rfl | (simp; done) | (simp [*]; done)), (by first | rfl | (simp; done) | (simp [*]; done)), H', ⟨by have := HK1.out; have := HJ3.out; have := HK3.out; have := HJ14.out; have := HK5.out; omega⟩, ⟨by (with_reducible repeat (first | refine zq1 ?_ _ | refine zq2 ?_ | refine zq3 ?_ _)); exact BK176.out⟩, ⟨by (with_reducible repeat (first | refine zq1 ?_ _ | refine zq2 ?_ | refine zq3 ?_ _)); exact BK178.out⟩, ⟨by repeat (first | (with_reducible first | exact HB.out | apply zq5 | apply zq4 | apply zq6 | refine below_set ?_ GE176.out | refine below_set ?_ GE178.out) | exact HB.out)⟩⟩
                  ·rw [if_neg c27] at H
                   exact absurd H (by simp)
                 ·rw [if_neg c26] at H
                  exact absurd H (by simp)
              ·rw [if_neg c23] at H
               exact absurd H (by simp)
             ·rw [if_neg c22] at H
              exact absurd H (by simp)
            ·replace c21 := Bool.eq_false_iff.mpr c21
             subst c21
             have H1 : (portolanref03_Great.l0 kj14 x3_3 (wrap64 (x4_1 + 1)) l0_0) = some r := by first | (rw [if_neg (show ¬ (false = true) by decide)] at H; exact H) | rfl
             clear H
             have H := H1
             clear H1
             have H' := Aside0.mk H
             clear H
             go_wp2
             go_roundg kj14
             case measure => have := HK1.out; have := HJ3.out; have := HK3.out; have := HJ14.out; omega
             case rel => exact ⟨(x3_3), (wrap64 (x4_1 + 1)), (by first | rfl | (simp; done) | (simp [*]; done)), (by first | rfl | (simp; done) | (simp [*]; done)), H', ⟨by have := HK1.out; have := HJ3.out; have := HK3.out; have := HJ14.out; omega⟩, ⟨by (with_reducible repeat (first | refine zq1 ?_ _ | refine zq2 ?_ | refine zq3 ?_ _)); exact BK176.out⟩, ⟨by repeat (first | (with_reducible first | exact HB.out | apply zq5 | apply zq4 | apply zq6 | refine below_set ?_ GE176.out | refine below_set ?_ GE178.out) | exact HB.out)⟩⟩
       ·rw [if_neg c10] at H
        exact absurd H (by simp)
      ·rw [if_neg c9] at H
       exact absurd H (by simp)
     ·replace c8 := Bool.eq_false_iff.mpr c8
      subst c8
      have H1 : (some (decide (x3_1 > 3000))) = some r := by first | (rw [if_neg (show ¬ (false = true) by decide)] at H; exact H) | rfl
      clear H
      have H := H1
      clear H1
      obtain rfl := Option.some.inj H
      go_wp2
      go_ret
      exact ⟨by first | rfl | (simp [errW_none, errW_some] <;> rfl) | (simp [*, errW_none, errW_some] <;> rfl), by repeat (first | (with_reducible first | exact HB.out | apply zq5 | apply zq4 | apply zq6 | refine below_set ?_ GE176.out) | exact HB.out)⟩
def portolanref04_within.f (a0 : Int) (a1 : Int) (a2 : Int) : Option (Bool) := if a0 ≥ a1 then (some (decide (a0 ≤ a2))) else (some false)
set_option maxHeartbeats 8000000 in
set_option maxRecDepth 100000 in
theorem portolanref04_within.calls (a0 : Int) (a1 : Int) (a2 : Int) (r : Bool) (w : World) (h : portolanref04_within.f a0 a1 a2 = some r) :
  Calls Try.prog 86 #[.int .i64 a0, .int .i64 a1, .int .i64 a2] w fun e w' => e = .returned (.bool r) ∧ Drawn0 w w' := by
 have H : (if a0 ≥ a1 then (some (decide (a0 ≤ a2))) else (some false)) = some r := h
 clear h
 by_cases c4 : a0 ≥ a1
 ·rw [if_pos c4] at H
  have c4b0 : decide (a1 ≤ a0) = true := decide_eq_true c4
  clear c4
  obtain rfl := Option.some.inj H
  go_enter Try.func86, Try.ntmps86
  go_wp2
  go_ret
  exact ⟨by first | rfl | (simp; done) | (simp [*]; done), by repeat (first | exact Drawn0.refl _ | apply Drawn0.step)⟩
 ·rw [if_neg c4] at H
  have c4b0 : decide (a1 ≤ a0) = false := decide_eq_false c4
  clear c4
  obtain rfl := Option.some.inj H
  go_enter Try.func86, Try.ntmps86
  go_wp2
  go_ret
  exact ⟨by first | rfl | (simp; done) | (simp [*]; done), by repeat (first | exact Drawn0.refl _ | apply Drawn0.step)⟩
def portolanref04_Last.f (a0 : Int) : Option (Bool) := if a0 = 21 then (some true) else (if a0 = 22 then (some true) else (some (a0 == 23)))
set_option maxHeartbeats 8000000 in
set_option maxRecDepth 100000 in
theorem portolanref04_Last.calls (a0 : Int) (r : Bool) (w : World) (h : portolanref04_Last.f a0 = some r) :
  Calls Try.prog 112 #[.int .i64 a0] w fun e w' => e = .returned (.bool r) ∧ Drawn0 w w' := by
 have H : (if a0 = 21 then (some true) else (if a0 = 22 then (some true) else (some (a0 == 23)))) = some r := h
 clear h
 by_cases c2 : a0 = 21
 ·rw [if_pos c2] at H
  have c2b0 : (a0 == 21) = true := beq_iff_eq.mpr c2
  have c2b1 : (a0 != 21) = false := bne_eq_false_iff_eq.mpr c2
  clear c2
  obtain rfl := Option.some.inj H
  go_enter Try.func112, Try.ntmps112
  go_wp2
  go_ret
  exact ⟨by first | rfl | (simp; done) | (simp [*]; done), by repeat (first | exact Drawn0.refl _ | apply Drawn0.step)⟩
 ·rw [if_neg c2] at H
  have c2b0 : (a0 == 21) = false := beq_eq_false_iff_ne.mpr c2
  have c2b1 : (a0 != 21) = true := bne_iff_ne.mpr c2
  by_cases c3 : a0 = 22
  ·rw [if_pos c3] at H
   have c3b0 : (a0 == 22) = true := beq_iff_eq.mpr c3
   have c3b1 : (a0 != 22) = false := bne_eq_false_iff_eq.mpr c3
   clear c3
   obtain rfl := Option.some.inj H
   go_enter Try.func112, Try.ntmps112
   go_wp2
   go_ret
   exact ⟨by first | rfl | (simp; done) | (simp [*]; done), by repeat (first | exact Drawn0.refl _ | apply Drawn0.step)⟩
  ·rw [if_neg c3] at H
   have c3b0 : (a0 == 22) = false := beq_eq_false_iff_ne.mpr c3
   have c3b1 : (a0 != 22) = true := bne_iff_ne.mpr c3
   obtain rfl := Option.some.inj H
   go_enter Try.func112, Try.ntmps112
   go_wp2
   go_ret
   exact ⟨by first | rfl | (simp; done) | (simp [*]; done), by repeat (first | exact Drawn0.refl _ | apply Drawn0.step)⟩
end Go.Proofs.Ytcknmcfomkbenaa.PF
