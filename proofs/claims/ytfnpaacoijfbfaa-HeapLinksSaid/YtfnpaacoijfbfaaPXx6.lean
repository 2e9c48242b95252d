-- written by xp.py (ours) over the translation
import Derived.Test.YtfnpaacoijfbfaaPXx0
namespace Go.Proofs.Ytfnpaacoijfbfaa.PX
open Go.RowKit Go.Proofs.YtfnpaacoijfbfaaW.PrintWords Go.Proofs.YtfnpaacoijfbfaaW.PrintLast Go.Proofs.YtfnpaacoijfbfaaW.PrintMore
attribute [local go_sem] max2_int min2_int max_two min_two max_three min_three max_four min_four   -- for this text's walks alone
set_option linter.unusedVariables false
set_option linter.unusedSimpArgs false

/-! ### portolanref09_Right: function 14 -/
mutual
def portolanref09_Right.l0 : Nat → Int → List (S47) → Option (Bool)
 | 0, _, _ => none
 | k + 1, x3, x233000 => if x3 < (x233000.length : Int) then (if 0 ≤ x3 then (if (((rd_T47 x233000 x3).f0).length : Int) > 8 then (portolanref09_Right.j1 k x3 true x233000 ((rd_T47 x233000 x3).f0) ((rd_T47 x233000 x3).f1)) else (portolanref09_Right.j1 k x3 (decide ((((rd_T47 x233000 x3).f1).length : Int) > 8)) x233000 ((rd_T47 x233000 x3).f0) ((rd_T47 x233000 x3).f1))) else (none)) else (some true)
def portolanref09_Right.j1 : Nat → Int → Bool → List (S47) → List Int → List Int → Option (Bool)
 | 0, _, _, _, _, _ => none
 | k + 1, x3, x27, x233000, x235000, x235001 => if x27 = true then (some false) else (portolanref09_Right.l1 k x3 0 x233000 x235000 x235001)
def portolanref09_Right.l1 : Nat → Int → Int → List (S47) → List Int → List Int → Option (Bool)
 | 0, _, _, _, _, _ => none
 | k + 1, x3, x5, x233000, x235000, x235001 => if x5 < (x235000.length : Int) then (if 0 ≤ x5 then (if (rd x235000 x5) < 0 then (some false) else (if (rd x235000 x5) > (x233000.length : Int) then (some false) else (portolanref09_Right.l1 k x3 (wrap64 (x5 + 1)) x233000 x235000 x235001))) else (none)) else (portolanref09_Right.l0 k (wrap64 (x3 + 1)) x233000)
end
def portolanref09_Right.f (k : Nat) (l0_0 : List (S47)) : Option (Bool) := portolanref09_Right.l0 k 0 l0_0
theorem portolanref09_Right.mono_l : ∀ k, (∀ y0 y1, LeO (portolanref09_Right.l0 k y0 y1) (portolanref09_Right.l0 (k + 1) y0 y1)) ∧ (∀ y0 y1 y2 y3 y4, LeO (portolanref09_Right.j1 k y0 y1 y2 y3 y4) (portolanref09_Right.j1 (k + 1) y0 y1 y2 y3 y4)) ∧ (∀ y0 y1 y2 y3 y4, LeO (portolanref09_Right.l1 k y0 y1 y2 y3 y4) (portolanref09_Right.l1 (k + 1) y0 y1 y2 y3 y4))
 | 0 => ⟨fun _ _ r h => by simp [portolanref09_Right.l0] at h, fun _ _ _ _ _ r h => by simp [portolanref09_Right.j1] at h, fun _ _ _ _ _ r h => by simp [portolanref09_Right.l1] at h⟩
 | k + 1 => by
  obtain ⟨ih0, ih1, ih2⟩ := portolanref09_Right.mono_l k
  refine ⟨?_, ?_, ?_⟩
  ·intro y0 y1
   unfold portolanref09_Right.l0
   repeat' first
   | (with_reducible exact ih0 _ _)
   | (with_reducible exact ih1 _ _ _ _ _)
   | (with_reducible exact ih2 _ _ _ _ _)
   | (with_reducible exact LeO.refl _)
   | (with_reducible exact LeO.none _)
   | (with_reducible refine LeO.ite ?_ ?_)
   | (with_reducible refine LeO.bind ?_ (fun _ => ?_))
   | exact ih0 _ _
   | exact ih1 _ _ _ _ _
   | exact ih2 _ _ _ _ _
   | exact LeO.none _
   | refine LeO.ite ?_ ?_
   | refine LeO.bind ?_ (fun _ => ?_)
  ·intro y0 y1 y2 y3 y4
   unfold portolanref09_Right.j1
   repeat' first
   | (with_reducible exact ih0 _ _)
   | (with_reducible exact ih1 _ _ _ _ _)
   | (with_reducible exact ih2 _ _ _ _ _)
   | (with_reducible exact LeO.refl _)
   | (with_reducible exact LeO.none _)
   | (with_reducible refine LeO.ite ?_ ?_)
   | (with_reducible refine LeO.bind ?_ (fun _ => ?_))
   | exact ih0 _ _
   | exact ih1 _ _ _ _ _
   | exact ih2 _ _ _ _ _
   | exact LeO.none _
   | refine LeO.ite ?_ ?_
   | refine LeO.bind ?_ (fun _ => ?_)
  ·intro y0 y1 y2 y3 y4
   unfold portolanref09_Right.l1
   repeat' first
   | (with_reducible exact ih0 _ _)
   | (with_reducible exact ih1 _ _ _ _ _)
   | (with_reducible exact ih2 _ _ _ _ _)
   | (with_reducible exact LeO.refl _)
   | (with_reducible exact LeO.none _)
   | (with_reducible refine LeO.ite ?_ ?_)
   | (with_reducible refine LeO.bind ?_ (fun _ => ?_))
   | exact ih0 _ _
   | exact ih1 _ _ _ _ _
   | exact ih2 _ _ _ _ _
   | exact LeO.none _
   | refine LeO.ite ?_ ?_
   | refine LeO.bind ?_ (fun _ => ?_)
theorem portolanref09_Right.mono : ∀ a0 k, LeO (portolanref09_Right.f k a0) (portolanref09_Right.f (k + 1) a0) := by
 intro a0 k
 obtain ⟨ih0, ih1, ih2⟩ := portolanref09_Right.mono_l k
 unfold portolanref09_Right.f
 repeat' first
   | (with_reducible exact ih0 _ _)
   | (with_reducible exact ih1 _ _ _ _ _)
   | (with_reducible exact ih2 _ _ _ _ _)
   | (with_reducible exact LeO.refl _)
   | (with_reducible exact LeO.none _)
   | (with_reducible refine LeO.ite ?_ ?_)
   | (with_reducible refine LeO.bind ?_ (fun _ => ?_))
   | exact ih0 _ _
   | exact ih1 _ _ _ _ _
   | exact ih2 _ _ _ _ _
   | exact LeO.none _
   | refine LeO.ite ?_ ?_
   | refine LeO.bind ?_ (fun _ => ?_)
set_option maxHeartbeats 8000000 in
set_option maxRecDepth 100000 in
theorem portolanref09_Right.calls (k : Nat) (A0_0 : Option Addr) (c0_0 : Nat) (l0_0 : List (S47)) (r : Bool) (w : World) (hr0_0 : Kd.C k47 w A0_0 l0_0.length l0_0) (hc0_0 : l0_0.length ≤ c0_0) (h : portolanref09_Right.f k l0_0 = some r) :
  Calls Try.prog 14 #[.agg #[.slice A0_0 l0_0.length c0_0]] w fun e w' => e = .returned (.bool r) ∧ Below w.heap.size w w' := by
 have hu24 := Try.underlying24
 have hu47 := Try.underlying47
 have HR0_0 := Aside0.mk hr0_0
 have HC0_0 := Aside0.mk hc0_0
 clear hr0_0 hc0_0
 have HB := Aside0.mk (Below.refl w.heap.size w)
 have H : (portolanref09_Right.l0 k 0 l0_0) = some r := h
 clear h
 have H' := Aside0.mk H
 clear H
 go_enter Try.func14, Try.ntmps14
 go_wp2_with (first | ((with_reducible refine gate_dst (N := 1) rfl ?_); (try (refine gate_guard (by rfl) ?_; dsimp only)); refine box_event ?hg (N := 1) ?hd (cs := #[.slice A0_0 l0_0.length c0_0]) (t := 24) ?hr ?_; (case hd => rfl); (case hg => rfl); (case hr => first | (go_simp; done) | (go_simp; rfl)); intro gb232 hg w2 hbox hb; have n0_ := Aside0.mk (below_step (by repeat (first | (with_reducible first | exact HB.out | apply zq5 | apply zq4 | apply zq6) | exact HB.out)) hb); have n1_ := Aside0.mk (hbox); have n2_ := Aside0.mk ((by rw [hg]; exact (below_size (by repeat (first | (with_reducible first | exact HB.out | apply zq5 | apply zq4 | apply zq6) | exact HB.out))) : w.heap.size ≤ gb232)); have n3_ := Aside0.mk ((by rw [hg]; exact (below_size (by repeat (first | (with_reducible first | exact HB.out | apply zq5 | apply zq4 | apply zq6) | exact HB.out))) : w.heap.size ≤ gb232)); clear HB; have HB := n0_; have BK232 := n1_; have GW232 := n2_; have GE232 := n3_; clear n0_ n1_ n2_ n3_; clear hb hbox hg))
 repeat (go_quiet (first | ((with_reducible refine gate_dst (N := 1) rfl ?_); (try (refine gate_guard (by rfl) ?_; dsimp only)); refine box_event ?hg (N := 1) ?hd (cs := #[.slice A0_0 l0_0.length c0_0]) (t := 24) ?hr ?_; (case hd => rfl); (case hg => rfl); (case hr => first | (go_simp; done) | (go_simp; rfl)); intro gb232 hg w2 hbox hb; have n0_ := Aside0.mk (below_step (by repeat (first | (with_reducible first | exact HB.out | apply zq5 | apply zq4 | apply zq6) | exact HB.out)) hb); have n1_ := Aside0.mk (hbox); have n2_ := Aside0.mk ((by rw [hg]; exact (below_size (by repeat (first | (with_reducible first | exact HB.out | apply zq5 | apply zq4 | apply zq6) | exact HB.out))) : w.heap.size ≤ gb232)); have n3_ := Aside0.mk ((by rw [hg]; exact (below_size (by repeat (first | (with_reducible first | exact HB.out | apply zq5 | apply zq4 | apply zq6) | exact HB.out))) : w.heap.size ≤ gb232)); clear HB; have HB := n0_; have BK232 := n1_; have GW232 := n2_; have GE232 := n3_; clear n0_ n1_ n2_ n3_; clear hb hbox hg)); try go_wp2_with (first | ((with_reducible refine gate_dst (N := 1) rfl ?_); (try (refine gate_guard (by rfl) ?_; dsimp only)); refine box_event ?hg (N := 1) ?hd (cs := #[.slice A0_0 l0_0.length c0_0]) (t := 24) ?hr ?_; (case hd => rfl); (case hg => rfl); (case hr => first | (go_simp; done) | (go_simp; rfl)); intro gb232 hg w2 hbox hb; have n0_ := Aside0.mk (below_step (by repeat (first | (with_reducible first | exact HB.out | apply zq5 | apply zq4 | apply zq6) | exact HB.out)) hb); have n1_ := Aside0.mk (hbox); have n2_ := Aside0.mk ((by rw [hg]; exact (below_size (by repeat (first | (with_reducible first | exact HB.out | apply zq5 | apply zq4 | apply zq6) | exact HB.out))) : w.heap.size ≤ gb232)); have n3_ := Aside0.mk ((by rw [hg]; exact (below_size (by repeat (first | (with_reducible first | exact HB.out | apply zq5 | apply zq4 | apply zq6) | exact HB.out))) : w.heap.size ≤ gb232)); clear HB; have HB := n0_; have BK232 := n1_; have GW232 := n2_; have GE232 := n3_; clear n0_ n1_ n2_ n3_; clear hb hbox hg)))
 go_loopg [3] k (fun kq v3 w' => ∃ (x3_1 : Int), v3 = .int .i64 x3_1 ∧ Aside0 (portolanref09_Right.l0 kq x3_1 l0_0 = some r) ∧ Aside0 (kq ≤ k) ∧ Aside0 (w'.heap[gb232]? = some (.cells #[(.slice A0_0 l0_0.length c0_0)] 24 (0, 0))) ∧ Aside0 (Below w.heap.size w w'))
 case atStart => exact ⟨(0), (by first | rfl | (simp; done) | (simp [*]; done)), H', ⟨Nat.le_refl _⟩, ⟨by (with_reducible repeat (first | refine zq1 ?_ _ | refine zq2 ?_ | refine zq3 ?_ _)); exact BK232.out⟩, ⟨by repeat (first | (with_reducible first | exact HB.out | apply zq5 | apply zq4 | apply zq6 | refine below_set ?_ GE232.out) | exact HB.out)⟩⟩
 case round =>
  clear H'
  try clear c1
  try clear p2
  obtain ⟨x3_1, rfl, HA, HK1, BK232, HB⟩ := hrel
  cases gk with
  | zero => exact absurd HA.out (by simp [portolanref09_Right.l0])
  | succ k1 =>
   have H := HA.out
   clear HA
   simp only [portolanref09_Right.l0] at H
   by_cases c3 : x3_1 < (l0_0.length : Int)
   ·rw [if_pos c3] at H
    have c3b0 : decide (x3_1 < (l0_0.length : Int)) = true := decide_eq_true c3
    clear c3
    by_cases c4 : 0 ≤ x3_1
    ·rw [if_pos c4] at H
     have c4b0 : decide (0 ≤ x3_1) = true := decide_eq_true c4
     clear c4
     have HC5 := Aside0.mk H
     clear H
     have hcz6_0 : wr.cell? ⟨gb232, 0, none⟩ = some (.slice A0_0 l0_0.length c0_0) := (blk_cell BK232.out 0).trans rfl
     have hfz6_0 := blk_frozen BK232.out 0
     have p233 : 0 ≤ (x3_1 : Int) := of_decide_eq_true (by first | (with_reducible assumption) | assumption)
     have q233 : x3_1 < (l0_0.length : Int) := of_decide_eq_true (by first | (with_reducible assumption) | assumption)
     obtain ⟨ad233, A233_0, c233_0, A233_1, c233_1, e233, hx233_0, hx233_1, hl233_0, hi233_0, hl233_1, hi233_1⟩ := at_T47 HR0_0.out x3_1 p233 q233
     cases e233
     replace hx233_0 := (HB.out.cell (World.block_lt_of_cell? w _ hx233_0)).trans hx233_0
     replace hx233_1 := (HB.out.cell (World.block_lt_of_cell? w _ hx233_1)).trans hx233_1
     have HR233_0 := Aside0.mk hi233_0
     have HC233_0 := Aside0.mk hl233_0
     clear hi233_0 hl233_0
     have HR233_1 := Aside0.mk hi233_1
     have HC233_1 := Aside0.mk hl233_1
     clear hi233_1 hl233_1
     replace p233 := eq_true p233
     replace q233 := eq_true q233
     go_upto_region 5 with (first | ((with_reducible refine gate_dst (N := 4) rfl ?_); (try (refine gate_guard (by rfl) ?_; dsimp only)); refine box_event ?hg (N := 4) ?hd (cs := #[.slice none 0 0, .slice none 0 0]) (t := 47) ?hr ?_; (case hd => rfl); (case hg => rfl); (case hr => first | (go_simp; done) | (go_simp; rfl)); intro gb234 hg w7 hbox hb; have n0_ := Aside0.mk (blk_below (g := gb232) (o := .cells #[.slice (some ad233) l0_0.length c0_0] 24 (0, 0)) (by (with_reducible repeat (first | refine zq1 ?_ _ | refine zq2 ?_ | refine zq3 ?_ _)); exact BK232.out) hb); have n1_ := Aside0.mk (below_step (by repeat (first | (with_reducible first | exact HB.out | apply zq5 | apply zq4 | apply zq6 | refine below_set ?_ GE232.out) | exact HB.out)) hb); have n2_ := Aside0.mk (hbox); have n3_ := Aside0.mk ((by rw [hg]; exact (below_size (by repeat (first | (with_reducible first | exact HB.out | apply zq5 | apply zq4 | apply zq6 | refine below_set ?_ GE232.out) | exact HB.out))) : w.heap.size ≤ gb234)); have n4_ := Aside0.mk ((by rw [hg]; exact (below_size (by repeat (first | (with_reducible first | exact HB.out | apply zq5 | apply zq4 | apply zq6 | refine below_set ?_ GE232.out) | exact HB.out))) : w.heap.size ≤ gb234)); have n5_ := Aside0.mk ((by rw [hg]; exact Nat.ne_of_lt (blk_lt (g := gb232) (o := .cells #[.slice (some ad233) l0_0.length c0_0] 24 (0, 0)) (by (with_reducible repeat (first | refine zq1 ?_ _ | refine zq2 ?_ | refine zq3 ?_ _)); exact BK232.out)) : gb232 ≠ gb234)); have n6_ := Aside0.mk ((by rw [hg]; exact Nat.ne_of_gt (blk_lt (g := gb232) (o := .cells #[.slice (some ad233) l0_0.length c0_0] 24 (0, 0)) (by (with_reducible repeat (first | refine zq1 ?_ _ | refine zq2 ?_ | refine zq3 ?_ _)); exact BK232.out)) : gb234 ≠ gb232)); clear BK232; clear HB; have BK232 := n0_; have HB := n1_; have BK234 := n2_; have GW234 := n3_; have GE234 := n4_; have NB232_234 := n5_; have NB234_232 := n6_; clear n0_ n1_ n2_ n3_ n4_ n5_ n6_; clear hb hbox hg; have hnb8 := NB234_232.out; have hnc8 := NB232_234.out; have hcz9_0 : w7.cell? ⟨gb234, 0, none⟩ = some (.slice none 0 0) := (blk_cell BK234.out 0).trans rfl; have hcz9_1 : w7.cell? ⟨gb234, 1, none⟩ = some (.slice none 0 0) := (blk_cell BK234.out 1).trans rfl; have hfz9_0 := blk_frozen BK234.out 0; have hfz9_1 := blk_frozen BK234.out 1))
     repeat (go_quiet (first | ((with_reducible refine gate_dst (N := 4) rfl ?_); (try (refine gate_guard (by rfl) ?_; dsimp only)); refine box_event ?hg (N := 4) ?hd (cs := #[.slice none 0 0, .slice none 0 0]) (t := 47) ?hr ?_; (case hd => rfl); (case hg => rfl); (case hr => first | (go_simp; done) | (go_simp; rfl)); intro gb234 hg w7 hbox hb; have n0_ := Aside0.mk (blk_below (g := gb232) (o := .cells #[.slice (some ad233) l0_0.length c0_0] 24 (0, 0)) (by (with_reducible repeat (first | refine zq1 ?_ _ | refine zq2 ?_ | refine zq3 ?_ _)); exact BK232.out) hb); have n1_ := Aside0.mk (below_step (by repeat (first | (with_reducible first | exact HB.out | apply zq5 | apply zq4 | apply zq6 | refine below_set ?_ GE232.out) | exact HB.out)) hb); have n2_ := Aside0.mk (hbox); have n3_ := Aside0.mk ((by rw [hg]; exact (below_size (by repeat (first | (with_reducible first | exact HB.out | apply zq5 | apply zq4 | apply zq6 | refine below_set ?_ GE232.out) | exact HB.out))) : w.heap.size ≤ gb234)); have n4_ := Aside0.mk ((by rw [hg]; exact (below_size (by repeat (first | (with_reducible first | exact HB.out | apply zq5 | apply zq4 | apply zq6 | refine below_set ?_ GE232.out) | exact HB.out))) : w.heap.size ≤ gb234)); have n5_ := Aside0.mk ((by rw [hg]; exact Nat.ne_of_lt (blk_lt (g := gb232) (o := .cells #[.slice (some ad233) l0_0.length c0_0] 24 (0, 0)) (by (with_reducible repeat (first | refine zq1 ?_ _ | refine zq2 ?_ | refine zq3 ?_ _)); exact BK232.out)) : gb232 ≠ gb234)); have n6_ := Aside0.mk ((by rw [hg]; exact Nat.ne_of_gt (blk_lt (g := gb232) (o := .cells #[.slice (some ad233) l0_0.length c0_0] 24 (0, 0)) (by (with_reducible repeat (first | refine zq1 ?_ _ | refine zq2 ?_ | refine zq3 ?_ _)); exact BK232.out)) : gb234 ≠ gb232)); clear BK232; clear HB; have BK232 := n0_; have HB := n1_; have BK234 := n2_; have GW234 := n3_; have GE234 := n4_; have NB232_234 := n5_; have NB234_232 := n6_; clear n0_ n1_ n2_ n3_ n4_ n5_ n6_; clear hb hbox hg; have hnb8 := NB234_232.out; have hnc8 := NB232_234.out; have hcz9_0 : w7.cell? ⟨gb234, 0, none⟩ = some (.slice none 0 0) := (blk_cell BK234.out 0).trans rfl; have hcz9_1 : w7.cell? ⟨gb234, 1, none⟩ = some (.slice none 0 0) := (blk_cell BK234.out 1).trans rfl; have hfz9_0 := blk_frozen BK234.out 0; have hfz9_1 := blk_frozen BK234.out 1)); go_upto_region 5 with (first | ((with_reducible refine gate_dst (N := 4) rfl ?_); (try (refine gate_guard (by rfl) ?_; dsimp only)); refine box_event ?hg (N := 4) ?hd (cs := #[.slice none 0 0, .slice none 0 0]) (t := 47) ?hr ?_; (case hd => rfl); (case hg => rfl); (case hr => first | (go_simp; done) | (go_simp; rfl)); intro gb234 hg w7 hbox hb; have n0_ := Aside0.mk (blk_below (g := gb232) (o := .cells #[.slice (some ad233) l0_0.length c0_0] 24 (0, 0)) (by (with_reducible repeat (first | refine zq1 ?_ _ | refine zq2 ?_ | refine zq3 ?_ _)); exact BK232.out) hb); have n1_ := Aside0.mk (below_step (by repeat (first | (with_reducible first | exact HB.out | apply zq5 | apply zq4 | apply zq6 | refine below_set ?_ GE232.out) | exact HB.out)) hb); have n2_ := Aside0.mk (hbox); have n3_ := Aside0.mk ((by rw [hg]; exact (below_size (by repeat (first | (with_reducible first | exact HB.out | apply zq5 | apply zq4 | apply zq6 | refine below_set ?_ GE232.out) | exact HB.out))) : w.heap.size ≤ gb234)); have n4_ := Aside0.mk ((by rw [hg]; exact (below_size (by repeat (first | (with_reducible first | exact HB.out | apply zq5 | apply zq4 | apply zq6 | refine below_set ?_ GE232.out) | exact HB.out))) : w.heap.size ≤ gb234)); have n5_ := Aside0.mk ((by rw [hg]; exact Nat.ne_of_lt (blk_lt (g := gb232) (o := .cells #[.slice (some ad233) l0_0.length c0_0] 24 (0, 0)) (by (with_reducible repeat (first | refine zq1 ?_ _ | refine zq2 ?_ | refine zq3 ?_ _)); exact BK232.out)) : gb232 ≠ gb234)); have n6_ := Aside0.mk ((by rw [hg]; exact Nat.ne_of_gt (blk_lt (g := gb232) (o := .cells #[.slice (some ad233) l0_0.length c0_0] 24 (0, 0)) (by (with_reducible repeat (first | refine zq1 ?_ _ | refine zq2 ?_ | refine zq3 ?_ _)); exact BK232.out)) : gb234 ≠ gb232)); clear BK232; clear HB; have BK232 := n0_; have HB := n1_; have BK234 := n2_; have GW234 := n3_; have GE234 := n4_; have NB232_234 := n5_; have NB234_232 := n6_; clear n0_ n1_ n2_ n3_ n4_ n5_ n6_; clear hb hbox hg; have hnb8 := NB234_232.out; have hnc8 := NB232_234.out; have hcz9_0 : w7.cell? ⟨gb234, 0, none⟩ = some (.slice none 0 0) := (blk_cell BK234.out 0).trans rfl; have hcz9_1 : w7.cell? ⟨gb234, 1, none⟩ = some (.slice none 0 0) := (blk_cell BK234.out 1).trans rfl; have hfz9_0 := blk_frozen BK234.out 0; have hfz9_1 := blk_frozen BK234.out 1)))
     (try simp only [Act.put, List.setIfInBounds_toArray, List.set_cons_zero, List.set_cons_succ])
     go_cut [27] (fun v27 wc => ∃ (kq : Nat) (x27_4 : Bool), v27 = .bool x27_4 ∧ Aside0 (portolanref09_Right.j1 kq x3_1 x27_4 l0_0 ((rd_T47 l0_0 x3_1).f0) ((rd_T47 l0_0 x3_1).f1) = some r) ∧ Aside0 (kq ≤ k1) ∧ Aside0 (wc.heap[gb232]? = some (.cells #[(.slice (some ad233) l0_0.length c0_0)] 24 (0, 0))) ∧ Aside0 (wc.heap[gb234]? = some (.cells #[(.slice A233_0 ((rd_T47 l0_0 x3_1).f0).length c233_0), (.slice A233_1 ((rd_T47 l0_0 x3_1).f1).length c233_1)] 47 (0, 0))) ∧ Aside0 (Below w.heap.size w wc))
     case first =>
      have H := HC5.out
      clear HC5
      by_cases c10 : (((rd_T47 l0_0 x3_1).f0).length : Int) > 8
      ·rw [if_pos c10] at H
       have c10b0 : decide (8 < (((rd_T47 l0_0 x3_1).f0).length : Int)) = true := decide_eq_true c10
       have c10b1 : decide (8 < ((rd_T47 l0_0 x3_1).f0).length) = true := decide_eq_true (by omega)
       clear c10
       (first | rw [c10b0] | (simp only [i64_w, i32_w]; rw [c10b0]) | skip)
       have H' := Aside0.mk H
       clear H
       have hnb11 := NB234_232.out
       have hnc11 := NB232_234.out
       have hcz12_0 : w7.cell? ⟨gb234, 0, none⟩ = some (.slice none 0 0) := (blk_cell BK234.out 0).trans rfl
       have hcz12_1 : w7.cell? ⟨gb234, 1, none⟩ = some (.slice none 0 0) := (blk_cell BK234.out 1).trans rfl
       have hfz12_0 := blk_frozen BK234.out 0
       have hfz12_1 := blk_frozen BK234.out 1
       go_wp2
       repeat (go_quiet (fail); try go_wp2)
       go_meet
       case rel => exact ⟨_, (true), (by first | rfl | (simp; done) | (simp [*]; done)), H', ⟨by have := HK1.out; first | omega | exact Nat.le_refl _⟩, ⟨by (with_reducible repeat (first | refine zq1 ?_ _ | refine zq2 ?_ | refine zq3 ?_ _)); refine blk_far ?_ NB232_234.out _; (with_reducible repeat (first | refine zq1 ?_ _ | refine zq2 ?_ | refine zq3 ?_ _)); refine blk_far ?_ NB232_234.out _; (with_reducible repeat (first | refine zq1 ?_ _ | refine zq2 ?_ | refine zq3 ?_ _)); exact BK232.out⟩, ⟨by (with_reducible repeat (first | refine zq1 ?_ _ | refine zq2 ?_ | refine zq3 ?_ _)); refine blk_put (cs := #[.slice A233_0 ((rd_T47 l0_0 x3_1).f0).length c233_0, .slice none 0 0]) ?_ 1 _ rfl; (with_reducible repeat (first | refine zq1 ?_ _ | refine zq2 ?_ | refine zq3 ?_ _)); refine blk_put (cs := #[.slice none 0 0, .slice none 0 0]) ?_ 0 _ rfl; (with_reducible repeat (first | refine zq1 ?_ _ | refine zq2 ?_ | refine zq3 ?_ _)); exact BK234.out⟩, ⟨by repeat (first | (with_reducible first | exact HB.out | apply zq5 | apply zq4 | apply zq6 | refine below_set ?_ GE232.out | refine below_set ?_ GE234.out) | exact HB.out)⟩⟩
      ·rw [if_neg c10] at H
       have c10b0 : decide (8 < (((rd_T47 l0_0 x3_1).f0).length : Int)) = false := decide_eq_false c10
       have c10b1 : decide (8 < ((rd_T47 l0_0 x3_1).f0).length) = false := decide_eq_false (by omega)
       clear c10
       (first | rw [c10b0] | (simp only [i64_w, i32_w]; rw [c10b0]) | skip)
       have H' := Aside0.mk H
       clear H
       have hnb13 := NB234_232.out
       have hnc13 := NB232_234.out
       have hcz14_0 : w7.cell? ⟨gb234, 0, none⟩ = some (.slice none 0 0) := (blk_cell BK234.out 0).trans rfl
       have hcz14_1 : w7.cell? ⟨gb234, 1, none⟩ = some (.slice none 0 0) := (blk_cell BK234.out 1).trans rfl
       have hfz14_0 := blk_frozen BK234.out 0
       have hfz14_1 := blk_frozen BK234.out 1
       go_wp2
       repeat (go_quiet (fail); try go_wp2)
       go_meet
       case rel => exact ⟨_, (decide ((((rd_T47 l0_0 x3_1).f1).length : Int) > 8)), (by first | rfl | (simp; done) | (simp [*]; done)), H', ⟨by have := HK1.out; first | omega | exact Nat.le_refl _⟩, ⟨by (with_reducible repeat (first | refine zq1 ?_ _ | refine zq2 ?_ | refine zq3 ?_ _)); refine blk_far ?_ NB232_234.out _; (with_reducible repeat (first | refine zq1 ?_ _ | refine zq2 ?_ | refine zq3 ?_ _)); refine blk_far ?_ NB232_234.out _; (with_reducible repeat (first | refine zq1 ?_ _ | refine zq2 ?_ | refine zq3 ?_ _)); exact BK232.out⟩, ⟨by (with_reducible repeat (first | refine zq1 ?_ _ | refine zq2 ?_ | refine zq3 ?_ _)); refine blk_put (cs := #[.slice A233_0 ((rd_T47 l0_0 x3_1).f0).length c233_0, .slice none 0 0]) ?_ 1 _ rfl; (with_reducible repeat (first | refine zq1 ?_ _ | refine zq2 ?_ | refine zq3 ?_ _)); refine blk_put (cs := #[.slice none 0 0, .slice none 0 0]) ?_ 0 _ rfl; (with_reducible repeat (first | refine zq1 ?_ _ | refine zq2 ?_ | refine zq3 ?_ _)); exact BK234.out⟩, ⟨by repeat (first | (with_reducible first | exact HB.out | apply zq5 | apply zq4 | apply zq6 | refine below_set ?_ GE232.out | refine below_set ?_ GE234.out) | exact HB.out)⟩⟩
     case rest =>
      clear HC5
      try clear c1
      try clear c2
      try clear p2
      try clear q2
      try clear hx2
      try clear c3
      try clear c3b0
      try clear c4
      try clear c4b0
      try clear c8
      try clear c10
      try clear c10b0
      try clear c10b1
      try clear c11
      try clear c13
      try clear c14
      try clear hcz12_0
      try clear hcz12_1
      try clear hcz14_0
      try clear hcz14_1
      try clear hcz6_0
      try clear hcz9_0
      try clear hcz9_1
      try clear hfz12_0
      try clear hfz12_1
      try clear hfz14_0
      try clear hfz14_1
      try clear hfz6_0
      try clear hfz9_0
      try clear hfz9_1
      try clear hx233_0
      try clear hx233_1
      try clear p2
      try clear p233
      try clear q233
      obtain ⟨kq, x27_4, rfl, HA, HJ4, BK232, BK234, HB⟩ := hcut
      cases kq with
      | zero => exact absurd HA.out (by simp [portolanref09_Right.j1])
      | succ kj4 =>
       have H := HA.out
       clear HA
       simp only [portolanref09_Right.j1] at H
       by_cases c15 : x27_4 = true
       ·subst c15
        have H1 : (some false) = some r := by first | (rw [if_pos rfl] at H; exact H) | rfl
        clear H
        have H := H1
        clear H1
        obtain rfl := Option.some.inj H
        go_wp2
        repeat (go_quiet (fail); try go_wp2)
        go_ret
        exact ⟨by first | rfl | (simp [errW_none, errW_some] <;> rfl) | (simp [*, errW_none, errW_some] <;> rfl), by repeat (first | (with_reducible first | exact HB.out | apply zq5 | apply zq4 | apply zq6 | refine below_set ?_ GE232.out | refine below_set ?_ GE234.out) | exact HB.out)⟩
       ·replace c15 := Bool.eq_false_iff.mpr c15
        subst c15
        have H1 : (portolanref09_Right.l1 kj4 x3_1 0 l0_0 ((rd_T47 l0_0 x3_1).f0) ((rd_T47 l0_0 x3_1).f1)) = some r := by first | (rw [if_neg (show ¬ (false = true) by decide)] at H; exact H) | rfl
        clear H
        have H := H1
        clear H1
        have H' := Aside0.mk H
        clear H
        go_wp2
        repeat (go_quiet (fail); try go_wp2)
        go_loopg [5] kj4 (fun kq v5 w' => ∃ (x5_3 : Int), v5 = .int .i64 x5_3 ∧ Aside0 (portolanref09_Right.l1 kq x3_1 x5_3 l0_0 ((rd_T47 l0_0 x3_1).f0) ((rd_T47 l0_0 x3_1).f1) = some r) ∧ Aside0 (kq ≤ kj4) ∧ Aside0 (w'.heap[gb232]? = some (.cells #[(.slice (some ad233) l0_0.length c0_0)] 24 (0, 0))) ∧ Aside0 (w'.heap[gb234]? = some (.cells #[(.slice A233_0 ((rd_T47 l0_0 x3_1).f0).length c233_0), (.slice A233_1 ((rd_T47 l0_0 x3_1).f1).length c233_1)] 47 (0, 0))) ∧ Aside0 (Below w.heap.size w w'))
        case atStart => exact ⟨(0), (by first | rfl | (simp; done) | (simp [*]; done)), H', ⟨Nat.le_refl _⟩, ⟨by (with_reducible repeat (first | refine zq1 ?_ _ | refine zq2 ?_ | refine zq3 ?_ _)); exact BK232.out⟩, ⟨by (with_reducible repeat (first | refine zq1 ?_ _ | refine zq2 ?_ | refine zq3 ?_ _)); exact BK234.out⟩, ⟨by repeat (first | (with_reducible first | exact HB.out | apply zq5 | apply zq4 | apply zq6 | refine below_set ?_ GE232.out | refine below_set ?_ GE234.out) | exact HB.out)⟩⟩
        case round =>
         clear H'
         try clear c1
         try clear c2
         try clear p2
         try clear q2
         try clear hx2
         try clear c3
         try clear c3b0
         try clear c4
         try clear c4b0
         try clear c8
         try clear c10
         try clear c10b0
         try clear c10b1
         try clear c11
         try clear c13
         try clear c14
         try clear c15
         try clear hcz12_0
         try clear hcz12_1
         try clear hcz14_0
         try clear hcz14_1
         try clear hcz6_0
         try clear hcz9_0
         try clear hcz9_1
         try clear hfz12_0
         try clear hfz12_1
         try clear hfz14_0
         try clear hfz14_1
         try clear hfz6_0
         try clear hfz9_0
         try clear hfz9_1
         try clear hx233_0
         try clear hx233_1
         try clear p2
         try clear p233
         try clear q2
         try clear q233
         obtain ⟨x5_3, rfl, HA, HK3, BK232, BK234, HB⟩ := hrel
         cases gk with
         | zero => exact absurd HA.out (by simp [portolanref09_Right.l1])
         | succ k3 =>
          have H := HA.out
          clear HA
          simp only [portolanref09_Right.l1] at H
          by_cases c16 : x5_3 < (((rd_T47 l0_0 x3_1).f0).length : Int)
          ·rw [if_pos c16] at H
           have c16b0 : decide (x5_3 < (((rd_T47 l0_0 x3_1).f0).length : Int)) = true := decide_eq_true c16
           clear c16
           by_cases c17 : 0 ≤ x5_3
           ·rw [if_pos c17] at H
            have c17b0 : decide (0 ≤ x5_3) = true := decide_eq_true c17
            clear c17
            by_cases c18 : (rd ((rd_T47 l0_0 x3_1).f0) x5_3) < 0
            ·rw [if_pos c18] at H
             have c18b0 : decide ((rd ((rd_T47 l0_0 x3_1).f0) x5_3) < 0) = true := decide_eq_true c18
             clear c18
             obtain rfl := Option.some.inj H
             have hnb19 := NB234_232.out
             have hnc19 := NB232_234.out
             have hcz20_0 : wr.cell? ⟨gb234, 0, none⟩ = some (.slice A233_0 ((rd_T47 l0_0 x3_1).f0).length c233_0) := (blk_cell BK234.out 0).trans rfl
             have hcz20_1 : wr.cell? ⟨gb234, 1, none⟩ = some (.slice A233_1 ((rd_T47 l0_0 x3_1).f1).length c233_1) := (blk_cell BK234.out 1).trans rfl
             have hfz20_0 := blk_frozen BK234.out 0
             have hfz20_1 := blk_frozen BK234.out 1
             have p235 : 0 ≤ (x5_3 : Int) := of_decide_eq_true (by first | (with_reducible assumption) | assumption)
             have q235 : x5_3 < (((rd_T47 l0_0 x3_1).f0).length : Int) := of_decide_eq_true (by first | (with_reducible assumption) | assumption)
             obtain ⟨ad235, e235, hx235_0⟩ := Kd.at_int HR233_0.out x5_3 p235 q235
             cases e235
             replace hx235_0 := (HB.out.cell (World.block_lt_of_cell? w _ hx235_0)).trans hx235_0
             replace p235 := eq_true p235
             replace q235 := eq_true q235
             go_wp2
             repeat (go_quiet (fail); try go_wp2)
             go_ret
             exact ⟨by first | rfl | (simp [errW_none, errW_some] <;> rfl) | (simp [*, errW_none, errW_some] <;> rfl), by repeat (first | (with_reducible first | exact HB.out | apply zq5 | apply zq4 | apply zq6 | refine below_set ?_ GE232.out | refine below_set ?_ GE234.out) | exact HB.out)⟩
            ·rw [if_neg c18] at H
             have c18b0 : decide ((rd ((rd_T47 l0_0 x3_1).f0) x5_3) < 0) = false := decide_eq_false c18
             clear c18
             by_cases c21 : (rd ((rd_T47 l0_0 x3_1).f0) x5_3) > (l0_0.length : Int)
             ·rw [if_pos c21] at H
              have c21b0 : decide ((l0_0.length : Int) < (rd ((rd_T47 l0_0 x3_1).f0) x5_3)) = true := decide_eq_true c21
              clear c21
              obtain rfl := Option.some.inj H
              have hnb22 := NB234_232.out
              have hnc22 := NB232_234.out
              have hcz23_0 : wr.cell? ⟨gb234, 0, none⟩ = some (.slice A233_0 ((rd_T47 l0_0 x3_1).f0).length c233_0) := (blk_cell BK234.out 0).trans rfl
              have hcz23_1 : wr.cell? ⟨gb234, 1, none⟩ = some (.slice A233_1 ((rd_T47 l0_0 x3_1).f1).length c233_1) := (blk_cell BK234.out 1).trans rfl
              have hfz23_0 := blk_frozen BK234.out 0
              have hfz23_1 := blk_frozen BK234.out 1
              have p235 : 0 ≤ (x5_3 : Int) := of_decide_eq_true (by first | (with_reducible assumption) | assumption)
              have q235 : x5_3 < (((rd_T47 l0_0 x3_1).f0).length : Int) := of_decide_eq_true (by first | (with_reducible assumption) | assumption)
              obtain ⟨ad235, e235, hx235_0⟩ := Kd.at_int HR233_0.out x5_3 p235 q235
              cases e235
              replace hx235_0 := (HB.out.cell (World.block_lt_of_cell? w _ hx235_0)).trans hx235_0
              replace p235 := eq_true p235
              replace q235 := eq_true q235
              have p236 : 0 ≤ (x5_3 : Int) := of_decide_eq_true (by first | (with_reducible assumption) | assumption)
              have q236 : x5_3 < (((rd_T47 l0_0 x3_1).f0).length : Int) := of_decide_eq_true (by first | (with_reducible assumption) | assumption)
              obtain ⟨ad236, e236, hx236_0⟩ := Kd.at_int HR233_0.out x5_3 p236 q236
              obtain rfl : ad235 = ad236 := (by injection e236)
              replace hx236_0 := (HB.out.cell (World.block_lt_of_cell? w _ hx236_0)).trans hx236_0
              replace p236 := eq_true p236
              replace q236 := eq_true q236
              have hcz24_0 : wr.cell? ⟨gb232, 0, none⟩ = some (.slice (some ad233) l0_0.length c0_0) := (blk_cell BK232.out 0).trans rfl
              have hfz24_0 := blk_frozen BK232.out 0
              go_wp2
              repeat (go_quiet (fail); try go_wp2)
              go_ret
              exact ⟨by first | rfl | (simp [errW_none, errW_some] <;> rfl) | (simp [*, errW_none, errW_some] <;> rfl), by repeat (first | (with_reducible first | exact HB.out | apply zq5 | apply zq4 | apply zq6 | refine below_set ?_ GE232.out | refine below_set ?_ GE234.out) | exact HB.out)⟩
             ·rw [if_neg c21] at H
              have c21b0 : decide ((l0_0.length : Int) < (rd ((rd_T47 l0_0 x3_1).f0) x5_3)) = false := decide_eq_false c21
              clear c21
              have H' := Aside0.mk H
              clear H
              have hnb25 := NB234_232.out
              have hnc25 := NB232_234.out
              have hcz26_0 : wr.cell? ⟨gb234, 0, none⟩ = some (.slice A233_0 ((rd_T47 l0_0 x3_1).f0).length c233_0) := (blk_cell BK234.out 0).trans rfl
              have hcz26_1 : wr.cell? ⟨gb234, 1, none⟩ = some (.slice A233_1 ((rd_T47 l0_0 x3_1).f1).length c233_1) := (blk_cell BK234.out 1).trans rfl
              have hfz26_0 := blk_frozen BK234.out 0
              have hfz26_1 := blk_frozen BK234.out 1
              have p235 : 0 ≤ (x5_3 : Int) := of_decide_eq_true (by first | (with_reducible assumption) | assumption)
              have q235 : x5_3 < (((rd_T47 l0_0 x3_1).f0).length : Int) := of_decide_eq_true (by first | (with_reducible assumption) | assumption)
              obtain ⟨ad235, e235, hx235_0⟩ := Kd.at_int HR233_0.out x5_3 p235 q235
              cases e235
              replace hx235_0 := (HB.out.cell (World.block_lt_of_cell? w _ hx235_0)).trans hx235_0
              replace p235 := eq_true p235
              replace q235 := eq_true q235
              have p236 : 0 ≤ (x5_3 : Int) := of_decide_eq_true (by first | (with_reducible assumption) | assumption)
              have q236 : x5_3 < (((rd_T47 l0_0 x3_1).f0).length : Int) := of_decide_eq_true (by first | (with_reducible assumption) | assumption)
              obtain ⟨ad236, e236, hx236_0⟩ := Kd.at_int HR233_0.out x5_3 p236 q236
              obtain rfl : ad235 = ad236 := (by injection e236)
              replace hx236_0 := (HB.out.cell (World.block_lt_of_cell? w _ hx236_0)).trans hx236_0
              replace p236 := eq_true p236
              replace q236 := eq_true q236
              have hcz27_0 : wr.cell? ⟨gb232, 0, none⟩ = some (.slice (some ad233) l0_0.length c0_0) := (blk_cell BK232.out 0).trans rfl
              have hfz27_0 := blk_frozen BK232.out 0
              go_wp2
              repeat (go_quiet (fail); try go_wp2)
              go_roundg k3
              case measure => have := HK1.out; have := HJ4.out; have := HK3.out; omega
              case rel => exact ⟨(wrap64 (x5_3 + 1)), (by first | rfl | (simp; done) | (simp [*]; done)), H', ⟨by have := HK1.out; have := HJ4.out; have := HK3.out; omega⟩, ⟨by (with_reducible repeat (first | refine zq1 ?_ _ | refine zq2 ?_ | refine zq3 ?_ _)); exact BK232.out⟩, ⟨by (with_reducible repeat (first | refine zq1 ?_ _ | refine zq2 ?_ | refine zq3 ?_ _)); exact BK234.out⟩, ⟨by repeat (first | (with_reducible first | exact HB.out | apply zq5 | apply zq4 | apply zq6 | refine below_set ?_ GE232.out | refine below_set ?_ GE234.out) | exact HB.out)⟩⟩
           ·rw [if_neg c17] at H
            exact absurd H (by simp)
          ·rw [if_neg c16] at H
           have c16b0 : decide (x5_3 < (((rd_T47 l0_0 x3_1).f0).length : Int)) = false := decide_eq_false c16
           clear c16
           have H' := Aside0.mk H
           clear H
           have hnb28 := NB234_232.out
           have hnc28 := NB232_234.out
           have hcz29_0 : wr.cell? ⟨gb234, 0, none⟩ = some (.slice A233_0 ((rd_T47 l0_0 x3_1).f0).length c233_0) := (blk_cell BK234.out 0).trans rfl
           have hcz29_1 : wr.cell? ⟨gb234, 1, none⟩ = some (.slice A233_1 ((rd_T47 l0_0 x3_1).f1).length c233_1) := (blk_cell BK234.out 1).trans rfl
           have hfz29_0 := blk_frozen BK234.out 0
           have hfz29_1 := blk_frozen BK234.out 1
           go_wp2
           repeat (go_quiet (fail); try go_wp2)
           go_roundg k3
           case measure => have := HK1.out; have := HJ4.out; have := HK3.out; omega
           case rel => exact ⟨(wrap64 (x3_1 + 1)), (by first | rfl | (simp; done) | (simp [*]; done)), H', ⟨by have := HK1.out; have := HJ4.out; have := HK3.out; omega⟩, ⟨by (with_reducible repeat (first | refine zq1 ?_ _ | refine zq2 ?_ | refine zq3 ?_ _)); exact BK232.out⟩, ⟨by repeat (first | (with_reducible first | exact HB.out | apply zq5 | apply zq4 | apply zq6 | refine below_set ?_ GE232.out | refine below_set ?_ GE234.out) | exact HB.out)⟩⟩
    ·rw [if_neg c4] at H
     exact absurd H (by simp)
   ·rw [if_neg c3] at H
    have c3b0 : decide (x3_1 < (l0_0.length : Int)) = false := decide_eq_false c3
    clear c3
    obtain rfl := Option.some.inj H
    have hcz30_0 : wr.cell? ⟨gb232, 0, none⟩ = some (.slice A0_0 l0_0.length c0_0) := (blk_cell BK232.out 0).trans rfl
    have hfz30_0 := blk_frozen BK232.out 0
    go_wp2
    repeat (go_quiet (fail); try go_wp2)
    go_ret
    exact ⟨by first | rfl | (simp [errW_none, errW_some] <;> rfl) | (simp [*, errW_none, errW_some] <;> rfl), by repeat (first | (with_reducible first | exact HB.out | apply zq5 | apply zq4 | apply zq6 | refine below_set ?_ GE232.out) | exact HB.out)⟩

end Go.Proofs.Ytfnpaacoijfbfaa.PX
