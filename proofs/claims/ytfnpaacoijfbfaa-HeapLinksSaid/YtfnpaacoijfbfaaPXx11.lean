-- written by xp.py (ours) over the translation
import Derived.Test.YtfnpaacoijfbfaaPXx0
import Derived.Test.YtfnpaacoijfbfaaPXx2
import Derived.Test.YtfnpaacoijfbfaaPXx3
import Derived.Test.YtfnpaacoijfbfaaPXx4
import Derived.Test.YtfnpaacoijfbfaaPXx6
import Derived.Test.YtfnpaacoijfbfaaHa
namespace Go.Proofs.Ytfnpaacoijfbfaa.PX
open Go.RowKit Go.Proofs.YtfnpaacoijfbfaaW.PrintWords Go.Proofs.YtfnpaacoijfbfaaW.PrintLast Go.Proofs.YtfnpaacoijfbfaaW.PrintMore
attribute [local go_sem] max2_int min2_int max_two min_two max_three min_three max_four min_four   -- for this text's walks alone
set_option linter.unusedVariables false
set_option linter.unusedSimpArgs false

/-! ### portolanlaw09_HeapNew: function 4 -/
mutual
def portolanlaw09_HeapNew.j0 : Nat → List Int → Bool → List (S47) → Int → Int → Option (Bool)
 | 0, _, _, _, _, _ => none
 | k + 1, x2, x24, x314000, x315000, x315001 => if x24 = true then (some true) else ((heap_Alloc.f k x314000 (Int.tmod (wrap64 (x315000)) 9) (Int.tmod (wrap64 (x315001)) 9)).bind fun bt318 => (if bt318.2.2 = 0 then (if bt318.2.1 = (wrap64 ((x314000.length : Int) + 1)) then ((heap_Reach.f k bt318.1 (([bt318.2.1] : List Int))).bind fun t327 => ((portolanref01_Ints.f k t327 (([bt318.2.1] : List Int))).bind fun t333 => (portolanlaw09_HeapNew.j1 k x2 bt318.2.1 (!t333) x314000 bt318.1))) else (portolanlaw09_HeapNew.j1 k x2 bt318.2.1 true x314000 bt318.1)) else (portolanlaw09_HeapNew.j1 k x2 bt318.2.1 true x314000 bt318.1)))
def portolanlaw09_HeapNew.j1 : Nat → List Int → Int → Bool → List (S47) → List (S47) → Option (Bool)
 | 0, _, _, _, _, _ => none
 | k + 1, x2, x8, x58, x314000, x324000 => if x58 = true then (some false) else (portolanlaw09_HeapNew.l0 k x2 x8 0 x314000 x324000)
def portolanlaw09_HeapNew.l0 : Nat → List Int → Int → Int → List (S47) → List (S47) → Option (Bool)
 | 0, _, _, _, _, _ => none
 | k + 1, x2, x8, x10, x314000, x324000 => if x10 < (x2.length : Int) then (if 0 ≤ x10 then (if (rd x2 x10) = x8 then (some true) else (portolanlaw09_HeapNew.l0 k x2 x8 (wrap64 (x10 + 1)) x314000 x324000)) else (none)) else ((heap_Reach.f k x324000 x2).bind fun t335 => ((heap_Reach.f k x314000 x2).bind fun t338 => ((portolanref01_Ints.f k t335 t338).bind fun t341 => (some t341))))
end
def portolanlaw09_HeapNew.f (k : Nat) (l0_0 : List (S47)) (a1_0 : Int) (a1_1 : Int) (l2 : List Int) : Option (Bool) := (portolanlaw09_alive.f k).bind fun t315 => (if t315 = true then ((portolanref09_Great.f k l0_0).bind fun t316 => (if t316 = true then (portolanlaw09_HeapNew.j0 k l2 true l0_0 a1_0 a1_1) else (if (l2.length : Int) > 50 then (portolanlaw09_HeapNew.j0 k l2 true l0_0 a1_0 a1_1) else ((portolanref09_Right.f k l0_0).bind fun t317 => (portolanlaw09_HeapNew.j0 k l2 (!t317) l0_0 a1_0 a1_1))))) else (some false))
theorem portolanlaw09_HeapNew.mono_l : ∀ k, (∀ y0 y1 y2 y3 y4, LeO (portolanlaw09_HeapNew.j0 k y0 y1 y2 y3 y4) (portolanlaw09_HeapNew.j0 (k + 1) y0 y1 y2 y3 y4)) ∧ (∀ y0 y1 y2 y3 y4, LeO (portolanlaw09_HeapNew.j1 k y0 y1 y2 y3 y4) (portolanlaw09_HeapNew.j1 (k + 1) y0 y1 y2 y3 y4)) ∧ (∀ y0 y1 y2 y3 y4, LeO (portolanlaw09_HeapNew.l0 k y0 y1 y2 y3 y4) (portolanlaw09_HeapNew.l0 (k + 1) y0 y1 y2 y3 y4))
 | 0 => ⟨fun _ _ _ _ _ r h => by simp [portolanlaw09_HeapNew.j0] at h, fun _ _ _ _ _ r h => by simp [portolanlaw09_HeapNew.j1] at h, fun _ _ _ _ _ r h => by simp [portolanlaw09_HeapNew.l0] at h⟩
 | k + 1 => by
  obtain ⟨ih0, ih1, ih2⟩ := portolanlaw09_HeapNew.mono_l k
  refine ⟨?_, ?_, ?_⟩
  ·intro y0 y1 y2 y3 y4
   unfold portolanlaw09_HeapNew.j0
   repeat' first
   | (with_reducible exact ih0 _ _ _ _ _)
   | (with_reducible exact ih1 _ _ _ _ _)
   | (with_reducible exact ih2 _ _ _ _ _)
   | (with_reducible exact heap_Alloc.mono _ _ _ _)
   | (with_reducible exact heap_Reach.mono _ _ _)
   | (with_reducible exact portolanlaw09_alive.mono _)
   | (with_reducible exact portolanref01_Ints.mono _ _ _)
   | (with_reducible exact portolanref09_Great.mono _ _)
   | (with_reducible exact portolanref09_Right.mono _ _)
   | (with_reducible exact LeO.refl _)
   | (with_reducible exact LeO.none _)
   | (with_reducible refine LeO.ite ?_ ?_)
   | (with_reducible refine LeO.bind ?_ (fun _ => ?_))
   | exact ih0 _ _ _ _ _
   | exact ih1 _ _ _ _ _
   | exact ih2 _ _ _ _ _
   | exact heap_Alloc.mono _ _ _ _
   | exact heap_Reach.mono _ _ _
   | exact portolanlaw09_alive.mono _
   | exact portolanref01_Ints.mono _ _ _
   | exact portolanref09_Great.mono _ _
   | exact portolanref09_Right.mono _ _
   | exact LeO.none _
   | refine LeO.ite ?_ ?_
   | refine LeO.bind ?_ (fun _ => ?_)
  ·intro y0 y1 y2 y3 y4
   unfold portolanlaw09_HeapNew.j1
   repeat' first
   | (with_reducible exact ih0 _ _ _ _ _)
   | (with_reducible exact ih1 _ _ _ _ _)
   | (with_reducible exact ih2 _ _ _ _ _)
   | (with_reducible exact heap_Alloc.mono _ _ _ _)
   | (with_reducible exact heap_Reach.mono _ _ _)
   | (with_reducible exact portolanlaw09_alive.mono _)
   | (with_reducible exact portolanref01_Ints.mono _ _ _)
   | (with_reducible exact portolanref09_Great.mono _ _)
   | (with_reducible exact portolanref09_Right.mono _ _)
   | (with_reducible exact LeO.refl _)
   | (with_reducible exact LeO.none _)
   | (with_reducible refine LeO.ite ?_ ?_)
   | (with_reducible refine LeO.bind ?_ (fun _ => ?_))
   | exact ih0 _ _ _ _ _
   | exact ih1 _ _ _ _ _
   | exact ih2 _ _ _ _ _
   | exact heap_Alloc.mono _ _ _ _
   | exact heap_Reach.mono _ _ _
   | exact portolanlaw09_alive.mono _
   | exact portolanref01_Ints.mono _ _ _
   | exact portolanref09_Great.mono _ _
   | exact portolanref09_Right.mono _ _
   | exact LeO.none _
   | refine LeO.ite ?_ ?_
   | refine LeO.bind ?_ (fun _ => ?_)
  ·intro y0 y1 y2 y3 y4
   unfold portolanlaw09_HeapNew.l0
   repeat' first
   | (with_reducible exact ih0 _ _ _ _ _)
   | (with_reducible exact ih1 _ _ _ _ _)
   | (with_reducible exact ih2 _ _ _ _ _)
   | (with_reducible exact heap_Alloc.mono _ _ _ _)
   | (with_reducible exact heap_Reach.mono _ _ _)
   | (with_reducible exact portolanlaw09_alive.mono _)
   | (with_reducible exact portolanref01_Ints.mono _ _ _)
   | (with_reducible exact portolanref09_Great.mono _ _)
   | (with_reducible exact portolanref09_Right.mono _ _)
   | (with_reducible exact LeO.refl _)
   | (with_reducible exact LeO.none _)
   | (with_reducible refine LeO.ite ?_ ?_)
   | (with_reducible refine LeO.bind ?_ (fun _ => ?_))
   | exact ih0 _ _ _ _ _
   | exact ih1 _ _ _ _ _
   | exact ih2 _ _ _ _ _
   | exact heap_Alloc.mono _ _ _ _
   | exact heap_Reach.mono _ _ _
   | exact portolanlaw09_alive.mono _
   | exact portolanref01_Ints.mono _ _ _
   | exact portolanref09_Great.mono _ _
   | exact portolanref09_Right.mono _ _
   | exact LeO.none _
   | refine LeO.ite ?_ ?_
   | refine LeO.bind ?_ (fun _ => ?_)
theorem portolanlaw09_HeapNew.mono : ∀ a0 a1 a2 a3 k, LeO (portolanlaw09_HeapNew.f k a0 a1 a2 a3) (portolanlaw09_HeapNew.f (k + 1) a0 a1 a2 a3) := by
 intro a0 a1 a2 a3 k
 obtain ⟨ih0, ih1, ih2⟩ := portolanlaw09_HeapNew.mono_l k
 unfold portolanlaw09_HeapNew.f
 repeat' first
   | (with_reducible exact ih0 _ _ _ _ _)
   | (with_reducible exact ih1 _ _ _ _ _)
   | (with_reducible exact ih2 _ _ _ _ _)
   | (with_reducible exact heap_Alloc.mono _ _ _ _)
   | (with_reducible exact heap_Reach.mono _ _ _)
   | (with_reducible exact portolanlaw09_alive.mono _)
   | (with_reducible exact portolanref01_Ints.mono _ _ _)
   | (with_reducible exact portolanref09_Great.mono _ _)
   | (with_reducible exact portolanref09_Right.mono _ _)
   | (with_reducible exact LeO.refl _)
   | (with_reducible exact LeO.none _)
   | (with_reducible refine LeO.ite ?_ ?_)
   | (with_reducible refine LeO.bind ?_ (fun _ => ?_))
   | exact ih0 _ _ _ _ _
   | exact ih1 _ _ _ _ _
   | exact ih2 _ _ _ _ _
   | exact heap_Alloc.mono _ _ _ _
   | exact heap_Reach.mono _ _ _
   | exact portolanlaw09_alive.mono _
   | exact portolanref01_Ints.mono _ _ _
   | exact portolanref09_Great.mono _ _
   | exact portolanref09_Right.mono _ _
   | exact LeO.none _
   | refine LeO.ite ?_ ?_
   | refine LeO.bind ?_ (fun _ => ?_)
def portolanlaw09_HeapNew.T13 : Bool × List (List Nat × List Nat) := (true, [([], []), ([], []), ([0, 1], [0, 1]), ([], []), ([], []), ([3, 4, 2], [3, 4]), ([2, 5, 5], [2, 5]), ([6, 6, 0, 1, 2, 3, 4, 5, 6], [6])])
def portolanlaw09_HeapNew.B13 : List Nat := [0, 0, 3, 0, 0, 31, 63, 127]
theorem portolanlaw09_HeapNew.tab13 : rtab .any (opsOf Try.f4 13) = portolanlaw09_HeapNew.T13 := by kernel_rfl
theorem portolanlaw09_HeapNew.bits13 : waitsOk portolanlaw09_HeapNew.T13.2 portolanlaw09_HeapNew.B13 = true := by kernel_rfl
set_option maxHeartbeats 8000000 in
set_option maxRecDepth 100000 in
theorem portolanlaw09_HeapNew.calls (k : Nat) (A0_0 : Option Addr) (c0_0 : Nat) (l0_0 : List (S47)) (a1_0 : Int) (a1_1 : Int) (A2 : Option Addr) (c2 : Nat) (l2 : List Int) (w : World) (hr0_0 : Kd.C k47 w A0_0 l0_0.length l0_0) (hc0_0 : l0_0.length ≤ c0_0) (hr2 : Kd.C (Kd.int .i64) w A2 l2.length l2) (hc2 : l2.length ≤ c2) (h : portolanlaw09_HeapNew.f k l0_0 a1_0 a1_1 l2 = some true) :
  Calls Try.prog 4 #[.agg #[.slice A0_0 l0_0.length c0_0], .agg #[.int .u8 a1_0, .int .u8 a1_1], .slice A2 l2.length c2] w fun e w' => e = .returned (.bool true) ∧ Below w.heap.size w w' := by
 have hu24 := Try.underlying24
 have hu37 := Try.underlying37
 have HR0_0 := Aside0.mk hr0_0
 have HC0_0 := Aside0.mk hc0_0
 clear hr0_0 hc0_0
 have HR2 := Aside0.mk hr2
 have HC2 := Aside0.mk hc2
 clear hr2 hc2
 have HB := Aside0.mk (Below.refl w.heap.size w)
 have H : ((portolanlaw09_alive.f k).bind fun t315 => (if t315 = true then ((portolanref09_Great.f k l0_0).bind fun t316 => (if t316 = true then (portolanlaw09_HeapNew.j0 k l2 true l0_0 a1_0 a1_1) else (if (l2.length : Int) > 50 then (portolanlaw09_HeapNew.j0 k l2 true l0_0 a1_0 a1_1) else ((portolanref09_Right.f k l0_0).bind fun t317 => (portolanlaw09_HeapNew.j0 k l2 (!t317) l0_0 a1_0 a1_1))))) else (some false))) = some true := h
 clear h
 replace H := Option.bind_eq_some_iff.mp H
 obtain ⟨t315, A40, H⟩ := H
 replace H : (if t315 = true then ((portolanref09_Great.f k l0_0).bind fun t316 => (if t316 = true then (portolanlaw09_HeapNew.j0 k l2 true l0_0 a1_0 a1_1) else (if (l2.length : Int) > 50 then (portolanlaw09_HeapNew.j0 k l2 true l0_0 a1_0 a1_1) else ((portolanref09_Right.f k l0_0).bind fun t317 => (portolanlaw09_HeapNew.j0 k l2 (!t317) l0_0 a1_0 a1_1))))) else (some false)) = some true := H
 have A4 := Aside0.mk A40
 clear A40
 by_cases c5 : t315 = true
 ·subst c5
  have H1 : ((portolanref09_Great.f k l0_0).bind fun t316 => (if t316 = true then (portolanlaw09_HeapNew.j0 k l2 true l0_0 a1_0 a1_1) else (if (l2.length : Int) > 50 then (portolanlaw09_HeapNew.j0 k l2 true l0_0 a1_0 a1_1) else ((portolanref09_Right.f k l0_0).bind fun t317 => (portolanlaw09_HeapNew.j0 k l2 (!t317) l0_0 a1_0 a1_1))))) = some true := by first | (rw [if_pos rfl] at H; exact H) | rfl
  clear H
  have H := H1
  clear H1
  have HC6 := Aside0.mk H
  clear H
  go_enter Try.func4, Try.ntmps4
  go_upto_region 3 with (first | ((with_reducible refine gate_dst (N := 3) rfl ?_); (try (refine gate_guard (by rfl) ?_; dsimp only)); refine box_event ?hg (N := 3) ?hd (cs := #[.slice A0_0 l0_0.length c0_0]) (t := 24) ?hr ?_; (case hd => rfl); (case hg => rfl); (case hr => first | (go_simp; done) | (go_simp; rfl)); intro gb313 hg w7 hbox hb; have n0_ := Aside0.mk (below_step (by repeat (first | (with_reducible first | exact HB.out | apply zq5 | apply zq4 | apply zq6) | exact HB.out)) hb); have n1_ := Aside0.mk (hbox); have n2_ := Aside0.mk ((by rw [hg]; exact (below_size (by repeat (first | (with_reducible first | exact HB.out | apply zq5 | apply zq4 | apply zq6) | exact HB.out))) : w.heap.size ≤ gb313)); have n3_ := Aside0.mk ((by rw [hg]; exact (below_size (by repeat (first | (with_reducible first | exact HB.out | apply zq5 | apply zq4 | apply zq6) | exact HB.out))) : w.heap.size ≤ gb313)); clear HB; have HB := n0_; have BK313 := n1_; have GW313 := n2_; have GE313 := n3_; clear n0_ n1_ n2_ n3_; clear hb hbox hg) | ((with_reducible refine gate_dst (N := 4) rfl ?_); (try (refine gate_guard (by rfl) ?_; dsimp only)); refine box_event ?hg (N := 4) ?hd (cs := #[.int .u8 a1_0, .int .u8 a1_1]) (t := 37) ?hr ?_; (case hd => rfl); (case hg => rfl); (case hr => first | (go_simp; done) | (go_simp; rfl)); intro gb314 hg w8 hbox hb; have n0_ := Aside0.mk (blk_below (g := gb313) (o := .cells #[.slice A0_0 l0_0.length c0_0] 24 (0, 0)) (by (with_reducible repeat (first | refine zq1 ?_ _ | refine zq2 ?_ | refine zq3 ?_ _)); exact BK313.out) hb); have n1_ := Aside0.mk (below_step (by repeat (first | (with_reducible first | exact HB.out | apply zq5 | apply zq4 | apply zq6 | refine below_set ?_ GE313.out) | exact HB.out)) hb); have n2_ := Aside0.mk (hbox); have n3_ := Aside0.mk ((by rw [hg]; exact (below_size (by repeat (first | (with_reducible first | exact HB.out | apply zq5 | apply zq4 | apply zq6 | refine below_set ?_ GE313.out) | exact HB.out))) : w.heap.size ≤ gb314)); have n4_ := Aside0.mk ((by rw [hg]; exact (below_size (by repeat (first | (with_reducible first | exact HB.out | apply zq5 | apply zq4 | apply zq6 | refine below_set ?_ GE313.out) | exact HB.out))) : w.heap.size ≤ gb314)); have n5_ := Aside0.mk ((by rw [hg]; exact Nat.ne_of_lt (blk_lt (g := gb313) (o := .cells #[.slice A0_0 l0_0.length c0_0] 24 (0, 0)) (by (with_reducible repeat (first | refine zq1 ?_ _ | refine zq2 ?_ | refine zq3 ?_ _)); exact BK313.out)) : gb313 ≠ gb314)); have n6_ := Aside0.mk ((by rw [hg]; exact Nat.ne_of_gt (blk_lt (g := gb313) (o := .cells #[.slice A0_0 l0_0.length c0_0] 24 (0, 0)) (by (with_reducible repeat (first | refine zq1 ?_ _ | refine zq2 ?_ | refine zq3 ?_ _)); exact BK313.out)) : gb314 ≠ gb313)); clear BK313; clear HB; have BK313 := n0_; have HB := n1_; have BK314 := n2_; have GW314 := n3_; have GE314 := n4_; have NB313_314 := n5_; have NB314_313 := n6_; clear n0_ n1_ n2_ n3_ n4_ n5_ n6_; clear hb hbox hg) | ((with_reducible refine gate_callee (f := 7) rfl ?_); refine goesL_ (some 11) rfl rfl Try.func7 (by kernel_rfl) rfl #[] rfl (by (try simp only [List.map_toArray, List.map_cons, List.map_nil]); first | done | rfl | (simp only [List.length_drop, List.length_take]; rfl)) ?_; (with_reducible refine (portolanlaw09_alive.calls k  true _ A4.out).mono ?_); rintro e w9 ⟨rfl, hb⟩; refine ⟨_, rfl, ?_⟩; have n0_ := Aside0.mk (blk_below (g := gb313) (o := .cells #[.slice A0_0 l0_0.length c0_0] 24 (0, 0)) (by (with_reducible repeat (first | refine zq1 ?_ _ | refine zq2 ?_ | refine zq3 ?_ _)); exact BK313.out) hb); have n1_ := Aside0.mk (blk_below (g := gb314) (o := .cells #[.int .u8 a1_0, .int .u8 a1_1] 37 (0, 0)) (by (with_reducible repeat (first | refine zq1 ?_ _ | refine zq2 ?_ | refine zq3 ?_ _)); exact BK314.out) hb); have n2_ := Aside0.mk (below_step (by repeat (first | (with_reducible first | exact HB.out | apply zq5 | apply zq4 | apply zq6 | refine below_set ?_ GE313.out | refine below_set ?_ GE314.out) | exact HB.out)) hb); clear BK313; clear BK314; clear HB; have BK313 := n0_; have BK314 := n1_; have HB := n2_; clear n0_ n1_ n2_; (try clear hb); (try clear hb2); (try clear hk); (try clear hi)))
  (try simp only [Act.put, List.setIfInBounds_toArray, List.set_cons_zero, List.set_cons_succ])
  go_cut [24] (fun v24 wc => ∃ (kq : Nat) (x24_5 : Bool), v24 = .bool x24_5 ∧ Aside0 (portolanlaw09_HeapNew.j0 kq l2 x24_5 l0_0 a1_0 a1_1 = some true) ∧ Aside0 (kq ≤ k) ∧ Aside0 (wc.heap[gb313]? = some (.cells #[(.slice A0_0 l0_0.length c0_0)] 24 (0, 0))) ∧ Aside0 (wc.heap[gb314]? = some (.cells #[.int .u8 a1_0, .int .u8 a1_1] 37 (0, 0))) ∧ Aside0 (Below w.heap.size w wc))
  case first =>
   have H := HC6.out
   clear HC6
   replace H := Option.bind_eq_some_iff.mp H
   obtain ⟨t316, A100, H⟩ := H
   replace H : (if t316 = true then (portolanlaw09_HeapNew.j0 k l2 true l0_0 a1_0 a1_1) else (if (l2.length : Int) > 50 then (portolanlaw09_HeapNew.j0 k l2 true l0_0 a1_0 a1_1) else ((portolanref09_Right.f k l0_0).bind fun t317 => (portolanlaw09_HeapNew.j0 k l2 (!t317) l0_0 a1_0 a1_1)))) = some true := H
   have A10 := Aside0.mk A100
   clear A100
   by_cases c11 : t316 = true
   ·subst c11
    have H1 : (portolanlaw09_HeapNew.j0 k l2 true l0_0 a1_0 a1_1) = some true := by first | (rw [if_pos rfl] at H; exact H) | rfl
    clear H
    have H := H1
    clear H1
    have H' := Aside0.mk H
    clear H
    have hnb12 := NB313_314.out
    have hnc12 := NB314_313.out
    have hcz13_0 : w9.cell? ⟨gb313, 0, none⟩ = some (.slice A0_0 l0_0.length c0_0) := (blk_cell BK313.out 0).trans rfl
    have hfz13_0 := blk_frozen BK313.out 0
    go_wp2_with (first | ((with_reducible refine gate_callee (f := 8) rfl ?_); refine goesL_ (some 14) rfl rfl Try.func8 (by kernel_rfl) rfl #[.agg #[.slice A0_0 l0_0.length c0_0]] rfl (by (try simp only [List.map_toArray, List.map_cons, List.map_nil]); first | done | rfl | (simp only [List.length_drop, List.length_take]; rfl)) ?_; (with_reducible refine (portolanref09_Great.calls k _ _ l0_0 true _ ?side1 ?side2 A10.out).mono ?_); (case side1 => repeat (first | exact (Kd.C_below HR0_0.out HB.out) | (with_reducible refine Kd.C_alloc ?_ _) | (with_reducible refine Kd.C_drewN ?_ _) | (with_reducible refine Kd.C_drew ?_))); (case side2 => exact HC0_0.out); rintro e w14 ⟨rfl, hb⟩; refine ⟨_, rfl, ?_⟩; have n0_ := Aside0.mk (blk_below (g := gb313) (o := .cells #[.slice A0_0 l0_0.length c0_0] 24 (0, 0)) (by (with_reducible repeat (first | refine zq1 ?_ _ | refine zq2 ?_ | refine zq3 ?_ _)); exact BK313.out) hb); have n1_ := Aside0.mk (blk_below (g := gb314) (o := .cells #[.int .u8 a1_0, .int .u8 a1_1] 37 (0, 0)) (by (with_reducible repeat (first | refine zq1 ?_ _ | refine zq2 ?_ | refine zq3 ?_ _)); exact BK314.out) hb); have n2_ := Aside0.mk (below_step (by repeat (first | (with_reducible first | exact HB.out | apply zq5 | apply zq4 | apply zq6 | refine below_set ?_ GE313.out | refine below_set ?_ GE314.out) | exact HB.out)) hb); clear BK313; clear BK314; clear HB; have BK313 := n0_; have BK314 := n1_; have HB := n2_; clear n0_ n1_ n2_; (try clear hb); (try clear hb2); (try clear hk); (try clear hi)))
    go_meet
    case rel => exact ⟨_, (true), (by first | rfl | (simp; done) | (simp [*]; done)), H', ⟨by first | omega | exact Nat.le_refl _⟩, ⟨by (with_reducible repeat (first | refine zq1 ?_ _ | refine zq2 ?_ | refine zq3 ?_ _)); exact BK313.out⟩, ⟨by (with_reducible repeat (first | refine zq1 ?_ _ | refine zq2 ?_ | refine zq3 ?_ _)); exact BK314.out⟩, ⟨by repeat (first | (with_reducible first | exact HB.out | apply zq5 | apply zq4 | apply zq6 | refine below_set ?_ GE313.out | refine below_set ?_ GE314.out) | exact HB.out)⟩⟩
   ·replace c11 := Bool.eq_false_iff.mpr c11
    subst c11
    have H1 : (if (l2.length : Int) > 50 then (portolanlaw09_HeapNew.j0 k l2 true l0_0 a1_0 a1_1) else ((portolanref09_Right.f k l0_0).bind fun t317 => (portolanlaw09_HeapNew.j0 k l2 (!t317) l0_0 a1_0 a1_1))) = some true := by first | (rw [if_neg (show ¬ (false = true) by decide)] at H; exact H) | rfl
    clear H
    have H := H1
    clear H1
    by_cases c15 : (l2.length : Int) > 50
    ·rw [if_pos c15] at H
     have c15b0 : decide (50 < (l2.length : Int)) = true := decide_eq_true c15
     have c15b1 : decide (50 < l2.length) = true := decide_eq_true (by omega)
     clear c15
     (first | rw [c15b0] | (simp only [i64_w, i32_w]; rw [c15b0]) | skip)
     have H' := Aside0.mk H
     clear H
     have hnb16 := NB313_314.out
     have hnc16 := NB314_313.out
     have hcz17_0 : w9.cell? ⟨gb313, 0, none⟩ = some (.slice A0_0 l0_0.length c0_0) := (blk_cell BK313.out 0).trans rfl
     have hfz17_0 := blk_frozen BK313.out 0
     go_wp2_with (first | ((with_reducible refine gate_callee (f := 8) rfl ?_); refine goesL_ (some 14) rfl rfl Try.func8 (by kernel_rfl) rfl #[.agg #[.slice A0_0 l0_0.length c0_0]] rfl (by (try simp only [List.map_toArray, List.map_cons, List.map_nil]); first | done | rfl | (simp only [List.length_drop, List.length_take]; rfl)) ?_; (with_reducible refine (portolanref09_Great.calls k _ _ l0_0 false _ ?side1 ?side2 A10.out).mono ?_); (case side1 => repeat (first | exact (Kd.C_below HR0_0.out HB.out) | (with_reducible refine Kd.C_alloc ?_ _) | (with_reducible refine Kd.C_drewN ?_ _) | (with_reducible refine Kd.C_drew ?_))); (case side2 => exact HC0_0.out); rintro e w18 ⟨rfl, hb⟩; refine ⟨_, rfl, ?_⟩; have n0_ := Aside0.mk (blk_below (g := gb313) (o := .cells #[.slice A0_0 l0_0.length c0_0] 24 (0, 0)) (by (with_reducible repeat (first | refine zq1 ?_ _ | refine zq2 ?_ | refine zq3 ?_ _)); exact BK313.out) hb); have n1_ := Aside0.mk (blk_below (g := gb314) (o := .cells #[.int .u8 a1_0, .int .u8 a1_1] 37 (0, 0)) (by (with_reducible repeat (first | refine zq1 ?_ _ | refine zq2 ?_ | refine zq3 ?_ _)); exact BK314.out) hb); have n2_ := Aside0.mk (below_step (by repeat (first | (with_reducible first | exact HB.out | apply zq5 | apply zq4 | apply zq6 | refine below_set ?_ GE313.out | refine below_set ?_ GE314.out) | exact HB.out)) hb); clear BK313; clear BK314; clear HB; have BK313 := n0_; have BK314 := n1_; have HB := n2_; clear n0_ n1_ n2_; (try clear hb); (try clear hb2); (try clear hk); (try clear hi)))
     go_meet
     case rel => exact ⟨_, (true), (by first | rfl | (simp; done) | (simp [*]; done)), H', ⟨by first | omega | exact Nat.le_refl _⟩, ⟨by (with_reducible repeat (first | refine zq1 ?_ _ | refine zq2 ?_ | refine zq3 ?_ _)); exact BK313.out⟩, ⟨by (with_reducible repeat (first | refine zq1 ?_ _ | refine zq2 ?_ | refine zq3 ?_ _)); exact BK314.out⟩, ⟨by repeat (first | (with_reducible first | exact HB.out | apply zq5 | apply zq4 | apply zq6 | refine below_set ?_ GE313.out | refine below_set ?_ GE314.out) | exact HB.out)⟩⟩
    ·rw [if_neg c15] at H
     have c15b0 : decide (50 < (l2.length : Int)) = false := decide_eq_false c15
     have c15b1 : decide (50 < l2.length) = false := decide_eq_false (by omega)
     clear c15
     (first | rw [c15b0] | (simp only [i64_w, i32_w]; rw [c15b0]) | skip)
     replace H := Option.bind_eq_some_iff.mp H
     obtain ⟨t317, A190, H⟩ := H
     replace H : (portolanlaw09_HeapNew.j0 k l2 (!t317) l0_0 a1_0 a1_1) = some true := H
     have A19 := Aside0.mk A190
     clear A190
     have H' := Aside0.mk H
     clear H
     have hnb20 := NB313_314.out
     have hnc20 := NB314_313.out
     have hcz21_0 : w9.cell? ⟨gb313, 0, none⟩ = some (.slice A0_0 l0_0.length c0_0) := (blk_cell BK313.out 0).trans rfl
     have hfz21_0 := blk_frozen BK313.out 0
     go_wp2_with (first | ((with_reducible refine gate_callee (f := 8) rfl ?_); refine goesL_ (some 14) rfl rfl Try.func8 (by kernel_rfl) rfl #[.agg #[.slice A0_0 l0_0.length c0_0]] rfl (by (try simp only [List.map_toArray, List.map_cons, List.map_nil]); first | done | rfl | (simp only [List.length_drop, List.length_take]; rfl)) ?_; (with_reducible refine (portolanref09_Great.calls k _ _ l0_0 false _ ?side1 ?side2 A10.out).mono ?_); (case side1 => repeat (first | exact (Kd.C_below HR0_0.out HB.out) | (with_reducible refine Kd.C_alloc ?_ _) | (with_reducible refine Kd.C_drewN ?_ _) | (with_reducible refine Kd.C_drew ?_))); (case side2 => exact HC0_0.out); rintro e w22 ⟨rfl, hb⟩; refine ⟨_, rfl, ?_⟩; have n0_ := Aside0.mk (blk_below (g := gb313) (o := .cells #[.slice A0_0 l0_0.length c0_0] 24 (0, 0)) (by (with_reducible repeat (first | refine zq1 ?_ _ | refine zq2 ?_ | refine zq3 ?_ _)); exact BK313.out) hb); have n1_ := Aside0.mk (blk_below (g := gb314) (o := .cells #[.int .u8 a1_0, .int .u8 a1_1] 37 (0, 0)) (by (with_reducible repeat (first | refine zq1 ?_ _ | refine zq2 ?_ | refine zq3 ?_ _)); exact BK314.out) hb); have n2_ := Aside0.mk (below_step (by repeat (first | (with_reducible first | exact HB.out | apply zq5 | apply zq4 | apply zq6 | refine below_set ?_ GE313.out | refine below_set ?_ GE314.out) | exact HB.out)) hb); clear BK313; clear BK314; clear HB; have BK313 := n0_; have BK314 := n1_; have HB := n2_; clear n0_ n1_ n2_; (try clear hb); (try clear hb2); (try clear hk); (try clear hi); have hcz23_0 : w22.cell? ⟨gb313, 0, none⟩ = some (.slice A0_0 l0_0.length c0_0) := (blk_cell BK313.out 0).trans rfl; have hfz23_0 := blk_frozen BK313.out 0) | (go_at_call 14; (with_reducible refine (portolanref09_Right.calls k _ _ l0_0 t317 _ ?side1 ?side2 A19.out).mono ?_); (case side1 => repeat (first | exact (Kd.C_below HR0_0.out HB.out) | (with_reducible refine Kd.C_alloc ?_ _) | (with_reducible refine Kd.C_drewN ?_ _) | (with_reducible refine Kd.C_drew ?_))); (case side2 => exact HC0_0.out); rintro e w24 ⟨rfl, hb⟩; have n0_ := Aside0.mk (blk_below (g := gb313) (o := .cells #[.slice A0_0 l0_0.length c0_0] 24 (0, 0)) (by (with_reducible repeat (first | refine zq1 ?_ _ | refine zq2 ?_ | refine zq3 ?_ _)); exact BK313.out) hb); have n1_ := Aside0.mk (blk_below (g := gb314) (o := .cells #[.int .u8 a1_0, .int .u8 a1_1] 37 (0, 0)) (by (with_reducible repeat (first | refine zq1 ?_ _ | refine zq2 ?_ | refine zq3 ?_ _)); exact BK314.out) hb); have n2_ := Aside0.mk (below_step (by repeat (first | (with_reducible first | exact HB.out | apply zq5 | apply zq4 | apply zq6 | refine below_set ?_ GE313.out | refine below_set ?_ GE314.out) | exact HB.out)) hb); clear BK313; clear BK314; clear HB; have BK313 := n0_; have BK314 := n1_; have HB := n2_; clear n0_ n1_ n2_; (try clear hb); (try clear hb2); (try clear hk); (try clear hi)))
     go_meet
     case rel => exact ⟨_, (!t317), (by first | rfl | (simp; done) | (simp [*]; done)), H', ⟨by first | omega | exact Nat.le_refl _⟩, ⟨by (with_reducible repeat (first | refine zq1 ?_ _ | refine zq2 ?_ | refine zq3 ?_ _)); exact BK313.out⟩, ⟨by (with_reducible repeat (first | refine zq1 ?_ _ | refine zq2 ?_ | refine zq3 ?_ _)); exact BK314.out⟩, ⟨by repeat (first | (with_reducible first | exact HB.out | apply zq5 | apply zq4 | apply zq6 | refine below_set ?_ GE313.out | refine below_set ?_ GE314.out) | exact HB.out)⟩⟩
  case rest =>
   clear HC6
   try clear c1
   try clear c2
   try clear p2
   try clear c4
   try clear c5
   try clear c7
   try clear c8
   try clear c11
   try clear c12
   try clear c15
   try clear c15b0
   try clear c15b1
   try clear c16
   try clear c20
   try clear hcz13_0
   try clear hcz17_0
   try clear hcz21_0
   try clear hcz23_0
   try clear hfz13_0
   try clear hfz17_0
   try clear hfz21_0
   try clear hfz23_0
   obtain ⟨kq, x24_5, rfl, HA, HJ5, BK313, BK314, HB⟩ := hcut
   cases kq with
   | zero => exact absurd HA.out (by simp [portolanlaw09_HeapNew.j0])
   | succ kj5 =>
    have H := HA.out
    clear HA
    simp only [portolanlaw09_HeapNew.j0] at H
    by_cases c25 : x24_5 = true
    ·subst c25
     have H1 : (some true) = some true := by first | (rw [if_pos rfl] at H; exact H) | rfl
     clear H
     have H := H1
     clear H1
     clear H
     go_wp2
     go_ret
     exact ⟨by first | rfl | (simp [errW_none, errW_some] <;> rfl) | (simp [*, errW_none, errW_some] <;> rfl), by repeat (first | (with_reducible first | exact HB.out | apply zq5 | apply zq4 | apply zq6 | refine below_set ?_ GE313.out | refine below_set ?_ GE314.out) | exact HB.out)⟩
    ·replace c25 := Bool.eq_false_iff.mpr c25
     subst c25
     have H1 : ((heap_Alloc.f kj5 l0_0 (Int.tmod (wrap64 (a1_0)) 9) (Int.tmod (wrap64 (a1_1)) 9)).bind fun bt318 => (if bt318.2.2 = 0 then (if bt318.2.1 = (wrap64 ((l0_0.length : Int) + 1)) then ((heap_Reach.f kj5 bt318.1 (([bt318.2.1] : List Int))).bind fun t327 => ((portolanref01_Ints.f kj5 t327 (([bt318.2.1] : List Int))).bind fun t333 => (portolanlaw09_HeapNew.j1 kj5 l2 bt318.2.1 (!t333) l0_0 bt318.1))) else (portolanlaw09_HeapNew.j1 kj5 l2 bt318.2.1 true l0_0 bt318.1)) else (portolanlaw09_HeapNew.j1 kj5 l2 bt318.2.1 true l0_0 bt318.1))) = some true := by first | (rw [if_neg (show ¬ (false = true) by decide)] at H; exact H) | rfl
     clear H
     have H := H1
     clear H1
     replace H := Option.bind_eq_some_iff.mp H
     obtain ⟨⟨t318, t321, t322⟩, A260, H⟩ := H
     replace H : (if t322 = 0 then (if t321 = (wrap64 ((l0_0.length : Int) + 1)) then ((heap_Reach.f kj5 t318 (([t321] : List Int))).bind fun t327 => ((portolanref01_Ints.f kj5 t327 (([t321] : List Int))).bind fun t333 => (portolanlaw09_HeapNew.j1 kj5 l2 t321 (!t333) l0_0 t318))) else (portolanlaw09_HeapNew.j1 kj5 l2 t321 true l0_0 t318)) else (portolanlaw09_HeapNew.j1 kj5 l2 t321 true l0_0 t318)) = some true := H
     have A26 := Aside0.mk A260
     clear A260
     have HC27 := Aside0.mk H
     clear H
     have hnb28 := NB313_314.out
     have hnc28 := NB314_313.out
     have hcz29_0 : wc.cell? ⟨gb313, 0, none⟩ = some (.slice A0_0 l0_0.length c0_0) := (blk_cell BK313.out 0).trans rfl
     have hfz29_0 := blk_frozen BK313.out 0
     have hcz30_0 : wc.cell? ⟨gb314, 0, none⟩ = some (.int .u8 a1_0) := (blk_cell BK314.out 0).trans rfl
     have hcz30_1 : wc.cell? ⟨gb314, 1, none⟩ = some (.int .u8 a1_1) := (blk_cell BK314.out 1).trans rfl
     have hfz30_0 := blk_frozen BK314.out 0
     have hfz30_1 := blk_frozen BK314.out 1
     go_upto_region 6 with (first | ((with_reducible refine gate_callee (f := 10) rfl ?_); refine goesL_ (some 35) rfl rfl Try.func10 (by kernel_rfl) rfl #[.agg #[.slice A0_0 l0_0.length c0_0], .int .i64 (Int.tmod (wrap64 (a1_0)) 9), .int .i64 (Int.tmod (wrap64 (a1_1)) 9)] rfl (by (try simp only [List.map_toArray, List.map_cons, List.map_nil]); first | done | rfl | (simp only [List.length_drop, List.length_take]; rfl)) ?_; (with_reducible refine (heap_Alloc.calls kj5 (fun k_ => k_ < w.heap.size) _ _ l0_0 (Int.tmod (wrap64 (a1_0)) 9) (Int.tmod (wrap64 (a1_1)) 9) t318 t321 t322 _ ?side1 A26.out).mono ?_); (case side1 => exact Kd.V_mk HC0_0.out (Kd.F_below (Kd.C_F k47_heap HR0_0.out) (by repeat (first | (with_reducible first | exact HB.out | apply zq5 | apply zq4 | apply zq6 | refine below_set ?_ GE313.out | refine below_set ?_ GE314.out) | exact HB.out)))); rintro e w31 ⟨v319, rfl, ho0, hb⟩; refine ⟨_, rfl, ?_⟩; have n0_ := Aside0.mk (Kd.V_lower (Kd.V_mono (ok' := fun k_ => k_ ≠ gb313 ∧ k_ ≠ gb314) ho0 (fun k_ hk_ => ⟨Or.elim hk_ (fun hs_ => fun e_ => Nat.not_le.2 hs_ (by rw [e_]; exact GW313.out)) (fun hn_ => (Kd.freshB (g := gb313) (o := .cells #[.slice A0_0 l0_0.length c0_0] 24 (0, 0)) (by (with_reducible repeat (first | refine zq1 ?_ _ | refine zq2 ?_ | refine zq3 ?_ _)); exact BK313.out) k_ hn_)), Or.elim hk_ (fun hs_ => fun e_ => Nat.not_le.2 hs_ (by rw [e_]; exact GW314.out)) (fun hn_ => (Kd.freshB (g := gb314) (o := .cells #[.int .u8 a1_0, .int .u8 a1_1] 37 (0, 0)) (by (with_reducible repeat (first | refine zq1 ?_ _ | refine zq2 ?_ | refine zq3 ?_ _)); exact BK314.out) k_ hn_))⟩)) (below_size (by repeat (first | (with_reducible first | exact HB.out | apply zq5 | apply zq4 | apply zq6 | refine below_set ?_ GE313.out | refine below_set ?_ GE314.out) | exact HB.out)))); have n1_ := Aside0.mk (blk_below (g := gb313) (o := .cells #[.slice A0_0 l0_0.length c0_0] 24 (0, 0)) (by (with_reducible repeat (first | refine zq1 ?_ _ | refine zq2 ?_ | refine zq3 ?_ _)); exact BK313.out) hb); have n2_ := Aside0.mk (blk_below (g := gb314) (o := .cells #[.int .u8 a1_0, .int .u8 a1_1] 37 (0, 0)) (by (with_reducible repeat (first | refine zq1 ?_ _ | refine zq2 ?_ | refine zq3 ?_ _)); exact BK314.out) hb); have n3_ := Aside0.mk (below_step (by repeat (first | (with_reducible first | exact HB.out | apply zq5 | apply zq4 | apply zq6 | refine below_set ?_ GE313.out | refine below_set ?_ GE314.out) | exact HB.out)) hb); clear BK313; clear BK314; clear HB; have HO320 := n0_; have BK313 := n1_; have BK314 := n2_; have HB := n3_; clear n0_ n1_ n2_ n3_; (try clear hb); (try clear hb2); (try clear hk); (try clear hi); (try clear ho0)) | ((with_reducible refine gate_dst (N := 7) rfl ?_); (try (refine gate_guard (by rfl) ?_; dsimp only)); refine box_event ?hg (N := 7) ?hd (cs := #[.slice none 0 0]) (t := 24) ?hr ?_; (case hd => rfl); (case hg => rfl); (case hr => first | (go_simp; done) | (go_simp; rfl)); intro gb323 hg w32 hbox hb; have n0_ := Aside0.mk (Kd.V_below (Kd.V_elderB (by (with_reducible repeat (first | apply Kd.V_alloc | apply Kd.V_drewN | apply Kd.V_drew)); exact HO320.out) gb323 (Nat.le_of_eq hg.symm)) hb); have n1_ := Aside0.mk (blk_below (g := gb313) (o := .cells #[.slice A0_0 l0_0.length c0_0] 24 (0, 0)) (by (with_reducible repeat (first | refine zq1 ?_ _ | refine zq2 ?_ | refine zq3 ?_ _)); exact BK313.out) hb); have n2_ := Aside0.mk (blk_below (g := gb314) (o := .cells #[.int .u8 a1_0, .int .u8 a1_1] 37 (0, 0)) (by (with_reducible repeat (first | refine zq1 ?_ _ | refine zq2 ?_ | refine zq3 ?_ _)); exact BK314.out) hb); have n3_ := Aside0.mk (below_step (by repeat (first | (with_reducible first | exact HB.out | apply zq5 | apply zq4 | apply zq6 | refine below_set ?_ GE313.out | refine below_set ?_ GE314.out) | exact HB.out)) hb); have n4_ := Aside0.mk (hbox); have n5_ := Aside0.mk ((by rw [hg]; exact (below_size (by repeat (first | (with_reducible first | exact HB.out | apply zq5 | apply zq4 | apply zq6 | refine below_set ?_ GE313.out | refine below_set ?_ GE314.out) | exact HB.out))) : w.heap.size ≤ gb323)); have n6_ := Aside0.mk ((by rw [hg]; exact (below_size (by repeat (first | (with_reducible first | exact HB.out | apply zq5 | apply zq4 | apply zq6 | refine below_set ?_ GE313.out | refine below_set ?_ GE314.out) | exact HB.out))) : w.heap.size ≤ gb323)); have n7_ := Aside0.mk ((by rw [hg]; exact Nat.ne_of_lt (blk_lt (g := gb313) (o := .cells #[.slice A0_0 l0_0.length c0_0] 24 (0, 0)) (by (with_reducible repeat (first | refine zq1 ?_ _ | refine zq2 ?_ | refine zq3 ?_ _)); exact BK313.out)) : gb313 ≠ gb323)); have n8_ := Aside0.mk ((by rw [hg]; exact Nat.ne_of_gt (blk_lt (g := gb313) (o := .cells #[.slice A0_0 l0_0.length c0_0] 24 (0, 0)) (by (with_reducible repeat (first | refine zq1 ?_ _ | refine zq2 ?_ | refine zq3 ?_ _)); exact BK313.out)) : gb323 ≠ gb313)); have n9_ := Aside0.mk ((by rw [hg]; exact Nat.ne_of_lt (blk_lt (g := gb314) (o := .cells #[.int .u8 a1_0, .int .u8 a1_1] 37 (0, 0)) (by (with_reducible repeat (first | refine zq1 ?_ _ | refine zq2 ?_ | refine zq3 ?_ _)); exact BK314.out)) : gb314 ≠ gb323)); have n10_ := Aside0.mk ((by rw [hg]; exact Nat.ne_of_gt (blk_lt (g := gb314) (o := .cells #[.int .u8 a1_0, .int .u8 a1_1] 37 (0, 0)) (by (with_reducible repeat (first | refine zq1 ?_ _ | refine zq2 ?_ | refine zq3 ?_ _)); exact BK314.out)) : gb323 ≠ gb314)); clear HO320; clear BK313; clear BK314; clear HB; have HO320 := n0_; have BK313 := n1_; have BK314 := n2_; have HB := n3_; have BK323 := n4_; have GW323 := n5_; have GE323 := n6_; have NB313_323 := n7_; have NB323_313 := n8_; have NB314_323 := n9_; have NB323_314 := n10_; clear n0_ n1_ n2_ n3_ n4_ n5_ n6_ n7_ n8_ n9_ n10_; clear hb hbox hg; obtain ⟨Ao33, co33, eo33⟩ := Kd.V_slice HO320.out; subst eo33; have hnb34 := NB323_313.out; have hnc34 := NB313_323.out; have hnb35 := NB323_314.out; have hnc35 := NB314_323.out; have hcz36_0 : w32.cell? ⟨gb323, 0, none⟩ = some (.slice none 0 0) := (blk_cell BK323.out 0).trans rfl; have hfz36_0 := blk_frozen BK323.out 0))
     (try simp only [Act.put, List.setIfInBounds_toArray, List.set_cons_zero, List.set_cons_succ])
     go_cut [58] (fun v58 wc => ∃ (kq : Nat) (x58_26 : Bool), v58 = .bool x58_26 ∧ Aside0 (portolanlaw09_HeapNew.j1 kq l2 t321 x58_26 l0_0 t318 = some true) ∧ Aside0 (kq ≤ kj5) ∧ Aside0 (Kd.V k47 47 wc w.heap.size (fun k_ => k_ ≠ gb313 ∧ k_ ≠ gb314 ∧ k_ ≠ gb323) (.slice Ao33 t318.length co33) t318) ∧ Aside0 (wc.heap[gb313]? = some (.cells #[(.slice A0_0 l0_0.length c0_0)] 24 (0, 0))) ∧ Aside0 (wc.heap[gb314]? = some (.cells #[.int .u8 a1_0, .int .u8 a1_1] 37 (0, 0))) ∧ Aside0 (wc.heap[gb323]? = some (.cells #[(.slice Ao33 t318.length co33)] 24 (0, 0))) ∧ Aside0 (Below w.heap.size w wc))
     case first =>
      have H := HC27.out
      clear HC27
      by_cases c37 : t322 = 0
      ·rw [if_pos c37] at H
       have c37b0 : (t322 == 0) = true := beq_iff_eq.mpr c37
       have c37b1 : (t322 != 0) = false := bne_eq_false_iff_eq.mpr c37
       clear c37
       (first | rw [c37b0] | (simp only [i64_w, i32_w]; rw [c37b0]) | skip)
       by_cases c38 : t321 = (wrap64 ((l0_0.length : Int) + 1))
       ·rw [if_pos c38] at H
        have c38b0 : (t321 == (wrap64 ((l0_0.length : Int) + 1))) = true := beq_iff_eq.mpr c38
        have c38b1 : (t321 != (wrap64 ((l0_0.length : Int) + 1))) = false := bne_eq_false_iff_eq.mpr c38
        clear c38
        obtain ⟨y324, hy324⟩ : ∃ y_ : List Int, y_ = (([t321] : List Int)) := ⟨_, rfl⟩
        replace H : ((heap_Reach.f kj5 t318 y324).bind fun t327 => ((portolanref01_Ints.f kj5 t327 (([t321] : List Int))).bind fun t333 => (portolanlaw09_HeapNew.j1 kj5 l2 t321 (!t333) l0_0 t318))) = some true := by first | (rw [hy324]; with_reducible exact H) | (have H2_ := (Option.bind_some _ _).symm.trans H; rw [hy324]; with_reducible exact H2_) | (have H2_ := (Option.bind_some _ _).symm.trans H; with_reducible exact H2_) | with_reducible exact H | (rw [hy324]; exact H) | exact H
        have Ny324 := Aside0.mk hy324
        clear hy324
        replace H := Option.bind_eq_some_iff.mp H
        obtain ⟨t327, A390, H⟩ := H
        replace H : ((portolanref01_Ints.f kj5 t327 (([t321] : List Int))).bind fun t333 => (portolanlaw09_HeapNew.j1 kj5 l2 t321 (!t333) l0_0 t318)) = some true := H
        have A39 := Aside0.mk A390
        clear A390
        obtain ⟨y330, hy330⟩ : ∃ y_ : List Int, y_ = (([t321] : List Int)) := ⟨_, rfl⟩
        replace H : ((portolanref01_Ints.f kj5 t327 y330).bind fun t333 => (portolanlaw09_HeapNew.j1 kj5 l2 t321 (!t333) l0_0 t318)) = some true := by first | (rw [hy330]; with_reducible exact H) | (have H2_ := (Option.bind_some _ _).symm.trans H; rw [hy330]; with_reducible exact H2_) | (have H2_ := (Option.bind_some _ _).symm.trans H; with_reducible exact H2_) | with_reducible exact H | (rw [hy330]; exact H) | exact H
        have Ny330 := Aside0.mk hy330
        clear hy330
        replace H := Option.bind_eq_some_iff.mp H
        obtain ⟨t333, A400, H⟩ := H
        replace H : (portolanlaw09_HeapNew.j1 kj5 l2 t321 (!t333) l0_0 t318) = some true := H
        have A40 := Aside0.mk A400
        clear A400
        have H' := Aside0.mk H
        clear H
        have hnb41 := NB313_314.out
        have hnc41 := NB314_313.out
        have hnb42 := NB313_323.out
        have hnc42 := NB323_313.out
        have hcz43_0 : w32.cell? ⟨gb313, 0, none⟩ = some (.slice A0_0 l0_0.length c0_0) := (blk_cell BK313.out 0).trans rfl
        have hfz43_0 := blk_frozen BK313.out 0
        have hnb44 := NB323_314.out
        have hnc44 := NB314_323.out
        have hcz45_0 : w32.cell? ⟨gb323, 0, none⟩ = some (.slice none 0 0) := (blk_cell BK323.out 0).trans rfl
        have hfz45_0 := blk_frozen BK323.out 0
        go_wp2_with (first | ((with_reducible refine gate_dst (N := 52) rfl ?_); (try (refine gate_guard (by rfl) ?_; dsimp only)); refine Kd.R_lit (Kd.int .i64) _ 3 ?hg (N := 52) ?hd (xs := ([t321] : List Int)) (inner := [.int .i64 t321]) (ok := fun _ => True) (okp := fun _ => True) ?hr ?hp (fun _ hk => hk) trivial (Below.refl _ _) (Nat.le_refl _) (by simp) ?_; (case hd => rfl); (case hg => rfl); (case hr => first | (go_simp; done) | (go_simp; rfl)); (case hp => exact (Reps.one (show Kd.M (Kd.int .i64) _ _ _ t321 [.int .i64 t321] from rfl) (Reps.none _ _))); intro v325 w46 ho47 hb hg_ hnew_; clear hg_ hnew_; (first | rw [← Ny324.out] at ho47 | (simp only [Int.reduceToNat] at ho47; rw [← Ny324.out] at ho47)); have n0_ := Aside0.mk (Kd.V_elder' (by (with_reducible repeat (first | apply Kd.V_alloc | apply Kd.V_drewN | apply Kd.V_drew)); exact (Kd.V_mono (Kd.V_far (p := ⟨gb323, 0, none⟩) (Kd.V_mono HO320.out (fun k_ hk => (⟨hk, hk.2⟩ : _ ∧ k_ ≠ gb323))) (fun _ hk => hk.2) (.slice Ao33 t318.length co33)) (fun _ h_ => h_.1))) (Kd.R_base ho47) hb); have n1_ := Aside0.mk (Kd.R_lower ho47 (below_size (by repeat (first | (with_reducible first | exact HB.out | apply zq5 | apply zq4 | apply zq6 | refine below_set ?_ GE313.out | refine below_set ?_ GE314.out | refine below_set ?_ GE323.out) | exact HB.out)))); have n2_ := Aside0.mk (blk_below (g := gb313) (o := .cells #[.slice A0_0 l0_0.length c0_0] 24 (0, 0)) (by (with_reducible repeat (first | refine zq1 ?_ _ | refine zq2 ?_ | refine zq3 ?_ _)); refine blk_far ?_ NB313_323.out _; (with_reducible repeat (first | refine zq1 ?_ _ | refine zq2 ?_ | refine zq3 ?_ _)); exact BK313.out) hb); have n3_ := Aside0.mk (blk_below (g := gb314) (o := .cells #[.int .u8 a1_0, .int .u8 a1_1] 37 (0, 0)) (by (with_reducible repeat (first | refine zq1 ?_ _ | refine zq2 ?_ | refine zq3 ?_ _)); refine blk_far ?_ NB314_323.out _; (with_reducible repeat (first | refine zq1 ?_ _ | refine zq2 ?_ | refine zq3 ?_ _)); exact BK314.out) hb); have n4_ := Aside0.mk (blk_below (g := gb323) (o := .cells #[.slice Ao33 t318.length co33] 24 (0, 0)) (by (with_reducible repeat (first | refine zq1 ?_ _ | refine zq2 ?_ | refine zq3 ?_ _)); refine blk_put (cs := #[.slice none 0 0]) ?_ 0 _ rfl; (with_reducible repeat (first | refine zq1 ?_ _ | refine zq2 ?_ | refine zq3 ?_ _)); exact BK323.out) hb); have n5_ := Aside0.mk (below_step (by repeat (first | (with_reducible first | exact HB.out | apply zq5 | apply zq4 | apply zq6 | refine below_set ?_ GE313.out | refine below_set ?_ GE314.out | refine below_set ?_ GE323.out) | exact HB.out)) hb); clear HO320; clear BK313; clear BK314; clear BK323; clear HB; have HO320 := n0_; have HO326 := n1_; have BK313 := n2_; have BK314 := n3_; have BK323 := n4_; have HB := n5_; clear n0_ n1_ n2_ n3_ n4_ n5_; clear hb ho47; obtain ⟨Ao48, co48, eo48⟩ := Kd.R_slice HO326.out; subst eo48) | (go_at_call 16; (with_reducible refine (heap_Reach.calls kj5 _ _ t318 _ _ y324 t327 _ ?side1 ?side2 ?side3 ?side4 A39.out).mono ?_); (case side1 => repeat (first | exact (Kd.V_reads' HO320.out).2.2 | (with_reducible refine Kd.C_alloc ?_ _) | (with_reducible refine Kd.C_drewN ?_ _) | (with_reducible refine Kd.C_drew ?_))); (case side2 => exact (Kd.V_reads' HO320.out).2.1); (case side3 => repeat (first | exact (Kd.R_reads' HO326.out).2.2 | (with_reducible refine Kd.C_alloc ?_ _) | (with_reducible refine Kd.C_drewN ?_ _) | (with_reducible refine Kd.C_drew ?_))); (case side4 => exact (Kd.R_reads' HO326.out).2.1); rintro e w49 ⟨v328, rfl, ho0, hb⟩; have n0_ := Aside0.mk (Kd.V_elder' (by (with_reducible repeat (first | apply Kd.V_alloc | apply Kd.V_drewN | apply Kd.V_drew)); exact HO320.out) (Kd.R_base ho0) hb); have n1_ := Aside0.mk (Kd.R_elder' (by (with_reducible repeat (first | apply Kd.R_alloc | apply Kd.R_drewN | apply Kd.R_drew)); exact HO326.out) (Kd.R_base ho0) hb); have n2_ := Aside0.mk (Kd.R_lower (Kd.R_new' ho0 (Kd.R_lt (by (with_reducible repeat (first | apply Kd.R_alloc | apply Kd.R_drewN | apply Kd.R_drew)); exact HO326.out))) (below_size (by repeat (first | (with_reducible first | exact HB.out | apply zq5 | apply zq4 | apply zq6 | refine below_set ?_ GE313.out | refine below_set ?_ GE314.out | refine below_set ?_ GE323.out) | exact HB.out)))); have n3_ := Aside0.mk (blk_below (g := gb313) (o := .cells #[.slice A0_0 l0_0.length c0_0] 24 (0, 0)) (by (with_reducible repeat (first | refine zq1 ?_ _ | refine zq2 ?_ | refine zq3 ?_ _)); exact BK313.out) hb); have n4_ := Aside0.mk (blk_below (g := gb314) (o := .cells #[.int .u8 a1_0, .int .u8 a1_1] 37 (0, 0)) (by (with_reducible repeat (first | refine zq1 ?_ _ | refine zq2 ?_ | refine zq3 ?_ _)); exact BK314.out) hb); have n5_ := Aside0.mk (blk_below (g := gb323) (o := .cells #[.slice Ao33 t318.length co33] 24 (0, 0)) (by (with_reducible repeat (first | refine zq1 ?_ _ | refine zq2 ?_ | refine zq3 ?_ _)); exact BK323.out) hb); have n6_ := Aside0.mk (below_step (by repeat (first | (with_reducible first | exact HB.out | apply zq5 | apply zq4 | apply zq6 | refine below_set ?_ GE313.out | refine below_set ?_ GE314.out | refine below_set ?_ GE323.out) | exact HB.out)) hb); clear HO320; clear HO326; clear BK313; clear BK314; clear BK323; clear HB; have HO320 := n0_; have HO326 := n1_; have HO329 := n2_; have BK313 := n3_; have BK314 := n4_; have BK323 := n5_; have HB := n6_; clear n0_ n1_ n2_ n3_ n4_ n5_ n6_; (try clear hb); (try clear hb2); (try clear hk); (try clear hi); (try clear ho0)) | ((with_reducible refine gate_dst (N := 55) rfl ?_); (try (refine gate_guard (by rfl) ?_; dsimp only)); refine Kd.R_lit (Kd.int .i64) _ 3 ?hg (N := 55) ?hd (xs := ([t321] : List Int)) (inner := [.int .i64 t321]) (ok := fun _ => True) (okp := fun _ => True) ?hr ?hp (fun _ hk => hk) trivial (Below.refl _ _) (Nat.le_refl _) (by simp) ?_; (case hd => rfl); (case hg => rfl); (case hr => first | (go_simp; done) | (go_simp; rfl)); (case hp => exact (Reps.one (show Kd.M (Kd.int .i64) _ _ _ t321 [.int .i64 t321] from rfl) (Reps.none _ _))); intro v331 w50 ho51 hb hg_ hnew_; clear hg_ hnew_; (first | rw [← Ny330.out] at ho51 | (simp only [Int.reduceToNat] at ho51; rw [← Ny330.out] at ho51)); have n0_ := Aside0.mk (Kd.V_elder' (by (with_reducible repeat (first | apply Kd.V_alloc | apply Kd.V_drewN | apply Kd.V_drew)); exact HO320.out) (Kd.R_base ho51) hb); have n1_ := Aside0.mk (Kd.R_elder' (by (with_reducible repeat (first | apply Kd.R_alloc | apply Kd.R_drewN | apply Kd.R_drew)); exact HO326.out) (Kd.R_base ho51) hb); have n2_ := Aside0.mk (Kd.R_elder' (by (with_reducible repeat (first | apply Kd.R_alloc | apply Kd.R_drewN | apply Kd.R_drew)); exact HO329.out) (Kd.R_base ho51) hb); have n3_ := Aside0.mk (Kd.R_lower (Kd.R_new' (Kd.R_new' ho51 (Kd.R_lt (by (with_reducible repeat (first | apply Kd.R_alloc | apply Kd.R_drewN | apply Kd.R_drew)); exact HO326.out))) (Kd.R_lt (by (with_reducible repeat (first | apply Kd.R_alloc | apply Kd.R_drewN | apply Kd.R_drew)); exact HO329.out))) (below_size (by repeat (first | (with_reducible first | exact HB.out | apply zq5 | apply zq4 | apply zq6 | refine below_set ?_ GE313.out | refine below_set ?_ GE314.out | refine below_set ?_ GE323.out) | exact HB.out)))); have n4_ := Aside0.mk (blk_below (g := gb313) (o := .cells #[.slice A0_0 l0_0.length c0_0] 24 (0, 0)) (by (with_reducible repeat (first | refine zq1 ?_ _ | refine zq2 ?_ | refine zq3 ?_ _)); exact BK313.out) hb); have n5_ := Aside0.mk (blk_below (g := gb314) (o := .cells #[.int .u8 a1_0, .int .u8 a1_1] 37 (0, 0)) (by (with_reducible repeat (first | refine zq1 ?_ _ | refine zq2 ?_ | refine zq3 ?_ _)); exact BK314.out) hb); have n6_ := Aside0.mk (blk_below (g := gb323) (o := .cells #[.slice Ao33 t318.length co33] 24 (0, 0)) (by (with_reducible repeat (first | refine zq1 ?_ _ | refine zq2 ?_ | refine zq3 ?_ _)); exact BK323.out) hb); have n7_ := Aside0.mk (below_step (by repeat (first | (with_reducible first | exact HB.out | apply zq5 | apply zq4 | apply zq6 | refine below_set ?_ GE313.out | refine below_set ?_ GE314.out | refine below_set ?_ GE323.out) | exact HB.out)) hb); clear HO320; clear HO326; clear HO329; clear BK313; clear BK314; clear BK323; clear HB; have HO320 := n0_; have HO326 := n1_; have HO329 := n2_; have HO332 := n3_; have BK313 := n4_; have BK314 := n5_; have BK323 := n6_; have HB := n7_; clear n0_ n1_ n2_ n3_ n4_ n5_ n6_ n7_; clear hb ho51; obtain ⟨Ao52, co52, eo52⟩ := Kd.R_slice HO329.out; subst eo52; obtain ⟨Ao53, co53, eo53⟩ := Kd.R_slice HO332.out; subst eo53) | (go_at_call 15; (with_reducible refine (portolanref01_Ints.calls kj5 _ _ t327 _ _ y330 t333 _ ?side1 ?side2 ?side3 ?side4 A40.out).mono ?_); (case side1 => repeat (first | exact (Kd.R_reads' HO329.out).2.2 | (with_reducible refine Kd.C_alloc ?_ _) | (with_reducible refine Kd.C_drewN ?_ _) | (with_reducible refine Kd.C_drew ?_))); (case side2 => exact (Kd.R_reads' HO329.out).2.1); (case side3 => repeat (first | exact (Kd.R_reads' HO332.out).2.2 | (with_reducible refine Kd.C_alloc ?_ _) | (with_reducible refine Kd.C_drewN ?_ _) | (with_reducible refine Kd.C_drew ?_))); (case side4 => exact (Kd.R_reads' HO332.out).2.1); rintro e w' ⟨rfl, ⟨nd, rfl⟩⟩))
        go_meet
        case rel => exact ⟨_, (!t333), (by first | rfl | (simp; done) | (simp [*]; done)), H', ⟨by have := HJ5.out; first | omega | exact Nat.le_refl _⟩, ⟨by (with_reducible repeat (first | apply Kd.V_alloc | apply Kd.V_drewN | apply Kd.V_drew)); exact Kd.V_mono HO320.out (fun _ hk => ⟨hk.1.1.1.1.1, ⟨hk.1.1.1.1.2, hk.1.1.1.2⟩⟩)⟩, ⟨by (with_reducible repeat (first | refine zq1 ?_ _ | refine zq2 ?_ | refine zq3 ?_ _)); exact BK313.out⟩, ⟨by (with_reducible repeat (first | refine zq1 ?_ _ | refine zq2 ?_ | refine zq3 ?_ _)); exact BK314.out⟩, ⟨by (with_reducible repeat (first | refine zq1 ?_ _ | refine zq2 ?_ | refine zq3 ?_ _)); exact BK323.out⟩, ⟨by repeat (first | (with_reducible first | exact HB.out | apply zq5 | apply zq4 | apply zq6 | refine below_set ?_ GE313.out | refine below_set ?_ GE314.out | refine below_set ?_ GE323.out) | exact HB.out)⟩⟩
       ·rw [if_neg c38] at H
        have c38b0 : (t321 == (wrap64 ((l0_0.length : Int) + 1))) = false := beq_eq_false_iff_ne.mpr c38
        have c38b1 : (t321 != (wrap64 ((l0_0.length : Int) + 1))) = true := bne_iff_ne.mpr c38
        have H' := Aside0.mk H
        clear H
        have hnb54 := NB313_314.out
        have hnc54 := NB314_313.out
        have hnb55 := NB313_323.out
        have hnc55 := NB323_313.out
        have hcz56_0 : w32.cell? ⟨gb313, 0, none⟩ = some (.slice A0_0 l0_0.length c0_0) := (blk_cell BK313.out 0).trans rfl
        have hfz56_0 := blk_frozen BK313.out 0
        go_wp2
        go_meet
        case rel => exact ⟨_, (true), (by first | rfl | (simp; done) | (simp [*]; done)), H', ⟨by have := HJ5.out; first | omega | exact Nat.le_refl _⟩, ⟨by (with_reducible repeat (first | apply Kd.V_alloc | apply Kd.V_drewN | apply Kd.V_drew)); exact Kd.V_mono (Kd.V_far (p := ⟨gb323, 0, none⟩) (Kd.V_mono HO320.out (fun k_ hk => (⟨hk, hk.2⟩ : _ ∧ k_ ≠ gb323))) (fun _ hk => hk.2) (.slice Ao33 t318.length co33)) (fun _ hk => ⟨hk.1.1.1, ⟨hk.1.1.2, hk.1.2⟩⟩)⟩, ⟨by (with_reducible repeat (first | refine zq1 ?_ _ | refine zq2 ?_ | refine zq3 ?_ _)); refine blk_far ?_ NB313_323.out _; (with_reducible repeat (first | refine zq1 ?_ _ | refine zq2 ?_ | refine zq3 ?_ _)); exact BK313.out⟩, ⟨by (with_reducible repeat (first | refine zq1 ?_ _ | refine zq2 ?_ | refine zq3 ?_ _)); refine blk_far ?_ NB314_323.out _; (with_reducible repeat (first | refine zq1 ?_ _ | refine zq2 ?_ | refine zq3 ?_ _)); exact BK314.out⟩, ⟨by (with_reducible repeat (first | refine zq1 ?_ _ | refine zq2 ?_ | refine zq3 ?_ _)); refine blk_put (cs := #[.slice none 0 0]) ?_ 0 _ rfl; (with_reducible repeat (first | refine zq1 ?_ _ | refine zq2 ?_ | refine zq3 ?_ _)); exact BK323.out⟩, ⟨by repeat (first | (with_reducible first | exact HB.out | apply zq5 | apply zq4 | apply zq6 | refine below_set ?_ GE313.out | refine below_set ?_ GE314.out | refine below_set ?_ GE323.out) | exact HB.out)⟩⟩
      ·rw [if_neg c37] at H
       have c37b0 : (t322 == 0) = false := beq_eq_false_iff_ne.mpr c37
       have c37b1 : (t322 != 0) = true := bne_iff_ne.mpr c37
       (first | rw [c37b0] | (simp only [i64_w, i32_w]; rw [c37b0]) | skip)
       have H' := Aside0.mk H
       clear H
       go_wp2
       go_meet
       case rel => exact ⟨_, (true), (by first | rfl | (simp; done) | (simp [*]; done)), H', ⟨by have := HJ5.out; first | omega | exact Nat.le_refl _⟩, ⟨by (with_reducible repeat (first | apply Kd.V_alloc | apply Kd.V_drewN | apply Kd.V_drew)); exact Kd.V_mono (Kd.V_far (p := ⟨gb323, 0, none⟩) (Kd.V_mono HO320.out (fun k_ hk => (⟨hk, hk.2⟩ : _ ∧ k_ ≠ gb323))) (fun _ hk => hk.2) (.slice Ao33 t318.length co33)) (fun _ hk => ⟨hk.1.1.1, ⟨hk.1.1.2, hk.1.2⟩⟩)⟩, ⟨by (with_reducible repeat (first | refine zq1 ?_ _ | refine zq2 ?_ | refine zq3 ?_ _)); refine blk_far ?_ NB313_323.out _; (with_reducible repeat (first | refine zq1 ?_ _ | refine zq2 ?_ | refine zq3 ?_ _)); exact BK313.out⟩, ⟨by (with_reducible repeat (first | refine zq1 ?_ _ | refine zq2 ?_ | refine zq3 ?_ _)); refine blk_far ?_ NB314_323.out _; (with_reducible repeat (first | refine zq1 ?_ _ | refine zq2 ?_ | refine zq3 ?_ _)); exact BK314.out⟩, ⟨by (with_reducible repeat (first | refine zq1 ?_ _ | refine zq2 ?_ | refine zq3 ?_ _)); refine blk_put (cs := #[.slice none 0 0]) ?_ 0 _ rfl; (with_reducible repeat (first | refine zq1 ?_ _ | refine zq2 ?_ | refine zq3 ?_ _)); exact BK323.out⟩, ⟨by repeat (first | (with_reducible first | exact HB.out | apply zq5 | apply zq4 | apply zq6 | refine below_set ?_ GE313.out | refine below_set ?_ GE314.out | refine below_set ?_ GE323.out) | exact HB.out)⟩⟩
     case rest =>
      clear HC27
      try clear c1
      try clear c2
      try clear p2
      try clear c3
      try clear c4
      try clear c5
      try clear p6
      try clear c7
      try clear c8
      try clear c10
      try clear c11
      try clear c12
      try clear c15
      try clear c15b0
      try clear c15b1
      try clear c16
      try clear c20
      try clear c25
      try clear c28
      try clear c34
      try clear c35
      try clear c37
      try clear c37b0
      try clear c37b1
      try clear c38
      try clear c38b0
      try clear c38b1
      try clear c41
      try clear c42
      try clear c44
      try clear c54
      try clear c55
      try clear hcz13_0
      try clear hcz17_0
      try clear hcz21_0
      try clear hcz23_0
      try clear hcz29_0
      try clear hcz30_0
      try clear hcz30_1
      try clear hcz36_0
      try clear hcz43_0
      try clear hcz45_0
      try clear hcz56_0
      try clear hfz13_0
      try clear hfz17_0
      try clear hfz21_0
      try clear hfz23_0
      try clear hfz29_0
      try clear hfz30_0
      try clear hfz30_1
      try clear hfz36_0
      try clear hfz43_0
      try clear hfz45_0
      try clear hfz56_0
      try clear p2
      obtain ⟨kq, x58_26, rfl, HA, HJ26, HO_324000, BK313, BK314, BK323, HB⟩ := hcut
      cases kq with
      | zero => exact absurd HA.out (by simp [portolanlaw09_HeapNew.j1])
      | succ kj26 =>
       have H := HA.out
       clear HA
       simp only [portolanlaw09_HeapNew.j1] at H
       by_cases c57 : x58_26 = true
       ·subst c57
        have H1 : (some false) = some true := by first | (rw [if_pos rfl] at H; exact H) | rfl
        clear H
        have H := H1
        clear H1
        exact absurd (Option.some.inj H) (by decide)
       ·replace c57 := Bool.eq_false_iff.mpr c57
        subst c57
        have H1 : (portolanlaw09_HeapNew.l0 kj26 l2 t321 0 l0_0 t318) = some true := by first | (rw [if_neg (show ¬ (false = true) by decide)] at H; exact H) | rfl
        clear H
        have H := H1
        clear H1
        have H' := Aside0.mk H
        clear H
        go_wp2
        go_loopg [10] kj26 (fun kq v10 w' => ∃ (x10_3 : Int), v10 = .int .i64 x10_3 ∧ Aside0 (portolanlaw09_HeapNew.l0 kq l2 t321 x10_3 l0_0 t318 = some true) ∧ Aside0 (kq ≤ kj26) ∧ Aside0 (Kd.V k47 47 w' w.heap.size (fun k_ => k_ ≠ gb313 ∧ k_ ≠ gb314 ∧ k_ ≠ gb323) (.slice Ao33 t318.length co33) t318) ∧ Aside0 (w'.heap[gb313]? = some (.cells #[(.slice A0_0 l0_0.length c0_0)] 24 (0, 0))) ∧ Aside0 (w'.heap[gb314]? = some (.cells #[.int .u8 a1_0, .int .u8 a1_1] 37 (0, 0))) ∧ Aside0 (w'.heap[gb323]? = some (.cells #[(.slice Ao33 t318.length co33)] 24 (0, 0))) ∧ Aside0 (Below w.heap.size w w'))
        case atStart => exact ⟨(0), (by first | rfl | (simp; done) | (simp [*]; done)), H', ⟨Nat.le_refl _⟩, ⟨by (with_reducible repeat (first | apply Kd.V_alloc | apply Kd.V_drewN | apply Kd.V_drew)); exact HO_324000.out⟩, ⟨by (with_reducible repeat (first | refine zq1 ?_ _ | refine zq2 ?_ | refine zq3 ?_ _)); exact BK313.out⟩, ⟨by (with_reducible repeat (first | refine zq1 ?_ _ | refine zq2 ?_ | refine zq3 ?_ _)); exact BK314.out⟩, ⟨by (with_reducible repeat (first | refine zq1 ?_ _ | refine zq2 ?_ | refine zq3 ?_ _)); exact BK323.out⟩, ⟨by repeat (first | (with_reducible first | exact HB.out | apply zq5 | apply zq4 | apply zq6 | refine below_set ?_ GE313.out | refine below_set ?_ GE314.out | refine below_set ?_ GE323.out) | exact HB.out)⟩⟩
        case round =>
         clear H'
         try clear c1
         try clear c2
         try clear p2
         try clear c3
         try clear c4
         try clear c5
         try clear p6
         try clear c7
         try clear c8
         try clear c10
         try clear c11
         try clear c12
         try clear c15
         try clear c15b0
         try clear c15b1
         try clear c16
         try clear c20
         try clear c25
         try clear c28
         try clear c34
         try clear c35
         try clear c37
         try clear c37b0
         try clear c37b1
         try clear c38
         try clear c38b0
         try clear c38b1
         try clear c41
         try clear c42
         try clear c44
         try clear c54
         try clear c55
         try clear c57
         try clear hcz13_0
         try clear hcz17_0
         try clear hcz21_0
         try clear hcz23_0
         try clear hcz29_0
         try clear hcz30_0
         try clear hcz30_1
         try clear hcz36_0
         try clear hcz43_0
         try clear hcz45_0
         try clear hcz56_0
         try clear hfz13_0
         try clear hfz17_0
         try clear hfz21_0
         try clear hfz23_0
         try clear hfz29_0
         try clear hfz30_0
         try clear hfz30_1
         try clear hfz36_0
         try clear hfz43_0
         try clear hfz45_0
         try clear hfz56_0
         try clear p2
         try clear p6
         obtain ⟨x10_3, rfl, HA, HK3, HO_324000, BK313, BK314, BK323, HB⟩ := hrel
         cases gk with
         | zero => exact absurd HA.out (by simp [portolanlaw09_HeapNew.l0])
         | succ k3 =>
          have H := HA.out
          clear HA
          simp only [portolanlaw09_HeapNew.l0] at H
          by_cases c58 : x10_3 < (l2.length : Int)
          ·rw [if_pos c58] at H
           have c58b0 : decide (x10_3 < (l2.length : Int)) = true := decide_eq_true c58
           clear c58
           by_cases c59 : 0 ≤ x10_3
           ·rw [if_pos c59] at H
            have c59b0 : decide (0 ≤ x10_3) = true := decide_eq_true c59
            clear c59
            by_cases c60 : (rd l2 x10_3) = t321
            ·rw [if_pos c60] at H
             have c60b0 : ((rd l2 x10_3) == t321) = true := beq_iff_eq.mpr c60
             have c60b1 : ((rd l2 x10_3) != t321) = false := bne_eq_false_iff_eq.mpr c60
             clear c60
             clear H
             have p334 : 0 ≤ (x10_3 : Int) := of_decide_eq_true (by first | (with_reducible assumption) | assumption)
             have q334 : x10_3 < (l2.length : Int) := of_decide_eq_true (by first | (with_reducible assumption) | assumption)
             obtain ⟨ad334, e334, hx334_0⟩ := Kd.at_int HR2.out x10_3 p334 q334
             cases e334
             replace hx334_0 := (HB.out.cell (World.block_lt_of_cell? w _ hx334_0)).trans hx334_0
             replace p334 := eq_true p334
             replace q334 := eq_true q334
             go_wp2
             go_ret
             exact ⟨by first | rfl | (simp [errW_none, errW_some] <;> rfl) | (simp [*, errW_none, errW_some] <;> rfl), by repeat (first | (with_reducible first | exact HB.out | apply zq5 | apply zq4 | apply zq6 | refine below_set ?_ GE313.out | refine below_set ?_ GE314.out | refine below_set ?_ GE323.out) | exact HB.out)⟩
            ·rw [if_neg c60] at H
             have c60b0 : ((rd l2 x10_3) == t321) = false := beq_eq_false_iff_ne.mpr c60
             have c60b1 : ((rd l2 x10_3) != t321) = true := bne_iff_ne.mpr c60
             have H' := Aside0.mk H
             clear H
             have p334 : 0 ≤ (x10_3 : Int) := of_decide_eq_true (by first | (with_reducible assumption) | assumption)
             have q334 : x10_3 < (l2.length : Int) := of_decide_eq_true (by first | (with_reducible assumption) | assumption)
             obtain ⟨ad334, e334, hx334_0⟩ := Kd.at_int HR2.out x10_3 p334 q334
             cases e334
             replace hx334_0 := (HB.out.cell (World.block_lt_of_cell? w _ hx334_0)).trans hx334_0
             replace p334 := eq_true p334
             replace q334 := eq_true q334
             go_wp2
             go_roundg k3
             case measure => have := HJ5.out; have := HJ26.out; have := HK3.out; omega
             case rel => exact ⟨(wrap64 (x10_3 + 1)), (by first | rfl | (simp; done) | (simp [*]; done)), H', ⟨by have := HJ5.out; have := HJ26.out; have := HK3.out; omega⟩, ⟨by (with_reducible repeat (first | apply Kd.V_alloc | apply Kd.V_drewN | apply Kd.V_drew)); exact HO_324000.out⟩, ⟨by (with_reducible repeat (first | refine zq1 ?_ _ | refine zq2 ?_ | refine zq3 ?_ _)); exact BK313.out⟩, ⟨by (with_reducible repeat (first | refine zq1 ?_ _ | refine zq2 ?_ | refine zq3 ?_ _)); exact BK314.out⟩, ⟨by (with_reducible repeat (first | refine zq1 ?_ _ | refine zq2 ?_ | refine zq3 ?_ _)); exact BK323.out⟩, ⟨by repeat (first | (with_reducible first | exact HB.out | apply zq5 | apply zq4 | apply zq6 | refine below_set ?_ GE313.out | refine below_set ?_ GE314.out | refine below_set ?_ GE323.out) | exact HB.out)⟩⟩
           ·rw [if_neg c59] at H
            exact absurd H (by simp)
          ·rw [if_neg c58] at H
           have c58b0 : decide (x10_3 < (l2.length : Int)) = false := decide_eq_false c58
           clear c58
           replace H := Option.bind_eq_some_iff.mp H
           obtain ⟨t335, A610, H⟩ := H
           replace H : ((heap_Reach.f k3 l0_0 l2).bind fun t338 => ((portolanref01_Ints.f k3 t335 t338).bind fun t341 => (some t341))) = some true := H
           have A61 := Aside0.mk A610
           clear A610
           replace H := Option.bind_eq_some_iff.mp H
           obtain ⟨t338, A620, H⟩ := H
           replace H : ((portolanref01_Ints.f k3 t335 t338).bind fun t341 => (some t341)) = some true := H
           have A62 := Aside0.mk A620
           clear A620
           replace H := Option.bind_eq_some_iff.mp H
           obtain ⟨t341, A630, H⟩ := H
           replace H : (some t341) = some true := H
           have A63 := Aside0.mk A630
           clear A630
           have HXL := Aside0.mk (Option.some.inj H)
           clear H
           try go_wp2
           have n0_ := Aside0.mk (Kd.V_drew HO_324000.out)
           have n1_ := Aside0.mk (blk_drew BK313.out)
           have n2_ := Aside0.mk (blk_drew BK314.out)
           have n3_ := Aside0.mk (blk_drew BK323.out)
           have n4_ := Aside0.mk (below_drew1 HB.out)
           clear HO_324000
           clear BK313
           clear BK314
           clear BK323
           clear HB
           have HO_324000 := n0_
           have BK313 := n1_
           have BK314 := n2_
           have BK323 := n3_
           have HB := n4_
           clear n0_ n1_ n2_ n3_ n4_
           refine start_ (n := 8) (S := fun w' => w'.cell? ⟨gb323, 0, none⟩ = some (.slice Ao33 t318.length co33) ∧ w'.cell? ⟨gb313, 0, none⟩ = some (.slice A0_0 l0_0.length c0_0)) (ds := []) #[false, false, false, false, false, false, false, false] (by kernel_rfl) rfl rfl ⟨(blk_cell BK323.out 0).trans rfl, (blk_cell BK313.out 0).trans rfl⟩ (fun hHeld => ?_); refine with_tabW portolanlaw09_HeapNew.tab13 portolanlaw09_HeapNew.bits13 (fun HT_ HW_ => ?_)
           generalize wr.drew = w64 at HO_324000 BK313 BK314 BK323 HB hHeld ⊢
           refine pure_ (i := 1) (N := some 72) (v := ?_) (a' := ?_) #[false, true, false, false, false, false, false, false] rfl rfl (any_of HT_.out (by kernel_rfl)) (fun _ _ _ h => h) (Or.inl ⟨by rfl, ?_⟩) ?_ ?_
           rotate_left
           ·intro w'
            go_simp
            with_reducible rfl
           rotate_left
           ·simp only [Act.put, List.setIfInBounds_toArray, List.set_cons_zero, List.set_cons_succ, i64_w, i32_w]
            rfl
           refine pure_ (i := 4) (N := some 75) (v := ?_) (a' := ?_) #[false, true, false, false, true, false, false, false] rfl rfl (any_of HT_.out (by kernel_rfl)) (fun _ _ _ h => h) (Or.inl ⟨by rfl, ?_⟩) ?_ ?_
           rotate_left
           ·intro w'
            go_simp
            with_reducible rfl
           rotate_left
           ·simp only [Act.put, List.setIfInBounds_toArray, List.set_cons_zero, List.set_cons_succ, i64_w, i32_w]
            rfl
           refine take_ (i := 0) (N := some 71) (v := ?_) (a' := ?_) #[true, true, false, false, true, false, false, false] rfl rfl (take_ofW HT_.out HW_.out (by kernel_rfl)) (fun _ _ _ h => h) (Or.inl ⟨by rfl, ?_⟩) hHeld ?_ ?_
           rotate_left
           ·rintro w' ⟨s0, s1⟩
            go_simp
            with_reducible rfl
           rotate_left
           ·simp only [Act.put, List.setIfInBounds_toArray, List.set_cons_zero, List.set_cons_succ, i64_w, i32_w]
            rfl
           refine take_ (i := 3) (N := some 74) (v := ?_) (a' := ?_) #[true, true, false, true, true, false, false, false] rfl rfl (take_ofW HT_.out HW_.out (by kernel_rfl)) (fun _ _ _ h => h) (Or.inl ⟨by rfl, ?_⟩) hHeld ?_ ?_
           rotate_left
           ·rintro w' ⟨s0, s1⟩
            go_simp
            with_reducible rfl
           rotate_left
           ·simp only [Act.put, List.setIfInBounds_toArray, List.set_cons_zero, List.set_cons_succ, i64_w, i32_w]
            rfl
           refine one_ (i := 2) (N := some 73) #[true, true, true, true, true, false, false, false] rfl rfl (one_of HT_.out (by kernel_rfl)) (by decide) (fun K hK => ?_)
           refine goes_ Try.func16 (by kernel_rfl) rfl #[.agg #[.slice Ao33 t318.length co33], .slice A2 l2.length c2] (by rfl) rfl rfl (by (try simp only [List.map_toArray, List.map_cons, List.map_nil]); first | done | rfl | (simp only [List.length_drop, List.length_take]; rfl)) ?_
           with_reducible refine (heap_Reach.calls k3 _ _ t318 _ _ l2 t335 _ ?side1 ?side2 ?side3 ?side4 A61.out).mono ?_
           (case side1 => repeat (first | exact (Kd.V_reads' HO_324000.out).2.2 | (with_reducible refine Kd.C_alloc ?_ _) | (with_reducible refine Kd.C_drewN ?_ _) | (with_reducible refine Kd.C_drew ?_)))
           (case side2 => exact (Kd.V_reads' HO_324000.out).2.1)
           (case side3 => repeat (first | exact (Kd.C_below HR2.out HB.out) | (with_reducible refine Kd.C_alloc ?_ _) | (with_reducible refine Kd.C_drewN ?_ _) | (with_reducible refine Kd.C_drew ?_)))
           (case side4 => exact HC2.out)
           rintro e w65 ⟨v336, rfl, ho0, hb⟩
           refine ⟨_, rfl, ?_⟩
           have n0_ := Aside0.mk (Kd.V_elder' (by (with_reducible repeat (first | apply Kd.V_alloc | apply Kd.V_drewN | apply Kd.V_drew)); exact HO_324000.out) (Kd.R_base ho0) hb)
           have n1_ := Aside0.mk (Kd.R_lower ho0 (below_size (by repeat (first | (with_reducible first | exact HB.out | apply zq5 | apply zq4 | apply zq6 | refine below_set ?_ GE313.out | refine below_set ?_ GE314.out | refine below_set ?_ GE323.out) | exact HB.out))))
           have n2_ := Aside0.mk (blk_below (g := gb313) (o := .cells #[.slice A0_0 l0_0.length c0_0] 24 (0, 0)) (by (with_reducible repeat (first | refine zq1 ?_ _ | refine zq2 ?_ | refine zq3 ?_ _)); exact BK313.out) hb)
           have n3_ := Aside0.mk (blk_below (g := gb314) (o := .cells #[.int .u8 a1_0, .int .u8 a1_1] 37 (0, 0)) (by (with_reducible repeat (first | refine zq1 ?_ _ | refine zq2 ?_ | refine zq3 ?_ _)); exact BK314.out) hb)
           have n4_ := Aside0.mk (blk_below (g := gb323) (o := .cells #[.slice Ao33 t318.length co33] 24 (0, 0)) (by (with_reducible repeat (first | refine zq1 ?_ _ | refine zq2 ?_ | refine zq3 ?_ _)); exact BK323.out) hb)
           have n5_ := Aside0.mk (below_step (by repeat (first | (with_reducible first | exact HB.out | apply zq5 | apply zq4 | apply zq6 | refine below_set ?_ GE313.out | refine below_set ?_ GE314.out | refine below_set ?_ GE323.out) | exact HB.out)) hb)
           clear HO_324000
           clear BK313
           clear BK314
           clear BK323
           clear HB
           have HO_324000 := n0_
           have HO337 := n1_
           have BK313 := n2_
           have BK314 := n3_
           have BK323 := n4_
           have HB := n5_
           clear n0_ n1_ n2_ n3_ n4_ n5_
           (try clear hb)
           (try clear hb2)
           (try clear hk)
           (try clear hi)
           (try clear ho0)
           refine hK.out _ _ ⟨(blk_cell BK323.out 0).trans rfl, (blk_cell BK313.out 0).trans rfl⟩ (fun hHeld => ?_)
           clear hK K
           refine norm_ (a' := ?_) ?_ ?_
           rotate_left
           ·show Act.put _ (some 73) _ = _
            simp only [Act.put, List.setIfInBounds_toArray, List.set_cons_zero, List.set_cons_succ, i64_w, i32_w]
            rfl
           refine one_ (i := 5) (N := some 76) #[true, true, true, true, true, true, false, false] rfl rfl (one_of HT_.out (by kernel_rfl)) (by decide) (fun K hK => ?_)
           refine goes_ Try.func16 (by kernel_rfl) rfl #[.agg #[.slice A0_0 l0_0.length c0_0], .slice A2 l2.length c2] (by rfl) rfl rfl (by (try simp only [List.map_toArray, List.map_cons, List.map_nil]); first | done | rfl | (simp only [List.length_drop, List.length_take]; rfl)) ?_
           with_reducible refine (heap_Reach.calls k3 _ _ l0_0 _ _ l2 t338 _ ?side1 ?side2 ?side3 ?side4 A62.out).mono ?_
           (case side1 => repeat (first | exact (Kd.C_below HR0_0.out HB.out) | (with_reducible refine Kd.C_alloc ?_ _) | (with_reducible refine Kd.C_drewN ?_ _) | (with_reducible refine Kd.C_drew ?_)))
           (case side2 => exact HC0_0.out)
           (case side3 => repeat (first | exact (Kd.C_below HR2.out HB.out) | (with_reducible refine Kd.C_alloc ?_ _) | (with_reducible refine Kd.C_drewN ?_ _) | (with_reducible refine Kd.C_drew ?_)))
           (case side4 => exact HC2.out)
           rintro e w66 ⟨v339, rfl, ho0, hb⟩
           refine ⟨_, rfl, ?_⟩
           have n0_ := Aside0.mk (Kd.V_elder' (by (with_reducible repeat (first | apply Kd.V_alloc | apply Kd.V_drewN | apply Kd.V_drew)); exact HO_324000.out) (Kd.R_base ho0) hb)
           have n1_ := Aside0.mk (Kd.R_elder' (by (with_reducible repeat (first | apply Kd.R_alloc | apply Kd.R_drewN | apply Kd.R_drew)); exact HO337.out) (Kd.R_base ho0) hb)
           have n2_ := Aside0.mk (Kd.R_lower (Kd.R_new' ho0 (Kd.R_lt (by (with_reducible repeat (first | apply Kd.R_alloc | apply Kd.R_drewN | apply Kd.R_drew)); exact HO337.out))) (below_size (by repeat (first | (with_reducible first | exact HB.out | apply zq5 | apply zq4 | apply zq6 | refine below_set ?_ GE313.out | refine below_set ?_ GE314.out | refine below_set ?_ GE323.out) | exact HB.out))))
           have n3_ := Aside0.mk (blk_below (g := gb313) (o := .cells #[.slice A0_0 l0_0.length c0_0] 24 (0, 0)) (by (with_reducible repeat (first | refine zq1 ?_ _ | refine zq2 ?_ | refine zq3 ?_ _)); exact BK313.out) hb)
           have n4_ := Aside0.mk (blk_below (g := gb314) (o := .cells #[.int .u8 a1_0, .int .u8 a1_1] 37 (0, 0)) (by (with_reducible repeat (first | refine zq1 ?_ _ | refine zq2 ?_ | refine zq3 ?_ _)); exact BK314.out) hb)
           have n5_ := Aside0.mk (blk_below (g := gb323) (o := .cells #[.slice Ao33 t318.length co33] 24 (0, 0)) (by (with_reducible repeat (first | refine zq1 ?_ _ | refine zq2 ?_ | refine zq3 ?_ _)); exact BK323.out) hb)
           have n6_ := Aside0.mk (below_step (by repeat (first | (with_reducible first | exact HB.out | apply zq5 | apply zq4 | apply zq6 | refine below_set ?_ GE313.out | refine below_set ?_ GE314.out | refine below_set ?_ GE323.out) | exact HB.out)) hb)
           clear HO_324000
           clear HO337
           clear BK313
           clear BK314
           clear BK323
           clear HB
           have HO_324000 := n0_
           have HO337 := n1_
           have HO340 := n2_
           have BK313 := n3_
           have BK314 := n4_
           have BK323 := n5_
           have HB := n6_
           clear n0_ n1_ n2_ n3_ n4_ n5_ n6_
           (try clear hb)
           (try clear hb2)
           (try clear hk)
           (try clear hi)
           (try clear ho0)
           obtain ⟨Ao67, co67, eo67⟩ := Kd.R_slice HO337.out
           (first | subst eo67 | (injection eo67 with f1_ f2_ f3_; have f4_ := f1_.symm; have f5_ := f3_.symm; clear f1_ f2_ f3_; subst f4_; subst f5_))
           obtain ⟨Ao68, co68, eo68⟩ := Kd.R_slice HO340.out
           (first | subst eo68 | (injection eo68 with f1_ f2_ f3_; have f4_ := f1_.symm; have f5_ := f3_.symm; clear f1_ f2_ f3_; subst f4_; subst f5_))
           refine hK.out _ _ ⟨(blk_cell BK323.out 0).trans rfl, (blk_cell BK313.out 0).trans rfl⟩ (fun hHeld => ?_)
           clear hK K
           refine norm_ (a' := ?_) ?_ ?_
           rotate_left
           ·show Act.put _ (some 76) _ = _
            simp only [Act.put, List.setIfInBounds_toArray, List.set_cons_zero, List.set_cons_succ, i64_w, i32_w]
            rfl
           refine one_ (i := 6) (N := some 77) #[true, true, true, true, true, true, true, false] rfl rfl (one_of HT_.out (by kernel_rfl)) (by decide) (fun K hK => ?_)
           refine goes_ Try.func15 (by kernel_rfl) rfl #[.slice Ao67 t335.length co67, .slice Ao68 t338.length co68] (by rfl) rfl rfl (by (try simp only [List.map_toArray, List.map_cons, List.map_nil]); first | done | rfl | (simp only [List.length_drop, List.length_take]; rfl)) ?_
           with_reducible refine (portolanref01_Ints.calls k3 _ _ t335 _ _ t338 t341 _ ?side1 ?side2 ?side3 ?side4 A63.out).mono ?_
           (case side1 => repeat (first | exact (Kd.R_reads' HO337.out).2.2 | (with_reducible refine Kd.C_alloc ?_ _) | (with_reducible refine Kd.C_drewN ?_ _) | (with_reducible refine Kd.C_drew ?_)))
           (case side2 => exact (Kd.R_reads' HO337.out).2.1)
           (case side3 => repeat (first | exact (Kd.R_reads' HO340.out).2.2 | (with_reducible refine Kd.C_alloc ?_ _) | (with_reducible refine Kd.C_drewN ?_ _) | (with_reducible refine Kd.C_drew ?_)))
           (case side4 => exact (Kd.R_reads' HO340.out).2.1)
           rintro e w' ⟨rfl, ⟨nd, rfl⟩⟩
           refine ⟨_, rfl, ?_⟩
           refine hK.out _ _ ⟨(blk_cell BK323.out 0).trans rfl, (blk_cell BK313.out 0).trans rfl⟩ (fun hHeld => ?_)
           clear hK K
           refine norm_ (a' := ?_) ?_ ?_
           rotate_left
           ·show Act.put _ (some 77) _ = _
            simp only [Act.put, List.setIfInBounds_toArray, List.set_cons_zero, List.set_cons_succ, i64_w, i32_w]
            rfl
           refine pure_ (i := 7) (N := some 6) (v := ?_) (a' := ?_) #[true, true, true, true, true, true, true, true] rfl rfl (any_of HT_.out (by kernel_rfl)) (fun _ _ _ h => h) (Or.inl ⟨by rfl, ?_⟩) ?_ ?_
           rotate_left
           ·intro w'
            go_simp
            with_reducible rfl
           rotate_left
           ·simp only [Act.put, List.setIfInBounds_toArray, List.set_cons_zero, List.set_cons_succ, i64_w, i32_w]
            rfl
           refine done_ (done_of HT_.out (by kernel_rfl)) ?_
           try go_wp2
           go_ret
           obtain rfl := HXL.out
           exact ⟨by first | rfl | (simp [errW_none, errW_some] <;> rfl) | (simp [*, errW_none, errW_some] <;> rfl), by repeat (first | (with_reducible first | exact HB.out | apply zq5 | apply zq4 | apply zq6 | refine below_set ?_ GE313.out | refine below_set ?_ GE314.out | refine below_set ?_ GE323.out) | exact HB.out)⟩
 ·replace c5 := Bool.eq_false_iff.mpr c5
  subst c5
  have H1 : (some false) = some true := by first | (rw [if_neg (show ¬ (false = true) by decide)] at H; exact H) | rfl
  clear H
  have H := H1
  clear H1
  exact absurd (Option.some.inj H) (by decide)

/-! ### api_Obj_42: function 42 -/
def api_Obj_42.f (l0 : List (S47)) : Option ((List (S47))) := if l0.length ≤ 2932031007402 then some l0 else none
set_option maxHeartbeats 8000000 in
set_option maxRecDepth 100000 in
theorem api_Obj_42.calls (P0_ : Nat → Prop) (A0 : Option Addr) (c0 : Nat) (l0 : List (S47)) (r : List (S47)) (w : World) (hs0 : Kd.V k47 47 w w.heap.size (fun k_ => P0_ k_) (.slice A0 l0.length c0) l0) (h : api_Obj_42.f l0 = some r) :
  Calls Try.prog 42 #[.slice A0 l0.length c0] w fun e w' => ∃ v0_ : Value, e = .returned (v0_) ∧ Kd.N k47 47 w' w.heap.size (fun k_ => (P0_ k_ ∨ w.heap.size ≤ k_)) v0_ r ∧ Below w.heap.size w w' := by
 have h' : (if l0.length ≤ 2932031007402 then some l0 else none) = some r := h
 clear h
 by_cases hl : l0.length ≤ 2932031007402
 ·rw [if_pos hl] at h'
  obtain rfl := Option.some.inj h'
  exact H.clone42_any P0_ A0 c0 l0 w hs0 hl
 ·rw [if_neg hl] at h'
  cases h'

/-! ### heap_put: function 36 -/
def heap_put.f (l0_0 : List (S47)) (a1 : Int) (l2_0 : List Int) (l2_1 : List Int) : Option ((List (S47))) := (api_Obj_42.f l0_0).bind fun t349 => (if 0 ≤ (wrap64 (a1 - 1)) then (if (wrap64 (a1 - 1)) < (t349.length : Int) then (some (t349.set ((wrap64 (a1 - 1)) : Int).toNat (⟨l2_0, l2_1⟩ : S47))) else (none)) else (none))
set_option maxHeartbeats 8000000 in
set_option maxRecDepth 100000 in
theorem heap_put.calls (P0_0_ : Nat → Prop) (A0_0 : Option Addr) (c0_0 : Nat) (l0_0 : List (S47)) (a1 : Int) (P2_0_ : Nat → Prop) (A2_0 : Option Addr) (c2_0 : Nat) (l2_0 : List Int) (P2_1_ : Nat → Prop) (A2_1 : Option Addr) (c2_1 : Nat) (l2_1 : List Int) (r : List (S47)) (w : World) (hs0_0 : Kd.V k47 47 w w.heap.size (fun k_ => P0_0_ k_) (.slice A0_0 l0_0.length c0_0) l0_0) (hs2_0 : Kd.V (Kd.int .i64) 3 w w.heap.size (fun k_ => P2_0_ k_) (.slice A2_0 l2_0.length c2_0) l2_0) (hs2_1 : Kd.V (Kd.int .i64) 3 w w.heap.size (fun k_ => P2_1_ k_) (.slice A2_1 l2_1.length c2_1) l2_1) (h : heap_put.f l0_0 a1 l2_0 l2_1 = some r) :
  Calls Try.prog 36 #[.agg #[.slice A0_0 l0_0.length c0_0], .int .i64 a1, .agg #[.slice A2_0 l2_0.length c2_0, .slice A2_1 l2_1.length c2_1]] w fun e w' => ∃ v0_ : Value, e = .returned (.agg #[v0_]) ∧ Kd.N k47 47 w' w.heap.size (fun k_ => ((P0_0_ k_ ∨ P2_0_ k_ ∨ P2_1_ k_) ∨ w.heap.size ≤ k_)) v0_ r ∧ Below w.heap.size w w' := by
 have hu24 := Try.underlying24
 have hu47 := Try.underlying47
 have HO0_0 := Aside0.mk (show Kd.V k47 47 w w.heap.size (fun k_ => ((P0_0_ k_ ∨ P2_0_ k_ ∨ P2_1_ k_) ∨ w.heap.size ≤ k_)) (.slice A0_0 l0_0.length c0_0) l0_0 from Kd.V_mono hs0_0 (fun k_ hk => .inl (.inl hk)))
 have HO2_0 := Aside0.mk (show Kd.V (Kd.int .i64) 3 w w.heap.size (fun k_ => ((P0_0_ k_ ∨ P2_0_ k_ ∨ P2_1_ k_) ∨ w.heap.size ≤ k_)) (.slice A2_0 l2_0.length c2_0) l2_0 from Kd.V_mono hs2_0 (fun k_ hk => .inl (.inr (.inl hk))))
 have HO2_1 := Aside0.mk (show Kd.V (Kd.int .i64) 3 w w.heap.size (fun k_ => ((P0_0_ k_ ∨ P2_0_ k_ ∨ P2_1_ k_) ∨ w.heap.size ≤ k_)) (.slice A2_1 l2_1.length c2_1) l2_1 from Kd.V_mono hs2_1 (fun k_ hk => .inl (.inr (.inr hk))))
 have HB := Aside0.mk (Below.refl w.heap.size w)
 have H : ((api_Obj_42.f l0_0).bind fun t349 => (if 0 ≤ (wrap64 (a1 - 1)) then (if (wrap64 (a1 - 1)) < (t349.length : Int) then (some (t349.set ((wrap64 (a1 - 1)) : Int).toNat (⟨l2_0, l2_1⟩ : S47))) else (none)) else (none))) = some r := h
 clear h
 replace H := Option.bind_eq_some_iff.mp H
 obtain ⟨t349, A40, H⟩ := H
 replace H : (if 0 ≤ (wrap64 (a1 - 1)) then (if (wrap64 (a1 - 1)) < (t349.length : Int) then (some (t349.set ((wrap64 (a1 - 1)) : Int).toNat (⟨l2_0, l2_1⟩ : S47))) else (none)) else (none)) = some r := H
 have A4 := Aside0.mk A40
 clear A40
 obtain ⟨ji5, hji5⟩ : ∃ j_ : Int, (wrap64 (a1 - 1)) = j_ := ⟨_, rfl⟩
 replace H : (if 0 ≤ (ji5) then (if (ji5) < (t349.length : Int) then (some (t349.set ((ji5) : Int).toNat (⟨l2_0, l2_1⟩ : S47))) else (none)) else (none)) = some r := by first | (rw [hji5] at H; exact H) | (simp only [hji5] at H ⊢; exact H)
 (try rw [hji5] at A4)
 have hji5w : (IntKind.i64.wrap (a1 - 1)) = ji5 := (i64_w _).trans hji5
 by_cases c6 : 0 ≤ (ji5)
 ·rw [if_pos c6] at H
  have c6b0 : decide (0 ≤ (ji5)) = true := decide_eq_true c6
  clear c6
  by_cases c7 : (ji5) < (t349.length : Int)
  ·rw [if_pos c7] at H
   have c7b0 : decide ((ji5) < (t349.length : Int)) = true := decide_eq_true c7
   clear c7
   obtain ⟨y352, hy352⟩ : ∃ y_ : List (S47), y_ = (t349.set ((ji5) : Int).toNat (⟨l2_0, l2_1⟩ : S47)) := ⟨_, rfl⟩
   replace H : (some y352) = some r := by first | (rw [hy352]; with_reducible exact H) | (have H2_ := (Option.bind_some _ _).symm.trans H; rw [hy352]; with_reducible exact H2_) | (have H2_ := (Option.bind_some _ _).symm.trans H; with_reducible exact H2_) | with_reducible exact H | (rw [hy352]; exact H) | exact H
   have Ny352 := Aside0.mk hy352
   clear hy352
   obtain rfl := Option.some.inj H
   go_enter Try.func36, Try.ntmps36
   go_wp2_with (first | ((with_reducible refine gate_dst (N := 3) rfl ?_); refine box_event ?hg (N := 3) ?hd (cs := #[.slice A0_0 l0_0.length c0_0]) (t := 24) ?hr ?_; (case hd => rfl); (case hg => rfl); (case hr => first | (go_simp; done) | (go_simp; rfl)); intro gb346 hg w9 hbox hb; have n0_ := Aside0.mk (Kd.V_below (Kd.V_elderB (by (with_reducible repeat (first | apply Kd.V_alloc | apply Kd.V_drewN | apply Kd.V_drew)); exact HO0_0.out) gb346 (Nat.le_of_eq hg.symm)) hb); have n1_ := Aside0.mk (Kd.V_below (Kd.V_elderB (by (with_reducible repeat (first | apply Kd.V_alloc | apply Kd.V_drewN | apply Kd.V_drew)); exact HO2_0.out) gb346 (Nat.le_of_eq hg.symm)) hb); have n2_ := Aside0.mk (Kd.V_below (Kd.V_elderB (by (with_reducible repeat (first | apply Kd.V_alloc | apply Kd.V_drewN | apply Kd.V_drew)); exact HO2_1.out) gb346 (Nat.le_of_eq hg.symm)) hb); have n3_ := Aside0.mk (below_step (by repeat (first | (with_reducible first | exact HB.out | apply zq5 | apply zq4 | apply zq6) | exact HB.out)) hb); have n4_ := Aside0.mk (hbox); have n5_ := Aside0.mk ((by rw [hg]; exact (below_size (by repeat (first | (with_reducible first | exact HB.out | apply zq5 | apply zq4 | apply zq6) | exact HB.out))) : w.heap.size ≤ gb346)); have n6_ := Aside0.mk ((by rw [hg]; exact (below_size (by repeat (first | (with_reducible first | exact HB.out | apply zq5 | apply zq4 | apply zq6) | exact HB.out))) : w.heap.size ≤ gb346)); clear HO0_0; clear HO2_0; clear HO2_1; clear HB; have HO0_0 := n0_; have HO2_0 := n1_; have HO2_1 := n2_; have HB := n3_; have BK346 := n4_; have GW346 := n5_; have GE346 := n6_; clear n0_ n1_ n2_ n3_ n4_ n5_ n6_; clear hb hbox hg) | ((with_reducible refine gate_dst (N := 5) rfl ?_); refine box_event ?hg (N := 5) ?hd (cs := #[.slice A2_0 l2_0.length c2_0, .slice A2_1 l2_1.length c2_1]) (t := 47) ?hr ?_; (case hd => rfl); (case hg => rfl); (case hr => first | (go_simp; done) | (go_simp; rfl)); intro gb347 hg w10 hbox hb; have n0_ := Aside0.mk (Kd.V_below (Kd.V_elderB (by (with_reducible repeat (first | apply Kd.V_alloc | apply Kd.V_drewN | apply Kd.V_drew)); exact HO0_0.out) gb347 (Nat.le_of_eq hg.symm)) hb); have n1_ := Aside0.mk (Kd.V_below (Kd.V_elderB (by (with_reducible repeat (first | apply Kd.V_alloc | apply Kd.V_drewN | apply Kd.V_drew)); exact HO2_0.out) gb347 (Nat.le_of_eq hg.symm)) hb); have n2_ := Aside0.mk (Kd.V_below (Kd.V_elderB (by (with_reducible repeat (first | apply Kd.V_alloc | apply Kd.V_drewN | apply Kd.V_drew)); exact HO2_1.out) gb347 (Nat.le_of_eq hg.symm)) hb); have n3_ := Aside0.mk (blk_below (g := gb346) (o := .cells #[.slice A0_0 l0_0.length c0_0] 24 (0, 0)) (by (with_reducible repeat (first | refine zq1 ?_ _ | refine zq2 ?_ | refine zq3 ?_ _)); exact BK346.out) hb); have n4_ := Aside0.mk (below_step (by repeat (first | (with_reducible first | exact HB.out | apply zq5 | apply zq4 | apply zq6 | refine below_set ?_ GE346.out) | exact HB.out)) hb); have n5_ := Aside0.mk (hbox); have n6_ := Aside0.mk ((by rw [hg]; exact (below_size (by repeat (first | (with_reducible first | exact HB.out | apply zq5 | apply zq4 | apply zq6 | refine below_set ?_ GE346.out) | exact HB.out))) : w.heap.size ≤ gb347)); have n7_ := Aside0.mk ((by rw [hg]; exact (below_size (by repeat (first | (with_reducible first | exact HB.out | apply zq5 | apply zq4 | apply zq6 | refine below_set ?_ GE346.out) | exact HB.out))) : w.heap.size ≤ gb347)); have n8_ := Aside0.mk ((by rw [hg]; exact Nat.ne_of_lt (blk_lt (g := gb346) (o := .cells #[.slice A0_0 l0_0.length c0_0] 24 (0, 0)) (by (with_reducible repeat (first | refine zq1 ?_ _ | refine zq2 ?_ | refine zq3 ?_ _)); exact BK346.out)) : gb346 ≠ gb347)); have n9_ := Aside0.mk ((by rw [hg]; exact Nat.ne_of_gt (blk_lt (g := gb346) (o := .cells #[.slice A0_0 l0_0.length c0_0] 24 (0, 0)) (by (with_reducible repeat (first | refine zq1 ?_ _ | refine zq2 ?_ | refine zq3 ?_ _)); exact BK346.out)) : gb347 ≠ gb346)); clear HO0_0; clear HO2_0; clear HO2_1; clear BK346; clear HB; have HO0_0 := n0_; have HO2_0 := n1_; have HO2_1 := n2_; have BK346 := n3_; have HB := n4_; have BK347 := n5_; have GW347 := n6_; have GE347 := n7_; have NB346_347 := n8_; have NB347_346 := n9_; clear n0_ n1_ n2_ n3_ n4_ n5_ n6_ n7_ n8_ n9_; clear hb hbox hg) | ((with_reducible refine gate_dst (N := 6) rfl ?_); refine box_event ?hg (N := 6) ?hd (cs := #[.slice none 0 0]) (t := 24) ?hr ?_; (case hd => rfl); (case hg => rfl); (case hr => first | (go_simp; done) | (go_simp; rfl)); intro gb348 hg w11 hbox hb; have n0_ := Aside0.mk (Kd.V_below (Kd.V_elderB (by (with_reducible repeat (first | apply Kd.V_alloc | apply Kd.V_drewN | apply Kd.V_drew)); exact HO0_0.out) gb348 (Nat.le_of_eq hg.symm)) hb); have n1_ := Aside0.mk (Kd.V_below (Kd.V_elderB (by (with_reducible repeat (first | apply Kd.V_alloc | apply Kd.V_drewN | apply Kd.V_drew)); exact HO2_0.out) gb348 (Nat.le_of_eq hg.symm)) hb); have n2_ := Aside0.mk (Kd.V_below (Kd.V_elderB (by (with_reducible repeat (first | apply Kd.V_alloc | apply Kd.V_drewN | apply Kd.V_drew)); exact HO2_1.out) gb348 (Nat.le_of_eq hg.symm)) hb); have n3_ := Aside0.mk (blk_below (g := gb346) (o := .cells #[.slice A0_0 l0_0.length c0_0] 24 (0, 0)) (by (with_reducible repeat (first | refine zq1 ?_ _ | refine zq2 ?_ | refine zq3 ?_ _)); exact BK346.out) hb); have n4_ := Aside0.mk (blk_below (g := gb347) (o := .cells #[.slice A2_0 l2_0.length c2_0, .slice A2_1 l2_1.length c2_1] 47 (0, 0)) (by (with_reducible repeat (first | refine zq1 ?_ _ | refine zq2 ?_ | refine zq3 ?_ _)); exact BK347.out) hb); have n5_ := Aside0.mk (below_step (by repeat (first | (with_reducible first | exact HB.out | apply zq5 | apply zq4 | apply zq6 | refine below_set ?_ GE346.out | refine below_set ?_ GE347.out) | exact HB.out)) hb); have n6_ := Aside0.mk (hbox); have n7_ := Aside0.mk ((by rw [hg]; exact (below_size (by repeat (first | (with_reducible first | exact HB.out | apply zq5 | apply zq4 | apply zq6 | refine below_set ?_ GE346.out | refine below_set ?_ GE347.out) | exact HB.out))) : w.heap.size ≤ gb348)); have n8_ := Aside0.mk ((by rw [hg]; exact (below_size (by repeat (first | (with_reducible first | exact HB.out | apply zq5 | apply zq4 | apply zq6 | refine below_set ?_ GE346.out | refine below_set ?_ GE347.out) | exact HB.out))) : w.heap.size ≤ gb348)); have n9_ := Aside0.mk ((by rw [hg]; exact Nat.ne_of_lt (blk_lt (g := gb346) (o := .cells #[.slice A0_0 l0_0.length c0_0] 24 (0, 0)) (by (with_reducible repeat (first | refine zq1 ?_ _ | refine zq2 ?_ | refine zq3 ?_ _)); exact BK346.out)) : gb346 ≠ gb348)); have n10_ := Aside0.mk ((by rw [hg]; exact Nat.ne_of_gt (blk_lt (g := gb346) (o := .cells #[.slice A0_0 l0_0.length c0_0] 24 (0, 0)) (by (with_reducible repeat (first | refine zq1 ?_ _ | refine zq2 ?_ | refine zq3 ?_ _)); exact BK346.out)) : gb348 ≠ gb346)); have n11_ := Aside0.mk ((by rw [hg]; exact Nat.ne_of_lt (blk_lt (g := gb347) (o := .cells #[.slice A2_0 l2_0.length c2_0, .slice A2_1 l2_1.length c2_1] 47 (0, 0)) (by (with_reducible repeat (first | refine zq1 ?_ _ | refine zq2 ?_ | refine zq3 ?_ _)); exact BK347.out)) : gb347 ≠ gb348)); have n12_ := Aside0.mk ((by rw [hg]; exact Nat.ne_of_gt (blk_lt (g := gb347) (o := .cells #[.slice A2_0 l2_0.length c2_0, .slice A2_1 l2_1.length c2_1] 47 (0, 0)) (by (with_reducible repeat (first | refine zq1 ?_ _ | refine zq2 ?_ | refine zq3 ?_ _)); exact BK347.out)) : gb348 ≠ gb347)); clear HO0_0; clear HO2_0; clear HO2_1; clear BK346; clear BK347; clear HB; have HO0_0 := n0_; have HO2_0 := n1_; have HO2_1 := n2_; have BK346 := n3_; have BK347 := n4_; have HB := n5_; have BK348 := n6_; have GW348 := n7_; have GE348 := n8_; have NB346_348 := n9_; have NB348_346 := n10_; have NB347_348 := n11_; have NB348_347 := n12_; clear n0_ n1_ n2_ n3_ n4_ n5_ n6_ n7_ n8_ n9_ n10_ n11_ n12_; clear hb hbox hg; have hnb12 := NB346_347.out; have hnc12 := NB347_346.out; have hnb13 := NB346_348.out; have hnc13 := NB348_346.out; have hcz14_0 : w11.cell? ⟨gb346, 0, none⟩ = some (.slice A0_0 l0_0.length c0_0) := (blk_cell BK346.out 0).trans rfl; have hfz14_0 := blk_frozen BK346.out 0) | ((with_reducible refine gate_callee (f := 42) rfl ?_); refine goesL_ (some 9) rfl rfl Try.func42 (by kernel_rfl) rfl #[.slice A0_0 l0_0.length c0_0] rfl (by (try simp only [List.map_toArray, List.map_cons, List.map_nil]); first | done | rfl | (simp only [List.length_drop, List.length_take]; rfl)) ?_; (with_reducible refine (api_Obj_42.calls (fun k_ => (((((P0_0_ k_ ∨ P2_0_ k_ ∨ P2_1_ k_) ∨ w.heap.size ≤ k_) ∧ k_ ≠ gb346) ∧ k_ ≠ gb347) ∧ k_ ≠ gb348)) _ _ l0_0 t349 _ ?side1 A4.out).mono ?_); (case side1 => exact HO0_0.out); rintro e w15 ⟨v350, rfl, ho0, hb⟩; refine ⟨_, rfl, ?_⟩; have n0_ := Aside0.mk (Kd.V_elder' (by (with_reducible repeat (first | apply Kd.V_alloc | apply Kd.V_drewN | apply Kd.V_drew)); exact HO0_0.out) (Kd.N_base ho0) hb); have n1_ := Aside0.mk (Kd.V_elder' (by (with_reducible repeat (first | apply Kd.V_alloc | apply Kd.V_drewN | apply Kd.V_drew)); exact HO2_0.out) (Kd.N_base ho0) hb); have n2_ := Aside0.mk (Kd.V_elder' (by (with_reducible repeat (first | apply Kd.V_alloc | apply Kd.V_drewN | apply Kd.V_drew)); exact HO2_1.out) (Kd.N_base ho0) hb); have n3_ := Aside0.mk (Kd.N_lower (Kd.N_mono (ok' := fun k_ => ((P0_0_ k_ ∨ P2_0_ k_ ∨ P2_1_ k_) ∨ w.heap.size ≤ k_) ∧ k_ ≠ gb346 ∧ k_ ≠ gb347 ∧ k_ ≠ gb348) ho0 (fun k_ hk_ => ⟨Or.elim hk_ (fun hs_ => hs_.1.1.1) (fun hn_ => (.inr (Nat.le_trans (below_size (by repeat (first | (with_reducible first | exact HB.out | apply zq5 | apply zq4 | apply zq6 | refine below_set ?_ GE346.out | refine below_set ?_ GE347.out | refine below_set ?_ GE348.out) | exact HB.out))) hn_))), Or.elim hk_ (fun hs_ => hs_.1.1.2) (fun hn_ => (Kd.freshB (g := gb346) (o := .cells #[.slice A0_0 l0_0.length c0_0] 24 (0, 0)) (by (with_reducible repeat (first | refine zq1 ?_ _ | refine zq2 ?_ | refine zq3 ?_ _)); exact BK346.out) k_ hn_)), Or.elim hk_ (fun hs_ => hs_.1.2) (fun hn_ => (Kd.freshB (g := gb347) (o := .cells #[.slice A2_0 l2_0.length c2_0, .slice A2_1 l2_1.length c2_1] 47 (0, 0)) (by (with_reducible repeat (first | refine zq1 ?_ _ | refine zq2 ?_ | refine zq3 ?_ _)); exact BK347.out) k_ hn_)), Or.elim hk_ (fun hs_ => hs_.2) (fun hn_ => (Kd.freshB (g := gb348) (o := .cells #[.slice none 0 0] 24 (0, 0)) (by (with_reducible repeat (first | refine zq1 ?_ _ | refine zq2 ?_ | refine zq3 ?_ _)); exact BK348.out) k_ hn_))⟩)) (below_size (by repeat (first | (with_reducible first | exact HB.out | apply zq5 | apply zq4 | apply zq6 | refine below_set ?_ GE346.out | refine below_set ?_ GE347.out | refine below_set ?_ GE348.out) | exact HB.out)))); have n4_ := Aside0.mk (blk_below (g := gb346) (o := .cells #[.slice A0_0 l0_0.length c0_0] 24 (0, 0)) (by (with_reducible repeat (first | refine zq1 ?_ _ | refine zq2 ?_ | refine zq3 ?_ _)); exact BK346.out) hb); have n5_ := Aside0.mk (blk_below (g := gb347) (o := .cells #[.slice A2_0 l2_0.length c2_0, .slice A2_1 l2_1.length c2_1] 47 (0, 0)) (by (with_reducible repeat (first | refine zq1 ?_ _ | refine zq2 ?_ | refine zq3 ?_ _)); exact BK347.out) hb); have n6_ := Aside0.mk (blk_below (g := gb348) (o := .cells #[.slice none 0 0] 24 (0, 0)) (by (with_reducible repeat (first | refine zq1 ?_ _ | refine zq2 ?_ | refine zq3 ?_ _)); exact BK348.out) hb); have n7_ := Aside0.mk (below_step (by repeat (first | (with_reducible first | exact HB.out | apply zq5 | apply zq4 | apply zq6 | refine below_set ?_ GE346.out | refine below_set ?_ GE347.out | refine below_set ?_ GE348.out) | exact HB.out)) hb); clear HO0_0; clear HO2_0; clear HO2_1; clear BK346; clear BK347; clear BK348; clear HB; have HO0_0 := n0_; have HO2_0 := n1_; have HO2_1 := n2_; have HO351 := n3_; have BK346 := n4_; have BK347 := n5_; have BK348 := n6_; have HB := n7_; clear n0_ n1_ n2_ n3_ n4_ n5_ n6_ n7_; (try clear hb); (try clear hb2); (try clear hk); (try clear hi); (try clear ho0); obtain ⟨Ao16, co16, eo16⟩ := Kd.N_slice HO351.out; subst eo16; have hcz17_0 : w15.cell? ⟨gb346, 0, none⟩ = some (.slice A0_0 l0_0.length c0_0) := (blk_cell BK346.out 0).trans rfl; have hfz17_0 := blk_frozen BK346.out 0) | ((with_reducible refine gate_store (t := 22) (p := 10) rfl ?_); refine store_event (t := 22) (p := 10) (v := ?vo_w18) (w1 := (w15.setCell ⟨gb346, 0, none⟩ (.slice Ao16 t349.length co16))) ?hg ?ho ?hn ?hr ?_; (case ho => rfl); (case hg => rfl); (case hn => rfl); (case hr => first | (go_simp; done) | (go_simp; rfl)); intro w18 hw; have n0_ : Aside0 (Kd.V k47 47 w18 w.heap.size (fun k_ => ((P0_0_ k_ ∨ P2_0_ k_ ∨ P2_1_ k_) ∨ w.heap.size ≤ k_) ∧ some k_ ≠ (.slice Ao16 t349.length co16 : Value).ownBlock ∧ k_ ≠ gb346 ∧ k_ ≠ gb347 ∧ k_ ≠ gb348) (.slice A0_0 l0_0.length c0_0) l0_0) := ⟨(by rw [hw]; exact (by (with_reducible repeat (first | apply Kd.V_alloc | apply Kd.V_drewN | apply Kd.V_drew)); exact Kd.V_mono (Kd.V_far (p := ⟨gb346, 0, none⟩) (Kd.V_mono HO0_0.out (fun k_ hk => (⟨hk, hk.1.1.1.2⟩ : _ ∧ k_ ≠ gb346))) (fun _ hk => hk.2) (.slice Ao16 t349.length co16)) (fun _ hk => ⟨hk.1.1.1.1.1, ⟨hk.1.2, ⟨hk.1.1.1.1.2, ⟨hk.1.1.1.2, hk.1.1.2⟩⟩⟩⟩)))⟩; have n1_ : Aside0 (Kd.V (Kd.int .i64) 3 w18 w.heap.size (fun k_ => ((P0_0_ k_ ∨ P2_0_ k_ ∨ P2_1_ k_) ∨ w.heap.size ≤ k_) ∧ some k_ ≠ (.slice Ao16 t349.length co16 : Value).ownBlock ∧ k_ ≠ gb346 ∧ k_ ≠ gb347 ∧ k_ ≠ gb348) (.slice A2_0 l2_0.length c2_0) l2_0) := ⟨(by rw [hw]; exact (by (with_reducible repeat (first | apply Kd.V_alloc | apply Kd.V_drewN | apply Kd.V_drew)); exact Kd.V_mono (Kd.V_far (p := ⟨gb346, 0, none⟩) (Kd.V_mono HO2_0.out (fun k_ hk => (⟨hk, hk.1.1.1.2⟩ : _ ∧ k_ ≠ gb346))) (fun _ hk => hk.2) (.slice Ao16 t349.length co16)) (fun _ hk => ⟨hk.1.1.1.1.1, ⟨hk.1.2, ⟨hk.1.1.1.1.2, ⟨hk.1.1.1.2, hk.1.1.2⟩⟩⟩⟩)))⟩; have n2_ : Aside0 (Kd.V (Kd.int .i64) 3 w18 w.heap.size (fun k_ => ((P0_0_ k_ ∨ P2_0_ k_ ∨ P2_1_ k_) ∨ w.heap.size ≤ k_) ∧ some k_ ≠ (.slice Ao16 t349.length co16 : Value).ownBlock ∧ k_ ≠ gb346 ∧ k_ ≠ gb347 ∧ k_ ≠ gb348) (.slice A2_1 l2_1.length c2_1) l2_1) := ⟨(by rw [hw]; exact (by (with_reducible repeat (first | apply Kd.V_alloc | apply Kd.V_drewN | apply Kd.V_drew)); exact Kd.V_mono (Kd.V_far (p := ⟨gb346, 0, none⟩) (Kd.V_mono HO2_1.out (fun k_ hk => (⟨hk, hk.1.1.1.2⟩ : _ ∧ k_ ≠ gb346))) (fun _ hk => hk.2) (.slice Ao16 t349.length co16)) (fun _ hk => ⟨hk.1.1.1.1.1, ⟨hk.1.2, ⟨hk.1.1.1.1.2, ⟨hk.1.1.1.2, hk.1.1.2⟩⟩⟩⟩)))⟩; have n3_ : Aside0 (Kd.N k47 47 w18 w.heap.size (fun k_ => ((P0_0_ k_ ∨ P2_0_ k_ ∨ P2_1_ k_) ∨ w.heap.size ≤ k_) ∧ k_ ≠ gb346 ∧ k_ ≠ gb347 ∧ k_ ≠ gb348) (.slice Ao16 t349.length co16) t349) := ⟨(by rw [hw]; exact (by (with_reducible repeat (first | apply Kd.N_alloc | apply Kd.N_drewN | apply Kd.N_drew)); exact Kd.N_mono (Kd.N_far (p := ⟨gb346, 0, none⟩) (Kd.N_mono HO351.out (fun k_ hk => (⟨hk, hk.2.1⟩ : _ ∧ k_ ≠ gb346))) (fun _ hk => hk.2) (.slice Ao16 t349.length co16)) (fun _ hk => ⟨hk.1.1, ⟨hk.1.2.1, ⟨hk.1.2.2.1, hk.1.2.2.2⟩⟩⟩)))⟩; have n4_ : Aside0 (w18.heap[gb346]? = some (.cells #[.slice Ao16 t349.length co16] 24 (0, 0))) := ⟨(by rw [hw]; exact (by (with_reducible repeat (first | refine zq1 ?_ _ | refine zq2 ?_ | refine zq3 ?_ _)); refine blk_put (cs := #[.slice A0_0 l0_0.length c0_0]) ?_ 0 _ rfl; (with_reducible repeat (first | refine zq1 ?_ _ | refine zq2 ?_ | refine zq3 ?_ _)); exact BK346.out))⟩; have n5_ : Aside0 (w18.heap[gb347]? = some (.cells #[.slice A2_0 l2_0.length c2_0, .slice A2_1 l2_1.length c2_1] 47 (0, 0))) := ⟨(by rw [hw]; exact (by (with_reducible repeat (first | refine zq1 ?_ _ | refine zq2 ?_ | refine zq3 ?_ _)); refine blk_far ?_ NB347_346.out _; (with_reducible repeat (first | refine zq1 ?_ _ | refine zq2 ?_ | refine zq3 ?_ _)); exact BK347.out))⟩; have n6_ : Aside0 (w18.heap[gb348]? = some (.cells #[.slice none 0 0] 24 (0, 0))) := ⟨(by rw [hw]; exact (by (with_reducible repeat (first | refine zq1 ?_ _ | refine zq2 ?_ | refine zq3 ?_ _)); refine blk_far ?_ NB348_346.out _; (with_reducible repeat (first | refine zq1 ?_ _ | refine zq2 ?_ | refine zq3 ?_ _)); exact BK348.out))⟩; have n7_ : Aside0 (Below w.heap.size w w18) := ⟨(by rw [hw]; exact (by repeat (first | (with_reducible first | exact HB.out | apply zq5 | apply zq4 | apply zq6 | refine below_set ?_ GE346.out | refine below_set ?_ GE347.out | refine below_set ?_ GE348.out) | exact HB.out)))⟩; clear hw; clear HO0_0; clear HO2_0; clear HO2_1; clear HO351; clear BK346; clear BK347; clear BK348; clear HB; have HO0_0 := n0_; have HO2_0 := n1_; have HO2_1 := n2_; have HO351 := n3_; have BK346 := n4_; have BK347 := n5_; have BK348 := n6_; have HB := n7_; clear n0_ n1_ n2_ n3_ n4_ n5_ n6_ n7_; have hcz19_0 : w18.cell? ⟨gb346, 0, none⟩ = some (.slice Ao16 t349.length co16) := (blk_cell BK346.out 0).trans rfl; have hfz19_0 := blk_frozen BK346.out 0; have hnb20 := NB347_348.out; have hnc20 := NB348_347.out; have hcz21_0 : w18.cell? ⟨gb347, 0, none⟩ = some (.slice A2_0 l2_0.length c2_0) := (blk_cell BK347.out 0).trans rfl; have hcz21_1 : w18.cell? ⟨gb347, 1, none⟩ = some (.slice A2_1 l2_1.length c2_1) := (blk_cell BK347.out 1).trans rfl; have hfz21_0 := blk_frozen BK347.out 0; have hfz21_1 := blk_frozen BK347.out 1; have p8 : 0 ≤ ((ji5) : Int) := of_decide_eq_true (by first | (with_reducible assumption) | assumption); have q8 : ((ji5) : Int) < ((t349.length : Int) : Int) := of_decide_eq_true (by first | (with_reducible assumption) | assumption); obtain ⟨go8, co8, eo8, gb8, gl8, cl8, HG8⟩ := Kd.N_form HO351.out (by omega); (first | cases eo8 | (injection eo8 with ea_ en_ ec_; (first | subst ea_ | (injection ea_ with ea_; subst ea_)); subst ec_; clear en_)); have GB8 := Aside0.mk gb8; have GG8 := Aside0.mk HG8; clear gb8 gl8 HG8; obtain ⟨ce8, hcl8, hM8, hcc8, hfr8⟩ := Kd.N_elem HO351.out z47 ((ji5) : Int) p8 q8; obtain ⟨ua8_0, uc8_0, ua8_1, uc8_1, rfl, ul8_0, ge8_0, ul8_1, ge8_1⟩ := k47_openF hM8; have hx8_0 : w18.cell? ⟨go8, ((ji5) : Int).toNat * 2, none⟩ = some (.slice ua8_0 ((rd_T47 t349 (ji5)).f0).length uc8_0) := hcc8 0 _ rfl; have hx8_1 : w18.cell? ⟨go8, ((ji5) : Int).toNat * 2 + 1, none⟩ = some (.slice ua8_1 ((rd_T47 t349 (ji5)).f1).length uc8_1) := hcc8 1 _ rfl; have hf8_0 : w18.frozen? ⟨go8, ((ji5) : Int).toNat * 2, none⟩ = false := hfr8 0; have hf8_1 : w18.frozen? ⟨go8, ((ji5) : Int).toNat * 2 + 1, none⟩ = false := hfr8 1; clear hcl8 hcc8 hfr8 hM8; replace p8 := eq_true p8; replace q8 := eq_true q8; have HX22 := Aside0.mk (show Kd.N k47 47 w18 w.heap.size (fun k_ => ((P0_0_ k_ ∨ P2_0_ k_ ∨ P2_1_ k_) ∨ w.heap.size ≤ k_) ∧ k_ ≠ gb346 ∧ k_ ≠ gb347 ∧ k_ ≠ gb348) (.slice (some ⟨go8, 0, none⟩) t349.length co16) t349 from (by (with_reducible repeat (first | apply Kd.N_alloc | apply Kd.N_drewN | apply Kd.N_drew)); exact HO351.out)); obtain ⟨ce22, hcl22, hM22, hcc22, hfr22⟩ := Kd.N_elem HX22.out z47 ((ji5) : Int) (of_decide_eq_true (by first | (with_reducible assumption) | assumption)) (by have h_ : ((ji5) : Int) < ((t349.length : Int) : Int) := of_decide_eq_true (by first | (with_reducible assumption) | assumption); first | exact h_ | (have e_ := (Kd.N_reads' HO351.out).1; omega) | simpa using h_); obtain ⟨ua22_0, uc22_0, ua22_1, uc22_1, rfl, ul22_0, ge22_0, ul22_1, ge22_1⟩ := k47_openF hM22; have HP22 := Kd.N_seg HX22.out ((ji5) : Int) (of_decide_eq_true (by first | (with_reducible assumption) | assumption)) (by have h_ : ((ji5) : Int) < ((t349.length : Int) : Int) := of_decide_eq_true (by first | (with_reducible assumption) | assumption); first | exact h_ | (have e_ := (Kd.N_reads' HO351.out).1; omega) | simpa using h_) (seg := [.slice A2_0 l2_0.length c2_0, .slice A2_1 l2_1.length c2_1]) (j := 0) hcl22 hcc22 (show 2 ≤ 2 from by decide) (x' := (⟨l2_0, l2_1⟩ : S47)) (k47_mkF _ _ (⟨l2_0, l2_1⟩ : S47) (Kd.V_reads' (Kd.V_mono (ok' := (fun k_ => ((fun k_ => ((P0_0_ k_ ∨ P2_0_ k_ ∨ P2_1_ k_) ∨ w.heap.size ≤ k_) ∧ k_ ≠ gb346 ∧ k_ ≠ gb347 ∧ k_ ≠ gb348)) k_ ∧ k_ ≠ go8)) (HO2_0.out) (fun k_ hk => ⟨⟨hk.1, ⟨hk.2.2.1, ⟨hk.2.2.2.1, hk.2.2.2.2⟩⟩⟩, fun e_ => (hk.2.1) (by rw [e_]; rfl)⟩))).2.1 (Kd.V_F (Kd.V_mono (ok' := (fun k_ => ((fun k_ => ((P0_0_ k_ ∨ P2_0_ k_ ∨ P2_1_ k_) ∨ w.heap.size ≤ k_) ∧ k_ ≠ gb346 ∧ k_ ≠ gb347 ∧ k_ ≠ gb348)) k_ ∧ k_ ≠ go8)) (HO2_0.out) (fun k_ hk => ⟨⟨hk.1, ⟨hk.2.2.1, ⟨hk.2.2.2.1, hk.2.2.2.2⟩⟩⟩, fun e_ => (hk.2.1) (by rw [e_]; rfl)⟩))) (Kd.V_reads' (Kd.V_mono (ok' := (fun k_ => ((fun k_ => ((P0_0_ k_ ∨ P2_0_ k_ ∨ P2_1_ k_) ∨ w.heap.size ≤ k_) ∧ k_ ≠ gb346 ∧ k_ ≠ gb347 ∧ k_ ≠ gb348)) k_ ∧ k_ ≠ go8)) (HO2_1.out) (fun k_ hk => ⟨⟨hk.1, ⟨hk.2.2.1, ⟨hk.2.2.2.1, hk.2.2.2.2⟩⟩⟩, fun e_ => (hk.2.1) (by rw [e_]; rfl)⟩))).2.1 (Kd.V_F (Kd.V_mono (ok' := (fun k_ => ((fun k_ => ((P0_0_ k_ ∨ P2_0_ k_ ∨ P2_1_ k_) ∨ w.heap.size ≤ k_) ∧ k_ ≠ gb346 ∧ k_ ≠ gb347 ∧ k_ ≠ gb348)) k_ ∧ k_ ≠ go8)) (HO2_1.out) (fun k_ hk => ⟨⟨hk.1, ⟨hk.2.2.1, ⟨hk.2.2.2.1, hk.2.2.2.2⟩⟩⟩, fun e_ => (hk.2.1) (by rw [e_]; rfl)⟩)))) (fun _ hk => hk); have hx22_0 := hcc22 0 _ rfl; (try simp only [show (k47).sz = 2 from rfl, Nat.mul_one, Nat.add_zero] at hx22_0); have hf22_0 := hfr22 0; (try simp only [show (k47).sz = 2 from rfl, Nat.mul_one, Nat.add_zero] at hf22_0); have hx22_1 := hcc22 1 _ rfl; (try simp only [show (k47).sz = 2 from rfl, Nat.mul_one, Nat.add_zero] at hx22_1); have hf22_1 := hfr22 1; (try simp only [show (k47).sz = 2 from rfl, Nat.mul_one, Nat.add_zero] at hf22_1); clear hcl22 hcc22 hfr22 hM22) | ((with_reducible refine gate_store (t := 47) (p := 16) rfl ?_); refine store_event (t := 47) (p := 16) (v := ?vo_w23) (w1 := ((w18.setCell ⟨go8, ((ji5) : Int).toNat * 2, none⟩ (.slice A2_0 l2_0.length c2_0)).setCell ⟨go8, ((ji5) : Int).toNat * 2 + 1, none⟩ (.slice A2_1 l2_1.length c2_1))) ?hg ?ho ?hn ?hr ?_; (case ho => rfl); (case hg => rfl); (case hn => rfl); (case hr => first | (go_simp; done) | (go_simp; rfl)); intro w23 hw; have hg : w18.grownBy w23 (some go8) := (by rw [hw]; exact HP22.2); have hp_ : Kd.N k47 47 w23 w.heap.size (fun k_ => ((P0_0_ k_ ∨ P2_0_ k_ ∨ P2_1_ k_) ∨ w.heap.size ≤ k_) ∧ k_ ≠ gb346 ∧ k_ ≠ gb347 ∧ k_ ≠ gb348) (.slice (some ⟨go8, 0, none⟩) t349.length co16) y352 := (by rw [hw, Ny352.out]; exact HP22.1); clear HP22; have n0_ := Aside0.mk (Kd.V_afterv (v := (.slice (some ⟨go8, 0, none⟩) t349.length co16)) (v1 := (.slice (some ⟨go8, 0, none⟩) t349.length co16)) (ok := (fun k_ => ((P0_0_ k_ ∨ P2_0_ k_ ∨ P2_1_ k_) ∨ w.heap.size ≤ k_) ∧ k_ ≠ gb346 ∧ k_ ≠ gb347 ∧ k_ ≠ gb348)) (by (with_reducible repeat (first | apply Kd.V_alloc | apply Kd.V_drewN | apply Kd.V_drew)); exact Kd.V_mono HO0_0.out (fun _ hk => ⟨⟨hk.1, ⟨hk.2.2.1, ⟨hk.2.2.2.1, hk.2.2.2.2⟩⟩⟩, hk.2.1⟩)) hg (.inl rfl)); have n1_ := Aside0.mk (Kd.V_afterv (v := (.slice (some ⟨go8, 0, none⟩) t349.length co16)) (v1 := (.slice (some ⟨go8, 0, none⟩) t349.length co16)) (ok := (fun k_ => ((P0_0_ k_ ∨ P2_0_ k_ ∨ P2_1_ k_) ∨ w.heap.size ≤ k_) ∧ k_ ≠ gb346 ∧ k_ ≠ gb347 ∧ k_ ≠ gb348)) (by (with_reducible repeat (first | apply Kd.V_alloc | apply Kd.V_drewN | apply Kd.V_drew)); exact Kd.V_mono HO2_0.out (fun _ hk => ⟨⟨hk.1, ⟨hk.2.2.1, ⟨hk.2.2.2.1, hk.2.2.2.2⟩⟩⟩, hk.2.1⟩)) hg (.inl rfl)); have n2_ := Aside0.mk (Kd.V_afterv (v := (.slice (some ⟨go8, 0, none⟩) t349.length co16)) (v1 := (.slice (some ⟨go8, 0, none⟩) t349.length co16)) (ok := (fun k_ => ((P0_0_ k_ ∨ P2_0_ k_ ∨ P2_1_ k_) ∨ w.heap.size ≤ k_) ∧ k_ ≠ gb346 ∧ k_ ≠ gb347 ∧ k_ ≠ gb348)) (by (with_reducible repeat (first | apply Kd.V_alloc | apply Kd.V_drewN | apply Kd.V_drew)); exact Kd.V_mono HO2_1.out (fun _ hk => ⟨⟨hk.1, ⟨hk.2.2.1, ⟨hk.2.2.2.1, hk.2.2.2.2⟩⟩⟩, hk.2.1⟩)) hg (.inl rfl)); have n3_ := Aside0.mk (blk_grown (g := gb346) (o := .cells #[.slice (some ⟨go8, 0, none⟩) t349.length co16] 24 (0, 0)) (by (with_reducible repeat (first | refine zq1 ?_ _ | refine zq2 ?_ | refine zq3 ?_ _)); exact BK346.out) hg (Kd.N_ne HO351.out BK346.out (by decide))); have n4_ := Aside0.mk (blk_grown (g := gb347) (o := .cells #[.slice A2_0 l2_0.length c2_0, .slice A2_1 l2_1.length c2_1] 47 (0, 0)) (by (with_reducible repeat (first | refine zq1 ?_ _ | refine zq2 ?_ | refine zq3 ?_ _)); exact BK347.out) hg (Kd.N_away HO351.out (fun _ hk => hk.2.2.1))); have n5_ := Aside0.mk (blk_grown (g := gb348) (o := .cells #[.slice none 0 0] 24 (0, 0)) (by (with_reducible repeat (first | refine zq1 ?_ _ | refine zq2 ?_ | refine zq3 ?_ _)); exact BK348.out) hg (Kd.N_ne HO351.out BK348.out (by decide))); have n6_ := Aside0.mk (hp_); have n7_ := Aside0.mk ((by rw [hw]; exact below_set (below_set (HB.out) GB8.out) GB8.out : Below w.heap.size w w23)); clear HO0_0; clear HO2_0; clear HO2_1; clear BK346; clear BK347; clear BK348; clear HO351; clear HB; have HO0_0 := n0_; have HO2_0 := n1_; have HO2_1 := n2_; have BK346 := n3_; have BK347 := n4_; have BK348 := n5_; have HO351 := n6_; have HB := n7_; clear n0_ n1_ n2_ n3_ n4_ n5_ n6_ n7_; clear hg hw hp_; have hcz24_0 : w23.cell? ⟨gb346, 0, none⟩ = some (.slice (some ⟨go8, 0, none⟩) t349.length co16) := (blk_cell BK346.out 0).trans rfl; have hfz24_0 := blk_frozen BK346.out 0; have hcz25_0 : w23.cell? ⟨gb348, 0, none⟩ = some (.slice none 0 0) := (blk_cell BK348.out 0).trans rfl; have hfz25_0 := blk_frozen BK348.out 0))
   refine bodyPost_ret (results_cell_row rfl _ _ gb348 24 #[.slice (some ⟨go8, 0, none⟩) t349.length co16] (0, 0) _ rfl (by (with_reducible repeat (first | refine zq1 ?_ _ | refine zq2 ?_ | refine zq3 ?_ _)); refine blk_put (cs := #[.slice none 0 0]) ?_ 0 _ rfl; (with_reducible repeat (first | refine zq1 ?_ _ | refine zq2 ?_ | refine zq3 ?_ _)); exact BK348.out) Try.underlying24 rfl (by kernel_rfl)) rfl ?_
   exact ⟨_, by first | rfl | (simp [errW_none, errW_some] <;> rfl) | (simp only [← hji5]; first | rfl | (simp [errW_none, errW_some] <;> rfl)) | (simp [*, errW_none, errW_some] <;> rfl), by (with_reducible repeat (first | apply Kd.N_alloc | apply Kd.N_drewN | apply Kd.N_drew)); exact Kd.N_mono (Kd.N_far (p := ⟨gb348, 0, none⟩) (Kd.N_mono HO351.out (fun k_ hk => (⟨hk, hk.2.2.2⟩ : _ ∧ k_ ≠ gb348))) (fun _ hk => hk.2) (.slice (some ⟨go8, 0, none⟩) t349.length co16)) (fun _ hk => hk.1.1), by repeat (first | (with_reducible first | exact HB.out | apply zq5 | apply zq4 | apply zq6 | refine below_set ?_ GE346.out | refine below_set ?_ GE347.out | refine below_set ?_ GE348.out) | exact HB.out)⟩
  ·rw [if_neg c7] at H
   exact absurd H (by simp)
 ·rw [if_neg c6] at H
  exact absurd H (by simp)

end Go.Proofs.Ytfnpaacoijfbfaa.PX
